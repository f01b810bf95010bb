/- ProfileMemory: the tied card: for all inputs the law returns true, and its arguments read as they did. The listed variables hold what the program's text lays: that is tied by the given tie. -/
import Derived.Test.YthpjffhccjlnhaaGreatDoorProfileMemoryEndL
import Derived.Test.YthpjffhccjlnhaaGreatDoorProfileMemoryEndC
import Derived.Test.YthpjffhccjlnhaaGreatDoorProfileMemoryEndG
import Derived.Test.YthpjffhccjlnhaaGreatDoorProfileMemoryEndM
set_option linter.unusedSimpArgs false
set_option linter.unusedVariables false
namespace Go.Proofs.YthpjffhccjlnhaaGreatDoor.ProfileMemoryEnd
open Go.ChangeShapes Go.WideShapes Go.ChangeAt Go.RowKit
theorem over : Rows.profileMemoryRow.holds Tryz.pinned (OpenSpec.ofChange Rows.profileMemorySpec) :=
 OpenClaim.holds_of_wide 16 Tryz.f16 rfl rfl rfl rfl rfl rfl rfl ⟨rfl, rfl, rfl, rfl, rfl⟩ rfl rfl rfl rfl rfl (by kernel_rfl) Tryz.func16 closed
  (of_decide_eq_true (by kernel_rfl)) (by unfold Func.isWrapper; first | (rw [if_pos (by decide +kernel)]; kernel_rfl) | (rw [if_neg (by decide +kernel)]; exact ⟨rfl, rfl⟩))
  (fun os started H enc _ => lifted os started H enc)
theorem proved : Rows.ProfileMemoryCardSaid :=
 Claim7.holds_tied_plain_at .later [] [.data, .data, .data, .data, .sentinel, .sentinel, .pinned] true (true, "9312dfae8ea4895ac962c60189d974dab8a68fcbb85b686ba0c8820b24894da3") true
  over (fun _ h => by cases h) (by kernel_rfl) (fun _ h => by cases h) profileMemory_row_tie rfl ⟨rfl, rfl⟩ mainIs rfl
  (fun g fn hf hfn => by
   obtain rfl : g = 16 := Option.some.inj ((show Tryz.prog.funcNamed "conjoin/conjoinlaw04.ProfileMemory" = some 16 by kernel_rfl).symm.trans hf) |>.symm
   obtain rfl : fn = Tryz.f16 := (Option.some.inj (Tryz.func16.symm.trans hfn)).symm
   exact ⟨by kernel_rfl, fun j t ht => by
    rw [Tryz.params16] at ht
    have hm : t ∈ [22, 9, 37] := by simpa using Array.mem_of_getElem? ht
    have hall : ([22, 9, 37].all fun u => !Tryz.prog.wantsStandIn u) = true := by kernel_rfl
    exact (show Tryz.prog.wantsStandIn t = false by simpa using List.all_eq_true.1 hall t hm)⟩)
  goes
#print axioms proved
end Go.Proofs.YthpjffhccjlnhaaGreatDoor.ProfileMemoryEnd
