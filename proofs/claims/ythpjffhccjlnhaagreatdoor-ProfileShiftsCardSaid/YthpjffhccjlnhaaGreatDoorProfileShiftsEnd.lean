/- ProfileShifts: the tied card: for all inputs the law returns true, and its arguments read as they did. The listed variables hold what the program's text lays: that is tied by the given tie. -/
import Derived.Test.YthpjffhccjlnhaaGreatDoorProfileShiftsEndL
import Derived.Test.YthpjffhccjlnhaaGreatDoorProfileShiftsEndC
import Derived.Test.YthpjffhccjlnhaaGreatDoorProfileShiftsEndG
import Derived.Test.YthpjffhccjlnhaaGreatDoorProfileShiftsEndM
set_option linter.unusedSimpArgs false
set_option linter.unusedVariables false
namespace Go.Proofs.YthpjffhccjlnhaaGreatDoor.ProfileShiftsEnd
open Go.ChangeShapes Go.WideShapes Go.ChangeAt Go.RowKit
theorem over : Rows.profileShiftsRow.holds Tryz.pinned (OpenSpec.ofChange Rows.profileShiftsSpec) :=
 OpenClaim.holds_of_wide 7 Tryz.f7 rfl rfl rfl rfl rfl rfl rfl ⟨rfl, rfl, rfl, rfl, rfl⟩ rfl rfl rfl rfl rfl (by kernel_rfl) Tryz.func7 closed
  (of_decide_eq_true (by kernel_rfl)) (by unfold Func.isWrapper; first | (rw [if_pos (by decide +kernel)]; kernel_rfl) | (rw [if_neg (by decide +kernel)]; exact ⟨rfl, rfl⟩))
  (fun os started H enc _ => lifted os started H enc)
theorem proved : Rows.ProfileShiftsCardSaid :=
 Claim7.holds_tied_plain_at .later [] [.data, .data, .data, .data, .sentinel, .sentinel, .pinned] true (true, "9312dfae8ea4895ac962c60189d974dab8a68fcbb85b686ba0c8820b24894da3") true
  over (fun _ h => by cases h) (by kernel_rfl) (fun _ h => by cases h) profileShifts_row_tie rfl ⟨rfl, rfl⟩ mainIs rfl
  (fun g fn hf hfn => by
   obtain rfl : g = 7 := Option.some.inj ((show Tryz.prog.funcNamed "conjoin/conjoinlaw04.ProfileShifts" = some 7 by kernel_rfl).symm.trans hf) |>.symm
   obtain rfl : fn = Tryz.f7 := (Option.some.inj (Tryz.func7.symm.trans hfn)).symm
   exact ⟨by kernel_rfl, fun j t ht => by
    rw [Tryz.params7] at ht
    have hm : t ∈ [22, 9, 37, 3] := by simpa using Array.mem_of_getElem? ht
    have hall : ([22, 9, 37, 3].all fun u => !Tryz.prog.wantsStandIn u) = true := by kernel_rfl
    exact (show Tryz.prog.wantsStandIn t = false by simpa using List.all_eq_true.1 hall t hm)⟩)
  goes
#print axioms proved
end Go.Proofs.YthpjffhccjlnhaaGreatDoor.ProfileShiftsEnd
