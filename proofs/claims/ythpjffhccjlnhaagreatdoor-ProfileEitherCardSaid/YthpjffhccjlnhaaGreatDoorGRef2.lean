/- The reference: Classes, classes. No condition. -/
import Derived.Test.YthpjffhccjlnhaaGreatDoorGRef1
import Derived.Test.YthpjffhccjlnhaaGreatDoorMG1
import Derived.Test.YthpjffhccjlnhaaGreatDoorMP4
set_option linter.unusedSimpArgs false
set_option linter.unusedVariables false
namespace Go.Proofs.YthpjffhccjlnhaaGreatDoor
open Go.RowKit
attribute [local go_sem] Oper.semAt_some

set_option maxRecDepth 100000 in
set_option maxHeartbeats 2000000 in
theorem classes2_any (s : ByteArray) (w : World) (hs : s.size ≤ 1000000) :
  Calls Tryz.prog 129 #[.string s] w fun e w' => e = .returned (.bool (isSetB (bl s))) ∧ Below w.heap.size w w' := by
 go_enter Tryz.func129, Tryz.ntmps129
 go_wp2_with fail
 go_loopw [3] (fun iv wr => ∃ k : Nat, k ≤ s.size ∧ iv = .int .i64 k ∧ (∀ j, j < k → setAtC (bl s) j = true) ∧ Below w.heap.size w wr) (fun iv _ => s.size - (intOf iv).toNat)
 case atStart => exact ⟨0, Nat.zero_le _, rfl, fun j hj => absurd hj (Nat.not_lt_zero j), Below.refl _ _⟩
 case round =>
  obtain ⟨k, hk, rfl, hall, hbw⟩ := hrel
  have HA := Lib.hid hall
  have HW := Lib.hid hbw
  clear hall hbw
  by_cases hlt : k < s.size
  ·have hk0 : (0 : Int) ≤ k := by omega
   have hkn : (k : Int) < (s.size : Int) := by omega
   obtain ⟨x, hx⟩ : ∃ x, s[k] = x := ⟨_, rfl⟩
   have fin : setAtC (bl s) k = false → isSetB (bl s) = false := notSet (by rw [bl_len]; exact hlt)
   have FIN := Lib.hid fin
   have XN := Lib.hid hx
   clear fin
   rcases h1 : decide ((x.toNat : Int) < 97) with _ | _
   ·rcases h2 : decide ((122 : Int) < (x.toNat : Int)) with _ | _
    ·have HL : Hid (letC x = true) := by
      have a := of_decide_eq_false h1; have b := of_decide_eq_false h2
      simp only [letC, Bool.and_eq_true, decide_eq_true_eq]; exact ⟨by omega, by omega⟩
     rcases k with _ | k
     ·have HS := Lib.hid (setAt_zero4 s (by omega))
      go_wp2_with fail
      go_quiet (fail)
      go_wp2_with fail
      go_roundw
      case rel => exact ⟨1, by omega, rfl, all_step HA.out (by rw [HS.out, XN.out]; exact HL.out), below_drewN HW.out _⟩
      case measure => simp [intOf]; omega
     ·obtain ⟨y, hy⟩ : ∃ y, s[k] = y := ⟨_, rfl⟩
      have HS := Lib.hid (setAt_succ4 s (k := k) (by omega))
      have YN := Lib.hid hy
      have e1 : IntKind.i64.wrap ((k : Int) + 1 - 1) = (k : Int) := by rw [IntWalk.i64_in _ (by omega)]; omega
      have hk1 : (k : Int) < (s.size : Int) := by omega
      have hk2 : (0 : Int) ≤ (k : Int) := by omega
      have hk3 : decide ((0 : Int) < (k : Int) + 1) = true := decide_eq_true (by omega)
      rcases h3 : decide (x.toNat ≤ y.toNat) with _ | _
      ·have HY := Lib.hid (show y.toNat < x.toNat from by have a := of_decide_eq_false h3; omega)
       go_wp2_with fail
       go_quiet (fail)
       go_wp2_with fail
       go_roundw
       case rel => exact ⟨k + 2, by omega, by go_num, all_step HA.out (by rw [HS.out, XN.out, YN.out, HL.out]; simp [HY.out]), below_drewN HW.out _⟩
       case measure => simp [intOf]; omega
      ·have HY := Lib.hid (show x.toNat ≤ y.toNat from of_decide_eq_true h3)
       go_wp2_with fail
       go_quiet (fail)
       go_wp2_with fail
       go_ret
       exact ⟨ret_bool (FIN.out (by rw [HS.out, XN.out, YN.out]; have := HY.out; simp; omega)).symm, below_drewN HW.out _⟩
    ·have HL : Hid (setAtC (bl s) k = false) := by
      have b := of_decide_eq_true h2
      have : letC s[k] = false := by rw [XN.out]; simp [letC]; omega
      rcases k with _ | k
      ·rw [setAt_zero4 s (by omega)]; exact this
      ·show setAtC (bl s) (k + 1) = false
       rw [setAt_succ4 s (by omega), this]; rfl
     go_wp2_with fail
     go_quiet (fail)
     go_wp2_with fail
     go_ret
     exact ⟨ret_bool (FIN.out HL.out).symm, below_drewN HW.out _⟩
   ·have HL : Hid (setAtC (bl s) k = false) := by
     have b := of_decide_eq_true h1
     have : letC s[k] = false := by rw [XN.out]; simp [letC]; omega
     rcases k with _ | k
     ·rw [setAt_zero4 s (by omega)]; exact this
     ·show setAtC (bl s) (k + 1) = false
      rw [setAt_succ4 s (by omega), this]; rfl
    go_wp2_with fail
    go_quiet (fail)
    go_wp2_with fail
    go_ret
    exact ⟨ret_bool (FIN.out HL.out).symm, below_drewN HW.out _⟩
  ·have HF := Lib.hid (show isSetB (bl s) = true from isSetB_iff.2 fun j hj => HA.out j (by rw [bl_len] at hj; omega))
   have hkn : decide ((k : Int) < (s.size : Int)) = false := by simp; omega
   go_wp2_with fail
   go_ret
   exact ⟨ret_bool HF.out.symm, HW.out⟩
theorem classesR_any (s : ByteArray) (w : World) (hs : s.size ≤ 1000000) :
  Calls Tryz.prog 71 #[.string s] w fun e w' => e = .returned (.bool (classesB (bl s))) ∧ Below w.heap.size w w' := by
 have HC := Lib.hid (classes2_any s w hs)
 rcases hb : (bl s).isEmpty with _ | _
 ·have e1 : s.toList.isEmpty = false := by rw [ByteArray.toList_eq]; exact hb
  have HE : Hid (classesB (bl s) = isSetB (bl s)) := Lib.hid (by unfold classesB; rw [hb]; rfl)
  clear hb
  go_enter Tryz.func71, Tryz.ntmps71
  go_wp2_with (refine HC.out.mono ?_)
  rintro e w2 ⟨rfl, hb2⟩
  have HB2 := Lib.hid hb2
  clear hb2
  go_wp2_with fail
  go_ret
  exact ⟨by rw [HE.out]; rfl, HB2.out⟩
 ·have e1 : s.toList.isEmpty = true := by rw [ByteArray.toList_eq]; exact hb
  have HE : Hid (classesB (bl s) = false) := Lib.hid (by unfold classesB; rw [hb]; rfl)
  clear hb
  go_enter Tryz.func71, Tryz.ntmps71
  go_wp2_with fail
  go_ret
  exact ⟨by rw [HE.out]; rfl, Below.refl _ _⟩
end Go.Proofs.YthpjffhccjlnhaaGreatDoor
