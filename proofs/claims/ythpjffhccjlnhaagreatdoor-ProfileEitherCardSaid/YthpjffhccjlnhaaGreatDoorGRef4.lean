/- The reference: right. No condition. -/
import Derived.Test.YthpjffhccjlnhaaGreatDoorGRef2
import Derived.Test.YthpjffhccjlnhaaGreatDoorGRef3
import Derived.Test.YthpjffhccjlnhaaGreatDoorMG5
set_option linter.unusedSimpArgs false
set_option linter.unusedVariables false
namespace Go.Proofs.YthpjffhccjlnhaaGreatDoor
open Go.RowKit
attribute [local go_sem] Oper.semAt_some

def headB (t : Typ) : Bool := isNameB t.name && isNameB t.ware && inB t.least 1 t.most && decide (t.most ≤ 12) && classesB (bl t.rim) && classesB (bl t.base)
theorem typeB_eq (t : Typ) : typeB t = (headB t && (List.range 26).all fun k => isSetB (bl (t.after k))) := by
 unfold typeB headB classesB
 rw [ByteArray.toList_eq, ByteArray.toList_eq, List.any_map]
 have h : (!(List.range 26).any ((fun s => !isSetB (bl s)) ∘ t.after)) = (List.range 26).all fun k => isSetB (bl (t.after k)) := by
  rw [List.not_any_eq_all_not]; congr 1; funext k; simp
 rw [h]
 show _ = (isNameB t.name && isNameB t.ware && inB t.least 1 t.most && decide (t.most ≤ 12) && (!(bl t.rim).isEmpty && isSetB (bl t.rim)) && (!(bl t.base).isEmpty && isSetB (bl t.base)) && _)
 simp only [bl]
 generalize t.rim.data.toList.isEmpty = a
 generalize t.base.data.toList.isEmpty = b
 cases a <;> cases b <;> cases isSetB t.rim.data.toList <;> cases isSetB t.base.data.toList <;> simp
theorem typeB_head {t : Typ} (h : headB t = false) : typeB t = false := by rw [typeB_eq, h]; rfl
theorem typeB_at {t : Typ} {k : Nat} (hk : k < 26) (h : isSetB (bl (t.after k)) = false) : typeB t = false := by
 rw [typeB_eq, Bool.and_eq_false_iff]; right
 rw [Bool.eq_false_iff]; intro ha
 have := List.all_eq_true.1 ha k (by simpa using hk)
 rw [h] at this; cases this
theorem typeB_all {t : Typ} (h : headB t = true) (ha : ∀ k, k < 26 → isSetB (bl (t.after k)) = true) : typeB t = true := by
 rw [typeB_eq, h]; exact List.all_eq_true.2 fun k hk => ha k (by simpa using hk)
set_option maxRecDepth 100000 in
set_option maxHeartbeats 2000000 in
theorem right_any (t : Typ) (ht : SmlT t) (w : World) : Calls Tryz.prog 118 #[.agg (typCells t)] w fun e w' => e = .returned (.bool (typeB t)) ∧ Below w.heap.size w w' := by
 obtain ⟨w1, hw1⟩ : ∃ w1, w.alloc (.cells (typCells t) 71) = w1 := ⟨_, rfl⟩
 have b0 : TypAt w1 w.heap.size 0 t := by rw [← hw1]; exact Box.typ (Box.new _ _ _)
 have hB : Below w.heap.size w w1 := by rw [← hw1]; go_grown
 have HB := Lib.hid hB
 have HX := Lib.hid b0
 have HW := Lib.hid hw1
 have HT := Lib.hid ht
 obtain ⟨f1, f2, f3, f4, f5, f6⟩ := TypAt.fields b0
 simp only [Nat.zero_add] at f2 f3 f4 f5 f6
 clear b0 hB hw1 ht
 go_enter Tryz.func118, Tryz.ntmps118
 go_upto_region 1 with fail
 simp only [HW.out]
 go_wp2_with fail
 refine (name2_any t.name (by have := HT.out.name; omega) w1).mono ?_
 rintro e w2 ⟨rfl, rfl⟩
 rcases h1 : isNameB t.name with _ | _
 ·have HN : Hid (typeB t = false) := Lib.hid (typeB_head (by simp [headB, h1]))
  go_wp2_with fail
  go_ret
  exact ⟨ret_bool HN.out.symm, HB.out⟩
 go_wp2_with fail
 refine (name2_any t.ware (by have := HT.out.ware; omega) _).mono ?_
 rintro e w2 ⟨rfl, rfl⟩
 rcases h2 : isNameB t.ware with _ | _
 ·have HN : Hid (typeB t = false) := Lib.hid (typeB_head (by simp [headB, h2]))
  go_wp2_with fail
  go_ret
  exact ⟨ret_bool HN.out.symm, HB.out⟩
 rcases h3 : decide (t.least < 1) with _ | _
 ·rcases h4 : decide (t.most < t.least) with _ | _
  ·rcases h5 : decide (12 < t.most) with _ | _
   ·have HI : Hid (inB t.least 1 t.most = true ∧ decide (t.most ≤ 12) = true) := Lib.hid (by
     have a := of_decide_eq_false h3; have b := of_decide_eq_false h4; have c := of_decide_eq_false h5
     exact ⟨by simp [inB]; omega, by simp; omega⟩)
    go_wp2_with fail
    clear f1 f2 f3 f4 f5 f6
    refine (classesR_any t.rim _ (by have := HT.out.rim; omega)).mono ?_
    rintro e w3 ⟨rfl, hb⟩
    have HB3 := Lib.hid (HB.out.trans (hb.mono HB.out.size))
    have HX3 := Lib.hid (HX.out.below hb)
    clear hb HX HB
    obtain ⟨f1, f2, f3, f4, f5, f6⟩ := TypAt.fields HX3.out
    simp only [Nat.zero_add] at f2 f3 f4 f5 f6
    rcases h7 : classesB (bl t.rim) with _ | _
    ·have HN : Hid (typeB t = false) := Lib.hid (typeB_head (by simp [headB, h7]))
     go_wp2_with fail
     go_ret
     exact ⟨ret_bool HN.out.symm, HB3.out⟩
    go_wp2_with fail
    clear f1 f2 f3 f4 f5 f6
    refine (classesR_any t.base _ (by have := HT.out.base; omega)).mono ?_
    rintro e w4 ⟨rfl, hb⟩
    have HB := Lib.hid (HB3.out.trans (hb.mono HB3.out.size))
    have HX := Lib.hid (HX3.out.below hb)
    clear hb HX3 HB3
    rcases h8 : classesB (bl t.base) with _ | _
    ·have HN : Hid (typeB t = false) := Lib.hid (typeB_head (by simp [headB, h8]))
     go_wp2_with fail
     go_ret
     exact ⟨ret_bool HN.out.symm, HB.out⟩
    have HH : Hid (headB t = true) := Lib.hid (by unfold headB; rw [h1, h2, HI.out.1, HI.out.2, h7, h8]; rfl)
    clear h1 h2 HI h7 h8 h3 h4 h5
    go_wp2_with fail
    go_loopw [3] (fun iv wr => ∃ k : Nat, k ≤ 26 ∧ iv = .int .i64 k ∧ (∀ j, j < k → isSetB (bl (t.after j)) = true) ∧ TypAt wr w.heap.size 0 t ∧ Below w.heap.size w wr) (fun iv _ => 26 - (intOf iv).toNat)
    case atStart => exact ⟨0, Nat.zero_le _, rfl, fun j hj => absurd hj (Nat.not_lt_zero j), HX.out, HB.out⟩
    case round =>
     clear HX HB
     obtain ⟨k, hk, rfl, hall, hx, hb⟩ := hrel
     have HA := Lib.hid hall
     have HX := Lib.hid hx
     have HB := Lib.hid hb
     clear hall hb hx
     by_cases hlt : k < 26
     ·have hki : (k : Int) < 26 := by omega
      have hk0 : (0 : Int) ≤ (k : Int) := by omega
      have hc := HX.out (6 + k) (by omega)
      rw [show typF t (6 + k) = .string (t.after k) by rw [Nat.add_comm]; rfl, show 0 + (6 + k) = k + 6 by omega] at hc
      have hc' := hc
      rw [show k + 6 = 6 + k by omega] at hc'
      go_wp2_with fail
      clear hc hc'
      refine (classes2_any (t.after k) _ (by have := HT.out.after k hlt; omega)).mono ?_
      rintro e w5 ⟨rfl, hb⟩
      have HX5 := Lib.hid (HX.out.below hb)
      have HB5 := Lib.hid (HB.out.trans (hb.mono HB.out.size))
      clear hb HX HB
      rcases hq : isSetB (bl (t.after k)) with _ | _
      ·have HN := Lib.hid (typeB_at hlt hq)
       clear hq
       go_wp2_with fail
       go_ret
       exact ⟨ret_bool HN.out.symm, HB5.out⟩
      ·have HQ := Lib.hid hq
       clear hq
       go_wp2_with fail
       go_roundw
       case rel => exact ⟨k + 1, by omega, by go_num, all_step HA.out HQ.out, HX5.out, HB5.out⟩
       case measure => simp [intOf]; omega
     ·have hkn : decide ((k : Int) < 26) = false := by simp; omega
      have HY := Lib.hid (typeB_all HH.out fun j hj => HA.out j (by omega))
      go_wp2_with fail
      go_ret
      exact ⟨ret_bool HY.out.symm, HB.out⟩
   ·have HN : Hid (typeB t = false) := Lib.hid (typeB_head (by
     have c := of_decide_eq_true h5
     have : decide (t.most ≤ 12) = false := by simp; omega
     simp [headB, this]))
    go_wp2_with fail
    go_ret
    exact ⟨ret_bool HN.out.symm, HB.out⟩
  ·have HN : Hid (typeB t = false) := Lib.hid (typeB_head (by
    have c := of_decide_eq_true h4
    have : inB t.least 1 t.most = false := by simp [inB]; omega
    simp [headB, this]))
   go_wp2_with fail
   go_ret
   exact ⟨ret_bool HN.out.symm, HB.out⟩
 ·have HN : Hid (typeB t = false) := Lib.hid (typeB_head (by
   have c := of_decide_eq_true h3
   have : inB t.least 1 t.most = false := by simp [inB]; omega
   simp [headB, this]))
  go_wp2_with fail
  go_ret
  exact ⟨ret_bool HN.out.symm, HB.out⟩
end Go.Proofs.YthpjffhccjlnhaaGreatDoor
