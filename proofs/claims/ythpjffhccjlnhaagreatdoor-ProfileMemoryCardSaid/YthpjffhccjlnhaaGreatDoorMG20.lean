/- The reference: Classes, classes. No condition. -/
/- The reference: Name. No condition. -/
/- The reference: right. No condition. -/
import Derived.Test.YthpjffhccjlnhaaGreatDoorGRef1
import Derived.Test.YthpjffhccjlnhaaGreatDoorMG1
import Derived.Test.YthpjffhccjlnhaaGreatDoorMP4
import Derived.Test.YthpjffhccjlnhaaGreatDoorMG5
set_option linter.unusedSimpArgs false
set_option linter.unusedVariables false
namespace Go.Proofs.YthpjffhccjlnhaaGreatDoor
open Go.RowKit
attribute [local go_sem] Oper.semAt_some

set_option maxRecDepth 100000 in
set_option maxHeartbeats 2000000 in
theorem classes2_any (s : ByteArray) (w : World) (hs : s.size ≤ 1000000) :
  Calls Tryz.prog 129 #[.string s] w fun e w' => e = .returned (.bool (isSetB (bl s))) ∧ Below w.heap.size w w' := by
 go_enter Tryz.func129, Tryz.ntmps129
 go_wp2_with fail
 go_loopw [3] (fun iv wr => ∃ k : Nat, k ≤ s.size ∧ iv = .int .i64 k ∧ (∀ j, j < k → setAtC (bl s) j = true) ∧ Below w.heap.size w wr) (fun iv _ => s.size - (intOf iv).toNat)
 case atStart => exact ⟨0, Nat.zero_le _, rfl, fun j hj => absurd hj (Nat.not_lt_zero j), Below.refl _ _⟩
 case round =>
  obtain ⟨k, hk, rfl, hall, hbw⟩ := hrel
  have HA := Lib.hid hall
  have HW := Lib.hid hbw
  clear hall hbw
  by_cases hlt : k < s.size
  ·have hk0 : (0 : Int) ≤ k := by omega
   have hkn : (k : Int) < (s.size : Int) := by omega
   obtain ⟨x, hx⟩ : ∃ x, s[k] = x := ⟨_, rfl⟩
   have fin : setAtC (bl s) k = false → isSetB (bl s) = false := notSet (by rw [bl_len]; exact hlt)
   have FIN := Lib.hid fin
   have XN := Lib.hid hx
   clear fin
   rcases h1 : decide ((x.toNat : Int) < 97) with _ | _
   ·rcases h2 : decide ((122 : Int) < (x.toNat : Int)) with _ | _
    ·have HL : Hid (letC x = true) := by
      have a := of_decide_eq_false h1; have b := of_decide_eq_false h2
      simp only [letC, Bool.and_eq_true, decide_eq_true_eq]; exact ⟨by omega, by omega⟩
     rcases k with _ | k
     ·have HS := Lib.hid (setAt_zero4 s (by omega))
      go_wp2_with fail
      go_quiet (fail)
      go_wp2_with fail
      go_roundw
      case rel => exact ⟨1, by omega, rfl, all_step HA.out (by rw [HS.out, XN.out]; exact HL.out), below_drewN HW.out _⟩
      case measure => simp [intOf]; omega
     ·obtain ⟨y, hy⟩ : ∃ y, s[k] = y := ⟨_, rfl⟩
      have HS := Lib.hid (setAt_succ4 s (k := k) (by omega))
      have YN := Lib.hid hy
      have e1 : IntKind.i64.wrap ((k : Int) + 1 - 1) = (k : Int) := by rw [IntWalk.i64_in _ (by omega)]; omega
      have hk1 : (k : Int) < (s.size : Int) := by omega
      have hk2 : (0 : Int) ≤ (k : Int) := by omega
      have hk3 : decide ((0 : Int) < (k : Int) + 1) = true := decide_eq_true (by omega)
      rcases h3 : decide (x.toNat ≤ y.toNat) with _ | _
      ·have HY := Lib.hid (show y.toNat < x.toNat from by have a := of_decide_eq_false h3; omega)
       go_wp2_with fail
       go_quiet (fail)
       go_wp2_with fail
       go_roundw
       case rel => exact ⟨k + 2, by omega, by go_num, all_step HA.out (by rw [HS.out, XN.out, YN.out, HL.out]; simp [HY.out]), below_drewN HW.out _⟩
       case measure => simp [intOf]; omega
      ·have HY := Lib.hid (show x.toNat ≤ y.toNat from of_decide_eq_true h3)
       go_wp2_with fail
       go_quiet (fail)
       go_wp2_with fail
       go_ret
       exact ⟨ret_bool (FIN.out (by rw [HS.out, XN.out, YN.out]; have := HY.out; simp; omega)).symm, below_drewN HW.out _⟩
    ·have HL : Hid (setAtC (bl s) k = false) := by
      have b := of_decide_eq_true h2
      have : letC s[k] = false := by rw [XN.out]; simp [letC]; omega
      rcases k with _ | k
      ·rw [setAt_zero4 s (by omega)]; exact this
      ·show setAtC (bl s) (k + 1) = false
       rw [setAt_succ4 s (by omega), this]; rfl
     go_wp2_with fail
     go_quiet (fail)
     go_wp2_with fail
     go_ret
     exact ⟨ret_bool (FIN.out HL.out).symm, below_drewN HW.out _⟩
   ·have HL : Hid (setAtC (bl s) k = false) := by
     have b := of_decide_eq_true h1
     have : letC s[k] = false := by rw [XN.out]; simp [letC]; omega
     rcases k with _ | k
     ·rw [setAt_zero4 s (by omega)]; exact this
     ·show setAtC (bl s) (k + 1) = false
      rw [setAt_succ4 s (by omega), this]; rfl
    go_wp2_with fail
    go_quiet (fail)
    go_wp2_with fail
    go_ret
    exact ⟨ret_bool (FIN.out HL.out).symm, below_drewN HW.out _⟩
  ·have HF := Lib.hid (show isSetB (bl s) = true from isSetB_iff.2 fun j hj => HA.out j (by rw [bl_len] at hj; omega))
   have hkn : decide ((k : Int) < (s.size : Int)) = false := by simp; omega
   go_wp2_with fail
   go_ret
   exact ⟨ret_bool HF.out.symm, HW.out⟩
theorem classesR_any (s : ByteArray) (w : World) (hs : s.size ≤ 1000000) :
  Calls Tryz.prog 71 #[.string s] w fun e w' => e = .returned (.bool (classesB (bl s))) ∧ Below w.heap.size w w' := by
 have HC := Lib.hid (classes2_any s w hs)
 rcases hb : (bl s).isEmpty with _ | _
 ·have e1 : s.toList.isEmpty = false := by rw [ByteArray.toList_eq]; exact hb
  have HE : Hid (classesB (bl s) = isSetB (bl s)) := Lib.hid (by unfold classesB; rw [hb]; rfl)
  clear hb
  go_enter Tryz.func71, Tryz.ntmps71
  go_wp2_with (refine HC.out.mono ?_)
  rintro e w2 ⟨rfl, hb2⟩
  have HB2 := Lib.hid hb2
  clear hb2
  go_wp2_with fail
  go_ret
  exact ⟨by rw [HE.out]; rfl, HB2.out⟩
 ·have e1 : s.toList.isEmpty = true := by rw [ByteArray.toList_eq]; exact hb
  have HE : Hid (classesB (bl s) = false) := Lib.hid (by unfold classesB; rw [hb]; rfl)
  clear hb
  go_enter Tryz.func71, Tryz.ntmps71
  go_wp2_with fail
  go_ret
  exact ⟨by rw [HE.out]; rfl, Below.refl _ _⟩
end Go.Proofs.YthpjffhccjlnhaaGreatDoor
namespace Go.Proofs.YthpjffhccjlnhaaGreatDoor
open Go.RowKit
attribute [local go_sem] Oper.semAt_some

theorem name_no {s : ByteArray} {j : Nat} {x : UInt8} (h : (bl s)[j]? = some x) (hx : nameByte x = false) : isNameB s = false := by
 rw [Bool.eq_false_iff]; intro hp
 simp only [isNameB, Bool.and_eq_true] at hp
 have := List.all_eq_true.1 hp.2 x (List.mem_of_getElem? h)
 rw [hx] at this; cases this
set_option maxHeartbeats 2000000 in
theorem name2_any (s : ByteArray) (hs : s.size ≤ 1000000) (w : World) :
  Calls Tryz.prog 150 #[.string s] w fun e w' => e = .returned (.bool (isNameB s)) ∧ w' = w := by
 by_cases h1 : s.size < 1
 ·have h1i : (s.size : Int) < 1 := by omega
  have HN : Hid (isNameB s = false) := Lib.hid (by
   have : inB s.size 1 24 = false := by simp [inB]; omega
   unfold isNameB; rw [this]; rfl)
  go_enter Tryz.func150, Tryz.ntmps150
  go_wp2_with fail
  go_ret
  exact ⟨by rw [HN.out]; rfl, rfl⟩
 have h1i : ¬ (s.size : Int) < 1 := by omega
 by_cases h2 : 24 < s.size
 ·have h2i : (24 : Int) < (s.size : Int) := by omega
  have HN : Hid (isNameB s = false) := Lib.hid (by
   have : inB s.size 1 24 = false := by simp [inB]; omega
   unfold isNameB; rw [this]; rfl)
  go_enter Tryz.func150, Tryz.ntmps150
  go_wp2_with fail
  go_ret
  exact ⟨by rw [HN.out]; rfl, rfl⟩
 have h2i : ¬ (24 : Int) < (s.size : Int) := by omega
 have h0s : 0 < s.size := by omega
 have h0i : (0 : Int) < (s.size : Int) := by omega
 obtain ⟨x0, hx0⟩ : ∃ x, s[0] = x := ⟨_, rfl⟩
 have hb0 : (bl s)[0]? = some x0 := by rw [bl_at s h0s, hx0]
 have hfirst : isNameB s = (inB s.size 1 24 && (decide (97 ≤ x0.toNat) && decide (x0.toNat ≤ 122)) && (bl s).all nameByte) := by
  have hb0' : s.data.toList[0]? = some x0 := hb0
  unfold isNameB; rw [hb0']; rfl
 by_cases h3 : x0.toNat < 97
 ·have h3i : (x0.toNat : Int) < 97 := by omega
  have HN : Hid (isNameB s = false) := Lib.hid (by
   have : decide (97 ≤ x0.toNat) = false := by simp; omega
   rw [hfirst, this]; simp)
  clear hfirst hb0
  go_enter Tryz.func150, Tryz.ntmps150
  go_wp2_with fail
  go_ret
  exact ⟨by rw [HN.out]; rfl, rfl⟩
 have h3i : ¬ (x0.toNat : Int) < 97 := by omega
 by_cases h4 : 122 < x0.toNat
 ·have h4i : (122 : Int) < (x0.toNat : Int) := by omega
  have HN : Hid (isNameB s = false) := Lib.hid (by
   have : decide (x0.toNat ≤ 122) = false := by simp; omega
   rw [hfirst, this]; simp)
  clear hfirst hb0
  go_enter Tryz.func150, Tryz.ntmps150
  go_wp2_with fail
  go_ret
  exact ⟨by rw [HN.out]; rfl, rfl⟩
 have h4i : ¬ (122 : Int) < (x0.toNat : Int) := by omega
 have HF : Hid (isNameB s = (bl s).all nameByte) := Lib.hid (by
  have a1 : decide (97 ≤ x0.toNat) = true := by simp; omega
  have a2 : decide (x0.toNat ≤ 122) = true := by simp; omega
  have a3 : inB s.size 1 24 = true := by simp [inB]; omega
  rw [hfirst, a1, a2, a3]; simp)
 clear hfirst hb0
 go_enter Tryz.func150, Tryz.ntmps150
 go_wp2_with fail
 clear hx0 h3 h4 h3i h4i
 go_loopw [3] (fun i wr => ∃ k : Nat, k ≤ s.size ∧ i = .int .i64 k ∧ (∀ (j : Nat) x, j < k → (bl s)[j]? = some x → nameByte x = true) ∧ w = wr) (fun i _ => s.size - (intOf i).toNat)
 case atStart => exact ⟨0, Nat.zero_le _, rfl, fun j _ hj => absurd hj (Nat.not_lt_zero j), rfl⟩
 case round =>
  obtain ⟨k, hk, rfl, hall, rfl⟩ := hrel
  have HALL := Lib.hid hall
  clear hall
  by_cases hlt : k < s.size
  ·obtain ⟨x, hx⟩ : ∃ x, s[k] = x := ⟨_, rfl⟩
   have hblx : (bl s)[k]? = some x := by rw [bl_at s hlt, hx]
   have HBX := Lib.hid hblx
   have hki : (k : Int) < (s.size : Int) := by omega
   have hk0 : (0 : Int) ≤ (k : Int) := by omega
   have hkw : IntKind.i64.wrap ((k : Int) + 1) = (k : Int) + 1 := IntWalk.i64_in _ (by omega)
   clear hblx
   have HREL : nameByte x = true → Hid (∃ q : Nat, q ≤ s.size ∧ Value.int .i64 ((k : Int) + 1) = .int .i64 q ∧ (∀ (j : Nat) x, j < q → (bl s)[j]? = some x → nameByte x = true) ∧ True) := fun hn => Lib.hid ⟨k + 1, by omega, rfl, fun j y hj hy => by
     rcases Nat.lt_or_ge j k with h1 | h1
     ·exact HALL.out j y h1 hy
     ·have : j = k := by omega
      subst this
      rw [HBX.out] at hy; cases hy; exact hn, trivial⟩
   have hxi : ((x.toNat : Int) == 45) = decide (x.toNat = 45) := by
    by_cases h : x.toNat = 45
    ·rw [h]; rfl
    ·have : ¬ (x.toNat : Int) = 45 := by omega
     simp [h, this]
   rcases hn : nameByte x with _ | _
   ·have HN := Lib.hid (name_no HBX.out hn)
    clear HREL
    simp only [nameByte, Bool.or_eq_false_iff, Bool.and_eq_false_iff, decide_eq_false_iff_not, beq_eq_false_iff_ne] at hn
    obtain ⟨⟨n1, n2⟩, n3⟩ := hn
    have e3 : ((x.toNat : Int) == 45) = false := by rw [hxi]; simpa using n3
    clear hxi
    rcases Nat.lt_or_ge x.toNat 97 with g1 | g1
    ·have g1i : (x.toNat : Int) < 97 := by omega
     rcases Nat.lt_or_ge x.toNat 48 with g2 | g2
     ·have g2i : (x.toNat : Int) < 48 := by omega
      go_wp2_with fail
      go_ret
      exact ⟨by rw [HN.out]; rfl, rfl⟩
     ·have g2i : ¬ (x.toNat : Int) < 48 := by omega
      have g3 : 57 < x.toNat := by omega
      have g3i : (57 : Int) < (x.toNat : Int) := by omega
      go_wp2_with fail
      go_ret
      exact ⟨by rw [HN.out]; rfl, rfl⟩
    ·have g1i : ¬ (x.toNat : Int) < 97 := by omega
     have g2 : 122 < x.toNat := by omega
     have g2i : (122 : Int) < (x.toNat : Int) := by omega
     have g3 : ¬ x.toNat < 48 := by omega
     have g3i : ¬ (x.toNat : Int) < 48 := by omega
     have g4 : 57 < x.toNat := by omega
     have g4i : (57 : Int) < (x.toNat : Int) := by omega
     go_wp2_with fail
     go_ret
     exact ⟨by rw [HN.out]; rfl, rfl⟩
   ·have HR := HREL hn
    clear HREL
    simp only [nameByte, Bool.or_eq_true, Bool.and_eq_true, decide_eq_true_eq, beq_iff_eq] at hn
    have hx5 := UInt8.toNat_lt x
    rcases Nat.lt_or_ge x.toNat 97 with g1 | g1
    ·have g1i : (x.toNat : Int) < 97 := by omega
     rcases Nat.lt_or_ge x.toNat 48 with g2 | g2
     ·have g3 : x.toNat = 45 := by omega
      have e3 : ((x.toNat : Int) == 45) = true := by rw [hxi]; simpa using g3
      have g2i : (x.toNat : Int) < 48 := by omega
      clear hxi
      go_wp2_with fail
      exact ⟨by simpa using HR.out, by simp [intOf]; omega⟩
     ·have g2i : ¬ (x.toNat : Int) < 48 := by omega
      have g3 : ¬ 57 < x.toNat := by omega
      have g3i : ¬ (57 : Int) < (x.toNat : Int) := by omega
      clear hxi
      go_wp2_with fail
      exact ⟨by simpa using HR.out, by simp [intOf]; omega⟩
    ·have g1i : ¬ (x.toNat : Int) < 97 := by omega
     have g2 : ¬ 122 < x.toNat := by omega
     have g2i : ¬ (122 : Int) < (x.toNat : Int) := by omega
     clear hxi
     go_wp2_with fail
     exact ⟨by simpa using HR.out, by simp [intOf]; omega⟩
  ·have hkn : decide ((k : Int) < (s.size : Int)) = false := by simp; omega
   have HY : Hid (isNameB s = true) := Lib.hid (by
    rw [HF.out]
    exact List.all_eq_true.2 fun x hx => by
     obtain ⟨j, hj⟩ := List.getElem?_of_mem hx
     exact HALL.out j x (by have := (List.getElem?_eq_some_iff.1 hj).1; rw [bl_len] at this; omega) hj)
   go_wp2_with fail
   go_ret
   exact ⟨by rw [HY.out]; rfl, rfl⟩
end Go.Proofs.YthpjffhccjlnhaaGreatDoor
namespace Go.Proofs.YthpjffhccjlnhaaGreatDoor
open Go.RowKit
attribute [local go_sem] Oper.semAt_some

def headB (t : Typ) : Bool := isNameB t.name && isNameB t.ware && inB t.least 1 t.most && decide (t.most ≤ 12) && classesB (bl t.rim) && classesB (bl t.base)
theorem typeB_eq (t : Typ) : typeB t = (headB t && (List.range 26).all fun k => isSetB (bl (t.after k))) := by
 unfold typeB headB classesB
 rw [ByteArray.toList_eq, ByteArray.toList_eq, List.any_map]
 have h : (!(List.range 26).any ((fun s => !isSetB (bl s)) ∘ t.after)) = (List.range 26).all fun k => isSetB (bl (t.after k)) := by
  rw [List.not_any_eq_all_not]; congr 1; funext k; simp
 rw [h]
 show _ = (isNameB t.name && isNameB t.ware && inB t.least 1 t.most && decide (t.most ≤ 12) && (!(bl t.rim).isEmpty && isSetB (bl t.rim)) && (!(bl t.base).isEmpty && isSetB (bl t.base)) && _)
 simp only [bl]
 generalize t.rim.data.toList.isEmpty = a
 generalize t.base.data.toList.isEmpty = b
 cases a <;> cases b <;> cases isSetB t.rim.data.toList <;> cases isSetB t.base.data.toList <;> simp
theorem typeB_head {t : Typ} (h : headB t = false) : typeB t = false := by rw [typeB_eq, h]; rfl
theorem typeB_at {t : Typ} {k : Nat} (hk : k < 26) (h : isSetB (bl (t.after k)) = false) : typeB t = false := by
 rw [typeB_eq, Bool.and_eq_false_iff]; right
 rw [Bool.eq_false_iff]; intro ha
 have := List.all_eq_true.1 ha k (by simpa using hk)
 rw [h] at this; cases this
theorem typeB_all {t : Typ} (h : headB t = true) (ha : ∀ k, k < 26 → isSetB (bl (t.after k)) = true) : typeB t = true := by
 rw [typeB_eq, h]; exact List.all_eq_true.2 fun k hk => ha k (by simpa using hk)
set_option maxRecDepth 100000 in
set_option maxHeartbeats 2000000 in
theorem right_any (t : Typ) (ht : SmlT t) (w : World) : Calls Tryz.prog 118 #[.agg (typCells t)] w fun e w' => e = .returned (.bool (typeB t)) ∧ Below w.heap.size w w' := by
 obtain ⟨w1, hw1⟩ : ∃ w1, w.alloc (.cells (typCells t) 71) = w1 := ⟨_, rfl⟩
 have b0 : TypAt w1 w.heap.size 0 t := by rw [← hw1]; exact Box.typ (Box.new _ _ _)
 have hB : Below w.heap.size w w1 := by rw [← hw1]; go_grown
 have HB := Lib.hid hB
 have HX := Lib.hid b0
 have HW := Lib.hid hw1
 have HT := Lib.hid ht
 obtain ⟨f1, f2, f3, f4, f5, f6⟩ := TypAt.fields b0
 simp only [Nat.zero_add] at f2 f3 f4 f5 f6
 clear b0 hB hw1 ht
 go_enter Tryz.func118, Tryz.ntmps118
 go_upto_region 1 with fail
 simp only [HW.out]
 go_wp2_with fail
 refine (name2_any t.name (by have := HT.out.name; omega) w1).mono ?_
 rintro e w2 ⟨rfl, rfl⟩
 rcases h1 : isNameB t.name with _ | _
 ·have HN : Hid (typeB t = false) := Lib.hid (typeB_head (by simp [headB, h1]))
  go_wp2_with fail
  go_ret
  exact ⟨ret_bool HN.out.symm, HB.out⟩
 go_wp2_with fail
 refine (name2_any t.ware (by have := HT.out.ware; omega) _).mono ?_
 rintro e w2 ⟨rfl, rfl⟩
 rcases h2 : isNameB t.ware with _ | _
 ·have HN : Hid (typeB t = false) := Lib.hid (typeB_head (by simp [headB, h2]))
  go_wp2_with fail
  go_ret
  exact ⟨ret_bool HN.out.symm, HB.out⟩
 rcases h3 : decide (t.least < 1) with _ | _
 ·rcases h4 : decide (t.most < t.least) with _ | _
  ·rcases h5 : decide (12 < t.most) with _ | _
   ·have HI : Hid (inB t.least 1 t.most = true ∧ decide (t.most ≤ 12) = true) := Lib.hid (by
     have a := of_decide_eq_false h3; have b := of_decide_eq_false h4; have c := of_decide_eq_false h5
     exact ⟨by simp [inB]; omega, by simp; omega⟩)
    go_wp2_with fail
    clear f1 f2 f3 f4 f5 f6
    refine (classesR_any t.rim _ (by have := HT.out.rim; omega)).mono ?_
    rintro e w3 ⟨rfl, hb⟩
    have HB3 := Lib.hid (HB.out.trans (hb.mono HB.out.size))
    have HX3 := Lib.hid (HX.out.below hb)
    clear hb HX HB
    obtain ⟨f1, f2, f3, f4, f5, f6⟩ := TypAt.fields HX3.out
    simp only [Nat.zero_add] at f2 f3 f4 f5 f6
    rcases h7 : classesB (bl t.rim) with _ | _
    ·have HN : Hid (typeB t = false) := Lib.hid (typeB_head (by simp [headB, h7]))
     go_wp2_with fail
     go_ret
     exact ⟨ret_bool HN.out.symm, HB3.out⟩
    go_wp2_with fail
    clear f1 f2 f3 f4 f5 f6
    refine (classesR_any t.base _ (by have := HT.out.base; omega)).mono ?_
    rintro e w4 ⟨rfl, hb⟩
    have HB := Lib.hid (HB3.out.trans (hb.mono HB3.out.size))
    have HX := Lib.hid (HX3.out.below hb)
    clear hb HX3 HB3
    rcases h8 : classesB (bl t.base) with _ | _
    ·have HN : Hid (typeB t = false) := Lib.hid (typeB_head (by simp [headB, h8]))
     go_wp2_with fail
     go_ret
     exact ⟨ret_bool HN.out.symm, HB.out⟩
    have HH : Hid (headB t = true) := Lib.hid (by unfold headB; rw [h1, h2, HI.out.1, HI.out.2, h7, h8]; rfl)
    clear h1 h2 HI h7 h8 h3 h4 h5
    go_wp2_with fail
    go_loopw [3] (fun iv wr => ∃ k : Nat, k ≤ 26 ∧ iv = .int .i64 k ∧ (∀ j, j < k → isSetB (bl (t.after j)) = true) ∧ TypAt wr w.heap.size 0 t ∧ Below w.heap.size w wr) (fun iv _ => 26 - (intOf iv).toNat)
    case atStart => exact ⟨0, Nat.zero_le _, rfl, fun j hj => absurd hj (Nat.not_lt_zero j), HX.out, HB.out⟩
    case round =>
     clear HX HB
     obtain ⟨k, hk, rfl, hall, hx, hb⟩ := hrel
     have HA := Lib.hid hall
     have HX := Lib.hid hx
     have HB := Lib.hid hb
     clear hall hb hx
     by_cases hlt : k < 26
     ·have hki : (k : Int) < 26 := by omega
      have hk0 : (0 : Int) ≤ (k : Int) := by omega
      have hc := HX.out (6 + k) (by omega)
      rw [show typF t (6 + k) = .string (t.after k) by rw [Nat.add_comm]; rfl, show 0 + (6 + k) = k + 6 by omega] at hc
      have hc' := hc
      rw [show k + 6 = 6 + k by omega] at hc'
      go_wp2_with fail
      clear hc hc'
      refine (classes2_any (t.after k) _ (by have := HT.out.after k hlt; omega)).mono ?_
      rintro e w5 ⟨rfl, hb⟩
      have HX5 := Lib.hid (HX.out.below hb)
      have HB5 := Lib.hid (HB.out.trans (hb.mono HB.out.size))
      clear hb HX HB
      rcases hq : isSetB (bl (t.after k)) with _ | _
      ·have HN := Lib.hid (typeB_at hlt hq)
       clear hq
       go_wp2_with fail
       go_ret
       exact ⟨ret_bool HN.out.symm, HB5.out⟩
      ·have HQ := Lib.hid hq
       clear hq
       go_wp2_with fail
       go_roundw
       case rel => exact ⟨k + 1, by omega, by go_num, all_step HA.out HQ.out, HX5.out, HB5.out⟩
       case measure => simp [intOf]; omega
     ·have hkn : decide ((k : Int) < 26) = false := by simp; omega
      have HY := Lib.hid (typeB_all HH.out fun j hj => HA.out j (by omega))
      go_wp2_with fail
      go_ret
      exact ⟨ret_bool HY.out.symm, HB.out⟩
   ·have HN : Hid (typeB t = false) := Lib.hid (typeB_head (by
     have c := of_decide_eq_true h5
     have : decide (t.most ≤ 12) = false := by simp; omega
     simp [headB, this]))
    go_wp2_with fail
    go_ret
    exact ⟨ret_bool HN.out.symm, HB.out⟩
  ·have HN : Hid (typeB t = false) := Lib.hid (typeB_head (by
    have c := of_decide_eq_true h4
    have : inB t.least 1 t.most = false := by simp [inB]; omega
    simp [headB, this]))
   go_wp2_with fail
   go_ret
   exact ⟨ret_bool HN.out.symm, HB.out⟩
 ·have HN : Hid (typeB t = false) := Lib.hid (typeB_head (by
   have c := of_decide_eq_true h3
   have : inB t.least 1 t.most = false := by simp [inB]; omega
   simp [headB, this]))
  go_wp2_with fail
  go_ret
  exact ⟨ret_bool HN.out.symm, HB.out⟩
end Go.Proofs.YthpjffhccjlnhaaGreatDoor
