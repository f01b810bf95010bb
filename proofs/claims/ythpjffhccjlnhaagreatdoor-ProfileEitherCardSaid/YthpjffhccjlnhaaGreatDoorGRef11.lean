/- The reference: asked, shifts, ring, whole. No condition. -/
import Derived.Test.YthpjffhccjlnhaaGreatDoorGRefP
import Derived.Test.YthpjffhccjlnhaaGreatDoorGRef6
set_option linter.unusedSimpArgs false
set_option linter.unusedVariables false
namespace Go.Proofs.YthpjffhccjlnhaaGreatDoor
open Go.RowKit
attribute [local go_sem] Oper.semAt_some

theorem find_first {α : Type} {l : List α} {P : α → Bool} {k : Nat} {y : α} (hk : l[k]? = some y) (hP : P y = true) (hn : ∀ (j : Nat) x, j < k → l[j]? = some x → P x = false) : l.find? P = some y := by
 induction l generalizing k with
 | nil => simp at hk
 | cons a l ih =>
  cases k with
  | zero =>
   simp at hk
   subst hk
   rw [List.find?_cons, hP]
  | succ k =>
   have ha := hn 0 a (by omega) rfl
   rw [List.find?_cons, ha]
   exact ih (k := k) (by simpa using hk) fun j x hj hx => hn (j + 1) x (by omega) (by simpa using hx)
theorem find_no {α : Type} {l : List α} {P : α → Bool} (hn : ∀ (j : Nat) x, l[j]? = some x → P x = false) : l.find? P = none := by
 rw [List.find?_eq_none]
 intro x hx
 obtain ⟨j, hj⟩ := List.getElem?_of_mem hx
 rw [hn j x hj]; simp
/-- rings that are as said -/
structure RgOk (r : List Rng) : Prop where
 len : r.length ≤ 12
 at0 : ∀ y, y ∈ r → 0 ≤ y.at_ ∧ y.at_ ≤ 11
 set : ∀ y, y ∈ r → isSetB (bl y.set) = true
theorem RgOk.of {r : List Rng} (h : ringsErr r = 0) : RgOk r := by
 obtain ⟨h1, h2⟩ := ringsErr_good h
 refine ⟨h1, fun y hy => ?_, fun y hy => ?_⟩
 ·obtain ⟨i, hi⟩ := List.getElem?_of_mem hy
  have := (h2 i y hi).1
  simpa [inB] using this
 ·obtain ⟨i, hi⟩ := List.getElem?_of_mem hy
  exact (h2 i y hi).2.2.1
theorem last_at {r : List Rng} {n : Nat} {y : Rng} (hn : r.length = n + 1) (hy : r[n]? = some y) : lastAt r = y.at_ := by
 unfold lastAt
 rw [List.getLast?_eq_getElem?, show r.length - 1 = n by omega, hy]
set_option maxHeartbeats 1000000 in
theorem ringR_any (ra : Option Addr) (rc : Nat) (r : List Rng) (s p : Nat) (hs : s ≤ 1000) (hg : RgOk r) (w : World) (h : RngsAt w ra r) :
  Calls Tryz.prog 112 #[.slice ra r.length rc, .int .i64 (s : Int), .int .i64 (p : Int)] w fun e w' => e = .returned (.string (ringS r s p)) ∧ w' = w := by
 have HM := Lib.hid h
 have HG := Lib.hid hg
 have hr12 := hg.len
 clear h hg
 go_enter Tryz.func112, Tryz.ntmps112
 go_wp2_with fail
 go_loopw [7] (fun iv wr => ∃ k : Nat, k ≤ r.length ∧ iv = .int .i64 k ∧ (∀ (j : Nat) y, j < k → r[j]? = some y → decide ((s : Int) + y.at_ = p) = false) ∧ w = wr) (fun iv _ => r.length - (intOf iv).toNat)
 case atStart => exact ⟨0, Nat.zero_le _, rfl, fun j _ hj => absurd hj (Nat.not_lt_zero j), rfl⟩
 case round =>
  obtain ⟨k, hk, rfl, hno, rfl⟩ := hrel
  have HNO := Lib.hid hno
  clear hno
  by_cases hlt : k < r.length
  ·obtain ⟨y, hy⟩ : ∃ y, r[k]? = some y := ⟨r[k], by simp [hlt]⟩
   obtain ⟨b, o, rfl, hat⟩ := HM.out k y hy
   obtain ⟨f1, f2⟩ := hat.fields
   have hya := HG.out.at0 y (List.mem_of_getElem? hy)
   have HY := Lib.hid hy
   have hki : (k : Int) < (r.length : Int) := by omega
   have hk0 : (0 : Int) ≤ (k : Int) := by omega
   have hkw : IntKind.i64.wrap ((k : Int) + 1) = (k : Int) + 1 := IntWalk.i64_in _ (by omega)
   have hsw : IntKind.i64.wrap ((s : Int) + y.at_) = (s : Int) + y.at_ := IntWalk.i64_in _ (by omega)
   clear hat hy
   by_cases hq : (s : Int) + y.at_ = p
   ·have hqb : ((s : Int) + y.at_ == (p : Int)) = true := by simpa using hq
    have HF := Lib.hid (show ringS r s p = y.set by unfold ringS ringF; rw [find_first HY.out (by simpa using hq) HNO.out])
    go_wp2_with fail
    go_ret
    exact ⟨by rw [HF.out]; rfl, rfl⟩
   ·have hqb : ((s : Int) + y.at_ == (p : Int)) = false := by simpa using hq
    have HREL := Lib.hid (show ∃ q : Nat, q ≤ r.length ∧ Value.int .i64 ((k : Int) + 1) = .int .i64 q ∧ (∀ (j : Nat) y, j < q → r[j]? = some y → decide ((s : Int) + y.at_ = p) = false) ∧ True from ⟨k + 1, by omega, rfl, fun j z hj hz => by
     rcases Nat.lt_or_ge j k with h1 | h1
     ·exact HNO.out j z h1 hz
     ·have : j = k := by omega
      subst this
      rw [HY.out] at hz; cases hz; simpa using hq, trivial⟩)
    go_wp2_with fail
    exact ⟨by simpa using HREL.out, by simp [intOf]; omega⟩
  ·have hkn : decide ((k : Int) < (r.length : Int)) = false := by simp; omega
   have HF := Lib.hid (show ringS r s p = mkB allS by unfold ringS ringF; rw [find_no fun j y hy => HNO.out j y (by have := (List.getElem?_eq_some_iff.1 hy).1; omega) hy])
   go_wp2_with fail
   go_ret
   exact ⟨by rw [HF.out]; rfl, rfl⟩
set_option maxRecDepth 100000 in
set_option maxHeartbeats 1000000 in
theorem shiftsR_any (t : Typ) (ra : Option Addr) (rc : Nat) (r : List Rng) (hm : 0 ≤ t.most ∧ t.most ≤ 12) (hg : RgOk r) (w : World) (h : RngsAt w ra r) :
  Calls Tryz.prog 107 #[.agg (typCells t), .slice ra r.length rc] w fun e w' => e = .returned (.int .i64 (shiftsOf t r : Nat)) ∧ Below w.heap.size w w' := by
 obtain ⟨w1, hw1⟩ : ∃ w1, w.alloc (.cells (typCells t) 71) = w1 := ⟨_, rfl⟩
 have b0 : TypAt w1 w.heap.size 0 t := by rw [← hw1]; exact Box.typ (Box.new _ _ _)
 have hB : Below w.heap.size w w1 := by rw [← hw1]; go_grown
 have HB := Lib.hid hB
 have HW := Lib.hid hw1
 have HR := Lib.hid (h.below hB)
 have c3 := b0.fields.2.2.2.1
 simp only [Nat.zero_add] at c3
 clear b0 hB hw1 h
 rcases hn : r.length with _ | n
 ·have HE := Lib.hid (show shiftsOf t r = 1 by unfold shiftsOf; rw [if_pos (List.length_eq_zero_iff.1 hn)])
  go_enter Tryz.func107, Tryz.ntmps107
  go_upto_region 1 with fail
  simp only [HW.out]
  go_wp2_with fail
  go_ret
  exact ⟨by rw [HE.out]; rfl, HB.out⟩
 ·obtain ⟨y, hy⟩ : ∃ y, r[n]? = some y := ⟨r[n], by simp [hn]⟩
  obtain ⟨b, o, rfl, hat⟩ := HR.out n y hy
  obtain ⟨f1, f2⟩ := hat.fields
  have hya := hg.at0 y (List.mem_of_getElem? hy)
  have hn12 := hg.len
  have HE := Lib.hid (show ((shiftsOf t r : Nat) : Int) = max 0 (t.most - y.at_) by
   unfold shiftsOf
   rw [if_neg (fun e => by rw [e] at hn; simp at hn), last_at hn hy]
   omega)
  have hq : (((n : Int) + 1) == 0) = false := by rw [beq_eq_false_iff_ne]; omega
  have hw2 : IntKind.i64.wrap (n : Int) = (n : Int) := IntWalk.i64_in _ (by omega)
  have hw3 : IntKind.i64.wrap (t.most - y.at_) = t.most - y.at_ := IntWalk.i64_in _ (by omega)
  have hn0 : (0 : Int) ≤ (n : Int) := by omega
  have hn1 : (n : Int) < (n : Int) + 1 := by omega
  clear hat hy
  go_enter Tryz.func107, Tryz.ntmps107
  go_upto_region 1 with fail
  simp only [HW.out]
  go_wp2_with fail
  go_quiet (fail)
  go_wp2_with fail
  go_ret
  exact ⟨by rw [HE.out]; rfl, below_drewN HB.out _⟩
set_option maxRecDepth 100000 in
set_option maxHeartbeats 1000000 in
theorem wholeR_any (t : Typ) (ra : Option Addr) (rc : Nat) (r : List Rng) (s n : Nat) (hs : s ≤ 1000) (hg : RgOk r) (w : World) (h : RngsAt w ra r) :
  Calls Tryz.prog 111 #[.agg (typCells t), .slice ra r.length rc, .int .i64 (s : Int), .int .i64 (n : Int)] w fun e w' => e = .returned (.bool (wholeB t r s n)) ∧ Below w.heap.size w w' := by
 obtain ⟨w1, hw1⟩ : ∃ w1, w.alloc (.cells (typCells t) 71) = w1 := ⟨_, rfl⟩
 have b0 : TypAt w1 w.heap.size 0 t := by rw [← hw1]; exact Box.typ (Box.new _ _ _)
 have hB : Below w.heap.size w w1 := by rw [← hw1]; go_grown
 have HB := Lib.hid hB
 have HW := Lib.hid hw1
 have HR := Lib.hid (h.below hB)
 have c2 := b0.fields.2.2.1
 have c3 := b0.fields.2.2.2.1
 simp only [Nat.zero_add] at c2 c3
 clear b0 hB hw1 h
 rcases hb1 : decide (t.least ≤ (n : Int)) with _ | _
 ·have HE := Lib.hid (show wholeB t r s n = false by unfold wholeB; rw [hb1]; rfl)
  go_enter Tryz.func111, Tryz.ntmps111
  go_upto_region 1 with fail
  simp only [HW.out]
  go_wp2_with fail
  go_ret
  exact ⟨by rw [HE.out]; rfl, HB.out⟩
 rcases hb2 : decide ((n : Int) ≤ t.most) with _ | _
 ·have HE := Lib.hid (show wholeB t r s n = false by unfold wholeB; rw [hb1, hb2]; rfl)
  go_enter Tryz.func111, Tryz.ntmps111
  go_upto_region 1 with fail
  simp only [HW.out]
  go_wp2_with fail
  go_ret
  exact ⟨by rw [HE.out]; rfl, HB.out⟩
 rcases hn : r.length with _ | m
 ·have HE := Lib.hid (show wholeB t r s n = true by unfold wholeB; rw [hb1, hb2, List.length_eq_zero_iff.1 hn]; rfl)
  go_enter Tryz.func111, Tryz.ntmps111
  go_upto_region 1 with fail
  simp only [HW.out]
  go_wp2_with fail
  go_ret
  exact ⟨by rw [HE.out]; rfl, HB.out⟩
 ·obtain ⟨y, hy⟩ : ∃ y, r[m]? = some y := ⟨r[m], by simp [hn]⟩
  obtain ⟨b, o, rfl, hat⟩ := HR.out m y hy
  obtain ⟨f1, f2⟩ := hat.fields
  have hya := hg.at0 y (List.mem_of_getElem? hy)
  have hn12 := hg.len
  have HE := Lib.hid (show wholeB t r s n = decide ((s : Int) + y.at_ < (n : Int)) by
   unfold wholeB
   rw [hb1, hb2, last_at hn hy]
   rcases r with _ | ⟨z, r⟩
   ·simp at hn
   ·rfl)
  have hq : (((m : Int) + 1) == 0) = false := by rw [beq_eq_false_iff_ne]; omega
  have hw2 : IntKind.i64.wrap (m : Int) = (m : Int) := IntWalk.i64_in _ (by omega)
  have hw3 : IntKind.i64.wrap ((s : Int) + y.at_) = (s : Int) + y.at_ := IntWalk.i64_in _ (by omega)
  have hn0 : (0 : Int) ≤ (m : Int) := by omega
  have hn1 : (m : Int) < (m : Int) + 1 := by omega
  clear hat hy
  go_enter Tryz.func111, Tryz.ntmps111
  go_upto_region 1 with fail
  simp only [HW.out]
  go_wp2_with fail
  go_ret
  exact ⟨by rw [HE.out]; rfl, HB.out⟩
set_option maxHeartbeats 1000000 in
theorem askedR_any (a : Option Addr) (c : Nat) (l : List Typ) (ware : ByteArray) (ra : Option Addr) (rc : Nat) (r : List Rng) (w : World) (h : Ask w a c l ra rc r) :
  Calls Tryz.prog 93 #[.slice a l.length c, .string ware, .slice ra r.length rc] w fun e w' => e = .returned (.int .i64 (wantedErr l ware r)) ∧ Below w.heap.size w w' := by
 have HA := Lib.hid h
 have HC := Lib.hid (checkTypesR_any a c l w h.ty h.sm h.tlen)
 have hll := h.tlen
 clear h
 go_enter Tryz.func93, Tryz.ntmps93
 go_wp2_with (refine HC.out.mono ?_)
 rintro e w1 ⟨rfl, hb1⟩
 have HB1 := Lib.hid hb1
 have HA1 := Lib.hid (HA.out.below hb1)
 clear hb1 HA HC
 by_cases h0 : typesErr l = 0
 rotate_left
 ·have HE := Lib.hid (show wantedErr l ware r = typesErr l by unfold wantedErr; rw [if_neg h0])
  have hne : (typesErr l == 0) = false := by simpa using h0
  go_wp2_with fail
  go_ret
  exact ⟨ret_int HE.out.symm, HB1.out⟩
 have HC := Lib.hid (checkRingsR_any ra rc r w1 HA1.out.rg HA1.out.rsm HA1.out.rlen)
 have H0 := Lib.hid h0
 simp only [h0]
 clear h0
 go_wp2_with (refine HC.out.mono ?_)
 rintro e w2 ⟨rfl, hb2⟩
 have HB2 := Lib.hid (HB1.out.trans (hb2.mono HB1.out.size))
 have HA2 := Lib.hid (HA1.out.below hb2)
 clear hb2 HA1 HC HB1
 by_cases h1 : ringsErr r = 0
 rotate_left
 ·have HE := Lib.hid (show wantedErr l ware r = ringsErr r by unfold wantedErr; rw [if_pos H0.out, if_neg h1])
  have hne : (ringsErr r == 0) = false := by simpa using h1
  go_wp2_with fail
  go_ret
  exact ⟨ret_int HE.out.symm, HB2.out⟩
 have HE := Lib.hid (show wantedErr l ware r = if l.any (wareIs ware) then 0 else 40 by unfold wantedErr; rw [if_pos H0.out, if_pos h1])
 simp only [h1]
 clear h1 H0
 go_wp2_with fail
 go_loopw [8] (fun iv wr => ∃ k : Nat, k ≤ l.length ∧ iv = .int .i64 k ∧ (∀ (j : Nat) y, j < k → l[j]? = some y → wareIs ware y = false) ∧ w2 = wr) (fun iv _ => l.length - (intOf iv).toNat)
 case atStart => exact ⟨0, Nat.zero_le _, rfl, fun j _ hj => absurd hj (Nat.not_lt_zero j), rfl⟩
 case round =>
  obtain ⟨k, hk, rfl, hno, rfl⟩ := hrel
  have HNO := Lib.hid hno
  clear hno
  by_cases hlt : k < l.length
  ·obtain ⟨y, hy⟩ : ∃ y, l[k]? = some y := ⟨l[k], by simp [hlt]⟩
   obtain ⟨b, o, rfl, hat⟩ := HA2.out.ty k y hy
   have f1 := hat.fields.2.1
   have HY := Lib.hid hy
   have hki : (k : Int) < (l.length : Int) := by omega
   have hk0 : (0 : Int) ≤ (k : Int) := by omega
   have hkw : IntKind.i64.wrap ((k : Int) + 1) = (k : Int) + 1 := IntWalk.i64_in _ (by omega)
   clear hat hy
   rcases hq : (y.ware.toList == ware.toList) with _ | _
   ·have HREL := Lib.hid (show ∃ q : Nat, q ≤ l.length ∧ Value.int .i64 ((k : Int) + 1) = .int .i64 q ∧ (∀ (j : Nat) y, j < q → l[j]? = some y → wareIs ware y = false) ∧ True from ⟨k + 1, by omega, rfl, fun j z hj hz => by
     rcases Nat.lt_or_ge j k with h1 | h1
     ·exact HNO.out j z h1 hz
     ·have : j = k := by omega
      subst this
      rw [HY.out] at hz; cases hz; exact hq, trivial⟩)
    go_wp2_with fail
    exact ⟨by simpa using HREL.out, by simp [intOf]; omega⟩
   ·have HF := Lib.hid (show l.any (wareIs ware) = true from List.any_eq_true.2 ⟨y, List.mem_of_getElem? HY.out, hq⟩)
    go_wp2_with fail
    go_ret
    exact ⟨ret_int (by rw [HE.out, HF.out]; rfl), HB2.out⟩
  ·have hkn : decide ((k : Int) < (l.length : Int)) = false := by simp; omega
   have HF := Lib.hid (show l.any (wareIs ware) = false by
    rw [List.any_eq_false]
    intro y hy
    obtain ⟨j, hj⟩ := List.getElem?_of_mem hy
    rw [HNO.out j y (by have := (List.getElem?_eq_some_iff.1 hj).1; omega) hj]; simp)
   go_wp2_with fail
   go_ret
   exact ⟨ret_int (by rw [HE.out, HF.out]; rfl), HB2.out⟩
end Go.Proofs.YthpjffhccjlnhaaGreatDoor
