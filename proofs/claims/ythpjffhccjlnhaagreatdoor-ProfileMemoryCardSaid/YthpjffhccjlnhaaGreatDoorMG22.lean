/- The reference: ring, whole, Profile, blank: the plain functions. No condition. -/
/- The reference: asked, shifts, ring, whole. No condition. -/
import Derived.Test.YthpjffhccjlnhaaGreatDoorMG21
import Derived.Test.YthpjffhccjlnhaaGreatDoorMG12
set_option linter.unusedSimpArgs false
set_option linter.unusedVariables false
namespace Go.Proofs.YthpjffhccjlnhaaGreatDoor
open Go.RowKit
theorem inL_set {l : List UInt8} (h : isSetB l = true) (x : UInt8) : inL l x = (letC x && hasC l (cl x)) := by
 rw [Bool.eq_iff_iff, Bool.and_eq_true]
 simp only [inL, List.contains_iff_mem]
 constructor
 ·intro hm
  have h1 := (asc_of_set h).2 x hm
  exact ⟨h1, (hasC_iff (cl_lt h1)).2 (by rw [ch_cl h1]; exact hm)⟩
 ·rintro ⟨h1, h2⟩
  have := (hasC_iff (cl_lt h1)).1 h2
  rwa [ch_cl h1] at this
theorem inL_ch {l : List UInt8} {c : Nat} (hc : c < 26) : inL l (chC c) = hasC l c := by
 rw [Bool.eq_iff_iff, hasC_iff hc]
 simp only [inL, List.contains_iff_mem]
theorem inL_aft {t : Typ} (ht : t.sets = true) (x y : UInt8) : inL (bl (aftS t x)) y = (letC x && letC y && t.kd.after (cl x) (cl y)) := by
 unfold aftS
 by_cases hx : letC x = true
 ·have h := hx
  simp [letC] at h
  rw [if_pos (by omega), hx, Bool.true_and, inL_set ((Typ.sets_iff.1 ht).2.2 _ (by omega))]; rfl
 ·have h : ¬ (97 ≤ x.toNat ∧ x.toNat ≤ 122) := by simpa [letC] using hx
  rw [if_neg h, show letC x = false by simpa using hx]; rfl
theorem profR_iff {t : Typ} (ht : t.sets = true) (h1 : 1 ≤ t.least) {w : List UInt8} : profB t.kd t.least t.most w = true ↔
  (t.least ≤ (w.length : Int) ∧ (w.length : Int) ≤ t.most) ∧ inL (bl t.rim) (w[0]?.getD 0) = true ∧ inL (bl t.base) (w[w.length - 1]?.getD 0) = true ∧ ∀ i, i + 1 < w.length → inL (bl (aftS t (w[i]?.getD 0))) (w[i + 1]?.getD 0) = true := by
 obtain ⟨s1, s2, s3⟩ := Typ.sets_iff.1 ht
 rw [inL_set s1, inL_set s2]
 simp only [profB, Bool.and_eq_true, decide_eq_true_eq, List.all_eq_true, List.mem_range, inL_aft ht]
 constructor
 ·rintro ⟨⟨⟨⟨hl, ha⟩, hk⟩, hr⟩, hb⟩
  have hlet : ∀ i, i < w.length → letC (w[i]?.getD 0) = true := fun i hi => ha _ (by simp [hi])
  have hn : 0 < w.length := by omega
  exact ⟨hl, ⟨hlet 0 hn, hr⟩, ⟨hlet _ (by omega), hb⟩, fun i hi => ⟨⟨hlet i (by omega), hlet (i + 1) hi⟩, hk i (by omega)⟩⟩
 ·rintro ⟨hl, ⟨g1, hr⟩, ⟨g2, hb⟩, hk⟩
  refine ⟨⟨⟨⟨hl, fun b hm => ?_⟩, fun i hi => (hk i (by omega)).2⟩, hr⟩, hb⟩
  obtain ⟨i, hi⟩ := List.getElem?_of_mem hm
  have hlt := (List.getElem?_eq_some_iff.1 hi).1
  by_cases h : i + 1 < w.length
  ·have := (hk i h).1.1
   rwa [hi] at this
  ·have e : i = w.length - 1 := by omega
   rw [e] at hi
   rwa [hi] at g2
def ringF (r : List Rng) (s p : Nat) : Option Rng := r.find? (fun y => decide ((s : Int) + y.at_ = p))
def ringS (r : List Rng) (s p : Nat) : ByteArray := match ringF r s p with | some y => y.set | none => mkB allS
theorem cutOf_eq (r : List Rng) (s p c : Nat) : cutOf r s p c = match ringF r s p with | some y => hasC (bl y.set) c | none => true := rfl
theorem ringS_cut (r : List Rng) (s p : Nat) {c : Nat} (hc : c < 26) : hasC (bl (ringS r s p)) c = cutOf r s p c := by
 rw [cutOf_eq]
 unfold ringS
 rcases ringF r s p with _ | y
 ·show hasC (bl (mkB allS)) c = true
  rw [bl_mkB, allS_eq, has_str hc]
 ·rfl
theorem ringS_set {r : List Rng} (h : ∀ y, y ∈ r → isSetB (bl y.set) = true) (s p : Nat) : isSetB (bl (ringS r s p)) = true := by
 unfold ringS
 rcases hf : ringF r s p with _ | y
 ·show isSetB (bl (mkB allS)) = true
  rw [bl_mkB, allS_eq]; exact set_str _
 ·exact h y (List.mem_of_find?_eq_some hf)
def wholeB (t : Typ) (r : List Rng) (s n : Nat) : Bool := decide (t.least ≤ (n : Int)) && decide ((n : Int) ≤ t.most) && (r.isEmpty || decide ((s : Int) + lastAt r < (n : Int)))
theorem whole_eq {t : Typ} {r : List Rng} {s n : Nat} (h1 : 1 ≤ t.least) (hs : s < shiftsOf t r) : wholeB t r s n = (decide (leastOf4 t r s ≤ (n : Int)) && decide ((n : Int) ≤ t.most)) := by
 rw [Bool.eq_iff_iff]
 simp only [wholeB, Bool.and_eq_true, Bool.or_eq_true, decide_eq_true_eq, List.isEmpty_iff]
 have hlo : leastOf4 t r s = max t.least ((s : Int) + lastAt r + 1) := rfl
 rw [hlo]
 rcases r with _ | ⟨y, r⟩
 ·have h0 : s = 0 := by simpa [shiftsOf] using hs
  have hl : lastAt [] = -1 := rfl
  rw [hl]
  simp only [true_or, and_true]
  omega
 ·simp only [reduceCtorEq, false_or]
  omega
/-- a fit, as the reference looks at it -/
theorem fitR_iff {t : Typ} {r : List Rng} {s : Nat} (h1 : 1 ≤ t.least) (hs : s < shiftsOf t r) (hr : ∀ y, y ∈ r → isSetB (bl y.set) = true) {w : List UInt8} : fitB t r s w = true ↔
  profB t.kd t.least t.most w = true ∧ wholeB t r s w.length = true ∧ ∀ p, p < w.length → inL (bl (ringS r s p)) (w[p]?.getD 0) = true := by
 simp only [fitB, Bool.and_eq_true, decide_eq_true_eq, List.all_eq_true, List.mem_range, whole_eq h1 hs]
 constructor
 ·rintro ⟨⟨hp, hl⟩, hc⟩
  have hp' := hp
  simp only [profB, Bool.and_eq_true, decide_eq_true_eq] at hp'
  refine ⟨hp, ⟨hl, hp'.1.1.1.1.2⟩, fun p hlt => ?_⟩
  have hlet : letC (w[p]?.getD 0) = true := List.all_eq_true.1 hp'.1.1.1.2 _ (by simp [hlt])
  rw [inL_set (ringS_set hr s p), hlet, Bool.true_and, ringS_cut _ _ _ (cl_lt hlet)]
  exact hc p hlt
 ·rintro ⟨hp, ⟨hl, _⟩, hc⟩
  refine ⟨⟨hp, hl⟩, fun p hlt => ?_⟩
  have := hc p hlt
  rw [inL_set (ringS_set hr s p), Bool.and_eq_true] at this
  rw [← ringS_cut _ _ _ (cl_lt this.1)]
  exact this.2
theorem checkFit_iff {l : List Typ} {ware : ByteArray} {r : List Rng} {i s : Int} {wd : ByteArray} : checkFitT l ware r i s wd = true ↔ ∃ (n k : Nat) (t : Typ), i = n ∧ s = k ∧ l[n]? = some t ∧ t.ware = ware ∧ k < shiftsOf t r ∧ fitB t r k (bl wd) = true := by
 constructor
 ·intro h
  unfold checkFitT at h
  obtain ⟨⟨n, k⟩, hx, hh⟩ := List.any_eq_true.1 h
  simp only [Bool.and_eq_true, beq_iff_eq] at hh
  obtain ⟨t, h1, h2, h3⟩ := mem_tries.1 hx
  refine ⟨n, k, t, hh.1.1.symm, hh.1.2.symm, h1, h2, h3, ?_⟩
  have := hh.2
  simpa [fitsX, h1] using this
 ·rintro ⟨n, k, t, rfl, rfl, h1, h2, h3, h4⟩
  rw [checkFit_at h1 (mem_tries.2 ⟨t, h1, h2, h3⟩)]; exact h4
/-- a class that comes behind some class of a set -/
theorem comes_eq {t : Typ} (ht : t.sets = true) {l : List UInt8} (hl : isSetB l = true) {c : Nat} (hc : c < 26) : l.any (fun x => inL (bl (aftS t x)) (chC c)) = any26 fun d => hasC l d && t.kd.after d c := by
 rw [Bool.eq_iff_iff, List.any_eq_true, any26_iff]
 constructor
 ·rintro ⟨x, hx, h⟩
  rw [inL_aft ht] at h
  simp only [Bool.and_eq_true] at h
  refine ⟨cl x, cl_lt h.1.1, ?_⟩
  rw [Bool.and_eq_true]
  refine ⟨(hasC_iff (cl_lt h.1.1)).2 (by rw [ch_cl h.1.1]; exact hx), ?_⟩
  have := h.2
  rwa [cl_ch hc] at this
 ·rintro ⟨d, hd, h⟩
  rw [Bool.and_eq_true] at h
  refine ⟨chC d, (hasC_iff hd).1 h.1, ?_⟩
  rw [inL_aft ht, let_ch hd, let_ch hc, cl_ch hd, cl_ch hc]
  simpa using h.2
theorem both_some {a b : List UInt8} (ha : isSetB a = true) (hb : isSetB b = true) : (bothL a b).isEmpty = !(any26 fun c => hasC a c && hasC b c) := by
 rw [both_set ha hb, Bool.eq_iff_iff, List.isEmpty_iff, str_nil, Bool.not_eq_true', any26_false]
end Go.Proofs.YthpjffhccjlnhaaGreatDoor
namespace Go.Proofs.YthpjffhccjlnhaaGreatDoor
open Go.RowKit
attribute [local go_sem] Oper.semAt_some

theorem find_first {α : Type} {l : List α} {P : α → Bool} {k : Nat} {y : α} (hk : l[k]? = some y) (hP : P y = true) (hn : ∀ (j : Nat) x, j < k → l[j]? = some x → P x = false) : l.find? P = some y := by
 induction l generalizing k with
 | nil => simp at hk
 | cons a l ih =>
  cases k with
  | zero =>
   simp at hk
   subst hk
   rw [List.find?_cons, hP]
  | succ k =>
   have ha := hn 0 a (by omega) rfl
   rw [List.find?_cons, ha]
   exact ih (k := k) (by simpa using hk) fun j x hj hx => hn (j + 1) x (by omega) (by simpa using hx)
theorem find_no {α : Type} {l : List α} {P : α → Bool} (hn : ∀ (j : Nat) x, l[j]? = some x → P x = false) : l.find? P = none := by
 rw [List.find?_eq_none]
 intro x hx
 obtain ⟨j, hj⟩ := List.getElem?_of_mem hx
 rw [hn j x hj]; simp
/-- rings that are as said -/
structure RgOk (r : List Rng) : Prop where
 len : r.length ≤ 12
 at0 : ∀ y, y ∈ r → 0 ≤ y.at_ ∧ y.at_ ≤ 11
 set : ∀ y, y ∈ r → isSetB (bl y.set) = true
theorem RgOk.of {r : List Rng} (h : ringsErr r = 0) : RgOk r := by
 obtain ⟨h1, h2⟩ := ringsErr_good h
 refine ⟨h1, fun y hy => ?_, fun y hy => ?_⟩
 ·obtain ⟨i, hi⟩ := List.getElem?_of_mem hy
  have := (h2 i y hi).1
  simpa [inB] using this
 ·obtain ⟨i, hi⟩ := List.getElem?_of_mem hy
  exact (h2 i y hi).2.2.1
theorem last_at {r : List Rng} {n : Nat} {y : Rng} (hn : r.length = n + 1) (hy : r[n]? = some y) : lastAt r = y.at_ := by
 unfold lastAt
 rw [List.getLast?_eq_getElem?, show r.length - 1 = n by omega, hy]
set_option maxHeartbeats 1000000 in
theorem ringR_any (ra : Option Addr) (rc : Nat) (r : List Rng) (s p : Nat) (hs : s ≤ 1000) (hg : RgOk r) (w : World) (h : RngsAt w ra r) :
  Calls Tryz.prog 112 #[.slice ra r.length rc, .int .i64 (s : Int), .int .i64 (p : Int)] w fun e w' => e = .returned (.string (ringS r s p)) ∧ w' = w := by
 have HM := Lib.hid h
 have HG := Lib.hid hg
 have hr12 := hg.len
 clear h hg
 go_enter Tryz.func112, Tryz.ntmps112
 go_wp2_with fail
 go_loopw [7] (fun iv wr => ∃ k : Nat, k ≤ r.length ∧ iv = .int .i64 k ∧ (∀ (j : Nat) y, j < k → r[j]? = some y → decide ((s : Int) + y.at_ = p) = false) ∧ w = wr) (fun iv _ => r.length - (intOf iv).toNat)
 case atStart => exact ⟨0, Nat.zero_le _, rfl, fun j _ hj => absurd hj (Nat.not_lt_zero j), rfl⟩
 case round =>
  obtain ⟨k, hk, rfl, hno, rfl⟩ := hrel
  have HNO := Lib.hid hno
  clear hno
  by_cases hlt : k < r.length
  ·obtain ⟨y, hy⟩ : ∃ y, r[k]? = some y := ⟨r[k], by simp [hlt]⟩
   obtain ⟨b, o, rfl, hat⟩ := HM.out k y hy
   obtain ⟨f1, f2⟩ := hat.fields
   have hya := HG.out.at0 y (List.mem_of_getElem? hy)
   have HY := Lib.hid hy
   have hki : (k : Int) < (r.length : Int) := by omega
   have hk0 : (0 : Int) ≤ (k : Int) := by omega
   have hkw : IntKind.i64.wrap ((k : Int) + 1) = (k : Int) + 1 := IntWalk.i64_in _ (by omega)
   have hsw : IntKind.i64.wrap ((s : Int) + y.at_) = (s : Int) + y.at_ := IntWalk.i64_in _ (by omega)
   clear hat hy
   by_cases hq : (s : Int) + y.at_ = p
   ·have hqb : ((s : Int) + y.at_ == (p : Int)) = true := by simpa using hq
    have HF := Lib.hid (show ringS r s p = y.set by unfold ringS ringF; rw [find_first HY.out (by simpa using hq) HNO.out])
    go_wp2_with fail
    go_ret
    exact ⟨by rw [HF.out]; rfl, rfl⟩
   ·have hqb : ((s : Int) + y.at_ == (p : Int)) = false := by simpa using hq
    have HREL := Lib.hid (show ∃ q : Nat, q ≤ r.length ∧ Value.int .i64 ((k : Int) + 1) = .int .i64 q ∧ (∀ (j : Nat) y, j < q → r[j]? = some y → decide ((s : Int) + y.at_ = p) = false) ∧ True from ⟨k + 1, by omega, rfl, fun j z hj hz => by
     rcases Nat.lt_or_ge j k with h1 | h1
     ·exact HNO.out j z h1 hz
     ·have : j = k := by omega
      subst this
      rw [HY.out] at hz; cases hz; simpa using hq, trivial⟩)
    go_wp2_with fail
    exact ⟨by simpa using HREL.out, by simp [intOf]; omega⟩
  ·have hkn : decide ((k : Int) < (r.length : Int)) = false := by simp; omega
   have HF := Lib.hid (show ringS r s p = mkB allS by unfold ringS ringF; rw [find_no fun j y hy => HNO.out j y (by have := (List.getElem?_eq_some_iff.1 hy).1; omega) hy])
   go_wp2_with fail
   go_ret
   exact ⟨by rw [HF.out]; rfl, rfl⟩
set_option maxRecDepth 100000 in
set_option maxHeartbeats 1000000 in
theorem shiftsR_any (t : Typ) (ra : Option Addr) (rc : Nat) (r : List Rng) (hm : 0 ≤ t.most ∧ t.most ≤ 12) (hg : RgOk r) (w : World) (h : RngsAt w ra r) :
  Calls Tryz.prog 107 #[.agg (typCells t), .slice ra r.length rc] w fun e w' => e = .returned (.int .i64 (shiftsOf t r : Nat)) ∧ Below w.heap.size w w' := by
 obtain ⟨w1, hw1⟩ : ∃ w1, w.alloc (.cells (typCells t) 71) = w1 := ⟨_, rfl⟩
 have b0 : TypAt w1 w.heap.size 0 t := by rw [← hw1]; exact Box.typ (Box.new _ _ _)
 have hB : Below w.heap.size w w1 := by rw [← hw1]; go_grown
 have HB := Lib.hid hB
 have HW := Lib.hid hw1
 have HR := Lib.hid (h.below hB)
 have c3 := b0.fields.2.2.2.1
 simp only [Nat.zero_add] at c3
 clear b0 hB hw1 h
 rcases hn : r.length with _ | n
 ·have HE := Lib.hid (show shiftsOf t r = 1 by unfold shiftsOf; rw [if_pos (List.length_eq_zero_iff.1 hn)])
  go_enter Tryz.func107, Tryz.ntmps107
  go_upto_region 1 with fail
  simp only [HW.out]
  go_wp2_with fail
  go_ret
  exact ⟨by rw [HE.out]; rfl, HB.out⟩
 ·obtain ⟨y, hy⟩ : ∃ y, r[n]? = some y := ⟨r[n], by simp [hn]⟩
  obtain ⟨b, o, rfl, hat⟩ := HR.out n y hy
  obtain ⟨f1, f2⟩ := hat.fields
  have hya := hg.at0 y (List.mem_of_getElem? hy)
  have hn12 := hg.len
  have HE := Lib.hid (show ((shiftsOf t r : Nat) : Int) = max 0 (t.most - y.at_) by
   unfold shiftsOf
   rw [if_neg (fun e => by rw [e] at hn; simp at hn), last_at hn hy]
   omega)
  have hq : (((n : Int) + 1) == 0) = false := by rw [beq_eq_false_iff_ne]; omega
  have hw2 : IntKind.i64.wrap (n : Int) = (n : Int) := IntWalk.i64_in _ (by omega)
  have hw3 : IntKind.i64.wrap (t.most - y.at_) = t.most - y.at_ := IntWalk.i64_in _ (by omega)
  have hn0 : (0 : Int) ≤ (n : Int) := by omega
  have hn1 : (n : Int) < (n : Int) + 1 := by omega
  clear hat hy
  go_enter Tryz.func107, Tryz.ntmps107
  go_upto_region 1 with fail
  simp only [HW.out]
  go_wp2_with fail
  go_quiet (fail)
  go_wp2_with fail
  go_ret
  exact ⟨by rw [HE.out]; rfl, below_drewN HB.out _⟩
set_option maxRecDepth 100000 in
set_option maxHeartbeats 1000000 in
theorem wholeR_any (t : Typ) (ra : Option Addr) (rc : Nat) (r : List Rng) (s n : Nat) (hs : s ≤ 1000) (hg : RgOk r) (w : World) (h : RngsAt w ra r) :
  Calls Tryz.prog 111 #[.agg (typCells t), .slice ra r.length rc, .int .i64 (s : Int), .int .i64 (n : Int)] w fun e w' => e = .returned (.bool (wholeB t r s n)) ∧ Below w.heap.size w w' := by
 obtain ⟨w1, hw1⟩ : ∃ w1, w.alloc (.cells (typCells t) 71) = w1 := ⟨_, rfl⟩
 have b0 : TypAt w1 w.heap.size 0 t := by rw [← hw1]; exact Box.typ (Box.new _ _ _)
 have hB : Below w.heap.size w w1 := by rw [← hw1]; go_grown
 have HB := Lib.hid hB
 have HW := Lib.hid hw1
 have HR := Lib.hid (h.below hB)
 have c2 := b0.fields.2.2.1
 have c3 := b0.fields.2.2.2.1
 simp only [Nat.zero_add] at c2 c3
 clear b0 hB hw1 h
 rcases hb1 : decide (t.least ≤ (n : Int)) with _ | _
 ·have HE := Lib.hid (show wholeB t r s n = false by unfold wholeB; rw [hb1]; rfl)
  go_enter Tryz.func111, Tryz.ntmps111
  go_upto_region 1 with fail
  simp only [HW.out]
  go_wp2_with fail
  go_ret
  exact ⟨by rw [HE.out]; rfl, HB.out⟩
 rcases hb2 : decide ((n : Int) ≤ t.most) with _ | _
 ·have HE := Lib.hid (show wholeB t r s n = false by unfold wholeB; rw [hb1, hb2]; rfl)
  go_enter Tryz.func111, Tryz.ntmps111
  go_upto_region 1 with fail
  simp only [HW.out]
  go_wp2_with fail
  go_ret
  exact ⟨by rw [HE.out]; rfl, HB.out⟩
 rcases hn : r.length with _ | m
 ·have HE := Lib.hid (show wholeB t r s n = true by unfold wholeB; rw [hb1, hb2, List.length_eq_zero_iff.1 hn]; rfl)
  go_enter Tryz.func111, Tryz.ntmps111
  go_upto_region 1 with fail
  simp only [HW.out]
  go_wp2_with fail
  go_ret
  exact ⟨by rw [HE.out]; rfl, HB.out⟩
 ·obtain ⟨y, hy⟩ : ∃ y, r[m]? = some y := ⟨r[m], by simp [hn]⟩
  obtain ⟨b, o, rfl, hat⟩ := HR.out m y hy
  obtain ⟨f1, f2⟩ := hat.fields
  have hya := hg.at0 y (List.mem_of_getElem? hy)
  have hn12 := hg.len
  have HE := Lib.hid (show wholeB t r s n = decide ((s : Int) + y.at_ < (n : Int)) by
   unfold wholeB
   rw [hb1, hb2, last_at hn hy]
   rcases r with _ | ⟨z, r⟩
   ·simp at hn
   ·rfl)
  have hq : (((m : Int) + 1) == 0) = false := by rw [beq_eq_false_iff_ne]; omega
  have hw2 : IntKind.i64.wrap (m : Int) = (m : Int) := IntWalk.i64_in _ (by omega)
  have hw3 : IntKind.i64.wrap ((s : Int) + y.at_) = (s : Int) + y.at_ := IntWalk.i64_in _ (by omega)
  have hn0 : (0 : Int) ≤ (m : Int) := by omega
  have hn1 : (m : Int) < (m : Int) + 1 := by omega
  clear hat hy
  go_enter Tryz.func111, Tryz.ntmps111
  go_upto_region 1 with fail
  simp only [HW.out]
  go_wp2_with fail
  go_ret
  exact ⟨by rw [HE.out]; rfl, HB.out⟩
set_option maxHeartbeats 1000000 in
theorem askedR_any (a : Option Addr) (c : Nat) (l : List Typ) (ware : ByteArray) (ra : Option Addr) (rc : Nat) (r : List Rng) (w : World) (h : Ask w a c l ra rc r) :
  Calls Tryz.prog 93 #[.slice a l.length c, .string ware, .slice ra r.length rc] w fun e w' => e = .returned (.int .i64 (wantedErr l ware r)) ∧ Below w.heap.size w w' := by
 have HA := Lib.hid h
 have HC := Lib.hid (checkTypesR_any a c l w h.ty h.sm h.tlen)
 have hll := h.tlen
 clear h
 go_enter Tryz.func93, Tryz.ntmps93
 go_wp2_with (refine HC.out.mono ?_)
 rintro e w1 ⟨rfl, hb1⟩
 have HB1 := Lib.hid hb1
 have HA1 := Lib.hid (HA.out.below hb1)
 clear hb1 HA HC
 by_cases h0 : typesErr l = 0
 rotate_left
 ·have HE := Lib.hid (show wantedErr l ware r = typesErr l by unfold wantedErr; rw [if_neg h0])
  have hne : (typesErr l == 0) = false := by simpa using h0
  go_wp2_with fail
  go_ret
  exact ⟨ret_int HE.out.symm, HB1.out⟩
 have HC := Lib.hid (checkRingsR_any ra rc r w1 HA1.out.rg HA1.out.rsm HA1.out.rlen)
 have H0 := Lib.hid h0
 simp only [h0]
 clear h0
 go_wp2_with (refine HC.out.mono ?_)
 rintro e w2 ⟨rfl, hb2⟩
 have HB2 := Lib.hid (HB1.out.trans (hb2.mono HB1.out.size))
 have HA2 := Lib.hid (HA1.out.below hb2)
 clear hb2 HA1 HC HB1
 by_cases h1 : ringsErr r = 0
 rotate_left
 ·have HE := Lib.hid (show wantedErr l ware r = ringsErr r by unfold wantedErr; rw [if_pos H0.out, if_neg h1])
  have hne : (ringsErr r == 0) = false := by simpa using h1
  go_wp2_with fail
  go_ret
  exact ⟨ret_int HE.out.symm, HB2.out⟩
 have HE := Lib.hid (show wantedErr l ware r = if l.any (wareIs ware) then 0 else 40 by unfold wantedErr; rw [if_pos H0.out, if_pos h1])
 simp only [h1]
 clear h1 H0
 go_wp2_with fail
 go_loopw [8] (fun iv wr => ∃ k : Nat, k ≤ l.length ∧ iv = .int .i64 k ∧ (∀ (j : Nat) y, j < k → l[j]? = some y → wareIs ware y = false) ∧ w2 = wr) (fun iv _ => l.length - (intOf iv).toNat)
 case atStart => exact ⟨0, Nat.zero_le _, rfl, fun j _ hj => absurd hj (Nat.not_lt_zero j), rfl⟩
 case round =>
  obtain ⟨k, hk, rfl, hno, rfl⟩ := hrel
  have HNO := Lib.hid hno
  clear hno
  by_cases hlt : k < l.length
  ·obtain ⟨y, hy⟩ : ∃ y, l[k]? = some y := ⟨l[k], by simp [hlt]⟩
   obtain ⟨b, o, rfl, hat⟩ := HA2.out.ty k y hy
   have f1 := hat.fields.2.1
   have HY := Lib.hid hy
   have hki : (k : Int) < (l.length : Int) := by omega
   have hk0 : (0 : Int) ≤ (k : Int) := by omega
   have hkw : IntKind.i64.wrap ((k : Int) + 1) = (k : Int) + 1 := IntWalk.i64_in _ (by omega)
   clear hat hy
   rcases hq : (y.ware.toList == ware.toList) with _ | _
   ·have HREL := Lib.hid (show ∃ q : Nat, q ≤ l.length ∧ Value.int .i64 ((k : Int) + 1) = .int .i64 q ∧ (∀ (j : Nat) y, j < q → l[j]? = some y → wareIs ware y = false) ∧ True from ⟨k + 1, by omega, rfl, fun j z hj hz => by
     rcases Nat.lt_or_ge j k with h1 | h1
     ·exact HNO.out j z h1 hz
     ·have : j = k := by omega
      subst this
      rw [HY.out] at hz; cases hz; exact hq, trivial⟩)
    go_wp2_with fail
    exact ⟨by simpa using HREL.out, by simp [intOf]; omega⟩
   ·have HF := Lib.hid (show l.any (wareIs ware) = true from List.any_eq_true.2 ⟨y, List.mem_of_getElem? HY.out, hq⟩)
    go_wp2_with fail
    go_ret
    exact ⟨ret_int (by rw [HE.out, HF.out]; rfl), HB2.out⟩
  ·have hkn : decide ((k : Int) < (l.length : Int)) = false := by simp; omega
   have HF := Lib.hid (show l.any (wareIs ware) = false by
    rw [List.any_eq_false]
    intro y hy
    obtain ⟨j, hj⟩ := List.getElem?_of_mem hy
    rw [HNO.out j y (by have := (List.getElem?_eq_some_iff.1 hj).1; omega) hj]; simp)
   go_wp2_with fail
   go_ret
   exact ⟨ret_int (by rw [HE.out, HF.out]; rfl), HB2.out⟩
theorem wanted_typ {l : List Typ} {ware : ByteArray} {r : List Rng} (h : wantedErr l ware r = 0) : typesErr l = 0 ∧ ringsErr r = 0 := by
 unfold wantedErr at h
 split at h
 ·rename_i h1
  split at h
  ·rename_i h2; exact ⟨h1, h2⟩
  ·exact absurd h (by assumption)
 ·exact absurd h (by assumption)
theorem types_at {l : List Typ} (h : typesErr l = 0) {n : Nat} {t : Typ} (ht : l[n]? = some t) : typeB t = true := by
 unfold typesErr at h
 split at h
 ·cases h
 ·have := firstE_zero h n (List.getElem?_eq_some_iff.1 ht).1
  rw [typErr_eq ht] at this
  rcases hb : typeB t with _ | _
  ·rw [hb] at this; simp at this
  ·rfl
theorem ware_ne {x y : ByteArray} (h : (x.toList == y.toList) = false) : x ≠ y := fun e => by rw [e] at h; simp at h
theorem ware_eq {x y : ByteArray} (h : (x.toList == y.toList) = true) : x = y := by
 rw [beq_iff_eq, ByteArray.toList_eq, ByteArray.toList_eq] at h
 rw [← mkB_bl x, ← mkB_bl y]
 exact congrArg mkB h
end Go.Proofs.YthpjffhccjlnhaaGreatDoor
