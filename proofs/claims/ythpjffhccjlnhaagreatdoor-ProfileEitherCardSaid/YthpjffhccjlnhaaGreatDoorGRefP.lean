/- The reference: ring, whole, Profile, blank: the plain functions. No condition. -/
import Derived.Test.YthpjffhccjlnhaaGreatDoorGRef7
import Derived.Test.YthpjffhccjlnhaaGreatDoorMG12
set_option linter.unusedSimpArgs false
set_option linter.unusedVariables false
namespace Go.Proofs.YthpjffhccjlnhaaGreatDoor
open Go.RowKit
theorem inL_set {l : List UInt8} (h : isSetB l = true) (x : UInt8) : inL l x = (letC x && hasC l (cl x)) := by
 rw [Bool.eq_iff_iff, Bool.and_eq_true]
 simp only [inL, List.contains_iff_mem]
 constructor
 ·intro hm
  have h1 := (asc_of_set h).2 x hm
  exact ⟨h1, (hasC_iff (cl_lt h1)).2 (by rw [ch_cl h1]; exact hm)⟩
 ·rintro ⟨h1, h2⟩
  have := (hasC_iff (cl_lt h1)).1 h2
  rwa [ch_cl h1] at this
theorem inL_ch {l : List UInt8} {c : Nat} (hc : c < 26) : inL l (chC c) = hasC l c := by
 rw [Bool.eq_iff_iff, hasC_iff hc]
 simp only [inL, List.contains_iff_mem]
theorem inL_aft {t : Typ} (ht : t.sets = true) (x y : UInt8) : inL (bl (aftS t x)) y = (letC x && letC y && t.kd.after (cl x) (cl y)) := by
 unfold aftS
 by_cases hx : letC x = true
 ·have h := hx
  simp [letC] at h
  rw [if_pos (by omega), hx, Bool.true_and, inL_set ((Typ.sets_iff.1 ht).2.2 _ (by omega))]; rfl
 ·have h : ¬ (97 ≤ x.toNat ∧ x.toNat ≤ 122) := by simpa [letC] using hx
  rw [if_neg h, show letC x = false by simpa using hx]; rfl
theorem profR_iff {t : Typ} (ht : t.sets = true) (h1 : 1 ≤ t.least) {w : List UInt8} : profB t.kd t.least t.most w = true ↔
  (t.least ≤ (w.length : Int) ∧ (w.length : Int) ≤ t.most) ∧ inL (bl t.rim) (w[0]?.getD 0) = true ∧ inL (bl t.base) (w[w.length - 1]?.getD 0) = true ∧ ∀ i, i + 1 < w.length → inL (bl (aftS t (w[i]?.getD 0))) (w[i + 1]?.getD 0) = true := by
 obtain ⟨s1, s2, s3⟩ := Typ.sets_iff.1 ht
 rw [inL_set s1, inL_set s2]
 simp only [profB, Bool.and_eq_true, decide_eq_true_eq, List.all_eq_true, List.mem_range, inL_aft ht]
 constructor
 ·rintro ⟨⟨⟨⟨hl, ha⟩, hk⟩, hr⟩, hb⟩
  have hlet : ∀ i, i < w.length → letC (w[i]?.getD 0) = true := fun i hi => ha _ (by simp [hi])
  have hn : 0 < w.length := by omega
  exact ⟨hl, ⟨hlet 0 hn, hr⟩, ⟨hlet _ (by omega), hb⟩, fun i hi => ⟨⟨hlet i (by omega), hlet (i + 1) hi⟩, hk i (by omega)⟩⟩
 ·rintro ⟨hl, ⟨g1, hr⟩, ⟨g2, hb⟩, hk⟩
  refine ⟨⟨⟨⟨hl, fun b hm => ?_⟩, fun i hi => (hk i (by omega)).2⟩, hr⟩, hb⟩
  obtain ⟨i, hi⟩ := List.getElem?_of_mem hm
  have hlt := (List.getElem?_eq_some_iff.1 hi).1
  by_cases h : i + 1 < w.length
  ·have := (hk i h).1.1
   rwa [hi] at this
  ·have e : i = w.length - 1 := by omega
   rw [e] at hi
   rwa [hi] at g2
def ringF (r : List Rng) (s p : Nat) : Option Rng := r.find? (fun y => decide ((s : Int) + y.at_ = p))
def ringS (r : List Rng) (s p : Nat) : ByteArray := match ringF r s p with | some y => y.set | none => mkB allS
theorem cutOf_eq (r : List Rng) (s p c : Nat) : cutOf r s p c = match ringF r s p with | some y => hasC (bl y.set) c | none => true := rfl
theorem ringS_cut (r : List Rng) (s p : Nat) {c : Nat} (hc : c < 26) : hasC (bl (ringS r s p)) c = cutOf r s p c := by
 rw [cutOf_eq]
 unfold ringS
 rcases ringF r s p with _ | y
 ·show hasC (bl (mkB allS)) c = true
  rw [bl_mkB, allS_eq, has_str hc]
 ·rfl
theorem ringS_set {r : List Rng} (h : ∀ y, y ∈ r → isSetB (bl y.set) = true) (s p : Nat) : isSetB (bl (ringS r s p)) = true := by
 unfold ringS
 rcases hf : ringF r s p with _ | y
 ·show isSetB (bl (mkB allS)) = true
  rw [bl_mkB, allS_eq]; exact set_str _
 ·exact h y (List.mem_of_find?_eq_some hf)
def wholeB (t : Typ) (r : List Rng) (s n : Nat) : Bool := decide (t.least ≤ (n : Int)) && decide ((n : Int) ≤ t.most) && (r.isEmpty || decide ((s : Int) + lastAt r < (n : Int)))
theorem whole_eq {t : Typ} {r : List Rng} {s n : Nat} (h1 : 1 ≤ t.least) (hs : s < shiftsOf t r) : wholeB t r s n = (decide (leastOf4 t r s ≤ (n : Int)) && decide ((n : Int) ≤ t.most)) := by
 rw [Bool.eq_iff_iff]
 simp only [wholeB, Bool.and_eq_true, Bool.or_eq_true, decide_eq_true_eq, List.isEmpty_iff]
 have hlo : leastOf4 t r s = max t.least ((s : Int) + lastAt r + 1) := rfl
 rw [hlo]
 rcases r with _ | ⟨y, r⟩
 ·have h0 : s = 0 := by simpa [shiftsOf] using hs
  have hl : lastAt [] = -1 := rfl
  rw [hl]
  simp only [true_or, and_true]
  omega
 ·simp only [reduceCtorEq, false_or]
  omega
/-- a fit, as the reference looks at it -/
theorem fitR_iff {t : Typ} {r : List Rng} {s : Nat} (h1 : 1 ≤ t.least) (hs : s < shiftsOf t r) (hr : ∀ y, y ∈ r → isSetB (bl y.set) = true) {w : List UInt8} : fitB t r s w = true ↔
  profB t.kd t.least t.most w = true ∧ wholeB t r s w.length = true ∧ ∀ p, p < w.length → inL (bl (ringS r s p)) (w[p]?.getD 0) = true := by
 simp only [fitB, Bool.and_eq_true, decide_eq_true_eq, List.all_eq_true, List.mem_range, whole_eq h1 hs]
 constructor
 ·rintro ⟨⟨hp, hl⟩, hc⟩
  have hp' := hp
  simp only [profB, Bool.and_eq_true, decide_eq_true_eq] at hp'
  refine ⟨hp, ⟨hl, hp'.1.1.1.1.2⟩, fun p hlt => ?_⟩
  have hlet : letC (w[p]?.getD 0) = true := List.all_eq_true.1 hp'.1.1.1.2 _ (by simp [hlt])
  rw [inL_set (ringS_set hr s p), hlet, Bool.true_and, ringS_cut _ _ _ (cl_lt hlet)]
  exact hc p hlt
 ·rintro ⟨hp, ⟨hl, _⟩, hc⟩
  refine ⟨⟨hp, hl⟩, fun p hlt => ?_⟩
  have := hc p hlt
  rw [inL_set (ringS_set hr s p), Bool.and_eq_true] at this
  rw [← ringS_cut _ _ _ (cl_lt this.1)]
  exact this.2
theorem checkFit_iff {l : List Typ} {ware : ByteArray} {r : List Rng} {i s : Int} {wd : ByteArray} : checkFitT l ware r i s wd = true ↔ ∃ (n k : Nat) (t : Typ), i = n ∧ s = k ∧ l[n]? = some t ∧ t.ware = ware ∧ k < shiftsOf t r ∧ fitB t r k (bl wd) = true := by
 constructor
 ·intro h
  unfold checkFitT at h
  obtain ⟨⟨n, k⟩, hx, hh⟩ := List.any_eq_true.1 h
  simp only [Bool.and_eq_true, beq_iff_eq] at hh
  obtain ⟨t, h1, h2, h3⟩ := mem_tries.1 hx
  refine ⟨n, k, t, hh.1.1.symm, hh.1.2.symm, h1, h2, h3, ?_⟩
  have := hh.2
  simpa [fitsX, h1] using this
 ·rintro ⟨n, k, t, rfl, rfl, h1, h2, h3, h4⟩
  rw [checkFit_at h1 (mem_tries.2 ⟨t, h1, h2, h3⟩)]; exact h4
/-- a class that comes behind some class of a set -/
theorem comes_eq {t : Typ} (ht : t.sets = true) {l : List UInt8} (hl : isSetB l = true) {c : Nat} (hc : c < 26) : l.any (fun x => inL (bl (aftS t x)) (chC c)) = any26 fun d => hasC l d && t.kd.after d c := by
 rw [Bool.eq_iff_iff, List.any_eq_true, any26_iff]
 constructor
 ·rintro ⟨x, hx, h⟩
  rw [inL_aft ht] at h
  simp only [Bool.and_eq_true] at h
  refine ⟨cl x, cl_lt h.1.1, ?_⟩
  rw [Bool.and_eq_true]
  refine ⟨(hasC_iff (cl_lt h.1.1)).2 (by rw [ch_cl h.1.1]; exact hx), ?_⟩
  have := h.2
  rwa [cl_ch hc] at this
 ·rintro ⟨d, hd, h⟩
  rw [Bool.and_eq_true] at h
  refine ⟨chC d, (hasC_iff hd).1 h.1, ?_⟩
  rw [inL_aft ht, let_ch hd, let_ch hc, cl_ch hd, cl_ch hc]
  simpa using h.2
theorem both_some {a b : List UInt8} (ha : isSetB a = true) (hb : isSetB b = true) : (bothL a b).isEmpty = !(any26 fun c => hasC a c && hasC b c) := by
 rw [both_set ha hb, Bool.eq_iff_iff, List.isEmpty_iff, str_nil, Bool.not_eq_true', any26_false]
end Go.Proofs.YthpjffhccjlnhaaGreatDoor
