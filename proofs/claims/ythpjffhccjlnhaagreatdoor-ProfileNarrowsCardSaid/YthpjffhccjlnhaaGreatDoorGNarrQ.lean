/- ProfileNarrows, plain: rings with one class more fit still. No program. -/
import Derived.Test.YthpjffhccjlnhaaGreatDoorGNarrP
set_option linter.unusedSimpArgs false
set_option linter.unusedVariables false
namespace Go.Proofs.YthpjffhccjlnhaaGreatDoor
open Go.RowKit
theorem at_inj {r : List Rng} (ha : r.Pairwise fun x y => x.at_ < y.at_) {x y : Rng} (hx : x ∈ r) (hy : y ∈ r) (h : x.at_ = y.at_) : x = y := by
 obtain ⟨i, hi, rfl⟩ := List.getElem_of_mem hx
 obtain ⟨j, hj, rfl⟩ := List.getElem_of_mem hy
 rcases Nat.lt_trichotomy i j with h1 | h1 | h1
 ·have := List.pairwise_iff_getElem.1 ha i j hi hj h1; omega
 ·subst h1; rfl
 ·have := List.pairwise_iff_getElem.1 ha j i hj hi h1; omega
theorem cut_iff {r : List Rng} (ha : r.Pairwise fun x y => x.at_ < y.at_) (s p c : Nat) : cutOf r s p c = true ↔ ∀ y, y ∈ r → (s : Int) + y.at_ = p → hasC (bl y.set) c = true := by
 rw [cutOf_eq]
 rcases hf : ringF r s p with _ | z
 ·simp only [true_iff]
  intro y hy h
  have := List.find?_eq_none.1 hf y hy
  simp only [decide_eq_true_eq] at this
  exact absurd h this
 ·have hz : z ∈ r := List.mem_of_find?_eq_some hf
  have hzp : (s : Int) + z.at_ = p := by
   have := List.find?_some hf
   simpa using this
  constructor
  ·intro h y hy hyp
   have : y = z := at_inj ha hy hz (by omega)
   rw [this]; exact h
  ·intro h; exact h z hz hzp
theorem mem_withR {r : List Rng} (ha : r.Pairwise fun x y => x.at_ < y.at_) {a : Int} {set : ByteArray} {y : Rng} : y ∈ withR r a set ↔ (y ∈ r ∧ y.at_ < a) ∨ y = ⟨a, set⟩ ∨ (y ∈ r ∧ a < y.at_) := by
 rw [withR_form ha, List.mem_append, List.mem_cons, List.mem_filter, List.mem_filter]
 simp only [decide_eq_true_eq]
theorem withR_asc {r : List Rng} (ha : r.Pairwise fun x y => x.at_ < y.at_) (a : Int) (set : ByteArray) : (withR r a set).Pairwise fun x y => x.at_ < y.at_ := by
 rw [withR_form ha]
 refine List.pairwise_append.2 ⟨ha.filter _, List.pairwise_cons.2 ⟨fun y hy => ?_, ha.filter _⟩, fun x hx y hy => ?_⟩
 ·have := (List.mem_filter.1 hy).2
  simpa using this
 ·have h1 := (List.mem_filter.1 hx).2
  simp only [decide_eq_true_eq] at h1
  rcases List.mem_cons.1 hy with rfl | hy
  ·exact h1
  ·have h2 := (List.mem_filter.1 hy).2
   simp only [decide_eq_true_eq] at h2
   omega
/-- a class that stood may stand still, if it is the class asked for at its own place -/
theorem cut_with {r : List Rng} (ha : r.Pairwise fun x y => x.at_ < y.at_) {a : Int} {set : ByteArray} {s p c : Nat} (h : cutOf r s p c = true) (hp : (s : Int) + a = p → hasC (bl set) c = true) : cutOf (withR r a set) s p c = true := by
 rw [cut_iff (withR_asc ha a set)]
 intro y hy hyp
 rcases (mem_withR ha).1 hy with h1 | rfl | h1
 ·exact (cut_iff ha s p c).1 h y h1.1 hyp
 ·exact hp hyp
 ·exact (cut_iff ha s p c).1 h y h1.1 hyp
/-- the last place, of ascending rings -/
theorem last_le {r : List Rng} (ha : r.Pairwise fun x y => x.at_ < y.at_) {y : Rng} (hy : y ∈ r) : y.at_ ≤ lastAt r := by
 unfold lastAt
 rcases hl : r.getLast? with _ | z
 ·rw [List.getLast?_eq_none_iff] at hl
  rw [hl] at hy; cases hy
 ·simp only
  have hz : r ≠ [] := fun h => by rw [h] at hy; cases hy
  obtain ⟨A, hA⟩ : ∃ A, r = A ++ [z] := by
   refine ⟨r.dropLast, ?_⟩
   have := List.dropLast_concat_getLast hz
   rw [List.getLast?_eq_some_getLast hz] at hl
   rw [← Option.some.inj hl]; exact this.symm
  rw [hA] at hy ha
  rcases List.mem_append.1 hy with h | h
  ·have := (List.pairwise_append.1 ha).2.2 y h z (by simp); omega
  ·rw [List.mem_singleton] at h; rw [h]; exact Int.le_refl _
theorem last_with {r : List Rng} (ha : r.Pairwise fun x y => x.at_ < y.at_) {a : Int} {set : ByteArray} {m : Int} (h1 : a ≤ m) (h2 : lastAt r ≤ m) : lastAt (withR r a set) ≤ m := by
 unfold lastAt
 rcases hl : (withR r a set).getLast? with _ | z
 ·rw [List.getLast?_eq_none_iff] at hl
  have : (⟨a, set⟩ : Rng) ∈ withR r a set := (mem_withR ha).2 (.inr (.inl rfl))
  rw [hl] at this; cases this
 ·simp only
  have hz := List.mem_of_getLast? hl
  rcases (mem_withR ha).1 hz with h | rfl | h
  ·have := last_le ha h.1; omega
  ·exact h1
  ·have := last_le ha h.1; omega
/-- a class of Choices has a fit -/
theorem choices_one {l : List Typ} {ware : ByteArray} {r : List Rng} (ha : r.Pairwise fun x y => x.at_ < y.at_) (hte : typesErr l = 0) {a c : Nat} (hc : c < 26) (h : choicesT l ware r a c = true) : shiftsT l ware (withR r a (mkB [chC c])) ≠ [] := by
 unfold choicesT at h
 obtain ⟨f, hf, hw⟩ := List.any_eq_true.1 h
 rw [beq_iff_eq] at hw
 obtain ⟨t, h1, h2, h3, h4⟩ := memF4.1 hf
 obtain ⟨_, g1, g2, g3⟩ := typeB_good (types_at hte h1)
 obtain ⟨k1, k2, k3⟩ := (mem_fitL (Nat.le_refl _)).1 h4
 have hlt := (List.getElem?_eq_some_iff.1 hw).1
 have hm : (t.m : Int) = t.most := by unfold Typ.m; omega
 rw [Nat.sub_self, Nat.zero_add] at k3
 unfold leastOf4 at k3
 have hlast : lastAt (withR r a (mkB [chC c])) ≤ (f.word.length : Int) - 1 - f.shift := last_with ha (by omega) (by omega)
 intro hn
 have hne : withR r a (mkB [chC c]) ≠ [] := fun e => by
  have : (⟨a, mkB [chC c]⟩ : Rng) ∈ withR r a (mkB [chC c]) := (mem_withR ha).2 (.inr (.inl rfl))
  rw [e] at this; cases this
 have hs : f.shift < shiftsOf t (withR r a (mkB [chC c])) := by
  unfold shiftsOf
  rw [if_neg hne]; omega
 have hfit := (fits_none l ware _).1 hn f.type f.shift t (mem_tries.2 ⟨t, h1, h2, hs⟩) h1
 have hin : f.word ∈ fitsOf t (withR r a (mkB [chC c])) f.shift := by
  obtain ⟨e0, e1, e2, e3, e4, e5⟩ := chain_iff.1 k1
  refine (mem_fitL (Nat.le_refl _)).2 ⟨chain_iff.2 ⟨e0, e1, e2, fun j d hj => ?_, e4, e5⟩, k2, ?_⟩
  ·have hcut := e3 j d hj
   rw [Nat.sub_self, Nat.zero_add] at hcut ⊢
   refine cut_with ha hcut fun hp => ?_
   have hjp : j = f.shift + a := by omega
   rw [hjp, hw] at hj
   cases hj
   rw [bl_mkB, hasC_iff hc]; simp
  ·rw [Nat.sub_self, Nat.zero_add]
   unfold leastOf4
   omega
 rw [hfit] at hin
 cases hin
/-! a Set replaced -/
theorem last_map (r : List Rng) : lastAt r = ((r.map Rng.at_).getLast?).getD (-1) := by
 unfold lastAt
 rw [List.getLast?_map]
 rcases r.getLast? with _ | z <;> rfl
theorem set_map {r : List Rng} {k : Nat} {y : Rng} {set : ByteArray} (hy : r[k]? = some y) : (r.set k ⟨y.at_, set⟩).map Rng.at_ = r.map Rng.at_ := by
 rw [List.map_set]
 refine List.ext_getElem? fun j => ?_
 rw [List.getElem?_set]
 split
 ·rename_i e
  subst e
  split
  ·rw [List.getElem?_map, hy]; rfl
  ·rename_i h
   rw [List.getElem?_eq_none (by omega)]
 ·rfl
theorem set_asc {r : List Rng} (ha : r.Pairwise fun x y => x.at_ < y.at_) {k : Nat} {y : Rng} {set : ByteArray} (hy : r[k]? = some y) : (r.set k ⟨y.at_, set⟩).Pairwise fun x y => x.at_ < y.at_ := by
 have h : ((r.set k ⟨y.at_, set⟩).map Rng.at_).Pairwise (· < ·) := by
  rw [set_map hy, List.pairwise_map]; exact ha
 rwa [List.pairwise_map] at h
theorem last_set {r : List Rng} {k : Nat} {y : Rng} {set : ByteArray} (hy : r[k]? = some y) : lastAt r = lastAt (r.set k ⟨y.at_, set⟩) := by
 rw [last_map, last_map, set_map hy]
theorem cut_set {r : List Rng} (ha : r.Pairwise fun x y => x.at_ < y.at_) {k : Nat} {y : Rng} {set : ByteArray} (hy : r[k]? = some y) {s p c : Nat} (hsub : hasC (bl set) c = true → hasC (bl y.set) c = true) (h : cutOf (r.set k ⟨y.at_, set⟩) s p c = true) : cutOf r s p c = true := by
 rw [cut_iff ha]
 intro z hz hzp
 have h2 := (cut_iff (set_asc ha hy) s p c).1 h
 have hkl := (List.getElem?_eq_some_iff.1 hy).1
 obtain ⟨i, hi⟩ := List.getElem?_of_mem hz
 by_cases e : i = k
 ·subst e
  rw [hy] at hi
  cases hi
  exact hsub (h2 ⟨y.at_, set⟩ (List.mem_of_getElem? (i := i) (by rw [List.getElem?_set]; simp [hkl])) hzp)
 ·exact h2 z (List.mem_of_getElem? (i := i) (by rw [List.getElem?_set]; rw [if_neg (fun h => e h.symm)]; exact hi)) hzp
/-! a ring left out -/
theorem cut_sub {r r' : List Rng} (ha : r.Pairwise fun x y => x.at_ < y.at_) (hs : r'.Sublist r) {s p c : Nat} (h : cutOf r s p c = true) : cutOf r' s p c = true := by
 rw [cut_iff (ha.sublist hs)]
 intro z hz hzp
 exact (cut_iff ha s p c).1 h z (hs.subset hz) hzp
end Go.Proofs.YthpjffhccjlnhaaGreatDoor
