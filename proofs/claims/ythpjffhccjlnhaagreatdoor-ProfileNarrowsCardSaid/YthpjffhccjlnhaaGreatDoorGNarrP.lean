/- ProfileNarrows, plain: fewer fits with narrower rings; rings with one class more. No program. -/
import Derived.Test.YthpjffhccjlnhaaGreatDoorGWith
set_option linter.unusedSimpArgs false
set_option linter.unusedVariables false
namespace Go.Proofs.YthpjffhccjlnhaaGreatDoor
open Go.RowKit
theorem fits_sub {t : Typ} {r r' : List Rng} {s : Nat} {w : List Nat} (hc : ∀ p c, cutOf r' s p c = true → cutOf r s p c = true) (hl : lastAt r = lastAt r') (h : w ∈ fitsOf t r' s) : w ∈ fitsOf t r s :=
 fitL_mono hc (by unfold leastOf4; rw [hl]; exact Int.le_refl _) h
theorem shifts_same {t : Typ} {r r' : List Rng} (hl : lastAt r = lastAt r') (he : r = [] ↔ r' = []) : shiftsOf t r = shiftsOf t r' := by
 unfold shiftsOf
 rw [hl]
 by_cases h : r = []
 ·rw [if_pos h, if_pos (he.1 h)]
 ·rw [if_neg h, if_neg fun h2 => h (he.2 h2)]
theorem tries_same {l : List Typ} {ware : ByteArray} {r r' : List Rng} (hl : lastAt r = lastAt r') (he : r = [] ↔ r' = []) : triesOf l ware r = triesOf l ware r' := by
 have key : (fun i : Nat => match l[i]? with | some (t : Typ) => if t.ware = ware then (List.range (shiftsOf t r)).map fun s => (i, s) else [] | none => []) = fun i : Nat => match l[i]? with | some (t : Typ) => if t.ware = ware then (List.range (shiftsOf t r')).map fun s => (i, s) else [] | none => [] := by
  funext i
  rcases l[i]? with _ | t
  ·rfl
  ·simp only [shifts_same (t := t) hl he]
 unfold triesOf
 exact congrArg (fun f => (List.range l.length).flatMap f) key
theorem memF4 {l : List Typ} {ware : ByteArray} {r : List Rng} {f : Ft} : f ∈ fitsT l ware r ↔ ∃ t, l[f.type]? = some t ∧ t.ware = ware ∧ f.shift < shiftsOf t r ∧ f.word ∈ fitsOf t r f.shift := by
 rw [fitsT_eq, List.mem_flatMap]
 constructor
 ·rintro ⟨⟨i, s⟩, hx, hf⟩
  obtain ⟨t, h1, h2, h3⟩ := mem_tries.1 hx
  obtain ⟨w, hw, rfl⟩ := List.mem_map.1 hf
  simp only [fitsAt, h1] at hw
  exact ⟨t, h1, h2, h3, hw⟩
 ·rintro ⟨t, h1, h2, h3, h4⟩
  exact ⟨(f.type, f.shift), mem_tries.2 ⟨t, h1, h2, h3⟩, List.mem_map.2 ⟨f.word, by simp only [fitsAt, h1]; exact h4, rfl⟩⟩
theorem fitsT_sub {l : List Typ} {ware : ByteArray} {r r' : List Rng} (hc : ∀ s p c, cutOf r' s p c = true → cutOf r s p c = true) (hl : lastAt r = lastAt r') (he : r = [] ↔ r' = []) {f : Ft} (h : f ∈ fitsT l ware r') : f ∈ fitsT l ware r := by
 obtain ⟨t, h1, h2, h3, h4⟩ := memF4.1 h
 exact memF4.2 ⟨t, h1, h2, by rw [shifts_same hl he]; exact h3, fits_sub (hc _) hl h4⟩
theorem choices_sub {l : List Typ} {ware : ByteArray} {r r' : List Rng} (hc : ∀ s p c, cutOf r' s p c = true → cutOf r s p c = true) (hl : lastAt r = lastAt r') (he : r = [] ↔ r' = []) {a c : Nat} (h : choicesT l ware r' a c = true) : choicesT l ware r a c = true := by
 unfold choicesT at h ⊢
 obtain ⟨f, hf, hw⟩ := List.any_eq_true.1 h
 exact List.any_eq_true.2 ⟨f, fitsT_sub hc hl he hf, hw⟩
/-- each try with a fit has one with wider rings -/
theorem shifts_sub {l : List Typ} {ware : ByteArray} {r r' : List Rng} (hc : ∀ s p c, cutOf r' s p c = true → cutOf r s p c = true) (hl : lastAt r = lastAt r') (he : r = [] ↔ r' = []) {f : Ft} (h : f ∈ shiftsT l ware r') : ∃ g, g ∈ shiftsT l ware r ∧ g.type = f.type ∧ g.shift = f.shift := by
 rw [shiftsT_eq] at h
 obtain ⟨⟨i, s⟩, hx, hf⟩ := List.mem_filterMap.1 h
 obtain ⟨t, h1, h2, h3⟩ := mem_tries.1 hx
 simp only [fitsAt, h1, Option.map_eq_some_iff] at hf
 obtain ⟨w, hw, rfl⟩ := hf
 have hm : w ∈ fitsOf t r s := fits_sub (hc _) hl (List.mem_of_mem_head? (by rw [hw]; rfl))
 obtain ⟨v, hv⟩ : ∃ v, (fitsOf t r s).head? = some v := by
  rcases hq : fitsOf t r s with _ | ⟨v, L⟩
  ·rw [hq] at hm; cases hm
  ·exact ⟨v, rfl⟩
 refine ⟨⟨i, s, v⟩, ?_, rfl, rfl⟩
 rw [shiftsT_eq]
 exact List.mem_filterMap.2 ⟨(i, s), mem_tries.2 ⟨t, h1, h2, by rw [shifts_same hl he]; exact h3⟩, by simp only [fitsAt, h1, hv]; rfl⟩
/-- what with makes of ascending rings -/
theorem withTo_form {r : List Rng} (ha : r.Pairwise fun x y => x.at_ < y.at_) (a : Int) (set : ByteArray) (k : Nat) : withTo r a set k =
  if (r.take k).all (fun y => decide (y.at_ < a)) then (r.take k, false) else ((r.take k).filter (fun y => decide (y.at_ < a)) ++ ⟨a, set⟩ :: (r.take k).filter (fun y => decide (a < y.at_)), true) := by
 induction k with
 | zero => rfl
 | succ k ih =>
  rcases hy : r[k]? with _ | y
  ·have e : r.take (k + 1) = r.take k := by rw [List.take_add_one, hy]; simp
   have e2 : withTo r a set (k + 1) = withTo r a set k := by unfold withTo; rw [e]
   rw [e, e2, ih]
  ·have e : r.take (k + 1) = r.take k ++ [y] := by rw [List.take_add_one, hy]; rfl
   have hlt : ∀ z ∈ r.take k, z.at_ < y.at_ := fun z hz => by
    obtain ⟨j, hj⟩ := List.getElem?_of_mem hz
    rw [List.getElem?_take] at hj
    split at hj
    ·rename_i hjk
     have h1 := List.getElem?_eq_some_iff.1 hj
     have h2 := List.getElem?_eq_some_iff.1 hy
     have := List.pairwise_iff_getElem.1 ha j k h1.1 h2.1 hjk
     rw [h1.2, h2.2] at this; exact this
    ·cases hj
   rw [withTo_succ hy, ih, e]
   by_cases hP : (r.take k).all (fun y => decide (y.at_ < a)) = true
   ·rw [if_pos hP]
    have hall := List.all_eq_true.1 hP
    have f1 : (r.take k).filter (fun y => decide (y.at_ < a)) = r.take k := List.filter_eq_self.2 hall
    have f2 : (r.take k).filter (fun y => decide (a < y.at_)) = [] := List.filter_eq_nil_iff.2 fun z hz => by
     have := of_decide_eq_true (hall z hz)
     simp; omega
    unfold withStep
    rcases Int.lt_trichotomy y.at_ a with h | h | h
    ·rw [if_neg (by omega), if_neg (by omega), if_pos (by rw [List.all_append, hP]; simp [h])]
    ·rw [if_pos h, if_neg (by rw [List.all_append, hP]; simp; omega), List.filter_append, List.filter_append, f1, f2]
     simp [h]
    ·rw [if_neg (by omega), if_pos ⟨h, rfl⟩, if_neg (by rw [List.all_append, hP]; simp; omega), List.filter_append, List.filter_append, f1, f2]
     simp [h, show ¬ y.at_ < a by omega]
   ·rw [if_neg hP]
    have hy2 : a < y.at_ := by
     have : ∃ z ∈ r.take k, ¬ z.at_ < a := by
      apply Classical.byContradiction
      intro hh
      refine hP (List.all_eq_true.2 fun z hz => decide_eq_true ?_)
      exact Classical.byContradiction fun h => hh ⟨z, hz, h⟩
     obtain ⟨z, hz, h⟩ := this
     have := hlt z hz
     omega
    unfold withStep
    rw [if_neg (by omega), if_neg (fun h => by cases h.2), if_neg (by rw [List.all_append]; simp only [Bool.and_eq_true]; exact fun h => hP h.1), List.filter_append, List.filter_append]
    simp [hy2, show ¬ y.at_ < a by omega]
theorem withR_form {r : List Rng} (ha : r.Pairwise fun x y => x.at_ < y.at_) (a : Int) (set : ByteArray) : withR r a set = r.filter (fun y => decide (y.at_ < a)) ++ ⟨a, set⟩ :: r.filter (fun y => decide (a < y.at_)) := by
 unfold withR
 rw [withTo_form ha, List.take_length]
 by_cases hP : r.all (fun y => decide (y.at_ < a)) = true
 ·rw [if_pos hP]
  have hall := List.all_eq_true.1 hP
  have f2 : r.filter (fun y => decide (a < y.at_)) = [] := List.filter_eq_nil_iff.2 fun z hz => by
   have := of_decide_eq_true (hall z hz)
   simp; omega
  rw [f2, List.filter_eq_self.2 hall]
  rfl
 ·rw [if_neg hP]; rfl
end Go.Proofs.YthpjffhccjlnhaaGreatDoor
