/- Rows of rings, tries: what several texts want, under names of its own. No program. -/
import Derived.Test.YthpjffhccjlnhaaGreatDoorMG22
import Derived.Test.YthpjffhccjlnhaaGreatDoorMG13
import Derived.Test.YthpjffhccjlnhaaGreatDoorGRuled
import Derived.Test.YthpjffhccjlnhaaGreatDoorMG15
set_option linter.unusedSimpArgs false
set_option linter.unusedVariables false
namespace Go.Proofs.YthpjffhccjlnhaaGreatDoor
open Go.RowKit
theorem flat_at7 {us : List (List Value)} {n k j : Nat} {u : List Value} (h : ∀ x ∈ us, x.length = n) (hk : us[k]? = some u) (hj : j < n) : us.flatten[k * n + j]? = u[j]? := by
 induction us generalizing k with
 | nil => simp at hk
 | cons x us ih =>
  have hx := h x (by simp)
  cases k with
  | zero =>
   simp only [List.getElem?_cons_zero, Option.some.injEq] at hk
   subst hk
   rw [List.flatten_cons, Nat.zero_mul, Nat.zero_add, List.getElem?_append_left (by omega)]
  | succ k =>
   rw [List.flatten_cons, List.getElem?_append_right (by rw [hx, Nat.succ_mul]; omega), hx, show (k + 1) * n + j - n = k * n + j by rw [Nat.succ_mul]; omega]
   exact ih (fun y hy => h y (by simp [hy])) (by simpa using hk)
theorem shifts_le7 {t : Typ} {r : List Rng} (hm : t.most ≤ 12) (hg : RgOk r) : shiftsOf t r ≤ 13 := by
 unfold shiftsOf
 split
 ·omega
 ·have : -1 ≤ lastAt r := by
   unfold lastAt
   rcases hl : r.getLast? with _ | y
   ·exact Int.le_refl _
   ·have := (hg.at0 y (List.mem_of_getLast? hl)).1
    simp only; omega
  omega
theorem rngRows_app7 (X Y : List Rng) : rngRows (X ++ Y) = rngRows X ++ rngRows Y := by simp [rngRows]
theorem rngRows_one7 (L : List Rng) : ∀ u ∈ rngRows L, u.oneCell' = true := fun u hu => by
 obtain ⟨y, _, hy⟩ := List.mem_flatMap.1 hu
 simp only [rngRow, List.mem_cons, List.mem_nil_iff, or_false] at hy
 rcases hy with rfl | rfl <;> rfl
theorem rngRows_size7 (L : List Rng) : (rngRows L).length = L.length * 2 := by
 induction L with
 | nil => rfl
 | cons y L ih =>
  have : rngRows (y :: L) = rngRow y ++ rngRows L := rfl
  rw [this, List.length_append, ih, List.length_cons]; simp [rngRow]; omega
theorem row_rings7 {W : World} {a : Option Addr} {L : List Rng} (h : RngsAt W a L) : Row W a (rngRows L) := fun j v hv => by
 have hf : rngRows L = (L.map rngRow).flatten := by unfold rngRows; rw [List.flatMap_def]
 have hj := (List.getElem?_eq_some_iff.1 hv).1
 rw [rngRows_size7] at hj
 obtain ⟨k, i, hi, rfl⟩ : ∃ k i, i < 2 ∧ j = k * 2 + i := ⟨j / 2, j % 2, by omega, by omega⟩
 obtain ⟨y, hy⟩ : ∃ y, L[k]? = some y := ⟨L[k]'(by omega), by simp⟩
 rw [hf, flat_at7 (n := 2) (u := rngRow y) (fun x hx => by obtain ⟨z, _, rfl⟩ := List.mem_map.1 hx; rfl) (by rw [List.getElem?_map, hy]; rfl) hi] at hv
 obtain ⟨b, o, ha, hat⟩ := h k y hy
 refine ⟨b, o, ha, ?_⟩
 have hc := hat i hi
 rw [← Nat.add_assoc, hc]
 rcases i with _ | _ | i
 ·simpa [rngRow, rngF] using hv
 ·simpa [rngRow, rngF] using hv
 ·omega
theorem wanted_sub7 {l : List Typ} {ware : ByteArray} {r r' : List Rng} (h : wantedErr l ware r = 0) (hs : r'.Sublist r) : wantedErr l ware r' = 0 := by
 obtain ⟨h1, h2, h3⟩ := wanted_good h
 unfold wantedErr
 rw [if_pos h1, if_pos (rings_sub_err h2 hs), if_pos h3]
def pre7 (l : List Typ) (ware : ByteArray) (r : List Rng) (i k : Nat) : List (Nat × Nat) := triesTo l ware r i ++ (List.range k).map fun x => (i, x)
theorem preZ7 (l : List Typ) (ware : ByteArray) (r : List Rng) (i : Nat) : pre7 l ware r i 0 = triesTo l ware r i := by simp [pre7]
theorem preS7 (l : List Typ) (ware : ByteArray) (r : List Rng) (i k : Nat) : pre7 l ware r i (k + 1) = pre7 l ware r i k ++ [(i, k)] := by
 unfold pre7
 rw [map_snoc, List.append_assoc]
end Go.Proofs.YthpjffhccjlnhaaGreatDoor
