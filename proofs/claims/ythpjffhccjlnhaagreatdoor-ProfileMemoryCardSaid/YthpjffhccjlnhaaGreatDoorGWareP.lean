/- Strings sorted, without those that are there twice: the plain law. No program. -/
import Derived.Test.YthpjffhccjlnhaaGreatDoorGRef1
import Derived.Lib.SlicesCompact
set_option linter.unusedSimpArgs false
set_option linter.unusedVariables false
namespace Go.Proofs.YthpjffhccjlnhaaGreatDoor
open Go.RowKit
abbrev BL := List UInt8
def AscS (l : List BL) : Prop := l.Pairwise fun a b => a < b
theorem ascS_ext : ∀ {l k : List BL}, AscS l → AscS k → (∀ x, x ∈ l ↔ x ∈ k) → l = k
 | [], [], _, _, _ => rfl
 | [], y :: k, _, _, h => absurd ((h y).2 (by simp)) (by simp)
 | x :: l, [], _, _, h => absurd ((h x).1 (by simp)) (by simp)
 | x :: l, y :: k, h1, h2, h => by
  have h1' := List.pairwise_cons.1 h1
  have h2' := List.pairwise_cons.1 h2
  have e : x = y := by
   rcases List.mem_cons.1 ((h x).1 (by simp)) with e | e
   ·exact e
   ·rcases List.mem_cons.1 ((h y).2 (by simp)) with e' | e'
    ·exact e'.symm
    ·exact absurd (List.lt_trans (h1'.1 y e') (h2'.1 x e)) (List.lt_irrefl x)
  subst e
  congr 1
  refine ascS_ext h1'.2 h2'.2 fun z => ?_
  constructor
  ·intro hz
   rcases List.mem_cons.1 ((h z).1 (by simp [hz])) with e | e
   ·subst e; exact absurd (h1'.1 z hz) (List.lt_irrefl z)
   ·exact e
  ·intro hz
   rcases List.mem_cons.1 ((h z).2 (by simp [hz])) with e | e
   ·subst e; exact absurd (h2'.1 z hz) (List.lt_irrefl z)
   ·exact e
theorem compactS_asc {d : Array BL} (hs : ∀ i, i + 1 < d.size → d[i]! ≤ d[i + 1]!) : ∀ m, m ≤ d.size → AscS (Lib.compactUpTo d m) ∧ (∀ x, x ∈ Lib.compactUpTo d m ↔ ∃ j, j < m ∧ d[j]! = x) ∧ (0 < m → ∀ x ∈ Lib.compactUpTo d m, x ≤ d[m - 1]!)
 | 0, _ => ⟨by simp [Lib.compactUpTo, AscS], by simp [Lib.compactUpTo], by omega⟩
 | m + 1, hm => by
  obtain ⟨i1, i2, i3⟩ := compactS_asc hs m (by omega)
  rw [Lib.compactUpTo_succ]
  by_cases h0 : m = 0
  ·subst h0
   rw [Lib.keeps_lt_one d 0 (by omega)]
   have e : Lib.compactUpTo d 0 = [] := by simp [Lib.compactUpTo]
   rw [e]
   refine ⟨by simp [AscS], fun x => ?_, fun _ x hx => ?_⟩
   ·simp only [if_true, List.nil_append, List.mem_singleton]
    exact ⟨fun h => ⟨0, by omega, h.symm⟩, fun ⟨j, hj, h⟩ => by rw [show j = 0 by omega] at h; exact h.symm⟩
   ·simp only [if_true, List.nil_append, List.mem_singleton] at hx
    rw [hx]; exact List.le_refl _
  ·have hle : d[m - 1]! ≤ d[m]! := by
    have := hs (m - 1) (by omega)
    rwa [show m - 1 + 1 = m by omega] at this
   by_cases hk : d[m]! = d[m - 1]!
   ·rw [Lib.keeps_neg (by omega) hk]
    simp only [Bool.false_eq_true, if_false, List.append_nil, Nat.add_sub_cancel]
    refine ⟨i1, fun x => ?_, fun _ x hx => by rw [hk]; exact i3 (by omega) x hx⟩
    rw [i2]
    constructor
    ·rintro ⟨j, hj, h⟩; exact ⟨j, by omega, h⟩
    ·rintro ⟨j, hj, h⟩
     by_cases hjm : j = m
     ·subst hjm; exact ⟨j - 1, by omega, by rw [← hk]; exact h⟩
     ·exact ⟨j, by omega, h⟩
   ·rw [Lib.keeps_pos hk]
    have hlt : d[m - 1]! < d[m]! := by
     rcases Classical.em (d[m - 1]! < d[m]!) with h | h
     ·exact h
     ·exact absurd (List.le_antisymm h hle) hk
    simp only [if_true, Nat.add_sub_cancel]
    refine ⟨?_, fun x => ?_, fun _ x hx => ?_⟩
    ·rw [AscS, List.pairwise_append]
     refine ⟨i1, by simp, fun x hx y hy => ?_⟩
     rw [List.mem_singleton] at hy
     have h3 := i3 (by omega) x hx
     rw [hy]
     rcases Classical.em (x = d[m - 1]!) with e | e
     ·rw [e]; exact hlt
     ·have : x < d[m - 1]! := by
       rcases Classical.em (x < d[m - 1]!) with h | h
       ·exact h
       ·exact absurd (List.le_antisymm h3 h) e
      exact List.lt_trans this hlt
    ·rw [List.mem_append, i2, List.mem_singleton]
     constructor
     ·rintro (⟨j, hj, h⟩ | h)
      ·exact ⟨j, by omega, h⟩
      ·exact ⟨m, by omega, h.symm⟩
     ·rintro ⟨j, hj, h⟩
      by_cases hjm : j = m
      ·subst hjm; exact .inr h.symm
      ·exact .inl ⟨j, by omega, h⟩
    ·rcases List.mem_append.1 hx with hx | hx
     ·exact List.le_trans (i3 (by omega) x hx) hle
     ·rw [List.mem_singleton] at hx; rw [hx]; exact List.le_refl _
def sortS (l : List BL) : List BL := l.mergeSort fun x y => decide (x ≤ y)
theorem sortS_len (l : List BL) : (sortS l).length = l.length := by simp [sortS]
theorem sortS_pair (l : List BL) : (sortS l).Pairwise fun x y => x ≤ y := by
 have := List.pairwise_mergeSort (le := fun x y : BL => decide (x ≤ y)) (by intro a b c h1 h2; simp only [decide_eq_true_eq] at *; exact List.le_trans h1 h2) (by intro a b; simp only [Bool.or_eq_true, decide_eq_true_eq]; exact List.le_total a b) l
 exact this.imp fun h => by simpa using h
/-- sorted, each once -/
def waresL (l : List BL) : List BL := Lib.compact (sortS l)
theorem waresL_asc (l : List BL) : AscS (waresL l) ∧ ∀ x, x ∈ waresL l ↔ x ∈ l := by
 have hp := sortS_pair l
 have hs : ∀ i, i + 1 < (sortS l).toArray.size → (sortS l).toArray[i]! ≤ (sortS l).toArray[i + 1]! := fun i hi => by
  simp only [List.size_toArray] at hi
  have := (List.pairwise_iff_getElem.1 hp) i (i + 1) (by omega) hi (by omega)
  simpa [getElem!_def, List.getElem?_eq_getElem hi, List.getElem?_eq_getElem (show i < (sortS l).length by omega)] using this
 obtain ⟨h1, h2, _⟩ := compactS_asc hs (sortS l).length (by simp)
 refine ⟨h1, fun x => ?_⟩
 have hm : x ∈ sortS l ↔ x ∈ l := by simp [sortS]
 rw [← hm]
 refine (h2 x).trans ?_
 rw [List.mem_iff_getElem]
 constructor
 ·rintro ⟨j, hj, h⟩
  exact ⟨j, hj, by simpa [getElem!_def, List.getElem?_eq_getElem hj] using h⟩
 ·rintro ⟨j, hj, h⟩
  exact ⟨j, hj, by simpa [getElem!_def, List.getElem?_eq_getElem hj] using h⟩
theorem waresL_eq {l k : List BL} (h : AscS k) (hm : ∀ x, x ∈ k ↔ x ∈ l) : waresL l = k :=
 ascS_ext (waresL_asc l).1 h fun x => ((waresL_asc l).2 x).trans (hm x).symm
/-- one string put into a sorted list -/
theorem insert_asc {A B : List BL} {x : BL} (h : AscS (A ++ B)) (ha : ∀ y, A.getLast? = some y → y < x) (hb : ∀ y, B.head? = some y → x < y) : AscS (A ++ (x :: B)) := by
 unfold AscS at h ⊢
 obtain ⟨h1, h2, h3⟩ := List.pairwise_append.1 h
 have hA : ∀ y ∈ A, y < x := fun y hy => by
  rcases List.eq_nil_or_concat A with rfl | ⟨A', z, rfl⟩
  ·cases hy
  ·have hz := ha z (by simp)
   rw [List.concat_eq_append] at hy h1
   rcases List.mem_append.1 hy with h | h
   ·exact List.lt_trans ((List.pairwise_append.1 h1).2.2 y h z (by simp)) hz
   ·rw [List.mem_singleton] at h; rw [h]; exact hz
 have hB : ∀ y ∈ B, x < y := fun y hy => by
  rcases B with _ | ⟨z, B'⟩
  ·cases hy
  ·have hz := hb z rfl
   rcases List.mem_cons.1 hy with rfl | h
   ·exact hz
   ·exact List.lt_trans hz ((List.pairwise_cons.1 h2).1 y h)
 refine List.pairwise_append.2 ⟨h1, List.pairwise_cons.2 ⟨hB, h2⟩, fun a hma b hmb => ?_⟩
 rcases List.mem_cons.1 hmb with rfl | hmb
 ·exact hA a hma
 ·exact h3 a hma b hmb
theorem less_iff : ∀ x y : BL, Op.bytesLess x y = true ↔ x < y
 | [], [] => by simp [Op.bytesLess]
 | _ :: _, [] => by simp [Op.bytesLess]
 | [], _ :: _ => by simp [Op.bytesLess]
 | a :: x, b :: y => by
  rw [Op.bytesLess, List.cons_lt_cons_iff, Bool.or_eq_true, Bool.and_eq_true, beq_iff_eq, decide_eq_true_eq, less_iff x y]
end Go.Proofs.YthpjffhccjlnhaaGreatDoor
