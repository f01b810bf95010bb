/- An append of ints to a list of one's own. -/
/- Ids, plain: ascending, each once, both ways to make them so. -/
import Derived.Test.YtpjcnkajimgagaaGreatMTable
import Derived.Test.YtpjcnkajimgagaaGreatMUniq
set_option linter.unusedSimpArgs false
set_option linter.unusedVariables false
namespace Go.Proofs.YtpjcnkajimgagaaGreat
open Go.RowKit

theorem app_ints {base : Nat} {W : World} {v : Value} {k : Nat} {xs : List Value} (h : W.ownsRow base 3 1 v k xs) {a : Option Addr} {n cap : Nat} {l : List Int} (hn : l.length = n) (hi : Ints W a l) (hk : k + n ≤ 1000000) (hB : base ≤ W.heap.size) :
  ∃ v' U, (Builtin.append_ #[27, 27] 27 #[v, .slice a n cap]).run Tryz.prog W = .ok v' U ∧ U.ownsRow base 3 1 v' (k + n) (xs ++ l.map (Value.int .i64)) ∧ Below base W U := by
 obtain ⟨v', U, hrun, hown, hg, _⟩ := run_append_row (P := Tryz.prog) W base 27 27 3 (.int .i64 0) 1 8 Tryz.underlying27 info_int rfl (by omega) v _ _ h a n cap (l.map (Value.int .i64)) (by simpa using hn) hi (ints_one l) (by omega) (by omega) hB
 exact ⟨v', U, hrun, hown, grown_below h hg (Nat.le_refl _) hB⟩
end Go.Proofs.YtpjcnkajimgagaaGreat
namespace Go.Proofs.YtpjcnkajimgagaaGreat
open Go.RowKit

/-- strictly rising -/
def Asc (l : List Int) : Prop := l.Pairwise (· < ·)
theorem asc_eq : ∀ {l m : List Int}, Asc l → Asc m → (∀ x, x ∈ l ↔ x ∈ m) → l = m
 | [], [], _, _, _ => rfl
 | [], y :: m, _, _, h => absurd ((h y).2 (by simp)) (by simp)
 | x :: l, [], _, _, h => absurd ((h x).1 (by simp)) (by simp)
 | x :: l, y :: m, hl, hm, h => by
  obtain ⟨h1, h2⟩ := List.pairwise_cons.1 hl
  obtain ⟨k1, k2⟩ := List.pairwise_cons.1 hm
  have hxy : x = y := by
   rcases List.mem_cons.1 ((h x).1 (by simp)) with e | e
   ·exact e
   ·rcases List.mem_cons.1 ((h y).2 (by simp)) with e2 | e2
    ·exact e2.symm
    ·have := k1 x e; have := h1 y e2; omega
  subst hxy
  congr 1
  refine asc_eq h2 k2 fun z => ⟨fun hz => ?_, fun hz => ?_⟩
  ·rcases List.mem_cons.1 ((h z).1 (by simp [hz])) with e | e
   ·have := h1 z hz; omega
   ·exact e
  ·rcases List.mem_cons.1 ((h z).2 (by simp [hz])) with e | e
   ·have := k1 z hz; omega
   ·exact e
theorem mem_notN {l : List Int} {x : Int} : x ∈ notN l ↔ x ∈ l ∧ x ≠ 0 := by simp [notN]
/-- what compact leaves of a list in order -/
theorem compact_asc {d : Array Int} (hs : ∀ i, i + 1 < d.size → d[i]! ≤ d[i + 1]!) : ∀ m, m ≤ d.size → Asc (Lib.compactUpTo d m) ∧ (∀ x, x ∈ Lib.compactUpTo d m ↔ ∃ j, j < m ∧ d[j]! = x) ∧ (0 < m → ∀ x ∈ Lib.compactUpTo d m, x ≤ d[m - 1]!)
 | 0, _ => ⟨by simp [Lib.compactUpTo, Asc], by simp [Lib.compactUpTo], by omega⟩
 | m + 1, hm => by
  obtain ⟨i1, i2, i3⟩ := compact_asc hs m (by omega)
  rw [Lib.compactUpTo_succ]
  by_cases h0 : m = 0
  ·subst h0
   rw [Lib.keeps_lt_one d 0 (by omega)]
   have e : Lib.compactUpTo d 0 = [] := by simp [Lib.compactUpTo]
   rw [e]
   refine ⟨by simp [Asc], fun x => ?_, fun _ x hx => ?_⟩
   ·simp only [if_true, List.nil_append, List.mem_singleton]
    exact ⟨fun h => ⟨0, by omega, h.symm⟩, fun ⟨j, hj, h⟩ => by rw [show j = 0 by omega] at h; exact h.symm⟩
   ·simp only [if_true, List.nil_append, List.mem_singleton] at hx
    rw [hx]; simp
  ·have hle : d[m - 1]! ≤ d[m]! := by
    have := hs (m - 1) (by omega)
    rwa [show m - 1 + 1 = m by omega] at this
   by_cases hk : d[m]! = d[m - 1]!
   ·rw [Lib.keeps_neg (by omega) hk]
    simp only [Bool.false_eq_true, if_false, List.append_nil, Nat.add_sub_cancel]
    refine ⟨i1, fun x => ?_, fun _ x hx => by rw [hk]; exact i3 (by omega) x hx⟩
    rw [i2]
    constructor
    ·rintro ⟨j, hj, h⟩; exact ⟨j, by omega, h⟩
    ·rintro ⟨j, hj, h⟩
     by_cases hjm : j = m
     ·subst hjm; exact ⟨j - 1, by omega, by rw [← hk]; exact h⟩
     ·exact ⟨j, by omega, h⟩
   ·rw [Lib.keeps_pos hk]
    simp only [if_true, Nat.add_sub_cancel]
    refine ⟨?_, fun x => ?_, fun _ x hx => ?_⟩
    ·rw [Asc, List.pairwise_append]
     refine ⟨i1, by simp, fun x hx y hy => ?_⟩
     rw [List.mem_singleton] at hy
     have := i3 (by omega) x hx
     omega
    ·rw [List.mem_append, i2, List.mem_singleton]
     constructor
     ·rintro (⟨j, hj, h⟩ | h)
      ·exact ⟨j, by omega, h⟩
      ·exact ⟨m, by omega, h.symm⟩
     ·rintro ⟨j, hj, h⟩
      by_cases hjm : j = m
      ·subst hjm; exact .inr h.symm
      ·exact .inl ⟨j, by omega, h⟩
    ·rcases List.mem_append.1 hx with hx | hx
     ·have := i3 (by omega) x hx; omega
     ·rw [List.mem_singleton] at hx; omega
theorem sortL_pair (l : List Int) : (sortL l).Pairwise fun x y => x ≤ y := by
 have := List.pairwise_mergeSort (le := fun x y : Int => decide (x ≤ y)) (by intro a b c h1 h2; simp at *; omega) (by intro a b; simp; omega) l
 exact this.imp fun h => by simpa using h
theorem mem_sortL {l : List Int} {x : Int} : x ∈ sortL l ↔ x ∈ l := by simp [sortL]
theorem uniqL_asc (l : List Int) : Asc (uniqL l) ∧ ∀ x, x ∈ uniqL l ↔ x ∈ l ∧ x ≠ 0 := by
 have hp := sortL_pair (notN l)
 have hs : ∀ i, i + 1 < (sortL (notN l)).toArray.size → (sortL (notN l)).toArray[i]! ≤ (sortL (notN l)).toArray[i + 1]! := fun i hi => by
  simp only [List.size_toArray] at hi
  have := (List.pairwise_iff_getElem.1 hp) i (i + 1) (by omega) hi (by omega)
  simpa [getElem!_def, List.getElem?_eq_getElem hi, List.getElem?_eq_getElem (show i < (sortL (notN l)).length by omega)] using this
 obtain ⟨h1, h2, _⟩ := compact_asc hs (sortL (notN l)).length (by simp)
 refine ⟨h1, fun x => ?_⟩
 rw [← mem_notN, ← mem_sortL (l := notN l)]
 refine (h2 x).trans ?_
 rw [List.mem_iff_getElem]
 constructor
 ·rintro ⟨j, hj, h⟩
  refine ⟨j, hj, ?_⟩
  simpa [getElem!_def, List.getElem?_eq_getElem hj] using h
 ·rintro ⟨j, hj, h⟩
  refine ⟨j, hj, ?_⟩
  simpa [getElem!_def, List.getElem?_eq_getElem hj] using h
/-- a rising list with an Id that is not 0, once -/
def with1L (l : List Int) (n : Int) : List Int :=
 if n = 0 ∨ (l.dropWhile fun x => decide (x < n)).head? = some n then l else l.takeWhile (fun x => decide (x < n)) ++ n :: l.dropWhile fun x => decide (x < n)
def withL (l : List Int) : List Int := l.foldl with1L []
theorem with1L_asc {l : List Int} {n : Int} (h : Asc l) : Asc (with1L l n) ∧ ∀ x, x ∈ with1L l n ↔ x ∈ l ∨ (x = n ∧ n ≠ 0) := by
 have hsp := List.takeWhile_append_dropWhile (p := fun x => decide (x < n)) (l := l)
 unfold with1L
 split
 ·rename_i hc
  refine ⟨h, fun x => ⟨.inl, ?_⟩⟩
  rintro (hx | ⟨rfl, hn⟩)
  ·exact hx
  ·rcases hc with hc | hc
   ·exact absurd hc hn
   ·rw [← hsp]
    exact List.mem_append.2 (.inr (List.mem_of_mem_head? hc))
 ·rename_i hc
  simp only [not_or] at hc
  have ht : ∀ x ∈ l.takeWhile fun x => decide (x < n), x < n := fun x hx => by simpa using List.all_eq_true.1 List.all_takeWhile x hx
  have hd : ∀ x ∈ l.dropWhile fun x => decide (x < n), n < x := by
   have ha : Asc (l.dropWhile fun x => decide (x < n)) := List.Pairwise.sublist (List.dropWhile_sublist _) h
   rcases hdw : l.dropWhile fun x => decide (x < n) with _ | ⟨y, m⟩
   ·simp
   ·rw [hdw] at ha hc
    have hy : ¬ y < n := by
     have := List.head?_dropWhile_not (fun x => decide (x < n)) l
     rw [hdw] at this
     simpa using this
    have hyn : y ≠ n := fun e => hc.2 (by simp [e])
    intro x hx
    rcases List.mem_cons.1 hx with rfl | hx
    ·omega
    ·have := (List.pairwise_cons.1 ha).1 x hx; omega
  refine ⟨?_, fun x => ?_⟩
  ·rw [Asc, List.pairwise_append]
   refine ⟨List.Pairwise.sublist (List.takeWhile_sublist _) h, ?_, fun x hx y hy => ?_⟩
   ·rw [List.pairwise_cons]
    exact ⟨fun x hx => hd x hx, List.Pairwise.sublist (List.dropWhile_sublist _) h⟩
   ·have := ht x hx
    rcases List.mem_cons.1 hy with rfl | hy
    ·exact this
    ·have := hd y hy; omega
  ·have hm : x ∈ l ↔ x ∈ (l.takeWhile fun x => decide (x < n)) ∨ x ∈ l.dropWhile fun x => decide (x < n) := by rw [← List.mem_append, hsp]
   rw [List.mem_append, List.mem_cons, hm]
   constructor
   ·rintro (h1 | h1 | h1)
    ·exact .inl (.inl h1)
    ·exact .inr ⟨h1, hc.1⟩
    ·exact .inl (.inr h1)
   ·rintro ((h1 | h1) | ⟨h1, _⟩)
    ·exact .inl h1
    ·exact .inr (.inr h1)
    ·exact .inr (.inl h1)
theorem withL_asc (l : List Int) : Asc (withL l) ∧ ∀ x, x ∈ withL l ↔ x ∈ l ∧ x ≠ 0 := by
 have key : ∀ (l acc : List Int), Asc acc → Asc (l.foldl with1L acc) ∧ ∀ x, x ∈ l.foldl with1L acc ↔ x ∈ acc ∨ (x ∈ l ∧ x ≠ 0) := by
  intro l
  induction l with
  | nil => intro acc ha; exact ⟨ha, by simp⟩
  | cons y l ih =>
   intro acc ha
   obtain ⟨h1, h2⟩ := with1L_asc (n := y) ha
   obtain ⟨h3, h4⟩ := ih _ h1
   refine ⟨h3, fun x => ?_⟩
   rw [List.foldl_cons, h4, h2, List.mem_cons]
   constructor
   ·rintro ((h | ⟨rfl, h⟩) | ⟨h, h'⟩)
    ·exact .inl h
    ·exact .inr ⟨.inl rfl, h⟩
    ·exact .inr ⟨.inr h, h'⟩
   ·rintro (h | ⟨rfl | h, h'⟩)
    ·exact .inl (.inl h)
    ·exact .inl (.inr ⟨rfl, h'⟩)
    ·exact .inr ⟨h, h'⟩
 have := key l [] (by simp [Asc])
 simpa [withL] using this
theorem uniq_with {l m : List Int} (h : ∀ x, x ∈ l ↔ x ∈ m) : uniqL l = withL m :=
 asc_eq (uniqL_asc l).1 (withL_asc m).1 fun x => by rw [(uniqL_asc l).2, (withL_asc m).2, h]
theorem withL_len (l : List Int) : (withL l).length ≤ (notN l).length := by
 rw [← uniq_with (l := l) fun _ => Iff.rfl]; exact uniqL_len l

end Go.Proofs.YtpjcnkajimgagaaGreat
