/- The reference: Shifts: the first fit of each type and shift: plain. No program. -/
import Derived.Test.YthpjffhccjlnhaaGreatDoorGFitsA
set_option linter.unusedSimpArgs false
set_option linter.unusedVariables false
namespace Go.Proofs.YthpjffhccjlnhaaGreatDoor
open Go.RowKit
def keyF (f : Ft) : Nat × Nat := (f.type, f.shift)
def heads : Option (Nat × Nat) → List Ft → List Ft
 | _, [] => []
 | p, f :: L => if p = some (keyF f) then heads p L else f :: heads (some (keyF f)) L
def lastK : Option (Nat × Nat) → List Ft → Option (Nat × Nat)
 | p, [] => p
 | _, f :: L => lastK (some (keyF f)) L
theorem heads_snoc (L : List Ft) (p : Option (Nat × Nat)) (f : Ft) : heads p (L ++ [f]) = heads p L ++ if lastK p L = some (keyF f) then [] else [f] := by
 induction L generalizing p with
 | nil =>
  by_cases h : p = some (keyF f) <;> simp [heads, lastK, h]
 | cons g L ih =>
  rw [List.cons_append, heads, heads, lastK]
  by_cases h : p = some (keyF g)
  ·rw [if_pos h, if_pos h, ih, h]
  ·rw [if_neg h, if_neg h, ih, List.cons_append]
theorem lastK_snoc (L : List Ft) (p : Option (Nat × Nat)) (f : Ft) : lastK p (L ++ [f]) = some (keyF f) := by
 induction L generalizing p with
 | nil => rfl
 | cons g L ih => rw [List.cons_append, lastK, ih]
theorem heads_app (A B : List Ft) (p : Option (Nat × Nat)) : heads p (A ++ B) = heads p A ++ heads (lastK p A) B := by
 induction A generalizing p with
 | nil => rfl
 | cons g L ih =>
  rw [List.cons_append, heads, heads, lastK]
  by_cases h : p = some (keyF g)
  ·rw [if_pos h, if_pos h, ih, h]
  ·rw [if_neg h, if_neg h, ih, List.cons_append]
theorem heads_group (x : Nat × Nat) (ws : List (List Nat)) : heads (some x) (ws.map fun w => (⟨x.1, x.2, w⟩ : Ft)) = [] ∧ lastK (some x) (ws.map fun w => (⟨x.1, x.2, w⟩ : Ft)) = some x := by
 induction ws with
 | nil => exact ⟨rfl, rfl⟩
 | cons w ws ih =>
  rw [List.map_cons, heads, lastK]
  have h : (some x : Option (Nat × Nat)) = some (keyF (⟨x.1, x.2, w⟩ : Ft)) := rfl
  rw [if_pos h]
  exact ih
theorem heads_flat (g : Nat × Nat → List (List Nat)) (xs : List (Nat × Nat)) (hn : xs.Nodup) (p : Option (Nat × Nat)) (hp : ∀ x, x ∈ xs → p ≠ some x) :
  heads p (xs.flatMap fun x => (g x).map fun w => (⟨x.1, x.2, w⟩ : Ft)) = xs.filterMap fun x => (g x).head?.map fun w => (⟨x.1, x.2, w⟩ : Ft) := by
 induction xs generalizing p with
 | nil => rfl
 | cons x xs ih =>
  obtain ⟨h1, h2⟩ := List.nodup_cons.1 hn
  rw [List.flatMap_cons, heads_app, List.filterMap_cons]
  rcases hg : g x with _ | ⟨w, ws⟩
  ·simp only [List.map_nil, heads, lastK, List.nil_append, List.head?_nil, Option.map_none]
   exact ih h2 p fun y hy => hp y (by simp [hy])
  ·simp only [List.map_cons, heads, lastK, List.head?_cons, Option.map_some]
   have hne : ¬ p = some (keyF (⟨x.1, x.2, w⟩ : Ft)) := hp x (by simp)
   obtain ⟨g1, g2⟩ := heads_group x ws
   have hk : (some (keyF (⟨x.1, x.2, w⟩ : Ft)) : Option (Nat × Nat)) = some x := rfl
   rw [if_neg hne, hk, g1, g2, List.cons_append, List.nil_append]
   congr 1
   refine ih h2 (some x) fun y hy e => h1 ?_
   rw [Option.some.inj e]; exact hy
theorem heads_fits (l : List Typ) (ware : ByteArray) (r : List Rng) : heads none (fitsT l ware r) = shiftsT l ware r := by
 rw [fitsT_eq, shiftsT_eq]
 exact heads_flat (fitsAt l r) _ (tries_nodup l ware r) none (fun _ _ h => by cases h)
theorem heads_len (L : List Ft) (p : Option (Nat × Nat)) : (heads p L).length ≤ L.length := by
 induction L generalizing p with
 | nil => exact Nat.le_refl _
 | cons f L ih =>
  rw [heads]
  split
  ·have := ih p; simp; omega
  ·have := ih (some (keyF f)); simp; omega
/-- one fit more -/
theorem heads_first {L : List Ft} {f : Ft} (h : L[0]? = some f) : heads none (L.take 1) = heads none (L.take 0) ++ [f] := by
 rcases L with _ | ⟨g, L⟩
 ·cases h
 ·simp at h; subst h; rfl
theorem heads_step {L : List Ft} {i : Nat} {g f : Ft} (hg : L[i]? = some g) (hf : L[i + 1]? = some f) : heads none (L.take (i + 1 + 1)) = heads none (L.take (i + 1)) ++ if g.type = f.type ∧ g.shift = f.shift then [] else [f] := by
 have e1 : L.take (i + 1 + 1) = L.take (i + 1) ++ [f] := by rw [List.take_add_one, hf]; rfl
 have e2 : L.take (i + 1) = L.take i ++ [g] := by rw [List.take_add_one, hg]; rfl
 rw [e1, heads_snoc]
 congr 1
 rw [e2, lastK_snoc]
 by_cases h : g.type = f.type ∧ g.shift = f.shift
 ·rw [if_pos h, if_pos (by unfold keyF; rw [h.1, h.2])]
 ·rw [if_neg h, if_neg (show ¬ (some (keyF g) : Option (Nat × Nat)) = some (keyF f) from fun e => h ⟨(Prod.mk.inj (Option.some.inj e)).1, (Prod.mk.inj (Option.some.inj e)).2⟩)]
theorem fitsT_len {l : List Typ} {ware : ByteArray} {r : List Rng} (h0 : wantedErr l ware r = 0) (hf : FewL l) : (fitsT l ware r).length ≤ 520000 := by
 obtain ⟨h1, h2⟩ := wanted_typ h0
 rw [← fitsFor_all]
 have g1 := fitsFor_len h1 hf r (triesOf l ware r)
 have g2 := tries_few (ware := ware) h1 (RgOk.of h2) hf.1
 omega
end Go.Proofs.YthpjffhccjlnhaaGreatDoor
