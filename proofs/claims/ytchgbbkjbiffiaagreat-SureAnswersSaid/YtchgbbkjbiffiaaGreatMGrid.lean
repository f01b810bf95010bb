/- Tables of answers and of classes, read. -/
import Derived.Test.YtchgbbkjbiffiaaGreatMCertain
set_option linter.unusedSimpArgs false
set_option linter.unusedVariables false
namespace Go.Proofs.YtchgbbkjbiffiaaGreat
open Go.RowKit

/-- one row of answers, read -/
theorem arow_at {T : TypeId} {B : Nat} {Q : Nat → Prop} {W : World} {a : Option Addr} {m cap : Nat} {c : Cs} (h : RowsG T B Q W (.slice a m cap) (ansRows c)) {i : Nat} (hi : i < c.parts.length) :
    ∃ b o ra rc, a = some ⟨b, o, none⟩ ∧ W.cell? ⟨b, o + i, none⟩ = some (.slice ra c.parts.length rc) ∧ U8s W ra ((List.range c.parts.length).map (fun y => ansAt c i y)) := by
  obtain ⟨a', cap', hv, hr⟩ := h.at_
  injection hv with h1 h2 h3
  obtain ⟨b, o, ra, rc, e1, e2, e3, _⟩ := hr i (ansRowTo c i c.parts.length) (by simp [ansRows, ansRowsTo, hi])
  rw [ansRowTo_len] at e2
  refine ⟨b, o, ra, rc, by rw [h1]; exact e1, e2, ?_⟩
  unfold U8s
  rw [List.map_map]
  exact e3
/-- one answer, read -/
theorem grid_at {T : TypeId} {B : Nat} {Q : Nat → Prop} {W : World} {a : Option Addr} {m cap : Nat} {c : Cs} (h : RowsG T B Q W (.slice a m cap) (ansRows c)) {i j : Nat} (hi : i < c.parts.length) (hj : j < c.parts.length) :
    ∃ b o b2 o2 rc, a = some ⟨b, o, none⟩ ∧ W.cell? ⟨b, o + i, none⟩ = some (.slice (some ⟨b2, o2, none⟩) c.parts.length rc) ∧ W.cell? ⟨b2, o2 + j, none⟩ = some (.int .u8 (ansAt c i j)) := by
  obtain ⟨a', cap', hv, hr⟩ := h.at_
  injection hv with h1 h2 h3
  obtain ⟨b, o, ra, rc, e1, e2, e3, _⟩ := hr i (ansRowTo c i c.parts.length) (by simp [ansRows, ansRowsTo, hi])
  obtain ⟨b2, o2, e4, e5⟩ := e3 j (.int .u8 (ansAt c i j)) (by simp [ansRowTo, hj])
  subst e4
  rw [ansRowTo_len] at e2
  exact ⟨b, o, b2, o2, rc, by rw [h1]; exact e1, e2, e5⟩
theorem pairs_iff {n a b : Nat} : (a, b) ∈ pairsOf n ↔ a < b ∧ b < n := by
  simp only [pairsOf, pairsTo, rowTo, List.mem_flatMap, List.mem_range, List.mem_map, Prod.mk.injEq]
  constructor
  · rintro ⟨x, hx, d, hd, rfl, rfl⟩
    omega
  · rintro ⟨h1, h2⟩
    exact ⟨a, by omega, b - (a + 1), by omega, rfl, by omega⟩
end Go.Proofs.YtchgbbkjbiffiaaGreat
