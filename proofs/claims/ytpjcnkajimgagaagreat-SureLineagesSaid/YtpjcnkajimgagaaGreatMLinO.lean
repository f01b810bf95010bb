/- What Lineage hands back, in one form. -/
import Derived.Test.YtpjcnkajimgagaaGreatMLin
set_option linter.unusedSimpArgs false
set_option linter.unusedVariables false
namespace Go.Proofs.YtpjcnkajimgagaaGreat
open Go.RowKit

/-- what both hand back -/
def LOut (er : Int) (l : List Int) (w : World) (e : Ending) (w' : World) : Prop :=
 ∃ a cap, e = .returned (.tuple #[.slice a (if er = 0 then l else []).length cap, .int .i64 er]) ∧ Ints w' a (if er = 0 then l else []) ∧ Below w.heap.size w w'
theorem lOut_of {er : Int} {l : List Int} {w : World} {e : Ending} {w' : World} (h : LinPost er l w e w') : LOut er l w e w' := by
 obtain ⟨hb, ⟨h0, rfl⟩ | ⟨rfl, a, cap, rfl, hr, _⟩⟩ := h
 ·unfold LOut; rw [if_neg h0]; exact ⟨none, 0, rfl, Ints.nil _ _, hb⟩
 ·unfold LOut; rw [if_pos rfl]; exact ⟨a, cap, rfl, hr.row, hb⟩
theorem lOut_no {er : Int} {l : List Int} {w w' : World} (h : er ≠ 0) (hb : Below w.heap.size w w') : LOut er l w (.returned (.tuple #[.slice none 0 0, .int .i64 er])) w' := by
 unfold LOut; rw [if_neg h]; exact ⟨none, 0, rfl, Ints.nil _ _, hb⟩
theorem lOut_yes {l : List Int} {w w' : World} {a : Option Addr} {cap : Nat} (hi : Ints w' a l) (hb : Below w.heap.size w w') : LOut 0 l w (.returned (.tuple #[.slice a l.length cap, .int .i64 0])) w' := by
 unfold LOut; rw [if_pos rfl]; exact ⟨a, cap, rfl, hi, hb⟩
end Go.Proofs.YtpjcnkajimgagaaGreat
