/- What the laws need at their doors. -/
import Derived.Test.YtpjcnkajimgagaaGreatMPlainA
import Derived.Test.YtpjcnkajimgagaaGreatMAlive
import Derived.Test.YtpjcnkajimgagaaGreatMFew
set_option linter.unusedSimpArgs false
set_option linter.unusedVariables false
namespace Go.Proofs.YtpjcnkajimgagaaGreat
open Go.RowKit

theorem ask_eq {c : Cs} {ps : List Int} (h : openErr c ps ≠ 0) : askErr c ps = openErr c ps := by unfold askErr; rw [if_neg h]
theorem ask_eq0 {c : Cs} {ps : List Int} (h : openErr c ps = 0) : askErr c ps = if (allR c).isEmpty then 61 else 0 := by unfold askErr; rw [if_pos h]
/-- a box at the door of a law -/
theorem box_case (w : World) (c : Cs) (pa : Option Addr) (pc : Nat) : ∃ w1, w.alloc (.cells #[.string c.ware, .int .i64 c.limit, .int .i64 c.by_, .slice pa c.parts.length pc] 24) = w1 ∧ Below w.heap.size w w1 ∧ Box w1 w.heap.size (csCells c pa pc) 24 :=
 ⟨_, rfl, by go_grown, Box.new _ _ _⟩
end Go.Proofs.YtpjcnkajimgagaaGreat
