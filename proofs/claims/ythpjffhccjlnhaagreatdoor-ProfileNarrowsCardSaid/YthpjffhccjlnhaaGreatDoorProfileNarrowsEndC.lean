/- ProfileNarrows: the closed facts of the row. No condition. -/
import Derived.Test.YthpjffhccjlnhaaGreatDoorProfileNarrowsEndI
set_option linter.unusedSimpArgs false
set_option linter.unusedVariables false
namespace Go.Proofs.YthpjffhccjlnhaaGreatDoor.ProfileNarrowsEnd
open Go.ChangeShapes Go.WideShapes Go.ChangeAt Go.RowKit
theorem closed : joinedFacts Tryz.pinned.checked.prog 8 Tryz.f8 Rows.profileNarrowsSpec Rows.profileNarrowsRow = true := by
 unfold joinedFacts
 rw [i1, i2, i3, i4]
 kernel_rfl
end Go.Proofs.YthpjffhccjlnhaaGreatDoor.ProfileNarrowsEnd
