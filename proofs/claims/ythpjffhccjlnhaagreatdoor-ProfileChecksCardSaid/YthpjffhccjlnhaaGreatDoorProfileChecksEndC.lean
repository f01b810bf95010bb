/- ProfileChecks: the closed facts of the row. No condition. -/
import Derived.Test.YthpjffhccjlnhaaGreatDoorProfileChecksEndI
set_option linter.unusedSimpArgs false
set_option linter.unusedVariables false
namespace Go.Proofs.YthpjffhccjlnhaaGreatDoor.ProfileChecksEnd
open Go.ChangeShapes Go.WideShapes Go.ChangeAt Go.RowKit
theorem closed : joinedFacts Tryz.pinned.checked.prog 15 Tryz.f15 Rows.profileChecksSpec Rows.profileChecksRow = true := by
 unfold joinedFacts
 rw [i1, i2, i3, i4]
 kernel_rfl
end Go.Proofs.YthpjffhccjlnhaaGreatDoor.ProfileChecksEnd
