/- ProfileEither: the closed facts of the row. No condition. -/
import Derived.Test.YthpjffhccjlnhaaGreatDoorProfileEitherEndI
set_option linter.unusedSimpArgs false
set_option linter.unusedVariables false
namespace Go.Proofs.YthpjffhccjlnhaaGreatDoor.ProfileEitherEnd
open Go.ChangeShapes Go.WideShapes Go.ChangeAt Go.RowKit
theorem closed : joinedFacts Tryz.pinned.checked.prog 14 Tryz.f14 Rows.profileEitherSpec Rows.profileEitherRow = true := by
 unfold joinedFacts
 rw [i1, i2, i3, i4]
 kernel_rfl
end Go.Proofs.YthpjffhccjlnhaaGreatDoor.ProfileEitherEnd
