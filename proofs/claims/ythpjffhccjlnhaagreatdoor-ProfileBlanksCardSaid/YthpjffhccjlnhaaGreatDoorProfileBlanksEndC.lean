/- ProfileBlanks: the closed facts of the row. No condition. -/
import Derived.Test.YthpjffhccjlnhaaGreatDoorProfileBlanksEndI
set_option linter.unusedSimpArgs false
set_option linter.unusedVariables false
namespace Go.Proofs.YthpjffhccjlnhaaGreatDoor.ProfileBlanksEnd
open Go.ChangeShapes Go.WideShapes Go.ChangeAt Go.RowKit
theorem closed : joinedFacts Tryz.pinned.checked.prog 11 Tryz.f11 Rows.profileBlanksSpec Rows.profileBlanksRow = true := by
 unfold joinedFacts
 rw [i1, i2, i3, i4]
 kernel_rfl
end Go.Proofs.YthpjffhccjlnhaaGreatDoor.ProfileBlanksEnd
