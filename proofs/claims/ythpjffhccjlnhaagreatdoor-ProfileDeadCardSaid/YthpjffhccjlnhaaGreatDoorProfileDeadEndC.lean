/- ProfileDead: the closed facts of the row. No condition. -/
import Derived.Test.YthpjffhccjlnhaaGreatDoorProfileDeadEndI
set_option linter.unusedSimpArgs false
set_option linter.unusedVariables false
namespace Go.Proofs.YthpjffhccjlnhaaGreatDoor.ProfileDeadEnd
open Go.ChangeShapes Go.WideShapes Go.ChangeAt Go.RowKit
theorem closed : joinedFacts Tryz.pinned.checked.prog 10 Tryz.f10 Rows.profileDeadSpec Rows.profileDeadRow = true := by
 unfold joinedFacts
 rw [i1, i2, i3, i4]
 kernel_rfl
end Go.Proofs.YthpjffhccjlnhaaGreatDoor.ProfileDeadEnd
