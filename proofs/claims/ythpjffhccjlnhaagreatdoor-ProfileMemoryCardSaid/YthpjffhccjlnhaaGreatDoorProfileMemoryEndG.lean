/- ProfileMemory: a closed fact of the card. No condition. -/
import Derived.Test.YthpjffhccjlnhaaGreatDoorRows
import Derived.ProofKit
import Derived.SevenTiedAt
set_option linter.unusedSimpArgs false
set_option linter.unusedVariables false
namespace Go.Proofs.YthpjffhccjlnhaaGreatDoor.ProfileMemoryEnd
open Go.ChangeShapes Go.WideShapes Go.ChangeAt Go.RowKit
theorem goes : false = Rows.profileMemoryRow.goesBy Tryz.pinned.checked.prog := by kernel_rfl
end Go.Proofs.YthpjffhccjlnhaaGreatDoor.ProfileMemoryEnd
