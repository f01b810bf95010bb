/- ProfileMemory: closed facts of the row. No condition. -/
import Derived.Test.YthpjffhccjlnhaaGreatDoorRows
import Derived.ProofKit
import Derived.JoinedCond
import Derived.JoinedOf
set_option linter.unusedSimpArgs false
set_option linter.unusedVariables false
namespace Go.Proofs.YthpjffhccjlnhaaGreatDoor.ProfileMemoryEnd
open Go.ChangeShapes Go.WideShapes Go.ChangeAt Go.RowKit
theorem i1 : (Rows.profileMemoryRow.inPlace == Program.inPlace Tryz.pinned.checked.prog 16) = true := by kernel_rfl
theorem i2 : (Rows.profileMemoryRow.unfollowed == Program.unfollowed Tryz.pinned.checked.prog 16) = true := by kernel_rfl
theorem i3 : (Rows.profileMemoryRow.recurses == Program.recurses Tryz.pinned.checked.prog 16) = true := by kernel_rfl
theorem i4 : (Rows.profileMemoryRow.named == Program.varsNamed Tryz.pinned.checked.prog 16) = true := by kernel_rfl
end Go.Proofs.YthpjffhccjlnhaaGreatDoor.ProfileMemoryEnd
