/- ProfileShifts: closed facts of the row. No condition. -/
import Derived.Test.YthpjffhccjlnhaaGreatDoorRows
import Derived.ProofKit
import Derived.JoinedCond
import Derived.JoinedOf
set_option linter.unusedSimpArgs false
set_option linter.unusedVariables false
namespace Go.Proofs.YthpjffhccjlnhaaGreatDoor.ProfileShiftsEnd
open Go.ChangeShapes Go.WideShapes Go.ChangeAt Go.RowKit
theorem i1 : (Rows.profileShiftsRow.inPlace == Program.inPlace Tryz.pinned.checked.prog 7) = true := by kernel_rfl
theorem i2 : (Rows.profileShiftsRow.unfollowed == Program.unfollowed Tryz.pinned.checked.prog 7) = true := by kernel_rfl
theorem i3 : (Rows.profileShiftsRow.recurses == Program.recurses Tryz.pinned.checked.prog 7) = true := by kernel_rfl
theorem i4 : (Rows.profileShiftsRow.named == Program.varsNamed Tryz.pinned.checked.prog 7) = true := by kernel_rfl
end Go.Proofs.YthpjffhccjlnhaaGreatDoor.ProfileShiftsEnd
