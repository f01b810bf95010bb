/- ProfileWords: closed facts of the row. No condition. -/
import Derived.Test.YthpjffhccjlnhaaGreatDoorRows
import Derived.ProofKit
import Derived.JoinedCond
import Derived.JoinedOf
set_option linter.unusedSimpArgs false
set_option linter.unusedVariables false
namespace Go.Proofs.YthpjffhccjlnhaaGreatDoor.ProfileWordsEnd
open Go.ChangeShapes Go.WideShapes Go.ChangeAt Go.RowKit
theorem i1 : (Rows.profileWordsRow.inPlace == Program.inPlace Tryz.pinned.checked.prog 9) = true := by kernel_rfl
theorem i2 : (Rows.profileWordsRow.unfollowed == Program.unfollowed Tryz.pinned.checked.prog 9) = true := by kernel_rfl
theorem i3 : (Rows.profileWordsRow.recurses == Program.recurses Tryz.pinned.checked.prog 9) = true := by kernel_rfl
theorem i4 : (Rows.profileWordsRow.named == Program.varsNamed Tryz.pinned.checked.prog 9) = true := by kernel_rfl
end Go.Proofs.YthpjffhccjlnhaaGreatDoor.ProfileWordsEnd
