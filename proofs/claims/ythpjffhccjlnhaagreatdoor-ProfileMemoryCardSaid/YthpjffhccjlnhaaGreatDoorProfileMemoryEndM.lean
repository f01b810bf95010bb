/- ProfileMemory: a closed fact of the card. No condition. -/
import Derived.Test.YthpjffhccjlnhaaGreatDoorRows
import Derived.ProofKit
import Derived.SevenTiedAt
set_option linter.unusedSimpArgs false
set_option linter.unusedVariables false
namespace Go.Proofs.YthpjffhccjlnhaaGreatDoor.ProfileMemoryEnd
open Go.ChangeShapes Go.WideShapes Go.ChangeAt Go.RowKit
theorem mainIs : Tryz.pinned.checked.prog.mainIs = some (true, "9312dfae8ea4895ac962c60189d974dab8a68fcbb85b686ba0c8820b24894da3".toList) := by kernel_rfl
end Go.Proofs.YthpjffhccjlnhaaGreatDoor.ProfileMemoryEnd
