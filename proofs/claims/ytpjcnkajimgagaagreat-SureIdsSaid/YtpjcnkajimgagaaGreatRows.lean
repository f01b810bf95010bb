/-
  No cell of these rows narrows 'for every input' (looked for: loops, veiled, ifaces, maps, wideKeys, modest, calm, conditions, laid).
  DERIVED. THE GIVEN ROWS OF THIS SEAT. 5 by the template 'for every input the law returns true; each argument reads behind the call as it read before'; 0 by the template 'total and deterministic' (their statements: YtpjcnkajimgagaaGreatTotals.lean).
  GIVEN WITH THE SEED: the statements are not yours to turn. If you find one false, say at which input.
  Laid BY PROGRAM, IN A SANDBOX (cutbox-rows.mjs): the forced cells as the released guide's own fill.sh prints them over the translation e41e75c8504aa899… (all of the seat's roots in one cut). By AI agents, Wed Nov 11 2026. No macro, syntax, notation, axiom, sorry.
-/
import Derived.Test.YtpjcnkajimgagaaGreatChecked
import GoSem.Claim
import GoSem.ClaimJoined
import GoSem.ClaimMapViews
import Derived.JoinedTies
import Derived.KernelRfl
namespace Go.Proofs.YtpjcnkajimgagaaGreat
/- THE CELL 'sum', in the pinned program and in every row, IS THE sha256 OF THE DUMP (.gsa) THAT YtpjcnkajimgagaaGreatProg.lean LOADS. Nothing in Lean hashes anything: it is a label: what it is worth is what the hold of that sum in a sandbox is worth. -/
noncomputable def Tryz.pinned : Pinned := { name := "ytpjcnkajimgagaagreat", sum := "e41e75c8504aa8997a5ac4139163b6babd14163eb728db728aa62d56cc71e409", checked := Tryz.checked }
namespace Rows
def none {H : Type} : Left H := { results := [], args := [] }

/-- 'conjoinlaw07.SureLineages': WHATEVER THE INPUT: true; the input reads as it did. -/
def sureLineagesSpec : ChangeSpec := { name := "sureLineages", fn := fun _ => fun
  | [d1, d2, d3, d4] => { results := [.lit (.bool true)], args := [d1, d2, d3, d4] }
  | _ => none }
def sureLineagesRow : OpenClaim := { program := "ytpjcnkajimgagaagreat", sum := "e41e75c8504aa8997a5ac4139163b6babd14163eb728db728aa62d56cc71e409", func := "conjoin/conjoinlaw07.SureLineages", spec := "sureLineages", unfollowed := true, recurses := true, apart := false }
def SureLineagesSaid : Prop := sureLineagesRow.holds Tryz.pinned (OpenSpec.ofChange sureLineagesSpec)

/-- ITS FALSE NEIGHBOUR: 'it returns false'. Refute it at one input. -/
def sureLineagesWrong : ChangeSpec := { name := "sureLineages", fn := fun _ => fun
  | [d1, d2, d3, d4] => { results := [.lit (.bool false)], args := [d1, d2, d3, d4] }
  | _ => none }
def SureLineagesWrongFalsely : Prop := sureLineagesRow.holds Tryz.pinned (OpenSpec.ofChange sureLineagesWrong)

/-- 'conjoinlaw07.SureUses': WHATEVER THE INPUT: true; the input reads as it did. -/
def sureUsesSpec : ChangeSpec := { name := "sureUses", fn := fun _ => fun
  | [d1, d2, d3, d4, d5] => { results := [.lit (.bool true)], args := [d1, d2, d3, d4, d5] }
  | _ => none }
def sureUsesRow : OpenClaim := { program := "ytpjcnkajimgagaagreat", sum := "e41e75c8504aa8997a5ac4139163b6babd14163eb728db728aa62d56cc71e409", func := "conjoin/conjoinlaw07.SureUses", spec := "sureUses", unfollowed := true, recurses := true, apart := false }
def SureUsesSaid : Prop := sureUsesRow.holds Tryz.pinned (OpenSpec.ofChange sureUsesSpec)

/-- ITS FALSE NEIGHBOUR: 'it returns false'. Refute it at one input. -/
def sureUsesWrong : ChangeSpec := { name := "sureUses", fn := fun _ => fun
  | [d1, d2, d3, d4, d5] => { results := [.lit (.bool false)], args := [d1, d2, d3, d4, d5] }
  | _ => none }
def SureUsesWrongFalsely : Prop := sureUsesRow.holds Tryz.pinned (OpenSpec.ofChange sureUsesWrong)

/-- 'conjoinlaw07.SureIds': WHATEVER THE INPUT: true; the input reads as it did. -/
def sureIdsSpec : ChangeSpec := { name := "sureIds", fn := fun _ => fun
  | [d1, d2, d3, d4, d5, d6] => { results := [.lit (.bool true)], args := [d1, d2, d3, d4, d5, d6] }
  | _ => none }
def sureIdsRow : OpenClaim := { program := "ytpjcnkajimgagaagreat", sum := "e41e75c8504aa8997a5ac4139163b6babd14163eb728db728aa62d56cc71e409", func := "conjoin/conjoinlaw07.SureIds", spec := "sureIds", unfollowed := true, recurses := true, apart := false }
def SureIdsSaid : Prop := sureIdsRow.holds Tryz.pinned (OpenSpec.ofChange sureIdsSpec)

/-- ITS FALSE NEIGHBOUR: 'it returns false'. Refute it at one input. -/
def sureIdsWrong : ChangeSpec := { name := "sureIds", fn := fun _ => fun
  | [d1, d2, d3, d4, d5, d6] => { results := [.lit (.bool false)], args := [d1, d2, d3, d4, d5, d6] }
  | _ => none }
def SureIdsWrongFalsely : Prop := sureIdsRow.holds Tryz.pinned (OpenSpec.ofChange sureIdsWrong)

/-- 'conjoinlaw07.SureMemory': WHATEVER THE INPUT: true; the input reads as it did. -/
def sureMemorySpec : ChangeSpec := { name := "sureMemory", fn := fun _ => fun
  | [d1, d2, d3, d4, d5, d6] => { results := [.lit (.bool true)], args := [d1, d2, d3, d4, d5, d6] }
  | _ => none }
def sureMemoryRow : OpenClaim := { program := "ytpjcnkajimgagaagreat", sum := "e41e75c8504aa8997a5ac4139163b6babd14163eb728db728aa62d56cc71e409", func := "conjoin/conjoinlaw07.SureMemory", spec := "sureMemory", unfollowed := true, recurses := true, apart := false }
def SureMemorySaid : Prop := sureMemoryRow.holds Tryz.pinned (OpenSpec.ofChange sureMemorySpec)

/-- ITS FALSE NEIGHBOUR: 'it returns false'. Refute it at one input. -/
def sureMemoryWrong : ChangeSpec := { name := "sureMemory", fn := fun _ => fun
  | [d1, d2, d3, d4, d5, d6] => { results := [.lit (.bool false)], args := [d1, d2, d3, d4, d5, d6] }
  | _ => none }
def SureMemoryWrongFalsely : Prop := sureMemoryRow.holds Tryz.pinned (OpenSpec.ofChange sureMemoryWrong)

/-- 'conjoinlaw07.SureRests': WHATEVER THE INPUT: true; the input reads as it did. -/
def sureRestsSpec : ChangeSpec := { name := "sureRests", fn := fun _ => fun
  | [d1, d2, d3] => { results := [.lit (.bool true)], args := [d1, d2, d3] }
  | _ => none }
def sureRestsRow : OpenClaim := { program := "ytpjcnkajimgagaagreat", sum := "e41e75c8504aa8997a5ac4139163b6babd14163eb728db728aa62d56cc71e409", func := "conjoin/conjoinlaw07.SureRests", spec := "sureRests", unfollowed := true, recurses := true, apart := false }
def SureRestsSaid : Prop := sureRestsRow.holds Tryz.pinned (OpenSpec.ofChange sureRestsSpec)

/-- ITS FALSE NEIGHBOUR: 'it returns false'. Refute it at one input. -/
def sureRestsWrong : ChangeSpec := { name := "sureRests", fn := fun _ => fun
  | [d1, d2, d3] => { results := [.lit (.bool false)], args := [d1, d2, d3] }
  | _ => none }
def SureRestsWrongFalsely : Prop := sureRestsRow.holds Tryz.pinned (OpenSpec.ofChange sureRestsWrong)

/- THE SECOND FORM. 'bulk': how many values and letters a reading holds, each counted each time it is reached (what is shared counts as often as it is met; a slice's spare places count too). A statement '..UptoSaid' is the law's where the arguments, and the package variables that the reading takes, are together of bulk at most 1048576: NARROWER than '..Said'. Prove '..Said' where nothing that the law and all that it calls make is longer than what came in: it says more and counts as full. Else prove '..UptoSaid'. A law counts once. -/
mutual
def uptoBulk {H : Type} : DataW H → Nat
  | .lit (.string bytes) => bytes.length + 1
  | .lit _ => 1
  | .nil => 1
  | .ptr d => uptoBulk d + 1
  | .slice elems spare => uptoBulkAll elems + uptoBulkAll spare + 1
  | .agg parts => uptoBulkAll parts + 1
  | .iface _ d => uptoBulk d + 1
  | .map entries => uptoBulkEntries entries + 1
  | .held _ => 1
def uptoBulkAll {H : Type} : List (DataW H) → Nat
  | [] => 0
  | d :: r => uptoBulk d + uptoBulkAll r
def uptoBulkEntries {H : Type} : List (Lit × DataW H) → Nat
  | [] => 0
  | x :: r => uptoBulkEntry x + uptoBulkEntries r
def uptoBulkEntry {H : Type} : Lit × DataW H → Nat
  | (.string bytes, d) => bytes.length + uptoBulk d + 1
  | (_, d) => uptoBulk d + 1
 end
def uptoSmall : (H : Type) → List (DataW H) → Bool := fun _ ds => decide (uptoBulkAll ds ≤ 1048576)
def OpenSpec.upto (s : _root_.Go.ChangeSpec) : _root_.Go.OpenSpec := { _root_.Go.OpenSpec.ofChange s with cond := some uptoSmall }

/-- 'conjoinlaw07.SureLineages', WHERE WHAT IT READS IS OF BULK AT MOST 1048576: true; the input reads as it did. -/
def sureLineagesUptoRow : OpenClaim := { program := "ytpjcnkajimgagaagreat", sum := "e41e75c8504aa8997a5ac4139163b6babd14163eb728db728aa62d56cc71e409", func := "conjoin/conjoinlaw07.SureLineages", spec := "sureLineages", unfollowed := true, recurses := true, apart := false, narrowed := true }
def SureLineagesUptoSaid : Prop := sureLineagesUptoRow.holds Tryz.pinned (OpenSpec.upto sureLineagesSpec)

/-- 'conjoinlaw07.SureUses', WHERE WHAT IT READS IS OF BULK AT MOST 1048576: true; the input reads as it did. -/
def sureUsesUptoRow : OpenClaim := { program := "ytpjcnkajimgagaagreat", sum := "e41e75c8504aa8997a5ac4139163b6babd14163eb728db728aa62d56cc71e409", func := "conjoin/conjoinlaw07.SureUses", spec := "sureUses", unfollowed := true, recurses := true, apart := false, narrowed := true }
def SureUsesUptoSaid : Prop := sureUsesUptoRow.holds Tryz.pinned (OpenSpec.upto sureUsesSpec)

/-- 'conjoinlaw07.SureIds', WHERE WHAT IT READS IS OF BULK AT MOST 1048576: true; the input reads as it did. -/
def sureIdsUptoRow : OpenClaim := { program := "ytpjcnkajimgagaagreat", sum := "e41e75c8504aa8997a5ac4139163b6babd14163eb728db728aa62d56cc71e409", func := "conjoin/conjoinlaw07.SureIds", spec := "sureIds", unfollowed := true, recurses := true, apart := false, narrowed := true }
def SureIdsUptoSaid : Prop := sureIdsUptoRow.holds Tryz.pinned (OpenSpec.upto sureIdsSpec)

/-- 'conjoinlaw07.SureMemory', WHERE WHAT IT READS IS OF BULK AT MOST 1048576: true; the input reads as it did. -/
def sureMemoryUptoRow : OpenClaim := { program := "ytpjcnkajimgagaagreat", sum := "e41e75c8504aa8997a5ac4139163b6babd14163eb728db728aa62d56cc71e409", func := "conjoin/conjoinlaw07.SureMemory", spec := "sureMemory", unfollowed := true, recurses := true, apart := false, narrowed := true }
def SureMemoryUptoSaid : Prop := sureMemoryUptoRow.holds Tryz.pinned (OpenSpec.upto sureMemorySpec)

/-- 'conjoinlaw07.SureRests', WHERE WHAT IT READS IS OF BULK AT MOST 1048576: true; the input reads as it did. -/
def sureRestsUptoRow : OpenClaim := { program := "ytpjcnkajimgagaagreat", sum := "e41e75c8504aa8997a5ac4139163b6babd14163eb728db728aa62d56cc71e409", func := "conjoin/conjoinlaw07.SureRests", spec := "sureRests", unfollowed := true, recurses := true, apart := false, narrowed := true }
def SureRestsUptoSaid : Prop := sureRestsUptoRow.holds Tryz.pinned (OpenSpec.upto sureRestsSpec)

end Rows
end Go.Proofs.YtpjcnkajimgagaaGreat
