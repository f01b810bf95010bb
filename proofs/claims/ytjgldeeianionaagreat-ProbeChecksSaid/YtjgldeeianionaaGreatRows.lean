/-
  No cell of these rows narrows 'for every input' (looked for: loops, veiled, ifaces, maps, wideKeys, modest, calm, conditions, laid).
  DERIVED. THE GIVEN ROWS OF THIS SEAT. 10 by the template 'for every input the law returns true; each argument reads behind the call as it read before'; 0 by the template 'total and deterministic' (their statements: YtjgldeeianionaaGreatTotals.lean).
  GIVEN WITH THE SEED: the statements are not yours to turn. If you find one false, say at which input.
  Laid BY PROGRAM, IN A SANDBOX (cutbox-rows.mjs): the forced cells as the released guide's own fill.sh prints them over the translation 684dbd7eed023ce6… (all of the seat's roots in one cut). By AI agents, Wed Nov 11 2026. No macro, syntax, notation, axiom, sorry.
-/
import Derived.Test.YtjgldeeianionaaGreatChecked
import GoSem.Claim
import GoSem.ClaimJoined
import GoSem.ClaimMapViews
import Derived.JoinedTies
import Derived.KernelRfl
namespace Go.Proofs.YtjgldeeianionaaGreat
/- THE CELL 'sum', in the pinned program and in every row, IS THE sha256 OF THE DUMP (.gsa) THAT YtjgldeeianionaaGreatProg.lean LOADS. Nothing in Lean hashes anything: it is a label: what it is worth is what the hold of that sum in a sandbox is worth. -/
noncomputable def Tryz.pinned : Pinned := { name := "ytjgldeeianionaagreat", sum := "684dbd7eed023ce613d339fd23ee9048f3964b70091a2224b92bce17e7fc542d", checked := Tryz.checked }
namespace Rows
def none {H : Type} : Left H := { results := [], args := [] }

/-- 'conjoinlaw09.ProbeAfters': WHATEVER THE INPUT: true; the input reads as it did. -/
def probeAftersSpec : ChangeSpec := { name := "probeAfters", fn := fun _ => fun
  | [d1, d2, d3, d4] => { results := [.lit (.bool true)], args := [d1, d2, d3, d4] }
  | _ => none }
def probeAftersRow : OpenClaim := { program := "ytjgldeeianionaagreat", sum := "684dbd7eed023ce613d339fd23ee9048f3964b70091a2224b92bce17e7fc542d", func := "conjoin/conjoinlaw09.ProbeAfters", spec := "probeAfters", unfollowed := true, recurses := true, apart := false }
def ProbeAftersSaid : Prop := probeAftersRow.holds Tryz.pinned (OpenSpec.ofChange probeAftersSpec)

/-- ITS FALSE NEIGHBOUR: 'it returns false'. Refute it at one input. -/
def probeAftersWrong : ChangeSpec := { name := "probeAfters", fn := fun _ => fun
  | [d1, d2, d3, d4] => { results := [.lit (.bool false)], args := [d1, d2, d3, d4] }
  | _ => none }
def ProbeAftersWrongFalsely : Prop := probeAftersRow.holds Tryz.pinned (OpenSpec.ofChange probeAftersWrong)

/-- 'conjoinlaw09.ProbeCheapest': WHATEVER THE INPUT: true; the input reads as it did. -/
def probeCheapestSpec : ChangeSpec := { name := "probeCheapest", fn := fun _ => fun
  | [d1, d2, d3, d4] => { results := [.lit (.bool true)], args := [d1, d2, d3, d4] }
  | _ => none }
def probeCheapestRow : OpenClaim := { program := "ytjgldeeianionaagreat", sum := "684dbd7eed023ce613d339fd23ee9048f3964b70091a2224b92bce17e7fc542d", func := "conjoin/conjoinlaw09.ProbeCheapest", spec := "probeCheapest", unfollowed := true, recurses := true, apart := false }
def ProbeCheapestSaid : Prop := probeCheapestRow.holds Tryz.pinned (OpenSpec.ofChange probeCheapestSpec)

/-- ITS FALSE NEIGHBOUR: 'it returns false'. Refute it at one input. -/
def probeCheapestWrong : ChangeSpec := { name := "probeCheapest", fn := fun _ => fun
  | [d1, d2, d3, d4] => { results := [.lit (.bool false)], args := [d1, d2, d3, d4] }
  | _ => none }
def ProbeCheapestWrongFalsely : Prop := probeCheapestRow.holds Tryz.pinned (OpenSpec.ofChange probeCheapestWrong)

/-- 'conjoinlaw09.ProbeBest': WHATEVER THE INPUT: true; the input reads as it did. -/
def probeBestSpec : ChangeSpec := { name := "probeBest", fn := fun _ => fun
  | [d1, d2] => { results := [.lit (.bool true)], args := [d1, d2] }
  | _ => none }
def probeBestRow : OpenClaim := { program := "ytjgldeeianionaagreat", sum := "684dbd7eed023ce613d339fd23ee9048f3964b70091a2224b92bce17e7fc542d", func := "conjoin/conjoinlaw09.ProbeBest", spec := "probeBest", unfollowed := true, recurses := true, apart := false }
def ProbeBestSaid : Prop := probeBestRow.holds Tryz.pinned (OpenSpec.ofChange probeBestSpec)

/-- ITS FALSE NEIGHBOUR: 'it returns false'. Refute it at one input. -/
def probeBestWrong : ChangeSpec := { name := "probeBest", fn := fun _ => fun
  | [d1, d2] => { results := [.lit (.bool false)], args := [d1, d2] }
  | _ => none }
def ProbeBestWrongFalsely : Prop := probeBestRow.holds Tryz.pinned (OpenSpec.ofChange probeBestWrong)

/-- 'conjoinlaw09.ProbeMore': WHATEVER THE INPUT: true; the input reads as it did. -/
def probeMoreSpec : ChangeSpec := { name := "probeMore", fn := fun _ => fun
  | [d1, d2, d3, d4, d5, d6, d7] => { results := [.lit (.bool true)], args := [d1, d2, d3, d4, d5, d6, d7] }
  | _ => none }
def probeMoreRow : OpenClaim := { program := "ytjgldeeianionaagreat", sum := "684dbd7eed023ce613d339fd23ee9048f3964b70091a2224b92bce17e7fc542d", func := "conjoin/conjoinlaw09.ProbeMore", spec := "probeMore", unfollowed := true, recurses := true, apart := false }
def ProbeMoreSaid : Prop := probeMoreRow.holds Tryz.pinned (OpenSpec.ofChange probeMoreSpec)

/-- ITS FALSE NEIGHBOUR: 'it returns false'. Refute it at one input. -/
def probeMoreWrong : ChangeSpec := { name := "probeMore", fn := fun _ => fun
  | [d1, d2, d3, d4, d5, d6, d7] => { results := [.lit (.bool false)], args := [d1, d2, d3, d4, d5, d6, d7] }
  | _ => none }
def ProbeMoreWrongFalsely : Prop := probeMoreRow.holds Tryz.pinned (OpenSpec.ofChange probeMoreWrong)

/-- 'conjoinlaw09.ProbeFixed': WHATEVER THE INPUT: true; the input reads as it did. -/
def probeFixedSpec : ChangeSpec := { name := "probeFixed", fn := fun _ => fun
  | [d1, d2, d3, d4] => { results := [.lit (.bool true)], args := [d1, d2, d3, d4] }
  | _ => none }
def probeFixedRow : OpenClaim := { program := "ytjgldeeianionaagreat", sum := "684dbd7eed023ce613d339fd23ee9048f3964b70091a2224b92bce17e7fc542d", func := "conjoin/conjoinlaw09.ProbeFixed", spec := "probeFixed", unfollowed := true, recurses := true, apart := false }
def ProbeFixedSaid : Prop := probeFixedRow.holds Tryz.pinned (OpenSpec.ofChange probeFixedSpec)

/-- ITS FALSE NEIGHBOUR: 'it returns false'. Refute it at one input. -/
def probeFixedWrong : ChangeSpec := { name := "probeFixed", fn := fun _ => fun
  | [d1, d2, d3, d4] => { results := [.lit (.bool false)], args := [d1, d2, d3, d4] }
  | _ => none }
def ProbeFixedWrongFalsely : Prop := probeFixedRow.holds Tryz.pinned (OpenSpec.ofChange probeFixedWrong)

/-- 'conjoinlaw09.ProbeDoubts': WHATEVER THE INPUT: true; the input reads as it did. -/
def probeDoubtsSpec : ChangeSpec := { name := "probeDoubts", fn := fun _ => fun
  | [d1, d2, d3, d4, d5] => { results := [.lit (.bool true)], args := [d1, d2, d3, d4, d5] }
  | _ => none }
def probeDoubtsRow : OpenClaim := { program := "ytjgldeeianionaagreat", sum := "684dbd7eed023ce613d339fd23ee9048f3964b70091a2224b92bce17e7fc542d", func := "conjoin/conjoinlaw09.ProbeDoubts", spec := "probeDoubts", unfollowed := true, recurses := true, apart := false }
def ProbeDoubtsSaid : Prop := probeDoubtsRow.holds Tryz.pinned (OpenSpec.ofChange probeDoubtsSpec)

/-- ITS FALSE NEIGHBOUR: 'it returns false'. Refute it at one input. -/
def probeDoubtsWrong : ChangeSpec := { name := "probeDoubts", fn := fun _ => fun
  | [d1, d2, d3, d4, d5] => { results := [.lit (.bool false)], args := [d1, d2, d3, d4, d5] }
  | _ => none }
def ProbeDoubtsWrongFalsely : Prop := probeDoubtsRow.holds Tryz.pinned (OpenSpec.ofChange probeDoubtsWrong)

/-- 'conjoinlaw09.ProbeChecks': WHATEVER THE INPUT: true; the input reads as it did. -/
def probeChecksSpec : ChangeSpec := { name := "probeChecks", fn := fun _ => fun
  | [d1, d2, d3, d4, d5, d6, d7, d8] => { results := [.lit (.bool true)], args := [d1, d2, d3, d4, d5, d6, d7, d8] }
  | _ => none }
def probeChecksRow : OpenClaim := { program := "ytjgldeeianionaagreat", sum := "684dbd7eed023ce613d339fd23ee9048f3964b70091a2224b92bce17e7fc542d", func := "conjoin/conjoinlaw09.ProbeChecks", spec := "probeChecks", unfollowed := true, recurses := true, apart := false }
def ProbeChecksSaid : Prop := probeChecksRow.holds Tryz.pinned (OpenSpec.ofChange probeChecksSpec)

/-- ITS FALSE NEIGHBOUR: 'it returns false'. Refute it at one input. -/
def probeChecksWrong : ChangeSpec := { name := "probeChecks", fn := fun _ => fun
  | [d1, d2, d3, d4, d5, d6, d7, d8] => { results := [.lit (.bool false)], args := [d1, d2, d3, d4, d5, d6, d7, d8] }
  | _ => none }
def ProbeChecksWrongFalsely : Prop := probeChecksRow.holds Tryz.pinned (OpenSpec.ofChange probeChecksWrong)

/-- 'conjoinlaw09.ProbeFindings': WHATEVER THE INPUT: true; the input reads as it did. -/
def probeFindingsSpec : ChangeSpec := { name := "probeFindings", fn := fun _ => fun
  | [d1, d2, d3, d4] => { results := [.lit (.bool true)], args := [d1, d2, d3, d4] }
  | _ => none }
def probeFindingsRow : OpenClaim := { program := "ytjgldeeianionaagreat", sum := "684dbd7eed023ce613d339fd23ee9048f3964b70091a2224b92bce17e7fc542d", func := "conjoin/conjoinlaw09.ProbeFindings", spec := "probeFindings", unfollowed := true, recurses := true, apart := false }
def ProbeFindingsSaid : Prop := probeFindingsRow.holds Tryz.pinned (OpenSpec.ofChange probeFindingsSpec)

/-- ITS FALSE NEIGHBOUR: 'it returns false'. Refute it at one input. -/
def probeFindingsWrong : ChangeSpec := { name := "probeFindings", fn := fun _ => fun
  | [d1, d2, d3, d4] => { results := [.lit (.bool false)], args := [d1, d2, d3, d4] }
  | _ => none }
def ProbeFindingsWrongFalsely : Prop := probeFindingsRow.holds Tryz.pinned (OpenSpec.ofChange probeFindingsWrong)

/-- 'conjoinlaw09.ProbeLeast': WHATEVER THE INPUT: true; the input reads as it did. -/
def probeLeastSpec : ChangeSpec := { name := "probeLeast", fn := fun _ => fun
  | [d1, d2, d3, d4, d5, d6, d7] => { results := [.lit (.bool true)], args := [d1, d2, d3, d4, d5, d6, d7] }
  | _ => none }
def probeLeastRow : OpenClaim := { program := "ytjgldeeianionaagreat", sum := "684dbd7eed023ce613d339fd23ee9048f3964b70091a2224b92bce17e7fc542d", func := "conjoin/conjoinlaw09.ProbeLeast", spec := "probeLeast", unfollowed := true, recurses := true, apart := false }
def ProbeLeastSaid : Prop := probeLeastRow.holds Tryz.pinned (OpenSpec.ofChange probeLeastSpec)

/-- ITS FALSE NEIGHBOUR: 'it returns false'. Refute it at one input. -/
def probeLeastWrong : ChangeSpec := { name := "probeLeast", fn := fun _ => fun
  | [d1, d2, d3, d4, d5, d6, d7] => { results := [.lit (.bool false)], args := [d1, d2, d3, d4, d5, d6, d7] }
  | _ => none }
def ProbeLeastWrongFalsely : Prop := probeLeastRow.holds Tryz.pinned (OpenSpec.ofChange probeLeastWrong)

/-- 'conjoinlaw09.ProbeLists': WHATEVER THE INPUT: true; the input reads as it did. -/
def probeListsSpec : ChangeSpec := { name := "probeLists", fn := fun _ => fun
  | [d1, d2, d3, d4] => { results := [.lit (.bool true)], args := [d1, d2, d3, d4] }
  | _ => none }
def probeListsRow : OpenClaim := { program := "ytjgldeeianionaagreat", sum := "684dbd7eed023ce613d339fd23ee9048f3964b70091a2224b92bce17e7fc542d", func := "conjoin/conjoinlaw09.ProbeLists", spec := "probeLists", unfollowed := true, recurses := true, apart := false }
def ProbeListsSaid : Prop := probeListsRow.holds Tryz.pinned (OpenSpec.ofChange probeListsSpec)

/-- ITS FALSE NEIGHBOUR: 'it returns false'. Refute it at one input. -/
def probeListsWrong : ChangeSpec := { name := "probeLists", fn := fun _ => fun
  | [d1, d2, d3, d4] => { results := [.lit (.bool false)], args := [d1, d2, d3, d4] }
  | _ => none }
def ProbeListsWrongFalsely : Prop := probeListsRow.holds Tryz.pinned (OpenSpec.ofChange probeListsWrong)

/- THE SECOND FORM. 'bulk': how many values and letters a reading holds, each counted each time it is reached (what is shared counts as often as it is met; a slice's spare places count too). A statement '..UptoSaid' is the law's where the arguments, and the package variables that the reading takes, are together of bulk at most 1048576: NARROWER than '..Said'. Prove '..Said' where nothing that the law and all that it calls make is longer than what came in: it says more and counts as full. Else prove '..UptoSaid'. A law counts once. -/
mutual
def uptoBulk {H : Type} : DataW H → Nat
  | .lit (.string bytes) => bytes.length + 1
  | .lit _ => 1
  | .nil => 1
  | .ptr d => uptoBulk d + 1
  | .slice elems spare => uptoBulkAll elems + uptoBulkAll spare + 1
  | .agg parts => uptoBulkAll parts + 1
  | .iface _ d => uptoBulk d + 1
  | .map entries => uptoBulkEntries entries + 1
  | .held _ => 1
def uptoBulkAll {H : Type} : List (DataW H) → Nat
  | [] => 0
  | d :: r => uptoBulk d + uptoBulkAll r
def uptoBulkEntries {H : Type} : List (Lit × DataW H) → Nat
  | [] => 0
  | x :: r => uptoBulkEntry x + uptoBulkEntries r
def uptoBulkEntry {H : Type} : Lit × DataW H → Nat
  | (.string bytes, d) => bytes.length + uptoBulk d + 1
  | (_, d) => uptoBulk d + 1
 end
def uptoSmall : (H : Type) → List (DataW H) → Bool := fun _ ds => decide (uptoBulkAll ds ≤ 1048576)
def OpenSpec.upto (s : _root_.Go.ChangeSpec) : _root_.Go.OpenSpec := { _root_.Go.OpenSpec.ofChange s with cond := some uptoSmall }

/-- 'conjoinlaw09.ProbeAfters', WHERE WHAT IT READS IS OF BULK AT MOST 1048576: true; the input reads as it did. -/
def probeAftersUptoRow : OpenClaim := { program := "ytjgldeeianionaagreat", sum := "684dbd7eed023ce613d339fd23ee9048f3964b70091a2224b92bce17e7fc542d", func := "conjoin/conjoinlaw09.ProbeAfters", spec := "probeAfters", unfollowed := true, recurses := true, apart := false, narrowed := true }
def ProbeAftersUptoSaid : Prop := probeAftersUptoRow.holds Tryz.pinned (OpenSpec.upto probeAftersSpec)

/-- 'conjoinlaw09.ProbeCheapest', WHERE WHAT IT READS IS OF BULK AT MOST 1048576: true; the input reads as it did. -/
def probeCheapestUptoRow : OpenClaim := { program := "ytjgldeeianionaagreat", sum := "684dbd7eed023ce613d339fd23ee9048f3964b70091a2224b92bce17e7fc542d", func := "conjoin/conjoinlaw09.ProbeCheapest", spec := "probeCheapest", unfollowed := true, recurses := true, apart := false, narrowed := true }
def ProbeCheapestUptoSaid : Prop := probeCheapestUptoRow.holds Tryz.pinned (OpenSpec.upto probeCheapestSpec)

/-- 'conjoinlaw09.ProbeBest', WHERE WHAT IT READS IS OF BULK AT MOST 1048576: true; the input reads as it did. -/
def probeBestUptoRow : OpenClaim := { program := "ytjgldeeianionaagreat", sum := "684dbd7eed023ce613d339fd23ee9048f3964b70091a2224b92bce17e7fc542d", func := "conjoin/conjoinlaw09.ProbeBest", spec := "probeBest", unfollowed := true, recurses := true, apart := false, narrowed := true }
def ProbeBestUptoSaid : Prop := probeBestUptoRow.holds Tryz.pinned (OpenSpec.upto probeBestSpec)

/-- 'conjoinlaw09.ProbeMore', WHERE WHAT IT READS IS OF BULK AT MOST 1048576: true; the input reads as it did. -/
def probeMoreUptoRow : OpenClaim := { program := "ytjgldeeianionaagreat", sum := "684dbd7eed023ce613d339fd23ee9048f3964b70091a2224b92bce17e7fc542d", func := "conjoin/conjoinlaw09.ProbeMore", spec := "probeMore", unfollowed := true, recurses := true, apart := false, narrowed := true }
def ProbeMoreUptoSaid : Prop := probeMoreUptoRow.holds Tryz.pinned (OpenSpec.upto probeMoreSpec)

/-- 'conjoinlaw09.ProbeFixed', WHERE WHAT IT READS IS OF BULK AT MOST 1048576: true; the input reads as it did. -/
def probeFixedUptoRow : OpenClaim := { program := "ytjgldeeianionaagreat", sum := "684dbd7eed023ce613d339fd23ee9048f3964b70091a2224b92bce17e7fc542d", func := "conjoin/conjoinlaw09.ProbeFixed", spec := "probeFixed", unfollowed := true, recurses := true, apart := false, narrowed := true }
def ProbeFixedUptoSaid : Prop := probeFixedUptoRow.holds Tryz.pinned (OpenSpec.upto probeFixedSpec)

/-- 'conjoinlaw09.ProbeDoubts', WHERE WHAT IT READS IS OF BULK AT MOST 1048576: true; the input reads as it did. -/
def probeDoubtsUptoRow : OpenClaim := { program := "ytjgldeeianionaagreat", sum := "684dbd7eed023ce613d339fd23ee9048f3964b70091a2224b92bce17e7fc542d", func := "conjoin/conjoinlaw09.ProbeDoubts", spec := "probeDoubts", unfollowed := true, recurses := true, apart := false, narrowed := true }
def ProbeDoubtsUptoSaid : Prop := probeDoubtsUptoRow.holds Tryz.pinned (OpenSpec.upto probeDoubtsSpec)

/-- 'conjoinlaw09.ProbeChecks', WHERE WHAT IT READS IS OF BULK AT MOST 1048576: true; the input reads as it did. -/
def probeChecksUptoRow : OpenClaim := { program := "ytjgldeeianionaagreat", sum := "684dbd7eed023ce613d339fd23ee9048f3964b70091a2224b92bce17e7fc542d", func := "conjoin/conjoinlaw09.ProbeChecks", spec := "probeChecks", unfollowed := true, recurses := true, apart := false, narrowed := true }
def ProbeChecksUptoSaid : Prop := probeChecksUptoRow.holds Tryz.pinned (OpenSpec.upto probeChecksSpec)

/-- 'conjoinlaw09.ProbeFindings', WHERE WHAT IT READS IS OF BULK AT MOST 1048576: true; the input reads as it did. -/
def probeFindingsUptoRow : OpenClaim := { program := "ytjgldeeianionaagreat", sum := "684dbd7eed023ce613d339fd23ee9048f3964b70091a2224b92bce17e7fc542d", func := "conjoin/conjoinlaw09.ProbeFindings", spec := "probeFindings", unfollowed := true, recurses := true, apart := false, narrowed := true }
def ProbeFindingsUptoSaid : Prop := probeFindingsUptoRow.holds Tryz.pinned (OpenSpec.upto probeFindingsSpec)

/-- 'conjoinlaw09.ProbeLeast', WHERE WHAT IT READS IS OF BULK AT MOST 1048576: true; the input reads as it did. -/
def probeLeastUptoRow : OpenClaim := { program := "ytjgldeeianionaagreat", sum := "684dbd7eed023ce613d339fd23ee9048f3964b70091a2224b92bce17e7fc542d", func := "conjoin/conjoinlaw09.ProbeLeast", spec := "probeLeast", unfollowed := true, recurses := true, apart := false, narrowed := true }
def ProbeLeastUptoSaid : Prop := probeLeastUptoRow.holds Tryz.pinned (OpenSpec.upto probeLeastSpec)

/-- 'conjoinlaw09.ProbeLists', WHERE WHAT IT READS IS OF BULK AT MOST 1048576: true; the input reads as it did. -/
def probeListsUptoRow : OpenClaim := { program := "ytjgldeeianionaagreat", sum := "684dbd7eed023ce613d339fd23ee9048f3964b70091a2224b92bce17e7fc542d", func := "conjoin/conjoinlaw09.ProbeLists", spec := "probeLists", unfollowed := true, recurses := true, apart := false, narrowed := true }
def ProbeListsUptoSaid : Prop := probeListsUptoRow.holds Tryz.pinned (OpenSpec.upto probeListsSpec)

end Rows
end Go.Proofs.YtjgldeeianionaaGreat
