/-
  No cell of these rows narrows 'for every input' (looked for: loops, veiled, ifaces, maps, wideKeys, modest, calm, conditions, laid).
  DERIVED. THE GIVEN ROWS OF THIS SEAT. 10 by the template 'for every input the law returns true; each argument reads behind the call as it read before'; 0 by the template 'total and deterministic' (their statements: YtoaacllpegfcjaaGreatTotals.lean).
  GIVEN WITH THE SEED: the statements are not yours to turn. If you find one false, say at which input.
  Laid BY PROGRAM, IN A SANDBOX (cutbox-rows.mjs): the forced cells as the released guide's own fill.sh prints them over the translation 20c108576d4db063… (all of the seat's roots in one cut). By AI agents, Wed Nov 11 2026. No macro, syntax, notation, axiom, sorry.
-/
import Derived.Test.YtoaacllpegfcjaaGreatChecked
import GoSem.Claim
import GoSem.ClaimJoined
import GoSem.ClaimMapViews
import Derived.JoinedTies
import Derived.KernelRfl
namespace Go.Proofs.YtoaacllpegfcjaaGreat
/- THE CELL 'sum', in the pinned program and in every row, IS THE sha256 OF THE DUMP (.gsa) THAT YtoaacllpegfcjaaGreatProg.lean LOADS. Nothing in Lean hashes anything: it is a label: what it is worth is what the hold of that sum in a sandbox is worth. -/
noncomputable def Tryz.pinned : Pinned := { name := "ytoaacllpegfcjaagreat", sum := "20c108576d4db0634681bf10efba166dd142b9855c06f52b11c17dc36f74af09", checked := Tryz.checked }
namespace Rows
def none {H : Type} : Left H := { results := [], args := [] }

/-- 'conjoinlaw07.SureCertain': WHATEVER THE INPUT: true; the input reads as it did. -/
def sureCertainSpec : ChangeSpec := { name := "sureCertain", fn := fun _ => fun
  | [d1, d2, d3, d4] => { results := [.lit (.bool true)], args := [d1, d2, d3, d4] }
  | _ => none }
def sureCertainRow : OpenClaim := { program := "ytoaacllpegfcjaagreat", sum := "20c108576d4db0634681bf10efba166dd142b9855c06f52b11c17dc36f74af09", func := "conjoin/conjoinlaw07.SureCertain", spec := "sureCertain", unfollowed := true, recurses := true, apart := false }
def SureCertainSaid : Prop := sureCertainRow.holds Tryz.pinned (OpenSpec.ofChange sureCertainSpec)

/-- ITS FALSE NEIGHBOUR: 'it returns false'. Refute it at one input. -/
def sureCertainWrong : ChangeSpec := { name := "sureCertain", fn := fun _ => fun
  | [d1, d2, d3, d4] => { results := [.lit (.bool false)], args := [d1, d2, d3, d4] }
  | _ => none }
def SureCertainWrongFalsely : Prop := sureCertainRow.holds Tryz.pinned (OpenSpec.ofChange sureCertainWrong)

/-- 'conjoinlaw07.SureEither': WHATEVER THE INPUT: true; the input reads as it did. -/
def sureEitherSpec : ChangeSpec := { name := "sureEither", fn := fun _ => fun
  | [d1, d2, d3, d4, d5, d6] => { results := [.lit (.bool true)], args := [d1, d2, d3, d4, d5, d6] }
  | _ => none }
def sureEitherRow : OpenClaim := { program := "ytoaacllpegfcjaagreat", sum := "20c108576d4db0634681bf10efba166dd142b9855c06f52b11c17dc36f74af09", func := "conjoin/conjoinlaw07.SureEither", spec := "sureEither", unfollowed := true, recurses := true, apart := false }
def SureEitherSaid : Prop := sureEitherRow.holds Tryz.pinned (OpenSpec.ofChange sureEitherSpec)

/-- ITS FALSE NEIGHBOUR: 'it returns false'. Refute it at one input. -/
def sureEitherWrong : ChangeSpec := { name := "sureEither", fn := fun _ => fun
  | [d1, d2, d3, d4, d5, d6] => { results := [.lit (.bool false)], args := [d1, d2, d3, d4, d5, d6] }
  | _ => none }
def SureEitherWrongFalsely : Prop := sureEitherRow.holds Tryz.pinned (OpenSpec.ofChange sureEitherWrong)

/-- 'conjoinlaw07.SureCases': WHATEVER THE INPUT: true; the input reads as it did. -/
def sureCasesSpec : ChangeSpec := { name := "sureCases", fn := fun _ => fun
  | [d1, d2, d3, d4] => { results := [.lit (.bool true)], args := [d1, d2, d3, d4] }
  | _ => none }
def sureCasesRow : OpenClaim := { program := "ytoaacllpegfcjaagreat", sum := "20c108576d4db0634681bf10efba166dd142b9855c06f52b11c17dc36f74af09", func := "conjoin/conjoinlaw07.SureCases", spec := "sureCases", unfollowed := true, recurses := true, apart := false }
def SureCasesSaid : Prop := sureCasesRow.holds Tryz.pinned (OpenSpec.ofChange sureCasesSpec)

/-- ITS FALSE NEIGHBOUR: 'it returns false'. Refute it at one input. -/
def sureCasesWrong : ChangeSpec := { name := "sureCases", fn := fun _ => fun
  | [d1, d2, d3, d4] => { results := [.lit (.bool false)], args := [d1, d2, d3, d4] }
  | _ => none }
def SureCasesWrongFalsely : Prop := sureCasesRow.holds Tryz.pinned (OpenSpec.ofChange sureCasesWrong)

/-- 'conjoinlaw07.SureLimits': WHATEVER THE INPUT: true; the input reads as it did. -/
def sureLimitsSpec : ChangeSpec := { name := "sureLimits", fn := fun _ => fun
  | [d] => { results := [.lit (.bool true)], args := [d] }
  | _ => none }
def sureLimitsRow : OpenClaim := { program := "ytoaacllpegfcjaagreat", sum := "20c108576d4db0634681bf10efba166dd142b9855c06f52b11c17dc36f74af09", func := "conjoin/conjoinlaw07.SureLimits", spec := "sureLimits", unfollowed := true, recurses := true, apart := false }
def SureLimitsSaid : Prop := sureLimitsRow.holds Tryz.pinned (OpenSpec.ofChange sureLimitsSpec)

/-- ITS FALSE NEIGHBOUR: 'it returns false'. Refute it at one input. -/
def sureLimitsWrong : ChangeSpec := { name := "sureLimits", fn := fun _ => fun
  | [d] => { results := [.lit (.bool false)], args := [d] }
  | _ => none }
def SureLimitsWrongFalsely : Prop := sureLimitsRow.holds Tryz.pinned (OpenSpec.ofChange sureLimitsWrong)

/-- 'conjoinlaw07.SureOrder': WHATEVER THE INPUT: true; the input reads as it did. -/
def sureOrderSpec : ChangeSpec := { name := "sureOrder", fn := fun _ => fun
  | [d1, d2] => { results := [.lit (.bool true)], args := [d1, d2] }
  | _ => none }
def sureOrderRow : OpenClaim := { program := "ytoaacllpegfcjaagreat", sum := "20c108576d4db0634681bf10efba166dd142b9855c06f52b11c17dc36f74af09", func := "conjoin/conjoinlaw07.SureOrder", spec := "sureOrder", unfollowed := true, recurses := true, apart := false }
def SureOrderSaid : Prop := sureOrderRow.holds Tryz.pinned (OpenSpec.ofChange sureOrderSpec)

/-- ITS FALSE NEIGHBOUR: 'it returns false'. Refute it at one input. -/
def sureOrderWrong : ChangeSpec := { name := "sureOrder", fn := fun _ => fun
  | [d1, d2] => { results := [.lit (.bool false)], args := [d1, d2] }
  | _ => none }
def SureOrderWrongFalsely : Prop := sureOrderRow.holds Tryz.pinned (OpenSpec.ofChange sureOrderWrong)

/-- 'conjoinlaw07.SureNarrows': WHATEVER THE INPUT: true; the input reads as it did. -/
def sureNarrowsSpec : ChangeSpec := { name := "sureNarrows", fn := fun _ => fun
  | [d1, d2, d3, d4, d5, d6, d7, d8] => { results := [.lit (.bool true)], args := [d1, d2, d3, d4, d5, d6, d7, d8] }
  | _ => none }
def sureNarrowsRow : OpenClaim := { program := "ytoaacllpegfcjaagreat", sum := "20c108576d4db0634681bf10efba166dd142b9855c06f52b11c17dc36f74af09", func := "conjoin/conjoinlaw07.SureNarrows", spec := "sureNarrows", unfollowed := true, recurses := true, apart := false }
def SureNarrowsSaid : Prop := sureNarrowsRow.holds Tryz.pinned (OpenSpec.ofChange sureNarrowsSpec)

/-- ITS FALSE NEIGHBOUR: 'it returns false'. Refute it at one input. -/
def sureNarrowsWrong : ChangeSpec := { name := "sureNarrows", fn := fun _ => fun
  | [d1, d2, d3, d4, d5, d6, d7, d8] => { results := [.lit (.bool false)], args := [d1, d2, d3, d4, d5, d6, d7, d8] }
  | _ => none }
def SureNarrowsWrongFalsely : Prop := sureNarrowsRow.holds Tryz.pinned (OpenSpec.ofChange sureNarrowsWrong)

/-- 'conjoinlaw07.SureClasses': WHATEVER THE INPUT: true; the input reads as it did. -/
def sureClassesSpec : ChangeSpec := { name := "sureClasses", fn := fun _ => fun
  | [d] => { results := [.lit (.bool true)], args := [d] }
  | _ => none }
def sureClassesRow : OpenClaim := { program := "ytoaacllpegfcjaagreat", sum := "20c108576d4db0634681bf10efba166dd142b9855c06f52b11c17dc36f74af09", func := "conjoin/conjoinlaw07.SureClasses", spec := "sureClasses", unfollowed := true, recurses := true, apart := false }
def SureClassesSaid : Prop := sureClassesRow.holds Tryz.pinned (OpenSpec.ofChange sureClassesSpec)

/-- ITS FALSE NEIGHBOUR: 'it returns false'. Refute it at one input. -/
def sureClassesWrong : ChangeSpec := { name := "sureClasses", fn := fun _ => fun
  | [d] => { results := [.lit (.bool false)], args := [d] }
  | _ => none }
def SureClassesWrongFalsely : Prop := sureClassesRow.holds Tryz.pinned (OpenSpec.ofChange sureClassesWrong)

/-- 'conjoinlaw07.SureAnswers': WHATEVER THE INPUT: true; the input reads as it did. -/
def sureAnswersSpec : ChangeSpec := { name := "sureAnswers", fn := fun _ => fun
  | [d1, d2, d3] => { results := [.lit (.bool true)], args := [d1, d2, d3] }
  | _ => none }
def sureAnswersRow : OpenClaim := { program := "ytoaacllpegfcjaagreat", sum := "20c108576d4db0634681bf10efba166dd142b9855c06f52b11c17dc36f74af09", func := "conjoin/conjoinlaw07.SureAnswers", spec := "sureAnswers", unfollowed := true, recurses := true, apart := false }
def SureAnswersSaid : Prop := sureAnswersRow.holds Tryz.pinned (OpenSpec.ofChange sureAnswersSpec)

/-- ITS FALSE NEIGHBOUR: 'it returns false'. Refute it at one input. -/
def sureAnswersWrong : ChangeSpec := { name := "sureAnswers", fn := fun _ => fun
  | [d1, d2, d3] => { results := [.lit (.bool false)], args := [d1, d2, d3] }
  | _ => none }
def SureAnswersWrongFalsely : Prop := sureAnswersRow.holds Tryz.pinned (OpenSpec.ofChange sureAnswersWrong)

/-- 'conjoinlaw07.SureChecks': WHATEVER THE INPUT: true; the input reads as it did. -/
def sureChecksSpec : ChangeSpec := { name := "sureChecks", fn := fun _ => fun
  | [d1, d2, d3, d4, d5] => { results := [.lit (.bool true)], args := [d1, d2, d3, d4, d5] }
  | _ => none }
def sureChecksRow : OpenClaim := { program := "ytoaacllpegfcjaagreat", sum := "20c108576d4db0634681bf10efba166dd142b9855c06f52b11c17dc36f74af09", func := "conjoin/conjoinlaw07.SureChecks", spec := "sureChecks", unfollowed := true, recurses := true, apart := false }
def SureChecksSaid : Prop := sureChecksRow.holds Tryz.pinned (OpenSpec.ofChange sureChecksSpec)

/-- ITS FALSE NEIGHBOUR: 'it returns false'. Refute it at one input. -/
def sureChecksWrong : ChangeSpec := { name := "sureChecks", fn := fun _ => fun
  | [d1, d2, d3, d4, d5] => { results := [.lit (.bool false)], args := [d1, d2, d3, d4, d5] }
  | _ => none }
def SureChecksWrongFalsely : Prop := sureChecksRow.holds Tryz.pinned (OpenSpec.ofChange sureChecksWrong)

/-- 'conjoinlaw07.SureRefutes': WHATEVER THE INPUT: true; the input reads as it did. -/
def sureRefutesSpec : ChangeSpec := { name := "sureRefutes", fn := fun _ => fun
  | [d1, d2, d3, d4] => { results := [.lit (.bool true)], args := [d1, d2, d3, d4] }
  | _ => none }
def sureRefutesRow : OpenClaim := { program := "ytoaacllpegfcjaagreat", sum := "20c108576d4db0634681bf10efba166dd142b9855c06f52b11c17dc36f74af09", func := "conjoin/conjoinlaw07.SureRefutes", spec := "sureRefutes", unfollowed := true, recurses := true, apart := false }
def SureRefutesSaid : Prop := sureRefutesRow.holds Tryz.pinned (OpenSpec.ofChange sureRefutesSpec)

/-- ITS FALSE NEIGHBOUR: 'it returns false'. Refute it at one input. -/
def sureRefutesWrong : ChangeSpec := { name := "sureRefutes", fn := fun _ => fun
  | [d1, d2, d3, d4] => { results := [.lit (.bool false)], args := [d1, d2, d3, d4] }
  | _ => none }
def SureRefutesWrongFalsely : Prop := sureRefutesRow.holds Tryz.pinned (OpenSpec.ofChange sureRefutesWrong)

/- THE SECOND FORM. 'bulk': how many values and letters a reading holds, each counted each time it is reached (what is shared counts as often as it is met; a slice's spare places count too). A statement '..UptoSaid' is the law's where the arguments, and the package variables that the reading takes, are together of bulk at most 1048576: NARROWER than '..Said'. Prove '..Said' where nothing that the law and all that it calls make is longer than what came in: it says more and counts as full. Else prove '..UptoSaid'. A law counts once. -/
mutual
def uptoBulk {H : Type} : DataW H → Nat
  | .lit (.string bytes) => bytes.length + 1
  | .lit _ => 1
  | .nil => 1
  | .ptr d => uptoBulk d + 1
  | .slice elems spare => uptoBulkAll elems + uptoBulkAll spare + 1
  | .agg parts => uptoBulkAll parts + 1
  | .iface _ d => uptoBulk d + 1
  | .map entries => uptoBulkEntries entries + 1
  | .held _ => 1
def uptoBulkAll {H : Type} : List (DataW H) → Nat
  | [] => 0
  | d :: r => uptoBulk d + uptoBulkAll r
def uptoBulkEntries {H : Type} : List (Lit × DataW H) → Nat
  | [] => 0
  | x :: r => uptoBulkEntry x + uptoBulkEntries r
def uptoBulkEntry {H : Type} : Lit × DataW H → Nat
  | (.string bytes, d) => bytes.length + uptoBulk d + 1
  | (_, d) => uptoBulk d + 1
 end
def uptoSmall : (H : Type) → List (DataW H) → Bool := fun _ ds => decide (uptoBulkAll ds ≤ 1048576)
def OpenSpec.upto (s : _root_.Go.ChangeSpec) : _root_.Go.OpenSpec := { _root_.Go.OpenSpec.ofChange s with cond := some uptoSmall }

/-- 'conjoinlaw07.SureCertain', WHERE WHAT IT READS IS OF BULK AT MOST 1048576: true; the input reads as it did. -/
def sureCertainUptoRow : OpenClaim := { program := "ytoaacllpegfcjaagreat", sum := "20c108576d4db0634681bf10efba166dd142b9855c06f52b11c17dc36f74af09", func := "conjoin/conjoinlaw07.SureCertain", spec := "sureCertain", unfollowed := true, recurses := true, apart := false, narrowed := true }
def SureCertainUptoSaid : Prop := sureCertainUptoRow.holds Tryz.pinned (OpenSpec.upto sureCertainSpec)

/-- 'conjoinlaw07.SureEither', WHERE WHAT IT READS IS OF BULK AT MOST 1048576: true; the input reads as it did. -/
def sureEitherUptoRow : OpenClaim := { program := "ytoaacllpegfcjaagreat", sum := "20c108576d4db0634681bf10efba166dd142b9855c06f52b11c17dc36f74af09", func := "conjoin/conjoinlaw07.SureEither", spec := "sureEither", unfollowed := true, recurses := true, apart := false, narrowed := true }
def SureEitherUptoSaid : Prop := sureEitherUptoRow.holds Tryz.pinned (OpenSpec.upto sureEitherSpec)

/-- 'conjoinlaw07.SureCases', WHERE WHAT IT READS IS OF BULK AT MOST 1048576: true; the input reads as it did. -/
def sureCasesUptoRow : OpenClaim := { program := "ytoaacllpegfcjaagreat", sum := "20c108576d4db0634681bf10efba166dd142b9855c06f52b11c17dc36f74af09", func := "conjoin/conjoinlaw07.SureCases", spec := "sureCases", unfollowed := true, recurses := true, apart := false, narrowed := true }
def SureCasesUptoSaid : Prop := sureCasesUptoRow.holds Tryz.pinned (OpenSpec.upto sureCasesSpec)

/-- 'conjoinlaw07.SureLimits', WHERE WHAT IT READS IS OF BULK AT MOST 1048576: true; the input reads as it did. -/
def sureLimitsUptoRow : OpenClaim := { program := "ytoaacllpegfcjaagreat", sum := "20c108576d4db0634681bf10efba166dd142b9855c06f52b11c17dc36f74af09", func := "conjoin/conjoinlaw07.SureLimits", spec := "sureLimits", unfollowed := true, recurses := true, apart := false, narrowed := true }
def SureLimitsUptoSaid : Prop := sureLimitsUptoRow.holds Tryz.pinned (OpenSpec.upto sureLimitsSpec)

/-- 'conjoinlaw07.SureOrder', WHERE WHAT IT READS IS OF BULK AT MOST 1048576: true; the input reads as it did. -/
def sureOrderUptoRow : OpenClaim := { program := "ytoaacllpegfcjaagreat", sum := "20c108576d4db0634681bf10efba166dd142b9855c06f52b11c17dc36f74af09", func := "conjoin/conjoinlaw07.SureOrder", spec := "sureOrder", unfollowed := true, recurses := true, apart := false, narrowed := true }
def SureOrderUptoSaid : Prop := sureOrderUptoRow.holds Tryz.pinned (OpenSpec.upto sureOrderSpec)

/-- 'conjoinlaw07.SureNarrows', WHERE WHAT IT READS IS OF BULK AT MOST 1048576: true; the input reads as it did. -/
def sureNarrowsUptoRow : OpenClaim := { program := "ytoaacllpegfcjaagreat", sum := "20c108576d4db0634681bf10efba166dd142b9855c06f52b11c17dc36f74af09", func := "conjoin/conjoinlaw07.SureNarrows", spec := "sureNarrows", unfollowed := true, recurses := true, apart := false, narrowed := true }
def SureNarrowsUptoSaid : Prop := sureNarrowsUptoRow.holds Tryz.pinned (OpenSpec.upto sureNarrowsSpec)

/-- 'conjoinlaw07.SureClasses', WHERE WHAT IT READS IS OF BULK AT MOST 1048576: true; the input reads as it did. -/
def sureClassesUptoRow : OpenClaim := { program := "ytoaacllpegfcjaagreat", sum := "20c108576d4db0634681bf10efba166dd142b9855c06f52b11c17dc36f74af09", func := "conjoin/conjoinlaw07.SureClasses", spec := "sureClasses", unfollowed := true, recurses := true, apart := false, narrowed := true }
def SureClassesUptoSaid : Prop := sureClassesUptoRow.holds Tryz.pinned (OpenSpec.upto sureClassesSpec)

/-- 'conjoinlaw07.SureAnswers', WHERE WHAT IT READS IS OF BULK AT MOST 1048576: true; the input reads as it did. -/
def sureAnswersUptoRow : OpenClaim := { program := "ytoaacllpegfcjaagreat", sum := "20c108576d4db0634681bf10efba166dd142b9855c06f52b11c17dc36f74af09", func := "conjoin/conjoinlaw07.SureAnswers", spec := "sureAnswers", unfollowed := true, recurses := true, apart := false, narrowed := true }
def SureAnswersUptoSaid : Prop := sureAnswersUptoRow.holds Tryz.pinned (OpenSpec.upto sureAnswersSpec)

/-- 'conjoinlaw07.SureChecks', WHERE WHAT IT READS IS OF BULK AT MOST 1048576: true; the input reads as it did. -/
def sureChecksUptoRow : OpenClaim := { program := "ytoaacllpegfcjaagreat", sum := "20c108576d4db0634681bf10efba166dd142b9855c06f52b11c17dc36f74af09", func := "conjoin/conjoinlaw07.SureChecks", spec := "sureChecks", unfollowed := true, recurses := true, apart := false, narrowed := true }
def SureChecksUptoSaid : Prop := sureChecksUptoRow.holds Tryz.pinned (OpenSpec.upto sureChecksSpec)

/-- 'conjoinlaw07.SureRefutes', WHERE WHAT IT READS IS OF BULK AT MOST 1048576: true; the input reads as it did. -/
def sureRefutesUptoRow : OpenClaim := { program := "ytoaacllpegfcjaagreat", sum := "20c108576d4db0634681bf10efba166dd142b9855c06f52b11c17dc36f74af09", func := "conjoin/conjoinlaw07.SureRefutes", spec := "sureRefutes", unfollowed := true, recurses := true, apart := false, narrowed := true }
def SureRefutesUptoSaid : Prop := sureRefutesUptoRow.holds Tryz.pinned (OpenSpec.upto sureRefutesSpec)

end Rows
end Go.Proofs.YtoaacllpegfcjaaGreat
