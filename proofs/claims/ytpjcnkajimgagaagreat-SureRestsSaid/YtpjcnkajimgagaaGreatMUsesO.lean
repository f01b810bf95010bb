/- What Uses hands back, for package sure and its reference alike. -/
import Derived.Test.YtpjcnkajimgagaaGreatMUsesP
set_option linter.unusedSimpArgs false
set_option linter.unusedVariables false
namespace Go.Proofs.YtpjcnkajimgagaaGreat
open Go.RowKit

/-- the Ids that a refutation uses, and the error -/
def usesOut (c : Cs) (er : Int) (a b : Nat) (t : Bool) (l : List Br) : List Int × Int :=
 if er = 0 then (match refutedB c c.parts.length (beginD a b t) l with | some ev => (withL (evIds c ev), 0) | none => ([], 71)) else ([], er)
def UsesPost (r : List Int × Int) (w : World) (e : Ending) (w' : World) : Prop := ∃ a cap, e = .returned (.tuple #[.slice a r.1.length cap, .int .i64 r.2]) ∧ Ints w' a r.1 ∧ r.1.length ≤ cap ∧ Below w.heap.size w w'
theorem usesPost_no {w w' : World} {a : Option Addr} {er : Int} {cap : Nat} (h : Below w.heap.size w w') : UsesPost ([], er) w (.returned (.tuple #[.slice a 0 cap, .int .i64 er])) w' := ⟨a, cap, rfl, Ints.nil _ _, Nat.zero_le _, h⟩
theorem usesOut_len {c : Cs} {er : Int} {a b : Nat} {t : Bool} {l : List Br} (h8 : c.parts.length ≤ 8) (hl : l.length ≤ 1000000) : (usesOut c er a b t l).1.length ≤ 1000000 := by
 unfold usesOut
 split
 ·split
  ·rename_i ev hev
   dsimp only
   unfold refutedB at hev
   split at hev
   ·cases hev
   ·rename_i h20
    split at hev
    ·rename_i hm
     cases hev
     have h1 := walkM_ev _ _ _ hm
     have h2 := evIds_len h8 h1.2
     have h3 := withL_len (evIds c ev)
     have h4 : (notN (evIds c ev)).length ≤ (evIds c ev).length := notN_len _
     have h5 : 2 * ev.length = l.length + 1 := by simpa using h1.1
     omega
    ·cases hev
  ·simp
 ·simp
end Go.Proofs.YtpjcnkajimgagaaGreat
