/- A case that is handed back, or none, in one form. -/
import Derived.Test.YtpjcnkajimgagaaGreatMWithout
set_option linter.unusedSimpArgs false
set_option linter.unusedVariables false
namespace Go.Proofs.YtpjcnkajimgagaaGreat
open Go.RowKit

def zeroC : Cs := ⟨⟨#[]⟩, 0, 0, []⟩
def dOf (er : Int) (c' : Cs) : Cs := if er = 0 then c' else zeroC
theorem case_dform {er : Int} {c' : Cs} {w w' : World} {e : Ending} (h : CasePost er c' w e w') : ∃ (pd : Option Addr) (pcd : Nat), e = .returned (.tuple #[.agg #[.string (dOf er c').ware, .int .i64 (dOf er c').limit, .int .i64 (dOf er c').by_, .slice pd (dOf er c').parts.length pcd], .int .i64 er]) ∧
  PartsAt w' pd (dOf er c').parts ∧ (∀ g v0 v1 v2 v3, g < w.heap.size → PartsAt ((((w'.setCell ⟨g, 0, none⟩ v0).setCell ⟨g, 1, none⟩ v1).setCell ⟨g, 2, none⟩ v2).setCell ⟨g, 3, none⟩ v3) pd (dOf er c').parts) ∧ Below w.heap.size w w' := by
 obtain ⟨hb, ⟨h, rfl⟩ | ⟨h, PB, pc', cells, rfl, hpc, hpo⟩⟩ := h
 ·refine ⟨none, 0, ?_, ?_, ?_, hb⟩
  ·simp only [dOf, if_neg h]; rfl
  ·simp only [dOf, if_neg h]; intro k p hp; simp [zeroC] at hp
  ·simp only [dOf, if_neg h]; intro _ _ _ _ _ _ k p hp; simp [zeroC] at hp
 ·subst h
  simp only [dOf, if_true]
  exact ⟨_, _, rfl, own_parts hpo, fun g v0 v1 v2 v3 hg => own_parts ((((hpo.farG hg v0).farG hg v1).farG hg v2).farG hg v3), hb⟩
/-- a case in a variable -/
def CBox (W : World) (g : Nat) (d : Cs) (a : Option Addr) (cap : Nat) : Prop := Box W g #[.string d.ware, .int .i64 d.limit, .int .i64 d.by_, .slice a d.parts.length cap] 24 ∧ PartsAt W a d.parts
theorem CBox.box {W : World} {g : Nat} {d : Cs} {a : Option Addr} {cap : Nat} (h : CBox W g d a cap) : Box W g #[.string d.ware, .int .i64 d.limit, .int .i64 d.by_, .slice a d.parts.length cap] 24 := h.1
theorem CBox.parts {W : World} {g : Nat} {d : Cs} {a : Option Addr} {cap : Nat} (h : CBox W g d a cap) : PartsAt W a d.parts := h.2
theorem CBox.below {W W' : World} {g : Nat} {d : Cs} {a : Option Addr} {cap : Nat} (h : CBox W g d a cap) (hb : Below W.heap.size W W') : CBox W' g d a cap := ⟨h.1.below' hb, h.2.below hb⟩
theorem CBox.new {W : World} {d : Cs} {a : Option Addr} {cap : Nat} (h : PartsAt W a d.parts) : ∃ W', W.alloc (.cells #[.string d.ware, .int .i64 d.limit, .int .i64 d.by_, .slice a d.parts.length cap] 24) = W' ∧ CBox W' W.heap.size d a cap ∧ Below W.heap.size W W' :=
 ⟨_, rfl, ⟨Box.new _ _ _, h.below ((Below.refl _ W).alloc (Nat.le_refl _) _)⟩, (Below.refl _ W).alloc (Nat.le_refl _) _⟩
theorem CBox.cells {W : World} {g : Nat} {d : Cs} {a : Option Addr} {cap : Nat} (h : CBox W g d a cap) : ∀ i, W.cell? ⟨g, i, none⟩ = (#[.string d.ware, .int .i64 d.limit, .int .i64 d.by_, .slice a d.parts.length cap] : Array Value)[i]? := h.1.cell
end Go.Proofs.YtpjcnkajimgagaaGreat
