/- What the laws call, in the forms that they look at. -/
import Derived.Test.YtpjcnkajimgagaaGreatMPlainC
import Derived.Test.YtpjcnkajimgagaaGreatMPlainA
import Derived.Test.YtpjcnkajimgagaaGreatMLaw
import Derived.Test.YtpjcnkajimgagaaGreatMLawB
set_option linter.unusedSimpArgs false
set_option linter.unusedVariables false
namespace Go.Proofs.YtpjcnkajimgagaaGreat
open Go.RowKit

/-- whether there is one, behind an error number -/
def seenB (er : Int) (o : Option (List Nat)) : Bool := (if er = 0 then o else none).isSome
theorem with_sees (c : Cs) (hsm : c.Small) (pa : Option Addr) (pc : Nat) (x y : Int) (t : Bool) (w : World) (hp : PartsAt w pa c.parts) :
  Calls Tryz.prog 34 #[.agg #[.string c.ware, .int .i64 c.limit, .int .i64 c.by_, .slice pa c.parts.length pc], .int .i64 x, .int .i64 y, .bool t] w fun e w' =>
   ∃ (a : Option Addr) (cap : Nat), e = .returned (.tuple #[.slice a ((if openErr c [x, y] = 0 then (allR c).find? (asPair x.toNat y.toNat t) else none).getD []).length cap, .bool (seenB (openErr c [x, y]) ((allR c).find? (asPair x.toNat y.toNat t))), .int .i64 (openErr c [x, y])]) ∧
    Ints w' a (natInts ((if openErr c [x, y] = 0 then (allR c).find? (asPair x.toNat y.toNat t) else none).getD [])) ∧ Below w.heap.size w w' :=
 (with_any c hsm pa pc x y t w hp).mono (by
  rintro e w' ⟨hb, ⟨h, rfl⟩ | ⟨h, ho, rfl⟩ | ⟨h, z, v, ho, rfl, hv⟩⟩
  ·simp only [seenB, h, if_false]
   exact ⟨none, 0, rfl, Ints.nil _ _, hb⟩
  ·simp only [seenB, h, ho, if_true]
   exact ⟨none, 0, rfl, Ints.nil _ _, hb⟩
  ·obtain ⟨a, cap, rfl, hi⟩ := own_ints hv
   simp only [seenB, h, ho, if_true]
   exact ⟨a, cap, rfl, hi, hb⟩)
theorem fits_len {c : Cs} {l : List Int} (h : fitsB c l = true) : ∃ x, Reas c x ∧ l = natInts x ∧ l.length = c.parts.length := by
 obtain ⟨x, hx, rfl⟩ := fitsB_iff.1 h
 exact ⟨x, hx, rfl, by simp [natInts, hx.len]⟩
theorem none_empty {c : Cs} {a b : Nat} (ha : a < c.parts.length) (hb : b < c.parts.length) (h1 : togB c.parts.length (allR c) a b = false) (h2 : aptB c.parts.length (allR c) a b = false) : (allR c).isEmpty = true := by
 rcases h : allR c with _ | ⟨x, l⟩
 ·rfl
 ·have hx := mem_allR.1 (show x ∈ allR c by rw [h]; simp)
  by_cases e : nth x a = nth x b
  ·have := (tog_iff ha hb).2 ⟨x, hx, e⟩; rw [h1] at this; cases this
  ·have := (apt_iff ha hb).2 ⟨x, hx, e⟩; rw [h2] at this; cases this
theorem some_full {c : Cs} {a b : Nat} (ha : a < c.parts.length) (hb : b < c.parts.length) (h : togB c.parts.length (allR c) a b = true ∨ aptB c.parts.length (allR c) a b = true) : (allR c).isEmpty = false := by
 rcases hr : allR c with _ | ⟨x, l⟩
 ·rcases h with h | h
  ·obtain ⟨x, hx, _⟩ := (tog_iff ha hb).1 h
   have := mem_allR.2 hx; rw [hr] at this; simp at this
  ·obtain ⟨x, hx, _⟩ := (apt_iff ha hb).1 h
   have := mem_allR.2 hx; rw [hr] at this; simp at this
 ·rfl
end Go.Proofs.YtpjcnkajimgagaaGreat
