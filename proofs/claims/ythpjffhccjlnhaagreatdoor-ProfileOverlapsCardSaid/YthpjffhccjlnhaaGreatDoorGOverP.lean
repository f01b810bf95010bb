/- Overlap, the plain law: whichever type is named first; a type with itself. No condition. -/
import Derived.Test.YthpjffhccjlnhaaGreatDoorGOver
set_option linter.unusedSimpArgs false
set_option linter.unusedVariables false
namespace Go.Proofs.YthpjffhccjlnhaaGreatDoor
open Go.RowKit
theorem overK_comm (A B : Knd) : overK A B = overK B A := by
 rw [overK, overK, meet_comm, loOf, loOf, hiOf, hiOf, Int.max_comm, Int.min_comm]
theorem overK_self (A : Knd) : overK A A = firstK A := by
 unfold overK firstK
 rw [meet_self, loOf, hiOf, Int.max_self, Int.min_self]; rfl
theorem asked_bad {l : List Typ} {i j : Int} (h1 : askedErr l i ≠ 0) (h2 : askedErr l j ≠ 0) : askedErr l i = askedErr l j := by
 unfold askedErr at h1 h2 ⊢
 split
 ·rename_i h
  rw [if_pos h] at h1 h2
  split
  ·rename_i g; exact absurd (if_pos g) h1
  ·split
   ·rename_i g; exact absurd (if_pos g) h2
   ·rfl
 ·rfl
theorem overOut_comm (l : List Typ) (i j : Int) : overOut l i j = overOut l j i := by
 unfold overOut
 by_cases h1 : askedErr l i = 0
 ·by_cases h2 : askedErr l j = 0
  ·rw [if_pos h1, if_pos h2, if_pos h2, if_pos h1, overK_comm]
  ·rw [if_pos h1, if_neg h2, if_neg h2]
 ·by_cases h2 : askedErr l j = 0
  ·rw [if_neg h1, if_pos h2, if_neg h1]
  ·rw [if_neg h1, if_neg h2, asked_bad h1 h2]
theorem over_form (l : List Typ) (i j : Int) : ∃ (S : ByteArray) (B : Bool) (E : Int), overOut l i j = .tuple #[.string S, .bool B, .int .i64 E] ∧ (E = 0 → askedErr l i = 0) := by
 unfold overOut
 by_cases h1 : askedErr l i = 0
 ·rw [if_pos h1]
  split
  ·exact ⟨_, _, _, rfl, fun _ => h1⟩
  ·exact ⟨_, _, _, rfl, fun _ => h1⟩
 ·rw [if_neg h1]; exact ⟨_, _, _, rfl, fun h => h⟩
theorem over_self {l : List Typ} {i : Int} (h : askedErr l i = 0) : ∃ (S : ByteArray) (B : Bool), firstOut l i = .tuple #[.string S, .bool B, .int .i64 0] ∧ overOut l i i = .tuple #[.string S, .bool B, .int .i64 0] := by
 unfold overOut firstOut
 rw [if_pos h, if_pos h, if_pos h, overK_self]
 exact ⟨_, _, rfl, rfl⟩
end Go.Proofs.YthpjffhccjlnhaaGreatDoor
