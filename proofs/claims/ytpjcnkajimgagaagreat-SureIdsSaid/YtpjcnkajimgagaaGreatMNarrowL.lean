/- What SureNarrows looks at, in plain words. -/
import Derived.Test.YtpjcnkajimgagaaGreatMNarrow
import Derived.Test.YtpjcnkajimgagaaGreatMCaseD
import Derived.Test.YtpjcnkajimgagaaGreatMLawC
import Derived.Test.YtpjcnkajimgagaaGreatMLin
set_option linter.unusedSimpArgs false
set_option linter.unusedVariables false
namespace Go.Proofs.YtpjcnkajimgagaaGreat
open Go.RowKit

theorem zeroC_small : zeroC.Small := ⟨by simp [zeroC], by simp [zeroC, ByteArray.size], by simp [zeroC]⟩
theorem narrowC_small {c : Cs} (h : c.Small) (i : Nat) (low high id : Int) : (narrowC c i low high id).Small := by
 refine ⟨by simpa [narrowC] using h.1, h.2.1, fun q hq => ?_⟩
 obtain ⟨a, hal, rfl⟩ := List.getElem_of_mem hq
 have hal' : a < c.parts.length := by simpa [narrowC] using hal
 obtain ⟨r, hr⟩ := get_of_lt c.parts hal'
 have e := narrow_at (i := i) (low := low) (high := high) (id := id) hr
 rw [List.getElem?_eq_getElem hal] at e
 rw [Option.some.inj e]
 have := h.2.2 r (List.mem_of_getElem? hr)
 split
 ·exact this
 ·exact this
theorem dOf_small {er : Int} {c' : Cs} (h : c'.Small) : (dOf er c').Small := by
 unfold dOf; split
 ·exact h
 ·exact zeroC_small
theorem ask_parts {c d : Cs} {x y : Int} (hc : checkCase d = 0) (hl : d.parts.length = c.parts.length) (h : openErr c [x, y] = 0) : openErr d [x, y] = 0 := by
 have h1 := open_check h
 unfold openErr at h ⊢
 rw [if_pos h1] at h
 rw [if_pos hc, hl]
 exact h
theorem ask_open0 {c : Cs} {ps : List Int} (h : askErr c ps = 0) : openErr c ps = 0 ∧ (allR c).isEmpty = false := by
 have h1 := ask_open h
 exact ⟨h1, ask_some h⟩
/-- no certain answer becomes another one -/
theorem tight_law {c d : Cs} {a b : Nat} (T : Tight c d) (hd : checkCase d = 0) (h : askErr c [(a : Int), (b : Int)] = 0) : askErr d [(a : Int), (b : Int)] = 61 ∨ (askErr d [(a : Int), (b : Int)] = 0 ∧ (ansAt c a b = 3 ∨ ansAt d a b = ansAt c a b)) := by
 obtain ⟨h1, h2⟩ := ask_open0 h
 have hx := open_in h1 a (by simp)
 have hy := open_in h1 b (by simp)
 rw [ask_eq0 (ask_parts hd T.len h1)]
 rcases hm : (allR d).isEmpty with _ | _
 ·refine .inr ⟨by simp, ?_⟩
  by_cases h3 : ansAt c a b = 3
  ·exact .inl h3
  ·exact .inr (T.ans hm (by omega) (by omega) h3)
 ·exact .inl (by simp)
theorem narrow_ok {c : Cs} {x low high id : Int} (h : narrowErr c x low high id = 0) : checkCase (narrowC c x.toNat low high id) = 0 := by
 unfold narrowErr at h
 split at h
 ·rename_i h1
  have hx := open_in h1 x (by simp)
  split at h
  ·cases h
  ·rename_i h2
   obtain ⟨p, hp⟩ := get_of_lt c.parts (k := x.toNat) (by omega)
   rw [hp] at h
   simp only at h
   split at h
   ·cases h
   ·rename_i h3
    simp [narrowBad] at h2
    have h4 : inB id 1 1000000 = true := h2.2
    simp [inB] at h4
    exact narrow_check (open_check h1) hp (by omega) (by omega) h4 (by omega)
 ·rename_i h1; exact absurd h h1
/-- the first look -/
theorem narrow_law {c : Cs} {a b : Nat} {x low high id : Int} (h : askErr c [(a : Int), (b : Int)] = 0) :
  narrowErr c x low high id ≠ 0 ∨ askErr (dOf (narrowErr c x low high id) (narrowC c x.toNat low high id)) [(a : Int), (b : Int)] = 61 ∨ (askErr (dOf (narrowErr c x low high id) (narrowC c x.toNat low high id)) [(a : Int), (b : Int)] = 0 ∧ (ansAt c a b = 3 ∨ ansAt (dOf (narrowErr c x low high id) (narrowC c x.toNat low high id)) a b = ansAt c a b)) := by
 by_cases he : narrowErr c x low high id = 0
 ·refine .inr ?_
  rw [dOf, if_pos he]
  exact tight_law (narrow_tight c x.toNat low high id) (narrow_ok he) h
 ·exact .inl he
def lesserB (c : Cs) (m : Int) : Bool := decide (0 < m) && decide (m ≤ 40) && (c.limit == 0 || decide (m < c.limit))
theorem lesser_law {c : Cs} {a b : Nat} {m : Int} (hm : lesserB c m = true) (h : askErr c [(a : Int), (b : Int)] = 0) :
  askErr { c with limit := m } [(a : Int), (b : Int)] = 61 ∨ (askErr { c with limit := m } [(a : Int), (b : Int)] = 0 ∧ (ansAt c a b = 3 ∨ ansAt { c with limit := m } a b = ansAt c a b)) := by
 simp only [lesserB, Bool.and_eq_true, decide_eq_true_eq, Bool.or_eq_true, beq_iff_eq] at hm
 exact tight_law (limit_tight hm.1.1 (by omega)) (limit_check (open_check (ask_open0 h).1) hm.1.1 hm.1.2) h
theorem without_law {c : Cs} {a b : Nat} {id : Int} (hid : id ≠ 0) (h : askErr c [(a : Int), (b : Int)] = 0) :
  woutErr c id = 0 ∧ askErr (woutC (fun n => n == id) c) [(a : Int), (b : Int)] = 0 ∧ (ansAt c a b = 3 → ansAt (woutC (fun n => n == id) c) a b = 3) := by
 obtain ⟨h1, h2⟩ := ask_open0 h
 have hc := open_check h1
 have hx := open_in h1 a (by simp)
 have hy := open_in h1 b (by simp)
 have T := wout_tight (fun n => n == id) hc
 have hw := woutC_check (fun n => n == id) hc
 have hl : (woutC (fun n => n == id) c).parts.length = c.parts.length := T.len.symm
 have hs := T.some_ h2
 refine ⟨by unfold woutErr; rw [if_pos hc, if_neg hid], ?_, fun h3 => ?_⟩
 ·rw [ask_eq0 (ask_parts hw hl h1), hs]; rfl
 ·exact T.open_ h2 (by omega) (by omega) h3
end Go.Proofs.YtpjcnkajimgagaaGreat
