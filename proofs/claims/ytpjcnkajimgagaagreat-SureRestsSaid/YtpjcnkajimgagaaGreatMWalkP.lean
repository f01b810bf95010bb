/- What a refutation's leaves use, plain. -/
import Derived.Test.YtpjcnkajimgagaaGreatMDecP
import Derived.Test.YtpjcnkajimgagaaGreatMWalk
set_option linter.unusedSimpArgs false
set_option linter.unusedVariables false
namespace Go.Proofs.YtpjcnkajimgagaaGreat
open Go.RowKit

/-- the Ids of leaves -/
def evIds (c : Cs) (ev : List (Dec × Br)) : List Int := ev.flatMap fun z => leafIds c z.1 z.2
theorem evIds_app (c : Cs) (e f : List (Dec × Br)) : evIds c (e ++ f) = evIds c e ++ evIds c f := by simp [evIds, List.flatMap_append]
theorem walkM_ev {c : Cs} {n : Nat} : ∀ (k : Nat) (d : Dec) (l : List Br) {r : List Br} {e : List (Dec × Br)}, walkM c n k d l = some (r, e) → 2 * e.length + r.length = l.length + 1 ∧ ∀ z ∈ e, leafB c z.1 n z.2 = true
 | 0, _, _, _, _, h => by simp [walkM] at h
 | _ + 1, _, [], _, _, h => by simp [walkM] at h
 | k + 1, d, x :: l, r, e, h => by
  by_cases hk : x.kind = 1
  ·rcases hs : splitB n x with _ | _
   ·rw [walkM_no hk hs] at h; cases h
   ·rcases h1 : walkM c n k (decWith d x.a.toNat x.b.toNat 1) l with _ | ⟨l1, e1⟩
    ·rw [walkM_one hk hs h1] at h; cases h
    ·rcases h2 : walkM c n k (decWith d x.a.toNat x.b.toNat 2) l1 with _ | ⟨l2, e2⟩
     ·rw [walkM_two hk hs h1 h2] at h; cases h
     ·rw [walkM_yes hk hs h1 h2] at h
      cases h
      obtain ⟨a1, b1⟩ := walkM_ev k _ _ h1
      obtain ⟨a2, b2⟩ := walkM_ev k _ _ h2
      refine ⟨by rw [List.length_append, List.length_cons]; omega, fun z hz => ?_⟩
      rcases List.mem_append.1 hz with hz | hz
      ·exact b1 z hz
      ·exact b2 z hz
  ·rw [walkM_leaf hk] at h
   split at h
   ·rename_i hl
    cases h
    exact ⟨by simp; omega, fun z hz => by rw [List.mem_singleton.1 hz]; exact hl⟩
   ·cases h
theorem evIds_len {c : Cs} {n : Nat} (hn : n ≤ 8) : ∀ {e : List (Dec × Br)}, (∀ z ∈ e, leafB c z.1 n z.2 = true) → (evIds c e).length ≤ 57 * e.length
 | [], _ => by simp [evIds]
 | z :: e, h => by
  have h1 := evIds_len (c := c) hn (e := e) (fun y hy => h y (by simp [hy]))
  have h2 := leafIds_len hn (h z (by simp))
  have h3 : evIds c (z :: e) = leafIds c z.1 z.2 ++ evIds c e := rfl
  rw [h3, List.length_append, List.length_cons]
  omega
theorem supp_with {d : Dec} {n x y w : Nat} (h : Supp d n) (hs : SymD d) (hx : x < n) (hy : y < n) : Supp (decWith d x y w) n := fun a b hab => by
 rw [decWith_eq hs] at hab
 split at hab
 ·rename_i he
  rcases he with ⟨rfl, rfl⟩ | ⟨rfl, rfl⟩
  ·exact ⟨hx, hy⟩
  ·exact ⟨hy, hx⟩
 ·exact h a b hab
theorem zero_supp (n : Nat) : Supp (fun _ _ => 0) n := fun _ _ h => absurd rfl h
theorem zero_le3 : ∀ a b : Nat, (fun _ _ => 0 : Dec) a b ≤ 3 := fun _ _ => Nat.zero_le _
end Go.Proofs.YtpjcnkajimgagaaGreat
