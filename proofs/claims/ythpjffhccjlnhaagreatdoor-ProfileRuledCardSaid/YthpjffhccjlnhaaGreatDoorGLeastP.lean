/- Chapter 4, plain: the rings of Ruled. No program. -/
import Derived.Test.YthpjffhccjlnhaaGreatDoorGRuled
import Derived.Test.YthpjffhccjlnhaaGreatDoorMG10
import Derived.Test.YthpjffhccjlnhaaGreatDoorMG19
set_option linter.unusedSimpArgs false
set_option linter.unusedVariables false
namespace Go.Proofs.YthpjffhccjlnhaaGreatDoor
/-- the list without its k-th element -/
def dropAt (A : List Nat) (k : Nat) : List Nat := A.take k ++ A.drop (k + 1)
theorem dropAt_filter {A : List Nat} (hn : A.Nodup) {k : Nat} (hk : k < A.length) : dropAt A k = A.filter fun x => !(x == A[k]) := by
 have e : A = A.take k ++ (A[k] :: A.drop (k + 1)) := by rw [List.getElem_cons_drop hk, List.take_append_drop]
 have hn' := hn
 rw [e, List.nodup_append] at hn'
 obtain ⟨_, h2, h3⟩ := hn'
 rw [List.nodup_cons] at h2
 have f1 : (A.take k).filter (fun x => !(x == A[k])) = A.take k := List.filter_eq_self.2 fun x hx => by
  have := h3 x hx A[k] (.head _)
  simpa using this
 have f2 : (A.drop (k + 1)).filter (fun x => !(x == A[k])) = A.drop (k + 1) := List.filter_eq_self.2 fun x hx => by
  have : x ≠ A[k] := fun h => h2.1 (h ▸ hx)
  simpa using this
 have : A.filter (fun x => !(x == A[k])) = (A.take k ++ (A[k] :: A.drop (k + 1))).filter (fun x => !(x == A[k])) := congrArg (List.filter _) e
 rw [this, List.filter_append, List.filter_cons, f1, f2]
 simp [dropAt]
theorem fold_least2 {nofit : List Nat → Bool} {R : List Nat} (hmono : ∀ A B : List Nat, B.Sublist R → A.Sublist B → nofit A = true → nofit B = true) {l A : List Nat} {k : Nat} (hR : A.Sublist R) (hk : k ∈ l) (hin : k ∈ l.foldl (ruledStep nofit) A) :
  nofit ((l.foldl (ruledStep nofit) A).filter fun x => !(x == k)) = false := by
 induction l generalizing A with
 | nil => cases hk
 | cons i l ih =>
  rcases List.mem_cons.1 hk with rfl | hk
  ·rw [List.foldl_cons] at hin ⊢
   have hA : k ∈ ruledStep nofit A k := (fold_sub l _).subset hin
   have hno : nofit (A.filter fun x => !(x == k)) = false := by
    rw [Bool.eq_false_iff]; intro hh
    unfold ruledStep at hA
    rw [if_pos hh] at hA
    simp at hA
   rw [Bool.eq_false_iff]; intro hh
   have hs : ((l.foldl (ruledStep nofit) (ruledStep nofit A k)).filter fun x => !(x == k)).Sublist (A.filter fun x => !(x == k)) := ((fold_sub l _).trans (step_sub A k)).filter _
   have := hmono _ _ (List.filter_sublist.trans hR) hs hh
   rw [hno] at this; cases this
  ·exact ih ((step_sub A i).trans hR) hk hin
theorem ruled_least2 {nofit : List Nat → Bool} {n k : Nat} (hmono : ∀ A B : List Nat, B.Sublist (List.range n) → A.Sublist B → nofit A = true → nofit B = true) (hk : k ∈ ruledT nofit n) : nofit ((ruledT nofit n).filter fun x => !(x == k)) = false := by
 have : k < n := by simpa using (ruled_sub n).subset hk
 exact fold_least2 hmono (List.Sublist.refl _) (by simpa using this) hk
/-- what the law asks of Ruled's rings -/
structure LeastOk (l : List Typ) (ware : ByteArray) (r : List Rng) (A : List Nat) : Prop where
 lt : ∀ k ∈ A, k < r.length
 asc : A.Pairwise (· < ·)
 err : ∀ B : List Nat, B.Sublist A → wantedErr l ware (ringsAt r B) = 0
 none_ : shiftsT l ware (ringsAt r A) = []
 some_ : ∀ k, k < A.length → shiftsT l ware (ringsAt r (dropAt A k)) ≠ []
theorem least_ok {l : List Typ} {ware : ByteArray} {r : List Rng} (h0 : wantedErr l ware r = 0) (hs : shiftsT l ware r = []) : LeastOk l ware r (ruledX l ware r) := by
 have hX : ruledX l ware r = ruledT (noFit l ware r) r.length := by unfold ruledX; rw [if_pos ⟨h0, hs⟩]
 rw [hX]
 obtain ⟨hl, hr, ha⟩ := wanted_good h0
 have hsub := ruled_sub (nofit := noFit l ware r) r.length
 have hlt : ∀ k ∈ ruledT (noFit l ware r) r.length, k < r.length := fun k hk => by simpa using hsub.subset hk
 have hpw : (ruledT (noFit l ware r) r.length).Pairwise (· < ·) := List.Pairwise.sublist hsub List.pairwise_lt_range
 have hsubR : ∀ B : List Nat, B.Sublist (List.range r.length) → (ringsAt r B).Sublist r := fun B hB => by
  have := ringsAt_sub (r := r) hB
  rwa [ringsAt_all] at this
 have hasc := (rings_asc hr).1
 have hpos : ∀ t ∈ l, 1 ≤ t.least := fun t ht => by
  obtain ⟨i, hi⟩ := List.getElem?_of_mem ht
  have := (typesErr_good hl).2 i t hi
  simp only [typeB, Bool.and_eq_true, inB, decide_eq_true_eq] at this
  omega
 have hmono : ∀ A B : List Nat, B.Sublist (List.range r.length) → A.Sublist B → noFit l ware r A = true → noFit l ware r B = true := fun A B hB hAB hA => by
  simp only [noFit, List.isEmpty_iff] at hA ⊢
  refine Classical.byContradiction fun hne => ?_
  have h1 := (anyFit_iff l ware _).2 hne
  exact (anyFit_iff l ware _).1 (anyFit_sub hpos (hasc.sub (hsubR B hB)) (ringsAt_sub hAB) h1) hA
 have hno : noFit l ware r (List.range r.length) = true := by unfold noFit; rw [ringsAt_all, hs]; rfl
 have hn := ruled_nofit hno
 refine ⟨hlt, hpw, fun B hB => ?_, by simpa [noFit] using hn, fun k hk => ?_⟩
 ·unfold wantedErr
  rw [if_pos hl, if_pos (rings_sub_err hr (hsubR B (hB.trans hsub))), if_pos ha]
 ·have hnd : (ruledT (noFit l ware r) r.length).Nodup := hpw.imp (fun h => Nat.ne_of_lt h)
  rw [dropAt_filter hnd hk]
  have := ruled_least2 hmono (List.getElem_mem hk)
  simpa [noFit] using this
end Go.Proofs.YthpjffhccjlnhaaGreatDoor
