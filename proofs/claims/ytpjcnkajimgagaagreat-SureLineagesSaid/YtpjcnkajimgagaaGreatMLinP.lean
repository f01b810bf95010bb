/- Lineage, plain: what the reference keeps, Id after Id, is what package sure keeps. -/
import Derived.Test.YtpjcnkajimgagaaGreatMOnlyP
set_option linter.unusedSimpArgs false
set_option linter.unusedVariables false
namespace Go.Proofs.YtpjcnkajimgagaaGreat
open Go.RowKit

def linAt (c : Cs) (x y : Nat) (K : List Int) (i : Nat) : Cs × List Int := linTo c x y (K.drop i).reverse
def keptAt (c : Cs) (x y : Nat) (K : List Int) (i : Nat) : List Int := K.take i ++ (linAt c x y K i).2.reverse
def lessAt (c : Cs) (x y : Nat) (K : List Int) (i : Nat) : List Int := K.take i ++ (linAt c x y K (i + 1)).2.reverse
variable {c : Cs} {x y : Nat} {K : List Int}
theorem drop_at {i : Nat} {id : Int} (h : K[i]? = some id) : K.drop i = id :: K.drop (i + 1) := by
 obtain ⟨hl, he⟩ := List.getElem?_eq_some_iff.1 h
 rw [List.drop_eq_getElem_cons hl, he]
theorem linAt_step {i : Nat} {id : Int} (h : K[i]? = some id) : linAt c x y K i = linStep x y (ansAt c x y) (linAt c x y K (i + 1)) id := by
 unfold linAt; rw [drop_at h, List.reverse_cons, linTo_snoc]
theorem linTo_mem (c : Cs) (x y : Nat) : ∀ l : List Int, ∀ z ∈ (linTo c x y l).2, z ∈ l := by
 refine snoc_ind (by simp [linTo]) (fun l id ih z hz => ?_)
 rw [linTo_snoc, linStep] at hz
 split at hz
 ·exact List.mem_append_left _ (ih z hz)
 ·rcases List.mem_append.1 hz with h | h
  ·exact List.mem_append_left _ (ih z h)
  ·exact List.mem_append_right _ h
theorem linAt_mem {i : Nat} : ∀ z ∈ (linAt c x y K i).2, z ∈ K.drop i := fun z hz => by
 have := linTo_mem c x y _ z hz
 simpa using this
theorem keptAt_end : keptAt c x y K K.length = K := by simp [keptAt, linAt, linTo]
theorem keptAt_zero : keptAt c x y K 0 = (linTo c x y K.reverse).2.reverse := by simp [keptAt, linAt]
theorem keptAt_len (i : Nat) : (keptAt c x y K i).length ≤ K.length := by
 have h1 := linTo_len c x y (K.drop i).reverse
 unfold keptAt linAt
 simp at h1 ⊢
 omega
theorem lessAt_of {i : Nat} (hi : i < K.length) : (keptAt c x y K (i + 1)).take i = K.take i ∧ (keptAt c x y K (i + 1)).drop (i + 1) = (linAt c x y K (i + 1)).2.reverse := by
 have hl : (K.take (i + 1)).length = i + 1 := by rw [List.length_take]; omega
 constructor
 ·unfold keptAt
  rw [List.take_append_of_le_length (by omega), List.take_take, Nat.min_eq_left (by omega)]
 ·unfold keptAt
  rw [List.drop_append_of_le_length (by omega), List.drop_eq_nil_of_le (by omega), List.nil_append]
theorem asc_not {i : Nat} {id : Int} (hK : Asc K) (h : K[i]? = some id) : id ∉ K.take i ∧ id ∉ K.drop (i + 1) := by
 have e : K = K.take i ++ id :: K.drop (i + 1) := by rw [← drop_at h, List.take_append_drop]
 have h2 : (K.take i ++ id :: K.drop (i + 1)).Pairwise (· < ·) := by rw [← e]; exact hK
 rw [List.pairwise_append, List.pairwise_cons] at h2
 refine ⟨fun hm => ?_, fun hm => ?_⟩
 ·have := h2.2.2 id hm id (by simp); omega
 ·have := h2.2.1.1 id hm; omega
theorem case_at (hK : Asc K) (hs : ∀ v ∈ refIds c, v ≠ 0 → v ∈ K) : ∀ m i, i + m = K.length → (linAt c x y K i).1 = woutC (fun n => !(keptAt c x y K i).contains n) c
 | 0, i, h => by
  have hi : i = K.length := by omega
  subst hi
  rw [keptAt_end]
  have : (linAt c x y K K.length).1 = c := by simp [linAt, linTo]
  rw [this]
  refine (woutC_none fun v hv => ?_).symm
  simp only [hitB]
  rcases hz : (v != 0) with _ | _
  ·rfl
  ·have := hs v hv (by simpa using hz)
   simp [this]
 | m + 1, i, h => by
  have ih := case_at hK hs m (i + 1) (by omega)
  obtain ⟨id, hid⟩ := get_of_lt K (k := i) (by omega)
  have hn := asc_not hK hid
  have hr : id ∉ (linAt c x y K (i + 1)).2 := fun hm => hn.2 (linAt_mem id hm)
  rw [linAt_step hid, linStep]
  have hk1 : keptAt c x y K (i + 1) = K.take i ++ [id] ++ (linAt c x y K (i + 1)).2.reverse := by unfold keptAt; rw [take_snoc hid]
  split
  ·rename_i hc
   dsimp only
   have hk : keptAt c x y K i = K.take i ++ (linAt c x y K (i + 1)).2.reverse := by
    unfold keptAt; rw [linAt_step hid, linStep, if_pos hc]
   rw [ih, woutC_two, hk, hk1]
   refine woutC_same fun v hv => ?_
   simp only [hitB]
   congr 1
   by_cases hv1 : v = id
   ·subst hv1
    simp [hn.1, hr]
   ·have : (v == id) = false := by simpa using hv1
    simp [this, hv1]
  ·rename_i hc
   dsimp only
   have hk : keptAt c x y K i = keptAt c x y K (i + 1) := by
    rw [hk1]; unfold keptAt; rw [linAt_step hid, linStep, if_neg hc]; simp
   rw [ih, hk]
theorem kept_step (hK : Asc K) (hs : ∀ v ∈ refIds c, v ≠ 0 → v ∈ K) {i : Nat} {id : Int} (hid : K[i]? = some id) :
  keptAt c x y K i = if ansAt (woutC (fun n => !(lessAt c x y K i).contains n) c) x y = ansAt c x y then lessAt c x y K i else keptAt c x y K (i + 1) := by
 have hl := (List.getElem?_eq_some_iff.1 hid).1
 have hn := asc_not hK hid
 have hr : id ∉ (linAt c x y K (i + 1)).2 := fun hm => hn.2 (linAt_mem id hm)
 have hk1 : keptAt c x y K (i + 1) = K.take i ++ [id] ++ (linAt c x y K (i + 1)).2.reverse := by unfold keptAt; rw [take_snoc hid]
 have he : woutC (fun n => n == id) (linAt c x y K (i + 1)).1 = woutC (fun n => !(lessAt c x y K i).contains n) c := by
  rw [case_at hK hs (K.length - (i + 1)) (i + 1) (by omega), woutC_two, hk1]
  unfold lessAt
  refine woutC_same fun v hv => ?_
  simp only [hitB]
  congr 1
  by_cases hv1 : v = id
  ·subst hv1
   simp [hn.1, hr]
  ·have : (v == id) = false := by simpa using hv1
   simp [this, hv1]
 rw [← he]
 by_cases hc : ansAt (woutC (fun n => n == id) (linAt c x y K (i + 1)).1) x y = ansAt c x y
 ·rw [if_pos hc]
  unfold keptAt lessAt
  rw [linAt_step hid, linStep, if_pos (by simpa using hc)]
 ·rw [if_neg hc, hk1]
  unfold keptAt
  rw [linAt_step hid, linStep, if_neg (by simpa using hc)]
  simp
/-- the reference's list is package sure's -/
theorem kept_law (c : Cs) (x y : Nat) : keptAt c x y (withL (refIds c)) 0 = lineageL c x y := by
 rw [keptAt_zero, ← ids_same]; rfl
theorem ref_sub : ∀ v ∈ refIds c, v ≠ 0 → v ∈ withL (refIds c) := fun v hv h0 => ((withL_asc _).2 v).2 ⟨hv, h0⟩
end Go.Proofs.YtpjcnkajimgagaaGreat
