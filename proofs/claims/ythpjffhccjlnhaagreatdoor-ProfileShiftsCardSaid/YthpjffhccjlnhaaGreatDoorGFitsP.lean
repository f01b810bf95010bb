/- The reference: fits: all words that begin in a way and fit: plain. No program. -/
import Derived.Test.YthpjffhccjlnhaaGreatDoorMG22
import Derived.Test.YthpjffhccjlnhaaGreatDoorGFew
set_option linter.unusedSimpArgs false
set_option linter.unusedVariables false
namespace Go.Proofs.YthpjffhccjlnhaaGreatDoor
open Go.RowKit
def nowV (t : Typ) (v : List Nat) : CS := match v.getLast? with | some c => t.kd.after c | none => t.kd.rim
def nowS (t : Typ) (v : List Nat) : ByteArray := match v.getLast? with | some c => t.after c | none => t.rim
def stopV (t : Typ) (r : List Rng) (s : Nat) (v : List Nat) : Bool := match v.getLast? with | some c => stopB t.kd t.m (leastOf4 t r s) (t.m - v.length) c | none => false
def selfV (t : Typ) (r : List Rng) (s : Nat) (v : List Nat) : List (List Nat) := if stopV t r s v then [v] else []
def wordsR (t : Typ) (r : List Rng) (s : Nat) (v : List Nat) : List (List Nat) := selfV t r s v ++ (fitL t.kd t.m (cutOf r s) (leastOf4 t r s) (t.m - v.length) (nowV t v)).map (v ++ ·)
def nextV (t : Typ) (r : List Rng) (s : Nat) (v : List Nat) : CS := fun c => nowV t v c && cutOf r s v.length c
def wordV (v : List Nat) : Value := .string (mkB (toS v))
theorem wordsR_nil (t : Typ) (r : List Rng) (s : Nat) : wordsR t r s [] = fitsOf t r s := by
 show ([] : List (List Nat)) ++ (fitL t.kd t.m (cutOf r s) (leastOf4 t r s) (t.m - 0) t.kd.rim).map (([] : List Nat) ++ ·) = _
 rw [List.nil_append, Nat.sub_zero]
 exact List.map_id' _
theorem nowS_has (t : Typ) (v : List Nat) : hasC (bl (nowS t v)) = nowV t v := by
 unfold nowS nowV
 rcases v.getLast? with _ | c <;> rfl
theorem nowS_set {t : Typ} (ht : t.sets = true) {v : List Nat} (hv : ∀ c, c ∈ v → c < 26) : isSetB (bl (nowS t v)) = true := by
 unfold nowS
 obtain ⟨s1, _, s3⟩ := Typ.sets_iff.1 ht
 rcases hl : v.getLast? with _ | c
 ·exact s1
 ·exact s3 c (hv c (List.mem_of_getLast? hl))
theorem next_str {t : Typ} (ht : t.sets = true) {r : List Rng} (hr : ∀ y, y ∈ r → isSetB (bl y.set) = true) (s : Nat) {v : List Nat} (hv : ∀ c, c ∈ v → c < 26) : bothL (bl (nowS t v)) (bl (ringS r s v.length)) = str (nextV t r s v) := by
 rw [both_set (nowS_set ht hv) (ringS_set hr s _), nowS_has]
 refine str_congr fun c hc => ?_
 rw [ringS_cut r s _ hc]; rfl
theorem wordsR_full {t : Typ} {r : List Rng} {s : Nat} {v : List Nat} (h : v.length = t.m) : wordsR t r s v = selfV t r s v := by
 unfold wordsR
 rw [h, Nat.sub_self]
 show _ ++ ([] : List (List Nat)) = _
 rw [List.append_nil]
theorem wordsR_next {t : Typ} {r : List Rng} {s : Nat} {v : List Nat} (h : v.length < t.m) : wordsR t r s v = selfV t r s v ++ (classesOf (nextV t r s v)).flatMap fun c => wordsR t r s (v ++ [c]) := by
 obtain ⟨d, hd⟩ : ∃ d, t.m - v.length = d + 1 := ⟨t.m - v.length - 1, by omega⟩
 unfold wordsR
 rw [hd, fitL, show t.m - (d + 1) = v.length by omega, List.map_flatMap]
 congr 1
 show ((List.range 26).filter (nextV t r s v)).flatMap _ = ((List.range 26).filter (nextV t r s v)).flatMap _
 congr 1
 funext c
 have h1 : nowV t (v ++ [c]) = t.kd.after c := by unfold nowV; rw [List.getLast?_concat]
 have h2 : t.m - (v ++ [c]).length = d := by rw [List.length_append]; simp; omega
 have h3 : selfV t r s (v ++ [c]) = if stopB t.kd t.m (leastOf4 t r s) d c then [v ++ [c]] else [] := by
  unfold selfV stopV
  rw [List.getLast?_concat, h2]
 rw [h1, h2, h3, List.map_append, List.map_map]
 congr 1
 ·split <;> simp
 ·congr 1
  funext x
  simp
theorem stop_eq {t : Typ} {r : List Rng} {s : Nat} (h1 : 1 ≤ t.least) (hm : t.most = (t.m : Int)) (hs : s < shiftsOf t r) {u : List Nat} {c : Nat} (hc : c < 26) (hl : (u ++ [c]).length ≤ t.m) : stopV t r s (u ++ [c]) = (wholeB t r s (u ++ [c]).length && inL (bl t.base) (chC c)) := by
 unfold stopV
 rw [List.getLast?_concat, whole_eq h1 hs, inL_ch hc]
 simp only [stopB]
 rw [show t.m - (t.m - (u ++ [c]).length) = (u ++ [c]).length by omega, show decide (((u ++ [c]).length : Int) ≤ t.most) = true from decide_eq_true (by rw [hm]; omega), Bool.and_true]
 rfl
/-! how many -/
def geo : Nat → Nat
 | 0 => 0
 | r + 1 => 1 + 3 * geo r
theorem geo_le {r : Nat} (h : r ≤ 6) : geo r ≤ 364 := by
 have : r = 0 ∨ r = 1 ∨ r = 2 ∨ r = 3 ∨ r = 4 ∨ r = 5 ∨ r = 6 := by omega
 rcases this with rfl | rfl | rfl | rfl | rfl | rfl | rfl <;> decide
theorem flat_le {α : Type} {f : Nat → List α} {n : Nat} (L : List Nat) (h : ∀ c, c ∈ L → (f c).length ≤ n) : (L.flatMap f).length ≤ L.length * n := by
 induction L with
 | nil => simp
 | cons x L ih =>
  rw [List.flatMap_cons, List.length_append, List.length_cons, Nat.succ_mul]
  have h1 := h x (by simp)
  have h2 := ih fun c hc => h c (by simp [hc])
  omega
theorem fitL_len {K : Kd} {m : Nat} {cut : Nat → CS} {least : Int} (h3 : ∀ c, c < 26 → ((List.range 26).filter (K.after c)).length ≤ 3) : ∀ (r : Nat) (now : CS), (fitL K m cut least r now).length ≤ ((List.range 26).filter now).length * geo r
 | 0, now => by simp [fitL]
 | r + 1, now => by
  rw [fitL]
  refine Nat.le_trans (flat_le (n := geo (r + 1)) _ fun c hc => ?_) (Nat.mul_le_mul_right _ ?_)
  ·have hc26 : c < 26 := by simpa using (List.mem_filter.1 hc).1
   have h1 := fitL_len (m := m) (cut := cut) (least := least) h3 r (K.after c)
   have h2 := Nat.mul_le_mul_right (geo r) (h3 c hc26)
   rw [List.length_append, List.length_map]
   have h4 : (if stopB K m least r c = true then [[c]] else ([] : List (List Nat))).length ≤ 1 := by split <;> simp
   show _ ≤ 1 + 3 * geo r
   omega
  ·rw [← List.countP_eq_length_filter, ← List.countP_eq_length_filter]
   exact List.countP_mono_left fun x _ h => by
    simp only [Bool.and_eq_true] at h; exact h.1
theorem after_few {t : Typ} (ht : t.sets = true) {c : Nat} (hc : c < 26) (h : (t.after c).size ≤ 3) : ((List.range 26).filter (t.kd.after c)).length ≤ 3 := by
 have h1 : (str (hasC (bl (t.after c)))).length ≤ 3 := by rw [str_has ((Typ.sets_iff.1 ht).2.2 c hc), bl_len]; exact h
 unfold str at h1
 rw [List.length_map] at h1; exact h1
theorem wordsR_len {t : Typ} (ht : t.sets = true) (hm6 : t.m ≤ 6) (h3 : ∀ c, c < 26 → (t.after c).size ≤ 3) (r : List Rng) (s : Nat) (v : List Nat) : (wordsR t r s v).length ≤ 10000 := by
 have h1 := fitL_len (m := t.m) (cut := cutOf r s) (least := leastOf4 t r s) (fun c hc => after_few ht hc (h3 c hc)) (t.m - v.length) (nowV t v)
 have h2 : ((List.range 26).filter (nowV t v)).length ≤ 26 := by have := List.length_filter_le (nowV t v) (List.range 26); simpa using this
 have h4 := geo_le (r := t.m - v.length) (by omega)
 have h5 := Nat.mul_le_mul h2 h4
 unfold wordsR selfV
 rw [List.length_append, List.length_map]
 have h6 : (if stopV t r s v = true then [v] else ([] : List (List Nat))).length ≤ 1 := by split <;> simp
 omega
def wordsTo (t : Typ) (r : List Rng) (s : Nat) (v : List Nat) (i : Nat) : List (List Nat) := selfV t r s v ++ ((classesOf (nextV t r s v)).take i).flatMap fun c => wordsR t r s (v ++ [c])
theorem wordsTo_zero (t : Typ) (r : List Rng) (s : Nat) (v : List Nat) : wordsTo t r s v 0 = selfV t r s v := by simp [wordsTo]
theorem wordsTo_succ {t : Typ} {r : List Rng} {s : Nat} {v : List Nat} {i c : Nat} (h : (classesOf (nextV t r s v))[i]? = some c) : wordsTo t r s v (i + 1) = wordsTo t r s v i ++ wordsR t r s (v ++ [c]) := by
 unfold wordsTo
 rw [List.take_add_one, h, List.flatMap_append, List.append_assoc]; simp
theorem wordsTo_all {t : Typ} {r : List Rng} {s : Nat} {v : List Nat} (h : v.length < t.m) {i : Nat} (hi : (classesOf (nextV t r s v)).length ≤ i) : wordsTo t r s v i = wordsR t r s v := by
 unfold wordsTo
 rw [List.take_of_length_le hi, wordsR_next h]
theorem wordsTo_len {t : Typ} {r : List Rng} {s : Nat} {v : List Nat} (h : v.length < t.m) (i : Nat) : (wordsTo t r s v i).length ≤ (wordsR t r s v).length := by
 unfold wordsTo
 rw [wordsR_next h, List.length_append, List.length_append]
 have := congrArg (fun L => (L.flatMap fun c => wordsR t r s (v ++ [c])).length) (List.take_append_drop i (classesOf (nextV t r s v)))
 simp only [List.flatMap_append, List.length_append] at this
 omega
end Go.Proofs.YthpjffhccjlnhaaGreatDoor
