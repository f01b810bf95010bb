/- Only, plain: to be without one Id after the other; the Ids of a case. -/
import Derived.Test.YtpjcnkajimgagaaGreatMPlainB
import Derived.Test.YtpjcnkajimgagaaGreatMWithP
import Derived.Test.YtpjcnkajimgagaaGreatMLin
set_option linter.unusedSimpArgs false
set_option linter.unusedVariables false
namespace Go.Proofs.YtpjcnkajimgagaaGreat
open Go.RowKit

theorem hit_zero (g : Int → Bool) : hitB g 0 = false := by simp [hitB]
theorem hit_or (g1 g2 : Int → Bool) (v : Int) : hitB (fun n => g1 n || g2 n) v = (hitB g1 v || hitB g2 v) := by
 simp only [hitB]; cases (v != 0) <;> simp
theorem woutP_two (g1 g2 : Int → Bool) (p : Prt) : woutP g2 (woutP g1 p) = woutP (fun n => g1 n || g2 n) p := by
 rw [woutP_eq g2, woutP_eq g1, woutP_eq]
 simp only [hit_or]
 rcases h0 : hitB g1 p.span.lowBy with _ | _ <;> rcases h1 : hitB g1 p.span.highBy with _ | _ <;> rcases h2 : hitB g1 p.footBy with _ | _ <;> simp [hit_zero]
theorem woutC_two (g1 g2 : Int → Bool) (c : Cs) : woutC g2 (woutC g1 c) = woutC (fun n => g1 n || g2 n) c := by
 rw [woutC_eq g2, woutC_eq g1, woutC_eq]
 simp only [hit_or, List.map_map]
 rw [show (woutP g2 ∘ woutP g1) = woutP (fun n => g1 n || g2 n) from funext fun p => woutP_two g1 g2 p]
 rcases h0 : hitB g1 c.by_ with _ | _ <;> simp [hit_zero]
/-- the Ids of a part, of a case, as they stand -/
def idsP (p : Prt) : List Int := [p.span.lowBy, p.span.highBy, p.footBy]
def refIds (c : Cs) : List Int := c.by_ :: c.parts.flatMap idsP
theorem woutP_same {g1 g2 : Int → Bool} {p : Prt} (h : ∀ v ∈ idsP p, hitB g1 v = hitB g2 v) : woutP g1 p = woutP g2 p := by
 rw [woutP_eq, woutP_eq, h p.span.lowBy (by simp [idsP]), h p.span.highBy (by simp [idsP]), h p.footBy (by simp [idsP])]
theorem woutC_same {g1 g2 : Int → Bool} {c : Cs} (h : ∀ v ∈ refIds c, hitB g1 v = hitB g2 v) : woutC g1 c = woutC g2 c := by
 rw [woutC_eq, woutC_eq, h c.by_ (by simp [refIds])]
 congr 1
 refine List.map_congr_left fun p hp => woutP_same fun v hv => h v ?_
 exact List.mem_cons_of_mem _ (List.mem_flatMap.2 ⟨p, hp, hv⟩)
theorem woutC_none {g : Int → Bool} {c : Cs} (h : ∀ v ∈ refIds c, hitB g v = false) : woutC g c = c := by
 rw [woutC_eq, h c.by_ (by simp [refIds])]
 have : c.parts.map (woutP g) = c.parts := by
  conv => rhs; rw [← List.map_id c.parts]
  refine List.map_congr_left fun p hp => ?_
  have hh : ∀ v ∈ idsP p, hitB g v = false := fun v hv => h v (List.mem_cons_of_mem _ (List.mem_flatMap.2 ⟨p, hp, hv⟩))
  rw [woutP_eq, hh p.span.lowBy (by simp [idsP]), hh p.span.highBy (by simp [idsP]), hh p.footBy (by simp [idsP])]
  simp
 rw [this]
 simp
theorem mem_words (c : Cs) (v : Int) : v ∈ wordIds c ↔ v ∈ refIds c := by
 simp only [wordIds, List.mem_map, bysList, bysTo, partItems, List.mem_append, List.mem_flatMap, List.mem_range, List.mem_singleton, refIds, idsP, List.mem_cons, List.not_mem_nil, or_false]
 constructor
 ·rintro ⟨x, ⟨i, hi, h⟩ | rfl, rfl⟩
  ·refine .inr ⟨c.parts[i], List.getElem_mem hi, ?_⟩
   rcases h with rfl | rfl | rfl <;> simp [byVal, hi]
  ·exact .inl (by simp [byVal])
 ·rintro (rfl | ⟨p, hp, h⟩)
  ·exact ⟨(c.parts.length, 3), .inr rfl, by simp [byVal]⟩
  ·obtain ⟨i, hi⟩ := List.getElem?_of_mem hp
   have hl := (List.getElem?_eq_some_iff.1 hi).1
   rcases h with rfl | rfl | rfl
   ·exact ⟨(i, 0), .inl ⟨i, hl, .inl rfl⟩, by simp [byVal, hi]⟩
   ·exact ⟨(i, 1), .inl ⟨i, hl, .inr (.inl rfl)⟩, by simp [byVal, hi]⟩
   ·exact ⟨(i, 2), .inl ⟨i, hl, .inr (.inr rfl)⟩, by simp [byVal, hi]⟩
theorem ids_same (c : Cs) : uniqL (wordIds c) = withL (refIds c) := uniq_with (mem_words c)
/-- the reference's only, Id after Id -/
def onlyTo (c : Cs) (l ids : List Int) (k : Nat) : Cs := (ids.take k).foldl (fun d id => if l.contains id then d else woutC (fun n => n == id) d) c
theorem onlyTo_succ {c : Cs} {l ids : List Int} {k : Nat} {x : Int} (h : ids[k]? = some x) : onlyTo c l ids (k + 1) = if l.contains x then onlyTo c l ids k else woutC (fun n => n == x) (onlyTo c l ids k) := by
 unfold onlyTo
 rw [take_snoc h, List.foldl_append]
 rfl
theorem onlyTo_len (c : Cs) (l : List Int) (ids : List Int) (k : Nat) : (onlyTo c l ids k).parts.length = c.parts.length := by
 unfold onlyTo
 generalize ids.take k = m
 induction m generalizing c with
 | nil => rfl
 | cons x m ih =>
  rw [List.foldl_cons, ih]
  split
  ·rfl
  ·exact woutC_len _ _
theorem onlyTo_ware (c : Cs) (l : List Int) (ids : List Int) (k : Nat) : (onlyTo c l ids k).ware = c.ware := by
 unfold onlyTo
 generalize ids.take k = m
 induction m generalizing c with
 | nil => rfl
 | cons x m ih =>
  rw [List.foldl_cons, ih]
  split
  ·rfl
  ·rw [woutC_eq]
theorem onlyTo_small {c : Cs} (h : c.Small) (l : List Int) (ids : List Int) (k : Nat) : (onlyTo c l ids k).Small := by
 unfold onlyTo
 generalize ids.take k = m
 induction m generalizing c with
 | nil => exact h
 | cons x m ih =>
  rw [List.foldl_cons]
  refine ih ?_
  split
  ·exact h
  ·exact woutC_small h _
theorem fold_only (l : List Int) : ∀ (m : List Int) (c : Cs) (g : Int → Bool), m.foldl (fun d id => if l.contains id then d else woutC (fun n => n == id) d) (woutC g c) = woutC (fun n => g n || (m.contains n && !l.contains n)) c
 | [], c, g => by simp
 | x :: m, c, g => by
  rw [List.foldl_cons]
  rcases h : l.contains x with _ | _
  ·rw [if_neg (by simp), woutC_two, fold_only l m]
   refine woutC_same fun v _ => ?_
   simp only [hitB]
   congr 1
   rw [Bool.or_assoc]
   congr 1
   rcases hx : (v == x) with _ | _
   ·have hne : v ≠ x := by simpa using hx
    simp [hne]
   ·have : v = x := by simpa using hx
    subst this
    simp at h
    simp [h]
  ·rw [if_pos rfl, fold_only l m]
   refine woutC_same fun v _ => ?_
   simp only [hitB]
   congr 2
   rcases hx : (v == x) with _ | _
   ·have hne : v ≠ x := by simpa using hx
    simp [hne]
   ·have : v = x := by simpa using hx
    subst this
    simp at h
    simp [h]
theorem onlyTo_all (c : Cs) (l : List Int) : onlyTo c l (withL (refIds c)) (withL (refIds c)).length = woutC (fun n => !l.contains n) c := by
 unfold onlyTo
 rw [List.take_length]
 have h0 : c = woutC (fun _ => false) c := (woutC_none (fun v _ => by simp [hitB])).symm
 conv => lhs; arg 2; rw [h0]
 rw [fold_only]
 refine woutC_same fun v hv => ?_
 simp only [hitB]
 rcases hz : (v != 0) with _ | _
 ·rfl
 ·have : v ∈ withL (refIds c) := ((withL_asc _).2 v).2 ⟨hv, by simpa using hz⟩
  simp [this]
/-- a case with fewer Ids is asked as well -/
theorem ask_wout {c : Cs} {x y : Int} (g : Int → Bool) (h : askErr c [x, y] = 0) : askErr (woutC g c) [x, y] = 0 := by
 have h1 := ask_open h
 have hc := open_check h1
 have h2 := ask_some h
 have h3 : openErr (woutC g c) [x, y] = 0 := by
  unfold openErr at h1 ⊢
  rw [if_pos hc] at h1
  rw [if_pos (woutC_check g hc), woutC_len]
  exact h1
 have h4 := (wout_tight g hc).some_ h2
 unfold askErr
 rw [if_pos h3, if_neg (by simp [h4])]
theorem withL_snoc (l : List Int) (x : Int) : withL (l ++ [x]) = with1L (withL l) x := by simp [withL, List.foldl_append]
theorem withL_le (l : List Int) : (withL l).length ≤ l.length := Nat.le_trans (withL_len l) (List.length_filter_le _ _)
theorem refIds_len (c : Cs) : (refIds c).length = 3 * c.parts.length + 1 := by
 unfold refIds
 rw [List.length_cons]
 congr 1
 induction c.parts with
 | nil => rfl
 | cons p l ih => rw [List.flatMap_cons, List.length_append, ih, List.length_cons]; simp [idsP]; omega
end Go.Proofs.YtpjcnkajimgagaaGreat
