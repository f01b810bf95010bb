/- SureRests, plain: an answer rests on its lineage, a refutation on what it uses. -/
import Derived.Test.YtpjcnkajimgagaaGreatMLinP
import Derived.Test.YtpjcnkajimgagaaGreatMUsesP
import Derived.Test.YtpjcnkajimgagaaGreatMPlainB
set_option linter.unusedSimpArgs false
set_option linter.unusedVariables false
namespace Go.Proofs.YtpjcnkajimgagaaGreat
open Go.RowKit

/-- what stands after some Ids were tried -/
structure LinOk (c : Cs) (x y : Nat) (s : Cs × List Int) : Prop where
 chk : checkCase s.1 = 0
 len : s.1.parts.length = c.parts.length
 some_ : (allR s.1).isEmpty = false
 ans : ansAt s.1 x y = ansAt c x y
 kept : ∀ z ∈ s.2, ansAt (woutC (fun n => n == z) s.1) x y = 3
theorem linTo_ok {c : Cs} {x y : Nat} (hc : checkCase c = 0) (hs : (allR c).isEmpty = false) (hx : x < c.parts.length) (hy : y < c.parts.length) : ∀ l, LinOk c x y (linTo c x y l) := by
 refine snoc_ind ⟨hc, rfl, hs, rfl, by simp [linTo]⟩ (fun l id ih => ?_)
 rw [linTo_snoc, linStep]
 generalize linTo c x y l = s at ih
 have hT := wout_tight (fun n => n == id) ih.chk
 have hl : (woutC (fun n => n == id) s.1).parts.length = c.parts.length := by rw [woutC_len]; exact ih.len
 split
 ·rename_i ht
  refine ⟨woutC_check _ ih.chk, hl, hT.some_ ih.some_, by simpa using ht, fun z hz => ?_⟩
  have e : woutC (fun n => n == z) (woutC (fun n => n == id) s.1) = woutC (fun n => n == id) (woutC (fun n => n == z) s.1) := by
   rw [woutC_two, woutC_two]
   congr 1
   funext n
   rw [Bool.or_comm]
  have hl2 : (woutC (fun n => n == id) (woutC (fun n => n == z) s.1)).parts.length = c.parts.length := by rw [woutC_len, woutC_len]; exact ih.len
  dsimp only
  rw [e]
  exact (wout_tight (fun n => n == id) (woutC_check (fun n => n == z) ih.chk)).open_ ((wout_tight (fun n => n == z) ih.chk).some_ ih.some_) (by omega) (by omega) (ih.kept z hz)
 ·rename_i ht
  refine ⟨ih.chk, ih.len, ih.some_, ih.ans, fun z hz => ?_⟩
  rcases List.mem_append.1 hz with hz | hz
  ·exact ih.kept z hz
  ·rw [List.mem_singleton.1 hz]
   dsimp only
   refine Classical.byContradiction fun h3 => ht ?_
   have h4 := hT.ans ih.some_ (a := x) (b := y) (by omega) (by omega) h3
   rw [← ih.ans, h4]
   simp
/-- the answer rests on its lineage -/
theorem lineage_rests {c : Cs} {x y : Nat} (hc : checkCase c = 0) (hs : (allR c).isEmpty = false) (hx : x < c.parts.length) (hy : y < c.parts.length) :
  LinOk c x y (woutC (fun n => !(lineageL c x y).contains n) c, lineageL c x y) := by
 have h := linTo_ok hc hs hx hy (withL (refIds c)).reverse
 have h1 := case_at (c := c) (x := x) (y := y) (K := withL (refIds c)) (withL_asc _).1 ref_sub (withL (refIds c)).length 0 (by omega)
 rw [kept_law] at h1
 have h2 : linAt c x y (withL (refIds c)) 0 = linTo c x y (withL (refIds c)).reverse := by simp [linAt]
 rw [h2] at h1
 have h3 : lineageL c x y = (linTo c x y (withL (refIds c)).reverse).2.reverse := by rw [← kept_law, keptAt_zero]
 rw [← h1]
 exact ⟨h.chk, h.len, h.some_, h.ans, fun z hz => h.kept z (by rw [h3] at hz; simpa using hz)⟩
theorem lineage_ids {c : Cs} {x y : Nat} : ∀ z ∈ lineageL c x y, z ≠ 0 := fun z hz => by
 have h3 : lineageL c x y = (linTo c x y (withL (refIds c)).reverse).2.reverse := by rw [← kept_law, keptAt_zero]
 rw [h3] at hz
 have := linTo_mem c x y _ z (by simpa using hz)
 exact (((withL_asc _).2 z).1 (by simpa using this)).2
section
variable {c : Cs} {gone : Int → Bool} {d : Dec} {n : Nat}
theorem wout_part {x : Nat} {p : Prt} (h : c.parts[x]? = some p) : (woutC gone c).parts[x]? = some (woutP gone p) := by rw [woutC_eq]; simp [h]
theorem clash_keep (hc : checkCase c = 0) {x y : Nat} (h : clashB c x y = true) (hi : ∀ v ∈ causeS c x y, hitB gone v = false) : clashB (woutC gone c) x y = true := by
 rcases hp : c.parts[x]? with _ | p
 ·simp [clashB, hp] at h
 rcases hq : c.parts[y]? with _ | q
 ·simp [clashB, hp, hq] at h
 have hok := (check_okCase hc).2.2.1
 have sp := okSpn_of (hok p (List.mem_of_getElem? hp))
 have sq := okSpn_of (hok q (List.mem_of_getElem? hq))
 rw [clashB_eq hp hq] at h
 rw [clashB_eq (wout_part hp) (wout_part hq)]
 rw [causeS_eq' hp hq] at hi
 rw [woutP_eq, woutP_eq]
 unfold clashP at h ⊢
 unfold causeQ at hi
 simp only [Bool.and_eq_true, Bool.or_eq_true, decide_eq_true_eq] at h ⊢
 refine ⟨h.1, ?_⟩
 by_cases hf : feetB p.foot q.foot = true
 ·rw [if_pos hf] at hi
  have h1 := hi p.footBy (by simp)
  have h2 := hi q.footBy (by simp)
  refine .inl (.inl ?_)
  simp only [h1, h2]
  exact hf
 ·rw [if_neg hf] at hi
  by_cases hl : p.span.low < q.span.low
  ·rw [if_pos hl] at hi
   have h1 := hi q.span.lowBy (by simp)
   have h2 := hi p.span.highBy (by simp)
   refine .inr ?_
   simp only [h1, h2]
   rcases h.2 with (h3 | h3) | h3
   ·exact absurd h3 hf
   ·exfalso; omega
   ·simpa using h3
  ·rw [if_neg hl] at hi
   have h1 := hi p.span.lowBy (by simp)
   have h2 := hi q.span.highBy (by simp)
   refine .inl (.inr ?_)
   simp only [h1, h2]
   rcases h.2 with (h3 | h3) | h3
   ·exact absurd h3 hf
   ·simpa using h3
   ·exfalso; omega
theorem rivals_some {f : Nat → Nat → Bool} {x y : Nat} : (rivalsOf d n x y f).isSome = true ↔ ∃ z ∈ ((clsList d n x n).flatMap fun p => (clsList d n y n).map fun q => (p, q)), f z.1 z.2 = true := by
 unfold rivalsOf
 rw [List.find?_isSome]
theorem opp_keep (hc : checkCase c = 0) {x y : Nat} (h : oppB c d n x y = true) (hi : ∀ v ∈ betS c d n x y, hitB gone v = false) : oppB (woutC gone c) d n x y = true := by
 unfold oppB at h ⊢
 rcases ha : (rivalsOf d n x y (apartB d)).isSome with _ | _
 ·obtain ⟨z, hz, hf⟩ := rivals_some.1 h
  have hna : ∀ z ∈ ((clsList d n x n).flatMap fun p => (clsList d n y n).map fun q => (p, q)), ¬ apartB d z.1 z.2 = true := fun z hz h1 => by
   have := rivals_some.2 ⟨z, hz, h1⟩; rw [ha] at this; cases this
  have hcl : clashB c z.1 z.2 = true := by
   unfold oppF at hf
   rcases Bool.or_eq_true _ _ ▸ hf with h1 | h1
   ·exact h1
   ·exact absurd h1 (hna z hz)
  have hs := rivals_some.2 ⟨z, hz, hcl⟩
  obtain ⟨u, hu⟩ := Option.isSome_iff_exists.1 hs
  unfold betS at hi
  rw [if_neg (by simp [ha]), hu] at hi
  have hul : u ∈ ((clsList d n x n).flatMap fun p => (clsList d n y n).map fun q => (p, q)) := List.mem_of_find?_eq_some hu
  have huc := (rivals_in hu).2.2
  refine rivals_some.2 ⟨u, hul, ?_⟩
  unfold oppF
  rw [clash_keep hc huc hi, Bool.true_or]
 ·obtain ⟨z, hz, hf⟩ := rivals_some.1 ha
  refine rivals_some.2 ⟨z, hz, ?_⟩
  unfold oppF
  rw [hf, Bool.or_true]
theorem nth_map (many : List Int) (j : Nat) : nth (many.map Int.toNat) j = (many[j]?.getD 0).toNat := by
 unfold nth
 rw [List.getElem?_map]
 cases many[j]? <;> rfl
theorem leaf_keep (hc : checkCase c = 0) {x : Br} (h : leafB c d n x = true) (hi : ∀ v ∈ idsS c d n x, hitB gone v = false) : leafB (woutC gone c) d n x = true := by
 unfold leafB at h ⊢
 unfold idsS at hi
 by_cases h2 : x.kind = 2
 ·rw [if_pos h2] at h hi ⊢
  unfold clashesB at h ⊢
  rw [Bool.and_eq_true] at h ⊢
  exact ⟨h.1, clash_keep hc h.2 hi⟩
 rw [if_neg h2] at h hi ⊢
 by_cases h3 : x.kind = 3
 ·rw [if_pos h3] at h ⊢; exact h
 rw [if_neg h3] at h ⊢
 by_cases h4 : x.kind = 4
 ·rw [if_pos h4] at h hi ⊢
  unfold manyB at h ⊢
  rw [Bool.and_eq_true] at h ⊢
  have hl : (woutC gone c).limit = c.limit := by rw [woutC_eq, hi c.by_ (by simp)]; simp
  refine ⟨?_, ?_⟩
  ·have := h.1
   unfold manyHead at this ⊢
   rw [hl]; exact this
  ·rw [upto_iff] at h ⊢
   intro i hil
   have hm := h.2 i hil
   unfold manyAt at hm ⊢
   rw [Bool.and_eq_true] at hm ⊢
   refine ⟨hm.1, ?_⟩
   rw [upto_iff] at hm ⊢
   intro j hj
   refine opp_keep hc (hm.2 j hj) fun v hv => hi v ?_
   refine List.mem_cons_of_mem _ ?_
   unfold manyS
   refine List.mem_flatMap.2 ⟨i, List.mem_range.2 hil, ?_⟩
   unfold rowS
   refine List.mem_flatMap.2 ⟨j, List.mem_range.2 hj, ?_⟩
   rw [nth_map, nth_map]; exact hv
 ·rw [if_neg h4] at h; cases h
theorem walk_keep {c' : Cs} : ∀ (k : Nat) (d : Dec) (l : List Br) {r : List Br} {e : List (Dec × Br)}, walkM c n k d l = some (r, e) → (∀ z ∈ e, leafB c' z.1 n z.2 = true) → walkM c' n k d l = some (r, e)
 | 0, _, _, _, _, h, _ => by cases h
 | _ + 1, _, [], _, _, h, _ => by cases h
 | k + 1, d, x :: l, r, e, h, hz => by
  simp only [walkM] at h ⊢
  split at h
  ·rename_i h1
   rw [if_pos h1]
   split at h
   ·rename_i h2
    rw [if_pos h2]
    split at h
    ·cases h
    ·rename_i l1 e1 hw1
     split at h
     ·cases h
     ·rename_i l2 e2 hw2
      cases h
      rw [walk_keep k _ l hw1 (fun z hm => hz z (List.mem_append_left _ hm))]
      dsimp only
      rw [walk_keep k _ l1 hw2 (fun z hm => hz z (List.mem_append_right _ hm))]
   ·cases h
  ·rename_i h1
   rw [if_neg h1]
   split at h
   ·cases h
    rw [if_pos (hz (d, x) (by simp))]
   ·cases h
theorem refuted_keep {c' : Cs} {l : List Br} {ev : List (Dec × Br)} (h : refutedB c n d l = some ev) (hz : ∀ z ∈ ev, leafB c' z.1 n z.2 = true) : refutedB c' n d l = some ev := by
 unfold refutedB at h ⊢
 split at h
 ·cases h
 ·rename_i h20
  rw [if_neg h20]
  split at h
  ·rename_i es hm
   cases h
   rw [walk_keep _ _ _ hm hz]
  ·cases h
/-- the refutation rests on what it uses -/
theorem uses_rests (hc : checkCase c = 0) {l : List Br} {ev : List (Dec × Br)} (h : refutedB c n d l = some ev) :
  refutedB (woutC (fun v => !(uniqL (evS c n ev)).contains v) c) n d l = some ev := by
 refine refuted_keep h fun z hz => ?_
 have hl : leafB c z.1 n z.2 = true := by
  unfold refutedB at h
  split at h
  ·cases h
  ·split at h
   ·rename_i hm
    cases h
    exact (walkM_ev _ _ _ hm).2 z hz
   ·cases h
 refine leaf_keep hc hl fun v hv => ?_
 unfold hitB
 rcases h0 : (v != 0) with _ | _
 ·rfl
 ·have hm : v ∈ uniqL (evS c n ev) := ((uniqL_asc _).2 v).2 ⟨List.mem_flatMap.2 ⟨z, hz, hv⟩, by simpa using h0⟩
  simp [hm]
end
end Go.Proofs.YtpjcnkajimgagaaGreat
