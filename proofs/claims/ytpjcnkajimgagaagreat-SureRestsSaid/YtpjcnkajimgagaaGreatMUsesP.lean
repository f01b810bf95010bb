/- Uses, plain: the Ids of the leaves in the program's order, and in the reference's: as sorted sets they are one. -/
/- Uses, plain: the Ids of a leaf in the program's order; those of all leaves; the two orders hold the same Ids. -/
import Derived.Test.YtpjcnkajimgagaaGreatMWalkP
import Derived.Test.YtpjcnkajimgagaaGreatMWithP
set_option linter.unusedSimpArgs false
set_option linter.unusedVariables false
namespace Go.Proofs.YtpjcnkajimgagaaGreat
open Go.RowKit

section
variable {c : Cs} {d : Dec} {n : Nat}
/-- the Ids of a clash, as the program has them -/
def causeQ (p q : Prt) : List Int :=
 if feetB p.foot q.foot then [p.footBy, q.footBy] else if p.span.low < q.span.low then [q.span.lowBy, p.span.highBy] else [p.span.lowBy, q.span.highBy]
def causeS (c : Cs) (x y : Nat) : List Int := match c.parts[x]?, c.parts[y]? with | some p, some q => causeQ p q | _, _ => []
theorem causeS_eq' {x y : Nat} {p q : Prt} (hp : c.parts[x]? = some p) (hq : c.parts[y]? = some q) : causeS c x y = causeQ p q := by simp [causeS, hp, hq]
theorem causeS_len {x y : Nat} (hx : x < c.parts.length) (hy : y < c.parts.length) : (causeS c x y).length = 2 := by
 rw [causeS_eq' (List.getElem?_eq_getElem hx) (List.getElem?_eq_getElem hy), causeQ]
 split
 ·rfl
 ·split <;> rfl
theorem cause_one (hc : checkCase c = 0) {x y : Nat} (hx : x < c.parts.length) (hy : y < c.parts.length) (h : clashB c x y = true) : causeS c x y = causeB c x y := by
 have hp := List.getElem?_eq_getElem hx
 have hq := List.getElem?_eq_getElem hy
 have hok : ∀ p ∈ c.parts, p.span.low ≤ p.span.high := by
  intro p hp
  have : okCase c = true := by
   unfold checkCase at hc
   split at hc
   ·cases hc
   ·split at hc
    ·assumption
    ·cases hc
  simp only [okCase, Bool.and_eq_true, List.all_eq_true] at this
  have := this.1.2 p hp
  simp only [isPartB, okSpn, Bool.and_eq_true, decide_eq_true_eq] at this
  omega
 have h1 := hok _ (List.getElem_mem hx)
 have h2 := hok _ (List.getElem_mem hy)
 rw [causeS_eq' hp hq, causeB_eq hp hq, causeQ, causeP]
 have hcl : clashP x y c.parts[x] c.parts[y] = true := by simpa [clashB, hp, hq] using h
 split
 ·rfl
 ·rename_i hf
  simp only [clashP, Bool.and_eq_true, Bool.or_eq_true, decide_eq_true_eq, bne_iff_ne] at hcl
  obtain ⟨_, (hcl | hcl) | hcl⟩ := hcl
  ·exact absurd hcl hf
  ·rw [if_neg (by omega), if_pos (by omega)]
  ·rw [if_pos (by omega), if_neg (by omega)]
/-- the Ids by which two classes are opposed, as the program has them -/
def betS (c : Cs) (d : Dec) (n p q : Nat) : List Int := if (rivalsOf d n p q (apartB d)).isSome then [] else match rivalsOf d n p q (clashB c) with | some z => causeS c z.1 z.2 | none => causeS c 0 0
theorem rivals_in {f : Nat → Nat → Bool} {x y : Nat} {z : Nat × Nat} (h : rivalsOf d n x y f = some z) : z.1 < n ∧ z.2 < n ∧ f z.1 z.2 = true := by
 have h1 := List.mem_of_find?_eq_some h
 have h2 := List.find?_some h
 simp only [List.mem_flatMap, List.mem_map] at h1
 obtain ⟨p, hp, q, hq, rfl⟩ := h1
 simp only [clsList, List.mem_filter, List.mem_range] at hp hq
 exact ⟨hp.1, hq.1, h2⟩
theorem bet_len (hn : c.parts.length = n) (h0 : 0 < n) (p q : Nat) : (betS c d n p q).length ≤ 2 := by
 unfold betS
 split
 ·simp
 ·split
  ·rename_i z hz
   have := rivals_in hz
   rw [causeS_len (by omega) (by omega)]; omega
  ·rw [causeS_len (by omega) (by omega)]; omega
theorem bet_one (hc : checkCase c = 0) (hn : c.parts.length = n) (h8 : n ≤ 8) (hs : SymD d) (hp : Supp d n) {x y : Nat} (hx : x < n) (hy : y < n) (ho : oppB c d n x y = true) : betS c d n x y = pairIds c d x y := by
 rw [opp_parts h8 hs hp hx hy] at ho
 have h1 : partedR d (clsR d x) (clsR d y) = (rivalsOf d n x y (apartB d)).isSome := by
  rw [clsR_eq h8 hs hp hx, clsR_eq h8 hs hp hy, Bool.eq_iff_iff]
  simp only [partedR, rivalsOf, List.any_eq_true, List.find?_isSome, List.mem_flatMap, List.mem_map, decide_eq_true_eq, apartB, bne_iff_ne]
  constructor
  ·rintro ⟨p, hp, q, hq, h⟩; exact ⟨(p, q), ⟨p, hp, q, hq, rfl⟩, h⟩
  ·rintro ⟨_, ⟨p, hp, q, hq, rfl⟩, h⟩; exact ⟨p, hp, q, hq, h⟩
 have h2 : clashR c (clsR d x) (clsR d y) = rivalsOf d n x y (clashB c) := by
  rw [clsR_eq h8 hs hp hx, clsR_eq h8 hs hp hy]; rfl
 unfold betS pairIds
 rw [h1, h2]
 rw [h1, h2] at ho
 split
 ·rfl
 ·rename_i hf
  rw [Bool.or_eq_true] at ho
  rcases ho with ho | ho
  ·exact absurd ho hf
  ·obtain ⟨z, hz⟩ := Option.isSome_iff_exists.1 ho
   rw [hz]
   obtain ⟨a1, a2, a3⟩ := rivals_in hz
   exact cause_one hc (by omega) (by omega) a3
end
end Go.Proofs.YtpjcnkajimgagaaGreat
namespace Go.Proofs.YtpjcnkajimgagaaGreat
open Go.RowKit

section
variable {c : Cs} {d : Dec} {n : Nat}
def rowS (c : Cs) (d : Dec) (n : Nat) (l : List Nat) (i m : Nat) : List Int := (List.range m).flatMap fun k => betS c d n (nth l k) (nth l i)
def manyS (c : Cs) (d : Dec) (n : Nat) (l : List Nat) (m : Nat) : List Int := (List.range m).flatMap fun i => rowS c d n l i i
def idsS (c : Cs) (d : Dec) (n : Nat) (x : Br) : List Int := if x.kind = 2 then causeS c x.a.toNat x.b.toNat else if x.kind = 4 then c.by_ :: manyS c d n (x.many.map Int.toNat) x.many.length else []
def evS (c : Cs) (n : Nat) (ev : List (Dec × Br)) : List Int := ev.flatMap fun z => idsS c z.1 n z.2
theorem rowS_succ (l : List Nat) (i m : Nat) : rowS c d n l i (m + 1) = rowS c d n l i m ++ betS c d n (nth l m) (nth l i) := by simp [rowS, List.range_succ, List.flatMap_append]
theorem manyS_succ (l : List Nat) (m : Nat) : manyS c d n l (m + 1) = manyS c d n l m ++ rowS c d n l m m := by simp [manyS, List.range_succ, List.flatMap_append]
theorem evS_snoc (c : Cs) (n : Nat) (ev : List (Dec × Br)) (z : Dec × Br) : evS c n (ev ++ [z]) = evS c n ev ++ idsS c z.1 n z.2 := by simp [evS, List.flatMap_append]
theorem rowS_len (hn : c.parts.length = n) (h0 : 0 < n) (l : List Nat) (i : Nat) : ∀ m, (rowS c d n l i m).length ≤ 2 * m
 | 0 => by simp [rowS]
 | m + 1 => by
  have h1 := rowS_len hn h0 l i m
  have h2 := bet_len (d := d) hn h0 (nth l m) (nth l i)
  rw [rowS_succ, List.length_append]; omega
theorem manyS_len (hn : c.parts.length = n) (h0 : 0 < n) (l : List Nat) : ∀ m, (manyS c d n l m).length + m ≤ m * m
 | 0 => by simp [manyS]
 | m + 1 => by
  have h1 := manyS_len hn h0 l m
  have h2 := rowS_len (d := d) hn h0 l m m
  have h3 : (m + 1) * (m + 1) = m * m + 2 * m + 1 := by
   rw [Nat.add_mul, Nat.mul_add]; omega
  rw [manyS_succ, List.length_append]; omega
theorem leaf_zero {x : Br} (h : leafB c d 0 x = true) (hk : x.kind ≠ 4) : False := by
 unfold leafB at h
 rw [if_neg hk] at h
 simp only [clashesB, partedB, sameB, inB] at h
 split at h
 ·simp at h; omega
 ·split at h
  ·simp at h; omega
  ·cases h
theorem leaf_rise {x : Br} (hk : x.kind = 4) (h : leafB c d n x = true) : manyB c d n x.a x.b x.many = true ∧ riseTo n x.many x.many.length = true := by
 have hm : manyB c d n x.a x.b x.many = true := by
  unfold leafB at h
  rw [if_neg (by omega), if_neg (by omega), if_pos hk] at h
  exact h
 refine ⟨hm, ?_⟩
 rcases hr : riseTo n x.many x.many.length with _ | _
 ·rw [many_not hr] at hm; cases hm
 ·rfl
theorem idsS_len {x : Br} (hn : c.parts.length = n) (h8 : n ≤ 8) (h : leafB c d n x = true) : (idsS c d n x).length ≤ 57 := by
 unfold idsS
 split
 ·rename_i h2
  by_cases h0 : n = 0
  ·subst h0
   exact absurd (leaf_zero h (by omega)) id
  ·have hb : clashesB c d n x.a x.b x.many = true := by
    unfold leafB at h
    rwa [if_pos h2] at h
   simp only [clashesB, Bool.and_eq_true] at hb
   obtain ⟨⟨p, hp, hpn⟩, ⟨q, hq, hqn⟩, _⟩ := same_in hb.1
   rw [causeS_len (by rw [hp]; simp; omega) (by rw [hq]; simp; omega)]; omega
 ·split
  ·rename_i h4
   obtain ⟨_, hr⟩ := leaf_rise h4 h
   have h1 := rise_len hr
   rw [List.length_cons]
   by_cases h0 : n = 0
   ·have : x.many.length = 0 := by omega
    rw [this]; simp [manyS]
   ·have h3 := manyS_len (d := d) hn (by omega) (x.many.map Int.toNat) x.many.length
    have h4 : x.many.length * x.many.length ≤ 8 * x.many.length := Nat.mul_le_mul_right _ (by omega)
    omega
  ·simp
theorem evS_len (hn : c.parts.length = n) (h8 : n ≤ 8) : ∀ {e : List (Dec × Br)}, (∀ z ∈ e, leafB c z.1 n z.2 = true) → (evS c n e).length ≤ 57 * e.length
 | [], _ => by simp [evS]
 | z :: e, h => by
  have h1 := evS_len hn h8 (e := e) (fun y hy => h y (by simp [hy]))
  have h2 := idsS_len hn h8 (h z (by simp))
  have h3 : evS c n (z :: e) = idsS c z.1 n z.2 ++ evS c n e := rfl
  rw [h3, List.length_append, List.length_cons]
  omega
theorem mem_ids (hc : checkCase c = 0) (hn : c.parts.length = n) (h8 : n ≤ 8) (hs : SymD d) (hp : Supp d n) {x : Br} (h : leafB c d n x = true) (v : Int) : v ∈ idsS c d n x ↔ v ∈ leafIds c d x := by
 unfold idsS leafIds
 split
 ·rename_i h2
  have hb : clashesB c d n x.a x.b x.many = true := by
   unfold leafB at h
   rwa [if_pos h2] at h
  simp only [clashesB, Bool.and_eq_true] at hb
  obtain ⟨⟨p, hp, hpn⟩, ⟨q, hq, hqn⟩, _⟩ := same_in hb.1
  rw [cause_one hc (by rw [hp]; simp; omega) (by rw [hq]; simp; omega) hb.2]
 ·split
  ·rename_i h4
   obtain ⟨hm, hr⟩ := leaf_rise h4 h
   have hh : manyHead c x.a x.b x.many = true := by
    simp only [manyB, Bool.and_eq_true] at hm
    exact hm.1
   have hop := (many_rows h8 hs hp hh hr).1 hm
   have hv := fun {i : Nat} (hi : i < x.many.length) => (rise_val hr hi hi).2
   have hbet : ∀ k i, k < i → i < x.many.length → betS c d n (nth (x.many.map Int.toNat) k) (nth (x.many.map Int.toNat) i) = pairIds c d (nth (x.many.map Int.toNat) k) (nth (x.many.map Int.toNat) i) := fun k i hki hi =>
    bet_one hc hn h8 hs hp (hv (by omega)) (hv hi) (by rw [opp_parts h8 hs hp (hv (show k < x.many.length by omega)) (hv hi)]; exact hop k i hki hi)
   rw [List.mem_cons, List.mem_cons]
   refine or_congr Iff.rfl ?_
   simp only [manyS, rowS, manyIds, rowIds, List.mem_flatMap, List.mem_range, List.length_map]
   constructor
   ·rintro ⟨i, hi, k, hk, hx⟩
    exact ⟨k, by omega, i, hi, by rw [if_pos hk, ← hbet k i hk hi]; exact hx⟩
   ·rintro ⟨k, hk, i, hi, hx⟩
    split at hx
    ·rename_i hki
     exact ⟨i, hi, k, hki, by rw [hbet k i hki hi]; exact hx⟩
    ·simp at hx
  ·exact Iff.rfl
end
/-- every leaf that is come to is decided as a walk decides -/
theorem walkM_dec {c : Cs} {n : Nat} : ∀ (k : Nat) (d : Dec) (l : List Br) {r : List Br} {e : List (Dec × Br)}, SymD d → Supp d n → walkM c n k d l = some (r, e) → ∀ z ∈ e, SymD z.1 ∧ Supp z.1 n
 | 0, _, _, _, _, _, _, h => by simp [walkM] at h
 | _ + 1, _, [], _, _, _, _, h => by simp [walkM] at h
 | k + 1, d, x :: l, r, e, hs, hp, h => by
  by_cases hk : x.kind = 1
  ·rcases hsp : splitB n x with _ | _
   ·rw [walkM_no hk hsp] at h; cases h
   ·obtain ⟨⟨a, ha, han⟩, ⟨b, hb, hbn⟩⟩ := split_in hsp
    have hta : x.a.toNat = a := by rw [ha]; simp
    have htb : x.b.toNat = b := by rw [hb]; simp
    have hs1 : ∀ m, SymD (decWith d x.a.toNat x.b.toNat m) := fun m => decWith_sym hs _ _ _
    have hp1 : ∀ m, Supp (decWith d x.a.toNat x.b.toNat m) n := fun m => by rw [hta, htb]; exact supp_with hp hs han hbn
    rcases h1 : walkM c n k (decWith d x.a.toNat x.b.toNat 1) l with _ | ⟨l1, e1⟩
    ·rw [walkM_one hk hsp h1] at h; cases h
    ·rcases h2 : walkM c n k (decWith d x.a.toNat x.b.toNat 2) l1 with _ | ⟨l2, e2⟩
     ·rw [walkM_two hk hsp h1 h2] at h; cases h
     ·rw [walkM_yes hk hsp h1 h2] at h
      cases h
      intro z hz
      rcases List.mem_append.1 hz with hz | hz
      ·exact walkM_dec k _ _ (hs1 1) (hp1 1) h1 z hz
      ·exact walkM_dec k _ _ (hs1 2) (hp1 2) h2 z hz
  ·rw [walkM_leaf hk] at h
   split at h
   ·cases h
    intro z hz
    rw [List.mem_singleton.1 hz]
    exact ⟨hs, hp⟩
   ·cases h
/-- the Ids of a refutation, both ways -/
theorem uses_law {c : Cs} {d : Dec} {l : List Br} {ev : List (Dec × Br)} (hc : checkCase c = 0) (h8 : c.parts.length ≤ 8) (hs : SymD d) (hp : Supp d c.parts.length) (h : refutedB c c.parts.length d l = some ev) :
  uniqL (evS c c.parts.length ev) = withL (evIds c ev) ∧ 2 * ev.length = l.length + 1 ∧ ∀ z ∈ ev, leafB c z.1 c.parts.length z.2 = true := by
 unfold refutedB at h
 split at h
 ·cases h
 ·split at h
  ·rename_i hm
   cases h
   have h1 := walkM_ev _ _ _ hm
   have h2 := walkM_dec _ _ _ hs hp hm
   refine ⟨uniq_with fun v => ?_, by simpa using h1.1, h1.2⟩
   simp only [evS, evIds, List.mem_flatMap]
   constructor
   ·rintro ⟨z, hz, hv⟩; exact ⟨z, hz, (mem_ids hc rfl h8 (h2 z hz).1 (h2 z hz).2 (h1.2 z hz) v).1 hv⟩
   ·rintro ⟨z, hz, hv⟩; exact ⟨z, hz, (mem_ids hc rfl h8 (h2 z hz).1 (h2 z hz).2 (h1.2 z hz) v).2 hv⟩
  ·cases h
end Go.Proofs.YtpjcnkajimgagaaGreat
