/- A reassembly is known by which parts it has together; plain, no program. -/
/- Without a limit; with one reassembly alone; plain, no program. -/
/- A case that is tighter than another; a case without some of its Ids, part by part; plain, no program. -/
/- A part narrowed; a lesser Limit; who is certainly together; plain, no program. -/
import Derived.Test.YtpjcnkajimgagaaGreatMPlainA
import Derived.Test.YtpjcnkajimgagaaGreatMTable
import Derived.Test.YtpjcnkajimgagaaGreatMOpen
import Derived.Test.YtpjcnkajimgagaaGreatMUniq
set_option linter.unusedSimpArgs false
set_option linter.unusedVariables false
namespace Go.Proofs.YtpjcnkajimgagaaGreat
open Go.RowKit

theorem nth_eq' {x : List Nat} {a b : Nat} (ha : a < x.length) (hb : b < x.length) : (x[a]? == x[b]?) = (nth x a == nth x b) := by
 unfold nth
 rw [List.getElem?_eq_getElem ha, List.getElem?_eq_getElem hb]
 simp
theorem rgs_onto {x : List Nat} (g : ∀ i (h : i < x.length), x[i] ≤ manyOf (x.take i)) : ∀ i, i ≤ x.length → ∀ v, v < manyOf (x.take i) → ∃ j, j < i ∧ nth x j = v
 | 0, _, v, h => by simp [manyOf] at h
 | i + 1, hi, v, h => by
  have hx : x[i]? = some (x[i]'(by omega)) := List.getElem?_eq_getElem (by omega)
  rw [take_snoc hx, manyOf_snoc] at h
  rcases Nat.lt_or_ge v (manyOf (x.take i)) with h1 | h1
  ·obtain ⟨j, hj, e⟩ := rgs_onto g i (by omega) v h1
   exact ⟨j, by omega, e⟩
  ·have := g i (by omega)
   exact ⟨i, by omega, by rw [nth_get (by omega)]; omega⟩
theorem rgs_unique {x y : List Nat} (hl : x.length = y.length) (gx : ∀ i (h : i < x.length), x[i] ≤ manyOf (x.take i)) (gy : ∀ i (h : i < y.length), y[i] ≤ manyOf (y.take i))
  (h : ∀ a b, a < x.length → b < x.length → (nth x a = nth x b ↔ nth y a = nth y b)) : x = y := by
 have step : ∀ i, i ≤ x.length → x.take i = y.take i := by
  intro i
  induction i with
  | zero => intro _; simp
  | succ i ih =>
   intro hi
   have ih := ih (by omega)
   have hx : x[i]? = some (x[i]'(by omega)) := List.getElem?_eq_getElem (by omega)
   have hy : y[i]? = some (y[i]'(by omega)) := List.getElem?_eq_getElem (by omega)
   have same : ∀ j, j < i → nth x j = nth y j := fun j hj => by
    have := congrArg (fun l => l[j]?.getD 0) ih
    simp only [List.getElem?_take_of_lt hj] at this
    exact this
   have ux := gx i (by omega)
   have uy := gy i (by omega)
   have e : x[i]'(by omega) = y[i]'(by omega) := by
    rcases Nat.lt_or_ge (x[i]'(by omega)) (manyOf (x.take i)) with h1 | h1
    ·obtain ⟨j, hj, e⟩ := rgs_onto gx i (by omega) _ h1
     have h2 := (h j i (by omega) (by omega)).1 (by rw [e, nth_get (by omega)])
     rw [← same j hj, e, nth_get (by omega)] at h2
     exact h2
    ·rcases Nat.lt_or_ge (y[i]'(by omega)) (manyOf (y.take i)) with h3 | h3
     ·obtain ⟨j, hj, e⟩ := rgs_onto gy i (by omega) _ h3
      have h2 := (h j i (by omega) (by omega)).2 (by rw [e, nth_get (by omega)])
      rw [same j hj, e, nth_get (by omega)] at h2
      exact h2.symm
     ·rw [ih] at ux h1
      omega
   rw [take_snoc hx, take_snoc hy, ih, e]
 have := step x.length (Nat.le_refl _)
 rwa [List.take_length, hl, List.take_length] at this
theorem Reas.unique {c e : Cs} {x y : List Nat} (hx : Reas c x) (hy : Reas e y) (hl : x.length = y.length) (h : ∀ a b, a < x.length → b < x.length → (nth x a = nth x b ↔ nth y a = nth y b)) : x = y :=
 rgs_unique hl hx.grow hy.grow h
/-- the answers, by what there is -/
theorem tog_iff {c : Cs} {a b : Nat} (ha : a < c.parts.length) (hb : b < c.parts.length) : togB c.parts.length (allR c) a b = true ↔ ∃ x, Reas c x ∧ nth x a = nth x b := by
 simp only [togB, Bool.and_eq_true, decide_eq_true_eq, List.any_eq_true]
 constructor
 ·rintro ⟨_, x, hx, e⟩
  have hr := mem_allR.1 hx
  rw [nth_eq' (by rw [hr.len]; exact ha) (by rw [hr.len]; exact hb)] at e
  exact ⟨x, hr, by simpa using e⟩
 ·rintro ⟨x, hr, e⟩
  exact ⟨⟨ha, hb⟩, x, mem_allR.2 hr, by rw [nth_eq' (by rw [hr.len]; exact ha) (by rw [hr.len]; exact hb)]; simpa using e⟩
theorem apt_iff {c : Cs} {a b : Nat} (ha : a < c.parts.length) (hb : b < c.parts.length) : aptB c.parts.length (allR c) a b = true ↔ ∃ x, Reas c x ∧ nth x a ≠ nth x b := by
 simp only [aptB, Bool.and_eq_true, decide_eq_true_eq, List.any_eq_true]
 constructor
 ·rintro ⟨_, x, hx, e⟩
  have hr := mem_allR.1 hx
  rw [bne, nth_eq' (by rw [hr.len]; exact ha) (by rw [hr.len]; exact hb)] at e
  exact ⟨x, hr, by simpa using e⟩
 ·rintro ⟨x, hr, e⟩
  exact ⟨⟨ha, hb⟩, x, mem_allR.2 hr, by rw [bne, nth_eq' (by rw [hr.len]; exact ha) (by rw [hr.len]; exact hb)]; simpa using e⟩
end Go.Proofs.YtpjcnkajimgagaaGreat
namespace Go.Proofs.YtpjcnkajimgagaaGreat
open Go.RowKit

theorem free_reas {c : Cs} {z : Nat → Nat} (hl : c.limit ≤ 0) (h : ∀ p q, p < c.parts.length → q < c.parts.length → clashB c p q = true → z p ≠ z q) : ∃ x, Reas c x ∧ ∀ a b, a < c.parts.length → b < c.parts.length → (nth x a = nth x b ↔ z a = z b) :=
 GoodZ.reas ⟨h, fun h => by omega⟩
theorem free_some {c : Cs} (hl : c.limit ≤ 0) : (allR c).isEmpty = false := by
 obtain ⟨x, hx, _⟩ := free_reas (z := fun a => a) hl (fun p q _ _ h => clashB_ne h)
 rcases h : allR c with _ | _
 ·have := mem_allR.2 hx; rw [h] at this; simp at this
 ·rfl
theorem ans_iff (c : Cs) (a b : Nat) : ansAt c a b = if aptB c.parts.length (allR c) a b then (if togB c.parts.length (allR c) a b then 3 else 2) else 1 := rfl
theorem free_ans {c : Cs} (hl : c.limit ≤ 0) {a b : Nat} (ha : a < c.parts.length) (hb : b < c.parts.length) : ansAt c a b = if a = b then 1 else if clashB c a b then 2 else 3 := by
 rw [ans_iff]
 by_cases hab : a = b
 ·subst hab
  rw [if_pos rfl, if_neg (fun h => by obtain ⟨x, _, e⟩ := (apt_iff ha hb).1 h; exact e rfl)]
 ·rw [if_neg hab]
  have h1 : aptB c.parts.length (allR c) a b = true := by
   obtain ⟨x, hx, hi⟩ := free_reas (z := fun a => a) hl (fun p q _ _ h => clashB_ne h)
   exact (apt_iff ha hb).2 ⟨x, hx, fun e => hab ((hi a b ha hb).1 e)⟩
  rw [if_pos h1]
  rcases hc : clashB c a b with _ | _
  ·rw [if_neg Bool.false_ne_true]
   obtain ⟨x, hx, hi⟩ := free_reas (c := c) (z := fun i => if i = b then a else i) hl (fun p q _ _ h e => by
    split at e <;> split at e
    ·rename_i h1 h2; exact clashB_ne h (h1.trans h2.symm)
    ·rename_i h1 h2; subst h1; subst e; rw [clashB_sym, hc] at h; cases h
    ·rename_i h1 h2; subst h2; subst e; rw [hc] at h; cases h
    ·exact clashB_ne h e)
   rw [if_pos ((tog_iff ha hb).2 ⟨x, hx, (hi a b ha hb).2 (by simp)⟩)]
  ·rw [if_pos (rfl : true = true), if_neg (fun h => by
    obtain ⟨x, hx, e⟩ := (tog_iff ha hb).1 h
    exact hx.good.clash a b ha hb hc e)]
theorem allGo_nodup (c : Cs) : ∀ (r : Nat) (pre : List Nat), (allGo c r pre).Nodup
 | 0, pre => by simp [allGo]
 | r + 1, pre => by
  rw [allGo, List.Nodup, List.pairwise_flatMap]
  refine ⟨fun v _ => ?_, ?_⟩
  ·split
   ·exact allGo_nodup c r _
   ·exact List.Pairwise.nil
  ·refine List.Pairwise.imp (fun {u v} huv x hx y hy e => ?_) (List.nodup_range (n := manyOf pre + 1))
   subst e
   split at hx
   ·split at hy
    ·obtain ⟨e1, h1, _⟩ := (mem_allGo c r _ x).1 hx
     obtain ⟨e2, h2, _⟩ := (mem_allGo c r _ x).1 hy
     have h3 := h1.symm.trans h2
     rw [List.append_assoc, List.append_assoc] at h3
     have h4 := List.append_cancel_left h3
     simp at h4
     exact huv h4.1
    ·simp at hy
   ·simp at hx
theorem allR_nodup (c : Cs) : (allR c).Nodup := allGo_nodup c _ _
/-- just one reassembly: no pair is open -/
theorem one_open {c : Cs} (hne : (allR c).isEmpty = false) : (allR c).length = 1 ↔ ∀ a b, a < c.parts.length → b < c.parts.length → a < b → ansAt c a b ≠ 3 := by
 constructor
 ·intro h a b ha hb _ e
  rw [ans_iff] at e
  split at e
  ·rename_i h1
   split at e
   ·rename_i h2
    obtain ⟨x, hx, e1⟩ := (apt_iff ha hb).1 h1
    obtain ⟨y, hy, e2⟩ := (tog_iff ha hb).1 h2
    have hx' := mem_allR.2 hx
    have hy' := mem_allR.2 hy
    obtain ⟨z, hz⟩ := List.length_eq_one_iff.1 h
    rw [hz, List.mem_singleton] at hx' hy'
    rw [hx'] at e1
    rw [hy'] at e2
    exact e1 e2
   ·cases e
  ·cases e
 ·intro h
  rcases hr : allR c with _ | ⟨x, _ | ⟨y, l⟩⟩
  ·rw [hr] at hne; cases hne
  ·rfl
  ·exfalso
   have hx := mem_allR.1 (show x ∈ allR c by rw [hr]; simp)
   have hy := mem_allR.1 (show y ∈ allR c by rw [hr]; simp)
   have hnd := allR_nodup c
   rw [hr] at hnd
   have hxy : x ≠ y := fun e => (List.nodup_cons.1 hnd).1 (by rw [e]; simp)
   refine hxy (hx.unique hy (hx.len.trans hy.len.symm) fun a b ha hb => ?_)
   rw [hx.len] at ha hb
   have key : ∀ a b, a < c.parts.length → b < c.parts.length → a < b → (nth x a = nth x b ↔ nth y a = nth y b) := by
    intro a b ha hb hlt
    have h1 := h a b ha hb hlt
    rw [ans_iff] at h1
    by_cases e1 : nth x a = nth x b <;> by_cases e2 : nth y a = nth y b
    ·exact ⟨fun _ => e2, fun _ => e1⟩
    ·rw [if_pos ((apt_iff ha hb).2 ⟨y, hy, e2⟩), if_pos ((tog_iff ha hb).2 ⟨x, hx, e1⟩)] at h1
     exact absurd rfl h1
    ·rw [if_pos ((apt_iff ha hb).2 ⟨x, hx, e1⟩), if_pos ((tog_iff ha hb).2 ⟨y, hy, e2⟩)] at h1
     exact absurd rfl h1
    ·exact ⟨fun e => absurd e e1, fun e => absurd e e2⟩
   rcases Nat.lt_trichotomy a b with hlt | rfl | hlt
   ·exact key a b ha hb hlt
   ·simp
   ·have := key b a hb ha hlt
    exact ⟨fun e => (this.1 e.symm).symm, fun e => (this.2 e.symm).symm⟩
end Go.Proofs.YtpjcnkajimgagaaGreat
namespace Go.Proofs.YtpjcnkajimgagaaGreat
open Go.RowKit

/-- d lets less be than c -/
structure Tight (c d : Cs) : Prop where
 len : d.parts.length = c.parts.length
 clash : ∀ a b, a < c.parts.length → b < c.parts.length → clashB c a b = true → clashB d a b = true
 lim : 0 < c.limit → 0 < d.limit ∧ d.limit ≤ c.limit
section
variable {c d : Cs}
theorem Tight.reas (T : Tight c d) {x : List Nat} (h : Reas d x) : Reas c x := by
 refine ⟨h.len.trans T.len, h.grow, fun p q hp hq e => ?_, fun v hv => ?_⟩
 ·rcases hc : clashB c p q with _ | _
  ·rfl
  ·have hl := h.len
   rw [T.len] at hl
   have := h.apart p q hp hq e
   rw [T.clash p q (by omega) (by omega) hc] at this
   cases this
 ·have h1 := h.lim v hv
  simp [limB] at h1 ⊢
  by_cases h2 : 0 < c.limit
  ·have := T.lim h2; omega
  ·omega
theorem Tight.ans (T : Tight c d) (hne : (allR d).isEmpty = false) {a b : Nat} (ha : a < c.parts.length) (hb : b < c.parts.length) (h : ansAt c a b ≠ 3) : ansAt d a b = ansAt c a b := by
 have ha' : a < d.parts.length := by rw [T.len]; exact ha
 have hb' : b < d.parts.length := by rw [T.len]; exact hb
 rw [ans_iff, ans_iff]
 rw [ans_iff] at h
 by_cases h1 : aptB c.parts.length (allR c) a b = true
 ·rw [if_pos h1] at h ⊢
  have h2 : ¬ togB c.parts.length (allR c) a b = true := fun k => by rw [if_pos k] at h; exact h rfl
  have h3 : ¬ togB d.parts.length (allR d) a b = true := fun k => by
   obtain ⟨x, hx, e⟩ := (tog_iff ha' hb').1 k
   exact h2 ((tog_iff ha hb).2 ⟨x, T.reas hx, e⟩)
  have h4 : aptB d.parts.length (allR d) a b = true := by
   rcases hr : allR d with _ | ⟨x, l⟩
   ·rw [hr] at hne; cases hne
   ·have hx := mem_allR.1 (show x ∈ allR d by rw [hr]; simp)
    rw [← hr]
    exact (apt_iff ha' hb').2 ⟨x, hx, fun e => h3 ((tog_iff ha' hb').2 ⟨x, hx, e⟩)⟩
  rw [if_neg h2, if_pos h4, if_neg h3]
 ·have h4 : ¬ aptB d.parts.length (allR d) a b = true := fun k => by
   obtain ⟨x, hx, e⟩ := (apt_iff ha' hb').1 k
   exact h1 ((apt_iff ha hb).2 ⟨x, T.reas hx, e⟩)
  rw [if_neg h1, if_neg h4]
theorem Tight.open_ (T : Tight c d) (hne : (allR d).isEmpty = false) {a b : Nat} (ha : a < c.parts.length) (hb : b < c.parts.length) (h : ansAt d a b = 3) : ansAt c a b = 3 := by
 refine Classical.byContradiction fun k => ?_
 rw [T.ans hne ha hb k] at h
 exact k h
theorem Tight.some_ (T : Tight c d) (hne : (allR d).isEmpty = false) : (allR c).isEmpty = false := by
 rcases hr : allR d with _ | ⟨x, l⟩
 ·rw [hr] at hne; cases hne
 ·have hx := mem_allR.2 (T.reas (mem_allR.1 (show x ∈ allR d by rw [hr]; simp)))
  rcases hc : allR c with _ | _
  ·rw [hc] at hx; simp at hx
  ·rfl
end
def valP (j : Nat) (p : Prt) : Int := if j = 0 then p.span.lowBy else if j = 1 then p.span.highBy else p.footBy
def stepP (gone : Int → Bool) (j : Nat) (p : Prt) : Prt := if hitB gone (valP j p) then clearP j p else p
def woutP (gone : Int → Bool) (p : Prt) : Prt := stepP gone 2 (stepP gone 1 (stepP gone 0 p))
theorem modify_at {α : Type} {l : List α} {i : Nat} {x : α} (h : l[i]? = some x) {f g : α → α} (hf : f x = g x) : l.modify i f = l.modify i g := by
 apply List.ext_getElem?
 intro k
 rw [List.getElem?_modify, List.getElem?_modify]
 by_cases e : i = k
 ·subst e; rw [h]; simp [hf]
 ·simp [e]
theorem modify_same {α : Type} {l : List α} {i : Nat} {x : α} (h : l[i]? = some x) {f : α → α} (hf : f x = x) : l.modify i f = l := by
 apply List.ext_getElem?
 intro k
 rw [List.getElem?_modify]
 by_cases e : i = k
 ·subst e; rw [h]; simp [hf]
 ·simp [e]
theorem stepC_part (gone : Int → Bool) {c : Cs} {i j : Nat} {p : Prt} (h : c.parts[i]? = some p) (hj : j < 3) : stepC gone c (i, j) = { c with parts := c.parts.modify i (stepP gone j) } := by
 have hv : byVal c (i, j) = valP j p := by
  simp only [byVal, valP, h]
  rw [if_neg (by omega)]
 unfold stepC
 rw [hv]
 split
 ·rename_i hh
  unfold clearC
  simp only
  rw [if_neg (by omega), modify_at h (f := clearP j) (g := stepP gone j) (by simp [stepP, hh])]
 ·rename_i hh
  rw [modify_same h (by simp [stepP, hh])]
theorem modify_mid {α : Type} (f : α → α) (q : α) (B : List α) : ∀ (A : List α) (i : Nat), A.length = i → (A ++ q :: B).modify i f = A ++ f q :: B
 | [], i, h => by subst h; rfl
 | a :: A, i, h => by
  subst h
  have := modify_mid f q B A A.length rfl
  simp [List.modify_succ_cons, this]
theorem fold_to (gone : Int → Bool) (c : Cs) : ∀ i, i ≤ c.parts.length → foldC gone c (bysTo i) = { c with parts := (c.parts.take i).map (woutP gone) ++ c.parts.drop i }
 | 0, _ => by simp [foldC, bysTo]
 | i + 1, hi => by
  have ih := fold_to gone c i (by omega)
  obtain ⟨p, hp⟩ := get_of_lt c.parts (k := i) (by omega)
  have hd : c.parts.drop i = p :: c.parts.drop (i + 1) := by
   rw [List.drop_eq_getElem_cons (by omega)]
   congr 1
   exact (List.getElem?_eq_some_iff.1 hp).2
  have hlen : ((c.parts.take i).map (woutP gone)).length = i := by simp; omega
  have at_ : ∀ q : Prt, ((c.parts.take i).map (woutP gone) ++ q :: c.parts.drop (i + 1))[i]? = some q := fun q => by
   rw [List.getElem?_append_right (by omega), hlen]; simp
  have mod : ∀ (q : Prt) (f : Prt → Prt), ((c.parts.take i).map (woutP gone) ++ q :: c.parts.drop (i + 1)).modify i f = (c.parts.take i).map (woutP gone) ++ f q :: c.parts.drop (i + 1) := fun q f => by
   exact modify_mid f q _ _ i hlen
  have e : bysTo (i + 1) = bysTo i ++ [(i, 0)] ++ [(i, 1)] ++ [(i, 2)] := by rw [bysTo_succ]; simp [partItems]
  rw [e, foldC_snoc, foldC_snoc, foldC_snoc, ih, hd]
  rw [stepC_part (j := 0) gone (at_ p) (by omega)]
  simp only [mod]
  rw [stepC_part (j := 1) gone (at_ _) (by omega)]
  simp only [mod]
  rw [stepC_part (j := 2) gone (at_ _) (by omega)]
  simp only [mod]
  rw [take_snoc hp, List.map_append, List.append_assoc]
  rfl
theorem woutC_eq (gone : Int → Bool) (c : Cs) : woutC gone c = { ware := c.ware, limit := if hitB gone c.by_ then 0 else c.limit, by_ := if hitB gone c.by_ then 0 else c.by_, parts := c.parts.map (woutP gone) } := by
 unfold woutC
 rw [bysList, foldC_snoc, fold_to gone c _ (Nat.le_refl _), List.take_length, List.drop_length, List.append_nil]
 unfold stepC
 have hv : byVal { c with parts := c.parts.map (woutP gone) } (c.parts.length, 3) = c.by_ := by simp [byVal]
 rw [hv]
 split
 ·simp [clearC]
 ·rfl
theorem woutP_eq (gone : Int → Bool) (p : Prt) : woutP gone p = ⟨p.sherds, ⟨if hitB gone p.span.lowBy then 0 else p.span.low, if hitB gone p.span.highBy then 1000 else p.span.high, if hitB gone p.span.lowBy then 0 else p.span.lowBy, if hitB gone p.span.highBy then 0 else p.span.highBy⟩,
  if hitB gone p.footBy then false else p.foot, if hitB gone p.footBy then 0 else p.footBy, p.rests⟩ := by
 unfold woutP
 rcases h0 : hitB gone p.span.lowBy with _ | _ <;> rcases h1 : hitB gone p.span.highBy with _ | _ <;> rcases h2 : hitB gone p.footBy with _ | _ <;>
  simp [stepP, valP, clearP, h0, h1, h2]
theorem okSpn_of {p : Prt} (h : isPartB p = true) : 0 ≤ p.span.low ∧ p.span.low ≤ p.span.high ∧ p.span.high ≤ 1000 := by
 simp [isPartB, okSpn] at h
 omega
theorem woutP_part (gone : Int → Bool) {p : Prt} (h : isPartB p = true) : isPartB (woutP gone p) = true := by
 rw [woutP_eq]
 simp only [isPartB, Bool.and_eq_true] at h ⊢
 obtain ⟨⟨⟨⟨⟨⟨⟨h1, h2⟩, h3⟩, h4⟩, h5⟩, h6⟩, h7⟩, h8⟩ := h
 simp only [okSpn, Bool.and_eq_true, decide_eq_true_eq] at h5
 refine ⟨⟨⟨⟨⟨⟨⟨h1, h2⟩, h3⟩, h4⟩, ?_⟩, ?_⟩, ?_⟩, ?_⟩
 ·simp only [okSpn, Bool.and_eq_true, decide_eq_true_eq]
  refine ⟨⟨?_, ?_⟩, ?_⟩ <;> (try split) <;> (try split) <;> omega
 ·split
  ·simp [byB, inB]
  ·exact h6
 ·split
  ·simp [byB, inB]
  ·exact h7
 ·split
  ·simp [byB, inB]
  ·exact h8
theorem clash_wout (gone : Int → Bool) {p q : Prt} {x y : Nat} (hp : isPartB p = true) (hq : isPartB q = true) (h : clashP x y (woutP gone p) (woutP gone q) = true) : clashP x y p q = true := by
 have a := okSpn_of hp
 have b := okSpn_of hq
 rw [woutP_eq, woutP_eq] at h
 simp only [clashP, feetB, Bool.and_eq_true, Bool.or_eq_true, decide_eq_true_eq, bne_iff_ne] at h ⊢
 obtain ⟨h1, h2⟩ := h
 refine ⟨h1, ?_⟩
 rcases h2 with (⟨f1, f2⟩ | h2) | h2
 ·refine .inl (.inl ⟨?_, ?_⟩)
  ·split at f1
   ·cases f1
   ·exact f1
  ·split at f2
   ·cases f2
   ·exact f2
 ·refine .inl (.inr ?_)
  split at h2 <;> split at h2 <;> omega
 ·refine .inr ?_
  split at h2 <;> split at h2 <;> omega
theorem check_okCase {c : Cs} (h : checkCase c = 0) : c.parts.length ≤ 8 ∧ ok0 c = true ∧ (∀ p ∈ c.parts, isPartB p = true) ∧ noDup (allIds c.parts) = true := by
 unfold checkCase at h
 split at h
 ·cases h
 ·split at h
  ·rename_i h1
   simp only [okCase, Bool.and_eq_true, List.all_eq_true] at h1
   exact ⟨by omega, h1.1.1, h1.1.2, h1.2⟩
  ·cases h
theorem okCase_check {c : Cs} (h8 : c.parts.length ≤ 8) (h0 : ok0 c = true) (h1 : ∀ p ∈ c.parts, isPartB p = true) (h2 : noDup (allIds c.parts) = true) : checkCase c = 0 := by
 unfold checkCase
 rw [if_neg (by omega), if_pos]
 simp only [okCase, Bool.and_eq_true, List.all_eq_true]
 exact ⟨⟨h0, h1⟩, h2⟩
theorem woutC_check (gone : Int → Bool) {c : Cs} (h : checkCase c = 0) : checkCase (woutC gone c) = 0 := by
 obtain ⟨h8, h0, h1, h2⟩ := check_okCase h
 rw [woutC_eq]
 refine okCase_check (by simpa using h8) ?_ (fun p hp => ?_) ?_
 ·simp only [ok0, Bool.and_eq_true] at h0 ⊢
  refine ⟨⟨h0.1.1, ?_⟩, ?_⟩
  ·split
   ·rfl
   ·exact h0.1.2
  ·split
   ·simp [byB, inB]
   ·exact h0.2
 ·simp only [List.mem_map] at hp
  obtain ⟨q, hq, rfl⟩ := hp
  exact woutP_part gone (h1 q hq)
 ·have : allIds (c.parts.map (woutP gone)) = allIds c.parts := by
   simp only [allIds, List.flatMap_map]
   congr 1
   funext p
   rw [woutP_eq]
  rw [this]; exact h2
theorem clashB_at {c : Cs} {a b : Nat} {p q : Prt} (ha : c.parts[a]? = some p) (hb : c.parts[b]? = some q) : clashB c a b = clashP a b p q := clashB_eq ha hb
theorem wout_tight (gone : Int → Bool) {c : Cs} (h : checkCase c = 0) : Tight (woutC gone c) c := by
 obtain ⟨_, _, h1, _⟩ := check_okCase h
 rw [woutC_eq]
 refine ⟨by simp, fun a b ha hb k => ?_, fun hl => ?_⟩
 ·simp only [List.length_map] at ha hb
  obtain ⟨p, hp⟩ := get_of_lt c.parts ha
  obtain ⟨q, hq⟩ := get_of_lt c.parts hb
  rw [clashB_at (p := woutP gone p) (q := woutP gone q) (by simp [hp]) (by simp [hq])] at k
  rw [clashB_at hp hq]
  exact clash_wout gone (h1 p (List.mem_of_getElem? hp)) (h1 q (List.mem_of_getElem? hq)) k
 ·by_cases hh : hitB gone c.by_ = true
  ·simp [hh] at hl
  ·simp [hh] at hl ⊢
   omega
end Go.Proofs.YtpjcnkajimgagaaGreat
namespace Go.Proofs.YtpjcnkajimgagaaGreat
open Go.RowKit

def narrowP (low high id : Int) (p : Prt) : Prt :=
 { p with span := ⟨if p.span.low < low then low else p.span.low, if high < p.span.high then high else p.span.high, if p.span.low < low then id else p.span.lowBy, if high < p.span.high then id else p.span.highBy⟩ }
def narrowC (c : Cs) (i : Nat) (low high id : Int) : Cs := { c with parts := c.parts.modify i (narrowP low high id) }
theorem narrowP_part {p : Prt} {low high id : Int} (h : isPartB p = true) (h1 : 0 ≤ low) (h2 : high ≤ 1000) (h3 : 1 ≤ id ∧ id ≤ 1000000) (h4 : (narrowP low high id p).span.low ≤ (narrowP low high id p).span.high) : isPartB (narrowP low high id p) = true := by
 simp only [isPartB, Bool.and_eq_true] at h ⊢
 obtain ⟨⟨⟨⟨⟨⟨⟨a1, a2⟩, a3⟩, a4⟩, a5⟩, a6⟩, a7⟩, a8⟩ := h
 simp only [okSpn, Bool.and_eq_true, decide_eq_true_eq] at a5
 refine ⟨⟨⟨⟨⟨⟨⟨a1, a2⟩, a3⟩, a4⟩, ?_⟩, ?_⟩, ?_⟩, a8⟩
 ·simp only [okSpn, Bool.and_eq_true, decide_eq_true_eq]
  refine ⟨⟨?_, h4⟩, ?_⟩
  ·simp only [narrowP]; split <;> omega
  ·simp only [narrowP]; split <;> omega
 ·simp only [narrowP]
  split
  ·simp [byB, inB]; omega
  ·exact a6
 ·simp only [narrowP]
  split
  ·simp [byB, inB]; omega
  ·exact a7
theorem narrow_at {c : Cs} {i a : Nat} {low high id : Int} {p : Prt} (ha : c.parts[a]? = some p) : (narrowC c i low high id).parts[a]? = some (if i = a then narrowP low high id p else p) := by
 simp only [narrowC, List.getElem?_modify, ha]
 split <;> simp
theorem narrow_check {c : Cs} {i : Nat} {low high id : Int} {p : Prt} (h : checkCase c = 0) (hp : c.parts[i]? = some p) (h1 : 0 ≤ low) (h2 : high ≤ 1000) (h3 : 1 ≤ id ∧ id ≤ 1000000)
  (h4 : (narrowP low high id p).span.low ≤ (narrowP low high id p).span.high) : checkCase (narrowC c i low high id) = 0 := by
 obtain ⟨h8, k0, k1, k2⟩ := check_okCase h
 refine okCase_check (by simpa [narrowC] using h8) k0 (fun q hq => ?_) ?_
 ·obtain ⟨a, hal, rfl⟩ := List.getElem_of_mem hq
  have hal' : a < c.parts.length := by simpa [narrowC] using hal
  obtain ⟨r, hr⟩ := get_of_lt c.parts hal'
  have e := narrow_at (i := i) (low := low) (high := high) (id := id) hr
  rw [List.getElem?_eq_getElem hal] at e
  rw [Option.some.inj e]
  split
  ·rename_i hia
   subst hia
   rw [hp] at hr; cases hr
   exact narrowP_part (k1 p (List.mem_of_getElem? hp)) h1 h2 h3 h4
  ·exact k1 r (List.mem_of_getElem? hr)
 ·have e : allIds (narrowC c i low high id).parts = allIds c.parts := by
   simp only [allIds, narrowC, List.flatMap_def]
   congr 1
   apply List.ext_getElem?
   intro k
   rw [List.getElem?_map, List.getElem?_map, List.getElem?_modify]
   rcases c.parts[k]? with _ | r
   ·rfl
   ·simp only [Option.map_eq_map, Option.map_some]
    split <;> rfl
  rw [e]; exact k2
theorem narrow_tight (c : Cs) (i : Nat) (low high id : Int) : Tight c (narrowC c i low high id) := by
 refine ⟨by simp [narrowC], fun a b ha hb k => ?_, fun hl => ⟨hl, Int.le_refl _⟩⟩
 obtain ⟨p, hp⟩ := get_of_lt c.parts ha
 obtain ⟨q, hq⟩ := get_of_lt c.parts hb
 rw [clashB_at hp hq] at k
 rw [clashB_at (narrow_at hp) (narrow_at hq)]
 simp only [clashP, feetB, Bool.and_eq_true, Bool.or_eq_true, decide_eq_true_eq, bne_iff_ne] at k ⊢
 obtain ⟨k1, k2⟩ := k
 have lo : ∀ r : Prt, r.span.low ≤ (narrowP low high id r).span.low := fun r => by simp only [narrowP]; split <;> omega
 have hi : ∀ r : Prt, (narrowP low high id r).span.high ≤ r.span.high := fun r => by simp only [narrowP]; split <;> omega
 have ft : ∀ r : Prt, (narrowP low high id r).foot = r.foot := fun r => rfl
 have lo' : ∀ (r : Prt) (j : Nat), r.span.low ≤ (if i = j then narrowP low high id r else r).span.low := fun r j => by
  split
  ·exact lo r
  ·exact Int.le_refl _
 have hi' : ∀ (r : Prt) (j : Nat), (if i = j then narrowP low high id r else r).span.high ≤ r.span.high := fun r j => by
  split
  ·exact hi r
  ·exact Int.le_refl _
 have ft' : ∀ (r : Prt) (j : Nat), (if i = j then narrowP low high id r else r).foot = r.foot := fun r j => by split <;> rfl
 rw [ft', ft']
 refine ⟨k1, ?_⟩
 have l1 := lo' p a
 have l2 := lo' q b
 have u1 := hi' p a
 have u2 := hi' q b
 rcases k2 with (k2 | k2) | k2
 ·exact .inl (.inl k2)
 ·exact .inl (.inr (by omega))
 ·exact .inr (by omega)
/-- with a lesser Limit -/
theorem limit_check {c : Cs} {m : Int} (h : checkCase c = 0) (h1 : 0 < m) (h2 : m ≤ 40) : checkCase { c with limit := m } = 0 := by
 obtain ⟨h8, k0, k1, k2⟩ := check_okCase h
 refine okCase_check h8 ?_ k1 k2
 simp only [ok0, Bool.and_eq_true] at k0 ⊢
 refine ⟨⟨k0.1.1, by simp [inB]; omega⟩, ?_⟩
 have := k0.2
 simp [byB, inB] at this ⊢
 omega
theorem limit_tight {c : Cs} {m : Int} (h1 : 0 < m) (h2 : c.limit ≤ 0 ∨ m < c.limit) : Tight c { c with limit := m } :=
 ⟨rfl, fun _ _ _ _ k => k, fun hl => ⟨h1, by simp only; omega⟩⟩
/-- certainly together -/
theorem ans_one {c : Cs} {a b : Nat} (ha : a < c.parts.length) (hb : b < c.parts.length) : ansAt c a b = 1 ↔ ∀ x, Reas c x → nth x a = nth x b := by
 rw [ans_iff]
 by_cases h : aptB c.parts.length (allR c) a b = true
 ·rw [if_pos h]
  obtain ⟨x, hx, e⟩ := (apt_iff ha hb).1 h
  constructor
  ·intro k; split at k <;> cases k
  ·intro k; exact absurd (k x hx) e
 ·rw [if_neg h]
  exact ⟨fun _ x hx => Classical.byContradiction fun e => h ((apt_iff ha hb).2 ⟨x, hx, e⟩), fun _ => rfl⟩
theorem ans_refl {c : Cs} {a : Nat} (ha : a < c.parts.length) : ansAt c a a = 1 := (ans_one ha ha).2 fun _ _ => rfl
theorem ans_congr {c : Cs} {a b a' b' : Nat} (ha : a < c.parts.length) (hb : b < c.parts.length) (ha' : a' < c.parts.length) (hb' : b' < c.parts.length) (h : ∀ x, Reas c x → (nth x a = nth x b ↔ nth x a' = nth x b')) : ansAt c a b = ansAt c a' b' := by
 have h1 : togB c.parts.length (allR c) a b = togB c.parts.length (allR c) a' b' := by
  rw [Bool.eq_iff_iff, tog_iff ha hb, tog_iff ha' hb']
  exact ⟨fun ⟨x, hx, e⟩ => ⟨x, hx, (h x hx).1 e⟩, fun ⟨x, hx, e⟩ => ⟨x, hx, (h x hx).2 e⟩⟩
 have h2 : aptB c.parts.length (allR c) a b = aptB c.parts.length (allR c) a' b' := by
  rw [Bool.eq_iff_iff, apt_iff ha hb, apt_iff ha' hb']
  exact ⟨fun ⟨x, hx, e⟩ => ⟨x, hx, fun k => e ((h x hx).2 k)⟩, fun ⟨x, hx, e⟩ => ⟨x, hx, fun k => e ((h x hx).1 k)⟩⟩
 rw [ans_iff, ans_iff, h1, h2]
theorem ans_symm {c : Cs} {a b : Nat} (ha : a < c.parts.length) (hb : b < c.parts.length) : ansAt c a b = ansAt c b a := ans_congr ha hb hb ha fun _ _ => ⟨fun e => e.symm, fun e => e.symm⟩
theorem ans_row {c : Cs} {a b x : Nat} (ha : a < c.parts.length) (hb : b < c.parts.length) (hx : x < c.parts.length) (h : ansAt c a b = 1) : ansAt c a x = ansAt c b x :=
 ans_congr ha hx hb hx fun y hy => by rw [(ans_one ha hb).1 h y hy]
/-- what two looks say -/
theorem with_isSome {c : Cs} {a b : Nat} {t : Bool} (ha : a < c.parts.length) (hb : b < c.parts.length) : ((allR c).find? (asPair a b t)).isSome = if t then togB c.parts.length (allR c) a b else aptB c.parts.length (allR c) a b := by
 rw [Bool.eq_iff_iff, List.find?_isSome]
 have key : ∀ x, Reas c x → (asPair a b t x = true ↔ (nth x a == nth x b) = t) := fun x hx => by
  rw [asPair, nth_eq' (by rw [hx.len]; exact ha) (by rw [hx.len]; exact hb), beq_iff_eq]
 cases t
 ·simp only [Bool.false_eq_true, if_false]
  rw [apt_iff ha hb]
  exact ⟨fun ⟨x, hx, e⟩ => ⟨x, mem_allR.1 hx, by simpa using (key x (mem_allR.1 hx)).1 e⟩, fun ⟨x, hx, e⟩ => ⟨x, mem_allR.2 hx, (key x hx).2 (by simpa using e)⟩⟩
 ·simp only [if_true]
  rw [tog_iff ha hb]
  exact ⟨fun ⟨x, hx, e⟩ => ⟨x, mem_allR.1 hx, by simpa using (key x (mem_allR.1 hx)).1 e⟩, fun ⟨x, hx, e⟩ => ⟨x, mem_allR.2 hx, (key x hx).2 (by simpa using e)⟩⟩
end Go.Proofs.YtpjcnkajimgagaaGreat
