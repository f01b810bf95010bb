/- Chapter 4, plain: words of classes, types and rings. No program. -/
/- Chapter 4, plain: words of classes, types and rings. No program. -/
/- Chapter 4, plain: words of classes, types and rings. No program. -/
/- Chapter 4, plain: words of classes, types and rings. No program. -/
/- Chapter 4, plain: words of classes, types and rings. No program. -/
/- Chapter 4, plain: words of classes, types and rings. No program. -/
/- Chapter 4, plain: words of classes, types and rings. No program. -/
/- Chapter 4, plain: words of classes, types and rings. No program. -/
/- Chapter 4, plain: words of classes, types and rings. No program. -/
/- Chapter 4, plain: words of classes, types and rings. No program. -/
/- Chapter 4, plain: words of classes, types and rings. No program. -/
/- Chapter 4, plain: words of classes, types and rings. No program. -/
import Derived.WalkKit
set_option linter.unusedSimpArgs false
set_option linter.unusedVariables false
namespace Go.Proofs.YthpjffhccjlnhaaGreatDoor
/-! Words of classes: what the chapter's types say, in plain lists. -/
abbrev CS := Nat → Bool
def any26 (p : CS) : Bool := (List.range 26).any p
theorem any26_iff {p : CS} : any26 p = true ↔ ∃ c, c < 26 ∧ p c = true := by simp [any26]
theorem any26_false {p : CS} : any26 p = false ↔ ∀ c, c < 26 → p c = false := by simp [any26]
structure Kd where
 rim : CS
 base : CS
 after : Nat → CS

section
variable (K : Kd) (m : Nat) (cut : Nat → CS) (least : Int)
/-- a word may end so: r places are left behind -/
def stopB (r : Nat) (c : Nat) : Bool := decide (least ≤ ((m - r : Nat) : Int)) && K.base c
/-- the classes from which a profile can still be ended, r places being left (this one counted) -/
def endsR : Nat → CS
 | 0 => fun _ => false
 | r + 1 => fun c => cut (m - (r + 1)) c && (stopB K m least r c || any26 fun d => K.after c d && endsR r d)
/-- all words that fit, in order -/
def fitL : Nat → CS → List (List Nat)
 | 0, _ => []
 | r + 1, now => ((List.range 26).filter fun c => now c && cut (m - (r + 1)) c).flatMap fun c => (if stopB K m least r c then [[c]] else []) ++ (fitL r (K.after c)).map (c :: ·)
/-- the first class of a set -/
def firstC (s : CS) : Option Nat := (List.range 26).find? s
/-- the first word, greedily; the classes at hand are those from which it can be ended -/
def wordR : Nat → CS → List Nat
 | 0, _ => []
 | r + 1, now => match firstC now with
  | none => []
  | some c => c :: if stopB K m least r c then [] else wordR r (fun d => K.after c d && endsR K m cut least r d)
/-- the classes at each place, forward -/
def reachP (f : Nat → CS → CS) : Nat → CS
 | 0 => K.rim
 | p + 1 => fun d => any26 fun c => f p (reachP f p) c && K.after c d
end

theorem flatMap_ne_nil {α β : Type} {l : List α} {f : α → List β} : l.flatMap f ≠ [] ↔ ∃ a ∈ l, f a ≠ [] := by
 simp [List.flatMap_eq_nil_iff]

section
variable {K : Kd} {m : Nat} {cut : Nat → CS} {least : Int}
theorem mem_fitL_succ {r : Nat} {now : CS} {w : List Nat} : w ∈ fitL K m cut least (r + 1) now ↔
  ∃ c, c < 26 ∧ now c = true ∧ cut (m - (r + 1)) c = true ∧ ((w = [c] ∧ stopB K m least r c = true) ∨ ∃ v, v ∈ fitL K m cut least r (K.after c) ∧ w = c :: v) := by
 simp only [fitL, List.mem_flatMap, List.mem_filter, List.mem_range, List.mem_append, List.mem_map, Bool.and_eq_true]
 constructor
 ·rintro ⟨c, ⟨h1, h2, h3⟩, h4 | ⟨v, h4, rfl⟩⟩
  ·split at h4
   ·simp at h4; exact ⟨c, h1, h2, h3, .inl ⟨h4, by assumption⟩⟩
   ·simp at h4
  ·exact ⟨c, h1, h2, h3, .inr ⟨v, h4, rfl⟩⟩
 ·rintro ⟨c, h1, h2, h3, ⟨rfl, h5⟩ | ⟨v, h4, rfl⟩⟩
  ·exact ⟨c, ⟨h1, h2, h3⟩, .inl (by simp [h5])⟩
  ·exact ⟨c, ⟨h1, h2, h3⟩, .inr ⟨v, h4, rfl⟩⟩
theorem ends_iff (r : Nat) (c : Nat) (hc : c < 26) : endsR K m cut least r c = true ↔ ∃ w, w ∈ fitL K m cut least r (fun d => d == c) := by
 induction r generalizing c with
 | zero => simp [endsR, fitL]
 | succ r ih =>
  constructor
  ·intro h
   simp only [endsR, Bool.and_eq_true, Bool.or_eq_true, any26_iff] at h
   obtain ⟨h1, h2 | ⟨d, hd, h2, h3⟩⟩ := h
   ·exact ⟨[c], mem_fitL_succ.2 ⟨c, hc, by simp, h1, .inl ⟨rfl, h2⟩⟩⟩
   ·obtain ⟨w, hw⟩ := (ih d hd).1 h3
    refine ⟨c :: w, mem_fitL_succ.2 ⟨c, hc, by simp, h1, .inr ⟨w, ?_, rfl⟩⟩⟩
    cases r with
    | zero => simp [fitL] at hw
    | succ r =>
     obtain ⟨e, h4, h5, h6, h7⟩ := mem_fitL_succ.1 hw
     simp at h5; subst h5
     exact mem_fitL_succ.2 ⟨e, h4, h2, h6, h7⟩
  ·rintro ⟨w, hw⟩
   obtain ⟨e, h4, h5, h6, h7⟩ := mem_fitL_succ.1 hw
   simp at h5; subst h5
   simp only [endsR, Bool.and_eq_true, Bool.or_eq_true, any26_iff]
   refine ⟨h6, ?_⟩
   rcases h7 with ⟨_, h7⟩ | ⟨v, hv, _⟩
   ·exact .inl h7
   ·cases r with
    | zero => simp [fitL] at hv
    | succ r =>
     obtain ⟨d, g1, g2, g3, g4⟩ := mem_fitL_succ.1 hv
     exact .inr ⟨d, g1, g2, (ih d g1).2 ⟨v, mem_fitL_succ.2 ⟨d, g1, by simp, g3, g4⟩⟩⟩
/-- there is a word exactly if one of the classes at hand can be ended -/
theorem fitL_some {r : Nat} {now : CS} : (∃ w, w ∈ fitL K m cut least r now) ↔ ∃ c, c < 26 ∧ now c = true ∧ endsR K m cut least r c = true := by
 cases r with
 | zero => simp [fitL, endsR]
 | succ r =>
  constructor
  ·rintro ⟨w, hw⟩
   obtain ⟨c, h1, h2, h3, h4⟩ := mem_fitL_succ.1 hw
   exact ⟨c, h1, h2, (ends_iff _ c h1).2 ⟨w, mem_fitL_succ.2 ⟨c, h1, by simp, h3, h4⟩⟩⟩
  ·rintro ⟨c, h1, h2, h3⟩
   obtain ⟨w, hw⟩ := (ends_iff _ c h1).1 h3
   obtain ⟨e, h4, h5, h6, h7⟩ := mem_fitL_succ.1 hw
   simp at h5; subst h5
   exact ⟨w, mem_fitL_succ.2 ⟨e, h4, h2, h6, h7⟩⟩
theorem fitL_nil {r : Nat} {now : CS} : fitL K m cut least r now = [] ↔ ∀ c, c < 26 → (now c && endsR K m cut least r c) = false := by
 have h := fitL_some (K := K) (m := m) (cut := cut) (least := least) (r := r) (now := now)
 constructor
 ·intro e c hc
  rw [Bool.eq_false_iff]; intro hh
  simp only [Bool.and_eq_true] at hh
  obtain ⟨w, hw⟩ := h.2 ⟨c, hc, hh.1, hh.2⟩
  rw [e] at hw; cases hw
 ·intro hh
  rcases he : fitL K m cut least r now with _ | ⟨w, l⟩
  ·rfl
  ·obtain ⟨c, h1, h2, h3⟩ := h.1 ⟨w, by rw [he]; simp⟩
   have := hh c h1; simp [h2, h3] at this
theorem firstC_some {s : CS} {c : Nat} (h : firstC s = some c) : c < 26 ∧ s c = true ∧ ∀ d, d < c → s d = false := by
 unfold firstC at h
 obtain ⟨h1, h2⟩ := List.find?_eq_some_iff_append.1 h
 obtain ⟨as, bs, e, h3⟩ := h2
 have hl : as.length + 1 + bs.length = 26 := by have := congrArg List.length e; simp at this; omega
 have hc : ∀ i, i < as.length → as[i]? = some i := fun i hi => by
  have : (List.range 26)[i]? = (as ++ c :: bs)[i]? := by rw [e]
  rw [List.getElem?_append_left hi] at this
  rw [← this]; exact List.getElem?_range (by omega)
 have hcc : c = as.length := by
  have := congrArg (·[as.length]?) e
  simp at this
  rw [List.getElem?_range (by omega)] at this
  simpa using this.symm
 refine ⟨by omega, h1, fun d hd => ?_⟩
 have := h3 d (List.mem_of_getElem? (hc d (by omega)))
 simpa using this
theorem firstC_none {s : CS} : firstC s = none ↔ ∀ c, c < 26 → s c = false := by
 simp [firstC]
theorem head_flatMap {α β : Type} {f : α → List β} {c : α} {l bs : List α} (as : List α) (e : l = as ++ c :: bs) (h : ∀ a ∈ as, f a = []) (hc : f c ≠ []) : (l.flatMap f).head? = (f c).head? := by
 subst e
 rw [List.flatMap_append, List.flatMap_eq_nil_iff.2 h, List.nil_append, List.flatMap_cons]
 cases hf : f c with
 | nil => exact absurd hf hc
 | cons x y => rfl
/-- the head of the words that fit is the greedy word -/
theorem fitL_head (r : Nat) (now : CS) : (fitL K m cut least r now).head? = match wordR K m cut least r (fun d => now d && endsR K m cut least r d) with | [] => none | w => some w := by
 induction r generalizing now with
 | zero => rfl
 | succ r ih =>
  unfold wordR
  rcases hf : firstC (fun d => now d && endsR K m cut least (r + 1) d) with _ | c
  ·rw [fitL_nil.2 (firstC_none.1 hf)]; rfl
  ·obtain ⟨h1, h2, h3⟩ := firstC_some hf
   simp only [Bool.and_eq_true] at h2
   have hcut : cut (m - (r + 1)) c = true := by have := h2.2; simp only [endsR, Bool.and_eq_true] at this; exact this.1
   -- the list, as a flatMap over all classes
   have hfl : fitL K m cut least (r + 1) now = (List.range 26).flatMap fun d => if (now d && cut (m - (r + 1)) d) = true then ((if stopB K m least r d then [[d]] else []) ++ (fitL K m cut least r (K.after d)).map (d :: ·)) else [] := by
    rw [fitL]
    generalize List.range 26 = l
    induction l with
    | nil => rfl
    | cons x l ihl =>
     rw [List.filter_cons, List.flatMap_cons, ← ihl]
     split <;> simp
   rw [hfl]
   have hr : (List.range 26 : List Nat) = (List.range c) ++ c :: ((List.range (25 - c)).map (· + (c + 1))) := by
    have : 26 = c + (1 + (25 - c)) := by omega
    rw [this, List.range_add, List.range_add]
    simp [Nat.add_comm, Nat.add_left_comm]
   have hz : ∀ d ∈ List.range c, (if (now d && cut (m - (r + 1)) d) = true then ((if stopB K m least r d then [[d]] else []) ++ (fitL K m cut least r (K.after d)).map (d :: ·)) else []) = [] := by
    intro d hd
    have hd' : d < c := by simpa using hd
    have hfalse := h3 d hd'
    split
    ·rename_i hnc
     simp only [Bool.and_eq_true] at hnc
     rw [hnc.1, Bool.true_and] at hfalse
     simp only [endsR, hnc.2, Bool.true_and, Bool.or_eq_false_iff] at hfalse
     rw [hfalse.1, fitL_nil.2 (fun e he => any26_false.1 hfalse.2 e he)]; rfl
    ·rfl
   have hends := h2.2
   simp only [endsR, hcut, Bool.true_and, Bool.or_eq_true] at hends
   have hcn : (if (now c && cut (m - (r + 1)) c) = true then ((if stopB K m least r c then [[c]] else []) ++ (fitL K m cut least r (K.after c)).map (c :: ·)) else []) = (if stopB K m least r c then [[c]] else []) ++ (fitL K m cut least r (K.after c)).map (c :: ·) := by
    rw [if_pos]; simp [h2.1, hcut]
   rw [head_flatMap (List.range c) hr hz (by
    rw [hcn]
    rcases hends with hs | hs
    ·simp [hs]
    ·obtain ⟨d, hd, hd2⟩ := any26_iff.1 hs
     simp only [Bool.and_eq_true] at hd2
     obtain ⟨w, hw⟩ := fitL_some.2 ⟨d, hd, hd2.1, hd2.2⟩
     intro e
     have := List.append_eq_nil_iff.1 e
     have := List.map_eq_nil_iff.1 this.2
     rw [this] at hw; cases hw)]
   rw [hcn]
   by_cases hs : stopB K m least r c = true
   ·simp [hs]
   ·simp only [hs, Bool.false_eq_true, if_false, List.nil_append, List.head?_map, ih]
    rcases hw : wordR K m cut least r (fun d => K.after c d && endsR K m cut least r d) with _ | ⟨x, y⟩
    ·-- no word, but the class can be ended: contradiction
     exfalso
     rcases hends with h | h
     ·exact hs h
     ·obtain ⟨d, hd, hd2⟩ := any26_iff.1 h
      simp only [Bool.and_eq_true] at hd2
      obtain ⟨w, hw'⟩ := fitL_some.2 ⟨d, hd, hd2.1, hd2.2⟩
      have := ih (K.after c)
      rw [hw] at this
      simp at this
      rw [this] at hw'; cases hw'
    ·rfl

/-- forward, through the classes that can be ended -/
def nowG (K : Kd) (m : Nat) (cut : Nat → CS) (least : Int) (r : Nat) (now : CS) : Nat → CS
 | 0 => now
 | p + 1 => fun d => any26 fun c => (nowG K m cut least r now p c && endsR K m cut least (r - p) c) && K.after c d
def livG (K : Kd) (m : Nat) (cut : Nat → CS) (least : Int) (r : Nat) (now : CS) (p : Nat) : CS := fun c => nowG K m cut least r now p c && endsR K m cut least (r - p) c
theorem nowG_shift (r : Nat) (now : CS) (p : Nat) (d : Nat) : nowG K m cut least (r + 1) now (p + 1) d = true ↔
  ∃ e, e < 26 ∧ now e = true ∧ endsR K m cut least (r + 1) e = true ∧ nowG K m cut least r (K.after e) p d = true := by
 induction p generalizing d with
 | zero => simp only [nowG, any26_iff, Bool.and_eq_true, Nat.sub_zero, and_assoc]
 | succ p ih =>
  rw [nowG, any26_iff]
  simp only [Bool.and_eq_true, ih]
  constructor
  ·rintro ⟨c, hc, ⟨⟨e, h1, h2, h3, h4⟩, h5⟩, h6⟩
   refine ⟨e, h1, h2, h3, ?_⟩
   rw [nowG, any26_iff]
   refine ⟨c, hc, ?_⟩
   simp only [Bool.and_eq_true]
   rw [show r + 1 - (p + 1) = r - p by omega] at h5
   exact ⟨⟨h4, h5⟩, h6⟩
  ·rintro ⟨e, h1, h2, h3, h4⟩
   rw [nowG, any26_iff] at h4
   obtain ⟨c, hc, h5⟩ := h4
   simp only [Bool.and_eq_true] at h5
   refine ⟨c, hc, ⟨⟨e, h1, h2, h3, h5.1.1⟩, ?_⟩, h5.2⟩
   rw [show r + 1 - (p + 1) = r - p by omega]; exact h5.1.2
theorem mem_ends {r : Nat} {now : CS} {w : List Nat} {e : Nat} {v : List Nat} (h : w ∈ fitL K m cut least r now) (hw : w = e :: v) : e < 26 ∧ now e = true ∧ endsR K m cut least r e = true := by
 cases r with
 | zero => simp [fitL] at h
 | succ r =>
  obtain ⟨c, h1, h2, h3, h4⟩ := mem_fitL_succ.1 h
  have hc : c = e := by
   rcases h4 with ⟨h4, _⟩ | ⟨u, _, h4⟩ <;> (rw [hw] at h4; injection h4 with h4 _; exact h4.symm)
  subst hc
  exact ⟨h1, h2, (ends_iff _ c h1).2 ⟨w, mem_fitL_succ.2 ⟨c, h1, by simp, h3, h4⟩⟩⟩
theorem fitL_ne {r : Nat} {now : CS} {w : List Nat} (h : w ∈ fitL K m cut least r now) : w ≠ [] := by
 cases r with
 | zero => simp [fitL] at h
 | succ r =>
  obtain ⟨c, _, _, _, h4⟩ := mem_fitL_succ.1 h
  rcases h4 with ⟨h4, _⟩ | ⟨u, _, h4⟩ <;> rw [h4] <;> simp
/-- the living classes are those that stand in words -/
theorem living_iff (r : Nat) (now : CS) (p : Nat) {c : Nat} (hc : c < 26) : livG K m cut least r now p c = true ↔ ∃ w, w ∈ fitL K m cut least r now ∧ w[p]? = some c := by
 induction p generalizing r now with
 | zero =>
  simp only [livG, nowG, Bool.and_eq_true, Nat.sub_zero]
  constructor
  ·rintro ⟨h1, h2⟩
   obtain ⟨w, hw⟩ := (ends_iff _ c hc).1 h2
   cases r with
   | zero => simp [fitL] at hw
   | succ r =>
    obtain ⟨e, h4, h5, h6, h7⟩ := mem_fitL_succ.1 hw
    simp at h5; subst h5
    refine ⟨w, mem_fitL_succ.2 ⟨e, h4, h1, h6, h7⟩, ?_⟩
    rcases h7 with ⟨h7, _⟩ | ⟨u, _, h7⟩ <;> rw [h7] <;> rfl
  ·rintro ⟨w, hw, h0⟩
   rcases w with _ | ⟨e, v⟩
   ·cases h0
   ·simp at h0; subst h0
    have := mem_ends hw rfl
    exact ⟨this.2.1, this.2.2⟩
 | succ p ih =>
  cases r with
  | zero => simp [fitL, livG, endsR]
  | succ r =>
   constructor
   ·intro h
    simp only [livG, Bool.and_eq_true, nowG_shift] at h
    obtain ⟨⟨e, h1, h2, h3, h4⟩, h5⟩ := h
    rw [show r + 1 - (p + 1) = r - p by omega] at h5
    obtain ⟨v, hv, hvp⟩ := (ih r (K.after e)).1 (by simp [livG, h4, h5])
    have hcut : cut (m - (r + 1)) e = true := by simp only [endsR, Bool.and_eq_true] at h3; exact h3.1
    exact ⟨e :: v, mem_fitL_succ.2 ⟨e, h1, h2, hcut, .inr ⟨v, hv, rfl⟩⟩, by simpa using hvp⟩
   ·rintro ⟨w, hw, hp⟩
    obtain ⟨e, h1, h2, h3, h4⟩ := mem_fitL_succ.1 hw
    rcases h4 with ⟨rfl, _⟩ | ⟨v, hv, rfl⟩
    ·simp at hp
    ·have hl := (ih r (K.after e)).2 ⟨v, hv, by simpa using hp⟩
     simp only [livG, Bool.and_eq_true] at hl
     have hme := mem_ends hw rfl
     simp only [livG, Bool.and_eq_true, nowG_shift]
     exact ⟨⟨e, h1, h2, hme.2.2, hl.1⟩, by rw [show r + 1 - (p + 1) = r - p by omega]; exact hl.2⟩
/-- forward, through the classes that may stand -/
def nowB (K : Kd) (cut : Nat → CS) (i : Nat) (now : CS) : Nat → CS
 | 0 => now
 | p + 1 => fun d => any26 fun c => (nowB K cut i now p c && cut (i + p) c) && K.after c d
theorem nowB_shift (i : Nat) (now : CS) (p : Nat) (d : Nat) : nowB K cut i now (p + 1) d = true ↔ ∃ e, e < 26 ∧ now e = true ∧ cut i e = true ∧ nowB K cut (i + 1) (K.after e) p d = true := by
 induction p generalizing d with
 | zero => simp only [nowB, any26_iff, Bool.and_eq_true, Nat.add_zero, and_assoc]
 | succ p ih =>
  rw [nowB, any26_iff]
  simp only [Bool.and_eq_true, ih]
  constructor
  ·rintro ⟨c, hc, ⟨⟨e, h1, h2, h3, h4⟩, h5⟩, h6⟩
   refine ⟨e, h1, h2, h3, ?_⟩
   rw [nowB, any26_iff]
   refine ⟨c, hc, ?_⟩
   simp only [Bool.and_eq_true]
   rw [show i + (p + 1) = i + 1 + p by omega] at h5
   exact ⟨⟨h4, h5⟩, h6⟩
  ·rintro ⟨e, h1, h2, h3, h4⟩
   rw [nowB, any26_iff] at h4
   obtain ⟨c, hc, h5⟩ := h4
   simp only [Bool.and_eq_true] at h5
   refine ⟨c, hc, ⟨⟨e, h1, h2, h3, h5.1.1⟩, ?_⟩, h5.2⟩
   rw [show i + (p + 1) = i + 1 + p by omega]; exact h5.1.2
/-- no word fits exactly if no class that may stand may also end -/
theorem blank_iff (r : Nat) (hr : r ≤ m) (now : CS) : fitL K m cut least r now = [] ↔ ∀ p, p < r → ∀ c, c < 26 → nowB K cut (m - r) now p c = true → cut (m - r + p) c = true → stopB K m least (r - (p + 1)) c = false := by
 induction r generalizing now with
 | zero => simp [fitL]
 | succ r ih =>
  constructor
  ·intro h p hp c hc h1 h2
   rw [Bool.eq_false_iff]; intro h3
   cases p with
   | zero =>
    have : [c] ∈ fitL K m cut least (r + 1) now := mem_fitL_succ.2 ⟨c, hc, h1, by simpa using h2, .inl ⟨rfl, by simpa using h3⟩⟩
    rw [h] at this; cases this
   | succ p =>
    obtain ⟨e, g1, g2, g3, g4⟩ := (nowB_shift _ _ _ _).1 h1
    have hi := (ih (by omega) (K.after e)).1 (by
     rcases hf : fitL K m cut least r (K.after e) with _ | ⟨v, l⟩
     ·rfl
     ·have : e :: v ∈ fitL K m cut least (r + 1) now := mem_fitL_succ.2 ⟨e, g1, g2, g3, .inr ⟨v, by rw [hf]; simp, rfl⟩⟩
      rw [h] at this; cases this) p (by omega) c hc (by rw [show m - r = m - (r + 1) + 1 by omega]; exact g4) (by rw [show m - r + p = m - (r + 1) + (p + 1) by omega]; exact h2)
    rw [show r + 1 - (p + 1 + 1) = r - (p + 1) by omega] at h3
    rw [h3] at hi; cases hi
  ·intro h
   rcases hf : fitL K m cut least (r + 1) now with _ | ⟨w, l⟩
   ·rfl
   ·exfalso
    have hw : w ∈ fitL K m cut least (r + 1) now := by rw [hf]; simp
    obtain ⟨c, h1, h2, h3, h4⟩ := mem_fitL_succ.1 hw
    rcases h4 with ⟨_, h4⟩ | ⟨v, hv, _⟩
    ·have := h 0 (by omega) c h1 h2 (by simpa using h3)
     simp at this; rw [h4] at this; cases this
    ·have hi := (ih (by omega) (K.after c)).2 (fun p hp d hd g1 g2 => by
      have := h (p + 1) (by omega) d hd ((nowB_shift _ _ _ _).2 ⟨c, h1, h2, h3, by rw [show m - (r + 1) + 1 = m - r by omega]; exact g1⟩) (by rw [show m - (r + 1) + (p + 1) = m - r + p by omega]; exact g2)
      rw [show r + 1 - (p + 1 + 1) = r - (p + 1) by omega] at this; exact this)
     rw [hi] at hv; cases hv
end
end Go.Proofs.YthpjffhccjlnhaaGreatDoor
namespace Go.Proofs.YthpjffhccjlnhaaGreatDoor
def allC : Nat → CS := fun _ _ => true
/-- the classes from which just j further ones lead to the base -/
def goodJ (K : Kd) : Nat → CS
 | 0 => K.base
 | j + 1 => fun c => any26 fun d => K.after c d && goodJ K j d
/-- a word of r classes, greedily -/
def refWord (K : Kd) : Nat → CS → List Nat
 | 0, _ => []
 | r + 1, now => match firstC (fun c => now c && goodJ K r c) with
  | none => []
  | some c => c :: refWord K r (K.after c)
theorem ends_exact (K : Kd) (n r : Nat) (hr : r + 1 ≤ n) : endsR K n allC n (r + 1) = goodJ K r := by
 induction r with
 | zero => funext c; simp [endsR, allC, stopB, goodJ, any26]
 | succ r ih =>
  funext c
  have hd : decide ((n : Int) ≤ ((n - (r + 1) : Nat) : Int)) = false := by simp; omega
  rw [endsR, ih (by omega)]
  simp only [allC, Bool.true_and, stopB, hd, Bool.false_and, Bool.false_or, goodJ]
theorem refWord_eq (K : Kd) (n r : Nat) (hr : r ≤ n) (now : CS) : refWord K r now = wordR K n allC n r (fun c => now c && endsR K n allC n r c) := by
 induction r generalizing now with
 | zero => rfl
 | succ r ih =>
  rw [refWord, wordR, ends_exact K n r hr]
  rcases hf : firstC (fun c => now c && goodJ K r c) with _ | c
  ·rfl
  ·simp only
   congr 1
   cases r with
   | zero => simp [wordR, refWord]
   | succ r =>
    have hd : decide ((n : Int) ≤ ((n - (r + 1) : Nat) : Int)) = false := by simp; omega
    rw [ih (by omega)]
    simp only [stopB, hd, Bool.false_and, Bool.false_eq_true, if_false]
theorem refWord_len (K : Kd) (r : Nat) (now : CS) : refWord K r now = [] ∨ (refWord K r now).length = r := by
 induction r generalizing now with
 | zero => exact .inl rfl
 | succ r ih =>
  rw [refWord]
  rcases hf : firstC (fun c => now c && goodJ K r c) with _ | c
  ·exact .inl rfl
  ·right
   simp only [List.length_cons]
   rcases ih (K.after c) with h | h
   ·cases r with
    | zero => rw [h]; rfl
    | succ r =>
     exfalso
     obtain ⟨hc, h2, _⟩ := firstC_some hf
     simp only [Bool.and_eq_true, goodJ] at h2
     rw [refWord] at h
     rcases hg : firstC (fun c' => K.after c c' && goodJ K r c') with _ | d
     ·have := firstC_none.1 hg
      obtain ⟨d, hd, h3⟩ := any26_iff.1 h2.2
      rw [this d hd] at h3; cases h3
     ·rw [hg] at h; simp at h
   ·rw [h]

/-! how many -/
def S26 (f : Nat → Nat) : Nat := ((List.range 26).map f).sum
def ind (b : Bool) : Nat := if b then 1 else 0
theorem sum_map_congr {l : List Nat} {f g : Nat → Nat} (h : ∀ x ∈ l, f x = g x) : (l.map f).sum = (l.map g).sum := by rw [List.map_congr_left h]
theorem sum_map_add (l : List Nat) (f g : Nat → Nat) : (l.map fun x => f x + g x).sum = (l.map f).sum + (l.map g).sum := by
 induction l with
 | nil => rfl
 | cons x l ih => simp only [List.map_cons, List.sum_cons, ih]; omega
theorem sum_map_mul (l : List Nat) (f : Nat → Nat) (k : Nat) : (l.map fun x => k * f x).sum = k * (l.map f).sum := by
 induction l with
 | nil => simp
 | cons x l ih => simp only [List.map_cons, List.sum_cons, ih, Nat.mul_add]
theorem sum_map_zero (l : List Nat) : (l.map fun _ => 0).sum = 0 := by
 induction l with
 | nil => rfl
 | cons x l ih => simp [ih]
theorem sum_swap (l k : List Nat) (f : Nat → Nat → Nat) : (l.map fun x => (k.map fun y => f x y).sum).sum = (k.map fun y => (l.map fun x => f x y).sum).sum := by
 induction l with
 | nil => simp [sum_map_zero]
 | cons x l ih => simp only [List.map_cons, List.sum_cons, ih, sum_map_add]
theorem S26_swap (f : Nat → Nat → Nat) : S26 (fun x => S26 fun y => f x y) = S26 fun y => S26 fun x => f x y := sum_swap _ _ _
theorem S26_add (f g : Nat → Nat) : S26 (fun x => f x + g x) = S26 f + S26 g := sum_map_add _ _ _
theorem S26_mul (k : Nat) (f : Nat → Nat) : S26 (fun x => k * f x) = k * S26 f := sum_map_mul _ _ _
theorem S26_congr {f g : Nat → Nat} (h : ∀ x, x < 26 → f x = g x) : S26 f = S26 g := sum_map_congr fun x hx => h x (by simpa using hx)

section
variable {K : Kd} {m : Nat} {least : Int}
def lenF (K : Kd) (m : Nat) (least : Int) (r : Nat) (now : CS) : Nat := (fitL K m allC least r now).length
def extF (K : Kd) (m : Nat) (least : Int) (r : Nat) (c : Nat) : Nat := ind (stopB K m least r c) + lenF K m least r (K.after c)
theorem len_flatMap_filter {α : Type} (l : List Nat) (p : CS) (f : Nat → List α) : ((l.filter p).flatMap f).length = (l.map fun c => ind (p c) * (f c).length).sum := by
 induction l with
 | nil => rfl
 | cons x l ih =>
  rw [List.filter_cons, List.map_cons, List.sum_cons, ← ih]
  cases hp : p x <;> simp [ind]
theorem lenF_succ (r : Nat) (now : CS) : lenF K m least (r + 1) now = S26 fun c => ind (now c) * extF K m least r c := by
 unfold lenF
 rw [fitL, len_flatMap_filter]
 refine S26_congr fun c _ => ?_
 simp only [allC, Bool.and_true, extF, lenF]
 congr 1
 cases stopB K m least r c <;> simp [ind]
 omega
/-- the words of n + 1 classes that end so -/
def cntN (K : Kd) : Nat → Nat → Nat
 | 0 => fun c => ind (K.rim c)
 | n + 1 => fun d => S26 fun c => ind (K.after c d) * cntN K n c
/-- what has been counted behind n lengths -/
def sumN (K : Kd) (least : Int) : Nat → Nat
 | 0 => 0
 | n + 1 => sumN K least n + S26 fun c => ind (decide (least ≤ ((n + 1 : Nat) : Int)) && K.base c) * cntN K n c
theorem count_at (n : Nat) (hn : n < m) : lenF K m least m K.rim = sumN K least n + S26 fun c => cntN K n c * extF K m least (m - (n + 1)) c := by
 induction n with
 | zero =>
  obtain ⟨k, rfl⟩ : ∃ k, m = k + 1 := ⟨m - 1, by omega⟩
  rw [lenF_succ]; simp [sumN, cntN]
 | succ n ih =>
  rw [ih (by omega), sumN, Nat.add_assoc]
  refine congrArg (fun x => sumN K least n + x) ?_
  have e : m - (n + 1) = m - (n + 1 + 1) + 1 := by omega
  have hst : ∀ c, stopB K m least (m - (n + 1)) c = (decide (least ≤ ((n + 1 : Nat) : Int)) && K.base c) := fun c => by
   rw [stopB, show m - (m - (n + 1)) = n + 1 by omega]
  have h1 : ∀ c, cntN K n c * extF K m least (m - (n + 1)) c = ind (decide (least ≤ ((n + 1 : Nat) : Int)) && K.base c) * cntN K n c + S26 fun d => ind (K.after c d) * cntN K n c * extF K m least (m - (n + 1 + 1)) d := by
   intro c
   rw [extF, hst, Nat.mul_add, Nat.mul_comm, e, lenF_succ, ← S26_mul]
   refine congrArg (fun x => ind (decide (least ≤ ((n + 1 : Nat) : Int)) && K.base c) * cntN K n c + x) (S26_congr fun d _ => ?_)
   rw [← Nat.mul_assoc, Nat.mul_comm (cntN K n c)]
  simp only [h1, S26_add]
  refine congrArg (fun x => S26 (fun c => ind (decide (least ≤ ((n + 1 : Nat) : Int)) && K.base c) * cntN K n c) + x) ?_
  rw [S26_swap]
  refine S26_congr fun d _ => ?_
  rw [cntN, Nat.mul_comm, ← S26_mul]
  refine S26_congr fun c _ => ?_
  rw [Nat.mul_comm]
theorem count_all (hm : 0 < m) : lenF K m least m K.rim = sumN K least m := by
 obtain ⟨k, rfl⟩ : ∃ k, m = k + 1 := ⟨m - 1, by omega⟩
 rw [count_at k (by omega), sumN]
 refine congrArg (fun x => sumN K least k + x) ?_
 refine S26_congr fun c _ => ?_
 rw [extF, stopB, show k + 1 - (k + 1) = 0 by omega]
 simp only [lenF, fitL, List.length_nil, Nat.add_zero, Nat.sub_zero]
 rw [Nat.mul_comm]
/-! .. and never more than M -/
def satM : Nat := 1000000000
def satF (p : CS) (f : Nat → Nat) (l : List Nat) (s : Nat) : Nat := l.foldl (fun s c => if p c then min (s + f c) satM else s) s
theorem satF_eq (p : CS) (f g : Nat → Nat) (hfg : ∀ c, min (f c) satM = min (g c) satM) (l : List Nat) (s t : Nat) (hs : s = min t satM) : satF p f l s = min (t + (l.map fun c => ind (p c) * g c).sum) satM := by
 induction l generalizing s t with
 | nil => simp [satF, hs]
 | cons x l ih =>
  rw [satF, List.foldl_cons, ← satF]
  rw [ih _ (t + ind (p x) * g x)]
  ·rw [List.map_cons, List.sum_cons, Nat.add_assoc]
  ·have := hfg x
   cases hp : p x <;> simp [ind, hs] <;> omega
/-- what the program holds after n lengths -/
def atM (K : Kd) : Nat → Nat → Nat
 | 0 => fun c => ind (K.rim c)
 | n + 1 => fun d => satF (fun c => K.after c d) (atM K n) (List.range 26) 0
def manyM (K : Kd) (least : Int) : Nat → Nat
 | 0 => 0
 | n + 1 => satF (fun c => decide (least ≤ ((n + 1 : Nat) : Int)) && K.base c) (atM K n) (List.range 26) (manyM K least n)
theorem atM_eq (n : Nat) (c : Nat) : min (atM K n c) satM = min (cntN K n c) satM := by
 induction n generalizing c with
 | zero => rfl
 | succ n ih =>
  show min (satF (fun c' => K.after c' c) (atM K n) (List.range 26) 0) satM = _
  rw [satF_eq _ _ (cntN K n) ih _ 0 0 (by simp)]
  simp [cntN, S26]
theorem manyM_eq (n : Nat) : manyM K least n = min (sumN K least n) satM := by
 induction n with
 | zero => simp [manyM, sumN]
 | succ n ih =>
  rw [manyM, satF_eq _ _ (cntN K n) (fun c => atM_eq n c) _ _ _ ih]
  rfl
theorem many_count (hm : 0 < m) : manyM K least m = min (lenF K m least m K.rim) satM := by rw [manyM_eq, count_all hm]
end
end Go.Proofs.YthpjffhccjlnhaaGreatDoor
namespace Go.Proofs.YthpjffhccjlnhaaGreatDoor
/-! strings of classes -/
def chC (c : Nat) : UInt8 := UInt8.ofNat (97 + c)
theorem chC_nat {c : Nat} (h : c < 26) : (chC c).toNat = 97 + c := by simp [chC]; omega
def letC (b : UInt8) : Bool := decide (97 ≤ b.toNat) && decide (b.toNat ≤ 122)
def str (s : CS) : List UInt8 := ((List.range 26).filter s).map chC
/-- a string has a class -/
def hasC (l : List UInt8) (c : Nat) : Bool := l.any fun b => b.toNat == 97 + c
def setAtC (l : List UInt8) (j : Nat) : Bool := letC (l[j]?.getD 0) && (j == 0 || decide ((l[j - 1]?.getD 0).toNat < (l[j]?.getD 0).toNat))
/-- strictly ascending classes -/
def isSetB (l : List UInt8) : Bool := (List.range l.length).all (setAtC l)
theorem isSetB_iff {l : List UInt8} : isSetB l = true ↔ ∀ j, j < l.length → setAtC l j = true := by simp [isSetB]
def Asc (l : List UInt8) : Prop := l.Pairwise (fun a b => a.toNat < b.toNat) ∧ ∀ b ∈ l, letC b = true
theorem sorted_ext : ∀ {l k : List UInt8}, l.Pairwise (fun a b => a.toNat < b.toNat) → k.Pairwise (fun a b => a.toNat < b.toNat) → (∀ x, x ∈ l ↔ x ∈ k) → l = k
 | [], [], _, _, _ => rfl
 | [], y :: k, _, _, h => absurd ((h y).2 (by simp)) (by simp)
 | x :: l, [], _, _, h => absurd ((h x).1 (by simp)) (by simp)
 | x :: l, y :: k, h1, h2, h => by
  have h1' := List.pairwise_cons.1 h1
  have h2' := List.pairwise_cons.1 h2
  have e : x = y := by
   rcases List.mem_cons.1 ((h x).1 (by simp)) with e | e
   ·exact e
   ·rcases List.mem_cons.1 ((h y).2 (by simp)) with e' | e'
    ·exact e'.symm
    ·have := h1'.1 y e'; have := h2'.1 x e; omega
  subst e
  congr 1
  refine sorted_ext h1'.2 h2'.2 fun z => ?_
  constructor
  ·intro hz
   rcases List.mem_cons.1 ((h z).1 (by simp [hz])) with e | e
   ·subst e; have := h1'.1 z hz; omega
   ·exact e
  ·intro hz
   rcases List.mem_cons.1 ((h z).2 (by simp [hz])) with e | e
   ·subst e; have := h2'.1 z hz; omega
   ·exact e
theorem asc_of_set : ∀ {l : List UInt8}, isSetB l = true → Asc l := by
 intro l h
 have h' := isSetB_iff.1 h
 have step : ∀ j, j + 1 < l.length → ∀ a b, l[j]? = some a → l[j + 1]? = some b → a.toNat < b.toNat := fun j hj a b ha hb => by
  have := h' (j + 1) hj
  simpa [setAtC, ha, hb, letC] using (by simpa [setAtC, ha, hb] using this : letC b = true ∧ a.toNat < b.toNat).2
 have lt : ∀ d j, j + d + 1 < l.length → ∀ a b, l[j]? = some a → l[j + d + 1]? = some b → a.toNat < b.toNat := by
  intro d
  induction d with
  | zero => exact fun j hj a b ha hb => step j hj a b ha hb
  | succ d ih =>
   intro j hj a b ha hb
   obtain ⟨c, hc⟩ : ∃ c, l[j + d + 1]? = some c := ⟨l[j + d + 1], by simp [show j + d + 1 < l.length by omega]⟩
   have h1 := ih j (by omega) a c ha hc
   have h2 := step (j + d + 1) (by omega) c b hc (by rw [← hb]; congr 1)
   omega
 refine ⟨?_, fun b hb => ?_⟩
 ·rw [List.pairwise_iff_getElem]
  intro i j hi hj hij
  obtain ⟨d, rfl⟩ : ∃ d, j = i + d + 1 := ⟨j - i - 1, by omega⟩
  exact lt d i hj _ _ (by simp [hi]) (by simp [hj])
 ·obtain ⟨j, hj, rfl⟩ := List.getElem_of_mem hb
  have := h' j hj
  simp [setAtC, hj] at this
  exact this.1
theorem set_of_asc {l : List UInt8} (h : Asc l) : isSetB l = true := by
 rw [isSetB_iff]
 intro j hj
 have hl := h.2 l[j] (by simp)
 cases j with
 | zero => simp [setAtC, hj, hl]
 | succ j =>
  have := List.pairwise_iff_getElem.1 h.1 j (j + 1) (by omega) hj (by omega)
  simp [setAtC, hj, hl, show j < l.length by omega, this]
theorem set_iff {l : List UInt8} : isSetB l = true ↔ Asc l := ⟨asc_of_set, set_of_asc⟩
theorem mem_str {s : CS} {b : UInt8} : b ∈ str s ↔ letC b = true ∧ s (b.toNat - 97) = true := by
 simp only [str, List.mem_map, List.mem_filter, List.mem_range]
 constructor
 ·rintro ⟨c, ⟨h1, h2⟩, rfl⟩
  rw [chC_nat h1]
  exact ⟨by simp [letC, chC_nat h1]; omega, by rw [show 97 + c - 97 = c by omega]; exact h2⟩
 ·rintro ⟨h1, h2⟩
  simp [letC] at h1
  refine ⟨b.toNat - 97, ⟨by omega, h2⟩, ?_⟩
  rw [chC, show 97 + (b.toNat - 97) = b.toNat by omega, UInt8.ofNat_toNat]
theorem asc_str (s : CS) : Asc (str s) := by
 refine ⟨?_, fun b hb => (mem_str.1 hb).1⟩
 rw [str, List.pairwise_map]
 refine List.Pairwise.imp_of_mem ?_ (List.Pairwise.filter s (List.pairwise_lt_range (n := 26)))
 intro a b ha hb hab
 have h1 : a < 26 := by simpa using (List.mem_filter.1 ha).1
 have h2 : b < 26 := by simpa using (List.mem_filter.1 hb).1
 rw [chC_nat h1, chC_nat h2]; omega
theorem set_str (s : CS) : isSetB (str s) = true := set_of_asc (asc_str s)
theorem hasC_iff {l : List UInt8} {c : Nat} (hc : c < 26) : hasC l c = true ↔ chC c ∈ l := by
 simp only [hasC, List.any_eq_true, beq_iff_eq]
 constructor
 ·rintro ⟨b, hb, e⟩
  rw [chC, ← e, UInt8.ofNat_toNat]; exact hb
 ·intro h; exact ⟨_, h, chC_nat hc⟩
theorem has_str {s : CS} {c : Nat} (hc : c < 26) : hasC (str s) c = s c := by
 rw [Bool.eq_iff_iff, hasC_iff hc, mem_str]
 simp [letC, chC_nat hc]; omega
theorem str_congr {s t : CS} (h : ∀ c, c < 26 → s c = t c) : str s = str t := by
 unfold str
 congr 1
 exact List.filter_congr fun c hc => h c (by simpa using hc)
theorem str_inj {s t : CS} (h : str s = str t) : ∀ c, c < 26 → s c = t c := fun c hc => by rw [← has_str (s := s) hc, h, has_str hc]
theorem str_has {l : List UInt8} (h : isSetB l = true) : str (hasC l) = l := by
 obtain ⟨h1, h2⟩ := asc_of_set h
 refine sorted_ext (asc_str _).1 h1 fun x => ?_
 rw [mem_str]
 constructor
 ·rintro ⟨g1, g2⟩
  simp [letC] at g1
  have := (hasC_iff (by omega)).1 g2
  rwa [chC, show 97 + (x.toNat - 97) = x.toNat by omega, UInt8.ofNat_toNat] at this
 ·intro hx
  have g1 := h2 x hx
  refine ⟨g1, ?_⟩
  simp [letC] at g1
  rw [hasC_iff (by omega), chC, show 97 + (x.toNat - 97) = x.toNat by omega, UInt8.ofNat_toNat]; exact hx
theorem str_nil {s : CS} : str s = [] ↔ ∀ c, c < 26 → s c = false := by
 simp only [str, List.map_eq_nil_iff, List.filter_eq_nil_iff, List.mem_range]
 exact ⟨fun h c hc => by simpa using h c hc, fun h c hc => by simp [h c hc]⟩
theorem str_head (s : CS) : (str s).head? = (firstC s).map chC := by
 unfold str firstC
 rw [List.head?_map, List.head?_filter]
/-- what is in both of two strings -/
def bothL (a b : List UInt8) : List UInt8 := a.filter fun x => b.contains x
theorem both_str (s t : CS) : bothL (str s) (str t) = str fun c => s c && t c := by
 refine sorted_ext ((asc_str s).1.filter _) (asc_str _).1 fun x => ?_
 simp only [bothL, List.mem_filter, List.contains_iff_mem, mem_str, Bool.and_eq_true]
 constructor
 ·rintro ⟨⟨h1, h2⟩, _, h3⟩; exact ⟨h1, h2, h3⟩
 ·rintro ⟨h1, h2, h3⟩; exact ⟨⟨h1, h2⟩, h1, h3⟩
theorem both_set {a b : List UInt8} (ha : isSetB a = true) (hb : isSetB b = true) : bothL a b = str fun c => hasC a c && hasC b c := by
 conv => lhs; rw [← str_has ha, ← str_has hb]
 exact both_str _ _
def allS : List UInt8 := (List.range 26).map chC
theorem allS_eq : allS = str fun _ => true := by unfold allS str; rw [List.filter_eq_self.2]; simp
end Go.Proofs.YthpjffhccjlnhaaGreatDoor
namespace Go.Proofs.YthpjffhccjlnhaaGreatDoor
/-! what it is for a word to fit -/
section
variable {K : Kd} {m : Nat} {cut : Nat → CS} {least : Int}
def chain (K : Kd) (cut : Nat → CS) : Nat → CS → List Nat → Prop
 | _, _, [] => False
 | i, now, [c] => c < 26 ∧ now c = true ∧ cut i c = true ∧ K.base c = true
 | i, now, c :: d :: v => c < 26 ∧ now c = true ∧ cut i c = true ∧ chain K cut (i + 1) (K.after c) (d :: v)
theorem mem_fitL {r : Nat} (hr : r ≤ m) {now : CS} {w : List Nat} : w ∈ fitL K m cut least r now ↔ chain K cut (m - r) now w ∧ w.length ≤ r ∧ least ≤ ((m - r + w.length : Nat) : Int) := by
 induction r generalizing now w with
 | zero =>
  simp only [fitL, List.not_mem_nil, false_iff]
  rintro ⟨h1, h2, _⟩
  rcases w with _ | ⟨c, v⟩
  ·exact h1
  ·simp at h2
 | succ r ih =>
  rw [mem_fitL_succ]
  constructor
  ·rintro ⟨c, h1, h2, h3, ⟨rfl, h4⟩ | ⟨v, h4, rfl⟩⟩
   ·simp only [stopB, Bool.and_eq_true, decide_eq_true_eq] at h4
    refine ⟨⟨h1, h2, h3, h4.2⟩, by simp, ?_⟩
    simp only [List.length_cons, List.length_nil]; omega
   ·obtain ⟨g1, g2, g3⟩ := (ih (by omega)).1 h4
    rcases v with _ | ⟨d, v⟩
    ·exact g1.elim
    ·refine ⟨⟨h1, h2, h3, ?_⟩, by simp only [List.length_cons] at g2 ⊢; omega, by simp only [List.length_cons] at g3 ⊢; omega⟩
     rw [show m - (r + 1) + 1 = m - r by omega]; exact g1
  ·rintro ⟨h1, h2, h3⟩
   rcases w with _ | ⟨c, _ | ⟨d, v⟩⟩
   ·exact h1.elim
   ·obtain ⟨g1, g2, g3, g4⟩ := h1
    refine ⟨c, g1, g2, g3, .inl ⟨rfl, ?_⟩⟩
    simp only [stopB, Bool.and_eq_true, decide_eq_true_eq, g4, and_true]
    simp only [List.length_cons, List.length_nil] at h3; omega
   ·obtain ⟨g1, g2, g3, g4⟩ := h1
    refine ⟨c, g1, g2, g3, .inr ⟨d :: v, (ih (by omega)).2 ⟨?_, by simp only [List.length_cons] at h2 ⊢; omega, by simp only [List.length_cons] at h3 ⊢; omega⟩, rfl⟩⟩
    rw [show m - r = m - (r + 1) + 1 by omega]; exact g4
theorem chain_iff {i : Nat} {now : CS} {w : List Nat} : chain K cut i now w ↔
  w ≠ [] ∧ (∀ c ∈ w, c < 26) ∧ (∀ c, w[0]? = some c → now c = true) ∧ (∀ j c, w[j]? = some c → cut (i + j) c = true) ∧ (∀ j c d, w[j]? = some c → w[j + 1]? = some d → K.after c d = true) ∧ ∀ c, w[w.length - 1]? = some c → K.base c = true := by
 induction w generalizing i now with
 | nil => simp [chain]
 | cons c v ih =>
  rcases v with _ | ⟨d, v⟩
  ·simp only [chain]
   constructor
   ·rintro ⟨h1, h2, h3, h4⟩
    refine ⟨by simp, by simpa using h1, fun x hx => by simp at hx; subst hx; exact h2, fun j x hx => ?_, fun j x y _ hy => by simp at hy, fun x hx => by simp at hx; subst hx; exact h4⟩
    rcases j with _ | j
    ·simp at hx; subst hx; exact h3
    ·simp at hx
   ·rintro ⟨_, h1, h2, h3, _, h4⟩
    exact ⟨h1 c (by simp), h2 c rfl, h3 0 c rfl, h4 c rfl⟩
  ·simp only [chain]
   rw [ih]
   constructor
   ·rintro ⟨h1, h2, h3, _, g1, g2, g3, g4, g5⟩
    refine ⟨by simp, fun x hx => ?_, fun x hx => by simp at hx; subst hx; exact h2, fun j x hx => ?_, fun j x y hx hy => ?_, fun x hx => ?_⟩
    ·rcases List.mem_cons.1 hx with rfl | hx
     ·exact h1
     ·exact g1 x hx
    ·rcases j with _ | j
     ·simp at hx; subst hx; exact h3
     ·have := g3 j x (by simpa using hx)
      rwa [show i + (j + 1) = i + 1 + j by omega]
    ·rcases j with _ | j
     ·simp at hx hy; subst hx; subst hy; exact g2 _ rfl
     ·exact g4 j x y (by simpa using hx) (by simpa using hy)
    ·exact g5 x (by simpa using hx)
   ·rintro ⟨_, h1, h2, h3, h4, h5⟩
    refine ⟨h1 c (by simp), h2 c rfl, h3 0 c rfl, by simp, fun x hx => h1 x (by simp at hx ⊢; exact .inr hx), fun x hx => h4 0 c x rfl (by simpa using hx), fun j x hx => ?_, fun j x y hx hy => h4 (j + 1) x y (by simpa using hx) (by simpa using hy), fun x hx => h5 x (by simpa using hx)⟩
    have := h3 (j + 1) x (by simpa using hx)
    rwa [show i + (j + 1) = i + 1 + j by omega] at this
/-- the words do not hang on how many places there are beyond the longest -/
theorem fitL_exact {w : List Nat} {now : CS} : w ∈ fitL K m allC least m now ↔ ∃ n, n ≤ m ∧ least ≤ (n : Int) ∧ w ∈ fitL K n allC n n now := by
 rw [mem_fitL (Nat.le_refl _)]
 constructor
 ·rintro ⟨h1, h2, h3⟩
  refine ⟨w.length, h2, by simpa using h3, (mem_fitL (Nat.le_refl _)).2 ⟨?_, Nat.le_refl _, by simp⟩⟩
  rw [show w.length - w.length = m - m by omega]; exact h1
 ·rintro ⟨n, h1, h2, h3⟩
  obtain ⟨g1, g2, g3⟩ := (mem_fitL (Nat.le_refl _)).1 h3
  refine ⟨?_, by omega, ?_⟩
  ·rw [show m - m = n - n by omega]; exact g1
  ·simp at g3 ⊢; omega
theorem fitL_nodup (r : Nat) (now : CS) : (fitL K m cut least r now).Nodup := by
 induction r generalizing now with
 | zero => simp [fitL]
 | succ r ih =>
  unfold List.Nodup at ih ⊢
  rw [fitL, List.pairwise_flatMap]
  refine ⟨fun c _ => ?_, ?_⟩
  ·refine List.nodup_append.2 ⟨by split <;> simp, List.Pairwise.map _ (fun a b h e => h (by injection e)) (ih _), fun x hx y hy e => ?_⟩
   subst e
   simp only [List.mem_map] at hy
   obtain ⟨v, hv, rfl⟩ := hy
   split at hx
   ·simp at hx; subst hx; exact fitL_ne hv rfl
   ·simp at hx
  ·refine List.Pairwise.imp ?_ (List.Pairwise.filter _ (List.nodup_range (n := 26)))
   intro a b hab x hx z y e
   subst e
   simp only [List.mem_append, List.mem_map] at hx y
   have ha : x.head? = some a := by
    rcases hx with hx | ⟨v, _, rfl⟩
    ·split at hx
     ·simp at hx; subst hx; rfl
     ·simp at hx
    ·rfl
   have hb : x.head? = some b := by
    rcases y with hx | ⟨v, _, rfl⟩
    ·split at hx
     ·simp at hx; subst hx; rfl
     ·simp at hx
    ·rfl
   rw [ha] at hb; injection hb with hb; exact hab hb
theorem len_of_same {α : Type} [BEq α] [LawfulBEq α] {l k : List α} (h1 : l.Nodup) (h2 : k.Nodup) (h : ∀ x, x ∈ l ↔ x ∈ k) : l.length = k.length :=
 ((List.perm_ext_iff_of_nodup h1 h2).2 h).length_eq
/-- fewer words with narrower cuts -/
theorem fitL_mono {cut' : Nat → CS} {least' : Int} {w : List Nat} {now : CS} (hc : ∀ p c, cut p c = true → cut' p c = true) (hl : least' ≤ least) (h : w ∈ fitL K m cut least m now) : w ∈ fitL K m cut' least' m now := by
 obtain ⟨h1, h2, h3⟩ := (mem_fitL (Nat.le_refl _)).1 h
 refine (mem_fitL (Nat.le_refl _)).2 ⟨?_, h2, by omega⟩
 obtain ⟨g0, g1, g2, g3, g4, g5⟩ := chain_iff.1 h1
 exact chain_iff.2 ⟨g0, g1, g2, fun j c hj => hc _ _ (g3 j c hj), g4, g5⟩
end
end Go.Proofs.YthpjffhccjlnhaaGreatDoor
namespace Go.Proofs.YthpjffhccjlnhaaGreatDoor
/-! types, rings -/
abbrev bl (s : ByteArray) : List UInt8 := s.data.toList
structure Typ where
 name : ByteArray
 ware : ByteArray
 least : Int
 most : Int
 rim : ByteArray
 base : ByteArray
 after : Nat → ByteArray
structure Rng where
 at_ : Int
 set : ByteArray
def Typ.kd (t : Typ) : Kd := ⟨hasC (bl t.rim), hasC (bl t.base), fun c => hasC (bl (t.after c))⟩
def Typ.m (t : Typ) : Nat := t.most.toNat
/-- a type's strings are sets -/
def Typ.sets (t : Typ) : Bool := isSetB (bl t.rim) && isSetB (bl t.base) && (List.range 26).all fun c => isSetB (bl (t.after c))
theorem Typ.sets_iff {t : Typ} : t.sets = true ↔ isSetB (bl t.rim) = true ∧ isSetB (bl t.base) = true ∧ ∀ c, c < 26 → isSetB (bl (t.after c)) = true := by
 simp [Typ.sets, and_assoc]
/-- the place of the last ring -/
def lastAt (r : List Rng) : Int := match r.getLast? with | some y => y.at_ | none => -1
/-- how many shifts there are -/
def shiftsOf (t : Typ) (r : List Rng) : Nat := if r = [] then 1 else (t.most - lastAt r).toNat
/-- the classes that may stand at a place -/
def cutOf (r : List Rng) (shift : Nat) (p : Nat) : CS := fun c => match r.find? (fun y => decide ((shift : Int) + y.at_ = p)) with | some y => hasC (bl y.set) c | none => true
def leastOf4 (t : Typ) (r : List Rng) (shift : Nat) : Int := max t.least ((shift : Int) + lastAt r + 1)
/-- all words that fit a type and a shift -/
def fitsOf (t : Typ) (r : List Rng) (shift : Nat) : List (List Nat) := fitL t.kd t.m (cutOf r shift) (leastOf4 t r shift) t.m t.kd.rim
/-- the types of a ware with their shifts -/
def triesOf (l : List Typ) (ware : ByteArray) (r : List Rng) : List (Nat × Nat) :=
 (List.range l.length).flatMap fun i => match l[i]? with
  | some t => if t.ware = ware then (List.range (shiftsOf t r)).map fun s => (i, s) else []
  | none => []
theorem mem_tries {l : List Typ} {ware : ByteArray} {r : List Rng} {i s : Nat} : (i, s) ∈ triesOf l ware r ↔ ∃ t, l[i]? = some t ∧ t.ware = ware ∧ s < shiftsOf t r := by
 simp only [triesOf, List.mem_flatMap, List.mem_range]
 constructor
 ·rintro ⟨j, hj, h⟩
  rcases ht : l[j]? with _ | t
  ·rw [ht] at h; simp at h
  ·rw [ht] at h
   simp only at h
   split at h
   ·simp only [List.mem_map, List.mem_range, Prod.mk.injEq] at h
    obtain ⟨a, ha, rfl, rfl⟩ := h
    exact ⟨t, ht, by assumption, ha⟩
   ·simp at h
 ·rintro ⟨t, h1, h2, h3⟩
  refine ⟨i, (List.getElem?_eq_some_iff.1 h1).1, ?_⟩
  rw [h1]
  simp only [h2, if_true, List.mem_map, List.mem_range, Prod.mk.injEq]
  exact ⟨s, h3, by simp⟩
/-- the first fit of a try -/
def fitOne (t : Typ) (r : List Rng) (s : Nat) : Option (List Nat) := (fitsOf t r s).head?
structure Ft where
 type : Nat
 shift : Nat
 word : List Nat
/-- the first fits of all types and shifts -/
def shiftsT (l : List Typ) (ware : ByteArray) (r : List Rng) : List Ft := (triesOf l ware r).filterMap fun x => match l[x.1]? with | some t => (fitOne t r x.2).map fun w => ⟨x.1, x.2, w⟩ | none => none
/-- all fits, in order -/
def fitsT (l : List Typ) (ware : ByteArray) (r : List Rng) : List Ft := (triesOf l ware r).flatMap fun x => match l[x.1]? with | some t => (fitsOf t r x.2).map fun w => ⟨x.1, x.2, w⟩ | none => []
theorem head_flatMap_filterMap {α β : Type} (f : α → List β) (l : List α) : (l.flatMap f).head? = (l.filterMap fun x => (f x).head?).head? := by
 induction l with
 | nil => rfl
 | cons x l ih =>
  rw [List.flatMap_cons, List.filterMap_cons]
  cases h : f x with
  | nil => simpa using ih
  | cons y z => rfl
/-- the first of all fits is the first of the first ones -/
theorem complete_eq (l : List Typ) (ware : ByteArray) (r : List Rng) : (fitsT l ware r).head? = (shiftsT l ware r).head? := by
 rw [fitsT, shiftsT, head_flatMap_filterMap]
 congr 2
 funext x
 rcases l[x.1]? with _ | t
 ·rfl
 ·simp [fitOne, List.head?_map]
theorem fits_none (l : List Typ) (ware : ByteArray) (r : List Rng) : shiftsT l ware r = [] ↔ ∀ i s t, (i, s) ∈ triesOf l ware r → l[i]? = some t → fitsOf t r s = [] := by
 rw [shiftsT, List.filterMap_eq_nil_iff]
 constructor
 ·intro h i s t hx ht
  have := h (i, s) hx
  simp only [ht, fitOne, Option.map_eq_none_iff, List.head?_eq_none_iff] at this
  exact this
 ·rintro h ⟨i, s⟩ hx
  rcases ht : l[i]? with _ | t
  ·rfl
  ·simp only [fitOne, h i s t hx ht]; rfl
/-- of each group its first one -/
def headsFrom : Option (Nat × Nat) → List Ft → List Ft
 | _, [] => []
 | prev, x :: l => if prev = some (x.type, x.shift) then headsFrom prev l else x :: headsFrom (some (x.type, x.shift)) l
theorem heads_same (i s : Nat) (g : List (List Nat)) (l : List Ft) : headsFrom (some (i, s)) (g.map (fun w => ⟨i, s, w⟩) ++ l) = headsFrom (some (i, s)) l := by
 induction g with
 | nil => rfl
 | cons w g ih => rw [List.map_cons, List.cons_append, headsFrom, if_pos rfl, ih]
theorem heads_groups (g : Nat × Nat → List (List Nat)) : ∀ (xs : List (Nat × Nat)) (prev : Option (Nat × Nat)), xs.Nodup → (∀ x ∈ xs, prev ≠ some x) →
  headsFrom prev (xs.flatMap fun x => (g x).map fun w => ⟨x.1, x.2, w⟩) = xs.filterMap fun x => (g x).head?.map fun w => ⟨x.1, x.2, w⟩
 | [], _, _, _ => rfl
 | x :: xs, prev, hn, hp => by
  obtain ⟨h1, h2⟩ := List.nodup_cons.1 hn
  rw [List.flatMap_cons, List.filterMap_cons]
  rcases hg : g x with _ | ⟨w, v⟩
  ·simp only [List.map_nil, List.nil_append, List.head?_nil, Option.map_none]
   exact heads_groups g xs prev h2 fun y hy => hp y (by simp [hy])
  ·simp only [List.map_cons, List.cons_append, List.head?_cons, Option.map_some]
   rw [headsFrom, if_neg (hp x (by simp)), heads_same]
   congr 1
   exact heads_groups g xs _ h2 fun y hy e => by
    have e' : x = y := by injection e
    exact h1 (e' ▸ hy)
theorem tries_nodup (l : List Typ) (ware : ByteArray) (r : List Rng) : (triesOf l ware r).Nodup := by
 unfold List.Nodup triesOf
 rw [List.pairwise_flatMap]
 refine ⟨fun i _ => ?_, ?_⟩
 ·rcases l[i]? with _ | t
  ·simp
  ·simp only
   split
   ·exact List.Pairwise.map _ (fun a b h e => h (by injection e)) (List.nodup_range)
   ·simp
 ·refine List.Pairwise.imp ?_ (List.nodup_range (n := l.length))
  intro a b hab x hx y hy e
  subst e
  have key : ∀ i, x ∈ (match l[i]? with | some t => if t.ware = ware then (List.range (shiftsOf t r)).map fun s => (i, s) else [] | none => []) → x.1 = i := by
   intro i h
   rcases ht : l[i]? with _ | t
   ·rw [ht] at h; simp at h
   ·rw [ht] at h
    simp only at h
    split at h
    ·simp only [List.mem_map] at h
     obtain ⟨_, _, rfl⟩ := h; rfl
    ·simp at h
  exact hab ((key a hx).symm.trans (key b hy))
def fitsAt (l : List Typ) (r : List Rng) (x : Nat × Nat) : List (List Nat) := match l[x.1]? with | some t => fitsOf t r x.2 | none => []
theorem fitsT_eq (l : List Typ) (ware : ByteArray) (r : List Rng) : fitsT l ware r = (triesOf l ware r).flatMap fun x => (fitsAt l r x).map fun w => ⟨x.1, x.2, w⟩ := by
 unfold fitsT fitsAt
 congr 1; funext x
 rcases l[x.1]? with _ | t <;> rfl
theorem shiftsT_eq (l : List Typ) (ware : ByteArray) (r : List Rng) : shiftsT l ware r = (triesOf l ware r).filterMap fun x => (fitsAt l r x).head?.map fun w => ⟨x.1, x.2, w⟩ := by
 unfold shiftsT fitsAt
 congr 1; funext x
 rcases l[x.1]? with _ | t <;> rfl
/-- the first ones of all fits are the first fits -/
theorem shifts_heads (l : List Typ) (ware : ByteArray) (r : List Rng) : headsFrom none (fitsT l ware r) = shiftsT l ware r := by
 rw [fitsT_eq, shiftsT_eq]
 exact heads_groups _ _ _ (tries_nodup _ _ _) (fun _ _ h => by cases h)
/-- the classes that some fit has at a place -/
def choicesT (l : List Typ) (ware : ByteArray) (r : List Rng) (at_ : Nat) : CS := fun c => (fitsT l ware r).any fun f => f.word[f.shift + at_]? == some c
/-- the living classes of a try -/
def livOf (t : Typ) (r : List Rng) (s : Nat) (p : Nat) : CS := livG t.kd t.m (cutOf r s) (leastOf4 t r s) t.m t.kd.rim p
theorem choices_iff (l : List Typ) (ware : ByteArray) (r : List Rng) (at_ : Nat) {c : Nat} (hc : c < 26) :
  choicesT l ware r at_ c = true ↔ ∃ i s t, (i, s) ∈ triesOf l ware r ∧ l[i]? = some t ∧ livOf t r s (s + at_) c = true := by
 simp only [choicesT, fitsT_eq, List.any_eq_true, List.mem_flatMap, List.mem_map, beq_iff_eq]
 constructor
 ·rintro ⟨f, ⟨⟨i, s⟩, hx, w, hw, rfl⟩, h⟩
  rcases ht : l[i]? with _ | t
  ·simp [fitsAt, ht] at hw
  ·simp only [fitsAt, ht] at hw
   exact ⟨i, s, t, hx, ht, (living_iff _ _ _ hc).2 ⟨w, hw, h⟩⟩
 ·rintro ⟨i, s, t, hx, ht, h⟩
  obtain ⟨w, hw, h'⟩ := (living_iff _ _ _ hc).1 h
  exact ⟨⟨i, s, w⟩, ⟨(i, s), hx, w, by simp only [fitsAt, ht]; exact hw, rfl⟩, h'⟩
/-- the classes that can stand at each place, by a blank -/
def blankOf (t : Typ) (r : List Rng) (s : Nat) (p : Nat) : CS := fun c => nowB t.kd (cutOf r s) 0 t.kd.rim p c && cutOf r s p c
/-- a try's blank shows that it has no fit -/
def blankOk (t : Typ) (r : List Rng) (s : Nat) : Bool := (List.range t.m).all fun p => !(decide (leastOf4 t r s ≤ ((p + 1 : Nat) : Int)) && any26 fun c => blankOf t r s p c && t.kd.base c)
theorem blankOk_iff (t : Typ) (r : List Rng) (s : Nat) : blankOk t r s = true ↔ fitsOf t r s = [] := by
 unfold fitsOf
 rw [blank_iff _ (Nat.le_refl _)]
 simp only [blankOk, List.all_eq_true, List.mem_range, Bool.not_eq_true', Bool.and_eq_false_imp, decide_eq_true_eq, any26_false, blankOf, stopB, Nat.sub_self, Nat.zero_add, Bool.and_eq_true]
 constructor
 ·intro h p hp c hc h1 h2 h3
  exact h p hp (by rw [show t.m - (t.m - (p + 1)) = p + 1 by omega] at h3; exact h3) c hc ⟨h1, h2⟩
 ·intro h p hp h3 c hc h1
  exact h p hp c hc h1.1 h1.2 (by rw [show t.m - (t.m - (p + 1)) = p + 1 by omega]; exact h3)
/-- all tries have a blank, exactly if nothing fits -/
theorem blanks_none (l : List Typ) (ware : ByteArray) (r : List Rng) : shiftsT l ware r = [] ↔ ∀ i s t, (i, s) ∈ triesOf l ware r → l[i]? = some t → blankOk t r s = true := by
 rw [fits_none]
 exact ⟨fun h i s t hx ht => (blankOk_iff _ _ _).2 (h i s t hx ht), fun h i s t hx ht => (blankOk_iff _ _ _).1 (h i s t hx ht)⟩
end Go.Proofs.YthpjffhccjlnhaaGreatDoor
namespace Go.Proofs.YthpjffhccjlnhaaGreatDoor
/-! the chapter's questions about one type -/
/-- the words of a type -/
def wordsOf (K : Kd) (m : Nat) (least : Int) : List (List Nat) := fitL K m allC least m K.rim
def firstAt (K : Kd) (lo j : Nat) : List Nat := refWord K (lo + j) K.rim
/-- the first shortest word, [] without one -/
def firstW (K : Kd) (lo cnt : Nat) : List Nat := (((List.range cnt).map (firstAt K lo)).find? (fun w => !w.isEmpty)).getD []
theorem firstW_at {K : Kd} {lo cnt k : Nat} (hk : k < cnt) (hn : ∀ j, j < k → firstAt K lo j = []) (h : firstAt K lo k ≠ []) : firstW K lo cnt = firstAt K lo k := by
 unfold firstW
 have : (List.range cnt : List Nat) = List.range k ++ k :: (List.range (cnt - k - 1)).map (· + (k + 1)) := by
  have e : cnt = k + (1 + (cnt - k - 1)) := by omega
  conv => lhs; rw [e, List.range_add, List.range_add]
  simp [Nat.add_comm, Nat.add_left_comm]
 rw [this, List.map_append, List.find?_append, List.map_cons, List.find?_cons_of_pos (by simpa using h)]
 rw [List.find?_eq_none.2]
 ·rfl
 ·intro w hw
  simp only [List.mem_map, List.mem_range] at hw
  obtain ⟨j, hj, rfl⟩ := hw
  simp [hn j hj]
theorem firstW_nil {K : Kd} {lo cnt : Nat} : firstW K lo cnt = [] ↔ ∀ j, j < cnt → firstAt K lo j = [] := by
 constructor
 ·intro h j hj
  rcases Classical.em (∃ k, k < cnt ∧ firstAt K lo k ≠ []) with ⟨k, hk, hw⟩ | hno
  ·exfalso
   have hex : ∃ k, k < cnt ∧ firstAt K lo k ≠ [] := ⟨k, hk, hw⟩
   -- the least one
   have : ∀ n, ∀ k, k ≤ n → k < cnt → firstAt K lo k ≠ [] → ∃ i, i < cnt ∧ firstAt K lo i ≠ [] ∧ ∀ j, j < i → firstAt K lo j = [] := by
    intro n
    induction n with
    | zero => intro k hk hc hw; exact ⟨k, hc, hw, fun j hj => by omega⟩
    | succ n ih =>
     intro k hk hc hw
     rcases Classical.em (∃ i, i < k ∧ firstAt K lo i ≠ []) with ⟨i, hi, hiw⟩ | hno
     ·exact ih i (by omega) (by omega) hiw
     ·exact ⟨k, hc, hw, fun j hj => Classical.byContradiction fun hh => hno ⟨j, hj, hh⟩⟩
   obtain ⟨i, hi, hiw, hmin⟩ := this k k (Nat.le_refl _) hk hw
   rw [firstW_at hi hmin hiw] at h
   exact hiw h
  ·exact Classical.byContradiction fun hh => hno ⟨j, hj, hh⟩
 ·intro h
  unfold firstW
  rw [List.find?_eq_none.2]
  ·rfl
  ·intro w hw
   simp only [List.mem_map, List.mem_range] at hw
   obtain ⟨j, hj, rfl⟩ := hw
   simp [h j hj]
theorem firstAt_nil {K : Kd} {lo j : Nat} : firstAt K lo j = [] ↔ fitL K (lo + j) allC ((lo + j : Nat) : Int) (lo + j) K.rim = [] := by
 unfold firstAt
 have h := fitL_head (K := K) (m := lo + j) (cut := allC) (least := ((lo + j : Nat) : Int)) (lo + j) K.rim
 rw [← refWord_eq K (lo + j) (lo + j) (Nat.le_refl _)] at h
 rcases hw : refWord K (lo + j) K.rim with _ | ⟨c, v⟩
 ·rw [hw] at h; simp at h; simp [h]
 ·rw [hw] at h; simp only at h
  constructor
  ·intro e; cases e
  ·intro e; rw [e] at h; cases h
theorem firstAt_mem {K : Kd} {lo j : Nat} (h : firstAt K lo j ≠ []) : firstAt K lo j ∈ fitL K (lo + j) allC ((lo + j : Nat) : Int) (lo + j) K.rim := by
 unfold firstAt at h ⊢
 have hh := fitL_head (K := K) (m := lo + j) (cut := allC) (least := ((lo + j : Nat) : Int)) (lo + j) K.rim
 rw [← refWord_eq K (lo + j) (lo + j) (Nat.le_refl _)] at hh
 rcases hw : refWord K (lo + j) K.rim with _ | ⟨c, v⟩
 ·exact absurd hw h
 ·rw [hw] at hh; simp only at hh
  exact List.mem_of_mem_head? (by rw [hh]; rfl)
/-- there is a first word exactly if there is a word -/
theorem first_none {K : Kd} {lo m : Nat} : firstW K lo (m + 1 - lo) = [] ↔ wordsOf K m lo = [] := by
 rw [firstW_nil]
 constructor
 ·intro h
  rcases he : wordsOf K m lo with _ | ⟨w, l⟩
  ·rfl
  ·exfalso
   have hw : w ∈ wordsOf K m lo := by rw [he]; simp
   obtain ⟨n, h1, h2, h3⟩ := fitL_exact.1 hw
   have hlo : lo ≤ n := by omega
   have := firstAt_nil.1 (h (n - lo) (by omega))
   rw [show lo + (n - lo) = n by omega] at this
   rw [this] at h3; cases h3
 ·intro h j hj
  rw [firstAt_nil]
  rcases he : fitL K (lo + j) allC ((lo + j : Nat) : Int) (lo + j) K.rim with _ | ⟨w, l⟩
  ·rfl
  ·exfalso
   have hw : w ∈ wordsOf K m lo := fitL_exact.2 ⟨lo + j, by omega, by omega, by rw [he]; simp⟩
   rw [h] at hw; cases hw
theorem first_mem {K : Kd} {lo m : Nat} (h : firstW K lo (m + 1 - lo) ≠ []) : firstW K lo (m + 1 - lo) ∈ wordsOf K m lo := by
 have hex : ∃ k, k < m + 1 - lo ∧ firstAt K lo k ≠ [] := Classical.byContradiction fun hh => h (firstW_nil.2 fun j hj => Classical.byContradiction fun h2 => hh ⟨j, hj, h2⟩)
 obtain ⟨k0, hk0, hw0⟩ := hex
 have least : ∀ n, ∀ k, k ≤ n → k < m + 1 - lo → firstAt K lo k ≠ [] → ∃ i, i < m + 1 - lo ∧ firstAt K lo i ≠ [] ∧ ∀ j, j < i → firstAt K lo j = [] := by
  intro n
  induction n with
  | zero => intro k hk hc hw; exact ⟨k, hc, hw, fun j hj => by omega⟩
  | succ n ih =>
   intro k hk hc hw
   rcases Classical.em (∃ i, i < k ∧ firstAt K lo i ≠ []) with ⟨i, hi, hiw⟩ | hno
   ·exact ih i (by omega) (by omega) hiw
   ·exact ⟨k, hc, hw, fun j hj => Classical.byContradiction fun hh => hno ⟨j, hj, hh⟩⟩
 obtain ⟨i, hi, hiw, hmin⟩ := least k0 k0 (Nat.le_refl _) hk0 hw0
 rw [firstW_at hi hmin hiw]
 exact fitL_exact.2 ⟨lo + i, by omega, by omega, firstAt_mem hiw⟩
/-- the classes of words -/
def lettersW (K : Kd) (m : Nat) (least : Int) : CS := fun c => (List.range m).any fun p => livG K m allC least m K.rim p c
theorem letters_iff {K : Kd} {m : Nat} {least : Int} {c : Nat} (hc : c < 26) : lettersW K m least c = true ↔ ∃ w, w ∈ wordsOf K m least ∧ c ∈ w := by
 simp only [lettersW, List.any_eq_true, List.mem_range]
 constructor
 ·rintro ⟨p, hp, h⟩
  obtain ⟨w, hw, h'⟩ := (living_iff _ _ _ hc).1 h
  exact ⟨w, hw, List.mem_of_getElem? h'⟩
 ·rintro ⟨w, hw, h⟩
  obtain ⟨p, hp, rfl⟩ := List.getElem_of_mem h
  have := (mem_fitL (Nat.le_refl _)).1 hw
  exact ⟨p, by omega, (living_iff _ _ _ hc).2 ⟨w, hw, by simp⟩⟩
/-- .. as the reference has it, length by length -/
theorem letters_ref {K : Kd} {m lo : Nat} {c : Nat} (hc : c < 26) : lettersW K m lo c = true ↔ ∃ n, lo ≤ n ∧ n ≤ m ∧ ∃ p, p < n ∧ livG K n allC n n K.rim p c = true := by
 rw [letters_iff hc]
 constructor
 ·rintro ⟨w, hw, h⟩
  obtain ⟨n, h1, h2, h3⟩ := fitL_exact.1 hw
  obtain ⟨p, hp, rfl⟩ := List.getElem_of_mem h
  have := (mem_fitL (Nat.le_refl _)).1 h3
  exact ⟨n, by omega, h1, p, by omega, (living_iff _ _ _ hc).2 ⟨w, h3, by simp⟩⟩
 ·rintro ⟨n, h1, h2, p, hp, h⟩
  obtain ⟨w, hw, h'⟩ := (living_iff _ _ _ hc).1 h
  exact ⟨w, fitL_exact.2 ⟨n, h2, by omega, hw⟩, List.mem_of_getElem? h'⟩
theorem many_zero {K : Kd} {m lo : Nat} (hm : 0 < m) : manyM K lo m = 0 ↔ firstW K lo (m + 1 - lo) = [] := by
 rw [many_count hm, first_none]
 unfold lenF wordsOf satM
 constructor
 ·intro h; exact List.length_eq_zero_iff.1 (by omega)
 ·intro h; rw [h]; rfl
/-- the exact living classes are as the reference's places -/
def placeN (K : Kd) (n : Nat) : Nat → CS
 | 0 => K.rim
 | p + 1 => fun d => any26 fun c => (placeN K n p c && goodJ K (n - 1 - p) c) && K.after c d
theorem any26_congr {p q : CS} (h : ∀ c, c < 26 → p c = q c) : any26 p = any26 q := by
 rw [Bool.eq_iff_iff, any26_iff, any26_iff]
 exact ⟨fun ⟨c, hc, e⟩ => ⟨c, hc, by rw [← h c hc]; exact e⟩, fun ⟨c, hc, e⟩ => ⟨c, hc, by rw [h c hc]; exact e⟩⟩
theorem place_now (K : Kd) (n p : Nat) (hp : p < n) : nowG K n allC n n K.rim p = placeN K n p := by
 induction p with
 | zero => rfl
 | succ p ih =>
  funext d
  rw [nowG, placeN, ih (by omega)]
  refine any26_congr fun c _ => ?_
  have := congrFun (ends_exact K n (n - 1 - p) (by omega)) c
  rw [show n - 1 - p + 1 = n - p by omega] at this
  rw [this]
theorem place_liv (K : Kd) (n p : Nat) (hp : p < n) (c : Nat) : livG K n allC n n K.rim p c = (placeN K n p c && goodJ K (n - 1 - p) c) := by
 rw [livG, place_now K n p hp]
 have := congrFun (ends_exact K n (n - 1 - p) (by omega)) c
 rw [show n - 1 - p + 1 = n - p by omega] at this
 rw [this]
end Go.Proofs.YthpjffhccjlnhaaGreatDoor
namespace Go.Proofs.YthpjffhccjlnhaaGreatDoor
/-! rings that cannot be completed by themselves -/
def ruledStep (nofit : List Nat → Bool) (A : List Nat) (i : Nat) : List Nat := if nofit (A.filter fun k => !(k == i)) then A.filter fun k => !(k == i) else A
def ruledGo (nofit : List Nat → Bool) (n : Nat) : List Nat → List Nat := fun A => (List.range n).reverse.foldl (ruledStep nofit) A
def ruledT (nofit : List Nat → Bool) (n : Nat) : List Nat := ruledGo nofit n (List.range n)
section
variable {nofit : List Nat → Bool}
theorem step_sub (A : List Nat) (i : Nat) : (ruledStep nofit A i).Sublist A := by
 unfold ruledStep
 split
 ·exact List.filter_sublist
 ·exact List.Sublist.refl _
theorem fold_sub (l A : List Nat) : (l.foldl (ruledStep nofit) A).Sublist A := by
 induction l generalizing A with
 | nil => exact List.Sublist.refl _
 | cons i l ih => exact (ih _).trans (step_sub A i)
theorem ruled_sub (n : Nat) : (ruledT nofit n).Sublist (List.range n) := fold_sub _ _
theorem step_nofit {A : List Nat} {i : Nat} (h : nofit A = true) : nofit (ruledStep nofit A i) = true := by
 unfold ruledStep
 split
 ·assumption
 ·exact h
theorem fold_nofit {l A : List Nat} (h : nofit A = true) : nofit (l.foldl (ruledStep nofit) A) = true := by
 induction l generalizing A with
 | nil => exact h
 | cons i l ih => exact ih (step_nofit h)
theorem fold_least (hmono : ∀ A B : List Nat, A.Sublist B → nofit A = true → nofit B = true) {l A : List Nat} {k : Nat} (hk : k ∈ l) (hin : k ∈ l.foldl (ruledStep nofit) A) :
  nofit ((l.foldl (ruledStep nofit) A).filter fun x => !(x == k)) = false := by
 induction l generalizing A with
 | nil => cases hk
 | cons i l ih =>
  rcases List.mem_cons.1 hk with rfl | hk
  ·rw [List.foldl_cons] at hin ⊢
   have hA : k ∈ ruledStep nofit A k := (fold_sub l _).subset hin
   have hno : nofit (A.filter fun x => !(x == k)) = false := by
    rw [Bool.eq_false_iff]; intro hh
    unfold ruledStep at hA
    rw [if_pos hh] at hA
    simp at hA
   rw [Bool.eq_false_iff]; intro hh
   have hs : ((l.foldl (ruledStep nofit) (ruledStep nofit A k)).filter fun x => !(x == k)).Sublist (A.filter fun x => !(x == k)) := ((fold_sub l _).trans (step_sub A k)).filter _
   have := hmono _ _ hs hh
   rw [hno] at this; cases this
  ·exact ih hk hin
theorem ruled_nofit {n : Nat} (h : nofit (List.range n) = true) : nofit (ruledT nofit n) = true := fold_nofit h
theorem ruled_least (hmono : ∀ A B : List Nat, A.Sublist B → nofit A = true → nofit B = true) {n k : Nat} (hk : k ∈ ruledT nofit n) : nofit ((ruledT nofit n).filter fun x => !(x == k)) = false := by
 have : k < n := by simpa using (ruled_sub n).subset hk
 exact fold_least hmono (by simpa using this) hk
end
/-! rings: more of them leave less -/
def AscR (r : List Rng) : Prop := r.Pairwise (fun a b => a.at_ < b.at_) ∧ ∀ y ∈ r, 0 ≤ y.at_
theorem AscR.sub {r r' : List Rng} (h : AscR r) (hs : r'.Sublist r) : AscR r' := ⟨h.1.sublist hs, fun y hy => h.2 y (hs.subset hy)⟩
theorem cutOf_iff {r : List Rng} (h : AscR r) {s p : Nat} {c : Nat} : cutOf r s p c = true ↔ ∀ y ∈ r, (s : Int) + y.at_ = p → hasC (bl y.set) c = true := by
 rcases hf : r.find? (fun y => decide ((s : Int) + y.at_ = (p : Int))) with _ | y
 ·have hcu : cutOf r s p c = true := by simp only [cutOf, hf]
  refine ⟨fun _ y hy e => ?_, fun _ => hcu⟩
  have := List.find?_eq_none.1 hf y hy
  simp [e] at this
 ·have hcu : cutOf r s p c = hasC (bl y.set) c := by simp only [cutOf, hf]
  rw [hcu]
  have hy := List.mem_of_find?_eq_some hf
  have hp := List.find?_some hf
  simp only [decide_eq_true_eq] at hp
  constructor
  ·intro hc z hz e
   have : z = y := by
    have hat : z.at_ = y.at_ := by omega
    obtain ⟨i, hi, rfl⟩ := List.getElem_of_mem hz
    obtain ⟨j, hj, rfl⟩ := List.getElem_of_mem hy
    have hpw := List.pairwise_iff_getElem.1 h.1
    rcases Nat.lt_trichotomy i j with hij | hij | hij
    ·have := hpw i j hi hj hij; omega
    ·subst hij; rfl
    ·have := hpw j i hj hi hij; omega
   rw [this]; exact hc
  ·intro hh; exact hh y hy hp
theorem cutOf_sub {r r' : List Rng} (h : AscR r) (hs : r'.Sublist r) {s p c : Nat} (hc : cutOf r s p c = true) : cutOf r' s p c = true :=
 (cutOf_iff (h.sub hs)).2 fun y hy e => (cutOf_iff h).1 hc y (hs.subset hy) e
theorem lastAt_nil : lastAt [] = -1 := rfl
theorem lastAt_ge {r : List Rng} (h : AscR r) : -1 ≤ lastAt r ∧ (r ≠ [] → 0 ≤ lastAt r) := by
 unfold lastAt
 rcases hl : r.getLast? with _ | y
 ·rw [List.getLast?_eq_none_iff] at hl; subst hl; simp
 ·have := h.2 y (List.mem_of_getLast? hl)
  exact ⟨by simp only; omega, fun _ => by simp only; exact this⟩
theorem le_lastAt {r : List Rng} (h : AscR r) {y : Rng} (hy : y ∈ r) : y.at_ ≤ lastAt r := by
 unfold lastAt
 rcases hl : r.getLast? with _ | z
 ·rw [List.getLast?_eq_none_iff] at hl; subst hl; cases hy
 ·simp only
  obtain ⟨ys, rfl⟩ := List.getLast?_eq_some_iff.1 hl
  rcases List.mem_append.1 hy with hy | hy
  ·have := (List.pairwise_append.1 h.1).2.2 y hy z (by simp); omega
  ·simp at hy; subst hy; omega
theorem lastAt_mem {r : List Rng} (hr : r ≠ []) : ∃ y ∈ r, lastAt r = y.at_ := by
 unfold lastAt
 rcases hl : r.getLast? with _ | z
 ·rw [List.getLast?_eq_none_iff] at hl; exact absurd hl hr
 ·exact ⟨z, List.mem_of_getLast? hl, rfl⟩
theorem lastAt_sub {r r' : List Rng} (h : AscR r) (hs : r'.Sublist r) : lastAt r' ≤ lastAt r := by
 rcases Classical.em (r' = []) with rfl | hr
 ·exact (lastAt_ge h).1
 ·obtain ⟨y, hy, e⟩ := lastAt_mem hr
  rw [e]; exact le_lastAt h (hs.subset hy)
/-- what fits has room for the rings -/
theorem shift_room {t : Typ} {r : List Rng} {s : Nat} (_ : AscR r) (hs : s < shiftsOf t r) (hr : r ≠ []) : (s : Int) + lastAt r < t.most := by
 simp only [shiftsOf, hr, if_false] at hs
 omega
def anyFit (l : List Typ) (ware : ByteArray) (r : List Rng) : Prop := ∃ i s t w, (i, s) ∈ triesOf l ware r ∧ l[i]? = some t ∧ w ∈ fitsOf t r s
theorem anyFit_iff (l : List Typ) (ware : ByteArray) (r : List Rng) : anyFit l ware r ↔ shiftsT l ware r ≠ [] := by
 constructor
 ·rintro ⟨i, s, t, w, h1, h2, h3⟩ e
  rw [(fits_none l ware r).1 e i s t h1 h2] at h3; cases h3
 ·intro h
  refine Classical.byContradiction fun hh => h ((fits_none l ware r).2 fun i s t h1 h2 => ?_)
  rcases he : fitsOf t r s with _ | ⟨w, v⟩
  ·rfl
  ·exact absurd ⟨i, s, t, w, h1, h2, by rw [he]; simp⟩ hh
/-- fewer rings: what fitted can be completed still -/
theorem anyFit_sub {l : List Typ} {ware : ByteArray} {r r' : List Rng} (hpos : ∀ t ∈ l, 1 ≤ t.least) (h : AscR r) (hs : r'.Sublist r) (hf : anyFit l ware r) : anyFit l ware r' := by
 obtain ⟨i, s, t, w, h1, h2, h3⟩ := hf
 obtain ⟨t', e, h4, h5⟩ := mem_tries.1 h1
 rw [h2] at e; cases e
 have ht := hpos t (List.mem_of_getElem? h2)
 have hl := lastAt_sub h hs
 have hl1 := (lastAt_ge h).1
 rcases Classical.em (r' = []) with rfl | hr'
 ·-- without rings the first shift alone
  refine ⟨i, 0, t, w, mem_tries.2 ⟨t, h2, h4, by simp [shiftsOf]⟩, h2, ?_⟩
  refine fitL_mono (fun p c _ => (cutOf_iff ⟨List.Pairwise.nil, fun y hy => by cases hy⟩).2 fun y hy => by cases hy) ?_ h3
  simp only [leastOf4, lastAt_nil]; omega
 ·have hr : r ≠ [] := fun e => hr' (by subst e; exact List.sublist_nil.1 hs)
  refine ⟨i, s, t, w, mem_tries.2 ⟨t, h2, h4, ?_⟩, h2, ?_⟩
  ·simp only [shiftsOf, hr, hr', if_false] at h5 ⊢; omega
  ·exact fitL_mono (fun p c hc => cutOf_sub h hs hc) (by simp only [leastOf4]; omega) h3
end Go.Proofs.YthpjffhccjlnhaaGreatDoor
namespace Go.Proofs.YthpjffhccjlnhaaGreatDoor
/-! profiles, as strings -/
def cl (b : UInt8) : Nat := b.toNat - 97
theorem cl_ch {c : Nat} (h : c < 26) : cl (chC c) = c := by rw [cl, chC_nat h]; omega
theorem ch_cl {b : UInt8} (h : letC b = true) : chC (cl b) = b := by
 simp [letC] at h
 rw [chC, cl, show 97 + (b.toNat - 97) = b.toNat by omega, UInt8.ofNat_toNat]
theorem cl_lt {b : UInt8} (h : letC b = true) : cl b < 26 := by simp [letC] at h; unfold cl; omega
theorem let_ch {c : Nat} (h : c < 26) : letC (chC c) = true := by simp [letC, chC_nat h]; omega
def toS (w : List Nat) : List UInt8 := w.map chC
theorem toS_cl {w : List UInt8} (h : w.all letC = true) : toS (w.map cl) = w := by
 rw [List.all_eq_true] at h
 unfold toS
 rw [List.map_map]
 conv => rhs; rw [← List.map_id w]
 exact List.map_congr_left fun b hb => ch_cl (h b hb)
theorem cl_toS {w : List Nat} (h : ∀ c ∈ w, c < 26) : (toS w).map cl = w := by
 unfold toS
 rw [List.map_map]
 conv => rhs; rw [← List.map_id w]
 exact List.map_congr_left fun c hc => cl_ch (h c hc)
theorem all_toS {w : List Nat} (h : ∀ c ∈ w, c < 26) : (toS w).all letC = true := by
 rw [List.all_eq_true]
 intro b hb
 obtain ⟨c, hc, rfl⟩ := List.mem_map.1 hb
 exact let_ch (h c hc)
def linkB (K : Kd) (w : List UInt8) (i : Nat) : Bool := K.after (cl (w[i]?.getD 0)) (cl (w[i + 1]?.getD 0))
/-- a string is a profile -/
def profB (K : Kd) (least most : Int) (w : List UInt8) : Bool :=
 decide (least ≤ (w.length : Int) ∧ (w.length : Int) ≤ most) && w.all letC && (List.range (w.length - 1)).all (linkB K w) && K.rim (cl (w[0]?.getD 0)) && K.base (cl (w[w.length - 1]?.getD 0))
theorem profB_iff {K : Kd} {least most : Int} {w : List UInt8} (h1 : 1 ≤ least) : profB K least most w = true ↔ w.all letC = true ∧ w.map cl ∈ wordsOf K most.toNat least := by
 unfold wordsOf
 rw [mem_fitL (Nat.le_refl _), chain_iff]
 simp only [profB, Bool.and_eq_true, decide_eq_true_eq, List.all_eq_true, List.mem_range, Nat.sub_self, Nat.zero_add, List.length_map]
 constructor
 ·rintro ⟨⟨⟨⟨⟨g1, g2⟩, g3⟩, g4⟩, g5⟩, g6⟩
  refine ⟨g3, ⟨fun e => ?_, fun c hc => ?_, fun c hc => ?_, fun j c _ => rfl, fun j c d hc hd => ?_, fun c hc => ?_⟩, by omega, by omega⟩
  ·have := congrArg List.length e; simp at this; simp [this] at g1; omega
  ·obtain ⟨b, hb, rfl⟩ := List.mem_map.1 hc; exact cl_lt (g3 b hb)
  ·simp only [List.getElem?_map, Option.map_eq_some_iff] at hc
   obtain ⟨b, hb, rfl⟩ := hc
   rw [hb] at g5; exact g5
  ·simp only [List.getElem?_map, Option.map_eq_some_iff] at hc hd
   obtain ⟨b, hb, rfl⟩ := hc
   obtain ⟨b', hb', rfl⟩ := hd
   have hlt := (List.getElem?_eq_some_iff.1 hb').1
   have := g4 j (by omega)
   rw [linkB, hb, hb'] at this; exact this
  ·simp only [List.getElem?_map, Option.map_eq_some_iff] at hc
   obtain ⟨b, hb, rfl⟩ := hc
   rw [hb] at g6; exact g6
 ·rintro ⟨g3, ⟨k1, _, k3, _, k5, k6⟩, g1, g2⟩
  have hne : w ≠ [] := fun e => k1 (by rw [e]; rfl)
  have hl : 0 < w.length := List.length_pos_iff.2 hne
  obtain ⟨b0, hb0⟩ : ∃ b, w[0]? = some b := ⟨w[0], by simp⟩
  obtain ⟨b9, hb9⟩ : ∃ b, w[w.length - 1]? = some b := ⟨w[w.length - 1], by simp⟩
  refine ⟨⟨⟨⟨⟨by omega, by omega⟩, g3⟩, fun i hi => ?_⟩, ?_⟩, ?_⟩
  ·obtain ⟨b, hb⟩ : ∃ b, w[i]? = some b := ⟨w[i], by simp [show i < w.length by omega]⟩
   obtain ⟨b', hb'⟩ : ∃ b, w[i + 1]? = some b := ⟨w[i + 1], by simp [show i + 1 < w.length by omega]⟩
   rw [linkB, hb, hb']
   exact k5 i _ _ (by simp [hb]) (by simp [hb'])
  ·rw [hb0]; exact k3 _ (by simp [hb0])
  ·rw [hb9]; exact k6 _ (by simp [hb9])
/-- a string fits rings at a shift -/
def fitB (t : Typ) (r : List Rng) (s : Nat) (w : List UInt8) : Bool :=
 profB t.kd t.least t.most w && decide (leastOf4 t r s ≤ (w.length : Int)) && (List.range w.length).all fun p => cutOf r s p (cl (w[p]?.getD 0))
theorem fitB_iff {t : Typ} {r : List Rng} {s : Nat} {w : List UInt8} (h1 : 1 ≤ t.least) : fitB t r s w = true ↔ w.all letC = true ∧ w.map cl ∈ fitsOf t r s := by
 unfold fitB fitsOf
 rw [Bool.and_eq_true, Bool.and_eq_true, profB_iff h1]
 unfold wordsOf
 rw [mem_fitL (Nat.le_refl _), mem_fitL (Nat.le_refl _), chain_iff, chain_iff]
 simp only [decide_eq_true_eq, List.all_eq_true, List.mem_range, Nat.sub_self, Nat.zero_add, List.length_map, Typ.m]
 constructor
 ·rintro ⟨⟨⟨g0, ⟨k1, k2, k3, _, k5, k6⟩, g1, _⟩, g3⟩, g4⟩
  refine ⟨g0, ⟨k1, k2, k3, fun j c hc => ?_, k5, k6⟩, g1, g3⟩
  simp only [List.getElem?_map, Option.map_eq_some_iff] at hc
  obtain ⟨b, hb, rfl⟩ := hc
  have := g4 j (List.getElem?_eq_some_iff.1 hb).1
  rw [hb] at this; exact this
 ·rintro ⟨g0, ⟨k1, k2, k3, k4, k5, k6⟩, g1, g2⟩
  refine ⟨⟨⟨g0, ⟨k1, k2, k3, fun _ _ _ => rfl, k5, k6⟩, g1, ?_⟩, g2⟩, fun p hp => ?_⟩
  ·simp only [leastOf4] at g2; omega
  ·obtain ⟨b, hb⟩ : ∃ b, w[p]? = some b := ⟨w[p], by simp [hp]⟩
   rw [hb]; exact k4 p _ (by simp [hb])
/-! two types at once -/
def meetK (a b : Kd) : Kd := ⟨fun c => a.rim c && b.rim c, fun c => a.base c && b.base c, fun c d => a.after c d && b.after c d⟩
theorem meet_comm (a b : Kd) : meetK a b = meetK b a := by
 simp [meetK, Bool.and_comm]
theorem meet_self (a : Kd) : meetK a a = a := by simp [meetK]
def loOf (a b : Typ) : Nat := (max a.least b.least).toNat
def hiOf (a b : Typ) : Nat := (min a.most b.most).toNat
def overlapT (a b : Typ) : List Nat := firstW (meetK a.kd b.kd) (loOf a b) (hiOf a b + 1 - loOf a b)
theorem overlap_comm (a b : Typ) : overlapT a b = overlapT b a := by
 rw [overlapT, overlapT, meet_comm, loOf, loOf, hiOf, hiOf, Int.max_comm, Int.min_comm]
def firstT (t : Typ) : List Nat := firstW t.kd t.least.toNat (t.most.toNat + 1 - t.least.toNat)
theorem overlap_self (a : Typ) : overlapT a a = firstT a := by
 rw [overlapT, meet_self, loOf, hiOf, Int.max_self, Int.min_self, firstT]
end Go.Proofs.YthpjffhccjlnhaaGreatDoor
namespace Go.Proofs.YthpjffhccjlnhaaGreatDoor
/-! classes that no profile has -/
def namedW (K : Kd) : CS := fun c => K.rim c || K.base c || (any26 fun e => K.after e c) || any26 (K.after c)
def deadW (K : Kd) (m : Nat) (least : Int) : CS := fun c => namedW K c && !lettersW K m least c
def lessK (K : Kd) (D : CS) : Kd := ⟨fun c => K.rim c && !D c, fun c => K.base c && !D c, fun c d => !D c && (K.after c d && !D d)⟩
theorem mem_words {K : Kd} {m : Nat} {least : Int} {w : List Nat} : w ∈ wordsOf K m least ↔ chain K allC 0 K.rim w ∧ w.length ≤ m ∧ least ≤ (w.length : Int) := by
 unfold wordsOf
 rw [mem_fitL (Nat.le_refl _), Nat.sub_self, Nat.zero_add]
theorem less_words {K : Kd} {m : Nat} {least : Int} {D : CS} (hD : ∀ w, w ∈ wordsOf K m least → ∀ c ∈ w, D c = false) (w : List Nat) : w ∈ wordsOf (lessK K D) m least ↔ w ∈ wordsOf K m least := by
 constructor
 ·intro h
  obtain ⟨h1, h2, h3⟩ := mem_words.1 h
  obtain ⟨g0, g1, g2, g3, g4, g5⟩ := chain_iff.1 h1
  refine mem_words.2 ⟨chain_iff.2 ⟨g0, g1, fun c hc => ?_, g3, fun j c d hc hd => ?_, fun c hc => ?_⟩, h2, h3⟩
  ·have := g2 c hc; simp [lessK] at this; exact this.1
  ·have := g4 j c d hc hd; simp [lessK] at this; exact this.2.1
  ·have := g5 c hc; simp [lessK] at this; exact this.1
 ·intro h
  obtain ⟨h1, h2, h3⟩ := mem_words.1 h
  obtain ⟨g0, g1, g2, g3, g4, g5⟩ := chain_iff.1 h1
  have hd := hD w h
  refine mem_words.2 ⟨chain_iff.2 ⟨g0, g1, fun c hc => ?_, g3, fun j c d hc hd' => ?_, fun c hc => ?_⟩, h2, h3⟩
  ·simp [lessK, g2 c hc, hd c (List.mem_of_getElem? hc)]
  ·simp [lessK, g4 j c d hc hd', hd c (List.mem_of_getElem? hc), hd d (List.mem_of_getElem? hd')]
  ·simp [lessK, g5 c hc, hd c (List.mem_of_getElem? hc)]
theorem dead_free {K : Kd} {m : Nat} {least : Int} : ∀ w, w ∈ wordsOf K m least → ∀ c ∈ w, deadW K m least c = false := by
 intro w hw c hc
 have h26 : c < 26 := (chain_iff.1 (mem_words.1 hw).1).2.1 c hc
 simp [deadW, (letters_iff h26).2 ⟨w, hw, hc⟩]
theorem dead_many {K : Kd} {m : Nat} {least : Int} (hm : 0 < m) : manyM (lessK K (deadW K m least)) least m = manyM K least m := by
 rw [many_count hm, many_count hm]
 congr 1
 exact len_of_same (fitL_nodup _ _) (fitL_nodup _ _) (less_words dead_free)
theorem dead_prof {K : Kd} {most least : Int} (h1 : 1 ≤ least) (w : List UInt8) : profB (lessK K (deadW K most.toNat least)) least most w = profB K least most w := by
 rw [Bool.eq_iff_iff, profB_iff h1, profB_iff h1, less_words dead_free]
/-! a ring more, or fewer classes on one -/
/-- rings that ask no less -/
def wider (r r' : List Rng) : Prop := lastAt r' ≤ lastAt r ∧ (r' = [] ↔ r = []) ∧ ∀ s p c, cutOf r s p c = true → cutOf r' s p c = true
theorem wider_tries {l : List Typ} {ware : ByteArray} {r r' : List Rng} (h : wider r r') {i s : Nat} (hx : (i, s) ∈ triesOf l ware r) : (i, s) ∈ triesOf l ware r' := by
 obtain ⟨t, h1, h2, h3⟩ := mem_tries.1 hx
 refine mem_tries.2 ⟨t, h1, h2, ?_⟩
 unfold shiftsOf at h3 ⊢
 by_cases hr : r = []
 ·rw [if_pos hr] at h3; rw [if_pos (h.2.1.2 hr)]; exact h3
 ·rw [if_neg hr] at h3; rw [if_neg (fun e => hr (h.2.1.1 e))]; have := h.1; omega
theorem wider_fits {t : Typ} {r r' : List Rng} (h : wider r r') {s : Nat} {w : List Nat} (hw : w ∈ fitsOf t r s) : w ∈ fitsOf t r' s :=
 fitL_mono (fun p c hc => h.2.2 s p c hc) (by have := h.1; simp only [leastOf4]; omega) hw
theorem mem_fitsT {l : List Typ} {ware : ByteArray} {r : List Rng} {f : Ft} : f ∈ fitsT l ware r ↔ ∃ t, (f.type, f.shift) ∈ triesOf l ware r ∧ l[f.type]? = some t ∧ f.word ∈ fitsOf t r f.shift := by
 rw [fitsT_eq]
 simp only [List.mem_flatMap, List.mem_map]
 constructor
 ·rintro ⟨⟨i, s⟩, hx, w, hw, rfl⟩
  rcases ht : l[i]? with _ | t
  ·simp [fitsAt, ht] at hw
  ·simp only [fitsAt, ht] at hw; exact ⟨t, hx, by simp, hw⟩
 ·rintro ⟨t, h1, h2, h3⟩
  exact ⟨_, h1, f.word, by simp only [fitsAt, h2]; exact h3, rfl⟩
theorem wider_mem {l : List Typ} {ware : ByteArray} {r r' : List Rng} (h : wider r r') {f : Ft} (hf : f ∈ fitsT l ware r) : f ∈ fitsT l ware r' := by
 obtain ⟨t, h1, h2, h3⟩ := mem_fitsT.1 hf
 exact mem_fitsT.2 ⟨t, wider_tries h h1, h2, wider_fits h h3⟩
theorem mem_choices {l : List Typ} {ware : ByteArray} {r : List Rng} {at_ c : Nat} : choicesT l ware r at_ c = true ↔ ∃ f ∈ fitsT l ware r, f.word[f.shift + at_]? = some c := by
 simp [choicesT]
theorem wider_choices {l : List Typ} {ware : ByteArray} {r r' : List Rng} (h : wider r r') {at_ c : Nat} (hc : choicesT l ware r at_ c = true) : choicesT l ware r' at_ c = true := by
 obtain ⟨f, hf, e⟩ := mem_choices.1 hc
 exact mem_choices.2 ⟨f, wider_mem h hf, e⟩
theorem mem_shifts {l : List Typ} {ware : ByteArray} {r : List Rng} {f : Ft} (hf : f ∈ shiftsT l ware r) : f ∈ fitsT l ware r := by
 rw [shiftsT_eq] at hf
 obtain ⟨⟨i, s⟩, hx, h⟩ := List.mem_filterMap.1 hf
 simp only [Option.map_eq_some_iff] at h
 obtain ⟨w, hw, rfl⟩ := h
 rw [fitsT_eq]
 exact List.mem_flatMap.2 ⟨(i, s), hx, List.mem_map.2 ⟨w, List.mem_of_mem_head? (by rw [hw]; rfl), rfl⟩⟩
theorem shifts_of {l : List Typ} {ware : ByteArray} {r : List Rng} {f : Ft} (hf : f ∈ fitsT l ware r) : ∃ g ∈ shiftsT l ware r, g.type = f.type ∧ g.shift = f.shift := by
 obtain ⟨t, h1, h2, h3⟩ := mem_fitsT.1 hf
 rcases he : fitsOf t r f.shift with _ | ⟨w, v⟩
 ·rw [he] at h3; cases h3
 ·refine ⟨⟨f.type, f.shift, w⟩, ?_, rfl, rfl⟩
  rw [shiftsT_eq]
  exact List.mem_filterMap.2 ⟨(f.type, f.shift), h1, by simp only [fitsAt, h2, he]; rfl⟩
theorem wider_shifts {l : List Typ} {ware : ByteArray} {r r' : List Rng} (h : wider r r') {f : Ft} (hf : f ∈ shiftsT l ware r) : ∃ g ∈ shiftsT l ware r', g.type = f.type ∧ g.shift = f.shift :=
 shifts_of (wider_mem h (mem_shifts hf))
/-- a choice can be completed with its class on the ring -/
theorem choice_fits {l : List Typ} {ware : ByteArray} {r r' : List Rng} (hr : r' ≠ []) {at_ c : Nat} (hlast : lastAt r' = max (lastAt r) at_)
  (hcut : ∀ s p d, cutOf r s p d = true → (p = s + at_ → d = c) → cutOf r' s p d = true) (hc : choicesT l ware r at_ c = true) : anyFit l ware r' := by
 obtain ⟨f, hf, e⟩ := mem_choices.1 hc
 obtain ⟨t, h1, h2, h3⟩ := mem_fitsT.1 hf
 obtain ⟨t', h4, h5, h6⟩ := mem_tries.1 h1
 rw [h2] at h4; cases h4
 obtain ⟨g1, g2, g3⟩ := (mem_fitL (Nat.le_refl _)).1 h3
 have hlt := (List.getElem?_eq_some_iff.1 e).1
 have hm : t.m = t.most.toNat := rfl
 refine ⟨f.type, f.shift, t, f.word, mem_tries.2 ⟨t, h2, h5, ?_⟩, h2, ?_⟩
 ·unfold shiftsOf at h6 ⊢
  rw [if_neg hr]
  by_cases hr0 : r = []
  ·subst hr0; rw [if_pos rfl] at h6; simp only [lastAt_nil] at hlast; omega
  ·rw [if_neg hr0] at h6; omega
 ·refine (mem_fitL (Nat.le_refl _)).2 ⟨?_, g2, ?_⟩
  ·obtain ⟨k0, k1, k2, k3, k4, k5⟩ := chain_iff.1 g1
   refine chain_iff.2 ⟨k0, k1, k2, fun j d hj => ?_, k4, k5⟩
   refine hcut _ _ _ (k3 j d hj) (fun hp => ?_)
   have : j = f.shift + at_ := by omega
   rw [this, e] at hj; injection hj with hj; exact hj.symm
  ·simp only [leastOf4, hlast] at g3 ⊢; omega
end Go.Proofs.YthpjffhccjlnhaaGreatDoor
namespace Go.Proofs.YthpjffhccjlnhaaGreatDoor
/-! the source of types: lines of words -/
def splitC (c : UInt8) : List UInt8 → List (List UInt8)
 | [] => [[]]
 | x :: l => if x = c then [] :: splitC c l else match splitC c l with
  | [] => [[x]]
  | w :: ws => (x :: w) :: ws
theorem splitC_ne (c : UInt8) (l : List UInt8) : splitC c l ≠ [] := by
 cases l with
 | nil => simp [splitC]
 | cons x l =>
  unfold splitC
  split
  ·simp
  ·split <;> simp
/-- a number of one or two digits, without a leading 0 -/
def digB (b : UInt8) : Bool := decide (48 ≤ b.toNat) && decide (b.toNat ≤ 57)
def numS : List UInt8 → Option Int
 | [a] => if digB a then some ((a.toNat : Int) - 48) else none
 | [a, b] => if digB a && digB b && a != 48 then some (((a.toNat : Int) - 48) * 10 + ((b.toNat : Int) - 48)) else none
 | _ => none
def classesB (l : List UInt8) : Bool := !l.isEmpty && isSetB l
/-- what has been read: the types, the line that is due (0 type, 1 rim, 2 base, 3 after), the class of the last line of after -/
structure RdSt where
 types : List Typ
 due : Nat
 last : Nat
def strT (s : String) : List UInt8 := s.toUTF8.data.toList
def mkB (l : List UInt8) : ByteArray := ⟨l.toArray⟩
def setLast (l : List Typ) (f : Typ → Typ) : List Typ := match l.getLast? with | some t => l.dropLast ++ [f t] | none => l
def noAfter : Nat → ByteArray := fun _ => ByteArray.empty
def isW (w : List UInt8) (l : List Nat) : Bool := w.map (·.toNat) == l
def wType : List Nat := [116, 121, 112, 101]
def wRim : List Nat := [114, 105, 109]
def wBase : List Nat := [98, 97, 115, 101]
def wAfter : List Nat := [97, 102, 116, 101, 114]
/-- one line -/
def readLine (s : RdSt) (ws : List (List UInt8)) : Option RdSt :=
 match ws with
 | [] => none
 | w0 :: rest =>
  if isW w0 wType then match rest with
   | [n, v, a, b] => if (s.due == 0 || s.due == 3) && !n.isEmpty && !v.isEmpty then match numS a, numS b with
     | some x, some y => some ⟨s.types ++ [⟨mkB n, mkB v, x, y, ByteArray.empty, ByteArray.empty, noAfter⟩], 1, s.last⟩
     | _, _ => none
    else none
   | _ => none
  else if isW w0 wRim then match rest with
   | [x] => if s.due == 1 && classesB x then some ⟨setLast s.types fun t => { t with rim := mkB x }, 2, s.last⟩ else none
   | _ => none
  else if isW w0 wBase then match rest with
   | [x] => if s.due == 2 && classesB x then some ⟨setLast s.types fun t => { t with base := mkB x }, 3, 0⟩ else none
   | _ => none
  else if isW w0 wAfter then match rest with
   | [[b], x] => if s.due == 3 && classesB [b] && decide (s.last < b.toNat) && classesB x then some ⟨setLast s.types fun t => { t with after := fun c => if c = cl b then mkB x else t.after c }, 3, b.toNat⟩ else none
   | _ => none
  else none
/-- a line that is passed over -/
def blankLine (l : List UInt8) : Bool := l.isEmpty || l.head? == some 35
/-- all lines, from the n-th on: what has been read, or the line that has no form -/
def readAll : Nat → RdSt → List (List UInt8) → RdSt ⊕ Nat
 | _, s, [] => .inl s
 | n, s, l :: ls => if blankLine l then readAll (n + 1) s ls else match readLine s (splitC 32 l) with
  | some s' => readAll (n + 1) s' ls
  | none => .inr (n + 1)
end Go.Proofs.YthpjffhccjlnhaaGreatDoor
namespace Go.Proofs.YthpjffhccjlnhaaGreatDoor
/-! blanks -/
structure Bl4 where
 type : Int
 shift : Int
 sets : List ByteArray
def setAt4 (S : List ByteArray) (p : Nat) : List UInt8 := bl (S[p]?.getD ByteArray.empty)
/-- what may stand at a place, by the sets ahead of it -/
def beforeB (K : Kd) (S : List ByteArray) : Nat → CS
 | 0 => K.rim
 | p + 1 => fun d => any26 fun c => hasC (setAt4 S p) c && K.after c d
def all26 (p : CS) : Bool := (List.range 26).all p
theorem all26_iff {p : CS} : all26 p = true ↔ ∀ c, c < 26 → p c = true := by simp [all26]
def shownAt (t : Typ) (r : List Rng) (s : Nat) (S : List ByteArray) (p : Nat) : Bool :=
 isSetB (setAt4 S p) && all26 (fun c => !(beforeB t.kd S p c && cutOf r s p c) || hasC (setAt4 S p) c) && !(decide (leastOf4 t r s ≤ ((p + 1 : Nat) : Int)) && any26 fun c => hasC (setAt4 S p) c && t.kd.base c)
/-- sets show that a type and a shift have no fit -/
def shownB (t : Typ) (r : List Rng) (s : Nat) (S : List ByteArray) : Bool := (S.length == t.m) && (List.range S.length).all (shownAt t r s S)
theorem shown_none {t : Typ} {r : List Rng} {s : Nat} {S : List ByteArray} (h : shownB t r s S = true) : fitsOf t r s = [] := by
 simp only [shownB, Bool.and_eq_true, beq_iff_eq, List.all_eq_true, List.mem_range] at h
 obtain ⟨hl, hs⟩ := h
 rcases he : fitsOf t r s with _ | ⟨w, v⟩
 ·rfl
 ·exfalso
  have hw : w ∈ fitsOf t r s := by rw [he]; simp
  obtain ⟨g1, g2, g3⟩ := (mem_fitL (Nat.le_refl _)).1 hw
  obtain ⟨k0, k1, k2, k3, k4, k5⟩ := chain_iff.1 g1
  simp only [Nat.sub_self, Nat.zero_add] at g3 k3
  have at_ : ∀ p, p < S.length → isSetB (setAt4 S p) = true ∧ (∀ c, c < 26 → beforeB t.kd S p c = true → cutOf r s p c = true → hasC (setAt4 S p) c = true) ∧ (leastOf4 t r s ≤ ((p + 1 : Nat) : Int) → ∀ c, c < 26 → hasC (setAt4 S p) c = true → t.kd.base c = false) := by
   intro p hp
   have := hs p hp
   simp only [shownAt, Bool.and_eq_true, all26_iff, Bool.or_eq_true, Bool.not_eq_true', Bool.and_eq_false_imp, decide_eq_true_eq, any26_false] at this
   refine ⟨this.1.1, fun c hc h1 h2 => ?_, fun h1 c hc h2 => this.2 h1 c hc h2⟩
   rcases this.1.2 c hc with h3 | h3
   ·rw [h3 h1] at h2; cases h2
   ·exact h3
  have all : ∀ p c, w[p]? = some c → hasC (setAt4 S p) c = true ∧ beforeB t.kd S p c = true := by
   intro p
   induction p with
   | zero =>
    intro c hc
    have hb : beforeB t.kd S 0 c = true := k2 c hc
    exact ⟨(at_ 0 (by have := (List.getElem?_eq_some_iff.1 hc).1; omega)).2.1 c (k1 c (List.mem_of_getElem? hc)) hb (k3 0 c hc), hb⟩
   | succ p ih =>
    intro c hc
    have hlt := (List.getElem?_eq_some_iff.1 hc).1
    obtain ⟨d, hd⟩ : ∃ d, w[p]? = some d := ⟨w[p], by simp⟩
    have hb : beforeB t.kd S (p + 1) c = true := by
     rw [beforeB, any26_iff]
     exact ⟨d, k1 d (List.mem_of_getElem? hd), by rw [(ih d hd).1, k4 p d c hd hc]; rfl⟩
    exact ⟨(at_ (p + 1) (by omega)).2.1 c (k1 c (List.mem_of_getElem? hc)) hb (k3 _ c hc), hb⟩
  have hl0 : 0 < w.length := List.length_pos_iff.2 k0
  obtain ⟨c, hc⟩ : ∃ c, w[w.length - 1]? = some c := ⟨w[w.length - 1], by simp⟩
  have := (at_ (w.length - 1) (by omega)).2.2 (by rw [show w.length - 1 + 1 = w.length by omega]; exact g3) c (k1 c (List.mem_of_getElem? hc)) (all _ c hc).1
  rw [k5 c hc] at this; cases this
/-- the sets of a blank -/
def blankSets (t : Typ) (r : List Rng) (s : Nat) : List (List UInt8) := (List.range t.m).map fun p => str (blankOf t r s p)
theorem setAt_blank (t : Typ) (r : List Rng) (s : Nat) {p : Nat} (hp : p < t.m) : setAt4 ((blankSets t r s).map mkB) p = str (blankOf t r s p) := by
 simp only [setAt4, blankSets, List.map_map, List.getElem?_map, List.getElem?_range hp, Option.map_some, Option.getD_some]
 simp [mkB]
theorem before_blank (t : Typ) (r : List Rng) (s : Nat) (p : Nat) (hp : p < t.m) : ∀ c, beforeB t.kd ((blankSets t r s).map mkB) p c = nowB t.kd (cutOf r s) 0 t.kd.rim p c := by
 induction p with
 | zero => intro c; rfl
 | succ p ih =>
  intro d
  rw [beforeB, nowB]
  refine any26_congr fun c hc => ?_
  rw [setAt_blank t r s (by omega), has_str hc, blankOf]
  simp [Nat.zero_add]
/-- a try's own blank shows it, if nothing fits -/
theorem blank_shown {t : Typ} {r : List Rng} {s : Nat} (h : fitsOf t r s = []) : shownB t r s ((blankSets t r s).map mkB) = true := by
 have hb := (blankOk_iff t r s).2 h
 simp only [blankOk, List.all_eq_true, List.mem_range] at hb
 have hl : (blankSets t r s).length = t.m := by simp [blankSets]
 simp only [shownB, Bool.and_eq_true, beq_iff_eq, List.all_eq_true, List.mem_range, List.length_map, hl, true_and]
 intro p hp
 have h2 := hb p hp
 simp only [shownAt, setAt_blank t r s hp, set_str, Bool.true_and, Bool.and_eq_true, all26_iff]
 refine ⟨fun c hc => ?_, ?_⟩
 ·rw [before_blank t r s p hp, has_str hc, blankOf]
  cases nowB t.kd (cutOf r s) 0 t.kd.rim p c && cutOf r s p c <;> rfl
 ·have e : (any26 fun c => hasC (str (blankOf t r s p)) c && t.kd.base c) = any26 fun c => blankOf t r s p c && t.kd.base c := any26_congr fun c hc => by rw [has_str hc]
  rw [e]; exact h2
/-- a list is blanks of rings -/
def checkBlanksT (l : List Typ) (ware : ByteArray) (r : List Rng) (b : List Bl4) : Bool :=
 (b.length == (triesOf l ware r).length) && ((triesOf l ware r).zip b).all fun x => match l[x.1.1]? with | some t => (x.2.type == x.1.1) && (x.2.shift == x.1.2) && shownB t r x.1.2 x.2.sets | none => false
def blanksT (l : List Typ) (ware : ByteArray) (r : List Rng) : List Bl4 := (triesOf l ware r).filterMap fun x => match l[x.1]? with | some t => some ⟨x.1, x.2, (blankSets t r x.2).map mkB⟩ | none => none
theorem check_none {l : List Typ} {ware : ByteArray} {r : List Rng} {b : List Bl4} (h : checkBlanksT l ware r b = true) : shiftsT l ware r = [] := by
 rw [fits_none]
 intro i s t hx ht
 simp only [checkBlanksT, Bool.and_eq_true, beq_iff_eq, List.all_eq_true] at h
 obtain ⟨hl, ha⟩ := h
 obtain ⟨k, hk, e⟩ := List.getElem_of_mem hx
 have hm : ((i, s), b[k]'(by omega)) ∈ (triesOf l ware r).zip b := by
  rw [← e]
  have : ((triesOf l ware r).zip b)[k]? = some ((triesOf l ware r)[k], b[k]'(by omega)) := by
   rw [List.getElem?_zip_eq_some]; simp [hk, show k < b.length by omega]
  exact List.mem_of_getElem? this
 have := ha _ hm
 simp only [ht, Bool.and_eq_true] at this
 exact shown_none this.2
theorem tries_at {l : List Typ} {ware : ByteArray} {r : List Rng} {x : Nat × Nat} (hx : x ∈ triesOf l ware r) : ∃ t, l[x.1]? = some t := by
 obtain ⟨i, s⟩ := x
 obtain ⟨t, h, _⟩ := mem_tries.1 hx
 exact ⟨t, h⟩
theorem blanks_check {l : List Typ} {ware : ByteArray} {r : List Rng} (h : shiftsT l ware r = []) : checkBlanksT l ware r (blanksT l ware r) = true := by
 have hf := (fits_none l ware r).1 h
 unfold checkBlanksT blanksT
 have : ∀ xs : List (Nat × Nat), (∀ x ∈ xs, x ∈ triesOf l ware r) → ((xs.filterMap fun x => match l[x.1]? with | some t => some (⟨x.1, x.2, (blankSets t r x.2).map mkB⟩ : Bl4) | none => none).length == xs.length) = true ∧
   ((xs.zip (xs.filterMap fun x => match l[x.1]? with | some t => some (⟨x.1, x.2, (blankSets t r x.2).map mkB⟩ : Bl4) | none => none)).all fun x => match l[x.1.1]? with | some t => (x.2.type == x.1.1) && (x.2.shift == x.1.2) && shownB t r x.1.2 x.2.sets | none => false) = true := by
  intro xs
  induction xs with
  | nil => intro _; exact ⟨rfl, rfl⟩
  | cons x xs ih =>
   intro hx
   obtain ⟨t, ht⟩ := tries_at (hx x (by simp))
   obtain ⟨h1, h2⟩ := ih fun y hy => hx y (by simp [hy])
   rw [List.filterMap_cons]
   simp only [ht]
   refine ⟨by simpa using h1, ?_⟩
   rw [List.zip_cons_cons, List.all_cons, h2, Bool.and_true]
   simp only [ht]
   rw [blank_shown (hf x.1 x.2 t (hx x (by simp)) ht)]
   simp
 obtain ⟨h1, h2⟩ := this _ fun _ h => h
 rw [h1, h2]; rfl
end Go.Proofs.YthpjffhccjlnhaaGreatDoor
namespace Go.Proofs.YthpjffhccjlnhaaGreatDoor
/-! the source of types, written, and read again -/
def decS (n : Int) : List UInt8 := if n < 10 then [UInt8.ofNat (48 + n.toNat)] else [UInt8.ofNat (48 + n.toNat / 10), UInt8.ofNat (48 + n.toNat % 10)]
def chars (l : List Nat) : List UInt8 := l.map UInt8.ofNat
def typeLine (t : Typ) : List UInt8 := chars wType ++ 32 :: bl t.name ++ 32 :: bl t.ware ++ 32 :: decS t.least ++ 32 :: decS t.most
def rimLine (t : Typ) : List UInt8 := chars wRim ++ 32 :: bl t.rim
def baseLine (t : Typ) : List UInt8 := chars wBase ++ 32 :: bl t.base
def afterLine (c : Nat) (s : ByteArray) : List UInt8 := chars wAfter ++ 32 :: chC c :: 32 :: bl s
def afterLines (t : Typ) (k : Nat) : List (List UInt8) := ((List.range k).filter fun c => !(bl (t.after c)).isEmpty).map fun c => afterLine c (t.after c)
def linesOf (t : Typ) : List (List UInt8) := [typeLine t, rimLine t, baseLine t] ++ afterLines t 26
def printOf (l : List Typ) : List UInt8 := (l.flatMap linesOf).flatMap (· ++ [10])

theorem splitC_cons_ne {c x : UInt8} (h : x ≠ c) (l : List UInt8) : ∃ w ws, splitC c l = w :: ws ∧ splitC c (x :: l) = (x :: w) :: ws := by
 rcases he : splitC c l with _ | ⟨w, ws⟩
 ·exact absurd he (splitC_ne c l)
 ·exact ⟨w, ws, rfl, by rw [splitC, if_neg h, he]⟩
theorem splitC_app {c : UInt8} {w : List UInt8} (h : c ∉ w) (l : List UInt8) : splitC c (w ++ c :: l) = w :: splitC c l := by
 induction w with
 | nil => simp [splitC]
 | cons x w ih =>
  have hx : x ≠ c := fun e => h (by simp [e])
  have := ih (fun hh => h (by simp [hh]))
  rw [List.cons_append, splitC, if_neg hx, this]
theorem splitC_one {c : UInt8} {w : List UInt8} (h : c ∉ w) : splitC c w = [w] := by
 induction w with
 | nil => rfl
 | cons x w ih =>
  have hx : x ≠ c := fun e => h (by simp [e])
  rw [splitC, if_neg hx, ih (fun hh => h (by simp [hh]))]
theorem split_lines {ls : List (List UInt8)} (h : ∀ l ∈ ls, (10 : UInt8) ∉ l) : splitC 10 (ls.flatMap (· ++ [10])) = ls ++ [[]] := by
 induction ls with
 | nil => rfl
 | cons l ls ih =>
  rw [List.flatMap_cons, List.append_assoc, List.singleton_append, splitC_app (h l (by simp)), ih (fun x hx => h x (by simp [hx])), List.cons_append]
theorem readAll_cons (n : Nat) (s : RdSt) (l : List UInt8) (ls : List (List UInt8)) : readAll n s (l :: ls) = if blankLine l then readAll (n + 1) s ls else match readLine s (splitC 32 l) with | some s' => readAll (n + 1) s' ls | none => .inr (n + 1) := rfl
theorem readAll_app : ∀ (n : Nat) (s : RdSt) (ls ks : List (List UInt8)), readAll n s (ls ++ ks) = match readAll n s ls with | .inl s' => readAll (n + ls.length) s' ks | .inr k => .inr k
 | n, s, [], ks => rfl
 | n, s, l :: ls, ks => by
  rw [List.cons_append, readAll_cons, readAll_cons]
  split
  ·rw [readAll_app]; simp only [List.length_cons]; rw [show n + 1 + ls.length = n + (ls.length + 1) by omega]
  ·cases readLine s (splitC 32 l) with
   | none => rfl
   | some s' => simp only; rw [readAll_app]; simp only [List.length_cons]; rw [show n + 1 + ls.length = n + (ls.length + 1) by omega]
def plainCh (b : UInt8) : Bool := b != 32 && b != 10
theorem dec_num {n : Int} (h0 : 0 ≤ n) (h1 : n ≤ 99) : numS (decS n) = some n ∧ (decS n).all plainCh = true := by
 obtain ⟨k, rfl⟩ := Int.eq_ofNat_of_zero_le h0
 have : ∀ k : Nat, k < 100 → numS (decS (k : Int)) = some (k : Int) ∧ (decS (k : Int)).all plainCh = true := by decide +kernel
 exact this k (by omega)
theorem isW_self (l : List Nat) (h : ∀ n ∈ l, n < 256) : isW (chars l) l = true := by
 simp only [isW, chars, List.map_map, beq_iff_eq]
 conv => rhs; rw [← List.map_id l]
 exact List.map_congr_left fun n hn => by simp; exact h n hn
theorem let_plain {l : List UInt8} (h : isSetB l = true) : l.all plainCh = true := by
 rw [List.all_eq_true]
 intro b hb
 have := (asc_of_set h).2 b hb
 simp [letC] at this
 simp only [plainCh, Bool.and_eq_true, bne_iff_ne]
 constructor <;> (intro e; subst e; revert this; decide)
theorem not_mem_plain {l : List UInt8} {c : UInt8} (hc : c = 32 ∨ c = 10) (h : l.all plainCh = true) : c ∉ l := by
 intro hm
 have := List.all_eq_true.1 h c hm
 rcases hc with rfl | rfl <;> revert this <;> decide
/-- a type that can be written -/
def Fine4 (t : Typ) : Prop := (bl t.name).all plainCh = true ∧ (bl t.ware).all plainCh = true ∧ bl t.name ≠ [] ∧ bl t.ware ≠ [] ∧ 0 ≤ t.least ∧ t.least ≤ 99 ∧ 0 ≤ t.most ∧ t.most ≤ 99 ∧ classesB (bl t.rim) = true ∧ classesB (bl t.base) = true ∧ ∀ c, c < 26 → isSetB (bl (t.after c)) = true
def sameT (t u : Typ) : Prop := t.name = u.name ∧ t.ware = u.ware ∧ t.least = u.least ∧ t.most = u.most ∧ t.rim = u.rim ∧ t.base = u.base ∧ ∀ c, c < 26 → t.after c = u.after c
theorem mkB_bl (s : ByteArray) : mkB (bl s) = s := by simp [mkB, bl]
theorem bl_mkB (l : List UInt8) : bl (mkB l) = l := by simp [mkB, bl]
theorem classes_set {l : List UInt8} (h : classesB l = true) : isSetB l = true := by simp [classesB] at h; exact h.2
theorem chars_plain (l : List Nat) (h : l.all (fun n => decide (n < 256) && n != 32 && n != 10) = true) : (chars l).all plainCh = true := by
 rw [List.all_eq_true] at h ⊢
 intro b hb
 obtain ⟨n, hn, rfl⟩ := List.mem_map.1 hb
 have := h n hn
 simp at this
 simp only [plainCh, Bool.and_eq_true, bne_iff_ne]
 constructor <;> (intro e; have := congrArg UInt8.toNat e; simp at this; omega)
theorem split_type {t : Typ} (h : Fine4 t) : splitC 32 (typeLine t) = [chars wType, bl t.name, bl t.ware, decS t.least, decS t.most] := by
 obtain ⟨h1, h2, _, _, h3, h4, h5, h6, _⟩ := h
 have a := fun l hl => not_mem_plain (l := l) (c := 32) (.inl rfl) hl
 unfold typeLine
 simp only [List.append_assoc, List.cons_append]
 rw [splitC_app (a _ (chars_plain wType (by decide))), splitC_app (a _ h1), splitC_app (a _ h2), splitC_app (a _ (dec_num h3 h4).2), splitC_one (a _ (dec_num h5 h6).2)]
theorem read_type {t : Typ} (h : Fine4 t) (T : List Typ) (d la : Nat) (hd : d = 0 ∨ d = 3) :
  readLine ⟨T, d, la⟩ (splitC 32 (typeLine t)) = some ⟨T ++ [⟨t.name, t.ware, t.least, t.most, ByteArray.empty, ByteArray.empty, noAfter⟩], 1, la⟩ := by
 rw [split_type h]
 obtain ⟨_, _, g1, g2, h3, h4, h5, h6, _⟩ := h
 unfold readLine
 simp only [isW_self wType (by decide), if_true, (dec_num h3 h4).1, (dec_num h5 h6).1, mkB_bl]
 have e1 : (bl t.name).isEmpty = false := by simpa using g1
 have e2 : (bl t.ware).isEmpty = false := by simpa using g2
 rw [if_pos]
 rcases hd with rfl | rfl <;> simp [e1, e2]
theorem setLast_snoc (T : List Typ) (t : Typ) (f : Typ → Typ) : setLast (T ++ [t]) f = T ++ [f t] := by simp [setLast]
theorem read_rim {t : Typ} (h : Fine4 t) (T : List Typ) (u : Typ) (la : Nat) : readLine ⟨T ++ [u], 1, la⟩ (splitC 32 (rimLine t)) = some ⟨T ++ [{ u with rim := t.rim }], 2, la⟩ := by
 obtain ⟨_, _, _, _, _, _, _, _, h1, _⟩ := h
 have a := fun l hl => not_mem_plain (l := l) (c := 32) (.inl rfl) hl
 unfold rimLine
 rw [splitC_app (a _ (chars_plain wRim (by decide))), splitC_one (a _ (let_plain (classes_set h1)))]
 unfold readLine
 have n1 : isW (chars wRim) wType = false := by decide
 simp only [n1, isW_self wRim (by decide), if_true, h1, setLast_snoc, mkB_bl, Bool.false_eq_true, if_false]
 simp
theorem read_base {t : Typ} (h : Fine4 t) (T : List Typ) (u : Typ) (la : Nat) : readLine ⟨T ++ [u], 2, la⟩ (splitC 32 (baseLine t)) = some ⟨T ++ [{ u with base := t.base }], 3, 0⟩ := by
 obtain ⟨_, _, _, _, _, _, _, _, _, h1, _⟩ := h
 have a := fun l hl => not_mem_plain (l := l) (c := 32) (.inl rfl) hl
 unfold baseLine
 rw [splitC_app (a _ (chars_plain wBase (by decide))), splitC_one (a _ (let_plain (classes_set h1)))]
 unfold readLine
 have n1 : isW (chars wBase) wType = false := by decide
 have n2 : isW (chars wBase) wRim = false := by decide
 simp only [n1, n2, isW_self wBase (by decide), if_true, h1, setLast_snoc, mkB_bl, Bool.false_eq_true, if_false]
 simp
theorem one_class {c : Nat} (hc : c < 26) : classesB [chC c] = true := by
 have : ∀ c, c < 26 → classesB [chC c] = true := by decide +kernel
 exact this c hc
theorem read_after {t : Typ} (h : Fine4 t) (T : List Typ) (u : Typ) (la c : Nat) (hc : c < 26) (hne : bl (t.after c) ≠ []) (hla : la < 97 + c) :
  readLine ⟨T ++ [u], 3, la⟩ (splitC 32 (afterLine c (t.after c))) = some ⟨T ++ [{ u with after := fun d => if d = c then t.after c else u.after d }], 3, 97 + c⟩ := by
 have hs := h.2.2.2.2.2.2.2.2.2.2 c hc
 have hcb : classesB (bl (t.after c)) = true := by simp [classesB, hs]; simpa using hne
 have a := fun l hl => not_mem_plain (l := l) (c := 32) (.inl rfl) hl
 unfold afterLine
 rw [splitC_app (a _ (chars_plain wAfter (by decide)))]
 have h32 : (32 : UInt8) ∉ [chC c] := by
  have := not_mem_plain (c := 32) (.inl rfl) (let_plain (classes_set (one_class hc)))
  exact this
 have := splitC_app h32 (bl (t.after c))
 simp only [List.singleton_append] at this
 rw [this, splitC_one (a _ (let_plain hs))]
 unfold readLine
 have n1 : isW (chars wAfter) wType = false := by decide
 have n2 : isW (chars wAfter) wRim = false := by decide
 have n3 : isW (chars wAfter) wBase = false := by decide
 simp only [n1, n2, n3, isW_self wAfter (by decide), if_true, hcb, one_class hc, setLast_snoc, mkB_bl, Bool.false_eq_true, if_false, chC_nat hc, cl_ch hc]
 simp [hla]
theorem blank_no (l : List UInt8) (b : UInt8) (k : List UInt8) (e : l = b :: k) (h : b ≠ 35) : ¬ blankLine l = true := by subst e; simp [blankLine, h]
theorem nb_type (t : Typ) : ¬ blankLine (typeLine t) = true := blank_no _ 116 _ rfl (by decide)
theorem nb_rim (t : Typ) : ¬ blankLine (rimLine t) = true := blank_no _ 114 _ rfl (by decide)
theorem nb_base (t : Typ) : ¬ blankLine (baseLine t) = true := blank_no _ 98 _ rfl (by decide)
theorem nb_after (c : Nat) (s : ByteArray) : ¬ blankLine (afterLine c s) = true := blank_no _ 97 _ rfl (by decide)
theorem afterLines_succ (t : Typ) (k : Nat) : afterLines t (k + 1) = afterLines t k ++ if bl (t.after k) = [] then [] else [afterLine k (t.after k)] := by
 unfold afterLines
 rw [List.range_succ, List.filter_append, List.map_append]
 congr 1
 rcases h : bl (t.after k) with _ | ⟨x, y⟩
 ·have : (List.filter (fun c => !(bl (t.after c)).isEmpty) [k]) = [] := by rw [List.filter_cons_of_neg (by rw [h]; simp)]; rfl
  rw [this]; rfl
 ·have : (List.filter (fun c => !(bl (t.after c)).isEmpty) [k]) = [k] := by rw [List.filter_cons_of_pos (by rw [h]; rfl)]; rfl
  rw [this, if_neg (by simp)]; rfl
theorem bl_nil {s : ByteArray} (h : bl s = []) : s = ByteArray.empty := by rw [← mkB_bl s, h]; rfl
theorem read_afters {t : Typ} (h : Fine4 t) (T : List Typ) (u : Typ) (hu : u.after = noAfter) : ∀ (k : Nat), k ≤ 26 → ∀ n, ∃ u' la, readAll n ⟨T ++ [u], 3, 0⟩ (afterLines t k) = .inl ⟨T ++ [u'], 3, la⟩ ∧ la < 97 + k ∧
  (u'.name = u.name ∧ u'.ware = u.ware ∧ u'.least = u.least ∧ u'.most = u.most ∧ u'.rim = u.rim ∧ u'.base = u.base) ∧ (∀ c, c < k → u'.after c = t.after c) ∧ ∀ c, k ≤ c → u'.after c = ByteArray.empty := by
 intro k
 induction k with
 | zero => exact fun _ n => ⟨u, 0, rfl, by omega, ⟨rfl, rfl, rfl, rfl, rfl, rfl⟩, fun c hc => absurd hc (Nat.not_lt_zero c), fun c _ => by rw [hu]; rfl⟩
 | succ k ih =>
  intro hk n
  obtain ⟨u', la, h1, h2, h3, h4, h5⟩ := ih (by omega) n
  rw [afterLines_succ, readAll_app, h1]
  by_cases hn : bl (t.after k) = []
  ·simp only [hn, if_true, readAll]
   refine ⟨u', la, rfl, by omega, h3, fun c hc => ?_, fun c hc => h5 c (by omega)⟩
   rcases Nat.lt_or_ge c k with hc' | hc'
   ·exact h4 c hc'
   ·have : c = k := by omega
    subst this; rw [h5 c (Nat.le_refl _), bl_nil hn]
  ·simp only [hn, if_false]
   rw [readAll_cons, if_neg (nb_after _ _), read_after h T u' la k (by omega) hn (by omega)]
   simp only [readAll]
   refine ⟨_, _, rfl, by omega, h3, fun c hc => ?_, fun c hc => ?_⟩
   ·rcases Nat.lt_or_ge c k with hc' | hc'
    ·simp only [show ¬ c = k by omega, if_false]; exact h4 c hc'
    ·have : c = k := by omega
     simp [this]
   ·simp only [show ¬ c = k by omega, if_false]; exact h5 c (by omega)
theorem read_one {t : Typ} (h : Fine4 t) (T : List Typ) (d la n : Nat) (hd : d = 0 ∨ d = 3) : ∃ u la', readAll n ⟨T, d, la⟩ (linesOf t) = .inl ⟨T ++ [u], 3, la'⟩ ∧ sameT u t := by
 unfold linesOf
 simp only [List.cons_append, List.nil_append]
 rw [readAll_cons, if_neg (nb_type _), read_type h T d la hd]
 simp only
 rw [readAll_cons, if_neg (nb_rim _), read_rim h]
 simp only
 rw [readAll_cons, if_neg (nb_base _), read_base h]
 simp only
 obtain ⟨u, la', h1, _, h3, h4, _⟩ := read_afters h T ⟨t.name, t.ware, t.least, t.most, t.rim, t.base, noAfter⟩ rfl 26 (Nat.le_refl _) (n + 1 + 1 + 1)
 exact ⟨u, la', h1, h3.1, h3.2.1, h3.2.2.1, h3.2.2.2.1, h3.2.2.2.2.1, h3.2.2.2.2.2, h4⟩
theorem read_types : ∀ (l : List Typ) (_ : ∀ t ∈ l, Fine4 t) (T : List Typ) (d la n : Nat) (_ : d = 0 ∨ d = 3), ∃ L d' la', readAll n ⟨T, d, la⟩ (l.flatMap linesOf) = .inl ⟨T ++ L, d', la'⟩ ∧ (d' = 0 ∨ d' = 3) ∧ L.length = l.length ∧ ∀ (i : Nat) u t, L[i]? = some u → l[i]? = some t → sameT u t
 | [], _, T, d, la, n, hd => ⟨[], d, la, by simp [readAll], hd, rfl, fun i u t h _ => by simp at h⟩
 | t :: l, h, T, d, la, n, hd => by
  obtain ⟨u, la1, h1, h2⟩ := read_one (h t (by simp)) T d la n hd
  obtain ⟨L, d', la', h3, h4, h5, h6⟩ := read_types l (fun x hx => h x (by simp [hx])) (T ++ [u]) 3 la1 (n + (linesOf t).length) (.inr rfl)
  refine ⟨u :: L, d', la', ?_, h4, by simp [h5], fun i x y hx hy => ?_⟩
  ·rw [List.flatMap_cons, readAll_app, h1]
   simp only
   rw [h3]; simp
  ·cases i with
   | zero => simp at hx hy; subst hx; subst hy; exact h2
   | succ i => exact h6 i x y (by simpa using hx) (by simpa using hy)
theorem plain_lines {t : Typ} (h : Fine4 t) : ∀ l ∈ linesOf t, (10 : UInt8) ∉ l := by
 obtain ⟨h1, h2, _, _, h3, h4, h5, h6, h7, h8, h9⟩ := h
 have a := fun l hl => not_mem_plain (l := l) (c := 10) (.inr rfl) hl
 have w1 := a _ (chars_plain wType (by decide))
 have w2 := a _ (chars_plain wRim (by decide))
 have w3 := a _ (chars_plain wBase (by decide))
 have w4 := a _ (chars_plain wAfter (by decide))
 have e : ¬ (10 : UInt8) = 32 := by decide
 intro l hl
 simp only [linesOf, List.cons_append, List.nil_append, List.mem_cons, afterLines, List.mem_map, List.mem_filter, List.mem_range] at hl
 rcases hl with rfl | rfl | rfl | ⟨c, ⟨hc, _⟩, rfl⟩
 ·simp only [typeLine, List.mem_append, List.mem_cons, not_or]
  exact ⟨⟨⟨⟨w1, e, a _ h1⟩, e, a _ h2⟩, e, a _ (dec_num h3 h4).2⟩, e, a _ (dec_num h5 h6).2⟩
 ·simp only [rimLine, List.mem_append, List.mem_cons, not_or]
  exact ⟨w2, e, a _ (let_plain (classes_set h7))⟩
 ·simp only [baseLine, List.mem_append, List.mem_cons, not_or]
  exact ⟨w3, e, a _ (let_plain (classes_set h8))⟩
 ·simp only [afterLine, List.mem_append, List.mem_cons, not_or]
  refine ⟨w4, e, ?_, e, a _ (let_plain (h9 c hc))⟩
  intro e'; have := congrArg UInt8.toNat e'; rw [chC_nat hc] at this; simp at this; omega
/-- what has been written is read again -/
theorem read_print {l : List Typ} (h : ∀ t ∈ l, Fine4 t) : ∃ L d la, readAll 0 ⟨[], 0, 0⟩ (splitC 10 (printOf l)) = .inl ⟨L, d, la⟩ ∧ (d = 0 ∨ d = 3) ∧ L.length = l.length ∧ ∀ (i : Nat) u t, L[i]? = some u → l[i]? = some t → sameT u t := by
 unfold printOf
 rw [split_lines (fun x hx => by
  obtain ⟨t, ht, hx⟩ := List.mem_flatMap.1 hx
  exact plain_lines (h t ht) x hx), readAll_app]
 obtain ⟨L, d, la, h1, h2, h3, h4⟩ := read_types l h [] 0 0 0 (.inl rfl)
 rw [h1]
 exact ⟨L, d, la, by simp [readAll, blankLine], h2, h3, h4⟩
end Go.Proofs.YthpjffhccjlnhaaGreatDoor
