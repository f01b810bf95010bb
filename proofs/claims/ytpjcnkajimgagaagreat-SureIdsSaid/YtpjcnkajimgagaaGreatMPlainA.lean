/- Which lists fit: plain lists, no program. -/
/- Numbers of whatever kind, put as a reassembly has them; plain, no program. -/
import Derived.Test.YtpjcnkajimgagaaGreatMPlain
import Derived.Test.YtpjcnkajimgagaaGreatMFind
set_option linter.unusedSimpArgs false
set_option linter.unusedVariables false
namespace Go.Proofs.YtpjcnkajimgagaaGreat
open Go.RowKit

def fitsB (c : Cs) (l : List Int) : Bool := (allR c).any fun x => natInts x == l
theorem fitsB_iff {c : Cs} {l : List Int} : fitsB c l = true ↔ ∃ x, Reas c x ∧ natInts x = l := by
 simp only [fitsB, List.any_eq_true, beq_iff_eq]
 exact ⟨fun ⟨x, h, e⟩ => ⟨x, mem_allR.1 h, e⟩, fun ⟨x, h, e⟩ => ⟨x, mem_allR.2 h, e⟩⟩
theorem manyOf_le_iff {m : Nat} : ∀ {x : List Nat}, manyOf x ≤ m ↔ ∀ v ∈ x, v + 1 ≤ m := by
 intro x
 have h : ∀ (x : List Nat) (a : Nat), x.foldl (fun m v => max m (v + 1)) a ≤ m ↔ a ≤ m ∧ ∀ v ∈ x, v + 1 ≤ m := by
  intro x
  induction x with
  | nil => intro a; simp
  | cons v x ih =>
   intro a
   rw [List.foldl_cons, ih]
   simp only [List.mem_cons, forall_eq_or_imp, Nat.max_le, and_assoc]
 rw [manyOf, h]
 simp
theorem natInts_inj {x y : List Nat} (h : natInts x = natInts y) : x = y := by
 induction x generalizing y with
 | nil => cases y with
  | nil => rfl
  | cons b y => simp [natInts] at h
 | cons a x ih => cases y with
  | nil => simp [natInts] at h
  | cons b y =>
   simp only [natInts, List.map_cons, List.cons.injEq] at h
   rw [ih (y := y) h.2]
   congr 1
   omega
/-- the numbers in front are right as far as they go -/
structure FitTo (c : Cs) (l : List Int) (k : Nat) (pre : List Nat) : Prop where
 eq : l.take k = natInts pre
 len : pre.length = k
 le : k ≤ c.parts.length
 grow : ∀ i (h : i < pre.length), pre[i] ≤ manyOf (pre.take i)
 apart : ∀ p q (hp : p < pre.length) (hq : q < p), pre[q] = pre[p] → clashB c p q = false
theorem FitTo.nil (c : Cs) (l : List Int) : FitTo c l 0 [] := ⟨by simp [natInts], rfl, Nat.zero_le _, by simp, by simp⟩
theorem natInts_take (x : List Nat) (k : Nat) : (natInts x).take k = natInts (x.take k) := by simp [natInts, List.map_take]
/-- a reassembly that reads as the list begins with them -/
theorem FitTo.pre_eq {c : Cs} {l : List Int} {k : Nat} {pre : List Nat} (h : FitTo c l k pre) {x : List Nat} (hx : natInts x = l) : x.take k = pre := by
 apply natInts_inj
 rw [← natInts_take, hx, h.eq]
theorem natInts_get {x : List Nat} {k : Nat} {v : Int} (h : (natInts x)[k]? = some v) : ∃ u : Nat, x[k]? = some u ∧ v = u := by
 simp only [natInts, List.getElem?_map, Option.map_eq_some_iff] at h
 obtain ⟨u, hu, rfl⟩ := h
 exact ⟨u, hu, rfl⟩
theorem FitTo.long {c : Cs} {l : List Int} {k : Nat} (hk : k < l.length) (hn : c.parts.length ≤ k) : fitsB c l = false := by
 rw [Bool.eq_false_iff]
 intro h
 obtain ⟨x, hx, rfl⟩ := fitsB_iff.1 h
 have := hx.len
 simp [natInts] at hk
 omega
theorem FitTo.out {c : Cs} {l : List Int} {k : Nat} {pre : List Nat} (h : FitTo c l k pre) {v : Int} (hv : l[k]? = some v) (hb : inB v 0 (manyOf pre) = false) : fitsB c l = false := by
 rw [Bool.eq_false_iff]
 intro hf
 obtain ⟨x, hx, rfl⟩ := fitsB_iff.1 hf
 have hp := h.pre_eq rfl
 obtain ⟨u, hu, rfl⟩ := natInts_get hv
 obtain ⟨hk, hu⟩ := List.getElem?_eq_some_iff.1 hu
 have := hx.grow k hk
 rw [hp, hu] at this
 simp [inB] at hb
 omega
theorem FitTo.clash {c : Cs} {l : List Int} {k q : Nat} {pre : List Nat} (h : FitTo c l k pre) {v : Nat} (hv : l[k]? = some (v : Int)) (hq : q < k) (hqv : pre[q]? = some v) (hc : clashB c k q = true) : fitsB c l = false := by
 rw [Bool.eq_false_iff]
 intro hf
 obtain ⟨x, hx, rfl⟩ := fitsB_iff.1 hf
 have hp := h.pre_eq rfl
 obtain ⟨u, hu, hvu⟩ := natInts_get hv
 obtain ⟨hk, hu⟩ := List.getElem?_eq_some_iff.1 hu
 have h1 := hx.apart k q hk hq (by
  rw [← hp, List.getElem?_take_of_lt hq] at hqv
  obtain ⟨_, hqv⟩ := List.getElem?_eq_some_iff.1 hqv
  rw [hqv, hu]; omega)
 rw [hc] at h1
 cases h1
theorem FitTo.step {c : Cs} {l : List Int} {k : Nat} {pre : List Nat} (h : FitTo c l k pre) {v : Nat} (hv : l[k]? = some (v : Int)) (hk : k < c.parts.length) (hb : v ≤ manyOf pre) (hc : ∀ q, q < k → pre[q]? = some v → clashB c k q = false) : FitTo c l (k + 1) (pre ++ [v]) := by
 refine ⟨by rw [take_snoc hv, h.eq]; simp [natInts], by simp [h.len], by omega, fun i hi => ?_, fun p q hp hq e => ?_⟩
 ·rcases Nat.lt_or_ge i pre.length with hlt | hge
  ·rw [List.getElem_append_left hlt, List.take_append_of_le_length (by omega)]
   exact h.grow i hlt
  ·have : i = pre.length := by simp at hi; omega
   subst this
   simpa using hb
 ·rcases Nat.lt_or_ge p pre.length with hlt | hge
  ·rw [List.getElem_append_left hlt, List.getElem_append_left (by omega)] at e
   exact h.apart p q hlt hq e
  ·have : p = pre.length := by simp at hp; omega
   subst this
   rw [h.len] at hq ⊢
   refine hc q hq ?_
   rw [List.getElem?_eq_getElem (by rw [h.len]; omega)]
   simp at e
   rw [List.getElem_append_left (by rw [h.len]; omega)] at e
   rw [e]
theorem FitTo.done {c : Cs} {l : List Int} {k : Nat} {pre : List Nat} (h : FitTo c l k pre) (hk : ¬ k < l.length) (hl : 0 ≤ c.limit) : fitsB c l = (((l.length : Int) == (c.parts.length : Int)) && ((c.limit == 0) || decide ((manyOf pre : Int) ≤ c.limit))) := by
 have he : natInts pre = l := by rw [← h.eq, List.take_of_length_le (by omega)]
 have hlen : l.length = pre.length := by rw [← he]; simp [natInts]
 rw [Bool.eq_iff_iff, fitsB_iff]
 simp only [Bool.and_eq_true, beq_iff_eq, Bool.or_eq_true, decide_eq_true_eq]
 have hlim : (∀ v ∈ pre, limB c v = true) ↔ c.limit = 0 ∨ (manyOf pre : Int) ≤ c.limit := by
  have h1 : (manyOf pre : Int) ≤ c.limit ↔ manyOf pre ≤ c.limit.toNat := by omega
  rw [h1, manyOf_le_iff]
  constructor
  ·intro h2
   by_cases h0 : c.limit = 0
   ·exact .inl h0
   ·refine .inr fun v hv => ?_
    have := h2 v hv
    simp [limB] at this
    omega
  ·rintro (h0 | h2) v hv
   ·simp [limB, h0]
   ·have := h2 v hv
    simp [limB]; omega
 constructor
 ·rintro ⟨x, hx, hxe⟩
  have : x = pre := natInts_inj (hxe.trans he.symm)
  subst this
  exact ⟨by have := hx.len; omega, hlim.1 hx.lim⟩
 ·rintro ⟨h1, h2⟩
  exact ⟨pre, ⟨by omega, h.grow, h.apart, hlim.2 h2⟩, he⟩
end Go.Proofs.YtpjcnkajimgagaaGreat
namespace Go.Proofs.YtpjcnkajimgagaaGreat
open Go.RowKit

def nth (x : List Nat) (a : Nat) : Nat := x[a]?.getD 0
theorem nth_get {x : List Nat} {a : Nat} (h : a < x.length) : nth x a = x[a] := by
 unfold nth; rw [List.getElem?_eq_getElem h]; rfl
theorem nth_lt {x : List Nat} {a : Nat} (h : a < x.length) : nth x a < manyOf x := by
 unfold nth
 rw [List.getElem?_eq_getElem h, Option.getD_some]
 exact (manyOf_le_iff (m := manyOf x)).1 (Nat.le_refl _) _ (List.getElem_mem h)
theorem nth_app {x : List Nat} {v a : Nat} (h : a < x.length) : nth (x ++ [v]) a = nth x a := by
 unfold nth
 rw [List.getElem?_append_left h]
theorem nth_end (x : List Nat) (v : Nat) : nth (x ++ [v]) x.length = v := by
 unfold nth
 simp
theorem canon (z : Nat → Nat) : ∀ n, ∃ x : List Nat, x.length = n ∧ (∀ i (h : i < x.length), x[i] ≤ manyOf (x.take i)) ∧ (∀ a b, a < n → b < n → (nth x a = nth x b ↔ z a = z b)) ∧ ∀ v, v < manyOf x → ∃ a, a < n ∧ nth x a = v
 | 0 => ⟨[], rfl, by simp, by simp, by simp [manyOf]⟩
 | n + 1 => by
  obtain ⟨x, hl, hg, hi, ho⟩ := canon z n
  subst hl
  have step : ∀ v, v ≤ manyOf x → (∀ a, a < x.length → (nth x a = v ↔ z a = z x.length)) → ∃ y : List Nat, y.length = x.length + 1 ∧ (∀ i (h : i < y.length), y[i] ≤ manyOf (y.take i)) ∧ (∀ a b, a < x.length + 1 → b < x.length + 1 → (nth y a = nth y b ↔ z a = z b)) ∧ ∀ v, v < manyOf y → ∃ a, a < x.length + 1 ∧ nth y a = v := by
   intro v hv hz
   refine ⟨x ++ [v], by simp, fun i h => ?_, fun a b ha hb => ?_, fun u hu => ?_⟩
   ·rcases Nat.lt_or_ge i x.length with h1 | h1
    ·rw [List.getElem_append_left h1, List.take_append_of_le_length (by omega)]
     exact hg i h1
    ·have : i = x.length := by simp at h; omega
     subst this
     simpa using hv
   ·rcases Nat.lt_or_ge a x.length with h1 | h1 <;> rcases Nat.lt_or_ge b x.length with h2 | h2
    ·rw [nth_app h1, nth_app h2]; exact hi a b h1 h2
    ·have : b = x.length := by omega
     subst this
     rw [nth_app h1, nth_end]; exact hz a h1
    ·have : a = x.length := by omega
     subst this
     rw [nth_app h2, nth_end]
     exact ⟨fun e => ((hz b h2).1 e.symm).symm, fun e => ((hz b h2).2 e.symm).symm⟩
    ·have h3 : a = x.length := by omega
     have h4 : b = x.length := by omega
     subst h3
     rw [h4]; simp
   ·rw [manyOf_snoc] at hu
    rcases Nat.lt_or_ge u (manyOf x) with h1 | h1
    ·obtain ⟨a, ha, e⟩ := ho u h1
     exact ⟨a, by omega, by rw [nth_app ha, e]⟩
    ·exact ⟨x.length, by omega, by rw [nth_end]; omega⟩
  by_cases h : ∃ j, j < x.length ∧ z j = z x.length
  ·obtain ⟨j, hj, e⟩ := h
   exact step (nth x j) (Nat.le_of_lt (nth_lt hj)) (fun a ha => by rw [← e]; exact hi a j ha hj)
  ·refine step (manyOf x) (Nat.le_refl _) (fun a ha => ⟨fun e => ?_, fun e => absurd ⟨a, ha, e⟩ h⟩)
   have := nth_lt ha
   omega
theorem picks {x : List Nat} {n : Nat} (ho : ∀ v, v < manyOf x → ∃ a, a < n ∧ nth x a = v) : ∀ m, m ≤ manyOf x → ∃ ps : List Nat, (∀ p ∈ ps, p < n) ∧ ps.map (nth x) = List.range m
 | 0, _ => ⟨[], by simp, rfl⟩
 | m + 1, h => by
  obtain ⟨ps, h1, h2⟩ := picks ho m (by omega)
  obtain ⟨a, ha, e⟩ := ho m (by omega)
  refine ⟨ps ++ [a], fun p hp => ?_, by rw [List.map_append, h2, List.range_succ]; simp [e]⟩
  rcases List.mem_append.1 hp with hp | hp
  ·exact h1 p hp
  ·rw [List.mem_singleton.1 hp]; exact ha
/-- the reassembly that parts as the numbers do -/
theorem GoodZ.reas {c : Cs} {z : Nat → Nat} (G : GoodZ c c.parts.length z) : ∃ x, Reas c x ∧ ∀ a b, a < c.parts.length → b < c.parts.length → (nth x a = nth x b ↔ z a = z b) := by
 obtain ⟨x, hl, hg, hi, ho⟩ := canon z c.parts.length
 have get : ∀ p (hp : p < x.length), x[p] = nth x p := fun p hp => by unfold nth; rw [List.getElem?_eq_getElem hp]; rfl
 refine ⟨x, ⟨hl, hg, fun p q hp hq e => ?_, fun v hv => ?_⟩, hi⟩
 ·rw [get p hp, get q (by omega)] at e
  have h1 := (hi q p (by omega) (by omega)).1 e
  rcases hc : clashB c p q with _ | _
  ·rfl
  ·exact absurd h1.symm (G.clash p q (by omega) (by omega) hc)
 ·by_cases hlim : 0 < c.limit
  ·obtain ⟨ps, h1, h2⟩ := picks ho (manyOf x) (Nat.le_refl _)
   have h3 := G.lim hlim ps h1 (by
    have h4 : (ps.map (nth x)).Pairwise (· ≠ ·) := by rw [h2]; exact List.nodup_range
    rw [List.pairwise_map] at h4
    refine List.Pairwise.imp_of_mem (fun {a b} ha hb h e => ?_) h4
    exact h ((hi a b (h1 a ha) (h1 b hb)).2 e))
   have h5 : ps.length = manyOf x := by
    have := congrArg List.length h2
    simpa using this
   have h6 := (manyOf_le_iff (m := manyOf x)).1 (Nat.le_refl _) v hv
   simp [limB]; omega
  ·simp [limB]; omega
end Go.Proofs.YtpjcnkajimgagaaGreat
