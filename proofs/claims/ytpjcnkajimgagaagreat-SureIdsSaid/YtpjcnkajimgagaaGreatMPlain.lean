/- What the reassemblies are: plain lists, no program. -/
/- Which parts are of one class: plain, no program. -/
/- A refutation that is accepted holds in no reassembly; plain, no program. -/
import Derived.Test.YtpjcnkajimgagaaGreatMWords
import Derived.Test.YtpjcnkajimgagaaGreatMNeed
import Derived.Test.YtpjcnkajimgagaaGreatMWalk
set_option linter.unusedSimpArgs false
set_option linter.unusedVariables false
namespace Go.Proofs.YtpjcnkajimgagaaGreat
open Go.RowKit

/-- numbers behind numbers, each as it may be -/
def OkExt (c : Cs) : List Nat → List Nat → Prop
 | _, [] => True
 | pre, v :: e => v ≤ manyOf pre ∧ freeB c pre v = true ∧ OkExt c (pre ++ [v]) e
theorem mem_allGo (c : Cs) : ∀ (r : Nat) (pre x : List Nat), x ∈ allGo c r pre ↔ ∃ e, x = pre ++ e ∧ e.length = r ∧ OkExt c pre e
 | 0, pre, x => by
  simp only [allGo, List.mem_singleton]
  constructor
  ·rintro rfl; exact ⟨[], by simp, rfl, trivial⟩
  ·rintro ⟨e, rfl, he, _⟩
   rw [List.eq_nil_of_length_eq_zero he]; simp
 | r + 1, pre, x => by
  simp only [allGo, List.mem_flatMap, List.mem_range]
  constructor
  ·rintro ⟨v, hv, h⟩
   split at h
   ·rename_i hf
    obtain ⟨e, rfl, he, ho⟩ := (mem_allGo c r (pre ++ [v]) x).1 h
    exact ⟨v :: e, by simp, by simp [he], by omega, hf, ho⟩
   ·simp at h
  ·rintro ⟨e, rfl, he, ho⟩
   rcases e with _ | ⟨v, e⟩
   ·simp at he
   ·obtain ⟨h1, h2, h3⟩ := ho
    refine ⟨v, by omega, ?_⟩
    rw [if_pos h2]
    exact (mem_allGo c r (pre ++ [v]) _).2 ⟨e, by simp, by simpa using he, h3⟩
theorem okExt_at {c : Cs} : ∀ {e pre : List Nat}, OkExt c pre e ↔ ∀ i (h : i < e.length), e[i] ≤ manyOf (pre ++ e.take i) ∧ freeB c (pre ++ e.take i) e[i] = true
 | [], pre => by simp [OkExt]
 | v :: e, pre => by
  simp only [OkExt]
  rw [okExt_at (e := e) (pre := pre ++ [v])]
  constructor
  ·rintro ⟨h1, h2, h3⟩ i hi
   rcases i with _ | i
   ·simpa using ⟨h1, h2⟩
   ·have := h3 i (by simpa using hi)
    simpa using this
  ·intro h
   have h0 := h 0 (by simp)
   refine ⟨by simpa using h0.1, by simpa using h0.2, fun i hi => ?_⟩
   have := h (i + 1) (by simpa using hi)
   simpa using this
/-- a reassembly -/
structure Reas (c : Cs) (x : List Nat) : Prop where
 len : x.length = c.parts.length
 grow : ∀ i (h : i < x.length), x[i] ≤ manyOf (x.take i)
 apart : ∀ p q (hp : p < x.length) (hq : q < p), x[q] = x[p] → clashB c p q = false
 lim : ∀ v ∈ x, limB c v = true
theorem noClash_at {c : Cs} {x : List Nat} {i : Nat} (hi : i < x.length) : noClash c (x.take i) x[i] = true ↔ ∀ q (hq : q < i), x[q] = x[i] → clashB c i q = false := by
 unfold noClash
 rw [upto_iff, List.length_take, Nat.min_eq_left (by omega)]
 constructor
 ·intro h q hq e
  have h1 := h q hq
  rw [List.getElem?_take_of_lt hq, List.getElem?_eq_getElem (by omega)] at h1
  simp [e] at h1
  exact h1
 ·intro h q hq
  rw [List.getElem?_take_of_lt hq, List.getElem?_eq_getElem (by omega)]
  by_cases e : x[q] = x[i]
  ·simp [e, h q hq e]
  ·simp [e]
theorem mem_allR {c : Cs} {x : List Nat} : x ∈ allR c ↔ Reas c x := by
 unfold allR
 rw [mem_allGo]
 constructor
 ·rintro ⟨e, rfl, he, ho⟩
  rw [okExt_at] at ho
  simp only [List.nil_append] at ho ⊢
  refine ⟨he, fun i h => (ho i h).1, fun p q hp hq => ?_, fun v hv => ?_⟩
  ·have := (ho p hp).2
   simp only [freeB, Bool.and_eq_true] at this
   exact (noClash_at hp).1 this.2 q hq
  ·obtain ⟨i, hi, rfl⟩ := List.getElem_of_mem hv
   have := (ho i hi).2
   simp only [freeB, Bool.and_eq_true] at this
   exact this.1
 ·intro h
  refine ⟨x, by simp, h.len, ?_⟩
  rw [okExt_at]
  intro i hi
  simp only [List.nil_append, freeB, Bool.and_eq_true]
  exact ⟨h.grow i hi, h.lim _ (List.getElem_mem hi), (noClash_at hi).2 fun q hq => h.apart i q hi hq⟩
end Go.Proofs.YtpjcnkajimgagaaGreat
namespace Go.Proofs.YtpjcnkajimgagaaGreat
open Go.RowKit

def EdgeB (d : Nat → Nat → Nat) (n a b : Nat) : Prop := a < n ∧ b < n ∧ d a b &&& 1 ≠ 0
inductive Conn (d : Nat → Nat → Nat) (n : Nat) : Nat → Nat → Prop
 | refl (a : Nat) : Conn d n a a
 | step {a b c : Nat} (h : EdgeB d n a b) (r : Conn d n b c) : Conn d n a c
def SymD (d : Nat → Nat → Nat) : Prop := ∀ a b, d a b = d b a
section
variable {d : Nat → Nat → Nat} {n : Nat}
theorem EdgeB.symm (hs : SymD d) {a b : Nat} (h : EdgeB d n a b) : EdgeB d n b a := ⟨h.2.1, h.1, by rw [hs b a]; exact h.2.2⟩
theorem Conn.one {a b : Nat} (h : EdgeB d n a b) : Conn d n a b := .step h (.refl _)
theorem Conn.trans {a b c : Nat} (h : Conn d n a b) (k : Conn d n b c) : Conn d n a c := by
 induction h with
 | refl => exact k
 | step e _ ih => exact .step e (ih k)
theorem Conn.symm (hs : SymD d) {a b : Nat} (h : Conn d n a b) : Conn d n b a := by
 induction h with
 | refl => exact .refl _
 | step e _ ih => exact ih.trans (.one (e.symm hs))
/-- what holds of numbers that are Conn to their parts stays so -/
theorem step_conn (hs : SymD d) {f : Nat → Nat} (hf : ∀ i, Conn d n i (f i)) {x y : Nat} (hx : x < n) (hy : y < n) : ∀ i, Conn d n i (stepOf d f x y i) := by
 intro i
 unfold stepOf
 split
 ·rename_i he
  have e : EdgeB d n x y := ⟨hx, hy, he⟩
  simp only [upd]
  split
  ·rename_i h; subst h
   rcases Nat.le_total (f x) (f i) with h1 | h1
   ·rw [Nat.min_eq_left h1]; exact .step (e.symm hs) (hf x)
   ·rw [Nat.min_eq_right h1]; exact hf i
  ·split
   ·rename_i h; subst h
    rcases Nat.le_total (f i) (f y) with h1 | h1
    ·rw [Nat.min_eq_left h1]; exact hf i
    ·rw [Nat.min_eq_right h1]; exact .step e (hf y)
   ·exact hf i
 ·exact hf i
theorem row_conn (hs : SymD d) {f : Nat → Nat} (hf : ∀ i, Conn d n i (f i)) {x : Nat} (hx : x < n) : ∀ y, y ≤ n → ∀ i, Conn d n i (rowP d x f y i)
 | 0, _ => hf
 | y + 1, hy => step_conn hs (row_conn hs hf hx y (by omega)) hx (by omega)
theorem pass_conn (hs : SymD d) {f : Nat → Nat} (hf : ∀ i, Conn d n i (f i)) : ∀ x, x ≤ n → ∀ i, Conn d n i (passP d n f x i)
 | 0, _ => hf
 | x + 1, hx => row_conn hs (pass_conn hs hf x (by omega)) (by omega) n (Nat.le_refl _)
theorem go_conn (hs : SymD d) : ∀ k i, Conn d n i (clsGo d n k i)
 | 0, i => .refl i
 | k + 1, i => pass_conn hs (go_conn hs k) n (Nat.le_refl _) i
theorem rowP_anti (d : Nat → Nat → Nat) (x : Nat) (f : Nat → Nat) {y z : Nat} (h : y ≤ z) : Low (rowP d x f z) (rowP d x f y) := by
 obtain ⟨j, rfl⟩ := Nat.exists_eq_add_of_le h
 induction j with
 | zero => exact Low.refl _
 | succ j ih => exact (stepOf_low d _ x (y + j)).trans (ih (by omega))
theorem passP_anti (d : Nat → Nat → Nat) (n : Nat) (f : Nat → Nat) {x z : Nat} (h : x ≤ z) : Low (passP d n f z) (passP d n f x) := by
 obtain ⟨j, rfl⟩ := Nat.exists_eq_add_of_le h
 induction j with
 | zero => exact Low.refl _
 | succ j ih => exact (rowP_low d (x + j) _ n).trans (ih (by omega))
/-- where a pass changes nothing, parts that are joined have one number -/
theorem pass_edge (hn : n ≤ 8) {F : Nat → Nat} (hF : ∀ i, i < 8 → passP d n F n i = F i) {x y : Nat} (e : EdgeB d n x y) : F x = F y := by
 obtain ⟨hx, hy, he⟩ := e
 have lo : ∀ j, j ≤ n → ∀ i, i < 8 → rowP d x (passP d n F x) j i = F i := fun j hj i hi => by
  have h1 := (rowP_low d x (passP d n F x) j).trans (passP_low d n F x) i
  have h2 : Low (passP d n F n) (rowP d x (passP d n F x) j) := (passP_anti d n F (show x + 1 ≤ n by omega)).trans (rowP_anti d x _ hj)
  have h3 := h2 i
  rw [hF i hi] at h3
  omega
 have h1 := lo (y + 1) (by omega)
 have h0 := lo y (by omega)
 have hx1 := h1 x (by omega)
 have hy1 := h1 y (by omega)
 have e1 : rowP d x (passP d n F x) (y + 1) = stepOf d (rowP d x (passP d n F x) y) x y := rfl
 rw [e1] at hx1 hy1
 unfold stepOf at hx1 hy1
 rw [if_pos he] at hx1 hy1
 simp only [upd, if_true, h0 x (by omega), h0 y (by omega)] at hx1 hy1
 split at hx1
 ·rename_i h; rw [h]
 ·omega
theorem cls_fixed (hn : n ≤ 8) : ∀ i, i < 8 → passP d n (clsOf d n) n i = clsOf d n i := by
 by_cases h : ∃ j, j < 29 ∧ ofCells (clsGo d n (j + 1)) = ofCells (clsGo d n j)
 ·obtain ⟨j, hj, he⟩ := h
  have h1 := of_ext he
  have h2 : ∀ i, i < 8 → clsOf d n i = clsGo d n j i := fun i hi => cls_stay hn h1 60 (by omega) i hi
  intro i hi
  rw [passP_congr d hn h2 n (Nat.le_refl _) i hi, h2 i hi]
  exact h1 i (by simpa using hi)
 ·have := cls_done (d := d) hn 29 (fun j hj he => h ⟨j, hj, he⟩)
  omega
theorem cls_iff (hn : n ≤ 8) (hs : SymD d) {a b : Nat} : clsOf d n a = clsOf d n b ↔ Conn d n a b := by
 constructor
 ·intro h
  have h1 := go_conn (n := n) hs 60 a
  have h2 := go_conn (n := n) hs 60 b
  change clsGo d n 60 a = clsGo d n 60 b at h
  rw [h] at h1
  exact h1.trans (h2.symm hs)
 ·intro h
  induction h with
  | refl => rfl
  | step e _ ih => exact (pass_edge hn (cls_fixed hn) e).trans ih
/-- no more is joined than what is below n -/
theorem Conn.widen {m : Nat} (hm : n ≤ m) {a b : Nat} (h : Conn d n a b) : Conn d m a b := by
 induction h with
 | refl => exact .refl _
 | step e _ ih => exact .step ⟨by have := e.1; omega, by have := e.2.1; omega, e.2.2⟩ ih
theorem Conn.narrow {m : Nat} (hd : ∀ a b, d a b &&& 1 ≠ 0 → a < n ∧ b < n) {a b : Nat} (h : Conn d m a b) : Conn d n a b := by
 induction h with
 | refl => exact .refl _
 | step e _ ih => exact .step ⟨(hd _ _ e.2.2).1, (hd _ _ e.2.2).2, e.2.2⟩ ih
end
end Go.Proofs.YtpjcnkajimgagaaGreat
namespace Go.Proofs.YtpjcnkajimgagaaGreat
open Go.RowKit

theorem nodup_le {α : Type} [BEq α] [LawfulBEq α] : ∀ {l m : List α}, l.Nodup → (∀ a ∈ l, a ∈ m) → l.length ≤ m.length
 | [], _, _, _ => Nat.zero_le _
 | a :: l, m, h, hs => by
  have ha := hs a List.mem_cons_self
  have h1 := List.nodup_cons.1 h
  have h2 := nodup_le (l := l) (m := m.erase a) h1.2 (fun b hb => (List.mem_erase_of_ne (fun e => by subst e; exact h1.1 hb)).2 (hs b (List.mem_cons_of_mem _ hb)))
  rw [List.length_erase_of_mem ha] at h2
  have := List.length_pos_of_mem ha
  simp only [List.length_cons]; omega
/-- numbers that a reassembly may have -/
structure GoodZ (c : Cs) (n : Nat) (z : Nat → Nat) : Prop where
 clash : ∀ p q, p < n → q < n → clashB c p q = true → z p ≠ z q
 lim : 0 < c.limit → ∀ ps : List Nat, (∀ p ∈ ps, p < n) → ps.Pairwise (fun p q => z p ≠ z q) → (ps.length : Int) ≤ c.limit
theorem clashB_ne {c : Cs} {p q : Nat} (h : clashB c p q = true) : p ≠ q := by
 intro e
 subst e
 unfold clashB at h
 rcases hp : c.parts[p]? with _ | a
 ·simp [hp] at h
 ·simp [hp, clashP] at h
theorem clashB_sym (c : Cs) (x y : Nat) : clashB c x y = clashB c y x := by
 unfold clashB
 rcases c.parts[x]? with _ | p <;> rcases c.parts[y]? with _ | q <;> try rfl
 simp only [clashP, feetB]
 rw [Bool.eq_iff_iff]
 simp
 grind
theorem pairwise_nodup {ps : List Nat} {z : Nat → Nat} (h : ps.Pairwise (fun p q => z p ≠ z q)) : (ps.map z).Nodup := by
 rw [List.Nodup, List.pairwise_map]
 exact h
theorem Reas.good {c : Cs} {x : List Nat} (h : Reas c x) : GoodZ c c.parts.length (fun a => x[a]?.getD 0) := by
 refine ⟨fun p q hp hq hc e => ?_, fun hl ps hps hpw => ?_⟩
 ·have hne := clashB_ne hc
  rw [List.getElem?_eq_getElem (by rw [h.len]; exact hp), List.getElem?_eq_getElem (by rw [h.len]; exact hq)] at e
  simp only [Option.getD_some] at e
  rcases Nat.lt_or_ge q p with h1 | h1
  ·have := h.apart p q (by rw [h.len]; exact hp) h1 e.symm
   rw [hc] at this; cases this
  ·have := h.apart q p (by rw [h.len]; exact hq) (by omega) e
   rw [clashB_sym, hc] at this; cases this
 ·have h1 := nodup_le (m := List.range c.limit.toNat) (pairwise_nodup hpw) (fun v hv => by
   simp only [List.mem_map] at hv
   obtain ⟨p, hp, rfl⟩ := hv
   have hp' := hps p hp
   rw [List.getElem?_eq_getElem (by rw [h.len]; exact hp')]
   have := h.lim _ (List.getElem_mem (l := x) (n := p) (by rw [h.len]; exact hp'))
   simp [limB] at this
   simp; omega)
  simp at h1
  omega
/-- numbers that keep what is decided -/
structure Agr (d : Dec) (n : Nat) (z : Nat → Nat) : Prop where
 one : ∀ a b, a < n → b < n → d a b &&& 1 ≠ 0 → z a = z b
 two : ∀ a b, a < n → b < n → d a b &&& 2 ≠ 0 → z a ≠ z b
section
variable {c : Cs} {d : Dec} {n : Nat} {z : Nat → Nat}
theorem Agr.conn (h : Agr d n z) {a b : Nat} (k : Conn d n a b) : z a = z b := by
 induction k with
 | refl => rfl
 | step e _ ih => exact (h.one _ _ e.1 e.2.1 e.2.2).trans ih
/-- two classes are opposed -/
def Opp (c : Cs) (d : Dec) (n x y : Nat) : Prop := ∃ p q, p < n ∧ q < n ∧ Conn d n p x ∧ Conn d n q y ∧ (clashB c p q = true ∨ d p q &&& 2 ≠ 0)
theorem mem_cls (hn : n ≤ 8) (hs : SymD d) {p x : Nat} : p ∈ clsList d n x n ↔ p < n ∧ Conn d n p x := by
 simp only [clsList, List.mem_filter, List.mem_range, beq_iff_eq, cls_iff hn hs]
theorem opp_iff (hn : n ≤ 8) (hs : SymD d) {x y : Nat} : oppB c d n x y = true ↔ Opp c d n x y := by
 simp only [oppB, rivalsOf, List.find?_isSome, List.mem_flatMap, List.mem_map, oppF, apartB, Bool.or_eq_true, bne_iff_ne]
 constructor
 ·rintro ⟨_, ⟨p, hp, q, hq, rfl⟩, h⟩
  obtain ⟨p1, p2⟩ := (mem_cls hn hs).1 hp
  obtain ⟨q1, q2⟩ := (mem_cls hn hs).1 hq
  exact ⟨p, q, p1, q1, p2, q2, h⟩
 ·rintro ⟨p, q, p1, q1, p2, q2, h⟩
  exact ⟨(p, q), ⟨p, (mem_cls hn hs).2 ⟨p1, p2⟩, q, (mem_cls hn hs).2 ⟨q1, q2⟩, rfl⟩, h⟩
theorem Opp.ne (A : Agr d n z) (G : GoodZ c n z) {x y : Nat} (h : Opp c d n x y) : z x ≠ z y := by
 obtain ⟨p, q, p1, q1, p2, q2, h⟩ := h
 rw [← A.conn p2, ← A.conn q2]
 rcases h with h | h
 ·exact G.clash p q p1 q1 h
 ·exact A.two p q p1 q1 h
theorem leaf_sound (hn : n ≤ 8) (hs : SymD d) (hl : 0 ≤ c.limit) (A : Agr d n z) (G : GoodZ c n z) {x : Br} (h : leafB c d n x = true) : False := by
 have same : ∀ {a b : Int} {m : List Int}, sameB d n a b m = true → a.toNat < n ∧ b.toNat < n ∧ z a.toNat = z b.toNat := by
  intro a b m h
  simp only [sameB, Bool.and_eq_true, inB, decide_eq_true_eq, beq_iff_eq, cls_iff hn hs] at h
  obtain ⟨⟨⟨h1, h2⟩, _⟩, h4⟩ := h
  exact ⟨by omega, by omega, A.conn h4⟩
 unfold leafB at h
 split at h
 ·simp only [clashesB, Bool.and_eq_true] at h
  obtain ⟨h1, h2, h3⟩ := same h.1
  exact G.clash _ _ h1 h2 h.2 h3
 ·split at h
  ·simp only [partedB, Bool.and_eq_true, apartB, bne_iff_ne] at h
   obtain ⟨h1, h2, h3⟩ := same h.1
   exact A.two _ _ h1 h2 h.2 h3
  ·split at h
   ·simp only [manyB, Bool.and_eq_true, manyHead, upto_iff] at h
    obtain ⟨⟨⟨_, h1⟩, h2⟩, h3⟩ := h
    simp at h1 h2
    have hlen : (x.many.length : Int) = c.limit + 1 := h2
    have hat : ∀ i (hi : i < x.many.length), x.many[i].toNat < n ∧ ∀ j (hj : j < i), oppB c d n x.many[j].toNat x.many[i].toNat = true := by
     intro i hi
     have := h3 i hi
     simp only [manyAt, Bool.and_eq_true, inB, decide_eq_true_eq, upto_iff, List.getElem?_eq_getElem hi, Option.getD_some] at this
     refine ⟨by omega, fun j hj => ?_⟩
     have h4 := this.2 j hj
     rwa [List.getElem?_eq_getElem (by omega), Option.getD_some] at h4
    have := G.lim (by omega) (x.many.map Int.toNat) (fun p hp => by
     simp only [List.mem_map] at hp
     obtain ⟨a, ha, rfl⟩ := hp
     obtain ⟨i, hi, rfl⟩ := List.getElem_of_mem ha
     exact (hat i hi).1) (by
     rw [List.pairwise_map, List.pairwise_iff_getElem]
     intro i j hi hj hij
     exact ((opp_iff hn hs).1 ((hat j hj).2 i hij)).ne A G)
    rw [List.length_map] at this
    omega
   ·cases h
theorem decWith_eq (hs : SymD d) (x y w a b : Nat) : decWith d x y w a b = if (a = x ∧ b = y) ∨ (a = y ∧ b = x) then d a b ||| w else d a b := by
 unfold decWith
 simp only [decOr]
 by_cases h1 : a = y ∧ b = x
 ·obtain ⟨rfl, rfl⟩ := h1
  simp only [and_self, or_true, if_true]
  split
  ·rename_i h; obtain ⟨rfl, _⟩ := h
   rw [Nat.or_assoc, Nat.or_self]
  ·rfl
 ·rw [if_neg h1]
  by_cases h2 : a = x ∧ b = y
  ·rw [if_pos h2, if_pos (.inl h2), h2.1, h2.2]
  ·rw [if_neg h2, if_neg (fun h => h.elim h2 h1)]
theorem decWith_sym (hs : SymD d) (x y w : Nat) : SymD (decWith d x y w) := fun a b => by
 rw [decWith_eq hs, decWith_eq hs, hs a b]
 by_cases h : (a = x ∧ b = y) ∨ (a = y ∧ b = x)
 ·rw [if_pos h, if_pos (by rcases h with ⟨h1, h2⟩ | ⟨h1, h2⟩ <;> simp [h1, h2])]
 ·rw [if_neg h, if_neg (fun k => h (by rcases k with ⟨h1, h2⟩ | ⟨h1, h2⟩ <;> simp [h1, h2]))]
theorem or_bit (u w m : Nat) : (u ||| w) &&& m ≠ 0 ↔ u &&& m ≠ 0 ∨ w &&& m ≠ 0 := by
 rw [Nat.and_or_distrib_right, Ne, Nat.or_eq_zero_iff, Classical.not_and_iff_not_or_not]
theorem decWith_bit (hs : SymD d) (x y w m a b : Nat) : decWith d x y w a b &&& m ≠ 0 ↔ d a b &&& m ≠ 0 ∨ (((a = x ∧ b = y) ∨ (a = y ∧ b = x)) ∧ w &&& m ≠ 0) := by
 rw [decWith_eq hs]
 split
 ·rename_i h
  rw [or_bit]
  simp [h]
 ·rename_i h
  simp [h]
theorem Agr.with1 (hs : SymD d) (A : Agr d n z) {x y : Nat} (h : z x = z y) : Agr (decWith d x y 1) n z := by
 refine ⟨fun a b ha hb k => ?_, fun a b ha hb k => ?_⟩
 ·rcases (decWith_bit hs x y 1 1 a b).1 k with k | ⟨⟨rfl, rfl⟩ | ⟨rfl, rfl⟩, _⟩
  ·exact A.one a b ha hb k
  ·exact h
  ·exact h.symm
 ·rcases (decWith_bit hs x y 1 2 a b).1 k with k | ⟨_, k⟩
  ·exact A.two a b ha hb k
  ·exact absurd rfl k
theorem Agr.with2 (hs : SymD d) (A : Agr d n z) {x y : Nat} (h : z x ≠ z y) : Agr (decWith d x y 2) n z := by
 refine ⟨fun a b ha hb k => ?_, fun a b ha hb k => ?_⟩
 ·rcases (decWith_bit hs x y 2 1 a b).1 k with k | ⟨_, k⟩
  ·exact A.one a b ha hb k
  ·exact absurd rfl k
 ·rcases (decWith_bit hs x y 2 2 a b).1 k with k | ⟨⟨rfl, rfl⟩ | ⟨rfl, rfl⟩, _⟩
  ·exact A.two a b ha hb k
  ·exact h
  ·exact h.symm
theorem Agr.less (hs : SymD d) {x y w : Nat} (A : Agr (decWith d x y w) n z) : Agr d n z :=
 ⟨fun a b ha hb k => A.one a b ha hb ((decWith_bit hs x y w 1 a b).2 (.inl k)), fun a b ha hb k => A.two a b ha hb ((decWith_bit hs x y w 2 a b).2 (.inl k))⟩
end
theorem walk_sound {c : Cs} {n : Nat} {z : Nat → Nat} (hn : n ≤ 8) (hl : 0 ≤ c.limit) (G : GoodZ c n z) : ∀ (k : Nat) (d : Dec) (l : List Br) {r : List Br} {e : List (Dec × Br)}, SymD d → Agr d n z → walkM c n k d l = some (r, e) → False
 | 0, _, _, _, _, _, _, h => by cases h
 | _ + 1, _, [], _, _, _, _, h => by cases h
 | k + 1, d, x :: l, r, e, hs, A, h => by
  simp only [walkM] at h
  split at h
  ·split at h
   ·rcases h1 : walkM c n k (decWith d x.a.toNat x.b.toNat 1) l with _ | ⟨l1, e1⟩
    ·simp [h1] at h
    ·simp only [h1] at h
     rcases h2 : walkM c n k (decWith d x.a.toNat x.b.toNat 2) l1 with _ | ⟨l2, e2⟩
     ·simp [h2] at h
     ·by_cases hz : z x.a.toNat = z x.b.toNat
      ·exact walk_sound hn hl G k _ _ (decWith_sym hs _ _ _) (A.with1 hs hz) h1
      ·exact walk_sound hn hl G k _ _ (decWith_sym hs _ _ _) (A.with2 hs hz) h2
   ·cases h
  ·split at h
   ·rename_i hlf
    exact leaf_sound hn hs hl A G hlf
   ·cases h
theorem refuted_sound {c : Cs} {n : Nat} {z : Nat → Nat} {d : Dec} {l : List Br} (hn : n ≤ 8) (hl : 0 ≤ c.limit) (G : GoodZ c n z) (hs : SymD d) (A : Agr d n z) : (refutedB c n d l).isSome = false := by
 unfold refutedB
 split
 ·rfl
 ·split
  ·rename_i es h
   exact (walk_sound hn hl G _ _ _ hs A h).elim
  ·rfl
theorem zero_sym : SymD (fun _ _ => 0) := fun _ _ => rfl
theorem zero_agr (n : Nat) (z : Nat → Nat) : Agr (fun _ _ => 0) n z := ⟨fun _ _ _ _ h => absurd rfl h, fun _ _ _ _ h => absurd rfl h⟩
theorem begin_sym (x y : Nat) (t : Bool) : SymD (beginD x y t) := decWith_sym zero_sym _ _ _
theorem begin_agr {n : Nat} {z : Nat → Nat} {x y : Nat} {t : Bool} (h : (z x == z y) = t) : Agr (beginD x y t) n z := by
 unfold beginD
 cases t
 ·exact (zero_agr n z).with2 zero_sym (by simpa using h)
 ·exact (zero_agr n z).with1 zero_sym (by simpa using h)
end Go.Proofs.YtpjcnkajimgagaaGreat
