/- What the reassemblies are: plain lists, no program. -/
/- Which lists fit: plain lists, no program. -/
/- Which parts are of one class: plain, no program. -/
/- A refutation that is accepted holds in no reassembly; plain, no program. -/
/- Numbers of whatever kind, put as a reassembly has them; plain, no program. -/
/- A reassembly is known by which parts it has together; plain, no program. -/
/- Without a limit; with one reassembly alone; plain, no program. -/
/- The parts in another order; plain, no program. -/
/- A case that is tighter than another; a case without some of its Ids, part by part; plain, no program. -/
/- A part narrowed; a lesser Limit; who is certainly together; plain, no program. -/
/- Where no reassembly has it, refute finds a refutation that is accepted; plain, no program. -/
/- A reassembly or a refutation, never both; plain, no program. -/
/- What refute finds is small. -/
import Derived.Test.YtchgbbkjbiffiaaGreatMWords
import Derived.Test.YtchgbbkjbiffiaaGreatMFind
import Derived.Test.YtchgbbkjbiffiaaGreatMNeed
import Derived.Test.YtchgbbkjbiffiaaGreatMWalk
import Derived.Test.YtchgbbkjbiffiaaGreatMTable
import Derived.Test.YtchgbbkjbiffiaaGreatMOpen
import Derived.Test.YtchgbbkjbiffiaaGreatMUniq
import Derived.Test.YtchgbbkjbiffiaaGreatMRefute
set_option linter.unusedSimpArgs false
set_option linter.unusedVariables false
namespace Go.Proofs.YtchgbbkjbiffiaaGreat
open Go.RowKit

/-- numbers behind numbers, each as it may be -/
def OkExt (c : Cs) : List Nat → List Nat → Prop
  | _, [] => True
  | pre, v :: e => v ≤ manyOf pre ∧ freeB c pre v = true ∧ OkExt c (pre ++ [v]) e
theorem mem_allGo (c : Cs) : ∀ (r : Nat) (pre x : List Nat), x ∈ allGo c r pre ↔ ∃ e, x = pre ++ e ∧ e.length = r ∧ OkExt c pre e
  | 0, pre, x => by
    simp only [allGo, List.mem_singleton]
    constructor
    · rintro rfl; exact ⟨[], by simp, rfl, trivial⟩
    · rintro ⟨e, rfl, he, _⟩
      rw [List.eq_nil_of_length_eq_zero he]; simp
  | r + 1, pre, x => by
    simp only [allGo, List.mem_flatMap, List.mem_range]
    constructor
    · rintro ⟨v, hv, h⟩
      split at h
      · rename_i hf
        obtain ⟨e, rfl, he, ho⟩ := (mem_allGo c r (pre ++ [v]) x).1 h
        exact ⟨v :: e, by simp, by simp [he], by omega, hf, ho⟩
      · simp at h
    · rintro ⟨e, rfl, he, ho⟩
      rcases e with _ | ⟨v, e⟩
      · simp at he
      · obtain ⟨h1, h2, h3⟩ := ho
        refine ⟨v, by omega, ?_⟩
        rw [if_pos h2]
        exact (mem_allGo c r (pre ++ [v]) _).2 ⟨e, by simp, by simpa using he, h3⟩
theorem okExt_at {c : Cs} : ∀ {e pre : List Nat}, OkExt c pre e ↔ ∀ i (h : i < e.length), e[i] ≤ manyOf (pre ++ e.take i) ∧ freeB c (pre ++ e.take i) e[i] = true
  | [], pre => by simp [OkExt]
  | v :: e, pre => by
    simp only [OkExt]
    rw [okExt_at (e := e) (pre := pre ++ [v])]
    constructor
    · rintro ⟨h1, h2, h3⟩ i hi
      rcases i with _ | i
      · simpa using ⟨h1, h2⟩
      · have := h3 i (by simpa using hi)
        simpa using this
    · intro h
      have h0 := h 0 (by simp)
      refine ⟨by simpa using h0.1, by simpa using h0.2, fun i hi => ?_⟩
      have := h (i + 1) (by simpa using hi)
      simpa using this
/-- a reassembly -/
structure Reas (c : Cs) (x : List Nat) : Prop where
  len : x.length = c.parts.length
  grow : ∀ i (h : i < x.length), x[i] ≤ manyOf (x.take i)
  apart : ∀ p q (hp : p < x.length) (hq : q < p), x[q] = x[p] → clashB c p q = false
  lim : ∀ v ∈ x, limB c v = true
theorem noClash_at {c : Cs} {x : List Nat} {i : Nat} (hi : i < x.length) : noClash c (x.take i) x[i] = true ↔ ∀ q (hq : q < i), x[q] = x[i] → clashB c i q = false := by
  unfold noClash
  rw [upto_iff, List.length_take, Nat.min_eq_left (by omega)]
  constructor
  · intro h q hq e
    have h1 := h q hq
    rw [List.getElem?_take_of_lt hq, List.getElem?_eq_getElem (by omega)] at h1
    simp [e] at h1
    exact h1
  · intro h q hq
    rw [List.getElem?_take_of_lt hq, List.getElem?_eq_getElem (by omega)]
    by_cases e : x[q] = x[i]
    · simp [e, h q hq e]
    · simp [e]
theorem mem_allR {c : Cs} {x : List Nat} : x ∈ allR c ↔ Reas c x := by
  unfold allR
  rw [mem_allGo]
  constructor
  · rintro ⟨e, rfl, he, ho⟩
    rw [okExt_at] at ho
    simp only [List.nil_append] at ho ⊢
    refine ⟨he, fun i h => (ho i h).1, fun p q hp hq => ?_, fun v hv => ?_⟩
    · have := (ho p hp).2
      simp only [freeB, Bool.and_eq_true] at this
      exact (noClash_at hp).1 this.2 q hq
    · obtain ⟨i, hi, rfl⟩ := List.getElem_of_mem hv
      have := (ho i hi).2
      simp only [freeB, Bool.and_eq_true] at this
      exact this.1
  · intro h
    refine ⟨x, by simp, h.len, ?_⟩
    rw [okExt_at]
    intro i hi
    simp only [List.nil_append, freeB, Bool.and_eq_true]
    exact ⟨h.grow i hi, h.lim _ (List.getElem_mem hi), (noClash_at hi).2 fun q hq => h.apart i q hi hq⟩
end Go.Proofs.YtchgbbkjbiffiaaGreat
namespace Go.Proofs.YtchgbbkjbiffiaaGreat
open Go.RowKit

def fitsB (c : Cs) (l : List Int) : Bool := (allR c).any fun x => natInts x == l
theorem fitsB_iff {c : Cs} {l : List Int} : fitsB c l = true ↔ ∃ x, Reas c x ∧ natInts x = l := by
  simp only [fitsB, List.any_eq_true, beq_iff_eq]
  exact ⟨fun ⟨x, h, e⟩ => ⟨x, mem_allR.1 h, e⟩, fun ⟨x, h, e⟩ => ⟨x, mem_allR.2 h, e⟩⟩
theorem manyOf_le_iff {m : Nat} : ∀ {x : List Nat}, manyOf x ≤ m ↔ ∀ v ∈ x, v + 1 ≤ m := by
  intro x
  have h : ∀ (x : List Nat) (a : Nat), x.foldl (fun m v => max m (v + 1)) a ≤ m ↔ a ≤ m ∧ ∀ v ∈ x, v + 1 ≤ m := by
    intro x
    induction x with
    | nil => intro a; simp
    | cons v x ih =>
      intro a
      rw [List.foldl_cons, ih]
      simp only [List.mem_cons, forall_eq_or_imp, Nat.max_le, and_assoc]
  rw [manyOf, h]
  simp
theorem natInts_inj {x y : List Nat} (h : natInts x = natInts y) : x = y := by
  induction x generalizing y with
  | nil => cases y with
    | nil => rfl
    | cons b y => simp [natInts] at h
  | cons a x ih => cases y with
    | nil => simp [natInts] at h
    | cons b y =>
      simp only [natInts, List.map_cons, List.cons.injEq] at h
      rw [ih (y := y) h.2]
      congr 1
      omega
/-- the numbers in front are right as far as they go -/
structure FitTo (c : Cs) (l : List Int) (k : Nat) (pre : List Nat) : Prop where
  eq : l.take k = natInts pre
  len : pre.length = k
  le : k ≤ c.parts.length
  grow : ∀ i (h : i < pre.length), pre[i] ≤ manyOf (pre.take i)
  apart : ∀ p q (hp : p < pre.length) (hq : q < p), pre[q] = pre[p] → clashB c p q = false
theorem FitTo.nil (c : Cs) (l : List Int) : FitTo c l 0 [] := ⟨by simp [natInts], rfl, Nat.zero_le _, by simp, by simp⟩
theorem natInts_take (x : List Nat) (k : Nat) : (natInts x).take k = natInts (x.take k) := by simp [natInts, List.map_take]
/-- a reassembly that reads as the list begins with them -/
theorem FitTo.pre_eq {c : Cs} {l : List Int} {k : Nat} {pre : List Nat} (h : FitTo c l k pre) {x : List Nat} (hx : natInts x = l) : x.take k = pre := by
  apply natInts_inj
  rw [← natInts_take, hx, h.eq]
theorem natInts_get {x : List Nat} {k : Nat} {v : Int} (h : (natInts x)[k]? = some v) : ∃ u : Nat, x[k]? = some u ∧ v = u := by
  simp only [natInts, List.getElem?_map, Option.map_eq_some_iff] at h
  obtain ⟨u, hu, rfl⟩ := h
  exact ⟨u, hu, rfl⟩
theorem FitTo.long {c : Cs} {l : List Int} {k : Nat} (hk : k < l.length) (hn : c.parts.length ≤ k) : fitsB c l = false := by
  rw [Bool.eq_false_iff]
  intro h
  obtain ⟨x, hx, rfl⟩ := fitsB_iff.1 h
  have := hx.len
  simp [natInts] at hk
  omega
theorem FitTo.out {c : Cs} {l : List Int} {k : Nat} {pre : List Nat} (h : FitTo c l k pre) {v : Int} (hv : l[k]? = some v) (hb : inB v 0 (manyOf pre) = false) : fitsB c l = false := by
  rw [Bool.eq_false_iff]
  intro hf
  obtain ⟨x, hx, rfl⟩ := fitsB_iff.1 hf
  have hp := h.pre_eq rfl
  obtain ⟨u, hu, rfl⟩ := natInts_get hv
  obtain ⟨hk, hu⟩ := List.getElem?_eq_some_iff.1 hu
  have := hx.grow k hk
  rw [hp, hu] at this
  simp [inB] at hb
  omega
theorem FitTo.clash {c : Cs} {l : List Int} {k q : Nat} {pre : List Nat} (h : FitTo c l k pre) {v : Nat} (hv : l[k]? = some (v : Int)) (hq : q < k) (hqv : pre[q]? = some v) (hc : clashB c k q = true) : fitsB c l = false := by
  rw [Bool.eq_false_iff]
  intro hf
  obtain ⟨x, hx, rfl⟩ := fitsB_iff.1 hf
  have hp := h.pre_eq rfl
  obtain ⟨u, hu, hvu⟩ := natInts_get hv
  obtain ⟨hk, hu⟩ := List.getElem?_eq_some_iff.1 hu
  have h1 := hx.apart k q hk hq (by
    rw [← hp, List.getElem?_take_of_lt hq] at hqv
    obtain ⟨_, hqv⟩ := List.getElem?_eq_some_iff.1 hqv
    rw [hqv, hu]; omega)
  rw [hc] at h1
  cases h1
theorem FitTo.step {c : Cs} {l : List Int} {k : Nat} {pre : List Nat} (h : FitTo c l k pre) {v : Nat} (hv : l[k]? = some (v : Int)) (hk : k < c.parts.length) (hb : v ≤ manyOf pre) (hc : ∀ q, q < k → pre[q]? = some v → clashB c k q = false) : FitTo c l (k + 1) (pre ++ [v]) := by
  refine ⟨by rw [take_snoc hv, h.eq]; simp [natInts], by simp [h.len], by omega, fun i hi => ?_, fun p q hp hq e => ?_⟩
  · rcases Nat.lt_or_ge i pre.length with hlt | hge
    · rw [List.getElem_append_left hlt, List.take_append_of_le_length (by omega)]
      exact h.grow i hlt
    · have : i = pre.length := by simp at hi; omega
      subst this
      simpa using hb
  · rcases Nat.lt_or_ge p pre.length with hlt | hge
    · rw [List.getElem_append_left hlt, List.getElem_append_left (by omega)] at e
      exact h.apart p q hlt hq e
    · have : p = pre.length := by simp at hp; omega
      subst this
      rw [h.len] at hq ⊢
      refine hc q hq ?_
      rw [List.getElem?_eq_getElem (by rw [h.len]; omega)]
      simp at e
      rw [List.getElem_append_left (by rw [h.len]; omega)] at e
      rw [e]
theorem FitTo.done {c : Cs} {l : List Int} {k : Nat} {pre : List Nat} (h : FitTo c l k pre) (hk : ¬ k < l.length) (hl : 0 ≤ c.limit) : fitsB c l = (((l.length : Int) == (c.parts.length : Int)) && ((c.limit == 0) || decide ((manyOf pre : Int) ≤ c.limit))) := by
  have he : natInts pre = l := by rw [← h.eq, List.take_of_length_le (by omega)]
  have hlen : l.length = pre.length := by rw [← he]; simp [natInts]
  rw [Bool.eq_iff_iff, fitsB_iff]
  simp only [Bool.and_eq_true, beq_iff_eq, Bool.or_eq_true, decide_eq_true_eq]
  have hlim : (∀ v ∈ pre, limB c v = true) ↔ c.limit = 0 ∨ (manyOf pre : Int) ≤ c.limit := by
    have h1 : (manyOf pre : Int) ≤ c.limit ↔ manyOf pre ≤ c.limit.toNat := by omega
    rw [h1, manyOf_le_iff]
    constructor
    · intro h2
      by_cases h0 : c.limit = 0
      · exact .inl h0
      · refine .inr fun v hv => ?_
        have := h2 v hv
        simp [limB] at this
        omega
    · rintro (h0 | h2) v hv
      · simp [limB, h0]
      · have := h2 v hv
        simp [limB]; omega
  constructor
  · rintro ⟨x, hx, hxe⟩
    have : x = pre := natInts_inj (hxe.trans he.symm)
    subst this
    exact ⟨by have := hx.len; omega, hlim.1 hx.lim⟩
  · rintro ⟨h1, h2⟩
    exact ⟨pre, ⟨by omega, h.grow, h.apart, hlim.2 h2⟩, he⟩
end Go.Proofs.YtchgbbkjbiffiaaGreat
namespace Go.Proofs.YtchgbbkjbiffiaaGreat
open Go.RowKit

def EdgeB (d : Nat → Nat → Nat) (n a b : Nat) : Prop := a < n ∧ b < n ∧ d a b &&& 1 ≠ 0
inductive Conn (d : Nat → Nat → Nat) (n : Nat) : Nat → Nat → Prop
  | refl (a : Nat) : Conn d n a a
  | step {a b c : Nat} (h : EdgeB d n a b) (r : Conn d n b c) : Conn d n a c
def SymD (d : Nat → Nat → Nat) : Prop := ∀ a b, d a b = d b a
section
variable {d : Nat → Nat → Nat} {n : Nat}
theorem EdgeB.symm (hs : SymD d) {a b : Nat} (h : EdgeB d n a b) : EdgeB d n b a := ⟨h.2.1, h.1, by rw [hs b a]; exact h.2.2⟩
theorem Conn.one {a b : Nat} (h : EdgeB d n a b) : Conn d n a b := .step h (.refl _)
theorem Conn.trans {a b c : Nat} (h : Conn d n a b) (k : Conn d n b c) : Conn d n a c := by
  induction h with
  | refl => exact k
  | step e _ ih => exact .step e (ih k)
theorem Conn.symm (hs : SymD d) {a b : Nat} (h : Conn d n a b) : Conn d n b a := by
  induction h with
  | refl => exact .refl _
  | step e _ ih => exact ih.trans (.one (e.symm hs))
/-- what holds of numbers that are Conn to their parts stays so -/
theorem step_conn (hs : SymD d) {f : Nat → Nat} (hf : ∀ i, Conn d n i (f i)) {x y : Nat} (hx : x < n) (hy : y < n) : ∀ i, Conn d n i (stepOf d f x y i) := by
  intro i
  unfold stepOf
  split
  · rename_i he
    have e : EdgeB d n x y := ⟨hx, hy, he⟩
    simp only [upd]
    split
    · rename_i h; subst h
      rcases Nat.le_total (f x) (f i) with h1 | h1
      · rw [Nat.min_eq_left h1]; exact .step (e.symm hs) (hf x)
      · rw [Nat.min_eq_right h1]; exact hf i
    · split
      · rename_i h; subst h
        rcases Nat.le_total (f i) (f y) with h1 | h1
        · rw [Nat.min_eq_left h1]; exact hf i
        · rw [Nat.min_eq_right h1]; exact .step e (hf y)
      · exact hf i
  · exact hf i
theorem row_conn (hs : SymD d) {f : Nat → Nat} (hf : ∀ i, Conn d n i (f i)) {x : Nat} (hx : x < n) : ∀ y, y ≤ n → ∀ i, Conn d n i (rowP d x f y i)
  | 0, _ => hf
  | y + 1, hy => step_conn hs (row_conn hs hf hx y (by omega)) hx (by omega)
theorem pass_conn (hs : SymD d) {f : Nat → Nat} (hf : ∀ i, Conn d n i (f i)) : ∀ x, x ≤ n → ∀ i, Conn d n i (passP d n f x i)
  | 0, _ => hf
  | x + 1, hx => row_conn hs (pass_conn hs hf x (by omega)) (by omega) n (Nat.le_refl _)
theorem go_conn (hs : SymD d) : ∀ k i, Conn d n i (clsGo d n k i)
  | 0, i => .refl i
  | k + 1, i => pass_conn hs (go_conn hs k) n (Nat.le_refl _) i
theorem rowP_anti (d : Nat → Nat → Nat) (x : Nat) (f : Nat → Nat) {y z : Nat} (h : y ≤ z) : Low (rowP d x f z) (rowP d x f y) := by
  obtain ⟨j, rfl⟩ := Nat.exists_eq_add_of_le h
  induction j with
  | zero => exact Low.refl _
  | succ j ih => exact (stepOf_low d _ x (y + j)).trans (ih (by omega))
theorem passP_anti (d : Nat → Nat → Nat) (n : Nat) (f : Nat → Nat) {x z : Nat} (h : x ≤ z) : Low (passP d n f z) (passP d n f x) := by
  obtain ⟨j, rfl⟩ := Nat.exists_eq_add_of_le h
  induction j with
  | zero => exact Low.refl _
  | succ j ih => exact (rowP_low d (x + j) _ n).trans (ih (by omega))
/-- where a pass changes nothing, parts that are joined have one number -/
theorem pass_edge (hn : n ≤ 8) {F : Nat → Nat} (hF : ∀ i, i < 8 → passP d n F n i = F i) {x y : Nat} (e : EdgeB d n x y) : F x = F y := by
  obtain ⟨hx, hy, he⟩ := e
  have lo : ∀ j, j ≤ n → ∀ i, i < 8 → rowP d x (passP d n F x) j i = F i := fun j hj i hi => by
    have h1 := (rowP_low d x (passP d n F x) j).trans (passP_low d n F x) i
    have h2 : Low (passP d n F n) (rowP d x (passP d n F x) j) := (passP_anti d n F (show x + 1 ≤ n by omega)).trans (rowP_anti d x _ hj)
    have h3 := h2 i
    rw [hF i hi] at h3
    omega
  have h1 := lo (y + 1) (by omega)
  have h0 := lo y (by omega)
  have hx1 := h1 x (by omega)
  have hy1 := h1 y (by omega)
  have e1 : rowP d x (passP d n F x) (y + 1) = stepOf d (rowP d x (passP d n F x) y) x y := rfl
  rw [e1] at hx1 hy1
  unfold stepOf at hx1 hy1
  rw [if_pos he] at hx1 hy1
  simp only [upd, if_true, h0 x (by omega), h0 y (by omega)] at hx1 hy1
  split at hx1
  · rename_i h; rw [h]
  · omega
theorem cls_fixed (hn : n ≤ 8) : ∀ i, i < 8 → passP d n (clsOf d n) n i = clsOf d n i := by
  by_cases h : ∃ j, j < 29 ∧ ofCells (clsGo d n (j + 1)) = ofCells (clsGo d n j)
  · obtain ⟨j, hj, he⟩ := h
    have h1 := of_ext he
    have h2 : ∀ i, i < 8 → clsOf d n i = clsGo d n j i := fun i hi => cls_stay hn h1 60 (by omega) i hi
    intro i hi
    rw [passP_congr d hn h2 n (Nat.le_refl _) i hi, h2 i hi]
    exact h1 i (by simpa using hi)
  · have := cls_done (d := d) hn 29 (fun j hj he => h ⟨j, hj, he⟩)
    omega
theorem cls_iff (hn : n ≤ 8) (hs : SymD d) {a b : Nat} : clsOf d n a = clsOf d n b ↔ Conn d n a b := by
  constructor
  · intro h
    have h1 := go_conn (n := n) hs 60 a
    have h2 := go_conn (n := n) hs 60 b
    change clsGo d n 60 a = clsGo d n 60 b at h
    rw [h] at h1
    exact h1.trans (h2.symm hs)
  · intro h
    induction h with
    | refl => rfl
    | step e _ ih => exact (pass_edge hn (cls_fixed hn) e).trans ih
/-- no more is joined than what is below n -/
theorem Conn.widen {m : Nat} (hm : n ≤ m) {a b : Nat} (h : Conn d n a b) : Conn d m a b := by
  induction h with
  | refl => exact .refl _
  | step e _ ih => exact .step ⟨by have := e.1; omega, by have := e.2.1; omega, e.2.2⟩ ih
theorem Conn.narrow {m : Nat} (hd : ∀ a b, d a b &&& 1 ≠ 0 → a < n ∧ b < n) {a b : Nat} (h : Conn d m a b) : Conn d n a b := by
  induction h with
  | refl => exact .refl _
  | step e _ ih => exact .step ⟨(hd _ _ e.2.2).1, (hd _ _ e.2.2).2, e.2.2⟩ ih
end
end Go.Proofs.YtchgbbkjbiffiaaGreat
namespace Go.Proofs.YtchgbbkjbiffiaaGreat
open Go.RowKit

theorem nodup_le {α : Type} [BEq α] [LawfulBEq α] : ∀ {l m : List α}, l.Nodup → (∀ a ∈ l, a ∈ m) → l.length ≤ m.length
  | [], _, _, _ => Nat.zero_le _
  | a :: l, m, h, hs => by
    have ha := hs a List.mem_cons_self
    have h1 := List.nodup_cons.1 h
    have h2 := nodup_le (l := l) (m := m.erase a) h1.2 (fun b hb => (List.mem_erase_of_ne (fun e => by subst e; exact h1.1 hb)).2 (hs b (List.mem_cons_of_mem _ hb)))
    rw [List.length_erase_of_mem ha] at h2
    have := List.length_pos_of_mem ha
    simp only [List.length_cons]; omega
/-- numbers that a reassembly may have -/
structure GoodZ (c : Cs) (n : Nat) (z : Nat → Nat) : Prop where
  clash : ∀ p q, p < n → q < n → clashB c p q = true → z p ≠ z q
  lim : 0 < c.limit → ∀ ps : List Nat, (∀ p ∈ ps, p < n) → ps.Pairwise (fun p q => z p ≠ z q) → (ps.length : Int) ≤ c.limit
theorem clashB_ne {c : Cs} {p q : Nat} (h : clashB c p q = true) : p ≠ q := by
  intro e
  subst e
  unfold clashB at h
  rcases hp : c.parts[p]? with _ | a
  · simp [hp] at h
  · simp [hp, clashP] at h
theorem clashB_sym (c : Cs) (x y : Nat) : clashB c x y = clashB c y x := by
  unfold clashB
  rcases c.parts[x]? with _ | p <;> rcases c.parts[y]? with _ | q <;> try rfl
  simp only [clashP, feetB]
  rw [Bool.eq_iff_iff]
  simp
  grind
theorem pairwise_nodup {ps : List Nat} {z : Nat → Nat} (h : ps.Pairwise (fun p q => z p ≠ z q)) : (ps.map z).Nodup := by
  rw [List.Nodup, List.pairwise_map]
  exact h
theorem Reas.good {c : Cs} {x : List Nat} (h : Reas c x) : GoodZ c c.parts.length (fun a => x[a]?.getD 0) := by
  refine ⟨fun p q hp hq hc e => ?_, fun hl ps hps hpw => ?_⟩
  · have hne := clashB_ne hc
    rw [List.getElem?_eq_getElem (by rw [h.len]; exact hp), List.getElem?_eq_getElem (by rw [h.len]; exact hq)] at e
    simp only [Option.getD_some] at e
    rcases Nat.lt_or_ge q p with h1 | h1
    · have := h.apart p q (by rw [h.len]; exact hp) h1 e.symm
      rw [hc] at this; cases this
    · have := h.apart q p (by rw [h.len]; exact hq) (by omega) e
      rw [clashB_sym, hc] at this; cases this
  · have h1 := nodup_le (m := List.range c.limit.toNat) (pairwise_nodup hpw) (fun v hv => by
      simp only [List.mem_map] at hv
      obtain ⟨p, hp, rfl⟩ := hv
      have hp' := hps p hp
      rw [List.getElem?_eq_getElem (by rw [h.len]; exact hp')]
      have := h.lim _ (List.getElem_mem (l := x) (n := p) (by rw [h.len]; exact hp'))
      simp [limB] at this
      simp; omega)
    simp at h1
    omega
/-- numbers that keep what is decided -/
structure Agr (d : Dec) (n : Nat) (z : Nat → Nat) : Prop where
  one : ∀ a b, a < n → b < n → d a b &&& 1 ≠ 0 → z a = z b
  two : ∀ a b, a < n → b < n → d a b &&& 2 ≠ 0 → z a ≠ z b
section
variable {c : Cs} {d : Dec} {n : Nat} {z : Nat → Nat}
theorem Agr.conn (h : Agr d n z) {a b : Nat} (k : Conn d n a b) : z a = z b := by
  induction k with
  | refl => rfl
  | step e _ ih => exact (h.one _ _ e.1 e.2.1 e.2.2).trans ih
/-- two classes are opposed -/
def Opp (c : Cs) (d : Dec) (n x y : Nat) : Prop := ∃ p q, p < n ∧ q < n ∧ Conn d n p x ∧ Conn d n q y ∧ (clashB c p q = true ∨ d p q &&& 2 ≠ 0)
theorem mem_cls (hn : n ≤ 8) (hs : SymD d) {p x : Nat} : p ∈ clsList d n x n ↔ p < n ∧ Conn d n p x := by
  simp only [clsList, List.mem_filter, List.mem_range, beq_iff_eq, cls_iff hn hs]
theorem opp_iff (hn : n ≤ 8) (hs : SymD d) {x y : Nat} : oppB c d n x y = true ↔ Opp c d n x y := by
  simp only [oppB, rivalsOf, List.find?_isSome, List.mem_flatMap, List.mem_map, oppF, apartB, Bool.or_eq_true, bne_iff_ne]
  constructor
  · rintro ⟨_, ⟨p, hp, q, hq, rfl⟩, h⟩
    obtain ⟨p1, p2⟩ := (mem_cls hn hs).1 hp
    obtain ⟨q1, q2⟩ := (mem_cls hn hs).1 hq
    exact ⟨p, q, p1, q1, p2, q2, h⟩
  · rintro ⟨p, q, p1, q1, p2, q2, h⟩
    exact ⟨(p, q), ⟨p, (mem_cls hn hs).2 ⟨p1, p2⟩, q, (mem_cls hn hs).2 ⟨q1, q2⟩, rfl⟩, h⟩
theorem Opp.ne (A : Agr d n z) (G : GoodZ c n z) {x y : Nat} (h : Opp c d n x y) : z x ≠ z y := by
  obtain ⟨p, q, p1, q1, p2, q2, h⟩ := h
  rw [← A.conn p2, ← A.conn q2]
  rcases h with h | h
  · exact G.clash p q p1 q1 h
  · exact A.two p q p1 q1 h
theorem leaf_sound (hn : n ≤ 8) (hs : SymD d) (hl : 0 ≤ c.limit) (A : Agr d n z) (G : GoodZ c n z) {x : Br} (h : leafB c d n x = true) : False := by
  have same : ∀ {a b : Int} {m : List Int}, sameB d n a b m = true → a.toNat < n ∧ b.toNat < n ∧ z a.toNat = z b.toNat := by
    intro a b m h
    simp only [sameB, Bool.and_eq_true, inB, decide_eq_true_eq, beq_iff_eq, cls_iff hn hs] at h
    obtain ⟨⟨⟨h1, h2⟩, _⟩, h4⟩ := h
    exact ⟨by omega, by omega, A.conn h4⟩
  unfold leafB at h
  split at h
  · simp only [clashesB, Bool.and_eq_true] at h
    obtain ⟨h1, h2, h3⟩ := same h.1
    exact G.clash _ _ h1 h2 h.2 h3
  · split at h
    · simp only [partedB, Bool.and_eq_true, apartB, bne_iff_ne] at h
      obtain ⟨h1, h2, h3⟩ := same h.1
      exact A.two _ _ h1 h2 h.2 h3
    · split at h
      · simp only [manyB, Bool.and_eq_true, manyHead, upto_iff] at h
        obtain ⟨⟨⟨_, h1⟩, h2⟩, h3⟩ := h
        simp at h1 h2
        have hlen : (x.many.length : Int) = c.limit + 1 := h2
        have hat : ∀ i (hi : i < x.many.length), x.many[i].toNat < n ∧ ∀ j (hj : j < i), oppB c d n x.many[j].toNat x.many[i].toNat = true := by
          intro i hi
          have := h3 i hi
          simp only [manyAt, Bool.and_eq_true, inB, decide_eq_true_eq, upto_iff, List.getElem?_eq_getElem hi, Option.getD_some] at this
          refine ⟨by omega, fun j hj => ?_⟩
          have h4 := this.2 j hj
          rwa [List.getElem?_eq_getElem (by omega), Option.getD_some] at h4
        have := G.lim (by omega) (x.many.map Int.toNat) (fun p hp => by
          simp only [List.mem_map] at hp
          obtain ⟨a, ha, rfl⟩ := hp
          obtain ⟨i, hi, rfl⟩ := List.getElem_of_mem ha
          exact (hat i hi).1) (by
          rw [List.pairwise_map, List.pairwise_iff_getElem]
          intro i j hi hj hij
          exact ((opp_iff hn hs).1 ((hat j hj).2 i hij)).ne A G)
        rw [List.length_map] at this
        omega
      · cases h
theorem decWith_eq (hs : SymD d) (x y w a b : Nat) : decWith d x y w a b = if (a = x ∧ b = y) ∨ (a = y ∧ b = x) then d a b ||| w else d a b := by
  unfold decWith
  simp only [decOr]
  by_cases h1 : a = y ∧ b = x
  · obtain ⟨rfl, rfl⟩ := h1
    simp only [and_self, or_true, if_true]
    split
    · rename_i h; obtain ⟨rfl, _⟩ := h
      rw [Nat.or_assoc, Nat.or_self]
    · rfl
  · rw [if_neg h1]
    by_cases h2 : a = x ∧ b = y
    · rw [if_pos h2, if_pos (.inl h2), h2.1, h2.2]
    · rw [if_neg h2, if_neg (fun h => h.elim h2 h1)]
theorem decWith_sym (hs : SymD d) (x y w : Nat) : SymD (decWith d x y w) := fun a b => by
  rw [decWith_eq hs, decWith_eq hs, hs a b]
  by_cases h : (a = x ∧ b = y) ∨ (a = y ∧ b = x)
  · rw [if_pos h, if_pos (by rcases h with ⟨h1, h2⟩ | ⟨h1, h2⟩ <;> simp [h1, h2])]
  · rw [if_neg h, if_neg (fun k => h (by rcases k with ⟨h1, h2⟩ | ⟨h1, h2⟩ <;> simp [h1, h2]))]
theorem or_bit (u w m : Nat) : (u ||| w) &&& m ≠ 0 ↔ u &&& m ≠ 0 ∨ w &&& m ≠ 0 := by
  rw [Nat.and_or_distrib_right, Ne, Nat.or_eq_zero_iff, Classical.not_and_iff_not_or_not]
theorem decWith_bit (hs : SymD d) (x y w m a b : Nat) : decWith d x y w a b &&& m ≠ 0 ↔ d a b &&& m ≠ 0 ∨ (((a = x ∧ b = y) ∨ (a = y ∧ b = x)) ∧ w &&& m ≠ 0) := by
  rw [decWith_eq hs]
  split
  · rename_i h
    rw [or_bit]
    simp [h]
  · rename_i h
    simp [h]
theorem Agr.with1 (hs : SymD d) (A : Agr d n z) {x y : Nat} (h : z x = z y) : Agr (decWith d x y 1) n z := by
  refine ⟨fun a b ha hb k => ?_, fun a b ha hb k => ?_⟩
  · rcases (decWith_bit hs x y 1 1 a b).1 k with k | ⟨⟨rfl, rfl⟩ | ⟨rfl, rfl⟩, _⟩
    · exact A.one a b ha hb k
    · exact h
    · exact h.symm
  · rcases (decWith_bit hs x y 1 2 a b).1 k with k | ⟨_, k⟩
    · exact A.two a b ha hb k
    · exact absurd rfl k
theorem Agr.with2 (hs : SymD d) (A : Agr d n z) {x y : Nat} (h : z x ≠ z y) : Agr (decWith d x y 2) n z := by
  refine ⟨fun a b ha hb k => ?_, fun a b ha hb k => ?_⟩
  · rcases (decWith_bit hs x y 2 1 a b).1 k with k | ⟨_, k⟩
    · exact A.one a b ha hb k
    · exact absurd rfl k
  · rcases (decWith_bit hs x y 2 2 a b).1 k with k | ⟨⟨rfl, rfl⟩ | ⟨rfl, rfl⟩, _⟩
    · exact A.two a b ha hb k
    · exact h
    · exact h.symm
theorem Agr.less (hs : SymD d) {x y w : Nat} (A : Agr (decWith d x y w) n z) : Agr d n z :=
  ⟨fun a b ha hb k => A.one a b ha hb ((decWith_bit hs x y w 1 a b).2 (.inl k)), fun a b ha hb k => A.two a b ha hb ((decWith_bit hs x y w 2 a b).2 (.inl k))⟩
end
theorem walk_sound {c : Cs} {n : Nat} {z : Nat → Nat} (hn : n ≤ 8) (hl : 0 ≤ c.limit) (G : GoodZ c n z) : ∀ (k : Nat) (d : Dec) (l : List Br) {r : List Br} {e : List (Dec × Br)}, SymD d → Agr d n z → walkM c n k d l = some (r, e) → False
  | 0, _, _, _, _, _, _, h => by cases h
  | _ + 1, _, [], _, _, _, _, h => by cases h
  | k + 1, d, x :: l, r, e, hs, A, h => by
    simp only [walkM] at h
    split at h
    · split at h
      · rcases h1 : walkM c n k (decWith d x.a.toNat x.b.toNat 1) l with _ | ⟨l1, e1⟩
        · simp [h1] at h
        · simp only [h1] at h
          rcases h2 : walkM c n k (decWith d x.a.toNat x.b.toNat 2) l1 with _ | ⟨l2, e2⟩
          · simp [h2] at h
          · by_cases hz : z x.a.toNat = z x.b.toNat
            · exact walk_sound hn hl G k _ _ (decWith_sym hs _ _ _) (A.with1 hs hz) h1
            · exact walk_sound hn hl G k _ _ (decWith_sym hs _ _ _) (A.with2 hs hz) h2
      · cases h
    · split at h
      · rename_i hlf
        exact leaf_sound hn hs hl A G hlf
      · cases h
theorem refuted_sound {c : Cs} {n : Nat} {z : Nat → Nat} {d : Dec} {l : List Br} (hn : n ≤ 8) (hl : 0 ≤ c.limit) (G : GoodZ c n z) (hs : SymD d) (A : Agr d n z) : (refutedB c n d l).isSome = false := by
  unfold refutedB
  split
  · rfl
  · split
    · rename_i es h
      exact (walk_sound hn hl G _ _ _ hs A h).elim
    · rfl
theorem zero_sym : SymD (fun _ _ => 0) := fun _ _ => rfl
theorem zero_agr (n : Nat) (z : Nat → Nat) : Agr (fun _ _ => 0) n z := ⟨fun _ _ _ _ h => absurd rfl h, fun _ _ _ _ h => absurd rfl h⟩
theorem begin_sym (x y : Nat) (t : Bool) : SymD (beginD x y t) := decWith_sym zero_sym _ _ _
theorem begin_agr {n : Nat} {z : Nat → Nat} {x y : Nat} {t : Bool} (h : (z x == z y) = t) : Agr (beginD x y t) n z := by
  unfold beginD
  cases t
  · exact (zero_agr n z).with2 zero_sym (by simpa using h)
  · exact (zero_agr n z).with1 zero_sym (by simpa using h)
end Go.Proofs.YtchgbbkjbiffiaaGreat
namespace Go.Proofs.YtchgbbkjbiffiaaGreat
open Go.RowKit

def nth (x : List Nat) (a : Nat) : Nat := x[a]?.getD 0
theorem nth_lt {x : List Nat} {a : Nat} (h : a < x.length) : nth x a < manyOf x := by
  unfold nth
  rw [List.getElem?_eq_getElem h, Option.getD_some]
  exact (manyOf_le_iff (m := manyOf x)).1 (Nat.le_refl _) _ (List.getElem_mem h)
theorem nth_app {x : List Nat} {v a : Nat} (h : a < x.length) : nth (x ++ [v]) a = nth x a := by
  unfold nth
  rw [List.getElem?_append_left h]
theorem nth_end (x : List Nat) (v : Nat) : nth (x ++ [v]) x.length = v := by
  unfold nth
  simp
theorem canon (z : Nat → Nat) : ∀ n, ∃ x : List Nat, x.length = n ∧ (∀ i (h : i < x.length), x[i] ≤ manyOf (x.take i)) ∧ (∀ a b, a < n → b < n → (nth x a = nth x b ↔ z a = z b)) ∧ ∀ v, v < manyOf x → ∃ a, a < n ∧ nth x a = v
  | 0 => ⟨[], rfl, by simp, by simp, by simp [manyOf]⟩
  | n + 1 => by
    obtain ⟨x, hl, hg, hi, ho⟩ := canon z n
    subst hl
    have step : ∀ v, v ≤ manyOf x → (∀ a, a < x.length → (nth x a = v ↔ z a = z x.length)) → ∃ y : List Nat, y.length = x.length + 1 ∧ (∀ i (h : i < y.length), y[i] ≤ manyOf (y.take i)) ∧ (∀ a b, a < x.length + 1 → b < x.length + 1 → (nth y a = nth y b ↔ z a = z b)) ∧ ∀ v, v < manyOf y → ∃ a, a < x.length + 1 ∧ nth y a = v := by
      intro v hv hz
      refine ⟨x ++ [v], by simp, fun i h => ?_, fun a b ha hb => ?_, fun u hu => ?_⟩
      · rcases Nat.lt_or_ge i x.length with h1 | h1
        · rw [List.getElem_append_left h1, List.take_append_of_le_length (by omega)]
          exact hg i h1
        · have : i = x.length := by simp at h; omega
          subst this
          simpa using hv
      · rcases Nat.lt_or_ge a x.length with h1 | h1 <;> rcases Nat.lt_or_ge b x.length with h2 | h2
        · rw [nth_app h1, nth_app h2]; exact hi a b h1 h2
        · have : b = x.length := by omega
          subst this
          rw [nth_app h1, nth_end]; exact hz a h1
        · have : a = x.length := by omega
          subst this
          rw [nth_app h2, nth_end]
          exact ⟨fun e => ((hz b h2).1 e.symm).symm, fun e => ((hz b h2).2 e.symm).symm⟩
        · have h3 : a = x.length := by omega
          have h4 : b = x.length := by omega
          subst h3
          rw [h4]; simp
      · rw [manyOf_snoc] at hu
        rcases Nat.lt_or_ge u (manyOf x) with h1 | h1
        · obtain ⟨a, ha, e⟩ := ho u h1
          exact ⟨a, by omega, by rw [nth_app ha, e]⟩
        · exact ⟨x.length, by omega, by rw [nth_end]; omega⟩
    by_cases h : ∃ j, j < x.length ∧ z j = z x.length
    · obtain ⟨j, hj, e⟩ := h
      exact step (nth x j) (Nat.le_of_lt (nth_lt hj)) (fun a ha => by rw [← e]; exact hi a j ha hj)
    · refine step (manyOf x) (Nat.le_refl _) (fun a ha => ⟨fun e => ?_, fun e => absurd ⟨a, ha, e⟩ h⟩)
      have := nth_lt ha
      omega
theorem picks {x : List Nat} {n : Nat} (ho : ∀ v, v < manyOf x → ∃ a, a < n ∧ nth x a = v) : ∀ m, m ≤ manyOf x → ∃ ps : List Nat, (∀ p ∈ ps, p < n) ∧ ps.map (nth x) = List.range m
  | 0, _ => ⟨[], by simp, rfl⟩
  | m + 1, h => by
    obtain ⟨ps, h1, h2⟩ := picks ho m (by omega)
    obtain ⟨a, ha, e⟩ := ho m (by omega)
    refine ⟨ps ++ [a], fun p hp => ?_, by rw [List.map_append, h2, List.range_succ]; simp [e]⟩
    rcases List.mem_append.1 hp with hp | hp
    · exact h1 p hp
    · rw [List.mem_singleton.1 hp]; exact ha
/-- the reassembly that parts as the numbers do -/
theorem GoodZ.reas {c : Cs} {z : Nat → Nat} (G : GoodZ c c.parts.length z) : ∃ x, Reas c x ∧ ∀ a b, a < c.parts.length → b < c.parts.length → (nth x a = nth x b ↔ z a = z b) := by
  obtain ⟨x, hl, hg, hi, ho⟩ := canon z c.parts.length
  have get : ∀ p (hp : p < x.length), x[p] = nth x p := fun p hp => by unfold nth; rw [List.getElem?_eq_getElem hp]; rfl
  refine ⟨x, ⟨hl, hg, fun p q hp hq e => ?_, fun v hv => ?_⟩, hi⟩
  · rw [get p hp, get q (by omega)] at e
    have h1 := (hi q p (by omega) (by omega)).1 e
    rcases hc : clashB c p q with _ | _
    · rfl
    · exact absurd h1.symm (G.clash p q (by omega) (by omega) hc)
  · by_cases hlim : 0 < c.limit
    · obtain ⟨ps, h1, h2⟩ := picks ho (manyOf x) (Nat.le_refl _)
      have h3 := G.lim hlim ps h1 (by
        have h4 : (ps.map (nth x)).Pairwise (· ≠ ·) := by rw [h2]; exact List.nodup_range
        rw [List.pairwise_map] at h4
        refine List.Pairwise.imp_of_mem (fun {a b} ha hb h e => ?_) h4
        exact h ((hi a b (h1 a ha) (h1 b hb)).2 e))
      have h5 : ps.length = manyOf x := by
        have := congrArg List.length h2
        simpa using this
      have h6 := (manyOf_le_iff (m := manyOf x)).1 (Nat.le_refl _) v hv
      simp [limB]; omega
    · simp [limB]; omega
end Go.Proofs.YtchgbbkjbiffiaaGreat
namespace Go.Proofs.YtchgbbkjbiffiaaGreat
open Go.RowKit

theorem nth_get {x : List Nat} {a : Nat} (h : a < x.length) : nth x a = x[a] := by
  unfold nth; rw [List.getElem?_eq_getElem h]; rfl
theorem nth_eq' {x : List Nat} {a b : Nat} (ha : a < x.length) (hb : b < x.length) : (x[a]? == x[b]?) = (nth x a == nth x b) := by
  unfold nth
  rw [List.getElem?_eq_getElem ha, List.getElem?_eq_getElem hb]
  simp
theorem rgs_onto {x : List Nat} (g : ∀ i (h : i < x.length), x[i] ≤ manyOf (x.take i)) : ∀ i, i ≤ x.length → ∀ v, v < manyOf (x.take i) → ∃ j, j < i ∧ nth x j = v
  | 0, _, v, h => by simp [manyOf] at h
  | i + 1, hi, v, h => by
    have hx : x[i]? = some (x[i]'(by omega)) := List.getElem?_eq_getElem (by omega)
    rw [take_snoc hx, manyOf_snoc] at h
    rcases Nat.lt_or_ge v (manyOf (x.take i)) with h1 | h1
    · obtain ⟨j, hj, e⟩ := rgs_onto g i (by omega) v h1
      exact ⟨j, by omega, e⟩
    · have := g i (by omega)
      exact ⟨i, by omega, by rw [nth_get (by omega)]; omega⟩
theorem rgs_unique {x y : List Nat} (hl : x.length = y.length) (gx : ∀ i (h : i < x.length), x[i] ≤ manyOf (x.take i)) (gy : ∀ i (h : i < y.length), y[i] ≤ manyOf (y.take i))
    (h : ∀ a b, a < x.length → b < x.length → (nth x a = nth x b ↔ nth y a = nth y b)) : x = y := by
  have step : ∀ i, i ≤ x.length → x.take i = y.take i := by
    intro i
    induction i with
    | zero => intro _; simp
    | succ i ih =>
      intro hi
      have ih := ih (by omega)
      have hx : x[i]? = some (x[i]'(by omega)) := List.getElem?_eq_getElem (by omega)
      have hy : y[i]? = some (y[i]'(by omega)) := List.getElem?_eq_getElem (by omega)
      have same : ∀ j, j < i → nth x j = nth y j := fun j hj => by
        have := congrArg (fun l => l[j]?.getD 0) ih
        simp only [List.getElem?_take_of_lt hj] at this
        exact this
      have ux := gx i (by omega)
      have uy := gy i (by omega)
      have e : x[i]'(by omega) = y[i]'(by omega) := by
        rcases Nat.lt_or_ge (x[i]'(by omega)) (manyOf (x.take i)) with h1 | h1
        · obtain ⟨j, hj, e⟩ := rgs_onto gx i (by omega) _ h1
          have h2 := (h j i (by omega) (by omega)).1 (by rw [e, nth_get (by omega)])
          rw [← same j hj, e, nth_get (by omega)] at h2
          exact h2
        · rcases Nat.lt_or_ge (y[i]'(by omega)) (manyOf (y.take i)) with h3 | h3
          · obtain ⟨j, hj, e⟩ := rgs_onto gy i (by omega) _ h3
            have h2 := (h j i (by omega) (by omega)).2 (by rw [e, nth_get (by omega)])
            rw [same j hj, e, nth_get (by omega)] at h2
            exact h2.symm
          · rw [ih] at ux h1
            omega
      rw [take_snoc hx, take_snoc hy, ih, e]
  have := step x.length (Nat.le_refl _)
  rwa [List.take_length, hl, List.take_length] at this
theorem Reas.unique {c e : Cs} {x y : List Nat} (hx : Reas c x) (hy : Reas e y) (hl : x.length = y.length) (h : ∀ a b, a < x.length → b < x.length → (nth x a = nth x b ↔ nth y a = nth y b)) : x = y :=
  rgs_unique hl hx.grow hy.grow h
/-- the answers, by what there is -/
theorem tog_iff {c : Cs} {a b : Nat} (ha : a < c.parts.length) (hb : b < c.parts.length) : togB c.parts.length (allR c) a b = true ↔ ∃ x, Reas c x ∧ nth x a = nth x b := by
  simp only [togB, Bool.and_eq_true, decide_eq_true_eq, List.any_eq_true]
  constructor
  · rintro ⟨_, x, hx, e⟩
    have hr := mem_allR.1 hx
    rw [nth_eq' (by rw [hr.len]; exact ha) (by rw [hr.len]; exact hb)] at e
    exact ⟨x, hr, by simpa using e⟩
  · rintro ⟨x, hr, e⟩
    exact ⟨⟨ha, hb⟩, x, mem_allR.2 hr, by rw [nth_eq' (by rw [hr.len]; exact ha) (by rw [hr.len]; exact hb)]; simpa using e⟩
theorem apt_iff {c : Cs} {a b : Nat} (ha : a < c.parts.length) (hb : b < c.parts.length) : aptB c.parts.length (allR c) a b = true ↔ ∃ x, Reas c x ∧ nth x a ≠ nth x b := by
  simp only [aptB, Bool.and_eq_true, decide_eq_true_eq, List.any_eq_true]
  constructor
  · rintro ⟨_, x, hx, e⟩
    have hr := mem_allR.1 hx
    rw [bne, nth_eq' (by rw [hr.len]; exact ha) (by rw [hr.len]; exact hb)] at e
    exact ⟨x, hr, by simpa using e⟩
  · rintro ⟨x, hr, e⟩
    exact ⟨⟨ha, hb⟩, x, mem_allR.2 hr, by rw [bne, nth_eq' (by rw [hr.len]; exact ha) (by rw [hr.len]; exact hb)]; simpa using e⟩
end Go.Proofs.YtchgbbkjbiffiaaGreat
namespace Go.Proofs.YtchgbbkjbiffiaaGreat
open Go.RowKit

theorem free_reas {c : Cs} {z : Nat → Nat} (hl : c.limit ≤ 0) (h : ∀ p q, p < c.parts.length → q < c.parts.length → clashB c p q = true → z p ≠ z q) : ∃ x, Reas c x ∧ ∀ a b, a < c.parts.length → b < c.parts.length → (nth x a = nth x b ↔ z a = z b) :=
  GoodZ.reas ⟨h, fun h => by omega⟩
theorem free_some {c : Cs} (hl : c.limit ≤ 0) : (allR c).isEmpty = false := by
  obtain ⟨x, hx, _⟩ := free_reas (z := fun a => a) hl (fun p q _ _ h => clashB_ne h)
  rcases h : allR c with _ | _
  · have := mem_allR.2 hx; rw [h] at this; simp at this
  · rfl
theorem ans_iff (c : Cs) (a b : Nat) : ansAt c a b = if aptB c.parts.length (allR c) a b then (if togB c.parts.length (allR c) a b then 3 else 2) else 1 := rfl
theorem free_ans {c : Cs} (hl : c.limit ≤ 0) {a b : Nat} (ha : a < c.parts.length) (hb : b < c.parts.length) : ansAt c a b = if a = b then 1 else if clashB c a b then 2 else 3 := by
  rw [ans_iff]
  by_cases hab : a = b
  · subst hab
    rw [if_pos rfl, if_neg (fun h => by obtain ⟨x, _, e⟩ := (apt_iff ha hb).1 h; exact e rfl)]
  · rw [if_neg hab]
    have h1 : aptB c.parts.length (allR c) a b = true := by
      obtain ⟨x, hx, hi⟩ := free_reas (z := fun a => a) hl (fun p q _ _ h => clashB_ne h)
      exact (apt_iff ha hb).2 ⟨x, hx, fun e => hab ((hi a b ha hb).1 e)⟩
    rw [if_pos h1]
    rcases hc : clashB c a b with _ | _
    · rw [if_neg Bool.false_ne_true]
      obtain ⟨x, hx, hi⟩ := free_reas (c := c) (z := fun i => if i = b then a else i) hl (fun p q _ _ h e => by
        split at e <;> split at e
        · rename_i h1 h2; exact clashB_ne h (h1.trans h2.symm)
        · rename_i h1 h2; subst h1; subst e; rw [clashB_sym, hc] at h; cases h
        · rename_i h1 h2; subst h2; subst e; rw [hc] at h; cases h
        · exact clashB_ne h e)
      rw [if_pos ((tog_iff ha hb).2 ⟨x, hx, (hi a b ha hb).2 (by simp)⟩)]
    · rw [if_pos (rfl : true = true), if_neg (fun h => by
        obtain ⟨x, hx, e⟩ := (tog_iff ha hb).1 h
        exact hx.good.clash a b ha hb hc e)]
theorem allGo_nodup (c : Cs) : ∀ (r : Nat) (pre : List Nat), (allGo c r pre).Nodup
  | 0, pre => by simp [allGo]
  | r + 1, pre => by
    rw [allGo, List.Nodup, List.pairwise_flatMap]
    refine ⟨fun v _ => ?_, ?_⟩
    · split
      · exact allGo_nodup c r _
      · exact List.Pairwise.nil
    · refine List.Pairwise.imp (fun {u v} huv x hx y hy e => ?_) (List.nodup_range (n := manyOf pre + 1))
      subst e
      split at hx
      · split at hy
        · obtain ⟨e1, h1, _⟩ := (mem_allGo c r _ x).1 hx
          obtain ⟨e2, h2, _⟩ := (mem_allGo c r _ x).1 hy
          have h3 := h1.symm.trans h2
          rw [List.append_assoc, List.append_assoc] at h3
          have h4 := List.append_cancel_left h3
          simp at h4
          exact huv h4.1
        · simp at hy
      · simp at hx
theorem allR_nodup (c : Cs) : (allR c).Nodup := allGo_nodup c _ _
/-- just one reassembly: no pair is open -/
theorem one_open {c : Cs} (hne : (allR c).isEmpty = false) : (allR c).length = 1 ↔ ∀ a b, a < c.parts.length → b < c.parts.length → a < b → ansAt c a b ≠ 3 := by
  constructor
  · intro h a b ha hb _ e
    rw [ans_iff] at e
    split at e
    · rename_i h1
      split at e
      · rename_i h2
        obtain ⟨x, hx, e1⟩ := (apt_iff ha hb).1 h1
        obtain ⟨y, hy, e2⟩ := (tog_iff ha hb).1 h2
        have hx' := mem_allR.2 hx
        have hy' := mem_allR.2 hy
        obtain ⟨z, hz⟩ := List.length_eq_one_iff.1 h
        rw [hz, List.mem_singleton] at hx' hy'
        rw [hx'] at e1
        rw [hy'] at e2
        exact e1 e2
      · cases e
    · cases e
  · intro h
    rcases hr : allR c with _ | ⟨x, _ | ⟨y, l⟩⟩
    · rw [hr] at hne; cases hne
    · rfl
    · exfalso
      have hx := mem_allR.1 (show x ∈ allR c by rw [hr]; simp)
      have hy := mem_allR.1 (show y ∈ allR c by rw [hr]; simp)
      have hnd := allR_nodup c
      rw [hr] at hnd
      have hxy : x ≠ y := fun e => (List.nodup_cons.1 hnd).1 (by rw [e]; simp)
      refine hxy (hx.unique hy (hx.len.trans hy.len.symm) fun a b ha hb => ?_)
      rw [hx.len] at ha hb
      have key : ∀ a b, a < c.parts.length → b < c.parts.length → a < b → (nth x a = nth x b ↔ nth y a = nth y b) := by
        intro a b ha hb hlt
        have h1 := h a b ha hb hlt
        rw [ans_iff] at h1
        by_cases e1 : nth x a = nth x b <;> by_cases e2 : nth y a = nth y b
        · exact ⟨fun _ => e2, fun _ => e1⟩
        · rw [if_pos ((apt_iff ha hb).2 ⟨y, hy, e2⟩), if_pos ((tog_iff ha hb).2 ⟨x, hx, e1⟩)] at h1
          exact absurd rfl h1
        · rw [if_pos ((apt_iff ha hb).2 ⟨x, hx, e1⟩), if_pos ((tog_iff ha hb).2 ⟨y, hy, e2⟩)] at h1
          exact absurd rfl h1
        · exact ⟨fun e => absurd e e1, fun e => absurd e e2⟩
      rcases Nat.lt_trichotomy a b with hlt | rfl | hlt
      · exact key a b ha hb hlt
      · simp
      · have := key b a hb ha hlt
        exact ⟨fun e => (this.1 e.symm).symm, fun e => (this.2 e.symm).symm⟩
end Go.Proofs.YtchgbbkjbiffiaaGreat
namespace Go.Proofs.YtchgbbkjbiffiaaGreat
open Go.RowKit

theorem full_mem {n : Nat} {l : List Nat} (hnd : l.Nodup) (hs : ∀ a ∈ l, a < n) (hl : l.length = n) : ∀ v, v < n → v ∈ l := by
  intro v hv
  refine Classical.byContradiction fun h => ?_
  have := nodup_le (m := List.range n) (List.nodup_cons.2 ⟨h, hnd⟩) (fun a ha => by
    rcases List.mem_cons.1 ha with rfl | ha
    · exact List.mem_range.2 hv
    · exact List.mem_range.2 (hs a ha))
  simp at this
  omega
/-- d is c in another order -/
structure Reord (c d : Cs) (s : List Nat) : Prop where
  len : d.parts.length = c.parts.length
  lim : d.limit = c.limit
  slen : s.length = c.parts.length
  lt : ∀ a ∈ s, a < c.parts.length
  nd : s.Nodup
  at_ : ∀ i, i < c.parts.length → d.parts[i]? = c.parts[nth s i]?
section
variable {c d : Cs} {s : List Nat}
theorem Reord.nlt (R : Reord c d s) {i : Nat} (hi : i < c.parts.length) : nth s i < c.parts.length := by
  rw [nth_get (by rw [R.slen]; exact hi)]
  exact R.lt _ (List.getElem_mem _)
theorem Reord.inj (R : Reord c d s) {i j : Nat} (hi : i < c.parts.length) (hj : j < c.parts.length) (h : nth s i = nth s j) : i = j := by
  rw [nth_get (by rw [R.slen]; exact hi), nth_get (by rw [R.slen]; exact hj)] at h
  have hnd := R.nd
  rw [List.Nodup, List.pairwise_iff_getElem] at hnd
  rcases Nat.lt_trichotomy i j with k | k | k
  · exact absurd h (hnd i j (by rw [R.slen]; exact hi) (by rw [R.slen]; exact hj) k)
  · exact k
  · exact absurd h.symm (hnd j i (by rw [R.slen]; exact hj) (by rw [R.slen]; exact hi) k)
theorem Reord.onto (R : Reord c d s) {p : Nat} (hp : p < c.parts.length) : ∃ i, i < c.parts.length ∧ nth s i = p := by
  obtain ⟨i, hi, e⟩ := List.getElem_of_mem (full_mem R.nd R.lt R.slen p hp)
  exact ⟨i, by rw [← R.slen]; exact hi, by rw [nth_get hi, e]⟩
theorem Reord.clash (R : Reord c d s) {i j : Nat} (hi : i < c.parts.length) (hj : j < c.parts.length) : clashB d i j = clashB c (nth s i) (nth s j) := by
  unfold clashB
  rw [R.at_ i hi, R.at_ j hj]
  rcases c.parts[nth s i]? with _ | p <;> rcases c.parts[nth s j]? with _ | q <;> try rfl
  simp only [clashP]
  congr 1
  rw [Bool.eq_iff_iff]
  simp only [bne_iff_ne]
  exact ⟨fun h e => h (R.inj hi hj e), fun h e => h (by rw [e])⟩
theorem Reord.fwd (R : Reord c d s) {x : List Nat} (hx : Reas c x) : ∃ y, Reas d y ∧ ∀ i j, i < c.parts.length → j < c.parts.length → (nth y i = nth y j ↔ nth x (nth s i) = nth x (nth s j)) := by
  have G := hx.good
  have G' : GoodZ d d.parts.length (fun i => nth x (nth s i)) := by
    rw [R.len]
    refine ⟨fun p q hp hq h => ?_, fun hl ps hps hpw => ?_⟩
    · rw [R.clash hp hq] at h
      exact G.clash _ _ (R.nlt hp) (R.nlt hq) h
    · rw [R.lim] at hl ⊢
      have := G.lim hl (ps.map (nth s)) (fun p hp => by
        simp only [List.mem_map] at hp
        obtain ⟨a, ha, rfl⟩ := hp
        exact R.nlt (hps a ha)) (by rw [List.pairwise_map]; exact hpw)
      simpa using this
  obtain ⟨y, hy, hi⟩ := G'.reas
  exact ⟨y, hy, fun i j hi' hj' => hi i j (by rw [R.len]; exact hi') (by rw [R.len]; exact hj')⟩
theorem Reord.bwd (R : Reord c d s) {y : List Nat} (hy : Reas d y) : ∃ x, Reas c x ∧ ∀ i j, i < c.parts.length → j < c.parts.length → (nth y i = nth y j ↔ nth x (nth s i) = nth x (nth s j)) := by
  have G := hy.good
  rw [R.len] at G
  have inv : ∃ t : Nat → Nat, ∀ p, p < c.parts.length → t p < c.parts.length ∧ nth s (t p) = p := by
    refine ⟨fun p => if h : p < c.parts.length then Classical.choose (R.onto h) else 0, fun p hp => ?_⟩
    simp only [dif_pos hp]
    exact Classical.choose_spec (R.onto hp)
  obtain ⟨t, ht⟩ := inv
  have G' : GoodZ c c.parts.length (fun p => nth y (t p)) := by
    refine ⟨fun p q hp hq h => ?_, fun hl ps hps hpw => ?_⟩
    · refine G.clash _ _ (ht p hp).1 (ht q hq).1 ?_
      rw [R.clash (ht p hp).1 (ht q hq).1, (ht p hp).2, (ht q hq).2]
      exact h
    · rw [← R.lim] at hl ⊢
      have := G.lim hl (ps.map t) (fun p hp => by
        simp only [List.mem_map] at hp
        obtain ⟨a, ha, rfl⟩ := hp
        exact (ht a (hps a ha)).1) (by rw [List.pairwise_map]; exact hpw)
      simpa using this
  obtain ⟨x, hx, hi⟩ := G'.reas
  refine ⟨x, hx, fun i j hi' hj' => ?_⟩
  rw [hi _ _ (R.nlt hi') (R.nlt hj')]
  have e : ∀ i, i < c.parts.length → t (nth s i) = i := fun i hi => R.inj (ht _ (R.nlt hi)).1 hi (ht _ (R.nlt hi)).2
  simp only [e i hi', e j hj']
theorem Reord.ans (R : Reord c d s) {i j : Nat} (hi : i < c.parts.length) (hj : j < c.parts.length) : ansAt d i j = ansAt c (nth s i) (nth s j) := by
  have h1 : togB d.parts.length (allR d) i j = togB c.parts.length (allR c) (nth s i) (nth s j) := by
    rw [Bool.eq_iff_iff, tog_iff (by rw [R.len]; exact hi) (by rw [R.len]; exact hj), tog_iff (R.nlt hi) (R.nlt hj)]
    constructor
    · rintro ⟨y, hy, e⟩
      obtain ⟨x, hx, h⟩ := R.bwd hy
      exact ⟨x, hx, (h i j hi hj).1 e⟩
    · rintro ⟨x, hx, e⟩
      obtain ⟨y, hy, h⟩ := R.fwd hx
      exact ⟨y, hy, (h i j hi hj).2 e⟩
  have h2 : aptB d.parts.length (allR d) i j = aptB c.parts.length (allR c) (nth s i) (nth s j) := by
    rw [Bool.eq_iff_iff, apt_iff (by rw [R.len]; exact hi) (by rw [R.len]; exact hj), apt_iff (R.nlt hi) (R.nlt hj)]
    constructor
    · rintro ⟨y, hy, e⟩
      obtain ⟨x, hx, h⟩ := R.bwd hy
      exact ⟨x, hx, fun k => e ((h i j hi hj).2 k)⟩
    · rintro ⟨x, hx, e⟩
      obtain ⟨y, hy, h⟩ := R.fwd hx
      exact ⟨y, hy, fun k => e ((h i j hi hj).1 k)⟩
  rw [ans_iff, ans_iff, h1, h2]
theorem map_le {α β : Type} [BEq β] [LawfulBEq β] {l : List α} {m : List β} (hnd : l.Nodup) (f : α → β) (hf : ∀ a ∈ l, f a ∈ m) (hi : ∀ a ∈ l, ∀ b ∈ l, f a = f b → a = b) : l.length ≤ m.length := by
  have := nodup_le (l := l.map f) (m := m) (by
    rw [List.Nodup, List.pairwise_map]
    exact List.Pairwise.imp_of_mem (fun {a b} ha hb h e => h (hi a ha b hb e)) hnd) (fun b hb => by
    simp only [List.mem_map] at hb
    obtain ⟨a, ha, rfl⟩ := hb
    exact hf a ha)
  simpa using this
theorem Reord.count (R : Reord c d s) : (allR c).length = (allR d).length := by
  refine Nat.le_antisymm ?_ ?_
  · have hf : ∀ x : List Nat, ∃ y : List Nat, Reas c x → Reas d y ∧ ∀ i j, i < c.parts.length → j < c.parts.length → (nth y i = nth y j ↔ nth x (nth s i) = nth x (nth s j)) := fun x => by
      by_cases h : Reas c x
      · obtain ⟨y, hy⟩ := R.fwd h; exact ⟨y, fun _ => hy⟩
      · exact ⟨[], fun k => absurd k h⟩
    refine map_le (allR_nodup c) (fun x => Classical.choose (hf x)) (fun x hx => mem_allR.2 (Classical.choose_spec (hf x) (mem_allR.1 hx)).1) (fun x hx x' hx' e => ?_)
    have h1 := Classical.choose_spec (hf x) (mem_allR.1 hx)
    have h2 := Classical.choose_spec (hf x') (mem_allR.1 hx')
    rw [← e] at h2
    have hx := mem_allR.1 hx
    have hx' := mem_allR.1 hx'
    refine hx.unique hx' (hx.len.trans hx'.len.symm) fun a b ha hb => ?_
    rw [hx.len] at ha hb
    obtain ⟨i, hi, rfl⟩ := R.onto ha
    obtain ⟨j, hj, rfl⟩ := R.onto hb
    rw [← h1.2 i j hi hj, ← h2.2 i j hi hj]
  · have hf : ∀ y : List Nat, ∃ x : List Nat, Reas d y → Reas c x ∧ ∀ i j, i < c.parts.length → j < c.parts.length → (nth y i = nth y j ↔ nth x (nth s i) = nth x (nth s j)) := fun y => by
      by_cases h : Reas d y
      · obtain ⟨x, hx⟩ := R.bwd h; exact ⟨x, fun _ => hx⟩
      · exact ⟨[], fun k => absurd k h⟩
    refine map_le (allR_nodup d) (fun y => Classical.choose (hf y)) (fun y hy => mem_allR.2 (Classical.choose_spec (hf y) (mem_allR.1 hy)).1) (fun y hy y' hy' e => ?_)
    have h1 := Classical.choose_spec (hf y) (mem_allR.1 hy)
    have h2 := Classical.choose_spec (hf y') (mem_allR.1 hy')
    rw [← e] at h2
    have hy := mem_allR.1 hy
    have hy' := mem_allR.1 hy'
    refine hy.unique hy' (hy.len.trans hy'.len.symm) fun a b ha hb => ?_
    rw [hy.len, R.len] at ha hb
    rw [h1.2 a b ha hb, h2.2 a b ha hb]
end
end Go.Proofs.YtchgbbkjbiffiaaGreat
namespace Go.Proofs.YtchgbbkjbiffiaaGreat
open Go.RowKit

/-- d lets less be than c -/
structure Tight (c d : Cs) : Prop where
  len : d.parts.length = c.parts.length
  clash : ∀ a b, a < c.parts.length → b < c.parts.length → clashB c a b = true → clashB d a b = true
  lim : 0 < c.limit → 0 < d.limit ∧ d.limit ≤ c.limit
section
variable {c d : Cs}
theorem Tight.reas (T : Tight c d) {x : List Nat} (h : Reas d x) : Reas c x := by
  refine ⟨h.len.trans T.len, h.grow, fun p q hp hq e => ?_, fun v hv => ?_⟩
  · rcases hc : clashB c p q with _ | _
    · rfl
    · have hl := h.len
      rw [T.len] at hl
      have := h.apart p q hp hq e
      rw [T.clash p q (by omega) (by omega) hc] at this
      cases this
  · have h1 := h.lim v hv
    simp [limB] at h1 ⊢
    by_cases h2 : 0 < c.limit
    · have := T.lim h2; omega
    · omega
theorem Tight.ans (T : Tight c d) (hne : (allR d).isEmpty = false) {a b : Nat} (ha : a < c.parts.length) (hb : b < c.parts.length) (h : ansAt c a b ≠ 3) : ansAt d a b = ansAt c a b := by
  have ha' : a < d.parts.length := by rw [T.len]; exact ha
  have hb' : b < d.parts.length := by rw [T.len]; exact hb
  rw [ans_iff, ans_iff]
  rw [ans_iff] at h
  by_cases h1 : aptB c.parts.length (allR c) a b = true
  · rw [if_pos h1] at h ⊢
    have h2 : ¬ togB c.parts.length (allR c) a b = true := fun k => by rw [if_pos k] at h; exact h rfl
    have h3 : ¬ togB d.parts.length (allR d) a b = true := fun k => by
      obtain ⟨x, hx, e⟩ := (tog_iff ha' hb').1 k
      exact h2 ((tog_iff ha hb).2 ⟨x, T.reas hx, e⟩)
    have h4 : aptB d.parts.length (allR d) a b = true := by
      rcases hr : allR d with _ | ⟨x, l⟩
      · rw [hr] at hne; cases hne
      · have hx := mem_allR.1 (show x ∈ allR d by rw [hr]; simp)
        rw [← hr]
        exact (apt_iff ha' hb').2 ⟨x, hx, fun e => h3 ((tog_iff ha' hb').2 ⟨x, hx, e⟩)⟩
    rw [if_neg h2, if_pos h4, if_neg h3]
  · have h4 : ¬ aptB d.parts.length (allR d) a b = true := fun k => by
      obtain ⟨x, hx, e⟩ := (apt_iff ha' hb').1 k
      exact h1 ((apt_iff ha hb).2 ⟨x, T.reas hx, e⟩)
    rw [if_neg h1, if_neg h4]
theorem Tight.open_ (T : Tight c d) (hne : (allR d).isEmpty = false) {a b : Nat} (ha : a < c.parts.length) (hb : b < c.parts.length) (h : ansAt d a b = 3) : ansAt c a b = 3 := by
  refine Classical.byContradiction fun k => ?_
  rw [T.ans hne ha hb k] at h
  exact k h
theorem Tight.some_ (T : Tight c d) (hne : (allR d).isEmpty = false) : (allR c).isEmpty = false := by
  rcases hr : allR d with _ | ⟨x, l⟩
  · rw [hr] at hne; cases hne
  · have hx := mem_allR.2 (T.reas (mem_allR.1 (show x ∈ allR d by rw [hr]; simp)))
    rcases hc : allR c with _ | _
    · rw [hc] at hx; simp at hx
    · rfl
end
def valP (j : Nat) (p : Prt) : Int := if j = 0 then p.span.lowBy else if j = 1 then p.span.highBy else p.footBy
def stepP (gone : Int → Bool) (j : Nat) (p : Prt) : Prt := if hitB gone (valP j p) then clearP j p else p
def woutP (gone : Int → Bool) (p : Prt) : Prt := stepP gone 2 (stepP gone 1 (stepP gone 0 p))
theorem modify_at {α : Type} {l : List α} {i : Nat} {x : α} (h : l[i]? = some x) {f g : α → α} (hf : f x = g x) : l.modify i f = l.modify i g := by
  apply List.ext_getElem?
  intro k
  rw [List.getElem?_modify, List.getElem?_modify]
  by_cases e : i = k
  · subst e; rw [h]; simp [hf]
  · simp [e]
theorem modify_same {α : Type} {l : List α} {i : Nat} {x : α} (h : l[i]? = some x) {f : α → α} (hf : f x = x) : l.modify i f = l := by
  apply List.ext_getElem?
  intro k
  rw [List.getElem?_modify]
  by_cases e : i = k
  · subst e; rw [h]; simp [hf]
  · simp [e]
theorem stepC_part (gone : Int → Bool) {c : Cs} {i j : Nat} {p : Prt} (h : c.parts[i]? = some p) (hj : j < 3) : stepC gone c (i, j) = { c with parts := c.parts.modify i (stepP gone j) } := by
  have hv : byVal c (i, j) = valP j p := by
    simp only [byVal, valP, h]
    rw [if_neg (by omega)]
  unfold stepC
  rw [hv]
  split
  · rename_i hh
    unfold clearC
    simp only
    rw [if_neg (by omega), modify_at h (f := clearP j) (g := stepP gone j) (by simp [stepP, hh])]
  · rename_i hh
    rw [modify_same h (by simp [stepP, hh])]
theorem modify_mid {α : Type} (f : α → α) (q : α) (B : List α) : ∀ (A : List α) (i : Nat), A.length = i → (A ++ q :: B).modify i f = A ++ f q :: B
  | [], i, h => by subst h; rfl
  | a :: A, i, h => by
    subst h
    have := modify_mid f q B A A.length rfl
    simp [List.modify_succ_cons, this]
theorem fold_to (gone : Int → Bool) (c : Cs) : ∀ i, i ≤ c.parts.length → foldC gone c (bysTo i) = { c with parts := (c.parts.take i).map (woutP gone) ++ c.parts.drop i }
  | 0, _ => by simp [foldC, bysTo]
  | i + 1, hi => by
    have ih := fold_to gone c i (by omega)
    obtain ⟨p, hp⟩ := get_of_lt c.parts (k := i) (by omega)
    have hd : c.parts.drop i = p :: c.parts.drop (i + 1) := by
      rw [List.drop_eq_getElem_cons (by omega)]
      congr 1
      exact (List.getElem?_eq_some_iff.1 hp).2
    have hlen : ((c.parts.take i).map (woutP gone)).length = i := by simp; omega
    have at_ : ∀ q : Prt, ((c.parts.take i).map (woutP gone) ++ q :: c.parts.drop (i + 1))[i]? = some q := fun q => by
      rw [List.getElem?_append_right (by omega), hlen]; simp
    have mod : ∀ (q : Prt) (f : Prt → Prt), ((c.parts.take i).map (woutP gone) ++ q :: c.parts.drop (i + 1)).modify i f = (c.parts.take i).map (woutP gone) ++ f q :: c.parts.drop (i + 1) := fun q f => by
      exact modify_mid f q _ _ i hlen
    have e : bysTo (i + 1) = bysTo i ++ [(i, 0)] ++ [(i, 1)] ++ [(i, 2)] := by rw [bysTo_succ]; simp [partItems]
    rw [e, foldC_snoc, foldC_snoc, foldC_snoc, ih, hd]
    rw [stepC_part (j := 0) gone (at_ p) (by omega)]
    simp only [mod]
    rw [stepC_part (j := 1) gone (at_ _) (by omega)]
    simp only [mod]
    rw [stepC_part (j := 2) gone (at_ _) (by omega)]
    simp only [mod]
    rw [take_snoc hp, List.map_append, List.append_assoc]
    rfl
theorem woutC_eq (gone : Int → Bool) (c : Cs) : woutC gone c = { ware := c.ware, limit := if hitB gone c.by_ then 0 else c.limit, by_ := if hitB gone c.by_ then 0 else c.by_, parts := c.parts.map (woutP gone) } := by
  unfold woutC
  rw [bysList, foldC_snoc, fold_to gone c _ (Nat.le_refl _), List.take_length, List.drop_length, List.append_nil]
  unfold stepC
  have hv : byVal { c with parts := c.parts.map (woutP gone) } (c.parts.length, 3) = c.by_ := by simp [byVal]
  rw [hv]
  split
  · simp [clearC]
  · rfl
theorem woutP_eq (gone : Int → Bool) (p : Prt) : woutP gone p = ⟨p.sherds, ⟨if hitB gone p.span.lowBy then 0 else p.span.low, if hitB gone p.span.highBy then 1000 else p.span.high, if hitB gone p.span.lowBy then 0 else p.span.lowBy, if hitB gone p.span.highBy then 0 else p.span.highBy⟩,
    if hitB gone p.footBy then false else p.foot, if hitB gone p.footBy then 0 else p.footBy, p.rests⟩ := by
  unfold woutP
  rcases h0 : hitB gone p.span.lowBy with _ | _ <;> rcases h1 : hitB gone p.span.highBy with _ | _ <;> rcases h2 : hitB gone p.footBy with _ | _ <;>
    simp [stepP, valP, clearP, h0, h1, h2]
theorem okSpn_of {p : Prt} (h : isPartB p = true) : 0 ≤ p.span.low ∧ p.span.low ≤ p.span.high ∧ p.span.high ≤ 1000 := by
  simp [isPartB, okSpn] at h
  omega
theorem woutP_part (gone : Int → Bool) {p : Prt} (h : isPartB p = true) : isPartB (woutP gone p) = true := by
  rw [woutP_eq]
  simp only [isPartB, Bool.and_eq_true] at h ⊢
  obtain ⟨⟨⟨⟨⟨⟨⟨h1, h2⟩, h3⟩, h4⟩, h5⟩, h6⟩, h7⟩, h8⟩ := h
  simp only [okSpn, Bool.and_eq_true, decide_eq_true_eq] at h5
  refine ⟨⟨⟨⟨⟨⟨⟨h1, h2⟩, h3⟩, h4⟩, ?_⟩, ?_⟩, ?_⟩, ?_⟩
  · simp only [okSpn, Bool.and_eq_true, decide_eq_true_eq]
    refine ⟨⟨?_, ?_⟩, ?_⟩ <;> (try split) <;> (try split) <;> omega
  · split
    · simp [byB, inB]
    · exact h6
  · split
    · simp [byB, inB]
    · exact h7
  · split
    · simp [byB, inB]
    · exact h8
theorem clash_wout (gone : Int → Bool) {p q : Prt} {x y : Nat} (hp : isPartB p = true) (hq : isPartB q = true) (h : clashP x y (woutP gone p) (woutP gone q) = true) : clashP x y p q = true := by
  have a := okSpn_of hp
  have b := okSpn_of hq
  rw [woutP_eq, woutP_eq] at h
  simp only [clashP, feetB, Bool.and_eq_true, Bool.or_eq_true, decide_eq_true_eq, bne_iff_ne] at h ⊢
  obtain ⟨h1, h2⟩ := h
  refine ⟨h1, ?_⟩
  rcases h2 with (⟨f1, f2⟩ | h2) | h2
  · refine .inl (.inl ⟨?_, ?_⟩)
    · split at f1
      · cases f1
      · exact f1
    · split at f2
      · cases f2
      · exact f2
  · refine .inl (.inr ?_)
    split at h2 <;> split at h2 <;> omega
  · refine .inr ?_
    split at h2 <;> split at h2 <;> omega
theorem check_okCase {c : Cs} (h : checkCase c = 0) : c.parts.length ≤ 8 ∧ ok0 c = true ∧ (∀ p ∈ c.parts, isPartB p = true) ∧ noDup (allIds c.parts) = true := by
  unfold checkCase at h
  split at h
  · cases h
  · split at h
    · rename_i h1
      simp only [okCase, Bool.and_eq_true, List.all_eq_true] at h1
      exact ⟨by omega, h1.1.1, h1.1.2, h1.2⟩
    · cases h
theorem okCase_check {c : Cs} (h8 : c.parts.length ≤ 8) (h0 : ok0 c = true) (h1 : ∀ p ∈ c.parts, isPartB p = true) (h2 : noDup (allIds c.parts) = true) : checkCase c = 0 := by
  unfold checkCase
  rw [if_neg (by omega), if_pos]
  simp only [okCase, Bool.and_eq_true, List.all_eq_true]
  exact ⟨⟨h0, h1⟩, h2⟩
theorem woutC_check (gone : Int → Bool) {c : Cs} (h : checkCase c = 0) : checkCase (woutC gone c) = 0 := by
  obtain ⟨h8, h0, h1, h2⟩ := check_okCase h
  rw [woutC_eq]
  refine okCase_check (by simpa using h8) ?_ (fun p hp => ?_) ?_
  · simp only [ok0, Bool.and_eq_true] at h0 ⊢
    refine ⟨⟨h0.1.1, ?_⟩, ?_⟩
    · split
      · rfl
      · exact h0.1.2
    · split
      · simp [byB, inB]
      · exact h0.2
  · simp only [List.mem_map] at hp
    obtain ⟨q, hq, rfl⟩ := hp
    exact woutP_part gone (h1 q hq)
  · have : allIds (c.parts.map (woutP gone)) = allIds c.parts := by
      simp only [allIds, List.flatMap_map]
      congr 1
      funext p
      rw [woutP_eq]
    rw [this]; exact h2
theorem clashB_at {c : Cs} {a b : Nat} {p q : Prt} (ha : c.parts[a]? = some p) (hb : c.parts[b]? = some q) : clashB c a b = clashP a b p q := clashB_eq ha hb
theorem wout_tight (gone : Int → Bool) {c : Cs} (h : checkCase c = 0) : Tight (woutC gone c) c := by
  obtain ⟨_, _, h1, _⟩ := check_okCase h
  rw [woutC_eq]
  refine ⟨by simp, fun a b ha hb k => ?_, fun hl => ?_⟩
  · simp only [List.length_map] at ha hb
    obtain ⟨p, hp⟩ := get_of_lt c.parts ha
    obtain ⟨q, hq⟩ := get_of_lt c.parts hb
    rw [clashB_at (p := woutP gone p) (q := woutP gone q) (by simp [hp]) (by simp [hq])] at k
    rw [clashB_at hp hq]
    exact clash_wout gone (h1 p (List.mem_of_getElem? hp)) (h1 q (List.mem_of_getElem? hq)) k
  · by_cases hh : hitB gone c.by_ = true
    · simp [hh] at hl
    · simp [hh] at hl ⊢
      omega
end Go.Proofs.YtchgbbkjbiffiaaGreat
namespace Go.Proofs.YtchgbbkjbiffiaaGreat
open Go.RowKit

def narrowP (low high id : Int) (p : Prt) : Prt :=
  { p with span := ⟨if p.span.low < low then low else p.span.low, if high < p.span.high then high else p.span.high, if p.span.low < low then id else p.span.lowBy, if high < p.span.high then id else p.span.highBy⟩ }
def narrowC (c : Cs) (i : Nat) (low high id : Int) : Cs := { c with parts := c.parts.modify i (narrowP low high id) }
theorem narrowP_part {p : Prt} {low high id : Int} (h : isPartB p = true) (h1 : 0 ≤ low) (h2 : high ≤ 1000) (h3 : 1 ≤ id ∧ id ≤ 1000000) (h4 : (narrowP low high id p).span.low ≤ (narrowP low high id p).span.high) : isPartB (narrowP low high id p) = true := by
  simp only [isPartB, Bool.and_eq_true] at h ⊢
  obtain ⟨⟨⟨⟨⟨⟨⟨a1, a2⟩, a3⟩, a4⟩, a5⟩, a6⟩, a7⟩, a8⟩ := h
  simp only [okSpn, Bool.and_eq_true, decide_eq_true_eq] at a5
  refine ⟨⟨⟨⟨⟨⟨⟨a1, a2⟩, a3⟩, a4⟩, ?_⟩, ?_⟩, ?_⟩, a8⟩
  · simp only [okSpn, Bool.and_eq_true, decide_eq_true_eq]
    refine ⟨⟨?_, h4⟩, ?_⟩
    · simp only [narrowP]; split <;> omega
    · simp only [narrowP]; split <;> omega
  · simp only [narrowP]
    split
    · simp [byB, inB]; omega
    · exact a6
  · simp only [narrowP]
    split
    · simp [byB, inB]; omega
    · exact a7
theorem narrow_at {c : Cs} {i a : Nat} {low high id : Int} {p : Prt} (ha : c.parts[a]? = some p) : (narrowC c i low high id).parts[a]? = some (if i = a then narrowP low high id p else p) := by
  simp only [narrowC, List.getElem?_modify, ha]
  split <;> simp
theorem narrow_check {c : Cs} {i : Nat} {low high id : Int} {p : Prt} (h : checkCase c = 0) (hp : c.parts[i]? = some p) (h1 : 0 ≤ low) (h2 : high ≤ 1000) (h3 : 1 ≤ id ∧ id ≤ 1000000)
    (h4 : (narrowP low high id p).span.low ≤ (narrowP low high id p).span.high) : checkCase (narrowC c i low high id) = 0 := by
  obtain ⟨h8, k0, k1, k2⟩ := check_okCase h
  refine okCase_check (by simpa [narrowC] using h8) k0 (fun q hq => ?_) ?_
  · obtain ⟨a, hal, rfl⟩ := List.getElem_of_mem hq
    have hal' : a < c.parts.length := by simpa [narrowC] using hal
    obtain ⟨r, hr⟩ := get_of_lt c.parts hal'
    have e := narrow_at (i := i) (low := low) (high := high) (id := id) hr
    rw [List.getElem?_eq_getElem hal] at e
    rw [Option.some.inj e]
    split
    · rename_i hia
      subst hia
      rw [hp] at hr; cases hr
      exact narrowP_part (k1 p (List.mem_of_getElem? hp)) h1 h2 h3 h4
    · exact k1 r (List.mem_of_getElem? hr)
  · have e : allIds (narrowC c i low high id).parts = allIds c.parts := by
      simp only [allIds, narrowC, List.flatMap_def]
      congr 1
      apply List.ext_getElem?
      intro k
      rw [List.getElem?_map, List.getElem?_map, List.getElem?_modify]
      rcases c.parts[k]? with _ | r
      · rfl
      · simp only [Option.map_eq_map, Option.map_some]
        split <;> rfl
    rw [e]; exact k2
theorem narrow_tight (c : Cs) (i : Nat) (low high id : Int) : Tight c (narrowC c i low high id) := by
  refine ⟨by simp [narrowC], fun a b ha hb k => ?_, fun hl => ⟨hl, Int.le_refl _⟩⟩
  obtain ⟨p, hp⟩ := get_of_lt c.parts ha
  obtain ⟨q, hq⟩ := get_of_lt c.parts hb
  rw [clashB_at hp hq] at k
  rw [clashB_at (narrow_at hp) (narrow_at hq)]
  simp only [clashP, feetB, Bool.and_eq_true, Bool.or_eq_true, decide_eq_true_eq, bne_iff_ne] at k ⊢
  obtain ⟨k1, k2⟩ := k
  have lo : ∀ r : Prt, r.span.low ≤ (narrowP low high id r).span.low := fun r => by simp only [narrowP]; split <;> omega
  have hi : ∀ r : Prt, (narrowP low high id r).span.high ≤ r.span.high := fun r => by simp only [narrowP]; split <;> omega
  have ft : ∀ r : Prt, (narrowP low high id r).foot = r.foot := fun r => rfl
  have lo' : ∀ (r : Prt) (j : Nat), r.span.low ≤ (if i = j then narrowP low high id r else r).span.low := fun r j => by
    split
    · exact lo r
    · exact Int.le_refl _
  have hi' : ∀ (r : Prt) (j : Nat), (if i = j then narrowP low high id r else r).span.high ≤ r.span.high := fun r j => by
    split
    · exact hi r
    · exact Int.le_refl _
  have ft' : ∀ (r : Prt) (j : Nat), (if i = j then narrowP low high id r else r).foot = r.foot := fun r j => by split <;> rfl
  rw [ft', ft']
  refine ⟨k1, ?_⟩
  have l1 := lo' p a
  have l2 := lo' q b
  have u1 := hi' p a
  have u2 := hi' q b
  rcases k2 with (k2 | k2) | k2
  · exact .inl (.inl k2)
  · exact .inl (.inr (by omega))
  · exact .inr (by omega)
/-- with a lesser Limit -/
theorem limit_check {c : Cs} {m : Int} (h : checkCase c = 0) (h1 : 0 < m) (h2 : m ≤ 40) : checkCase { c with limit := m } = 0 := by
  obtain ⟨h8, k0, k1, k2⟩ := check_okCase h
  refine okCase_check h8 ?_ k1 k2
  simp only [ok0, Bool.and_eq_true] at k0 ⊢
  refine ⟨⟨k0.1.1, by simp [inB]; omega⟩, ?_⟩
  have := k0.2
  simp [byB, inB] at this ⊢
  omega
theorem limit_tight {c : Cs} {m : Int} (h1 : 0 < m) (h2 : c.limit ≤ 0 ∨ m < c.limit) : Tight c { c with limit := m } :=
  ⟨rfl, fun _ _ _ _ k => k, fun hl => ⟨h1, by simp only; omega⟩⟩
/-- certainly together -/
theorem ans_one {c : Cs} {a b : Nat} (ha : a < c.parts.length) (hb : b < c.parts.length) : ansAt c a b = 1 ↔ ∀ x, Reas c x → nth x a = nth x b := by
  rw [ans_iff]
  by_cases h : aptB c.parts.length (allR c) a b = true
  · rw [if_pos h]
    obtain ⟨x, hx, e⟩ := (apt_iff ha hb).1 h
    constructor
    · intro k; split at k <;> cases k
    · intro k; exact absurd (k x hx) e
  · rw [if_neg h]
    exact ⟨fun _ x hx => Classical.byContradiction fun e => h ((apt_iff ha hb).2 ⟨x, hx, e⟩), fun _ => rfl⟩
theorem ans_refl {c : Cs} {a : Nat} (ha : a < c.parts.length) : ansAt c a a = 1 := (ans_one ha ha).2 fun _ _ => rfl
theorem ans_congr {c : Cs} {a b a' b' : Nat} (ha : a < c.parts.length) (hb : b < c.parts.length) (ha' : a' < c.parts.length) (hb' : b' < c.parts.length) (h : ∀ x, Reas c x → (nth x a = nth x b ↔ nth x a' = nth x b')) : ansAt c a b = ansAt c a' b' := by
  have h1 : togB c.parts.length (allR c) a b = togB c.parts.length (allR c) a' b' := by
    rw [Bool.eq_iff_iff, tog_iff ha hb, tog_iff ha' hb']
    exact ⟨fun ⟨x, hx, e⟩ => ⟨x, hx, (h x hx).1 e⟩, fun ⟨x, hx, e⟩ => ⟨x, hx, (h x hx).2 e⟩⟩
  have h2 : aptB c.parts.length (allR c) a b = aptB c.parts.length (allR c) a' b' := by
    rw [Bool.eq_iff_iff, apt_iff ha hb, apt_iff ha' hb']
    exact ⟨fun ⟨x, hx, e⟩ => ⟨x, hx, fun k => e ((h x hx).2 k)⟩, fun ⟨x, hx, e⟩ => ⟨x, hx, fun k => e ((h x hx).1 k)⟩⟩
  rw [ans_iff, ans_iff, h1, h2]
theorem ans_symm {c : Cs} {a b : Nat} (ha : a < c.parts.length) (hb : b < c.parts.length) : ansAt c a b = ansAt c b a := ans_congr ha hb hb ha fun _ _ => ⟨fun e => e.symm, fun e => e.symm⟩
theorem ans_row {c : Cs} {a b x : Nat} (ha : a < c.parts.length) (hb : b < c.parts.length) (hx : x < c.parts.length) (h : ansAt c a b = 1) : ansAt c a x = ansAt c b x :=
  ans_congr ha hx hb hx fun y hy => by rw [(ans_one ha hb).1 h y hy]
/-- what two looks say -/
theorem with_isSome {c : Cs} {a b : Nat} {t : Bool} (ha : a < c.parts.length) (hb : b < c.parts.length) : ((allR c).find? (asPair a b t)).isSome = if t then togB c.parts.length (allR c) a b else aptB c.parts.length (allR c) a b := by
  rw [Bool.eq_iff_iff, List.find?_isSome]
  have key : ∀ x, Reas c x → (asPair a b t x = true ↔ (nth x a == nth x b) = t) := fun x hx => by
    rw [asPair, nth_eq' (by rw [hx.len]; exact ha) (by rw [hx.len]; exact hb), beq_iff_eq]
  cases t
  · simp only [Bool.false_eq_true, if_false]
    rw [apt_iff ha hb]
    exact ⟨fun ⟨x, hx, e⟩ => ⟨x, mem_allR.1 hx, by simpa using (key x (mem_allR.1 hx)).1 e⟩, fun ⟨x, hx, e⟩ => ⟨x, mem_allR.2 hx, (key x hx).2 (by simpa using e)⟩⟩
  · simp only [if_true]
    rw [tog_iff ha hb]
    exact ⟨fun ⟨x, hx, e⟩ => ⟨x, mem_allR.1 hx, by simpa using (key x (mem_allR.1 hx)).1 e⟩, fun ⟨x, hx, e⟩ => ⟨x, mem_allR.2 hx, (key x hx).2 (by simpa using e)⟩⟩
end Go.Proofs.YtchgbbkjbiffiaaGreat
namespace Go.Proofs.YtchgbbkjbiffiaaGreat
open Go.RowKit

section
variable {c : Cs} {d : Dec} {n : Nat}
theorem Conn.mono {d' : Dec} (h : ∀ a b, d a b &&& 1 ≠ 0 → d' a b &&& 1 ≠ 0) {a b : Nat} (k : Conn d n a b) : Conn d' n a b := by
  induction k with
  | refl => exact .refl _
  | step e _ ih => exact .step ⟨e.1, e.2.1, h _ _ e.2.2⟩ ih
theorem Opp.mono {d' : Dec} (h1 : ∀ a b, d a b &&& 1 ≠ 0 → d' a b &&& 1 ≠ 0) (h2 : ∀ a b, d a b &&& 2 ≠ 0 → d' a b &&& 2 ≠ 0) {x y : Nat} (h : Opp c d n x y) : Opp c d' n x y := by
  obtain ⟨p, q, p1, q1, p2, q2, h⟩ := h
  exact ⟨p, q, p1, q1, p2.mono h1, q2.mono h1, h.imp id (h2 _ _)⟩
theorem Opp.symm (hs : SymD d) {x y : Nat} (h : Opp c d n x y) : Opp c d n y x := by
  obtain ⟨p, q, p1, q1, p2, q2, h⟩ := h
  refine ⟨q, p, q1, p1, q2, p2, ?_⟩
  rwa [clashB_sym, hs q p]
theorem conn_lone {p b : Nat} (h : ∀ b, d p b &&& 1 = 0) (k : Conn d n p b) : b = p := by
  cases k with
  | refl => rfl
  | step e _ => exact absurd (h _) e.2.2
/-- what holds while the parts are put to classes -/
structure Inv (c : Cs) (d : Dec) (n : Nat) (P : Nat → Prop) (reps : List Nat) : Prop where
  sym : SymD d
  self : ∀ a, d a a &&& 2 = 0
  repIn : ∀ r ∈ reps, r < n ∧ P r
  cover : ∀ a, a < n → P a → ∃ r ∈ reps, Conn d n a r
  opp : reps.Pairwise (fun r s => Opp c d n r s)
  ok : ∀ a b, a < n → b < n → Conn d n a b → clashB c a b = false ∧ d a b &&& 2 = 0
  lone : ∀ a, a < n → ¬ P a → ∀ b, d a b &&& 1 = 0
variable {P : Nat → Prop} {reps : List Nat}
theorem Inv.push (I : Inv c d n P reps) {p : Nat} (hp : p < n) (h : ∀ r ∈ reps, Opp c d n r p) : Inv c d n (fun a => P a ∨ a = p) (reps ++ [p]) := by
  refine ⟨I.sym, I.self, fun r hr => ?_, fun a ha k => ?_, ?_, I.ok, fun a ha k => I.lone a ha (fun e => k (.inl e))⟩
  · rcases List.mem_append.1 hr with hr | hr
    · exact ⟨(I.repIn r hr).1, .inl (I.repIn r hr).2⟩
    · rw [List.mem_singleton.1 hr]; exact ⟨hp, .inr rfl⟩
  · rcases k with k | rfl
    · obtain ⟨r, hr, k⟩ := I.cover a ha k
      exact ⟨r, List.mem_append_left _ hr, k⟩
    · exact ⟨a, by simp, .refl _⟩
  · rw [List.pairwise_append]
    refine ⟨I.opp, by simp, fun r hr s hs => ?_⟩
    rw [List.mem_singleton.1 hs]
    exact h r hr
theorem mono1 (hs : SymD d) (x y w : Nat) (m : Nat) : ∀ a b, d a b &&& m ≠ 0 → decWith d x y w a b &&& m ≠ 0 := fun a b h => (decWith_bit hs x y w m a b).2 (.inl h)
theorem Inv.together (I : Inv c d n P reps) {p q : Nat} (hp : p < n) (hpP : ¬ P p) (hq : q ∈ reps) (h : ¬ Opp c d n q p) : Inv c (decWith d q p 1) n (fun a => P a ∨ a = p) reps := by
  obtain ⟨hqn, hqP⟩ := I.repIn q hq
  have hne : q ≠ p := fun e => hpP (e ▸ hqP)
  have lp := I.lone p hp hpP
  have m1 := mono1 I.sym q p 1 1
  have m2 := mono1 I.sym q p 1 2
  have two : ∀ a b, d a b &&& 2 = 0 → decWith d q p 1 a b &&& 2 = 0 := fun a b h0 => by
    by_cases k : decWith d q p 1 a b &&& 2 = 0
    · exact k
    · rcases (decWith_bit I.sym q p 1 2 a b).1 k with k | ⟨_, k⟩
      · exact absurd h0 k
      · exact absurd rfl k
  have con : ∀ {a b : Nat}, Conn (decWith d q p 1) n a b → Conn d n a b ∨ (Conn d n a q ∧ b = p) ∨ (a = p ∧ Conn d n q b) := by
    intro a b k
    induction k with
    | refl => exact .inl (.refl _)
    | step e0 _ ih =>
      obtain ⟨ha, hb, e1⟩ := e0
      rcases (decWith_bit I.sym q p 1 1 _ _).1 e1 with e | ⟨⟨rfl, rfl⟩ | ⟨rfl, rfl⟩, _⟩
      · clear e1
        rcases ih with k | ⟨k, h3⟩ | ⟨h3, k⟩
        · exact .inl (.step ⟨ha, hb, e⟩ k)
        · exact .inr (.inl ⟨.step ⟨ha, hb, e⟩ k, h3⟩)
        · rw [I.sym, h3] at e; exact absurd (lp _) e
      · rcases ih with k | ⟨_, rfl⟩ | ⟨_, k⟩
        · exact .inr (.inl ⟨.refl _, conn_lone lp k⟩)
        · exact .inr (.inl ⟨.refl _, rfl⟩)
        · exact .inl k
      · rcases ih with k | ⟨_, rfl⟩ | ⟨e, _⟩
        · exact .inr (.inr ⟨rfl, k⟩)
        · exact .inl (.refl _)
        · exact absurd e hne
  refine ⟨decWith_sym I.sym _ _ _, fun a => two a a (I.self a), fun r hr => ⟨(I.repIn r hr).1, .inl (I.repIn r hr).2⟩, fun a ha k => ?_, I.opp.imp (fun h => h.mono m1 m2), fun a b ha hb k => ?_, fun a ha k b => ?_⟩
  · rcases k with k | rfl
    · obtain ⟨r, hr, k⟩ := I.cover a ha k
      exact ⟨r, hr, k.mono m1⟩
    · exact ⟨q, hq, .one ⟨ha, hqn, (decWith_bit I.sym q a 1 1 a q).2 (.inr ⟨.inr ⟨rfl, rfl⟩, by decide⟩)⟩⟩
  · rcases con k with k1 | ⟨k1, rfl⟩ | ⟨rfl, k1⟩
    · exact ⟨(I.ok a b ha hb k1).1, two a b (I.ok a b ha hb k1).2⟩
    · have h1 : ¬ (clashB c a b = true ∨ d a b &&& 2 ≠ 0) := fun e => h ⟨a, b, ha, hb, k1, .refl _, e⟩
      exact ⟨by simpa using fun e => h1 (.inl e), two a b (Classical.byContradiction fun e => h1 (.inr e))⟩
    · have h1 : ¬ (clashB c b a = true ∨ d b a &&& 2 ≠ 0) := fun e => h ⟨b, a, hb, ha, k1.symm I.sym, .refl _, e⟩
      exact ⟨by rw [clashB_sym]; simpa using fun e => h1 (.inl e), two a b (by rw [I.sym]; exact Classical.byContradiction fun e => h1 (.inr e))⟩
  · by_cases e : decWith d q p 1 a b &&& 1 = 0
    · exact e
    · rcases (decWith_bit I.sym q p 1 1 a b).1 e with e | ⟨⟨rfl, _⟩ | ⟨rfl, _⟩, _⟩
      · exact absurd (I.lone a ha (fun h => k (.inl h)) b) e
      · exact absurd (.inl hqP) k
      · exact absurd (.inr rfl) k
theorem Inv.apart (I : Inv c d n P reps) {p q : Nat} (hp : p < n) (hpP : ¬ P p) (hq : q ∈ reps) : Inv c (decWith d q p 2) n P reps := by
  obtain ⟨hqn, hqP⟩ := I.repIn q hq
  have hne : q ≠ p := fun e => hpP (e ▸ hqP)
  have lp := I.lone p hp hpP
  have m1 := mono1 I.sym q p 2 1
  have m2 := mono1 I.sym q p 2 2
  have one : ∀ a b, decWith d q p 2 a b &&& 1 ≠ 0 → d a b &&& 1 ≠ 0 := fun a b k => by
    rcases (decWith_bit I.sym q p 2 1 a b).1 k with k | ⟨_, k⟩
    · exact k
    · exact absurd rfl k
  refine ⟨decWith_sym I.sym _ _ _, fun a => ?_, I.repIn, fun a ha k => ?_, I.opp.imp (fun h => h.mono m1 m2), fun a b ha hb k => ?_, fun a ha k b => ?_⟩
  · by_cases k : decWith d q p 2 a a &&& 2 = 0
    · exact k
    · rcases (decWith_bit I.sym q p 2 2 a a).1 k with k | ⟨⟨rfl, e⟩ | ⟨rfl, e⟩, _⟩
      · exact absurd (I.self a) k
      · exact absurd e hne
      · exact absurd e.symm hne
  · obtain ⟨r, hr, k⟩ := I.cover a ha k
    exact ⟨r, hr, k.mono m1⟩
  · have k' := k.mono one
    refine ⟨(I.ok a b ha hb k').1, ?_⟩
    by_cases k2 : decWith d q p 2 a b &&& 2 = 0
    · exact k2
    · rcases (decWith_bit I.sym q p 2 2 a b).1 k2 with k2 | ⟨⟨rfl, rfl⟩ | ⟨rfl, rfl⟩, _⟩
      · exact absurd (I.ok a b ha hb k').2 k2
      · exact absurd (conn_lone lp (k'.symm I.sym)) hne
      · exact absurd (conn_lone lp k') hne
  · by_cases e : decWith d q p 2 a b &&& 1 = 0
    · exact e
    · exact absurd (I.lone a ha k b) (one a b e)
theorem Inv.distinct (I : Inv c d n P reps) {r s : Nat} (h : Opp c d n r s) : r ≠ s := by
  rintro rfl
  obtain ⟨p, q, p1, q1, p2, q2, h⟩ := h
  have := I.ok p q p1 q1 (p2.trans (q2.symm I.sym))
  rcases h with h | h
  · rw [this.1] at h; cases h
  · exact h this.2
theorem tryM_none {f : Dec → List Nat → Option (List Br)} {p : Nat} (hn : n ≤ 8) (hp : p < n) (hpP : ¬ P p) {reps : List Nat}
    (hf : ∀ d' reps', Inv c d' n (fun a => P a ∨ a = p) reps' → f d' reps' = none → ∃ z, Agr d' n z ∧ GoodZ c n z) :
    ∀ (left seen : List Nat) (d : Dec), reps = seen ++ left → Inv c d n P reps → (∀ q ∈ seen, Opp c d n q p) → tryM c n f p reps left d = none → ∃ z, Agr d n z ∧ GoodZ c n z
  | [], seen, d, hr, I, ho, h => hf d _ (I.push hp (by rw [hr, List.append_nil]; exact ho)) h
  | q :: left, seen, d, hr, I, ho, h => by
    have hq : q ∈ reps := by rw [hr]; simp
    have hr' : reps = (seen ++ [q]) ++ left := by rw [hr]; simp
    simp only [tryM] at h
    split at h
    · rename_i hopp
      refine tryM_none hn hp hpP hf left (seen ++ [q]) d hr' I (fun r hr => ?_) h
      rcases List.mem_append.1 hr with hr | hr
      · exact ho r hr
      · rw [List.mem_singleton.1 hr]; exact (opp_iff hn I.sym).1 hopp
    · rename_i hopp
      have hno : ¬ Opp c d n q p := fun e => hopp ((opp_iff hn I.sym).2 e)
      rcases h1 : f (decWith d q p 1) reps with _ | a
      · obtain ⟨z, A, G⟩ := hf _ _ (I.together hp hpP hq hno) h1
        exact ⟨z, A.less I.sym, G⟩
      · simp only [h1] at h
        rcases h2 : tryM c n f p reps left (decWith d q p 2) with _ | b
        · obtain ⟨z, A, G⟩ := tryM_none hn hp hpP hf left (seen ++ [q]) (decWith d q p 2) hr' (I.apart hp hpP hq) (fun r hr => by
            rcases List.mem_append.1 hr with hr | hr
            · exact (ho r hr).mono (mono1 I.sym q p 2 1) (mono1 I.sym q p 2 2)
            · rw [List.mem_singleton.1 hr]
              exact ⟨q, p, (I.repIn q hq).1, hp, .refl _, .refl _, .inr ((decWith_bit I.sym q p 2 2 q p).2 (.inr ⟨.inl ⟨rfl, rfl⟩, by decide⟩))⟩) h2
          exact ⟨z, A.less I.sym, G⟩
        · simp [h2] at h
theorem putM_none (hn : n ≤ 8) : ∀ (order : List Nat) (P : Nat → Prop) (d : Dec) (reps : List Nat), Inv c d n P reps → (∀ a, a < n → P a ∨ a ∈ order) → (∀ a ∈ order, a < n ∧ ¬ P a) → order.Nodup →
    putM c n order d reps = none → ∃ z, Agr d n z ∧ GoodZ c n z
  | [], P, d, reps, I, hc, _, _, h => by
    rcases hb : bigB c reps with _ | _
    · refine ⟨clsOf d n, ⟨fun a b ha hb k => (cls_iff hn I.sym).2 (.one ⟨ha, hb, k⟩), fun a b ha hb k e => k (I.ok a b ha hb ((cls_iff hn I.sym).1 e)).2⟩, fun p q hp hq k e => ?_, fun hl ps hps hpw => ?_⟩
      · rw [(I.ok p q hp hq ((cls_iff hn I.sym).1 e)).1] at k; cases k
      · have h1 := nodup_le (m := reps.map (clsOf d n)) (pairwise_nodup hpw) (fun v hv => by
          simp only [List.mem_map] at hv ⊢
          obtain ⟨p, hp, rfl⟩ := hv
          have hp' := hps p hp
          obtain ⟨r, hr, k⟩ := I.cover p hp' ((hc p hp').resolve_right (by simp))
          exact ⟨r, hr, ((cls_iff hn I.sym).2 k).symm⟩)
        simp [bigB] at hb
        rw [List.length_map, List.length_map] at h1
        have := hb hl
        omega
    · rw [putM_big hb] at h; cases h
  | p :: rest, P, d, reps, I, hc, ho, hnd, h => by
    have hp := ho p List.mem_cons_self
    have hnd' := List.nodup_cons.1 hnd
    rcases hb : bigB c reps with _ | _
    · rw [putM_cons hb] at h
      refine tryM_none hn hp.1 hp.2 (fun d' reps' I' h' => putM_none hn rest _ d' reps' I' (fun a ha => ?_) (fun a ha => ?_) hnd'.2 h') reps [] d rfl I (by simp) h
      · rcases hc a ha with k | k
        · exact .inl (.inl k)
        · rcases List.mem_cons.1 k with rfl | k
          · exact .inl (.inr rfl)
          · exact .inr k
      · refine ⟨(ho a (List.mem_cons_of_mem _ ha)).1, fun k => ?_⟩
        rcases k with k | rfl
        · exact (ho a (List.mem_cons_of_mem _ ha)).2 k
        · exact hnd'.1 ha
    · rw [putM_big hb] at h; cases h
/-- the leaf of too many classes is right -/
theorem many_right (hn : n ≤ 8) (hl : 0 ≤ c.limit) (I : Inv c d n P reps) (hb : bigB c reps = true) : leafB c d n (brMany (reps.take (c.limit.toNat + 1))) = true := by
  simp [bigB] at hb
  have hR : ∀ r ∈ reps.take (c.limit.toNat + 1), r < n := fun r hr => (I.repIn r (List.mem_of_mem_take hr)).1
  have hpw : (reps.take (c.limit.toNat + 1)).Pairwise (fun r s => Opp c d n r s) := I.opp.sublist (List.take_sublist _ _)
  have hlen : (reps.take (c.limit.toNat + 1)).length = c.limit.toNat + 1 := by rw [List.length_take]; omega
  generalize reps.take (c.limit.toNat + 1) = R at *
  have hnd : R.Nodup := hpw.imp (fun h => I.distinct h)
  have hop : ∀ a ∈ R, ∀ b ∈ R, a ≠ b → Opp c d n a b := by
    intro a ha b hb hne
    obtain ⟨i, hi, rfl⟩ := List.getElem_of_mem ha
    obtain ⟨j, hj, rfl⟩ := List.getElem_of_mem hb
    rw [List.pairwise_iff_getElem] at hpw
    rcases Nat.lt_trichotomy i j with h | rfl | h
    · exact hpw i j hi hj h
    · exact absurd rfl hne
    · exact (hpw j i hj hi h).symm I.sym
  have hperm : (sortL (natInts R)).Perm (natInts R) := List.mergeSort_perm _ _
  have hsort : (sortL (natInts R)).Pairwise (fun a b => a ≤ b) := by
    have := List.pairwise_mergeSort (le := fun x y : Int => decide (x ≤ y)) (fun a b c h1 h2 => by simp at *; omega) (fun a b => by simp; omega) (natInts R)
    exact this.imp (fun h => by simpa using h)
  have hndI : (natInts R).Nodup := by
    rw [List.Nodup, natInts, List.pairwise_map]
    exact hnd.imp (fun h e => h (by omega))
  have hndS : (sortL (natInts R)).Nodup := hperm.nodup_iff.2 hndI
  have hmem : ∀ v ∈ sortL (natInts R), ∃ r ∈ R, v = (r : Int) := fun v hv => by
    have := hperm.mem_iff.1 hv
    simp only [natInts, List.mem_map] at this
    obtain ⟨r, hr, rfl⟩ := this
    exact ⟨r, hr, rfl⟩
  have hlenS : (sortL (natInts R)).length = c.limit.toNat + 1 := by rw [hperm.length_eq]; simp [natInts, hlen]
  generalize hS : sortL (natInts R) = S at *
  have e : brMany R = ⟨4, 0, 0, S⟩ := by rw [brMany, hS]
  rw [e]
  rw [show leafB c d n ⟨4, 0, 0, S⟩ = manyB c d n 0 0 S from rfl]
  simp only [manyB, manyHead, Bool.and_eq_true]
  refine ⟨by simp [hlenS]; omega, ?_⟩
  rw [upto_iff]
  intro i hi
  obtain ⟨r, hr, er⟩ := hmem S[i] (List.getElem_mem hi)
  simp only [manyAt, Bool.and_eq_true, List.getElem?_eq_getElem hi, Option.getD_some]
  have hrn := hR r hr
  refine ⟨⟨by simp [inB, er]; omega, ?_⟩, ?_⟩
  · rcases i with _ | i
    · rfl
    · simp only [Nat.add_sub_cancel]
      rw [List.getElem?_eq_getElem (by omega), Option.getD_some]
      rw [List.pairwise_iff_getElem] at hsort
      have h1 := hsort i (i + 1) (by omega) hi (by omega)
      have h2 : S[i]'(by omega) ≠ S[i + 1] := by
        have := hndS
        rw [List.Nodup, List.pairwise_iff_getElem] at this
        exact this i (i + 1) (by omega) hi (by omega)
      simp; omega
  · rw [upto_iff]
    intro j hj
    rw [List.getElem?_eq_getElem (by omega), Option.getD_some]
    obtain ⟨s, hs, es⟩ := hmem (S[j]'(by omega)) (List.getElem_mem _)
    rw [er, es, Int.toNat_natCast, Int.toNat_natCast]
    refine (opp_iff hn I.sym).2 (hop s hs r hr ?_)
    rintro rfl
    have := hndS
    rw [List.Nodup, List.pairwise_iff_getElem] at this
    exact this j i (by omega) hi hj (es.trans er.symm)
/-- a list is read off to its end -/
def Reads (c : Cs) (n : Nat) (d : Dec) (l : List Br) : Prop := ∀ rest k, l.length < k → ∃ ev, walkM c n k d (l ++ rest) = some (rest, ev)
theorem reads_leaf {x : Br} (h : leafB c d n x = true) (hk : x.kind ≠ 1) : Reads c n d [x] := fun rest k hlt => by
  obtain ⟨k, rfl⟩ := Nat.exists_eq_add_of_le (show 1 ≤ k by simp at hlt; omega)
  refine ⟨[(d, x)], ?_⟩
  rw [Nat.add_comm]
  simp [walkM, hk, h]
theorem reads_split {p q : Nat} {a b : List Br} (hp : p < n) (hq : q < n) (hne : q ≠ p) (ha : Reads c n (decWith d q p 1) a) (hb : Reads c n (decWith d q p 2) b) : Reads c n d (brSplit q p :: (a ++ b)) := fun rest k hlt => by
  obtain ⟨k, rfl⟩ := Nat.exists_eq_add_of_le (show 1 ≤ k by simp at hlt; omega)
  simp at hlt
  obtain ⟨e1, h1⟩ := ha (b ++ rest) k (by omega)
  obtain ⟨e2, h2⟩ := hb rest k (by omega)
  refine ⟨e1 ++ e2, ?_⟩
  have hsp : splitB n (brSplit q p) = true := by
    simp [splitB, brSplit, inB]
    omega
  rw [Nat.add_comm]
  simp only [List.cons_append, List.append_assoc, walkM, hsp, if_true, show (brSplit q p).kind = 1 from rfl, show (brSplit q p).a.toNat = q from rfl, show (brSplit q p).b.toNat = p from rfl, h1, h2]
theorem tryM_reads {f : Dec → List Nat → Option (List Br)} {p : Nat} (hn : n ≤ 8) (hp : p < n) (hpP : ¬ P p) {reps : List Nat}
    (hf : ∀ d' reps' l, Inv c d' n (fun a => P a ∨ a = p) reps' → f d' reps' = some l → Reads c n d' l) :
    ∀ (left seen : List Nat) (d : Dec) (l : List Br), reps = seen ++ left → Inv c d n P reps → (∀ q ∈ seen, Opp c d n q p) → tryM c n f p reps left d = some l → Reads c n d l
  | [], seen, d, l, hr, I, ho, h => hf d _ l (I.push hp (by rw [hr, List.append_nil]; exact ho)) h
  | q :: left, seen, d, l, hr, I, ho, h => by
    have hq : q ∈ reps := by rw [hr]; simp
    have hr' : reps = (seen ++ [q]) ++ left := by rw [hr]; simp
    simp only [tryM] at h
    split at h
    · rename_i hopp
      refine tryM_reads hn hp hpP hf left (seen ++ [q]) d l hr' I (fun r hr => ?_) h
      rcases List.mem_append.1 hr with hr | hr
      · exact ho r hr
      · rw [List.mem_singleton.1 hr]; exact (opp_iff hn I.sym).1 hopp
    · rename_i hopp
      have hno : ¬ Opp c d n q p := fun e => hopp ((opp_iff hn I.sym).2 e)
      rcases h1 : f (decWith d q p 1) reps with _ | a
      · simp [h1] at h
      · simp only [h1] at h
        rcases h2 : tryM c n f p reps left (decWith d q p 2) with _ | b
        · simp [h2] at h
        · simp only [h2, Option.some.injEq] at h
          subst h
          have hqn := I.repIn q hq
          refine reads_split hp hqn.1 (fun e => hpP (e ▸ hqn.2)) (hf _ _ a (I.together hp hpP hq hno) h1) ?_
          exact tryM_reads hn hp hpP hf left (seen ++ [q]) (decWith d q p 2) b hr' (I.apart hp hpP hq) (fun r hr => by
            rcases List.mem_append.1 hr with hr | hr
            · exact (ho r hr).mono (mono1 I.sym q p 2 1) (mono1 I.sym q p 2 2)
            · rw [List.mem_singleton.1 hr]
              exact ⟨q, p, (I.repIn q hq).1, hp, .refl _, .refl _, .inr ((decWith_bit I.sym q p 2 2 q p).2 (.inr ⟨.inl ⟨rfl, rfl⟩, by decide⟩))⟩) h2
theorem putM_reads (hn : n ≤ 8) (hl : 0 ≤ c.limit) : ∀ (order : List Nat) (P : Nat → Prop) (d : Dec) (reps : List Nat) (l : List Br), Inv c d n P reps → (∀ a ∈ order, a < n ∧ ¬ P a) → order.Nodup →
    putM c n order d reps = some l → Reads c n d l
  | order, P, d, reps, l, I, ho, hnd, h => by
    rcases hb : bigB c reps with _ | _
    · match order, ho, hnd, h with
      | [], _, _, h => rw [putM_nil hb] at h; cases h
      | p :: rest, ho, hnd, h =>
        have hp := ho p List.mem_cons_self
        have hnd' := List.nodup_cons.1 hnd
        rw [putM_cons hb] at h
        refine tryM_reads hn hp.1 hp.2 (fun d' reps' l' I' h' => putM_reads hn hl rest _ d' reps' l' I' (fun a ha => ?_) hnd'.2 h') reps [] d l rfl I (by simp) h
        refine ⟨(ho a (List.mem_cons_of_mem _ ha)).1, fun k => ?_⟩
        rcases k with k | rfl
        · exact (ho a (List.mem_cons_of_mem _ ha)).2 k
        · exact hnd'.1 ha
    · rw [putM_big hb] at h
      cases h
      exact reads_leaf (many_right hn hl I hb) (by simp [brMany])
termination_by order => order.length
end
end Go.Proofs.YtchgbbkjbiffiaaGreat
namespace Go.Proofs.YtchgbbkjbiffiaaGreat
open Go.RowKit

theorem nth_eq {x : List Nat} {a b : Nat} (ha : a < x.length) (hb : b < x.length) : (x[a]? == x[b]?) = (nth x a == nth x b) := by
  unfold nth
  rw [List.getElem?_eq_getElem ha, List.getElem?_eq_getElem hb]
  simp
theorem find_no {c : Cs} {x y : Nat} {t : Bool} (hx : x < c.parts.length) (hy : y < c.parts.length) (h : (allR c).find? (asPair x y t) = none) {z : Nat → Nat} (A : Agr (beginD x y t) c.parts.length z) (G : GoodZ c c.parts.length z) : False := by
  obtain ⟨r, hr, hi⟩ := G.reas
  rw [List.find?_eq_none] at h
  refine h r (mem_allR.2 hr) ?_
  rw [asPair, nth_eq (by rw [hr.len]; exact hx) (by rw [hr.len]; exact hy)]
  cases t
  · have := A.two x y hx hy ((decWith_bit zero_sym x y 2 2 x y).2 (.inr ⟨.inl ⟨rfl, rfl⟩, by decide⟩))
    simp
    exact fun e => this ((hi x y hx hy).1 e)
  · have := A.one x y hx hy ((decWith_bit zero_sym x y 1 1 x y).2 (.inr ⟨.inl ⟨rfl, rfl⟩, by decide⟩))
    simp
    exact (hi x y hx hy).2 this
theorem reads_ok {c : Cs} {n : Nat} {d : Dec} {l : List Br} (h : Reads c n d l) (hl : l.length ≤ 20000) : (refutedB c n d l).isSome = true := by
  obtain ⟨ev, h⟩ := h [] (l.length + 1) (by omega)
  rw [List.append_nil] at h
  unfold refutedB
  rw [if_neg (by omega), h]
  rfl
theorem begin_inv {c : Cs} {x y : Nat} {t : Bool} (hx : x < c.parts.length) (hy : y < c.parts.length) (h1 : (t && clashB c x y) = false) (h2 : (!t && x == y) = false) :
    Inv c (beginD x y t) c.parts.length (fun a => a = x ∨ (t = true ∧ a = y)) [x] := by
  have bit : ∀ m a b, beginD x y t a b &&& m ≠ 0 → ((a = x ∧ b = y) ∨ (a = y ∧ b = x)) ∧ (if t then 1 else 2) &&& m ≠ 0 := fun m a b h => by
    rcases (decWith_bit zero_sym x y (if t then 1 else 2) m a b).1 h with h | h
    · exact absurd (Nat.zero_and m) h
    · exact h
  have hs := begin_sym x y t
  cases t
  · have hne : x ≠ y := by simpa using h2
    have no1 : ∀ a b, beginD x y false a b &&& 1 = 0 := fun a b => by
      by_cases k : beginD x y false a b &&& 1 = 0
      · exact k
      · exact absurd rfl (bit 1 a b k).2
    refine ⟨hs, fun a => ?_, fun r hr => ?_, fun a ha k => ?_, by simp, fun a b ha hb k => ?_, fun a _ _ b => no1 a b⟩
    · by_cases k : beginD x y false a a &&& 2 = 0
      · exact k
      · rcases (bit 2 a a k).1 with ⟨e1, e2⟩ | ⟨e1, e2⟩
        · exact absurd (e1.symm.trans e2) hne
        · exact absurd (e2.symm.trans e1) hne
    · rw [List.mem_singleton.1 hr]; exact ⟨hx, .inl rfl⟩
    · rcases k with rfl | ⟨h, _⟩
      · exact ⟨a, by simp, .refl _⟩
      · cases h
    · have e := conn_lone (no1 a) k
      subst e
      refine ⟨?_, ?_⟩
      · rcases hc : clashB c b b with _ | _
        · rfl
        · exact absurd rfl (clashB_ne hc)
      · by_cases k : beginD x y false b b &&& 2 = 0
        · exact k
        · rcases (bit 2 b b k).1 with ⟨e1, e2⟩ | ⟨e1, e2⟩
          · exact absurd (e1.symm.trans e2) hne
          · exact absurd (e2.symm.trans e1) hne
  · have hcl : clashB c x y = false := by simpa using h1
    have no2 : ∀ a b, beginD x y true a b &&& 2 = 0 := fun a b => by
      by_cases k : beginD x y true a b &&& 2 = 0
      · exact k
      · exact absurd rfl (bit 2 a b k).2
    have hed : EdgeB (beginD x y true) c.parts.length y x := ⟨hy, hx, (decWith_bit zero_sym x y 1 1 y x).2 (.inr ⟨.inr ⟨rfl, rfl⟩, by decide⟩)⟩
    have con : ∀ {a b}, Conn (beginD x y true) c.parts.length a b → a = b ∨ (a = x ∧ b = y) ∨ (a = y ∧ b = x) := by
      intro a b k
      induction k with
      | refl => exact .inl rfl
      | step e _ ih =>
        rcases (bit 1 _ _ e.2.2).1 with ⟨rfl, rfl⟩ | ⟨rfl, rfl⟩
        · rcases ih with rfl | ⟨rfl, rfl⟩ | ⟨_, rfl⟩
          · exact .inr (.inl ⟨rfl, rfl⟩)
          · exact .inl rfl
          · exact .inl rfl
        · rcases ih with rfl | ⟨_, rfl⟩ | ⟨rfl, rfl⟩
          · exact .inr (.inr ⟨rfl, rfl⟩)
          · exact .inl rfl
          · exact .inl rfl
    refine ⟨hs, fun a => no2 a a, fun r hr => ?_, fun a ha k => ?_, by simp, fun a b ha hb k => ⟨?_, no2 a b⟩, fun a ha k b => ?_⟩
    · rw [List.mem_singleton.1 hr]; exact ⟨hx, .inl rfl⟩
    · rcases k with rfl | ⟨_, rfl⟩
      · exact ⟨a, by simp, .refl _⟩
      · exact ⟨x, by simp, .one hed⟩
    · rcases con k with rfl | ⟨rfl, rfl⟩ | ⟨rfl, rfl⟩
      · rcases hc : clashB c a a with _ | _
        · rfl
        · exact absurd rfl (clashB_ne hc)
      · exact hcl
      · rw [clashB_sym]; exact hcl
    · by_cases e : beginD x y true a b &&& 1 = 0
      · exact e
      · rcases (bit 1 a b e).1 with ⟨rfl, _⟩ | ⟨rfl, _⟩
        · exact absurd (.inl rfl) k
        · exact absurd (.inr ⟨rfl, rfl⟩) k
theorem ordTail (x y : Nat) (t : Bool) (n : Nat) : ordTo x y t n = x :: (List.range n).filter fun p => p != x && (p != y || !t) := rfl
theorem begin_split {c : Cs} {n x y : Nat} {t : Bool} : putM c n (ordTo x y t n) (beginD x y t) [] = putM c n ((List.range n).filter fun p => p != x && (p != y || !t)) (beginD x y t) [x] := by
  rw [ordTail, putM_cons (by simp [bigB]; omega)]
  rfl
/-- where no reassembly has two parts so, Refute finds a refutation, and it is accepted -/
theorem refute_law {c : Cs} {x y : Nat} {t : Bool} (hn : c.parts.length ≤ 8) (hl : 0 ≤ c.limit) (hx : x < c.parts.length) (hy : y < c.parts.length) (h : (allR c).find? (asPair x y t) = none) :
    ∃ l, refuteR c x y t = some l ∧ (refutedB c c.parts.length (beginD x y t) l).isSome = true := by
  unfold refuteR
  rcases h1 : (t && clashB c x y) with _ | _
  · rcases h2 : (!t && x == y) with _ | _
    · rw [if_neg (by simp), if_neg (by simp)]
      have I := begin_inv hx hy h1 h2
      have ho : ∀ a ∈ ((List.range c.parts.length).filter fun p => p != x && (p != y || !t)), a < c.parts.length ∧ ¬ (a = x ∨ (t = true ∧ a = y)) := by
        intro a ha
        simp only [List.mem_filter, List.mem_range, Bool.and_eq_true, bne_iff_ne, Bool.or_eq_true, Bool.not_eq_true'] at ha
        refine ⟨ha.1, fun k => ?_⟩
        rcases k with k | ⟨k1, k2⟩
        · exact ha.2.1 k
        · rcases ha.2.2 with k | k
          · exact k k2
          · rw [k1] at k; cases k
      have hnd : ((List.range c.parts.length).filter fun p => p != x && (p != y || !t)).Nodup := List.nodup_range.filter _
      rcases hp : putM c c.parts.length (ordTo x y t c.parts.length) (beginD x y t) [] with _ | l
      · rw [begin_split] at hp
        obtain ⟨z, A, G⟩ := putM_none hn _ _ _ _ I (fun a ha => by
          by_cases k : a = x ∨ (t = true ∧ a = y)
          · exact .inl k
          · refine .inr ?_
            simp only [List.mem_filter, List.mem_range, Bool.and_eq_true, bne_iff_ne, Bool.or_eq_true, Bool.not_eq_true']
            refine ⟨ha, fun e => k (.inl e), ?_⟩
            cases t
            · exact .inr rfl
            · exact .inl fun e => k (.inr ⟨rfl, e⟩)) ho hnd hp
        exact (find_no hx hy h A G).elim
      · refine ⟨l, rfl, reads_ok ?_ ?_⟩
        · rw [begin_split] at hp
          exact putM_reads hn hl _ _ _ _ _ I ho hnd hp
        · have h3 := putM_len _ _ _ _ hp
          have h4 := ordTo_len' (y := y) (t := t) hx
          have h5 := bnd_le (m := 0) (show (ordTo x y t c.parts.length).length ≤ 8 by omega)
          have h6 := bnd_eight
          simp only [List.length_nil] at h3
          omega
    · rw [if_neg (by simp), if_pos rfl]
      refine ⟨_, rfl, reads_ok (reads_leaf ?_ (by simp)) (by simp)⟩
      simp only [Bool.and_eq_true, Bool.not_eq_true', beq_iff_eq] at h2
      obtain ⟨rfl, rfl⟩ := h2
      have hb : beginD x x false x x &&& 2 ≠ 0 := (decWith_bit zero_sym x x 2 2 x x).2 (.inr ⟨.inl ⟨rfl, rfl⟩, by decide⟩)
      rw [show leafB c (beginD x x false) c.parts.length ⟨3, (x : Int), (x : Int), []⟩ = partedB (beginD x x false) c.parts.length x x [] from rfl]
      simp [partedB, sameB, inB, apartB]
      exact ⟨by omega, hb⟩
  · rw [if_pos rfl]
    refine ⟨_, rfl, reads_ok (reads_leaf ?_ (by simp)) (by simp)⟩
    simp only [Bool.and_eq_true] at h1
    obtain ⟨rfl, hc⟩ := h1
    have hcls : clsOf (beginD x y true) c.parts.length x = clsOf (beginD x y true) c.parts.length y :=
      (cls_iff hn (begin_sym x y true)).2 (.one ⟨hx, hy, (decWith_bit zero_sym x y 1 1 x y).2 (.inr ⟨.inl ⟨rfl, rfl⟩, by decide⟩)⟩)
    rw [show leafB c (beginD x y true) c.parts.length ⟨2, (x : Int), (y : Int), []⟩ = clashesB c (beginD x y true) c.parts.length x y [] from rfl]
    simp [clashesB, sameB, inB, hcls, hc]
    omega
theorem zero_inv (c : Cs) (n : Nat) : Inv c (fun _ _ => 0) n (fun _ => False) [] := by
  have hz : ∀ m a b : Nat, (0 : Nat) &&& m = 0 := fun m _ _ => Nat.zero_and m
  refine ⟨zero_sym, fun _ => rfl, by simp, fun _ _ k => k.elim, by simp, fun a b ha hb k => ?_, fun _ _ _ _ => rfl⟩
  have e := conn_lone (fun _ => rfl) k
  subst e
  refine ⟨?_, rfl⟩
  rcases hc : clashB c b b with _ | _
  · rfl
  · exact absurd rfl (clashB_ne hc)
/-- where there is no reassembly, None finds a refutation of all, and it is accepted -/
theorem none_law {c : Cs} (hn : c.parts.length ≤ 8) (hl : 0 ≤ c.limit) (h : allR c = []) : ∃ l, putM c c.parts.length (List.range c.parts.length) (fun _ _ => 0) [] = some l ∧ (refutedB c c.parts.length (fun _ _ => 0) l).isSome = true := by
  have ho : ∀ a ∈ List.range c.parts.length, a < c.parts.length ∧ ¬ False := fun a ha => ⟨List.mem_range.1 ha, id⟩
  rcases hp : putM c c.parts.length (List.range c.parts.length) (fun _ _ => 0) [] with _ | l
  · obtain ⟨z, _, G⟩ := putM_none hn _ _ _ _ (zero_inv c _) (fun a ha => .inr (List.mem_range.2 ha)) ho List.nodup_range hp
    obtain ⟨r, hr, _⟩ := G.reas
    have := mem_allR.2 hr
    rw [h] at this; simp at this
  · refine ⟨l, rfl, reads_ok (putM_reads hn hl _ _ _ _ _ (zero_inv c _) ho List.nodup_range hp) ?_⟩
    have h3 := putM_len _ _ _ _ hp
    rw [List.length_range] at h3
    have h5 := bnd_le (m := 0) hn
    have h6 := bnd_eight
    simp only [List.length_nil] at h3
    omega
/-- what is accepted holds: no reassembly has the parts so -/
theorem check_law {c : Cs} {x y : Nat} {t : Bool} {l : List Br} (hn : c.parts.length ≤ 8) (hl : 0 ≤ c.limit) (hx : x < c.parts.length) (hy : y < c.parts.length) (h : (refutedB c c.parts.length (beginD x y t) l).isSome = true) : ∀ r ∈ allR c, asPair x y t r = false := by
  intro r hr
  have hr' := mem_allR.1 hr
  rcases hp : asPair x y t r with _ | _
  · rfl
  · rw [asPair, nth_eq (by rw [hr'.len]; exact hx) (by rw [hr'.len]; exact hy), beq_iff_eq] at hp
    have := refuted_sound hn hl hr'.good (begin_sym x y t) (begin_agr (z := fun a => r[a]?.getD 0) hp) (l := l)
    rw [h] at this; cases this
theorem checkNone_law {c : Cs} {l : List Br} (hn : c.parts.length ≤ 8) (hl : 0 ≤ c.limit) (h : (refutedB c c.parts.length (fun _ _ => 0) l).isSome = true) : allR c = [] := by
  rcases hr : allR c with _ | ⟨r, _⟩
  · rfl
  · have hr' := mem_allR.1 (show r ∈ allR c by rw [hr]; simp)
    have := refuted_sound hn hl hr'.good zero_sym (zero_agr _ _) (l := l)
    rw [h] at this; cases this
end Go.Proofs.YtchgbbkjbiffiaaGreat
namespace Go.Proofs.YtchgbbkjbiffiaaGreat
open Go.RowKit

theorem brSplit_small (q p : Nat) : (brSplit q p).Small := ⟨by simp [brSplit], by simp [brSplit]⟩
theorem brMany_small {c : Cs} (hl : c.limit ≤ 40) (reps : List Nat) : (brMany (reps.take (c.limit.toNat + 1))).Small := by
  refine ⟨by simp [brMany], ?_⟩
  simp only [brMany, sortL, List.length_mergeSort]
  simp [natInts]
  omega
theorem tryM_small {c : Cs} {n : Nat} {f : Dec → List Nat → Option (List Br)} {p : Nat} {reps : List Nat} (hf : ∀ d l x, f d l = some x → ∀ z ∈ x, z.Small) : ∀ (left : List Nat) (d : Dec) (x : List Br), tryM c n f p reps left d = some x → ∀ z ∈ x, z.Small
  | [], d, x, h => hf d _ x h
  | q :: left, d, x, h => by
    simp only [tryM] at h
    split at h
    · exact tryM_small hf left d x h
    · split at h
      · cases h
      · rename_i a ha
        split at h
        · cases h
        · rename_i b hb
          cases h
          intro z hz
          rcases List.mem_cons.1 hz with rfl | hz
          · exact brSplit_small _ _
          · rcases List.mem_append.1 hz with hz | hz
            · exact hf _ _ a ha z hz
            · exact tryM_small hf left _ b hb z hz
theorem putM_small {c : Cs} {n : Nat} (hl : c.limit ≤ 40) : ∀ (order : List Nat) (d : Dec) (reps : List Nat) (x : List Br), putM c n order d reps = some x → ∀ z ∈ x, z.Small
  | [], d, reps, x, h => by
    simp only [putM] at h
    split at h
    · cases h
      intro z hz
      rw [List.mem_singleton.1 hz]
      exact brMany_small hl _
    · cases h
  | p :: rest, d, reps, x, h => by
    simp only [putM] at h
    split at h
    · cases h
      intro z hz
      rw [List.mem_singleton.1 hz]
      exact brMany_small hl _
    · exact tryM_small (fun d l x h => putM_small hl rest d l x h) reps d x h
theorem refuteR_small {c : Cs} {x y : Nat} {t : Bool} (hn : c.parts.length ≤ 8) (hl : c.limit ≤ 40) (hx : x < c.parts.length) {l : List Br} (h : refuteR c x y t = some l) : (∀ z ∈ l, z.Small) ∧ l.length ≤ 20000 := by
  unfold refuteR at h
  split at h
  · cases h
    refine ⟨fun z hz => ?_, by simp⟩
    rw [List.mem_singleton.1 hz]
    exact ⟨by simp, by simp⟩
  · split at h
    · cases h
      refine ⟨fun z hz => ?_, by simp⟩
      rw [List.mem_singleton.1 hz]
      exact ⟨by simp, by simp⟩
    · refine ⟨putM_small hl _ _ _ _ h, ?_⟩
      have h3 := putM_len _ _ _ _ h
      have h4 := ordTo_len' (y := y) (t := t) hx
      have h5 := bnd_le (m := 0) (show (ordTo x y t c.parts.length).length ≤ 8 by omega)
      have h6 := bnd_eight
      simp only [List.length_nil] at h3
      omega
end Go.Proofs.YtchgbbkjbiffiaaGreat
