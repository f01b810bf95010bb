/- The reference's Decided, plain: the class by searching; what is parted, what clashes. -/
/- The reference's leaf, plain: when it is right, and the Ids that it uses. -/
import Derived.Test.YtpjcnkajimgagaaGreatMPlain
import Derived.Test.YtpjcnkajimgagaaGreatMPlainA
set_option linter.unusedSimpArgs false
set_option linter.unusedVariables false
namespace Go.Proofs.YtpjcnkajimgagaaGreat
open Go.RowKit

section
variable {d : Dec} {n a b i : Nat} {L : List Nat}
/-- the class of a part, all eight looked at -/
def clsR (d : Dec) (a : Nat) : List Nat := clsList d 8 a 8
theorem mem_clsR (hs : SymD d) : b ∈ clsR d a ↔ b < 8 ∧ Conn d 8 b a := mem_cls (Nat.le_refl _) hs
/-- nothing is decided beyond n -/
def Supp (d : Dec) (n : Nat) : Prop := ∀ a b, d a b ≠ 0 → a < n ∧ b < n
theorem Supp.bit (h : Supp d n) {m : Nat} {a b : Nat} (hb : d a b &&& m ≠ 0) : a < n ∧ b < n := h a b fun e => hb (by rw [e]; simp)
theorem conn_in (hp : Supp d n) {m a b : Nat} (h : Conn d m a b) (hb : b < n) : a < n := by
 induction h with
 | refl => exact hb
 | step e _ _ => exact (hp.bit e.2.2).1
theorem conn_nm (hn : n ≤ 8) (hp : Supp d n) : Conn d 8 a b ↔ Conn d n a b := ⟨fun h => h.narrow fun _ _ e => hp.bit e, fun h => h.widen hn⟩
theorem range_split {n m : Nat} (h : n ≤ m) : List.range m = List.range n ++ (List.range (m - n)).map (n + ·) := by
 obtain ⟨k, rfl⟩ := Nat.exists_eq_add_of_le h
 rw [List.range_add, Nat.add_sub_cancel_left]
theorem clsR_eq (hn : n ≤ 8) (hs : SymD d) (hp : Supp d n) (ha : a < n) : clsR d a = clsList d n a n := by
 unfold clsR clsList
 rw [range_split hn, List.filter_append]
 have h1 : ((List.range (8 - n)).map (n + ·)).filter (fun p => clsOf d 8 p == clsOf d 8 a) = [] := by
  rw [List.filter_eq_nil_iff]
  intro x hx e
  obtain ⟨k, _, rfl⟩ := List.mem_map.1 hx
  have := conn_in hp ((cls_iff (Nat.le_refl 8) hs).1 (by simpa using e)) ha
  omega
 rw [h1, List.append_nil]
 apply List.filter_congr
 intro x _
 rw [Bool.eq_iff_iff, beq_iff_eq, beq_iff_eq, cls_iff (Nat.le_refl 8) hs, cls_iff hn hs, conn_nm hn hp]
/-- how far the search has come -/
structure Bfs (d : Dec) (a : Nat) (L : List Nat) (i b : Nat) : Prop where
 mem : a ∈ L
 lt : ∀ x ∈ L, x < 8
 nd : L.Nodup
 con : ∀ x ∈ L, Conn d 8 x a
 done : ∀ j, j < i → ∀ x, L[j]? = some x → ∀ y, y < 8 → d x y &&& 1 ≠ 0 → y ∈ L
 now : ∀ x, L[i]? = some x → ∀ y, y < b → d x y &&& 1 ≠ 0 → y ∈ L
theorem Bfs.start (ha : a < 8) : Bfs d a [a] 0 0 :=
 ⟨by simp, by simpa using ha, by simp, fun x hx => by rw [List.mem_singleton.1 hx]; exact .refl _, fun j hj => absurd hj (Nat.not_lt_zero j), fun _ _ y hy => absurd hy (Nat.not_lt_zero y)⟩
theorem Bfs.len (h : Bfs d a L i b) : L.length ≤ 8 := by
 have := nodup_le (m := List.range 8) h.nd fun x hx => List.mem_range.2 (h.lt x hx)
 simpa using this
theorem Bfs.skip (h : Bfs d a L i b) {x : Nat} (hx : L[i]? = some x) (hb : d x b &&& 1 = 0 ∨ b ∈ L) : Bfs d a L i (b + 1) :=
 ⟨h.mem, h.lt, h.nd, h.con, h.done, fun y hy z hz hd => by
  rw [hx] at hy; cases hy
  rcases Nat.lt_or_ge z b with hz' | hz'
  ·exact h.now x hx z hz' hd
  ·have : z = b := by omega
   subst this
   rcases hb with hb | hb
   ·exact absurd hb hd
   ·exact hb⟩
theorem Bfs.push (hs : SymD d) (h : Bfs d a L i b) {x : Nat} (hx : L[i]? = some x) (hb8 : b < 8) (hb : d x b &&& 1 ≠ 0) (hL : ¬ b ∈ L) : Bfs d a (L ++ [b]) i (b + 1) := by
 have hil : i < L.length := (List.getElem?_eq_some_iff.1 hx).1
 have hxm : x ∈ L := List.mem_of_getElem? hx
 refine ⟨by simp [h.mem], fun y hy => ?_, ?_, fun y hy => ?_, fun j hj y hy z hz hd => ?_, fun y hy z hz hd => ?_⟩
 ·rcases List.mem_append.1 hy with h1 | h1
  ·exact h.lt y h1
  ·rw [List.mem_singleton.1 h1]; exact hb8
 ·rw [List.nodup_append]
  exact ⟨h.nd, by simp, fun u hu v hv e => by rw [List.mem_singleton.1 hv] at e; subst e; exact hL hu⟩
 ·rcases List.mem_append.1 hy with h1 | h1
  ·exact h.con y h1
  ·rw [List.mem_singleton.1 h1]
   exact .step ⟨hb8, h.lt x hxm, by rw [hs b x]; exact hb⟩ (h.con x hxm)
 ·rw [List.getElem?_append_left (by omega)] at hy
  exact List.mem_append_left _ (h.done j hj y hy z hz hd)
 ·rw [List.getElem?_append_left hil, hx] at hy
  cases hy
  rcases Nat.lt_or_ge z b with hz' | hz'
  ·exact List.mem_append_left _ (h.now x hx z hz' hd)
  ·have : z = b := by omega
   subst this; simp
theorem Bfs.next (h : Bfs d a L i 8) : Bfs d a L (i + 1) 0 :=
 ⟨h.mem, h.lt, h.nd, h.con, fun j hj x hx y hy hd => by
  rcases Nat.lt_or_ge j i with hj' | hj'
  ·exact h.done j hj' x hx y hy hd
  ·have : j = i := by omega
   subst this
   exact h.now x hx y hy hd, fun _ _ y hy => absurd hy (Nat.not_lt_zero y)⟩
theorem Bfs.all (hs : SymD d) (h : Bfs d a L i 0) (hi : ¬ i < L.length) (y : Nat) (hy : y < 8) : L.contains y = (clsOf d 8 y == clsOf d 8 a) := by
 rw [Bool.eq_iff_iff, beq_iff_eq, cls_iff (Nat.le_refl 8) hs, List.contains_iff_mem]
 constructor
 ·exact h.con y
 ·intro hc
  have key : ∀ {x z : Nat}, Conn d 8 x z → x ∈ L → z ∈ L := by
   intro x z hc
   induction hc with
   | refl => exact id
   | step e _ ih =>
    intro hx
    obtain ⟨j, hj, e2⟩ := List.getElem_of_mem hx
    exact ih (h.done j (by omega) _ (by rw [List.getElem?_eq_getElem hj, e2]) _ e.2.1 e.2.2)
  exact key (hc.symm hs) h.mem
def outTo (L : List Nat) (k : Nat) : List Nat := (List.range k).filter fun y => L.contains y
theorem outTo_succ (L : List Nat) (k : Nat) : outTo L (k + 1) = outTo L k ++ if L.contains k then [k] else [] := by
 rw [outTo, List.range_succ, List.filter_append]
 simp only [List.filter_cons, List.filter_nil]
 rfl
theorem outTo_len (L : List Nat) (k : Nat) : (outTo L k).length ≤ k := by
 have := List.length_filter_le (fun y => L.contains y) (List.range k)
 simpa [outTo] using this
theorem Bfs.out (hs : SymD d) (h : Bfs d a L i 0) (hi : ¬ i < L.length) : outTo L 8 = clsR d a := by
 unfold outTo clsR clsList
 apply List.filter_congr
 intro y hy
 exact h.all hs hi y (List.mem_range.1 hy)

/-- parts of two classes that are decided as apart -/
def partedR (d : Dec) (one two : List Nat) : Bool := one.any fun p => two.any fun q => decide (d p q &&& 2 ≠ 0)
/-- the first two parts of two classes that clash -/
def clashR (c : Cs) (one two : List Nat) : Option (Nat × Nat) := (one.flatMap fun p => two.map fun q => (p, q)).find? fun z => clashB c z.1 z.2
/-- the Ids of a clash -/
def causeP (p q : Prt) : List Int :=
 if feetB p.foot q.foot then [p.footBy, q.footBy] else if q.span.low < p.span.low then [p.span.lowBy, q.span.highBy] else [q.span.lowBy, p.span.highBy]
def causeB (c : Cs) (x y : Nat) : List Int := match c.parts[x]?, c.parts[y]? with | some p, some q => causeP p q | _, _ => []
theorem causeB_eq {c : Cs} {x y : Nat} {p q : Prt} (hp : c.parts[x]? = some p) (hq : c.parts[y]? = some q) : causeB c x y = causeP p q := by simp [causeB, hp, hq]
end
end Go.Proofs.YtpjcnkajimgagaaGreat
namespace Go.Proofs.YtpjcnkajimgagaaGreat
open Go.RowKit

section
variable {c : Cs} {d : Dec} {n : Nat}
theorem clsR_in (hs : SymD d) (hp : Supp d n) {a : Nat} (ha : a < n) : ∀ x ∈ clsR d a, x < n := fun _ hx => conn_in hp ((mem_clsR hs).1 hx).2 ha
theorem clsR_eight (hs : SymD d) {a : Nat} : ∀ x ∈ clsR d a, x < 8 := fun _ hx => ((mem_clsR hs).1 hx).1
theorem clsR_len (d : Dec) (a : Nat) : (clsR d a).length ≤ 8 := by
 have := List.length_filter_le (fun p => clsOf d 8 p == clsOf d 8 a) (List.range 8)
 simpa [clsR, clsList] using this
/-- two classes are opposed: two parts are parted, or two clash -/
theorem opp_parts (hn : n ≤ 8) (hs : SymD d) (hp : Supp d n) {x y : Nat} (hx : x < n) (hy : y < n) : oppB c d n x y = (partedR d (clsR d x) (clsR d y) || (clashR c (clsR d x) (clsR d y)).isSome) := by
 rw [Bool.eq_iff_iff, opp_iff hn hs, Bool.or_eq_true]
 simp only [partedR, clashR, List.any_eq_true, List.find?_isSome, List.mem_flatMap, List.mem_map, decide_eq_true_eq, mem_clsR hs]
 constructor
 ·rintro ⟨p, q, p1, q1, p2, q2, h | h⟩
  ·exact .inr ⟨(p, q), ⟨p, ⟨by omega, p2.widen hn⟩, q, ⟨by omega, q2.widen hn⟩, rfl⟩, h⟩
  ·exact .inl ⟨p, ⟨by omega, p2.widen hn⟩, q, ⟨by omega, q2.widen hn⟩, h⟩
 ·rintro (⟨p, ⟨p1, p2⟩, q, ⟨q1, q2⟩, h⟩ | ⟨_, ⟨p, ⟨p1, p2⟩, q, ⟨q1, q2⟩, rfl⟩, h⟩)
  ·exact ⟨p, q, conn_in hp p2 hx, conn_in hp q2 hy, (conn_nm hn hp).1 p2, (conn_nm hn hp).1 q2, .inr h⟩
  ·exact ⟨p, q, conn_in hp p2 hx, conn_in hp q2 hy, (conn_nm hn hp).1 p2, (conn_nm hn hp).1 q2, .inl h⟩
theorem has_cls (hn : n ≤ 8) (hs : SymD d) (hp : Supp d n) {a b : Nat} (ha : a < n) (hb : b < n) : (clsR d a).contains b = (clsOf d n a == clsOf d n b) := by
 rw [Bool.eq_iff_iff, List.contains_iff_mem, mem_clsR hs, beq_iff_eq, cls_iff hn hs]
 constructor
 ·rintro ⟨_, h⟩
  exact ((conn_nm hn hp).1 h).symm hs
 ·intro h
  exact ⟨by omega, (h.symm hs).widen hn⟩
/-- the Ids by which two classes are opposed -/
def pairIds (c : Cs) (d : Dec) (x y : Nat) : List Int := if partedR d (clsR d x) (clsR d y) then [] else match clashR c (clsR d x) (clsR d y) with | some z => causeB c z.1 z.2 | none => []
def rowIds (c : Cs) (d : Dec) (l : List Nat) (i m : Nat) : List Int := (List.range m).flatMap fun k => if i < k then pairIds c d (nth l i) (nth l k) else []
def manyIds (c : Cs) (d : Dec) (l : List Nat) (m : Nat) : List Int := (List.range m).flatMap fun i => rowIds c d l i l.length
def leafIds (c : Cs) (d : Dec) (x : Br) : List Int := if x.kind = 2 then causeB c x.a.toNat x.b.toNat else if x.kind = 4 then c.by_ :: manyIds c d (x.many.map Int.toNat) x.many.length else []
theorem rowIds_succ (l : List Nat) (i m : Nat) (h : i < m) : rowIds c d l i (m + 1) = rowIds c d l i m ++ pairIds c d (nth l i) (nth l m) := by
 simp [rowIds, List.range_succ, List.flatMap_append, h]
theorem rowIds_start (l : List Nat) (i : Nat) : rowIds c d l i (i + 1) = [] := by
 unfold rowIds
 rw [List.flatMap_eq_nil_iff]
 intro k hk
 rw [if_neg (by have := List.mem_range.1 hk; omega)]
theorem manyIds_succ (l : List Nat) (m : Nat) : manyIds c d l (m + 1) = manyIds c d l m ++ rowIds c d l m l.length := by
 simp [manyIds, List.range_succ, List.flatMap_append]
theorem cause_len (c : Cs) (x y : Nat) : (causeB c x y).length ≤ 2 := by
 unfold causeB causeP
 split
 ·split
  ·simp
  ·split <;> simp
 ·simp
theorem pairIds_len (c : Cs) (d : Dec) (x y : Nat) : (pairIds c d x y).length ≤ 2 := by
 unfold pairIds
 split
 ·simp
 ·split
  ·exact cause_len _ _ _
  ·simp
theorem rowIds_len (l : List Nat) (i : Nat) : ∀ m, (rowIds c d l i m).length ≤ 2 * (m - (i + 1))
 | 0 => by simp [rowIds]
 | m + 1 => by
  rcases Nat.lt_or_ge i m with h | h
  ·rw [rowIds_succ l i m h, List.length_append]
   have h1 := rowIds_len l i m
   have h2 := pairIds_len c d (nth l i) (nth l m)
   omega
  ·have : rowIds c d l i (m + 1) = [] := by
    unfold rowIds
    rw [List.flatMap_eq_nil_iff]
    intro k hk
    rw [if_neg (by have := List.mem_range.1 hk; omega)]
   rw [this]; simp
theorem manyIds_len (l : List Nat) : ∀ m, m ≤ l.length → (manyIds c d l m).length + (m * m + m) ≤ 2 * (l.length * m)
 | 0, _ => by simp [manyIds]
 | m + 1, hm => by
  rw [manyIds_succ, List.length_append]
  have h1 := manyIds_len l m (by omega)
  have h2 := rowIds_len (c := c) (d := d) l m l.length
  rw [show (m + 1) * (m + 1) = m * m + 2 * m + 1 by rw [Nat.mul_succ, Nat.succ_mul]; omega, Nat.mul_succ]
  omega
theorem manyIds_eight (l : List Nat) (h8 : l.length ≤ 8) : (manyIds c d l l.length).length ≤ 56 := by
 have h := manyIds_len (c := c) (d := d) l l.length (Nat.le_refl _)
 generalize l.length = k at *
 have : k = 0 ∨ k = 1 ∨ k = 2 ∨ k = 3 ∨ k = 4 ∨ k = 5 ∨ k = 6 ∨ k = 7 ∨ k = 8 := by omega
 rcases this with rfl | rfl | rfl | rfl | rfl | rfl | rfl | rfl | rfl <;> omega
/-- the parts of a leaf, in range and ascending -/
def riseTo (n : Nat) (many : List Int) (i : Nat) : Bool := upto i fun j => inB (many[j]?.getD 0) 0 ((n : Int) - 1) && (j == 0 || decide (many[j - 1]?.getD 0 < many[j]?.getD 0))
theorem riseTo_succ (n : Nat) (many : List Int) (i : Nat) : riseTo n many (i + 1) = (riseTo n many i && (inB (many[i]?.getD 0) 0 ((n : Int) - 1) && (i == 0 || decide (many[i - 1]?.getD 0 < many[i]?.getD 0)))) := by
 simp [riseTo, upto, List.range_succ]
theorem rise_at {many : List Int} {m : Nat} (h : riseTo n many m = true) {j : Nat} (hj : j < m) : 0 ≤ many[j]?.getD 0 ∧ many[j]?.getD 0 ≤ (n : Int) - 1 ∧ (0 < j → many[j - 1]?.getD 0 < many[j]?.getD 0) := by
 have := upto_iff.1 h j hj
 simp only [inB, Bool.and_eq_true, decide_eq_true_eq, Bool.or_eq_true, beq_iff_eq] at this
 exact ⟨this.1.1, this.1.2, fun h0 => this.2.resolve_left (by omega)⟩
theorem rise_lt {many : List Int} {m : Nat} (h : riseTo n many m = true) : ∀ (e i : Nat), i + e + 1 < m → many[i]?.getD 0 < many[i + e + 1]?.getD 0
 | 0, i, hm => by
  have := (rise_at h hm).2.2 (by omega)
  simpa using this
 | e + 1, i, hm => by
  have h1 := rise_lt h e i (by omega)
  have h2 := (rise_at h (j := i + (e + 1) + 1) hm).2.2 (by omega)
  have e1 : i + (e + 1) + 1 - 1 = i + e + 1 := by omega
  rw [e1] at h2
  omega
theorem rise_len {many : List Int} (h : riseTo n many many.length = true) : many.length ≤ n := by
 have := nodup_le (l := (List.range many.length).map fun i => (many[i]?.getD 0).toNat) (m := List.range n) (by
  rw [List.Nodup, List.pairwise_map]
  refine List.Pairwise.imp_of_mem (fun {a b} ha hb hab e => ?_) (List.pairwise_lt_range (n := many.length))
  have hb' := List.mem_range.1 hb
  have h1 := rise_lt h (b - a - 1) a (by omega)
  have e1 : a + (b - a - 1) + 1 = b := by omega
  rw [e1] at h1
  have h2 := (rise_at h (List.mem_range.1 ha)).1
  omega) (fun x hx => by
  obtain ⟨i, hi, rfl⟩ := List.mem_map.1 hx
  have := rise_at h (List.mem_range.1 hi)
  rw [List.mem_range]; omega)
 simpa using this
/-- .. as numbers -/
theorem rise_nats {many : List Int} (h : riseTo n many many.length = true) : natInts (many.map Int.toNat) = many := by
 apply List.ext_getElem?
 intro k
 simp only [natInts, List.getElem?_map, List.map_map]
 by_cases hk : k < many.length
 ·have := (rise_at h hk).1
  rw [List.getElem?_eq_getElem hk] at this ⊢
  simp at this ⊢
  omega
 ·rw [List.getElem?_eq_none (by omega)]; rfl
theorem rise_val {many : List Int} {m : Nat} (h : riseTo n many m = true) {i : Nat} (hi : i < m) (him : i < many.length) : many[i]? = some ((nth (many.map Int.toNat) i : Nat) : Int) ∧ nth (many.map Int.toNat) i < n := by
 have h1 := rise_at h hi
 rw [List.getElem?_eq_getElem him] at h1 ⊢
 simp only [Option.getD_some] at h1
 have e : nth (many.map Int.toNat) i = many[i].toNat := by rw [nth_get (by simpa using him)]; simp
 rw [e]
 exact ⟨by rw [show ((many[i].toNat : Nat) : Int) = many[i] by omega], by omega⟩
/-- the leaf many, by its rows -/
theorem many_rows (hn : n ≤ 8) (hs : SymD d) (hp : Supp d n) {A B : Int} {many : List Int} (hh : manyHead c A B many = true) (hr : riseTo n many many.length = true) :
  manyB c d n A B many = true ↔ ∀ i k, i < k → k < many.length → (partedR d (clsR d (nth (many.map Int.toNat) i)) (clsR d (nth (many.map Int.toNat) k)) || (clashR c (clsR d (nth (many.map Int.toNat) i)) (clsR d (nth (many.map Int.toNat) k))).isSome) = true := by
 have hv := fun {i : Nat} (hi : i < many.length) => rise_val hr hi hi
 have hoB : ∀ i k, i < k → k < many.length → oppB c d n (many[i]?.getD 0).toNat (many[k]?.getD 0).toNat = (partedR d (clsR d (nth (many.map Int.toNat) i)) (clsR d (nth (many.map Int.toNat) k)) || (clashR c (clsR d (nth (many.map Int.toNat) i)) (clsR d (nth (many.map Int.toNat) k))).isSome) := fun i k hik hk => by
  rw [(hv (show i < many.length by omega)).1, (hv hk).1]
  simp only [Option.getD_some, Int.toNat_natCast]
  exact opp_parts hn hs hp (hv (show i < many.length by omega)).2 (hv hk).2
 unfold manyB
 rw [hh, Bool.true_and, upto_iff]
 constructor
 ·intro h i k hik hk
  have h1 := h k hk
  simp only [manyAt, Bool.and_eq_true] at h1
  rw [← hoB i k hik hk]
  exact upto_iff.1 h1.2 i hik
 ·intro h k hk
  have h1 := upto_iff.1 hr k hk
  simp only [Bool.and_eq_true] at h1
  simp only [manyAt, Bool.and_eq_true]
  refine ⟨⟨h1.1, h1.2⟩, upto_true fun i hi => ?_⟩
  rw [hoB i k hi hk]
  exact h i k hi hk
theorem many_not {A B : Int} {many : List Int} (h : riseTo n many many.length = false) : manyB c d n A B many = false := by
 rcases hm : manyB c d n A B many with _ | _
 ·rfl
 ·unfold manyB at hm
  rw [Bool.and_eq_true, upto_iff] at hm
  have : riseTo n many many.length = true := upto_true fun j hj => by
   have := hm.2 j hj
   simp only [manyAt, Bool.and_eq_true] at this
   simp only [Bool.and_eq_true]
   exact this.1
  rw [h] at this; cases this
theorem rise_less {many : List Int} {m m' : Nat} (h : riseTo n many m = false) (hm : m ≤ m') : riseTo n many m' = false := by
 rcases hr : riseTo n many m' with _ | _
 ·rfl
 ·have : riseTo n many m = true := upto_true fun j hj => upto_iff.1 hr j (by omega)
  rw [h] at this; cases this
theorem leaf_many (c : Cs) (d : Dec) (n : Nat) (A B : Int) (many : List Int) : leafB c d n ⟨4, A, B, many⟩ = manyB c d n A B many := rfl
theorem leafIds_len {x : Br} (hn : n ≤ 8) (h : leafB c d n x = true) : (leafIds c d x).length ≤ 57 := by
 unfold leafIds
 split
 ·have := cause_len c x.a.toNat x.b.toNat; omega
 ·split
  ·rename_i h2 h4
   have hm : manyB c d n x.a x.b x.many = true := by
    unfold leafB at h
    rw [if_neg h2, if_neg (by omega), if_pos h4] at h
    exact h
   have hr : riseTo n x.many x.many.length = true := by
    rcases hr : riseTo n x.many x.many.length with _ | _
    ·rw [many_not hr] at hm; cases hm
    ·rfl
   have h1 := rise_len hr
   have h3 := manyIds_eight (c := c) (d := d) (x.many.map Int.toNat) (by rw [List.length_map]; omega)
   rw [List.length_map] at h3
   rw [List.length_cons]
   omega
  ·simp
end
end Go.Proofs.YtpjcnkajimgagaaGreat
