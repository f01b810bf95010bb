/- The parts in another order; plain, no program. -/
/- Where no reassembly has it, refute finds a refutation that is accepted; plain, no program. -/
/- A reassembly or a refutation, never both; plain, no program. -/
/- What refute finds is small. -/
import Derived.Test.YtpjcnkajimgagaaGreatMPlainB
import Derived.Test.YtpjcnkajimgagaaGreatMPlain
import Derived.Test.YtpjcnkajimgagaaGreatMRefute
import Derived.Test.YtpjcnkajimgagaaGreatMPlainA
set_option linter.unusedSimpArgs false
set_option linter.unusedVariables false
namespace Go.Proofs.YtpjcnkajimgagaaGreat
open Go.RowKit

theorem full_mem {n : Nat} {l : List Nat} (hnd : l.Nodup) (hs : ∀ a ∈ l, a < n) (hl : l.length = n) : ∀ v, v < n → v ∈ l := by
 intro v hv
 refine Classical.byContradiction fun h => ?_
 have := nodup_le (m := List.range n) (List.nodup_cons.2 ⟨h, hnd⟩) (fun a ha => by
  rcases List.mem_cons.1 ha with rfl | ha
  ·exact List.mem_range.2 hv
  ·exact List.mem_range.2 (hs a ha))
 simp at this
 omega
/-- d is c in another order -/
structure Reord (c d : Cs) (s : List Nat) : Prop where
 len : d.parts.length = c.parts.length
 lim : d.limit = c.limit
 slen : s.length = c.parts.length
 lt : ∀ a ∈ s, a < c.parts.length
 nd : s.Nodup
 at_ : ∀ i, i < c.parts.length → d.parts[i]? = c.parts[nth s i]?
section
variable {c d : Cs} {s : List Nat}
theorem Reord.nlt (R : Reord c d s) {i : Nat} (hi : i < c.parts.length) : nth s i < c.parts.length := by
 rw [nth_get (by rw [R.slen]; exact hi)]
 exact R.lt _ (List.getElem_mem _)
theorem Reord.inj (R : Reord c d s) {i j : Nat} (hi : i < c.parts.length) (hj : j < c.parts.length) (h : nth s i = nth s j) : i = j := by
 rw [nth_get (by rw [R.slen]; exact hi), nth_get (by rw [R.slen]; exact hj)] at h
 have hnd := R.nd
 rw [List.Nodup, List.pairwise_iff_getElem] at hnd
 rcases Nat.lt_trichotomy i j with k | k | k
 ·exact absurd h (hnd i j (by rw [R.slen]; exact hi) (by rw [R.slen]; exact hj) k)
 ·exact k
 ·exact absurd h.symm (hnd j i (by rw [R.slen]; exact hj) (by rw [R.slen]; exact hi) k)
theorem Reord.onto (R : Reord c d s) {p : Nat} (hp : p < c.parts.length) : ∃ i, i < c.parts.length ∧ nth s i = p := by
 obtain ⟨i, hi, e⟩ := List.getElem_of_mem (full_mem R.nd R.lt R.slen p hp)
 exact ⟨i, by rw [← R.slen]; exact hi, by rw [nth_get hi, e]⟩
theorem Reord.clash (R : Reord c d s) {i j : Nat} (hi : i < c.parts.length) (hj : j < c.parts.length) : clashB d i j = clashB c (nth s i) (nth s j) := by
 unfold clashB
 rw [R.at_ i hi, R.at_ j hj]
 rcases c.parts[nth s i]? with _ | p <;> rcases c.parts[nth s j]? with _ | q <;> try rfl
 simp only [clashP]
 congr 1
 rw [Bool.eq_iff_iff]
 simp only [bne_iff_ne]
 exact ⟨fun h e => h (R.inj hi hj e), fun h e => h (by rw [e])⟩
theorem Reord.fwd (R : Reord c d s) {x : List Nat} (hx : Reas c x) : ∃ y, Reas d y ∧ ∀ i j, i < c.parts.length → j < c.parts.length → (nth y i = nth y j ↔ nth x (nth s i) = nth x (nth s j)) := by
 have G := hx.good
 have G' : GoodZ d d.parts.length (fun i => nth x (nth s i)) := by
  rw [R.len]
  refine ⟨fun p q hp hq h => ?_, fun hl ps hps hpw => ?_⟩
  ·rw [R.clash hp hq] at h
   exact G.clash _ _ (R.nlt hp) (R.nlt hq) h
  ·rw [R.lim] at hl ⊢
   have := G.lim hl (ps.map (nth s)) (fun p hp => by
    simp only [List.mem_map] at hp
    obtain ⟨a, ha, rfl⟩ := hp
    exact R.nlt (hps a ha)) (by rw [List.pairwise_map]; exact hpw)
   simpa using this
 obtain ⟨y, hy, hi⟩ := G'.reas
 exact ⟨y, hy, fun i j hi' hj' => hi i j (by rw [R.len]; exact hi') (by rw [R.len]; exact hj')⟩
theorem Reord.bwd (R : Reord c d s) {y : List Nat} (hy : Reas d y) : ∃ x, Reas c x ∧ ∀ i j, i < c.parts.length → j < c.parts.length → (nth y i = nth y j ↔ nth x (nth s i) = nth x (nth s j)) := by
 have G := hy.good
 rw [R.len] at G
 have inv : ∃ t : Nat → Nat, ∀ p, p < c.parts.length → t p < c.parts.length ∧ nth s (t p) = p := by
  refine ⟨fun p => if h : p < c.parts.length then Classical.choose (R.onto h) else 0, fun p hp => ?_⟩
  simp only [dif_pos hp]
  exact Classical.choose_spec (R.onto hp)
 obtain ⟨t, ht⟩ := inv
 have G' : GoodZ c c.parts.length (fun p => nth y (t p)) := by
  refine ⟨fun p q hp hq h => ?_, fun hl ps hps hpw => ?_⟩
  ·refine G.clash _ _ (ht p hp).1 (ht q hq).1 ?_
   rw [R.clash (ht p hp).1 (ht q hq).1, (ht p hp).2, (ht q hq).2]
   exact h
  ·rw [← R.lim] at hl ⊢
   have := G.lim hl (ps.map t) (fun p hp => by
    simp only [List.mem_map] at hp
    obtain ⟨a, ha, rfl⟩ := hp
    exact (ht a (hps a ha)).1) (by rw [List.pairwise_map]; exact hpw)
   simpa using this
 obtain ⟨x, hx, hi⟩ := G'.reas
 refine ⟨x, hx, fun i j hi' hj' => ?_⟩
 rw [hi _ _ (R.nlt hi') (R.nlt hj')]
 have e : ∀ i, i < c.parts.length → t (nth s i) = i := fun i hi => R.inj (ht _ (R.nlt hi)).1 hi (ht _ (R.nlt hi)).2
 simp only [e i hi', e j hj']
theorem Reord.ans (R : Reord c d s) {i j : Nat} (hi : i < c.parts.length) (hj : j < c.parts.length) : ansAt d i j = ansAt c (nth s i) (nth s j) := by
 have h1 : togB d.parts.length (allR d) i j = togB c.parts.length (allR c) (nth s i) (nth s j) := by
  rw [Bool.eq_iff_iff, tog_iff (by rw [R.len]; exact hi) (by rw [R.len]; exact hj), tog_iff (R.nlt hi) (R.nlt hj)]
  constructor
  ·rintro ⟨y, hy, e⟩
   obtain ⟨x, hx, h⟩ := R.bwd hy
   exact ⟨x, hx, (h i j hi hj).1 e⟩
  ·rintro ⟨x, hx, e⟩
   obtain ⟨y, hy, h⟩ := R.fwd hx
   exact ⟨y, hy, (h i j hi hj).2 e⟩
 have h2 : aptB d.parts.length (allR d) i j = aptB c.parts.length (allR c) (nth s i) (nth s j) := by
  rw [Bool.eq_iff_iff, apt_iff (by rw [R.len]; exact hi) (by rw [R.len]; exact hj), apt_iff (R.nlt hi) (R.nlt hj)]
  constructor
  ·rintro ⟨y, hy, e⟩
   obtain ⟨x, hx, h⟩ := R.bwd hy
   exact ⟨x, hx, fun k => e ((h i j hi hj).2 k)⟩
  ·rintro ⟨x, hx, e⟩
   obtain ⟨y, hy, h⟩ := R.fwd hx
   exact ⟨y, hy, fun k => e ((h i j hi hj).1 k)⟩
 rw [ans_iff, ans_iff, h1, h2]
theorem map_le {α β : Type} [BEq β] [LawfulBEq β] {l : List α} {m : List β} (hnd : l.Nodup) (f : α → β) (hf : ∀ a ∈ l, f a ∈ m) (hi : ∀ a ∈ l, ∀ b ∈ l, f a = f b → a = b) : l.length ≤ m.length := by
 have := nodup_le (l := l.map f) (m := m) (by
  rw [List.Nodup, List.pairwise_map]
  exact List.Pairwise.imp_of_mem (fun {a b} ha hb h e => h (hi a ha b hb e)) hnd) (fun b hb => by
  simp only [List.mem_map] at hb
  obtain ⟨a, ha, rfl⟩ := hb
  exact hf a ha)
 simpa using this
theorem Reord.count (R : Reord c d s) : (allR c).length = (allR d).length := by
 refine Nat.le_antisymm ?_ ?_
 ·have hf : ∀ x : List Nat, ∃ y : List Nat, Reas c x → Reas d y ∧ ∀ i j, i < c.parts.length → j < c.parts.length → (nth y i = nth y j ↔ nth x (nth s i) = nth x (nth s j)) := fun x => by
   by_cases h : Reas c x
   ·obtain ⟨y, hy⟩ := R.fwd h; exact ⟨y, fun _ => hy⟩
   ·exact ⟨[], fun k => absurd k h⟩
  refine map_le (allR_nodup c) (fun x => Classical.choose (hf x)) (fun x hx => mem_allR.2 (Classical.choose_spec (hf x) (mem_allR.1 hx)).1) (fun x hx x' hx' e => ?_)
  have h1 := Classical.choose_spec (hf x) (mem_allR.1 hx)
  have h2 := Classical.choose_spec (hf x') (mem_allR.1 hx')
  rw [← e] at h2
  have hx := mem_allR.1 hx
  have hx' := mem_allR.1 hx'
  refine hx.unique hx' (hx.len.trans hx'.len.symm) fun a b ha hb => ?_
  rw [hx.len] at ha hb
  obtain ⟨i, hi, rfl⟩ := R.onto ha
  obtain ⟨j, hj, rfl⟩ := R.onto hb
  rw [← h1.2 i j hi hj, ← h2.2 i j hi hj]
 ·have hf : ∀ y : List Nat, ∃ x : List Nat, Reas d y → Reas c x ∧ ∀ i j, i < c.parts.length → j < c.parts.length → (nth y i = nth y j ↔ nth x (nth s i) = nth x (nth s j)) := fun y => by
   by_cases h : Reas d y
   ·obtain ⟨x, hx⟩ := R.bwd h; exact ⟨x, fun _ => hx⟩
   ·exact ⟨[], fun k => absurd k h⟩
  refine map_le (allR_nodup d) (fun y => Classical.choose (hf y)) (fun y hy => mem_allR.2 (Classical.choose_spec (hf y) (mem_allR.1 hy)).1) (fun y hy y' hy' e => ?_)
  have h1 := Classical.choose_spec (hf y) (mem_allR.1 hy)
  have h2 := Classical.choose_spec (hf y') (mem_allR.1 hy')
  rw [← e] at h2
  have hy := mem_allR.1 hy
  have hy' := mem_allR.1 hy'
  refine hy.unique hy' (hy.len.trans hy'.len.symm) fun a b ha hb => ?_
  rw [hy.len, R.len] at ha hb
  rw [h1.2 a b ha hb, h2.2 a b ha hb]
end
end Go.Proofs.YtpjcnkajimgagaaGreat
namespace Go.Proofs.YtpjcnkajimgagaaGreat
open Go.RowKit

section
variable {c : Cs} {d : Dec} {n : Nat}
theorem Conn.mono {d' : Dec} (h : ∀ a b, d a b &&& 1 ≠ 0 → d' a b &&& 1 ≠ 0) {a b : Nat} (k : Conn d n a b) : Conn d' n a b := by
 induction k with
 | refl => exact .refl _
 | step e _ ih => exact .step ⟨e.1, e.2.1, h _ _ e.2.2⟩ ih
theorem Opp.mono {d' : Dec} (h1 : ∀ a b, d a b &&& 1 ≠ 0 → d' a b &&& 1 ≠ 0) (h2 : ∀ a b, d a b &&& 2 ≠ 0 → d' a b &&& 2 ≠ 0) {x y : Nat} (h : Opp c d n x y) : Opp c d' n x y := by
 obtain ⟨p, q, p1, q1, p2, q2, h⟩ := h
 exact ⟨p, q, p1, q1, p2.mono h1, q2.mono h1, h.imp id (h2 _ _)⟩
theorem Opp.symm (hs : SymD d) {x y : Nat} (h : Opp c d n x y) : Opp c d n y x := by
 obtain ⟨p, q, p1, q1, p2, q2, h⟩ := h
 refine ⟨q, p, q1, p1, q2, p2, ?_⟩
 rwa [clashB_sym, hs q p]
theorem conn_lone {p b : Nat} (h : ∀ b, d p b &&& 1 = 0) (k : Conn d n p b) : b = p := by
 cases k with
 | refl => rfl
 | step e _ => exact absurd (h _) e.2.2
/-- what holds while the parts are put to classes -/
structure Inv (c : Cs) (d : Dec) (n : Nat) (P : Nat → Prop) (reps : List Nat) : Prop where
 sym : SymD d
 self : ∀ a, d a a &&& 2 = 0
 repIn : ∀ r ∈ reps, r < n ∧ P r
 cover : ∀ a, a < n → P a → ∃ r ∈ reps, Conn d n a r
 opp : reps.Pairwise (fun r s => Opp c d n r s)
 ok : ∀ a b, a < n → b < n → Conn d n a b → clashB c a b = false ∧ d a b &&& 2 = 0
 lone : ∀ a, a < n → ¬ P a → ∀ b, d a b &&& 1 = 0
variable {P : Nat → Prop} {reps : List Nat}
theorem Inv.push (I : Inv c d n P reps) {p : Nat} (hp : p < n) (h : ∀ r ∈ reps, Opp c d n r p) : Inv c d n (fun a => P a ∨ a = p) (reps ++ [p]) := by
 refine ⟨I.sym, I.self, fun r hr => ?_, fun a ha k => ?_, ?_, I.ok, fun a ha k => I.lone a ha (fun e => k (.inl e))⟩
 ·rcases List.mem_append.1 hr with hr | hr
  ·exact ⟨(I.repIn r hr).1, .inl (I.repIn r hr).2⟩
  ·rw [List.mem_singleton.1 hr]; exact ⟨hp, .inr rfl⟩
 ·rcases k with k | rfl
  ·obtain ⟨r, hr, k⟩ := I.cover a ha k
   exact ⟨r, List.mem_append_left _ hr, k⟩
  ·exact ⟨a, by simp, .refl _⟩
 ·rw [List.pairwise_append]
  refine ⟨I.opp, by simp, fun r hr s hs => ?_⟩
  rw [List.mem_singleton.1 hs]
  exact h r hr
theorem mono1 (hs : SymD d) (x y w : Nat) (m : Nat) : ∀ a b, d a b &&& m ≠ 0 → decWith d x y w a b &&& m ≠ 0 := fun a b h => (decWith_bit hs x y w m a b).2 (.inl h)
theorem Inv.together (I : Inv c d n P reps) {p q : Nat} (hp : p < n) (hpP : ¬ P p) (hq : q ∈ reps) (h : ¬ Opp c d n q p) : Inv c (decWith d q p 1) n (fun a => P a ∨ a = p) reps := by
 obtain ⟨hqn, hqP⟩ := I.repIn q hq
 have hne : q ≠ p := fun e => hpP (e ▸ hqP)
 have lp := I.lone p hp hpP
 have m1 := mono1 I.sym q p 1 1
 have m2 := mono1 I.sym q p 1 2
 have two : ∀ a b, d a b &&& 2 = 0 → decWith d q p 1 a b &&& 2 = 0 := fun a b h0 => by
  by_cases k : decWith d q p 1 a b &&& 2 = 0
  ·exact k
  ·rcases (decWith_bit I.sym q p 1 2 a b).1 k with k | ⟨_, k⟩
   ·exact absurd h0 k
   ·exact absurd rfl k
 have con : ∀ {a b : Nat}, Conn (decWith d q p 1) n a b → Conn d n a b ∨ (Conn d n a q ∧ b = p) ∨ (a = p ∧ Conn d n q b) := by
  intro a b k
  induction k with
  | refl => exact .inl (.refl _)
  | step e0 _ ih =>
   obtain ⟨ha, hb, e1⟩ := e0
   rcases (decWith_bit I.sym q p 1 1 _ _).1 e1 with e | ⟨⟨rfl, rfl⟩ | ⟨rfl, rfl⟩, _⟩
   ·clear e1
    rcases ih with k | ⟨k, h3⟩ | ⟨h3, k⟩
    ·exact .inl (.step ⟨ha, hb, e⟩ k)
    ·exact .inr (.inl ⟨.step ⟨ha, hb, e⟩ k, h3⟩)
    ·rw [I.sym, h3] at e; exact absurd (lp _) e
   ·rcases ih with k | ⟨_, rfl⟩ | ⟨_, k⟩
    ·exact .inr (.inl ⟨.refl _, conn_lone lp k⟩)
    ·exact .inr (.inl ⟨.refl _, rfl⟩)
    ·exact .inl k
   ·rcases ih with k | ⟨_, rfl⟩ | ⟨e, _⟩
    ·exact .inr (.inr ⟨rfl, k⟩)
    ·exact .inl (.refl _)
    ·exact absurd e hne
 refine ⟨decWith_sym I.sym _ _ _, fun a => two a a (I.self a), fun r hr => ⟨(I.repIn r hr).1, .inl (I.repIn r hr).2⟩, fun a ha k => ?_, I.opp.imp (fun h => h.mono m1 m2), fun a b ha hb k => ?_, fun a ha k b => ?_⟩
 ·rcases k with k | rfl
  ·obtain ⟨r, hr, k⟩ := I.cover a ha k
   exact ⟨r, hr, k.mono m1⟩
  ·exact ⟨q, hq, .one ⟨ha, hqn, (decWith_bit I.sym q a 1 1 a q).2 (.inr ⟨.inr ⟨rfl, rfl⟩, by decide⟩)⟩⟩
 ·rcases con k with k1 | ⟨k1, rfl⟩ | ⟨rfl, k1⟩
  ·exact ⟨(I.ok a b ha hb k1).1, two a b (I.ok a b ha hb k1).2⟩
  ·have h1 : ¬ (clashB c a b = true ∨ d a b &&& 2 ≠ 0) := fun e => h ⟨a, b, ha, hb, k1, .refl _, e⟩
   exact ⟨by simpa using fun e => h1 (.inl e), two a b (Classical.byContradiction fun e => h1 (.inr e))⟩
  ·have h1 : ¬ (clashB c b a = true ∨ d b a &&& 2 ≠ 0) := fun e => h ⟨b, a, hb, ha, k1.symm I.sym, .refl _, e⟩
   exact ⟨by rw [clashB_sym]; simpa using fun e => h1 (.inl e), two a b (by rw [I.sym]; exact Classical.byContradiction fun e => h1 (.inr e))⟩
 ·by_cases e : decWith d q p 1 a b &&& 1 = 0
  ·exact e
  ·rcases (decWith_bit I.sym q p 1 1 a b).1 e with e | ⟨⟨rfl, _⟩ | ⟨rfl, _⟩, _⟩
   ·exact absurd (I.lone a ha (fun h => k (.inl h)) b) e
   ·exact absurd (.inl hqP) k
   ·exact absurd (.inr rfl) k
theorem Inv.apart (I : Inv c d n P reps) {p q : Nat} (hp : p < n) (hpP : ¬ P p) (hq : q ∈ reps) : Inv c (decWith d q p 2) n P reps := by
 obtain ⟨hqn, hqP⟩ := I.repIn q hq
 have hne : q ≠ p := fun e => hpP (e ▸ hqP)
 have lp := I.lone p hp hpP
 have m1 := mono1 I.sym q p 2 1
 have m2 := mono1 I.sym q p 2 2
 have one : ∀ a b, decWith d q p 2 a b &&& 1 ≠ 0 → d a b &&& 1 ≠ 0 := fun a b k => by
  rcases (decWith_bit I.sym q p 2 1 a b).1 k with k | ⟨_, k⟩
  ·exact k
  ·exact absurd rfl k
 refine ⟨decWith_sym I.sym _ _ _, fun a => ?_, I.repIn, fun a ha k => ?_, I.opp.imp (fun h => h.mono m1 m2), fun a b ha hb k => ?_, fun a ha k b => ?_⟩
 ·by_cases k : decWith d q p 2 a a &&& 2 = 0
  ·exact k
  ·rcases (decWith_bit I.sym q p 2 2 a a).1 k with k | ⟨⟨rfl, e⟩ | ⟨rfl, e⟩, _⟩
   ·exact absurd (I.self a) k
   ·exact absurd e hne
   ·exact absurd e.symm hne
 ·obtain ⟨r, hr, k⟩ := I.cover a ha k
  exact ⟨r, hr, k.mono m1⟩
 ·have k' := k.mono one
  refine ⟨(I.ok a b ha hb k').1, ?_⟩
  by_cases k2 : decWith d q p 2 a b &&& 2 = 0
  ·exact k2
  ·rcases (decWith_bit I.sym q p 2 2 a b).1 k2 with k2 | ⟨⟨rfl, rfl⟩ | ⟨rfl, rfl⟩, _⟩
   ·exact absurd (I.ok a b ha hb k').2 k2
   ·exact absurd (conn_lone lp (k'.symm I.sym)) hne
   ·exact absurd (conn_lone lp k') hne
 ·by_cases e : decWith d q p 2 a b &&& 1 = 0
  ·exact e
  ·exact absurd (I.lone a ha k b) (one a b e)
theorem Inv.distinct (I : Inv c d n P reps) {r s : Nat} (h : Opp c d n r s) : r ≠ s := by
 rintro rfl
 obtain ⟨p, q, p1, q1, p2, q2, h⟩ := h
 have := I.ok p q p1 q1 (p2.trans (q2.symm I.sym))
 rcases h with h | h
 ·rw [this.1] at h; cases h
 ·exact h this.2
theorem tryM_none {f : Dec → List Nat → Option (List Br)} {p : Nat} (hn : n ≤ 8) (hp : p < n) (hpP : ¬ P p) {reps : List Nat}
  (hf : ∀ d' reps', Inv c d' n (fun a => P a ∨ a = p) reps' → f d' reps' = none → ∃ z, Agr d' n z ∧ GoodZ c n z) :
  ∀ (left seen : List Nat) (d : Dec), reps = seen ++ left → Inv c d n P reps → (∀ q ∈ seen, Opp c d n q p) → tryM c n f p reps left d = none → ∃ z, Agr d n z ∧ GoodZ c n z
 | [], seen, d, hr, I, ho, h => hf d _ (I.push hp (by rw [hr, List.append_nil]; exact ho)) h
 | q :: left, seen, d, hr, I, ho, h => by
  have hq : q ∈ reps := by rw [hr]; simp
  have hr' : reps = (seen ++ [q]) ++ left := by rw [hr]; simp
  simp only [tryM] at h
  split at h
  ·rename_i hopp
   refine tryM_none hn hp hpP hf left (seen ++ [q]) d hr' I (fun r hr => ?_) h
   rcases List.mem_append.1 hr with hr | hr
   ·exact ho r hr
   ·rw [List.mem_singleton.1 hr]; exact (opp_iff hn I.sym).1 hopp
  ·rename_i hopp
   have hno : ¬ Opp c d n q p := fun e => hopp ((opp_iff hn I.sym).2 e)
   rcases h1 : f (decWith d q p 1) reps with _ | a
   ·obtain ⟨z, A, G⟩ := hf _ _ (I.together hp hpP hq hno) h1
    exact ⟨z, A.less I.sym, G⟩
   ·simp only [h1] at h
    rcases h2 : tryM c n f p reps left (decWith d q p 2) with _ | b
    ·obtain ⟨z, A, G⟩ := tryM_none hn hp hpP hf left (seen ++ [q]) (decWith d q p 2) hr' (I.apart hp hpP hq) (fun r hr => by
      rcases List.mem_append.1 hr with hr | hr
      ·exact (ho r hr).mono (mono1 I.sym q p 2 1) (mono1 I.sym q p 2 2)
      ·rw [List.mem_singleton.1 hr]
       exact ⟨q, p, (I.repIn q hq).1, hp, .refl _, .refl _, .inr ((decWith_bit I.sym q p 2 2 q p).2 (.inr ⟨.inl ⟨rfl, rfl⟩, by decide⟩))⟩) h2
     exact ⟨z, A.less I.sym, G⟩
    ·simp [h2] at h
theorem putM_none (hn : n ≤ 8) : ∀ (order : List Nat) (P : Nat → Prop) (d : Dec) (reps : List Nat), Inv c d n P reps → (∀ a, a < n → P a ∨ a ∈ order) → (∀ a ∈ order, a < n ∧ ¬ P a) → order.Nodup →
  putM c n order d reps = none → ∃ z, Agr d n z ∧ GoodZ c n z
 | [], P, d, reps, I, hc, _, _, h => by
  rcases hb : bigB c reps with _ | _
  ·refine ⟨clsOf d n, ⟨fun a b ha hb k => (cls_iff hn I.sym).2 (.one ⟨ha, hb, k⟩), fun a b ha hb k e => k (I.ok a b ha hb ((cls_iff hn I.sym).1 e)).2⟩, fun p q hp hq k e => ?_, fun hl ps hps hpw => ?_⟩
   ·rw [(I.ok p q hp hq ((cls_iff hn I.sym).1 e)).1] at k; cases k
   ·have h1 := nodup_le (m := reps.map (clsOf d n)) (pairwise_nodup hpw) (fun v hv => by
     simp only [List.mem_map] at hv ⊢
     obtain ⟨p, hp, rfl⟩ := hv
     have hp' := hps p hp
     obtain ⟨r, hr, k⟩ := I.cover p hp' ((hc p hp').resolve_right (by simp))
     exact ⟨r, hr, ((cls_iff hn I.sym).2 k).symm⟩)
    simp [bigB] at hb
    rw [List.length_map, List.length_map] at h1
    have := hb hl
    omega
  ·rw [putM_big hb] at h; cases h
 | p :: rest, P, d, reps, I, hc, ho, hnd, h => by
  have hp := ho p List.mem_cons_self
  have hnd' := List.nodup_cons.1 hnd
  rcases hb : bigB c reps with _ | _
  ·rw [putM_cons hb] at h
   refine tryM_none hn hp.1 hp.2 (fun d' reps' I' h' => putM_none hn rest _ d' reps' I' (fun a ha => ?_) (fun a ha => ?_) hnd'.2 h') reps [] d rfl I (by simp) h
   ·rcases hc a ha with k | k
    ·exact .inl (.inl k)
    ·rcases List.mem_cons.1 k with rfl | k
     ·exact .inl (.inr rfl)
     ·exact .inr k
   ·refine ⟨(ho a (List.mem_cons_of_mem _ ha)).1, fun k => ?_⟩
    rcases k with k | rfl
    ·exact (ho a (List.mem_cons_of_mem _ ha)).2 k
    ·exact hnd'.1 ha
  ·rw [putM_big hb] at h; cases h
/-- the leaf of too many classes is right -/
theorem many_right (hn : n ≤ 8) (hl : 0 ≤ c.limit) (I : Inv c d n P reps) (hb : bigB c reps = true) : leafB c d n (brMany (reps.take (c.limit.toNat + 1))) = true := by
 simp [bigB] at hb
 have hR : ∀ r ∈ reps.take (c.limit.toNat + 1), r < n := fun r hr => (I.repIn r (List.mem_of_mem_take hr)).1
 have hpw : (reps.take (c.limit.toNat + 1)).Pairwise (fun r s => Opp c d n r s) := I.opp.sublist (List.take_sublist _ _)
 have hlen : (reps.take (c.limit.toNat + 1)).length = c.limit.toNat + 1 := by rw [List.length_take]; omega
 generalize reps.take (c.limit.toNat + 1) = R at *
 have hnd : R.Nodup := hpw.imp (fun h => I.distinct h)
 have hop : ∀ a ∈ R, ∀ b ∈ R, a ≠ b → Opp c d n a b := by
  intro a ha b hb hne
  obtain ⟨i, hi, rfl⟩ := List.getElem_of_mem ha
  obtain ⟨j, hj, rfl⟩ := List.getElem_of_mem hb
  rw [List.pairwise_iff_getElem] at hpw
  rcases Nat.lt_trichotomy i j with h | rfl | h
  ·exact hpw i j hi hj h
  ·exact absurd rfl hne
  ·exact (hpw j i hj hi h).symm I.sym
 have hperm : (sortL (natInts R)).Perm (natInts R) := List.mergeSort_perm _ _
 have hsort : (sortL (natInts R)).Pairwise (fun a b => a ≤ b) := by
  have := List.pairwise_mergeSort (le := fun x y : Int => decide (x ≤ y)) (fun a b c h1 h2 => by simp at *; omega) (fun a b => by simp; omega) (natInts R)
  exact this.imp (fun h => by simpa using h)
 have hndI : (natInts R).Nodup := by
  rw [List.Nodup, natInts, List.pairwise_map]
  exact hnd.imp (fun h e => h (by omega))
 have hndS : (sortL (natInts R)).Nodup := hperm.nodup_iff.2 hndI
 have hmem : ∀ v ∈ sortL (natInts R), ∃ r ∈ R, v = (r : Int) := fun v hv => by
  have := hperm.mem_iff.1 hv
  simp only [natInts, List.mem_map] at this
  obtain ⟨r, hr, rfl⟩ := this
  exact ⟨r, hr, rfl⟩
 have hlenS : (sortL (natInts R)).length = c.limit.toNat + 1 := by rw [hperm.length_eq]; simp [natInts, hlen]
 generalize hS : sortL (natInts R) = S at *
 have e : brMany R = ⟨4, 0, 0, S⟩ := by rw [brMany, hS]
 rw [e]
 rw [show leafB c d n ⟨4, 0, 0, S⟩ = manyB c d n 0 0 S from rfl]
 simp only [manyB, manyHead, Bool.and_eq_true]
 refine ⟨by simp [hlenS]; omega, ?_⟩
 rw [upto_iff]
 intro i hi
 obtain ⟨r, hr, er⟩ := hmem S[i] (List.getElem_mem hi)
 simp only [manyAt, Bool.and_eq_true, List.getElem?_eq_getElem hi, Option.getD_some]
 have hrn := hR r hr
 refine ⟨⟨by simp [inB, er]; omega, ?_⟩, ?_⟩
 ·rcases i with _ | i
  ·rfl
  ·simp only [Nat.add_sub_cancel]
   rw [List.getElem?_eq_getElem (by omega), Option.getD_some]
   rw [List.pairwise_iff_getElem] at hsort
   have h1 := hsort i (i + 1) (by omega) hi (by omega)
   have h2 : S[i]'(by omega) ≠ S[i + 1] := by
    have := hndS
    rw [List.Nodup, List.pairwise_iff_getElem] at this
    exact this i (i + 1) (by omega) hi (by omega)
   simp; omega
 ·rw [upto_iff]
  intro j hj
  rw [List.getElem?_eq_getElem (by omega), Option.getD_some]
  obtain ⟨s, hs, es⟩ := hmem (S[j]'(by omega)) (List.getElem_mem _)
  rw [er, es, Int.toNat_natCast, Int.toNat_natCast]
  refine (opp_iff hn I.sym).2 (hop s hs r hr ?_)
  rintro rfl
  have := hndS
  rw [List.Nodup, List.pairwise_iff_getElem] at this
  exact this j i (by omega) hi hj (es.trans er.symm)
/-- a list is read off to its end -/
def Reads (c : Cs) (n : Nat) (d : Dec) (l : List Br) : Prop := ∀ rest k, l.length < k → ∃ ev, walkM c n k d (l ++ rest) = some (rest, ev)
theorem reads_leaf {x : Br} (h : leafB c d n x = true) (hk : x.kind ≠ 1) : Reads c n d [x] := fun rest k hlt => by
 obtain ⟨k, rfl⟩ := Nat.exists_eq_add_of_le (show 1 ≤ k by simp at hlt; omega)
 refine ⟨[(d, x)], ?_⟩
 rw [Nat.add_comm]
 simp [walkM, hk, h]
theorem reads_split {p q : Nat} {a b : List Br} (hp : p < n) (hq : q < n) (hne : q ≠ p) (ha : Reads c n (decWith d q p 1) a) (hb : Reads c n (decWith d q p 2) b) : Reads c n d (brSplit q p :: (a ++ b)) := fun rest k hlt => by
 obtain ⟨k, rfl⟩ := Nat.exists_eq_add_of_le (show 1 ≤ k by simp at hlt; omega)
 simp at hlt
 obtain ⟨e1, h1⟩ := ha (b ++ rest) k (by omega)
 obtain ⟨e2, h2⟩ := hb rest k (by omega)
 refine ⟨e1 ++ e2, ?_⟩
 have hsp : splitB n (brSplit q p) = true := by
  simp [splitB, brSplit, inB]
  omega
 rw [Nat.add_comm]
 simp only [List.cons_append, List.append_assoc, walkM, hsp, if_true, show (brSplit q p).kind = 1 from rfl, show (brSplit q p).a.toNat = q from rfl, show (brSplit q p).b.toNat = p from rfl, h1, h2]
theorem tryM_reads {f : Dec → List Nat → Option (List Br)} {p : Nat} (hn : n ≤ 8) (hp : p < n) (hpP : ¬ P p) {reps : List Nat}
  (hf : ∀ d' reps' l, Inv c d' n (fun a => P a ∨ a = p) reps' → f d' reps' = some l → Reads c n d' l) :
  ∀ (left seen : List Nat) (d : Dec) (l : List Br), reps = seen ++ left → Inv c d n P reps → (∀ q ∈ seen, Opp c d n q p) → tryM c n f p reps left d = some l → Reads c n d l
 | [], seen, d, l, hr, I, ho, h => hf d _ l (I.push hp (by rw [hr, List.append_nil]; exact ho)) h
 | q :: left, seen, d, l, hr, I, ho, h => by
  have hq : q ∈ reps := by rw [hr]; simp
  have hr' : reps = (seen ++ [q]) ++ left := by rw [hr]; simp
  simp only [tryM] at h
  split at h
  ·rename_i hopp
   refine tryM_reads hn hp hpP hf left (seen ++ [q]) d l hr' I (fun r hr => ?_) h
   rcases List.mem_append.1 hr with hr | hr
   ·exact ho r hr
   ·rw [List.mem_singleton.1 hr]; exact (opp_iff hn I.sym).1 hopp
  ·rename_i hopp
   have hno : ¬ Opp c d n q p := fun e => hopp ((opp_iff hn I.sym).2 e)
   rcases h1 : f (decWith d q p 1) reps with _ | a
   ·simp [h1] at h
   ·simp only [h1] at h
    rcases h2 : tryM c n f p reps left (decWith d q p 2) with _ | b
    ·simp [h2] at h
    ·simp only [h2, Option.some.injEq] at h
     subst h
     have hqn := I.repIn q hq
     refine reads_split hp hqn.1 (fun e => hpP (e ▸ hqn.2)) (hf _ _ a (I.together hp hpP hq hno) h1) ?_
     exact tryM_reads hn hp hpP hf left (seen ++ [q]) (decWith d q p 2) b hr' (I.apart hp hpP hq) (fun r hr => by
      rcases List.mem_append.1 hr with hr | hr
      ·exact (ho r hr).mono (mono1 I.sym q p 2 1) (mono1 I.sym q p 2 2)
      ·rw [List.mem_singleton.1 hr]
       exact ⟨q, p, (I.repIn q hq).1, hp, .refl _, .refl _, .inr ((decWith_bit I.sym q p 2 2 q p).2 (.inr ⟨.inl ⟨rfl, rfl⟩, by decide⟩))⟩) h2
theorem putM_reads (hn : n ≤ 8) (hl : 0 ≤ c.limit) : ∀ (order : List Nat) (P : Nat → Prop) (d : Dec) (reps : List Nat) (l : List Br), Inv c d n P reps → (∀ a ∈ order, a < n ∧ ¬ P a) → order.Nodup →
  putM c n order d reps = some l → Reads c n d l
 | order, P, d, reps, l, I, ho, hnd, h => by
  rcases hb : bigB c reps with _ | _
  ·match order, ho, hnd, h with
   | [], _, _, h => rw [putM_nil hb] at h; cases h
   | p :: rest, ho, hnd, h =>
    have hp := ho p List.mem_cons_self
    have hnd' := List.nodup_cons.1 hnd
    rw [putM_cons hb] at h
    refine tryM_reads hn hp.1 hp.2 (fun d' reps' l' I' h' => putM_reads hn hl rest _ d' reps' l' I' (fun a ha => ?_) hnd'.2 h') reps [] d l rfl I (by simp) h
    refine ⟨(ho a (List.mem_cons_of_mem _ ha)).1, fun k => ?_⟩
    rcases k with k | rfl
    ·exact (ho a (List.mem_cons_of_mem _ ha)).2 k
    ·exact hnd'.1 ha
  ·rw [putM_big hb] at h
   cases h
   exact reads_leaf (many_right hn hl I hb) (by simp [brMany])
termination_by order => order.length
end
end Go.Proofs.YtpjcnkajimgagaaGreat
namespace Go.Proofs.YtpjcnkajimgagaaGreat
open Go.RowKit

theorem nth_eq {x : List Nat} {a b : Nat} (ha : a < x.length) (hb : b < x.length) : (x[a]? == x[b]?) = (nth x a == nth x b) := by
 unfold nth
 rw [List.getElem?_eq_getElem ha, List.getElem?_eq_getElem hb]
 simp
theorem find_no {c : Cs} {x y : Nat} {t : Bool} (hx : x < c.parts.length) (hy : y < c.parts.length) (h : (allR c).find? (asPair x y t) = none) {z : Nat → Nat} (A : Agr (beginD x y t) c.parts.length z) (G : GoodZ c c.parts.length z) : False := by
 obtain ⟨r, hr, hi⟩ := G.reas
 rw [List.find?_eq_none] at h
 refine h r (mem_allR.2 hr) ?_
 rw [asPair, nth_eq (by rw [hr.len]; exact hx) (by rw [hr.len]; exact hy)]
 cases t
 ·have := A.two x y hx hy ((decWith_bit zero_sym x y 2 2 x y).2 (.inr ⟨.inl ⟨rfl, rfl⟩, by decide⟩))
  simp
  exact fun e => this ((hi x y hx hy).1 e)
 ·have := A.one x y hx hy ((decWith_bit zero_sym x y 1 1 x y).2 (.inr ⟨.inl ⟨rfl, rfl⟩, by decide⟩))
  simp
  exact (hi x y hx hy).2 this
theorem reads_ok {c : Cs} {n : Nat} {d : Dec} {l : List Br} (h : Reads c n d l) (hl : l.length ≤ 20000) : (refutedB c n d l).isSome = true := by
 obtain ⟨ev, h⟩ := h [] (l.length + 1) (by omega)
 rw [List.append_nil] at h
 unfold refutedB
 rw [if_neg (by omega), h]
 rfl
theorem begin_inv {c : Cs} {x y : Nat} {t : Bool} (hx : x < c.parts.length) (hy : y < c.parts.length) (h1 : (t && clashB c x y) = false) (h2 : (!t && x == y) = false) :
  Inv c (beginD x y t) c.parts.length (fun a => a = x ∨ (t = true ∧ a = y)) [x] := by
 have bit : ∀ m a b, beginD x y t a b &&& m ≠ 0 → ((a = x ∧ b = y) ∨ (a = y ∧ b = x)) ∧ (if t then 1 else 2) &&& m ≠ 0 := fun m a b h => by
  rcases (decWith_bit zero_sym x y (if t then 1 else 2) m a b).1 h with h | h
  ·exact absurd (Nat.zero_and m) h
  ·exact h
 have hs := begin_sym x y t
 cases t
 ·have hne : x ≠ y := by simpa using h2
  have no1 : ∀ a b, beginD x y false a b &&& 1 = 0 := fun a b => by
   by_cases k : beginD x y false a b &&& 1 = 0
   ·exact k
   ·exact absurd rfl (bit 1 a b k).2
  refine ⟨hs, fun a => ?_, fun r hr => ?_, fun a ha k => ?_, by simp, fun a b ha hb k => ?_, fun a _ _ b => no1 a b⟩
  ·by_cases k : beginD x y false a a &&& 2 = 0
   ·exact k
   ·rcases (bit 2 a a k).1 with ⟨e1, e2⟩ | ⟨e1, e2⟩
    ·exact absurd (e1.symm.trans e2) hne
    ·exact absurd (e2.symm.trans e1) hne
  ·rw [List.mem_singleton.1 hr]; exact ⟨hx, .inl rfl⟩
  ·rcases k with rfl | ⟨h, _⟩
   ·exact ⟨a, by simp, .refl _⟩
   ·cases h
  ·have e := conn_lone (no1 a) k
   subst e
   refine ⟨?_, ?_⟩
   ·rcases hc : clashB c b b with _ | _
    ·rfl
    ·exact absurd rfl (clashB_ne hc)
   ·by_cases k : beginD x y false b b &&& 2 = 0
    ·exact k
    ·rcases (bit 2 b b k).1 with ⟨e1, e2⟩ | ⟨e1, e2⟩
     ·exact absurd (e1.symm.trans e2) hne
     ·exact absurd (e2.symm.trans e1) hne
 ·have hcl : clashB c x y = false := by simpa using h1
  have no2 : ∀ a b, beginD x y true a b &&& 2 = 0 := fun a b => by
   by_cases k : beginD x y true a b &&& 2 = 0
   ·exact k
   ·exact absurd rfl (bit 2 a b k).2
  have hed : EdgeB (beginD x y true) c.parts.length y x := ⟨hy, hx, (decWith_bit zero_sym x y 1 1 y x).2 (.inr ⟨.inr ⟨rfl, rfl⟩, by decide⟩)⟩
  have con : ∀ {a b}, Conn (beginD x y true) c.parts.length a b → a = b ∨ (a = x ∧ b = y) ∨ (a = y ∧ b = x) := by
   intro a b k
   induction k with
   | refl => exact .inl rfl
   | step e _ ih =>
    rcases (bit 1 _ _ e.2.2).1 with ⟨rfl, rfl⟩ | ⟨rfl, rfl⟩
    ·rcases ih with rfl | ⟨rfl, rfl⟩ | ⟨_, rfl⟩
     ·exact .inr (.inl ⟨rfl, rfl⟩)
     ·exact .inl rfl
     ·exact .inl rfl
    ·rcases ih with rfl | ⟨_, rfl⟩ | ⟨rfl, rfl⟩
     ·exact .inr (.inr ⟨rfl, rfl⟩)
     ·exact .inl rfl
     ·exact .inl rfl
  refine ⟨hs, fun a => no2 a a, fun r hr => ?_, fun a ha k => ?_, by simp, fun a b ha hb k => ⟨?_, no2 a b⟩, fun a ha k b => ?_⟩
  ·rw [List.mem_singleton.1 hr]; exact ⟨hx, .inl rfl⟩
  ·rcases k with rfl | ⟨_, rfl⟩
   ·exact ⟨a, by simp, .refl _⟩
   ·exact ⟨x, by simp, .one hed⟩
  ·rcases con k with rfl | ⟨rfl, rfl⟩ | ⟨rfl, rfl⟩
   ·rcases hc : clashB c a a with _ | _
    ·rfl
    ·exact absurd rfl (clashB_ne hc)
   ·exact hcl
   ·rw [clashB_sym]; exact hcl
  ·by_cases e : beginD x y true a b &&& 1 = 0
   ·exact e
   ·rcases (bit 1 a b e).1 with ⟨rfl, _⟩ | ⟨rfl, _⟩
    ·exact absurd (.inl rfl) k
    ·exact absurd (.inr ⟨rfl, rfl⟩) k
theorem ordTail (x y : Nat) (t : Bool) (n : Nat) : ordTo x y t n = x :: (List.range n).filter fun p => p != x && (p != y || !t) := rfl
theorem begin_split {c : Cs} {n x y : Nat} {t : Bool} : putM c n (ordTo x y t n) (beginD x y t) [] = putM c n ((List.range n).filter fun p => p != x && (p != y || !t)) (beginD x y t) [x] := by
 rw [ordTail, putM_cons (by simp [bigB]; omega)]
 rfl
/-- where no reassembly has two parts so, Refute finds a refutation, and it is accepted -/
theorem refute_law {c : Cs} {x y : Nat} {t : Bool} (hn : c.parts.length ≤ 8) (hl : 0 ≤ c.limit) (hx : x < c.parts.length) (hy : y < c.parts.length) (h : (allR c).find? (asPair x y t) = none) :
  ∃ l, refuteR c x y t = some l ∧ (refutedB c c.parts.length (beginD x y t) l).isSome = true := by
 unfold refuteR
 rcases h1 : (t && clashB c x y) with _ | _
 ·rcases h2 : (!t && x == y) with _ | _
  ·rw [if_neg (by simp), if_neg (by simp)]
   have I := begin_inv hx hy h1 h2
   have ho : ∀ a ∈ ((List.range c.parts.length).filter fun p => p != x && (p != y || !t)), a < c.parts.length ∧ ¬ (a = x ∨ (t = true ∧ a = y)) := by
    intro a ha
    simp only [List.mem_filter, List.mem_range, Bool.and_eq_true, bne_iff_ne, Bool.or_eq_true, Bool.not_eq_true'] at ha
    refine ⟨ha.1, fun k => ?_⟩
    rcases k with k | ⟨k1, k2⟩
    ·exact ha.2.1 k
    ·rcases ha.2.2 with k | k
     ·exact k k2
     ·rw [k1] at k; cases k
   have hnd : ((List.range c.parts.length).filter fun p => p != x && (p != y || !t)).Nodup := List.nodup_range.filter _
   rcases hp : putM c c.parts.length (ordTo x y t c.parts.length) (beginD x y t) [] with _ | l
   ·rw [begin_split] at hp
    obtain ⟨z, A, G⟩ := putM_none hn _ _ _ _ I (fun a ha => by
     by_cases k : a = x ∨ (t = true ∧ a = y)
     ·exact .inl k
     ·refine .inr ?_
      simp only [List.mem_filter, List.mem_range, Bool.and_eq_true, bne_iff_ne, Bool.or_eq_true, Bool.not_eq_true']
      refine ⟨ha, fun e => k (.inl e), ?_⟩
      cases t
      ·exact .inr rfl
      ·exact .inl fun e => k (.inr ⟨rfl, e⟩)) ho hnd hp
    exact (find_no hx hy h A G).elim
   ·refine ⟨l, rfl, reads_ok ?_ ?_⟩
    ·rw [begin_split] at hp
     exact putM_reads hn hl _ _ _ _ _ I ho hnd hp
    ·have h3 := putM_len _ _ _ _ hp
     have h4 := ordTo_len' (y := y) (t := t) hx
     have h5 := bnd_le (m := 0) (show (ordTo x y t c.parts.length).length ≤ 8 by omega)
     have h6 := bnd_eight
     simp only [List.length_nil] at h3
     omega
  ·rw [if_neg (by simp), if_pos rfl]
   refine ⟨_, rfl, reads_ok (reads_leaf ?_ (by simp)) (by simp)⟩
   simp only [Bool.and_eq_true, Bool.not_eq_true', beq_iff_eq] at h2
   obtain ⟨rfl, rfl⟩ := h2
   have hb : beginD x x false x x &&& 2 ≠ 0 := (decWith_bit zero_sym x x 2 2 x x).2 (.inr ⟨.inl ⟨rfl, rfl⟩, by decide⟩)
   rw [show leafB c (beginD x x false) c.parts.length ⟨3, (x : Int), (x : Int), []⟩ = partedB (beginD x x false) c.parts.length x x [] from rfl]
   simp [partedB, sameB, inB, apartB]
   exact ⟨by omega, hb⟩
 ·rw [if_pos rfl]
  refine ⟨_, rfl, reads_ok (reads_leaf ?_ (by simp)) (by simp)⟩
  simp only [Bool.and_eq_true] at h1
  obtain ⟨rfl, hc⟩ := h1
  have hcls : clsOf (beginD x y true) c.parts.length x = clsOf (beginD x y true) c.parts.length y :=
   (cls_iff hn (begin_sym x y true)).2 (.one ⟨hx, hy, (decWith_bit zero_sym x y 1 1 x y).2 (.inr ⟨.inl ⟨rfl, rfl⟩, by decide⟩)⟩)
  rw [show leafB c (beginD x y true) c.parts.length ⟨2, (x : Int), (y : Int), []⟩ = clashesB c (beginD x y true) c.parts.length x y [] from rfl]
  simp [clashesB, sameB, inB, hcls, hc]
  omega
theorem zero_inv (c : Cs) (n : Nat) : Inv c (fun _ _ => 0) n (fun _ => False) [] := by
 have hz : ∀ m a b : Nat, (0 : Nat) &&& m = 0 := fun m _ _ => Nat.zero_and m
 refine ⟨zero_sym, fun _ => rfl, by simp, fun _ _ k => k.elim, by simp, fun a b ha hb k => ?_, fun _ _ _ _ => rfl⟩
 have e := conn_lone (fun _ => rfl) k
 subst e
 refine ⟨?_, rfl⟩
 rcases hc : clashB c b b with _ | _
 ·rfl
 ·exact absurd rfl (clashB_ne hc)
/-- where there is no reassembly, None finds a refutation of all, and it is accepted -/
theorem none_law {c : Cs} (hn : c.parts.length ≤ 8) (hl : 0 ≤ c.limit) (h : allR c = []) : ∃ l, putM c c.parts.length (List.range c.parts.length) (fun _ _ => 0) [] = some l ∧ (refutedB c c.parts.length (fun _ _ => 0) l).isSome = true := by
 have ho : ∀ a ∈ List.range c.parts.length, a < c.parts.length ∧ ¬ False := fun a ha => ⟨List.mem_range.1 ha, id⟩
 rcases hp : putM c c.parts.length (List.range c.parts.length) (fun _ _ => 0) [] with _ | l
 ·obtain ⟨z, _, G⟩ := putM_none hn _ _ _ _ (zero_inv c _) (fun a ha => .inr (List.mem_range.2 ha)) ho List.nodup_range hp
  obtain ⟨r, hr, _⟩ := G.reas
  have := mem_allR.2 hr
  rw [h] at this; simp at this
 ·refine ⟨l, rfl, reads_ok (putM_reads hn hl _ _ _ _ _ (zero_inv c _) ho List.nodup_range hp) ?_⟩
  have h3 := putM_len _ _ _ _ hp
  rw [List.length_range] at h3
  have h5 := bnd_le (m := 0) hn
  have h6 := bnd_eight
  simp only [List.length_nil] at h3
  omega
/-- what is accepted holds: no reassembly has the parts so -/
theorem check_law {c : Cs} {x y : Nat} {t : Bool} {l : List Br} (hn : c.parts.length ≤ 8) (hl : 0 ≤ c.limit) (hx : x < c.parts.length) (hy : y < c.parts.length) (h : (refutedB c c.parts.length (beginD x y t) l).isSome = true) : ∀ r ∈ allR c, asPair x y t r = false := by
 intro r hr
 have hr' := mem_allR.1 hr
 rcases hp : asPair x y t r with _ | _
 ·rfl
 ·rw [asPair, nth_eq (by rw [hr'.len]; exact hx) (by rw [hr'.len]; exact hy), beq_iff_eq] at hp
  have := refuted_sound hn hl hr'.good (begin_sym x y t) (begin_agr (z := fun a => r[a]?.getD 0) hp) (l := l)
  rw [h] at this; cases this
theorem checkNone_law {c : Cs} {l : List Br} (hn : c.parts.length ≤ 8) (hl : 0 ≤ c.limit) (h : (refutedB c c.parts.length (fun _ _ => 0) l).isSome = true) : allR c = [] := by
 rcases hr : allR c with _ | ⟨r, _⟩
 ·rfl
 ·have hr' := mem_allR.1 (show r ∈ allR c by rw [hr]; simp)
  have := refuted_sound hn hl hr'.good zero_sym (zero_agr _ _) (l := l)
  rw [h] at this; cases this
end Go.Proofs.YtpjcnkajimgagaaGreat
namespace Go.Proofs.YtpjcnkajimgagaaGreat
open Go.RowKit

theorem brSplit_small (q p : Nat) : (brSplit q p).Small := ⟨by simp [brSplit], by simp [brSplit]⟩
theorem brMany_small {c : Cs} (hl : c.limit ≤ 40) (reps : List Nat) : (brMany (reps.take (c.limit.toNat + 1))).Small := by
 refine ⟨by simp [brMany], ?_⟩
 simp only [brMany, sortL, List.length_mergeSort]
 simp [natInts]
 omega
theorem tryM_small {c : Cs} {n : Nat} {f : Dec → List Nat → Option (List Br)} {p : Nat} {reps : List Nat} (hf : ∀ d l x, f d l = some x → ∀ z ∈ x, z.Small) : ∀ (left : List Nat) (d : Dec) (x : List Br), tryM c n f p reps left d = some x → ∀ z ∈ x, z.Small
 | [], d, x, h => hf d _ x h
 | q :: left, d, x, h => by
  simp only [tryM] at h
  split at h
  ·exact tryM_small hf left d x h
  ·split at h
   ·cases h
   ·rename_i a ha
    split at h
    ·cases h
    ·rename_i b hb
     cases h
     intro z hz
     rcases List.mem_cons.1 hz with rfl | hz
     ·exact brSplit_small _ _
     ·rcases List.mem_append.1 hz with hz | hz
      ·exact hf _ _ a ha z hz
      ·exact tryM_small hf left _ b hb z hz
theorem putM_small {c : Cs} {n : Nat} (hl : c.limit ≤ 40) : ∀ (order : List Nat) (d : Dec) (reps : List Nat) (x : List Br), putM c n order d reps = some x → ∀ z ∈ x, z.Small
 | [], d, reps, x, h => by
  simp only [putM] at h
  split at h
  ·cases h
   intro z hz
   rw [List.mem_singleton.1 hz]
   exact brMany_small hl _
  ·cases h
 | p :: rest, d, reps, x, h => by
  simp only [putM] at h
  split at h
  ·cases h
   intro z hz
   rw [List.mem_singleton.1 hz]
   exact brMany_small hl _
  ·exact tryM_small (fun d l x h => putM_small hl rest d l x h) reps d x h
theorem refuteR_small {c : Cs} {x y : Nat} {t : Bool} (hn : c.parts.length ≤ 8) (hl : c.limit ≤ 40) (hx : x < c.parts.length) {l : List Br} (h : refuteR c x y t = some l) : (∀ z ∈ l, z.Small) ∧ l.length ≤ 20000 := by
 unfold refuteR at h
 split at h
 ·cases h
  refine ⟨fun z hz => ?_, by simp⟩
  rw [List.mem_singleton.1 hz]
  exact ⟨by simp, by simp⟩
 ·split at h
  ·cases h
   refine ⟨fun z hz => ?_, by simp⟩
   rw [List.mem_singleton.1 hz]
   exact ⟨by simp, by simp⟩
  ·refine ⟨putM_small hl _ _ _ _ h, ?_⟩
   have h3 := putM_len _ _ _ _ h
   have h4 := ordTo_len' (y := y) (t := t) hx
   have h5 := bnd_le (m := 0) (show (ordTo x y t c.parts.length).length ≤ 8 by omega)
   have h6 := bnd_eight
   simp only [List.length_nil] at h3
   omega
end Go.Proofs.YtpjcnkajimgagaaGreat
