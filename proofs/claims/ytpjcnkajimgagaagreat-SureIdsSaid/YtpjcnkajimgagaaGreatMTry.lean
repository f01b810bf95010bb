/- What refute computes: the tree of decisions, in plain lists; how long it can be. No program. -/
/- What stands in memory while refute works: its list in the making, and what stays. No condition. -/
/- refute: a part is held against the classes that are there (refute$1$1). -/
import Derived.Test.YtpjcnkajimgagaaGreatMWalk
import Derived.Test.YtpjcnkajimgagaaGreatMUniq
import Derived.Test.YtpjcnkajimgagaaGreatMHeld
set_option linter.unusedSimpArgs false
set_option linter.unusedVariables false
namespace Go.Proofs.YtpjcnkajimgagaaGreat
open Go.RowKit

def brSplit (a b : Nat) : Br := ⟨1, (a : Int), (b : Int), []⟩
def brMany (l : List Nat) : Br := ⟨4, 0, 0, sortL (natInts l)⟩
/-- more classes than the Limit lets in -/
def bigB (c : Cs) (reps : List Nat) : Bool := decide (0 < c.limit ∧ c.limit < (reps.length : Int))
/-- a part is held against the classes that are there, one after the other -/
def tryM (c : Cs) (n : Nat) (f : Dec → List Nat → Option (List Br)) (p : Nat) (reps : List Nat) : List Nat → Dec → Option (List Br)
 | [], d => f d (reps ++ [p])
 | q :: left, d => if oppB c d n q p then tryM c n f p reps left d else
   match f (decWith d q p 1) reps with
   | none => none
   | some a => match tryM c n f p reps left (decWith d q p 2) with
    | none => none
    | some b => some (brSplit q p :: (a ++ b))
/-- the parts are put to classes, one after the other -/
def putM (c : Cs) (n : Nat) : List Nat → Dec → List Nat → Option (List Br)
 | [], _, reps => if bigB c reps then some [brMany (reps.take (c.limit.toNat + 1))] else none
 | p :: rest, d, reps => if bigB c reps then some [brMany (reps.take (c.limit.toNat + 1))] else tryM c n (putM c n rest) p reps reps d

/-- how long it can be: r parts to come, m classes -/
def bnd : Nat → Nat → Nat
 | 0, _ => 1
 | r + 1, m => m * (1 + bnd r m) + bnd r (m + 1)
theorem bnd_pos : ∀ r m, 1 ≤ bnd r m
 | 0, _ => Nat.le_refl _
 | r + 1, m => Nat.le_trans (bnd_pos r (m + 1)) (Nat.le_add_left _ _)
theorem bnd_mono : ∀ (r m m' : Nat), m ≤ m' → bnd r m ≤ bnd r m'
 | 0, _, _, _ => Nat.le_refl _
 | r + 1, m, m', h => Nat.add_le_add (Nat.mul_le_mul h (Nat.add_le_add_left (bnd_mono r m m' h) 1)) (bnd_mono r _ _ (by omega))
theorem bnd_eight : bnd 8 0 ≤ 8279 := by decide
theorem bnd_less : ∀ (r m : Nat), bnd r m ≤ bnd (r + 1) m := fun r m => by
 show bnd r m ≤ m * (1 + bnd r m) + bnd r (m + 1)
 exact Nat.le_trans (bnd_mono r m (m + 1) (by omega)) (Nat.le_add_left _ _)
theorem bnd_le {r r' m : Nat} (h : r ≤ r') : bnd r m ≤ bnd r' m := by
 obtain ⟨d, rfl⟩ := Nat.exists_eq_add_of_le h
 induction d with
 | zero => exact Nat.le_refl _
 | succ d ih => exact Nat.le_trans (ih (by omega)) (bnd_less _ _)
theorem tryM_len {c : Cs} {n : Nat} {f : Dec → List Nat → Option (List Br)} {p : Nat} {reps : List Nat} {N : Nat → Nat} (hf : ∀ d l x, f d l = some x → x.length ≤ N l.length) :
  ∀ (left : List Nat) (d : Dec) (x : List Br), tryM c n f p reps left d = some x → x.length ≤ left.length * (1 + N reps.length) + N (reps.length + 1)
 | [], d, x, h => by
  have := hf d _ x h
  simpa using this
 | q :: left, d, x, h => by
  have ih := tryM_len (c := c) (n := n) (p := p) (reps := reps) hf left
  simp only [tryM] at h
  simp only [List.length_cons, Nat.succ_mul]
  split at h
  ·have := ih d x h; omega
  ·split at h
   ·cases h
   ·rename_i a ha
    split at h
    ·cases h
    ·rename_i b hb
     cases h
     have h1 := hf _ _ _ ha
     have h2 := ih _ _ hb
     simp only [List.length_cons, List.length_append]
     omega
theorem putM_len {c : Cs} {n : Nat} : ∀ (rest : List Nat) (d : Dec) (reps : List Nat) (x : List Br), putM c n rest d reps = some x → x.length ≤ bnd rest.length reps.length
 | [], d, reps, x, h => by
  simp only [putM] at h
  split at h
  ·cases h; exact Nat.le_refl _
  ·cases h
 | p :: rest, d, reps, x, h => by
  simp only [putM] at h
  split at h
  ·cases h; exact bnd_pos _ _
  ·exact tryM_len (N := bnd rest.length) (fun d l x h => putM_len rest d l x h) reps d x h
theorem putM_big {c : Cs} {n : Nat} {rest : List Nat} {d : Dec} {reps : List Nat} (h : bigB c reps = true) : putM c n rest d reps = some [brMany (reps.take (c.limit.toNat + 1))] := by
 cases rest <;> simp [putM, h]
theorem putM_nil {c : Cs} {n : Nat} {d : Dec} {reps : List Nat} (h : bigB c reps = false) : putM c n [] d reps = none := by simp [putM, h]
theorem putM_cons {c : Cs} {n p : Nat} {rest : List Nat} {d : Dec} {reps : List Nat} (h : bigB c reps = false) : putM c n (p :: rest) d reps = tryM c n (putM c n rest) p reps reps d := by simp [putM, h]
end Go.Proofs.YtpjcnkajimgagaaGreat
namespace Go.Proofs.YtpjcnkajimgagaaGreat
open Go.RowKit
attribute [local go_sem] Oper.semAt_some

/-- a branch and where its list lies -/
abbrev BrM := Br × Option Addr × Nat
def brRow (z : BrM) : List Value := [.int .u8 (z.1.kind : Nat), .int .i64 z.1.a, .int .i64 z.1.b, .slice z.2.1 z.1.many.length z.2.2]
theorem brRows_len (l : List BrM) : (l.flatMap brRow).length = l.length * 4 := by
 induction l with
 | nil => rfl
 | cons z l ih => rw [List.flatMap_cons, List.length_append, ih, List.length_cons]; simp [brRow]; omega
theorem brRow_one (z : BrM) : ∀ u ∈ brRow z, u.oneCell' = true := by
 intro u hu
 simp only [brRow, List.mem_cons, List.not_mem_nil, or_false] at hu
 rcases hu with rfl | rfl | rfl | rfl <;> rfl
theorem info_br : (Tryz.prog.info? 69).map (fun i => (i.zero, i.size, i.bytes)) = some (some (.agg #[.int .u8 0, .int .i64 0, .int .i64 0, .slice none 0 0]), 4, 48) := by kernel_rfl
/-- the list's variable is at ob -/
def OutV (B ob : Nat) (W : World) (v : Value) (l : List Br) : Prop :=
 ∃ zs : List BrM, zs.map (·.1) = l ∧ Box W ob #[v] 37 ∧ W.ownsRow B 69 4 v l.length (zs.flatMap brRow) ∧
  ∀ z ∈ zs, Ints W z.2.1 z.1.many ∧ z.1.many.length ≤ z.2.2 ∧ ∀ b o, z.2.1 = some ⟨b, o, none⟩ → 0 < z.1.many.length → B ≤ b ∧ v.ownBlock ≠ some b
/-- a block that the list's variable points to -/
def OutBlk (ob : Nat) (W : World) (k : Nat) : Prop := ∃ v, Box W ob #[v] 37 ∧ v.ownBlock = some k
/-- what a part of the work leaves -/
def RfKeep (ob : Nat) (W W' : World) : Prop := Keep (fun k => k ≠ ob ∧ ¬ OutBlk ob W k) W W' ∧ ∀ k, OutBlk ob W' k → OutBlk ob W k ∨ W.heap.size ≤ k
theorem box_eq {A : World} {b : Nat} {v u : Value} {t : TypeId} (h : Box A b #[v] t) (h' : Box A b #[u] t) : v = u := by
 unfold Box at h h'
 rw [h] at h'
 simpa using h'
theorem RfKeep.trans {ob : Nat} {A B C : World} (h : RfKeep ob A B) (k : RfKeep ob B C) : RfKeep ob A C := by
 obtain ⟨h1, h2⟩ := h
 obtain ⟨k1, k2⟩ := k
 refine ⟨⟨k1.os.trans h1.os, k1.tape.trans h1.tape, k1.output.trans h1.output, Nat.le_trans h1.size k1.size, fun i hi hl => ?_⟩, fun i hi => ?_⟩
 ·refine (k1.block i ⟨hi.1, fun hb => ?_⟩ (Nat.lt_of_lt_of_le hl h1.size)).trans (h1.block i hi hl)
  rcases h2 i hb with h | h
  ·exact hi.2 h
  ·omega
 ·rcases k2 i hi with h | h
  ·exact h2 i h
  ·exact .inr (Nat.le_trans h1.size h)
theorem RfKeep.of_below {ob : Nat} {W W' : World} {v : Value} (hv : Box W ob #[v] 37) (h : Below W.heap.size W W') : RfKeep ob W W' :=
 ⟨Keep.of_below' h, fun k ⟨u, hu, hk⟩ => .inl ⟨u, by rw [box_eq hu (hv.below' h)]; exact hv, hk⟩⟩
theorem RfKeep.refl (ob : Nat) (W : World) : RfKeep ob W W := ⟨Keep.refl _ _, fun _ h => .inl h⟩
theorem OutV.box {B ob : Nat} {W : World} {v : Value} {l : List Br} (h : OutV B ob W v l) : Box W ob #[v] 37 := by
 obtain ⟨_, _, h, _⟩ := h; exact h
theorem OutV.blk {B ob : Nat} {W : World} {v : Value} {l : List Br} (h : OutV B ob W v l) {k : Nat} (hk : OutBlk ob W k) : B ≤ k ∧ k < W.heap.size := by
 obtain ⟨_, _, hb, ho, _⟩ := h
 obtain ⟨u, hu, he⟩ := hk
 rw [box_eq hu hb] at he
 exact ho.lt k he
theorem ints_keep {K : Nat → Prop} {A C : World} {a : Option Addr} {x : List Int} (h : Ints A a x) (hk : Keep K A C) (hK : ∀ b o, a = some ⟨b, o, none⟩ → 0 < x.length → K b) : Ints C a x := fun k u hu => by
 obtain ⟨b, o, ha, hc⟩ := h k u hu
 have hl : 0 < x.length := by have := (List.getElem?_eq_some_iff.1 hu).1; simp at this; omega
 exact ⟨b, o, ha, hk.cell (hK b o ha hl) hc⟩
theorem OutV.keep {K : Nat → Prop} {B ob : Nat} {W W' : World} {v : Value} {l : List Br} (h : OutV B ob W v l) (hk : Keep K W W') (hob : K ob) (hK : ∀ k, B ≤ k → K k) : OutV B ob W' v l := by
 obtain ⟨zs, h1, h2, h3, h4⟩ := h
 refine ⟨zs, h1, hk.heap hob h2, ownsRow_keep h3 hk hK, fun z hz => ?_⟩
 obtain ⟨a1, a2, a3⟩ := h4 z hz
 exact ⟨ints_keep a1 hk (fun b o ha hl => hK b (a3 b o ha hl).1), a2, a3⟩
theorem OutV.below {B ob : Nat} {W W' : World} {v : Value} {l : List Br} (h : OutV B ob W v l) (hb : Below W.heap.size W W') : OutV B ob W' v l := h.keep (K := fun _ => True) (Keep.of_below' hb) trivial (fun _ _ => trivial)

/-- a block that stays -/
def StayBox (ob : Nat) (W : World) (b : Nat) (cs : Array Value) (t : TypeId) : Prop := Box W b cs t ∧ b ≠ ob ∧ ¬ OutBlk ob W b
theorem StayBox.keep {ob : Nat} {W W' : World} {b : Nat} {cs : Array Value} {t : TypeId} (h : StayBox ob W b cs t) (hk : RfKeep ob W W') : StayBox ob W' b cs t :=
 ⟨hk.1.heap h.2 h.1, h.2.1, fun hb => by
  rcases hk.2 b hb with h1 | h1
  ·exact h.2.2 h1
  ·have := h.1.lt; omega⟩
/-- ints that stay -/
def StayInts (ob : Nat) (W : World) (a : Option Addr) (l : List Int) : Prop := Ints W a l ∧ ∀ b o, a = some ⟨b, o, none⟩ → 0 < l.length → b ≠ ob ∧ ¬ OutBlk ob W b
theorem ints_lt {W : World} {a : Option Addr} {l : List Int} (h : Ints W a l) {b o : Nat} (ha : a = some ⟨b, o, none⟩) (hl : 0 < l.length) : b < W.heap.size := by
 obtain ⟨b', o', _, ha', _, hc⟩ := h.at_ hl
 rw [ha] at ha'; cases ha'
 exact lt_of_cell hc
theorem StayInts.keep {ob : Nat} {W W' : World} {a : Option Addr} {l : List Int} (h : StayInts ob W a l) (hk : RfKeep ob W W') : StayInts ob W' a l :=
 ⟨ints_keep h.1 hk.1 (fun b o ha hl => h.2 b o ha hl), fun b o ha hl => ⟨(h.2 b o ha hl).1, fun hb => by
  rcases hk.2 b hb with h1 | h1
  ·exact (h.2 b o ha hl).2 h1
  ·have := ints_lt h.1 ha hl; omega⟩⟩
theorem StayInts.nil (ob : Nat) (W : World) (a : Option Addr) : StayInts ob W a [] := ⟨Ints.nil _ _, fun _ _ _ h => absurd h (by simp)⟩
theorem StayInts.tail {ob : Nat} {W : World} {b o : Nat} {x : Int} {l : List Int} (h : StayInts ob W (some ⟨b, o, none⟩) (x :: l)) : StayInts ob W (some ⟨b, o + 1, none⟩) l := by
 have h2 := h.2 b o rfl (by simp)
 refine ⟨fun k u hu => ?_, fun b' o' ha _ => by cases ha; exact h2⟩
 obtain ⟨b', o', ha, hc⟩ := h.1 (k + 1) u (by simpa using hu)
 cases ha
 exact ⟨b, o + 1, rfl, by rw [show o + 1 + k = o + (k + 1) by omega]; exact hc⟩
/-- one that lies anew -/
theorem StayBox.new {ob : Nat} {W W' : World} {v : Value} {b : Nat} {cs : Array Value} {t : TypeId} (hv : Box W ob #[v] 37) (hb : Below W.heap.size W W') (hk : ∀ k, v.ownBlock = some k → k < W.heap.size) (hx : Box W' b cs t) (hn : W.heap.size ≤ b) : StayBox ob W' b cs t :=
 ⟨hx, by have := hv.lt; omega, fun ⟨u, hu, he⟩ => by
  rw [box_eq hu (hv.below' hb)] at he
  have := hk b he; omega⟩

/-- what stands while refute works: its own variables from N on, the case's box bb -/
structure RfSt (c : Cs) (pa : Option Addr) (pc bb N : Nat) (oa : Option Addr) (oc : Nat) (order : List Nat) (w0 : World) (l : List Br) (W : World) : Prop where
 old : Below w0.heap.size w0 W
 ben : Box W bb (csCells c pa pc) 88
 bx : Box W N #[.pointer (some ⟨bb, 0, none⟩)] 72
 ord : Box W (N + 2) #[.slice oa order.length oc] 27
 put : Box W (N + 4) #[.func (.func 106) #[] #[.pointer (some ⟨N, 0, none⟩), .pointer (some ⟨N + 3, 0, none⟩), .pointer (some ⟨N + 2, 0, none⟩), .pointer (some ⟨N + 4, 0, none⟩)]] 160
 out : ∃ v, OutV (N + 5) (N + 3) W v l
section
variable {c : Cs} {pa : Option Addr} {pc bb N : Nat} {oa : Option Addr} {oc : Nat} {order : List Nat} {w0 : World} {l : List Br} {W W' : World}
theorem RfSt.below (h : RfSt c pa pc bb N oa oc order w0 l W) (hb : Below W.heap.size W W') : RfSt c pa pc bb N oa oc order w0 l W' := by
 obtain ⟨v, hv⟩ := h.out
 exact ⟨h.old.trans (hb.mono h.old.size), h.ben.below' hb, h.bx.below' hb, h.ord.below' hb, h.put.below' hb, v, hv.below hb⟩
theorem RfSt.kept (h : RfSt c pa pc bb N oa oc order w0 l W) (hb : Below W.heap.size W W') : RfKeep (N + 3) W W' := by
 obtain ⟨v, hv⟩ := h.out
 exact RfKeep.of_below hv.box hb
theorem RfSt.sizeN (h : RfSt c pa pc bb N oa oc order w0 l W) : N + 5 ≤ W.heap.size := by have := h.put.lt; omega
/-- a fixed block stays -/
theorem RfSt.stay (h : RfSt c pa pc bb N oa oc order w0 l W) {b : Nat} {cs : Array Value} {t : TypeId} (hb : Box W b cs t) (hN : b < N + 5) (hne : b ≠ N + 3) : StayBox (N + 3) W b cs t := by
 obtain ⟨v, hv⟩ := h.out
 exact ⟨hb, hne, fun hk => by have := (hv.blk hk).1; omega⟩
theorem RfSt.ints (h : RfSt c pa pc bb N oa oc order w0 l W) {a : Option Addr} {x : List Int} (hb : Ints W a x) (hN : ∀ b o, a = some ⟨b, o, none⟩ → 0 < x.length → b < N + 3) : StayInts (N + 3) W a x := by
 obtain ⟨v, hv⟩ := h.out
 exact ⟨hb, fun b o ha hl => ⟨by have := hN b o ha hl; omega, fun hk => by have := (hv.blk hk).1; have := hN b o ha hl; omega⟩⟩
theorem RfSt.newBox (h : RfSt c pa pc bb N oa oc order w0 l W) (hb : Below W.heap.size W W') {b : Nat} {cs : Array Value} {t : TypeId} (hx : Box W' b cs t) (hn : W.heap.size ≤ b) : StayBox (N + 3) W' b cs t := by
 obtain ⟨v, hv⟩ := h.out
 exact StayBox.new hv.box hb (fun k hk => (hv.blk ⟨v, hv.box, hk⟩).2) hx hn
theorem RfSt.newInts (h : RfSt c pa pc bb N oa oc order w0 l W) (hb : Below W.heap.size W W') {a : Option Addr} {x : List Int} (hx : Ints W' a x) (hn : ∀ b o, a = some ⟨b, o, none⟩ → 0 < x.length → W.heap.size ≤ b) : StayInts (N + 3) W' a x := by
 obtain ⟨v, hv⟩ := h.out
 refine ⟨hx, fun b o ha hl => ⟨?_, fun ⟨u, hu, he⟩ => ?_⟩⟩
 ·have := hv.box.lt; have := hn b o ha hl; omega
 ·rw [box_eq hu (hv.box.below' hb)] at he
  have := (hv.blk ⟨v, hv.box, he⟩).2; have := hn b o ha hl; omega
end
/-- a branch is put behind the list -/
theorem out_push {B ob g : Nat} {W : World} {v : Value} {l : List Br} {z : BrM} (h : OutV B ob W v l) (hob : ob < B) (hg : Box W g (brRow z).toArray 69) (hl : l.length + 1 ≤ 1000000) (hB : B ≤ W.heap.size)
  (hz : Ints W z.2.1 z.1.many ∧ z.1.many.length ≤ z.2.2 ∧ ∀ b o, z.2.1 = some ⟨b, o, none⟩ → 0 < z.1.many.length → B ≤ b ∧ v.ownBlock ≠ some b) :
  ∃ v' U, (Builtin.append_ #[37, 37] 37 #[v, .slice (some ⟨g, 0, none⟩) 1 1]).run Tryz.prog W = .ok v' U ∧ Box U ob #[v] 37 ∧ OutV B ob (U.setCell ⟨ob, 0, none⟩ v') v' (l ++ [z.1]) ∧ RfKeep ob W (U.setCell ⟨ob, 0, none⟩ v') ∧
   Keep (fun k => v.ownBlock ≠ some k) W U := by
 obtain ⟨zs, h1, h2, h3, h4⟩ := h
 have hn : zs.length = l.length := by rw [← h1]; simp
 have hrow : Row W (some ⟨g, 0, none⟩) (brRow z) := fun k u hu => ⟨g, 0, rfl, by rw [hg.cell, Nat.zero_add]; simpa using hu⟩
 obtain ⟨v', U, hrun, hown, hgr, hvb⟩ := run_append_row (P := Tryz.prog) W B 37 37 69 (.agg #[.int .u8 0, .int .i64 0, .int .i64 0, .slice none 0 0]) 4 48 Tryz.underlying37 info_br rfl (by omega)
  v _ _ h3 (some ⟨g, 0, none⟩) 1 1 (brRow z) rfl hrow (brRow_one z) hl (by omega) hB
 have kU : Keep (fun k => v.ownBlock ≠ some k) W U := (Keep.refl _ W).grown hgr (fun k hk => .inl (fun h => h hk))
 have hbU : Box U ob #[v] 37 := kU.heap (fun hk => by have := (h3.lt ob hk).1; omega) h2
 have hlt : ∀ k, v'.ownBlock = some k → v.ownBlock = some k ∨ k = W.heap.size := fun k hk => by
  rcases hvb with h | h
  ·exact .inl (h ▸ hk)
  ·rw [h] at hk; cases hk; exact .inr rfl
 have kS : Keep (fun k => k ≠ ob) U (U.setCell ⟨ob, 0, none⟩ v') := (Keep.refl _ U).setCell (.inl (by simp)) _
 refine ⟨v', U, hrun, hbU, ⟨zs ++ [z], by simp [h1], hbU.set_ 0 v', ?_, fun y hy => ?_⟩, ⟨?_, fun k ⟨u, hu, hk⟩ => ?_⟩, kU⟩
 ·rw [List.flatMap_append, List.length_append, List.length_singleton]
  have := ownsRow_keep hown kS (fun k hk => by omega)
  simpa using this
 ·have hy' : Ints W y.2.1 y.1.many ∧ y.1.many.length ≤ y.2.2 ∧ ∀ b o, y.2.1 = some ⟨b, o, none⟩ → 0 < y.1.many.length → B ≤ b ∧ v.ownBlock ≠ some b := by
   rcases List.mem_append.1 hy with hy | hy
   ·exact h4 y hy
   ·rw [List.mem_singleton.1 hy]; exact hz
  obtain ⟨a1, a2, a3⟩ := hy'
  refine ⟨ints_keep (ints_keep a1 kU (fun b o ha hl => (a3 b o ha hl).2)) kS (fun b o ha hl => by have := (a3 b o ha hl).1; omega), a2, fun b o ha hl => ⟨(a3 b o ha hl).1, fun hk => ?_⟩⟩
  rcases hlt b hk with h | h
  ·exact (a3 b o ha hl).2 h
  ·have := ints_lt a1 ha hl; omega
 ·refine (kU.mono fun k (hk : k ≠ ob ∧ ¬ OutBlk ob W k) he => hk.2 ⟨v, h2, he⟩).trans (kS.mono fun k hk => hk.1)
 ·rw [box_eq hu (hbU.set_ 0 v')] at hk
  rcases hlt k hk with h | h
  ·exact .inl ⟨v, h2, h⟩
  ·exact .inr (by omega)
/-- what a part of the work hands back -/
def RfPost (c : Cs) (pa : Option Addr) (pc bb N : Nat) (oa : Option Addr) (oc : Nat) (order : List Nat) (w0 : World) (o : Option (List Br)) (l : List Br) (W : World) (e : Ending) (W' : World) : Prop :=
 RfKeep (N + 3) W W' ∧ match o with
  | none => e = .panicked [{ v := unproved, recovered := false }]
  | some x => e = .returned (.tuple #[]) ∧ RfSt c pa pc bb N oa oc order w0 (l ++ x) W'
def putCaps (N : Nat) : Array Value := #[.pointer (some ⟨N, 0, none⟩), .pointer (some ⟨N + 3, 0, none⟩), .pointer (some ⟨N + 2, 0, none⟩), .pointer (some ⟨N + 4, 0, none⟩)]
/-- the contract of put, the parts of rest still to come -/
def PutOk (c : Cs) (pa : Option Addr) (pc bb N : Nat) (oa : Option Addr) (oc : Nat) (order : List Nat) (w0 : World) (rest : List Nat) : Prop :=
 ∀ (d : Dec) (reps : List Nat) (k : Nat) (l : List Br) (ra : Option Addr) (rc : Nat) (W : World), order.drop k = rest → k ≤ order.length → (∀ a b, d a b ≤ 3) → (∀ x ∈ reps, x < c.parts.length) → reps.length + rest.length ≤ 8 →
  l.length + bnd rest.length reps.length ≤ 100000 → reps.length ≤ rc → RfSt c pa pc bb N oa oc order w0 l W → StayInts (N + 3) W ra (natInts reps) →
  Calls Tryz.prog 106 (#[.agg (decCells d), .slice ra reps.length rc, .int .i64 k] ++ putCaps N) W (RfPost c pa pc bb N oa oc order w0 (putM c c.parts.length rest d reps) l W)
/-- what try has caught -/
structure TryEnv (N rb pvb kb tb : Nat) (reps : List Nat) (p k : Nat) (ra : Option Addr) (rc : Nat) (W : World) : Prop where
 rep : StayBox (N + 3) W rb #[.slice ra reps.length rc] 27
 ints : StayInts (N + 3) W ra (natInts reps)
 part : StayBox (N + 3) W pvb #[.int .i64 p] 3
 num : StayBox (N + 3) W kb #[.int .i64 k] 3
 try_ : StayBox (N + 3) W tb #[.func (.func 107) #[] #[.pointer (some ⟨N, 0, none⟩), .pointer (some ⟨N + 4, 0, none⟩), .pointer (some ⟨rb, 0, none⟩), .pointer (some ⟨pvb, 0, none⟩), .pointer (some ⟨kb, 0, none⟩), .pointer (some ⟨tb, 0, none⟩), .pointer (some ⟨N + 3, 0, none⟩)]] 161
theorem TryEnv.keep {N rb pvb kb tb : Nat} {reps : List Nat} {p k : Nat} {ra : Option Addr} {rc : Nat} {W W' : World} (h : TryEnv N rb pvb kb tb reps p k ra rc W) (hk : RfKeep (N + 3) W W') : TryEnv N rb pvb kb tb reps p k ra rc W' :=
 ⟨h.rep.keep hk, h.ints.keep hk, h.part.keep hk, h.num.keep hk, h.try_.keep hk⟩
def tryCaps (N rb pvb kb tb : Nat) : Array Value := #[.pointer (some ⟨N, 0, none⟩), .pointer (some ⟨N + 4, 0, none⟩), .pointer (some ⟨rb, 0, none⟩), .pointer (some ⟨pvb, 0, none⟩), .pointer (some ⟨kb, 0, none⟩), .pointer (some ⟨tb, 0, none⟩), .pointer (some ⟨N + 3, 0, none⟩)]
/-- copied, its row told of as the call's own -/
def Copy4Post (B : Nat) (l : List Int) (w : World) (e : Ending) (w' : World) : Prop := ∃ v, e = .returned v ∧ w'.ownsRow B 3 1 v l.length (l.map (Value.int .i64)) ∧ Below w.heap.size w w'
set_option maxRecDepth 100000 in
set_option maxHeartbeats 1000000 in
theorem copied4_any (a : Option Addr) (c : Nat) (l : List Int) (w : World) (h : Ints w a l) (hl : l.length ≤ 100000) :
  Calls Tryz.prog 98 #[.slice a l.length c] w (Copy4Post w.heap.size l w) := by
 obtain ⟨v', w', hrun, hown, hg, _⟩ := run_append_row (P := Tryz.prog) (w.alloc (.cells #[] 3)) w.heap.size 27 27 3 (.int .i64 0) 1 8 Tryz.underlying27 info_int rfl (by omega)
  (.slice (some ⟨w.heap.size, 0, none⟩) 0 0) 0 [] (ownsRow_empty w _ _ _ (Nat.le_refl _)) a l.length c (l.map (.int .i64)) (by simp) (h.below ((Below.refl _ w).alloc (Nat.le_refl _) _)) (ints_one l) (by omega) (by omega) (by simp)
 have HO := Lib.hid hown
 have HG := Lib.hid hg
 have HR := Lib.hid hrun
 clear hown hg hrun
 go_enter Tryz.func98, Tryz.ntmps98
 go_wp2_with (at_builtin; refine wpList_app rfl _ _ _ rfl rfl rfl HR.out ?_)
 go_ret
 refine ⟨v', rfl, by simpa using HO.out, ?_⟩
 exact ((Below.refl _ w).alloc (Nat.le_refl _) _).trans ((grown_below (ownsRow_empty w w.heap.size _ 1 (Nat.le_refl _)) HG.out (Nat.le_refl _) (by simp)))
end Go.Proofs.YtpjcnkajimgagaaGreat
namespace Go.Proofs.YtpjcnkajimgagaaGreat
open Go.RowKit
attribute [local go_sem] Oper.semAt_some

theorem natInts_len (l : List Nat) : (natInts l).length = l.length := by simp [natInts]
theorem natInts_snoc (l : List Nat) (x : Nat) : natInts (l ++ [x]) = natInts l ++ [(x : Int)] := by simp [natInts]
theorem StayBox.at_ {ob : Nat} {W A : World} {b : Nat} {cs : Array Value} {t : TypeId} (h : StayBox ob W b cs t) (hk : Keep (fun k => k < W.heap.size ∧ k ≠ ob ∧ ¬ OutBlk ob W k) W A) : Box A b cs t := hk.heap ⟨h.1.lt, h.2.1, h.2.2⟩ h.1
theorem StayInts.at_ {ob : Nat} {W A : World} {a : Option Addr} {x : List Int} (h : StayInts ob W a x) (hk : Keep (fun k => k < W.heap.size ∧ k ≠ ob ∧ ¬ OutBlk ob W k) W A) : Ints A a x := ints_keep h.1 hk (fun b o ha hl => ⟨ints_lt h.1 ha hl, (h.2 b o ha hl).1, (h.2 b o ha hl).2⟩)
theorem ownsRow_less {w : World} {base B : Nat} {e : TypeId} {size n : Nat} {v : Value} {xs : List Value} (h : w.ownsRow base e size v n xs) (hB : B ≤ base) : w.ownsRow B e size v n xs := by
 refine ⟨h.1, ?_⟩
 rcases h.2 with h0 | ⟨g, cap, cur, h1, hg, hh, h3⟩
 ·exact .inl h0
 ·exact .inr ⟨g, cap, cur, h1, Nat.le_trans hB hg, hh, h3⟩
theorem row_one {w : World} {g : Nat} {x : Int} {t : TypeId} (h : Box w g #[.int .i64 x] t) : Row w (some ⟨g, 0, none⟩) [.int .i64 x] := fun k u hu => ⟨g, 0, rfl, by rw [h.cell, Nat.zero_add]; simpa using hu⟩
set_option maxRecDepth 100000 in
set_option maxHeartbeats 1000000 in
theorem try_nil {c : Cs} {pa : Option Addr} {pc bb N : Nat} {oa : Option Addr} {oc : Nat} {order : List Nat} {w0 : World} {rest reps : List Nat} {rb pvb kb tb p k : Nat} {ra : Option Addr} {rc : Nat} (hn8 : c.parts.length ≤ 8) (hparts : PartsAt w0 pa c.parts)
  (ih : PutOk c pa pc bb N oa oc order w0 rest) (hdrop : order.drop (k + 1) = rest) (hk : k + 1 ≤ order.length) (ho8 : order.length ≤ 8) (hreps : ∀ x ∈ reps, x < c.parts.length) (hp : p < c.parts.length) (hrl : reps.length + 1 + rest.length ≤ 8) (hrc : reps.length ≤ rc)
  (d : Dec) (l : List Br) (la : Option Addr) (lc : Nat) (W : World) (hd : ∀ a b, d a b ≤ 3) (hl : l.length + bnd rest.length (reps.length + 1) ≤ 100000) (hst : RfSt c pa pc bb N oa oc order w0 l W) (henv : TryEnv N rb pvb kb tb reps p k ra rc W) :
  Calls Tryz.prog 107 (#[.agg (decCells d), .slice la 0 lc] ++ tryCaps N rb pvb kb tb) W (RfPost c pa pc bb N oa oc order w0 (putM c c.parts.length rest d (reps ++ [p])) l W) := by
 obtain ⟨w1, hw1⟩ : ∃ w1, W.alloc (.cells (decCells d) 104) = w1 := ⟨_, rfl⟩
 have hB1 : Below W.heap.size W w1 := by rw [← hw1]; exact (Below.refl _ _).alloc (Nat.le_refl _) _
 have hD1 : Box w1 W.heap.size (decCells d) 104 := by rw [← hw1]; exact Box.new _ _ _
 have hst1 := hst.below hB1
 have hL := run_load_row (P := Tryz.prog) hD1 Tryz.underlying104 rfl (dec_info _)
 have hds := decCells_size d
 have e1 := hst1.bx.cell
 have hB2 : Below w1.heap.size w1 (w1.alloc (.cells (nodeCells bb d) 109)) := (Below.refl _ _).alloc (Nat.le_refl _) _
 have hbd : Box (w1.alloc (.cells (nodeCells bb d) 109)) W.heap.size (decCells d) 104 := hD1.below' hB2
 have hst2 := hst1.below hB2
 have hdb := hst.newBox (hB1.trans (hB2.mono hB1.size)) hbd (Nat.le_refl _)
 have HDB := Lib.hid hdb
 clear hdb
 have kp := hst.kept (hB1.trans (hB2.mono hB1.size))
 have hen2 := henv.keep kp
 have HW := Lib.hid hw1
 have HB1 := Lib.hid hB1
 have HIH := Lib.hid ih
 have HKP := Lib.hid kp
 have HLE := Lib.hid hl
 have HDR := Lib.hid hdrop
 have HD := Lib.hid hd
 clear hw1 hB1 hD1 hst hst1 henv ih kp hl hdrop hd hB2
 simp only [tryCaps, List.append_toArray, List.nil_append, List.cons_append]
 go_enter Tryz.func107, Tryz.ntmps107
 go_upto_region 1 with fail
 simp only [HW.out]
 go_upto_region 2 with (refine wpList_load_box rfl 104 _ rfl rfl hL ?_)
 simp only [node_built]
 clear hL e1
 generalize w1.alloc (.cells (nodeCells bb d) 109) = w2 at *
 go_upto_region 3 with fail
 have HS2 := Lib.hid hst2
 have HEN := Lib.hid hen2
 have HBD := Lib.hid hbd
 clear hst2 hen2 hbd
 refine wp_region_L (fun A => Keep (fun k => k < w2.heap.size ∧ k ≠ N + 3 ∧ ¬ OutBlk (N + 3) w2 k) w2 A) 10 (by kernel_rfl) ?_
 have hSS : Keep (fun k => k < w2.heap.size ∧ k ≠ N + 3 ∧ ¬ OutBlk (N + 3) w2 k) w2 w2.drew := (Keep.refl _ w2).drew
 have hWl : W.heap.size < w2.heap.size := HBD.out.lt
 have k0 : ∀ A, Keep (fun k => k < w2.heap.size ∧ k ≠ N + 3 ∧ ¬ OutBlk (N + 3) w2 k) w2 A → A.cell? ⟨N + 4, 0, none⟩ = some (.func (.func 106) #[] #[.pointer (some ⟨N, 0, none⟩), .pointer (some ⟨N + 3, 0, none⟩), .pointer (some ⟨N + 2, 0, none⟩), .pointer (some ⟨N + 4, 0, none⟩)]) ∧
   A.cell? ⟨rb, 0, none⟩ = some (.slice ra reps.length rc) ∧ A.cell? ⟨pvb, 0, none⟩ = some (.int .i64 p) ∧ A.cell? ⟨kb, 0, none⟩ = some (.int .i64 k) := fun A hA =>
  ⟨((HS2.out.stay HS2.out.put (by omega) (by omega)).at_ hA).cell 0, (HEN.out.rep.at_ hA).cell 0, (HEN.out.part.at_ hA).cell 0, (HEN.out.num.at_ hA).cell 0⟩
 have kd : ∀ A, Keep (fun k => k < w2.heap.size ∧ k ≠ N + 3 ∧ ¬ OutBlk (N + 3) w2 k) w2 A → (Instr.loadAt 104 (.pointer (some ⟨W.heap.size, 0, none⟩))).run Tryz.prog A = .ok (.agg (decCells d)) A := fun A hA => run_load_row (HDB.out.at_ hA) Tryz.underlying104 rfl (dec_info _)
 have K0 := Lib.hid k0
 have KD := Lib.hid kd
 have hwk : IntKind.i64.wrap ((k : Int) + 1) = (k : Int) + 1 := IntWalk.i64_in _ (by omega)
 clear k0 kd
 refine anyL_take (i := 0) (v := ?_) (by kernel_rfl) rfl (by kernel_rfl) (by kernel_rfl) (by kernel_rfl) (by kernel_rfl) (fun _ _ _ h => h) (by rfl) ?_ hSS ?_
 rotate_left
 ·(intro W hW; obtain ⟨q0, q1, q2, q3⟩ := K0.out W hW; go_simp; try with_reducible rfl)
 try (dsimp only); try simp only [Act.put, List.setIfInBounds_toArray, List.set_cons_zero, List.set_cons_succ]
 refine anyL_load (i := 1) 104 _ (by kernel_rfl) rfl (by kernel_rfl) (by kernel_rfl) (by kernel_rfl) (by kernel_rfl) (fun _ _ _ h => h) (by rfl) rfl rfl KD.out hSS ?_
 try (dsimp only); try simp only [Act.put, List.setIfInBounds_toArray, List.set_cons_zero, List.set_cons_succ]
 refine anyL_take (i := 2) (v := ?_) (by kernel_rfl) rfl (by kernel_rfl) (by kernel_rfl) (by kernel_rfl) (by kernel_rfl) (fun _ _ _ h => h) (by rfl) ?_ hSS ?_
 rotate_left
 ·(intro W hW; obtain ⟨q0, q1, q2, q3⟩ := K0.out W hW; go_simp; try with_reducible rfl)
 try (dsimp only); try simp only [Act.put, List.setIfInBounds_toArray, List.set_cons_zero, List.set_cons_succ]
 refine anyL_take (i := 4) (v := ?_) (by kernel_rfl) rfl (by kernel_rfl) (by kernel_rfl) (by kernel_rfl) (by kernel_rfl) (fun _ _ _ h => h) (by rfl) ?_ hSS ?_
 rotate_left
 ·(intro W hW; obtain ⟨q0, q1, q2, q3⟩ := K0.out W hW; go_simp; try with_reducible rfl)
 try (dsimp only); try simp only [Act.put, List.setIfInBounds_toArray, List.set_cons_zero, List.set_cons_succ]
 refine anyL_take (i := 7) (v := ?_) (by kernel_rfl) rfl (by kernel_rfl) (by kernel_rfl) (by kernel_rfl) (by kernel_rfl) (fun _ _ _ h => h) (by rfl) ?_ hSS ?_
 rotate_left
 ·(intro W hW; obtain ⟨q0, q1, q2, q3⟩ := K0.out W hW; go_simp; try with_reducible rfl)
 try (dsimp only); try simp only [Act.put, List.setIfInBounds_toArray, List.set_cons_zero, List.set_cons_succ]
 refine anyL_take (i := 8) (v := ?_) (by kernel_rfl) rfl (by kernel_rfl) (by kernel_rfl) (by kernel_rfl) (by kernel_rfl) (fun _ _ _ h => h) (by rfl) ?_ hSS ?_
 rotate_left
 ·(intro W hW; obtain ⟨q0, q1, q2, q3⟩ := K0.out W hW; go_simp; try with_reducible rfl)
 try (dsimp only); try simp only [Act.put, List.setIfInBounds_toArray, List.set_cons_zero, List.set_cons_succ]
 have hcp : ∀ A, Keep (fun k => k < w2.heap.size ∧ k ≠ N + 3 ∧ ¬ OutBlk (N + 3) w2 k) w2 A → Calls Tryz.prog 98 #[.slice ra reps.length rc] A (Copy4Post A.heap.size (natInts reps) A) := fun A hA => by
  have := copied4_any ra rc (natInts reps) A (HEN.out.ints.at_ hA) (by rw [natInts_len]; omega)
  rwa [natInts_len] at this
 have HCP := Lib.hid hcp
 clear hcp
 refine anyL_two (i := 3) (j := 5) (by kernel_rfl) ?_ ?_
 ·refine wpOp_call (f := 98) (args := #[.slice ra reps.length rc]) rfl (by rfl) ?_ (HCP.out _ hSS) ?_
  ·go_simp
  rintro e w4 ⟨v5, rfl, ho4, hb4⟩
  have hb5 : Below w2.heap.size w2 w4 := (Below.refl _ w2).drew.trans hb4
  refine ⟨v5, rfl, .inr ((Keep.refl _ w2).trans (Keep.of_below' hb5)), ?_⟩
  try (dsimp only); try simp only [Act.put, List.setIfInBounds_toArray, List.set_cons_zero, List.set_cons_succ]
  refine anyL_run (i := 5) (v := .slice (some ⟨w4.heap.size, 0, none⟩) 1 1) (w' := w4.alloc (.cells #[.int .i64 p] 3)) rfl (by kernel_rfl) (by rfl) ?_ (.inr (Keep.of_below' (hb5.alloc hb5.size _))) ?_
  ·go_simp
   try with_reducible rfl
  try (dsimp only); try simp only [Act.put, List.setIfInBounds_toArray, List.set_cons_zero, List.set_cons_succ]
  obtain ⟨g5, hge⟩ : ∃ g5, w4.heap.size = g5 := ⟨_, rfl⟩
  have hg5 : Box (w4.alloc (.cells #[.int .i64 p] 3)) g5 #[.int .i64 p] 3 := Box.new' hge.symm
  have hb5 := hb5.alloc hb5.size (.cells #[.int .i64 p] 3)
  have ho5 := ownsRow_keep ho4 ((Keep.refl (fun _ => True) w4).alloc (.cells #[.int .i64 p] 3)) (fun _ _ => trivial)
  rw [hge]
  generalize w4.alloc (.cells #[.int .i64 p] 3) = w5 at *
  change w5.ownsRow w2.heap.size _ _ _ _ _ at ho5
  obtain ⟨v6, w6, hrun, hown, hgr, _⟩ := run_append_row (P := Tryz.prog) w5 w2.heap.size 27 27 3 (.int .i64 0) 1 8 Tryz.underlying27 info_int rfl (by omega) v5 _ _ ho5 (some ⟨g5, 0, none⟩) 1 1 [.int .i64 p] rfl (row_one hg5) (by simp [Value.oneCell']) (by rw [natInts_len]; omega) (by omega) hb5.size
  have hb6 : Below w2.heap.size w2 w6 := hb5.trans (grown_below ho5 hgr (Nat.le_refl _) hb5.size)
  obtain ⟨a6, c6, rfl, hro6, hc6⟩ := ownsRow_own hown
  rw [natInts_len] at hrun hc6
  refine anyL_run (i := 6) (v := .slice a6 (reps.length + 1) c6) (w' := w6) rfl (by kernel_rfl) (by rfl) ?_ (.inr (Keep.of_below hb6 (fun i hi _ => by have h1 := hi.1; omega))) ?_
  ·refine exec_app (v := v5) (u := .slice (some ⟨g5, 0, none⟩) 1 1) _ _ 27 rfl (by rfl) (by rfl) ?_
   exact hrun
  try (dsimp only); try simp only [Act.put, List.setIfInBounds_toArray, List.set_cons_zero, List.set_cons_succ]
  have hro7 : RowOwn w2.heap.size w6 a6 ((natInts (reps ++ [p])).map (Value.int .i64)) := by rw [natInts_snoc, List.map_append]; exact hro6
  have hints : StayInts (N + 3) w6 a6 (natInts (reps ++ [p])) := HS2.out.newInts hb6 (ints_rowOwn hro7) (fun b o ha hl => rowOwn_block hro7 ha hl)
  have hput := HIH.out d (reps ++ [p]) (k + 1) l a6 c6 w6 HDR.out hk HD.out (fun x hx => by
   rcases List.mem_append.1 hx with h | h
   ·exact hreps x h
   ·rw [List.mem_singleton.1 h]; exact hp) (by rw [List.length_append, List.length_singleton]; omega) (by rw [List.length_append, List.length_singleton]; exact HLE.out) (by rw [List.length_append, List.length_singleton]; omega) (HS2.out.below hb6) hints
  rw [List.length_append, List.length_singleton, show ((k + 1 : Nat) : Int) = (k : Int) + 1 by omega] at hput
  simp only [putCaps, List.append_toArray, List.nil_append, List.cons_append] at hput
  have hk6 := HS2.out.kept hb6
  refine anyL_call (i := 9) (f := 106) rfl (by kernel_rfl) (by rfl) ?_ hput ?_
  ·go_simp
  rintro e w7 ⟨hk7, hm⟩
  have hk67 := hk6.trans hk7
  rcases hr : putM c c.parts.length rest d (reps ++ [p]) with _ | x
  ·rw [hr] at hm
   subst hm
   refine .inr ⟨_, rfl, ?_⟩
   exact ⟨rfl, HKP.out.trans hk67, by trivial⟩
  ·rw [hr] at hm
   obtain ⟨rfl, hst7⟩ := hm
   refine .inl ⟨_, rfl, .inr (hk67.1.mono fun i hi => ⟨hi.2.1, hi.2.2⟩), ?_⟩
   try (dsimp only); try simp only [Act.put, List.setIfInBounds_toArray, List.set_cons_zero, List.set_cons_succ]
   refine anyL_done (by kernel_rfl) ?_ _
   have H7 := Lib.hid hst7
   have HK := Lib.hid (HKP.out.trans hk67)
   have HRR := Lib.hid hr
   clear hst7 hk67 hk7 hk6 hput hints hro7 hro6 hown hrun hgr hb6 hr ho5 hg5 hb5
   go_wp2_with fail
   refine bodyPost_ret (results_none rfl _ _ _) rfl ⟨HK.out, by rw [HRR.out]; exact ⟨rfl, H7.out⟩⟩
 ·have hg4 : Box (w2.drew.alloc (.cells #[.int .i64 p] 3)) w2.heap.size #[.int .i64 p] 3 := Box.new w2.drew _ _
  have hb4 : Below w2.heap.size w2 (w2.drew.alloc (.cells #[.int .i64 p] 3)) := (Below.refl _ w2).drew.alloc (Nat.le_refl _) _
  refine wpOp_run (v := .slice (some ⟨w2.heap.size, 0, none⟩) 1 1) (w' := w2.drew.alloc (.cells #[.int .i64 p] 3)) rfl (by rfl) ?_ ⟨.inr (Keep.of_below' hb4), ?_⟩
  ·go_simp
   try with_reducible rfl
  try (dsimp only); try simp only [Act.put, List.setIfInBounds_toArray, List.set_cons_zero, List.set_cons_succ]
  have hS4 : Keep (fun k => k < w2.heap.size ∧ k ≠ N + 3 ∧ ¬ OutBlk (N + 3) w2 k) w2 (w2.drew.alloc (.cells #[.int .i64 p] 3)) := Keep.of_below' hb4
  generalize w2.drew.alloc (.cells #[.int .i64 p] 3) = w4 at *
  obtain ⟨g5, hge⟩ : ∃ g5, w2.heap.size = g5 := ⟨_, rfl⟩
  refine anyL_call (i := 3) (f := 98) (args := #[.slice ra reps.length rc]) rfl (by kernel_rfl) (by rfl) ?_ (HCP.out _ hS4) ?_
  ·go_simp
  rintro e w5 ⟨v5, rfl, ho5, hb5'⟩
  have hb5 := hb4.trans (hb5'.mono hb4.size)
  have hg5 := hg4.below' hb5'
  have ho5 : w5.ownsRow w2.heap.size 3 1 v5 (natInts reps).length ((natInts reps).map (Value.int .i64)) := ownsRow_less ho5 hb4.size
  refine .inl ⟨v5, rfl, .inr (Keep.of_below' hb5), ?_⟩
  try (dsimp only); try simp only [Act.put, List.setIfInBounds_toArray, List.set_cons_zero, List.set_cons_succ]
  rw [hge] at hg5
  simp only [hge]
  obtain ⟨v6, w6, hrun, hown, hgr, _⟩ := run_append_row (P := Tryz.prog) w5 w2.heap.size 27 27 3 (.int .i64 0) 1 8 Tryz.underlying27 info_int rfl (by omega) v5 _ _ ho5 (some ⟨g5, 0, none⟩) 1 1 [.int .i64 p] rfl (row_one hg5) (by simp [Value.oneCell']) (by rw [natInts_len]; omega) (by omega) hb5.size
  have hb6 : Below w2.heap.size w2 w6 := hb5.trans (grown_below ho5 hgr (Nat.le_refl _) hb5.size)
  obtain ⟨a6, c6, rfl, hro6, hc6⟩ := ownsRow_own hown
  rw [natInts_len] at hrun hc6
  refine anyL_run (i := 6) (v := .slice a6 (reps.length + 1) c6) (w' := w6) rfl (by kernel_rfl) (by rfl) ?_ (.inr (Keep.of_below hb6 (fun i hi _ => by have h1 := hi.1; omega))) ?_
  ·refine exec_app (v := v5) (u := .slice (some ⟨g5, 0, none⟩) 1 1) _ _ 27 rfl (by rfl) (by rfl) ?_
   exact hrun
  try (dsimp only); try simp only [Act.put, List.setIfInBounds_toArray, List.set_cons_zero, List.set_cons_succ]
  have hro7 : RowOwn w2.heap.size w6 a6 ((natInts (reps ++ [p])).map (Value.int .i64)) := by rw [natInts_snoc, List.map_append]; exact hro6
  have hints : StayInts (N + 3) w6 a6 (natInts (reps ++ [p])) := HS2.out.newInts hb6 (ints_rowOwn hro7) (fun b o ha hl => rowOwn_block hro7 ha hl)
  have hput := HIH.out d (reps ++ [p]) (k + 1) l a6 c6 w6 HDR.out hk HD.out (fun x hx => by
   rcases List.mem_append.1 hx with h | h
   ·exact hreps x h
   ·rw [List.mem_singleton.1 h]; exact hp) (by rw [List.length_append, List.length_singleton]; omega) (by rw [List.length_append, List.length_singleton]; exact HLE.out) (by rw [List.length_append, List.length_singleton]; omega) (HS2.out.below hb6) hints
  rw [List.length_append, List.length_singleton, show ((k + 1 : Nat) : Int) = (k : Int) + 1 by omega] at hput
  simp only [putCaps, List.append_toArray, List.nil_append, List.cons_append] at hput
  have hk6 := HS2.out.kept hb6
  refine anyL_call (i := 9) (f := 106) rfl (by kernel_rfl) (by rfl) ?_ hput ?_
  ·go_simp
  rintro e w7 ⟨hk7, hm⟩
  have hk67 := hk6.trans hk7
  rcases hr : putM c c.parts.length rest d (reps ++ [p]) with _ | x
  ·rw [hr] at hm
   subst hm
   refine .inr ⟨_, rfl, ?_⟩
   exact ⟨rfl, HKP.out.trans hk67, by trivial⟩
  ·rw [hr] at hm
   obtain ⟨rfl, hst7⟩ := hm
   refine .inl ⟨_, rfl, .inr (hk67.1.mono fun i hi => ⟨hi.2.1, hi.2.2⟩), ?_⟩
   try (dsimp only); try simp only [Act.put, List.setIfInBounds_toArray, List.set_cons_zero, List.set_cons_succ]
   refine anyL_done (by kernel_rfl) ?_ _
   have H7 := Lib.hid hst7
   have HK := Lib.hid (HKP.out.trans hk67)
   have HRR := Lib.hid hr
   clear hst7 hk67 hk7 hk6 hput hints hro7 hro6 hown hrun hgr hb6 hr ho5 hg5 hb5
   go_wp2_with fail
   refine bodyPost_ret (results_none rfl _ _ _) rfl ⟨HK.out, by rw [HRR.out]; exact ⟨rfl, H7.out⟩⟩
end Go.Proofs.YtpjcnkajimgagaaGreat
