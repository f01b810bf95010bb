/- refute: what it hands back. -/
/- Refute. -/
import Derived.Test.YtpjcnkajimgagaaGreatMPut
import Derived.Test.YtpjcnkajimgagaaGreatMWalk
set_option linter.unusedSimpArgs false
set_option linter.unusedVariables false
namespace Go.Proofs.YtpjcnkajimgagaaGreat
open Go.RowKit
attribute [local go_sem] Oper.semAt_some

theorem brRows_at : ∀ (zs : List BrM) (k j : Nat) (z : BrM), zs[k]? = some z → j < 4 → (zs.flatMap brRow)[k * 4 + j]? = (brRow z)[j]?
 | [], k, j, z, h, _ => by simp at h
 | y :: zs, 0, j, z, h, hj => by
  simp at h; subst h
  rw [List.flatMap_cons, Nat.zero_mul, Nat.zero_add, List.getElem?_append_left (by simpa [brRow] using hj)]
 | y :: zs, k + 1, j, z, h, hj => by
  rw [List.flatMap_cons, List.getElem?_append_right (by simp [brRow]; omega), show (k + 1) * 4 + j - (brRow y).length = k * 4 + j by simp [brRow]; omega]
  exact brRows_at zs k j z (by simpa using h) hj
/-- branches that read the same while the blocks from B on stay -/
def BrsO (B : Nat) (W : World) (a : Option Addr) (l : List Br) : Prop := ∀ W', Keep (fun k => B ≤ k) W W' → BrsAt W' a l
theorem BrsO.at_ {B : Nat} {W : World} {a : Option Addr} {l : List Br} (h : BrsO B W a l) : BrsAt W a l := h W (Keep.refl _ _)
theorem BrsO.less {B B' : Nat} {W : World} {a : Option Addr} {l : List Br} (h : BrsO B W a l) (hB : B' ≤ B) : BrsO B' W a l := fun W2 h2 => h W2 (h2.mono fun k hk => Nat.le_trans hB hk)
theorem BrsO.keep {B : Nat} {W W' : World} {a : Option Addr} {l : List Br} (h : BrsO B W a l) (hk : Keep (fun k => B ≤ k) W W') : BrsO B W' a l := fun W2 h2 => h W2 (hk.trans h2)
theorem BrsO.below {B : Nat} {W W' : World} {a : Option Addr} {l : List Br} (h : BrsO B W a l) (hb : Below W.heap.size W W') : BrsO B W' a l := h.keep (Keep.of_below' hb)
theorem OutV.at_ {B ob : Nat} {W : World} {v : Value} {l : List Br} (h : OutV B ob W v l) : ∃ a cap, v = .slice a l.length cap ∧ BrsAt W a l ∧ l.length ≤ cap := by
 obtain ⟨zs, h1, _, h3, h4⟩ := h
 obtain ⟨a, cap, hv, hr, hc⟩ := ownsRow_own h3
 refine ⟨a, cap, hv, fun k x hx => ?_, hc⟩
 rw [← h1, List.getElem?_map] at hx
 obtain ⟨z, hz, rfl⟩ := Option.map_eq_some_iff.1 hx
 obtain ⟨a1, a2, _⟩ := h4 z (List.mem_of_getElem? hz)
 have cell : ∀ j u, j < 4 → (brRow z)[j]? = some u → ∃ b o, a = some ⟨b, o, none⟩ ∧ W.cell? ⟨b, o + (k * 4 + j), none⟩ = some u := fun j u hj hu => hr.row (k * 4 + j) u (by rw [brRows_at zs k j z hz hj]; exact hu)
 obtain ⟨b, o, ha, c0⟩ := cell 0 _ (by omega) rfl
 obtain ⟨b1, o1, ha1, c1⟩ := cell 1 _ (by omega) rfl
 obtain ⟨b2, o2, ha2, c2⟩ := cell 2 _ (by omega) rfl
 obtain ⟨b3, o3, ha3, c3⟩ := cell 3 _ (by omega) rfl
 rw [ha] at ha1 ha2 ha3
 cases ha1; cases ha2; cases ha3
 exact ⟨b, o, ha, z.2.1, z.2.2, by simpa using c0, c1, c2, c3, a1, a2⟩
theorem OutV.own {B ob : Nat} {W : World} {v : Value} {l : List Br} (h : OutV B ob W v l) (hB : ob ≤ B) : ∃ a cap, v = .slice a l.length cap ∧ BrsO ob W a l ∧ l.length ≤ cap := by
 obtain ⟨a, cap, rfl, _, hc⟩ := h.at_
 refine ⟨a, cap, rfl, fun W2 h2 => ?_, hc⟩
 obtain ⟨a', cap', he, hb, _⟩ := (h.keep h2 (Nat.le_refl _) (fun k hk => Nat.le_trans hB hk)).at_
 cases he
 exact hb
/-- a block that was there is none of the list's -/
theorem OutV.raise {N : Nat} {W : World} {v : Value} {l : List Br} {u : Value} {t : TypeId} (h : OutV (N + 5) (N + 3) W v l) (hb : Box W (N + 5) #[u] t) (hu : ∀ i, u ≠ .int .i64 i) (hno : ¬ OutBlk (N + 3) W (N + 5)) : OutV (N + 6) (N + 3) W v l := by
 obtain ⟨zs, h1, h2, h3, h4⟩ := h
 have hne : v.ownBlock ≠ some (N + 5) := fun he => hno ⟨v, h2, he⟩
 refine ⟨zs, h1, h2, ?_, fun z hz => ?_⟩
 ·refine ⟨h3.1, ?_⟩
  rcases h3.2 with h0 | ⟨g, cap, cur, h1', hg, hh, h5⟩
  ·exact .inl h0
  ·refine .inr ⟨g, cap, cur, h1', ?_, hh, h5⟩
   have : g ≠ N + 5 := fun he => hne (by rw [h1', he]; rfl)
   omega
 ·obtain ⟨a1, a2, a3⟩ := h4 z hz
  refine ⟨a1, a2, fun b o ha hl => ⟨?_, (a3 b o ha hl).2⟩⟩
  have h5 := (a3 b o ha hl).1
  have : b ≠ N + 5 := fun he => by
   subst he
   obtain ⟨b', o', x, ha', _, hc⟩ := a1.at_ hl
   rw [ha] at ha'; cases ha'
   rw [hb.cell] at hc
   rcases hoff : o + 0 with _ | n
   ·rw [hoff] at hc; simp at hc; exact hu _ hc
   ·rw [hoff] at hc; simp at hc
  omega
def RefutePost (o : Option (List Br)) (w : World) (e : Ending) (w' : World) : Prop :=
 Below w.heap.size w w' ∧ ((o = none ∧ e = .returned (.slice none 0 0)) ∨ ∃ x a cap, o = some x ∧ e = .returned (.slice a x.length cap) ∧ BrsO w.heap.size w' a x ∧ x.length ≤ cap)

set_option maxRecDepth 100000 in
set_option maxHeartbeats 1000000 in
theorem refute2_ret (d : Dec) (N : Nat) (W : World) (G : World → Prop) (hd : Box W (N + 1) (decCells d) 104) (hput : Box W (N + 4) #[.func (.func 106) #[] (putCaps N)] 160)
  (hc : Calls Tryz.prog 106 (#[.agg (decCells d), .slice none 0 0, .int .i64 0] ++ putCaps N) W fun e W' => e = .returned (.tuple #[]) ∧ G W') :
  Calls Tryz.prog 109 #[.pointer (some ⟨N + 4, 0, none⟩), .pointer (some ⟨N + 1, 0, none⟩)] W fun e W' => e = .returned (.tuple #[]) ∧ G W' := by
 have hL := run_load_row (P := Tryz.prog) hd Tryz.underlying104 rfl (dec_info _)
 have e1 : W.cell? ⟨N + 4, 0, none⟩ = some (.func (.func 106) #[] #[.pointer (some ⟨N, 0, none⟩), .pointer (some ⟨N + 3, 0, none⟩), .pointer (some ⟨N + 2, 0, none⟩), .pointer (some ⟨N + 4, 0, none⟩)]) := hput.cell 0
 have hds := decCells_size d
 simp only [putCaps, List.append_toArray, List.nil_append, List.cons_append] at hc
 have HC := Lib.hid hc
 clear hc hd hput
 go_enter Tryz.func109, Tryz.ntmps109
 go_wp2_with (first
  | (refine wpList_load_box rfl 104 _ rfl rfl hL ?_)
  | (go_at_call 106; (with_reducible refine HC.out.mono ?_); rintro e w5 ⟨rfl, h3⟩; have H3 := Lib.hid h3; clear h3))
 go_end0
 exact ⟨rfl, H3.out⟩
set_option maxRecDepth 100000 in
set_option maxHeartbeats 1000000 in
theorem refute2_pan (d : Dec) (N : Nat) (W : World) (G : World → Prop) (hd : Box W (N + 1) (decCells d) 104) (hput : Box W (N + 4) #[.func (.func 106) #[] (putCaps N)] 160)
  (hc : Calls Tryz.prog 106 (#[.agg (decCells d), .slice none 0 0, .int .i64 0] ++ putCaps N) W fun e W' => e = .panicked [{ v := unproved, recovered := false }] ∧ G W') :
  Calls Tryz.prog 109 #[.pointer (some ⟨N + 4, 0, none⟩), .pointer (some ⟨N + 1, 0, none⟩)] W fun e W' => e = .panicked [{ v := unproved, recovered := false }] ∧ G W' := by
 have hL := run_load_row (P := Tryz.prog) hd Tryz.underlying104 rfl (dec_info _)
 have e1 : W.cell? ⟨N + 4, 0, none⟩ = some (.func (.func 106) #[] #[.pointer (some ⟨N, 0, none⟩), .pointer (some ⟨N + 3, 0, none⟩), .pointer (some ⟨N + 2, 0, none⟩), .pointer (some ⟨N + 4, 0, none⟩)]) := hput.cell 0
 have hds := decCells_size d
 simp only [putCaps, List.append_toArray, List.nil_append, List.cons_append] at hc
 have HC := Lib.hid hc
 clear hc hd hput
 go_enter Tryz.func109, Tryz.ntmps109
 go_wp2_with (first
  | (refine wpList_load_box rfl 104 _ rfl rfl hL ?_)
  | (go_at_call 106; (with_reducible refine HC.out.mono ?_); rintro e w5 ⟨rfl, h3⟩; have H3 := Lib.hid h3; clear h3))
 exact ⟨rfl, rfl, H3.out⟩
set_option maxRecDepth 100000 in
set_option maxHeartbeats 2000000 in
theorem refute_any (c : Cs) (hn8 : c.parts.length ≤ 8) (hlim : 0 ≤ c.limit ∧ c.limit ≤ 40) (pa : Option Addr) (pc bb : Nat) (w : World) (hparts : PartsAt w pa c.parts) (hben : Box w bb (csCells c pa pc) 88) (d : Dec) (hd : ∀ a b, d a b ≤ 3)
  (order : List Nat) (ho8 : order.length ≤ 8) (hord : ∀ x ∈ order, x < c.parts.length) (oa : Option Addr) (oc : Nat) (hoi : Ints w oa (natInts order)) (hoc : order.length ≤ oc) :
  Calls Tryz.prog 75 #[.pointer (some ⟨bb, 0, none⟩), .agg (decCells d), .slice oa order.length oc] w (RefutePost (putM c c.parts.length order d []) w) := by
 have hmf := run_mf Tryz.prog
 have hds := decCells_size d
 go_enter Tryz.func75, Tryz.ntmps75
 go_upto_region 4 with fail
 have hB : Below w.heap.size w (((((w.alloc (.cells #[.pointer (some ⟨bb, 0, none⟩)] 72)).alloc (.cells (decCells d) 104)).alloc (.cells #[.slice oa order.length oc] 27)).alloc (.cells #[.slice none 0 0] 37)).alloc (.cells #[.func (.func 106) #[] #[.pointer (some ⟨w.heap.size, 0, none⟩), .pointer (some ⟨w.heap.size + 1 + 1 + 1, 0, none⟩), .pointer (some ⟨w.heap.size + 1 + 1, 0, none⟩), .pointer (some ⟨w.heap.size + 1 + 1 + 1 + 1, 0, none⟩)]] 160)) := by go_grown
 have b0 : Box (((((w.alloc (.cells #[.pointer (some ⟨bb, 0, none⟩)] 72)).alloc (.cells (decCells d) 104)).alloc (.cells #[.slice oa order.length oc] 27)).alloc (.cells #[.slice none 0 0] 37)).alloc (.cells #[.func (.func 106) #[] #[.pointer (some ⟨w.heap.size, 0, none⟩), .pointer (some ⟨w.heap.size + 1 + 1 + 1, 0, none⟩), .pointer (some ⟨w.heap.size + 1 + 1, 0, none⟩), .pointer (some ⟨w.heap.size + 1 + 1 + 1 + 1, 0, none⟩)]] 160)) w.heap.size #[.pointer (some ⟨bb, 0, none⟩)] 72 := ((((Box.new _ _ _).alloc _).alloc _).alloc _).alloc _
 have b1 : Box (((((w.alloc (.cells #[.pointer (some ⟨bb, 0, none⟩)] 72)).alloc (.cells (decCells d) 104)).alloc (.cells #[.slice oa order.length oc] 27)).alloc (.cells #[.slice none 0 0] 37)).alloc (.cells #[.func (.func 106) #[] #[.pointer (some ⟨w.heap.size, 0, none⟩), .pointer (some ⟨w.heap.size + 1 + 1 + 1, 0, none⟩), .pointer (some ⟨w.heap.size + 1 + 1, 0, none⟩), .pointer (some ⟨w.heap.size + 1 + 1 + 1 + 1, 0, none⟩)]] 160)) (w.heap.size + 1) (decCells d) 104 := (((Box.new' (by simp)).alloc _).alloc _).alloc _
 have b2 : Box (((((w.alloc (.cells #[.pointer (some ⟨bb, 0, none⟩)] 72)).alloc (.cells (decCells d) 104)).alloc (.cells #[.slice oa order.length oc] 27)).alloc (.cells #[.slice none 0 0] 37)).alloc (.cells #[.func (.func 106) #[] #[.pointer (some ⟨w.heap.size, 0, none⟩), .pointer (some ⟨w.heap.size + 1 + 1 + 1, 0, none⟩), .pointer (some ⟨w.heap.size + 1 + 1, 0, none⟩), .pointer (some ⟨w.heap.size + 1 + 1 + 1 + 1, 0, none⟩)]] 160)) (w.heap.size + 2) #[.slice oa order.length oc] 27 := ((Box.new' (by simp)).alloc _).alloc _
 have b3 : Box (((((w.alloc (.cells #[.pointer (some ⟨bb, 0, none⟩)] 72)).alloc (.cells (decCells d) 104)).alloc (.cells #[.slice oa order.length oc] 27)).alloc (.cells #[.slice none 0 0] 37)).alloc (.cells #[.func (.func 106) #[] #[.pointer (some ⟨w.heap.size, 0, none⟩), .pointer (some ⟨w.heap.size + 1 + 1 + 1, 0, none⟩), .pointer (some ⟨w.heap.size + 1 + 1, 0, none⟩), .pointer (some ⟨w.heap.size + 1 + 1 + 1 + 1, 0, none⟩)]] 160)) (w.heap.size + 3) #[.slice none 0 0] 37 := (Box.new' (by simp)).alloc _
 have b4 : Box (((((w.alloc (.cells #[.pointer (some ⟨bb, 0, none⟩)] 72)).alloc (.cells (decCells d) 104)).alloc (.cells #[.slice oa order.length oc] 27)).alloc (.cells #[.slice none 0 0] 37)).alloc (.cells #[.func (.func 106) #[] #[.pointer (some ⟨w.heap.size, 0, none⟩), .pointer (some ⟨w.heap.size + 1 + 1 + 1, 0, none⟩), .pointer (some ⟨w.heap.size + 1 + 1, 0, none⟩), .pointer (some ⟨w.heap.size + 1 + 1 + 1 + 1, 0, none⟩)]] 160)) (w.heap.size + 4) #[.func (.func 106) #[] (putCaps w.heap.size)] 160 := Box.new' (by simp)
 have hs1 : ((((((w.alloc (.cells #[.pointer (some ⟨bb, 0, none⟩)] 72)).alloc (.cells (decCells d) 104)).alloc (.cells #[.slice oa order.length oc] 27)).alloc (.cells #[.slice none 0 0] 37)).alloc (.cells #[.func (.func 106) #[] #[.pointer (some ⟨w.heap.size, 0, none⟩), .pointer (some ⟨w.heap.size + 1 + 1 + 1, 0, none⟩), .pointer (some ⟨w.heap.size + 1 + 1, 0, none⟩), .pointer (some ⟨w.heap.size + 1 + 1 + 1 + 1, 0, none⟩)]] 160))).heap.size = w.heap.size + 5 := by simp
 generalize (((((w.alloc (.cells #[.pointer (some ⟨bb, 0, none⟩)] 72)).alloc (.cells (decCells d) 104)).alloc (.cells #[.slice oa order.length oc] 27)).alloc (.cells #[.slice none 0 0] 37)).alloc (.cells #[.func (.func 106) #[] #[.pointer (some ⟨w.heap.size, 0, none⟩), .pointer (some ⟨w.heap.size + 1 + 1 + 1, 0, none⟩), .pointer (some ⟨w.heap.size + 1 + 1, 0, none⟩), .pointer (some ⟨w.heap.size + 1 + 1 + 1 + 1, 0, none⟩)]] 160)) = w1 at *
 have hst : RfSt c pa pc bb w.heap.size oa oc order w [] w1 := ⟨hB, hben.below hB hben.lt, b0, b2, b4, .slice none 0 0, [], rfl, b3, ownsRow_nil _ _ _ _, by simp⟩
 have hBt : Below w1.heap.size w1 (w1.alloc (.cells #[.bool false] 4)) := (Below.refl _ _).alloc (Nat.le_refl _) _
 have hst2 := hst.below hBt
 have gb : Box (w1.alloc (.cells #[.bool false] 4)) w1.heap.size #[.bool false] 4 := Box.new _ _ _
 have hsb := hst.newBox hBt gb (Nat.le_refl _)
 have ih := put_any hn8 hparts rfl hben.lt ho8 hord hlim hoi hoc order hord d [] 0 [] none 0 (w1.alloc (.cells #[.bool false] 4)) rfl (Nat.zero_le _) hd (by simp) (by simpa using ho8) (by
  have h1 := bnd_le (m := 0) ho8
  have h2 := bnd_eight
  simp only [List.length_nil, Nat.zero_add]; omega) (Nat.le_refl _) hst2 (StayInts.nil _ _ _)
 have hd1 := b1.below' hBt
 have hp1 := b4.below' hBt
 have hent : ∀ args W, (callFunc 109 args).run Tryz.prog W = .ok (.enter 109 args) W := enters_of Tryz.func109 (by kernel_rfl) rfl
 rw [hs1] at hsb
 rcases hm : putM c c.parts.length order d [] with _ | x
 ·have htr := tried_any 109 #[.pointer (some ⟨w.heap.size + 4, 0, none⟩), .pointer (some ⟨w.heap.size + 1, 0, none⟩)] w1 (fun _ => False) (fun W => RfKeep (w.heap.size + 3) (w1.alloc (.cells #[.bool false] 4)) W) hent
   ((refute2_pan d w.heap.size _ (fun W => RfKeep (w.heap.size + 3) (w1.alloc (.cells #[.bool false] 4)) W) hd1 hp1 (ih.mono fun e W ⟨hk, h⟩ => by rw [hm] at h; exact ⟨h, hk⟩)).mono fun e W ⟨he, hk⟩ => ⟨by rw [hs1]; exact (hsb.keep hk).1, .inr ⟨he, hk⟩⟩)
  have hpo : Calls Tryz.prog 92 #[.func (.func 109) #[] #[.pointer (some ⟨w.heap.size + 4, 0, none⟩), .pointer (some ⟨w.heap.size + 1, 0, none⟩)]] w1 fun e w3 => e = .returned (.bool false) ∧ Below w.heap.size w w3 := htr.mono fun e w3 h => by
   rcases h with ⟨_, W, h, _⟩ | ⟨rfl, W, hk, hk2⟩
   ·exact h.elim
   ·obtain ⟨u, hu⟩ := hst2.out
    have k1 := hk.1.mono fun k (hk : k < w.heap.size) => ⟨by omega, fun hb => by have := (hu.blk hb).1; omega⟩
    have k2 := hk2.mono fun k (hk : k < w.heap.size) => by omega
    exact ⟨rfl, hst2.old.trans ((k1.trans k2).below hst2.old.size)⟩
  have HPO := Lib.hid hpo
  have HM := Lib.hid hm
  clear ih htr hst hst2 hB b0 b1 b2 b3 b4 gb hsb hd1 hp1 hBt hm hs1 hpo
  go_wp2_with (go_at_call 92; (with_reducible refine HPO.out.mono ?_); rintro e w3 ⟨rfl, hb⟩; have HB := Lib.hid hb; clear hb)
  go_ret
  exact ⟨HB.out, .inl ⟨HM.out, rfl⟩⟩
 ·have htr := tried_any 109 #[.pointer (some ⟨w.heap.size + 4, 0, none⟩), .pointer (some ⟨w.heap.size + 1, 0, none⟩)] w1 (fun W => RfKeep (w.heap.size + 3) (w1.alloc (.cells #[.bool false] 4)) W ∧ RfSt c pa pc bb w.heap.size oa oc order w x W) (fun _ => False) hent
   ((refute2_ret d w.heap.size _ (fun W => RfKeep (w.heap.size + 3) (w1.alloc (.cells #[.bool false] 4)) W ∧ RfSt c pa pc bb w.heap.size oa oc order w x W) hd1 hp1 (ih.mono fun e W ⟨hk, h⟩ => by rw [hm] at h; exact ⟨h.1, hk, by simpa using h.2⟩)).mono fun e W ⟨he, hk, hs⟩ => ⟨by rw [hs1]; exact (hsb.keep hk).1, .inl ⟨he, hk, hs⟩⟩)
  have hpo : Calls Tryz.prog 92 #[.func (.func 109) #[] #[.pointer (some ⟨w.heap.size + 4, 0, none⟩), .pointer (some ⟨w.heap.size + 1, 0, none⟩)]] w1 fun e w3 => ∃ a cap, e = .returned (.bool true) ∧ Box w3 (w.heap.size + 3) #[.slice a x.length cap] 37 ∧ BrsO w.heap.size w3 a x ∧ x.length ≤ cap ∧ Below w.heap.size w w3 := htr.mono fun e w3 h => by
   rcases h with ⟨rfl, W, ⟨hk, hs⟩, hk2⟩ | ⟨_, W, h, _⟩
   ·have hst3 := hsb.keep hk
    rw [hs1] at hk2
    obtain ⟨v, hv⟩ := hs.out
    have hv1 := (hv.raise hst3.1 (fun i h => by cases h) hst3.2.2).keep hk2 (by omega) (fun k hk => by omega)
    obtain ⟨a, cap, rfl, hbr, hcap⟩ := hv1.own (by omega)
    replace hbr := hbr.less (B' := w.heap.size) (by omega)
    exact ⟨a, cap, rfl, hv1.box, hbr, hcap, hs.old.trans ((hk2.mono fun k (hk : k < w.heap.size) => by omega).below hs.old.size)⟩
   ·exact h.elim
  have HPO := Lib.hid hpo
  have HM := Lib.hid hm
  clear ih htr hst hst2 hB b0 b1 b2 b3 b4 gb hsb hd1 hp1 hBt hm hs1 hpo
  go_wp2_with (go_at_call 92; (with_reducible refine HPO.out.mono ?_); rintro e w3 ⟨a, cap, rfl, hbx, hbr, hcap, hb⟩; have u1 := hbx.cell; have HB := Lib.hid hb; have HBR := Lib.hid hbr; clear hb hbr hbx)
  go_ret
  exact ⟨HB.out, .inr ⟨x, a, cap, HM.out, rfl, HBR.out, hcap⟩⟩
end Go.Proofs.YtpjcnkajimgagaaGreat
namespace Go.Proofs.YtpjcnkajimgagaaGreat
open Go.RowKit
attribute [local go_sem] Oper.semAt_some

def ordTo (x y : Nat) (t : Bool) (i : Nat) : List Nat := x :: (List.range i).filter fun p => p != x && (p != y || !t)
def refuteR (c : Cs) (x y : Nat) (t : Bool) : Option (List Br) :=
 if t && clashB c x y then some [⟨2, (x : Int), (y : Int), []⟩] else if !t && x == y then some [⟨3, (x : Int), (y : Int), []⟩] else putM c c.parts.length (ordTo x y t c.parts.length) (beginD x y t) []
def RefuteOut (er : Int) (found : Bool) (o : Option (List Br)) (w : World) (e : Ending) (w' : World) : Prop :=
 Below w.heap.size w w' ∧ ((er ≠ 0 ∧ e = .returned (.tuple #[.slice none 0 0, .bool false, .int .i64 er])) ∨ (er = 0 ∧ found = true ∧ e = .returned (.tuple #[.slice none 0 0, .bool false, .int .i64 0])) ∨
  (er = 0 ∧ found = false ∧ o = none ∧ e = .returned (.tuple #[.slice none 0 0, .bool true, .int .i64 0])) ∨
  (er = 0 ∧ found = false ∧ ∃ x a cap, o = some x ∧ e = .returned (.tuple #[.slice a x.length cap, .bool true, .int .i64 0]) ∧ BrsO w.heap.size w' a x ∧ x.length ≤ cap))
theorem ordTo_succ (x y : Nat) (t : Bool) (i : Nat) : ordTo x y t (i + 1) = ordTo x y t i ++ (if i != x && (i != y || !t) then [i] else []) := by
 unfold ordTo
 rw [List.range_succ, List.filter_append, List.cons_append]
 congr 2
 by_cases h : (i != x && (i != y || !t)) = true
 ·simp [List.filter_cons, h]
 ·simp [List.filter_cons, h]
theorem ordTo_len (x y : Nat) (t : Bool) (i : Nat) : (ordTo x y t i).length ≤ i + 1 := by
 have := List.length_filter_le (fun p => p != x && (p != y || !t)) (List.range i)
 simp [ordTo] at this ⊢; exact this
theorem ordTo_lt {x y n : Nat} {t : Bool} (hx : x < n) : ∀ p ∈ ordTo x y t n, p < n := by
 intro p hp
 simp only [ordTo, List.mem_cons, List.mem_filter, List.mem_range] at hp
 rcases hp with rfl | hp
 ·exact hx
 ·exact hp.1
/-- at most eight: x itself stands in front -/
theorem ordTo_len' {x y n : Nat} {t : Bool} (hx : x < n) : (ordTo x y t n).length ≤ n := by
 have h1 : ((List.range n).filter fun p => p != x).length = n - 1 := by
  rw [← List.Nodup.erase_eq_filter List.nodup_range, List.length_erase_of_mem (List.mem_range.2 hx), List.length_range]
 have h2 : ((List.range n).filter fun p => p != x && (p != y || !t)) = ((List.range n).filter fun p => p != x).filter fun p => p != y || !t := by
  rw [List.filter_filter]; congr 1; funext p; exact Bool.and_comm _ _
 have h3 := List.length_filter_le (fun p => p != y || !t) ((List.range n).filter fun p => p != x)
 rw [ordTo, List.length_cons, h2]
 omega
theorem brs_lit {w : World} {g k : Nat} {x y : Int} (h : Box w g #[.int .u8 (k : Int), .int .i64 x, .int .i64 y, .slice none 0 0] 69) : BrsAt w (some ⟨g, 0, none⟩) [⟨k, x, y, []⟩] := by
 intro j z hz
 rcases j with _ | j
 ·simp at hz; subst hz
  refine ⟨g, 0, rfl, none, 0, ?_, ?_, ?_, ?_, Ints.nil _ _, Nat.le_refl _⟩
  ·have := h.cell 0; simpa using this
  ·have := h.cell 1; simpa using this
  ·have := h.cell 2; simpa using this
  ·have := h.cell 3; simpa using this
 ·simp at hz
theorem brs_litO {B : Nat} {w : World} {g k : Nat} {x y : Int} (hg : B ≤ g) (h : Box w g #[.int .u8 (k : Int), .int .i64 x, .int .i64 y, .slice none 0 0] 69) : BrsO B w (some ⟨g, 0, none⟩) [⟨k, x, y, []⟩] := fun W2 h2 => brs_lit (h2.heap hg h)
theorem ownsRow_lit {w : World} {base g : Nat} {x : Int} (h : Box w g #[.int .i64 x] 3) (hb : base ≤ g) : w.ownsRow base 3 1 (.slice (some ⟨g, 0, none⟩) 1 1) 1 [.int .i64 x] :=
 ⟨by simp, .inr ⟨g, 1, #[.int .i64 x], rfl, hb, h, Nat.le_refl _, by unfold maxLen; omega, rfl, rfl⟩⟩
set_option maxRecDepth 100000 in
set_option maxHeartbeats 2000000 in
theorem refuteF_any (c : Cs) (hsm : c.Small) (pa : Option Addr) (pc : Nat) (x y : Int) (t : Bool) (w : World) (hp : PartsAt w pa c.parts) :
  Calls Tryz.prog 30 #[.agg #[.string c.ware, .int .i64 c.limit, .int .i64 c.by_, .slice pa c.parts.length pc], .int .i64 x, .int .i64 y, .bool t] w
   (RefuteOut (openErr c [x, y]) ((allR c).find? (asPair x.toNat y.toNat t)).isSome (refuteR c x.toNat y.toNat t) w) := by
 have hmf := run_mf Tryz.prog
 obtain ⟨w4, hw4⟩ : ∃ w4, boxed4 w c pa pc x y t = w4 := ⟨_, rfl⟩
 have hsz := boxed4_size w c pa pc x y t
 have hB4 := boxed4_below w c pa pc x y t
 have bc := boxed4_c w c pa pc x y t
 have bx := boxed4_x w c pa pc x y t
 have b_y := boxed4_y w c pa pc x y t
 have bt := boxed4_t w c pa pc x y t
 rw [hw4] at hsz hB4 bc bx b_y bt
 have e0 : ∀ i, w4.cell? ⟨w.heap.size, i, none⟩ = (#[.string c.ware, .int .i64 c.limit, .int .i64 c.by_, .slice pa c.parts.length pc] : Array Value)[i]? := bc.cell
 have e1 := bx.cell
 have e2 := b_y.cell
 have hlt : w.heap.size + 3 < w4.heap.size := by omega
 unfold boxed4 at hw4
 have hB5 : Below w.heap.size w (w4.alloc (.cells #[.int .i64 x, .int .i64 y] 3)) := hB4.alloc (by omega) _
 have ho := opened_any c hsm pa pc [x, y] (some ⟨w4.heap.size, 0, none⟩) 2 (w4.alloc (.cells #[.int .i64 x, .int .i64 y] 3)) (hp.below hB5) (pair_ints _ _ _ _) (by simp)
 simp only [List.length_cons, List.length_nil, Nat.zero_add, Nat.reduceAdd] at ho
 rw [hsz] at ho
 have HP := Lib.hid hp
 have BX := Lib.hid bx
 have BY := Lib.hid b_y
 have BT := Lib.hid bt
 have HW := Lib.hid hw4
 clear hp bc bx b_y bt hw4
 by_cases hz : openErr c [x, y] = 0
 ·have hoo := opened_good ho hz
  have h8 := check_small hz
  have hlm := check_lim (open_check hz)
  have hx := open_in hz x (by simp)
  have hy := open_in hz y (by simp)
  obtain ⟨a, rfl⟩ := Int.eq_ofNat_of_zero_le hx.1
  obtain ⟨b, rfl⟩ := Int.eq_ofNat_of_zero_le hy.1
  simp only [Int.toNat_natCast]
  have HO := Lib.hid hoo
  have HZ := Lib.hid hz
  clear ho hoo hz
  rcases hfi : (allR c).find? (asPair a b t) with _ | l
  ·rcases ht : t with _ | _
   ·subst ht
    by_cases hab : a = b
    ·have HR := Lib.hid (show refuteR c a b false = some [⟨3, (a : Int), (b : Int), []⟩] by simp [refuteR, hab])
     have hbt : ((a : Int) == (b : Int)) = true := by simp [hab]
     have hbt2 : (a == b) = true := by simp [hab]
     clear hab
     go_enter Tryz.func30, Tryz.ntmps30
     go_upto_region 1 with fail
     simp only [HW.out, Nat.add_assoc, Nat.reduceAdd]
     go_upto_region 4 with (go_at_call 47; (with_reducible refine HO.out.mono ?_); rintro e w' ⟨bb, rfl, hbb, hbx, hb⟩; have HBO := Lib.hid hb; have HBX := Lib.hid hbx; clear hbx hb)
     have HX := Lib.hid ((BX.out.alloc (.cells #[.int .i64 a, .int .i64 b] 3)).below' HBO.out)
     have HY := Lib.hid ((BY.out.alloc (.cells #[.int .i64 a, .int .i64 b] 3)).below' HBO.out)
     have HT := Lib.hid ((BT.out.alloc (.cells #[.int .i64 a, .int .i64 b] 3)).below' HBO.out)
     have HB := Lib.hid (hB5.trans (HBO.out.mono hB5.size))
     have HF := Lib.hid (find_none (find_any c _ rfl h8 pa pc _ (HP.out.below HB.out) bb HBX.out _ _ _ (refuteFn_holds _ a b _ _ _ _ _ (by omega) (by omega) HX.out HY.out HT.out)) hfi)
     go_upto_region 7 with (go_at_call 70; (with_reducible refine HF.out.mono ?_); rintro e w2 ⟨rfl, hb2⟩)
     have HB2 := Lib.hid (HB.out.trans (hb2.mono HB.out.size))
     have x3 := (HT.out.below' hb2).cell
     have HBX2 := Lib.hid (HBX.out.below' hb2)
     have HX2 := Lib.hid (HX.out.below' hb2)
     have HY2 := Lib.hid (HY.out.below' hb2)
     have HT2 := Lib.hid (HT.out.below' hb2)
     have HP2 := Lib.hid (HP.out.below HB2.out)
     clear hb2 HBX HX HY HT HF HB HBO
     have x1 := HX2.out.cell
     have x2 := HY2.out.cell
     go_wp2_with fail
     go_ret3
     exact ⟨(HB2.out.alloc HB2.out.size _), .inr (.inr (.inr ⟨HZ.out, rfl, _, _, _, HR.out, rfl, brs_litO HB2.out.size (Box.new _ _ _), by simp⟩))⟩
    ·have HR := Lib.hid (show refuteR c a b false = putM c c.parts.length (ordTo a b false c.parts.length) (beginD a b false) [] by simp [refuteR, hab])
     have hne : ((a : Int) == (b : Int)) = false := by simp; omega
     have hne2 : (a == b) = false := by simpa using hab
     clear hab
     go_enter Tryz.func30, Tryz.ntmps30
     go_upto_region 1 with fail
     simp only [HW.out, Nat.add_assoc, Nat.reduceAdd]
     go_upto_region 4 with (go_at_call 47; (with_reducible refine HO.out.mono ?_); rintro e w' ⟨bb, rfl, hbb, hbx, hb⟩; have HBO := Lib.hid hb; have HBX := Lib.hid hbx; clear hbx hb)
     have HX := Lib.hid ((BX.out.alloc (.cells #[.int .i64 a, .int .i64 b] 3)).below' HBO.out)
     have HY := Lib.hid ((BY.out.alloc (.cells #[.int .i64 a, .int .i64 b] 3)).below' HBO.out)
     have HT := Lib.hid ((BT.out.alloc (.cells #[.int .i64 a, .int .i64 b] 3)).below' HBO.out)
     have HB := Lib.hid (hB5.trans (HBO.out.mono hB5.size))
     have HF := Lib.hid (find_none (find_any c _ rfl h8 pa pc _ (HP.out.below HB.out) bb HBX.out _ _ _ (refuteFn_holds _ a b _ _ _ _ _ (by omega) (by omega) HX.out HY.out HT.out)) hfi)
     go_upto_region 7 with (go_at_call 70; (with_reducible refine HF.out.mono ?_); rintro e w2 ⟨rfl, hb2⟩)
     have HB2 := Lib.hid (HB.out.trans (hb2.mono HB.out.size))
     have x3 := (HT.out.below' hb2).cell
     have HBX2 := Lib.hid (HBX.out.below' hb2)
     have HX2 := Lib.hid (HX.out.below' hb2)
     have HY2 := Lib.hid (HY.out.below' hb2)
     have HT2 := Lib.hid (HT.out.below' hb2)
     have HP2 := Lib.hid (HP.out.below HB2.out)
     clear hb2 HBX HX HY HT HF HB HBO
     have x1 := HX2.out.cell
     have x2 := HY2.out.cell
     go_upto_region 11 with fail
     obtain ⟨w3, hw3⟩ : ∃ w3, w3 = w2 := ⟨_, rfl⟩
     subst hw3
     have HB3 := HB2
     have HBX3 := HBX2
     have HX3 := HX2
     have HY3 := HY2
     have HT3 := HT2
     have HP3 := HP2
     clear hne hne2 HB2 HBX2 HX2 HY2 HT2 HP2
     go_upto_region 12 with fail
     have ho5 : (w3.alloc (.cells #[.int .i64 a] 3)).ownsRow w3.heap.size 3 1 (.slice (some ⟨w3.heap.size, 0, none⟩) 1 1) 1 [.int .i64 a] := ownsRow_lit (Box.new _ _ _) (Nat.le_refl _)
     have hb5 : Below w3.heap.size w3 (w3.alloc (.cells #[.int .i64 a] 3)) := (Below.refl _ _).alloc (Nat.le_refl _) _
     generalize w3.alloc (.cells #[.int .i64 a] 3) = w5 at *
     clear x1 x2 x3
     have y1 := (HBX3.out.below' hb5).cell 3
     simp only [csCells, List.getElem?_toArray, List.getElem?_cons_succ, List.getElem?_cons_zero] at y1
     have HO5 := Lib.hid ho5
     have HB5 := Lib.hid hb5
     clear ho5 hb5
     go_wp2_with fail
     clear y1
     go_loopw [15, 67] (fun ov iv wr => ∃ i : Nat, i ≤ c.parts.length ∧ iv = .int .i64 i ∧ wr.ownsRow w3.heap.size 3 1 ov (ordTo a b false i).length ((natInts (ordTo a b false i)).map (Value.int .i64)) ∧ Below w3.heap.size w3 wr) (fun _ iv _ => c.parts.length - (intOf iv).toNat)
     case atStart => exact ⟨0, Nat.zero_le _, rfl, by simpa [ordTo, natInts] using HO5.out, HB5.out⟩
     case round =>
      obtain ⟨i, hi, rfl, how, hbw⟩ := hrel
      have z1 := (HX3.out.below' hbw).cell
      have z2 := (HY3.out.below' hbw).cell
      have z3 := (HT3.out.below' hbw).cell
      by_cases hin : i < c.parts.length
      ·have HOW := Lib.hid how
       have HBW := Lib.hid hbw
       clear how hbw
       rcases hq : (i != a && (i != b || !false)) with _ | _
       ·have hord : ordTo a b false (i + 1) = ordTo a b false i := by rw [ordTo_succ, hq]; simp
        have HORD := Lib.hid hord
        clear hord
        by_cases hia : i = a
        ·have q1 : ((i : Int) != (a : Int)) = false := by simp [hia]
         have q2 : (i != a) = false := by simp [hia]
         clear hia hq
         go_wp2_with fail
         go_roundw
         case rel => exact ⟨i + 1, by omega, by go_num, by rw [HORD.out]; exact HOW.out, HBW.out⟩
         case measure => simp [intOf]; omega
        ·have q1 : ((i : Int) != (a : Int)) = true := by simp; omega
         have q2 : (i != a) = true := by simp; omega
         exfalso
         simp at hq
         omega
       ·obtain ⟨a5, c5, rfl, hro, hcap⟩ := ownsRow_own HOW.out
        obtain ⟨v', U, hrun, hown, hg, _⟩ := run_append_row (P := Tryz.prog) (wr.alloc (.cells #[.int .i64 i] 3)) w3.heap.size 27 27 3 (.int .i64 0) 1 8 Tryz.underlying27 info_int rfl (by omega)
         _ _ _ (ownsRow_keep HOW.out ((Keep.refl (fun _ => True) wr).alloc (.cells #[.int .i64 i] 3)) (fun _ _ => trivial)) (some ⟨wr.heap.size, 0, none⟩) 1 1 [.int .i64 i] rfl (row_one (Box.new wr _ _)) (by simp [Value.oneCell']) (by have := ordTo_len a b false i; omega) (by omega) (by have := HBW.out.size; simp; omega)
        have hord : ordTo a b false (i + 1) = ordTo a b false i ++ [i] := by rw [ordTo_succ, hq]; simp
        have hbU : Below w3.heap.size w3 U := (HBW.out.alloc HBW.out.size (.cells #[.int .i64 i] 3)).trans (grown_below (ownsRow_keep HOW.out ((Keep.refl (fun _ => True) wr).alloc (.cells #[.int .i64 i] 3)) (fun _ _ => trivial)) hg (Nat.le_refl _) (by have := HBW.out.size; simp; omega))
        have HR5 := Lib.hid hrun
        have HOU := Lib.hid hown
        have HBU := Lib.hid hbU
        have HORD := Lib.hid hord
        have hq1 : i ≠ a := by intro h; simp [h] at hq
        have q1 : ((i : Int) != (a : Int)) = true := by simp; omega
        have q2 : (i != a) = true := by simp; omega
        rcases hqb : ((i : Int) != (b : Int)) with _ | _
        all_goals
         clear hrun hown hbU hg hro hord hq1 hq
         go_wp2_with (at_builtin; refine wpList_app rfl _ _ _ rfl rfl rfl HR5.out ?_)
         go_roundw
         case rel => exact ⟨i + 1, by omega, by go_num, by rw [HORD.out, List.length_append, natInts_snoc, List.map_append]; exact HOU.out, HBU.out⟩
         case measure => simp [intOf]; omega
      ·have hie : i = c.parts.length := by omega
       subst hie
       obtain ⟨a5, c5, rfl, hro, hcap⟩ := ownsRow_own how
       have hol := ordTo_len' (y := b) (t := false) (show a < c.parts.length by omega)
       have hrf : ∀ A, Below wr.heap.size wr A → Calls Tryz.prog 75 #[.pointer (some ⟨bb, 0, none⟩), .agg (decCells (beginD a b false)), .slice a5 (ordTo a b false c.parts.length).length c5] A (RefutePost (putM c c.parts.length (ordTo a b false c.parts.length) (beginD a b false) []) A) := fun A hA =>
        refute_any c h8 hlm pa pc bb A (HP3.out.below (hbw.trans (hA.mono hbw.size))) (HBX3.out.below' (hbw.trans (hA.mono hbw.size))) (beginD a b false) (beginD_le a b false) (ordTo a b false c.parts.length) (by omega) (ordTo_lt (by omega)) a5 c5 ((ints_rowOwn hro).below hA) hcap
       have HRF := Lib.hid hrf
       have HBW := Lib.hid (HB3.out.trans (hbw.mono HB3.out.size))
       have hwl := HBW.out.size
       clear hrf hro hbw how hcap hol
       rcases hm : putM c c.parts.length (ordTo a b false c.parts.length) (beginD a b false) [] with _ | xs
       ·have HRN : Hid (∀ A, Below wr.heap.size wr A → Calls Tryz.prog 75 #[.pointer (some ⟨bb, 0, none⟩), .agg (decCells (beginD a b false)), .slice a5 (ordTo a b false c.parts.length).length c5] A fun e A' => e = .returned (.slice none 0 0) ∧ Below A.heap.size A A') := Lib.hid (fun A hA => (HRF.out A hA).mono fun e A' ⟨h1, h2⟩ => by
         rcases h2 with ⟨_, he⟩ | ⟨x, _, _, hx, _⟩
         ·exact ⟨he, h1⟩
         ·rw [hm] at hx; cases hx)
        have HM := Lib.hid hm
        clear hm
        go_wp2_with (first
         | (go_at_call 52; (with_reducible refine (begin_any a b false _ (by omega) (by omega)).mono ?_); rintro e w6 ⟨rfl, hb6⟩; have HB6 := Lib.hid hb6; clear hb6)
         | (go_at_call 75; (with_reducible refine (HRN.out _ HB6.out).mono ?_); rintro e w7 ⟨rfl, hb7⟩; have HB7 := Lib.hid hb7; clear hb7))
        go_ret3
        have hb67 := HB6.out.trans (HB7.out.mono HB6.out.size)
        exact ⟨HBW.out.trans (hb67.mono HBW.out.size), .inr (.inr (.inl ⟨HZ.out, rfl, by rw [HR.out]; exact HM.out, rfl⟩))⟩
       ·have HRN : Hid (∀ A, Below wr.heap.size wr A → Calls Tryz.prog 75 #[.pointer (some ⟨bb, 0, none⟩), .agg (decCells (beginD a b false)), .slice a5 (ordTo a b false c.parts.length).length c5] A fun e A' => ∃ a7 c7, e = .returned (.slice a7 xs.length c7) ∧ BrsO A.heap.size A' a7 xs ∧ xs.length ≤ c7 ∧ Below A.heap.size A A') := Lib.hid (fun A hA => (HRF.out A hA).mono fun e A' ⟨h1, h2⟩ => by
         rcases h2 with ⟨hx, _⟩ | ⟨x, a7, c7, hx, he, h3, h4⟩
         ·rw [hm] at hx; cases hx
         ·rw [hm] at hx; cases hx; exact ⟨a7, c7, he, h3, h4, h1⟩)
        have HM := Lib.hid hm
        clear hm
        go_wp2_with (first
         | (go_at_call 52; (with_reducible refine (begin_any a b false _ (by omega) (by omega)).mono ?_); rintro e w6 ⟨rfl, hb6⟩; have HB6 := Lib.hid hb6; clear hb6)
         | (go_at_call 75; (with_reducible refine (HRN.out _ HB6.out).mono ?_); rintro e w7 ⟨a7, c7, rfl, hbr7, hc7, hb7⟩; have HB7 := Lib.hid hb7; have HBR := Lib.hid hbr7; clear hb7 hbr7))
        go_ret3
        have hb67 := HB6.out.trans (HB7.out.mono HB6.out.size)
        exact ⟨HBW.out.trans (hb67.mono HBW.out.size), .inr (.inr (.inr ⟨HZ.out, rfl, xs, a7, c7, by rw [HR.out]; exact HM.out, rfl, HBR.out.less (HBW.out.trans (HB6.out.mono HBW.out.size)).size, hc7⟩))⟩
   ·subst ht
    rcases hcl : clashB c a b with _ | _
    ·have hcc : ∀ A bb', Box A bb' (csCells c pa pc) 88 → PartsAt A pa c.parts → Calls Tryz.prog 74 #[.pointer (some ⟨bb', 0, none⟩), .int .i64 a, .int .i64 b] A fun e A' => e = .returned (.bool false) ∧ Below A.heap.size A A' := fun A bb' h1 h2 => by
      have := clash_any c (by omega) bb' a b pa pc A h1 h2 (by omega) (by omega)
      rwa [hcl] at this
     have HCC := Lib.hid hcc
     have HCLF := Lib.hid hcl
     clear hcc hcl
     go_enter Tryz.func30, Tryz.ntmps30
     go_upto_region 1 with fail
     simp only [HW.out, Nat.add_assoc, Nat.reduceAdd]
     go_upto_region 4 with (go_at_call 47; (with_reducible refine HO.out.mono ?_); rintro e w' ⟨bb, rfl, hbb, hbx, hb⟩; have HBO := Lib.hid hb; have HBX := Lib.hid hbx; clear hbx hb)
     have HX := Lib.hid ((BX.out.alloc (.cells #[.int .i64 a, .int .i64 b] 3)).below' HBO.out)
     have HY := Lib.hid ((BY.out.alloc (.cells #[.int .i64 a, .int .i64 b] 3)).below' HBO.out)
     have HT := Lib.hid ((BT.out.alloc (.cells #[.int .i64 a, .int .i64 b] 3)).below' HBO.out)
     have HB := Lib.hid (hB5.trans (HBO.out.mono hB5.size))
     have HF := Lib.hid (find_none (find_any c _ rfl h8 pa pc _ (HP.out.below HB.out) bb HBX.out _ _ _ (refuteFn_holds _ a b _ _ _ _ _ (by omega) (by omega) HX.out HY.out HT.out)) hfi)
     go_upto_region 7 with (go_at_call 70; (with_reducible refine HF.out.mono ?_); rintro e w2 ⟨rfl, hb2⟩)
     have HB2 := Lib.hid (HB.out.trans (hb2.mono HB.out.size))
     have x3 := (HT.out.below' hb2).cell
     have HBX2 := Lib.hid (HBX.out.below' hb2)
     have HX2 := Lib.hid (HX.out.below' hb2)
     have HY2 := Lib.hid (HY.out.below' hb2)
     have HT2 := Lib.hid (HT.out.below' hb2)
     have HP2 := Lib.hid (HP.out.below HB2.out)
     clear hb2 HBX HX HY HT HF HB HBO
     have x1 := HX2.out.cell
     have x2 := HY2.out.cell
     go_upto_region 11 with (go_at_call 74; (with_reducible refine (HCC.out _ _ HBX2.out HP2.out).mono ?_); rintro e w3 ⟨rfl, hb3⟩; have HB3' := Lib.hid hb3; have z3 := (HT2.out.below' hb3).cell; clear hb3)
     have HR := Lib.hid (show refuteR c a b true = putM c c.parts.length (ordTo a b true c.parts.length) (beginD a b true) [] by simp [refuteR, HCLF.out])
     have HB3 := Lib.hid (HB2.out.trans (HB3'.out.mono HB2.out.size))
     have HBX3 := Lib.hid (HBX2.out.below' HB3'.out)
     have HX3 := Lib.hid (HX2.out.below' HB3'.out)
     have HY3 := Lib.hid (HY2.out.below' HB3'.out)
     have HT3 := Lib.hid (HT2.out.below' HB3'.out)
     have HP3 := Lib.hid (HP2.out.below HB3'.out)
     clear z3 x1 x2 x3 HB2 HBX2 HX2 HY2 HT2 HP2 HB3'
     have x1 := HX3.out.cell
     have x2 := HY3.out.cell
     have x3 := HT3.out.cell
     go_upto_region 12 with fail
     have ho5 : (w3.alloc (.cells #[.int .i64 a] 3)).ownsRow w3.heap.size 3 1 (.slice (some ⟨w3.heap.size, 0, none⟩) 1 1) 1 [.int .i64 a] := ownsRow_lit (Box.new _ _ _) (Nat.le_refl _)
     have hb5 : Below w3.heap.size w3 (w3.alloc (.cells #[.int .i64 a] 3)) := (Below.refl _ _).alloc (Nat.le_refl _) _
     generalize w3.alloc (.cells #[.int .i64 a] 3) = w5 at *
     clear x1 x2 x3
     have y1 := (HBX3.out.below' hb5).cell 3
     simp only [csCells, List.getElem?_toArray, List.getElem?_cons_succ, List.getElem?_cons_zero] at y1
     have HO5 := Lib.hid ho5
     have HB5 := Lib.hid hb5
     clear ho5 hb5
     go_wp2_with fail
     clear y1
     go_loopw [15, 67] (fun ov iv wr => ∃ i : Nat, i ≤ c.parts.length ∧ iv = .int .i64 i ∧ wr.ownsRow w3.heap.size 3 1 ov (ordTo a b true i).length ((natInts (ordTo a b true i)).map (Value.int .i64)) ∧ Below w3.heap.size w3 wr) (fun _ iv _ => c.parts.length - (intOf iv).toNat)
     case atStart => exact ⟨0, Nat.zero_le _, rfl, by simpa [ordTo, natInts] using HO5.out, HB5.out⟩
     case round =>
      obtain ⟨i, hi, rfl, how, hbw⟩ := hrel
      have z1 := (HX3.out.below' hbw).cell
      have z2 := (HY3.out.below' hbw).cell
      have z3 := (HT3.out.below' hbw).cell
      by_cases hin : i < c.parts.length
      ·have HOW := Lib.hid how
       have HBW := Lib.hid hbw
       clear how hbw
       rcases hq : (i != a && (i != b || !true)) with _ | _
       ·have hord : ordTo a b true (i + 1) = ordTo a b true i := by rw [ordTo_succ, hq]; simp
        have HORD := Lib.hid hord
        clear hord
        by_cases hia : i = a
        ·have q1 : ((i : Int) != (a : Int)) = false := by simp [hia]
         have q2 : (i != a) = false := by simp [hia]
         clear hia hq
         go_wp2_with fail
         go_roundw
         case rel => exact ⟨i + 1, by omega, by go_num, by rw [HORD.out]; exact HOW.out, HBW.out⟩
         case measure => simp [intOf]; omega
        ·have q1 : ((i : Int) != (a : Int)) = true := by simp; omega
         have q2 : (i != a) = true := by simp; omega
         have hib : i = b := by simp at hq; omega
         have q3 : ((i : Int) != (b : Int)) = false := by simp [hib]
         have q4 : (i != b) = false := by simp [hib]
         clear hia hq hib
         go_wp2_with fail
         go_roundw
         case rel => exact ⟨i + 1, by omega, by go_num, by rw [HORD.out]; exact HOW.out, HBW.out⟩
         case measure => simp [intOf]; omega
       ·obtain ⟨a5, c5, rfl, hro, hcap⟩ := ownsRow_own HOW.out
        obtain ⟨v', U, hrun, hown, hg, _⟩ := run_append_row (P := Tryz.prog) (wr.alloc (.cells #[.int .i64 i] 3)) w3.heap.size 27 27 3 (.int .i64 0) 1 8 Tryz.underlying27 info_int rfl (by omega)
         _ _ _ (ownsRow_keep HOW.out ((Keep.refl (fun _ => True) wr).alloc (.cells #[.int .i64 i] 3)) (fun _ _ => trivial)) (some ⟨wr.heap.size, 0, none⟩) 1 1 [.int .i64 i] rfl (row_one (Box.new wr _ _)) (by simp [Value.oneCell']) (by have := ordTo_len a b true i; omega) (by omega) (by have := HBW.out.size; simp; omega)
        have hord : ordTo a b true (i + 1) = ordTo a b true i ++ [i] := by rw [ordTo_succ, hq]; simp
        have hbU : Below w3.heap.size w3 U := (HBW.out.alloc HBW.out.size (.cells #[.int .i64 i] 3)).trans (grown_below (ownsRow_keep HOW.out ((Keep.refl (fun _ => True) wr).alloc (.cells #[.int .i64 i] 3)) (fun _ _ => trivial)) hg (Nat.le_refl _) (by have := HBW.out.size; simp; omega))
        have HR5 := Lib.hid hrun
        have HOU := Lib.hid hown
        have HBU := Lib.hid hbU
        have HORD := Lib.hid hord
        have hq1 : i ≠ a := by intro h; simp [h] at hq
        have q1 : ((i : Int) != (a : Int)) = true := by simp; omega
        have q2 : (i != a) = true := by simp; omega
        have hq2 : i ≠ b := by simp at hq; exact hq.2
        have q3 : ((i : Int) != (b : Int)) = true := by simp; omega
        have q4 : (i != b) = true := by simp; omega
        clear hq2
        clear hrun hown hbU hg hro hord hq1 hq
        go_wp2_with (at_builtin; refine wpList_app rfl _ _ _ rfl rfl rfl HR5.out ?_)
        go_roundw
        case rel => exact ⟨i + 1, by omega, by go_num, by rw [HORD.out, List.length_append, natInts_snoc, List.map_append]; exact HOU.out, HBU.out⟩
        case measure => simp [intOf]; omega
      ·have hie : i = c.parts.length := by omega
       subst hie
       obtain ⟨a5, c5, rfl, hro, hcap⟩ := ownsRow_own how
       have hol := ordTo_len' (y := b) (t := true) (show a < c.parts.length by omega)
       have hrf : ∀ A, Below wr.heap.size wr A → Calls Tryz.prog 75 #[.pointer (some ⟨bb, 0, none⟩), .agg (decCells (beginD a b true)), .slice a5 (ordTo a b true c.parts.length).length c5] A (RefutePost (putM c c.parts.length (ordTo a b true c.parts.length) (beginD a b true) []) A) := fun A hA =>
        refute_any c h8 hlm pa pc bb A (HP3.out.below (hbw.trans (hA.mono hbw.size))) (HBX3.out.below' (hbw.trans (hA.mono hbw.size))) (beginD a b true) (beginD_le a b true) (ordTo a b true c.parts.length) (by omega) (ordTo_lt (by omega)) a5 c5 ((ints_rowOwn hro).below hA) hcap
       have HRF := Lib.hid hrf
       have HBW := Lib.hid (HB3.out.trans (hbw.mono HB3.out.size))
       have hwl := HBW.out.size
       clear hrf hro hbw how hcap hol
       rcases hm : putM c c.parts.length (ordTo a b true c.parts.length) (beginD a b true) [] with _ | xs
       ·have HRN : Hid (∀ A, Below wr.heap.size wr A → Calls Tryz.prog 75 #[.pointer (some ⟨bb, 0, none⟩), .agg (decCells (beginD a b true)), .slice a5 (ordTo a b true c.parts.length).length c5] A fun e A' => e = .returned (.slice none 0 0) ∧ Below A.heap.size A A') := Lib.hid (fun A hA => (HRF.out A hA).mono fun e A' ⟨h1, h2⟩ => by
         rcases h2 with ⟨_, he⟩ | ⟨x, _, _, hx, _⟩
         ·exact ⟨he, h1⟩
         ·rw [hm] at hx; cases hx)
        have HM := Lib.hid hm
        clear hm
        go_wp2_with (first
         | (go_at_call 52; (with_reducible refine (begin_any a b true _ (by omega) (by omega)).mono ?_); rintro e w6 ⟨rfl, hb6⟩; have HB6 := Lib.hid hb6; clear hb6)
         | (go_at_call 75; (with_reducible refine (HRN.out _ HB6.out).mono ?_); rintro e w7 ⟨rfl, hb7⟩; have HB7 := Lib.hid hb7; clear hb7))
        go_ret3
        have hb67 := HB6.out.trans (HB7.out.mono HB6.out.size)
        exact ⟨HBW.out.trans (hb67.mono HBW.out.size), .inr (.inr (.inl ⟨HZ.out, rfl, by rw [HR.out]; exact HM.out, rfl⟩))⟩
       ·have HRN : Hid (∀ A, Below wr.heap.size wr A → Calls Tryz.prog 75 #[.pointer (some ⟨bb, 0, none⟩), .agg (decCells (beginD a b true)), .slice a5 (ordTo a b true c.parts.length).length c5] A fun e A' => ∃ a7 c7, e = .returned (.slice a7 xs.length c7) ∧ BrsO A.heap.size A' a7 xs ∧ xs.length ≤ c7 ∧ Below A.heap.size A A') := Lib.hid (fun A hA => (HRF.out A hA).mono fun e A' ⟨h1, h2⟩ => by
         rcases h2 with ⟨hx, _⟩ | ⟨x, a7, c7, hx, he, h3, h4⟩
         ·rw [hm] at hx; cases hx
         ·rw [hm] at hx; cases hx; exact ⟨a7, c7, he, h3, h4, h1⟩)
        have HM := Lib.hid hm
        clear hm
        go_wp2_with (first
         | (go_at_call 52; (with_reducible refine (begin_any a b true _ (by omega) (by omega)).mono ?_); rintro e w6 ⟨rfl, hb6⟩; have HB6 := Lib.hid hb6; clear hb6)
         | (go_at_call 75; (with_reducible refine (HRN.out _ HB6.out).mono ?_); rintro e w7 ⟨a7, c7, rfl, hbr7, hc7, hb7⟩; have HB7 := Lib.hid hb7; have HBR := Lib.hid hbr7; clear hb7 hbr7))
        go_ret3
        have hb67 := HB6.out.trans (HB7.out.mono HB6.out.size)
        exact ⟨HBW.out.trans (hb67.mono HBW.out.size), .inr (.inr (.inr ⟨HZ.out, rfl, xs, a7, c7, by rw [HR.out]; exact HM.out, rfl, HBR.out.less (HBW.out.trans (HB6.out.mono HBW.out.size)).size, hc7⟩))⟩
    ·have HR := Lib.hid (show refuteR c a b true = some [⟨2, (a : Int), (b : Int), []⟩] by simp [refuteR, hcl])
     have hcc : ∀ A bb', Box A bb' (csCells c pa pc) 88 → PartsAt A pa c.parts → Calls Tryz.prog 74 #[.pointer (some ⟨bb', 0, none⟩), .int .i64 a, .int .i64 b] A fun e A' => e = .returned (.bool true) ∧ Below A.heap.size A A' := fun A bb' h1 h2 => by
      have := clash_any c (by omega) bb' a b pa pc A h1 h2 (by omega) (by omega)
      rwa [hcl] at this
     have HCC := Lib.hid hcc
     clear hcl hcc
     go_enter Tryz.func30, Tryz.ntmps30
     go_upto_region 1 with fail
     simp only [HW.out, Nat.add_assoc, Nat.reduceAdd]
     go_upto_region 4 with (go_at_call 47; (with_reducible refine HO.out.mono ?_); rintro e w' ⟨bb, rfl, hbb, hbx, hb⟩; have HBO := Lib.hid hb; have HBX := Lib.hid hbx; clear hbx hb)
     have HX := Lib.hid ((BX.out.alloc (.cells #[.int .i64 a, .int .i64 b] 3)).below' HBO.out)
     have HY := Lib.hid ((BY.out.alloc (.cells #[.int .i64 a, .int .i64 b] 3)).below' HBO.out)
     have HT := Lib.hid ((BT.out.alloc (.cells #[.int .i64 a, .int .i64 b] 3)).below' HBO.out)
     have HB := Lib.hid (hB5.trans (HBO.out.mono hB5.size))
     have HF := Lib.hid (find_none (find_any c _ rfl h8 pa pc _ (HP.out.below HB.out) bb HBX.out _ _ _ (refuteFn_holds _ a b _ _ _ _ _ (by omega) (by omega) HX.out HY.out HT.out)) hfi)
     go_upto_region 7 with (go_at_call 70; (with_reducible refine HF.out.mono ?_); rintro e w2 ⟨rfl, hb2⟩)
     have HB2 := Lib.hid (HB.out.trans (hb2.mono HB.out.size))
     have x3 := (HT.out.below' hb2).cell
     have HBX2 := Lib.hid (HBX.out.below' hb2)
     have HX2 := Lib.hid (HX.out.below' hb2)
     have HY2 := Lib.hid (HY.out.below' hb2)
     have HT2 := Lib.hid (HT.out.below' hb2)
     have HP2 := Lib.hid (HP.out.below HB2.out)
     clear hb2 HBX HX HY HT HF HB HBO
     have x1 := HX2.out.cell
     have x2 := HY2.out.cell
     go_wp2_with (go_at_call 74; (with_reducible refine (HCC.out _ _ HBX2.out HP2.out).mono ?_); rintro e w3 ⟨rfl, hb3⟩; have HB3 := Lib.hid hb3; have z1 := (HX2.out.below' hb3).cell; have z2 := (HY2.out.below' hb3).cell; clear hb3)
     go_ret3
     have hb23 := HB2.out.trans (HB3.out.mono HB2.out.size)
     exact ⟨hb23.alloc hb23.size _, .inr (.inr (.inr ⟨HZ.out, rfl, _, _, _, HR.out, rfl, brs_litO hb23.size (Box.new _ _ _), by simp⟩))⟩
  ·skip
   go_enter Tryz.func30, Tryz.ntmps30
   go_upto_region 1 with fail
   simp only [HW.out, Nat.add_assoc, Nat.reduceAdd]
   go_upto_region 4 with (go_at_call 47; (with_reducible refine HO.out.mono ?_); rintro e w' ⟨bb, rfl, hbb, hbx, hb⟩; have HBO := Lib.hid hb; have HBX := Lib.hid hbx; clear hbx hb)
   have HX := Lib.hid ((BX.out.alloc (.cells #[.int .i64 a, .int .i64 b] 3)).below' HBO.out)
   have HY := Lib.hid ((BY.out.alloc (.cells #[.int .i64 a, .int .i64 b] 3)).below' HBO.out)
   have HT := Lib.hid ((BT.out.alloc (.cells #[.int .i64 a, .int .i64 b] 3)).below' HBO.out)
   have HB := Lib.hid (hB5.trans (HBO.out.mono hB5.size))
   have HF := Lib.hid (find_some (find_any c _ rfl h8 pa pc _ (HP.out.below HB.out) bb HBX.out _ _ _ (refuteFn_holds _ a b _ _ _ _ _ (by omega) (by omega) HX.out HY.out HT.out)) hfi)
   go_wp2_with (go_at_call 70; (with_reducible refine HF.out.mono ?_); rintro e w2 ⟨v, rfl, _, hb2⟩)
   go_ret3
   exact ⟨HB.out.trans (hb2.mono HB.out.size), .inr (.inl ⟨HZ.out, rfl, rfl⟩)⟩
 ·have hoo := opened_bad ho hz
  have HO := Lib.hid hoo
  clear ho hoo
  have hzz : (openErr c [x, y] != 0) = true := by simpa using hz
  go_enter Tryz.func30, Tryz.ntmps30
  go_upto_region 1 with fail
  simp only [HW.out, Nat.add_assoc, Nat.reduceAdd]
  go_wp2_with (go_at_call 47; (with_reducible refine HO.out.mono ?_); rintro e w' ⟨rfl, hb⟩)
  go_ret3
  exact ⟨hB5.trans (hb.mono hB5.size), .inl ⟨hz, rfl⟩⟩
end Go.Proofs.YtpjcnkajimgagaaGreat
