/- visit, where the function that is called at each leaf may write blocks that it made itself. -/
/- walk, where the function that is called at each leaf may write blocks that it made itself. -/
import Derived.Test.YtpjcnkajimgagaaGreatMVisit
import Derived.Test.YtpjcnkajimgagaaGreatMWalk
set_option linter.unusedSimpArgs false
set_option linter.unusedVariables false
namespace Go.Proofs.YtpjcnkajimgagaaGreat.U
open Go.RowKit
attribute [local go_sem] Oper.semAt_some

/-- all is as it was but rb and what Z says of the world before; what Z says later it said before, or it is new -/
def Far (rb : Nat) (Z : World → Nat → Prop) (W W' : World) : Prop := Keep (fun k => k ≠ rb ∧ ¬ Z W k) W W' ∧ ∀ k, Z W' k → Z W k ∨ W.heap.size ≤ k
theorem Far.trans {rb : Nat} {Z : World → Nat → Prop} {A B C : World} (h : Far rb Z A B) (k : Far rb Z B C) : Far rb Z A C := by
 refine ⟨⟨k.1.os.trans h.1.os, k.1.tape.trans h.1.tape, k.1.output.trans h.1.output, Nat.le_trans h.1.size k.1.size, fun i hi hl => ?_⟩, fun i hi => ?_⟩
 ·have hl2 := Nat.lt_of_lt_of_le hl h.1.size
  rw [k.1.block i ⟨hi.1, fun hz => ?_⟩ hl2, h.1.block i hi hl]
  rcases h.2 i hz with h1 | h1
  ·exact hi.2 h1
  ·omega
 ·rcases k.2 i hi with h1 | h1
  ·exact h.2 i h1
  ·exact .inr (Nat.le_trans h.1.size h1)
theorem Far.of {rb : Nat} {Z : World → Nat → Prop} {J : List (Dec × Br) → World → Prop} (hZ : ∀ s A B, J s A → Keep (fun k => k ≠ rb) A B → ∀ k, Z B k → Z A k) {s : List (Dec × Br)} {A B : World} (hj : J s A) (hk : Keep (fun k => k ≠ rb) A B) : Far rb Z A B :=
 ⟨hk.mono fun _ h => h.1, fun k h => .inl (hZ s A B hj hk k h)⟩
theorem walkM_cnt {c : Cs} {n : Nat} : ∀ (k : Nat) (d : Dec) (l : List Br) {r : List Br} {e : List (Dec × Br)}, walkM c n k d l = some (r, e) → 2 * e.length + r.length = l.length + 1
 | 0, _, _, _, _, h => by simp [walkM] at h
 | _ + 1, _, [], _, _, h => by simp [walkM] at h
 | k + 1, d, x :: l, r, e, h => by
  by_cases hk : x.kind = 1
  ·rcases hs : splitB n x with _ | _
   ·rw [walkM_no hk hs] at h; cases h
   ·rcases h1 : walkM c n k (decWith d x.a.toNat x.b.toNat 1) l with _ | ⟨l1, e1⟩
    ·rw [walkM_one hk hs h1] at h; cases h
    ·rcases h2 : walkM c n k (decWith d x.a.toNat x.b.toNat 2) l1 with _ | ⟨l2, e2⟩
     ·rw [walkM_two hk hs h1 h2] at h; cases h
     ·rw [walkM_yes hk hs h1 h2] at h
      cases h
      have a1 := walkM_cnt k _ _ h1
      have a2 := walkM_cnt k _ _ h2
      rw [List.length_append, List.length_cons]
      omega
  ·rw [walkM_leaf hk] at h
   split at h
   ·cases h
    simp; omega
   ·cases h
/-- what is asked of the function that is called at each leaf: J says what it has done, Z is the blocks that it may write from a world on; M leaves at most -/
def AtFn (c : Cs) (n : Nat) (pa : Option Addr) (pc : Nat) (bb : Nat) (w0 : World) (K : Nat) (caps : Array Value) (Z : World → Nat → Prop) (J : List (Dec × Br) → World → Prop) (M : Nat) : Prop :=
 (∀ args W, (callFunc K args).run Tryz.prog W = .ok (.enter K args) W) ∧
 ∀ (ev : List (Dec × Br)) (d : Dec) (x : Br) (nb : Nat) (ma : Option Addr) (mc : Nat) (W : World), (∀ a b, d a b ≤ 3) → Below w0.heap.size w0 W → NodeAt c pa pc d bb nb W → Ints w0 ma x.many → x.many.length ≤ mc → leafB c d n x = true → ev.length < M → J ev W →
  Calls Tryz.prog K (#[.pointer (some ⟨nb, 0, none⟩), .agg #[.int .u8 x.kind, .int .i64 x.a, .int .i64 x.b, .slice ma x.many.length mc]] ++ caps) W fun e W' => e = .returned (.tuple #[]) ∧ J (ev ++ [(d, x)]) W' ∧ Keep (fun k => ¬ Z W k) W W' ∧ ∀ k, Z W' k → Z W k ∨ W.heap.size ≤ k
/-- what is apart -/
structure VisOk (w0 : World) (v : Vis) (bb : Nat) (Z : World → Nat → Prop) (J : List (Dec × Br) → World → Prop) : Prop where
 zn : ∀ s A, J s A → ∀ k, Z A k → (w0.heap.size ≤ k ∧ k ≠ bb ∧ k ≠ v.rb ∧ k ≠ v.xb ∧ k ≠ v.vb ∧ k ≠ v.kb ∧ k ≠ v.mb ∧ k ≠ v.ab) ∧ k < A.heap.size
 rn : w0.heap.size ≤ v.rb ∧ v.rb ≠ bb ∧ v.rb ≠ v.xb ∧ v.rb ≠ v.vb ∧ v.rb ≠ v.kb ∧ v.rb ≠ v.mb ∧ v.rb ≠ v.ab
def VisPost (c : Cs) (n : Nat) (pa : Option Addr) (pc : Nat) (bb : Nat) (w0 : World) (v : Vis) (K : Nat) (acaps : Array Value) (Z : World → Nat → Prop) (J : List (Dec × Br) → World → Prop) (k : Nat) (d : Dec) (l : List Br) (ev : List (Dec × Br)) (W : World) (e : Ending) (W' : World) : Prop :=
 Far v.rb Z W W' ∧ match walkM c n k d l with
  | none => e = .panicked [{ v := unproved, recovered := false }]
  | some (r, es) => e = .returned (.tuple #[]) ∧ VisSt c pa pc bb w0 v K acaps r W' ∧ J (ev ++ es) W'

set_option maxRecDepth 100000 in
set_option maxHeartbeats 4000000 in
theorem visit_any (c : Cs) (n : Nat) (hn : c.parts.length = n) (hn8 : n ≤ 8) (hlim : 0 ≤ c.limit ∧ c.limit ≤ 40) (pa : Option Addr) (pc : Nat) (bb : Nat) (w0 : World) (hparts : PartsAt w0 pa c.parts) (v : Vis) (K : Nat) (acaps : Array Value) (Z : World → Nat → Prop) (J : List (Dec × Br) → World → Prop)
  (M : Nat) (hat : AtFn c n pa pc bb w0 K acaps Z J M) (hok : VisOk w0 v bb Z J) (hZ : ∀ s A B, J s A → Keep (fun k => k ≠ v.rb) A B → ∀ k, Z B k → Z A k) (hJ : ∀ s A B, J s A → Keep (fun k => k ≠ v.rb) A B → J s B) :
  ∀ (k : Nat) (l : List Br) (d : Dec) (ev : List (Dec × Br)) (W : World), l.length < k → ev.length + l.length ≤ M → l.length ≤ 1000000 → (∀ x ∈ l, x.Small) → (∀ a b, d a b ≤ 3) → VisSt c pa pc bb w0 v K acaps l W → J ev W →
  Calls Tryz.prog 89 (#[.agg (decCells d)] ++ v.caps) W (VisPost c n pa pc bb w0 v K acaps Z J k d l ev W)
 | 0, _, _, _, _, h, _, _, _, _, _, _ => by omega
 | k + 1, [], d, ev, W, hlen, hbud, hll, hsm, hd, hst, hj => by
  obtain ⟨w1, hw1⟩ : ∃ w1, W.alloc (.cells (decCells d) 104) = w1 := ⟨_, rfl⟩
  have hB1 : Below W.heap.size W w1 := by rw [← hw1]; exact (Below.refl _ _).alloc (Nat.le_refl _) _
  have hst1 := hst.below hB1
  obtain ⟨a, rc, hr, _, _⟩ := hst1.rest
  have e1 := hr.cell
  have HW := Lib.hid hw1
  clear hr hst hst1 hw1
  simp only [Vis.caps, List.append_toArray, List.nil_append, List.cons_append]
  go_enter Tryz.func89, Tryz.ntmps89
  go_upto_region 1 with fail
  simp only [HW.out]
  go_wp2_with (go_at_call 90; (with_reducible refine (need_no _).mono ?_); rintro e w' ⟨rfl, rfl⟩)
  exact ⟨rfl, Far.of hZ hj (Keep.of_below' hB1), rfl⟩
 | k + 1, x :: l, d, ev, W, hlen, hbud, hll, hsm, hd, hst, hj => by
  obtain ⟨w1, hw1⟩ : ∃ w1, W.alloc (.cells (decCells d) 104) = w1 := ⟨_, rfl⟩
  have hB1 : Below W.heap.size W w1 := by rw [← hw1]; exact (Below.refl _ _).alloc (Nat.le_refl _) _
  have hD1 : Box w1 W.heap.size (decCells d) 104 := by rw [← hw1]; exact Box.new _ _ _
  have hst1 := hst.below hB1
  obtain ⟨a, rc, hr, hbr, hrc⟩ := hst1.rest
  obtain ⟨b, o, rfl, hx⟩ := hbr 0 x rfl
  obtain ⟨ma, mc, y1, y2, y3, y4, x5, x6⟩ := hx
  have x1 := below_cell hst1.old y1
  have x2 := below_cell hst1.old y2
  have x3 := below_cell hst1.old y3
  have x4 := below_cell hst1.old y4
  clear y1 y2 y3 y4
  simp only [Nat.zero_mul, Nat.add_zero, List.length_cons] at x1 x2 x3 x4 hrc hr hll hlen hbud
  obtain ⟨e1, f1⟩ := hr.rules
  obtain ⟨w2, hw2⟩ : ∃ w2, w1.alloc (.cells #[.int .u8 x.kind, .int .i64 x.a, .int .i64 x.b, .slice ma x.many.length mc] 69) = w2 := ⟨_, rfl⟩
  have hB2 : Below w1.heap.size w1 w2 := by rw [← hw2]; exact (Below.refl _ _).alloc (Nat.le_refl _) _
  have hX2 : Box w2 w1.heap.size #[.int .u8 x.kind, .int .i64 x.a, .int .i64 x.b, .slice ma x.many.length mc] 69 := by rw [← hw2]; exact Box.new _ _ _
  obtain ⟨e2, f2⟩ := (hr.below' hB2).rules
  have HW := Lib.hid hw1
  have HW2 := Lib.hid hw2
  have HR := Lib.hid hr
  have HBR := Lib.hid hbr
  have HST := Lib.hid hst1
  have HSW := Lib.hid hst
  have HD1 := Lib.hid hD1
  have HX2 := Lib.hid hX2
  obtain ⟨a2, ha2⟩ : ∃ a2, (if rc = 1 then some (⟨b, o, none⟩ : Addr) else some ⟨b, o + 4, none⟩) = a2 := ⟨_, rfl⟩
  have hbr2 : BrsAt w0 a2 l := by
   rw [← ha2]
   split
   ·have : l = [] := List.length_eq_zero_iff.1 (by omega)
    rw [this]; intro j y hy; simp at hy
   ·exact hbr.tail
  have hrb := HR.out.lt
  have h3 := (HST.out.below hB2).setRest hbr2 (k := rc - 1) (by omega) hok.rn
  have k3 : Keep (fun k => k ≠ v.rb) W (w2.setCell ⟨v.rb, 0, none⟩ (.slice a2 l.length (rc - 1))) := ((Keep.of_below' hB1).trans (Keep.of_below' hB2)).setCell (.inl (by simp)) _
  have hw2s : w1.heap.size < w2.heap.size := HX2.out.lt
  have hw1s : W.heap.size < w1.heap.size := HD1.out.lt
  have hrW : v.rb < W.heap.size := by obtain ⟨_, _, h, _⟩ := HSW.out.rest; exact h.lt
  have d3 := (HD1.out.below' hB2).far (p := ⟨v.rb, 0, none⟩) (by simp; omega) (.slice a2 l.length (rc - 1))
  have q3 := HX2.out.far (p := ⟨v.rb, 0, none⟩) (by simp; omega) (.slice a2 l.length (rc - 1))
  have j3 := hJ _ _ _ hj k3
  have FO := Lib.hid (fun (W' : World) (hk : Keep (fun k => k ≠ v.rb) W W') => Far.of hZ hj hk)
  have ZL := Lib.hid (fun (W' : World) (hk : Keep (fun k => k ≠ v.rb) W W') (k : Nat) (h : Z W' k) => (hok.zn _ _ hj k (hZ _ _ _ hj hk k h)).2)
  have s3 : (w2.setCell ⟨v.rb, 0, none⟩ (.slice a2 l.length (rc - 1))).heap.size = w2.heap.size := by simp [World.setCell]
  have HA2 := Lib.hid ha2
  have X5 := Lib.hid x5
  clear ha2 hbr2
  clear hr hst hst1 hw1 hw2 hbr hD1 hX2 hj
  simp only [Vis.caps, List.append_toArray, List.nil_append, List.cons_append]
  go_enter Tryz.func89, Tryz.ntmps89
  go_upto_region 1 with fail
  simp only [HW.out]
  go_upto_region 3 with (go_at_call 90; (with_reducible refine (need_ok _).mono ?_); rintro e w' ⟨rfl, rfl⟩)
  simp only [HW2.out]
  clear e1 f1 x1 x2 x3 x4
  go_upto_region 4 with fail
  simp only [HA2.out]
  generalize w2.setCell ⟨v.rb, 0, none⟩ (.slice a2 l.length (rc - 1)) = w3 at *
  clear e2 f2
  have q30 : w3.cell? ⟨w1.heap.size, 0, none⟩ = some (.int .u8 x.kind) := by rw [q3.cell]; rfl
  have q31 : w3.cell? ⟨w1.heap.size, 1, none⟩ = some (.int .i64 x.a) := by rw [q3.cell]; rfl
  have q32 : w3.cell? ⟨w1.heap.size, 2, none⟩ = some (.int .i64 x.b) := by rw [q3.cell]; rfl
  have q33 : w3.cell? ⟨w1.heap.size, 3, none⟩ = some (.slice ma x.many.length mc) := by rw [q3.cell]; rfl
  have p31 : w3.cell? ⟨v.xb, 0, none⟩ = some (.pointer (some ⟨bb, 0, none⟩)) := by rw [h3.bx.cell]; rfl
  have p32 : w3.cell? ⟨bb, 3, none⟩ = some (.slice pa n pc) := by rw [← hn, h3.ben.cell]; rfl
  have H3 := Lib.hid h3
  have K3 := Lib.hid k3
  have J3 := Lib.hid j3
  have D3 := Lib.hid d3
  have Q3 := Lib.hid q3
  clear h3 k3 j3 d3 q3 HR HST HD1 HX2
  by_cases hk1 : x.kind = 1
  ·have hk1b : ((x.kind : Int) == 1) = true := by simp [hk1]
   have hw1 : IntKind.i64.wrap ((n : Int) - 1) = (n : Int) - 1 := IntWalk.i64_in _ (by omega)
   have HK1 := Lib.hid hk1
   clear hk1
   rcases h1 : inB x.a 0 ((n : Int) - 1) with _ | _
   ·have HH1 := Lib.hid h1
    clear h1
    go_upto_region 5 with fail
    refine wp_region_heldB 35 [] (by kernel_rfl) (by kernel_rfl) (by kernel_rfl) (by simp) ?_
    intro S hS
    have k0 : ∀ W, S W → W.cell? ⟨w1.heap.size, 1, none⟩ = some (.int .i64 x.a) ∧ W.cell? ⟨w1.heap.size, 2, none⟩ = some (.int .i64 x.b) ∧ W.cell? ⟨w1.heap.size, 3, none⟩ = some (.slice ma x.many.length mc) ∧ W.cell? ⟨v.xb, 0, none⟩ = some (.pointer (some ⟨bb, 0, none⟩)) ∧ W.cell? ⟨bb, 3, none⟩ = some (.slice pa n pc) := fun W h => ⟨below_cell (hS W h) q31, below_cell (hS W h) q32, below_cell (hS W h) q33, below_cell (hS W h) p31, below_cell (hS W h) p32⟩
    have K0 := Lib.hid k0
    have HS := Lib.hid hS
    clear k0 hS q30 q31 q32 q33 p31 p32
    simp only [List.take_succ_cons, List.take_zero, List.drop_succ_cons, List.drop_zero]
    repeat (first
     | (refine held_not rfl (by rfl) ?_; try (dsimp only); try simp only [Act.put, List.setIfInBounds_toArray, List.set_cons_zero, List.set_cons_succ])
     | (refine held_val (v := ?_) rfl (by rfl) ?_ ?_; rotate_left; (· (intro W hW; obtain ⟨q0, q1, q2, q3, q4⟩ := K0.out W hW; go_simp; try with_reducible rfl)); try (dsimp only); try simp only [Act.put, List.setIfInBounds_toArray, List.set_cons_zero, List.set_cons_succ])
     | (refine held_skip rfl (by rfl) ?_ ?_; (· (intro W hW; obtain ⟨q0, q1, q2, q3, q4⟩ := K0.out W hW; go_simp; try with_reducible rfl)); try (dsimp only); try simp only [Act.put, List.setIfInBounds_toArray, List.set_cons_zero, List.set_cons_succ])
     | (refine held_call (v := .bool false) (f := 66) (args := #[.int .i64 x.a, .int .i64 0, .int .i64 ((n : Int) - 1)]) rfl (by rfl) ?_ ?_ ?_; (· (intro W hW; go_simp; done)); (· exact (fun W hW => in_held HH1.out W)); try (dsimp only); try simp only [Act.put, List.setIfInBounds_toArray, List.set_cons_zero, List.set_cons_succ]))
    refine held_nil ?_
    intro τ hτ w5 hW hO
    obtain rfl := laid0 hτ
    have HB5 := Lib.hid (HS.out w5 hW)
    clear hτ hO hW K0 HS
    simp only [overs, List.foldl_nil]
    go_wp2_with (go_at_call 90; (with_reducible refine (need_no _).mono ?_); rintro e w' ⟨rfl, rfl⟩)
    exact ⟨rfl, FO.out _ (K3.out.trans (Keep.of_below' HB5.out)), by rw [walkM_no HK1.out (by simp [splitB, HH1.out])]⟩
   ·have HH1 := Lib.hid h1
    clear h1
    rcases h2 : inB x.b 0 ((n : Int) - 1) with _ | _
    ·have HH2 := Lib.hid h2
     clear h2
     go_upto_region 5 with fail
     refine wp_region_heldB 35 [] (by kernel_rfl) (by kernel_rfl) (by kernel_rfl) (by simp) ?_
     intro S hS
     have k0 : ∀ W, S W → W.cell? ⟨w1.heap.size, 1, none⟩ = some (.int .i64 x.a) ∧ W.cell? ⟨w1.heap.size, 2, none⟩ = some (.int .i64 x.b) ∧ W.cell? ⟨w1.heap.size, 3, none⟩ = some (.slice ma x.many.length mc) ∧ W.cell? ⟨v.xb, 0, none⟩ = some (.pointer (some ⟨bb, 0, none⟩)) ∧ W.cell? ⟨bb, 3, none⟩ = some (.slice pa n pc) := fun W h => ⟨below_cell (hS W h) q31, below_cell (hS W h) q32, below_cell (hS W h) q33, below_cell (hS W h) p31, below_cell (hS W h) p32⟩
     have K0 := Lib.hid k0
     have HS := Lib.hid hS
     clear k0 hS q30 q31 q32 q33 p31 p32
     simp only [List.take_succ_cons, List.take_zero, List.drop_succ_cons, List.drop_zero]
     repeat (first
      | (refine held_not rfl (by rfl) ?_; try (dsimp only); try simp only [Act.put, List.setIfInBounds_toArray, List.set_cons_zero, List.set_cons_succ])
      | (refine held_val (v := ?_) rfl (by rfl) ?_ ?_; rotate_left; (· (intro W hW; obtain ⟨q0, q1, q2, q3, q4⟩ := K0.out W hW; go_simp; try with_reducible rfl)); try (dsimp only); try simp only [Act.put, List.setIfInBounds_toArray, List.set_cons_zero, List.set_cons_succ])
      | (refine held_skip rfl (by rfl) ?_ ?_; (· (intro W hW; obtain ⟨q0, q1, q2, q3, q4⟩ := K0.out W hW; go_simp; try with_reducible rfl)); try (dsimp only); try simp only [Act.put, List.setIfInBounds_toArray, List.set_cons_zero, List.set_cons_succ])
      | (refine held_call (v := .bool true) (f := 66) (args := #[.int .i64 x.a, .int .i64 0, .int .i64 ((n : Int) - 1)]) rfl (by rfl) ?_ ?_ ?_; (· (intro W hW; go_simp; done)); (· exact (fun W hW => in_held HH1.out W)); try (dsimp only); try simp only [Act.put, List.setIfInBounds_toArray, List.set_cons_zero, List.set_cons_succ])
      | (refine held_call (v := .bool false) (f := 66) (args := #[.int .i64 x.b, .int .i64 0, .int .i64 ((n : Int) - 1)]) rfl (by rfl) ?_ ?_ ?_; (· (intro W hW; go_simp; done)); (· exact (fun W hW => in_held HH2.out W)); try (dsimp only); try simp only [Act.put, List.setIfInBounds_toArray, List.set_cons_zero, List.set_cons_succ]))
     refine held_nil ?_
     intro τ hτ w5 hW hO
     obtain rfl := laid0 hτ
     have HB5 := Lib.hid (HS.out w5 hW)
     clear hτ hO hW K0 HS
     simp only [overs, List.foldl_nil]
     go_wp2_with (go_at_call 90; (with_reducible refine (need_no _).mono ?_); rintro e w' ⟨rfl, rfl⟩)
     exact ⟨rfl, FO.out _ (K3.out.trans (Keep.of_below' HB5.out)), by rw [walkM_no HK1.out (by simp [splitB, HH2.out])]⟩
    ·have HH2 := Lib.hid h2
     clear h2
     rcases h3 : (x.a != x.b) with _ | _
     ·have HG := Lib.hid (show splitB n x = false by simp [splitB, h3])
      go_upto_region 5 with fail
      refine wp_region_heldB 35 [] (by kernel_rfl) (by kernel_rfl) (by kernel_rfl) (by simp) ?_
      intro S hS
      have k0 : ∀ W, S W → W.cell? ⟨w1.heap.size, 1, none⟩ = some (.int .i64 x.a) ∧ W.cell? ⟨w1.heap.size, 2, none⟩ = some (.int .i64 x.b) ∧ W.cell? ⟨w1.heap.size, 3, none⟩ = some (.slice ma x.many.length mc) ∧ W.cell? ⟨v.xb, 0, none⟩ = some (.pointer (some ⟨bb, 0, none⟩)) ∧ W.cell? ⟨bb, 3, none⟩ = some (.slice pa n pc) := fun W h => ⟨below_cell (hS W h) q31, below_cell (hS W h) q32, below_cell (hS W h) q33, below_cell (hS W h) p31, below_cell (hS W h) p32⟩
      have K0 := Lib.hid k0
      have HS := Lib.hid hS
      clear k0 hS q30 q31 q32 q33 p31 p32
      simp only [List.take_succ_cons, List.take_zero, List.drop_succ_cons, List.drop_zero]
      repeat (first
       | (refine held_not rfl (by rfl) ?_; try (dsimp only); try simp only [Act.put, List.setIfInBounds_toArray, List.set_cons_zero, List.set_cons_succ])
       | (refine held_val (v := ?_) rfl (by rfl) ?_ ?_; rotate_left; (· (intro W hW; obtain ⟨q0, q1, q2, q3, q4⟩ := K0.out W hW; go_simp; try with_reducible rfl)); try (dsimp only); try simp only [Act.put, List.setIfInBounds_toArray, List.set_cons_zero, List.set_cons_succ])
       | (refine held_skip rfl (by rfl) ?_ ?_; (· (intro W hW; obtain ⟨q0, q1, q2, q3, q4⟩ := K0.out W hW; go_simp; try with_reducible rfl)); try (dsimp only); try simp only [Act.put, List.setIfInBounds_toArray, List.set_cons_zero, List.set_cons_succ])
       | (refine held_call (v := .bool true) (f := 66) (args := #[.int .i64 x.a, .int .i64 0, .int .i64 ((n : Int) - 1)]) rfl (by rfl) ?_ ?_ ?_; (· (intro W hW; go_simp; done)); (· exact (fun W hW => in_held HH1.out W)); try (dsimp only); try simp only [Act.put, List.setIfInBounds_toArray, List.set_cons_zero, List.set_cons_succ])
       | (refine held_call (v := .bool true) (f := 66) (args := #[.int .i64 x.b, .int .i64 0, .int .i64 ((n : Int) - 1)]) rfl (by rfl) ?_ ?_ ?_; (· (intro W hW; go_simp; done)); (· exact (fun W hW => in_held HH2.out W)); try (dsimp only); try simp only [Act.put, List.setIfInBounds_toArray, List.set_cons_zero, List.set_cons_succ]))
      refine held_nil ?_
      intro τ hτ w5 hW hO
      obtain rfl := laid0 hτ
      have HB5 := Lib.hid (HS.out w5 hW)
      clear hτ hO hW K0 HS
      simp only [overs, List.foldl_nil]
      go_wp2_with (go_at_call 90; (with_reducible refine (need_no _).mono ?_); rintro e w' ⟨rfl, rfl⟩)
      exact ⟨rfl, FO.out _ (K3.out.trans (Keep.of_below' HB5.out)), by rw [walkM_no HK1.out (by exact HG.out)]⟩
     ·rcases h4 : ((x.many.length : Int) == 0) with _ | _
      ·have HG := Lib.hid (show splitB n x = false by simp only [splitB, h4, Bool.and_false])
       go_upto_region 5 with fail
       refine wp_region_heldB 35 [] (by kernel_rfl) (by kernel_rfl) (by kernel_rfl) (by simp) ?_
       intro S hS
       have k0 : ∀ W, S W → W.cell? ⟨w1.heap.size, 1, none⟩ = some (.int .i64 x.a) ∧ W.cell? ⟨w1.heap.size, 2, none⟩ = some (.int .i64 x.b) ∧ W.cell? ⟨w1.heap.size, 3, none⟩ = some (.slice ma x.many.length mc) ∧ W.cell? ⟨v.xb, 0, none⟩ = some (.pointer (some ⟨bb, 0, none⟩)) ∧ W.cell? ⟨bb, 3, none⟩ = some (.slice pa n pc) := fun W h => ⟨below_cell (hS W h) q31, below_cell (hS W h) q32, below_cell (hS W h) q33, below_cell (hS W h) p31, below_cell (hS W h) p32⟩
       have K0 := Lib.hid k0
       have HS := Lib.hid hS
       clear k0 hS q30 q31 q32 q33 p31 p32
       simp only [List.take_succ_cons, List.take_zero, List.drop_succ_cons, List.drop_zero]
       repeat (first
        | (refine held_not rfl (by rfl) ?_; try (dsimp only); try simp only [Act.put, List.setIfInBounds_toArray, List.set_cons_zero, List.set_cons_succ])
        | (refine held_val (v := ?_) rfl (by rfl) ?_ ?_; rotate_left; (· (intro W hW; obtain ⟨q0, q1, q2, q3, q4⟩ := K0.out W hW; go_simp; try with_reducible rfl)); try (dsimp only); try simp only [Act.put, List.setIfInBounds_toArray, List.set_cons_zero, List.set_cons_succ])
        | (refine held_skip rfl (by rfl) ?_ ?_; (· (intro W hW; obtain ⟨q0, q1, q2, q3, q4⟩ := K0.out W hW; go_simp; try with_reducible rfl)); try (dsimp only); try simp only [Act.put, List.setIfInBounds_toArray, List.set_cons_zero, List.set_cons_succ])
        | (refine held_call (v := .bool true) (f := 66) (args := #[.int .i64 x.a, .int .i64 0, .int .i64 ((n : Int) - 1)]) rfl (by rfl) ?_ ?_ ?_; (· (intro W hW; go_simp; done)); (· exact (fun W hW => in_held HH1.out W)); try (dsimp only); try simp only [Act.put, List.setIfInBounds_toArray, List.set_cons_zero, List.set_cons_succ])
        | (refine held_call (v := .bool true) (f := 66) (args := #[.int .i64 x.b, .int .i64 0, .int .i64 ((n : Int) - 1)]) rfl (by rfl) ?_ ?_ ?_; (· (intro W hW; go_simp; done)); (· exact (fun W hW => in_held HH2.out W)); try (dsimp only); try simp only [Act.put, List.setIfInBounds_toArray, List.set_cons_zero, List.set_cons_succ]))
       refine held_nil ?_
       intro τ hτ w5 hW hO
       obtain rfl := laid0 hτ
       have HB5 := Lib.hid (HS.out w5 hW)
       clear hτ hO hW K0 HS
       simp only [overs, List.foldl_nil]
       go_wp2_with (go_at_call 90; (with_reducible refine (need_no _).mono ?_); rintro e w' ⟨rfl, rfl⟩)
       exact ⟨rfl, FO.out _ (K3.out.trans (Keep.of_below' HB5.out)), by rw [walkM_no HK1.out (by exact HG.out)]⟩
      ·have HSP := Lib.hid (show splitB n x = true by simp only [splitB, HH1.out, HH2.out, h3, h4]; rfl)
       go_upto_region 5 with fail
       refine wp_region_heldB 35 [] (by kernel_rfl) (by kernel_rfl) (by kernel_rfl) (by simp) ?_
       intro S hS
       have k0 : ∀ W, S W → W.cell? ⟨w1.heap.size, 1, none⟩ = some (.int .i64 x.a) ∧ W.cell? ⟨w1.heap.size, 2, none⟩ = some (.int .i64 x.b) ∧ W.cell? ⟨w1.heap.size, 3, none⟩ = some (.slice ma x.many.length mc) ∧ W.cell? ⟨v.xb, 0, none⟩ = some (.pointer (some ⟨bb, 0, none⟩)) ∧ W.cell? ⟨bb, 3, none⟩ = some (.slice pa n pc) := fun W h => ⟨below_cell (hS W h) q31, below_cell (hS W h) q32, below_cell (hS W h) q33, below_cell (hS W h) p31, below_cell (hS W h) p32⟩
       have K0 := Lib.hid k0
       have HS := Lib.hid hS
       clear k0 hS q30 q31 q32 q33 p31 p32
       simp only [List.take_succ_cons, List.take_zero, List.drop_succ_cons, List.drop_zero]
       repeat (first
        | (refine held_not rfl (by rfl) ?_; try (dsimp only); try simp only [Act.put, List.setIfInBounds_toArray, List.set_cons_zero, List.set_cons_succ])
        | (refine held_val (v := ?_) rfl (by rfl) ?_ ?_; rotate_left; (· (intro W hW; obtain ⟨q0, q1, q2, q3, q4⟩ := K0.out W hW; go_simp; try with_reducible rfl)); try (dsimp only); try simp only [Act.put, List.setIfInBounds_toArray, List.set_cons_zero, List.set_cons_succ])
        | (refine held_skip rfl (by rfl) ?_ ?_; (· (intro W hW; obtain ⟨q0, q1, q2, q3, q4⟩ := K0.out W hW; go_simp; try with_reducible rfl)); try (dsimp only); try simp only [Act.put, List.setIfInBounds_toArray, List.set_cons_zero, List.set_cons_succ])
        | (refine held_call (v := .bool true) (f := 66) (args := #[.int .i64 x.a, .int .i64 0, .int .i64 ((n : Int) - 1)]) rfl (by rfl) ?_ ?_ ?_; (· (intro W hW; go_simp; done)); (· exact (fun W hW => in_held HH1.out W)); try (dsimp only); try simp only [Act.put, List.setIfInBounds_toArray, List.set_cons_zero, List.set_cons_succ])
        | (refine held_call (v := .bool true) (f := 66) (args := #[.int .i64 x.b, .int .i64 0, .int .i64 ((n : Int) - 1)]) rfl (by rfl) ?_ ?_ ?_; (· (intro W hW; go_simp; done)); (· exact (fun W hW => in_held HH2.out W)); try (dsimp only); try simp only [Act.put, List.setIfInBounds_toArray, List.set_cons_zero, List.set_cons_succ]))
       refine held_nil ?_
       intro τ hτ w5 hW hO
       obtain rfl := laid0 hτ
       have HB5 := Lib.hid (HS.out w5 hW)
       clear hτ hO hW K0 HS
       simp only [overs, List.foldl_nil]
       go_upto_region 6 with (go_at_call 90; (with_reducible refine (need_ok _).mono ?_); rintro e w' ⟨rfl, rfl⟩)
       obtain ⟨⟨x', hxa, hxn⟩, ⟨y', hyb, hyn⟩⟩ := split_in HSP.out
       have hta : x.a.toNat = x' := by rw [hxa]; simp
       have htb : x.b.toNat = y' := by rw [hyb]; simp
       have HXA := Lib.hid hxa
       have HYB := Lib.hid hyb
       have HTA := Lib.hid hta
       have HTB := Lib.hid htb
       have HDD := Lib.hid hd
       have S5 := Lib.hid (H3.out.below HB5.out)
       have D5 := Lib.hid (D3.out.below' HB5.out)
       have Q5 := Lib.hid (Q3.out.below' HB5.out)
       clear hxa hyb hta htb hd
       have u1 : w5.cell? ⟨v.vb, 0, none⟩ = some (.func (.func 89) #[] #[.pointer (some ⟨v.rb, 0, none⟩), .pointer (some ⟨v.xb, 0, none⟩), .pointer (some ⟨v.vb, 0, none⟩), .pointer (some ⟨v.kb, 0, none⟩), .pointer (some ⟨v.ab, 0, none⟩)]) := by rw [S5.out.vis.cell]; rfl
       have u2 : w5.cell? ⟨w1.heap.size, 1, none⟩ = some (.int .i64 (x' : Nat)) := by rw [Q5.out.cell, ← HXA.out]; rfl
       have u3 : w5.cell? ⟨w1.heap.size, 2, none⟩ = some (.int .i64 (y' : Nat)) := by rw [Q5.out.cell, ← HYB.out]; rfl
       refine wp_region_heldB 7 [] (by kernel_rfl) (by kernel_rfl) (by kernel_rfl) (by simp) ?_
       intro S hS
       have k0 : ∀ W, S W → W.cell? ⟨v.vb, 0, none⟩ = some (.func (.func 89) #[] #[.pointer (some ⟨v.rb, 0, none⟩), .pointer (some ⟨v.xb, 0, none⟩), .pointer (some ⟨v.vb, 0, none⟩), .pointer (some ⟨v.kb, 0, none⟩), .pointer (some ⟨v.ab, 0, none⟩)]) ∧ W.cell? ⟨w1.heap.size, 1, none⟩ = some (.int .i64 (x' : Nat)) ∧ W.cell? ⟨w1.heap.size, 2, none⟩ = some (.int .i64 (y' : Nat)) := fun W h => ⟨below_cell (hS W h) u1, below_cell (hS W h) u2, below_cell (hS W h) u3⟩
       have kd : ∀ Wx, S Wx → (Instr.loadAt 104 (.pointer (some ⟨W.heap.size, 0, none⟩))).run Tryz.prog Wx = .ok (.agg (decCells d)) Wx := fun Wx h => run_load_row (D5.out.below' (hS Wx h)) Tryz.underlying104 rfl (dec_info _)
       have K0 := Lib.hid k0
       have KD := Lib.hid kd
       have HS := Lib.hid hS
       clear k0 kd hS u1 u2 u3
       simp only [List.take_succ_cons, List.take_zero, List.drop_succ_cons, List.drop_zero]
       repeat (first
        | (refine held_load 104 _ (by rfl) rfl rfl KD.out ?_; try (dsimp only); try simp only [Act.put, List.setIfInBounds_toArray, List.set_cons_zero, List.set_cons_succ])
        | (refine held_not rfl (by rfl) ?_; try (dsimp only); try simp only [Act.put, List.setIfInBounds_toArray, List.set_cons_zero, List.set_cons_succ])
        | (refine held_val (v := ?_) rfl (by rfl) ?_ ?_; rotate_left; (· (intro W hW; obtain ⟨q0, q1, q2⟩ := K0.out W hW; go_simp; try with_reducible rfl)); try (dsimp only); try simp only [Act.put, List.setIfInBounds_toArray, List.set_cons_zero, List.set_cons_succ])
        | (refine held_skip rfl (by rfl) ?_ ?_; (· (intro W hW; obtain ⟨q0, q1, q2⟩ := K0.out W hW; go_simp; try with_reducible rfl)); try (dsimp only); try simp only [Act.put, List.setIfInBounds_toArray, List.set_cons_zero, List.set_cons_succ])
        | (refine held_call (v := .agg (decCells (decWith d x' y' 1))) (f := 91) (args := #[.agg (decCells d), .int .i64 (x' : Nat), .int .i64 (y' : Nat), .int .u8 1]) rfl (by rfl) ?_ ?_ ?_; (· (intro W hW; go_simp; done)); (· exact (fun W hW => decWith_any d x' y' 1 W (by omega) (by omega) HDD.out (by omega))); try (dsimp only); try simp only [Act.put, List.setIfInBounds_toArray, List.set_cons_zero, List.set_cons_succ]))
       refine held_nil ?_
       intro τ hτ w6 hW hO
       obtain rfl := laid0 hτ
       have hB := HS.out w6 hW
       have s6 := S5.out.below hB
       have D6 := Lib.hid (D5.out.below' hB)
       have Q6 := Lib.hid (Q5.out.below' hB)
       have kA : Keep (fun k => k ≠ v.rb) w3 w6 := (Keep.of_below' HB5.out).trans (Keep.of_below' hB)
       have KA := Lib.hid (K3.out.trans kA)
       have j6 := hJ _ _ _ J3.out kA
       have ih := visit_any c n hn hn8 hlim pa pc bb w0 hparts v K acaps Z J M hat hok hZ hJ k l (decWith d x' y' 1) ev w6 (by omega) (by omega) (by omega) (fun z hz => hsm z (by simp [hz])) (decWith_le HDD.out (by omega)) s6 j6
       simp only [Vis.caps, List.append_toArray, List.nil_append, List.cons_append] at ih
       have IH := Lib.hid ih
       clear hτ hO hW K0 KD HS hB s6 j6 kA ih S5 D5 Q5 HB5
       simp only [overs, List.foldl_nil]
       rcases hm1 : walkM c n k (decWith d x' y' 1) l with _ | ⟨l1, e1⟩
       ·have HM1 := Lib.hid hm1
        clear hm1
        go_wp2_with (go_at_call 89; (with_reducible refine IH.out.mono ?_); rintro e w7 ⟨hk7, hm⟩; rw [HM1.out] at hm; subst hm; have HK7 := Lib.hid hk7; clear hk7)
        exact ⟨rfl, (FO.out _ KA.out).trans HK7.out, by rw [walkM_one HK1.out HSP.out (by rw [HTA.out, HTB.out]; exact HM1.out)]⟩
       ·have HM1 := Lib.hid hm1
        have hl1 := walkM_len k _ _ hm1
        clear hm1
        go_upto_region 7 with (go_at_call 89; (with_reducible refine IH.out.mono ?_); rintro e w7 ⟨hk7, hm⟩; rw [HM1.out] at hm; obtain ⟨rfl, hs7, hj7⟩ := hm; have HK7 := Lib.hid hk7; have S7 := Lib.hid hs7; have J7 := Lib.hid hj7; clear hk7 hs7 hj7)
        have hz1 : ∀ k, v.rb < k → W.heap.size ≤ k → k ≠ v.rb ∧ ¬ Z w6 k := fun k hk hk2 => ⟨by omega, fun hz => by have := ZL.out _ KA.out k hz; omega⟩
        have d7 : Box w7 W.heap.size (decCells d) 104 := HK7.out.1.heap (hz1 _ (by omega) (by omega)) D6.out
        have D7 := Lib.hid d7
        have q7 : Box w7 w1.heap.size #[.int .u8 x.kind, .int .i64 x.a, .int .i64 x.b, .slice ma x.many.length mc] 69 := HK7.out.1.heap (hz1 _ (by omega) (by omega)) Q6.out
        have Q7 := Lib.hid q7
        clear hz1 d7 q7
        have u1 : w7.cell? ⟨v.vb, 0, none⟩ = some (.func (.func 89) #[] #[.pointer (some ⟨v.rb, 0, none⟩), .pointer (some ⟨v.xb, 0, none⟩), .pointer (some ⟨v.vb, 0, none⟩), .pointer (some ⟨v.kb, 0, none⟩), .pointer (some ⟨v.ab, 0, none⟩)]) := by rw [S7.out.vis.cell]; rfl
        have u2 : w7.cell? ⟨w1.heap.size, 1, none⟩ = some (.int .i64 (x' : Nat)) := by rw [Q7.out.cell, ← HXA.out]; rfl
        have u3 : w7.cell? ⟨w1.heap.size, 2, none⟩ = some (.int .i64 (y' : Nat)) := by rw [Q7.out.cell, ← HYB.out]; rfl
        refine wp_region_heldB 7 [] (by kernel_rfl) (by kernel_rfl) (by kernel_rfl) (by simp) ?_
        intro S hS
        have k0 : ∀ W, S W → W.cell? ⟨v.vb, 0, none⟩ = some (.func (.func 89) #[] #[.pointer (some ⟨v.rb, 0, none⟩), .pointer (some ⟨v.xb, 0, none⟩), .pointer (some ⟨v.vb, 0, none⟩), .pointer (some ⟨v.kb, 0, none⟩), .pointer (some ⟨v.ab, 0, none⟩)]) ∧ W.cell? ⟨w1.heap.size, 1, none⟩ = some (.int .i64 (x' : Nat)) ∧ W.cell? ⟨w1.heap.size, 2, none⟩ = some (.int .i64 (y' : Nat)) := fun W h => ⟨below_cell (hS W h) u1, below_cell (hS W h) u2, below_cell (hS W h) u3⟩
        have kd : ∀ Wx, S Wx → (Instr.loadAt 104 (.pointer (some ⟨W.heap.size, 0, none⟩))).run Tryz.prog Wx = .ok (.agg (decCells d)) Wx := fun Wx h => run_load_row (D7.out.below' (hS Wx h)) Tryz.underlying104 rfl (dec_info _)
        have K0 := Lib.hid k0
        have KD := Lib.hid kd
        have HS := Lib.hid hS
        clear k0 kd hS u1 u2 u3
        simp only [List.take_succ_cons, List.take_zero, List.drop_succ_cons, List.drop_zero]
        repeat (first
         | (refine held_load 104 _ (by rfl) rfl rfl KD.out ?_; try (dsimp only); try simp only [Act.put, List.setIfInBounds_toArray, List.set_cons_zero, List.set_cons_succ])
         | (refine held_not rfl (by rfl) ?_; try (dsimp only); try simp only [Act.put, List.setIfInBounds_toArray, List.set_cons_zero, List.set_cons_succ])
         | (refine held_val (v := ?_) rfl (by rfl) ?_ ?_; rotate_left; (· (intro W hW; obtain ⟨q0, q1, q2⟩ := K0.out W hW; go_simp; try with_reducible rfl)); try (dsimp only); try simp only [Act.put, List.setIfInBounds_toArray, List.set_cons_zero, List.set_cons_succ])
         | (refine held_skip rfl (by rfl) ?_ ?_; (· (intro W hW; obtain ⟨q0, q1, q2⟩ := K0.out W hW; go_simp; try with_reducible rfl)); try (dsimp only); try simp only [Act.put, List.setIfInBounds_toArray, List.set_cons_zero, List.set_cons_succ])
         | (refine held_call (v := .agg (decCells (decWith d x' y' 2))) (f := 91) (args := #[.agg (decCells d), .int .i64 (x' : Nat), .int .i64 (y' : Nat), .int .u8 2]) rfl (by rfl) ?_ ?_ ?_; (· (intro W hW; go_simp; done)); (· exact (fun W hW => decWith_any d x' y' 2 W (by omega) (by omega) HDD.out (by omega))); try (dsimp only); try simp only [Act.put, List.setIfInBounds_toArray, List.set_cons_zero, List.set_cons_succ]))
        refine held_nil ?_
        intro τ hτ w8 hW hO
        obtain rfl := laid0 hτ
        have hB := HS.out w8 hW
        have s8 := S7.out.below hB
        have kA : Keep (fun k => k ≠ v.rb) w7 w8 := Keep.of_below' hB
        have KB := Lib.hid (((FO.out _ KA.out).trans HK7.out).trans (Far.of hZ J7.out kA))
        have j8 := hJ _ _ _ J7.out kA
        have ih := visit_any c n hn hn8 hlim pa pc bb w0 hparts v K acaps Z J M hat hok hZ hJ k l1 (decWith d x' y' 2) (ev ++ e1) w8 (by omega) (by have := walkM_cnt _ _ _ HM1.out; rw [List.length_append]; omega) (by omega) (walkM_small _ _ _ (fun z hz => hsm z (by simp [hz])) HM1.out) (decWith_le HDD.out (by omega)) s8 j8
        simp only [Vis.caps, List.append_toArray, List.nil_append, List.cons_append] at ih
        have IH2 := Lib.hid ih
        clear hτ hO hW K0 KD HS hB s8 j8 kA ih S7 D7 Q7 HK7 KA IH
        simp only [overs, List.foldl_nil]
        rcases hm2 : walkM c n k (decWith d x' y' 2) l1 with _ | ⟨l2, e2⟩
        ·have HM2 := Lib.hid hm2
         clear hm2
         go_wp2_with (go_at_call 89; (with_reducible refine IH2.out.mono ?_); rintro e w9 ⟨hk9, hm⟩; rw [HM2.out] at hm; subst hm; have HK9 := Lib.hid hk9; clear hk9)
         exact ⟨rfl, KB.out.trans HK9.out, by rw [walkM_two HK1.out HSP.out (by rw [HTA.out, HTB.out]; exact HM1.out) (by rw [HTA.out, HTB.out]; exact HM2.out)]⟩
        ·have HM2 := Lib.hid hm2
         clear hm2
         go_wp2_with (go_at_call 89; (with_reducible refine IH2.out.mono ?_); rintro e w9 ⟨hk9, hm⟩; rw [HM2.out] at hm; obtain ⟨rfl, hs9, hj9⟩ := hm; have HK9 := Lib.hid hk9; have S9 := Lib.hid hs9; have J9 := Lib.hid hj9; clear hk9 hs9 hj9)
         refine bodyPost_ret (results_none rfl _ _ _) rfl ⟨KB.out.trans HK9.out, ?_⟩
         rw [walkM_yes HK1.out HSP.out (by rw [HTA.out, HTB.out]; exact HM1.out) (by rw [HTA.out, HTB.out]; exact HM2.out)]
         exact ⟨rfl, S9.out, by rw [← List.append_assoc]; exact J9.out⟩
  ·have hk1b : ((x.kind : Int) == 1) = false := by simp; omega
   have HK1 := Lib.hid hk1
   clear hk1
   have hL := run_load_row (P := Tryz.prog) D3.out Tryz.underlying104 rfl (dec_info _)
   have hds := decCells_size d
   go_upto_region 9 with (refine wpList_load_box rfl 104 _ rfl rfl hL ?_)
   simp only [node_built]
   have hB4 : Below w3.heap.size w3 (w3.alloc (.cells (nodeCells bb d) 109)) := (Below.refl _ _).alloc (Nat.le_refl _) _
   have hn4 : NodeAt c pa pc d bb w2.heap.size (w3.alloc (.cells (nodeCells bb d) 109)) := ⟨H3.out.ben.alloc _, Box.new' s3.symm, hparts.below (H3.out.old.trans (hB4.mono H3.out.old.size))⟩
   have s4 := H3.out.below hB4
   have hk4 := K3.out.trans (Keep.of_below' hB4)
   have hj4 := hJ _ _ _ J3.out (Keep.of_below' (K := fun k => k ≠ v.rb) hB4)
   have hq4 := Q3.out.below' hB4
   have hm4 := s4.map
   have q4 := hq4.cell
   have p1 := s4.kin.cell
   have hx5 := X5.out.below s4.old
   clear hL q30 q31 q32 q33 p31 p32 H3 K3 J3 D3 Q3
   generalize w3.alloc (.cells (nodeCells bb d) 109) = w4 at *
   have N4 := Lib.hid hn4
   have S4 := Lib.hid s4
   have K4 := Lib.hid hk4
   have J4 := Lib.hid hj4
   have Q4 := Lib.hid hq4
   have X4 := Lib.hid hx5
   have HDD := Lib.hid hd
   have HAT := Lib.hid hat.2
   have hent := hat.1
   have HL := Lib.hid hn
   clear hn4 s4 hk4 hj4 hq4 hB4 hx5 hd hn
   have hz : (zeroValue 149).run Tryz.prog w4 = .ok .nilFunc w4 := by kernel_rfl
   by_cases hk2 : x.kind = 2
   ·have hlk := run_lookup_ok (k := .int .u8 x.kind) Tryz.underlying143 Tryz.underlying5 hm4 hz (by rw [hk2]; exact leaf_two)
    simp only [Option.map_some, Option.getD_some, Option.isSome_some, leafFn] at hlk
    have HK := Lib.hid hk2
    clear hk2
    have HCA := Lib.hid (clashes_any c n HL.out hn8 pa pc d HDD.out bb w2.heap.size w4 N4.out x.kind x.a x.b x.many ma mc)
    rcases hb : clashesB c d n x.a x.b x.many with _ | _
    ·rw [hb] at HCA
     have HLB := Lib.hid (show leafB c d n x = false by simp only [leafB, HK.out]; exact hb)
     clear hb
     go_wp2_with (first
      | (go_at_call 121; (with_reducible refine HCA.out.mono ?_); rintro e w5 ⟨rfl, hb5⟩; have HB5 := Lib.hid hb5; clear hb5)
      | (go_at_call 90; (with_reducible refine (need_no _).mono ?_); rintro e w' ⟨rfl, rfl⟩))
     exact ⟨rfl, FO.out _ (K4.out.trans (Keep.of_below' HB5.out)), by rw [walkM_leaf HK1.out, HLB.out]; rfl⟩
    ·rw [hb] at HCA
     have HLB := Lib.hid (show leafB c d n x = true by simp only [leafB, HK.out]; exact hb)
     clear hb
     go_wp2_with (first
      | (go_at_call 121; (with_reducible refine HCA.out.mono ?_); rintro e w5 ⟨rfl, hb5⟩; have HB5 := Lib.hid hb5; have q5 := (Q4.out.below' hb5).cell; have a5 := (S4.out.below hb5).att.cell; clear hb5)
      | (go_at_call 90; (with_reducible refine (need_ok _).mono ?_); rintro e w' ⟨rfl, rfl⟩))
     refine (HAT.out ev d x _ ma mc w5 HDD.out (S4.out.old.trans (HB5.out.mono S4.out.old.size)) (N4.out.below HB5.out) X5.out x6 HLB.out (by omega) (hJ _ _ _ J4.out (Keep.of_below' HB5.out))).mono ?_
     rintro e w6 ⟨rfl, hj6, hk6, hz6⟩
     go_wp2_with fail
     go_end0
     refine ⟨(FO.out _ (K4.out.trans (Keep.of_below' HB5.out))).trans ⟨hk6.mono fun k hk => hk.2, hz6⟩, ?_⟩
     rw [walkM_leaf HK1.out, HLB.out]
     refine ⟨rfl, (S4.out.below HB5.out).keep hk6 ?_ ?_ ?_, hj6⟩
     ·intro k hk hz; have := hok.zn _ _ (hJ _ _ _ J4.out (Keep.of_below' HB5.out)) k hz; omega
     ·intro hz; have := hok.zn _ _ (hJ _ _ _ J4.out (Keep.of_below' HB5.out)) _ hz; omega
     ·refine ⟨?_, ?_, ?_, ?_, ?_, ?_⟩ <;> (intro hz; have := hok.zn _ _ (hJ _ _ _ J4.out (Keep.of_below' HB5.out)) _ hz; omega)
   ·by_cases hk3 : x.kind = 3
    ·have hlk := run_lookup_ok (k := .int .u8 x.kind) Tryz.underlying143 Tryz.underlying5 hm4 hz (by rw [hk3]; exact leaf_three)
     simp only [Option.map_some, Option.getD_some, Option.isSome_some, leafFn] at hlk
     have HK := Lib.hid hk3
     clear hk3 hk2
     have HCA := Lib.hid (parted_any c n HL.out hn8 pa pc d HDD.out bb w2.heap.size w4 N4.out x.kind x.a x.b x.many ma mc)
     rcases hb : partedB d n x.a x.b x.many with _ | _
     ·rw [hb] at HCA
      have HLB := Lib.hid (show leafB c d n x = false by simp only [leafB, HK.out]; exact hb)
      clear hb
      go_wp2_with (first
       | (go_at_call 122; (with_reducible refine HCA.out.mono ?_); rintro e w5 ⟨rfl, hb5⟩; have HB5 := Lib.hid hb5; clear hb5)
       | (go_at_call 90; (with_reducible refine (need_no _).mono ?_); rintro e w' ⟨rfl, rfl⟩))
      exact ⟨rfl, FO.out _ (K4.out.trans (Keep.of_below' HB5.out)), by rw [walkM_leaf HK1.out, HLB.out]; rfl⟩
     ·rw [hb] at HCA
      have HLB := Lib.hid (show leafB c d n x = true by simp only [leafB, HK.out]; exact hb)
      clear hb
      go_wp2_with (first
       | (go_at_call 122; (with_reducible refine HCA.out.mono ?_); rintro e w5 ⟨rfl, hb5⟩; have HB5 := Lib.hid hb5; have q5 := (Q4.out.below' hb5).cell; have a5 := (S4.out.below hb5).att.cell; clear hb5)
       | (go_at_call 90; (with_reducible refine (need_ok _).mono ?_); rintro e w' ⟨rfl, rfl⟩))
      refine (HAT.out ev d x _ ma mc w5 HDD.out (S4.out.old.trans (HB5.out.mono S4.out.old.size)) (N4.out.below HB5.out) X5.out x6 HLB.out (by omega) (hJ _ _ _ J4.out (Keep.of_below' HB5.out))).mono ?_
      rintro e w6 ⟨rfl, hj6, hk6, hz6⟩
      go_wp2_with fail
      go_end0
      refine ⟨(FO.out _ (K4.out.trans (Keep.of_below' HB5.out))).trans ⟨hk6.mono fun k hk => hk.2, hz6⟩, ?_⟩
      rw [walkM_leaf HK1.out, HLB.out]
      refine ⟨rfl, (S4.out.below HB5.out).keep hk6 ?_ ?_ ?_, hj6⟩
      ·intro k hk hz; have := hok.zn _ _ (hJ _ _ _ J4.out (Keep.of_below' HB5.out)) k hz; omega
      ·intro hz; have := hok.zn _ _ (hJ _ _ _ J4.out (Keep.of_below' HB5.out)) _ hz; omega
      ·refine ⟨?_, ?_, ?_, ?_, ?_, ?_⟩ <;> (intro hz; have := hok.zn _ _ (hJ _ _ _ J4.out (Keep.of_below' HB5.out)) _ hz; omega)
    ·by_cases hk4 : x.kind = 4
     ·have hlk := run_lookup_ok (k := .int .u8 x.kind) Tryz.underlying143 Tryz.underlying5 hm4 hz (by rw [hk4]; exact leaf_four)
      simp only [Option.map_some, Option.getD_some, Option.isSome_some, leafFn] at hlk
      have HK := Lib.hid hk4
      clear hk4 hk2 hk3
      have HCA := Lib.hid (many_any c n HL.out hn8 hlim pa pc d HDD.out bb w2.heap.size w4 N4.out x.kind x.a x.b x.many ma mc X4.out x6 (hsm x (by simp)).2)
      rcases hb : manyB c d n x.a x.b x.many with _ | _
      ·rw [hb] at HCA
       have HLB := Lib.hid (show leafB c d n x = false by simp only [leafB, HK.out]; exact hb)
       clear hb
       go_wp2_with (first
        | (go_at_call 123; (with_reducible refine HCA.out.mono ?_); rintro e w5 ⟨rfl, hb5⟩; have HB5 := Lib.hid hb5; clear hb5)
        | (go_at_call 90; (with_reducible refine (need_no _).mono ?_); rintro e w' ⟨rfl, rfl⟩))
       exact ⟨rfl, FO.out _ (K4.out.trans (Keep.of_below' HB5.out)), by rw [walkM_leaf HK1.out, HLB.out]; rfl⟩
      ·rw [hb] at HCA
       have HLB := Lib.hid (show leafB c d n x = true by simp only [leafB, HK.out]; exact hb)
       clear hb
       go_wp2_with (first
        | (go_at_call 123; (with_reducible refine HCA.out.mono ?_); rintro e w5 ⟨rfl, hb5⟩; have HB5 := Lib.hid hb5; have q5 := (Q4.out.below' hb5).cell; have a5 := (S4.out.below hb5).att.cell; clear hb5)
        | (go_at_call 90; (with_reducible refine (need_ok _).mono ?_); rintro e w' ⟨rfl, rfl⟩))
       refine (HAT.out ev d x _ ma mc w5 HDD.out (S4.out.old.trans (HB5.out.mono S4.out.old.size)) (N4.out.below HB5.out) X5.out x6 HLB.out (by omega) (hJ _ _ _ J4.out (Keep.of_below' HB5.out))).mono ?_
       rintro e w6 ⟨rfl, hj6, hk6, hz6⟩
       go_wp2_with fail
       go_end0
       refine ⟨(FO.out _ (K4.out.trans (Keep.of_below' HB5.out))).trans ⟨hk6.mono fun k hk => hk.2, hz6⟩, ?_⟩
       rw [walkM_leaf HK1.out, HLB.out]
       refine ⟨rfl, (S4.out.below HB5.out).keep hk6 ?_ ?_ ?_, hj6⟩
       ·intro k hk hz; have := hok.zn _ _ (hJ _ _ _ J4.out (Keep.of_below' HB5.out)) k hz; omega
       ·intro hz; have := hok.zn _ _ (hJ _ _ _ J4.out (Keep.of_below' HB5.out)) _ hz; omega
       ·refine ⟨?_, ?_, ?_, ?_, ?_, ?_⟩ <;> (intro hz; have := hok.zn _ _ (hJ _ _ _ J4.out (Keep.of_below' HB5.out)) _ hz; omega)
     ·have hlk := run_lookup_ok (k := .int .u8 x.kind) Tryz.underlying143 Tryz.underlying5 hm4 hz (leaf_none ⟨hk2, hk3, hk4⟩)
      simp only [Option.map_none, Option.getD_none, Option.isSome_none] at hlk
      have HLB := Lib.hid (show leafB c d n x = false by simp only [leafB, hk2, hk3, hk4, if_false])
      clear hk2 hk3 hk4
      go_wp2_with (go_at_call 90; (with_reducible refine (need_no _).mono ?_); rintro e w' ⟨rfl, rfl⟩)
      exact ⟨rfl, FO.out _ K4.out, by rw [walkM_leaf HK1.out, HLB.out]; rfl⟩
end Go.Proofs.YtpjcnkajimgagaaGreat.U
namespace Go.Proofs.YtpjcnkajimgagaaGreat.U
open Go.RowKit
attribute [local go_sem] Oper.semAt_some

set_option maxRecDepth 100000 in
set_option maxHeartbeats 1000000 in
theorem walk2_any (c : Cs) (n : Nat) (hn : c.parts.length = n) (hn8 : n ≤ 8) (hlim : 0 ≤ c.limit ∧ c.limit ≤ 40) (pa : Option Addr) (pc : Nat) (bb : Nat) (w0 : World) (hparts : PartsAt w0 pa c.parts) (v : Vis) (K : Nat) (acaps : Array Value) (Z : World → Nat → Prop) (J : List (Dec × Br) → World → Prop)
  (M : Nat) (hat : AtFn c n pa pc bb w0 K acaps Z J M) (hok : VisOk w0 v bb Z J) (hZ : ∀ s A B, J s A → Keep (fun k => k ≠ v.rb) A B → ∀ k, Z B k → Z A k) (hJ : ∀ s A B, J s A → Keep (fun k => k ≠ v.rb) A B → J s B)
  (l : List Br) (d : Dec) (db : Nat) (W : World) (hM : l.length ≤ M) (hll : l.length ≤ 1000000) (hsm : ∀ x ∈ l, x.Small) (hd : ∀ a b, d a b ≤ 3) (hst : VisSt c pa pc bb w0 v K acaps l W) (hj : J [] W) (hdb : Box W db (decCells d) 104) :
  Calls Tryz.prog 93 #[.pointer (some ⟨v.vb, 0, none⟩), .pointer (some ⟨db, 0, none⟩), .pointer (some ⟨v.rb, 0, none⟩)] W fun e W' =>
   Far v.rb Z W W' ∧ match walkM c n (l.length + 1) d l with
    | some ([], es) => e = .returned (.tuple #[]) ∧ J es W'
    | _ => e = .panicked [{ v := unproved, recovered := false }] := by
 have hL := run_load_row (P := Tryz.prog) hdb Tryz.underlying104 rfl (dec_info _)
 have e1 : W.cell? ⟨v.vb, 0, none⟩ = some (.func (.func 89) #[] #[.pointer (some ⟨v.rb, 0, none⟩), .pointer (some ⟨v.xb, 0, none⟩), .pointer (some ⟨v.vb, 0, none⟩), .pointer (some ⟨v.kb, 0, none⟩), .pointer (some ⟨v.ab, 0, none⟩)]) := by rw [hst.vis.cell]; rfl
 have ih := visit_any c n hn hn8 hlim pa pc bb w0 hparts v K acaps Z J M hat hok hZ hJ (l.length + 1) l d [] W (by omega) (by simpa using hM) hll hsm hd hst hj
 simp only [Vis.caps, List.append_toArray, List.nil_append, List.cons_append] at ih
 have IH := Lib.hid ih
 clear ih hst
 rcases hm : walkM c n (l.length + 1) d l with _ | ⟨r, es⟩
 ·have HM := Lib.hid hm
  clear hm
  go_enter Tryz.func93, Tryz.ntmps93
  go_wp2_with (first
   | (refine wpList_load_box rfl 104 _ rfl rfl hL ?_)
   | (go_at_call 89; (with_reducible refine IH.out.mono ?_); rintro e w7 ⟨hk7, hx⟩; rw [HM.out] at hx; subst hx; have HK7 := Lib.hid hk7; clear hk7))
  exact ⟨rfl, HK7.out, rfl⟩
 ·have HM := Lib.hid hm
  clear hm
  rcases r with _ | ⟨y, r⟩
  ·go_enter Tryz.func93, Tryz.ntmps93
   go_wp2_with (first
    | (refine wpList_load_box rfl 104 _ rfl rfl hL ?_)
    | (go_at_call 89; (with_reducible refine IH.out.mono ?_); rintro e w7 ⟨hk7, hx⟩; rw [HM.out] at hx; obtain ⟨rfl, hs7, hj7⟩ := hx; have HK7 := Lib.hid hk7; have HJ7 := Lib.hid hj7; obtain ⟨ra, rk, hr7, _, _⟩ := hs7.rest; have e7 := hr7.cell; clear hk7 hj7 hs7 hr7)
    | (go_at_call 90; (with_reducible refine (need_ok _).mono ?_); rintro e w' ⟨rfl, rfl⟩))
   go_end0
   exact ⟨HK7.out, rfl, HJ7.out⟩
  ·have hrl : ((r.length : Int) + 1 == 0) = false := by simp; omega
   go_enter Tryz.func93, Tryz.ntmps93
   go_wp2_with (first
    | (refine wpList_load_box rfl 104 _ rfl rfl hL ?_)
    | (go_at_call 89; (with_reducible refine IH.out.mono ?_); rintro e w7 ⟨hk7, hx⟩; rw [HM.out] at hx; obtain ⟨rfl, hs7, hj7⟩ := hx; have HK7 := Lib.hid hk7; obtain ⟨ra, rk, hr7, _, _⟩ := hs7.rest; rw [List.length_cons] at hr7; have e7 := hr7.cell; clear hk7 hj7 hs7 hr7)
    | (go_at_call 90; (with_reducible refine (need_no _).mono ?_); rintro e w' ⟨rfl, rfl⟩))
   exact ⟨rfl, HK7.out, rfl⟩

set_option maxRecDepth 100000 in
set_option maxHeartbeats 1000000 in
theorem walk_any (c : Cs) (n : Nat) (hn : c.parts.length = n) (hn8 : n ≤ 8) (hlim : 0 ≤ c.limit ∧ c.limit ≤ 40) (pa : Option Addr) (pc : Nat) (bb : Nat) (w0 : World) (hparts : PartsAt w0 pa c.parts) (K : Nat) (acaps : Array Value) (Z : World → Nat → Prop) (Z0 : Nat → Prop) (J : Nat → List (Dec × Br) → World → Prop)
  (w : World) (M : Nat) (hat : ∀ N, w.heap.size ≤ N → AtFn c n pa pc bb w0 K acaps Z (J N) M) (hZ : ∀ N s A, J N s A → ∀ k, Z A k → (w0.heap.size ≤ k ∧ k ≠ bb ∧ k < A.heap.size) ∧ (k < w.heap.size ∧ Z0 k ∨ N ≤ k)) (hZK : ∀ N s A B, J N s A → Keep (fun k => ¬ (w.heap.size ≤ k ∧ k < N)) A B → ∀ k, Z B k → Z A k) (hJ : ∀ N s A B, J N s A → Keep (fun k => ¬ (w.heap.size ≤ k ∧ k < N)) A B → J N s B)
  (l : List Br) (d : Dec) (hM : l.length ≤ M) (hll : l.length ≤ 1000000) (hsm : ∀ x ∈ l, x.Small) (hd : ∀ a b, d a b ≤ 3) (hold : Below w0.heap.size w0 w) (hben : Box w bb (csCells c pa pc) 88) (hj : ∀ N W, w.heap.size ≤ N → N ≤ W.heap.size → Below w.heap.size w W → J N [] W) (ra : Option Addr) (rc : Nat) (hbr : BrsAt w0 ra l) (hrc : l.length ≤ rc) :
  Calls Tryz.prog 51 #[.pointer (some ⟨bb, 0, none⟩), .agg (decCells d), .slice ra l.length rc, .func (.func K) #[] acaps] w (WalkPost c n d l Z0 J w) := by
 have hmf := run_mf Tryz.prog
 by_cases hlong : 20000 < l.length
 ·have HRR := Lib.hid (refuted_long (c := c) (n := n) (d := d) hlong)
  have hli : (20000 : Int) < l.length := by omega
  clear hlong
  go_enter Tryz.func51, Tryz.ntmps51
  go_wp2_with fail
  go_ret
  exact walkPost_no HRR.out (Keep.of_below (B := w.heap.size) (by go_grown) (fun i hi _ => hi.1))
 ·have hli : (l.length : Int) ≤ 20000 := by omega
  have HNL := Lib.hid hlong
  clear hlong
  go_enter Tryz.func51, Tryz.ntmps51
  go_wp2_with (go_at_call 88; (with_reducible refine (leaves_any _).mono ?_); rintro e w3 ⟨rfl, hm3, hb3⟩; have HM3 := Lib.hid hm3; have HB3 := Lib.hid hb3; clear hm3 hb3)
  simp only [Nat.add_assoc, Nat.reduceAdd]
  obtain ⟨v, hv⟩ : ∃ v : Vis, v = ⟨w3.heap.size + 1, w.heap.size, w3.heap.size + 2, w3.heap.size, w.heap.size + 2, w.heap.size + 3⟩ := ⟨_, rfl⟩
  obtain ⟨w2, hw2⟩ : ∃ w2, ((w.alloc (.cells #[.pointer (some ⟨bb, 0, none⟩)] 72)).alloc (.cells (decCells d) 104)).alloc (.cells #[.func (.func K) #[] acaps] 110) = w2 := ⟨_, rfl⟩
  have hs2 : w2.heap.size = w.heap.size + 3 := by rw [← hw2]; simp
  have hB2 : Below w.heap.size w w2 := by rw [← hw2]; go_grown
  have x0 : Box w2 w.heap.size #[.pointer (some ⟨bb, 0, none⟩)] 72 := by rw [← hw2]; exact ((Box.new _ _ _).alloc _).alloc _
  have x1 : Box w2 (w.heap.size + 1) (decCells d) 104 := by rw [← hw2]; exact (Box.new' (by simp)).alloc _
  have x2 : Box w2 (w.heap.size + 2) #[.func (.func K) #[] acaps] 110 := by rw [← hw2]; exact Box.new' (by simp)
  have hb3 := HB3.out
  have hm3 := HM3.out
  rw [hw2] at hb3
  rw [hw2, hs2] at hm3
  obtain ⟨w7, hw7⟩ : ∃ w7, ((w3.alloc (.cells #[.map (some (w.heap.size + 3))] 143)).alloc (.cells #[.slice ra l.length rc] 37)).alloc (.cells #[.func (.func 89) #[] v.caps] 145) = w7 := ⟨_, rfl⟩
  have hs3 : w.heap.size + 3 ≤ w3.heap.size := by have := hb3.size; omega
  have hs3' : w.heap.size + 3 < w3.heap.size := (Array.getElem?_eq_some_iff.1 hm3).1
  have hs7 : w7.heap.size = w3.heap.size + 3 := by rw [← hw7]; simp
  have hB7 : Below w3.heap.size w3 w7 := by rw [← hw7]; go_grown
  have hb37 : Below w2.heap.size w2 w7 := hb3.trans (hB7.mono hb3.size)
  have hbw7 : Below w.heap.size w w7 := hB2.trans (hb37.mono hB2.size)
  have y0 : Box w7 w3.heap.size #[.map (some (w.heap.size + 3))] 143 := by rw [← hw7]; exact ((Box.new _ _ _).alloc _).alloc _
  have y1 : Box w7 (w3.heap.size + 1) #[.slice ra l.length rc] 37 := by rw [← hw7]; exact (Box.new' (by simp)).alloc _
  have y2 : Box w7 (w3.heap.size + 2) #[.func (.func 89) #[] v.caps] 145 := by rw [← hw7]; exact Box.new' (by simp)
  have hst : VisSt c pa pc bb w0 v K acaps l w7 := by
   refine ⟨hold.trans (hbw7.mono hold.size), hben.below' hbw7, ⟨ra, rc, ?_, hbr, hrc⟩, ?_, ?_, ?_, ?_, ?_⟩
   ·rw [hv]; exact y1
   ·rw [hv]; exact x0.below' hb37
   ·rw [hv]; rw [hv] at y2; exact y2
   ·rw [hv]; exact y0
   ·rw [hv]; exact (hB7.block _ hs3').trans hm3
   ·rw [hv]; exact x2.below' hb37
  have hbl := hben.lt
  have hok : VisOk w0 v bb Z (J (w7.heap.size + 1)) := by
   rw [hv]
   have := hold.size
   exact ⟨fun s A hj k hz => by have := hZ _ _ _ hj k hz; simp only; omega, by simp only; omega⟩
  have hB8 : Below w7.heap.size w7 (w7.alloc (.cells #[.bool false] 4)) := (Below.refl _ _).alloc (Nat.le_refl _) _
  have hj8 : J (w7.heap.size + 1) [] (w7.alloc (.cells #[.bool false] 4)) := hj _ _ (by omega) (by simp) (hbw7.trans (hB8.mono hbw7.size))
  have hJJ : ∀ s A B, J (w7.heap.size + 1) s A → Keep (fun k => k ≠ v.rb) A B → J (w7.heap.size + 1) s B := fun s A B h hk => hJ _ _ _ _ h (hk.mono fun i hi => by rw [hv]; simp only; omega)
  have hZZ : ∀ s A B, J (w7.heap.size + 1) s A → Keep (fun k => k ≠ v.rb) A B → ∀ k, Z B k → Z A k := fun s A B h hk => hZK _ _ _ _ h (hk.mono fun i hi => by rw [hv]; simp only; omega)
  have h2 := walk2_any c n hn hn8 hlim pa pc bb w0 hparts v K acaps Z (J (w7.heap.size + 1)) M (hat _ (by omega)) hok hZZ hJJ l d (w.heap.size + 1) (w7.alloc (.cells #[.bool false] 4)) hM hll hsm hd (hst.below hB8) hj8 ((x1.below' hb37).below' hB8)
  have hbool : Box (w7.alloc (.cells #[.bool false] 4)) w7.heap.size #[.bool false] 4 := Box.new _ _ _
  have ht := tried_any 93 #[.pointer (some ⟨v.vb, 0, none⟩), .pointer (some ⟨w.heap.size + 1, 0, none⟩), .pointer (some ⟨v.rb, 0, none⟩)] w7
   (fun W => Keep (fun k => k < w.heap.size ∧ ¬ Z0 k) w W ∧ ∃ es, refutedB c n d l = some es ∧ J (w7.heap.size + 1) es W) (fun W => Keep (fun k => k < w.heap.size ∧ ¬ Z0 k) w W ∧ refutedB c n d l = none) (enters_of Tryz.func93 (by kernel_rfl) rfl) (h2.mono ?_)
  ·rw [hv] at ht hw7
   simp only [Vis.caps] at ht hw7
   have HT := Lib.hid ht
   have HW7 := Lib.hid hw7
   clear ht hw7 h2 hst hok hJJ hZZ hj8 hB8 hbool y0 y1 y2 x0 x1 x2 hb3 hm3 hv hw2
   rw [HW7.out]
   refine HT.out.mono ?_
   rintro e W' (⟨rfl, W, ⟨hk, es, hr, hjj⟩, hkk⟩ | ⟨rfl, W, ⟨hk, hr⟩, hkk⟩)
   ·go_wp2_with fail
    go_ret
    exact walkPost_yes hr (hk.trans (hkk.mono fun i hi => by omega)) (hJ _ _ _ _ hjj (hkk.mono fun i hi => by omega))
   ·go_wp2_with fail
    go_ret
    exact walkPost_no hr (hk.trans (hkk.mono fun i hi => by omega))
  ·rintro e W ⟨hk, hm⟩
   have hk2 : Keep (fun k => k < w.heap.size ∧ ¬ Z0 k) w W := (Keep.of_below (hbw7.trans (hB8.mono hbw7.size)) (fun i hi _ => hi.1)).trans ((hk.1.mono fun i hi => ⟨by rw [hv]; simp only; omega, fun hz => hi.2 (by have := (hZ _ _ _ hj8 i hz).2; have h1 := hi.1; rcases this with h2 | h2; exact h2.2; omega)⟩ : Keep (fun k => k < w.heap.size ∧ ¬ Z0 k) _ _))
   have hr0 : refutedB c n d l = match walkM c n (l.length + 1) d l with | some ([], es) => some es | _ => none := by rw [refutedB, if_neg HNL.out]; rfl
   refine ⟨hk.1.heap ⟨by rw [hv]; simp only; omega, fun hz => by have := (hZ _ _ _ hj8 _ hz).2; omega⟩ hbool, ?_⟩
   rcases hw : walkM c n (l.length + 1) d l with _ | ⟨r, es⟩
   ·rw [hw] at hm hr0
    exact .inr ⟨hm, hk2, hr0⟩
   ·rcases r with _ | ⟨y, r⟩
    ·rw [hw] at hm hr0
     exact .inl ⟨hm.1, hk2, es, hr0, hm.2⟩
    ·rw [hw] at hm hr0
     exact .inr ⟨hm, hk2, hr0⟩
end Go.Proofs.YtpjcnkajimgagaaGreat.U
