/- Uses, the program's: the Ids of a clash, and between two classes. -/
/- between: the Ids by which two classes are opposed. -/
import Derived.Test.YtpjcnkajimgagaaGreatMUsesP
import Derived.Test.YtpjcnkajimgagaaGreatMNode
set_option linter.unusedSimpArgs false
set_option linter.unusedVariables false
namespace Go.Proofs.YtpjcnkajimgagaaGreat
open Go.RowKit
attribute [local go_sem] Oper.semAt_some

/-- two Ids handed back in new memory -/
def TwoIds (l : List Int) (w : World) (e : Ending) (w' : World) : Prop := ∃ g, e = .returned (.slice (some ⟨g, 0, none⟩) 2 2) ∧ Ints w' (some ⟨g, 0, none⟩) l ∧ l.length = 2 ∧ Below w.heap.size w w'
set_option maxRecDepth 100000 in
set_option maxHeartbeats 2000000 in
theorem causes_any (c : Cs) (hn : c.parts.length ≤ 10) (bb x y : Nat) (pa : Option Addr) (pc : Nat) (w : World) (hb : Box w bb (csCells c pa pc) 88) (hpa : PartsAt w pa c.parts) (hx : x < c.parts.length) (hy : y < c.parts.length) :
  Calls Tryz.prog 54 #[.pointer (some ⟨bb, 0, none⟩), .int .i64 x, .int .i64 y] w (TwoIds (causeS c x y) w) := by
 have hcl := causeS_len hx hy
 obtain ⟨b, o, p, rfl, hp, hP⟩ := hpa.at_ hx
 obtain ⟨b', o', q, hb', hq, hQ⟩ := hpa.at_ hy
 cases hb'
 obtain ⟨sa, sc, ra, rc, c0, c1, c2, c3, c4, c5, c6, c7, x1, x2, x3, x4⟩ := hP.open
 obtain ⟨sa', sc', ra', rc', d0, d1, d2, d3, d4, d5, d6, d7, y1, y2, y3, y4⟩ := hQ.open
 have hs : w.cell? ⟨bb, 3, none⟩ = some (.slice (some ⟨b, o, none⟩) c.parts.length pc) := by rw [hb.cell]; rfl
 have hbl := lt_of_cell hs
 have hpl := lt_of_cell c1
 rw [causeS_eq' hp hq] at hcl ⊢
 have HCL := Lib.hid hcl
 clear hp hq hP hQ hpa hb x1 x2 x3 x4 y1 y2 y3 y4 hcl
 generalize c.parts.length = n at *
 go_enter Tryz.func54, Tryz.ntmps54
 go_upto_region 1 with fail
 go_cut [7, 8] (fun s7 s8 wx => ∃ g1 g2 : Nat, s7 = .pointer (some ⟨g1, 0, none⟩) ∧ s8 = .pointer (some ⟨g2, 0, none⟩) ∧ Box wx g1 #[.slice sa p.sherds.length sc, .int .i64 p.span.low, .int .i64 p.span.high, .int .i64 p.span.lowBy, .int .i64 p.span.highBy, .bool p.foot, .int .i64 p.footBy, .slice ra p.rests.length rc] 52 ∧ Box wx g2 #[.slice sa' q.sherds.length sc', .int .i64 q.span.low, .int .i64 q.span.high, .int .i64 q.span.lowBy, .int .i64 q.span.highBy, .bool q.foot, .int .i64 q.footBy, .slice ra' q.rests.length rc'] 52 ∧ w.heap.size ≤ g1 ∧ w.heap.size ≤ g2 ∧ g1 ≠ g2 ∧ Below w.heap.size w wx)
 case first =>
  go_region_held3 (fun w' => w'.cell? ⟨bb, 3, none⟩ = some (.slice (some ⟨b, o, none⟩) n pc) ∧ w'.cell? ⟨b, o + x * 8, none⟩ = some (.slice sa p.sherds.length sc) ∧ w'.cell? ⟨b, o + x * 8 + 1, none⟩ = some (.int .i64 p.span.low) ∧ w'.cell? ⟨b, o + x * 8 + 2, none⟩ = some (.int .i64 p.span.high) ∧ w'.cell? ⟨b, o + x * 8 + 3, none⟩ = some (.int .i64 p.span.lowBy) ∧ w'.cell? ⟨b, o + x * 8 + 4, none⟩ = some (.int .i64 p.span.highBy) ∧ w'.cell? ⟨b, o + x * 8 + 5, none⟩ = some (.bool p.foot) ∧ w'.cell? ⟨b, o + x * 8 + 6, none⟩ = some (.int .i64 p.footBy) ∧ w'.cell? ⟨b, o + x * 8 + 7, none⟩ = some (.slice ra p.rests.length rc) ∧
   w'.cell? ⟨b, o + y * 8, none⟩ = some (.slice sa' q.sherds.length sc') ∧ w'.cell? ⟨b, o + y * 8 + 1, none⟩ = some (.int .i64 q.span.low) ∧ w'.cell? ⟨b, o + y * 8 + 2, none⟩ = some (.int .i64 q.span.high) ∧ w'.cell? ⟨b, o + y * 8 + 3, none⟩ = some (.int .i64 q.span.lowBy) ∧ w'.cell? ⟨b, o + y * 8 + 4, none⟩ = some (.int .i64 q.span.highBy) ∧ w'.cell? ⟨b, o + y * 8 + 5, none⟩ = some (.bool q.foot) ∧ w'.cell? ⟨b, o + y * 8 + 6, none⟩ = some (.int .i64 q.footBy) ∧ w'.cell? ⟨b, o + y * 8 + 7, none⟩ = some (.slice ra' q.rests.length rc')) (go_keep) (first | (fail))
  all_goals (go_wp2_with fail; go_meet)
  ·exact ⟨w.heap.size, w.heap.size + 1, rfl, rfl, ((Box.new _ _ _).alloc _).drew, (Box.new' (by simp)).drew, by simp, by simp, by simp, by go_grown⟩
  ·exact ⟨w.heap.size + 1, w.heap.size, rfl, rfl, (Box.new' (by simp)).drew, ((Box.new _ _ _).alloc _).drew, by simp, by simp, by simp, by go_grown⟩
 case rest =>
  obtain ⟨g1, g2, rfl, rfl, hg1, hg2, l1, l2, hne, hB⟩ := hcut
  have e1 := hg1.cell
  have e2 := hg2.cell
  have e3 := below_cell hB hs
  have e4 := below_cell hB c5
  have e5 := below_cell hB d5
  have HB := Lib.hid hB
  have G1 := Lib.hid hg1
  have G2 := Lib.hid hg2
  clear hg1 hg2 hB c0 c1 c2 c3 c4 c5 c6 c7 d0 d1 d2 d3 d4 d5 d6 d7 hs
  have hfe := feet_any bb n pc x y b o p.foot q.foot _ e3 hx hy e4 e5
  rcases hf : feetB p.foot q.foot with _ | _
  all_goals (rw [hf] at hfe; have HFE := Lib.hid hfe; clear hfe e3 e4 e5)
  ·by_cases hlt : p.span.low < q.span.low
   ·have HE := Lib.hid (show causeQ p q = [q.span.lowBy, p.span.highBy] by simp [causeQ, hf, hlt])
    have hL1 := run_load_row (P := Tryz.prog) G1.out Tryz.underlying52 rfl (by kernel_rfl)
    have hL2 := run_load_row (P := Tryz.prog) G2.out Tryz.underlying52 rfl (by kernel_rfl)
    have hS1 := run_store_row (P := Tryz.prog) (T := #[.slice sa' q.sherds.length sc', .int .i64 q.span.low, .int .i64 q.span.high, .int .i64 q.span.lowBy, .int .i64 q.span.highBy, .bool q.foot, .int .i64 q.footBy, .slice ra' q.rests.length rc']) G1.out (by kernel_rfl) rfl (by simp [Value.oneCell'])
    have b1 : Box (wc.setRow g1 #[.slice sa' q.sherds.length sc', .int .i64 q.span.low, .int .i64 q.span.high, .int .i64 q.span.lowBy, .int .i64 q.span.highBy, .bool q.foot, .int .i64 q.footBy, .slice ra' q.rests.length rc']) g1 #[.slice sa' q.sherds.length sc', .int .i64 q.span.low, .int .i64 q.span.high, .int .i64 q.span.lowBy, .int .i64 q.span.highBy, .bool q.foot, .int .i64 q.footBy, .slice ra' q.rests.length rc'] 52 := G1.out.setRow_same
    have b2 : Box (wc.setRow g1 #[.slice sa' q.sherds.length sc', .int .i64 q.span.low, .int .i64 q.span.high, .int .i64 q.span.lowBy, .int .i64 q.span.highBy, .bool q.foot, .int .i64 q.footBy, .slice ra' q.rests.length rc']) g2 #[.slice sa' q.sherds.length sc', .int .i64 q.span.low, .int .i64 q.span.high, .int .i64 q.span.lowBy, .int .i64 q.span.highBy, .bool q.foot, .int .i64 q.footBy, .slice ra' q.rests.length rc'] 52 := G2.out.setRow_far hne
    have hS2 := run_store_row (P := Tryz.prog) (T := #[.slice sa p.sherds.length sc, .int .i64 p.span.low, .int .i64 p.span.high, .int .i64 p.span.lowBy, .int .i64 p.span.highBy, .bool p.foot, .int .i64 p.footBy, .slice ra p.rests.length rc]) b2 (by kernel_rfl) rfl (by simp [Value.oneCell'])
    have b3 : Box ((wc.setRow g1 #[.slice sa' q.sherds.length sc', .int .i64 q.span.low, .int .i64 q.span.high, .int .i64 q.span.lowBy, .int .i64 q.span.highBy, .bool q.foot, .int .i64 q.footBy, .slice ra' q.rests.length rc']).setRow g2 #[.slice sa p.sherds.length sc, .int .i64 p.span.low, .int .i64 p.span.high, .int .i64 p.span.lowBy, .int .i64 p.span.highBy, .bool p.foot, .int .i64 p.footBy, .slice ra p.rests.length rc]) g1 #[.slice sa' q.sherds.length sc', .int .i64 q.span.low, .int .i64 q.span.high, .int .i64 q.span.lowBy, .int .i64 q.span.highBy, .bool q.foot, .int .i64 q.footBy, .slice ra' q.rests.length rc'] 52 := b1.setRow_far (Ne.symm hne)
    have b4 : Box ((wc.setRow g1 #[.slice sa' q.sherds.length sc', .int .i64 q.span.low, .int .i64 q.span.high, .int .i64 q.span.lowBy, .int .i64 q.span.highBy, .bool q.foot, .int .i64 q.footBy, .slice ra' q.rests.length rc']).setRow g2 #[.slice sa p.sherds.length sc, .int .i64 p.span.low, .int .i64 p.span.high, .int .i64 p.span.lowBy, .int .i64 p.span.highBy, .bool p.foot, .int .i64 p.footBy, .slice ra p.rests.length rc]) g2 #[.slice sa p.sherds.length sc, .int .i64 p.span.low, .int .i64 p.span.high, .int .i64 p.span.lowBy, .int .i64 p.span.highBy, .bool p.foot, .int .i64 p.footBy, .slice ra p.rests.length rc] 52 := b2.setRow_same
    have hb4 := below_setRow (below_setRow HB.out l1 #[.slice sa' q.sherds.length sc', .int .i64 q.span.low, .int .i64 q.span.high, .int .i64 q.span.lowBy, .int .i64 q.span.highBy, .bool q.foot, .int .i64 q.footBy, .slice ra' q.rests.length rc']) l2 #[.slice sa p.sherds.length sc, .int .i64 p.span.low, .int .i64 p.span.high, .int .i64 p.span.lowBy, .int .i64 p.span.highBy, .bool p.foot, .int .i64 p.footBy, .slice ra p.rests.length rc]
    clear b1 b2
    go_upto_region 5 with (go_at_call 94; (with_reducible refine HFE.out.mono ?_); rintro e w' ⟨rfl, rfl⟩)
    clear e1 e2
    go_upto_region 6 with (first
     | (refine wpList_load_box rfl 52 _ rfl rfl hL1 ?_)
     | (refine wpList_load_box rfl 52 _ rfl rfl hL2 ?_)
     | (refine wpList_store_box rfl 52 _ _ rfl rfl rfl hS1 ?_)
     | (refine wpList_store_box rfl 52 _ _ rfl rfl rfl hS2 ?_))
    have e1 := b3.cell
    have e2 := b4.cell
    generalize (wc.setRow g1 #[.slice sa' q.sherds.length sc', .int .i64 q.span.low, .int .i64 q.span.high, .int .i64 q.span.lowBy, .int .i64 q.span.highBy, .bool q.foot, .int .i64 q.footBy, .slice ra' q.rests.length rc']).setRow g2 #[.slice sa p.sherds.length sc, .int .i64 p.span.low, .int .i64 p.span.high, .int .i64 p.span.lowBy, .int .i64 p.span.highBy, .bool p.foot, .int .i64 p.footBy, .slice ra p.rests.length rc] = w5 at *
    have HB5 := Lib.hid hb4
    clear hb4 b3 b4 hS1 hS2 hL1 hL2
    go_wp2_with fail
    go_ret
    exact ⟨_, rfl, by rw [HE.out]; exact pair_ints _ _ _ _, by rw [HE.out]; rfl, HB5.out.alloc HB5.out.size _⟩
   ·have HE := Lib.hid (show causeQ p q = [p.span.lowBy, q.span.highBy] by simp [causeQ, hf, hlt])
    go_wp2_with (go_at_call 94; (with_reducible refine HFE.out.mono ?_); rintro e w' ⟨rfl, rfl⟩)
    go_ret
    exact ⟨_, rfl, by rw [HE.out]; exact pair_ints _ _ _ _, by rw [HE.out]; rfl, HB.out.alloc HB.out.size _⟩
  ·have HE := Lib.hid (show causeQ p q = [p.footBy, q.footBy] by simp [causeQ, hf])
   go_wp2_with (go_at_call 94; (with_reducible refine HFE.out.mono ?_); rintro e w' ⟨rfl, rfl⟩)
   go_ret
   exact ⟨_, rfl, by rw [HE.out]; exact pair_ints _ _ _ _, by rw [HE.out]; rfl, HB.out.alloc HB.out.size _⟩
end Go.Proofs.YtpjcnkajimgagaaGreat
namespace Go.Proofs.YtpjcnkajimgagaaGreat
open Go.RowKit
attribute [local go_sem] Oper.semAt_some

set_option maxRecDepth 100000 in
set_option maxHeartbeats 1000000 in
theorem between1_any (c : Cs) (n : Nat) (hn : c.parts.length = n) (hn8 : n ≤ 8) (pa : Option Addr) (pc : Nat) (d : Nat → Nat → Nat) (hd : ∀ a b, d a b ≤ 3) (bb nb g p q : Nat) (hp : p < n) (hq : q < n) (w : World)
  (hN : NodeAt c pa pc d bb nb w) (hg : Box w g #[.pointer (some ⟨nb, 0, none⟩)] 106) :
  Calls Tryz.prog 96 #[.int .i64 p, .int .i64 q, .pointer (some ⟨g, 0, none⟩)] w fun e w' => e = .returned (.bool (apartB d p q)) ∧ Below w.heap.size w w' := by
 have hp8 : (p : Int) < 8 := by omega
 have hq8 : (q : Int) < 8 := by omega
 have e0 := hg.cell
 have e1 := node_ptr hN.node
 have e2 := node_pair hN.node (x := p) (y := q) (by omega) (by omega)
 have e3 := bits_and2 (hd p q)
 have e4 := apart_int (d := d) (p := p) (q := q)
 go_enter Tryz.func96, Tryz.ntmps96
 go_wp2_with fail
 go_ret
 exact ⟨rfl, Below.refl _ _⟩
theorem between1_holds (c : Cs) (n : Nat) (hn : c.parts.length = n) (hn8 : n ≤ 8) (pa : Option Addr) (pc : Nat) (d : Nat → Nat → Nat) (hd : ∀ a b, d a b ≤ 3) (bb nb g : Nat) (w : World)
  (hN : NodeAt c pa pc d bb nb w) (hg : Box w g #[.pointer (some ⟨nb, 0, none⟩)] 106) : HoldsP 96 #[] #[.pointer (some ⟨g, 0, none⟩)] (apartB d) n w :=
 ⟨enters_of Tryz.func96 (by kernel_rfl) rfl, fun p q W hp hq hb => between1_any c n hn hn8 pa pc d hd bb nb g p q hp hq W (hN.below hb) (hg.below' hb)⟩
theorem clash_holds (c : Cs) (n : Nat) (hn : c.parts.length = n) (hn8 : n ≤ 8) (pa : Option Addr) (pc : Nat) (d : Nat → Nat → Nat) (bb nb : Nat) (w : World) (hN : NodeAt c pa pc d bb nb w) : HoldsP 74 #[.pointer (some ⟨bb, 0, none⟩)] #[] (clashB c) n w :=
 ⟨enters_of Tryz.func74 (by kernel_rfl) rfl, fun p q W hp hq hb => clash_any c (by omega) bb p q pa pc W (hN.below hb).ben (hN.below hb).parts (by omega) (by omega)⟩
theorem anyL_store {P : Program} {md : Region.Mode} {ops : Array Oper} {Q : Exit → Act → World → Prop} {S : World → Prop} {m : Nat} {i : Nat} {oi : Oper} {p v : Value} (ty : TypeId) (x y : Operand) {fuel : Nat} {listed : Array Bool} {a : Act} {w w' : World} (hi : ops.toList[i]? = some oi) (hr : Region.ready md ops listed = [i]) (hw : Region.wanted oi (yielded ops a.tmps) = true)
  (ho : oi.op = .store ty x y) (hx : a.eval x = p) (hy : a.eval y = v) (he : (Instr.storeAt ty p v).run P w = .ok () w') (hS : i = m ∨ S w') (h : wpAnyL P md ops Q S m fuel (listed.setIfInBounds i true) (a.put oi.dst undef) w') : wpAnyL P md ops Q S m (fuel + 1) listed a w :=
 anyL_skip hi hr hw (by unfold execOp; simp only [ho, hx, hy, Sem.run_bind, he, Result.andThen_ok, Sem.run_pure]) hS h
def BetPost (l : List Int) (w : World) (e : Ending) (w' : World) : Prop := ∃ a cap, e = .returned (.slice a l.length cap) ∧ Ints w' a l ∧ Below w.heap.size w w'
theorem bet_none {c : Cs} {d : Dec} {n p q : Nat} (h : (rivalsOf d n p q (apartB d)).isSome = true) : betS c d n p q = [] := by rw [betS, if_pos h]
theorem bet_pair {c : Cs} {d : Dec} {n p q a b : Nat} (h : (rivalsOf d n p q (apartB d)).isSome = false) (ha : ((rivalsOf d n p q (clashB c)).map (·.1)).getD 0 = a) (hb : ((rivalsOf d n p q (clashB c)).map (·.2)).getD 0 = b) : betS c d n p q = causeS c a b := by
 rw [betS, if_neg (by rw [h]; simp)]
 rcases hr : rivalsOf d n p q (clashB c) with _ | z
 ·rw [hr] at ha hb; subst ha hb; rfl
 ·rw [hr] at ha hb; subst ha hb; rfl
theorem pair_lt {c : Cs} {d : Dec} {n p q : Nat} (h0 : 0 < n) : ((rivalsOf d n p q (clashB c)).map (·.1)).getD 0 < n ∧ ((rivalsOf d n p q (clashB c)).map (·.2)).getD 0 < n := by
 rcases hr : rivalsOf d n p q (clashB c) with _ | z
 ·exact ⟨h0, h0⟩
 ·have := rivals_in hr
  exact ⟨this.1, this.2.1⟩
set_option maxRecDepth 100000 in
set_option maxHeartbeats 2000000 in
theorem between_any (c : Cs) (n : Nat) (hn : c.parts.length = n) (hn8 : n ≤ 8) (pa : Option Addr) (pc : Nat) (d : Nat → Nat → Nat) (hd : ∀ a b, d a b ≤ 3) (bb nb x y : Nat) (hx : x < n) (hy : y < n) (w : World)
  (hN : NodeAt c pa pc d bb nb w) :
  Calls Tryz.prog 55 #[.pointer (some ⟨nb, 0, none⟩), .int .i64 x, .int .i64 y] w (BetPost (betS c d n x y) w) := by
 have hmf := run_mf Tryz.prog
 obtain ⟨w1, hw1⟩ : ∃ w1, w.alloc (.cells #[.pointer (some ⟨nb, 0, none⟩)] 106) = w1 := ⟨_, rfl⟩
 have hB1 : Below w.heap.size w w1 := by rw [← hw1]; exact (Below.refl _ _).alloc (Nat.le_refl _) _
 have b1 : Box w1 w.heap.size #[.pointer (some ⟨nb, 0, none⟩)] 106 := by rw [← hw1]; exact Box.new _ _ _
 have hN1 := hN.below hB1
 have HR := Lib.hid (rivals_any c n hn hn8 pa pc d hd bb nb x y hx hy _ hN1.ben hN1.node _ _ _ _ (between1_holds c n hn hn8 pa pc d hd bb nb w.heap.size _ hN1 b1))
 have e1 : w1.cell? ⟨w.heap.size, 0, none⟩ = some (.pointer (some ⟨nb, 0, none⟩)) := b1.cell 0
 have HB := Lib.hid hB1
 have HN1 := Lib.hid hN1
 have G1 := Lib.hid b1
 have HW := Lib.hid hw1
 clear hN hN1 hB1 b1 hw1
 rcases hr1 : (rivalsOf d n x y (apartB d)).isSome with _ | _
 ·have HR1 := Lib.hid hr1
  have HR := Lib.hid (HR.out.mono fun (e : Ending) (w' : World) hh => (by obtain ⟨h1, h2⟩ := hh; rw [hr1] at h2; exact ⟨h1, _, _, h2⟩ : Below w1.heap.size w1 w' ∧ ∃ A B : Nat, e = .returned (.tuple #[.agg #[.int .i64 A, .int .i64 B], .bool false])))
  clear hr1
  go_enter Tryz.func55, Tryz.ntmps55
  go_upto_region 1 with fail
  simp only [HW.out]
  go_upto_region 4 with (go_at_call 95; (with_reducible refine HR.out.mono ?_); rintro e w2 ⟨hb2, A, B, rfl⟩; have HB2 := Lib.hid hb2; clear hb2)
  have hb3 : Below w.heap.size w (w2.alloc (.cells #[.int .i64 A, .int .i64 B] 71)) := (HB.out.trans (HB2.out.mono HB.out.size)).alloc (by have := HB2.out.size; have := HB.out.size; omega) _
  have hn3 : NodeAt c pa pc d bb nb (w2.alloc (.cells #[.int .i64 A, .int .i64 B] 71)) := (HN1.out.below HB2.out).below ((Below.refl _ _).alloc (Nat.le_refl _) _)
  have g3 : Box (w2.alloc (.cells #[.int .i64 A, .int .i64 B] 71)) w.heap.size #[.pointer (some ⟨nb, 0, none⟩)] 106 := (G1.out.below' HB2.out).alloc _
  generalize w2.alloc (.cells #[.int .i64 A, .int .i64 B] 71) = w3 at *
  have HB3 := Lib.hid hb3
  have HN3 := Lib.hid hn3
  have G3 := Lib.hid g3
  clear hb3 hn3 g3 e1
  obtain ⟨A2, hA2⟩ : ∃ A2, ((rivalsOf d n x y (clashB c)).map (·.1)).getD 0 = A2 := ⟨_, rfl⟩
  obtain ⟨B2, hB2⟩ : ∃ B2, ((rivalsOf d n x y (clashB c)).map (·.2)).getD 0 = B2 := ⟨_, rfl⟩
  obtain ⟨T2, hT2⟩ : ∃ T2, (rivalsOf d n x y (clashB c)).isSome = T2 := ⟨_, rfl⟩
  have hlt := pair_lt (c := c) (d := d) (p := x) (q := y) (show 0 < n by omega)
  rw [hA2, hB2] at hlt
  have hlA := hlt.1
  have hlB := hlt.2
  have HBE := Lib.hid (bet_pair HR1.out hA2 hB2)
  have hrv := fun W (h : Below w3.heap.size w3 W) => (rivals_any c n hn hn8 pa pc d hd bb nb x y hx hy W (HN3.out.below h).ben (HN3.out.below h).node _ _ _ _ (clash_holds c n hn hn8 pa pc d bb nb W (HN3.out.below h))).mono fun (e : Ending) (w' : World) hh => (by obtain ⟨h1, h2⟩ := hh; rw [hA2, hB2, hT2] at h2; exact ⟨h2, h1⟩ : e = .returned (.tuple #[.agg #[.int .i64 A2, .int .i64 B2], .bool T2]) ∧ Below W.heap.size W w')
  have HRV := Lib.hid hrv
  clear hrv hlt hA2 hB2 hT2
  obtain ⟨SS, hS0⟩ : ∃ SS : World → Prop, SS = fun A => Below w3.heap.size w3 A := ⟨_, rfl⟩
  have ofS : ∀ A, Below w3.heap.size w3 A → SS A := fun A h => by rw [hS0]; exact h
  have k0 : ∀ A, SS A → A.cell? ⟨w.heap.size, 0, none⟩ = some (.pointer (some ⟨nb, 0, none⟩)) ∧ A.cell? ⟨nb, 0, none⟩ = some (.pointer (some ⟨bb, 0, none⟩)) := fun A hA => by
   rw [hS0] at hA
   exact ⟨(G3.out.below' hA).cell 0, node_ptr (HN3.out.below hA).node⟩
  have K0 := Lib.hid k0
  clear k0
  refine wp_region_L SS 14 (by kernel_rfl) ?_
  have hSb : Below w3.heap.size w3 w3.drew := (Below.refl _ w3).drew
  have hSS := ofS _ hSb
  refine anyL_take (i := 0) (v := ?_) (by kernel_rfl) rfl (by kernel_rfl) (by kernel_rfl) (by kernel_rfl) (by kernel_rfl) (fun _ _ _ h => h) (by rfl) ?_ hSS ?_
  rotate_left
  ·(intro W hW; obtain ⟨q0, q1⟩ := K0.out W hW; go_simp; try with_reducible rfl)
  try (dsimp only); try simp only [Act.put, List.setIfInBounds_toArray, List.set_cons_zero, List.set_cons_succ]
  refine anyL_take (i := 1) (v := ?_) (by kernel_rfl) rfl (by kernel_rfl) (by kernel_rfl) (by kernel_rfl) (by kernel_rfl) (fun _ _ _ h => h) (by rfl) ?_ hSS ?_
  rotate_left
  ·(intro W hW; obtain ⟨q0, q1⟩ := K0.out W hW; go_simp; try with_reducible rfl)
  try (dsimp only); try simp only [Act.put, List.setIfInBounds_toArray, List.set_cons_zero, List.set_cons_succ]
  refine anyL_take (i := 2) (v := ?_) (by kernel_rfl) rfl (by kernel_rfl) (by kernel_rfl) (by kernel_rfl) (by kernel_rfl) (fun _ _ _ h => h) (by rfl) ?_ hSS ?_
  rotate_left
  ·(intro W hW; obtain ⟨q0, q1⟩ := K0.out W hW; go_simp; try with_reducible rfl)
  try (dsimp only); try simp only [Act.put, List.setIfInBounds_toArray, List.set_cons_zero, List.set_cons_succ]
  refine anyL_take (i := 3) (v := ?_) (by kernel_rfl) rfl (by kernel_rfl) (by kernel_rfl) (by kernel_rfl) (by kernel_rfl) (fun _ _ _ h => h) (by rfl) ?_ hSS ?_
  rotate_left
  ·(intro W hW; obtain ⟨q0, q1⟩ := K0.out W hW; go_simp; try with_reducible rfl)
  try (dsimp only); try simp only [Act.put, List.setIfInBounds_toArray, List.set_cons_zero, List.set_cons_succ]
  refine anyL_take (i := 4) (v := ?_) (by kernel_rfl) rfl (by kernel_rfl) (by kernel_rfl) (by kernel_rfl) (by kernel_rfl) (fun _ _ _ h => h) (by rfl) ?_ hSS ?_
  rotate_left
  ·(intro W hW; obtain ⟨q0, q1⟩ := K0.out W hW; go_simp; try with_reducible rfl)
  try (dsimp only); try simp only [Act.put, List.setIfInBounds_toArray, List.set_cons_zero, List.set_cons_succ]
  refine anyL_take (i := 5) (v := ?_) (by kernel_rfl) rfl (by kernel_rfl) (by kernel_rfl) (by kernel_rfl) (by kernel_rfl) (fun _ _ _ h => h) (by rfl) ?_ hSS ?_
  rotate_left
  ·(intro W hW; obtain ⟨q0, q1⟩ := K0.out W hW; go_simp; try with_reducible rfl)
  try (dsimp only); try simp only [Act.put, List.setIfInBounds_toArray, List.set_cons_zero, List.set_cons_succ]
  refine anyL_take (i := 6) (v := ?_) (by kernel_rfl) rfl (by kernel_rfl) (by kernel_rfl) (by kernel_rfl) (by kernel_rfl) (fun _ _ _ h => h) (by rfl) ?_ hSS ?_
  rotate_left
  ·(intro W hW; obtain ⟨q0, q1⟩ := K0.out W hW; go_simp; try with_reducible rfl)
  try (dsimp only); try simp only [Act.put, List.setIfInBounds_toArray, List.set_cons_zero, List.set_cons_succ]
  refine anyL_take (i := 7) (v := ?_) (by kernel_rfl) rfl (by kernel_rfl) (by kernel_rfl) (by kernel_rfl) (by kernel_rfl) (fun _ _ _ h => h) (by rfl) ?_ hSS ?_
  rotate_left
  ·(intro W hW; obtain ⟨q0, q1⟩ := K0.out W hW; go_simp; try with_reducible rfl)
  try (dsimp only); try simp only [Act.put, List.setIfInBounds_toArray, List.set_cons_zero, List.set_cons_succ]
  refine anyL_two (i := 8) (j := 12) (by kernel_rfl) ?_ ?_
  ·refine wpOp_call (f := 95) (args := #[.pointer (some ⟨nb, 0, none⟩), .int .i64 x, .int .i64 y, .func (.func 74) #[.pointer (some ⟨bb, 0, none⟩)] #[]]) rfl (by rfl) ?_ (HRV.out _ hSb) ?_
   ·go_simp
   rintro e w4 ⟨rfl, hb4⟩
   have hb5 : Below w3.heap.size w3 w4 := hSb.trans hb4
   refine ⟨_, rfl, .inr (ofS _ hb5), ?_⟩
   try (dsimp only); try simp only [Act.put, List.setIfInBounds_toArray, List.set_cons_zero, List.set_cons_succ]
   have hSS := ofS _ hb5
   refine anyL_take (i := 9) (v := ?_) (by kernel_rfl) rfl (by kernel_rfl) (by kernel_rfl) (by kernel_rfl) (by kernel_rfl) (fun _ _ _ h => h) (by rfl) ?_ hSS ?_
   rotate_left
   ·(intro W hW; obtain ⟨q0, q1⟩ := K0.out W hW; go_simp; try with_reducible rfl)
   try (dsimp only); try simp only [Act.put, List.setIfInBounds_toArray, List.set_cons_zero, List.set_cons_succ]
   refine anyL_take (i := 10) (v := ?_) (by kernel_rfl) rfl (by kernel_rfl) (by kernel_rfl) (by kernel_rfl) (by kernel_rfl) (fun _ _ _ h => h) (by rfl) ?_ hSS ?_
   rotate_left
   ·(intro W hW; obtain ⟨q0, q1⟩ := K0.out W hW; go_simp; try with_reducible rfl)
   try (dsimp only); try simp only [Act.put, List.setIfInBounds_toArray, List.set_cons_zero, List.set_cons_succ]
   refine anyL_take (i := 11) (v := ?_) (by kernel_rfl) rfl (by kernel_rfl) (by kernel_rfl) (by kernel_rfl) (by kernel_rfl) (fun _ _ _ h => h) (by rfl) ?_ hSS ?_
   rotate_left
   ·(intro W hW; obtain ⟨q0, q1⟩ := K0.out W hW; go_simp; try with_reducible rfl)
   try (dsimp only); try simp only [Act.put, List.setIfInBounds_toArray, List.set_cons_zero, List.set_cons_succ]
   refine anyL_run (i := 12) (v := .pointer (some ⟨w4.heap.size, 0, none⟩)) (w' := w4.alloc (.cells #[.int .i64 0, .int .i64 0] 71)) rfl (by kernel_rfl) (by rfl) ?_ (.inr (ofS _ (hb5.alloc hb5.size _))) ?_
   ·go_simp
    try with_reducible rfl
   try (dsimp only); try simp only [Act.put, List.setIfInBounds_toArray, List.set_cons_zero, List.set_cons_succ]
   obtain ⟨g, hge⟩ : ∃ g, w4.heap.size = g := ⟨_, rfl⟩
   have hg : Box (w4.alloc (.cells #[.int .i64 0, .int .i64 0] 71)) g #[.int .i64 0, .int .i64 0] 71 := Box.new' hge.symm
   have hgN : w3.heap.size ≤ g := by rw [← hge]; exact hb5.size
   have hSb := hb5.alloc hb5.size (.cells #[.int .i64 0, .int .i64 0] 71)
   have hSS := ofS _ hSb
   rw [hge]
   generalize w4.alloc (.cells #[.int .i64 0, .int .i64 0] 71) = w4 at *
   have hst := run_store_row (P := Tryz.prog) (T := #[.int .i64 A2, .int .i64 B2]) hg (by kernel_rfl) rfl (by simp [Value.oneCell'])
   have hb5 : Below w3.heap.size w3 (w4.setRow g #[.int .i64 A2, .int .i64 B2]) := below_setRow hSb hgN _
   have g5 : Box (w4.setRow g #[.int .i64 A2, .int .i64 B2]) g #[.int .i64 A2, .int .i64 B2] 71 := hg.setRow_same
   refine anyL_store (i := 13) 71 _ _ rfl (by kernel_rfl) (by rfl) rfl rfl rfl hst (.inr (ofS _ hb5)) ?_
   try (dsimp only); try simp only [Act.put, List.setIfInBounds_toArray, List.set_cons_zero, List.set_cons_succ]
   refine anyL_run (i := 14) (v := .bool T2) (w' := w4.setRow g #[.int .i64 A2, .int .i64 B2]) rfl (by kernel_rfl) (by rfl) (by go_simp) (.inl rfl) ?_
   try (dsimp only); try simp only [Act.put, List.setIfInBounds_toArray, List.set_cons_zero, List.set_cons_succ]
   refine anyL_done (by kernel_rfl) ?_ _
   clear hst hSS hSb hg K0 hS0 ofS
   go_upto_region 5 with fail
   generalize w4.setRow g #[.int .i64 A2, .int .i64 B2] = w5 at *
   have G5 := Lib.hid g5
   have HN5 := Lib.hid (HN3.out.below hb5)
   have G6 := Lib.hid (G3.out.below' hb5)
   have HB5 := Lib.hid (HB3.out.trans (hb5.mono HB3.out.size))
   clear g5 hb5
   refine wp_region_heldB 8 [] (by kernel_rfl) (by kernel_rfl) (by kernel_rfl) (by simp) ?_
   intro S hS
   have k0 : ∀ W, S W → W.cell? ⟨w.heap.size, 0, none⟩ = some (.pointer (some ⟨nb, 0, none⟩)) ∧ W.cell? ⟨nb, 0, none⟩ = some (.pointer (some ⟨bb, 0, none⟩)) ∧ W.cell? ⟨g, 0, none⟩ = some (.int .i64 A2) ∧ W.cell? ⟨g, 1, none⟩ = some (.int .i64 B2) := fun W h => ⟨(G6.out.below' (hS W h)).cell 0, node_ptr (HN5.out.below (hS W h)).node, (G5.out.below' (hS W h)).cell 0, (G5.out.below' (hS W h)).cell 1⟩
   have K0 := Lib.hid k0
   have HS := Lib.hid hS
   clear k0 hS
   simp only [List.take_succ_cons, List.take_zero, List.drop_succ_cons, List.drop_zero]
   repeat (first
    | (refine held_not rfl (by rfl) ?_; try (dsimp only); try simp only [Act.put, List.setIfInBounds_toArray, List.set_cons_zero, List.set_cons_succ])
    | (refine held_val (v := ?_) rfl (by rfl) ?_ ?_; rotate_left; (· (intro W hW; obtain ⟨q0, q1, q2, q3⟩ := K0.out W hW; go_simp; try with_reducible rfl)); try (dsimp only); try simp only [Act.put, List.setIfInBounds_toArray, List.set_cons_zero, List.set_cons_succ])
    | (refine held_skip rfl (by rfl) ?_ ?_; (· (intro W hW; obtain ⟨q0, q1, q2, q3⟩ := K0.out W hW; go_simp; try with_reducible rfl)); try (dsimp only); try simp only [Act.put, List.setIfInBounds_toArray, List.set_cons_zero, List.set_cons_succ]))
   refine held_nil ?_
   intro τ hτ w6 hW hO
   obtain rfl := laid0 hτ
   have hb6 := HS.out w6 hW
   have HCS := Lib.hid (causes_any c (by omega) bb A2 B2 pa pc w6 (HN5.out.below hb6).ben (HN5.out.below hb6).parts (by omega) (by omega))
   have HB6 := Lib.hid (HB5.out.trans (hb6.mono HB5.out.size))
   clear hτ hO hW K0 HS hb6
   simp only [overs, List.foldl_nil]
   go_wp2_with (go_at_call 54; (with_reducible refine HCS.out.mono ?_); rintro e w7 ⟨g7, rfl, hi7, hl7, hb7⟩; have HI7 := Lib.hid hi7; have HB7 := Lib.hid hb7; clear hi7 hb7)
   go_ret
   rw [HBE.out]
   exact ⟨some ⟨g7, 0, none⟩, 2, by rw [hl7]; rfl, HI7.out, HB6.out.trans (HB7.out.mono HB6.out.size)⟩
  ·refine wpOp_run (v := .pointer (some ⟨w3.heap.size, 0, none⟩)) (w' := w3.drew.alloc (.cells #[.int .i64 0, .int .i64 0] 71)) rfl (by rfl) ?_ ⟨.inr (ofS _ ((Below.refl _ w3).drew.alloc (Nat.le_refl _) _)), ?_⟩
   ·go_simp
    try with_reducible rfl
   try (dsimp only); try simp only [Act.put, List.setIfInBounds_toArray, List.set_cons_zero, List.set_cons_succ]
   have hg4 : Box (w3.drew.alloc (.cells #[.int .i64 0, .int .i64 0] 71)) w3.heap.size #[.int .i64 0, .int .i64 0] 71 := Box.new w3.drew _ _
   have hb4 : Below w3.heap.size w3 (w3.drew.alloc (.cells #[.int .i64 0, .int .i64 0] 71)) := (Below.refl _ w3).drew.alloc (Nat.le_refl _) _
   generalize w3.drew.alloc (.cells #[.int .i64 0, .int .i64 0] 71) = w7 at *
   refine anyL_call (i := 8) (f := 95) (args := #[.pointer (some ⟨nb, 0, none⟩), .int .i64 x, .int .i64 y, .func (.func 74) #[.pointer (some ⟨bb, 0, none⟩)] #[]]) rfl (by kernel_rfl) (by rfl) ?_ (HRV.out _ hb4) ?_
   ·go_simp
   rintro e w4 ⟨rfl, hb7⟩
   have hSb : Below w3.heap.size w3 w4 := hb4.trans (hb7.mono hb4.size)
   have hSS := ofS _ hSb
   refine .inl ⟨_, rfl, .inr hSS, ?_⟩
   try (dsimp only); try simp only [Act.put, List.setIfInBounds_toArray, List.set_cons_zero, List.set_cons_succ]
   refine anyL_take (i := 9) (v := ?_) (by kernel_rfl) rfl (by kernel_rfl) (by kernel_rfl) (by kernel_rfl) (by kernel_rfl) (fun _ _ _ h => h) (by rfl) ?_ hSS ?_
   rotate_left
   ·(intro W hW; obtain ⟨q0, q1⟩ := K0.out W hW; go_simp; try with_reducible rfl)
   try (dsimp only); try simp only [Act.put, List.setIfInBounds_toArray, List.set_cons_zero, List.set_cons_succ]
   refine anyL_take (i := 10) (v := ?_) (by kernel_rfl) rfl (by kernel_rfl) (by kernel_rfl) (by kernel_rfl) (by kernel_rfl) (fun _ _ _ h => h) (by rfl) ?_ hSS ?_
   rotate_left
   ·(intro W hW; obtain ⟨q0, q1⟩ := K0.out W hW; go_simp; try with_reducible rfl)
   try (dsimp only); try simp only [Act.put, List.setIfInBounds_toArray, List.set_cons_zero, List.set_cons_succ]
   refine anyL_take (i := 11) (v := ?_) (by kernel_rfl) rfl (by kernel_rfl) (by kernel_rfl) (by kernel_rfl) (by kernel_rfl) (fun _ _ _ h => h) (by rfl) ?_ hSS ?_
   rotate_left
   ·(intro W hW; obtain ⟨q0, q1⟩ := K0.out W hW; go_simp; try with_reducible rfl)
   try (dsimp only); try simp only [Act.put, List.setIfInBounds_toArray, List.set_cons_zero, List.set_cons_succ]
   obtain ⟨g, hge⟩ : ∃ g, w3.heap.size = g := ⟨_, rfl⟩
   have hg : Box w4 g #[.int .i64 0, .int .i64 0] 71 := by rw [← hge]; exact hg4.below' hb7
   have hgN : w3.heap.size ≤ g := by rw [← hge]; exact Nat.le_refl _
   rw [hge]
   have hst := run_store_row (P := Tryz.prog) (T := #[.int .i64 A2, .int .i64 B2]) hg (by kernel_rfl) rfl (by simp [Value.oneCell'])
   have hb5 : Below w3.heap.size w3 (w4.setRow g #[.int .i64 A2, .int .i64 B2]) := below_setRow hSb hgN _
   have g5 : Box (w4.setRow g #[.int .i64 A2, .int .i64 B2]) g #[.int .i64 A2, .int .i64 B2] 71 := hg.setRow_same
   refine anyL_store (i := 13) 71 _ _ rfl (by kernel_rfl) (by rfl) rfl rfl rfl hst (.inr (ofS _ hb5)) ?_
   try (dsimp only); try simp only [Act.put, List.setIfInBounds_toArray, List.set_cons_zero, List.set_cons_succ]
   refine anyL_run (i := 14) (v := .bool T2) (w' := w4.setRow g #[.int .i64 A2, .int .i64 B2]) rfl (by kernel_rfl) (by rfl) (by go_simp) (.inl rfl) ?_
   try (dsimp only); try simp only [Act.put, List.setIfInBounds_toArray, List.set_cons_zero, List.set_cons_succ]
   refine anyL_done (by kernel_rfl) ?_ _
   clear hst hSS hSb hg K0 hS0 ofS
   go_upto_region 5 with fail
   generalize w4.setRow g #[.int .i64 A2, .int .i64 B2] = w5 at *
   have G5 := Lib.hid g5
   have HN5 := Lib.hid (HN3.out.below hb5)
   have G6 := Lib.hid (G3.out.below' hb5)
   have HB5 := Lib.hid (HB3.out.trans (hb5.mono HB3.out.size))
   clear g5 hb5
   refine wp_region_heldB 8 [] (by kernel_rfl) (by kernel_rfl) (by kernel_rfl) (by simp) ?_
   intro S hS
   have k0 : ∀ W, S W → W.cell? ⟨w.heap.size, 0, none⟩ = some (.pointer (some ⟨nb, 0, none⟩)) ∧ W.cell? ⟨nb, 0, none⟩ = some (.pointer (some ⟨bb, 0, none⟩)) ∧ W.cell? ⟨g, 0, none⟩ = some (.int .i64 A2) ∧ W.cell? ⟨g, 1, none⟩ = some (.int .i64 B2) := fun W h => ⟨(G6.out.below' (hS W h)).cell 0, node_ptr (HN5.out.below (hS W h)).node, (G5.out.below' (hS W h)).cell 0, (G5.out.below' (hS W h)).cell 1⟩
   have K0 := Lib.hid k0
   have HS := Lib.hid hS
   clear k0 hS
   simp only [List.take_succ_cons, List.take_zero, List.drop_succ_cons, List.drop_zero]
   repeat (first
    | (refine held_not rfl (by rfl) ?_; try (dsimp only); try simp only [Act.put, List.setIfInBounds_toArray, List.set_cons_zero, List.set_cons_succ])
    | (refine held_val (v := ?_) rfl (by rfl) ?_ ?_; rotate_left; (· (intro W hW; obtain ⟨q0, q1, q2, q3⟩ := K0.out W hW; go_simp; try with_reducible rfl)); try (dsimp only); try simp only [Act.put, List.setIfInBounds_toArray, List.set_cons_zero, List.set_cons_succ])
    | (refine held_skip rfl (by rfl) ?_ ?_; (· (intro W hW; obtain ⟨q0, q1, q2, q3⟩ := K0.out W hW; go_simp; try with_reducible rfl)); try (dsimp only); try simp only [Act.put, List.setIfInBounds_toArray, List.set_cons_zero, List.set_cons_succ]))
   refine held_nil ?_
   intro τ hτ w6 hW hO
   obtain rfl := laid0 hτ
   have hb6 := HS.out w6 hW
   have HCS := Lib.hid (causes_any c (by omega) bb A2 B2 pa pc w6 (HN5.out.below hb6).ben (HN5.out.below hb6).parts (by omega) (by omega))
   have HB6 := Lib.hid (HB5.out.trans (hb6.mono HB5.out.size))
   clear hτ hO hW K0 HS hb6
   simp only [overs, List.foldl_nil]
   go_wp2_with (go_at_call 54; (with_reducible refine HCS.out.mono ?_); rintro e w7 ⟨g7, rfl, hi7, hl7, hb7⟩; have HI7 := Lib.hid hi7; have HB7 := Lib.hid hb7; clear hi7 hb7)
   go_ret
   rw [HBE.out]
   exact ⟨some ⟨g7, 0, none⟩, 2, by rw [hl7]; rfl, HI7.out, HB6.out.trans (HB7.out.mono HB6.out.size)⟩
 ·have HR1 := Lib.hid hr1
  have HR := Lib.hid (HR.out.mono fun (e : Ending) (w' : World) hh => (by obtain ⟨h1, h2⟩ := hh; rw [hr1] at h2; exact ⟨h1, _, _, h2⟩ : Below w1.heap.size w1 w' ∧ ∃ A B : Nat, e = .returned (.tuple #[.agg #[.int .i64 A, .int .i64 B], .bool true])))
  clear hr1
  go_enter Tryz.func55, Tryz.ntmps55
  go_upto_region 1 with fail
  simp only [HW.out]
  go_wp2_with (go_at_call 95; (with_reducible refine HR.out.mono ?_); rintro e w2 ⟨hb2, A, B, rfl⟩; have HB2 := Lib.hid hb2; clear hb2)
  go_ret
  rw [bet_none HR1.out]
  exact ⟨none, 0, rfl, Ints.nil _ _, (HB.out.trans (HB2.out.mono HB.out.size)).alloc (by have := HB2.out.size; have := HB.out.size; omega) _⟩
end Go.Proofs.YtpjcnkajimgagaaGreat
