/- feet and clash, walked. -/
import Derived.Test.YtpjcnkajimgagaaGreatMCase
import Derived.Deep.RegionHeld3
import Derived.Deep.DeepCutAuto
set_option linter.unusedSimpArgs false
set_option linter.unusedVariables false
namespace Go.Proofs.YtpjcnkajimgagaaGreat
open Go.RowKit

set_option maxRecDepth 100000 in
set_option maxHeartbeats 1000000 in
theorem feet_any (bb n cap x y pb po : Nat) (fx fy : Bool) (w : World) (hb : w.cell? ⟨bb, 3, none⟩ = some (.slice (some ⟨pb, po, none⟩) n cap)) (hx : x < n) (hy : y < n)
  (h1 : w.cell? ⟨pb, po + x * 8 + 5, none⟩ = some (.bool fx)) (h2 : w.cell? ⟨pb, po + y * 8 + 5, none⟩ = some (.bool fy)) :
  Calls Tryz.prog 94 #[.pointer (some ⟨bb, 0, none⟩), .int .i64 x, .int .i64 y] w fun e w' => e = .returned (.bool (feetB fx fy)) ∧ w = w' := by
 go_enter Tryz.func94, Tryz.ntmps94
 go_wp2
 all_goals (go_ret; exact ⟨ret_bool (by simp_all [feetB]), rfl⟩)

set_option maxRecDepth 100000 in
set_option maxHeartbeats 2000000 in
theorem clash_any (c : Cs) (_hn : c.parts.length ≤ 10) (bb x y : Nat) (pa : Option Addr) (pc : Nat) (w : World) (hb : Box w bb (csCells c pa pc) 88) (hpa : PartsAt w pa c.parts) (hx : x < c.parts.length) (hy : y < c.parts.length) :
  Calls Tryz.prog 74 #[.pointer (some ⟨bb, 0, none⟩), .int .i64 x, .int .i64 y] w fun e w' => e = .returned (.bool (clashB c x y)) ∧ Below w.heap.size w w' := by
 obtain ⟨b, o, p, rfl, hp, hP⟩ := hpa.at_ hx
 obtain ⟨b', o', q, hb', hq, hQ⟩ := hpa.at_ hy
 cases hb'
 have hlen : x < c.parts.length := hx
 obtain ⟨sa, sc, ra, rc, c0, c1, c2, c3, c4, c5, c6, c7, x1, x2, x3, x4⟩ := hP.open
 obtain ⟨sa', sc', ra', rc', d0, d1, d2, d3, d4, d5, d6, d7, y1, y2, y3, y4⟩ := hQ.open
 have hs : w.cell? ⟨bb, 3, none⟩ = some (.slice (some ⟨b, o, none⟩) c.parts.length pc) := by rw [hb.cell]; rfl
 have hbl := lt_of_cell hs
 have hpl := lt_of_cell c1
 rw [clashB_eq hp hq]
 have HP := Lib.hid hp
 have HQ := Lib.hid hq
 clear hp hq hP hQ hpa hb c0 c6 c7 d0 d6 d7 x1 x2 x3 x4 y1 y2 y3 y4
 generalize c.parts.length = n at *
 go_enter Tryz.func74, Tryz.ntmps74
 go_upto_region 1 with fail
 go_cut [7, 8] (fun s7 s8 wx => ∃ g1 g2 : Nat, s7 = .pointer (some ⟨g1, 0, none⟩) ∧ s8 = .pointer (some ⟨g2, 0, none⟩) ∧ SpnBox wx g1 p.span 50 ∧ SpnBox wx g2 q.span 50 ∧ Below w.heap.size w wx)
 case first =>
  go_region_held3 (fun w' => w'.cell? ⟨bb, 3, none⟩ = some (.slice (some ⟨b, o, none⟩) n pc) ∧ w'.cell? ⟨b, o + x * 8 + 1, none⟩ = some (.int .i64 p.span.low) ∧ w'.cell? ⟨b, o + x * 8 + 2, none⟩ = some (.int .i64 p.span.high) ∧ w'.cell? ⟨b, o + x * 8 + 3, none⟩ = some (.int .i64 p.span.lowBy) ∧ w'.cell? ⟨b, o + x * 8 + 4, none⟩ = some (.int .i64 p.span.highBy) ∧ w'.cell? ⟨b, o + y * 8 + 1, none⟩ = some (.int .i64 q.span.low) ∧ w'.cell? ⟨b, o + y * 8 + 2, none⟩ = some (.int .i64 q.span.high) ∧ w'.cell? ⟨b, o + y * 8 + 3, none⟩ = some (.int .i64 q.span.lowBy) ∧ w'.cell? ⟨b, o + y * 8 + 4, none⟩ = some (.int .i64 q.span.highBy)) (go_keep) (first | (fail))
  all_goals (go_wp2_with fail; go_meet)
  ·exact ⟨w.heap.size, w.heap.size + 1, rfl, rfl, ((Box.new _ _ _).alloc _).drew, (Box.new' (by simp)).drew, by go_grown⟩
  ·exact ⟨w.heap.size + 1, w.heap.size, rfl, rfl, (Box.new' (by simp)).drew, ((Box.new _ _ _).alloc _).drew, by go_grown⟩
 case rest =>
  obtain ⟨g1, g2, rfl, rfl, hg1, hg2, hB⟩ := hcut
  have e1 := hg1.cells
  have e2 := hg2.cells
  have e3 := below_cell hB hs
  have e4 := below_cell hB c5
  have e5 := below_cell hB d5
  have HB := Lib.hid hB
  clear hg1 hg2 hB c1 c2 c3 c4 c5 d1 d2 d3 d4 d5 hs
  by_cases hxy : x = y
  ·subst hxy
   go_wp2_with fail
   go_ret
   exact ⟨ret_bool (by simp [clashP]), HB.out⟩
  ·have HX := Lib.hid hxy
   clear hxy
   go_wp2_with (go_at_call 94; (with_reducible refine (feet_any bb n pc x y b o p.foot q.foot _ e3 hx hy e4 e5).mono ?_); rintro e w' ⟨rfl, rfl⟩)
   all_goals (go_ret; refine ⟨ret_bool ?_, HB.out⟩; have hX := HX.out; simp [clashP, *]; first | omega | (rw [Bool.eq_iff_iff]; simp; omega) | skip)
end Go.Proofs.YtpjcnkajimgagaaGreat
