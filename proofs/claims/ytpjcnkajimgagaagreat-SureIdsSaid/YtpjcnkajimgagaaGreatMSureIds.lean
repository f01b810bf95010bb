/- SureIds: Without, Only and Narrow hand back the reference's cases: the law returns true for every input, and its arguments read as before. No condition. -/
/- SureIds: the statement. -/
import Derived.Test.YtpjcnkajimgagaaGreatMNarrR
import Derived.Test.YtpjcnkajimgagaaGreatMOnlyT
import Derived.Test.YtpjcnkajimgagaaGreatMLawC
import Derived.Test.YtpjcnkajimgagaaGreatMLaw
import Derived.ProofKit
import Derived.JoinedCond
set_option linter.unusedSimpArgs false
set_option linter.unusedVariables false
namespace Go.Proofs.YtpjcnkajimgagaaGreat
open Go.RowKit
attribute [local go_sem] Oper.semAt_some

set_option maxRecDepth 100000 in
set_option maxHeartbeats 4000000 in
theorem sureIds_any (c : Cs) (hf : c.Fit) (pa : Option Addr) (pc : Nat) (_ : c.parts.length ≤ pc) (id : Int) (_ : (Lit.int .i64 id).wf = true) (la : Option Addr) (L : List Int) (lc : Nat) (hLk : L.length ≤ lc) (hLm : lc ≤ maxLen) (x : Int) (_ : (Lit.int .i64 x).wf = true) (low : Int) (_ : (Lit.int .i64 low).wf = true) (high : Int) (_ : (Lit.int .i64 high).wf = true) (w : World) (hp : PartsAt w pa c.parts) (hi : Ints w la L) :
  Calls Tryz.prog 5 #[.agg #[.string c.ware, .int .i64 c.limit, .int .i64 c.by_, .slice pa c.parts.length pc], .int .i64 id, .slice la L.length lc, .int .i64 x, .int .i64 low, .int .i64 high] w fun e w' => e = .returned (.bool true) ∧ Below w.heap.size w w' := by
 obtain ⟨w1, hw1, hB1, b1⟩ := box_case w c pa pc
 have e1 : ∀ i, w1.cell? ⟨w.heap.size, i, none⟩ = (#[.string c.ware, .int .i64 c.limit, .int .i64 c.by_, .slice pa c.parts.length pc] : Array Value)[i]? := b1.cell
 unfold maxLen at hLm
 have HFW := Lib.hid (few_any c hf pa pc w1 (hp.below hB1))
 have HP := Lib.hid hp
 have HI := Lib.hid hi
 have HW := Lib.hid hw1
 have HB1 := Lib.hid hB1
 have HX := Lib.hid b1
 have HAL := Lib.hid alive_any
 clear hw1 hB1 b1 hp hi
 rcases hfb : fewB c with _ | _
 ·rw [hfb] at HFW
  go_enter Tryz.func5, Tryz.ntmps5
  go_upto_region 1 with fail
  simp only [HW.out]
  go_wp2_with fail
  (with_reducible refine HFW.out.mono ?_)
  rintro e w2 ⟨rfl, hb2⟩
  have HB2 := Lib.hid (HB1.out.trans (hb2.mono HB1.out.size))
  have HX2 := Lib.hid (HX.out.below' hb2)
  clear hb2 e1
  go_wp2_with fail
  (with_reducible refine (HAL.out _).mono ?_)
  rintro e w3 ⟨rfl, hb3⟩
  have HB3 := Lib.hid (HB2.out.trans (hb3.mono HB2.out.size))
  clear hb3
  go_wp2_with fail
  go_ret
  exact ⟨rfl, HB3.out⟩
 rw [hfb] at HFW
 have hsm := few_small hfb
 have h10 : c.parts.length ≤ 10 := hsm.1
 by_cases h40 : L.length ≤ 40
 ·have hlb : decide ((40 : Int) < (L.length : Int)) = false := by simp; omega
  have H1 := Lib.hid (fun W h => (withoutTop_any c hsm pa pc id W h).mono (fun (e : Ending) (w' : World) hh => cTop_of hh))
  have H2 := Lib.hid (fun W h => withoutTop_ref c hsm pa pc id W h)
  have H3 := Lib.hid (fun W h h' => (onlyTop_any c hsm pa pc la L lc W h h' (by omega)).mono (fun (e : Ending) (w' : World) hh => cTop_of hh))
  have H4 := Lib.hid (fun W h h' => onlyTop_ref c hsm pa pc la L lc W h h' (by omega))
  have H5 := Lib.hid (fun W h => (narrow_any c hsm pa pc x low high id W h).mono (fun (e : Ending) (w' : World) hh => cTop_of hh))
  have H6 := Lib.hid (fun W h => narrow_ref c hsm pa pc x low high id W h)
  have hs1 : (dOf (woutErr c id) (woutC (fun n => n == id) c)).Small := dOf_small (woutC_small hsm _)
  have hs2 : (dOf (checkCase c) (woutC (fun n => !L.contains n) c)).Small := dOf_small (woutC_small hsm _)
  have hs3 : (dOf (narrowErr c x low high id) (narrowC c x.toNat low high id)).Small := dOf_small (narrowC_small hsm _ _ _ _)
  generalize dOf (woutErr c id) (woutC (fun n => n == id) c) = d1 at *
  generalize dOf (checkCase c) (woutC (fun n => !L.contains n) c) = d2 at *
  generalize dOf (narrowErr c x low high id) (narrowC c x.toNat low high id) = d3 at *
  generalize woutErr c id = r1 at *
  generalize checkCase c = r2 at *
  generalize narrowErr c x low high id = r3 at *
  clear hsm hf hfb
  go_enter Tryz.func5, Tryz.ntmps5
  go_upto_region 1 with fail
  simp only [HW.out]
  go_wp2_with fail
  (with_reducible refine HFW.out.mono ?_)
  rintro e w2 ⟨rfl, hb2⟩
  have HB2 := Lib.hid (HB1.out.trans (hb2.mono HB1.out.size))
  have HX2 := Lib.hid (HX.out.below' hb2)
  clear hb2 e1
  have e1 : ∀ i, w2.cell? ⟨w.heap.size, i, none⟩ = (#[.string c.ware, .int .i64 c.limit, .int .i64 c.by_, .slice pa c.parts.length pc] : Array Value)[i]? := HX2.out.cell
  go_upto_region 4 with (go_at_call 19; (with_reducible refine (H1.out _ (HP.out.below HB2.out)).mono ?_); rintro e w2 ⟨a1, c1, rfl, hp2, hbn⟩)
  obtain ⟨w5, hw5, hg5, hb5⟩ := CBox.new (d := d1) (cap := c1) hp2
  rw [hw5]
  obtain ⟨g1, hg⟩ : ∃ g, w2.heap.size = g := ⟨_, rfl⟩
  have hbn := hbn.trans (hb5.mono hbn.size)
  rw [hg] at hg5
  simp only [hg]
  have HX2 := Lib.hid (HX2.out.below' hbn)
  have HB2 := Lib.hid (HB2.out.trans (hbn.mono HB2.out.size))
  have G1 := Lib.hid hg5
  clear hbn hb5 hg5 hp2 hw5 hg e1
  have e1 : ∀ i, w5.cell? ⟨w.heap.size, i, none⟩ = (#[.string c.ware, .int .i64 c.limit, .int .i64 c.by_, .slice pa c.parts.length pc] : Array Value)[i]? := HX2.out.cell
  go_upto_region 5 with (go_at_call 20; (with_reducible refine (H2.out _ (HP.out.below HB2.out)).mono ?_); rintro e w2 ⟨a2, c2, rfl, hp2, hbn⟩)
  obtain ⟨w5, hw5, hg5, hb5⟩ := CBox.new (d := d1) (cap := c2) hp2
  rw [hw5]
  obtain ⟨g2, hg⟩ : ∃ g, w2.heap.size = g := ⟨_, rfl⟩
  have hbn := hbn.trans (hb5.mono hbn.size)
  rw [hg] at hg5
  simp only [hg]
  have HX2 := Lib.hid (HX2.out.below' hbn)
  have HB2 := Lib.hid (HB2.out.trans (hbn.mono HB2.out.size))
  have G1 := Lib.hid (G1.out.below hbn)
  have G2 := Lib.hid hg5
  clear hbn hb5 hg5 hp2 hw5 hg e1
  have e1 : ∀ i, w5.cell? ⟨w.heap.size, i, none⟩ = (#[.string c.ware, .int .i64 c.limit, .int .i64 c.by_, .slice pa c.parts.length pc] : Array Value)[i]? := HX2.out.cell
  go_upto_region 6 with (go_at_call 21; (with_reducible refine (H3.out _ (HP.out.below HB2.out) (HI.out.below HB2.out)).mono ?_); rintro e w2 ⟨a3, c3, rfl, hp2, hbn⟩)
  obtain ⟨w5, hw5, hg5, hb5⟩ := CBox.new (d := d2) (cap := c3) hp2
  rw [hw5]
  obtain ⟨g3, hg⟩ : ∃ g, w2.heap.size = g := ⟨_, rfl⟩
  have hbn := hbn.trans (hb5.mono hbn.size)
  rw [hg] at hg5
  simp only [hg]
  have HX2 := Lib.hid (HX2.out.below' hbn)
  have HB2 := Lib.hid (HB2.out.trans (hbn.mono HB2.out.size))
  have G1 := Lib.hid (G1.out.below hbn)
  have G2 := Lib.hid (G2.out.below hbn)
  have G3 := Lib.hid hg5
  clear hbn hb5 hg5 hp2 hw5 hg e1
  have e1 : ∀ i, w5.cell? ⟨w.heap.size, i, none⟩ = (#[.string c.ware, .int .i64 c.limit, .int .i64 c.by_, .slice pa c.parts.length pc] : Array Value)[i]? := HX2.out.cell
  go_upto_region 7 with (go_at_call 22; (with_reducible refine (H4.out _ (HP.out.below HB2.out) (HI.out.below HB2.out)).mono ?_); rintro e w2 ⟨a4, c4, rfl, hp2, hbn⟩)
  obtain ⟨w5, hw5, hg5, hb5⟩ := CBox.new (d := d2) (cap := c4) hp2
  rw [hw5]
  obtain ⟨g4, hg⟩ : ∃ g, w2.heap.size = g := ⟨_, rfl⟩
  have hbn := hbn.trans (hb5.mono hbn.size)
  rw [hg] at hg5
  simp only [hg]
  have HX2 := Lib.hid (HX2.out.below' hbn)
  have HB2 := Lib.hid (HB2.out.trans (hbn.mono HB2.out.size))
  have G1 := Lib.hid (G1.out.below hbn)
  have G2 := Lib.hid (G2.out.below hbn)
  have G3 := Lib.hid (G3.out.below hbn)
  have G4 := Lib.hid hg5
  clear hbn hb5 hg5 hp2 hw5 hg e1
  have e1 : ∀ i, w5.cell? ⟨w.heap.size, i, none⟩ = (#[.string c.ware, .int .i64 c.limit, .int .i64 c.by_, .slice pa c.parts.length pc] : Array Value)[i]? := HX2.out.cell
  go_upto_region 8 with (go_at_call 23; (with_reducible refine (H5.out _ (HP.out.below HB2.out)).mono ?_); rintro e w2 ⟨a5, c5, rfl, hp2, hbn⟩)
  obtain ⟨w5, hw5, hg5, hb5⟩ := CBox.new (d := d3) (cap := c5) hp2
  rw [hw5]
  obtain ⟨g5, hg⟩ : ∃ g, w2.heap.size = g := ⟨_, rfl⟩
  have hbn := hbn.trans (hb5.mono hbn.size)
  rw [hg] at hg5
  simp only [hg]
  have HX2 := Lib.hid (HX2.out.below' hbn)
  have HB2 := Lib.hid (HB2.out.trans (hbn.mono HB2.out.size))
  have G1 := Lib.hid (G1.out.below hbn)
  have G2 := Lib.hid (G2.out.below hbn)
  have G3 := Lib.hid (G3.out.below hbn)
  have G4 := Lib.hid (G4.out.below hbn)
  have G5 := Lib.hid hg5
  clear hbn hb5 hg5 hp2 hw5 hg e1
  have e1 : ∀ i, w5.cell? ⟨w.heap.size, i, none⟩ = (#[.string c.ware, .int .i64 c.limit, .int .i64 c.by_, .slice pa c.parts.length pc] : Array Value)[i]? := HX2.out.cell
  go_upto_region 9 with (go_at_call 24; (with_reducible refine (H6.out _ (HP.out.below HB2.out)).mono ?_); rintro e w2 ⟨a6, c6, rfl, hp2, hbn⟩)
  obtain ⟨w5, hw5, hg5, hb5⟩ := CBox.new (d := d3) (cap := c6) hp2
  rw [hw5]
  obtain ⟨g6, hg⟩ : ∃ g, w2.heap.size = g := ⟨_, rfl⟩
  have hbn := hbn.trans (hb5.mono hbn.size)
  rw [hg] at hg5
  simp only [hg]
  have HX2 := Lib.hid (HX2.out.below' hbn)
  have HB2 := Lib.hid (HB2.out.trans (hbn.mono HB2.out.size))
  have G1 := Lib.hid (G1.out.below hbn)
  have G2 := Lib.hid (G2.out.below hbn)
  have G3 := Lib.hid (G3.out.below hbn)
  have G4 := Lib.hid (G4.out.below hbn)
  have G5 := Lib.hid (G5.out.below hbn)
  have G6 := Lib.hid hg5
  clear hbn hb5 hg5 hp2 hw5 hg e1
  have e1 : ∀ i, w5.cell? ⟨w.heap.size, i, none⟩ = (#[.string c.ware, .int .i64 c.limit, .int .i64 c.by_, .slice pa c.parts.length pc] : Array Value)[i]? := HX2.out.cell
  clear e1
  go_wp2_with fail
  (with_reducible refine (HAL.out _).mono ?_)
  rintro e w2 ⟨rfl, hbn⟩
  have HB2 := Lib.hid (HB2.out.trans (hbn.mono HB2.out.size))
  have G1 := Lib.hid (G1.out.below hbn)
  have G2 := Lib.hid (G2.out.below hbn)
  have G3 := Lib.hid (G3.out.below hbn)
  have G4 := Lib.hid (G4.out.below hbn)
  have G5 := Lib.hid (G5.out.below hbn)
  have G6 := Lib.hid (G6.out.below hbn)
  clear hbn
  have k1 := G1.out.cells
  have k2 := G2.out.cells
  have k3 := G3.out.cells
  have k4 := G4.out.cells
  have k5 := G5.out.cells
  have k6 := G6.out.cells
  go_wp2_with fail
  (with_reducible refine (sameCase_ref d1 hs1 a1 c1 a2 c2 _ G1.out.parts G2.out.parts).mono ?_)
  rintro e w2 ⟨rfl, hbn⟩
  have HB2 := Lib.hid (HB2.out.trans (hbn.mono HB2.out.size))
  have G3 := Lib.hid (G3.out.below hbn)
  have G4 := Lib.hid (G4.out.below hbn)
  have G5 := Lib.hid (G5.out.below hbn)
  have G6 := Lib.hid (G6.out.below hbn)
  clear hbn k1 k2 k3 k4 k5 k6
  have k3 := G3.out.cells
  have k4 := G4.out.cells
  have k5 := G5.out.cells
  have k6 := G6.out.cells
  go_wp2_with fail
  (with_reducible refine (sameCase_ref d2 hs2 a3 c3 a4 c4 _ G3.out.parts G4.out.parts).mono ?_)
  rintro e w2 ⟨rfl, hbn⟩
  have HB2 := Lib.hid (HB2.out.trans (hbn.mono HB2.out.size))
  have G5 := Lib.hid (G5.out.below hbn)
  have G6 := Lib.hid (G6.out.below hbn)
  clear hbn k3 k4 k5 k6
  have k5 := G5.out.cells
  have k6 := G6.out.cells
  go_wp2_with fail
  (with_reducible refine (sameCase_ref d3 hs3 a5 c5 a6 c6 _ G5.out.parts G6.out.parts).mono ?_)
  rintro e w2 ⟨rfl, hbn⟩
  have HB2 := Lib.hid (HB2.out.trans (hbn.mono HB2.out.size))
  clear hbn k5 k6
  go_wp2_with fail
  go_ret
  exact ⟨by simp, HB2.out⟩
 ·have hlb : decide ((40 : Int) < (L.length : Int)) = true := by simp; omega
  go_enter Tryz.func5, Tryz.ntmps5
  go_upto_region 1 with fail
  simp only [HW.out]
  go_wp2_with fail
  (with_reducible refine HFW.out.mono ?_)
  rintro e w2 ⟨rfl, hb2⟩
  have HB2 := Lib.hid (HB1.out.trans (hb2.mono HB1.out.size))
  have HX2 := Lib.hid (HX.out.below' hb2)
  clear hb2 e1
  go_wp2_with fail
  (with_reducible refine (HAL.out _).mono ?_)
  rintro e w3 ⟨rfl, hb3⟩
  have HB3 := Lib.hid (HB2.out.trans (hb3.mono HB2.out.size))
  clear hb3
  go_wp2_with fail
  go_ret
  exact ⟨rfl, HB3.out⟩
end Go.Proofs.YtpjcnkajimgagaaGreat
namespace Go.Proofs.YtpjcnkajimgagaaGreat.SureIdsEnd
open Go.ChangeShapes Go.WideShapes Go.ChangeAt Go.RowKit

theorem own : ownKnob Tryz.prog.godebug = none := by kernel_rfl

set_option maxRecDepth 100000 in
theorem lifted (os : Os) (started : os.Started) (H : Type) (enc : TypeId × Value → H) :
  ReturnsInHanded {} Tryz.checked os 5 .any (Rows.sureIdsSpec.pre6 enc Tryz.prog Tryz.f5 Rows.sureIdsRow.domain false) (Rows.sureIdsSpec.post enc Tryz.prog Tryz.f5 false true false false) := by
 refine returnsInHanded_of_change (C := Tryz.checked) own started (by kernel_rfl) Tryz.func5
  (ChangeSpec.witness6 (enc := enc) (C := Tryz.checked) false ⟨#[], #[.agg #[.string ⟨#[]⟩, .int .i64 0, .int .i64 0, .slice none 0 0], .int .i64 0, .slice none 0 0, .int .i64 0, .int .i64 0, .int .i64 0], []⟩ 8 (by kernel_rfl) (by kernel_rfl) (by kernel_rfl) (by kernel_rfl)) ?_
 intro W base args ds gs before hval0 hW hcnd _
 have hval : ∀ (j : Nat) t v, Tryz.f5.params[j]? = some t → args[j]? = some v → Value.okWide Tryz.prog W .any base t v := hval0
 have hW' := hW
 obtain ⟨p, q, hA0, hV, rfl, hfz, hnd⟩ := hW
 have hA : DataW.TrodAll enc Tryz.prog W 0 (fun _ => true) true Tryz.f5.params.toList args.toList ds p := hA0
 rw [Tryz.params5] at hA hval
 obtain ⟨v0, vs0, d0, ds0, p0, q0, hargs, rfl, rfl, h0, r0⟩ := trodAll_cons hA
 obtain ⟨v1, vs1, d1, ds1, p1, q1, rfl, rfl, rfl, h1, r1⟩ := trodAll_cons r0
 obtain ⟨v2, vs2, d2, ds2, p2, q2, rfl, rfl, rfl, h2, r2⟩ := trodAll_cons r1
 obtain ⟨v3, vs3, d3, ds3, p3, q3, rfl, rfl, rfl, h3, r3⟩ := trodAll_cons r2
 obtain ⟨v4, vs4, d4, ds4, p4, q4, rfl, rfl, rfl, h4, r4⟩ := trodAll_cons r3
 obtain ⟨v5, vs5, d5, ds5, p5, q5, rfl, rfl, rfl, h5, r5⟩ := trodAll_cons r4
 obtain ⟨rfl, rfl, rfl⟩ := trodAll_nil r5
 obtain rfl : args = #[v0, v1, v2, v3, v4, v5] := by cases args; simp_all
 obtain ⟨rfl, rfl⟩ := trodVars_none hV
 obtain ⟨c0, pa0, pc0, rfl, hp0, hpc0, hfit0, hlw0⟩ := case_of (hval 0 _ v0 rfl rfl) h0
 obtain ⟨a1, rfl, rfl, rfl, w1⟩ := open_int Tryz.underlying3 (hval 1 _ v1 rfl rfl) h1
 obtain ⟨a2, l2, k2, rfl, hi2, hk2, hm2⟩ := ints_arg (hval 2 _ v2 rfl rfl) h2
 obtain ⟨a3, rfl, rfl, rfl, w3⟩ := open_int Tryz.underlying3 (hval 3 _ v3 rfl rfl) h3
 obtain ⟨a4, rfl, rfl, rfl, w4⟩ := open_int Tryz.underlying3 (hval 4 _ v4 rfl rfl) h4
 obtain ⟨a5, rfl, rfl, rfl, w5⟩ := open_int Tryz.underlying3 (hval 5 _ v5 rfl rfl) h5
 clear hA0 hval0
 refine (sureIds_any c0 hfit0 pa0 pc0 hpc0 a1 w1 a2 l2 k2 hk2 hm2 a3 w3 a4 w4 a5 w5 W hp0 hi2).mono fun e W' ⟨he, hb⟩ => ?_
 subst he
 exact ⟨_, rfl, law_post rfl rfl (of_decide_eq_true (by kernel_rfl)) hW' rfl rfl rfl hb⟩

theorem over : Rows.sureIdsRow.holds Tryz.pinned (OpenSpec.ofChange Rows.sureIdsSpec) :=
 OpenClaim.holds_of_wide 5 Tryz.f5 rfl rfl rfl rfl rfl rfl rfl ⟨rfl, rfl, rfl, rfl, rfl⟩ rfl rfl rfl rfl rfl (by kernel_rfl) Tryz.func5 (by kernel_rfl)
  (of_decide_eq_true (by kernel_rfl)) (by unfold Func.isWrapper; first | (rw [if_pos (by decide +kernel)]; kernel_rfl) | (rw [if_neg (by decide +kernel)]; exact ⟨rfl, rfl⟩))
  (fun os started H enc _ => lifted os started H enc)

theorem proved : Rows.SureIdsSaid :=
 over
#print axioms proved
end Go.Proofs.YtpjcnkajimgagaaGreat.SureIdsEnd
