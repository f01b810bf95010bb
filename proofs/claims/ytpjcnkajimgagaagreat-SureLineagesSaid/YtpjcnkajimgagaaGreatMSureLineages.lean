/- SureLineages: Lineage and Reached hand back what the reference does: the law returns true for every input, and its arguments read as before. No condition. -/
/- SureLineages: the statement. -/
import Derived.Test.YtpjcnkajimgagaaGreatMLinR
import Derived.Test.YtpjcnkajimgagaaGreatMReachR
import Derived.Test.YtpjcnkajimgagaaGreatMLawB
import Derived.Test.YtpjcnkajimgagaaGreatMLaw
import Derived.ProofKit
import Derived.JoinedCond
set_option linter.unusedSimpArgs false
set_option linter.unusedVariables false
namespace Go.Proofs.YtpjcnkajimgagaaGreat
open Go.RowKit
attribute [local go_sem] Oper.semAt_some

def ROut (er : Int) (l : List (Nat × Nat)) (w : World) (e : Ending) (w' : World) : Prop :=
 ∃ a cap, e = .returned (.tuple #[.slice a (if er = 0 then l else []).length cap, .int .i64 er]) ∧ Row w' a (pairCells (if er = 0 then l else [])) ∧ Below w.heap.size w w'
theorem rOut_of {er : Int} {l : List (Nat × Nat)} {w : World} {e : Ending} {w' : World} (h : PairsPost er l w e w') : ROut er l w e w' := by
 obtain ⟨hb, ⟨h0, rfl⟩ | ⟨rfl, v, rfl, a, cap, rfl, hr⟩⟩ := h
 ·unfold ROut; rw [if_neg h0]; exact ⟨none, 0, rfl, by simp [pairCells]; exact Row.nil _ _, hb⟩
 ·unfold ROut; rw [if_pos rfl]; exact ⟨a, cap, rfl, hr.row, hb⟩
theorem lineageR_len {c : Cs} (hsm : c.Small) (x y : Nat) : (lineageR c x y).length ≤ 1000000 := by
 unfold lineageR
 split
 ·simp
 ·rw [← kept_law]
  have h1 := withL_le (refIds c)
  have h2 := refIds_len c
  have h3 := hsm.1
  have h4 := keptAt_len (c := c) (x := x) (y := y) (K := withL (refIds c)) 0
  omega
theorem reachOf_len {c d : Cs} (hsm : c.Small) : (reachOf c d).length ≤ 1000000 := by
 have h1 : (reachOf c d).length ≤ (pairsOf c.parts.length).length := List.length_filter_le _ _
 have h2 := pairsTo_len c.parts.length c.parts.length
 have h3 := hsm.1
 have h4 : c.parts.length * c.parts.length ≤ 10 * 10 := Nat.mul_le_mul h3 h3
 unfold pairsOf at h1
 omega
set_option maxRecDepth 100000 in
set_option maxHeartbeats 4000000 in
theorem sureLineages_any (c : Cs) (hf : c.Fit) (pa : Option Addr) (pc : Nat) (_ : c.parts.length ≤ pc) (d : Cs) (hg : d.Fit) (qa : Option Addr) (qc : Nat) (_ : d.parts.length ≤ qc) (x : Int) (_ : (Lit.int .i64 x).wf = true) (y : Int) (_ : (Lit.int .i64 y).wf = true) (w : World) (hp : PartsAt w pa c.parts) (hq : PartsAt w qa d.parts) :
  Calls Tryz.prog 3 #[.agg #[.string c.ware, .int .i64 c.limit, .int .i64 c.by_, .slice pa c.parts.length pc], .agg #[.string d.ware, .int .i64 d.limit, .int .i64 d.by_, .slice qa d.parts.length qc], .int .i64 x, .int .i64 y] w fun e w' => e = .returned (.bool true) ∧ Below w.heap.size w w' := by
 obtain ⟨w2, hw2⟩ : ∃ w2, ((w.alloc (.cells #[.string c.ware, .int .i64 c.limit, .int .i64 c.by_, .slice pa c.parts.length pc] 24)).alloc (.cells #[.string d.ware, .int .i64 d.limit, .int .i64 d.by_, .slice qa d.parts.length qc] 24)) = w2 := ⟨_, rfl⟩
 have hB2 : Below w.heap.size w w2 := by rw [← hw2]; go_grown
 have b0 : Box w2 w.heap.size #[.string c.ware, .int .i64 c.limit, .int .i64 c.by_, .slice pa c.parts.length pc] 24 := by rw [← hw2]; exact (Box.new _ _ _).alloc _
 have b1 : Box w2 (w.heap.size + 1) #[.string d.ware, .int .i64 d.limit, .int .i64 d.by_, .slice qa d.parts.length qc] 24 := by rw [← hw2]; exact Box.new' (by simp)
 have HFC := Lib.hid (fun W (h : Below w.heap.size w W) => few_any c hf pa pc W (hp.below h))
 have HFD := Lib.hid (fun W (h : Below w.heap.size w W) => few_any d hg qa qc W (hq.below h))
 have HP := Lib.hid hp
 have HQ := Lib.hid hq
 have HW := Lib.hid hw2
 have HB2 := Lib.hid hB2
 have HX2 := Lib.hid b0
 have HY2 := Lib.hid b1
 have HAL := Lib.hid alive_any
 clear hw2 hB2 b0 b1 hp hq
 rcases hfb : fewB c with _ | _
 ·rw [hfb] at HFC
  go_enter Tryz.func3, Tryz.ntmps3
  go_upto_region 1 with fail
  simp only [HW.out]
  have e1 := HX2.out.cell
  have e2 := HY2.out.cell
  go_wp2_with fail
  (with_reducible refine (HFC.out _ HB2.out).mono ?_)
  rintro e w2 ⟨rfl, hbn⟩
  have HX2 := Lib.hid (HX2.out.below' hbn)
  have HY2 := Lib.hid (HY2.out.below' hbn)
  have HB2 := Lib.hid (HB2.out.trans (hbn.mono HB2.out.size))
  try clear e1
  try clear e2
  clear hbn
  go_wp2_with fail
  (with_reducible refine (HAL.out _).mono ?_)
  rintro e w3 ⟨rfl, hb3⟩
  have HB3 := Lib.hid (HB2.out.trans (hb3.mono HB2.out.size))
  clear hb3
  go_wp2_with fail
  go_ret
  exact ⟨rfl, HB3.out⟩
 rw [hfb] at HFC
 have hsm := few_small hfb
 rcases hgb : fewB d with _ | _
 ·rw [hgb] at HFD
  clear hfb hsm
  go_enter Tryz.func3, Tryz.ntmps3
  go_upto_region 1 with fail
  simp only [HW.out]
  have e1 := HX2.out.cell
  have e2 := HY2.out.cell
  go_wp2_with fail
  (with_reducible refine (HFC.out _ HB2.out).mono ?_)
  rintro e w2 ⟨rfl, hbn⟩
  have HX2 := Lib.hid (HX2.out.below' hbn)
  have HY2 := Lib.hid (HY2.out.below' hbn)
  have HB2 := Lib.hid (HB2.out.trans (hbn.mono HB2.out.size))
  try clear e1
  try clear e2
  clear hbn
  have e1 := HX2.out.cell
  have e2 := HY2.out.cell
  go_wp2_with fail
  (with_reducible refine (HFD.out _ HB2.out).mono ?_)
  rintro e w2 ⟨rfl, hbn⟩
  have HX2 := Lib.hid (HX2.out.below' hbn)
  have HY2 := Lib.hid (HY2.out.below' hbn)
  have HB2 := Lib.hid (HB2.out.trans (hbn.mono HB2.out.size))
  try clear e1
  try clear e2
  clear hbn
  go_wp2_with fail
  (with_reducible refine (HAL.out _).mono ?_)
  rintro e w3 ⟨rfl, hb3⟩
  have HB3 := Lib.hid (HB2.out.trans (hb3.mono HB2.out.size))
  clear hb3
  go_wp2_with fail
  go_ret
  exact ⟨rfl, HB3.out⟩
 rw [hgb] at HFD
 have hsd := few_small hgb
 have h10 := hsm.1
 by_cases h7 : c.parts.length ≤ 7
 ·have hlb : decide ((7 : Int) < (c.parts.length : Int)) = false := by simp; omega
  have H1 := Lib.hid (fun W (h : Below w.heap.size w W) => (lineage_any c hsm pa pc x y W (HP.out.below h)).mono (fun (e : Ending) (w' : World) hh => lOut_of hh))
  have H2 := Lib.hid (fun W (h : Below w.heap.size w W) => lineage_ref c hsm pa pc x y W (HP.out.below h))
  have H3 := Lib.hid (fun W (h : Below w.heap.size w W) => (reached_any c d hsm hsd pa pc qa qc W (HP.out.below h) (HQ.out.below h)).mono (fun (e : Ending) (w' : World) hh => rOut_of hh))
  have H4 := Lib.hid (fun W (h : Below w.heap.size w W) => (reached_ref c d hsm hsd pa pc qa qc W (HP.out.below h) (HQ.out.below h)).mono (fun (e : Ending) (w' : World) hh => rOut_of hh))
  have hl1 : (if askErr c [x, y] = 0 then lineageR c x.toNat y.toNat else []).length ≤ 1000000 := by
   split
   ·exact lineageR_len hsm _ _
   ·simp
  have hl2 : (if reachErr c d = 0 then reachOf c d else []).length ≤ 1000000 := by
   split
   ·exact reachOf_len hsm
   ·simp
  unfold LOut at H1 H2
  unfold ROut at H3 H4
  generalize (if askErr c [x, y] = 0 then lineageR c x.toNat y.toNat else []) = L1 at *
  generalize (if reachErr c d = 0 then reachOf c d else []) = L2 at *
  generalize askErr c [x, y] = r1 at *
  generalize reachErr c d = r2 at *
  clear hsm hsd hf hg hfb hgb
  go_enter Tryz.func3, Tryz.ntmps3
  go_upto_region 1 with fail
  simp only [HW.out]
  have e1 := HX2.out.cell
  have e2 := HY2.out.cell
  go_wp2_with fail
  (with_reducible refine (HFC.out _ HB2.out).mono ?_)
  rintro e w2 ⟨rfl, hbn⟩
  have HX2 := Lib.hid (HX2.out.below' hbn)
  have HY2 := Lib.hid (HY2.out.below' hbn)
  have HB2 := Lib.hid (HB2.out.trans (hbn.mono HB2.out.size))
  try clear e1
  try clear e2
  clear hbn
  have e1 := HX2.out.cell
  have e2 := HY2.out.cell
  go_wp2_with fail
  (with_reducible refine (HFD.out _ HB2.out).mono ?_)
  rintro e w2 ⟨rfl, hbn⟩
  have HX2 := Lib.hid (HX2.out.below' hbn)
  have HY2 := Lib.hid (HY2.out.below' hbn)
  have HB2 := Lib.hid (HB2.out.trans (hbn.mono HB2.out.size))
  try clear e1
  try clear e2
  clear hbn
  have e1 := HX2.out.cell
  have e2 := HY2.out.cell
  go_wp2_with fail
  (with_reducible refine (H1.out _ HB2.out).mono ?_)
  rintro e w2 ⟨a1, c1, rfl, hi1, hbn⟩
  have HX2 := Lib.hid (HX2.out.below' hbn)
  have HY2 := Lib.hid (HY2.out.below' hbn)
  have HB2 := Lib.hid (HB2.out.trans (hbn.mono HB2.out.size))
  try clear e1
  try clear e2
  have I1 := Lib.hid hi1
  clear hi1 hbn
  have e1 := HX2.out.cell
  have e2 := HY2.out.cell
  go_wp2_with fail
  (with_reducible refine (H2.out _ HB2.out).mono ?_)
  rintro e w2 ⟨a2, c2, rfl, hi2, hbn⟩
  have HX2 := Lib.hid (HX2.out.below' hbn)
  have HY2 := Lib.hid (HY2.out.below' hbn)
  have HB2 := Lib.hid (HB2.out.trans (hbn.mono HB2.out.size))
  try clear e1
  try clear e2
  have I1 := Lib.hid (I1.out.below hbn)
  have I2 := Lib.hid hi2
  clear hi2 hbn
  have e1 := HX2.out.cell
  have e2 := HY2.out.cell
  go_wp2_with fail
  (with_reducible refine (H3.out _ HB2.out).mono ?_)
  rintro e w2 ⟨a3, c3, rfl, hi3, hbn⟩
  have HX2 := Lib.hid (HX2.out.below' hbn)
  have HY2 := Lib.hid (HY2.out.below' hbn)
  have HB2 := Lib.hid (HB2.out.trans (hbn.mono HB2.out.size))
  try clear e1
  try clear e2
  have I1 := Lib.hid (I1.out.below hbn)
  have I2 := Lib.hid (I2.out.below hbn)
  have I3 := Lib.hid hi3
  clear hi3 hbn
  have e1 := HX2.out.cell
  have e2 := HY2.out.cell
  go_wp2_with fail
  (with_reducible refine (H4.out _ HB2.out).mono ?_)
  rintro e w2 ⟨a4, c4, rfl, hi4, hbn⟩
  have HX2 := Lib.hid (HX2.out.below' hbn)
  have HY2 := Lib.hid (HY2.out.below' hbn)
  have HB2 := Lib.hid (HB2.out.trans (hbn.mono HB2.out.size))
  try clear e1
  try clear e2
  have I1 := Lib.hid (I1.out.below hbn)
  have I2 := Lib.hid (I2.out.below hbn)
  have I3 := Lib.hid (I3.out.below hbn)
  have I4 := Lib.hid hi4
  clear hi4 hbn
  go_wp2_with fail
  (with_reducible refine (HAL.out _).mono ?_)
  rintro e w2 ⟨rfl, hbn⟩
  have HX2 := Lib.hid (HX2.out.below' hbn)
  have HY2 := Lib.hid (HY2.out.below' hbn)
  have HB2 := Lib.hid (HB2.out.trans (hbn.mono HB2.out.size))
  try clear e1
  try clear e2
  have HSA := Lib.hid (same_ref a1 a2 c1 c2 L1 L1 w2 (I1.out.below hbn) (I2.out.below hbn) hl1 hl1)
  have I3 := Lib.hid (I3.out.below hbn)
  have I4 := Lib.hid (I4.out.below hbn)
  clear hbn
  go_wp2_with fail
  (with_reducible refine HSA.out.mono ?_)
  rintro e w2 ⟨rfl, hbn⟩
  have HX2 := Lib.hid (HX2.out.below' hbn)
  have HY2 := Lib.hid (HY2.out.below' hbn)
  have HB2 := Lib.hid (HB2.out.trans (hbn.mono HB2.out.size))
  try clear e1
  try clear e2
  have HSP := Lib.hid (samePairs_ref a3 a4 c3 c4 L2 L2 w2 (I3.out.below hbn) (I4.out.below hbn) hl2 hl2)
  clear hbn
  go_wp2_with fail
  (with_reducible refine HSP.out.mono ?_)
  rintro e w2 ⟨rfl, hbn⟩
  have HX2 := Lib.hid (HX2.out.below' hbn)
  have HY2 := Lib.hid (HY2.out.below' hbn)
  have HB2 := Lib.hid (HB2.out.trans (hbn.mono HB2.out.size))
  try clear e1
  try clear e2
  clear hbn
  go_wp2_with fail
  go_ret
  exact ⟨by simp, HB2.out⟩
 ·have hlb : decide ((7 : Int) < (c.parts.length : Int)) = true := by simp; omega
  clear hsm hsd hf hg hfb hgb
  go_enter Tryz.func3, Tryz.ntmps3
  go_upto_region 1 with fail
  simp only [HW.out]
  have e1 := HX2.out.cell
  have e2 := HY2.out.cell
  go_wp2_with fail
  (with_reducible refine (HFC.out _ HB2.out).mono ?_)
  rintro e w2 ⟨rfl, hbn⟩
  have HX2 := Lib.hid (HX2.out.below' hbn)
  have HY2 := Lib.hid (HY2.out.below' hbn)
  have HB2 := Lib.hid (HB2.out.trans (hbn.mono HB2.out.size))
  try clear e1
  try clear e2
  clear hbn
  have e1 := HX2.out.cell
  have e2 := HY2.out.cell
  go_wp2_with fail
  (with_reducible refine (HFD.out _ HB2.out).mono ?_)
  rintro e w2 ⟨rfl, hbn⟩
  have HX2 := Lib.hid (HX2.out.below' hbn)
  have HY2 := Lib.hid (HY2.out.below' hbn)
  have HB2 := Lib.hid (HB2.out.trans (hbn.mono HB2.out.size))
  try clear e1
  try clear e2
  clear hbn
  have e1 := HX2.out.cell
  go_wp2_with fail
  (with_reducible refine (HAL.out _).mono ?_)
  rintro e w3 ⟨rfl, hb3⟩
  have HB3 := Lib.hid (HB2.out.trans (hb3.mono HB2.out.size))
  clear hb3
  go_wp2_with fail
  go_ret
  exact ⟨rfl, HB3.out⟩
end Go.Proofs.YtpjcnkajimgagaaGreat
namespace Go.Proofs.YtpjcnkajimgagaaGreat.SureLineagesEnd
open Go.ChangeShapes Go.WideShapes Go.ChangeAt Go.RowKit

theorem own : ownKnob Tryz.prog.godebug = none := by kernel_rfl

set_option maxRecDepth 100000 in
theorem lifted (os : Os) (started : os.Started) (H : Type) (enc : TypeId × Value → H) :
  ReturnsInHanded {} Tryz.checked os 3 .any (Rows.sureLineagesSpec.pre6 enc Tryz.prog Tryz.f3 Rows.sureLineagesRow.domain false) (Rows.sureLineagesSpec.post enc Tryz.prog Tryz.f3 false true false false) := by
 refine returnsInHanded_of_change (C := Tryz.checked) own started (by kernel_rfl) Tryz.func3
  (ChangeSpec.witness6 (enc := enc) (C := Tryz.checked) false ⟨#[], #[.agg #[.string ⟨#[]⟩, .int .i64 0, .int .i64 0, .slice none 0 0], .agg #[.string ⟨#[]⟩, .int .i64 0, .int .i64 0, .slice none 0 0], .int .i64 0, .int .i64 0], []⟩ 8 (by kernel_rfl) (by kernel_rfl) (by kernel_rfl) (by kernel_rfl)) ?_
 intro W base args ds gs before hval0 hW hcnd _
 have hval : ∀ (j : Nat) t v, Tryz.f3.params[j]? = some t → args[j]? = some v → Value.okWide Tryz.prog W .any base t v := hval0
 have hW' := hW
 obtain ⟨p, q, hA0, hV, rfl, hfz, hnd⟩ := hW
 have hA : DataW.TrodAll enc Tryz.prog W 0 (fun _ => true) true Tryz.f3.params.toList args.toList ds p := hA0
 rw [Tryz.params3] at hA hval
 obtain ⟨v0, vs0, d0, ds0, p0, q0, hargs, rfl, rfl, h0, r0⟩ := trodAll_cons hA
 obtain ⟨v1, vs1, d1, ds1, p1, q1, rfl, rfl, rfl, h1, r1⟩ := trodAll_cons r0
 obtain ⟨v2, vs2, d2, ds2, p2, q2, rfl, rfl, rfl, h2, r2⟩ := trodAll_cons r1
 obtain ⟨v3, vs3, d3, ds3, p3, q3, rfl, rfl, rfl, h3, r3⟩ := trodAll_cons r2
 obtain ⟨rfl, rfl, rfl⟩ := trodAll_nil r3
 obtain rfl : args = #[v0, v1, v2, v3] := by cases args; simp_all
 obtain ⟨rfl, rfl⟩ := trodVars_none hV
 obtain ⟨c0, pa0, pc0, rfl, hp0, hpc0, hfit0, hlw0⟩ := case_of (hval 0 _ v0 rfl rfl) h0
 obtain ⟨c1, pa1, pc1, rfl, hp1, hpc1, hfit1, hlw1⟩ := case_of (hval 1 _ v1 rfl rfl) h1
 obtain ⟨a2, rfl, rfl, rfl, w2⟩ := open_int Tryz.underlying3 (hval 2 _ v2 rfl rfl) h2
 obtain ⟨a3, rfl, rfl, rfl, w3⟩ := open_int Tryz.underlying3 (hval 3 _ v3 rfl rfl) h3
 clear hA0 hval0
 refine (sureLineages_any c0 hfit0 pa0 pc0 hpc0 c1 hfit1 pa1 pc1 hpc1 a2 w2 a3 w3 W hp0 hp1).mono fun e W' ⟨he, hb⟩ => ?_
 subst he
 exact ⟨_, rfl, law_post rfl rfl (of_decide_eq_true (by kernel_rfl)) hW' rfl rfl rfl hb⟩

theorem over : Rows.sureLineagesRow.holds Tryz.pinned (OpenSpec.ofChange Rows.sureLineagesSpec) :=
 OpenClaim.holds_of_wide 3 Tryz.f3 rfl rfl rfl rfl rfl rfl rfl ⟨rfl, rfl, rfl, rfl, rfl⟩ rfl rfl rfl rfl rfl (by kernel_rfl) Tryz.func3 (by kernel_rfl)
  (of_decide_eq_true (by kernel_rfl)) (by unfold Func.isWrapper; first | (rw [if_pos (by decide +kernel)]; kernel_rfl) | (rw [if_neg (by decide +kernel)]; exact ⟨rfl, rfl⟩))
  (fun os started H enc _ => lifted os started H enc)

theorem proved : Rows.SureLineagesSaid :=
 over
#print axioms proved
end Go.Proofs.YtpjcnkajimgagaaGreat.SureLineagesEnd
