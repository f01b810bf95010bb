/- SureUses: the Ids that a refutation uses are the reference's: the law returns true for every input, and its arguments read as before. No condition. -/
/- SureUses: the statement. -/
import Derived.Test.YtpjcnkajimgagaaGreatMUsesT
import Derived.Test.YtpjcnkajimgagaaGreatMUsesR
import Derived.Test.YtpjcnkajimgagaaGreatMLaw
import Derived.Test.YtpjcnkajimgagaaGreatMAlive
import Derived.Test.YtpjcnkajimgagaaGreatMFew
import Derived.ProofKit
import Derived.JoinedCond
set_option linter.unusedSimpArgs false
set_option linter.unusedVariables false
namespace Go.Proofs.YtpjcnkajimgagaaGreat
open Go.RowKit
attribute [local go_sem] Oper.semAt_some

theorem slight_or {l : List Br} (h : slightB l = true) : l.length ≤ 2000 ∨ 20000 < l.length ∧ l.length ≤ 1000000 := by
 simp only [slightB, Bool.and_eq_true, List.all_eq_true, slightP, decide_eq_true_eq, slightN, Bool.or_eq_true] at h
 omega
theorem box_here (w : World) (c : Cs) (pa : Option Addr) (pc : Nat) : ∃ w1, w.alloc (.cells #[.string c.ware, .int .i64 c.limit, .int .i64 c.by_, .slice pa c.parts.length pc] 24) = w1 ∧ Below w.heap.size w w1 ∧ Box w1 w.heap.size (csCells c pa pc) 24 :=
 ⟨_, rfl, by go_grown, Box.new _ _ _⟩
set_option maxRecDepth 100000 in
set_option maxHeartbeats 4000000 in
theorem sureUses_any (c : Cs) (hf : c.Fit) (pa : Option Addr) (pc : Nat) (_ : c.parts.length ≤ pc) (x : Int) (_ : (Lit.int .i64 x).wf = true) (y : Int) (_ : (Lit.int .i64 y).wf = true) (t : Bool) (la : Option Addr) (L : List Br) (lc : Nat) (hLk : L.length ≤ lc) (hLm : lc ≤ maxLen) (hLs : ∀ z ∈ L, z.kind < 256 ∧ z.many.length ≤ maxLen) (w : World) (hp : PartsAt w pa c.parts) (hbr : BrsAt w la L) :
  Calls Tryz.prog 4 #[.agg #[.string c.ware, .int .i64 c.limit, .int .i64 c.by_, .slice pa c.parts.length pc], .int .i64 x, .int .i64 y, .bool t, .slice la L.length lc] w fun e w' => e = .returned (.bool true) ∧ Below w.heap.size w w' := by
 obtain ⟨w1, hw1, hB1, b1⟩ := box_here w c pa pc
 have e1 : ∀ i, w1.cell? ⟨w.heap.size, i, none⟩ = (#[.string c.ware, .int .i64 c.limit, .int .i64 c.by_, .slice pa c.parts.length pc] : Array Value)[i]? := b1.cell
 have HFW := Lib.hid (few_any c hf pa pc w1 (hp.below hB1))
 have HSL := Lib.hid (fun W (h : BrsAt W la L) => slight_any L la lc (Nat.le_trans hLk hLm) (fun z hz => (hLs z hz).2) W h)
 have HP := Lib.hid hp
 have HBR := Lib.hid hbr
 have HW := Lib.hid hw1
 have HB1 := Lib.hid hB1
 have HX := Lib.hid b1
 have HAL := Lib.hid alive_any
 clear hw1 hB1 b1 hp hbr
 rcases hfb : fewB c with _ | _
 ·rw [hfb] at HFW
  go_enter Tryz.func4, Tryz.ntmps4
  go_upto_region 1 with fail
  simp only [HW.out]
  go_wp2_with fail
  (with_reducible refine HFW.out.mono ?_)
  rintro e w2 ⟨rfl, hb2⟩
  have HB2 := Lib.hid (HB1.out.trans (hb2.mono HB1.out.size))
  have HX2 := Lib.hid (HX.out.below' hb2)
  clear hb2 e1
  go_wp2_with fail
  (with_reducible refine (HAL.out _).mono ?_)
  rintro e w3 ⟨rfl, hb3⟩
  have HB3 := Lib.hid (HB2.out.trans (hb3.mono HB2.out.size))
  clear hb3
  go_wp2_with fail
  go_ret
  exact ⟨rfl, HB3.out⟩
 rw [hfb] at HFW
 have hsm := few_small hfb
 have h10 : c.parts.length ≤ 10 := hsm.1
 rcases hsl : slightB L with _ | _
 ·rw [hsl] at HSL
  clear hLs hf hsm
  go_enter Tryz.func4, Tryz.ntmps4
  go_upto_region 1 with fail
  simp only [HW.out]
  go_wp2_with fail
  (with_reducible refine HFW.out.mono ?_)
  rintro e w2 ⟨rfl, hb2⟩
  have HB2 := Lib.hid (HB1.out.trans (hb2.mono HB1.out.size))
  have HX2 := Lib.hid (HX.out.below' hb2)
  clear hb2 e1
  go_wp2_with fail
  (with_reducible refine (HSL.out _ (HBR.out.below HB2.out)).mono ?_)
  rintro e w2 ⟨rfl, hbn⟩
  have HX2 := Lib.hid (HX2.out.below' hbn)
  have HB2 := Lib.hid (HB2.out.trans (hbn.mono HB2.out.size))
  try clear e1
  clear hbn
  go_wp2_with fail
  (with_reducible refine (HAL.out _).mono ?_)
  rintro e w3 ⟨rfl, hb3⟩
  have HB3 := Lib.hid (HB2.out.trans (hb3.mono HB2.out.size))
  clear hb3
  go_wp2_with fail
  go_ret
  exact ⟨rfl, HB3.out⟩
 rw [hsl] at HSL
 have hll := slight_len hsl
 have hor := slight_or hsl
 have hls : ∀ z ∈ L, z.Small := fun z hz => ⟨(hLs z hz).1, by have := hll.2 z hz; omega⟩
 have hul : (usesOut c (openErr c [x, y]) x.toNat y.toNat t L).1.length ≤ 1000000 := by
  by_cases hz : openErr c [x, y] = 0
  ·exact usesOut_len (check_small hz) hll.1
  ·unfold usesOut; rw [if_neg hz]; simp
 have hu1 := fun W h1 h2 => uses_any c hsm pa pc x y t L hor hls la lc W h1 h2 hLk
 have hu2 := fun W h1 h2 => uses_ref c hsm pa pc x y t L hor hls la lc W h1 h2 hLk
 generalize usesOut c (openErr c [x, y]) x.toNat y.toNat t L = r at *
 obtain ⟨ids, er⟩ := r
 unfold UsesPost at hu1 hu2
 dsimp only at hu1 hu2 hul
 have HU1 := Lib.hid hu1
 have HU2 := Lib.hid hu2
 clear hu1 hu2 hls hll hsm hf hLs hor hsl hfb
 go_enter Tryz.func4, Tryz.ntmps4
 go_upto_region 1 with fail
 simp only [HW.out]
 go_wp2_with fail
 (with_reducible refine HFW.out.mono ?_)
 rintro e w2 ⟨rfl, hb2⟩
 have HB2 := Lib.hid (HB1.out.trans (hb2.mono HB1.out.size))
 have HX2 := Lib.hid (HX.out.below' hb2)
 clear hb2 e1
 go_wp2_with fail
 (with_reducible refine (HSL.out _ (HBR.out.below HB2.out)).mono ?_)
 rintro e w2 ⟨rfl, hbn⟩
 have HX2 := Lib.hid (HX2.out.below' hbn)
 have HB2 := Lib.hid (HB2.out.trans (hbn.mono HB2.out.size))
 try clear e1
 clear hbn
 have e1 : ∀ i, w2.cell? ⟨w.heap.size, i, none⟩ = (#[.string c.ware, .int .i64 c.limit, .int .i64 c.by_, .slice pa c.parts.length pc] : Array Value)[i]? := HX2.out.cell
 go_wp2_with fail
 (with_reducible refine (HU1.out _ (HP.out.below HB2.out) (HBR.out.below HB2.out)).mono ?_)
 rintro e w2 ⟨a3, c3, rfl, hi3, _, hbn⟩
 have HX2 := Lib.hid (HX2.out.below' hbn)
 have HB2 := Lib.hid (HB2.out.trans (hbn.mono HB2.out.size))
 try clear e1
 have HI3 := Lib.hid hi3
 clear hbn hi3
 have e1 : ∀ i, w2.cell? ⟨w.heap.size, i, none⟩ = (#[.string c.ware, .int .i64 c.limit, .int .i64 c.by_, .slice pa c.parts.length pc] : Array Value)[i]? := HX2.out.cell
 go_wp2_with fail
 (with_reducible refine (HU2.out _ (HP.out.below HB2.out) (HBR.out.below HB2.out)).mono ?_)
 rintro e w2 ⟨a4, c4, rfl, hi4, _, hbn⟩
 have HX2 := Lib.hid (HX2.out.below' hbn)
 have HB2 := Lib.hid (HB2.out.trans (hbn.mono HB2.out.size))
 try clear e1
 have HI3 := Lib.hid (HI3.out.below hbn)
 have HI4 := Lib.hid hi4
 clear hbn hi4
 go_wp2_with fail
 (with_reducible refine (HAL.out _).mono ?_)
 rintro e w2 ⟨rfl, hbn⟩
 have HX2 := Lib.hid (HX2.out.below' hbn)
 have HB2 := Lib.hid (HB2.out.trans (hbn.mono HB2.out.size))
 try clear e1
 have hi3 := HI3.out.below hbn
 have hi4 := HI4.out.below hbn
 have HSA := Lib.hid (same_ref a3 a4 c3 c4 ids ids _ hi3 hi4 hul hul)
 clear hbn hi3 hi4
 go_wp2_with fail
 (with_reducible refine HSA.out.mono ?_)
 rintro e w2 ⟨rfl, hbn⟩
 have HX2 := Lib.hid (HX2.out.below' hbn)
 have HB2 := Lib.hid (HB2.out.trans (hbn.mono HB2.out.size))
 try clear e1
 clear hbn
 go_wp2_with fail
 go_ret
 exact ⟨by simp, HB2.out⟩
end Go.Proofs.YtpjcnkajimgagaaGreat
namespace Go.Proofs.YtpjcnkajimgagaaGreat.SureUsesEnd
open Go.ChangeShapes Go.WideShapes Go.ChangeAt Go.RowKit

theorem own : ownKnob Tryz.prog.godebug = none := by kernel_rfl

set_option maxRecDepth 100000 in
theorem lifted (os : Os) (started : os.Started) (H : Type) (enc : TypeId × Value → H) :
  ReturnsInHanded {} Tryz.checked os 4 .any (Rows.sureUsesSpec.pre6 enc Tryz.prog Tryz.f4 Rows.sureUsesRow.domain false) (Rows.sureUsesSpec.post enc Tryz.prog Tryz.f4 false true false false) := by
 refine returnsInHanded_of_change (C := Tryz.checked) own started (by kernel_rfl) Tryz.func4
  (ChangeSpec.witness6 (enc := enc) (C := Tryz.checked) false ⟨#[], #[.agg #[.string ⟨#[]⟩, .int .i64 0, .int .i64 0, .slice none 0 0], .int .i64 0, .int .i64 0, .bool false, .slice none 0 0], []⟩ 8 (by kernel_rfl) (by kernel_rfl) (by kernel_rfl) (by kernel_rfl)) ?_
 intro W base args ds gs before hval0 hW hcnd _
 have hval : ∀ (j : Nat) t v, Tryz.f4.params[j]? = some t → args[j]? = some v → Value.okWide Tryz.prog W .any base t v := hval0
 have hW' := hW
 obtain ⟨p, q, hA0, hV, rfl, hfz, hnd⟩ := hW
 have hA : DataW.TrodAll enc Tryz.prog W 0 (fun _ => true) true Tryz.f4.params.toList args.toList ds p := hA0
 rw [Tryz.params4] at hA hval
 obtain ⟨v0, vs0, d0, ds0, p0, q0, hargs, rfl, rfl, h0, r0⟩ := trodAll_cons hA
 obtain ⟨v1, vs1, d1, ds1, p1, q1, rfl, rfl, rfl, h1, r1⟩ := trodAll_cons r0
 obtain ⟨v2, vs2, d2, ds2, p2, q2, rfl, rfl, rfl, h2, r2⟩ := trodAll_cons r1
 obtain ⟨v3, vs3, d3, ds3, p3, q3, rfl, rfl, rfl, h3, r3⟩ := trodAll_cons r2
 obtain ⟨v4, vs4, d4, ds4, p4, q4, rfl, rfl, rfl, h4, r4⟩ := trodAll_cons r3
 obtain ⟨rfl, rfl, rfl⟩ := trodAll_nil r4
 obtain rfl : args = #[v0, v1, v2, v3, v4] := by cases args; simp_all
 obtain ⟨rfl, rfl⟩ := trodVars_none hV
 obtain ⟨c0, pa0, pc0, rfl, hp0, hpc0, hfit0, hlw0⟩ := case_of (hval 0 _ v0 rfl rfl) h0
 obtain ⟨a1, rfl, rfl, rfl, w1⟩ := open_int Tryz.underlying3 (hval 1 _ v1 rfl rfl) h1
 obtain ⟨a2, rfl, rfl, rfl, w2⟩ := open_int Tryz.underlying3 (hval 2 _ v2 rfl rfl) h2
 obtain ⟨a3, rfl, rfl, rfl⟩ := open_bool Tryz.underlying4 (hval 3 _ v3 rfl rfl) h3
 obtain ⟨a4, l4, k4, rfl, hi4, hk4, hm4, hs4⟩ := brs_arg (hval 4 _ v4 rfl rfl) h4
 clear hA0 hval0
 refine (sureUses_any c0 hfit0 pa0 pc0 hpc0 a1 w1 a2 w2 a3 a4 l4 k4 hk4 hm4 hs4 W hp0 hi4).mono fun e W' ⟨he, hb⟩ => ?_
 subst he
 exact ⟨_, rfl, law_post rfl rfl (of_decide_eq_true (by kernel_rfl)) hW' rfl rfl rfl hb⟩

theorem over : Rows.sureUsesRow.holds Tryz.pinned (OpenSpec.ofChange Rows.sureUsesSpec) :=
 OpenClaim.holds_of_wide 4 Tryz.f4 rfl rfl rfl rfl rfl rfl rfl ⟨rfl, rfl, rfl, rfl, rfl⟩ rfl rfl rfl rfl rfl (by kernel_rfl) Tryz.func4 (by kernel_rfl)
  (of_decide_eq_true (by kernel_rfl)) (by unfold Func.isWrapper; first | (rw [if_pos (by decide +kernel)]; kernel_rfl) | (rw [if_neg (by decide +kernel)]; exact ⟨rfl, rfl⟩))
  (fun os started H enc _ => lifted os started H enc)

theorem proved : Rows.SureUsesSaid :=
 over
#print axioms proved
end Go.Proofs.YtpjcnkajimgagaaGreat.SureUsesEnd
