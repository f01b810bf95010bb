/- SureCases: CheckCase, Clash, Fits, First and Count return what the reference returns: the law returns true for every input, and its arguments read as before. No condition. -/
/- SureCases: the statement. -/
import Derived.Test.YtoaacllpegfcjaaGreatMLaw
import Derived.Test.YtoaacllpegfcjaaGreatMLawR
import Derived.ProofKit
import Derived.JoinedCond
set_option linter.unusedSimpArgs false
set_option linter.unusedVariables false
namespace Go.Proofs.YtoaacllpegfcjaaGreat
open Go.RowKit
attribute [local go_sem] Oper.semAt_some

set_option maxRecDepth 100000 in
set_option maxHeartbeats 4000000 in
theorem sureCases_any (c : Cs) (hf : c.Fit) (pa : Option Addr) (pc : Nat) (_ : c.parts.length ≤ pc) (x : Int) (_ : (Lit.int .i64 x).wf = true) (y : Int) (_ : (Lit.int .i64 y).wf = true) (na : Option Addr) (l : List Int) (nc : Nat) (hk : l.length ≤ nc) (hm : nc ≤ maxLen) (w : World)
    (hp : PartsAt w pa c.parts) (hi : Ints w na l) :
    Calls Tryz.prog 5 #[.agg #[.string c.ware, .int .i64 c.limit, .int .i64 c.by_, .slice pa c.parts.length pc], .int .i64 x, .int .i64 y, .slice na l.length nc] w fun e w' => e = .returned (.bool true) ∧ Below w.heap.size w w' := by
  have hll : l.length ≤ maxLen := Nat.le_trans hk hm
  unfold maxLen at hll
  obtain ⟨w1, hw1, hB1, b1⟩ := box_case w c pa pc
  have e1 : ∀ i, w1.cell? ⟨w.heap.size, i, none⟩ = (#[.string c.ware, .int .i64 c.limit, .int .i64 c.by_, .slice pa c.parts.length pc] : Array Value)[i]? := b1.cell
  have HFW := Lib.hid (few_any c hf pa pc w1 (hp.below hB1))
  have HP := Lib.hid hp
  have HI := Lib.hid hi
  have HW := Lib.hid hw1
  have HB1 := Lib.hid hB1
  have HX := Lib.hid b1
  have HAL := Lib.hid alive_any
  clear hw1 hB1 b1 hp hi hk hm
  rcases hfb : fewB c with _ | _
  · rw [hfb] at HFW
    go_enter Tryz.func5, Tryz.ntmps5
    go_upto_region 1 with fail
    simp only [HW.out]
    go_wp2_with fail
    (with_reducible refine HFW.out.mono ?_)
    rintro e w2 ⟨rfl, hb2⟩
    have HB2 := Lib.hid (HB1.out.trans (hb2.mono HB1.out.size))
    have HX2 := Lib.hid (HX.out.below' hb2)
    clear hb2 e1
    go_wp2_with fail
    (with_reducible refine (HAL.out _).mono ?_)
    rintro e w3 ⟨rfl, hb3⟩
    have HB3 := Lib.hid (HB2.out.trans (hb3.mono HB2.out.size))
    clear hb3
    go_wp2_with fail
    go_ret
    exact ⟨rfl, HB3.out⟩
  · rw [hfb] at HFW
    have hsm := few_small hfb
    by_cases hl20 : 20 < l.length
    · go_enter Tryz.func5, Tryz.ntmps5
      go_upto_region 1 with fail
      simp only [HW.out]
      go_wp2_with fail
      (with_reducible refine HFW.out.mono ?_)
      rintro e w2 ⟨rfl, hb2⟩
      have HB2 := Lib.hid (HB1.out.trans (hb2.mono HB1.out.size))
      have HX2 := Lib.hid (HX.out.below' hb2)
      clear hb2 e1
      go_wp2_with fail
      (with_reducible refine (HAL.out _).mono ?_)
      rintro e w3 ⟨rfl, hb3⟩
      have HB3 := Lib.hid (HB2.out.trans (hb3.mono HB2.out.size))
      clear hb3
      go_wp2_with fail
      go_ret
      exact ⟨rfl, HB3.out⟩
    · have hlen : ((if checkCase c = 0 then (allR c).find? (fun _ => true) else none).getD []).length ≤ 1000000 := by
        split
        · rcases h : (allR c).find? (fun _ => true) with _ | z
          · simp
          · have := allR_size (List.mem_of_find?_eq_some h)
            have := hsm.1
            simp; omega
        · simp
      have hc1 := fun W h => (clashTop_any c hsm pa pc x y W h)
      have hc2 := fun W h => (clashTop_ref c hsm pa pc x y W h)
      have hf1 := fun W h1 h2 => (fits_any c hsm pa pc na l nc (by omega) W h1 h2)
      have hf2 := fun W h1 h2 => (fits_ref c hsm pa pc na l nc (by omega) W h1 h2)
      have hk1 := fun W h => (checkCase_any c hsm pa pc W h)
      have hk2 := fun W h => (checkCase_ref c hsm pa pc W h)
      have hg1 := fun W h => (first_any c hsm pa pc W h).mono fun _ _ => see_list
      have hg2 := fun W h => (first_ref c hsm pa pc W h).mono fun _ _ => see_look
      have hn1 := fun W h => (count_any c hsm pa pc W h)
      have hn2 := fun W h => (count_ref c hsm pa pc W h)
      unfold BoolPost at hc1 hc2 hf1 hf2
      unfold IntPost at hn1 hn2
      unfold SeePost at hg1 hg2
      generalize (if checkCase c = 0 then (allR c).find? (fun _ => true) else none) = o at *
      generalize (openErr c [x, y] == 0 && clashB c x.toNat y.toNat) = cb at *
      generalize openErr c [x, y] = er at *
      generalize (checkCase c == 0 && fitsB c l) = fb at *
      generalize (if checkCase c = 0 then ((allR c).length : Int) else 0) = cn at *
      generalize checkCase c = ce at *
      obtain ⟨L, hL⟩ : ∃ L, o.getD [] = L := ⟨_, rfl⟩
      rw [hL] at hg1 hg2 hlen
      have HC1 := Lib.hid hc1
      have HC2 := Lib.hid hc2
      have HF1 := Lib.hid hf1
      have HF2 := Lib.hid hf2
      have HK1 := Lib.hid hk1
      have HK2 := Lib.hid hk2
      have HG1 := Lib.hid hg1
      have HG2 := Lib.hid hg2
      have HN1 := Lib.hid hn1
      have HN2 := Lib.hid hn2
      clear hc1 hc2 hf1 hf2 hk1 hk2 hg1 hg2 hn1 hn2 hsm hf hL
      go_enter Tryz.func5, Tryz.ntmps5
      go_upto_region 1 with fail
      simp only [HW.out]
      go_wp2_with fail
      (with_reducible refine HFW.out.mono ?_)
      rintro e w2 ⟨rfl, hb2⟩
      have HB2 := Lib.hid (HB1.out.trans (hb2.mono HB1.out.size))
      have HX2 := Lib.hid (HX.out.below' hb2)
      clear hb2 e1
      have e1 : ∀ i, w2.cell? ⟨w.heap.size, i, none⟩ = (#[.string c.ware, .int .i64 c.limit, .int .i64 c.by_, .slice pa c.parts.length pc] : Array Value)[i]? := HX2.out.cell
      go_wp2_with fail
      (with_reducible refine (HC1.out _ (HP.out.below HB2.out)).mono ?_)
      rintro e w2 ⟨hbn, rfl⟩
      have HX2 := Lib.hid (HX2.out.below' hbn)
      have HB2 := Lib.hid (HB2.out.trans (hbn.mono HB2.out.size))
      clear hbn
      try clear e1
      have e1 : ∀ i, w2.cell? ⟨w.heap.size, i, none⟩ = (#[.string c.ware, .int .i64 c.limit, .int .i64 c.by_, .slice pa c.parts.length pc] : Array Value)[i]? := HX2.out.cell
      go_wp2_with fail
      (with_reducible refine (HC2.out _ (HP.out.below HB2.out)).mono ?_)
      rintro e w2 ⟨hbn, rfl⟩
      have HX2 := Lib.hid (HX2.out.below' hbn)
      have HB2 := Lib.hid (HB2.out.trans (hbn.mono HB2.out.size))
      clear hbn
      try clear e1
      have e1 : ∀ i, w2.cell? ⟨w.heap.size, i, none⟩ = (#[.string c.ware, .int .i64 c.limit, .int .i64 c.by_, .slice pa c.parts.length pc] : Array Value)[i]? := HX2.out.cell
      go_wp2_with fail
      (with_reducible refine (HF1.out _ (HP.out.below HB2.out) (HI.out.below HB2.out)).mono ?_)
      rintro e w2 ⟨hbn, rfl⟩
      have HX2 := Lib.hid (HX2.out.below' hbn)
      have HB2 := Lib.hid (HB2.out.trans (hbn.mono HB2.out.size))
      clear hbn
      try clear e1
      have e1 : ∀ i, w2.cell? ⟨w.heap.size, i, none⟩ = (#[.string c.ware, .int .i64 c.limit, .int .i64 c.by_, .slice pa c.parts.length pc] : Array Value)[i]? := HX2.out.cell
      go_wp2_with fail
      (with_reducible refine (HF2.out _ (HP.out.below HB2.out) (HI.out.below HB2.out)).mono ?_)
      rintro e w2 ⟨hbn, rfl⟩
      have HX2 := Lib.hid (HX2.out.below' hbn)
      have HB2 := Lib.hid (HB2.out.trans (hbn.mono HB2.out.size))
      clear hbn
      try clear e1
      have hcb : (cb != cb) = false := by simp
      have hfb' : (fb != fb) = false := by simp
      go_wp2_with fail
      refine wp_region_heldB 25 [] (by kernel_rfl) (by kernel_rfl) (by kernel_rfl) (by simp) ?_
      intro S hS
      have k0 : ∀ W, S W → ∀ i, W.cell? ⟨w.heap.size, i, none⟩ = (#[.string c.ware, .int .i64 c.limit, .int .i64 c.by_, .slice pa c.parts.length pc] : Array Value)[i]? := fun W h => (HX2.out.below' (hS W h)).cell
      have K0 := Lib.hid k0
      have HS := Lib.hid hS
      clear k0 hS
      simp only [List.take_succ_cons, List.take_zero, List.drop_succ_cons, List.drop_zero]
      repeat (first
        | (refine held_not rfl (by rfl) ?_; try (dsimp only); try simp only [Act.put, List.setIfInBounds_toArray, List.set_cons_zero, List.set_cons_succ])
        | (refine held_val (v := ?_) rfl (by rfl) ?_ ?_; rotate_left; (· (intro W hW; have q0 := K0.out W hW; go_simp; try with_reducible rfl)); try (dsimp only); try simp only [Act.put, List.setIfInBounds_toArray, List.set_cons_zero, List.set_cons_succ])
        | (refine held_skip rfl (by rfl) ?_ ?_; (· (intro W hW; have q0 := K0.out W hW; go_simp; try with_reducible rfl)); try (dsimp only); try simp only [Act.put, List.setIfInBounds_toArray, List.set_cons_zero, List.set_cons_succ])
        | (refine held_call (v := .int .i64 ce) (f := 24) (args := #[.agg #[.string c.ware, .int .i64 c.limit, .int .i64 c.by_, .slice pa c.parts.length pc]]) rfl (by rfl) ?_ ?_ ?_; (· (intro W hW; go_simp; done)); (· exact (fun W hW => HK1.out W ((HP.out.below HB2.out).below (HS.out W hW)))); try (dsimp only); try simp only [Act.put, List.setIfInBounds_toArray, List.set_cons_zero, List.set_cons_succ])
        | (refine held_call (v := .int .i64 ce) (f := 25) (args := #[.agg #[.string c.ware, .int .i64 c.limit, .int .i64 c.by_, .slice pa c.parts.length pc]]) rfl (by rfl) ?_ ?_ ?_; (· (intro W hW; go_simp; done)); (· exact (fun W hW => HK2.out W ((HP.out.below HB2.out).below (HS.out W hW)))); try (dsimp only); try simp only [Act.put, List.setIfInBounds_toArray, List.set_cons_zero, List.set_cons_succ]))
      refine held_nil ?_
      intro τ hτ w2 hW hO
      obtain rfl := laid0 hτ
      have hbn := HS.out w2 hW
      clear hτ hO hW K0 HS
      simp only [overs, List.foldl_nil]
      have HX2 := Lib.hid (HX2.out.below' hbn)
      have HB2 := Lib.hid (HB2.out.trans (hbn.mono HB2.out.size))
      clear hbn
      try clear e1
      have e1 : ∀ i, w2.cell? ⟨w.heap.size, i, none⟩ = (#[.string c.ware, .int .i64 c.limit, .int .i64 c.by_, .slice pa c.parts.length pc] : Array Value)[i]? := HX2.out.cell
      go_wp2_with fail
      (with_reducible refine (HG1.out _ (HP.out.below HB2.out)).mono ?_)
      rintro e w2 ⟨a3, c3, rfl, hi3, hbn⟩
      have HI3 := Lib.hid hi3
      clear hi3
      have HX2 := Lib.hid (HX2.out.below' hbn)
      have HB2 := Lib.hid (HB2.out.trans (hbn.mono HB2.out.size))
      clear hbn
      try clear e1
      have e1 : ∀ i, w2.cell? ⟨w.heap.size, i, none⟩ = (#[.string c.ware, .int .i64 c.limit, .int .i64 c.by_, .slice pa c.parts.length pc] : Array Value)[i]? := HX2.out.cell
      go_wp2_with fail
      (with_reducible refine (HG2.out _ (HP.out.below HB2.out)).mono ?_)
      rintro e w2 ⟨a4, c4, rfl, hi4, hbn⟩
      have HI4 := Lib.hid hi4
      have HI3 := Lib.hid (HI3.out.below hbn)
      clear hi4
      have HX2 := Lib.hid (HX2.out.below' hbn)
      have HB2 := Lib.hid (HB2.out.trans (hbn.mono HB2.out.size))
      clear hbn
      try clear e1
      have e1 : ∀ i, w2.cell? ⟨w.heap.size, i, none⟩ = (#[.string c.ware, .int .i64 c.limit, .int .i64 c.by_, .slice pa c.parts.length pc] : Array Value)[i]? := HX2.out.cell
      go_wp2_with fail
      (with_reducible refine (HN1.out _ (HP.out.below HB2.out)).mono ?_)
      rintro e w2 ⟨hbn, rfl⟩
      have HI3 := Lib.hid (HI3.out.below hbn)
      have HI4 := Lib.hid (HI4.out.below hbn)
      have HX2 := Lib.hid (HX2.out.below' hbn)
      have HB2 := Lib.hid (HB2.out.trans (hbn.mono HB2.out.size))
      clear hbn
      try clear e1
      have e1 : ∀ i, w2.cell? ⟨w.heap.size, i, none⟩ = (#[.string c.ware, .int .i64 c.limit, .int .i64 c.by_, .slice pa c.parts.length pc] : Array Value)[i]? := HX2.out.cell
      go_wp2_with fail
      (with_reducible refine (HN2.out _ (HP.out.below HB2.out)).mono ?_)
      rintro e w2 ⟨hbn, rfl⟩
      have HI3 := Lib.hid (HI3.out.below hbn)
      have HI4 := Lib.hid (HI4.out.below hbn)
      have HX2 := Lib.hid (HX2.out.below' hbn)
      have HB2 := Lib.hid (HB2.out.trans (hbn.mono HB2.out.size))
      clear hbn
      try clear e1
      go_wp2_with fail
      (with_reducible refine (HAL.out _).mono ?_)
      rintro e w2 ⟨rfl, hbn⟩
      have hi3 := HI3.out.below hbn
      have hi4 := HI4.out.below hbn
      have hsa := same_ref a3 a4 c3 c4 (natInts L) (natInts L) w2 hi3 hi4 (by rw [natInts_len]; exact hlen) (by rw [natInts_len]; exact hlen)
      rw [natInts_len] at hsa
      have HSA := Lib.hid hsa
      clear hi3 hi4 hsa
      have HX2 := Lib.hid (HX2.out.below' hbn)
      have HB2 := Lib.hid (HB2.out.trans (hbn.mono HB2.out.size))
      clear hbn
      try clear e1
      go_wp2_with fail
      (with_reducible refine HSA.out.mono ?_)
      rintro e w2 ⟨rfl, hbn⟩
      have HX2 := Lib.hid (HX2.out.below' hbn)
      have HB2 := Lib.hid (HB2.out.trans (hbn.mono HB2.out.size))
      clear hbn
      try clear e1
      go_wp2_with fail
      go_ret
      exact ⟨by simp, HB2.out⟩
end Go.Proofs.YtoaacllpegfcjaaGreat
namespace Go.Proofs.YtoaacllpegfcjaaGreat.SureCasesEnd
open Go.ChangeShapes Go.WideShapes Go.ChangeAt Go.RowKit

theorem own : ownKnob Tryz.prog.godebug = none := by kernel_rfl

set_option maxRecDepth 100000 in
theorem lifted (os : Os) (started : os.Started) (H : Type) (enc : TypeId × Value → H) :
    ReturnsInHanded {} Tryz.checked os 5 .any (Rows.sureCasesSpec.pre6 enc Tryz.prog Tryz.f5 Rows.sureCasesRow.domain false) (Rows.sureCasesSpec.post enc Tryz.prog Tryz.f5 false true false false) := by
  refine returnsInHanded_of_change (C := Tryz.checked) own started (by kernel_rfl) Tryz.func5
    (ChangeSpec.witness6 (enc := enc) (C := Tryz.checked) false ⟨#[], #[.agg #[.string ⟨#[]⟩, .int .i64 0, .int .i64 0, .slice none 0 0], .int .i64 0, .int .i64 0, .slice none 0 0], []⟩ 8 (by kernel_rfl) (by kernel_rfl) (by kernel_rfl) (by kernel_rfl)) ?_
  intro W base args ds gs before hval0 hW hcnd _
  have hval : ∀ (j : Nat) t v, Tryz.f5.params[j]? = some t → args[j]? = some v → Value.okWide Tryz.prog W .any base t v := hval0
  have hW' := hW
  obtain ⟨p, q, hA0, hV, rfl, hfz, hnd⟩ := hW
  have hA : DataW.TrodAll enc Tryz.prog W 0 (fun _ => true) true Tryz.f5.params.toList args.toList ds p := hA0
  rw [Tryz.params5] at hA hval
  obtain ⟨v0, vs0, d0, ds0, p0, q0, hargs, rfl, rfl, h0, r0⟩ := trodAll_cons hA
  obtain ⟨v1, vs1, d1, ds1, p1, q1, rfl, rfl, rfl, h1, r1⟩ := trodAll_cons r0
  obtain ⟨v2, vs2, d2, ds2, p2, q2, rfl, rfl, rfl, h2, r2⟩ := trodAll_cons r1
  obtain ⟨v3, vs3, d3, ds3, p3, q3, rfl, rfl, rfl, h3, r3⟩ := trodAll_cons r2
  obtain ⟨rfl, rfl, rfl⟩ := trodAll_nil r3
  obtain rfl : args = #[v0, v1, v2, v3] := by cases args; simp_all
  obtain ⟨rfl, rfl⟩ := trodVars_none hV
  obtain ⟨c0, pa0, pc0, rfl, hp0, hpc0, hfit0, hlw0⟩ := case_of (hval 0 _ v0 rfl rfl) h0
  obtain ⟨a1, rfl, rfl, rfl, w1⟩ := open_int Tryz.underlying3 (hval 1 _ v1 rfl rfl) h1
  obtain ⟨a2, rfl, rfl, rfl, w2⟩ := open_int Tryz.underlying3 (hval 2 _ v2 rfl rfl) h2
  obtain ⟨a3, l3, k3, rfl, hi3, hk3, hm3⟩ := ints_arg (hval 3 _ v3 rfl rfl) h3
  clear hA0 hval0
  refine (sureCases_any c0 hfit0 pa0 pc0 hpc0 a1 w1 a2 w2 a3 l3 k3 hk3 hm3 W hp0 hi3).mono fun e W' ⟨he, hb⟩ => ?_
  subst he
  exact ⟨_, rfl, law_post rfl rfl (of_decide_eq_true (by kernel_rfl)) hW' rfl rfl rfl hb⟩

theorem over : Rows.sureCasesRow.holds Tryz.pinned (OpenSpec.ofChange Rows.sureCasesSpec) :=
  OpenClaim.holds_of_wide 5 Tryz.f5 rfl rfl rfl rfl rfl rfl rfl ⟨rfl, rfl, rfl, rfl, rfl⟩ rfl rfl rfl rfl rfl (by kernel_rfl) Tryz.func5 (by kernel_rfl)
    (of_decide_eq_true (by kernel_rfl)) (by unfold Func.isWrapper; first | (rw [if_pos (by decide +kernel)]; kernel_rfl) | (rw [if_neg (by decide +kernel)]; exact ⟨rfl, rfl⟩))
    (fun os started H enc _ => lifted os started H enc)

theorem proved : Rows.SureCasesSaid :=
  over
#print axioms proved
end Go.Proofs.YtoaacllpegfcjaaGreat.SureCasesEnd
