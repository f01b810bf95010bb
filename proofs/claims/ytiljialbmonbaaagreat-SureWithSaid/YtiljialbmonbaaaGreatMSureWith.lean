/- SureWith: for every case and two parts, With returns what the reference returns: the law returns true for every input, and its arguments read as before. No condition. -/
/- SureWith: the statement. -/
import Derived.Test.YtiljialbmonbaaaGreatMAlive
import Derived.Test.YtiljialbmonbaaaGreatRefW
import Derived.Test.YtiljialbmonbaaaGreatMFew
import Derived.ProofKit
import Derived.JoinedCond
set_option linter.unusedSimpArgs false
set_option linter.unusedVariables false
namespace Go.Proofs.YtiljialbmonbaaaGreat
open Go.RowKit
attribute [local go_sem] Oper.semAt_some

/-- what both return, in one form -/
def SeePost (er : Int) (o : Option (List Nat)) (w : World) (e : Ending) (w' : World) : Prop :=
  ∃ (a : Option Addr) (cap : Nat), e = .returned (.tuple #[.slice a ((if er = 0 then o else none).getD []).length cap, .bool (if er = 0 then o else none).isSome, .int .i64 er]) ∧ Ints w' a (natInts ((if er = 0 then o else none).getD [])) ∧ Below w.heap.size w w'
theorem see_list {er : Int} {o : Option (List Nat)} {w : World} {e : Ending} {w' : World} (h : ListPost er o w e w') : SeePost er o w e w' := by
  obtain ⟨hb, ⟨h, rfl⟩ | ⟨h, ho, rfl⟩ | ⟨h, x, v, ho, rfl, hv⟩⟩ := h
  · simp only [SeePost, h, if_false]
    exact ⟨none, 0, rfl, Ints.nil _ _, hb⟩
  · simp only [SeePost, h, ho, if_true]
    exact ⟨none, 0, rfl, Ints.nil _ _, hb⟩
  · obtain ⟨a, cap, rfl, hi⟩ := own_ints hv
    simp only [SeePost, h, ho, if_true]
    exact ⟨a, cap, rfl, hi, hb⟩
theorem see_look {er : Int} {o : Option (List Nat)} {w : World} {e : Ending} {w' : World} (h : LookPost er o w e w') : SeePost er o w e w' := by
  obtain ⟨hb, ⟨h, rfl⟩ | ⟨h, ho, rfl⟩ | ⟨h, x, a, cap, ho, rfl, hi⟩⟩ := h
  · simp only [SeePost, h, if_false]
    exact ⟨none, 0, rfl, Ints.nil _ _, hb⟩
  · simp only [SeePost, h, ho, if_true]
    exact ⟨none, 0, rfl, Ints.nil _ _, hb⟩
  · simp only [SeePost, h, ho, if_true]
    exact ⟨a, cap, rfl, hi, hb⟩
set_option maxRecDepth 100000 in
set_option maxHeartbeats 1000000 in
theorem sureWith_any (c : Cs) (hf : c.Fit) (pa : Option Addr) (pc : Nat) (x y : Int) (t : Bool) (w : World) (hp : PartsAt w pa c.parts) :
    Calls Tryz.prog 3 #[.agg #[.string c.ware, .int .i64 c.limit, .int .i64 c.by_, .slice pa c.parts.length pc], .int .i64 x, .int .i64 y, .bool t] w fun e w' => e = .returned (.bool true) ∧ Below w.heap.size w w' := by
  obtain ⟨w1, hw1⟩ : ∃ w1, w.alloc (.cells #[.string c.ware, .int .i64 c.limit, .int .i64 c.by_, .slice pa c.parts.length pc] 24) = w1 := ⟨_, rfl⟩
  have hB1 : Below w.heap.size w w1 := by rw [← hw1]; go_grown
  have b1 : Box w1 w.heap.size (csCells c pa pc) 24 := by rw [← hw1]; exact Box.new _ _ _
  have e1 : ∀ i, w1.cell? ⟨w.heap.size, i, none⟩ = (#[.string c.ware, .int .i64 c.limit, .int .i64 c.by_, .slice pa c.parts.length pc] : Array Value)[i]? := b1.cell
  have hfw := few_any c hf pa pc w1 (hp.below hB1)
  have HFW := Lib.hid hfw
  have HP := Lib.hid hp
  have HW := Lib.hid hw1
  have HB1 := Lib.hid hB1
  have HX := Lib.hid b1
  have HAL := Lib.hid alive_any
  clear hw1 hB1 b1 hp hfw
  rcases hfb : fewB c with _ | _
  · rw [hfb] at HFW
    go_enter Tryz.func3, Tryz.ntmps3
    go_upto_region 1 with fail
    simp only [HW.out]
    go_wp2_with (first
      | (go_at_call 4; (with_reducible refine HFW.out.mono ?_); rintro e w2 ⟨rfl, hb2⟩; have HB2 := Lib.hid (HB1.out.trans (hb2.mono HB1.out.size)); clear hb2)
      | (go_at_call 5; (with_reducible refine (HAL.out _).mono ?_); rintro e w3 ⟨rfl, hb3⟩; have HB3 := Lib.hid (HB2.out.trans (hb3.mono HB2.out.size)); clear hb3))
    go_ret
    exact ⟨rfl, HB3.out⟩
  · rw [hfb] at HFW
    have hsm := few_small hfb
    have hlen : ((if openErr c [x, y] = 0 then (allR c).find? (asPair x.toNat y.toNat t) else none).getD []).length ≤ 1000000 := by
      split
      · rcases h : (allR c).find? (asPair x.toNat y.toNat t) with _ | l
        · simp
        · have := allR_size (List.mem_of_find?_eq_some h)
          have := hsm.1
          simp; omega
      · simp
    have hwa : ∀ W, PartsAt W pa c.parts → Calls Tryz.prog 6 #[.agg #[.string c.ware, .int .i64 c.limit, .int .i64 c.by_, .slice pa c.parts.length pc], .int .i64 x, .int .i64 y, .bool t] W (SeePost (openErr c [x, y]) ((allR c).find? (asPair x.toNat y.toNat t)) W) := fun W h => (with_any c hsm pa pc x y t W h).mono fun _ _ => see_list
    have hwr : ∀ W, PartsAt W pa c.parts → Calls Tryz.prog 7 #[.agg #[.string c.ware, .int .i64 c.limit, .int .i64 c.by_, .slice pa c.parts.length pc], .int .i64 x, .int .i64 y, .bool t] W (SeePost (openErr c [x, y]) ((allR c).find? (asPair x.toNat y.toNat t)) W) := fun W h => (with_ref c hsm pa pc x y t W h).mono fun _ _ => see_look
    unfold SeePost at hwa hwr
    generalize (if openErr c [x, y] = 0 then (allR c).find? (asPair x.toNat y.toNat t) else none) = o at *
    generalize openErr c [x, y] = er at *
    obtain ⟨L, hL⟩ : ∃ L, o.getD [] = L := ⟨_, rfl⟩
    rw [hL] at hwa hwr hlen
    have HWA := Lib.hid hwa
    have HWR := Lib.hid hwr
    clear hwa hwr hsm hf hL
    go_enter Tryz.func3, Tryz.ntmps3
    go_upto_region 1 with fail
    simp only [HW.out]
    go_wp2_with fail
    (with_reducible refine HFW.out.mono ?_)
    rintro e w2 ⟨rfl, hb2⟩
    have e2 : ∀ i, w2.cell? ⟨w.heap.size, i, none⟩ = (#[.string c.ware, .int .i64 c.limit, .int .i64 c.by_, .slice pa c.parts.length pc] : Array Value)[i]? := (HX.out.below' hb2).cell
    have HB2 := Lib.hid (HB1.out.trans (hb2.mono HB1.out.size))
    have HX2 := Lib.hid (HX.out.below' hb2)
    clear hb2 e1
    go_wp2_with fail
    (with_reducible refine (HWA.out _ (HP.out.below HB2.out)).mono ?_)
    rintro e w3 ⟨a3, c3, rfl, hi3, hb3⟩
    have e3 : ∀ i, w3.cell? ⟨w.heap.size, i, none⟩ = (#[.string c.ware, .int .i64 c.limit, .int .i64 c.by_, .slice pa c.parts.length pc] : Array Value)[i]? := (HX2.out.below' hb3).cell
    have HB3 := Lib.hid (HB2.out.trans (hb3.mono HB2.out.size))
    have HI3 := Lib.hid hi3
    clear hb3 e2 hi3
    go_wp2_with fail
    (with_reducible refine (HWR.out _ (HP.out.below HB3.out)).mono ?_)
    rintro e w4 ⟨a4, c4, rfl, hi4, hb4⟩
    have HB4 := Lib.hid (HB3.out.trans (hb4.mono HB3.out.size))
    have HI3 := Lib.hid (HI3.out.below hb4)
    have HI4 := Lib.hid hi4
    clear hb4 e3 hi4
    go_wp2_with fail
    (with_reducible refine (HAL.out _).mono ?_)
    rintro e w5 ⟨rfl, hb5⟩
    have HB5 := Lib.hid (HB4.out.trans (hb5.mono HB4.out.size))
    have hi3 := HI3.out.below hb5
    have hi4 := HI4.out.below hb5
    have hsa := same_ref a3 a4 c3 c4 (natInts L) (natInts L) w5 hi3 hi4 (by rw [natInts_len]; exact hlen) (by rw [natInts_len]; exact hlen)
    rw [natInts_len] at hsa
    have HSA := Lib.hid hsa
    clear hb5 hi3 hi4 hsa
    go_wp2_with fail
    (with_reducible refine HSA.out.mono ?_)
    rintro e w6 ⟨rfl, hb6⟩
    have HB6 := Lib.hid (HB5.out.trans (hb6.mono HB5.out.size))
    clear hb6
    go_wp2_with fail
    go_ret
    exact ⟨by simp, HB6.out⟩
end Go.Proofs.YtiljialbmonbaaaGreat
namespace Go.Proofs.YtiljialbmonbaaaGreat.SureWithEnd
open Go.ChangeShapes Go.WideShapes Go.ChangeAt Go.RowKit

theorem own : ownKnob Tryz.prog.godebug = none := by kernel_rfl

set_option maxRecDepth 100000 in
theorem lifted (os : Os) (started : os.Started) (H : Type) (enc : TypeId × Value → H) :
    ReturnsInHanded {} Tryz.checked os 3 .any (Rows.sureWithSpec.pre6 enc Tryz.prog Tryz.f3 Rows.sureWithRow.domain false) (Rows.sureWithSpec.post enc Tryz.prog Tryz.f3 false true false false) := by
  refine returnsInHanded_of_change (C := Tryz.checked) own started (by kernel_rfl) Tryz.func3
    (ChangeSpec.witness6 (enc := enc) (C := Tryz.checked) false ⟨#[], #[.agg #[.string ⟨#[]⟩, .int .i64 0, .int .i64 0, .slice none 0 0], .int .i64 0, .int .i64 0, .bool false], []⟩ 8 (by kernel_rfl) (by kernel_rfl) (by kernel_rfl) (by kernel_rfl)) ?_
  intro W base args ds gs before hval0 hW hcnd _
  have hval : ∀ (j : Nat) t v, Tryz.f3.params[j]? = some t → args[j]? = some v → Value.okWide Tryz.prog W .any base t v := hval0
  have hW' := hW
  obtain ⟨p, q, hA0, hV, rfl, hfz, hnd⟩ := hW
  have hA : DataW.TrodAll enc Tryz.prog W 0 (fun _ => true) true Tryz.f3.params.toList args.toList ds p := hA0
  rw [Tryz.params3] at hA hval
  obtain ⟨v0, vs0, d0, ds0, p0, q0, hargs, rfl, rfl, h0, r0⟩ := trodAll_cons hA
  obtain ⟨v1, vs1, d1, ds1, p1, q1, rfl, rfl, rfl, h1, r1⟩ := trodAll_cons r0
  obtain ⟨v2, vs2, d2, ds2, p2, q2, rfl, rfl, rfl, h2, r2⟩ := trodAll_cons r1
  obtain ⟨v3, vs3, d3, ds3, p3, q3, rfl, rfl, rfl, h3, r3⟩ := trodAll_cons r2
  obtain ⟨rfl, rfl, rfl⟩ := trodAll_nil r3
  obtain rfl : args = #[v0, v1, v2, v3] := by cases args; simp_all
  obtain ⟨rfl, rfl⟩ := trodVars_none hV
  obtain ⟨c, pa, pc, rfl, hp, hpc, hfit, _⟩ := case_of (hval 0 _ v0 rfl rfl) h0
  obtain ⟨a1, rfl, rfl, rfl, w1⟩ := open_int Tryz.underlying3 (hval 1 _ v1 rfl rfl) h1
  obtain ⟨a2, rfl, rfl, rfl, w2⟩ := open_int Tryz.underlying3 (hval 2 _ v2 rfl rfl) h2
  obtain ⟨a3, rfl, rfl, rfl⟩ := open_bool Tryz.underlying4 (hval 3 _ v3 rfl rfl) h3
  clear hA0 hval0
  refine (sureWith_any c hfit pa pc a1 a2 a3 W hp).mono fun e W' ⟨he, hb⟩ => ?_
  subst he
  exact ⟨_, rfl, law_post rfl rfl (of_decide_eq_true (by kernel_rfl)) hW' rfl rfl rfl hb⟩

theorem over : Rows.sureWithRow.holds Tryz.pinned (OpenSpec.ofChange Rows.sureWithSpec) :=
  OpenClaim.holds_of_wide 3 Tryz.f3 rfl rfl rfl rfl rfl rfl rfl ⟨rfl, rfl, rfl, rfl, rfl⟩ rfl rfl rfl rfl rfl (by kernel_rfl) Tryz.func3 (by kernel_rfl)
    (of_decide_eq_true (by kernel_rfl)) (by unfold Func.isWrapper; first | (rw [if_pos (by decide +kernel)]; kernel_rfl) | (rw [if_neg (by decide +kernel)]; exact ⟨rfl, rfl⟩))
    (fun os started H enc _ => lifted os started H enc)

theorem proved : Rows.SureWithSaid :=
  over
#print axioms proved
end Go.Proofs.YtiljialbmonbaaaGreat.SureWithEnd
