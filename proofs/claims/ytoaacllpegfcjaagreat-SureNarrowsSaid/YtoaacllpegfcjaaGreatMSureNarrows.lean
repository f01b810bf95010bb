/- SureNarrows: what is certain stays so when a measurement or a lesser limit is added, and what is open stays open when a sighting is left out: the law returns true for every input, and its arguments read as before. No condition. -/
/- SureNarrows: the statement. -/
import Derived.Test.YtoaacllpegfcjaaGreatMNarrow
import Derived.Test.YtoaacllpegfcjaaGreatMLin
import Derived.Test.YtoaacllpegfcjaaGreatMLaw
import Derived.ProofKit
import Derived.JoinedCond
set_option linter.unusedSimpArgs false
set_option linter.unusedVariables false
namespace Go.Proofs.YtoaacllpegfcjaaGreat
open Go.RowKit
attribute [local go_sem] Oper.semAt_some

set_option maxRecDepth 100000 in
set_option maxHeartbeats 4000000 in
theorem sureNarrows_any (c : Cs) (hf : c.Fit) (pa : Option Addr) (pc : Nat) (_ : c.parts.length ≤ pc) (x : Int) (_ : (Lit.int .i64 x).wf = true) (y : Int) (_ : (Lit.int .i64 y).wf = true) (part : Int) (_ : (Lit.int .i64 part).wf = true) (low : Int) (_ : (Lit.int .i64 low).wf = true) (high : Int) (_ : (Lit.int .i64 high).wf = true) (id : Int) (_ : (Lit.int .i64 id).wf = true) (limit : Int) (_ : (Lit.int .i64 limit).wf = true) (w : World)
    (hp : PartsAt w pa c.parts) :
    Calls Tryz.prog 8 #[.agg #[.string c.ware, .int .i64 c.limit, .int .i64 c.by_, .slice pa c.parts.length pc], .int .i64 x, .int .i64 y, .int .i64 part, .int .i64 low, .int .i64 high, .int .i64 id, .int .i64 limit] w fun e w' => e = .returned (.bool true) ∧ Below w.heap.size w w' := by
  obtain ⟨w1, hw1, hB1, b1⟩ := box_case w c pa pc
  have e1 : ∀ i, w1.cell? ⟨w.heap.size, i, none⟩ = (#[.string c.ware, .int .i64 c.limit, .int .i64 c.by_, .slice pa c.parts.length pc] : Array Value)[i]? := b1.cell
  have HFW := Lib.hid (few_any c hf pa pc w1 (hp.below hB1))
  have HP := Lib.hid hp
  have HW := Lib.hid hw1
  have HB1 := Lib.hid hB1
  have HX := Lib.hid b1
  have HAL := Lib.hid alive_any
  clear hw1 hB1 b1 hp
  rcases hfb : fewB c with _ | _
  · rw [hfb] at HFW
    go_enter Tryz.func8, Tryz.ntmps8
    go_upto_region 1 with fail
    simp only [HW.out]
    go_wp2_with fail
    (with_reducible refine HFW.out.mono ?_)
    rintro e w2 ⟨rfl, hb2⟩
    have HB2 := Lib.hid (HB1.out.trans (hb2.mono HB1.out.size))
    have HX2 := Lib.hid (HX.out.below' hb2)
    clear hb2 e1
    go_wp2_with fail
    (with_reducible refine (HAL.out _).mono ?_)
    rintro e w3 ⟨rfl, hb3⟩
    have HB3 := Lib.hid (HB2.out.trans (hb3.mono HB2.out.size))
    clear hb3
    go_wp2_with fail
    go_ret
    exact ⟨rfl, HB3.out⟩
  rw [hfb] at HFW
  have hsm := few_small hfb
  have han := fun W h => (answerTop_any c hsm pa pc x y W h).mono (fun (e : Ending) (w' : World) ⟨h1, h2⟩ => (⟨h2, h1⟩ : e = Ending.returned (.tuple #[.int .u8 (if askErr c [x, y] = 0 then ansAt c x.toNat y.toNat else 0), .int .i64 (askErr c [x, y])]) ∧ Below W.heap.size W w'))
  by_cases hz : askErr c [x, y] = 0
  · have h0 := (ask_open0 hz).1
    obtain ⟨a, rfl⟩ := Int.eq_ofNat_of_zero_le (open_in h0 x (by simp)).1
    obtain ⟨b, rfl⟩ := Int.eq_ofNat_of_zero_le (open_in h0 y (by simp)).1
    simp only [Int.toNat_natCast, if_pos hz] at han
    simp only [hz] at han
    have hna := fun W h => (narrow_any c hsm pa pc part low high id W h).mono (fun _ _ => case_dform)
    have l1 := narrow_law (x := part) (low := low) (high := high) (id := id) hz
    have hds := dOf_small (er := narrowErr c part low high id) (narrowC_small hsm part.toNat low high id)
    generalize dOf (narrowErr c part low high id) (narrowC c part.toNat low high id) = d1 at *
    generalize narrowErr c part low high id = er1 at *
    have han1 := fun W pd pcd h => (answerTop_any d1 hds pd pcd a b W h).mono (fun (e : Ending) (w' : World) ⟨h1, h2⟩ => (⟨h2, h1⟩ : e = Ending.returned (.tuple #[.int .u8 (if askErr d1 [(a : Int), (b : Int)] = 0 then ansAt d1 (a : Int).toNat (b : Int).toNat else 0), .int .i64 (askErr d1 [(a : Int), (b : Int)])]) ∧ Below W.heap.size W w'))
    simp only [Int.toNat_natCast] at han1
    have hal := fun W h => (answerTop_any { c with limit := limit } ⟨hsm.1, hsm.2.1, hsm.2.2⟩ pa pc a b W h).mono (fun (e : Ending) (w' : World) ⟨h1, h2⟩ => (⟨h2, h1⟩ : e = Ending.returned (.tuple #[.int .u8 (if askErr { c with limit := limit } [(a : Int), (b : Int)] = 0 then ansAt { c with limit := limit } (a : Int).toNat (b : Int).toNat else 0), .int .i64 (askErr { c with limit := limit } [(a : Int), (b : Int)])]) ∧ Below W.heap.size W w'))
    have l2 := fun h : lesserB c limit = true => lesser_law (a := a) (b := b) h hz
    obtain ⟨vl, hvl⟩ : ∃ v, (if askErr { c with limit := limit } [(a : Int), (b : Int)] = 0 then ansAt { c with limit := limit } a b else 0) = v := ⟨_, rfl⟩
    have l2' : lesserB c limit = true → askErr { c with limit := limit } [(a : Int), (b : Int)] = 61 ∨ (askErr { c with limit := limit } [(a : Int), (b : Int)] = 0 ∧ (ansAt c a b = 3 ∨ vl = ansAt c a b)) := fun h => (l2 h).imp (fun h => h) fun h => ⟨h.1, by rw [← hvl, if_pos h.1]; exact h.2⟩
    clear l2
    simp only [Int.toNat_natCast, hvl] at hal
    generalize askErr { c with limit := limit } [(a : Int), (b : Int)] = el at *
    obtain ⟨v1, hv1⟩ : ∃ v, (if askErr d1 [(a : Int), (b : Int)] = 0 then ansAt d1 a b else 0) = v := ⟨_, rfl⟩
    have l1' : er1 ≠ 0 ∨ askErr d1 [(a : Int), (b : Int)] = 61 ∨ (askErr d1 [(a : Int), (b : Int)] = 0 ∧ (ansAt c a b = 3 ∨ v1 = ansAt c a b)) := l1.imp (fun h => h) fun h => h.imp (fun h => h) fun h => ⟨h.1, by rw [← hv1, if_pos h.1]; exact h.2⟩
    clear l1
    simp only [hv1] at han1
    generalize askErr d1 [(a : Int), (b : Int)] = e1' at *
    have hwo := fun W h => (withoutTop_any c hsm pa pc id W h).mono (fun _ _ => case_dform)
    have hds3 := dOf_small (er := woutErr c id) (woutC_small hsm (fun n => n == id))
    have l3 : woutErr c id ≠ 0 ∨ (woutErr c id = 0 ∧ askErr (dOf (woutErr c id) (woutC (fun n => n == id) c)) [(a : Int), (b : Int)] = 0 ∧ (ansAt c a b = 3 → ansAt (dOf (woutErr c id) (woutC (fun n => n == id) c)) a b = 3)) := by
      by_cases hid : id = 0
      · left; unfold woutErr; rw [if_pos (open_check h0), if_pos hid]; decide
      · have := without_law hid hz
        right
        rw [dOf, if_pos this.1]
        exact this
    generalize dOf (woutErr c id) (woutC (fun n => n == id) c) = d3 at *
    generalize woutErr c id = er3 at *
    have han3 := fun W pd pcd h => (answerTop_any d3 hds3 pd pcd a b W h).mono (fun (e : Ending) (w' : World) ⟨h1, h2⟩ => (⟨h2, h1⟩ : e = Ending.returned (.tuple #[.int .u8 (if askErr d3 [(a : Int), (b : Int)] = 0 then ansAt d3 (a : Int).toNat (b : Int).toNat else 0), .int .i64 (askErr d3 [(a : Int), (b : Int)])]) ∧ Below W.heap.size W w'))
    simp only [Int.toNat_natCast] at han3
    obtain ⟨v3, hv3⟩ : ∃ v, (if askErr d3 [(a : Int), (b : Int)] = 0 then ansAt d3 a b else 0) = v := ⟨_, rfl⟩
    have l3' : er3 ≠ 0 ∨ (er3 = 0 ∧ askErr d3 [(a : Int), (b : Int)] = 0 ∧ (ansAt c a b = 3 → v3 = 3)) := l3.imp (fun h => h) fun h => ⟨h.1, h.2.1, fun k => by rw [← hv3, if_pos h.2.1]; exact h.2.2 k⟩
    clear l3
    simp only [hv3] at han3
    generalize askErr d3 [(a : Int), (b : Int)] = e3' at *
    clear hvl hv1 hv3 hds3
    generalize ansAt c a b = xa at *
    have HAN := Lib.hid han
    have HNA := Lib.hid hna
    have HA1 := Lib.hid han1
    have HAL1 := Lib.hid hal
    have HWO := Lib.hid hwo
    have HA3 := Lib.hid han3
    have HL1 := Lib.hid l1'
    have HL2 := Lib.hid l2'
    have HL3 := Lib.hid l3'
    clear han hna han1 hal hwo han3 l1' l2' l3' hds hz h0 hf hsm
    go_enter Tryz.func8, Tryz.ntmps8
    go_upto_region 1 with fail
    simp only [HW.out]
    go_wp2_with fail
    (with_reducible refine HFW.out.mono ?_)
    rintro e w2 ⟨rfl, hb2⟩
    have HB2 := Lib.hid (HB1.out.trans (hb2.mono HB1.out.size))
    have HX2 := Lib.hid (HX.out.below' hb2)
    clear hb2 e1
    have e1 : ∀ i, w2.cell? ⟨w.heap.size, i, none⟩ = (#[.string c.ware, .int .i64 c.limit, .int .i64 c.by_, .slice pa c.parts.length pc] : Array Value)[i]? := HX2.out.cell
    go_wp2_with fail
    (with_reducible refine (HAN.out _ (HP.out.below HB2.out)).mono ?_)
    rintro e w2 ⟨rfl, hbn⟩
    have HX2 := Lib.hid (HX2.out.below' hbn)
    have HB2 := Lib.hid (HB2.out.trans (hbn.mono HB2.out.size))
    clear hbn
    try clear e1
    have e1 : ∀ i, w2.cell? ⟨w.heap.size, i, none⟩ = (#[.string c.ware, .int .i64 c.limit, .int .i64 c.by_, .slice pa c.parts.length pc] : Array Value)[i]? := HX2.out.cell
    go_wp2_with fail
    (with_reducible refine (HNA.out _ (HP.out.below HB2.out)).mono ?_)
    rintro e w2 ⟨pd, pcd, rfl, hpd, -, hbn⟩
    have HPD := Lib.hid hpd
    clear hpd
    have HX2 := Lib.hid (HX2.out.below' hbn)
    have HB2 := Lib.hid (HB2.out.trans (hbn.mono HB2.out.size))
    clear hbn
    try clear e1
    go_upto_region 7 with fail
    have gn : Box (w2.alloc (.cells #[.string d1.ware, .int .i64 d1.limit, .int .i64 d1.by_, .slice pd d1.parts.length pcd] 24)) w2.heap.size #[.string d1.ware, .int .i64 d1.limit, .int .i64 d1.by_, .slice pd d1.parts.length pcd] 24 := Box.new _ _ _
    have hbn : Below w2.heap.size w2 (w2.alloc (.cells #[.string d1.ware, .int .i64 d1.limit, .int .i64 d1.by_, .slice pd d1.parts.length pcd] 24)) := by go_grown
    have hgx : w.heap.size < w2.heap.size := HX2.out.lt
    have HGX := Lib.hid hgx
    have HPD := Lib.hid (HPD.out.below hbn)
    have HX2 := Lib.hid (HX2.out.below' hbn)
    have HB2 := Lib.hid (HB2.out.trans (hbn.mono HB2.out.size))
    have HG := Lib.hid gn
    clear gn hbn hgx
    try clear e1
    generalize w2.heap.size = g at *
    generalize (w2.alloc (.cells #[.string d1.ware, .int .i64 d1.limit, .int .i64 d1.by_, .slice pd d1.parts.length pcd] 24)) = w2 at *
    have g1 : ∀ i, w2.cell? ⟨g, i, none⟩ = (#[.string d1.ware, .int .i64 d1.limit, .int .i64 d1.by_, .slice pd d1.parts.length pcd] : Array Value)[i]? := HG.out.cell
    go_wp2_with fail
    (with_reducible refine (HA1.out _ _ _ HPD.out).mono ?_)
    rintro e w2 ⟨rfl, hbn⟩
    have HG := Lib.hid (HG.out.below' hbn)
    have HX2 := Lib.hid (HX2.out.below' hbn)
    have HB2 := Lib.hid (HB2.out.trans (hbn.mono HB2.out.size))
    clear hbn
    try clear e1
    try clear g1
    try clear g2
    go_upto_region 8 with fail
    go_cut [71] (fun s71 wx => s71 = .bool false ∧ w2 = wx)
    case first =>
      by_cases hz1 : er1 = 0
      · have h1 := HL1.out.resolve_left (fun k => k hz1)
        subst hz1
        rcases h1 with h | ⟨h, h' | h'⟩
        · subst h
          go_wp2_with fail
          go_meet
          exact ⟨rfl, rfl⟩
        · subst h
          subst h'
          go_wp2_with fail
          go_meet
          exact ⟨rfl, rfl⟩
        · subst h
          have h' := h'.symm
          subst h'
          by_cases hx3 : xa = 3
          · subst hx3
            go_wp2_with fail
            go_meet
            exact ⟨rfl, rfl⟩
          · have hx3' : (xa != 3) = true := by simpa using hx3
            have hxx : (xa != xa) = false := by simp
            clear hx3
            go_wp2_with fail
            go_meet
            exact ⟨rfl, rfl⟩
      · have hn : (er1 == 0) = false := by simpa using hz1
        clear hz1
        go_wp2_with fail
        go_meet
        exact ⟨rfl, rfl⟩
    case rest =>
      obtain ⟨rfl, rfl⟩ := hcut
      have e1 : ∀ i, w2.cell? ⟨w.heap.size, i, none⟩ = (#[.string c.ware, .int .i64 c.limit, .int .i64 c.by_, .slice pa c.parts.length pc] : Array Value)[i]? := HX2.out.cell
      go_upto_region 10 with fail
      go_cut [88] (fun s88 wx => s88 = .bool (lesserB c limit) ∧ w2 = wx)
      case first =>
        by_cases h1 : 0 < limit
        · by_cases h2 : limit ≤ 40
          · by_cases hl0 : c.limit = 0
            · have HLB := Lib.hid (show lesserB c limit = true by simp [lesserB, hl0, h1, h2])
              have hz0 : (c.limit == 0) = true := by simp [hl0]
              clear hl0
              go_wp2_with fail
              go_meet
              exact ⟨by rw [HLB.out], rfl⟩
            · have hz0 : (c.limit == 0) = false := by simp [hl0]
              by_cases hvl : limit < c.limit
              · have HLB := Lib.hid (show lesserB c limit = true by simp [lesserB, hl0, h1, h2, hvl])
                clear hl0
                go_wp2_with fail
                go_meet
                exact ⟨by rw [HLB.out], rfl⟩
              · have HLB := Lib.hid (show lesserB c limit = false by simp [lesserB, hl0, h1, h2, hvl])
                clear hl0
                go_wp2_with fail
                go_meet
                exact ⟨by rw [HLB.out], rfl⟩
          · have HLB := Lib.hid (show lesserB c limit = false by simp [lesserB, h2])
            go_wp2_with fail
            go_meet
            exact ⟨by rw [HLB.out], rfl⟩
        · have HLB := Lib.hid (show lesserB c limit = false by simp [lesserB, h1])
          go_wp2_with fail
          go_meet
          exact ⟨by rw [HLB.out], rfl⟩
      case rest =>
        obtain ⟨rfl, rfl⟩ := hcut
        have HL2 := Lib.hid HL2.out
        generalize lesserB c limit = lb at *
        cases lb
        · have e1 : ∀ i, w2.cell? ⟨w.heap.size, i, none⟩ = (#[.string c.ware, .int .i64 c.limit, .int .i64 c.by_, .slice pa c.parts.length pc] : Array Value)[i]? := HX2.out.cell
          obtain ⟨g1, g2⟩ := HG.out.rules
          have HGL := Lib.hid HG.out.lt
          go_wp2_with fail
          (with_reducible refine (HWO.out _ (HP.out.below HB2.out)).mono ?_)
          rintro e w2 ⟨pe, pce, rfl, -, hst, hbn⟩
          have HST := Lib.hid (fun v0 v1 v2 v3 => hst g v0 v1 v2 v3 HGL.out)
          clear hst
          have HG := Lib.hid (HG.out.below' hbn)
          have HX2 := Lib.hid (HX2.out.below' hbn)
          have HB2 := Lib.hid (HB2.out.trans (hbn.mono HB2.out.size))
          clear hbn
          try clear e1
          try clear g1
          try clear g2
          obtain ⟨g1, g2⟩ := HG.out.rules
          go_upto_region 17 with fail
          have hgx := HGX.out
          have hpd := HST.out (.string d3.ware) (.int .i64 d3.limit) (.int .i64 d3.by_) (.slice pe d3.parts.length pce)
          have gn : Box ((((w2.setCell ⟨g, 0, none⟩ (.string d3.ware)).setCell ⟨g, 1, none⟩ (.int .i64 d3.limit)).setCell ⟨g, 2, none⟩ (.int .i64 d3.by_)).setCell ⟨g, 3, none⟩ (.slice pe d3.parts.length pce)) g #[.string d3.ware, .int .i64 d3.limit, .int .i64 d3.by_, .slice pe d3.parts.length pce] 24 := by
            have := (((HG.out.set_ 0 (.string d3.ware)).set_ 1 (.int .i64 d3.limit)).set_ 2 (.int .i64 d3.by_)).set_ 3 (.slice pe d3.parts.length pce)
            simpa using this
          have hbw : Below w.heap.size w ((((w2.setCell ⟨g, 0, none⟩ (.string d3.ware)).setCell ⟨g, 1, none⟩ (.int .i64 d3.limit)).setCell ⟨g, 2, none⟩ (.int .i64 d3.by_)).setCell ⟨g, 3, none⟩ (.slice pe d3.parts.length pce)) :=
            (((HB2.out.setCell (by simp; omega) _).setCell (by simp; omega) _).setCell (by simp; omega) _).setCell (by simp; omega) _
          have hxn := ((((HX2.out.far (p := ⟨g, 0, none⟩) (by simp; omega) (.string d3.ware)).far (p := ⟨g, 1, none⟩) (by simp; omega) (.int .i64 d3.limit)).far (p := ⟨g, 2, none⟩) (by simp; omega) (.int .i64 d3.by_)).far (p := ⟨g, 3, none⟩) (by simp; omega) (.slice pe d3.parts.length pce))
          clear HG HB2 HX2 g1 g2 hgx HST HPD
          try clear e1
          generalize ((((w2.setCell ⟨g, 0, none⟩ (.string d3.ware)).setCell ⟨g, 1, none⟩ (.int .i64 d3.limit)).setCell ⟨g, 2, none⟩ (.int .i64 d3.by_)).setCell ⟨g, 3, none⟩ (.slice pe d3.parts.length pce)) = w2 at *
          have HG := Lib.hid gn
          have HB2 := Lib.hid hbw
          have HX2 := Lib.hid hxn
          have HPD := Lib.hid hpd
          clear gn hbw hxn hpd
          rcases HL3.out with h | ⟨h, h3, h'⟩
          · have hn : (er3 != 0) = true := by simpa using h
            clear h
            go_wp2_with fail
            (with_reducible refine (HAL.out _).mono ?_)
            rintro e w3 ⟨rfl, hb3⟩
            have HB3 := Lib.hid (HB2.out.trans (hb3.mono HB2.out.size))
            clear hb3
            go_wp2_with fail
            go_ret
            exact ⟨rfl, HB3.out⟩
          subst h
          subst h3
          have HL4 := Lib.hid h'
          clear h'
          obtain ⟨g1, g2⟩ := HG.out.rules
          go_wp2_with fail
          (with_reducible refine (HA3.out _ _ _ HPD.out).mono ?_)
          rintro e w2 ⟨rfl, hbn⟩
          have HG := Lib.hid (HG.out.below' hbn)
          have HX2 := Lib.hid (HX2.out.below' hbn)
          have HB2 := Lib.hid (HB2.out.trans (hbn.mono HB2.out.size))
          clear hbn
          try clear e1
          try clear g1
          try clear g2
          go_wp2_with fail
          (with_reducible refine (HAL.out _).mono ?_)
          rintro e w2 ⟨rfl, hbn⟩
          have HG := Lib.hid (HG.out.below' hbn)
          have HX2 := Lib.hid (HX2.out.below' hbn)
          have HB2 := Lib.hid (HB2.out.trans (hbn.mono HB2.out.size))
          clear hbn
          try clear e1
          try clear g1
          try clear g2
          by_cases hx3 : xa = 3
          · have h4 := HL4.out hx3
            subst hx3
            subst h4
            go_wp2_with fail
            go_ret
            exact ⟨rfl, HB2.out⟩
          · have hx3' : (xa != 3) = true := by simpa using hx3
            clear hx3
            go_wp2_with fail
            go_ret
            exact ⟨rfl, HB2.out⟩
        · have l2 := HL2.out rfl
          have HM2 := Lib.hid l2
          clear l2 HL2
          have e1 : ∀ i, w2.cell? ⟨w.heap.size, i, none⟩ = (#[.string c.ware, .int .i64 c.limit, .int .i64 c.by_, .slice pa c.parts.length pc] : Array Value)[i]? := HX2.out.cell
          obtain ⟨g1, g2⟩ := HG.out.rules
          go_upto_region 13 with fail
          have hgx := HGX.out
          have gn : Box (((((w2.setCell ⟨g, 0, none⟩ (.string c.ware)).setCell ⟨g, 1, none⟩ (.int .i64 c.limit)).setCell ⟨g, 2, none⟩ (.int .i64 c.by_)).setCell ⟨g, 3, none⟩ (.slice pa c.parts.length pc)).setCell ⟨g, 1, none⟩ (.int .i64 limit)) g #[.string c.ware, .int .i64 limit, .int .i64 c.by_, .slice pa c.parts.length pc] 24 := by
            have := ((((HG.out.set_ 0 (.string c.ware)).set_ 1 (.int .i64 c.limit)).set_ 2 (.int .i64 c.by_)).set_ 3 (.slice pa c.parts.length pc)).set_ 1 (.int .i64 limit)
            simpa using this
          have hbw : Below w.heap.size w (((((w2.setCell ⟨g, 0, none⟩ (.string c.ware)).setCell ⟨g, 1, none⟩ (.int .i64 c.limit)).setCell ⟨g, 2, none⟩ (.int .i64 c.by_)).setCell ⟨g, 3, none⟩ (.slice pa c.parts.length pc)).setCell ⟨g, 1, none⟩ (.int .i64 limit)) :=
            ((((HB2.out.setCell (by simp; omega) _).setCell (by simp; omega) _).setCell (by simp; omega) _).setCell (by simp; omega) _).setCell (by simp; omega) _
          have hxn := (((((HX2.out.far (p := ⟨g, 0, none⟩) (by simp; omega) (.string c.ware)).far (p := ⟨g, 1, none⟩) (by simp; omega) (.int .i64 c.limit)).far (p := ⟨g, 2, none⟩) (by simp; omega) (.int .i64 c.by_)).far (p := ⟨g, 3, none⟩) (by simp; omega) (.slice pa c.parts.length pc)).far (p := ⟨g, 1, none⟩) (by simp; omega) (.int .i64 limit))
          clear HG HB2 HX2 g1 g2 hgx HPD
          try clear e1
          generalize (((((w2.setCell ⟨g, 0, none⟩ (.string c.ware)).setCell ⟨g, 1, none⟩ (.int .i64 c.limit)).setCell ⟨g, 2, none⟩ (.int .i64 c.by_)).setCell ⟨g, 3, none⟩ (.slice pa c.parts.length pc)).setCell ⟨g, 1, none⟩ (.int .i64 limit)) = w2 at *
          have HG := Lib.hid gn
          have HB2 := Lib.hid hbw
          have HX2 := Lib.hid hxn
          clear gn hbw hxn
          have HPD := Lib.hid (HP.out.below HB2.out)
          obtain ⟨g1, g2⟩ := HG.out.rules
          go_wp2_with fail
          (with_reducible refine (HAL1.out _ HPD.out).mono ?_)
          rintro e w2 ⟨rfl, hbn⟩
          have HG := Lib.hid (HG.out.below' hbn)
          have HX2 := Lib.hid (HX2.out.below' hbn)
          have HB2 := Lib.hid (HB2.out.trans (hbn.mono HB2.out.size))
          clear hbn
          try clear e1
          try clear g1
          try clear g2
          go_upto_region 14 with fail
          go_cut [113] (fun s113 wx => s113 = .bool false ∧ w2 = wx)
          case first =>
            rcases HM2.out with h | ⟨h, h' | h'⟩
            · subst h
              go_wp2_with fail
              go_meet
              exact ⟨rfl, rfl⟩
            · subst h
              subst h'
              go_wp2_with fail
              go_meet
              exact ⟨rfl, rfl⟩
            · subst h
              have h' := h'.symm
              subst h'
              by_cases hx3 : xa = 3
              · subst hx3
                go_wp2_with fail
                go_meet
                exact ⟨rfl, rfl⟩
              · have hx3' : (xa != 3) = true := by simpa using hx3
                have hxx : (xa != xa) = false := by simp
                clear hx3
                go_wp2_with fail
                go_meet
                exact ⟨rfl, rfl⟩
          case rest =>
            obtain ⟨rfl, rfl⟩ := hcut
            have e1 : ∀ i, w2.cell? ⟨w.heap.size, i, none⟩ = (#[.string c.ware, .int .i64 c.limit, .int .i64 c.by_, .slice pa c.parts.length pc] : Array Value)[i]? := HX2.out.cell
            obtain ⟨g1, g2⟩ := HG.out.rules
            have HGL := Lib.hid HG.out.lt
            go_wp2_with fail
            (with_reducible refine (HWO.out _ (HP.out.below HB2.out)).mono ?_)
            rintro e w2 ⟨pe, pce, rfl, -, hst, hbn⟩
            have HST := Lib.hid (fun v0 v1 v2 v3 => hst g v0 v1 v2 v3 HGL.out)
            clear hst
            have HG := Lib.hid (HG.out.below' hbn)
            have HX2 := Lib.hid (HX2.out.below' hbn)
            have HB2 := Lib.hid (HB2.out.trans (hbn.mono HB2.out.size))
            clear hbn
            try clear e1
            try clear g1
            try clear g2
            obtain ⟨g1, g2⟩ := HG.out.rules
            go_upto_region 17 with fail
            have hgx := HGX.out
            have hpd := HST.out (.string d3.ware) (.int .i64 d3.limit) (.int .i64 d3.by_) (.slice pe d3.parts.length pce)
            have gn : Box ((((w2.setCell ⟨g, 0, none⟩ (.string d3.ware)).setCell ⟨g, 1, none⟩ (.int .i64 d3.limit)).setCell ⟨g, 2, none⟩ (.int .i64 d3.by_)).setCell ⟨g, 3, none⟩ (.slice pe d3.parts.length pce)) g #[.string d3.ware, .int .i64 d3.limit, .int .i64 d3.by_, .slice pe d3.parts.length pce] 24 := by
              have := (((HG.out.set_ 0 (.string d3.ware)).set_ 1 (.int .i64 d3.limit)).set_ 2 (.int .i64 d3.by_)).set_ 3 (.slice pe d3.parts.length pce)
              simpa using this
            have hbw : Below w.heap.size w ((((w2.setCell ⟨g, 0, none⟩ (.string d3.ware)).setCell ⟨g, 1, none⟩ (.int .i64 d3.limit)).setCell ⟨g, 2, none⟩ (.int .i64 d3.by_)).setCell ⟨g, 3, none⟩ (.slice pe d3.parts.length pce)) :=
              (((HB2.out.setCell (by simp; omega) _).setCell (by simp; omega) _).setCell (by simp; omega) _).setCell (by simp; omega) _
            have hxn := ((((HX2.out.far (p := ⟨g, 0, none⟩) (by simp; omega) (.string d3.ware)).far (p := ⟨g, 1, none⟩) (by simp; omega) (.int .i64 d3.limit)).far (p := ⟨g, 2, none⟩) (by simp; omega) (.int .i64 d3.by_)).far (p := ⟨g, 3, none⟩) (by simp; omega) (.slice pe d3.parts.length pce))
            clear HG HB2 HX2 g1 g2 hgx HST HPD
            try clear e1
            generalize ((((w2.setCell ⟨g, 0, none⟩ (.string d3.ware)).setCell ⟨g, 1, none⟩ (.int .i64 d3.limit)).setCell ⟨g, 2, none⟩ (.int .i64 d3.by_)).setCell ⟨g, 3, none⟩ (.slice pe d3.parts.length pce)) = w2 at *
            have HG := Lib.hid gn
            have HB2 := Lib.hid hbw
            have HX2 := Lib.hid hxn
            have HPD := Lib.hid hpd
            clear gn hbw hxn hpd
            rcases HL3.out with h | ⟨h, h3, h'⟩
            · have hn : (er3 != 0) = true := by simpa using h
              clear h
              go_wp2_with fail
              (with_reducible refine (HAL.out _).mono ?_)
              rintro e w3 ⟨rfl, hb3⟩
              have HB3 := Lib.hid (HB2.out.trans (hb3.mono HB2.out.size))
              clear hb3
              go_wp2_with fail
              go_ret
              exact ⟨rfl, HB3.out⟩
            subst h
            subst h3
            have HL4 := Lib.hid h'
            clear h'
            obtain ⟨g1, g2⟩ := HG.out.rules
            go_wp2_with fail
            (with_reducible refine (HA3.out _ _ _ HPD.out).mono ?_)
            rintro e w2 ⟨rfl, hbn⟩
            have HG := Lib.hid (HG.out.below' hbn)
            have HX2 := Lib.hid (HX2.out.below' hbn)
            have HB2 := Lib.hid (HB2.out.trans (hbn.mono HB2.out.size))
            clear hbn
            try clear e1
            try clear g1
            try clear g2
            go_wp2_with fail
            (with_reducible refine (HAL.out _).mono ?_)
            rintro e w2 ⟨rfl, hbn⟩
            have HG := Lib.hid (HG.out.below' hbn)
            have HX2 := Lib.hid (HX2.out.below' hbn)
            have HB2 := Lib.hid (HB2.out.trans (hbn.mono HB2.out.size))
            clear hbn
            try clear e1
            try clear g1
            try clear g2
            by_cases hx3 : xa = 3
            · have h4 := HL4.out hx3
              subst hx3
              subst h4
              go_wp2_with fail
              go_ret
              exact ⟨rfl, HB2.out⟩
            · have hx3' : (xa != 3) = true := by simpa using hx3
              clear hx3
              go_wp2_with fail
              go_ret
              exact ⟨rfl, HB2.out⟩
  · have hzz : (askErr c [x, y] != 0) = true := by simpa using hz
    rw [if_neg hz] at han
    have HAN := Lib.hid han
    clear han hz hsm
    generalize askErr c [x, y] = er at *
    go_enter Tryz.func8, Tryz.ntmps8
    go_upto_region 1 with fail
    simp only [HW.out]
    go_wp2_with fail
    (with_reducible refine HFW.out.mono ?_)
    rintro e w2 ⟨rfl, hb2⟩
    have HB2 := Lib.hid (HB1.out.trans (hb2.mono HB1.out.size))
    have HX2 := Lib.hid (HX.out.below' hb2)
    clear hb2 e1
    have e1 : ∀ i, w2.cell? ⟨w.heap.size, i, none⟩ = (#[.string c.ware, .int .i64 c.limit, .int .i64 c.by_, .slice pa c.parts.length pc] : Array Value)[i]? := HX2.out.cell
    go_wp2_with fail
    (with_reducible refine (HAN.out _ (HP.out.below HB2.out)).mono ?_)
    rintro e w2 ⟨rfl, hbn⟩
    have HX2 := Lib.hid (HX2.out.below' hbn)
    have HB2 := Lib.hid (HB2.out.trans (hbn.mono HB2.out.size))
    clear hbn
    try clear e1
    go_wp2_with fail
    (with_reducible refine (HAL.out _).mono ?_)
    rintro e w3 ⟨rfl, hb3⟩
    have HB3 := Lib.hid (HB2.out.trans (hb3.mono HB2.out.size))
    clear hb3
    go_wp2_with fail
    go_ret
    exact ⟨rfl, HB3.out⟩
end Go.Proofs.YtoaacllpegfcjaaGreat
namespace Go.Proofs.YtoaacllpegfcjaaGreat.SureNarrowsEnd
open Go.ChangeShapes Go.WideShapes Go.ChangeAt Go.RowKit

theorem own : ownKnob Tryz.prog.godebug = none := by kernel_rfl

set_option maxRecDepth 100000 in
theorem lifted (os : Os) (started : os.Started) (H : Type) (enc : TypeId × Value → H) :
    ReturnsInHanded {} Tryz.checked os 8 .any (Rows.sureNarrowsSpec.pre6 enc Tryz.prog Tryz.f8 Rows.sureNarrowsRow.domain false) (Rows.sureNarrowsSpec.post enc Tryz.prog Tryz.f8 false true false false) := by
  refine returnsInHanded_of_change (C := Tryz.checked) own started (by kernel_rfl) Tryz.func8
    (ChangeSpec.witness6 (enc := enc) (C := Tryz.checked) false ⟨#[], #[.agg #[.string ⟨#[]⟩, .int .i64 0, .int .i64 0, .slice none 0 0], .int .i64 0, .int .i64 0, .int .i64 0, .int .i64 0, .int .i64 0, .int .i64 0, .int .i64 0], []⟩ 8 (by kernel_rfl) (by kernel_rfl) (by kernel_rfl) (by kernel_rfl)) ?_
  intro W base args ds gs before hval0 hW hcnd _
  have hval : ∀ (j : Nat) t v, Tryz.f8.params[j]? = some t → args[j]? = some v → Value.okWide Tryz.prog W .any base t v := hval0
  have hW' := hW
  obtain ⟨p, q, hA0, hV, rfl, hfz, hnd⟩ := hW
  have hA : DataW.TrodAll enc Tryz.prog W 0 (fun _ => true) true Tryz.f8.params.toList args.toList ds p := hA0
  rw [Tryz.params8] at hA hval
  obtain ⟨v0, vs0, d0, ds0, p0, q0, hargs, rfl, rfl, h0, r0⟩ := trodAll_cons hA
  obtain ⟨v1, vs1, d1, ds1, p1, q1, rfl, rfl, rfl, h1, r1⟩ := trodAll_cons r0
  obtain ⟨v2, vs2, d2, ds2, p2, q2, rfl, rfl, rfl, h2, r2⟩ := trodAll_cons r1
  obtain ⟨v3, vs3, d3, ds3, p3, q3, rfl, rfl, rfl, h3, r3⟩ := trodAll_cons r2
  obtain ⟨v4, vs4, d4, ds4, p4, q4, rfl, rfl, rfl, h4, r4⟩ := trodAll_cons r3
  obtain ⟨v5, vs5, d5, ds5, p5, q5, rfl, rfl, rfl, h5, r5⟩ := trodAll_cons r4
  obtain ⟨v6, vs6, d6, ds6, p6, q6, rfl, rfl, rfl, h6, r6⟩ := trodAll_cons r5
  obtain ⟨v7, vs7, d7, ds7, p7, q7, rfl, rfl, rfl, h7, r7⟩ := trodAll_cons r6
  obtain ⟨rfl, rfl, rfl⟩ := trodAll_nil r7
  obtain rfl : args = #[v0, v1, v2, v3, v4, v5, v6, v7] := by cases args; simp_all
  obtain ⟨rfl, rfl⟩ := trodVars_none hV
  obtain ⟨c0, pa0, pc0, rfl, hp0, hpc0, hfit0, hlw0⟩ := case_of (hval 0 _ v0 rfl rfl) h0
  obtain ⟨a1, rfl, rfl, rfl, w1⟩ := open_int Tryz.underlying3 (hval 1 _ v1 rfl rfl) h1
  obtain ⟨a2, rfl, rfl, rfl, w2⟩ := open_int Tryz.underlying3 (hval 2 _ v2 rfl rfl) h2
  obtain ⟨a3, rfl, rfl, rfl, w3⟩ := open_int Tryz.underlying3 (hval 3 _ v3 rfl rfl) h3
  obtain ⟨a4, rfl, rfl, rfl, w4⟩ := open_int Tryz.underlying3 (hval 4 _ v4 rfl rfl) h4
  obtain ⟨a5, rfl, rfl, rfl, w5⟩ := open_int Tryz.underlying3 (hval 5 _ v5 rfl rfl) h5
  obtain ⟨a6, rfl, rfl, rfl, w6⟩ := open_int Tryz.underlying3 (hval 6 _ v6 rfl rfl) h6
  obtain ⟨a7, rfl, rfl, rfl, w7⟩ := open_int Tryz.underlying3 (hval 7 _ v7 rfl rfl) h7
  clear hA0 hval0
  refine (sureNarrows_any c0 hfit0 pa0 pc0 hpc0 a1 w1 a2 w2 a3 w3 a4 w4 a5 w5 a6 w6 a7 w7 W hp0).mono fun e W' ⟨he, hb⟩ => ?_
  subst he
  exact ⟨_, rfl, law_post rfl rfl (of_decide_eq_true (by kernel_rfl)) hW' rfl rfl rfl hb⟩

theorem over : Rows.sureNarrowsRow.holds Tryz.pinned (OpenSpec.ofChange Rows.sureNarrowsSpec) :=
  OpenClaim.holds_of_wide 8 Tryz.f8 rfl rfl rfl rfl rfl rfl rfl ⟨rfl, rfl, rfl, rfl, rfl⟩ rfl rfl rfl rfl rfl (by kernel_rfl) Tryz.func8 (by kernel_rfl)
    (of_decide_eq_true (by kernel_rfl)) (by unfold Func.isWrapper; first | (rw [if_pos (by decide +kernel)]; kernel_rfl) | (rw [if_neg (by decide +kernel)]; exact ⟨rfl, rfl⟩))
    (fun os started H enc _ => lifted os started H enc)

theorem proved : Rows.SureNarrowsSaid :=
  over
#print axioms proved
end Go.Proofs.YtoaacllpegfcjaaGreat.SureNarrowsEnd
