/- The reference's Narrow. -/
import Derived.Test.YtpjcnkajimgagaaGreatMTopsR
import Derived.Test.YtpjcnkajimgagaaGreatMRefC
set_option linter.unusedSimpArgs false
set_option linter.unusedVariables false
namespace Go.Proofs.YtpjcnkajimgagaaGreat
open Go.RowKit
attribute [local go_sem] Oper.semAt_some

theorem modify_set {α : Type} {l : List α} {i : Nat} {x : α} {f : α → α} (h : l[i]? = some x) : l.modify i f = l.set i (f x) := by
 apply List.ext_getElem?
 intro k
 have hl := (List.getElem?_eq_some_iff.1 h).1
 rw [List.getElem?_modify, List.getElem?_set]
 by_cases hk : i = k
 ·subst hk
  have hx := (List.getElem?_eq_some_iff.1 h).2
  simp [hl, hx]
 ·simp [hk]
theorem open_two (c : Cs) (x : Int) : openErr c [x, x] = openErr c [x] := by
 unfold openErr; simp
set_option maxRecDepth 100000 in
set_option maxHeartbeats 4000000 in
theorem narrow_ref (c : Cs) (hsm : c.Small) (pa : Option Addr) (pc : Nat) (x low high id : Int) (w : World) (hp : PartsAt w pa c.parts) :
  Calls Tryz.prog 24 #[.agg #[.string c.ware, .int .i64 c.limit, .int .i64 c.by_, .slice pa c.parts.length pc], .int .i64 x, .int .i64 low, .int .i64 high, .int .i64 id] w (CTop (dOf (narrowErr c x low high id) (narrowC c x.toNat low high id)) (narrowErr c x low high id) w) := by
 obtain ⟨w1, hw1⟩ : ∃ w1, (w.alloc (.cells #[.string c.ware, .int .i64 c.limit, .int .i64 c.by_, .slice pa c.parts.length pc] 24)).alloc (.cells #[.string ⟨#[]⟩, .int .i64 0, .int .i64 0, .slice none 0 0] 24) = w1 := ⟨_, rfl⟩
 have hB1 : Below w.heap.size w w1 := by rw [← hw1]; go_grown
 have hz1 : w1.heap.size = w.heap.size + 2 := by rw [← hw1]; simp
 have g1 : Box w1 w.heap.size #[.string c.ware, .int .i64 c.limit, .int .i64 c.by_, .slice pa c.parts.length pc] 24 := by rw [← hw1]; exact (Box.new _ _ _).alloc _
 have g2 : Box w1 (w.heap.size + 1) #[.string ⟨#[]⟩, .int .i64 0, .int .i64 0, .slice none 0 0] 24 := by rw [← hw1]; exact Box.new' (by simp)
 have e1 := g1.cell
 have hak := asked_ref c hsm pa pc x x w1 (hp.below hB1)
 rw [open_two] at hak
 have HAK := Lib.hid hak
 have HW := Lib.hid hw1
 have HP := Lib.hid hp
 have HB1 := Lib.hid hB1
 have HG1 := Lib.hid g1
 have HG2 := Lib.hid g2
 have HZ1 := Lib.hid hz1
 clear hw1 hp hB1 g1 g2 hz1 hak
 by_cases hz : openErr c [x] = 0
 ·have hx := open_in hz x (by simp)
  obtain ⟨i, rfl⟩ := Int.eq_ofNat_of_zero_le hx.1
  have hil : i < c.parts.length := by omega
  simp only [Int.toNat_natCast]
  obtain ⟨p, hpi⟩ := get_of_lt c.parts hil
  have hen : narrowErr c i low high id = if narrowBad low high id then 1 else if (narrowP low high id p).span.high < (narrowP low high id p).span.low then 5 else 0 := by
   unfold narrowErr
   rw [if_pos hz, Int.toNat_natCast, hpi]
  have HEN := Lib.hid hen
  have HPI := Lib.hid hpi
  rw [hz] at HAK
  have HZ := Lib.hid hz
  clear hz hx hen hpi
  go_enter Tryz.func24, Tryz.ntmps24
  go_upto_region 1 with fail
  simp only [HW.out]
  go_upto_region 4 with (go_at_call 57; (with_reducible refine HAK.out.mono ?_); rintro e w3 ⟨rfl, hb3⟩)
  have HR3 := Lib.hid (HG2.out.below' hb3)
  have HG3 := Lib.hid (HG1.out.below' hb3)
  have HB3 := Lib.hid (HB1.out.trans (hb3.mono HB1.out.size))
  have hz3 : w.heap.size + 2 ≤ w3.heap.size := by have := hb3.size; have := HZ1.out; omega
  clear hb3 e1 HG1 HG2 HB1 HZ1 HAK
  go_cut [38] (fun s38 wx => s38 = .bool (narrowBad low high id) ∧ wx = w3)
  case first =>
   have HIN := Lib.hid (fun W => within_any id 1 1000000 W)
   by_cases h1 : low < 0
   ·have HE := Lib.hid (show narrowBad low high id = true by simp [narrowBad, h1])
    go_wp2_with fail
    go_meet
    exact ⟨by rw [HE.out], rfl⟩
   ·by_cases h2 : high < low
    ·have HE := Lib.hid (show narrowBad low high id = true by simp [narrowBad, h2])
     go_wp2_with fail
     go_meet
     exact ⟨by rw [HE.out], rfl⟩
    ·by_cases h3 : 1000 < high
     ·have HE := Lib.hid (show narrowBad low high id = true by simp [narrowBad, h3])
      go_wp2_with fail
      go_meet
      exact ⟨by rw [HE.out], rfl⟩
     ·have HE := Lib.hid (show narrowBad low high id = !inB id 1 1000000 by simp [narrowBad, h1, h2, h3])
      go_wp2_with (go_at_call 68; (with_reducible refine (HIN.out _).mono ?_); rintro e w4 ⟨rfl, rfl⟩)
      go_meet
      exact ⟨by rw [HE.out], rfl⟩
  case rest =>
   obtain ⟨rfl, rfl⟩ := hcut
   rcases hbad : narrowBad low high id with _ | _
   ·have hpw := HP.out.below HB3.out
    rw [hbad, if_neg (by simp)] at HEN
    have HCP := Lib.hid (copied_ref c hsm pa pc wc hpw)
    have e1 := HG3.out.cell
    clear hbad hpw
    go_upto_region 7 with (go_at_call 26; (with_reducible refine HCP.out.mono ?_); rintro e w4 ⟨a, cap, rfl, hcap, hv, hb4⟩)
    obtain ⟨zs, hzs, hzr⟩ := hv.toR
    have hB4 := HB3.out.trans (hb4.mono HB3.out.size)
    have hr4 := HR3.out.below' hb4
    have hz4 : w.heap.size + 2 ≤ w4.heap.size := by have := hb4.size; omega
    have g5 : Box (w4.alloc (.cells #[.string c.ware, .int .i64 c.limit, .int .i64 c.by_, .slice a c.parts.length cap] 24)) w4.heap.size #[.string c.ware, .int .i64 c.limit, .int .i64 c.by_, .slice a c.parts.length cap] 24 := Box.new _ _ _
    have hb5 : Below w4.heap.size w4 (w4.alloc (.cells #[.string c.ware, .int .i64 c.limit, .int .i64 c.by_, .slice a c.parts.length cap] 24)) := (Below.refl _ w4).alloc (Nat.le_refl _) _
    have hr5 := hzr.below hb5
    have hB5 := hB4.trans (hb5.mono hB4.size)
    have hq5 := hr4.below' hb5
    generalize w4.alloc (.cells #[.string c.ware, .int .i64 c.limit, .int .i64 c.by_, .slice a c.parts.length cap] 24) = w5 at *
    obtain ⟨D, hD⟩ : ∃ D, w4.heap.size = D := ⟨_, rfl⟩
    rw [hD] at g5 hz4
    simp only [hD]
    have hzl : zs.length = c.parts.length := by rw [← hzs, List.length_map]
    obtain ⟨z, hz⟩ := get_of_lt zs (k := i) (by omega)
    have hzp : z.1 = p := by
     have := HPI.out
     rw [← hzs, List.getElem?_map, hz] at this
     exact Option.some.inj this
    obtain ⟨g, ha, _, _, h1, h2, _⟩ := hr5 i z hz
    subst ha
    obtain ⟨zp, ⟨sa, sc⟩, ⟨ra, rc⟩⟩ := z
    dsimp only at hzp
    subst hzp
    have c0 : w5.cell? ⟨g, i * 8, none⟩ = some (.slice sa zp.sherds.length sc) := h1 0 _ rfl
    have c1 : w5.cell? ⟨g, i * 8 + 1, none⟩ = some (.int .i64 zp.span.low) := h1 1 _ rfl
    have c2 : w5.cell? ⟨g, i * 8 + 2, none⟩ = some (.int .i64 zp.span.high) := h1 2 _ rfl
    have c3 : w5.cell? ⟨g, i * 8 + 3, none⟩ = some (.int .i64 zp.span.lowBy) := h1 3 _ rfl
    have c4 : w5.cell? ⟨g, i * 8 + 4, none⟩ = some (.int .i64 zp.span.highBy) := h1 4 _ rfl
    have c5 : w5.cell? ⟨g, i * 8 + 5, none⟩ = some (.bool zp.foot) := h1 5 _ rfl
    have c6 : w5.cell? ⟨g, i * 8 + 6, none⟩ = some (.int .i64 zp.footBy) := h1 6 _ rfl
    have c7 : w5.cell? ⟨g, i * 8 + 7, none⟩ = some (.slice ra zp.rests.length rc) := h1 7 _ rfl
    have hin : (i : Int) < (c.parts.length : Int) := by omega
    have e5 := g5.cell
    have HZ5 := Lib.hid hz
    have HD := Lib.hid hD
    have HG5 := Lib.hid g5
    have HQ5 := Lib.hid hq5
    have HB5 := Lib.hid hB5
    have HR5 := Lib.hid hr5
    have HZS := Lib.hid hzs
    clear hr5 hzl h1 h2 hz hD hv hb4 hzr hB4 hr4 hb5 hB5 hq5 g5 hzs e1 HCP HR3 HG3
    go_upto_region 8 with fail
    have b6 : Box (w5.alloc (.cells #[.slice sa zp.sherds.length sc, .int .i64 zp.span.low, .int .i64 zp.span.high, .int .i64 zp.span.lowBy, .int .i64 zp.span.highBy, .bool zp.foot, .int .i64 zp.footBy, .slice ra zp.rests.length rc] 52)) w5.heap.size #[.slice sa zp.sherds.length sc, .int .i64 zp.span.low, .int .i64 zp.span.high, .int .i64 zp.span.lowBy, .int .i64 zp.span.highBy, .bool zp.foot, .int .i64 zp.footBy, .slice ra zp.rests.length rc] 52 := Box.new _ _ _
    have hb6 : Below w5.heap.size w5 (w5.alloc (.cells #[.slice sa zp.sherds.length sc, .int .i64 zp.span.low, .int .i64 zp.span.high, .int .i64 zp.span.lowBy, .int .i64 zp.span.highBy, .bool zp.foot, .int .i64 zp.footBy, .slice ra zp.rests.length rc] 52)) := (Below.refl _ w5).alloc (Nat.le_refl _) _
    generalize w5.alloc (.cells #[.slice sa zp.sherds.length sc, .int .i64 zp.span.low, .int .i64 zp.span.high, .int .i64 zp.span.lowBy, .int .i64 zp.span.highBy, .bool zp.foot, .int .i64 zp.footBy, .slice ra zp.rests.length rc] 52) = w6 at *
    obtain ⟨q, hq⟩ : ∃ q, w5.heap.size = q := ⟨_, rfl⟩
    rw [hq] at b6
    simp only [hq]
    have HQ6 := Lib.hid hq
    have HB6 := Lib.hid hb6
    have HX6 := Lib.hid b6
    have HQL := Lib.hid b6.lt
    obtain ⟨u1, u2⟩ := b6.rules
    clear c0 c1 c2 c3 c4 c5 c6 c7 e5 hb6 b6 hq
    obtain ⟨L, hL⟩ : ∃ L, (if zp.span.low < low then low else zp.span.low) = L := ⟨_, rfl⟩
    obtain ⟨LB, hLB⟩ : ∃ L, (if zp.span.low < low then id else zp.span.lowBy) = L := ⟨_, rfl⟩
    obtain ⟨H, hH⟩ : ∃ L, (if high < zp.span.high then high else zp.span.high) = L := ⟨_, rfl⟩
    obtain ⟨HBY, hHB⟩ : ∃ L, (if high < zp.span.high then id else zp.span.highBy) = L := ⟨_, rfl⟩
    have hnp : narrowP low high id zp = ⟨zp.sherds, ⟨L, H, LB, HBY⟩, zp.foot, zp.footBy, zp.rests⟩ := by rw [← hL, ← hLB, ← hH, ← hHB]; rfl
    rw [hnp] at HEN
    dsimp only at HEN
    have HNP := Lib.hid hnp
    have HL := Lib.hid (And.intro hL hLB)
    have HH := Lib.hid (And.intro hH hHB)
    clear hL hLB hH hHB hnp
    go_upto_if 51 with (fail)
    go_cut [11] (fun s11 wx => s11 = .int .i64 0 ∧ Box wx q #[.slice sa zp.sherds.length sc, .int .i64 L, .int .i64 zp.span.high, .int .i64 LB, .int .i64 zp.span.highBy, .bool zp.foot, .int .i64 zp.footBy, .slice ra zp.rests.length rc] 52 ∧ Keep (fun k => k < q) w6 wx)
    case first =>
     obtain ⟨h1, h2⟩ := HL.out
     by_cases hlo : zp.span.low < low
     ·rw [if_pos hlo] at h1 h2
      subst h1 h2
      go_wp2_with fail
      go_meet
      exact ⟨rfl, (HX6.out.set_ 1 (.int .i64 _)).set_ 3 (.int .i64 _), ((Keep.refl _ w6).setCell (.inl (by simp)) _).setCell (.inl (by simp)) _⟩
     ·rw [if_neg hlo] at h1 h2
      subst h1 h2
      go_wp2_with fail
      go_meet
      exact ⟨rfl, HX6.out, Keep.refl _ _⟩
    case rest =>
     obtain ⟨rfl, hx, hk⟩ := hcut
     have HX := Lib.hid hx
     have HK := Lib.hid hk
     clear u1 u2
     obtain ⟨u1, u2⟩ := hx.rules
     clear hx hk HX6 HL
     go_upto_if 62 with (fail)
     go_cut [11] (fun s11 wx => s11 = .int .i64 0 ∧ Box wx q #[.slice sa zp.sherds.length sc, .int .i64 L, .int .i64 H, .int .i64 LB, .int .i64 HBY, .bool zp.foot, .int .i64 zp.footBy, .slice ra zp.rests.length rc] 52 ∧ Keep (fun k => k < q) w6 wx)
     case first =>
      obtain ⟨h1, h2⟩ := HH.out
      by_cases hlo : high < zp.span.high
      ·rw [if_pos hlo] at h1 h2
       subst h1 h2
       go_wp2_with fail
       go_meet
       exact ⟨rfl, (HX.out.set_ 2 (.int .i64 _)).set_ 4 (.int .i64 _), (HK.out.setCell (.inl (by simp)) _).setCell (.inl (by simp)) _⟩
      ·rw [if_neg hlo] at h1 h2
       subst h1 h2
       go_wp2_with fail
       go_meet
       exact ⟨rfl, HX.out, HK.out⟩
     case rest =>
      obtain ⟨rfl, hx, hk⟩ := hcut
      clear u1 u2
      obtain ⟨u1, u2⟩ := hx.rules
      have hb7 := HB6.out.trans ((hk.below (Nat.le_of_lt HQL.out)).mono (by rw [HQ6.out]; exact Nat.le_refl _))
      have hB7 := HB5.out.trans (hb7.mono HB5.out.size)
      have hr7 := HR5.out.below hb7
      have hq7 := HQ5.out.below' hb7
      have hg7 := HG5.out.below' hb7
      by_cases h5 : H < L
      ·have HE := Lib.hid (show narrowErr c i low high id = 5 by rw [HEN.out, if_pos h5])
       have HR3 := Lib.hid hq7
       have HB3 := Lib.hid hB7
       obtain ⟨v1, v2⟩ := hq7.rules
       clear hx hk hb7 hr7 hq7 hg7 hB7
       go_wp2_with fail
       rw [HE.out]
       refine bodyPost_ret (results_cell_tmp rfl rfl (run_loadVar_row _ _ 24 24 _ (0, 0) _ ((((HR3.out.set_ 0 _).set_ 1 _).set_ 2 _).set_ 3 _) Tryz.underlying24 rfl case_size)) rfl ?_
       refine cTop_no ?_ ((((HB3.out.setCell (by simp) _).setCell (by simp) _).setCell (by simp) _).setCell (by simp) _)
       decide
      ·have HE := Lib.hid (show narrowErr c i low high id = 0 by rw [HEN.out, if_neg h5])
       obtain ⟨g', hg', hBg, hgM, _, hth, _⟩ := hr7 i _ HZ5.out
       cases hg'
       have hgD : g < D := by rw [← HD.out]; exact hgM
       have hgw : w.heap.size + 2 ≤ g := Nat.le_trans hz3 hBg
       have hnew := (hr7.set_ (p := ⟨zp.sherds, ⟨L, H, LB, HBY⟩, zp.foot, zp.footBy, zp.rests⟩) HZ5.out rfl rfl rfl).own
       have hS := run_store_part (p := ⟨zp.sherds, ⟨L, H, LB, HBY⟩, zp.foot, zp.footBy, zp.rests⟩) (sa := sa) (sc := sc) (ra := ra) (rc := rc) hth
       have hBn : Below w.heap.size w (wc.setCells g (i * 8) (prtRow (⟨zp.sherds, ⟨L, H, LB, HBY⟩, zp.foot, zp.footBy, zp.rests⟩, (sa, sc), (ra, rc)))) := below_setCells (by omega) _ _ hB7
       have hBx : Box (wc.setCells g (i * 8) (prtRow (⟨zp.sherds, ⟨L, H, LB, HBY⟩, zp.foot, zp.footBy, zp.rests⟩, (sa, sc), (ra, rc)))) D _ _ := box_setCells hg7 (by omega) _ _
       have hQn : Box (wc.setCells g (i * 8) (prtRow (⟨zp.sherds, ⟨L, H, LB, HBY⟩, zp.foot, zp.footBy, zp.rests⟩, (sa, sc), (ra, rc)))) (w.heap.size + 1) _ _ := box_setCells hq7 (by omega) _ _
       have hpl : ((zs.set i ((⟨zp.sherds, ⟨L, H, LB, HBY⟩, zp.foot, zp.footBy, zp.rests⟩ : Prt), (sa, sc), (ra, rc))).map (·.1)) = (narrowC c i low high id).parts := by
        rw [List.map_set, HZS.out]
        unfold narrowC
        dsimp only
        rw [modify_set HPI.out, HNP.out]
       rw [hpl] at hnew
       have hin2 : (i : Int) < (c.parts.length : Int) := by omega
       have e5 := hg7.cell
       generalize wc.setCells g (i * 8) (prtRow (⟨zp.sherds, ⟨L, H, LB, HBY⟩, zp.foot, zp.footBy, zp.rests⟩, (sa, sc), (ra, rc))) = w9 at *
       have HNEW := Lib.hid hnew
       have HBn := Lib.hid hBn
       have HQn := Lib.hid hQn
       obtain ⟨v1, v2⟩ := hQn.rules
       have e9 := hBx.cell
       clear hx hk hb7 hr7 hth hnew hBn hBx hQn hq7 hg7 hB7 hpl
       go_wp2_with (refine wpList_store_box rfl 52 _ _ rfl rfl rfl hS ?_)
       clear hS
       go_wp2_with fail
       refine bodyPost_ret (results_cell_tmp rfl rfl (run_loadVar_row _ _ 24 24 _ (0, 0) _ ((((HQn.out.set_ 0 (.string c.ware)).set_ 1 (.int .i64 c.limit)).set_ 2 (.int .i64 c.by_)).set_ 3 (.slice (some ⟨g, 0, none⟩) c.parts.length cap)) Tryz.underlying24 rfl case_size)) rfl ?_
       rw [HE.out]
       unfold dOf
       rw [if_pos rfl]
       refine ⟨some ⟨g, 0, none⟩, cap, ?_, HNEW.out _ (((((Keep.refl _ w9).setCell (.inl (by simp; omega)) _).setCell (.inl (by simp; omega)) _).setCell (.inl (by simp; omega)) _).setCell (.inl (by simp; omega)) _), (((HBn.out.setCell (by simp) _).setCell (by simp) _).setCell (by simp) _).setCell (by simp) _⟩
       simp [narrowC]
   ·have HE := Lib.hid (show narrowErr c i low high id = 1 by rw [HEN.out, if_pos hbad])
    obtain ⟨v1, v2⟩ := HR3.out.rules
    clear hbad
    go_wp2_with fail
    rw [HE.out]
    refine bodyPost_ret (results_cell_tmp rfl rfl (run_loadVar_row _ _ 24 24 _ (0, 0) _ ((((HR3.out.set_ 0 _).set_ 1 _).set_ 2 _).set_ 3 _) Tryz.underlying24 rfl case_size)) rfl ?_
    refine cTop_no ?_ ((((HB3.out.setCell (by simp) _).setCell (by simp) _).setCell (by simp) _).setCell (by simp) _)
    decide
 ·have HE := Lib.hid (show narrowErr c x low high id = openErr c [x] by unfold narrowErr; rw [if_neg hz])
  have HZ := Lib.hid hz
  have hzz : (openErr c [x] != 0) = true := by simpa using hz
  clear hz
  go_enter Tryz.func24, Tryz.ntmps24
  go_upto_region 1 with fail
  simp only [HW.out]
  go_upto_region 2 with (go_at_call 57; (with_reducible refine HAK.out.mono ?_); rintro e w3 ⟨rfl, hb3⟩)
  have HR3 := Lib.hid (HG2.out.below' hb3)
  have HB3 := Lib.hid (HB1.out.trans (hb3.mono HB1.out.size))
  obtain ⟨v1, v2⟩ := HR3.out.rules
  clear hb3 e1
  go_wp2_with fail
  rw [HE.out]
  refine bodyPost_ret (results_cell_tmp rfl rfl (run_loadVar_row _ _ 24 24 _ (0, 0) _ ((((HR3.out.set_ 0 _).set_ 1 _).set_ 2 _).set_ 3 _) Tryz.underlying24 rfl case_size)) rfl ?_
  refine cTop_no ?_ ((((HB3.out.setCell (by simp) _).setCell (by simp) _).setCell (by simp) _).setCell (by simp) _)
  exact HZ.out
end Go.Proofs.YtpjcnkajimgagaaGreat
