/- ProfileMemory: for all inputs the law returns true and makes new memory alone. No condition. -/
import Derived.Test.YthpjffhccjlnhaaGreatDoorGMemP
import Derived.Test.YthpjffhccjlnhaaGreatDoorMG19
set_option linter.unusedSimpArgs false
set_option linter.unusedVariables false
namespace Go.Proofs.YthpjffhccjlnhaaGreatDoor
open Go.RowKit
attribute [local go_sem] Oper.semAt_some

set_option maxRecDepth 100000 in
set_option maxHeartbeats 8000000 in
theorem profileMemory_any (a : Option Addr) (l : List Typ) (c : Nat) (hlc : l.length ≤ c) (ware : ByteArray) (ra : Option Addr) (r : List Rng) (rc : Nat) (hrc : r.length ≤ rc) (w : World) (hT : TypesAt w a l) (hR : RngsAt w ra r) :
  Calls Tryz.prog 16 #[.slice a l.length c, .string ware, .slice ra r.length rc] w fun e w' => e = .returned (.bool true) ∧ Below w.heap.size w w' := by
 have HT := Lib.hid hT
 have HR := Lib.hid hR
 have HB := Lib.hid (Below.refl w.heap.size w)
 have HSH := Lib.hid (short_any a c l ra rc r w hT hR)
 clear hT hR
 have htu := fun W => turned_law W
 have HTU := Lib.hid htu
 clear htu
 go_enter Tryz.func16, Tryz.ntmps16
 go_wp2_with (refine HSH.out.mono ?_)
 rintro e w' ⟨bs, rfl, hok, rfl⟩
 clear HSH
 rcases bs with _ | _
 ·go_wp2_with (refine (HTU.out _).mono ?_)
  rintro e wt ⟨rfl, hbt⟩
  have HBT := Lib.hid (HB.out.trans (hbt.mono HB.out.size))
  clear hbt
  go_wp2_with fail
  go_ret
  exact ⟨rfl, HBT.out⟩
 have HOK := Lib.hid (hok rfl)
 clear hok
 by_cases hsz : 100 < ware.size
 ·have hszi : (100 : Int) < (ware.size : Int) := by omega
  go_wp2_with (refine (HTU.out _).mono ?_)
  rintro e wt ⟨rfl, hbt⟩
  have HBT := Lib.hid (HB.out.trans (hbt.mono HB.out.size))
  clear hbt
  go_wp2_with fail
  go_ret
  exact ⟨rfl, HBT.out⟩
 have hszi : decide ((100 : Int) < (ware.size : Int)) = false := decide_eq_false (by omega)
 have hszn : decide (100 < ware.size) = false := decide_eq_false hsz
 have hl15 := HOK.out.tl
 have hr15 := HOK.out.rl
 have HA := Lib.hid (HOK.out.ask HT.out HR.out hlc hrc)
 clear HT HR HOK hsz
 obtain ⟨v4, hv4⟩ : ∃ x, w'.alloc (.cells #[] 71) = x := ⟨_, rfl⟩
 have hbe : Below w'.heap.size w' v4 := by rw [← hv4]; go_grown
 have hoe : v4.ownsRow w'.heap.size 71 32 (.slice (some ⟨w'.heap.size, 0, none⟩) 0 0) 0 [] := by rw [← hv4]; exact ownsRow_empty w' _ _ _ (Nat.le_refl _)
 obtain ⟨v1, U, hrun, ho1, hg1, -⟩ := run_append_row (P := Tryz.prog) v4 w'.heap.size 22 22 71 _ 32 496 Tryz.underlying22 info_typ rfl (by omega)
  _ 0 [] hoe a l.length c (typsV l) (typsV_len l) ((row_types7 HA.out.ty).below hbe) (typsV_one7 l) (by omega) (by omega) hbe.size
 have hbU : Below w'.heap.size w' U := hbe.grown hg1 hbe.size (fun j hj => (hoe.lt j hj).1)
 rw [List.nil_append, Nat.zero_add] at ho1
 obtain ⟨wa, wc, rfl, hTw, hwc, -⟩ := types_of_row ho1
 have HRUN := Lib.hid hrun
 have HV4 := Lib.hid hv4
 have HTW := Lib.hid hTw
 have HBU := Lib.hid hbU
 clear hbe hoe hrun ho1 hg1 hbU hv4 hTw
 go_upto_region 4 with (at_builtin; simp only [HV4.out]; refine wpList_app rfl _ _ _ rfl rfl rfl HRUN.out ?_)
 clear HRUN HV4
 obtain ⟨v5, hv5⟩ : ∃ x, U.alloc (.cells #[] 48) = x := ⟨_, rfl⟩
 have hbe : Below U.heap.size U v5 := by rw [← hv5]; go_grown
 have hoe : v5.ownsRow U.heap.size 48 2 (.slice (some ⟨U.heap.size, 0, none⟩) 0 0) 0 [] := by rw [← hv5]; exact ownsRow_empty U _ _ _ (Nat.le_refl _)
 obtain ⟨v2, V, hrun, ho1, hg1, -⟩ := run_append_row (P := Tryz.prog) v5 U.heap.size 37 37 48 _ 2 24 Tryz.underlying37 info_rng rfl (by omega)
  _ 0 [] hoe ra r.length rc (rngRows r) (rngRows_size7 r) (((row_rings7 HA.out.rg).below HBU.out).below hbe) (rngRows_one7 r) (by omega) (by omega) hbe.size
 have hbV : Below U.heap.size U V := hbe.grown hg1 hbe.size (fun j hj => (hoe.lt j hj).1)
 rw [List.nil_append, Nat.zero_add] at ho1
 obtain ⟨ga, gc, rfl, hgo, hgc⟩ := ownsRow_own ho1
 have hbV2 := HBU.out.trans (hbV.mono HBU.out.size)
 have HRUN := Lib.hid hrun
 have HV5 := Lib.hid hv5
 have HAV := Lib.hid (HA.out.below hbV2)
 have HWV := Lib.hid (show Ask V wa wc l ga gc r from ⟨HTW.out.below hbV, HA.out.sm, HA.out.tlen, hwc, rngs_of_own hgo, HA.out.rsm, by omega, hgc⟩)
 have HBV := Lib.hid (HB.out.trans (hbV2.mono HB.out.size))
 clear hbe hoe hrun ho1 hg1 hbV hv5 hgo hbV2 HA HTW HBU HB
 go_upto_region 5 with (at_builtin; simp only [HV5.out]; refine wpList_app rfl _ _ _ rfl rfl rfl HRUN.out ?_)
 clear HRUN HV5
 obtain ⟨L, hL⟩ : ∃ L, blanksX l ware r = L := ⟨_, rfl⟩
 obtain ⟨I, hI⟩ : ∃ I, blanksIs l ware r = I := ⟨_, rfl⟩
 obtain ⟨E, hE⟩ : ∃ E, wantedErr l ware r = E := ⟨_, rfl⟩
 obtain ⟨X, hX⟩ : ∃ X, shiftsX l ware r = X := ⟨_, rfl⟩
 obtain ⟨Y, hY⟩ : ∃ Y, waresT l = Y := ⟨_, rfl⟩
 have HSL := Lib.hid (show (∀ y, y ∈ L → SmlB y) ∧ L.length ≤ 1000000 by rw [← hL]; exact blksX_sml7 l ware r)
 have hLl := HSL.out.2
 have hXl : X.length ≤ 1000 := by rw [← hX]; exact shX_len7 l ware r
 have hYl : Y.length ≤ 1000 := by rw [← hY]; exact wares_len7 hl15
 have HBL := Lib.hid (fun W (h : Ask W a c l ra rc r) => by
  have h := blanks_any a c l ware ra rc r W h
  unfold BlanksPost at h
  rw [hL, hI, hE] at h
  exact h)
 have HBR := Lib.hid (fun W (h : Ask W wa wc l ga gc r) => by
  have h := blanksR_any wa wc l ware ga gc r W h
  unfold BlanksPost at h
  rw [hL, hI, hE] at h
  exact h)
 have HSF := Lib.hid (fun W (h : Ask W a c l ra rc r) => by
  have h := shiftsX_any a c l ware ra rc r W h
  rw [hX, hE] at h
  exact h)
 have HWR := Lib.hid (fun W (h : TypesAt W a l) => by
  have h := waresP_any a c l W h (by omega)
  unfold WaresPost at h
  rw [hY] at h
  exact h)
 clear hL hI hE hX hY
 go_wp2_with (refine (HBL.out V HAV.out).mono ?_)
 rintro e w1 ⟨fa, fc, us, rfl, hro, hbr, -, hb1⟩
 have H1 := Lib.hid hb1
 have HMA := Lib.hid (mem_of hro hbr)
 clear hro hbr hb1
 go_wp2_with (refine (HSF.out w1 (HAV.out.below H1.out)).mono ?_)
 rintro e w2 ⟨sa, sc, rfl, hro, -, hb2⟩
 have H2 := Lib.hid (H1.out.trans (hb2.mono H1.out.size))
 have HS2 := Lib.hid (hro.less H1.out.size)
 have HMA2 := Lib.hid (HMA.out.below hb2)
 clear hro hb2 H1 HMA
 go_wp2_with (refine (HWR.out w2 (HAV.out.below H2.out).ty).mono ?_)
 rintro e w3 ⟨qa, qc, rfl, hro, hb3⟩
 have HMS := Lib.hid (show MmS V sa X.length qa Y.length w3 from MmS.of (HS2.out.below hb3) (hro.less H2.out.size) (H2.out.trans (hb3.mono H2.out.size)))
 have HMA := Lib.hid (HMA2.out.below hb3)
 clear hro hb3 H2 HS2 HMA2 HWR
 go_wp2_with fail
 go_loopw [15, 16] (fun iv _ wr => ∃ i : Nat, i ≤ L.length ∧ iv = .int .i64 i ∧ MmS V sa X.length qa Y.length wr ∧ MemA V fa L wr) (fun iv _ _ => L.length - (intOf iv).toNat)
 case atStart => exact ⟨0, Nat.zero_le _, rfl, HMS.out, HMA.out⟩
 case round =>
  clear HMS HMA
  obtain ⟨i, hi, rfl, ms, ma⟩ := hrel
  obtain ⟨wo, rfl⟩ : ∃ x, x = wr := ⟨_, rfl⟩
  have MS := Lib.hid ms
  have MA := Lib.hid ma
  clear ms ma
  by_cases hlt : i < L.length
  ·obtain ⟨b, hb⟩ : ∃ b, L[i]? = some b := ⟨L[i], by simp [hlt]⟩
   have HBB := Lib.hid hb
   have hbz := (HSL.out.1 b (List.mem_of_getElem? hb)).len
   have hki : (i : Int) < (L.length : Int) := by omega
   have hk0 : (0 : Int) ≤ (i : Int) := by omega
   clear hb
   go_wp2_with fail
   go_loopw [16] (fun kv wr => ∃ k : Nat, k ≤ b.sets.length ∧ kv = .int .i64 k ∧ MmS V sa X.length qa Y.length wr ∧ MemA V fa L wr) (fun kv _ => b.sets.length - (intOf kv).toNat)
   case atStart => exact ⟨0, Nat.zero_le _, rfl, MS.out, MA.out⟩
   case round =>
    clear MS MA
    obtain ⟨k, hk, rfl, ms, ma⟩ := hrel
    have MS := Lib.hid ms
    have MA := Lib.hid ma
    obtain ⟨g, o, ba, bc, rfl, hc2, hth⟩ := ma i b HBB.out
    by_cases hkl : k < b.sets.length
    ·obtain ⟨g', o', rfl, hgne, hgV, hth1⟩ := hth k hkl
     obtain ⟨u, hu, hf⟩ := there_one hth1
     have hkk : (k : Int) < (b.sets.length : Int) := by omega
     have hkk0 : (0 : Int) ≤ (k : Int) := by omega
     have HN1 := Lib.hid (show MmS V sa X.length qa Y.length (wr.setCell ⟨g', o' + k, none⟩ (.string ⟨#[122, 122]⟩)) from ms.set hgV _ _)
     have HN2 := Lib.hid (show MemA V (some ⟨g, o, none⟩) L (wr.setCell ⟨g', o' + k, none⟩ (.string ⟨#[122, 122]⟩)) from ma.set (fun g1 o1 e => by cases e; exact hgne) _ _)
     clear ms ma hth hth1 hgne hgV
     go_wp2_with fail
     go_roundw
     case rel => exact ⟨k + 1, by omega, by go_num, HN1.out, HN2.out⟩
     case measure => simp [intOf]; omega
    ·have hkn : decide ((k : Int) < (b.sets.length : Int)) = false := by simp; omega
     clear ms ma hth
     go_wp2_with fail
     go_roundw
     case rel => exact ⟨i + 1, by omega, by go_num, MS.out, MA.out⟩
     case measure => simp [intOf]; omega
  have hin : decide ((i : Int) < (L.length : Int)) = false := by simp; omega
  clear MA
  go_wp2_with fail
  go_loopw [17] (fun iv wr => ∃ i : Nat, i ≤ X.length ∧ iv = .int .i64 i ∧ MmS V sa X.length qa Y.length wr) (fun iv _ => X.length - (intOf iv).toNat)
  case atStart => exact ⟨0, Nat.zero_le _, rfl, MS.out⟩
  case round =>
   clear MS
   obtain ⟨j, hj, rfl, ms⟩ := hrel
   obtain ⟨wp, rfl⟩ : ∃ x, x = wr := ⟨_, rfl⟩
   have MS := Lib.hid ms
   by_cases hjl : j < X.length
   ·obtain ⟨g, o, rfl, hgV, hth⟩ := ms.s j hjl
    have hji : (j : Int) < (X.length : Int) := by omega
    have hj0 : (0 : Int) ≤ (j : Int) := by omega
    have hst := run_storeAt_mid (P := Tryz.prog) wp g (o + j * 3) 44 (ftCells (-7) 0 ByteArray.empty) hth (by kernel_rfl) (by kernel_rfl)
    have HST := Lib.hid hst
    obtain ⟨W5, hW5⟩ : ∃ x, wp.setCells g (o + j * 3) (ftCells (-7) 0 ByteArray.empty).toList = x := ⟨_, rfl⟩
    rw [hW5] at HST
    have HN := Lib.hid (show MmS V (some ⟨g, o, none⟩) X.length qa Y.length W5 by rw [← hW5]; exact ms.put hgV _ _)
    clear ms hth hst hW5 hgV
    go_wp2_with (first
     | (refine wpList_build rfl (v := .agg (ftCells (-7) 0 ByteArray.empty)) 44 _ rfl (by simp only [List.map_toArray, List.map_cons, List.map_nil]; exact run_build_ft7 (-7) _) ?_)
     | (refine wpList_store_box rfl 44 _ _ rfl rfl rfl HST.out ?_))
    go_roundw
    case rel => exact ⟨j + 1, by omega, by go_num, HN.out⟩
    case measure => simp [intOf]; omega
   have hjn : decide ((j : Int) < (X.length : Int)) = false := by simp; omega
   clear ms
   go_wp2_with fail
   go_loopw [18] (fun iv wr => ∃ i : Nat, i ≤ Y.length ∧ iv = .int .i64 i ∧ MmS V sa X.length qa Y.length wr) (fun iv _ => Y.length - (intOf iv).toNat)
   case atStart => exact ⟨0, Nat.zero_le _, rfl, MS.out⟩
   case round =>
    clear MS
    obtain ⟨k, hk, rfl, ms⟩ := hrel
    obtain ⟨wq, rfl⟩ : ∃ x, x = wr := ⟨_, rfl⟩
    have MS := Lib.hid ms
    by_cases hkl : k < Y.length
    ·obtain ⟨g, o, rfl, hgV, hth⟩ := ms.w k hkl
     obtain ⟨u, hu, hf⟩ := there_one hth
     have hki : (k : Int) < (Y.length : Int) := by omega
     have hk0 : (0 : Int) ≤ (k : Int) := by omega
     have HN := Lib.hid (show MmS V sa X.length (some ⟨g, o, none⟩) Y.length (wq.setCell ⟨g, o + k, none⟩ (.string ⟨#[122, 122]⟩)) from ms.set hgV _ _)
     clear ms hth hgV
     go_wp2_with fail
     go_roundw
     case rel => exact ⟨k + 1, by omega, by go_num, HN.out⟩
     case measure => simp [intOf]; omega
    have hkn : decide ((k : Int) < (Y.length : Int)) = false := by simp; omega
    have HBQ := Lib.hid ms.b
    clear ms MS
    have HA6 := Lib.hid (HAV.out.below HBQ.out)
    have HW6 := Lib.hid (HWV.out.below HBQ.out)
    have HB6 := Lib.hid (HBV.out.trans (HBQ.out.mono HBV.out.size))
    clear HBQ HAV HWV HBV
    go_wp2_with (refine (HBL.out wq HA6.out).mono ?_)
    rintro e w5 ⟨fb, cb, us2, rfl, hro, hbr, -, hb5⟩
    have X5 := Lib.hid (blks_in hro hbr)
    have HA5 := Lib.hid (HA6.out.below hb5)
    have HW5 := Lib.hid (HW6.out.below hb5)
    have HB5 := Lib.hid (HB6.out.trans (hb5.mono HB6.out.size))
    clear hro hbr hb5 HA6 HW6 HB6
    go_wp2_with (refine (HBR.out w5 HW5.out).mono ?_)
    rintro e w6 ⟨fd, cd, us3, rfl, hro, hbr, -, hb6⟩
    have Y6 := Lib.hid (blks_in hro hbr)
    have X6 := Lib.hid (X5.out.below hb6)
    have HA6 := Lib.hid (HA5.out.below hb6)
    have HW6 := Lib.hid (HW5.out.below hb6)
    have HB6 := Lib.hid (HB5.out.trans (hb6.mono HB5.out.size))
    clear hro hbr hb6 HA5 HW5 HB5 X5
    go_wp2_with (refine (HSF.out w6 HA6.out).mono ?_)
    rintro e w7 ⟨sb, tb, rfl, -, -, hb7⟩
    have X7 := Lib.hid (X6.out.below hb7)
    have Y7 := Lib.hid (Y6.out.below hb7)
    have HA7 := Lib.hid (HA6.out.below hb7)
    have HW7 := Lib.hid (HW6.out.below hb7)
    have HB7 := Lib.hid (HB6.out.trans (hb7.mono HB6.out.size))
    clear hb7 HA6 HW6 HB6 X6 Y6 HSF HBR HBL
    go_wp2_with fail
    go_loopw [27] (fun iv wr => ∃ i : Nat, i ≤ r.length ∧ iv = .int .i64 i ∧ Below w7.heap.size w7 wr) (fun iv _ => r.length - (intOf iv).toNat)
    case atStart => exact ⟨0, Nat.zero_le _, rfl, Below.refl _ _⟩
    case round =>
     obtain ⟨q, hq, rfl, hb⟩ := hrel
     have HBR := Lib.hid hb
     by_cases hql : q < r.length
     ·obtain ⟨y, hy⟩ : ∃ y, r[q]? = some y := ⟨r[q], by simp [hql]⟩
      obtain ⟨b1, o1, rfl, hat1⟩ := (HA7.out.rg.below hb) q y hy
      obtain ⟨b2, o2, rfl, hat2⟩ := (HW7.out.rg.below hb) q y hy
      obtain ⟨f1, f2⟩ := hat1.fields
      obtain ⟨f3, f4⟩ := hat2.fields
      have hqi : (q : Int) < (r.length : Int) := by omega
      have hq0 : (0 : Int) ≤ (q : Int) := by omega
      have m1 := beq_self_eq_true y.at_
      have m2 := beq_self_eq_true y.set.toList
      clear hb hy hat1 hat2
      go_wp2_with fail
      go_quiet (fail)
      go_wp2_with fail
      go_roundw
      case rel => exact ⟨q + 1, by omega, by go_num, below_drewN HBR.out _⟩
      case measure => simp [intOf]; omega
     have hqn : decide ((q : Int) < (r.length : Int)) = false := by simp; omega
     have HX := Lib.hid (X7.out.below hb)
     have HY := Lib.hid (Y7.out.below hb)
     have HTA := Lib.hid (HA7.out.ty.below hb)
     have HTB := Lib.hid (HW7.out.ty.below hb)
     have HB8 := Lib.hid (HB7.out.trans (hb.mono HB7.out.size))
     clear hb HBR X7 Y7 HA7 HW7 HB7
     go_wp2_with (refine (HTU.out _).mono ?_)
     rintro e wt ⟨rfl, hbt⟩
     have HSB := Lib.hid (sameBlanks_any fb fd cb cd L HSL.out.1 HSL.out.2 wt (HX.out.below hbt) (HY.out.below hbt))
     have HTA2 := Lib.hid (HTA.out.below hbt)
     have HTB2 := Lib.hid (HTB.out.below hbt)
     have HB9 := Lib.hid (HB8.out.trans (hbt.mono HB8.out.size))
     have k1 := beq_self_eq_true I
     have k2 := beq_self_eq_true E
     clear hbt HX HY HTA HTB HB8
     go_wp2_with (refine HSB.out.mono ?_)
     rintro e w9 ⟨rfl, hb9⟩
     have HST := Lib.hid (sameTypes_any a wa c wc l (by omega) w9 (HTA2.out.below hb9) (HTB2.out.below hb9))
     have HBA := Lib.hid (HB9.out.trans (hb9.mono HB9.out.size))
     clear hb9 HSB HTA2 HTB2 HB9
     go_wp2_with (refine HST.out.mono ?_)
     rintro e wz ⟨rfl, hbz⟩
     have HBZ := Lib.hid (HBA.out.trans (hbz.mono HBA.out.size))
     clear hbz HST
     go_wp2_with fail
     go_ret
     exact ⟨rfl, HBZ.out⟩
end Go.Proofs.YthpjffhccjlnhaaGreatDoor
