/- The reference's Lineage. -/
import Derived.Test.YtpjcnkajimgagaaGreatMLinP
import Derived.Test.YtpjcnkajimgagaaGreatMOnlyR
import Derived.Test.YtpjcnkajimgagaaGreatMAnsR
import Derived.Test.YtpjcnkajimgagaaGreatMLinO
import Derived.IntWalk
set_option linter.unusedSimpArgs false
set_option linter.unusedVariables false
namespace Go.Proofs.YtpjcnkajimgagaaGreat
open Go.RowKit
attribute [local go_sem] Oper.semAt_some

set_option maxRecDepth 100000 in
set_option maxHeartbeats 2000000 in
theorem lineage_ref (c : Cs) (hsm : c.Small) (pa : Option Addr) (pc : Nat) (x y : Int) (w : World) (hp : PartsAt w pa c.parts) :
  Calls Tryz.prog 11 #[.agg #[.string c.ware, .int .i64 c.limit, .int .i64 c.by_, .slice pa c.parts.length pc], .int .i64 x, .int .i64 y] w (LOut (askErr c [x, y]) (lineageR c x.toNat y.toNat) w) := by
 obtain ⟨w1, hw1⟩ : ∃ w1, w.alloc (.cells #[.string c.ware, .int .i64 c.limit, .int .i64 c.by_, .slice pa c.parts.length pc] 24) = w1 := ⟨_, rfl⟩
 have hB1 : Below w.heap.size w w1 := by rw [← hw1]; go_grown
 have b1 : Box w1 w.heap.size (csCells c pa pc) 24 := by rw [← hw1]; exact Box.new _ _ _
 have e1 : ∀ i, w1.cell? ⟨w.heap.size, i, none⟩ = (#[.string c.ware, .int .i64 c.limit, .int .i64 c.by_, .slice pa c.parts.length pc] : Array Value)[i]? := b1.cell
 have HAN := Lib.hid (answerTop_ref c hsm pa pc x y w1 (hp.below hB1))
 have HP := Lib.hid hp
 have HW := Lib.hid hw1
 have HB1 := Lib.hid hB1
 have HX := Lib.hid b1
 clear hw1 hB1 b1 hp
 by_cases hz : askErr c [x, y] = 0
 ·have HAW := Lib.hid (fun g => ask_wout (x := x) (y := y) g hz)
  have HZ := Lib.hid hz
  rw [hz] at HAN ⊢
  obtain ⟨X, hX⟩ : ∃ X, x.toNat = X := ⟨_, rfl⟩
  obtain ⟨Y, hY⟩ : ∃ Y, y.toNat = Y := ⟨_, rfl⟩
  rw [hX, hY] at HAN ⊢
  have HXY := Lib.hid (And.intro hX hY)
  clear hz hX hY
  by_cases h3 : ansAt c X Y = 3
  ·have HL := Lib.hid (show lineageR c X Y = [] by unfold lineageR; rw [if_pos (by simpa using h3)])
   have h3b : (ansAt c X Y == 3) = true := by simpa using h3
   clear h3
   go_enter Tryz.func11, Tryz.ntmps11
   go_upto_region 1 with fail
   simp only [HW.out]
   go_wp2_with fail
   (with_reducible refine HAN.out.mono ?_)
   rintro e w2 ⟨hb2, rfl⟩
   have HB2 := Lib.hid (HB1.out.trans (hb2.mono HB1.out.size))
   clear hb2 e1
   go_wp2_with fail
   go_ret2
   rw [HL.out]
   exact lOut_yes (Ints.nil _ _) HB2.out
  ·have h3b : (ansAt c X Y == 3) = false := by simpa using h3
   have HL := Lib.hid (show lineageR c X Y = lineageL c X Y by unfold lineageR; rw [if_neg (by simpa using h3)])
   have HLW := Lib.hid (kept_law c X Y)
   obtain ⟨K, hK⟩ : ∃ K, withL (refIds c) = K := ⟨_, rfl⟩
   have hKl : K.length ≤ 31 := by
    have h1 := withL_le (refIds c)
    have h2 := refIds_len c
    have h3 := hsm.1
    rw [hK] at h1; omega
   have HST := Lib.hid (fun (i : Nat) (id : Int) (h : K[i]? = some id) => kept_step (c := c) (x := X) (y := Y) (K := K) (by rw [← hK]; exact (withL_asc _).1) (by rw [← hK]; exact ref_sub) h)
   rw [hK] at HLW
   have HK := Lib.hid hK
   have HSM := Lib.hid hsm
   clear h3 hK hsm
   go_enter Tryz.func11, Tryz.ntmps11
   go_upto_region 1 with fail
   simp only [HW.out]
   go_wp2_with fail
   (with_reducible refine HAN.out.mono ?_)
   rintro e w2 ⟨hb2, rfl⟩
   simp only [if_pos]
   have HB2 := Lib.hid (HB1.out.trans (hb2.mono HB1.out.size))
   have HX2 := Lib.hid (HX.out.below' hb2)
   clear hb2 e1
   have e1 : ∀ i, w2.cell? ⟨w.heap.size, i, none⟩ = (#[.string c.ware, .int .i64 c.limit, .int .i64 c.by_, .slice pa c.parts.length pc] : Array Value)[i]? := HX2.out.cell
   have hids := ids_ref c HSM.out pa pc w2 (HP.out.below HB2.out)
   rw [HK.out] at hids
   have HID := Lib.hid hids
   clear hids
   go_upto_region 7 with (go_at_call 45; (with_reducible refine HID.out.mono ?_); rintro e w3 ⟨ka, kc, rfl, hi3, hc3, hb3⟩)
   have HB3 := Lib.hid (HB2.out.trans (hb3.mono HB2.out.size))
   have HX3 := Lib.hid (HX2.out.below' hb3)
   have HI3 := Lib.hid hi3
   clear hb3 hi3 e1 HX HX2 HB1 HB2 HID HAN
   have HEN := Lib.hid (keptAt_end (c := c) (x := X) (y := Y) (K := K))
   go_wp2_with fail
   go_loopw [10, 11] (fun ov iv wr => ∃ (k : Nat) (a : Option Addr) (cap : Nat), k ≤ K.length ∧ iv = .int .i64 ((k : Int) - 1) ∧ ov = .slice a (keptAt c X Y K k).length cap ∧ (keptAt c X Y K k).length ≤ cap ∧ Ints wr a (keptAt c X Y K k) ∧ Box wr w.heap.size (csCells c pa pc) 24 ∧ Below w.heap.size w wr) (fun _ iv _ => ((intOf iv) + 1).toNat)
   case atStart => exact ⟨K.length, ka, kc, Nat.le_refl _, rfl, by rw [HEN.out], by rw [HEN.out]; exact hc3, by rw [HEN.out]; exact HI3.out, HX3.out, HB3.out⟩
   case round =>
    clear HEN HI3 HX3 HB3 hc3
    obtain ⟨k, a, cap, hk, rfl, rfl, hcap, hi, hx, hB⟩ := hrel
    have HI := Lib.hid hi
    have HX := Lib.hid hx
    have HB := Lib.hid hB
    clear hi hx hB
    rcases k with _ | i
    ·have hzi : (((0 : Nat) : Int) - 1) = -1 := by omega
     simp only [hzi]
     clear hzi
     go_wp2_with fail
     go_ret2
     rw [HL.out, ← HLW.out]
     exact lOut_yes HI.out HB.out
    ·have hni : (((i + 1 : Nat) : Int) - 1) = (i : Int) := by omega
     simp only [hni]
     clear hni
     obtain ⟨id, hid⟩ := get_of_lt K (k := i) (by omega)
     have hst := HST.out i id hid
     obtain ⟨ht, hd⟩ := lessAt_of (c := c) (x := X) (y := Y) (show i < K.length by omega)
     have hls : lessAt c X Y K i = K.take i ++ (linAt c X Y K (i + 1)).2.reverse := rfl
     rw [← ht, ← hd] at hls
     have hkl := keptAt_len (c := c) (x := X) (y := Y) (K := K) (i + 1)
     have hki : i + 1 ≤ (keptAt c X Y K (i + 1)).length := by
      unfold keptAt; rw [List.length_append, List.length_take]; omega
     generalize keptAt c X Y K (i + 1) = kept at *
     generalize hless : lessAt c X Y K i = less at *
     have HST2 := Lib.hid hst
     have HLS := Lib.hid hls
     have HLE := Lib.hid hless
     have hi0 : (0 : Int) ≤ (i : Int) := by omega
     have hi3 : (0 : Int) ≤ (i : Int) + 1 := by omega
     have hic : i ≤ cap := by omega
     have hi1 : (i : Int) ≤ (kept.length : Int) := by omega
     have hi2 : (i : Int) + 1 ≤ (kept.length : Int) := by omega
     have hwr : IntKind.i64.wrap ((i : Int) + 1) = (i : Int) + 1 := IntWalk.i64_in _ (by omega)
     have hcut := HI.out.cut (i + 1) cap hki hcap
     obtain ⟨u2, hu2⟩ : ∃ u2 : Value, Value.slice (if cap = i + 1 then a else Option.map (fun x => x.add (i + 1)) a) (kept.length - (i + 1)) (cap - (i + 1)) = u2 := ⟨_, rfl⟩
     have HU1 := Lib.hid hu2
     obtain ⟨a2, ha2⟩ : ∃ a2, (if cap = i + 1 then a else Option.map (fun x => x.add (i + 1)) a) = a2 := ⟨_, rfl⟩
     obtain ⟨c2, hc2⟩ : ∃ c2, cap - (i + 1) = c2 := ⟨_, rfl⟩
     rw [ha2] at hcut
     have hu2 : u2 = .slice a2 (kept.drop (i + 1)).length c2 := by rw [← hu2, ha2, hc2, List.length_drop]
     have HU2 := Lib.hid hu2
     have HI2 := Lib.hid hcut
     have hll : 0 + i + (kept.drop (i + 1)).length = less.length := by
      rw [hls, List.length_append, List.length_take, Nat.min_eq_left (by omega)]; omega
     have HLL := Lib.hid hll
     have HLK := Lib.hid (show less.length ≤ 1000000 by rw [← hll, List.length_drop]; omega)
     clear hid hst ht hd hls hless ha2 hc2 hu2 hcut hll
     go_upto_region 10 with fail
     have k0 : ∀ A, Below wr.heap.size wr A → True := fun _ _ => trivial
     have K0 := Lib.hid k0
     clear k0
     refine wp_region_L (fun A => Below wr.heap.size wr A) 10 (by kernel_rfl) ?_
     have hSS : Below wr.heap.size wr wr.drew := (Below.refl _ wr).drew
     refine anyL_take (i := 1) (v := ?_) (by kernel_rfl) rfl (by kernel_rfl) (by kernel_rfl) (by kernel_rfl) (by kernel_rfl) (fun _ _ _ h => h) (by rfl) ?_ hSS ?_
     rotate_left
     ·(intro W hW; go_simp; try with_reducible rfl)
     try (dsimp only); try simp only [Act.put, List.setIfInBounds_toArray, List.set_cons_zero, List.set_cons_succ]
     refine anyL_take (i := 2) (v := ?_) (by kernel_rfl) rfl (by kernel_rfl) (by kernel_rfl) (by kernel_rfl) (by kernel_rfl) (fun _ _ _ h => h) (by rfl) ?_ hSS ?_
     rotate_left
     ·(intro W hW; go_simp; try with_reducible rfl)
     try (dsimp only); try simp only [Act.put, List.setIfInBounds_toArray, List.set_cons_zero, List.set_cons_succ]
     refine anyL_take (i := 3) (v := ?_) (by kernel_rfl) rfl (by kernel_rfl) (by kernel_rfl) (by kernel_rfl) (by kernel_rfl) (fun _ _ _ h => h) (by rfl) ?_ hSS ?_
     rotate_left
     ·(intro W hW; go_simp; try with_reducible rfl)
     try (dsimp only); try simp only [Act.put, List.setIfInBounds_toArray, List.set_cons_zero, List.set_cons_succ]
     refine anyL_take (i := 5) (v := ?_) (by kernel_rfl) rfl (by kernel_rfl) (by kernel_rfl) (by kernel_rfl) (by kernel_rfl) (fun _ _ _ h => h) (by rfl) ?_ hSS ?_
     rotate_left
     ·(intro W hW; go_simp; try with_reducible rfl)
     try (dsimp only); try simp only [Act.put, List.setIfInBounds_toArray, List.set_cons_zero, List.set_cons_succ]
     refine anyL_take (i := 6) (v := ?_) (by kernel_rfl) rfl (by kernel_rfl) (by kernel_rfl) (by kernel_rfl) (by kernel_rfl) (fun _ _ _ h => h) (by rfl) ?_ hSS ?_
     rotate_left
     ·(intro W hW; go_simp; try with_reducible rfl)
     try (dsimp only); try simp only [Act.put, List.setIfInBounds_toArray, List.set_cons_zero, List.set_cons_succ]
     refine anyL_take (i := 7) (v := ?_) (by kernel_rfl) rfl (by kernel_rfl) (by kernel_rfl) (by kernel_rfl) (by kernel_rfl) (fun _ _ _ h => h) (by rfl) ?_ hSS ?_
     rotate_left
     ·(intro W hW; go_simp; try with_reducible rfl)
     try (dsimp only); try simp only [Act.put, List.setIfInBounds_toArray, List.set_cons_zero, List.set_cons_succ]
     refine anyL_take (i := 8) (v := u2) (by kernel_rfl) rfl (by kernel_rfl) (by kernel_rfl) (by kernel_rfl) (by kernel_rfl) (fun _ _ _ h => h) (by rfl) ?_ hSS ?_
     ·(intro W hW; rw [← HU1.out]; go_simp; try with_reducible rfl)
     try (dsimp only); try simp only [Act.put, List.setIfInBounds_toArray, List.set_cons_zero, List.set_cons_succ]
     have hbe : Below wr.heap.size wr (wr.drew.alloc (.cells #[] 3)) := (Below.refl _ wr).drew.alloc (Nat.le_refl _) _
     have hee := ownsRow_empty wr.drew wr.heap.size 3 1 (Nat.le_refl _)
     refine anyL_run (i := 0) (v := .slice (some ⟨wr.heap.size, 0, none⟩) 0 0) (w' := wr.drew.alloc (.cells #[] 3)) rfl (by kernel_rfl) (by rfl) ?_ (.inr hbe) ?_
     ·go_simp
      try with_reducible rfl
     try (dsimp only); try simp only [Act.put, List.setIfInBounds_toArray, List.set_cons_zero, List.set_cons_succ]
     change (wr.drew.alloc (.cells #[] 3)).ownsRow _ _ _ (.slice (some ⟨wr.heap.size, 0, none⟩) 0 0) _ _ at hee
     generalize wr.drew.alloc (.cells #[] 3) = w2 at *
     obtain ⟨v4, w4, hrun4, ho4, hb4⟩ := app_ints hee (a := a) (n := i) (cap := cap) (l := kept.take i) (by rw [List.length_take]; omega) ((HI.out.below hbe).take i) (by omega) hbe.size
     refine anyL_run (i := 4) (v := v4) (w' := w4) rfl (by kernel_rfl) (by rfl) ?_ (.inr (hbe.trans hb4)) ?_
     ·refine exec_app (v := .slice (some ⟨wr.heap.size, 0, none⟩) 0 0) (u := .slice a i cap) _ _ 27 rfl (by rfl) (by rfl) ?_
      exact hrun4
     try (dsimp only); try simp only [Act.put, List.setIfInBounds_toArray, List.set_cons_zero, List.set_cons_succ]
     have hb24 := hbe.trans hb4
     obtain ⟨v9, w9, hrun9, ho9, hb9⟩ := app_ints ho4 (a := a2) (cap := c2) (l := kept.drop (i + 1)) rfl (HI2.out.below hb24) (by have := HLL.out; have := HLK.out; omega) hb24.size
     refine anyL_run (i := 9) (v := v9) (w' := w9) rfl (by kernel_rfl) (by rfl) ?_ (.inr (hb24.trans hb9)) ?_
     ·refine exec_app (v := v4) (u := u2) _ _ 27 rfl (by rfl) (by rfl) ?_
      rw [HU2.out]; exact hrun9
     try (dsimp only); try simp only [Act.put, List.setIfInBounds_toArray, List.set_cons_zero, List.set_cons_succ]
     refine anyL_run (i := 10) (v := v9) (w' := w9) rfl (by kernel_rfl) (by rfl) (by go_simp) (.inl rfl) ?_
     try (dsimp only); try simp only [Act.put, List.setIfInBounds_toArray, List.set_cons_zero, List.set_cons_succ]
     refine anyL_done (by kernel_rfl) ?_ _
     rw [HLL.out] at ho9
     obtain ⟨a9, c9, hv9, hro9, hc9⟩ := ownsRow_own ho9
     have hi9 : Ints w9 a9 less := by
      rw [HLS.out]
      have h := hro9
      rw [List.nil_append, ← List.map_append] at h
      exact ints_rowOwn h
     have hB9 := HB.out.trans ((hb24.trans hb9).mono HB.out.size)
     have hx9 := HX.out.below' (hb24.trans hb9)
     have hi9k := HI.out.below (hb24.trans hb9)
     subst hv9
     have HI9 := Lib.hid hi9
     have HIK := Lib.hid hi9k
     have HB9 := Lib.hid hB9
     have HX9 := Lib.hid hx9
     have hlk := HLK.out
     have HC9 := Lib.hid hc9
     have HON := Lib.hid (only_ref c HSM.out pa pc a9 less c9 w9 (HP.out.below hB9) hi9 hlk)
     clear hrun4 hrun9 ho4 ho9 hee hbe hb4 hb9 hb24 hSS hi9 hi9k hB9 hx9 hlk hc9 hro9 K0 hwr
     have hsm2 : (woutC (fun n => !less.contains n) c).Small := woutC_small HSM.out _
     have haw := HAW.out (fun n => !less.contains n)
     obtain ⟨cd, hcd⟩ : ∃ cd, woutC (fun n => !less.contains n) c = cd := ⟨_, rfl⟩
     rw [hcd] at HON hsm2 HST2 haw
     have HAN := Lib.hid (fun (W : World) a' cap' (h : PartsAt W a' cd.parts) => answerTop_ref cd hsm2 a' cap' x y W h)
     rw [haw, HXY.out.1, HXY.out.2] at HAN
     have HCD := Lib.hid hcd
     clear hcd hsm2 haw
     have e1 : ∀ i, w9.cell? ⟨w.heap.size, i, none⟩ = (#[.string c.ware, .int .i64 c.limit, .int .i64 c.by_, .slice pa c.parts.length pc] : Array Value)[i]? := HX9.out.cell
     go_wp2_with fail
     (with_reducible refine HON.out.mono ?_)
     rintro e w11 ⟨a11, c11, rfl, hc11, ho11, hb11⟩
     have HO11 := Lib.hid ho11
     have HB11 := Lib.hid hb11
     clear hc11 ho11 hb11 e1
     go_wp2_with fail
     (with_reducible refine (HAN.out _ _ _ HO11.out.at_).mono ?_)
     rintro e w12 ⟨hb12, rfl⟩
     simp only [if_pos]
     have HB12 := Lib.hid (HB11.out.trans (hb12.mono HB11.out.size))
     clear hb12
     rcases hq : (ansAt cd X Y == ansAt c X Y) with _ | _
     ·have HQ := Lib.hid (show keptAt c X Y K i = kept by rw [HST2.out, if_neg (by simpa using hq)])
      go_wp2_with fail
      go_roundw
      case rel => exact ⟨i, a, cap, by omega, rfl, by rw [HQ.out], by rw [HQ.out]; exact hcap, by rw [HQ.out]; exact HIK.out.below HB12.out, HX9.out.below' HB12.out, HB9.out.trans (HB12.out.mono HB9.out.size)⟩
      case measure => simp [intOf]
     ·have HQ := Lib.hid (show keptAt c X Y K i = less by rw [HST2.out, if_pos (by simpa using hq)])
      go_wp2_with fail
      go_roundw
      case rel => exact ⟨i, a9, c9, by omega, rfl, by rw [HQ.out], by rw [HQ.out]; exact HC9.out, by rw [HQ.out]; exact HI9.out.below HB12.out, HX9.out.below' HB12.out, HB9.out.trans (HB12.out.mono HB9.out.size)⟩
      case measure => simp [intOf]
 ·have HZ := Lib.hid hz
  have hzz : (askErr c [x, y] != 0) = true := by simpa using hz
  clear hz
  go_enter Tryz.func11, Tryz.ntmps11
  go_upto_region 1 with fail
  simp only [HW.out]
  go_wp2_with fail
  (with_reducible refine HAN.out.mono ?_)
  rintro e w2 ⟨hb2, rfl⟩
  have HB2 := Lib.hid (HB1.out.trans (hb2.mono HB1.out.size))
  clear hb2 e1
  go_wp2_with fail
  go_ret2
  exact lOut_no HZ.out HB2.out
end Go.Proofs.YtpjcnkajimgagaaGreat
