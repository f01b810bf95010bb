/- The reference: fits: all words that begin in a way and fit. A type and rings that are as said. -/
import Derived.Test.YthpjffhccjlnhaaGreatDoorGFitsP
import Derived.Test.YthpjffhccjlnhaaGreatDoorGRows4
import Derived.Test.YthpjffhccjlnhaaGreatDoorMG15
import Derived.Deep.DeepCutAuto
set_option linter.unusedSimpArgs false
set_option linter.unusedVariables false
namespace Go.Proofs.YthpjffhccjlnhaaGreatDoor
open Go.RowKit
attribute [local go_sem] Oper.semAt_some

def FitsRPost (t : Typ) (r : List Rng) (s : Nat) (v : List Nat) (w : World) (e : Ending) (w' : World) : Prop :=
 ∃ fa fc, e = .returned (.slice fa (wordsR t r s v).length fc) ∧ RowOwn w.heap.size w' fa ((wordsR t r s v).map wordV) ∧ (wordsR t r s v).length ≤ fc ∧ Below w.heap.size w w'
structure FrSt (t : Typ) (r : List Rng) (s : Nat) (v : List Nat) (w1 : World) (x : Value) (i : Nat) (W : World) : Prop where
 o : W.ownsRow w1.heap.size 9 1 x (wordsTo t r s v i).length ((wordsTo t r s v i).map wordV)
 b : Below w1.heap.size w1 W
theorem FrSt.below {t : Typ} {r : List Rng} {s : Nat} {v : List Nat} {w1 : World} {x : Value} {i : Nat} {W W' : World} (h : FrSt t r s v w1 x i W) (hb : Below W.heap.size W W') : FrSt t r s v w1 x i W' :=
 ⟨ownsRow_keep h.o (Keep.of_below' (K := fun _ => True) hb) (fun _ _ => trivial), h.b.trans (hb.mono h.b.size)⟩
theorem wordV_one (L : List (List Nat)) : ∀ u ∈ L.map wordV, u.oneCell' = true := fun u hu => by
 obtain ⟨v, _, rfl⟩ := List.mem_map.1 hu; rfl
theorem wordV_cat {X N : ByteArray} {v : List Nat} {i c : Nat} (hX : bl X = toS v) (hN : bl (N.extract i (i + 1)) = [chC c]) : mkB (toS (v ++ [c])) = X ++ N.extract i (i + 1) := by
 rw [← mkB_bl (X ++ N.extract i (i + 1)), bl_app, hX, hN]
 unfold toS
 rw [List.map_append]; rfl
theorem last_of {X : ByteArray} {v : List Nat} (hX : bl X = toS v) (hs : X.size = v.length) (h0 : 0 < X.size) : ∃ q u c, X.size = q + 1 ∧ v = u ++ [c] ∧ ∃ h : q < X.size, X[q] = chC c := by
 obtain ⟨q, hq⟩ : ∃ q, X.size = q + 1 := ⟨X.size - 1, by omega⟩
 have hne : v ≠ [] := by
  intro e
  rw [e] at hs
  have : X.size = 0 := hs
  omega
 have hqx : q < X.size := by omega
 refine ⟨q, v.dropLast, v.getLast hne, hq, (List.dropLast_concat_getLast hne).symm, hqx, ?_⟩
 have h1 := bl_at X hqx
 rw [hX] at h1
 unfold toS at h1
 rw [List.getElem?_map] at h1
 have e : v[q]? = some (v.getLast hne) := by
  rw [← List.getLast?_eq_some_getLast hne, List.getLast?_eq_getElem?]
  congr 1; omega
 rw [e] at h1
 exact (Option.some.inj h1).symm
set_option maxRecDepth 100000 in
set_option maxHeartbeats 8000000 in
theorem fitsR_step (t : Typ) (hsm : SmlT t) (hts : t.sets = true) (h1 : 1 ≤ t.least) (hm : t.most = (t.m : Int)) (hm6 : t.m ≤ 6) (h3 : ∀ c, c < 26 → (t.after c).size ≤ 3) (ra : Option Addr) (rc : Nat) (r : List Rng) (hg : RgOk r) (s : Nat) (hs : s < shiftsOf t r) (hs1 : s ≤ 1000)
  (v : List Nat) (hv : v.length ≤ t.m) (hv26 : ∀ c, c ∈ v → c < 26)
  (IH : v.length < t.m → ∀ c, c < 26 → ∀ W, RngsAt W ra r → Calls Tryz.prog 140 #[.agg (typCells t), .slice ra r.length rc, .int .i64 (s : Int), .string (mkB (toS (v ++ [c])))] W (FitsRPost t r s (v ++ [c]) W))
  (w : World) (hR : RngsAt w ra r) :
  Calls Tryz.prog 140 #[.agg (typCells t), .slice ra r.length rc, .int .i64 (s : Int), .string (mkB (toS v))] w (FitsRPost t r s v w) := by
 obtain ⟨w1, hw1⟩ : ∃ w1, w.alloc (.cells (typCells t) 71) = w1 := ⟨_, rfl⟩
 have b0 : TypAt w1 w.heap.size 0 t := by rw [← hw1]; exact Box.typ (Box.new _ _ _)
 have hB : Below w.heap.size w w1 := by rw [← hw1]; go_grown
 have HX := Lib.hid b0
 have HR := Lib.hid (hR.below hB)
 have HB := Lib.hid hB
 have HW := Lib.hid hw1
 have HSM := Lib.hid hsm
 have HTS := Lib.hid hts
 have H1 := Lib.hid h1
 have HG := Lib.hid hg
 have HKS := Lib.hid hs
 have HM := Lib.hid hm
 have H3 := Lib.hid h3
 have HV26 := Lib.hid hv26
 have HIH := Lib.hid IH
 obtain ⟨X, hX⟩ : ∃ X, mkB (toS v) = X := ⟨_, rfl⟩
 have HBX := Lib.hid (show bl X = toS v by rw [← hX, bl_mkB])
 have HXS := Lib.hid (show X.size = v.length by rw [← hX, mkB_size]; unfold toS; rw [List.length_map])
 have hxm : X.size ≤ t.m := by have := HXS.out; omega
 rw [hX]
 clear b0 hB hw1 hsm hts h1 hg hs hR hm h3 hv26 IH hX
 go_enter Tryz.func140, Tryz.ntmps140
 go_upto_region 1 with fail
 simp only [HW.out]
 go_upto_region 2 with fail
 go_cut [32] (fun c wx => c = .bool (stopV t r s v) ∧ Below w1.heap.size w1 wx)
 case first =>
  rcases Nat.eq_zero_or_pos X.size with h0 | h0
  ·have hgt : ¬ (0 : Int) < (X.size : Int) := by omega
   have HST := Lib.hid (show stopV t r s v = false by
    have hv0 : v = [] := List.length_eq_zero_iff.1 (by rw [← HXS.out]; exact h0)
    rw [hv0]; rfl)
   have hgd : decide (0 < X.size) = false := decide_eq_false (by omega)
   clear h0
   refine wp_region_heldB 21 [] (by kernel_rfl) (by kernel_rfl) (by kernel_rfl) (by simp) ?_
   intro S' hS
   have K0 := trivial
   have HS := Lib.hid hS
   clear hS
   simp only [List.take_succ_cons, List.take_zero, List.drop_succ_cons, List.drop_zero]
   repeat (first
    | (refine held_val (v := .bool false) rfl (by rfl) ?_ ?_; (· (intro W hW; go_simp; done)); try (dsimp only); try simp only [Act.put, List.setIfInBounds_toArray, List.set_cons_zero, List.set_cons_succ])
    | (refine held_not rfl (by rfl) ?_; try (dsimp only); try simp only [Act.put, List.setIfInBounds_toArray, List.set_cons_zero, List.set_cons_succ])
    | (refine held_val (v := ?_) rfl (by rfl) ?_ ?_; rotate_left; (· (intro W hW; go_simp; try with_reducible rfl)); try (dsimp only); try simp only [Act.put, List.setIfInBounds_toArray, List.set_cons_zero, List.set_cons_succ])
    | (refine held_skip rfl (by rfl) ?_ ?_; (· (intro W hW; go_simp; try with_reducible rfl)); try (dsimp only); try simp only [Act.put, List.setIfInBounds_toArray, List.set_cons_zero, List.set_cons_succ]))
   refine held_nil ?_
   intro τ hτ W2 hW hO
   obtain rfl := laid0 hτ
   have HB2 := Lib.hid (HS.out W2 hW)
   clear hτ hO hW K0 HS
   simp only [overs, List.foldl_nil]
   go_wp2_with fail
   go_meet
   exact ⟨by rw [HST.out], HB2.out⟩
  ·have hgt : (0 : Int) < (X.size : Int) := by omega
   have hgd : decide (0 < X.size) = true := decide_eq_true h0
   obtain ⟨q, u, c, hq, hu, hqx, hz⟩ := last_of HBX.out HXS.out h0
   have hnw : IntKind.i64.wrap ((X.size : Int) - 1) = (q : Int) := by rw [IntWalk.i64_in _ (by omega)]; omega
   have hqi : (q : Int) < (X.size : Int) := by omega
   have hq0 : (0 : Int) ≤ (q : Int) := by omega
   have hc26 : c < 26 := HV26.out c (by rw [hu]; simp)
   obtain ⟨z, hzc⟩ : ∃ z, chC c = z := ⟨_, rfl⟩
   rw [hzc] at hz
   have HSE := Lib.hid (show stopV t r s v = (wholeB t r s X.size && inL (bl t.base) z) by
    rw [HXS.out, ← hzc, hu]
    exact stop_eq H1.out HM.out HKS.out hc26 (by rw [← hu, ← HXS.out]; exact hxm))
   have hwh := fun W hW => wholeR_any t ra rc r s X.size hs1 HG.out W hW
   rcases h3 : wholeB t r s X.size with _ | _
   ·rw [h3] at HSE
    simp only [h3] at hwh
    have HWH := Lib.hid hwh
    have HST := Lib.hid (show stopV t r s v = false by rw [HSE.out]; rfl)
    clear h0 hq hu hc26 hzc hwh h3 HSE
    refine wp_region_heldB 21 [] (by kernel_rfl) (by kernel_rfl) (by kernel_rfl) (by simp) ?_
    intro S' hS
    have K0 := trivial
    have L1 := Lib.hid (fun A hA => TypAt.load (HX.out.below (hS A hA)))
    have R1 := Lib.hid (fun A hA => HR.out.below (hS A hA))
    have HS := Lib.hid hS
    clear hS
    simp only [List.take_succ_cons, List.take_zero, List.drop_succ_cons, List.drop_zero]
    repeat (first
     | (refine held_val (v := .bool true) rfl (by rfl) ?_ ?_; (· (intro W hW; go_simp; done)); try (dsimp only); try simp only [Act.put, List.setIfInBounds_toArray, List.set_cons_zero, List.set_cons_succ])
     | (refine held_load 71 _ (by rfl) rfl rfl L1.out ?_; try (dsimp only); try simp only [Act.put, List.setIfInBounds_toArray, List.set_cons_zero, List.set_cons_succ])
     | (refine held_not rfl (by rfl) ?_; try (dsimp only); try simp only [Act.put, List.setIfInBounds_toArray, List.set_cons_zero, List.set_cons_succ])
     | (refine held_val (v := ?_) rfl (by rfl) ?_ ?_; rotate_left; (· (intro W hW; go_simp; try with_reducible rfl)); try (dsimp only); try simp only [Act.put, List.setIfInBounds_toArray, List.set_cons_zero, List.set_cons_succ])
     | (refine held_skip rfl (by rfl) ?_ ?_; (· (intro W hW; go_simp; try with_reducible rfl)); try (dsimp only); try simp only [Act.put, List.setIfInBounds_toArray, List.set_cons_zero, List.set_cons_succ])
     | (refine held_call (v := .bool false) (f := 111) (args := #[.agg (typCells t), .slice ra r.length rc, .int .i64 (s : Int), .int .i64 (X.size : Int)]) rfl (by rfl) ?_ ?_ ?_; (· (intro W hW; go_simp; done)); (· exact (fun W hW => HWH.out W (R1.out W hW))); try (dsimp only); try simp only [Act.put, List.setIfInBounds_toArray, List.set_cons_zero, List.set_cons_succ]))
    refine held_nil ?_
    intro τ hτ W2 hW hO
    obtain rfl := laid0 hτ
    have HB2 := Lib.hid (HS.out W2 hW)
    clear hτ hO hW K0 HS
    simp only [overs, List.foldl_nil]
    go_wp2_with fail
    go_meet
    exact ⟨by rw [HST.out], HB2.out⟩
   ·rw [h3] at HSE
    simp only [h3] at hwh
    have HWH := Lib.hid hwh
    have HST := Lib.hid (show stopV t r s v = inL (bl t.base) z by rw [HSE.out]; rfl)
    have HIN := Lib.hid (fun W => inR_any t.base z (by have := HSM.out.base; omega) W)
    clear h0 hq hu hc26 hzc hwh h3 HSE
    refine wp_region_heldB 21 [] (by kernel_rfl) (by kernel_rfl) (by kernel_rfl) (by simp) ?_
    intro S' hS
    have k0 : ∀ V, S' V → V.cell? ⟨w.heap.size, 5, none⟩ = some (.string t.base) := fun V hV => by
     have := (HX.out.below (hS V hV)).fields.2.2.2.2.2
     simpa only [Nat.zero_add] using this
    have K0 := Lib.hid k0
    have L1 := Lib.hid (fun A hA => TypAt.load (HX.out.below (hS A hA)))
    have R1 := Lib.hid (fun A hA => HR.out.below (hS A hA))
    have HS := Lib.hid hS
    clear hS k0
    simp only [List.take_succ_cons, List.take_zero, List.drop_succ_cons, List.drop_zero]
    repeat (first
     | (refine held_val (v := .bool true) rfl (by rfl) ?_ ?_; (· (intro W hW; go_simp; done)); try (dsimp only); try simp only [Act.put, List.setIfInBounds_toArray, List.set_cons_zero, List.set_cons_succ])
     | (refine held_load 71 _ (by rfl) rfl rfl L1.out ?_; try (dsimp only); try simp only [Act.put, List.setIfInBounds_toArray, List.set_cons_zero, List.set_cons_succ])
     | (refine held_not rfl (by rfl) ?_; try (dsimp only); try simp only [Act.put, List.setIfInBounds_toArray, List.set_cons_zero, List.set_cons_succ])
     | (refine held_val (v := ?_) rfl (by rfl) ?_ ?_; rotate_left; (· (intro W hW; have q0 := K0.out W hW; go_simp; try with_reducible rfl)); try (dsimp only); try simp only [Act.put, List.setIfInBounds_toArray, List.set_cons_zero, List.set_cons_succ])
     | (refine held_skip rfl (by rfl) ?_ ?_; (· (intro W hW; have q0 := K0.out W hW; go_simp; try with_reducible rfl)); try (dsimp only); try simp only [Act.put, List.setIfInBounds_toArray, List.set_cons_zero, List.set_cons_succ])
     | (refine held_call (v := .bool true) (f := 111) (args := #[.agg (typCells t), .slice ra r.length rc, .int .i64 (s : Int), .int .i64 (X.size : Int)]) rfl (by rfl) ?_ ?_ ?_; (· (intro W hW; go_simp; done)); (· exact (fun W hW => HWH.out W (R1.out W hW))); try (dsimp only); try simp only [Act.put, List.setIfInBounds_toArray, List.set_cons_zero, List.set_cons_succ])
     | (refine held_call (v := .bool (inL (bl t.base) z)) (f := 37) (args := #[.string t.base, .int .u8 z.toNat]) rfl (by rfl) ?_ ?_ ?_; (· (intro W hW; go_simp; done)); (· exact (fun W hW => (HIN.out W).mono fun e w' h => ⟨h.1, h.2 ▸ Below.refl _ _⟩)); try (dsimp only); try simp only [Act.put, List.setIfInBounds_toArray, List.set_cons_zero, List.set_cons_succ]))
    refine held_nil ?_
    intro τ hτ W2 hW hO
    obtain rfl := laid0 hτ
    have HB2 := Lib.hid (HS.out W2 hW)
    clear hτ hO hW K0 HS
    simp only [overs, List.foldl_nil]
    go_wp2_with fail
    go_meet
    exact ⟨by rw [HST.out], HB2.out⟩
 case rest =>
  obtain ⟨rfl, hbc⟩ := hcut
  obtain ⟨w2, rfl⟩ : ∃ x, x = wc := ⟨_, rfl⟩
  have HB2 := Lib.hid hbc
  clear hbc
  go_upto_if 32 with fail
  go_cut [9] (fun s9 wx => FrSt t r s v w1 s9 0 wx)
  case first =>
   obtain ⟨sv, hsv⟩ : ∃ sv, stopV t r s v = sv := ⟨_, rfl⟩
   rw [hsv]
   rcases sv with _ | _
   ·have HW0 := Lib.hid (show wordsTo t r s v 0 = [] by rw [wordsTo_zero]; unfold selfV; rw [hsv]; rfl)
    clear hsv
    go_wp2_with fail
    go_meet
    exact ⟨by rw [HW0.out]; exact ownsRow_nil _ _ _ _, HB2.out⟩
   ·have HW0 := Lib.hid (show wordsTo t r s v 0 = [v] by rw [wordsTo_zero]; unfold selfV; rw [hsv]; rfl)
    have HWV := Lib.hid (show wordV v = .string X by unfold wordV; rw [← HBX.out, mkB_bl])
    clear hsv
    have hbs := run_bslice (P := Tryz.prog) (T := 85) Tryz.underlying85 info_str2 (by omega) (by omega) (v := .string X) (g := fun _ => .string X) rfl w2
    obtain ⟨v', U, hrun, hown, hbU, -, -⟩ := app_fn (P := Tryz.prog) (TT := 85) Tryz.underlying85 info_str rfl (by omega) (by omega) (show w2.ownsRow w1.heap.size 9 1 (.slice none 0 0) 0 [] from ownsRow_nil _ _ _ _) (by omega) HB2.out.size (fun _ => .string X) (fun j _ => rfl)
    have HBS := Lib.hid hbs
    have HRUN := Lib.hid hrun
    have SU := Lib.hid (show FrSt t r s v w1 v' 0 U from ⟨by rw [HW0.out, List.map_cons, HWV.out]; exact hown, HB2.out.trans hbU⟩)
    clear hbs hrun hown hbU
    go_wp2_with (first
     | (apply wpList_bsl (T := 85) (n := 1) (hr := HBS.out); (· rfl); (· (simp only [List.map_toArray, List.map_cons, List.map_nil]; rfl)))
     | (at_builtin; refine wpList_app rfl _ _ _ rfl rfl rfl HRUN.out ?_))
    go_meet
    exact SU.out
  case rest =>
   obtain ⟨w3, rfl⟩ : ∃ x, x = wc := ⟨_, rfl⟩
   obtain ⟨pa, pc, rfl, -, -⟩ := ownsRow_own hcut.o
   have ST := Lib.hid hcut
   have c3 := (HX.out.below hcut.b).fields.2.2.2.1
   simp only [Nat.zero_add, HM.out] at c3
   clear hcut HB2
   by_cases hlt : v.length < t.m
   rotate_left
   ·have hge : (t.m : Int) ≤ (X.size : Int) := by have := HXS.out; omega
    have HE := Lib.hid (show wordsTo t r s v 0 = wordsR t r s v by rw [wordsTo_zero, wordsR_full (by omega)])
    obtain ⟨pa', pc', he, hro, hcap⟩ := ownsRow_own ST.out.o
    cases he
    have HRO := Lib.hid hro
    have HCP := Lib.hid hcap
    clear hro hcap
    go_wp2_with fail
    go_ret
    refine ⟨pa, pc, by rw [HE.out]; rfl, ?_, ?_, HB.out.trans (ST.out.b.mono HB.out.size)⟩
    ·have h := HRO.out
     rw [HE.out] at h
     exact h.less (by have := HB.out.size; omega)
    ·have h := HCP.out
     rw [HE.out] at h; exact h
   have hxl : X.size < t.m := by have := HXS.out; omega
   have hge : ¬ (t.m : Int) ≤ (X.size : Int) := by omega
   have c4 := (HX.out.below ST.out.b).fields.2.2.2.2.1
   simp only [Nat.zero_add] at c4
   have HLT := Lib.hid hlt
   clear hlt
   go_upto_if 47 with fail
   go_cut [10] (fun s10 wx => s10 = .string (nowS t v) ∧ Below w3.heap.size w3 wx)
   case first =>
    clear c3 c4
    rcases Nat.eq_zero_or_pos X.size with h0 | h0
    ·have hgt : ¬ (0 : Int) < (X.size : Int) := by omega
     have HN := Lib.hid (show t.rim = nowS t v by
      have hv0 : v = [] := List.length_eq_zero_iff.1 (by rw [← HXS.out]; exact h0)
      rw [hv0]; rfl)
     clear h0
     go_wp2_with fail
     go_meet
     exact ⟨by rw [HN.out], Below.refl _ _⟩
    ·have hgt : (0 : Int) < (X.size : Int) := by omega
     obtain ⟨q, u, c, hq, hu, hqx, hz⟩ := last_of HBX.out HXS.out h0
     have hnw : IntKind.i64.wrap ((X.size : Int) - 1) = (q : Int) := by rw [IntWalk.i64_in _ (by omega)]; omega
     have hqi : (q : Int) < (X.size : Int) := by omega
     have hq0 : (0 : Int) ≤ (q : Int) := by omega
     have hc26 : c < 26 := HV26.out c (by rw [hu]; simp)
     obtain ⟨z, hzc⟩ : ∃ z, chC c = z := ⟨_, rfl⟩
     rw [hzc] at hz
     have HN := Lib.hid (show aftS t z = nowS t v by
      unfold aftS nowS
      rw [← hzc, chC_nat hc26, if_pos (by omega), hu, List.getLast?_concat, show 97 + c - 97 = c by omega])
     have HAF := Lib.hid (fun W => afterR_any t z W)
     clear h0 hq hu hc26 hzc
     go_upto_region 8 with fail
     refine wp_region_heldB 7 [] (by kernel_rfl) (by kernel_rfl) (by kernel_rfl) (by simp) ?_
     intro S' hS
     have K0 := trivial
     have L1 := Lib.hid (fun A hA => TypAt.load ((HX.out.below ST.out.b).below (hS A hA)))
     have HS := Lib.hid hS
     clear hS
     simp only [List.take_succ_cons, List.take_zero, List.drop_succ_cons, List.drop_zero]
     repeat (first
      | (refine held_load 71 _ (by rfl) rfl rfl L1.out ?_; try (dsimp only); try simp only [Act.put, List.setIfInBounds_toArray, List.set_cons_zero, List.set_cons_succ])
      | (refine held_not rfl (by rfl) ?_; try (dsimp only); try simp only [Act.put, List.setIfInBounds_toArray, List.set_cons_zero, List.set_cons_succ])
      | (refine held_val (v := ?_) rfl (by rfl) ?_ ?_; rotate_left; (· (intro W hW; go_simp; try with_reducible rfl)); try (dsimp only); try simp only [Act.put, List.setIfInBounds_toArray, List.set_cons_zero, List.set_cons_succ])
      | (refine held_skip rfl (by rfl) ?_ ?_; (· (intro W hW; go_simp; try with_reducible rfl)); try (dsimp only); try simp only [Act.put, List.setIfInBounds_toArray, List.set_cons_zero, List.set_cons_succ])
      | (refine held_call (v := .string (aftS t z)) (f := 85) (args := #[.agg (typCells t), .int .u8 z.toNat]) rfl (by rfl) ?_ ?_ ?_; (· (intro W hW; go_simp; done)); (· exact (fun W hW => HAF.out W)); try (dsimp only); try simp only [Act.put, List.setIfInBounds_toArray, List.set_cons_zero, List.set_cons_succ]))
     refine held_nil ?_
     intro τ hτ W2 hW hO
     obtain rfl := laid0 hτ
     have HB2 := Lib.hid (HS.out W2 hW)
     clear hτ hO hW K0 HS
     simp only [overs, List.foldl_nil]
     go_wp2_with fail
     go_meet
     exact ⟨by rw [HN.out], HB2.out⟩
   case rest =>
    obtain ⟨rfl, hbc⟩ := hcut
    obtain ⟨w4, rfl⟩ : ∃ x, x = wc := ⟨_, rfl⟩
    have ST4 := Lib.hid (ST.out.below hbc)
    have HRG := Lib.hid (ringR_any ra rc r s X.size hs1 HG.out w4 (HR.out.below ST4.out.b))
    have hbo := both_any (nowS t v) (ringS r s X.size) (by
     have h := nowS_set HTS.out HV26.out
     have := set_len h
     rw [bl_len] at this; omega) (by have := set_len (ringS_set HG.out.set s X.size); rw [bl_len] at this; omega) w4
    obtain ⟨N, hN⟩ : ∃ N, mkB (str (nextV t r s v)) = N := ⟨_, rfl⟩
    rw [show ringS r s X.size = ringS r s v.length by rw [HXS.out], next_str HTS.out HG.out.set s HV26.out, hN, ← HXS.out] at hbo
    have HBO := Lib.hid hbo
    have HBN := Lib.hid (show bl N = toS (classesOf (nextV t r s v)) by rw [← hN, bl_mkB]; rfl)
    have HNL := Lib.hid (show N.size = (classesOf (nextV t r s v)).length by rw [← bl_len, HBN.out]; unfold toS; rw [List.length_map])
    clear hbc hbo hN ST c3 c4
    go_wp2_with (first
     | (refine HRG.out.mono ?_)
     | (refine HBO.out.mono ?_))
    rintro e w4 ⟨rfl, rfl⟩
    clear HRG HBO
    go_wp2_with fail
    go_loopw [9, 11] (fun ov iv wr => ∃ i : Nat, i ≤ N.size ∧ iv = .int .i64 i ∧ FrSt t r s v w1 ov i wr) (fun _ iv _ => N.size - (intOf iv).toNat)
    case atStart => exact ⟨0, Nat.zero_le _, rfl, ST4.out⟩
    case round =>
     clear ST4
     obtain ⟨i, hi, rfl, st⟩ := hrel
     obtain ⟨pa, pc, rfl, hro, hcap⟩ := ownsRow_own st.o
     have ST := Lib.hid st
     clear st
     by_cases hlt2 : i < N.size
     rotate_left
     ·have hin : decide ((i : Int) < (N.size : Int)) = false := by simp; omega
      have HE := Lib.hid (show wordsTo t r s v i = wordsR t r s v from wordsTo_all HLT.out (by have := HNL.out; omega))
      have HRO := Lib.hid hro
      have HCP := Lib.hid hcap
      clear hro hcap
      go_wp2_with fail
      go_ret
      refine ⟨pa, pc, by rw [HE.out]; rfl, ?_, ?_, HB.out.trans (ST.out.b.mono HB.out.size)⟩
      ·have h := HRO.out
       rw [HE.out] at h
       exact h.less (by have := HB.out.size; omega)
      ·have h := HCP.out
       rw [HE.out] at h; exact h
     clear hro hcap
     obtain ⟨cc, hcc⟩ : ∃ cc, (classesOf (nextV t r s v))[i]? = some cc := ⟨_, List.getElem?_eq_getElem (by rw [← HNL.out]; exact hlt2)⟩
     have hc26 : cc < 26 := by
      have hm := List.mem_of_getElem? hcc
      have hm2 : cc ∈ (List.range 26).filter (nextV t r s v) := hm
      simpa using (List.mem_filter.1 hm2).1
     have hnx : bl (N.extract i (i + 1)) = [chC cc] := bl_one (by rw [HBN.out]; unfold toS; rw [List.getElem?_map, hcc]; rfl)
     have hih := HIH.out HLT.out cc hc26 wr.drew (HR.out.below (ST.out.b.trans (((Below.refl _ wr).drew).mono ST.out.b.size)))
     rw [wordV_cat HBX.out hnx] at hih
     have h1s : (N.extract i (i + 1)).size = 1 := by rw [← bl_len, hnx]; rfl
     have hn26 : N.size ≤ 26 := by rw [← bl_len, HBN.out]; exact str_len (nextV t r s v)
     have hL1 := wordsTo_len (r := r) (s := s) HLT.out i
     have hL2 := wordsR_len HTS.out hm6 H3.out r s v
     have hL3 := wordsR_len HTS.out hm6 H3.out r s (v ++ [cc])
     have HIHC := Lib.hid hih
     have HCC := Lib.hid hcc
     have hki : (i : Int) < (N.size : Int) := by omega
     have hk0 : (0 : Int) ≤ (i : Int) := by omega
     have hkw : IntKind.i64.wrap ((i : Int) + 1) = (i : Int) + 1 := IntWalk.i64_in _ (by omega)
     have hkle : (i : Int) ≤ (i : Int) + 1 := by omega
     have hks : (i : Int) + 1 ≤ (N.size : Int) := by omega
     clear hih hcc hnx hc26
     go_upto_region 13 with fail
     refine wp_region_M (fun V => Below w1.heap.size w1 V) 13 (by kernel_rfl) ?_
     have hbd : Below wr.heap.size wr wr.drew := (Below.refl _ wr).drew
     have hSS : Below w1.heap.size w1 wr.drew := ST.out.b.trans (hbd.mono ST.out.b.size)
     have K0 := trivial
     refine anyM_take (i := 0) (v := ?_) (by kernel_rfl) rfl (by kernel_rfl) (by kernel_rfl) (by kernel_rfl) (by kernel_rfl) (fun _ _ _ h => h) (by rfl) ?_ hSS ?_
     rotate_left
     ·(intro W hW; go_simp; try with_reducible rfl)
     try (dsimp only); try simp only [Act.put, List.setIfInBounds_toArray, List.set_cons_zero, List.set_cons_succ]
     refine anyM_load (i := 1) 71 _ (by kernel_rfl) rfl (by kernel_rfl) (by kernel_rfl) (by kernel_rfl) (by kernel_rfl) (fun _ _ _ h => h) (by rfl) rfl (by rfl) (fun V hV => TypAt.load (HX.out.below hV)) hSS ?_
     try (dsimp only); try simp only [Act.put, List.setIfInBounds_toArray, List.set_cons_zero, List.set_cons_succ]
     refine anyM_take (i := 2) (v := ?_) (by kernel_rfl) rfl (by kernel_rfl) (by kernel_rfl) (by kernel_rfl) (by kernel_rfl) (fun _ _ _ h => h) (by rfl) ?_ hSS ?_
     rotate_left
     ·(intro W hW; go_simp; try with_reducible rfl)
     try (dsimp only); try simp only [Act.put, List.setIfInBounds_toArray, List.set_cons_zero, List.set_cons_succ]
     refine anyM_take (i := 3) (v := ?_) (by kernel_rfl) rfl (by kernel_rfl) (by kernel_rfl) (by kernel_rfl) (by kernel_rfl) (fun _ _ _ h => h) (by rfl) ?_ hSS ?_
     rotate_left
     ·(intro W hW; go_simp; try with_reducible rfl)
     try (dsimp only); try simp only [Act.put, List.setIfInBounds_toArray, List.set_cons_zero, List.set_cons_succ]
     refine anyM_take (i := 4) (v := ?_) (by kernel_rfl) rfl (by kernel_rfl) (by kernel_rfl) (by kernel_rfl) (by kernel_rfl) (fun _ _ _ h => h) (by rfl) ?_ hSS ?_
     rotate_left
     ·(intro W hW; go_simp; try with_reducible rfl)
     try (dsimp only); try simp only [Act.put, List.setIfInBounds_toArray, List.set_cons_zero, List.set_cons_succ]
     refine anyM_take (i := 5) (v := ?_) (by kernel_rfl) rfl (by kernel_rfl) (by kernel_rfl) (by kernel_rfl) (by kernel_rfl) (fun _ _ _ h => h) (by rfl) ?_ hSS ?_
     rotate_left
     ·(intro W hW; go_simp; try with_reducible rfl)
     try (dsimp only); try simp only [Act.put, List.setIfInBounds_toArray, List.set_cons_zero, List.set_cons_succ]
     refine anyM_take (i := 6) (v := ?_) (by kernel_rfl) rfl (by kernel_rfl) (by kernel_rfl) (by kernel_rfl) (by kernel_rfl) (fun _ _ _ h => h) (by rfl) ?_ hSS ?_
     rotate_left
     ·(intro W hW; go_simp; try with_reducible rfl)
     try (dsimp only); try simp only [Act.put, List.setIfInBounds_toArray, List.set_cons_zero, List.set_cons_succ]
     refine anyM_take (i := 7) (v := ?_) (by kernel_rfl) rfl (by kernel_rfl) (by kernel_rfl) (by kernel_rfl) (by kernel_rfl) (fun _ _ _ h => h) (by rfl) ?_ hSS ?_
     rotate_left
     ·(intro W hW; go_simp; try with_reducible rfl)
     try (dsimp only); try simp only [Act.put, List.setIfInBounds_toArray, List.set_cons_zero, List.set_cons_succ]
     refine anyM_take (i := 8) (v := ?_) (by kernel_rfl) rfl (by kernel_rfl) (by kernel_rfl) (by kernel_rfl) (by kernel_rfl) (fun _ _ _ h => h) (by rfl) ?_ hSS ?_
     rotate_left
     ·(intro W hW; go_simp; try with_reducible rfl)
     try (dsimp only); try simp only [Act.put, List.setIfInBounds_toArray, List.set_cons_zero, List.set_cons_succ]
     refine anyM_take (i := 9) (v := ?_) (by kernel_rfl) rfl (by kernel_rfl) (by kernel_rfl) (by kernel_rfl) (by kernel_rfl) (fun _ _ _ h => h) (by rfl) ?_ hSS ?_
     rotate_left
     ·(intro W hW; go_simp; try with_reducible rfl)
     try (dsimp only); try simp only [Act.put, List.setIfInBounds_toArray, List.set_cons_zero, List.set_cons_succ]
     refine anyM_run (i := 10) (v := .string (X ++ N.extract i (i + 1))) (w' := wr.drew) rfl (by kernel_rfl) (by rfl) ?_ (.inr hSS) ?_
     ·exact exec_cat _ _ _ rfl (by rfl) (by rfl) (by omega)
     try (dsimp only); try simp only [Act.put, List.setIfInBounds_toArray, List.set_cons_zero, List.set_cons_succ]
     refine anyM_call (i := 11) (f := 140) (args := #[.agg (typCells t), .slice ra r.length rc, .int .i64 (s : Int), .string (X ++ N.extract i (i + 1))]) rfl (by kernel_rfl) (by rfl) ?_ HIHC.out ?_
     ·go_simp
     rintro e U3 ⟨fa, fc, rfl, hro, hcap, hb3⟩
     have hb3' : Below wr.heap.size wr U3 := hbd.trans hb3
     have ST3 := ST.out.below hb3'
     refine .inl ⟨_, rfl, .inr ST3.b, ?_⟩
     try (dsimp only); try simp only [Act.put, List.setIfInBounds_toArray, List.set_cons_zero, List.set_cons_succ]
     obtain ⟨x', U4, hr4, ho4, hg4, -⟩ := run_append_row (P := Tryz.prog) U3 w1.heap.size 85 85 9 _ 1 16 Tryz.underlying85 info_str rfl (by omega)
      _ _ _ ST3.o fa (wordsR t r s (v ++ [cc])).length fc ((wordsR t r s (v ++ [cc])).map wordV) (by simp) hro.row (wordV_one _) (show (wordsTo t r s v i).length + (wordsR t r s (v ++ [cc])).length ≤ 1000000 by omega) (by omega) ST3.b.size
     have hb4 : Below w1.heap.size w1 U4 := ST3.b.grown hg4 ST3.b.size (fun j hj => (ST3.o.lt j hj).1)
     refine anyM_run (i := 12) (v := x') (w' := U4) rfl (by kernel_rfl) (by rfl) ?_ (.inr hb4) ?_
     ·refine exec_app (v := .slice pa (wordsTo t r s v i).length pc) (u := .slice fa (wordsR t r s (v ++ [cc])).length fc) _ _ 85 rfl (by rfl) (by rfl) ?_
      exact hr4
     try (dsimp only); try simp only [Act.put, List.setIfInBounds_toArray, List.set_cons_zero, List.set_cons_succ]
     refine anyM_run (i := 13) (v := x') (w' := U4) rfl (by kernel_rfl) (by rfl) ?_ (.inr hb4) ?_
     ·go_simp
     try (dsimp only); try simp only [Act.put, List.setIfInBounds_toArray, List.set_cons_zero, List.set_cons_succ]
     refine anyM_done (by kernel_rfl) ?_ _
     have HNX := Lib.hid (show FrSt t r s v w1 x' (i + 1) U4 from ⟨by rw [wordsTo_succ HCC.out, List.length_append, List.map_append]; exact ho4, hb4⟩)
     clear hro hcap hb3 hb3' ST3 hr4 ho4 hg4 hb4 hSS hbd
     go_wp2_with fail
     go_roundw
     case rel => exact ⟨i + 1, by omega, by go_num, HNX.out⟩
     case measure => simp [intOf]; omega
theorem fitsR_any (t : Typ) (hsm : SmlT t) (hts : t.sets = true) (h1 : 1 ≤ t.least) (hm : t.most = (t.m : Int)) (hm6 : t.m ≤ 6) (h3 : ∀ c, c < 26 → (t.after c).size ≤ 3) (ra : Option Addr) (rc : Nat) (r : List Rng) (hg : RgOk r) (s : Nat) (hs : s < shiftsOf t r) (hs1 : s ≤ 1000) :
  ∀ (d : Nat) (v : List Nat), v.length + d = t.m → (∀ c, c ∈ v → c < 26) → ∀ w, RngsAt w ra r → Calls Tryz.prog 140 #[.agg (typCells t), .slice ra r.length rc, .int .i64 (s : Int), .string (mkB (toS v))] w (FitsRPost t r s v w)
 | 0, v, hv, hc, w, hw => fitsR_step t hsm hts h1 hm hm6 h3 ra rc r hg s hs hs1 v (by omega) hc (fun h => absurd h (by omega)) w hw
 | d + 1, v, hv, hc, w, hw => fitsR_step t hsm hts h1 hm hm6 h3 ra rc r hg s hs hs1 v (by omega) hc (fun _ c hc26 W hW => fitsR_any t hsm hts h1 hm hm6 h3 ra rc r hg s hs hs1 d (v ++ [c]) (by rw [List.length_append]; simp; omega) (fun x hx => by
   rcases List.mem_append.1 hx with h | h
   ·exact hc x h
   ·rw [List.mem_singleton] at h; rw [h]; exact hc26) W hW) w hw
end Go.Proofs.YthpjffhccjlnhaaGreatDoor
