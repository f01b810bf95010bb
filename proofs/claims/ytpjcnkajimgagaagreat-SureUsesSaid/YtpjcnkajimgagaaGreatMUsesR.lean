/- The reference's Uses. -/
import Derived.Test.YtpjcnkajimgagaaGreatMUsesO
import Derived.Test.YtpjcnkajimgagaaGreatMWith1
set_option linter.unusedSimpArgs false
set_option linter.unusedVariables false
namespace Go.Proofs.YtpjcnkajimgagaaGreat
open Go.RowKit
attribute [local go_sem] Oper.semAt_some

set_option maxRecDepth 100000 in
set_option maxHeartbeats 4000000 in
theorem uses_ref (c : Cs) (hsm : c.Small) (pa : Option Addr) (pc : Nat) (x y : Int) (t : Bool) (l : List Br) (hll : l.length ≤ 2000 ∨ 20000 < l.length ∧ l.length ≤ 1000000) (hls : ∀ z ∈ l, z.Small) (ra : Option Addr) (rc : Nat) (w : World) (hp : PartsAt w pa c.parts) (hbr : BrsAt w ra l) (hrc : l.length ≤ rc) :
  Calls Tryz.prog 18 #[.agg #[.string c.ware, .int .i64 c.limit, .int .i64 c.by_, .slice pa c.parts.length pc], .int .i64 x, .int .i64 y, .bool t, .slice ra l.length rc] w
   (UsesPost (usesOut c (openErr c [x, y]) x.toNat y.toNat t l) w) := by
 obtain ⟨w1, hw1⟩ : ∃ w1, w.alloc (.cells #[.string c.ware, .int .i64 c.limit, .int .i64 c.by_, .slice pa c.parts.length pc] 24) = w1 := ⟨_, rfl⟩
 have hB1 : Below w.heap.size w w1 := by rw [← hw1]; go_grown
 have b1 : Box w1 w.heap.size (csCells c pa pc) 24 := by rw [← hw1]; exact Box.new _ _ _
 have e1 : ∀ i, w1.cell? ⟨w.heap.size, i, none⟩ = (#[.string c.ware, .int .i64 c.limit, .int .i64 c.by_, .slice pa c.parts.length pc] : Array Value)[i]? := b1.cell
 have hak := asked_ref c hsm pa pc x y w1 (hp.below hB1)
 have HP := Lib.hid hp
 have HBR := Lib.hid hbr
 have HLS := Lib.hid hls
 have HW := Lib.hid hw1
 have HB1 := Lib.hid hB1
 have HX := Lib.hid b1
 have HAK := Lib.hid hak
 clear hw1 hB1 b1 hak hp hbr hls
 by_cases hz : openErr c [x, y] = 0
 ·have h8 := check_small hz
  have hlim := check_lim (open_check hz)
  have hx := open_in hz x (by simp)
  have hy := open_in hz y (by simp)
  obtain ⟨a, rfl⟩ := Int.eq_ofNat_of_zero_le hx.1
  obtain ⟨b, rfl⟩ := Int.eq_ofNat_of_zero_le hy.1
  have hal : a < c.parts.length := by omega
  have hbl : b < c.parts.length := by omega
  obtain ⟨k, hk⟩ : ∃ k : Nat, (if t then 1 else 2) = k := ⟨_, rfl⟩
  have hk3 : k ≤ 3 := by rw [← hk]; cases t <;> simp
  have HHW := Lib.hid (fun W => (how_any t W).mono (fun (e : Ending) (w' : World) (h : e = .returned (.int .i64 (if t then 1 else 2)) ∧ W = w') => (⟨by rw [h.1, ← hk]; cases t <;> rfl, h.2⟩ : e = .returned (.int .i64 (k : Int)) ∧ W = w')))
  have HBD := Lib.hid (show decWith (fun _ _ => 0) a b k = beginD a b t by rw [← hk]; rfl)
  clear hk
  have HZ := Lib.hid hz
  rw [hz] at HAK
  simp only [Int.toNat_natCast]
  clear hz hx hy
  go_enter Tryz.func18, Tryz.ntmps18
  go_upto_region 1 with fail
  simp only [HW.out]
  go_upto_region 5 with (go_at_call 57; (with_reducible refine HAK.out.mono ?_); rintro e w3 ⟨rfl, hb3⟩; have HX := Lib.hid (HX.out.below' hb3); have HB3 := Lib.hid (HB1.out.trans (hb3.mono HB1.out.size)); clear hb3)
  have g4 : Box (w3.alloc (.cells #[.int .i64 0, .int .i64 0, .int .i64 0, .int .i64 0, .int .i64 0, .int .i64 0, .int .i64 0, .int .i64 0, .int .i64 0, .int .i64 0, .int .i64 0, .int .i64 0, .int .i64 0, .int .i64 0, .int .i64 0, .int .i64 0, .int .i64 0, .int .i64 0, .int .i64 0, .int .i64 0, .int .i64 0, .int .i64 0, .int .i64 0, .int .i64 0, .int .i64 0, .int .i64 0, .int .i64 0, .int .i64 0, .int .i64 0, .int .i64 0, .int .i64 0, .int .i64 0, .int .i64 0, .int .i64 0, .int .i64 0, .int .i64 0, .int .i64 0, .int .i64 0, .int .i64 0, .int .i64 0, .int .i64 0, .int .i64 0, .int .i64 0, .int .i64 0, .int .i64 0, .int .i64 0, .int .i64 0, .int .i64 0, .int .i64 0, .int .i64 0, .int .i64 0, .int .i64 0, .int .i64 0, .int .i64 0, .int .i64 0, .int .i64 0, .int .i64 0, .int .i64 0, .int .i64 0, .int .i64 0, .int .i64 0, .int .i64 0, .int .i64 0, .int .i64 0] 115)) w3.heap.size (dciCells fun _ _ => 0) 115 := by rw [zero_dci]; exact Box.new _ _ _
  have gX := HX.out.alloc (.cells #[.int .i64 0, .int .i64 0, .int .i64 0, .int .i64 0, .int .i64 0, .int .i64 0, .int .i64 0, .int .i64 0, .int .i64 0, .int .i64 0, .int .i64 0, .int .i64 0, .int .i64 0, .int .i64 0, .int .i64 0, .int .i64 0, .int .i64 0, .int .i64 0, .int .i64 0, .int .i64 0, .int .i64 0, .int .i64 0, .int .i64 0, .int .i64 0, .int .i64 0, .int .i64 0, .int .i64 0, .int .i64 0, .int .i64 0, .int .i64 0, .int .i64 0, .int .i64 0, .int .i64 0, .int .i64 0, .int .i64 0, .int .i64 0, .int .i64 0, .int .i64 0, .int .i64 0, .int .i64 0, .int .i64 0, .int .i64 0, .int .i64 0, .int .i64 0, .int .i64 0, .int .i64 0, .int .i64 0, .int .i64 0, .int .i64 0, .int .i64 0, .int .i64 0, .int .i64 0, .int .i64 0, .int .i64 0, .int .i64 0, .int .i64 0, .int .i64 0, .int .i64 0, .int .i64 0, .int .i64 0, .int .i64 0, .int .i64 0, .int .i64 0, .int .i64 0] 115)
  have gB := HB3.out.alloc HB3.out.size (.cells #[.int .i64 0, .int .i64 0, .int .i64 0, .int .i64 0, .int .i64 0, .int .i64 0, .int .i64 0, .int .i64 0, .int .i64 0, .int .i64 0, .int .i64 0, .int .i64 0, .int .i64 0, .int .i64 0, .int .i64 0, .int .i64 0, .int .i64 0, .int .i64 0, .int .i64 0, .int .i64 0, .int .i64 0, .int .i64 0, .int .i64 0, .int .i64 0, .int .i64 0, .int .i64 0, .int .i64 0, .int .i64 0, .int .i64 0, .int .i64 0, .int .i64 0, .int .i64 0, .int .i64 0, .int .i64 0, .int .i64 0, .int .i64 0, .int .i64 0, .int .i64 0, .int .i64 0, .int .i64 0, .int .i64 0, .int .i64 0, .int .i64 0, .int .i64 0, .int .i64 0, .int .i64 0, .int .i64 0, .int .i64 0, .int .i64 0, .int .i64 0, .int .i64 0, .int .i64 0, .int .i64 0, .int .i64 0, .int .i64 0, .int .i64 0, .int .i64 0, .int .i64 0, .int .i64 0, .int .i64 0, .int .i64 0, .int .i64 0, .int .i64 0, .int .i64 0] 115)
  generalize w3.alloc (.cells #[.int .i64 0, .int .i64 0, .int .i64 0, .int .i64 0, .int .i64 0, .int .i64 0, .int .i64 0, .int .i64 0, .int .i64 0, .int .i64 0, .int .i64 0, .int .i64 0, .int .i64 0, .int .i64 0, .int .i64 0, .int .i64 0, .int .i64 0, .int .i64 0, .int .i64 0, .int .i64 0, .int .i64 0, .int .i64 0, .int .i64 0, .int .i64 0, .int .i64 0, .int .i64 0, .int .i64 0, .int .i64 0, .int .i64 0, .int .i64 0, .int .i64 0, .int .i64 0, .int .i64 0, .int .i64 0, .int .i64 0, .int .i64 0, .int .i64 0, .int .i64 0, .int .i64 0, .int .i64 0, .int .i64 0, .int .i64 0, .int .i64 0, .int .i64 0, .int .i64 0, .int .i64 0, .int .i64 0, .int .i64 0, .int .i64 0, .int .i64 0, .int .i64 0, .int .i64 0, .int .i64 0, .int .i64 0, .int .i64 0, .int .i64 0, .int .i64 0, .int .i64 0, .int .i64 0, .int .i64 0, .int .i64 0, .int .i64 0, .int .i64 0, .int .i64 0] 115) = w4 at *
  generalize w3.heap.size = g at *
  have HX := Lib.hid gX
  have HG := Lib.hid g4
  have HB4 := Lib.hid gB
  clear gX g4 gB e1 HB3
  have k0 : ∀ A, Below w4.heap.size w4 A → ∀ i, A.cell? ⟨w.heap.size, i, none⟩ = (#[.string c.ware, .int .i64 c.limit, .int .i64 c.by_, .slice pa c.parts.length pc] : Array Value)[i]? := fun A hA => (HX.out.below' hA).cell
  have kd : ∀ A, Below w4.heap.size w4 A → (Instr.loadAt 115 (.pointer (some ⟨g, 0, none⟩))).run Tryz.prog A = .ok (.agg (dciCells fun _ _ => 0)) A := fun A hA => run_dci (HG.out.below' hA)
  have K0 := Lib.hid k0
  have KD := Lib.hid kd
  clear k0 kd
  refine wp_region_L (fun A => Below w4.heap.size w4 A) 13 (by kernel_rfl) ?_
  have hSS : Below w4.heap.size w4 w4.drew := (Below.refl _ w4).drew
  refine anyL_take (i := 0) (v := ?_) (by kernel_rfl) rfl (by kernel_rfl) (by kernel_rfl) (by kernel_rfl) (by kernel_rfl) (fun _ _ _ h => h) (by rfl) ?_ hSS ?_
  rotate_left
  ·(intro W hW; have q0 := K0.out W hW; go_simp; try with_reducible rfl)
  try (dsimp only); try simp only [Act.put, List.setIfInBounds_toArray, List.set_cons_zero, List.set_cons_succ]
  refine anyL_load (i := 1) 115 _ (by kernel_rfl) rfl (by kernel_rfl) (by kernel_rfl) (by kernel_rfl) (by kernel_rfl) (fun _ _ _ h => h) (by rfl) rfl rfl KD.out hSS ?_
  try (dsimp only); try simp only [Act.put, List.setIfInBounds_toArray, List.set_cons_zero, List.set_cons_succ]
  have hal := hal
  refine anyL_take (i := 2) (v := ?_) (by kernel_rfl) rfl (by kernel_rfl) (by kernel_rfl) (by kernel_rfl) (by kernel_rfl) (fun _ _ _ h => h) (by rfl) ?_ hSS ?_
  rotate_left
  ·(intro W hW; have q0 := K0.out W hW; go_simp; try with_reducible rfl)
  try (dsimp only); try simp only [Act.put, List.setIfInBounds_toArray, List.set_cons_zero, List.set_cons_succ]
  refine anyL_take (i := 3) (v := ?_) (by kernel_rfl) rfl (by kernel_rfl) (by kernel_rfl) (by kernel_rfl) (by kernel_rfl) (fun _ _ _ h => h) (by rfl) ?_ hSS ?_
  rotate_left
  ·(intro W hW; have q0 := K0.out W hW; go_simp; try with_reducible rfl)
  try (dsimp only); try simp only [Act.put, List.setIfInBounds_toArray, List.set_cons_zero, List.set_cons_succ]
  refine anyL_take (i := 4) (v := ?_) (by kernel_rfl) rfl (by kernel_rfl) (by kernel_rfl) (by kernel_rfl) (by kernel_rfl) (fun _ _ _ h => h) (by rfl) ?_ hSS ?_
  rotate_left
  ·(intro W hW; have q0 := K0.out W hW; go_simp; try with_reducible rfl)
  try (dsimp only); try simp only [Act.put, List.setIfInBounds_toArray, List.set_cons_zero, List.set_cons_succ]
  refine anyL_take (i := 7) (v := ?_) (by kernel_rfl) rfl (by kernel_rfl) (by kernel_rfl) (by kernel_rfl) (by kernel_rfl) (fun _ _ _ h => h) (by rfl) ?_ hSS ?_
  rotate_left
  ·(intro W hW; have q0 := K0.out W hW; go_simp; try with_reducible rfl)
  try (dsimp only); try simp only [Act.put, List.setIfInBounds_toArray, List.set_cons_zero, List.set_cons_succ]
  refine anyL_call (i := 5) (f := 60) (args := #[.bool t]) rfl (by kernel_rfl) (by rfl) (by go_simp) (HHW.out _) ?_
  rintro e w5 ⟨rfl, rfl⟩
  refine .inl ⟨_, rfl, .inr hSS, ?_⟩
  try (dsimp only); try simp only [Act.put, List.setIfInBounds_toArray, List.set_cons_zero, List.set_cons_succ]
  refine anyL_call (i := 6) (f := 59) (args := #[.agg (dciCells fun _ _ => 0), .int .i64 (a : Int), .int .i64 (b : Int), .int .i64 (k : Int)]) rfl (by kernel_rfl) (by rfl) ?_ (withR_any _ zero_sym a b k _ (by omega) (by omega) zero_le3 hk3) ?_
  ·go_simp
  rintro e w6 ⟨rfl, hb6⟩
  have hb7 : Below w4.heap.size w4 w6 := hSS.trans hb6
  refine .inl ⟨_, rfl, .inr hb7, ?_⟩
  try (dsimp only); try simp only [Act.put, List.setIfInBounds_toArray, List.set_cons_zero, List.set_cons_succ]
  have hold6 : Below w.heap.size w w6 := HB4.out.trans (hb7.mono HB4.out.size)
  refine anyL_call (i := 8) (f := 58) (args := #[.agg #[.string c.ware, .int .i64 c.limit, .int .i64 c.by_, .slice pa c.parts.length pc], .agg (dciCells (decWith (fun _ _ => 0) a b k)), .slice ra l.length rc]) rfl (by kernel_rfl) (by rfl) ?_ (refutedR_any c c.parts.length rfl h8 hlim pa pc (decWith (fun _ _ => 0) a b k) l ra rc w6 (by omega) (decWith_sym zero_sym _ _ _) (supp_with (zero_supp _) zero_sym hal hbl) (decWith_le zero_le3 hk3) HLS.out hrc (HP.out.below hold6) (HBR.out.below hold6)) ?_
  ·go_simp
  rintro e w7 ⟨hb8, qa, qk, qc, rfl, hev⟩
  have hb9 : Below w4.heap.size w4 w7 := hb7.trans (hb8.mono hb7.size)
  refine .inl ⟨_, rfl, .inr hb9, ?_⟩
  try (dsimp only); try simp only [Act.put, List.setIfInBounds_toArray, List.set_cons_zero, List.set_cons_succ]
  have hSS := hb9
  refine anyL_run (i := 9) (v := ?_) (w' := w7) rfl (by kernel_rfl) (by rfl) (by (go_simp; try with_reducible rfl)) (.inr hb9) ?_
  try (dsimp only); try simp only [Act.put, List.setIfInBounds_toArray, List.set_cons_zero, List.set_cons_succ]
  refine anyL_take (i := 10) (v := ?_) (by kernel_rfl) rfl (by kernel_rfl) (by kernel_rfl) (by kernel_rfl) (by kernel_rfl) (fun _ _ _ h => h) (by rfl) ?_ hSS ?_
  rotate_left
  ·(intro W hW; have q0 := K0.out W hW; go_simp; try with_reducible rfl)
  try (dsimp only); try simp only [Act.put, List.setIfInBounds_toArray, List.set_cons_zero, List.set_cons_succ]
  refine anyL_take (i := 11) (v := ?_) (by kernel_rfl) rfl (by kernel_rfl) (by kernel_rfl) (by kernel_rfl) (by kernel_rfl) (fun _ _ _ h => h) (by rfl) ?_ hSS ?_
  rotate_left
  ·(intro W hW; have q0 := K0.out W hW; go_simp; try with_reducible rfl)
  try (dsimp only); try simp only [Act.put, List.setIfInBounds_toArray, List.set_cons_zero, List.set_cons_succ]
  refine anyL_run (i := 12) (v := ?_) (w' := w7) rfl (by kernel_rfl) (by rfl) (by (go_simp; try with_reducible rfl)) (.inr hb9) ?_
  try (dsimp only); try simp only [Act.put, List.setIfInBounds_toArray, List.set_cons_zero, List.set_cons_succ]
  refine anyL_run (i := 13) (v := ?_) (w' := w7) rfl (by kernel_rfl) (by rfl) (by (go_simp; try with_reducible rfl)) (.inl rfl) ?_
  try (dsimp only); try simp only [Act.put, List.setIfInBounds_toArray, List.set_cons_zero, List.set_cons_succ]
  refine anyL_done (by kernel_rfl) ?_ _
  have HEND := Lib.hid (HB4.out.trans (hb9.mono HB4.out.size))
  rw [HBD.out] at hev
  simp only [HBD.out]
  clear hb6 hb7 hb8 hb9 hold6 hSS K0 KD HBD HHW
  rcases hr : refutedB c c.parts.length (beginD a b t) l with _ | ev
  ·have HR := Lib.hid hr
   clear hr hev
   simp only [Option.isSome_none]
   go_wp2_with fail
   go_ret2
   unfold usesOut
   rw [if_pos HZ.out, HR.out]
   exact usesPost_no HEND.out
  ·obtain ⟨rfl, hi7, hc7, hl7⟩ := hev ev hr
   have HR := Lib.hid hr
   have HI := Lib.hid hi7
   clear hr hev hi7
   simp only [Option.isSome_some]
   obtain ⟨ids, hids⟩ : ∃ ids, evIds c ev = ids := ⟨_, rfl⟩
   rw [hids] at HI hc7 hl7
   simp only [hids]
   have HID := Lib.hid hids
   clear hids
   go_wp2_with fail
   go_loopw [16, 17] (fun ov iv wr => ∃ (i : Nat) (a : Option Addr) (cap : Nat), i ≤ ids.length ∧ iv = .int .i64 i ∧ ov = .slice a (withL (ids.take i)).length cap ∧ Ints wr a (withL (ids.take i)) ∧ (withL (ids.take i)).length ≤ cap ∧ Ints wr qa ids ∧ Below w.heap.size w wr) (fun _ iv _ => ids.length - (intOf iv).toNat)
   case atStart => exact ⟨0, none, 0, Nat.zero_le _, rfl, rfl, Ints.nil _ _, Nat.le_refl _, HI.out, HEND.out⟩
   case round =>
    clear HI HEND
    obtain ⟨i, oa, ocap, hi, rfl, rfl, hoi, hoc, hqi, hB⟩ := hrel
    have HOI := Lib.hid hoi
    have HQI := Lib.hid hqi
    have HB := Lib.hid hB
    by_cases hil : i < ids.length
    ·obtain ⟨b, o, rfl, hc⟩ := hqi.base (by omega)
     obtain ⟨x, hx⟩ := get_of_lt ids hil
     have c1 := hc _ _ hx
     have hin : (i : Int) < (ids.length : Int) := by omega
     have hwl : (withL (ids.take i)).length ≤ 700000 := by
      have h1 := withL_len (ids.take i)
      have h2 : (notN (ids.take i)).length ≤ (ids.take i).length := notN_len _
      have h3 := List.length_take_le i ids
      omega
     have HNX := Lib.hid (show with1L (withL (ids.take i)) x = withL (ids.take (i + 1)) by rw [take_snoc hx]; simp [withL, List.foldl_append])
     have HC1 := Lib.hid (with1_any oa (withL (ids.take i)) ocap x wr hoi hoc hwl)
     clear hoi hqi hB hc hx hwl
     go_wp2_with (go_at_call 61; (with_reducible refine HC1.out.mono ?_); rintro e w8 ⟨a8, c8, rfl, hi8, hc8, hb8⟩)
     rw [HNX.out] at hi8 hc8
     simp only [HNX.out]
     have HI8 := Lib.hid hi8
     have HC8 := Lib.hid hc8
     have HB8 := Lib.hid hb8
     clear hi8 hc8 hb8 c1
     go_roundw
     case rel => exact ⟨i + 1, a8, c8, by omega, by go_num, rfl, HI8.out, HC8.out, HQI.out.below HB8.out, HB.out.trans (HB8.out.mono HB.out.size)⟩
     case measure => simp [intOf]; omega
    ·have hie : i = ids.length := by omega
     subst hie
     rw [List.take_length] at HOI hoc
     simp only [List.take_length]
     clear hoi hqi hB
     go_wp2_with fail
     go_ret2
     unfold usesOut
     rw [if_pos HZ.out, HR.out]
     dsimp only
     rw [HID.out]
     exact ⟨oa, ocap, rfl, HOI.out, hoc, HB.out⟩
 ·have HZ := Lib.hid hz
  have hzz : (openErr c [x, y] != 0) = true := by simpa using hz
  have hzf : (openErr c [x, y] == 0) = false := by simpa using hz
  clear hz
  go_enter Tryz.func18, Tryz.ntmps18
  go_upto_region 1 with fail
  simp only [HW.out]
  go_wp2_with (go_at_call 57; (with_reducible refine HAK.out.mono ?_); rintro e w3 ⟨rfl, hb3⟩; have HB3 := Lib.hid (HB1.out.trans (hb3.mono HB1.out.size)); clear hb3)
  go_ret2
  unfold usesOut
  rw [if_neg HZ.out]
  exact usesPost_no HB3.out

end Go.Proofs.YtpjcnkajimgagaaGreat
