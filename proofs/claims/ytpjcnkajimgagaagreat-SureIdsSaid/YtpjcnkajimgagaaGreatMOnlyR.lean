/- The reference's only. -/
import Derived.Test.YtpjcnkajimgagaaGreatMIdsR
import Derived.Test.YtpjcnkajimgagaaGreatMWoutR
set_option linter.unusedSimpArgs false
set_option linter.unusedVariables false
namespace Go.Proofs.YtpjcnkajimgagaaGreat
open Go.RowKit
attribute [local go_sem] Oper.semAt_some

/-- only blocks that are there can matter -/
theorem OwnP.lt {Q : Nat → Prop} {W : World} {a : Option Addr} {l : List Prt} (h : OwnP Q W a l) : OwnP (fun k => Q k ∧ k < W.heap.size) W a l := fun W2 h2 => h W2 ⟨h2.os, h2.tape, h2.output, h2.size, fun i hi hl => h2.block i ⟨hi, hl⟩ hl⟩
set_option maxRecDepth 100000 in
set_option maxHeartbeats 2000000 in
theorem only_ref (c : Cs) (hsm : c.Small) (pa : Option Addr) (pc : Nat) (la : Option Addr) (l : List Int) (lc : Nat) (w : World) (hp : PartsAt w pa c.parts) (hi : Ints w la l) (hl : l.length ≤ 1000000) :
  Calls Tryz.prog 46 #[.agg #[.string c.ware, .int .i64 c.limit, .int .i64 c.by_, .slice pa c.parts.length pc], .slice la l.length lc] w (CaseRPost (woutC (fun n => !l.contains n) c) w) := by
 obtain ⟨w1, hw1⟩ : ∃ w1, (w.alloc (.cells #[.string c.ware, .int .i64 c.limit, .int .i64 c.by_, .slice pa c.parts.length pc] 24)).alloc (.cells #[.string ⟨#[]⟩, .int .i64 0, .int .i64 0, .slice none 0 0] 24) = w1 := ⟨_, rfl⟩
 have hB1 : Below w.heap.size w w1 := by rw [← hw1]; go_grown
 have hz1 : w1.heap.size = w.heap.size + 2 := by rw [← hw1]; simp
 have g1 : Box w1 w.heap.size #[.string c.ware, .int .i64 c.limit, .int .i64 c.by_, .slice pa c.parts.length pc] 24 := by rw [← hw1]; exact (Box.new _ _ _).alloc _
 have g2 : Box w1 (w.heap.size + 1) #[.string ⟨#[]⟩, .int .i64 0, .int .i64 0, .slice none 0 0] 24 := by rw [← hw1]; exact Box.new' (by simp)
 have e1 := g1.cell
 have HFN := Lib.hid (onlyTo_all c l)
 have HII := Lib.hid (ids_ref c hsm pa pc w1 (hp.below hB1))
 obtain ⟨ids, hids⟩ : ∃ ids, withL (refIds c) = ids := ⟨_, rfl⟩
 have hlen : ids.length ≤ 31 := by
  have h1 := withL_le (refIds c)
  have h2 := refIds_len c
  have h3 := hsm.1
  rw [hids] at h1; omega
 have hnz : ∀ v ∈ ids, v ≠ 0 := fun v hv => by rw [← hids] at hv; exact (((withL_asc _).2 v).1 hv).2
 rw [hids] at HFN HII
 have HNZ := Lib.hid hnz
 have HSM := Lib.hid hsm
 have HW := Lib.hid hw1
 have HP := Lib.hid hp
 have HI := Lib.hid hi
 have HB1 := Lib.hid hB1
 have HG1 := Lib.hid g1
 have HG2 := Lib.hid g2
 have HZ1 := Lib.hid hz1
 clear hw1 hp hB1 g1 g2 hz1 hi hids hnz
 go_enter Tryz.func46, Tryz.ntmps46
 go_upto_region 1 with fail
 simp only [HW.out]
 go_upto_region 2 with (go_at_call 45; (with_reducible refine HII.out.mono ?_); rintro e w2 ⟨ia, icap, rfl, hi2, hc2, hb2⟩)
 have HI2 := Lib.hid hi2
 have HB2 := Lib.hid (HB1.out.trans (hb2.mono HB1.out.size))
 have HG3 := Lib.hid (HG1.out.below' hb2)
 have HG4 := Lib.hid (HG2.out.below' hb2)
 have hz2 : w.heap.size + 2 ≤ w2.heap.size := by have := hb2.size; have := HZ1.out; omega
 have HCP := Lib.hid (copied_ref c hsm pa pc w2 (HP.out.below HB2.out))
 clear hi2 hb2 e1 HG1 HG2 HII HZ1
 have e1 := HG3.out.cell
 go_upto_region 3 with (go_at_call 26; (with_reducible refine HCP.out.mono ?_); rintro e w3 ⟨a, cap, rfl, hcap, hv, hb3⟩)
 have hB3 := HB2.out.trans (hb3.mono HB2.out.size)
 have hr3 := HG4.out.below' hb3
 have hp3 := hv.own.lt.mono (Q' := fun k => w.heap.size + 2 ≤ k ∧ k ≠ w3.heap.size) (fun k hk => by omega)
 have hi3 := HI2.out.below hb3
 have hz3 : w.heap.size + 2 ≤ w3.heap.size := by have := hb3.size; omega
 have g5 : Box (w3.alloc (.cells #[.string c.ware, .int .i64 c.limit, .int .i64 c.by_, .slice a c.parts.length cap] 24)) w3.heap.size #[.string c.ware, .int .i64 c.limit, .int .i64 c.by_, .slice a c.parts.length cap] 24 := Box.new _ _ _
 have hb5 : Below w3.heap.size w3 (w3.alloc (.cells #[.string c.ware, .int .i64 c.limit, .int .i64 c.by_, .slice a c.parts.length cap] 24)) := (Below.refl _ w3).alloc (Nat.le_refl _) _
 have HI5 := Lib.hid (hi3.below hb5)
 have hbd : ∀ b o, ia = some ⟨b, o, none⟩ → 0 < ids.length → b ≠ w3.heap.size := fun b o ha hl' => by have := ints_block hi3 ha hl'; omega
 have HB5 := Lib.hid (hB3.trans (hb5.mono hB3.size))
 have HR5 := Lib.hid (hr3.below' hb5)
 generalize w3.alloc (.cells #[.string c.ware, .int .i64 c.limit, .int .i64 c.by_, .slice a c.parts.length cap] 24) = w5 at *
 obtain ⟨D, hD⟩ : ∃ D, w3.heap.size = D := ⟨_, rfl⟩
 rw [hD] at g5 hz3 hp3 hbd
 have HBD := Lib.hid hbd
 have HP5 := Lib.hid (hp3.below hb5)
 simp only [hD]
 have HG5 := Lib.hid g5
 have h0 : onlyTo c l ids 0 = c := by simp [onlyTo]
 have H0 := Lib.hid h0
 clear hbd hv hb3 hB3 hr3 hp3 hi3 hb5 hD g5 e1 HCP HG3 HG4 HI2 HB2 HB1 h0
 go_wp2_with fail
 go_loopw [7] (fun iv wr => ∃ (k : Nat) (a : Option Addr) (cap : Nat), k ≤ ids.length ∧ iv = .int .i64 k ∧ c.parts.length ≤ cap ∧ OwnP (fun k => w.heap.size + 2 ≤ k ∧ k ≠ D) wr a (onlyTo c l ids k).parts ∧ Box wr D #[.string c.ware, .int .i64 (onlyTo c l ids k).limit, .int .i64 (onlyTo c l ids k).by_, .slice a c.parts.length cap] 24 ∧ Box wr (w.heap.size + 1) #[.string ⟨#[]⟩, .int .i64 0, .int .i64 0, .slice none 0 0] 24 ∧ Ints wr ia ids ∧ Below w.heap.size w wr) (fun iv _ => ids.length - (intOf iv).toNat)
 case atStart => exact ⟨0, a, cap, Nat.zero_le _, rfl, hcap, by rw [H0.out]; exact HP5.out, by rw [H0.out]; exact HG5.out, HR5.out, HI5.out, HB5.out⟩
 case round =>
  clear HP5 HG5 HR5 HI5 HB5 H0 hcap
  obtain ⟨k, a, cap, hk, rfl, hcap, hp, hg, hr, hi, hB⟩ := hrel
  have HP1 := Lib.hid hp
  have HG1 := Lib.hid hg
  have HR1 := Lib.hid hr
  have HI1 := Lib.hid hi
  have HB1 := Lib.hid hB
  by_cases hkl : k < ids.length
  ·obtain ⟨b, o, rfl, hc⟩ := hi.base (by omega)
   obtain ⟨x, hx⟩ := get_of_lt ids hkl
   have c1 := hc _ _ hx
   have hkn : (k : Int) < (ids.length : Int) := by omega
   have hsu := onlyTo_succ (c := c) (l := l) hx
   have HSU := Lib.hid hsu
   have HXN := Lib.hid (HNZ.out x (List.mem_of_getElem? hx))
   have HHS := Lib.hid (fun W (hW : Below wr.heap.size wr W) => has_any la lc l x W ((HI.out.below hB).below hW) hl)
   clear hp hg hr hi hB hc hx hsu
   rcases hin : l.contains x with _ | _
   ·rw [hin] at HSU
    rw [hin] at HHS
    go_upto_region 8 with (go_at_call 83; (with_reducible refine (HHS.out _ (Below.refl _ _)).mono ?_); rintro e w6 ⟨rfl, rfl⟩)
    have hPW := HP1.out.at_
    have hlen2 := onlyTo_len c l ids k
    have hwar := onlyTo_ware c l ids k
    have hsm2 := onlyTo_small HSM.out l ids k
    generalize hcd : onlyTo c l ids k = cd at *
    rw [← hlen2, ← hwar] at HG1
    have HWR := Lib.hid (fun W hW => withoutR_any cd hsm2 a cap x HXN.out W (hPW.below hW))
    have HL2 := Lib.hid hlen2
    have HW2 := Lib.hid hwar
    obtain ⟨ce, hce⟩ : ∃ ce, woutC (fun n => n == x) cd = ce := ⟨_, rfl⟩
    rw [hce] at HWR
    rw [if_neg (by simp), hce] at HSU
    have hle : ce.parts.length = cd.parts.length := by rw [← hce]; exact woutC_len _ _
    have HLE := Lib.hid (hle.trans hlen2)
    have HWE := Lib.hid (show ce.ware = c.ware by rw [← hce, ware_eq, hwar])
    have HCD := Lib.hid hcd
    clear hle hce hPW hlen2 hwar hsm2 hcd
    have k0 : ∀ A, Below wr.heap.size wr A → A.cell? ⟨b, o + k, none⟩ = some (.int .i64 x) ∧ (∀ i, A.cell? ⟨D, i, none⟩ = (#[.string cd.ware, .int .i64 cd.limit, .int .i64 cd.by_, .slice a cd.parts.length cap] : Array Value)[i]?) := fun A hA => ⟨below_cell hA c1, (HG1.out.below' hA).cell⟩
    have K0 := Lib.hid k0
    clear k0
    refine wp_region_L (fun A => Below wr.heap.size wr A) 6 (by kernel_rfl) ?_
    have hSS : Below wr.heap.size wr wr.drew := (Below.refl _ wr).drew
    refine anyL_take (i := 0) (v := ?_) (by kernel_rfl) rfl (by kernel_rfl) (by kernel_rfl) (by kernel_rfl) (by kernel_rfl) (fun _ _ _ h => h) (by rfl) ?_ hSS ?_
    rotate_left
    ·(intro W hW; obtain ⟨q0, q1⟩ := K0.out W hW; go_simp; try with_reducible rfl)
    try (dsimp only); try simp only [Act.put, List.setIfInBounds_toArray, List.set_cons_zero, List.set_cons_succ]
    refine anyL_take (i := 1) (v := ?_) (by kernel_rfl) rfl (by kernel_rfl) (by kernel_rfl) (by kernel_rfl) (by kernel_rfl) (fun _ _ _ h => h) (by rfl) ?_ hSS ?_
    rotate_left
    ·(intro W hW; obtain ⟨q0, q1⟩ := K0.out W hW; go_simp; try with_reducible rfl)
    try (dsimp only); try simp only [Act.put, List.setIfInBounds_toArray, List.set_cons_zero, List.set_cons_succ]
    refine anyL_take (i := 2) (v := ?_) (by kernel_rfl) rfl (by kernel_rfl) (by kernel_rfl) (by kernel_rfl) (by kernel_rfl) (fun _ _ _ h => h) (by rfl) ?_ hSS ?_
    rotate_left
    ·(intro W hW; obtain ⟨q0, q1⟩ := K0.out W hW; go_simp; try with_reducible rfl)
    try (dsimp only); try simp only [Act.put, List.setIfInBounds_toArray, List.set_cons_zero, List.set_cons_succ]
    refine anyL_take (i := 3) (v := ?_) (by kernel_rfl) rfl (by kernel_rfl) (by kernel_rfl) (by kernel_rfl) (by kernel_rfl) (fun _ _ _ h => h) (by rfl) ?_ hSS ?_
    rotate_left
    ·(intro W hW; obtain ⟨q0, q1⟩ := K0.out W hW; go_simp; try with_reducible rfl)
    try (dsimp only); try simp only [Act.put, List.setIfInBounds_toArray, List.set_cons_zero, List.set_cons_succ]
    refine anyL_take (i := 4) (v := ?_) (by kernel_rfl) rfl (by kernel_rfl) (by kernel_rfl) (by kernel_rfl) (by kernel_rfl) (fun _ _ _ h => h) (by rfl) ?_ hSS ?_
    rotate_left
    ·(intro W hW; obtain ⟨q0, q1⟩ := K0.out W hW; go_simp; try with_reducible rfl)
    try (dsimp only); try simp only [Act.put, List.setIfInBounds_toArray, List.set_cons_zero, List.set_cons_succ]
    refine anyL_call (i := 5) (f := 63) (args := #[.agg #[.string cd.ware, .int .i64 cd.limit, .int .i64 cd.by_, .slice a cd.parts.length cap], .int .i64 x]) rfl (by kernel_rfl) (by rfl) ?_ (HWR.out wr.drew hSS) ?_
    ·go_simp
    rintro e w8 ⟨a8, cap8, rfl, hc8, ho8, hb8⟩
    replace hb8 : Below wr.heap.size wr w8 := hSS.trans hb8
    refine .inl ⟨_, rfl, .inr hb8, ?_⟩
    try (dsimp only); try simp only [Act.put, List.setIfInBounds_toArray, List.set_cons_zero, List.set_cons_succ]
    have hg8 := HG1.out.below' hb8
    obtain ⟨u1, u2⟩ := hg8.rules
    have hDl := HG1.out.lt
    have hk8 : Keep (fun k => wr.heap.size ≤ k) w8 ((((w8.setCell ⟨D, 0, none⟩ (.string ce.ware)).setCell ⟨D, 1, none⟩ (.int .i64 ce.limit)).setCell ⟨D, 2, none⟩ (.int .i64 ce.by_)).setCell ⟨D, 3, none⟩ (.slice a8 ce.parts.length cap8)) :=
     ((((Keep.refl _ w8).setCell (.inl (by simp; omega)) _).setCell (.inl (by simp; omega)) _).setCell (.inl (by simp; omega)) _).setCell (.inl (by simp; omega)) _
    have hDn : D ≠ w.heap.size + 1 := by omega
    have hkr : Keep (fun k => k ≠ D) w8 ((((w8.setCell ⟨D, 0, none⟩ (.string ce.ware)).setCell ⟨D, 1, none⟩ (.int .i64 ce.limit)).setCell ⟨D, 2, none⟩ (.int .i64 ce.by_)).setCell ⟨D, 3, none⟩ (.slice a8 ce.parts.length cap8)) :=
     ((((Keep.refl _ w8).setCell (.inl (by simp)) _).setCell (.inl (by simp)) _).setCell (.inl (by simp)) _).setCell (.inl (by simp)) _
    have hg9 : Box ((((w8.setCell ⟨D, 0, none⟩ (.string ce.ware)).setCell ⟨D, 1, none⟩ (.int .i64 ce.limit)).setCell ⟨D, 2, none⟩ (.int .i64 ce.by_)).setCell ⟨D, 3, none⟩ (.slice a8 ce.parts.length cap8)) D #[.string ce.ware, .int .i64 ce.limit, .int .i64 ce.by_, .slice a8 ce.parts.length cap8] 24 :=
     (((hg8.set_ 0 (.string ce.ware)).set_ 1 (.int .i64 ce.limit)).set_ 2 (.int .i64 ce.by_)).set_ 3 (.slice a8 ce.parts.length cap8)
    have HO9 := Lib.hid ((ho8.keep hk8).mono (Q' := fun k => w.heap.size + 2 ≤ k ∧ k ≠ D) (fun k (hk : wr.heap.size ≤ k) => (⟨by omega, by omega⟩ : w.heap.size + 2 ≤ k ∧ k ≠ D)))
    have HR9 := Lib.hid (hkr.heap hDn.symm (HR1.out.below' hb8))
    have HB9 := Lib.hid (((((HB1.out.trans (hb8.mono HB1.out.size)).setCell (show w.heap.size ≤ (⟨D, 0, none⟩ : Addr).block by simp; omega) (.string ce.ware)).setCell (show w.heap.size ≤ (⟨D, 1, none⟩ : Addr).block by simp; omega) (.int .i64 ce.limit)).setCell (show w.heap.size ≤ (⟨D, 2, none⟩ : Addr).block by simp; omega) (.int .i64 ce.by_)).setCell (show w.heap.size ≤ (⟨D, 3, none⟩ : Addr).block by simp; omega) (.slice a8 ce.parts.length cap8))
    have HI9 := Lib.hid (ints_keep (HI1.out.below hb8) hkr (fun b' o' ha hl' => HBD.out b' o' ha hl'))
    refine anyL_skip (i := 6) (w' := (((w8.setCell ⟨D, 0, none⟩ (.string ce.ware)).setCell ⟨D, 1, none⟩ (.int .i64 ce.limit)).setCell ⟨D, 2, none⟩ (.int .i64 ce.by_)).setCell ⟨D, 3, none⟩ (.slice a8 ce.parts.length cap8)) rfl (by kernel_rfl) (by rfl) ?_ (.inl rfl) ?_
    ·go_simp
     try with_reducible rfl
    refine anyL_done (by kernel_rfl) ?_ _
    try (dsimp only); try simp only [Act.put, List.setIfInBounds_toArray, List.set_cons_zero, List.set_cons_succ]
    generalize (((w8.setCell ⟨D, 0, none⟩ (.string ce.ware)).setCell ⟨D, 1, none⟩ (.int .i64 ce.limit)).setCell ⟨D, 2, none⟩ (.int .i64 ce.by_)).setCell ⟨D, 3, none⟩ (.slice a8 ce.parts.length cap8) = w9 at *
    rw [HWE.out, HLE.out] at hg9
    have HG9 := Lib.hid hg9
    rw [HLE.out]
    have hc9 : c.parts.length ≤ cap8 := by rw [← HLE.out]; exact hc8
    clear hg9 hk8 hkr hDn hc8 ho8 hb8 hg8 hSS K0 u1 u2 HWR
    go_wp2_with fail
    go_roundw
    case rel => exact ⟨k + 1, a8, cap8, by omega, by go_num, hc9, by rw [HSU.out]; exact HO9.out, by rw [HSU.out]; exact HG9.out, HR9.out, HI9.out, HB9.out⟩
    case measure => simp [intOf]; omega
   ·rw [hin] at HSU
    rw [hin] at HHS
    go_wp2_with (go_at_call 83; (with_reducible refine (HHS.out _ (Below.refl _ _)).mono ?_); rintro e w6 ⟨rfl, rfl⟩)
    go_roundw
    case rel => exact ⟨k + 1, a, cap, by omega, by go_num, hcap, by rw [HSU.out]; exact HP1.out, by rw [HSU.out]; exact HG1.out, HR1.out, HI1.out, HB1.out⟩
    case measure => simp [intOf]; omega
  ·have hke : k = ids.length := by omega
   subst hke
   obtain ⟨u1, u2⟩ := hr.rules
   have e5 := hg.cell
   clear hp hg hr hi hB
   go_wp2_with fail
   have hf := (((HR1.out.set_ 0 (.string c.ware)).set_ 1 (.int .i64 (onlyTo c l ids ids.length).limit)).set_ 2 (.int .i64 (onlyTo c l ids ids.length).by_)).set_ 3 (.slice a c.parts.length cap)
   refine bodyPost_ret (results_cell rfl rfl (run_loadVar_row _ _ 24 24 _ (0, 0) _ hf Tryz.underlying24 rfl case_size)) rfl ?_
   have hk : Keep (fun k => w.heap.size + 2 ≤ k ∧ k ≠ D) wr ((((wr.setCell ⟨w.heap.size + 1, 0, none⟩ (.string c.ware)).setCell ⟨w.heap.size + 1, 1, none⟩ (.int .i64 (onlyTo c l ids ids.length).limit)).setCell ⟨w.heap.size + 1, 2, none⟩ (.int .i64 (onlyTo c l ids ids.length).by_)).setCell ⟨w.heap.size + 1, 3, none⟩ (.slice a c.parts.length cap)) :=
    ((((Keep.refl _ wr).setCell (.inl (by simp)) _).setCell (.inl (by simp)) _).setCell (.inl (by simp)) _).setCell (.inl (by simp)) _
   have hpa := (HP1.out.keep hk).mono (Q' := fun k => w.heap.size ≤ k) (fun k hk => by omega)
   have hwc := woutC_len (fun n => !l.contains n) c
   unfold CaseRPost
   rw [HFN.out] at hpa ⊢
   rw [hwc, show (woutC (fun n => !l.contains n) c).ware = c.ware by rw [woutC_eq]]
   exact ⟨a, cap, rfl, hcap, hpa, (((HB1.out.setCell (by simp) _).setCell (by simp) _).setCell (by simp) _).setCell (by simp) _⟩
end Go.Proofs.YtpjcnkajimgagaaGreat
