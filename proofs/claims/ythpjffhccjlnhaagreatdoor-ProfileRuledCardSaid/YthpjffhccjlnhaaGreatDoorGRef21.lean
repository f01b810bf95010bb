/- The reference: Ruled. No condition. -/
import Derived.Test.YthpjffhccjlnhaaGreatDoorGRef20
set_option linter.unusedSimpArgs false
set_option linter.unusedVariables false
namespace Go.Proofs.YthpjffhccjlnhaaGreatDoor
open Go.RowKit
attribute [local go_sem] Oper.semAt_some

theorem drop_len (A : List Nat) {m : Nat} (hm : m < A.length) : (dropAt A m).length = 0 + m + (A.length - (m + 1)) := by
 unfold dropAt
 rw [List.length_append, List.length_take, List.length_drop]; omega
theorem rows_cut {r : List Rng} {A : List Nat} {m : Nat} (hA : ∀ x ∈ A, x < r.length) (hm : m < A.length) : (rngRows (ringsAt r A)).take (m * 2) ++ (rngRows (ringsAt r A)).drop ((m + 1) * 2) = rngRows (ringsAt r (dropAt A m)) := by
 have key : ∀ k, k ≤ A.length → rngRows (ringsAt r A) = rngRows (ringsAt r (A.take k)) ++ rngRows (ringsAt r (A.drop k)) ∧ (rngRows (ringsAt r (A.take k))).length = k * 2 := fun k hk => by
  refine ⟨by rw [← rngRows_app4, ← ringsAt_app4, List.take_append_drop], ?_⟩
  rw [rngRows_size4, ringsAt_len (fun x hx => hA x (List.mem_of_mem_take hx)), List.length_take, Nat.min_eq_left hk]
 obtain ⟨h1, l1⟩ := key m (by omega)
 obtain ⟨h2, l2⟩ := key (m + 1) (by omega)
 unfold dropAt
 rw [ringsAt_app4, rngRows_app4]
 congr 1
 ·rw [h1, List.take_left' l1]
 ·rw [h2, List.drop_left' l2]
theorem ints_cut (A : List Nat) (m : Nat) : (intsV A).take (m * 1) ++ (intsV A).drop ((m + 1) * 1) = intsV (dropAt A m) := by
 unfold intsV dropAt
 rw [Nat.mul_one, Nat.mul_one, List.map_append, List.map_take, List.map_drop]
set_option maxRecDepth 100000 in
set_option maxHeartbeats 8000000 in
theorem ruledR_any (a : Option Addr) (c : Nat) (l : List Typ) (ware : ByteArray) (ra : Option Addr) (rc : Nat) (r : List Rng) (w : World) (h : Ask w a c l ra rc r) :
  Calls Tryz.prog 28 #[.slice a l.length c, .string ware, .slice ra r.length rc] w (RuledPost l ware r w) := by
 have HC := Lib.hid (blanksR_any a c l ware ra rc r w h)
 have HA := Lib.hid h
 clear h
 go_enter Tryz.func28, Tryz.ntmps28
 go_wp2_with (refine HC.out.mono ?_)
 rintro e w2 ⟨fa, fc, us, rfl, -, -, -, hb2⟩
 have HB2 := Lib.hid hb2
 clear hb2 HC
 by_cases h0 : wantedErr l ware r = 0
 rotate_left
 ·have HX : Hid (ruledX l ware r = []) := Lib.hid (by unfold ruledX; rw [if_neg fun h => h0 h.1])
  have hne : (wantedErr l ware r == 0) = false := by simpa using h0
  have hIs : blanksIs l ware r = false := by unfold blanksIs; rw [hne]; rfl
  have HIS := Lib.hid hIs
  rw [hIs]
  clear hIs
  go_wp2_with fail
  exact bodyPost_ret (results_tmp3 rfl) rfl ⟨none, 0, by rw [HX.out, HIS.out]; rfl, by rw [HX.out]; exact Ints.nil _ _, by rw [HX.out]; exact Nat.le_refl _, HB2.out⟩
 by_cases hsh : shiftsT l ware r = []
 rotate_left
 ·have HX : Hid (ruledX l ware r = []) := Lib.hid (by unfold ruledX; rw [if_neg fun h => hsh h.2])
  have hIs : blanksIs l ware r = false := by
   unfold blanksIs
   rcases hs : shiftsT l ware r with _ | ⟨x, y⟩
   ·exact absurd hs hsh
   ·simp
  have HIS := Lib.hid hIs
  rw [hIs]
  simp only [h0]
  have H0 := Lib.hid h0
  clear hIs h0
  go_wp2_with fail
  exact bodyPost_ret (results_tmp3 rfl) rfl ⟨none, 0, by rw [HX.out, HIS.out, H0.out]; rfl, by rw [HX.out]; exact Ints.nil _ _, by rw [HX.out]; exact Nat.le_refl _, HB2.out⟩
 have hIs : blanksIs l ware r = true := by unfold blanksIs; rw [h0, hsh]; rfl
 have HIS := Lib.hid hIs
 have H0 := Lib.hid h0
 have HRX := Lib.hid (show ruledX l ware r = ruledTo (noFit l ware r) r.length r.length by unfold ruledX; rw [if_pos ⟨h0, hsh⟩, ruledTo_all])
 have hr12 := (ringsErr_good (wanted_good h0).2.1).1
 rw [hIs]
 simp only [h0]
 have hrow := row_rings (HA.out.rg.below HB2.out)
 have HRC := Lib.hid HA.out.rcap
 obtain ⟨v4, hv4⟩ : ∃ x, w2.alloc (.cells #[] 48) = x := ⟨_, rfl⟩
 have hbe : Below w2.heap.size w2 v4 := by rw [← hv4]; go_grown
 have hoe : v4.ownsRow w2.heap.size 48 2 (.slice (some ⟨w2.heap.size, 0, none⟩) 0 0) 0 [] := by rw [← hv4]; exact ownsRow_empty w2 _ _ _ (Nat.le_refl _)
 obtain ⟨v1, U, hrun, ho1, hg1, -⟩ := run_append_row (P := Tryz.prog) v4 w2.heap.size 37 37 48 _ 2 24 Tryz.underlying37 info_rng rfl (by omega)
  _ 0 [] hoe ra r.length rc (rngRows r) (rngRows_size4 r) (hrow.below hbe) (rngRows_one4 r) (by omega) (by omega) hbe.size
 have hbU : Below w2.heap.size w2 U := hbe.grown hg1 hbe.size (fun j hj => (hoe.lt j hj).1)
 rw [List.nil_append, Nat.zero_add] at ho1
 have HRUN := Lib.hid hrun
 have HO := Lib.hid ho1
 have HBU := Lib.hid (HB2.out.trans (hbU.mono HB2.out.size))
 have HV4 := Lib.hid hv4
 clear hIs h0 hsh hrow hbe hoe hrun ho1 hg1 hbU hv4
 go_wp2_with (at_builtin; simp only [HV4.out]; refine wpList_app rfl _ _ _ rfl rfl rfl HRUN.out ?_)
 clear HRUN HV4
 go_loopw [13, 14] (fun av iv wr => ∃ k : Nat, k ≤ r.length ∧ iv = .int .i64 k ∧ wr.ownsRow U.heap.size 3 1 av k (intsV (List.range k)) ∧ Below U.heap.size U wr) (fun _ iv _ => r.length - (intOf iv).toNat)
 case atStart => exact ⟨0, Nat.zero_le _, rfl, ownsRow_nil _ _ _ _, Below.refl _ _⟩
 case round =>
  obtain ⟨k, hk, rfl, ho, hb⟩ := hrel
  have HI := Lib.hid ho
  have HBR := Lib.hid hb
  clear ho hb
  by_cases hlt : k < r.length
  ·have hki : (k : Int) < (r.length : Int) := by omega
   have hk0 : (0 : Int) ≤ (k : Int) := by omega
   have hkw : IntKind.i64.wrap ((k : Int) + 1) = (k : Int) + 1 := IntWalk.i64_in _ (by omega)
   have hsz := HBR.out.size
   have hbs := run_bslice (P := Tryz.prog) (T := 38) (m := 1) (Z := .int .i64 0) Tryz.underlying38 (by kernel_rfl) (by omega) (by omega) (v := .int .i64 (k : Int)) (g := fun _ => .int .i64 (k : Int)) rfl wr
   obtain ⟨v', V, hrun, hown, hbV, -, -⟩ := app_fn (P := Tryz.prog) (TT := 38) Tryz.underlying38 info_int rfl (by omega) (by omega) HI.out (by omega) hsz (fun _ => .int .i64 (k : Int)) (fun j _ => rfl)
   have HBS := Lib.hid hbs
   have HRUN := Lib.hid hrun
   have HN := Lib.hid (show V.ownsRow U.heap.size 3 1 v' (k + 1) (intsV (List.range (k + 1))) by
    have e : intsV (List.range (k + 1)) = intsV (List.range k) ++ [.int .i64 (k : Int)] := by unfold intsV; rw [List.range_succ, List.map_append]; rfl
    rw [e]; exact hown)
   have HBV := Lib.hid (HBR.out.trans hbV)
   clear hbs hrun hown hbV hsz
   go_wp2_with (first
    | (apply wpList_bsl (T := 38) (n := 1) (hr := HBS.out); (· rfl); (· (simp only [List.map_toArray, List.map_cons, List.map_nil]; rfl)))
    | (at_builtin; refine wpList_app rfl _ _ _ rfl rfl rfl HRUN.out ?_))
   go_roundw
   case rel => exact ⟨k + 1, by omega, by go_num, HN.out, HBV.out⟩
   case measure => simp [intOf]; omega
  have hkn : decide ((k : Int) < (r.length : Int)) = false := by simp; omega
  have hke : k = r.length := by omega
  have ST := Lib.hid (show RdSt4 r w v1 _ (ruledTo (noFit l ware r) r.length (r.length - r.length)) wr from ⟨⟨w2.heap.size, by
    rw [Nat.sub_self]
    show wr.ownsRow _ _ _ _ (List.range r.length).length (rngRows (ringsAt r (List.range r.length)))
    rw [ringsAt_all, List.length_range]
    exact ownsRow_keep HO.out (Keep.of_below' (K := fun _ => True) HBR.out) (fun _ _ => trivial)⟩, ⟨U.heap.size, by
    rw [Nat.sub_self]
    show wr.ownsRow _ _ _ _ (List.range r.length).length (intsV (List.range r.length))
    rw [List.length_range]
    have := HI.out
    rwa [hke] at this⟩, HBU.out.trans (HBR.out.mono HBU.out.size)⟩)
  have hnw : IntKind.i64.wrap ((r.length : Int) - 1) = (r.length : Int) - 1 := IntWalk.i64_in _ (by omega)
  clear hke HI HBR HBU HO
  go_wp2_with fail
  go_loopw [12, 13, 15, 16, 17, 18, 19] (fun rv av iv _ _ _ _ wr => ∃ j : Nat, j ≤ r.length ∧ iv = .int .i64 ((j : Int) - 1) ∧ RdSt4 r w rv av (ruledTo (noFit l ware r) r.length (r.length - j)) wr) (fun _ _ iv _ _ _ _ _ => (intOf iv + 1).toNat)
  case atStart => exact ⟨r.length, Nat.le_refl _, rfl, ST.out⟩
  case round =>
   clear ST
   obtain ⟨j, hj, rfl, st⟩ := hrel
   have ST := Lib.hid st
   clear st
   rcases j with _ | m
   ·have hz : ((0 : Nat) : Int) - 1 = -1 := rfl
    obtain ⟨b0, o1⟩ := ST.out.i_
    rw [Nat.sub_zero, ← HRX.out] at o1
    obtain ⟨pa, pc, hv, hro, hcap⟩ := ownsRow_own o1
    have HV := Lib.hid hv
    have HRO := Lib.hid (ints_own hro)
    have HCP := Lib.hid hcap
    simp only [hz]
    clear o1 hv hro hcap hz
    go_wp2_with fail
    refine bodyPost_ret (results_tmp3 rfl) rfl ⟨pa, pc, ?_, HRO.out, HCP.out, ST.out.b⟩
    rw [HIS.out, H0.out, ← HV.out]; rfl
   ·have hmz : ((m + 1 : Nat) : Int) - 1 = (m : Int) := by omega
    simp only [hmz]
    clear hmz
    obtain ⟨q, hq⟩ : ∃ q, r.length - (m + 1) = q := ⟨_, rfl⟩
    rw [hq] at ST
    have hqm : r.length - 1 - q = m := by omega
    have hq1 : q < r.length := by omega
    have hstep : ruledTo (noFit l ware r) r.length (r.length - m) = if noFit l ware r (dropAt (ruledTo (noFit l ware r) r.length q) m) = true then dropAt (ruledTo (noFit l ware r) r.length q) m else ruledTo (noFit l ware r) r.length q := by
     rw [show r.length - m = q + 1 by omega, ruledTo_succ _ hq1]
     unfold ruledStep
     rw [ruled_drop hq1, hqm]
    have hpm := ruled_pre (noFit l ware r) r.length q (by omega) m (by omega)
    have hsub := ruledTo_sub (noFit l ware r) r.length q
    obtain ⟨A, hA⟩ : ∃ A, ruledTo (noFit l ware r) r.length q = A := ⟨_, rfl⟩
    rw [hA] at ST hstep hpm hsub
    have hml := (List.getElem?_eq_some_iff.1 hpm).1
    have hAl : A.length ≤ 12 := by have := hsub.length_le; simp at this; omega
    have hAr := rings_of_sub hsub
    obtain ⟨b1, o1⟩ := ST.out.r_
    obtain ⟨b2, o2⟩ := ST.out.i_
    obtain ⟨g, cap, hge⟩ := Go.Joins.ownsRow_form o1 (by omega)
    obtain ⟨g', cap', hge'⟩ := Go.Joins.ownsRow_form o2 (by omega)
    subst hge hge'
    obtain ⟨_, _, e1, _, hcap⟩ := ownsRow_own o1
    cases e1
    obtain ⟨_, _, e2, _, hcap'⟩ := ownsRow_own o2
    cases e2
    have hbd : Below wr.heap.size wr wr.drew := (Below.refl _ wr).drew
    obtain ⟨vx, U1, pa, pc, U2, hr1, hb1, hr2, hb2, ho2, hpc⟩ := cut_row (T := 37) (E := 48) Tryz.underlying37 info_rng rfl (by omega) (by omega) (by omega) (W := wr.drew)
     (ownsRow_keep o1 (Keep.of_below' (K := fun _ => True) hbd) (fun _ _ => trivial)) (by rw [rngRows_size4, ringsAt_len hAr]) hcap (rngRows_one4 _) hml (by omega) _ rfl
    obtain ⟨nn, hnn⟩ : ∃ nn, 0 + m + (A.length - (m + 1)) = nn := ⟨_, rfl⟩
    have HNN := Lib.hid hnn
    rw [hnn] at hr2 ho2 hpc
    have hb1' : Below wr.heap.size wr U1 := hbd.trans hb1
    have hb2' : Below wr.heap.size wr U2 := hbd.trans hb2
    have hbs0 : (Instr.buildSlice 37 0 #[]).run Tryz.prog wr.drew = .ok (.slice (some ⟨wr.drew.heap.size, 0, none⟩) 0 0) (wr.drew.alloc (.cells #[] 48)) := by go_simp
    have hbe : Below wr.heap.size wr (wr.drew.alloc (.cells #[] 48)) := hbd.alloc (Nat.le_refl _) _
    rw [rows_cut hAr hml] at ho2
    have hlD : (ringsAt r (dropAt A m)).length = nn := by
     rw [← hnn, ringsAt_len (fun x hx => hAr x (by unfold dropAt at hx; rcases List.mem_append.1 hx with h | h; exact List.mem_of_mem_take h; exact List.mem_of_mem_drop h)), drop_len A hml]
    obtain ⟨_, _, e3, hro2, _⟩ := ownsRow_own ho2
    cases e3
    have hsubD : (dropAt A m).Sublist A := by
     have := List.Sublist.append (List.Sublist.refl (A.take m)) (List.drop_sublist_drop_left A (Nat.le_succ m))
     rwa [List.take_append_drop] at this
    have hrsub : (ringsAt r (dropAt A m)).Sublist r := by
     have := ringsAt_sub (r := r) (hsubD.trans hsub)
     rwa [ringsAt_all] at this
    have hask2 : Ask U2 a c l pa pc (ringsAt r (dropAt A m)) := ⟨HA.out.ty.below (ST.out.b.trans (hb2'.mono ST.out.b.size)), HA.out.sm, HA.out.tlen, HA.out.tcap, rngs_of_own hro2, fun y hy => HA.out.rsm y (hrsub.subset hy), by omega, by omega⟩
    have hbk := blanksR_any a c l ware pa pc (ringsAt r (dropAt A m)) U2 hask2
    rw [hlD] at hbk
    have hst : blanksIs l ware (ringsAt r (dropAt A m)) = noFit l ware r (dropAt A m) := by
     unfold blanksIs noFit
     rw [wanted_sub H0.out hrsub]; rfl
    have HBK := Lib.hid hbk
    have HSTL := Lib.hid hst
    have HSTEP := Lib.hid hstep
    have HO1 := Lib.hid o1
    have HO2 := Lib.hid o2
    have HLE := Lib.hid ho2
    have HB2' := Lib.hid hb2'
    have HCAP := Lib.hid hcap'
    have HDL := Lib.hid (show (dropAt A m).length = nn by rw [drop_len A hml, hnn])
    have hm0 : (0 : Int) ≤ (m : Int) := by omega
    have hmi : (m : Int) ≤ (A.length : Int) := by omega
    have hmi2 : (m : Int) + 1 ≤ (A.length : Int) := by omega
    have hmc : (m : Int) ≤ (cap : Int) := by omega
    have hmc2 : (m : Int) + 1 ≤ (cap : Int) := by omega
    have hmA : (A.length : Int) ≤ (cap : Int) := by omega
    have hmcx : (m : Int) ≤ (cap' : Int) := by omega
    have hmcx2 : (m : Int) + 1 ≤ (cap' : Int) := by omega
    have hmAx : (A.length : Int) ≤ (cap' : Int) := by omega
    have hmw : IntKind.i64.wrap ((m : Int) + 1) = (m : Int) + 1 := IntWalk.i64_in _ (by omega)
    have hmw2 : IntKind.i64.wrap ((m : Int) - 1) = (m : Int) - 1 := IntWalk.i64_in _ (by omega)
    have hm10 : (0 : Int) ≤ (m : Int) + 1 := by omega
    clear hnn hq hqm hq1 hstep hpm hsub hA o1 o2 hro2 hask2 hbk hst hrsub hsubD hlD
    go_upto_region 13 with fail
    refine wp_region_M (fun V => Below wr.heap.size wr V) 10 (by kernel_rfl) ?_
    have hSS : Below wr.heap.size wr wr.drew := hbd
    refine anyM_take (i := 1) (v := ?_) (by kernel_rfl) rfl (by kernel_rfl) (by kernel_rfl) (by kernel_rfl) (by kernel_rfl) (fun _ _ _ h => h) (by rfl) ?_ hSS ?_
    rotate_left
    ·(intro W hW; go_simp; try with_reducible rfl)
    try (dsimp only); try simp only [Act.put, List.setIfInBounds_toArray, List.set_cons_zero, List.set_cons_succ]
    refine anyM_take (i := 2) (v := ?_) (by kernel_rfl) rfl (by kernel_rfl) (by kernel_rfl) (by kernel_rfl) (by kernel_rfl) (fun _ _ _ h => h) (by rfl) ?_ hSS ?_
    rotate_left
    ·(intro W hW; go_simp; try with_reducible rfl)
    try (dsimp only); try simp only [Act.put, List.setIfInBounds_toArray, List.set_cons_zero, List.set_cons_succ]
    refine anyM_take (i := 3) (v := ?_) (by kernel_rfl) rfl (by kernel_rfl) (by kernel_rfl) (by kernel_rfl) (by kernel_rfl) (fun _ _ _ h => h) (by rfl) ?_ hSS ?_
    rotate_left
    ·(intro W hW; go_simp; try with_reducible rfl)
    try (dsimp only); try simp only [Act.put, List.setIfInBounds_toArray, List.set_cons_zero, List.set_cons_succ]
    refine anyM_take (i := 5) (v := ?_) (by kernel_rfl) rfl (by kernel_rfl) (by kernel_rfl) (by kernel_rfl) (by kernel_rfl) (fun _ _ _ h => h) (by rfl) ?_ hSS ?_
    rotate_left
    ·(intro W hW; go_simp; try with_reducible rfl)
    try (dsimp only); try simp only [Act.put, List.setIfInBounds_toArray, List.set_cons_zero, List.set_cons_succ]
    refine anyM_take (i := 6) (v := ?_) (by kernel_rfl) rfl (by kernel_rfl) (by kernel_rfl) (by kernel_rfl) (by kernel_rfl) (fun _ _ _ h => h) (by rfl) ?_ hSS ?_
    rotate_left
    ·(intro W hW; go_simp; try with_reducible rfl)
    try (dsimp only); try simp only [Act.put, List.setIfInBounds_toArray, List.set_cons_zero, List.set_cons_succ]
    refine anyM_take (i := 7) (v := ?_) (by kernel_rfl) rfl (by kernel_rfl) (by kernel_rfl) (by kernel_rfl) (by kernel_rfl) (fun _ _ _ h => h) (by rfl) ?_ hSS ?_
    rotate_left
    ·(intro W hW; go_simp; try with_reducible rfl)
    try (dsimp only); try simp only [Act.put, List.setIfInBounds_toArray, List.set_cons_zero, List.set_cons_succ]
    refine anyM_take (i := 8) (v := ?_) (by kernel_rfl) rfl (by kernel_rfl) (by kernel_rfl) (by kernel_rfl) (by kernel_rfl) (fun _ _ _ h => h) (by rfl) ?_ hSS ?_
    rotate_left
    ·(intro W hW; go_simp; try with_reducible rfl)
    try (dsimp only); try simp only [Act.put, List.setIfInBounds_toArray, List.set_cons_zero, List.set_cons_succ]
    refine anyM_run (i := 0) (v := .slice (some ⟨wr.drew.heap.size, 0, none⟩) 0 0) (w' := wr.drew.alloc (.cells #[] 48)) rfl (by kernel_rfl) (by rfl) ?_ (.inr hbe) ?_
    ·refine exec_bslice 37 _ _ rfl ?_
     simp only [List.map_toArray, List.map_nil]
     exact hbs0
    try (dsimp only); try simp only [Act.put, List.setIfInBounds_toArray, List.set_cons_zero, List.set_cons_succ]
    refine anyM_run (i := 4) (v := vx) (w' := U1) rfl (by kernel_rfl) (by rfl) ?_ (.inr hb1') ?_
    ·refine exec_app (v := .slice (some ⟨wr.drew.heap.size, 0, none⟩) 0 0) (u := .slice (some ⟨g, 0, none⟩) m cap) _ _ 37 rfl (by rfl) (by rfl) ?_
     exact hr1
    try (dsimp only); try simp only [Act.put, List.setIfInBounds_toArray, List.set_cons_zero, List.set_cons_succ]
    refine anyM_run (i := 9) (v := .slice pa nn pc) (w' := U2) rfl (by kernel_rfl) (by rfl) ?_ (.inr hb2') ?_
    ·refine exec_app (v := vx) (u := .slice (if cap = m + 1 then some ⟨g, 0, none⟩ else some ⟨g, (m + 1) * 2, none⟩) (A.length - (m + 1)) (cap - (m + 1))) _ _ 37 rfl (by rfl) (by rfl) ?_
     exact hr2
    try (dsimp only); try simp only [Act.put, List.setIfInBounds_toArray, List.set_cons_zero, List.set_cons_succ]
    refine anyM_run (i := 10) (v := .slice pa nn pc) (w' := U2) rfl (by kernel_rfl) (by rfl) ?_ (.inr hb2') ?_
    ·go_simp
    try (dsimp only); try simp only [Act.put, List.setIfInBounds_toArray, List.set_cons_zero, List.set_cons_succ]
    refine anyM_done (by kernel_rfl) ?_ _
    generalize (if cap = m + 1 then (some ⟨g, 0, none⟩ : Option Addr) else some ⟨g, (m + 1) * 2, none⟩) = ad
    clear hSS hr1 hr2 hbs0 hbe hbd hb1 hb1' hb2 hb2' ho2
    go_wp2_with (refine HBK.out.mono ?_)
    rintro e W5 ⟨fa', fc', us', rfl, -, -, -, hb5⟩
    rw [HSTL.out]
    obtain ⟨nf, hnf⟩ : ∃ nf, noFit l ware r (dropAt A m) = nf := ⟨_, rfl⟩
    rw [hnf] at HSTEP ⊢
    clear hnf HBK
    rcases nf with _ | _
    ·have HR := Lib.hid (show ruledTo (noFit l ware r) r.length (r.length - m) = A by rw [HSTEP.out]; rfl)
     have ST5 := Lib.hid ((ST.out.below HB2'.out).below hb5)
     clear hb5 HSTEP ST
     go_wp2_with fail
     go_roundw
     case rel => exact ⟨m, by omega, by go_num, by rw [HR.out]; exact ST5.out⟩
     case measure => first | (simp [intOf]; done) | (simp [intOf]; omega)
    ·have HR := Lib.hid (show ruledTo (noFit l ware r) r.length (r.length - m) = dropAt A m by rw [HSTEP.out]; rfl)
     have hbd : Below W5.heap.size W5 W5.drew := (Below.refl _ W5).drew
     have hb05 : Below wr.heap.size wr W5 := HB2'.out.trans (hb5.mono HB2'.out.size)
     obtain ⟨vx', U1', pa', pc', U2', hr1, hb1, hr2, hb2, ho2, hpc'⟩ := cut_row (T := 38) (E := 3) Tryz.underlying38 info_int rfl (by omega) (by omega) (by omega) (W := W5.drew)
      (ownsRow_keep HO2.out (Keep.of_below' (K := fun _ => True) (hb05.trans (hbd.mono hb05.size))) (fun _ _ => trivial)) (by simp [intsV]) HCAP.out (intsV_one _) hml (by omega) (if cap' = m + 1 then some ⟨g', 0, none⟩ else some ⟨g', m + 1, none⟩) (by rw [Nat.mul_one])
     rw [ints_cut, HNN.out] at ho2
     rw [HNN.out] at hr2
     have hb1' : Below W5.heap.size W5 U1' := hbd.trans hb1
     have hb2' : Below W5.heap.size W5 U2' := hbd.trans hb2
     have hbs0 : (Instr.buildSlice 38 0 #[]).run Tryz.prog W5.drew = .ok (.slice (some ⟨W5.drew.heap.size, 0, none⟩) 0 0) (W5.drew.alloc (.cells #[] 3)) := by go_simp
     have hbe : Below W5.heap.size W5 (W5.drew.alloc (.cells #[] 3)) := hbd.alloc (Nat.le_refl _) _
     have ST5 := Lib.hid (show RdSt4 r w (.slice pa nn pc) (.slice pa' nn pc') (dropAt A m) U2' from ⟨⟨_, by
      rw [HDL.out]
      exact ownsRow_keep HLE.out (Keep.of_below' (K := fun _ => True) (hb5.trans (hb2'.mono hb5.size))) (fun _ _ => trivial)⟩, ⟨_, by rw [HDL.out]; exact ho2⟩, (ST.out.b.trans (hb05.mono ST.out.b.size)).trans (hb2'.mono (by have := ST.out.b.size; have := hb05.size; omega))⟩)
     clear hb5 hb05 HSTEP ST HO1 HO2 HLE HB2' ho2
     go_upto_region 17 with fail
     refine wp_region_M (fun V => Below W5.heap.size W5 V) 10 (by kernel_rfl) ?_
     have hSS : Below W5.heap.size W5 W5.drew := hbd
     refine anyM_take (i := 1) (v := ?_) (by kernel_rfl) rfl (by kernel_rfl) (by kernel_rfl) (by kernel_rfl) (by kernel_rfl) (fun _ _ _ h => h) (by rfl) ?_ hSS ?_
     rotate_left
     ·(intro W hW; go_simp; try with_reducible rfl)
     try (dsimp only); try simp only [Act.put, List.setIfInBounds_toArray, List.set_cons_zero, List.set_cons_succ]
     refine anyM_take (i := 2) (v := ?_) (by kernel_rfl) rfl (by kernel_rfl) (by kernel_rfl) (by kernel_rfl) (by kernel_rfl) (fun _ _ _ h => h) (by rfl) ?_ hSS ?_
     rotate_left
     ·(intro W hW; go_simp; try with_reducible rfl)
     try (dsimp only); try simp only [Act.put, List.setIfInBounds_toArray, List.set_cons_zero, List.set_cons_succ]
     refine anyM_take (i := 3) (v := ?_) (by kernel_rfl) rfl (by kernel_rfl) (by kernel_rfl) (by kernel_rfl) (by kernel_rfl) (fun _ _ _ h => h) (by rfl) ?_ hSS ?_
     rotate_left
     ·(intro W hW; go_simp; try with_reducible rfl)
     try (dsimp only); try simp only [Act.put, List.setIfInBounds_toArray, List.set_cons_zero, List.set_cons_succ]
     refine anyM_take (i := 5) (v := ?_) (by kernel_rfl) rfl (by kernel_rfl) (by kernel_rfl) (by kernel_rfl) (by kernel_rfl) (fun _ _ _ h => h) (by rfl) ?_ hSS ?_
     rotate_left
     ·(intro W hW; go_simp; try with_reducible rfl)
     try (dsimp only); try simp only [Act.put, List.setIfInBounds_toArray, List.set_cons_zero, List.set_cons_succ]
     refine anyM_take (i := 6) (v := ?_) (by kernel_rfl) rfl (by kernel_rfl) (by kernel_rfl) (by kernel_rfl) (by kernel_rfl) (fun _ _ _ h => h) (by rfl) ?_ hSS ?_
     rotate_left
     ·(intro W hW; go_simp; try with_reducible rfl)
     try (dsimp only); try simp only [Act.put, List.setIfInBounds_toArray, List.set_cons_zero, List.set_cons_succ]
     refine anyM_take (i := 7) (v := ?_) (by kernel_rfl) rfl (by kernel_rfl) (by kernel_rfl) (by kernel_rfl) (by kernel_rfl) (fun _ _ _ h => h) (by rfl) ?_ hSS ?_
     rotate_left
     ·(intro W hW; go_simp; try with_reducible rfl)
     try (dsimp only); try simp only [Act.put, List.setIfInBounds_toArray, List.set_cons_zero, List.set_cons_succ]
     refine anyM_take (i := 8) (v := ?_) (by kernel_rfl) rfl (by kernel_rfl) (by kernel_rfl) (by kernel_rfl) (by kernel_rfl) (fun _ _ _ h => h) (by rfl) ?_ hSS ?_
     rotate_left
     ·(intro W hW; go_simp; try with_reducible rfl)
     try (dsimp only); try simp only [Act.put, List.setIfInBounds_toArray, List.set_cons_zero, List.set_cons_succ]
     refine anyM_run (i := 0) (v := .slice (some ⟨W5.drew.heap.size, 0, none⟩) 0 0) (w' := W5.drew.alloc (.cells #[] 3)) rfl (by kernel_rfl) (by rfl) ?_ (.inr hbe) ?_
     ·refine exec_bslice 38 _ _ rfl ?_
      simp only [List.map_toArray, List.map_nil]
      exact hbs0
     try (dsimp only); try simp only [Act.put, List.setIfInBounds_toArray, List.set_cons_zero, List.set_cons_succ]
     refine anyM_run (i := 4) (v := vx') (w' := U1') rfl (by kernel_rfl) (by rfl) ?_ (.inr hb1') ?_
     ·refine exec_app (v := .slice (some ⟨W5.drew.heap.size, 0, none⟩) 0 0) (u := .slice (some ⟨g', 0, none⟩) m cap') _ _ 38 rfl (by rfl) (by rfl) ?_
      exact hr1
     try (dsimp only); try simp only [Act.put, List.setIfInBounds_toArray, List.set_cons_zero, List.set_cons_succ]
     refine anyM_run (i := 9) (v := .slice pa' nn pc') (w' := U2') rfl (by kernel_rfl) (by rfl) ?_ (.inr hb2') ?_
     ·refine exec_app (v := vx') (u := .slice (if cap' = m + 1 then some ⟨g', 0, none⟩ else some ⟨g', m + 1, none⟩) (A.length - (m + 1)) (cap' - (m + 1))) _ _ 38 rfl (by rfl) (by rfl) ?_
      exact hr2
     try (dsimp only); try simp only [Act.put, List.setIfInBounds_toArray, List.set_cons_zero, List.set_cons_succ]
     refine anyM_run (i := 10) (v := .slice pa' nn pc') (w' := U2') rfl (by kernel_rfl) (by rfl) ?_ (.inr hb2') ?_
     ·go_simp
     try (dsimp only); try simp only [Act.put, List.setIfInBounds_toArray, List.set_cons_zero, List.set_cons_succ]
     refine anyM_done (by kernel_rfl) ?_ _
     generalize (if cap' = m + 1 then (some ⟨g', 0, none⟩ : Option Addr) else some ⟨g', m + 1, none⟩) = ad'
     clear hSS hr1 hr2 hbs0 hbe hbd hb1 hb1' hb2 hb2'
     go_wp2_with fail
     go_roundw
     case rel => exact ⟨m, by omega, by go_num, by rw [HR.out]; exact ST5.out⟩
     case measure => first | (simp [intOf]; done) | (simp [intOf]; omega)
end Go.Proofs.YthpjffhccjlnhaaGreatDoor
