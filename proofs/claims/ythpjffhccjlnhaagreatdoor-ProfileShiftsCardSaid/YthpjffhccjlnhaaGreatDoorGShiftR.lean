/- The reference: Shifts. Few profiles. -/
import Derived.Test.YthpjffhccjlnhaaGreatDoorGHeads
set_option linter.unusedSimpArgs false
set_option linter.unusedVariables false
namespace Go.Proofs.YthpjffhccjlnhaaGreatDoor
open Go.RowKit
attribute [local go_sem] Oper.semAt_some

theorem ftRows_get {L : List Ft} {i : Nat} {f : Ft} (h : L[i]? = some f) {j : Nat} {x : Value} (hj : j < 3) (hx : (ftRow f)[j]? = some x) : (ftRows L)[i * 3 + j]? = some x := by
 unfold ftRows
 rw [List.flatMap_def, flat_at7 (n := 3) (u := ftRow f) (fun x hx => by obtain ⟨z, _, rfl⟩ := List.mem_map.1 hx; rfl) (by rw [List.getElem?_map, h]; rfl) hj]; exact hx
theorem RwR.below {W W' : World} {v : Value} {fa : Option Addr} {F : List Value} (h : RwR W v fa F) (hb : Below W.heap.size W W') : RwR W' v fa F := fun q x hx => by
 obtain ⟨b, o, g1, g2, g3⟩ := h q x hx
 exact ⟨b, o, g1, below_cell hb g2, g3⟩
/-- a fit in a row -/
theorem RwR.ft {W : World} {v : Value} {fa : Option Addr} {L : List Ft} (h : RwR W v fa (ftRows L)) {i : Nat} {f : Ft} (hf : L[i]? = some f) : ∃ b o, fa = some ⟨b, o, none⟩ ∧ W.cell? ⟨b, o + i * 3, none⟩ = some (.int .i64 f.type) ∧ W.cell? ⟨b, o + i * 3 + 1, none⟩ = some (.int .i64 f.shift) ∧ W.cell? ⟨b, o + i * 3 + 2, none⟩ = some (.string (mkB (toS f.word))) ∧
  (Instr.loadAt 44 (.pointer (some ⟨b, o + i * 3, none⟩))).run Tryz.prog W = .ok (.agg (ftCells f.type f.shift (mkB (toS f.word)))) W := by
 obtain ⟨b, o, h1, c0, -⟩ := h _ _ (ftRows_get hf (j := 0) (by omega) rfl)
 obtain ⟨b', o', h1', c1, -⟩ := h _ _ (ftRows_get hf (j := 1) (by omega) rfl)
 rw [h1] at h1'; cases h1'
 obtain ⟨b', o', h1', c2, -⟩ := h _ _ (ftRows_get hf (j := 2) (by omega) rfl)
 rw [h1] at h1'; cases h1'
 rw [← Nat.add_assoc] at c0 c1 c2
 refine ⟨b, o, h1, c0, c1, c2, run_load_fn agg_ft fun j hj => ?_⟩
 have h3 : j = 0 ∨ j = 1 ∨ j = 2 := by omega
 rcases h3 with rfl | rfl | rfl
 ·exact c0
 ·exact c1
 ·exact c2
set_option maxRecDepth 100000 in
set_option maxHeartbeats 4000000 in
theorem shiftsRX_any (a : Option Addr) (c : Nat) (l : List Typ) (ware : ByteArray) (ra : Option Addr) (rc : Nat) (r : List Rng) (w : World) (h : Ask w a c l ra rc r) (hf : typesErr l = 0 → FewL l) :
  Calls Tryz.prog 33 #[.slice a l.length c, .string ware, .slice ra r.length rc] w fun e w' => ∃ fa fc, e = .returned (.tuple #[.slice fa (shiftsX l ware r).length fc, .int .i64 (wantedErr l ware r)]) ∧ RowOwn w.heap.size w' fa (ftRows (shiftsX l ware r)) ∧ (shiftsX l ware r).length ≤ fc ∧ Below w.heap.size w w' := by
 have HC := Lib.hid (askedR_any a c l ware ra rc r w h)
 have HA := Lib.hid h
 have HFW := Lib.hid hf
 clear h hf
 go_enter Tryz.func33, Tryz.ntmps33
 go_wp2_with (refine HC.out.mono ?_)
 rintro e w2 ⟨rfl, hb2⟩
 have A2 := Lib.hid (HA.out.below hb2)
 have HB2 := Lib.hid hb2
 clear hb2 HC HA
 by_cases h0 : wantedErr l ware r = 0
 rotate_left
 ·have HX : Hid (shiftsX l ware r = []) := Lib.hid (by unfold shiftsX; rw [if_neg h0])
  have hne : (wantedErr l ware r == 0) = false := by simpa using h0
  go_wp2_with fail
  exact bodyPost_ret (results_tmp_tmp4 rfl) rfl ⟨none, 0, by rw [HX.out]; rfl, by rw [HX.out]; exact RowOwn.nil _ _ _, by rw [HX.out]; exact Nat.le_refl _, HB2.out⟩
 have HF := Lib.hid (fitsA_any a c l ware ra rc r w2 A2.out h0 (HFW.out (wanted_typ h0).1))
 have HLL := Lib.hid (fitsT_len h0 (HFW.out (wanted_typ h0).1))
 have HX : Hid (shiftsX l ware r = heads none (fitsT l ware r)) := Lib.hid (by unfold shiftsX; rw [if_pos h0, heads_fits])
 have H0 := Lib.hid h0
 simp only [h0]
 clear h0 HFW
 go_wp2_with (refine HF.out.mono ?_)
 rintro e w3 ⟨fa, fc, rfl, hro, -, hb3⟩
 have HB3 := Lib.hid (HB2.out.trans (hb3.mono HB2.out.size))
 obtain ⟨L, hL⟩ : ∃ L, fitsT l ware r = L := ⟨_, rfl⟩
 rw [hL] at HLL HX hro
 rw [hL]
 have hl5 := HLL.out
 have ST := Lib.hid (show FtSt w3 (.slice none 0 0) (heads none (L.take 0)) w3 from ⟨ownsRow_nil _ _ _ _, Below.refl _ _⟩)
 have RW := Lib.hid (show RwR w3 (.slice none 0 0) fa (ftRows L) from fun q x hx => by
  obtain ⟨b, o, g1, g2, g3, _⟩ := hro q x hx
  exact ⟨b, o, g1, g3, fun e => by cases e⟩)
 clear HF hb3 hro hL HLL A2
 go_wp2_with fail
 go_loopw [10, 11] (fun ov iv wr => ∃ i : Nat, i ≤ L.length ∧ iv = .int .i64 i ∧ FtSt w3 ov (heads none (L.take i)) wr ∧ RwR wr ov fa (ftRows L)) (fun _ iv _ => L.length - (intOf iv).toNat)
 case atStart => exact ⟨0, Nat.zero_le _, rfl, ST.out, RW.out⟩
 case round =>
  clear ST RW
  obtain ⟨i, hi, rfl, st, rw_⟩ := hrel
  have ST := Lib.hid st
  have RW := Lib.hid rw_
  clear st rw_
  by_cases hlt : i < L.length
  rotate_left
  ·have hin : decide ((i : Int) < (L.length : Int)) = false := by simp; omega
   have hin2 : decide (i < L.length) = false := decide_eq_false hlt
   have o1 := ST.out.o
   rw [List.take_of_length_le (by omega), ← HX.out] at o1
   obtain ⟨a', c', rfl, hro, hcap⟩ := ownsRow_own o1
   have HRO := Lib.hid hro
   have HCP := Lib.hid hcap
   clear o1 hro hcap
   go_wp2_with fail
   exact bodyPost_ret (results_tmp_tmp4 rfl) rfl ⟨a', c', by rw [H0.out]; rfl, HRO.out.less HB3.out.size, HCP.out, HB3.out.trans (ST.out.b.mono HB3.out.size)⟩
  obtain ⟨f, hf⟩ : ∃ f, L[i]? = some f := ⟨L[i], by simp [hlt]⟩
  obtain ⟨b, o, rfl, c0, c1, c2, hld⟩ := RW.out.ft hf
  have hki : (i : Int) < (L.length : Int) := by omega
  have hk0 : (0 : Int) ≤ (i : Int) := by omega
  have hkw : IntKind.i64.wrap ((i : Int) + 1) = (i : Int) + 1 := IntWalk.i64_in _ (by omega)
  have hhl := heads_len (L.take i) none
  have hhl2 : (heads none (L.take i)).length ≤ 520000 := by rw [List.length_take] at hhl; omega
  have HFI := Lib.hid hf
  clear hld hf hhl c2
  rcases Nat.eq_zero_or_pos i with hi0 | hi0
  ·have e0 : ((i : Int) == 0) = true := by rw [beq_iff_eq]; omega
   have HHD := Lib.hid (show heads none (L.take (i + 1)) = heads none (L.take i) ++ [f] by
    have hf := HFI.out
    rw [hi0] at hf ⊢
    exact heads_first hf)
   clear hi0
   go_wp2_with fail
   go_quiet (fail)
   generalize hW : wr.drewN _ = W
   have hbW : Below wr.heap.size wr W := hW ▸ below_drewN (Below.refl _ _) _
   clear hW
   have RWW := RW.out.below hbW
   obtain ⟨a', c', U, hbs, hrun, hst, hrw⟩ := (ST.out.below hbW).app (by omega) f RWW
   obtain ⟨b2, o2, he2, -, -, -, hld⟩ := RwR.ft RWW HFI.out
   cases he2
   have HBS := Lib.hid hbs
   have HRUN := Lib.hid hrun
   have HRW := Lib.hid hrw
   have HLD := Lib.hid hld
   have HNX := Lib.hid (show FtSt w3 (.slice a' ((heads none (L.take i)).length + 1) c') (heads none (L.take (i + 1))) U by rw [HHD.out]; exact hst)
   clear hbs hrun hst hrw hld RWW c0 c1 hbW
   go_wp2_with (first
    | (refine wpList_load_box rfl 44 _ rfl rfl HLD.out ?_)
    | (apply wpList_bsl (T := 51) (n := 1) (hr := HBS.out); (· rfl); (· (simp only [List.map_toArray, List.map_cons, List.map_nil]; rfl)))
    | (at_builtin; refine wpList_app rfl _ _ _ rfl rfl rfl HRUN.out ?_))
   go_roundw
   case rel => exact ⟨i + 1, by omega, by go_num, HNX.out, HRW.out⟩
   case measure => simp [intOf]; omega
  ·have e0 : ((i : Int) == 0) = false := by rw [beq_eq_false_iff_ne]; omega
   obtain ⟨j, hj⟩ : ∃ j, i = j + 1 := ⟨i - 1, by omega⟩
   obtain ⟨g, hg⟩ : ∃ g, L[j]? = some g := ⟨L[j]'(by omega), List.getElem?_eq_getElem _⟩
   have HSTP := Lib.hid (show heads none (L.take (i + 1)) = heads none (L.take i) ++ if g.type = f.type ∧ g.shift = f.shift then [] else [f] by
    have hf := HFI.out
    rw [hj] at hf ⊢
    exact heads_step hg hf)
   obtain ⟨b', o', he, d0, d1, -, -⟩ := RW.out.ft hg
   cases he
   have hjw : IntKind.i64.wrap ((i : Int) - 1) = (j : Int) := by rw [IntWalk.i64_in _ (by omega)]; omega
   have hj0 : (0 : Int) ≤ (j : Int) := by omega
   have hji : (j : Int) < (L.length : Int) := by omega
   clear hj hg hi0
   by_cases q1 : g.type = f.type
   rotate_left
   ·have e1 : ((f.type : Int) != (g.type : Int)) = true := by rw [bne_iff_ne]; omega
    have e2 : ((f.type : Int) == (g.type : Int)) = false := by rw [beq_eq_false_iff_ne]; omega
    have HHD := Lib.hid (show heads none (L.take (i + 1)) = heads none (L.take i) ++ [f] by rw [HSTP.out, if_neg fun h => q1 h.1])
    clear q1
    go_wp2_with fail
    go_quiet (fail)
    generalize hW : wr.drewN _ = W
    have hbW : Below wr.heap.size wr W := hW ▸ below_drewN (Below.refl _ _) _
    clear hW
    have RWW := RW.out.below hbW
    obtain ⟨a', c', U, hbs, hrun, hst, hrw⟩ := (ST.out.below hbW).app (by omega) f RWW
    obtain ⟨b2, o2, he2, -, -, -, hld⟩ := RwR.ft RWW HFI.out
    cases he2
    have HBS := Lib.hid hbs
    have HRUN := Lib.hid hrun
    have HRW := Lib.hid hrw
    have HLD := Lib.hid hld
    have HNX := Lib.hid (show FtSt w3 (.slice a' ((heads none (L.take i)).length + 1) c') (heads none (L.take (i + 1))) U by rw [HHD.out]; exact hst)
    clear hbs hrun hst hrw hld RWW c0 c1 hbW
    go_wp2_with (first
     | (refine wpList_load_box rfl 44 _ rfl rfl HLD.out ?_)
     | (apply wpList_bsl (T := 51) (n := 1) (hr := HBS.out); (· rfl); (· (simp only [List.map_toArray, List.map_cons, List.map_nil]; rfl)))
     | (at_builtin; refine wpList_app rfl _ _ _ rfl rfl rfl HRUN.out ?_))
    go_roundw
    case rel => exact ⟨i + 1, by omega, by go_num, HNX.out, HRW.out⟩
    case measure => simp [intOf]; omega
   have e1 : ((f.type : Int) != (g.type : Int)) = false := by rw [bne_eq_false_iff_eq]; omega
   have e2 : ((f.type : Int) == (g.type : Int)) = true := by rw [beq_iff_eq]; omega
   by_cases q2 : g.shift = f.shift
   rotate_left
   ·have e3 : ((f.shift : Int) != (g.shift : Int)) = true := by rw [bne_iff_ne]; omega
    have e4 : ((f.shift : Int) == (g.shift : Int)) = false := by rw [beq_eq_false_iff_ne]; omega
    have HHD := Lib.hid (show heads none (L.take (i + 1)) = heads none (L.take i) ++ [f] by rw [HSTP.out, if_neg fun h => q2 h.2])
    clear q1 q2
    go_wp2_with fail
    go_quiet (fail)
    generalize hW : wr.drewN _ = W
    have hbW : Below wr.heap.size wr W := hW ▸ below_drewN (Below.refl _ _) _
    clear hW
    have RWW := RW.out.below hbW
    obtain ⟨a', c', U, hbs, hrun, hst, hrw⟩ := (ST.out.below hbW).app (by omega) f RWW
    obtain ⟨b2, o2, he2, -, -, -, hld⟩ := RwR.ft RWW HFI.out
    cases he2
    have HBS := Lib.hid hbs
    have HRUN := Lib.hid hrun
    have HRW := Lib.hid hrw
    have HLD := Lib.hid hld
    have HNX := Lib.hid (show FtSt w3 (.slice a' ((heads none (L.take i)).length + 1) c') (heads none (L.take (i + 1))) U by rw [HHD.out]; exact hst)
    clear hbs hrun hst hrw hld RWW c0 c1 hbW
    go_wp2_with (first
     | (refine wpList_load_box rfl 44 _ rfl rfl HLD.out ?_)
     | (apply wpList_bsl (T := 51) (n := 1) (hr := HBS.out); (· rfl); (· (simp only [List.map_toArray, List.map_cons, List.map_nil]; rfl)))
     | (at_builtin; refine wpList_app rfl _ _ _ rfl rfl rfl HRUN.out ?_))
    go_roundw
    case rel => exact ⟨i + 1, by omega, by go_num, HNX.out, HRW.out⟩
    case measure => simp [intOf]; omega
   have e3 : ((f.shift : Int) != (g.shift : Int)) = false := by rw [bne_eq_false_iff_eq]; omega
   have e4 : ((f.shift : Int) == (g.shift : Int)) = true := by rw [beq_iff_eq]; omega
   have HHD := Lib.hid (show heads none (L.take (i + 1)) = heads none (L.take i) by rw [HSTP.out, if_pos ⟨q1, q2⟩, List.append_nil])
   clear q1 q2
   go_wp2_with fail
   go_quiet (fail)
   go_wp2_with fail
   go_roundw
   case rel => exact ⟨i + 1, by omega, by go_num, by rw [HHD.out]; exact ST.out.below (below_drewN (Below.refl _ _) _), RW.out.below (below_drewN (Below.refl _ _) _)⟩
   case measure => simp [intOf]; omega
end Go.Proofs.YthpjffhccjlnhaaGreatDoor
