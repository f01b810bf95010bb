/- The reference: Complete. Few profiles. -/
import Derived.Test.YthpjffhccjlnhaaGreatDoorGFitsA
set_option linter.unusedSimpArgs false
set_option linter.unusedVariables false
namespace Go.Proofs.YthpjffhccjlnhaaGreatDoor
open Go.RowKit
attribute [local go_sem] Oper.semAt_some

theorem complete_nil {l : List Typ} {ware : ByteArray} {r : List Rng} (h : wantedErr l ware r = 0) (hf : fitsT l ware r = []) : completeOut l ware r = .tuple #[.agg (ftCells 0 0 ByteArray.empty), .bool false, .int .i64 0] := by
 have hc := complete_eq l ware r
 rw [hf] at hc
 have hs : shiftsT l ware r = [] := List.head?_eq_none_iff.1 hc.symm
 unfold completeOut
 rw [if_pos h, hs]; rfl
theorem complete_cons {l : List Typ} {ware : ByteArray} {r : List Rng} {f : Ft} {L : List Ft} (h : wantedErr l ware r = 0) (hf : fitsT l ware r = f :: L) : completeOut l ware r = .tuple #[.agg (ftCells f.type f.shift (mkB (toS f.word))), .bool true, .int .i64 0] := by
 have hc := complete_eq l ware r
 rw [hf] at hc
 unfold completeOut
 rw [if_pos h]
 rcases hs : shiftsT l ware r with _ | ⟨g, M⟩
 ·rw [hs] at hc; cases hc
 ·rw [hs] at hc
  have : f = g := Option.some.inj hc
  rw [← this]; rfl
set_option maxRecDepth 100000 in
set_option maxHeartbeats 2000000 in
theorem completeR_any (a : Option Addr) (c : Nat) (l : List Typ) (ware : ByteArray) (ra : Option Addr) (rc : Nat) (r : List Rng) (w : World) (h : Ask w a c l ra rc r) (hf : typesErr l = 0 → FewL l) :
  Calls Tryz.prog 57 #[.slice a l.length c, .string ware, .slice ra r.length rc] w fun e w' => e = .returned (completeOut l ware r) ∧ Below w.heap.size w w' := by
 obtain ⟨w1, hw1⟩ : ∃ w1, w.alloc (.cells (ftCells 0 0 ByteArray.empty) 44) = w1 := ⟨_, rfl⟩
 have b0 : Box w1 w.heap.size (ftCells 0 0 ByteArray.empty) 44 := by rw [← hw1]; exact Box.new _ _ _
 have hB : Below w.heap.size w w1 := by rw [← hw1]; go_grown
 have HA := Lib.hid (h.below hB)
 have B0 := Lib.hid b0
 have HB := Lib.hid hB
 have HW := Lib.hid hw1
 have HFW := Lib.hid hf
 have HC := Lib.hid (askedR_any a c l ware ra rc r w1 HA.out)
 clear h b0 hB hw1 hf
 go_enter Tryz.func57, Tryz.ntmps57
 go_upto_region 1 with fail
 simp only [zft, HW.out]
 go_wp2_with (refine HC.out.mono ?_)
 rintro e w2 ⟨rfl, hb2⟩
 have A2 := Lib.hid (HA.out.below hb2)
 have B2 := Lib.hid (B0.out.below' hb2)
 have HB2 := Lib.hid (HB.out.trans (hb2.mono HB.out.size))
 clear hb2 HA B0 HC
 by_cases h0 : wantedErr l ware r = 0
 rotate_left
 ·have HE : Hid (completeOut l ware r = .tuple #[.agg (ftCells 0 0 ByteArray.empty), .bool false, .int .i64 (wantedErr l ware r)]) := Lib.hid (by unfold completeOut; rw [if_neg h0])
  have hne : (wantedErr l ware r == 0) = false := by simpa using h0
  obtain ⟨w4, hst, hw4⟩ := run_store_all (P := Tryz.prog) agg_ft B2.out (ftF 0 0 ByteArray.empty) (fun j _ => ftF_one _ _ _ j)
  have HST := Lib.hid hst
  have HW4 := Lib.hid hw4
  clear hst hw4
  go_wp2_with (first
   | (refine wpList_build rfl (v := .agg (ftCells 0 0 ByteArray.empty)) 44 _ rfl (by simp only [List.map_toArray, List.map_nil]; exact run_build_ft0 _) ?_)
   | (refine wpList_store_box rfl 44 _ _ rfl rfl rfl HST.out ?_))
  refine bodyPost_ret (results_cell_tmp2 rfl rfl (loadv_ft HW4.out.box)) rfl ⟨?_, HW4.out.below HB2.out (Nat.le_refl _)⟩
  rw [HE.out]; rfl
 have HF := Lib.hid (fitsA_any a c l ware ra rc r w2 A2.out h0 (HFW.out (wanted_typ h0).1))
 have H0 := Lib.hid h0
 simp only [h0]
 clear h0 HFW
 go_wp2_with (refine HF.out.mono ?_)
 rintro e w3 ⟨fa, fc, rfl, hro, hfc, hb3⟩
 have B3 := Lib.hid (B2.out.below' hb3)
 have HB3 := Lib.hid (HB2.out.trans (hb3.mono HB2.out.size))
 clear HF hb3
 rcases hq : fitsT l ware r with _ | ⟨f, L⟩
 ·have HE := Lib.hid (complete_nil H0.out hq)
  obtain ⟨w4, hst, hw4⟩ := run_store_all (P := Tryz.prog) agg_ft B3.out (ftF 0 0 ByteArray.empty) (fun j _ => ftF_one _ _ _ j)
  have HST := Lib.hid hst
  have HW4 := Lib.hid hw4
  clear hq hst hw4 hro hfc
  go_wp2_with (first
   | (refine wpList_build rfl (v := .agg (ftCells 0 0 ByteArray.empty)) 44 _ rfl (by simp only [List.map_toArray, List.map_nil]; exact run_build_ft0 _) ?_)
   | (refine wpList_store_box rfl 44 _ _ rfl rfl rfl HST.out ?_))
  refine bodyPost_ret (results_cell_tmp2 rfl rfl (loadv_ft HW4.out.box)) rfl ⟨?_, HW4.out.below HB3.out (Nat.le_refl _)⟩
  rw [HE.out]; rfl
 ·have HE := Lib.hid (complete_cons H0.out hq)
  rw [hq] at hro hfc
  have hg : ∀ j, j < 3 → ∃ b o, fa = some ⟨b, o, none⟩ ∧ w3.cell? ⟨b, o + j, none⟩ = some (ftF f.type f.shift (mkB (toS f.word)) j) := fun j hj => by
   obtain ⟨b, o, ha, _, hc, _⟩ := hro j (ftF f.type f.shift (mkB (toS f.word)) j) (by
    have h3 : j = 0 ∨ j = 1 ∨ j = 2 := by omega
    rcases h3 with rfl | rfl | rfl <;> rfl)
   exact ⟨b, o, ha, hc⟩
  obtain ⟨b, o, rfl, -⟩ := hg 0 (by omega)
  have hld : (Instr.loadAt 44 (.pointer (some ⟨b, o, none⟩))).run Tryz.prog w3 = .ok (.agg (ftCells f.type f.shift (mkB (toS f.word)))) w3 := run_load_fn agg_ft fun j hj => by
   obtain ⟨b', o', e, h⟩ := hg j hj
   cases e; exact h
  obtain ⟨w6, hst6, hw6⟩ := run_store_all (P := Tryz.prog) agg_ft B3.out (ftF f.type f.shift (mkB (toS f.word))) (fun j _ => ftF_one _ _ _ j)
  obtain ⟨m, hm⟩ : ∃ m, (f :: L).length = m := ⟨_, rfl⟩
  have hpos : (0 : Int) < (m : Int) := by rw [← hm]; simp
  have hpos2 : ((m : Int) == 0) = false := by rw [beq_eq_false_iff_ne]; omega
  have HLD := Lib.hid hld
  have HST6 := Lib.hid hst6
  have HW6 := Lib.hid hw6
  rw [hm]
  clear hq hro hfc hg hld hst6 hw6 hm
  go_wp2_with (first
   | (refine wpList_load_box rfl 44 _ rfl rfl HLD.out ?_)
   | (refine wpList_store_box rfl 44 _ _ rfl rfl rfl HST6.out ?_))
  refine bodyPost_ret (results_cell_tmp2 rfl rfl (loadv_ft HW6.out.box)) rfl ⟨?_, HW6.out.below HB3.out (Nat.le_refl _)⟩
  rw [HE.out]; rfl
end Go.Proofs.YthpjffhccjlnhaaGreatDoor
