/- ProfileFits: for all inputs the law returns true and makes new memory alone. No condition. -/
import Derived.Test.YthpjffhccjlnhaaGreatDoorGComplR
import Derived.Test.YthpjffhccjlnhaaGreatDoorMG26
import Derived.Test.YthpjffhccjlnhaaGreatDoorMG19
set_option linter.unusedSimpArgs false
set_option linter.unusedVariables false
namespace Go.Proofs.YthpjffhccjlnhaaGreatDoor
open Go.RowKit
attribute [local go_sem] Oper.semAt_some

theorem complete_form5 (l : List Typ) (ware : ByteArray) (r : List Rng) : ∃ (i j : Int) (x : ByteArray) (B : Bool), completeOut l ware r = .tuple #[.agg #[.int .i64 i, .int .i64 j, .string x], .bool B, .int .i64 (wantedErr l ware r)] := by
 unfold completeOut
 split
 ·rename_i h
  rw [h]
  rcases hs : shiftsT l ware r with _ | ⟨f, L⟩
  ·exact ⟨0, 0, ByteArray.empty, false, rfl⟩
  ·exact ⟨f.type, f.shift, mkB (toS f.word), true, rfl⟩
 ·exact ⟨0, 0, ByteArray.empty, false, rfl⟩
set_option maxRecDepth 100000 in
set_option maxHeartbeats 8000000 in
theorem profileFits_any (a : Option Addr) (l : List Typ) (c : Nat) (hlc : l.length ≤ c) (ware : ByteArray) (ra : Option Addr) (r : List Rng) (rc : Nat) (hrc : r.length ≤ rc) (i s : Int) (wd : ByteArray) (w : World) (hT : TypesAt w a l) (hR : RngsAt w ra r) :
  Calls Tryz.prog 12 #[.slice a l.length c, .string ware, .slice ra r.length rc, .agg #[.int .i64 i, .int .i64 s, .string wd]] w fun e w' => e = .returned (.bool true) ∧ Below w.heap.size w w' := by
 obtain ⟨w1, hw1⟩ : ∃ w1, w.alloc (.cells #[.int .i64 i, .int .i64 s, .string wd] 44) = w1 := ⟨_, rfl⟩
 have b0 : Box w1 w.heap.size (ftCells i s wd) 44 := by rw [← hw1]; exact Box.new _ _ _
 have hB : Below w.heap.size w w1 := by rw [← hw1]; go_grown
 have HB1 := Lib.hid hB
 have HT := Lib.hid (hT.below hB)
 have HR := Lib.hid (hR.below hB)
 have HF := Lib.hid b0
 have HW := Lib.hid hw1
 have HFE := Lib.hid (few_any a c l ra rc r w1 HT.out HR.out)
 clear hT hR b0 hB hw1
 have htu := fun W => turned_law W
 have HTU := Lib.hid htu
 clear htu
 go_enter Tryz.func12, Tryz.ntmps12
 go_upto_region 1 with fail
 simp only [HW.out]
 go_wp2_with (refine HFE.out.mono ?_)
 rintro e w' ⟨bs, rfl, hok, hb1⟩
 have HB := Lib.hid (HB1.out.trans (hb1.mono HB1.out.size))
 have HF1 := Lib.hid (HF.out.below' hb1)
 have HT1 := Lib.hid (HT.out.below hb1)
 have HR1 := Lib.hid (HR.out.below hb1)
 clear HFE hb1 HB1 HF HT HR HW
 rcases bs with _ | _
 ·go_wp2_with (refine (HTU.out _).mono ?_)
  rintro e wt ⟨rfl, hbt⟩
  have HBT := Lib.hid (HB.out.trans (hbt.mono HB.out.size))
  clear hbt
  go_wp2_with fail
  go_ret
  exact ⟨rfl, HBT.out⟩
 have HOK := Lib.hid (hok rfl)
 clear hok
 have c2 : w'.cell? ⟨w.heap.size, 2, none⟩ = some (.string wd) := HF1.out.fn (i := 2) (by omega)
 by_cases hsz : 100 < ware.size
 ·have hszi : (100 : Int) < (ware.size : Int) := by omega
  go_wp2_with (refine (HTU.out _).mono ?_)
  rintro e wt ⟨rfl, hbt⟩
  have HBT := Lib.hid (HB.out.trans (hbt.mono HB.out.size))
  clear hbt
  go_wp2_with fail
  go_ret
  exact ⟨rfl, HBT.out⟩
 have hszi : ¬ (100 : Int) < (ware.size : Int) := by omega
 by_cases hwd : 20 < wd.size
 ·have hwdi : (20 : Int) < (wd.size : Int) := by omega
  go_wp2_with (refine (HTU.out _).mono ?_)
  rintro e wt ⟨rfl, hbt⟩
  have HBT := Lib.hid (HB.out.trans (hbt.mono HB.out.size))
  clear hbt
  go_wp2_with fail
  go_ret
  exact ⟨rfl, HBT.out⟩
 have hwdi : ¬ (20 : Int) < (wd.size : Int) := by omega
 have HA := Lib.hid (HOK.out.short.ask HT1.out HR1.out hlc hrc)
 have HFL := Lib.hid (show typesErr l = 0 → FewL l from HOK.out.few)
 obtain ⟨fi, fj, fx, B, hCo⟩ := complete_form5 l ware r
 have HCo := Lib.hid hCo
 obtain ⟨E, hE⟩ : ∃ E, wantedErr l ware r = E := ⟨_, rfl⟩
 have hco := complete_any a c l ware ra rc r w' HA.out
 rw [hCo, hE] at hco
 obtain ⟨P, hP⟩ : ∃ P, (wantedErr l ware r == 0 && checkFitT l ware r i s wd) = P := ⟨_, rfl⟩
 have HCF := Lib.hid (show ∀ W, Ask W a c l ra rc r → Calls Tryz.prog 58 #[.slice a l.length c, .string ware, .slice ra r.length rc, .agg (ftCells i s wd)] W fun e w' => e = .returned (.tuple #[.bool P, .int .i64 E]) ∧ Below W.heap.size W w' from fun W hW => by
  have h := checkFit_any a c l ware ra rc r i s wd (by omega) W hW
  unfold checkFitOut at h
  rw [hP, hE] at h
  exact h)
 have HCR := Lib.hid (show ∀ W, Ask W a c l ra rc r → Calls Tryz.prog 59 #[.slice a l.length c, .string ware, .slice ra r.length rc, .agg (ftCells i s wd)] W fun e w' => e = .returned (.tuple #[.bool P, .int .i64 E]) ∧ Below W.heap.size W w' from fun W hW => by
  have h := checkFitR_any a c l ware ra rc r i s wd (by omega) W hW
  unfold checkFitOut at h
  rw [hP, hE] at h
  exact h)
 have HCM := Lib.hid (show ∀ W, Ask W a c l ra rc r → Calls Tryz.prog 57 #[.slice a l.length c, .string ware, .slice ra r.length rc] W fun e w' => e = .returned (.tuple #[.agg #[.int .i64 fi, .int .i64 fj, .string fx], .bool B, .int .i64 E]) ∧ Below W.heap.size W w' from fun W hW => by
  have h := completeR_any a c l ware ra rc r W hW HFL.out
  rw [hCo, hE] at h
  exact h)
 have HCO := Lib.hid hco
 clear hco hCo hE hP HT1 HR1 HOK HFL HCo
 go_wp2_with (refine HCO.out.mono ?_)
 rintro e w2 ⟨rfl, hb2⟩
 obtain ⟨v2, hv2⟩ : ∃ x, w2.alloc (.cells #[.int .i64 fi, .int .i64 fj, .string fx] 44) = x := ⟨_, rfl⟩
 have hbv : Below w2.heap.size w2 v2 := by rw [← hv2]; go_grown
 have BG := Lib.hid (show Box v2 w2.heap.size (ftCells fi fj fx) 44 by rw [← hv2]; exact Box.new _ _ _)
 have hb3 : Below w'.heap.size w' v2 := hb2.trans (hbv.mono hb2.size)
 have HB2 := Lib.hid (HB.out.trans (hb3.mono HB.out.size))
 have HA2 := Lib.hid (HA.out.below hb3)
 have HF2 := Lib.hid (HF1.out.below' hb3)
 clear hb2 hbv hb3 HCO HB HA HF1 c2
 go_wp2_with (refine (HCM.out v2 HA2.out).mono ?_)
 rintro e w3 ⟨rfl, hb3⟩
 obtain ⟨v3, hv3⟩ : ∃ x, w3.alloc (.cells #[.int .i64 fi, .int .i64 fj, .string fx] 44) = x := ⟨_, rfl⟩
 have hbv : Below w3.heap.size w3 v3 := by rw [← hv3]; go_grown
 have BH := Lib.hid (show Box v3 w3.heap.size (ftCells fi fj fx) 44 by rw [← hv3]; exact Box.new _ _ _)
 have hb4 : Below v2.heap.size v2 v3 := hb3.trans (hbv.mono hb3.size)
 have HB3 := Lib.hid (HB2.out.trans (hb4.mono HB2.out.size))
 have HA3 := Lib.hid (HA2.out.below hb4)
 have HF3 := Lib.hid (HF2.out.below' hb4)
 have BG3 := Lib.hid (BG.out.below' hb4)
 obtain ⟨g, hg⟩ : ∃ g, w2.heap.size = g := ⟨_, rfl⟩
 rw [hg] at BG3
 simp only [hg]
 clear hb3 hbv hb4 HCM HB2 HA2 HF2 BG hg hv2
 have HL := Lib.hid (load_ft HF3.out)
 go_wp2_with (refine wpList_load_box rfl 44 _ rfl rfl HL.out ?_)
 refine (HCF.out v3 HA3.out).mono ?_
 rintro e w4 ⟨rfl, hb4⟩
 have HB4 := Lib.hid (HB3.out.trans (hb4.mono HB3.out.size))
 have HA4 := Lib.hid (HA3.out.below hb4)
 have HF4 := Lib.hid (HF3.out.below' hb4)
 have BG4 := Lib.hid (BG3.out.below' hb4)
 have BH4 := Lib.hid (BH.out.below' hb4)
 clear hb4 HCF HB3 HA3 HF3 BG3 BH HL hv3
 have HL := Lib.hid (load_ft HF4.out)
 go_wp2_with (refine wpList_load_box rfl 44 _ rfl rfl HL.out ?_)
 refine (HCR.out w4 HA4.out).mono ?_
 rintro e w5 ⟨rfl, hb5⟩
 have HB5 := Lib.hid (HB4.out.trans (hb5.mono HB4.out.size))
 have BG5 := Lib.hid (BG4.out.below' hb5)
 have BH5 := Lib.hid (BH4.out.below' hb5)
 clear hb5 HCR HB4 HA4 HF4 BG4 BH4 HL
 go_wp2_with (refine (HTU.out _).mono ?_)
 rintro e wt ⟨rfl, hbt⟩
 have HBT := Lib.hid (HB5.out.trans (hbt.mono HB5.out.size))
 have ca : wt.cell? ⟨g, 0, none⟩ = some (.int .i64 fi) := (BG5.out.below' hbt).fn (i := 0) (by omega)
 have cb : wt.cell? ⟨g, 1, none⟩ = some (.int .i64 fj) := (BG5.out.below' hbt).fn (i := 1) (by omega)
 have cd : wt.cell? ⟨g, 2, none⟩ = some (.string fx) := (BG5.out.below' hbt).fn (i := 2) (by omega)
 have da : wt.cell? ⟨w3.heap.size, 0, none⟩ = some (.int .i64 fi) := (BH5.out.below' hbt).fn (i := 0) (by omega)
 have db : wt.cell? ⟨w3.heap.size, 1, none⟩ = some (.int .i64 fj) := (BH5.out.below' hbt).fn (i := 1) (by omega)
 have dd : wt.cell? ⟨w3.heap.size, 2, none⟩ = some (.string fx) := (BH5.out.below' hbt).fn (i := 2) (by omega)
 have HEE := beq_self_eq_true E
 have HEP := beq_self_eq_true P
 have HEB := beq_self_eq_true B
 have HEi := beq_self_eq_true fi
 have HEj := beq_self_eq_true fj
 have HEx := beq_self_eq_true fx.toList
 clear hbt
 go_wp2_with fail
 go_ret
 exact ⟨rfl, HBT.out⟩
end Go.Proofs.YthpjffhccjlnhaaGreatDoor
