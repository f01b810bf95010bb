/- ProfileShifts: for all inputs the law returns true and makes new memory alone. No condition. -/
import Derived.Test.YthpjffhccjlnhaaGreatDoorGChoiR
import Derived.Test.YthpjffhccjlnhaaGreatDoorGSameF
import Derived.Test.YthpjffhccjlnhaaGreatDoorMG19
import Derived.Test.YthpjffhccjlnhaaGreatDoorMG13
set_option linter.unusedSimpArgs false
set_option linter.unusedVariables false
namespace Go.Proofs.YthpjffhccjlnhaaGreatDoor
open Go.RowKit
attribute [local go_sem] Oper.semAt_some

theorem choices_form (l : List Typ) (ware : ByteArray) (r : List Rng) (n : Int) : ∃ (T : ByteArray) (E : Int), choicesOut l ware r n = .tuple #[.string T, .int .i64 E] := by
 unfold choicesOut
 split
 ·split
  ·exact ⟨_, _, rfl⟩
  ·exact ⟨_, _, rfl⟩
 ·exact ⟨_, _, rfl⟩
set_option maxRecDepth 100000 in
set_option maxHeartbeats 8000000 in
theorem profileShifts_any (a : Option Addr) (l : List Typ) (c : Nat) (hlc : l.length ≤ c) (ware : ByteArray) (ra : Option Addr) (r : List Rng) (rc : Nat) (hrc : r.length ≤ rc) (at_ : Int) (w : World) (hT : TypesAt w a l) (hR : RngsAt w ra r) :
  Calls Tryz.prog 7 #[.slice a l.length c, .string ware, .slice ra r.length rc, .int .i64 at_] w fun e w' => e = .returned (.bool true) ∧ Below w.heap.size w w' := by
 have HT := Lib.hid hT
 have HR := Lib.hid hR
 have HFE := Lib.hid (few_any a c l ra rc r w hT hR)
 clear hT hR
 have htu := fun W => turned_law W
 have HTU := Lib.hid htu
 clear htu
 go_enter Tryz.func7, Tryz.ntmps7
 go_wp2_with (refine HFE.out.mono ?_)
 rintro e w' ⟨bs, rfl, hok, hb1⟩
 have HB := Lib.hid hb1
 have HT1 := Lib.hid (HT.out.below hb1)
 have HR1 := Lib.hid (HR.out.below hb1)
 clear HFE hb1 HT HR
 rcases bs with _ | _
 ·go_wp2_with (refine (HTU.out _).mono ?_)
  rintro e wt ⟨rfl, hbt⟩
  have HBT := Lib.hid (HB.out.trans (hbt.mono HB.out.size))
  clear hbt
  go_wp2_with fail
  go_ret
  exact ⟨rfl, HBT.out⟩
 have HOK := Lib.hid (hok rfl)
 clear hok
 by_cases hsz : 100 < ware.size
 ·have hszi : (100 : Int) < (ware.size : Int) := by omega
  go_wp2_with (refine (HTU.out _).mono ?_)
  rintro e wt ⟨rfl, hbt⟩
  have HBT := Lib.hid (HB.out.trans (hbt.mono HB.out.size))
  clear hbt
  go_wp2_with fail
  go_ret
  exact ⟨rfl, HBT.out⟩
 have hszi : ¬ (100 : Int) < (ware.size : Int) := by omega
 have HA := Lib.hid (HOK.out.short.ask HT1.out HR1.out hlc hrc)
 have HFL := Lib.hid (show typesErr l = 0 → FewL l from HOK.out.few)
 obtain ⟨E, hE⟩ : ∃ E, wantedErr l ware r = E := ⟨_, rfl⟩
 obtain ⟨L, hL⟩ : ∃ L, shiftsX l ware r = L := ⟨_, rfl⟩
 obtain ⟨T, G, hch⟩ := choices_form l ware r at_
 have HLL := Lib.hid (show L.length ≤ 1000000 by
  rw [← hL]
  unfold shiftsX
  split
  ·rename_i h
   obtain ⟨h1, h2, _⟩ := wanted_good h
   have := tries_len (ware := ware) h1 h2
   have h3 : (shiftsT l ware r).length ≤ (triesOf l ware r).length := by unfold shiftsT; exact List.length_filterMap_le _ _
   omega
  ·exact Nat.zero_le _)
 have HS1 := Lib.hid (fun W (h : Ask W a c l ra rc r) => by
  have h := shiftsX_any a c l ware ra rc r W h
  rw [hE, hL] at h
  exact h)
 have HS2 := Lib.hid (fun W (h : Ask W a c l ra rc r) => by
  have h := shiftsRX_any a c l ware ra rc r W h HFL.out
  rw [hE, hL] at h
  exact h)
 have HC1 := Lib.hid (fun W (h : Ask W a c l ra rc r) => by
  have h := choices_any a c l ware ra rc r at_ W h
  rw [hch] at h
  exact h)
 have HC2 := Lib.hid (fun W (h : Ask W a c l ra rc r) => by
  have h := choicesR_any a c l ware ra rc r at_ W h HFL.out
  rw [hch] at h
  exact h)
 clear HT1 HR1 HOK HFL hE hL hch
 go_wp2_with (refine (HS1.out w' HA.out).mono ?_)
 rintro e w2 ⟨fa, fc, rfl, hro, -, hb2⟩
 have HB2 := Lib.hid (HB.out.trans (hb2.mono HB.out.size))
 have HA2 := Lib.hid (HA.out.below hb2)
 have R2 := Lib.hid hro
 clear hb2 hro HS1 HB HA
 go_wp2_with (refine (HS2.out w2 HA2.out).mono ?_)
 rintro e w3 ⟨fa', fc', rfl, hro, -, hb3⟩
 have HB3 := Lib.hid (HB2.out.trans (hb3.mono HB2.out.size))
 have HA3 := Lib.hid (HA2.out.below hb3)
 have R3 := Lib.hid (R2.out.below hb3)
 have S3 := Lib.hid hro
 clear hb3 hro HS2 HB2 HA2 R2
 go_wp2_with (refine (HC1.out w3 HA3.out).mono ?_)
 rintro e w4 ⟨rfl, hb4⟩
 have HB4 := Lib.hid (HB3.out.trans (hb4.mono HB3.out.size))
 have HA4 := Lib.hid (HA3.out.below hb4)
 have R4 := Lib.hid (R3.out.below hb4)
 have S4 := Lib.hid (S3.out.below hb4)
 clear hb4 HC1 HB3 HA3 R3 S3
 go_wp2_with (refine (HC2.out w4 HA4.out).mono ?_)
 rintro e w5 ⟨rfl, hb5⟩
 have HB5 := Lib.hid (HB4.out.trans (hb5.mono HB4.out.size))
 have R5 := Lib.hid (R4.out.below hb5)
 have S5 := Lib.hid (S4.out.below hb5)
 clear hb5 HC2 HB4 HA4 R4 S4
 go_wp2_with (refine (HTU.out _).mono ?_)
 rintro e wt ⟨rfl, hbt⟩
 have HB6 := Lib.hid (HB5.out.trans (hbt.mono HB5.out.size))
 have HSF := Lib.hid (sameFits_any _ _ fa fa' fc fc' L HLL.out wt (R5.out.below hbt) (S5.out.below hbt))
 clear hbt HB5 R5 S5
 go_wp2_with (refine HSF.out.mono ?_)
 rintro e w6 ⟨rfl, hb6⟩
 have HB7 := Lib.hid (HB6.out.trans (hb6.mono HB6.out.size))
 have HEE := beq_self_eq_true E
 have HEG := beq_self_eq_true G
 have HET := beq_self_eq_true T.toList
 clear hb6
 go_wp2_with fail
 go_ret
 exact ⟨rfl, HB7.out⟩
end Go.Proofs.YthpjffhccjlnhaaGreatDoor
