/- ProfileRuled: for all inputs the law returns true and makes new memory alone. No condition. -/
import Derived.Test.YthpjffhccjlnhaaGreatDoorGRef21
set_option linter.unusedSimpArgs false
set_option linter.unusedVariables false
namespace Go.Proofs.YthpjffhccjlnhaaGreatDoor
open Go.RowKit
attribute [local go_sem] Oper.semAt_some

theorem ruledX_len (l : List Typ) (ware : ByteArray) (r : List Rng) : (ruledX l ware r).length ≤ r.length := by
 unfold ruledX
 split
 ·have := (ruled_sub (nofit := noFit l ware r) r.length).length_le
  simpa using this
 ·exact Nat.zero_le _
set_option maxRecDepth 100000 in
set_option maxHeartbeats 8000000 in
theorem profileRuled_any (a : Option Addr) (l : List Typ) (c : Nat) (hlc : l.length ≤ c) (ware : ByteArray) (ra : Option Addr) (r : List Rng) (rc : Nat) (hrc : r.length ≤ rc) (w : World) (hT : TypesAt w a l) (hR : RngsAt w ra r) :
  Calls Tryz.prog 5 #[.slice a l.length c, .string ware, .slice ra r.length rc] w fun e w' => e = .returned (.bool true) ∧ Below w.heap.size w w' := by
 have HT := Lib.hid hT
 have HR := Lib.hid hR
 have HSH := Lib.hid (short_any a c l ra rc r w hT hR)
 clear hT hR
 have htu := fun W => turned_law W
 have HTU := Lib.hid htu
 clear htu
 go_enter Tryz.func5, Tryz.ntmps5
 go_wp2_with (refine HSH.out.mono ?_)
 rintro e w' ⟨bs, rfl, hok, rfl⟩
 clear HSH
 rcases bs with _ | _
 ·go_wp2_with (refine (HTU.out _).mono ?_)
  rintro e wt ⟨rfl, hbt⟩
  have HBT := Lib.hid hbt
  clear hbt
  go_wp2_with fail
  go_ret
  exact ⟨rfl, HBT.out⟩
 have HOK := Lib.hid (hok rfl)
 clear hok
 by_cases hsz : 100 < ware.size
 ·have hszi : (100 : Int) < (ware.size : Int) := by omega
  go_wp2_with (refine (HTU.out _).mono ?_)
  rintro e wt ⟨rfl, hbt⟩
  have HBT := Lib.hid hbt
  clear hbt
  go_wp2_with fail
  go_ret
  exact ⟨rfl, HBT.out⟩
 have hszi : ¬ (100 : Int) < (ware.size : Int) := by omega
 have HA := Lib.hid (HOK.out.ask HT.out HR.out hlc hrc)
 have hrl := HOK.out.rl
 clear HT HR HOK
 have HB1 := Lib.hid (ruled_any a c l ware ra rc r w' HA.out)
 go_wp2_with (refine HB1.out.mono ?_)
 rintro e w2 ⟨fa, fc, rfl, hi1, -, hb2⟩
 have HBB := Lib.hid hb2
 have X2 := Lib.hid hi1
 have HA2 := Lib.hid (HA.out.below hb2)
 clear hi1 hb2 HB1 HA
 have HB1 := Lib.hid (ruledR_any a c l ware ra rc r w2 HA2.out)
 obtain ⟨L, hL⟩ : ∃ L, intsOf (ruledX l ware r) = L := ⟨_, rfl⟩
 have hLL : L.length = (ruledX l ware r).length := by rw [← hL, intsOf_len]
 have HLZ := Lib.hid (show L.length ≤ 1000000 by rw [hLL]; have := ruledX_len l ware r; omega)
 have HLL := Lib.hid hLL
 rw [hL] at X2
 have HLE := Lib.hid hL
 clear hL hLL
 go_wp2_with (refine HB1.out.mono ?_)
 rintro e w3 ⟨ga, gc, rfl, hi2, -, hb3⟩
 have HB3 := Lib.hid (HBB.out.trans (hb3.mono HBB.out.size))
 have X3 := Lib.hid (X2.out.below hb3)
 have Y3 := Lib.hid (show Ints w3 ga L by rw [← HLE.out]; exact hi2)
 clear hi2 hb3 HB1 HA2 X2 HBB
 rw [← HLL.out]
 obtain ⟨E, hE⟩ : ∃ E, wantedErr l ware r = E := ⟨_, rfl⟩
 obtain ⟨I, hI⟩ : ∃ I, blanksIs l ware r = I := ⟨_, rfl⟩
 rw [hE, hI]
 clear hE hI
 go_wp2_with (refine (HTU.out _).mono ?_)
 rintro e w4 ⟨rfl, hb4⟩
 have HB4 := Lib.hid (HB3.out.trans (hb4.mono HB3.out.size))
 have HSB := Lib.hid (same_law fa ga fc gc L HLZ.out w4 (X3.out.below hb4) (Y3.out.below hb4))
 clear hb4 X3 Y3 HB3
 go_wp2_with (refine HSB.out.mono ?_)
 rintro e w5 ⟨rfl, hb5⟩
 have HB5 := Lib.hid (HB4.out.trans (hb5.mono HB4.out.size))
 clear hb5 HSB HB4
 have e1 := beq_self_eq_true E
 have e2 := beq_self_eq_true I
 go_wp2_with fail
 go_ret
 exact ⟨rfl, HB5.out⟩
end Go.Proofs.YthpjffhccjlnhaaGreatDoor
