/- ProfileOverlaps: for all inputs the law returns true and makes new memory alone. No condition. -/
import Derived.Test.YthpjffhccjlnhaaGreatDoorMG19
import Derived.Test.YthpjffhccjlnhaaGreatDoorGOverP
import Derived.Test.YthpjffhccjlnhaaGreatDoorGRef9
set_option linter.unusedSimpArgs false
set_option linter.unusedVariables false
namespace Go.Proofs.YthpjffhccjlnhaaGreatDoor
open Go.RowKit
attribute [local go_sem] Oper.semAt_some
set_option maxRecDepth 100000 in
set_option maxHeartbeats 4000000 in
theorem profileOverlaps_any (a : Option Addr) (l : List Typ) (c : Nat) (hlc : l.length ≤ c) (i j : Int) (w : World) (hT : TypesAt w a l) :
  Calls Tryz.prog 4 #[.slice a l.length c, .int .i64 i, .int .i64 j] w fun e w' => e = .returned (.bool true) ∧ Below w.heap.size w w' := by
 have HT := Lib.hid hT
 have HSH := Lib.hid (short_any a c l none 0 [] w hT (fun k y hy => by simp at hy))
 clear hT
 have htu := fun W => turned_law W
 have HTU := Lib.hid htu
 clear htu
 go_enter Tryz.func4, Tryz.ntmps4
 go_wp2_with (refine HSH.out.mono ?_)
 rintro e w' ⟨b, rfl, hok, rfl⟩
 clear HSH
 rcases b with _ | _
 ·go_wp2_with (refine (HTU.out _).mono ?_)
  rintro e w1 ⟨rfl, hb⟩
  have HB := Lib.hid hb
  clear hb
  go_wp2_with fail
  go_ret
  exact ⟨rfl, HB.out⟩
 have HOK := Lib.hid (hok rfl)
 clear hok
 have hl15 := HOK.out.tl
 obtain ⟨S, B, E, hO, hE⟩ := over_form l i j
 have hO2 : overOut l j i = .tuple #[.string S, .bool B, .int .i64 E] := by rw [← hO, overOut_comm]
 have HO1 := Lib.hid (fun W (hT : TypesAt W a l) => hO ▸ overX_any a c l i j W hT HOK.out.sml (by omega) hlc)
 have HO2 := Lib.hid (fun W (hT : TypesAt W a l) => hO ▸ overR_any a c l i j W hT HOK.out.sml (by omega))
 have HO3 := Lib.hid (fun W (hT : TypesAt W a l) => hO2 ▸ overX_any a c l j i W hT HOK.out.sml (by omega) hlc)
 have HE := Lib.hid hE
 clear hO hO2 hE
 go_wp2_with (refine (HO1.out _ HT.out).mono ?_)
 rintro e w1 ⟨rfl, hb1⟩
 have HB1 := Lib.hid hb1
 have HT1 := Lib.hid (HT.out.below hb1)
 clear hb1 HO1 HT
 go_wp2_with (refine (HO2.out _ HT1.out).mono ?_)
 rintro e w2 ⟨rfl, hb2⟩
 have HB2 := Lib.hid (HB1.out.trans (hb2.mono HB1.out.size))
 have HT2 := Lib.hid (HT1.out.below hb2)
 clear hb2 HO2 HT1 HB1
 go_wp2_with (refine (HO3.out _ HT2.out).mono ?_)
 rintro e w3 ⟨rfl, hb3⟩
 have HB3 := Lib.hid (HB2.out.trans (hb3.mono HB2.out.size))
 have HT3 := Lib.hid (HT2.out.below hb3)
 clear hb3 HO3 HT2 HB2
 by_cases h0 : E = 0
 rotate_left
 ·have hne : (E == 0) = false := by simpa using h0
  go_wp2_with (refine (HTU.out _).mono ?_)
  rintro e w4 ⟨rfl, hb⟩
  have hb := HB3.out.trans (hb.mono HB3.out.size)
  have HB := Lib.hid hb
  clear hb
  go_wp2_with fail
  go_ret
  exact ⟨rfl, HB.out⟩
 subst h0
 obtain ⟨F, G, hF, hS⟩ := over_self (HE.out rfl)
 have HO4 := Lib.hid (fun W (hT : TypesAt W a l) => hF ▸ firstX_any a c l i W hT HOK.out.sml (by omega) hlc)
 have HO5 := Lib.hid (fun W (hT : TypesAt W a l) => hS ▸ overX_any a c l i i W hT HOK.out.sml (by omega) hlc)
 clear hF hS HE
 go_wp2_with (refine (HO4.out _ HT3.out).mono ?_)
 rintro e w4 ⟨rfl, hb4⟩
 have HB4 := Lib.hid (HB3.out.trans (hb4.mono HB3.out.size))
 have HT4 := Lib.hid (HT3.out.below hb4)
 clear hb4 HO4 HT3 HB3
 go_wp2_with (refine (HO5.out _ HT4.out).mono ?_)
 rintro e w5 ⟨rfl, hb5⟩
 have HB5 := Lib.hid (HB4.out.trans (hb5.mono HB4.out.size))
 clear hb5 HO5 HT4 HB4
 go_wp2_with (refine (HTU.out _).mono ?_)
 rintro e w6 ⟨rfl, hb⟩
 have hb := HB5.out.trans (hb.mono HB5.out.size)
 have HB := Lib.hid hb
 clear hb
 go_wp2_with fail
 go_ret
 exact ⟨rfl, HB.out⟩
end Go.Proofs.YthpjffhccjlnhaaGreatDoor
