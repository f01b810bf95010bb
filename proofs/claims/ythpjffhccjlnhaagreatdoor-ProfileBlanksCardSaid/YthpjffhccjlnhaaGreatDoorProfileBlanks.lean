/- ProfileBlanks: for all inputs the law returns true and makes new memory alone. No condition. -/
import Derived.Test.YthpjffhccjlnhaaGreatDoorMG24
set_option linter.unusedSimpArgs false
set_option linter.unusedVariables false
namespace Go.Proofs.YthpjffhccjlnhaaGreatDoor
open Go.RowKit
attribute [local go_sem] Oper.semAt_some

theorem blksX_sml (l : List Typ) (ware : ByteArray) (r : List Rng) : (∀ y, y ∈ blanksX l ware r → SmlB y) ∧ (blanksX l ware r).length ≤ 1000000 := by
 by_cases h : wantedErr l ware r = 0
 ·exact blks_sml h
 ·have : blanksX l ware r = [] := by unfold blanksX; rw [if_neg fun h2 => h h2.1]
  rw [this]
  exact ⟨(fun y hy => by cases hy), Nat.zero_le _⟩
structure BlLaw (a : Option Addr) (c : Nat) (l : List Typ) (ra : Option Addr) (rc : Nat) (r : List Rng) (ba : Option Addr) (b : List Bl4) (w W : World) : Prop where
 k : Ask W a c l ra rc r
 d : BlksIn W ba b
 b : Below w.heap.size w W
theorem BlLaw.below {a : Option Addr} {c : Nat} {l : List Typ} {ra : Option Addr} {rc : Nat} {r : List Rng} {ba : Option Addr} {b : List Bl4} {w W W' : World} (h : BlLaw a c l ra rc r ba b w W) (hb : Below W.heap.size W W') : BlLaw a c l ra rc r ba b w W' :=
 ⟨h.k.below hb, h.d.below hb, h.b.trans (hb.mono h.b.size)⟩
set_option maxRecDepth 100000 in
set_option maxHeartbeats 8000000 in
theorem profileBlanks_any (a : Option Addr) (l : List Typ) (c : Nat) (hlc : l.length ≤ c) (ware : ByteArray) (ra : Option Addr) (r : List Rng) (rc : Nat) (hrc : r.length ≤ rc) (ba : Option Addr) (b : List Bl4) (bc : Nat) (hbc : b.length ≤ bc) (w : World) (hT : TypesAt w a l) (hR : RngsAt w ra r) (hD : BlksIn w ba b) :
  Calls Tryz.prog 11 #[.slice a l.length c, .string ware, .slice ra r.length rc, .slice ba b.length bc] w fun e w' => e = .returned (.bool true) ∧ Below w.heap.size w w' := by
 have HT := Lib.hid hT
 have HR := Lib.hid hR
 have HD := Lib.hid hD
 have HSH := Lib.hid (short_any a c l ra rc r w hT hR)
 have HSL := Lib.hid (slight_any ba bc b w hD)
 clear hT hR hD
 have htu := fun W => turned_law W
 have HTU := Lib.hid htu
 clear htu
 go_enter Tryz.func11, Tryz.ntmps11
 go_wp2_with (refine HSH.out.mono ?_)
 rintro e w' ⟨bs, rfl, hok, rfl⟩
 clear HSH
 rcases bs with _ | _
 ·go_wp2_with (refine (HTU.out _).mono ?_)
  rintro e wt ⟨rfl, hbt⟩
  have HBT := Lib.hid hbt
  clear hbt
  go_wp2_with fail
  go_ret
  exact ⟨rfl, HBT.out⟩
 have HOK := Lib.hid (hok rfl)
 clear hok
 by_cases hsz : 100 < ware.size
 ·have hszi : (100 : Int) < (ware.size : Int) := by omega
  go_wp2_with (refine (HTU.out _).mono ?_)
  rintro e wt ⟨rfl, hbt⟩
  have HBT := Lib.hid hbt
  clear hbt
  go_wp2_with fail
  go_ret
  exact ⟨rfl, HBT.out⟩
 have hszi : ¬ (100 : Int) < (ware.size : Int) := by omega
 go_wp2_with (refine HSL.out.mono ?_)
 rintro e w' ⟨bs, rfl, hsl, rfl⟩
 clear HSL
 rcases bs with _ | _
 ·go_wp2_with (refine (HTU.out _).mono ?_)
  rintro e wt ⟨rfl, hbt⟩
  have HBT := Lib.hid hbt
  clear hbt
  go_wp2_with fail
  go_ret
  exact ⟨rfl, HBT.out⟩
 obtain ⟨hb160, hbs⟩ := hsl rfl
 clear hsl
 have ST := Lib.hid (show BlLaw a c l ra rc r ba b w' w' from ⟨HOK.out.ask HT.out HR.out hlc hrc, HD.out, Below.refl _ _⟩)
 have HBS := Lib.hid (show ∀ y, y ∈ b → SmlB y from fun y hy => by
  obtain ⟨j, hj⟩ := List.getElem?_of_mem hy
  exact hbs j y hj)
 clear hbs HT HR HD HOK
 have HB1 := Lib.hid (blanks_any a c l ware ra rc r w' ST.out.k)
 go_wp2_with (refine HB1.out.mono ?_)
 rintro e w2 ⟨fa, fc, us, rfl, hro, hbr, hfc, hb2⟩
 have ST2 := Lib.hid (ST.out.below hb2)
 have X2 := Lib.hid (blks_in hro hbr)
 clear hro hbr hfc hb2 HB1 ST
 have HB1 := Lib.hid (blanksR_any a c l ware ra rc r w2 ST2.out.k)
 go_wp2_with (refine HB1.out.mono ?_)
 rintro e w3 ⟨ga, gc, us2, rfl, hro, hbr, hfc, hb3⟩
 have ST3 := Lib.hid (ST2.out.below hb3)
 have X3 := Lib.hid (X2.out.below hb3)
 have Y3 := Lib.hid (blks_in hro hbr)
 clear hro hbr hfc hb3 HB1 ST2 X2
 obtain ⟨P, hP⟩ : ∃ P, (wantedErr l ware r == 0 && checkBlanksT l ware r b) = P := ⟨_, rfl⟩
 obtain ⟨E, hE⟩ : ∃ E, wantedErr l ware r = E := ⟨_, rfl⟩
 have hcb : checkBlanksOut l ware r b = .tuple #[.bool P, .int .i64 E] := by unfold checkBlanksOut; rw [hP, hE]
 have HC1 := Lib.hid (hcb ▸ checkBlanks_any a c l ware ra rc r ba bc b w3 ST3.out.k ST3.out.d HBS.out (by omega) hbc)
 have HC2 := Lib.hid (fun W (h : BlLaw a c l ra rc r ba b w' W) => hcb ▸ checkBlanksR_any a c l ware ra rc r ba bc b W h.k h.d HBS.out (by omega))
 rw [hE]
 clear hP hcb hE
 obtain ⟨I, hI⟩ : ∃ I, blanksIs l ware r = I := ⟨_, rfl⟩
 rw [hI]
 clear hI
 go_wp2_with (refine HC1.out.mono ?_)
 rintro e w4 ⟨rfl, hb4⟩
 have ST4 := Lib.hid (ST3.out.below hb4)
 have X4 := Lib.hid (X3.out.below hb4)
 have Y4 := Lib.hid (Y3.out.below hb4)
 clear hb4 ST3 X3 Y3 HC1
 go_wp2_with (refine (HC2.out w4 ST4.out).mono ?_)
 rintro e w5 ⟨rfl, hb5⟩
 have ST5 := Lib.hid (ST4.out.below hb5)
 have X5 := Lib.hid (X4.out.below hb5)
 have Y5 := Lib.hid (Y4.out.below hb5)
 clear hb5 ST4 X4 Y4 HC2
 go_wp2_with (refine (HTU.out _).mono ?_)
 rintro e w6 ⟨rfl, hb6⟩
 have HB6 := Lib.hid (ST5.out.below hb6).b
 obtain ⟨hs1, hs2⟩ := blksX_sml l ware r
 have HSB := Lib.hid (sameBlanks_any fa ga fc gc (blanksX l ware r) hs1 hs2 w6 (X5.out.below hb6) (Y5.out.below hb6))
 clear hb6 hs1 hs2 X5 Y5 ST5
 go_wp2_with (refine HSB.out.mono ?_)
 rintro e w7 ⟨rfl, hb7⟩
 have HB7 := Lib.hid (HB6.out.trans (hb7.mono HB6.out.size))
 clear hb7 HSB HB6
 have e1 := beq_self_eq_true E
 have e2 := beq_self_eq_true P
 have e3 := beq_self_eq_true I
 go_wp2_with fail
 go_ret
 exact ⟨rfl, HB7.out⟩
end Go.Proofs.YthpjffhccjlnhaaGreatDoor
