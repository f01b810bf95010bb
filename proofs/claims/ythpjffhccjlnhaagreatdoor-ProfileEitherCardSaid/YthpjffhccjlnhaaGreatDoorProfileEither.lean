/- ProfileEither: for all inputs the law returns true and makes new memory alone. No condition. -/
import Derived.Test.YthpjffhccjlnhaaGreatDoorGRef16
set_option linter.unusedSimpArgs false
set_option linter.unusedVariables false
namespace Go.Proofs.YthpjffhccjlnhaaGreatDoor
open Go.RowKit
attribute [local go_sem] Oper.semAt_some

/-- what the law is handed -/
structure EiSt (B : Nat) (i s : Int) (wd : ByteArray) (a : Option Addr) (c : Nat) (l : List Typ) (ra : Option Addr) (rc : Nat) (r : List Rng) (ba : Option Addr) (b : List Bl4) (w W : World) : Prop where
 f : Box W B (ftCells i s wd) 44
 k : Ask W a c l ra rc r
 d : BlksIn W ba b
 b : Below w.heap.size w W
theorem EiSt.below {B : Nat} {i s : Int} {wd : ByteArray} {a : Option Addr} {c : Nat} {l : List Typ} {ra : Option Addr} {rc : Nat} {r : List Rng} {ba : Option Addr} {b : List Bl4} {w W W' : World} (h : EiSt B i s wd a c l ra rc r ba b w W) (hb : Below W.heap.size W W') : EiSt B i s wd a c l ra rc r ba b w W' :=
 ⟨h.f.below' hb, h.k.below hb, h.d.below hb, h.b.trans (hb.mono h.b.size)⟩
theorem complete_form2 {l : List Typ} {ware : ByteArray} {r : List Rng} (h : wantedErr l ware r = 0) : ∃ (i j : Int) (x : ByteArray), completeOut l ware r = .tuple #[.agg #[.int .i64 i, .int .i64 j, .string x], .bool (!(shiftsT l ware r).isEmpty), .int .i64 0] ∧
  (shiftsT l ware r = [] → i = 0 ∧ j = 0 ∧ x = ByteArray.empty) ∧ (shiftsT l ware r ≠ [] → checkFitT l ware r i j x = true ∧ x.size ≤ 1000000) := by
 unfold completeOut
 rw [if_pos h]
 rcases hs : shiftsT l ware r with _ | ⟨f, L⟩
 ·exact ⟨0, 0, ByteArray.empty, rfl, (fun _ => ⟨rfl, rfl, rfl⟩), fun h => absurd rfl h⟩
 ·refine ⟨f.type, f.shift, mkB (toS f.word), rfl, (fun h => by cases h), fun _ => ?_⟩
  have hf := fit_yes h (f := f) (by rw [hs]; simp)
  refine ⟨hf, ?_⟩
  obtain ⟨n, k, t, _, _, ht, _, _, hfb⟩ := checkFit_iff.1 hf
  obtain ⟨_, _, _, hm⟩ := typeB_good (types_at (wanted_typ h).1 ht)
  unfold fitB at hfb
  simp only [profB, Bool.and_eq_true, decide_eq_true_eq] at hfb
  have := hfb.1.1.1.1.1.1
  rw [bl_len] at this; omega
theorem complete_no {l : List Typ} {ware : ByteArray} {r : List Rng} (h : wantedErr l ware r ≠ 0) : completeOut l ware r = .tuple #[.agg #[.int .i64 0, .int .i64 0, .string ByteArray.empty], .bool false, .int .i64 (wantedErr l ware r)] := by
 unfold completeOut
 rw [if_neg h]; rfl
theorem ft_lit (i s : Int) (x : ByteArray) : ftCells i s x = #[.int .i64 i, .int .i64 s, .string x] := rfl
set_option maxRecDepth 100000 in
set_option maxHeartbeats 8000000 in
theorem profileEither_any (a : Option Addr) (l : List Typ) (c : Nat) (hlc : l.length ≤ c) (ware : ByteArray) (ra : Option Addr) (r : List Rng) (rc : Nat) (hrc : r.length ≤ rc) (i s : Int) (wd : ByteArray) (ba : Option Addr) (b : List Bl4) (bc : Nat) (hbc : b.length ≤ bc) (w : World) (hT : TypesAt w a l) (hR : RngsAt w ra r) (hD : BlksIn w ba b) :
  Calls Tryz.prog 14 #[.slice a l.length c, .string ware, .slice ra r.length rc, .agg #[.int .i64 i, .int .i64 s, .string wd], .slice ba b.length bc] w fun e w' => e = .returned (.bool true) ∧ Below w.heap.size w w' := by
 obtain ⟨w1, hw1⟩ : ∃ w1, w.alloc (.cells #[.int .i64 i, .int .i64 s, .string wd] 44) = w1 := ⟨_, rfl⟩
 have b0 : Box w1 w.heap.size (ftCells i s wd) 44 := by rw [← hw1]; exact Box.new _ _ _
 have hB : Below w.heap.size w w1 := by rw [← hw1]; go_grown
 have HB := Lib.hid hB
 have HT := Lib.hid (hT.below hB)
 have HR := Lib.hid (hR.below hB)
 have HD := Lib.hid (hD.below hB)
 have HF := Lib.hid b0
 have HW := Lib.hid hw1
 have HSH := Lib.hid (short_any a c l ra rc r w1 HT.out HR.out)
 have HSL := Lib.hid (slight_any ba bc b w1 HD.out)
 have c2 : w1.cell? ⟨w.heap.size, 2, none⟩ = some (.string wd) := b0.fn (i := 2) (by omega)
 clear hT hR hD b0 hB hw1
 have htu := fun W => turned_law W
 have HTU := Lib.hid htu
 clear htu
 go_enter Tryz.func14, Tryz.ntmps14
 go_upto_region 1 with fail
 simp only [HW.out]
 go_wp2_with (refine HSH.out.mono ?_)
 rintro e w' ⟨bs, rfl, hok, rfl⟩
 clear HSH
 rcases bs with _ | _
 ·go_wp2_with (refine (HTU.out _).mono ?_)
  rintro e wt ⟨rfl, hbt⟩
  have HBT := Lib.hid (HB.out.trans (hbt.mono HB.out.size))
  clear hbt
  go_wp2_with fail
  go_ret
  exact ⟨rfl, HBT.out⟩
 have HOK := Lib.hid (hok rfl)
 clear hok
 by_cases hsz : 100 < ware.size
 ·have hszi : (100 : Int) < (ware.size : Int) := by omega
  go_wp2_with (refine (HTU.out _).mono ?_)
  rintro e wt ⟨rfl, hbt⟩
  have HBT := Lib.hid (HB.out.trans (hbt.mono HB.out.size))
  clear hbt
  go_wp2_with fail
  go_ret
  exact ⟨rfl, HBT.out⟩
 have hszi : ¬ (100 : Int) < (ware.size : Int) := by omega
 by_cases hwd : 20 < wd.size
 ·have hwdi : (20 : Int) < (wd.size : Int) := by omega
  go_wp2_with (refine (HTU.out _).mono ?_)
  rintro e wt ⟨rfl, hbt⟩
  have HBT := Lib.hid (HB.out.trans (hbt.mono HB.out.size))
  clear hbt
  go_wp2_with fail
  go_ret
  exact ⟨rfl, HBT.out⟩
 have hwdi : ¬ (20 : Int) < (wd.size : Int) := by omega
 go_wp2_with (refine HSL.out.mono ?_)
 rintro e w' ⟨bs, rfl, hsl, rfl⟩
 clear HSL c2
 rcases bs with _ | _
 ·go_wp2_with (refine (HTU.out _).mono ?_)
  rintro e wt ⟨rfl, hbt⟩
  have HBT := Lib.hid (HB.out.trans (hbt.mono HB.out.size))
  clear hbt
  go_wp2_with fail
  go_ret
  exact ⟨rfl, HBT.out⟩
 obtain ⟨hb160, hbs⟩ := hsl rfl
 clear hsl
 have ST := Lib.hid (show EiSt w.heap.size i s wd a c l ra rc r ba b w w' from ⟨HF.out, HOK.out.ask HT.out HR.out hlc hrc, HD.out, HB.out⟩)
 have HBS := Lib.hid (show ∀ y, y ∈ b → SmlB y from fun y hy => by
  obtain ⟨j, hj⟩ := List.getElem?_of_mem hy
  exact hbs j y hj)
 clear hbs HT HR HD HF HB HW HOK
 have HCO := Lib.hid (complete_any a c l ware ra rc r w' ST.out.k)
 have HBL := fun W (h : Ask W a c l ra rc r) => blanks_any a c l ware ra rc r W h
 have HBLA := Lib.hid HBL
 clear HBL
 by_cases h0 : wantedErr l ware r = 0
 rotate_left
 ·have hne : (wantedErr l ware r == 0) = false := by simpa using h0
  have hX : blanksX l ware r = [] := by unfold blanksX; rw [if_neg fun h => h0 h.1]
  have hIs : blanksIs l ware r = false := by unfold blanksIs; simp [h0]
  rw [complete_no h0] at HCO
  go_wp2_with (refine HCO.out.mono ?_)
  rintro e w2 ⟨rfl, hb2⟩
  obtain ⟨v2, hv2⟩ : ∃ x, w2.alloc (.cells #[.int .i64 0, .int .i64 0, .string ByteArray.empty] 44) = x := ⟨_, rfl⟩
  have hb3 : Below w'.heap.size w' v2 := hb2.trans ((show Below w2.heap.size w2 v2 by rw [← hv2]; go_grown).mono hb2.size)
  have ST2 := Lib.hid (ST.out.below hb3)
  clear hb2 hb3 HCO ST
  go_wp2_with (refine (HBLA.out v2 ST2.out.k).mono ?_)
  rintro e w3 ⟨fa, fc, us, rfl, -, -, -, hb3⟩
  rw [hX, hIs]
  have HB := Lib.hid (ST2.out.below hb3).b
  have HEE := beq_self_eq_true (wantedErr l ware r)
  clear hb3 ST2 hv2
  go_wp2_with (refine (HTU.out _).mono ?_)
  rintro e wt ⟨rfl, hbt⟩
  have HBT := Lib.hid (HB.out.trans (hbt.mono HB.out.size))
  clear hbt
  go_wp2_with fail
  go_ret
  exact ⟨rfl, HBT.out⟩
 obtain ⟨fi, fj, fx, hCo, hc1, hc2⟩ := complete_form2 h0
 rw [hCo] at HCO
 have HC1 := Lib.hid hc1
 have HC2 := Lib.hid hc2
 have H0 := Lib.hid h0
 have HCF := Lib.hid (show ∀ W, Ask W a c l ra rc r → Calls Tryz.prog 58 #[.slice a l.length c, .string ware, .slice ra r.length rc, .agg (ftCells i s wd)] W fun e w' => e = .returned (.tuple #[.bool (checkFitT l ware r i s wd), .int .i64 0]) ∧ Below W.heap.size W w' from fun W hW => by
  have h := checkFit_any a c l ware ra rc r i s wd (by omega) W hW
  unfold checkFitOut at h
  rw [h0] at h
  exact h)
 have HCB := Lib.hid (show ∀ W, Ask W a c l ra rc r → BlksIn W ba b → Calls Tryz.prog 54 #[.slice a l.length c, .string ware, .slice ra r.length rc, .slice ba b.length bc] W fun e w' => e = .returned (.tuple #[.bool (checkBlanksT l ware r b), .int .i64 0]) ∧ Below W.heap.size W w' from fun W hW hb => by
  have h := checkBlanks_any a c l ware ra rc r ba bc b W hW hb HBS.out (by omega) hbc
  unfold checkBlanksOut at h
  rw [h0] at h
  exact h)
 clear hCo hc1 hc2 hszi hwdi
 go_wp2_with (refine HCO.out.mono ?_)
 rintro e w2 ⟨rfl, hb2⟩
 obtain ⟨v2, hv2⟩ : ∃ x, w2.alloc (.cells #[.int .i64 fi, .int .i64 fj, .string fx] 44) = x := ⟨_, rfl⟩
 have hbv : Below w2.heap.size w2 v2 := by rw [← hv2]; go_grown
 have BG := Lib.hid (show Box v2 w2.heap.size (ftCells fi fj fx) 44 by rw [← hv2]; exact Box.new _ _ _)
 have ST2 := Lib.hid (ST.out.below (hb2.trans (hbv.mono hb2.size)))
 clear hb2 hbv HCO ST
 have HIS := Lib.hid (show blanksIs l ware r = (shiftsT l ware r).isEmpty by unfold blanksIs; rw [h0]; rfl)
 clear h0
 go_wp2_with (refine (HBLA.out v2 ST2.out.k).mono ?_)
 rintro e w3 ⟨fa, fc, us, rfl, hro, hbr, hfc, hb3⟩
 rw [H0.out, HIS.out]
 have ST3 := Lib.hid (ST2.out.below hb3)
 have BG3 := Lib.hid (BG.out.below' hb3)
 have HBI := Lib.hid (blks_in hro hbr)
 obtain ⟨g, hg⟩ : ∃ g, w2.heap.size = g := ⟨_, rfl⟩
 rw [hg] at BG3
 simp only [hg]
 clear hb3 ST2 BG hv2 hro hbr HBLA hg
 have HL := Lib.hid (load_ft ST3.out.f)
 go_wp2_with (refine wpList_load_box rfl 44 _ rfl rfl HL.out ?_)
 refine (HCF.out w3 ST3.out.k).mono ?_
 rintro e w4 ⟨rfl, hb4⟩
 have ST4 := Lib.hid (ST3.out.below hb4)
 have BG4 := Lib.hid (BG3.out.below' hb4)
 have HBI4 := Lib.hid (HBI.out.below hb4)
 clear hb4 ST3 BG3 HBI HL HCF
 go_wp2_with (refine (HCB.out w4 ST4.out.k ST4.out.d).mono ?_)
 rintro e w5 ⟨rfl, hb5⟩
 have ST5 := Lib.hid (ST4.out.below hb5)
 have BG5 := Lib.hid (BG4.out.below' hb5)
 have HBI5 := Lib.hid (HBI4.out.below hb5)
 clear hb5 ST4 BG4 HBI4 HCB
 obtain ⟨P, hP⟩ : ∃ P, checkFitT l ware r i s wd = P := ⟨_, rfl⟩
 obtain ⟨Q, hQ⟩ : ∃ Q, checkBlanksT l ware r b = Q := ⟨_, rfl⟩
 rw [hP, hQ]
 have HP := Lib.hid hP
 have HQ := Lib.hid hQ
 clear hP hQ
 by_cases hsh : shiftsT l ware r = []
 ·have hE : (shiftsT l ware r).isEmpty = true := by rw [hsh]; rfl
  obtain ⟨rfl, rfl, rfl⟩ := HC1.out hsh
  have hPf : P = false := by
   rw [← HP.out, Bool.eq_false_iff]
   exact fun h => fit_some H0.out h hsh
  subst hPf
  have HBT := Lib.hid (show ∀ W, Ask W a c l ra rc r → BlksIn W fa (blanksX l ware r) → Calls Tryz.prog 55 #[.slice a l.length c, .string ware, .slice ra r.length rc, .slice fa (blanksX l ware r).length fc] W fun e w' => e = .returned (.tuple #[.bool true, .int .i64 0]) ∧ Below W.heap.size W w' from fun W hW hb => by
   obtain ⟨hs1, hs2⟩ := blks_sml (l := l) (ware := ware) (r := r) H0.out
   have h := checkBlanksR_any a c l ware ra rc r fa fc (blanksX l ware r) W hW hb hs1 hs2
   unfold checkBlanksOut at h
   rw [H0.out, show checkBlanksT l ware r (blanksX l ware r) = true by unfold blanksX; rw [if_pos ⟨H0.out, hsh⟩]; exact blanks_check hsh] at h
   exact h)
  rw [hE]
  clear hsh
  rcases Q with _ | _
  all_goals
   go_wp2_with (refine (HBT.out w5 ST5.out.k HBI5.out).mono ?_)
   rintro e w6 ⟨rfl, hb6⟩
   have HB := Lib.hid (ST5.out.below hb6).b
   have BG6 := Lib.hid (BG5.out.below' hb6)
   clear hb6
   go_wp2_with (refine (HTU.out _).mono ?_)
   rintro e wt ⟨rfl, hbt⟩
   have HBT2 := Lib.hid (HB.out.trans (hbt.mono HB.out.size))
   have ca : wt.cell? ⟨g, 0, none⟩ = some (.int .i64 0) := (BG6.out.below' hbt).fn (i := 0) (by omega)
   have cb : wt.cell? ⟨g, 1, none⟩ = some (.int .i64 0) := (BG6.out.below' hbt).fn (i := 1) (by omega)
   have cd : wt.cell? ⟨g, 2, none⟩ = some (.string ByteArray.empty) := (BG6.out.below' hbt).fn (i := 2) (by omega)
   clear hbt
   go_wp2_with fail
   go_ret
   exact ⟨rfl, HBT2.out⟩
 ·have hE : (shiftsT l ware r).isEmpty = false := by simpa using hsh
  have hX : blanksX l ware r = [] := by unfold blanksX; rw [if_neg fun h => hsh h.2]
  have hQf : Q = false := by
   rw [← HQ.out, Bool.eq_false_iff]
   exact fun h => hsh (check_none h)
  subst hQf
  obtain ⟨hc, hcs⟩ := HC2.out hsh
  have HBT := Lib.hid (show ∀ W, Ask W a c l ra rc r → Calls Tryz.prog 59 #[.slice a l.length c, .string ware, .slice ra r.length rc, .agg (ftCells fi fj fx)] W fun e w' => e = .returned (.tuple #[.bool true, .int .i64 0]) ∧ Below W.heap.size W w' from fun W hW => by
   have h := checkFitR_any a c l ware ra rc r fi fj fx hcs W hW
   unfold checkFitOut at h
   rw [H0.out, hc] at h
   exact h)
  rw [hE, hX]
  clear hsh hX hc
  have HL := Lib.hid (load_ft BG5.out)
  rcases P with _ | _
  all_goals
   go_wp2_with (refine wpList_load_box rfl 44 _ rfl rfl HL.out ?_)
   refine (HBT.out w5 ST5.out.k).mono ?_
   rintro e w6 ⟨rfl, hb6⟩
   have HB := Lib.hid (ST5.out.below hb6).b
   clear hb6
   go_wp2_with (refine (HTU.out _).mono ?_)
   rintro e wt ⟨rfl, hbt⟩
   have HBT := Lib.hid (HB.out.trans (hbt.mono HB.out.size))
   clear hbt
   go_wp2_with fail
   go_ret
   exact ⟨rfl, HBT.out⟩
end Go.Proofs.YthpjffhccjlnhaaGreatDoor
