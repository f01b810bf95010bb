/- ProfileNarrows: UNDER WAY (the head is walked; sorry behind it). -/
import Derived.Test.YthpjffhccjlnhaaGreatDoorGNarrL
import Derived.Test.YthpjffhccjlnhaaGreatDoorGCut2
import Derived.Test.YthpjffhccjlnhaaGreatDoorMG13
import Derived.Test.YthpjffhccjlnhaaGreatDoorGFewer
import Derived.Test.YthpjffhccjlnhaaGreatDoorGPart
import Derived.Test.YthpjffhccjlnhaaGreatDoorMG19
set_option linter.unusedSimpArgs false
set_option linter.unusedVariables false
namespace Go.Proofs.YthpjffhccjlnhaaGreatDoor
open Go.RowKit
attribute [local go_sem] Oper.semAt_some

theorem complete_form3 {l : List Typ} {ware : ByteArray} {r : List Rng} (h : wantedErr l ware r = 0) : ∃ (i j : Nat) (x : ByteArray), completeOut l ware r = .tuple #[.agg #[.int .i64 i, .int .i64 j, .string x], .bool (!(shiftsT l ware r).isEmpty), .int .i64 0] ∧
  (shiftsT l ware r ≠ [] → ∃ f, f ∈ fitsT l ware r ∧ j = f.shift ∧ x = mkB (toS f.word)) := by
 unfold completeOut
 rw [if_pos h]
 have hc := complete_eq l ware r
 rcases hs : shiftsT l ware r with _ | ⟨f, L⟩
 ·exact ⟨0, 0, ByteArray.empty, rfl, fun h => absurd rfl h⟩
 ·refine ⟨f.type, f.shift, mkB (toS f.word), rfl, fun _ => ⟨f, ?_, rfl, rfl⟩⟩
  rw [hs] at hc
  exact List.mem_of_mem_head? (by rw [hc]; rfl)
theorem complete_no3 {l : List Typ} {ware : ByteArray} {r : List Rng} (h : wantedErr l ware r ≠ 0) : completeOut l ware r = .tuple #[.agg #[.int .i64 0, .int .i64 0, .string ByteArray.empty], .bool false, .int .i64 (wantedErr l ware r)] := by
 unfold completeOut
 rw [if_neg h]; rfl
set_option maxRecDepth 100000 in
set_option maxHeartbeats 8000000 in
theorem profileNarrows_any (a : Option Addr) (l : List Typ) (c : Nat) (hlc : l.length ≤ c) (ware : ByteArray) (ra : Option Addr) (r : List Rng) (rc : Nat) (hrc : r.length ≤ rc) (which : Int) (set : ByteArray) (at_ : Int) (w : World) (hT : TypesAt w a l) (hR : RngsAt w ra r) :
  Calls Tryz.prog 8 #[.slice a l.length c, .string ware, .slice ra r.length rc, .int .i64 which, .string set, .int .i64 at_] w fun e w' => e = .returned (.bool true) ∧ Below w.heap.size w w' := by
 have HT := Lib.hid hT
 have HR := Lib.hid hR
 have HB := Lib.hid (Below.refl w.heap.size w)
 have HSH := Lib.hid (short_any a c l ra rc r w hT hR)
 clear hT hR
 have htu := fun W => turned_law W
 have HTU := Lib.hid htu
 clear htu
 go_enter Tryz.func8, Tryz.ntmps8
 go_wp2_with (refine HSH.out.mono ?_)
 rintro e w' ⟨bs, rfl, hok, rfl⟩
 clear HSH
 rcases bs with _ | _
 ·go_wp2_with (refine (HTU.out _).mono ?_)
  rintro e wt ⟨rfl, hbt⟩
  have HBT := Lib.hid (HB.out.trans (hbt.mono HB.out.size))
  clear hbt
  go_wp2_with fail
  go_ret
  exact ⟨rfl, HBT.out⟩
 have HOK := Lib.hid (hok rfl)
 clear hok
 by_cases hsz : 100 < ware.size
 ·have hszi : (100 : Int) < (ware.size : Int) := by omega
  go_wp2_with (refine (HTU.out _).mono ?_)
  rintro e wt ⟨rfl, hbt⟩
  have HBT := Lib.hid (HB.out.trans (hbt.mono HB.out.size))
  clear hbt
  go_wp2_with fail
  go_ret
  exact ⟨rfl, HBT.out⟩
 have hszi : ¬ (100 : Int) < (ware.size : Int) := by omega
 by_cases hs4 : 40 < set.size
 ·have hs4i : (40 : Int) < (set.size : Int) := by omega
  go_wp2_with (refine (HTU.out _).mono ?_)
  rintro e wt ⟨rfl, hbt⟩
  have HBT := Lib.hid (HB.out.trans (hbt.mono HB.out.size))
  clear hbt
  go_wp2_with fail
  go_ret
  exact ⟨rfl, HBT.out⟩
 have hs4i : ¬ (40 : Int) < (set.size : Int) := by omega
 by_cases hr0 : r.length = 0
 ·have hr0i : ((r.length : Int) == 0) = true := by rw [beq_iff_eq]; omega
  go_wp2_with (refine (HTU.out _).mono ?_)
  rintro e wt ⟨rfl, hbt⟩
  have HBT := Lib.hid (HB.out.trans (hbt.mono HB.out.size))
  clear hbt
  go_wp2_with fail
  go_ret
  exact ⟨rfl, HBT.out⟩
 have hr0i : ((r.length : Int) == 0) = false := by rw [beq_eq_false_iff_ne]; omega
 have HA := Lib.hid (HOK.out.ask HT.out HR.out hlc hrc)
 clear HT HR HOK
 have HCH := Lib.hid (choices_any a c l ware ra rc r at_ w' HA.out)
 have HCO := Lib.hid (fun W (h : Ask W a c l ra rc r) => complete_any a c l ware ra rc r W h)
 by_cases h0 : wantedErr l ware r = 0
 rotate_left
 ·have hne : (wantedErr l ware r == 0) = false := by simpa using h0
  have hch : choicesOut l ware r at_ = .tuple #[.string ByteArray.empty, .int .i64 (wantedErr l ware r)] := by unfold choicesOut; rw [if_neg h0]
  rw [hch] at HCH
  have he1 : ByteArray.empty.toList.isEmpty = true := by rw [ByteArray.toList_eq]; rfl
  have HCN := Lib.hid (complete_no3 h0)
  clear hch
  go_wp2_with (refine HCH.out.mono ?_)
  rintro e w2 ⟨rfl, hb2⟩
  have HB2 := Lib.hid (HB.out.trans (hb2.mono HB.out.size))
  have HA2 := Lib.hid (HA.out.below hb2)
  have HC2 := Lib.hid (HCN.out ▸ HCO.out w2 HA2.out)
  clear hb2 HCH HCO HA HB
  go_wp2_with (refine HC2.out.mono ?_)
  rintro e w3 ⟨rfl, hb3⟩
  obtain ⟨v3, hv3⟩ : ∃ x, w3.alloc (.cells #[.int .i64 0, .int .i64 0, .string ByteArray.empty] 44) = x := ⟨_, rfl⟩
  have hb4 : Below w2.heap.size w2 v3 := hb3.trans ((show Below w3.heap.size w3 v3 by rw [← hv3]; go_grown).mono hb3.size)
  have HB := Lib.hid (HB2.out.trans (hb4.mono HB2.out.size))
  clear hb3 hb4 HC2
  go_wp2_with (refine (HTU.out _).mono ?_)
  rintro e wt ⟨rfl, hbt⟩
  have HBT := Lib.hid (HB.out.trans (hbt.mono HB.out.size))
  clear hbt
  go_wp2_with fail
  go_ret
  exact ⟨rfl, HBT.out⟩
 have H0 := Lib.hid h0
 obtain ⟨fi, fj, fx, hCo, hcf⟩ := complete_form3 h0
 have HCN := Lib.hid hCo
 have HCF := Lib.hid hcf
 clear hCo hcf
 rcases hin : inB at_ 0 11 with _ | _
 ·have hch : choicesOut l ware r at_ = .tuple #[.string ByteArray.empty, .int .i64 1] := by unfold choicesOut; rw [if_pos h0, if_neg (by rw [hin]; simp)]
  rw [hch] at HCH
  have he1 : ByteArray.empty.toList.isEmpty = true := by rw [ByteArray.toList_eq]; rfl
  clear hch hin h0
  go_wp2_with (refine HCH.out.mono ?_)
  rintro e w2 ⟨rfl, hb2⟩
  have HB2 := Lib.hid (HB.out.trans (hb2.mono HB.out.size))
  have HA2 := Lib.hid (HA.out.below hb2)
  have HC2 := Lib.hid (HCN.out ▸ HCO.out w2 HA2.out)
  clear hb2 HCH HCO HA HB
  go_wp2_with (refine HC2.out.mono ?_)
  rintro e w3 ⟨rfl, hb3⟩
  obtain ⟨v3, hv3⟩ : ∃ x, w3.alloc (.cells #[.int .i64 fi, .int .i64 fj, .string fx] 44) = x := ⟨_, rfl⟩
  have hb4 : Below w2.heap.size w2 v3 := hb3.trans ((show Below w3.heap.size w3 v3 by rw [← hv3]; go_grown).mono hb3.size)
  have HB := Lib.hid (HB2.out.trans (hb4.mono HB2.out.size))
  clear hb3 hb4 HC2
  go_wp2_with (refine (HTU.out _).mono ?_)
  rintro e wt ⟨rfl, hbt⟩
  have HBT := Lib.hid (HB.out.trans (hbt.mono HB.out.size))
  clear hbt
  go_wp2_with fail
  go_ret
  exact ⟨rfl, HBT.out⟩
 obtain ⟨n, rfl⟩ : ∃ n : Nat, at_ = n := ⟨at_.toNat, by simp [inB] at hin; omega⟩
 have hn11 : n ≤ 11 := by simp [inB] at hin; omega
 obtain ⟨S, hS⟩ : ∃ S, mkB (str (choicesT l ware r n)) = S := ⟨_, rfl⟩
 have hch : choicesOut l ware r n = .tuple #[.string S, .int .i64 0] := by
  unfold choicesOut
  rw [if_pos h0, if_pos hin, ← hS]; rfl
 rw [hch] at HCH
 have HSB := Lib.hid (show bl S = str (choicesT l ware r n) by rw [← hS, bl_mkB])
 clear hch hin h0 hS
 go_wp2_with (refine HCH.out.mono ?_)
 rintro e w2 ⟨rfl, hb2⟩
 have HB2 := Lib.hid (HB.out.trans (hb2.mono HB.out.size))
 have HA2 := Lib.hid (HA.out.below hb2)
 have HC2 := Lib.hid (HCN.out ▸ HCO.out w2 HA2.out)
 clear hb2 HCH HA HB
 go_wp2_with (refine HC2.out.mono ?_)
 rintro e w3 ⟨rfl, hb3⟩
 obtain ⟨v3, hv3⟩ : ∃ x, w3.alloc (.cells #[.int .i64 fi, .int .i64 fj, .string fx] 44) = x := ⟨_, rfl⟩
 have hbv : Below w3.heap.size w3 v3 := by rw [← hv3]; go_grown
 have BG := Lib.hid (show Box v3 w3.heap.size (ftCells fi fj fx) 44 by rw [← hv3]; exact Box.new _ _ _)
 have hb4 : Below w2.heap.size w2 v3 := hb3.trans (hbv.mono hb3.size)
 have HB3 := Lib.hid (HB2.out.trans (hb4.mono HB2.out.size))
 have HA3 := Lib.hid (HA2.out.below hb4)
 clear hb3 hbv hb4 HC2 HB2 HA2
 obtain ⟨g, hg⟩ : ∃ g, w3.heap.size = g := ⟨_, rfl⟩
 rw [hg] at BG
 have c1 : v3.cell? ⟨g, 1, none⟩ = some (.int .i64 fj) := BG.out.fn (i := 1) (by omega)
 have c2 : v3.cell? ⟨g, 2, none⟩ = some (.string fx) := BG.out.fn (i := 2) (by omega)
 clear BG
 obtain ⟨B, hB⟩ : ∃ B, (shiftsT l ware r).isEmpty = B := ⟨_, rfl⟩
 rw [hB]
 have HEB := Lib.hid hB
 have HS26 := Lib.hid (show S.size ≤ 26 by rw [← bl_len, HSB.out]; exact str_len _)
 clear hB
 go_upto_region 7 with fail
 (try simp only [hv3, hg])
 clear hv3 hg
 go_cut [112] (fun c wx => c = .bool false ∧ wx = v3)
 case first =>
  as_aux_lemma =>
  rcases B with _ | _
  ·have hsh : shiftsT l ware r ≠ [] := by have := HEB.out; simpa using this
   obtain ⟨f, hf, rfl, hx⟩ := HCF.out hsh
   have hfl : f.word.length ≤ 12 ∧ ∀ c, c ∈ f.word → c < 26 := by
    obtain ⟨t, h1, h2, h3, h4⟩ := memF4.1 hf
    obtain ⟨k1, k2, _⟩ := (mem_fitL (Nat.le_refl _)).1 h4
    obtain ⟨_, _, _, hm⟩ := typeB_good (types_at (wanted_typ H0.out).1 h1)
    unfold Typ.m at k2
    exact ⟨by omega, (chain_iff.1 k1).2.1⟩
   have hfs : f.shift ≤ 13 := by
    obtain ⟨t, h1, h2, h3, h4⟩ := memF4.1 hf
    obtain ⟨_, _, _, hm⟩ := typeB_good (types_at (wanted_typ H0.out).1 h1)
    have := shifts_le7 (t := t) (r := r) hm (RgOk.of (wanted_typ H0.out).2)
    omega
   have hws : fx.size = f.word.length := by rw [hx, mkB_size]; unfold toS; rw [List.length_map]
   obtain ⟨q, hq⟩ : ∃ q, f.shift + n = q := ⟨_, rfl⟩
   have hw1 : IntKind.i64.wrap ((f.shift : Int) + (n : Int)) = (q : Int) := by rw [IntWalk.i64_in _ (by omega)]; omega
   clear hsh
   by_cases hlt : q < fx.size
   ·obtain ⟨cc, hcc⟩ : ∃ cc, f.word[q]? = some cc := ⟨f.word[q]'(by omega), List.getElem?_eq_getElem _⟩
    have hc26 := hfl.2 cc (List.mem_of_getElem? hcc)
    obtain ⟨x, hxq⟩ : ∃ x, fx[q] = x := ⟨_, rfl⟩
    have hxc : x = chC cc := by
     have h1 := bl_at fx hlt
     have h2 := word_at hcc
     rw [← hx, h1] at h2
     rw [← hxq]; exact Option.some.inj h2
    have hin : inL (bl S) x = true := by
     rw [HSB.out, hxc, inL_str4 _ hc26]
     unfold choicesT
     exact List.any_eq_true.2 ⟨f, hf, by rw [hq, hcc]; simp⟩
    have HIN := Lib.hid (inR_any S x (by have := HS26.out; omega) v3)
    rw [hin] at HIN
    have hqi : (q : Int) < (fx.size : Int) := by omega
    have hq0 : (0 : Int) ≤ (q : Int) := by omega
    clear hf hx hfl hfs hws hq hcc hc26 hxc hin
    go_wp2_with (refine HIN.out.mono ?_)
    rintro e wz ⟨rfl, hz⟩
    go_wp2_with fail
    go_meet
    exact ⟨rfl, rfl⟩
   ·have hqn : decide ((q : Int) < (fx.size : Int)) = false := by simp; omega
    clear hf hx hfl hfs hws hq
    go_wp2_with fail
    go_meet
    exact ⟨rfl, rfl⟩
  ·have hSe : S.toList.isEmpty = true := by
    have hsh : shiftsT l ware r = [] := by have := HEB.out; simpa using this
    have hf : fitsT l ware r = [] := by
     have := complete_eq l ware r
     rw [hsh] at this
     exact List.head?_eq_none_iff.1 this
    rw [ByteArray.toList_eq]
    show (bl S).isEmpty = true
    rw [HSB.out, str_nil.2 fun c _ => by unfold choicesT; rw [hf]; rfl]; rfl
   go_wp2_with fail
   go_meet
   exact ⟨rfl, rfl⟩
 case rest =>
  as_aux_lemma =>
  obtain ⟨rfl, hwc⟩ := hcut
  rw [hwc]
  clear hwc wc c1 c2 HCF HEB HCN
  have hr12 : r.length ≤ 12 := (RgOk.of (wanted_typ H0.out).2).len
  have hrp : 0 < r.length := by omega
  have hn0 : ¬ (r.length : Int) = 0 := by omega
  go_upto_region 10 with fail
  obtain ⟨k, hkeq, hkl⟩ := mod_small4 which hrp hr12
  rw [hkeq]
  clear hkeq
  obtain ⟨y, hy⟩ : ∃ y, r[k]? = some y := ⟨r[k], by simp [hkl]⟩
  obtain ⟨y0, hy0⟩ : ∃ y0, r[0]? = some y0 := ⟨r[0], by simp [hrp]⟩
  obtain ⟨b, o, rfl, -⟩ := HA3.out.rg k y hy
  have HY := Lib.hid hy
  have HY0 := Lib.hid hy0
  have hrow := row_rings7 HA3.out.rg
  obtain ⟨v4, hv4⟩ : ∃ x, v3.alloc (.cells #[] 48) = x := ⟨_, rfl⟩
  have hbe : Below v3.heap.size v3 v4 := by rw [← hv4]; go_grown
  have hoe : v4.ownsRow v3.heap.size 48 2 (.slice (some ⟨v3.heap.size, 0, none⟩) 0 0) 0 [] := by rw [← hv4]; exact ownsRow_empty v3 _ _ _ (Nat.le_refl _)
  obtain ⟨v1, U, hrun, ho1, hg1, -⟩ := run_append_row (P := Tryz.prog) v4 v3.heap.size 37 37 48 _ 2 24 Tryz.underlying37 info_rng rfl (by omega)
   _ 0 [] hoe (some ⟨b, o, none⟩) r.length rc (rngRows r) (rngRows_size7 r) (hrow.below hbe) (rngRows_one7 r) (by omega) (by omega) hbe.size
  have hbU : Below v3.heap.size v3 U := hbe.grown hg1 hbe.size (fun j hj => (hoe.lt j hj).1)
  rw [List.nil_append, Nat.zero_add] at ho1
  obtain ⟨g, cap, hge⟩ := Go.Joins.ownsRow_form ho1 hrp
  subst hge
  obtain ⟨_, _, e1, _, hcap⟩ := ownsRow_own ho1
  cases e1
  have hc11 : U.cell? ⟨g, k * 2 + 1, none⟩ = some (.string y.set) := by rw [ho1.cellAt _ (by omega)]; exact rngRows_at hy 1 (by omega)
  have hf11 : U.frozen? ⟨g, k * 2 + 1, none⟩ = false := ho1.frozenAt _
  have hoS := (ho1.stored (k * 2 + 1) (.string set)).1
  rw [rngRows_set set hy] at hoS
  have hbS : Below v3.heap.size v3 (U.setCell ⟨g, k * 2 + 1, none⟩ (.string set)) := hbU.setCell (p := ⟨g, k * 2 + 1, none⟩) (ho1.lt g rfl).1 _
  have HRUN := Lib.hid hrun
  have HV4 := Lib.hid hv4
  have HOS := Lib.hid hoS
  have HBS := Lib.hid hbS
  have HCAP := Lib.hid hcap
  have hk0 : (0 : Int) ≤ (k : Int) := by omega
  have hki : (k : Int) < (r.length : Int) := by omega
  clear hy hy0 hrow hbe hoe hrun ho1 hg1 hbU hcap hoS hbS hv4
  go_upto_region 11 with (at_builtin; simp only [HV4.out]; refine wpList_app rfl _ _ _ rfl rfl rfl HRUN.out ?_)
  clear HRUN HV4
  go_upto_region 12 with fail
  obtain ⟨Wc, hWc⟩ : ∃ x, U.setCell ⟨g, k * 2 + 1, none⟩ (.string set) = x := ⟨_, rfl⟩
  rw [hWc] at HOS HBS
  simp only [hWc]
  clear hWc hc11 hf11
  have hrcap := HA3.out.rcap
  have hbd : Below Wc.heap.size Wc Wc.drew := (Below.refl _ Wc).drew
  have hrow : Row Wc.drew (some ⟨b, o, none⟩) (rngRows r) := (row_rings7 HA3.out.rg).below (HBS.out.trans (hbd.mono HBS.out.size))
  obtain ⟨vx, U1, pa, pc, U2, hr1, hb1, hr2, hb2, ho2, hpc⟩ := cut_row2 (T := 37) (E := 48) Tryz.underlying37 info_rng rfl (by omega) (by omega) (by omega) (W := Wc.drew)
   hrow (rngRows_size7 r) hrcap (rngRows_one7 _) hkl (by omega) _ rfl
  obtain ⟨nn, hnn⟩ : ∃ nn, 0 + k + (r.length - (k + 1)) = nn := ⟨_, rfl⟩
  rw [hnn] at hr2 ho2 hpc
  have hb1' : Below Wc.heap.size Wc U1 := hbd.trans hb1
  have hb2' : Below Wc.heap.size Wc U2 := hbd.trans hb2
  have hbs0 : (Instr.buildSlice 37 0 #[]).run Tryz.prog Wc.drew = .ok (.slice (some ⟨Wc.drew.heap.size, 0, none⟩) 0 0) (Wc.drew.alloc (.cells #[] 48)) := by go_simp
  have hbe : Below Wc.heap.size Wc (Wc.drew.alloc (.cells #[] 48)) := hbd.alloc (Nat.le_refl _) _
  rw [rngRows_cut hkl] at ho2
  have hlD : (r.take k ++ r.drop (k + 1)).length = nn := by rw [List.length_append, List.length_take, List.length_drop]; omega
  obtain ⟨_, _, e3, hro2, _⟩ := ownsRow_own ho2
  cases e3
  have hb3c : Below v3.heap.size v3 U2 := HBS.out.trans (hb2'.mono HBS.out.size)
  have HA4 := Lib.hid (HA3.out.below hb3c)
  have hml : (r.set k ⟨y.at_, set⟩).length = r.length := List.length_set
  obtain ⟨_, _, e4, hroM, _⟩ := ownsRow_own (ownsRow_keep HOS.out (Keep.of_below' (K := fun _ => True) hb2') (fun _ _ => trivial))
  cases e4
  have hy40 : y.set.size ≤ 1000 := HA3.out.rsm y (List.mem_of_getElem? HY.out)
  have HMA := Lib.hid (show Ask U2 a c l (some ⟨g, 0, none⟩) cap (r.set k ⟨y.at_, set⟩) from ⟨HA4.out.ty, HA4.out.sm, HA4.out.tlen, HA4.out.tcap, rngs_of_own hroM, fun z hz => by
   rcases List.mem_or_eq_of_mem_set hz with h | rfl
   ·exact HA4.out.rsm z h
   ·show set.size ≤ 1000
    omega, by omega, by rw [hml]; exact HCAP.out⟩)
  have HWA := Lib.hid (show Ask U2 a c l pa pc (r.take k ++ r.drop (k + 1)) from ⟨HA4.out.ty, HA4.out.sm, HA4.out.tlen, HA4.out.tcap, rngs_of_own hro2, fun z hz => HA4.out.rsm z (drop_sub.subset hz), by omega, by omega⟩)
  have HB4 := Lib.hid (HB3.out.trans (hb3c.mono HB3.out.size))
  have HML := Lib.hid hml
  have HLD := Lib.hid hlD
  have hmi : (k : Int) ≤ (r.length : Int) := by omega
  have hmi2 : (k : Int) + 1 ≤ (r.length : Int) := by omega
  have hmc : (k : Int) ≤ (rc : Int) := by omega
  have hmc2 : (k : Int) + 1 ≤ (rc : Int) := by omega
  have hmA : (r.length : Int) ≤ (rc : Int) := by omega
  have hmw : IntKind.i64.wrap ((k : Int) + 1) = (k : Int) + 1 := IntWalk.i64_in _ (by omega)
  have hm10 : (0 : Int) ≤ (k : Int) + 1 := by omega
  clear hrow hnn ho2 hpc hlD hro2 hroM hml hb3c hrcap
  refine wp_region_M (fun V => Below Wc.heap.size Wc V) 10 (by kernel_rfl) ?_
  have hSS : Below Wc.heap.size Wc Wc.drew := hbd
  refine anyM_take (i := 1) (v := ?_) (by kernel_rfl) rfl (by kernel_rfl) (by kernel_rfl) (by kernel_rfl) (by kernel_rfl) (fun _ _ _ h => h) (by rfl) ?_ hSS ?_
  rotate_left
  ·(intro W hW; go_simp; try with_reducible rfl)
  try (dsimp only); try simp only [Act.put, List.setIfInBounds_toArray, List.set_cons_zero, List.set_cons_succ]
  refine anyM_take (i := 2) (v := ?_) (by kernel_rfl) rfl (by kernel_rfl) (by kernel_rfl) (by kernel_rfl) (by kernel_rfl) (fun _ _ _ h => h) (by rfl) ?_ hSS ?_
  rotate_left
  ·(intro W hW; go_simp; try with_reducible rfl)
  try (dsimp only); try simp only [Act.put, List.setIfInBounds_toArray, List.set_cons_zero, List.set_cons_succ]
  refine anyM_take (i := 3) (v := ?_) (by kernel_rfl) rfl (by kernel_rfl) (by kernel_rfl) (by kernel_rfl) (by kernel_rfl) (fun _ _ _ h => h) (by rfl) ?_ hSS ?_
  rotate_left
  ·(intro W hW; go_simp; try with_reducible rfl)
  try (dsimp only); try simp only [Act.put, List.setIfInBounds_toArray, List.set_cons_zero, List.set_cons_succ]
  refine anyM_take (i := 5) (v := ?_) (by kernel_rfl) rfl (by kernel_rfl) (by kernel_rfl) (by kernel_rfl) (by kernel_rfl) (fun _ _ _ h => h) (by rfl) ?_ hSS ?_
  rotate_left
  ·(intro W hW; go_simp; try with_reducible rfl)
  try (dsimp only); try simp only [Act.put, List.setIfInBounds_toArray, List.set_cons_zero, List.set_cons_succ]
  refine anyM_take (i := 6) (v := ?_) (by kernel_rfl) rfl (by kernel_rfl) (by kernel_rfl) (by kernel_rfl) (by kernel_rfl) (fun _ _ _ h => h) (by rfl) ?_ hSS ?_
  rotate_left
  ·(intro W hW; go_simp; try with_reducible rfl)
  try (dsimp only); try simp only [Act.put, List.setIfInBounds_toArray, List.set_cons_zero, List.set_cons_succ]
  refine anyM_take (i := 7) (v := ?_) (by kernel_rfl) rfl (by kernel_rfl) (by kernel_rfl) (by kernel_rfl) (by kernel_rfl) (fun _ _ _ h => h) (by rfl) ?_ hSS ?_
  rotate_left
  ·(intro W hW; go_simp; try with_reducible rfl)
  try (dsimp only); try simp only [Act.put, List.setIfInBounds_toArray, List.set_cons_zero, List.set_cons_succ]
  refine anyM_take (i := 8) (v := ?_) (by kernel_rfl) rfl (by kernel_rfl) (by kernel_rfl) (by kernel_rfl) (by kernel_rfl) (fun _ _ _ h => h) (by rfl) ?_ hSS ?_
  rotate_left
  ·(intro W hW; go_simp; try with_reducible rfl)
  try (dsimp only); try simp only [Act.put, List.setIfInBounds_toArray, List.set_cons_zero, List.set_cons_succ]
  refine anyM_run (i := 0) (v := .slice (some ⟨Wc.drew.heap.size, 0, none⟩) 0 0) (w' := Wc.drew.alloc (.cells #[] 48)) rfl (by kernel_rfl) (by rfl) ?_ (.inr hbe) ?_
  ·refine exec_bslice 37 _ _ rfl ?_
   simp only [List.map_toArray, List.map_nil]
   exact hbs0
  try (dsimp only); try simp only [Act.put, List.setIfInBounds_toArray, List.set_cons_zero, List.set_cons_succ]
  refine anyM_run (i := 4) (v := vx) (w' := U1) rfl (by kernel_rfl) (by rfl) ?_ (.inr hb1') ?_
  ·refine exec_app (v := .slice (some ⟨Wc.drew.heap.size, 0, none⟩) 0 0) (u := .slice (some ⟨b, o, none⟩) k rc) _ _ 37 rfl (by rfl) (by rfl) ?_
   exact hr1
  try (dsimp only); try simp only [Act.put, List.setIfInBounds_toArray, List.set_cons_zero, List.set_cons_succ]
  refine anyM_run (i := 9) (v := .slice pa nn pc) (w' := U2) rfl (by kernel_rfl) (by rfl) ?_ (.inr hb2') ?_
  ·refine exec_app (v := vx) (u := .slice (if rc = k + 1 then some ⟨b, o, none⟩ else some ⟨b, o + (k + 1) * 2, none⟩) (r.length - (k + 1)) (rc - (k + 1))) _ _ 37 rfl (by rfl) (by rfl) ?_
   exact hr2
  try (dsimp only); try simp only [Act.put, List.setIfInBounds_toArray, List.set_cons_zero, List.set_cons_succ]
  refine anyM_run (i := 10) (v := .slice pa nn pc) (w' := U2) rfl (by kernel_rfl) (by rfl) ?_ (.inr hb2') ?_
  ·go_simp
  try (dsimp only); try simp only [Act.put, List.setIfInBounds_toArray, List.set_cons_zero, List.set_cons_succ]
  refine anyM_done (by kernel_rfl) ?_ _
  generalize (if rc = k + 1 then (some ⟨b, o, none⟩ : Option Addr) else some ⟨b, o + (k + 1) * 2, none⟩) = ad
  clear hb1 hb2 hr1 hr2 hb1' hb2' hbs0 hbe hbd hSS HOS HA3 HB3
  obtain ⟨pb, hpb⟩ : ∃ pb, partB (bl set) (bl y.set) = pb := ⟨_, rfl⟩
  have hpt := part_any set y.set (by omega) (by omega) U2
  rw [hpb] at hpt
  have HPT := Lib.hid hpt
  have HPB := Lib.hid hpb
  obtain ⟨b', o', he, hat⟩ := HA4.out.rg k y HY.out
  cases he
  obtain ⟨-, f2⟩ := hat.fields
  clear hpb hpt hat
  go_upto_if 144 with (refine HPT.out.mono ?_)
  rintro e U2 ⟨rfl, rfl⟩
  go_upto_if 144 with fail
  clear HPT
  go_cut [21, 22, 23, 24, 25, 26] (fun _ _ _ _ _ _ wx => Below U2.heap.size U2 wx)
  case first =>
   as_aux_lemma =>
   rcases pb with _ | _
   ·go_wp2_with fail
    go_meet
    exact Below.refl _ _
   ·have hin : inB (n : Int) 0 11 = true := by simp [inB]; omega
    have hcm := choices_any a c l ware (some ⟨g, 0, none⟩) cap (r.set k ⟨y.at_, set⟩) n U2 HMA.out
    rw [HML.out] at hcm
    by_cases hm : wantedErr l ware (r.set k ⟨y.at_, set⟩) = 0
    ·obtain ⟨T, hT⟩ : ∃ T, mkB (str (choicesT l ware (r.set k ⟨y.at_, set⟩) n)) = T := ⟨_, rfl⟩
     have hch : choicesOut l ware (r.set k ⟨y.at_, set⟩) n = .tuple #[.string T, .int .i64 0] := by
      unfold choicesOut
      rw [if_pos hm, if_pos hin, ← hT]; rfl
     rw [hch] at hcm
     have hbT : bl T = str (choicesT l ware (r.set k ⟨y.at_, set⟩) n) := by rw [← hT, bl_mkB]
     have hT26 : T.size ≤ 26 := by rw [← bl_len, hbT]; exact str_len _
     have hS26 := HS26.out
     have HPP := Lib.hid (show partB (bl T) (bl S) = true by rw [hbT, HSB.out]; exact more_part (wanted_good H0.out).2.1 HY.out HPB.out)
     have HFB := Lib.hid (more_fewer (l := l) (ware := ware) (wanted_good H0.out).2.1 HY.out HPB.out)
     have HX1 := Lib.hid (shiftsX_eq H0.out)
     have HX2 := Lib.hid (shiftsX_eq hm)
     have HL1 := Lib.hid (shiftsX_len H0.out)
     have HL2 := Lib.hid (shiftsX_len hm)
     have HCM := Lib.hid hcm
     have HM0 := Lib.hid hm
     clear hT hch hbT hcm hm hin
     go_wp2_with (refine HCM.out.mono ?_)
     rintro e u1 ⟨rfl, hb1⟩
     have HU1 := Lib.hid hb1
     have hs1 := shiftsX_any a c l ware (some ⟨b, o, none⟩) rc r u1 (HA4.out.below hb1)
     rw [HX1.out, H0.out] at hs1
     have HS1 := Lib.hid hs1
     clear hb1 hs1 HCM
     go_wp2_with (refine HS1.out.mono ?_)
     rintro e u2 ⟨fa, fc, rfl, hro, -, hb2⟩
     have HU2 := Lib.hid (HU1.out.trans (hb2.mono HU1.out.size))
     have hs2 := shiftsX_any a c l ware (some ⟨g, 0, none⟩) cap (r.set k ⟨y.at_, set⟩) u2 (HMA.out.below HU2.out)
     rw [HML.out, HX2.out, HM0.out] at hs2
     have HS2 := Lib.hid hs2
     have HR1 := Lib.hid (fts_of_own hro)
     clear hb2 hs2 HS1 HU1 hro
     go_wp2_with (refine HS2.out.mono ?_)
     rintro e u3 ⟨fa', fc', rfl, hro', -, hb3⟩
     have HU3 := Lib.hid (HU2.out.trans (hb3.mono HU2.out.size))
     have hpt := part_any T S (by omega) (by omega) u3
     rw [HPP.out] at hpt
     have hfw := fewer_any fa' fa fc' fc _ _ (by have := HL2.out; omega) (by have := HL1.out; omega) u3 (fts_of_own hro') (HR1.out.below hb3)
     rw [HFB.out] at hfw
     have HPT := Lib.hid hpt
     have HFW := Lib.hid hfw
     clear hb3 hro' hpt hfw HS2 HR1 HU2
     go_wp2_with (refine HPT.out.mono ?_)
     first
      | (rintro e u3 ⟨rfl, rfl⟩; go_wp2_with (refine HFW.out.mono ?_); rintro e u4 ⟨rfl, hb4⟩)
      | (go_wp2_with (refine HFW.out.mono ?_); rintro e u4 ⟨rfl, hb4⟩)
     clear HPT
     have HU4 := Lib.hid (HU3.out.trans (hb4.mono HU3.out.size))
     clear hb4 HFW
     go_wp2_with fail
     go_meet
     exact HU4.out
    ·have hch : choicesOut l ware (r.set k ⟨y.at_, set⟩) n = .tuple #[.string ByteArray.empty, .int .i64 (wantedErr l ware (r.set k ⟨y.at_, set⟩))] := by unfold choicesOut; rw [if_neg hm]
     rw [hch] at hcm
     obtain ⟨E, hE⟩ : ∃ E, wantedErr l ware (r.set k ⟨y.at_, set⟩) = E := ⟨_, rfl⟩
     rw [hE] at hcm hm
     have HE := Lib.hid hE
     have hne : (E == 0) = false := by simpa using hm
     have HCM := Lib.hid hcm
     clear hch hcm hm hin hE
     go_wp2_with (refine HCM.out.mono ?_)
     rintro e u1 ⟨rfl, hb1⟩
     have HU1 := Lib.hid hb1
     have hs1 := shiftsX_any a c l ware (some ⟨b, o, none⟩) rc r u1 (HA4.out.below hb1)
     rw [H0.out] at hs1
     have HS1 := Lib.hid hs1
     clear hb1 hs1 HCM
     go_wp2_with (refine HS1.out.mono ?_)
     rintro e u2 ⟨fa, fc, rfl, -, -, hb2⟩
     have HU2 := Lib.hid (HU1.out.trans (hb2.mono HU1.out.size))
     have hs2 := shiftsX_any a c l ware (some ⟨g, 0, none⟩) cap (r.set k ⟨y.at_, set⟩) u2 (HMA.out.below HU2.out)
     rw [HML.out, HE.out] at hs2
     have HS2 := Lib.hid hs2
     clear hb2 hs2 HS1 HU1
     go_wp2_with (refine HS2.out.mono ?_)
     rintro e u3 ⟨fa', fc', rfl, -, -, hb3⟩
     have HU3 := Lib.hid (HU2.out.trans (hb3.mono HU2.out.size))
     clear hb3 HS2 HU2
     go_wp2_with fail
     go_meet
     exact HU3.out
  case rest =>
   as_aux_lemma =>
   obtain ⟨w6, rfl⟩ : ∃ x, x = wc := ⟨_, rfl⟩
   have HA6 := Lib.hid (HA4.out.below hcut)
   have HWA6 := Lib.hid (HWA.out.below hcut)
   have HB6 := Lib.hid (HB4.out.trans (hcut.mono HB4.out.size))
   obtain ⟨b', o', he, hat⟩ := HA6.out.rg 0 y0 HY0.out
   cases he
   have c0 : w6.cell? ⟨b, o, none⟩ = some (.int .i64 y0.at_) := by
    have := hat.fields.1
    simpa using this
   have hnw : IntKind.i64.wrap ((r.length : Int) - 1) = (r.length : Int) - 1 := IntWalk.i64_in _ (by omega)
   obtain ⟨D, hD⟩ : ∃ D, decide (y0.at_ = 0 ∧ 0 < k ∧ k + 1 < r.length) = D := ⟨_, rfl⟩
   have HD := Lib.hid hD
   clear hcut hat hD f2 HA4 HWA HB4 HMA HPB
   go_upto_region 19 with fail
   go_cut [204] (fun c wx => c = .bool D ∧ wx = w6)
   case first =>
    as_aux_lemma =>
    by_cases q1 : y0.at_ = 0
    rotate_left
    ·have e1 : (y0.at_ == 0) = false := by simpa using q1
     have hd : D = false := by rw [← HD.out]; exact decide_eq_false (fun h => q1 h.1)
     subst hd
     clear q1
     go_wp2_with fail
     go_meet
     exact ⟨rfl, rfl⟩
    have e1 : (y0.at_ == 0) = true := by simpa using q1
    by_cases q2 : 0 < k
    rotate_left
    ·have q2i : ¬ (0 : Int) < (k : Int) := by omega
     have hd : D = false := by rw [← HD.out]; exact decide_eq_false (fun h => q2 h.2.1)
     subst hd
     clear q1 q2
     go_wp2_with fail
     go_meet
     exact ⟨rfl, rfl⟩
    have q2i : (0 : Int) < (k : Int) := by omega
    by_cases q3 : k + 1 < r.length
    ·have q3i : (k : Int) < (r.length : Int) - 1 := by omega
     have hd : D = true := by rw [← HD.out]; exact decide_eq_true ⟨q1, q2, q3⟩
     subst hd
     clear q1 q2 q3
     go_wp2_with fail
     go_meet
     exact ⟨rfl, rfl⟩
    ·have q3i : ¬ (k : Int) < (r.length : Int) - 1 := by omega
     have hd : D = false := by rw [← HD.out]; exact decide_eq_false (fun h => q3 h.2.2)
     subst hd
     clear q1 q2 q3
     go_wp2_with fail
     go_meet
     exact ⟨rfl, rfl⟩
   case rest =>
    as_aux_lemma =>
    obtain ⟨rfl, hwc⟩ := hcut
    rw [hwc]
    clear hwc wc c0
    go_upto_if 204 with fail
    go_cut [27, 28] (fun _ _ wx => Below w6.heap.size w6 wx)
    case first =>
     as_aux_lemma =>
     rcases D with _ | _
     ·go_wp2_with fail
      go_meet
      exact Below.refl _ _
     ·have hd := of_decide_eq_true HD.out
      have hin : inB (n : Int) 0 11 = true := by simp [inB]; omega
      have hcw := choices_any a c l ware pa pc (r.take k ++ r.drop (k + 1)) n w6 HWA6.out
      rw [HLD.out] at hcw
      have he0 := wanted_sub7 (r' := r.take k ++ r.drop (k + 1)) H0.out drop_sub
      obtain ⟨T, hT⟩ : ∃ T, mkB (str (choicesT l ware (r.take k ++ r.drop (k + 1)) n)) = T := ⟨_, rfl⟩
      have hch : choicesOut l ware (r.take k ++ r.drop (k + 1)) n = .tuple #[.string T, .int .i64 0] := by
       unfold choicesOut
       rw [if_pos he0, if_pos hin, ← hT]; rfl
      rw [hch] at hcw
      have hbT : bl T = str (choicesT l ware (r.take k ++ r.drop (k + 1)) n) := by rw [← hT, bl_mkB]
      have hT26 : T.size ≤ 26 := by rw [← bl_len, hbT]; exact str_len _
      have hS26 := HS26.out
      have HPP := Lib.hid (show partB (bl S) (bl T) = true by rw [hbT, HSB.out]; exact wide_part (wanted_good H0.out).2.1 hd.2.2)
      have HCW := Lib.hid hcw
      clear hd hin hcw he0 hT hch hbT
      go_wp2_with (refine HCW.out.mono ?_)
      rintro e u1 ⟨rfl, hb1⟩
      have HU1 := Lib.hid hb1
      have hpt := part_any S T (by omega) (by omega) u1
      rw [HPP.out] at hpt
      have HPT := Lib.hid hpt
      clear hb1 hpt HCW
      go_wp2_with (refine HPT.out.mono ?_)
      first
       | (rintro e u1 ⟨rfl, rfl⟩; go_wp2_with fail; go_meet; exact HU1.out)
       | (go_meet; exact HU1.out)
    case rest =>
     as_aux_lemma =>
     obtain ⟨w7, rfl⟩ : ∃ x, x = wc := ⟨_, rfl⟩
     have HA7 := Lib.hid (HA6.out.below hcut)
     have HB7 := Lib.hid (HB6.out.trans (hcut.mono HB6.out.size))
     clear hcut HA6 HWA6 HB6 HD
     go_wp2_with fail
     go_loopw [29, 30, 31, 32, 33, 34] (fun iv _ _ _ _ _ wr => ∃ i : Nat, i ≤ S.size ∧ iv = .int .i64 i ∧ Below w7.heap.size w7 wr) (fun iv _ _ _ _ _ _ => S.size - (intOf iv).toNat)
     case atStart => exact ⟨0, Nat.zero_le _, rfl, Below.refl _ _⟩
     case round =>
      as_aux_lemma =>
      obtain ⟨i, hi, rfl, hb⟩ := hrel
      have HBR := Lib.hid hb
      clear hb
      have hS26 := HS26.out
      by_cases hlt : i < S.size
      rotate_left
      ·have hin : decide ((i : Int) < (S.size : Int)) = false := by simp; omega
       have HB := Lib.hid (HB7.out.trans (HBR.out.mono HB7.out.size))
       go_wp2_with (refine (HTU.out _).mono ?_)
       rintro e wt ⟨rfl, hbt⟩
       have HBT := Lib.hid (HB.out.trans (hbt.mono HB.out.size))
       clear hbt
       go_wp2_with fail
       go_ret
       exact ⟨rfl, HBT.out⟩
      obtain ⟨cc, hc26, hcp, hx⟩ := class_at HSB.out hlt
      obtain ⟨R1, hR1⟩ : ∃ R1, withR r n (S.extract i (i + 1)) = R1 := ⟨_, rfl⟩
      have hE : R1.length ≤ 12 → wantedErr l ware R1 = 0 := fun h => by
       rw [← hR1, hx] at h ⊢
       exact one_err H0.out hn11 hc26 h
      have hF : (shiftsT l ware R1).isEmpty = false := by rw [← hR1, hx]; exact one_fits H0.out hc26 hcp
      have hW := with_any (some ⟨b, o, none⟩) rc r n (S.extract i (i + 1)) (by omega) wr (HA7.out.rg.below HBR.out)
      unfold WithPost at hW
      rw [hR1] at hW
      have HSM := Lib.hid (show ∀ z, z ∈ R1 → z.set.size ≤ 1000 by
       rw [← hR1]
       exact with_sml (wanted_good H0.out).2.1 HA7.out.rsm (by rw [hx, mkB_size]; simp))
      have hki : (i : Int) < (S.size : Int) := by omega
      have hk0i : (0 : Int) ≤ (i : Int) := by omega
      have hkw : IntKind.i64.wrap ((i : Int) + 1) = (i : Int) + 1 := IntWalk.i64_in _ (by omega)
      have hkle : (i : Int) ≤ (i : Int) + 1 := by omega
      have hks : (i : Int) + 1 ≤ (S.size : Int) := by omega
      by_cases h12 : R1.length ≤ 12
      ·have hd12 : decide (R1.length ≤ 12) = true := decide_eq_true h12
       rw [hd12] at hW
       obtain ⟨ui, uj, ux, hCo, -⟩ := complete_form3 (hE h12)
       rw [hF, show (!false) = true from rfl] at hCo
       have HW := Lib.hid hW
       have HCo := Lib.hid hCo
       have H12 := Lib.hid h12
       clear hE hF hW hCo hd12 h12 hR1 hx hcp hc26
       go_wp2_with (refine HW.out.mono ?_)
       rintro e u1 ⟨fa, fc, rfl, hro, hcp, hb1⟩
       have hbr1 := HBR.out.trans (hb1.mono HBR.out.size)
       have hask : Ask u1 a c l fa fc R1 := ⟨HA7.out.ty.below hbr1, HA7.out.sm, HA7.out.tlen, HA7.out.tcap, rngs_of_own hro, HSM.out, by have := H12.out; omega, hcp⟩
       have HCO1 := Lib.hid (HCo.out ▸ complete_any a c l ware fa fc R1 u1 hask)
       have HBR1 := Lib.hid hbr1
       clear hro hcp hb1 hbr1 hask HW
       go_wp2_with (refine HCO1.out.mono ?_)
       rintro e u2 ⟨rfl, hb2⟩
       obtain ⟨u3, hu3⟩ : ∃ x, u2.alloc (.cells #[.int .i64 ui, .int .i64 uj, .string ux] 44) = x := ⟨_, rfl⟩
       have hb3 : Below u2.heap.size u2 u3 := by rw [← hu3]; go_grown
       have hb4 := HBR1.out.trans (hb2.mono HBR1.out.size)
       have HBZ := Lib.hid (hb4.trans (hb3.mono hb4.size))
       clear hb2 hb3 hb4 HCO1 HBR1
       go_wp2_with fail
       go_roundw
       case rel => exact ⟨i + 1, by omega, by go_num, HBZ.out⟩
       case measure => simp [intOf]; omega
      ·have hd12 : decide (R1.length ≤ 12) = false := decide_eq_false h12
       rw [hd12] at hW
       have HW := Lib.hid hW
       clear hE hF hW hd12 h12 hR1 hx hcp hc26
       go_wp2_with (refine HW.out.mono ?_)
       rintro e u1 ⟨fa, fc, rfl, -, -, hb1⟩
       have HBZ := Lib.hid (HBR.out.trans (hb1.mono HBR.out.size))
       clear hb1 HW
       go_wp2_with fail
       go_roundw
       case rel => exact ⟨i + 1, by omega, by go_num, HBZ.out⟩
       case measure => simp [intOf]; omega
end Go.Proofs.YthpjffhccjlnhaaGreatDoor
