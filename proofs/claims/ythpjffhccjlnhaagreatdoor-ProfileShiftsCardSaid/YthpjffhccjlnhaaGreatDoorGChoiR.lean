/- The reference: Choices. Few profiles. -/
import Derived.Test.YthpjffhccjlnhaaGreatDoorGShiftR
set_option linter.unusedSimpArgs false
set_option linter.unusedVariables false
namespace Go.Proofs.YthpjffhccjlnhaaGreatDoor
open Go.RowKit
attribute [local go_sem] Oper.semAt_some

theorem ft_small {l : List Typ} {ware : ByteArray} {r : List Rng} (h0 : wantedErr l ware r = 0) {f : Ft} (hf : f ∈ fitsT l ware r) : f.shift ≤ 13 ∧ f.word.length ≤ 12 ∧ ∀ c, c ∈ f.word → c < 26 := by
 obtain ⟨t, hx, ht, hw⟩ := mem_fitsT.1 hf
 obtain ⟨t', ht', _, hs⟩ := mem_tries.1 hx
 rw [ht] at ht'; cases ht'
 obtain ⟨h1, h2⟩ := wanted_typ h0
 obtain ⟨_, _, _, hm⟩ := typeB_good (types_at h1 ht)
 have hsh := shifts_le7 (t := t) (r := r) hm (RgOk.of h2)
 obtain ⟨k1, k2, _⟩ := (mem_fitL (Nat.le_refl _)).1 hw
 unfold Typ.m at k2
 exact ⟨by omega, by omega, (chain_iff.1 k1).2.1⟩
def hitC (n c : Nat) (f : Ft) : Bool := f.word[f.shift + n]? == some c
theorem any_take6 {α : Type} {p : α → Bool} {L : List α} {q : Nat} {x : α} (h : L[q]? = some x) : (L.take (q + 1)).any p = ((L.take q).any p || p x) := by
 rw [List.take_add_one, h, List.any_append]; simp
set_option maxRecDepth 100000 in
set_option maxHeartbeats 8000000 in
theorem choicesR_any (a : Option Addr) (c : Nat) (l : List Typ) (ware : ByteArray) (ra : Option Addr) (rc : Nat) (r : List Rng) (n : Int) (w : World) (h : Ask w a c l ra rc r) (hf : typesErr l = 0 → FewL l) :
  Calls Tryz.prog 35 #[.slice a l.length c, .string ware, .slice ra r.length rc, .int .i64 n] w fun e w' => e = .returned (choicesOut l ware r n) ∧ Below w.heap.size w w' := by
 have HC := Lib.hid (askedR_any a c l ware ra rc r w h)
 have HA := Lib.hid h
 have HFW := Lib.hid hf
 clear h hf
 go_enter Tryz.func35, Tryz.ntmps35
 go_wp2_with (refine HC.out.mono ?_)
 rintro e w2 ⟨rfl, hb2⟩
 have A2 := Lib.hid (HA.out.below hb2)
 have HB2 := Lib.hid hb2
 clear hb2 HC HA
 by_cases h0 : wantedErr l ware r = 0
 rotate_left
 ·have HE : Hid (choicesOut l ware r n = .tuple #[.string ByteArray.empty, .int .i64 (wantedErr l ware r)]) := Lib.hid (by unfold choicesOut; rw [if_neg h0])
  have hne : (wantedErr l ware r == 0) = false := by simpa using h0
  go_wp2_with fail
  exact bodyPost_ret (results_tmp_tmp4 rfl) rfl ⟨by rw [HE.out]; rfl, HB2.out⟩
 rcases hin : inB n 0 11 with _ | _
 ·have HE : Hid (choicesOut l ware r n = .tuple #[.string ByteArray.empty, .int .i64 1]) := Lib.hid (by unfold choicesOut; rw [if_pos h0, hin]; rfl)
  simp only [h0]
  clear h0 HFW
  by_cases hn0 : n < 0
  ·clear hin
   go_wp2_with fail
   exact bodyPost_ret (results_tmp_tmp4 rfl) rfl ⟨by rw [HE.out]; rfl, HB2.out⟩
  ·have hn1 : (11 : Int) < n := by simp [inB] at hin; omega
   clear hin
   go_wp2_with fail
   exact bodyPost_ret (results_tmp_tmp4 rfl) rfl ⟨by rw [HE.out]; rfl, HB2.out⟩
 obtain ⟨n, rfl⟩ : ∃ k : Nat, n = k := ⟨n.toNat, by simp [inB] at hin; omega⟩
 have hn11 : n ≤ 11 := by simp [inB] at hin; omega
 have hnl : decide ((n : Int) < 0) = false := decide_eq_false (by omega)
 have hng : decide ((11 : Int) < (n : Int)) = false := decide_eq_false (by omega)
 have hng2 : decide (11 < n) = false := decide_eq_false (by omega)
 have HE : Hid (choicesOut l ware r n = .tuple #[.string (mkB (str (choicesT l ware r n))), .int .i64 0]) := Lib.hid (by unfold choicesOut; rw [if_pos h0, if_pos hin]; rfl)
 have HF := Lib.hid (fitsA_any a c l ware ra rc r w2 A2.out h0 (HFW.out (wanted_typ h0).1))
 have HLL := Lib.hid (fitsT_len h0 (HFW.out (wanted_typ h0).1))
 have HSM := Lib.hid (fun f (hf : f ∈ fitsT l ware r) => ft_small h0 hf)
 have HCT := Lib.hid (show choicesT l ware r n = fun c => (fitsT l ware r).any (hitC n c) from rfl)
 simp only [h0]
 clear h0 HFW hin
 go_upto_region 6 with fail
 go_wp2_with (refine HF.out.mono ?_)
 rintro e w3 ⟨fa, fc, rfl, hro, -, hb3⟩
 have HB3 := Lib.hid (HB2.out.trans (hb3.mono HB2.out.size))
 obtain ⟨L, hL⟩ : ∃ L, fitsT l ware r = L := ⟨_, rfl⟩
 obtain ⟨P, hP⟩ : ∃ P, choicesT l ware r n = P := ⟨_, rfl⟩
 rw [hL] at HLL HSM HCT hro
 rw [hP] at HCT HE
 rw [hL]
 have hl5 := HLL.out
 have RW := Lib.hid (show RwR w3 (.slice none 0 0) fa (ftRows L) from fun q x hx => by
  obtain ⟨b, o, g1, g2, g3, _⟩ := hro q x hx
  exact ⟨b, o, g1, g3, fun e => by cases e⟩)
 clear HF hb3 hro hL hP HLL A2 HB2
 go_wp2_with fail
 go_loopw [12, 13, 14, 15, 16] (fun xv cv _ _ _ wr => ∃ c : Nat, c ≤ 26 ∧ cv = .int .u8 (97 + (c : Int)) ∧ xv = .string (mkB (strTo P c)) ∧ Below w3.heap.size w3 wr) (fun _ cv _ _ _ _ => 123 - (intOf cv).toNat)
 case atStart => exact ⟨0, by omega, rfl, rfl, Below.refl _ _⟩
 case round =>
  obtain ⟨c, hc, rfl, rfl, hb⟩ := hrel
  have HBR := Lib.hid hb
  clear hb
  by_cases hc26 : c < 26
  rotate_left
  ·have hcn : decide ((97 : Int) + (c : Int) ≤ 122) = false := by simp; omega
   have HNV := Lib.hid (show mkB (strTo P c) = mkB (str P) by rw [show c = 26 by omega]; rfl)
   go_wp2_with fail
   exact bodyPost_ret (results_tmp_tmp4 rfl) rfl ⟨by rw [HE.out, ← HNV.out]; rfl, HB3.out.trans (HBR.out.mono HB3.out.size)⟩
  have hci : (97 : Int) + (c : Int) ≤ 122 := by omega
  have hcw : IntKind.u8.wrap ((97 : Int) + (c : Int) + 1) = (97 : Int) + ((c + 1 : Nat) : Int) := by
   show ((97 : Int) + (c : Int) + 1) % 256 = _; omega
  have HCH := Lib.hid (show ((chC c).toNat : Int) = 97 + (c : Int) by rw [chC_nat hc26]; omega)
  have HSU := Lib.hid (strTo_succ P c)
  go_wp2_with fail
  go_loopw [14, 15, 16] (fun lv qv _ wr => ∃ q : Nat, q ≤ L.length ∧ qv = .int .i64 q ∧ lv = .bool ((L.take q).any (hitC n c)) ∧ Below w3.heap.size w3 wr) (fun _ qv _ _ => L.length - (intOf qv).toNat)
  case atStart => exact ⟨0, by omega, rfl, rfl, HBR.out⟩
  case round =>
   clear HBR
   obtain ⟨q, hq, rfl, rfl, hb⟩ := hrel
   have HBR := Lib.hid hb
   obtain ⟨cv, hlv⟩ : ∃ lv, (L.take q).any (hitC n c) = lv := ⟨_, rfl⟩
   rw [hlv]
   have HLV := Lib.hid hlv
   clear hlv
   by_cases hql : q < L.length
   ·obtain ⟨f, hf⟩ : ∃ f, L[q]? = some f := ⟨L[q], by simp [hql]⟩
    obtain ⟨b, o, rfl, -, c1, c2, -⟩ := RwR.ft (RW.out.below hb) hf
    obtain ⟨hfs, hfl, hfc⟩ := HSM.out f (List.mem_of_getElem? hf)
    have HT := Lib.hid (any_take6 (p := hitC n c) hf)
    have HFC := Lib.hid hfc
    have hqi : (q : Int) < (L.length : Int) := by omega
    have hq0 : (0 : Int) ≤ (q : Int) := by omega
    obtain ⟨p, hp⟩ : ∃ p, f.shift + n = p := ⟨_, rfl⟩
    have hw1 : IntKind.i64.wrap ((f.shift : Int) + (n : Int)) = (p : Int) := by rw [IntWalk.i64_in _ (by omega)]; omega
    have HP := Lib.hid hp
    clear hb hf hfc hfs hp
    rcases cv with _ | _
    rotate_left
    ·have HNV := Lib.hid (show (L.take (q + 1)).any (hitC n c) = true by rw [HT.out, HLV.out]; rfl)
     clear c2
     go_wp2_with fail
     go_roundw
     case rel => exact ⟨q + 1, by omega, by go_num, by rw [HNV.out], HBR.out⟩
     case measure => simp [intOf]; omega
    obtain ⟨X, hX⟩ : ∃ X, mkB (toS f.word) = X := ⟨_, rfl⟩
    have HBX := Lib.hid (show bl X = toS f.word by rw [← hX, bl_mkB])
    have hXs : X.size = f.word.length := by rw [← hX, mkB_size]; unfold toS; rw [List.length_map]
    rw [hX] at c2
    have HXS := Lib.hid hXs
    clear hX hXs
    by_cases hpl : p < X.size
    rotate_left
    ·have hpn : decide ((p : Int) < (X.size : Int)) = false := by simp; omega
     have HNV := Lib.hid (show (L.take (q + 1)).any (hitC n c) = false by
      rw [HT.out, HLV.out]
      unfold hitC
      rw [HP.out, List.getElem?_eq_none (by have := HXS.out; omega)]; rfl)
     go_wp2_with fail
     go_roundw
     case rel => exact ⟨q + 1, by omega, by go_num, by rw [HNV.out], HBR.out⟩
     case measure => simp [intOf]; omega
    have hpi : (p : Int) < (X.size : Int) := by omega
    have hp0 : (0 : Int) ≤ (p : Int) := by omega
    obtain ⟨d, hd⟩ : ∃ d, f.word[p]? = some d := ⟨_, List.getElem?_eq_getElem (by have := HXS.out; omega)⟩
    have hd26 := HFC.out d (List.mem_of_getElem? hd)
    obtain ⟨z, hz⟩ : ∃ z, X[p] = z := ⟨_, rfl⟩
    have hzc : z = chC d := by
     have h1 := bl_at X hpl
     rw [HBX.out] at h1
     unfold toS at h1
     rw [List.getElem?_map, hd, hz] at h1
     exact (Option.some.inj h1).symm
    have hzn : (z.toNat : Int) = 97 + (d : Int) := by rw [hzc, chC_nat hd26]; omega
    have hhc : hitC n c f = (d == c) := by
     unfold hitC
     rw [HP.out, hd]; rfl
    by_cases hdc : d = c
    ·have e1 : ((z.toNat : Int) == 97 + (c : Int)) = true := by rw [beq_iff_eq]; omega
     have HNV := Lib.hid (show (L.take (q + 1)).any (hitC n c) = true by rw [HT.out, HLV.out, hhc]; simpa using hdc)
     clear hd hzc hzn hhc hdc
     go_wp2_with fail
     go_roundw
     case rel => exact ⟨q + 1, by omega, by go_num, by rw [HNV.out], HBR.out⟩
     case measure => simp [intOf]; omega
    ·have e1 : ((z.toNat : Int) == 97 + (c : Int)) = false := by rw [beq_eq_false_iff_ne]; omega
     have HNV := Lib.hid (show (L.take (q + 1)).any (hitC n c) = false by rw [HT.out, HLV.out, hhc]; simpa using hdc)
     clear hd hzc hzn hhc hdc
     go_wp2_with fail
     go_roundw
     case rel => exact ⟨q + 1, by omega, by go_num, by rw [HNV.out], HBR.out⟩
     case measure => simp [intOf]; omega
   ·have hqn : decide ((q : Int) < (L.length : Int)) = false := by simp; omega
    have hqn2 : decide (q < L.length) = false := decide_eq_false hql
    have HCV := Lib.hid (show P c = cv by
     rw [← HLV.out, List.take_of_length_le (by omega), HCT.out])
    clear HLV hb
    rcases cv with _ | _
    ·have HN := Lib.hid (show strTo P (c + 1) = strTo P c by rw [HSU.out, HCV.out]; simp)
     go_wp2_with fail
     go_roundw
     case rel => exact ⟨c + 1, by omega, by go_num, by rw [HN.out], HBR.out⟩
     case measure => simp [intOf]; omega
    ·have HN := Lib.hid (show mkB (strTo P (c + 1)) = mkB (strTo P c) ++ mkB [chC c] by rw [HSU.out, HCV.out, mkB_app]; rfl)
     have hzs : (mkB (strTo P c)).size ≤ 1000 := by rw [mkB_size]; have := strTo_len P c; omega
     have hr5 := Lib.hid (run_byte (97 + (c : Int)) wr)
     have hC := run_conv1 wr (chC c) (97 + (c : Int)) HCH.out.symm
     have HB5 := Lib.hid (HBR.out.trans ((show Below wr.heap.size wr (wr.alloc (.cells #[.int .u8 (97 + (c : Int))] 5)) from by go_grown).mono HBR.out.size))
     have h1s : (mkB [chC c]).size = 1 := by rw [mkB_size]; rfl
     go_wp2_with (first
      | (apply wpList_bsl (T := 98) (n := 1) (hr := hr5.out); (· rfl); (· (simp only [List.map_toArray, List.map_cons, List.map_nil]; rfl)))
      | (refine wpList_cat rfl _ _ _ rfl rfl rfl (by rw [h1s]; omega) ?_))
     go_roundw
     case rel => exact ⟨c + 1, by omega, by go_num, by rw [HN.out], HB5.out⟩
     case measure => simp [intOf]; omega
end Go.Proofs.YthpjffhccjlnhaaGreatDoor
