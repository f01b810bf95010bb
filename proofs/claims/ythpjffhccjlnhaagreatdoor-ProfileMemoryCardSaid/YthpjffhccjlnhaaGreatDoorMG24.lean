/- The reference: least: the least Sets of a blank. A type and rings that are as said. -/
/- The reference: Blanks. No condition. -/
/- The reference: SameBlanks of two equal lists. No condition but that the sets are short. -/
import Derived.Test.YthpjffhccjlnhaaGreatDoorMG23
import Derived.Test.YthpjffhccjlnhaaGreatDoorMG18
set_option linter.unusedSimpArgs false
set_option linter.unusedVariables false
namespace Go.Proofs.YthpjffhccjlnhaaGreatDoor
open Go.RowKit
attribute [local go_sem] Oper.semAt_some

def okAt4 (t : Typ) (r : List Rng) (s p : Nat) : Bool := !(decide (leastOf4 t r s ≤ ((p + 1 : Nat) : Int)) && any26 fun c => blankOf t r s p c && t.kd.base c)
def okTo4 (t : Typ) (r : List Rng) (s p : Nat) : Bool := (List.range p).all (okAt4 t r s)
theorem okTo4_all (t : Typ) (r : List Rng) (s : Nat) : okTo4 t r s t.m = blankOk t r s := rfl
theorem okTo4_succ (t : Typ) (r : List Rng) (s p : Nat) : okTo4 t r s (p + 1) = (okTo4 t r s p && okAt4 t r s p) := by
 unfold okTo4
 rw [List.range_succ, List.all_append]; simp
theorem both_blank {t : Typ} {r : List Rng} (hr : ∀ y, y ∈ r → isSetB (bl y.set) = true) (s p : Nat) : bothL (str (nowT t r s p)) (bl (ringS r s p)) = str (blankOf t r s p) := by
 rw [both_set (set_str _) (ringS_set hr s p)]
 refine str_congr fun c hc => ?_
 rw [has_str hc, ringS_cut r s p hc]; rfl
theorem comesN_eq {t : Typ} (ht : t.sets = true) (r : List Rng) (s p : Nat) {c : Nat} (hc : c < 26) : (str (blankOf t r s p)).any (fun x => inL (bl (aftS t x)) (chC c)) = nowT t r s (p + 1) c := by
 rw [comes_eq ht (set_str _) hc, nowT_step t 0]
 show _ = any26 fun d => blankOf t r s p d && t.kd.after d c
 exact any26_congr fun d hd => by rw [has_str hd]
theorem can_base {t : Typ} (ht : t.sets = true) (r : List Rng) (s p : Nat) : (bothL (str (blankOf t r s p)) (bl t.base)).isEmpty = !(any26 fun c => blankOf t r s p c && t.kd.base c) := by
 rw [both_some (set_str _) (Typ.sets_iff.1 ht).2.1]
 congr 1
 exact any26_congr fun d hd => by rw [has_str hd]; rfl
structure LsSt (t : Typ) (r : List Rng) (s : Nat) (w1 : World) (v : Value) (p : Nat) (W : World) : Prop where
 o : W.ownsRow w1.heap.size 9 1 v p (blankTo t r s p)
 b : Below w1.heap.size w1 W
theorem LsSt.below {t : Typ} {r : List Rng} {s : Nat} {w1 : World} {v : Value} {p : Nat} {W W' : World} (h : LsSt t r s w1 v p W) (hb : Below W.heap.size W W') : LsSt t r s w1 v p W' :=
 ⟨ownsRow_keep h.o (Keep.of_below' (K := fun _ => True) hb) (fun _ _ => trivial), h.b.trans (hb.mono h.b.size)⟩
set_option maxRecDepth 100000 in
set_option maxHeartbeats 8000000 in
theorem leastR_any (t : Typ) (hsm : SmlT t) (hts : t.sets = true) (h1 : 1 ≤ t.least) (hm : t.most = (t.m : Int)) (hm12 : t.m ≤ 12) (ra : Option Addr) (rc : Nat) (r : List Rng) (hg : RgOk r) (s : Nat) (hs : s < shiftsOf t r) (hs1 : s ≤ 1000) (w : World) (hR : RngsAt w ra r) :
  Calls Tryz.prog 108 #[.agg (typCells t), .slice ra r.length rc, .int .i64 (s : Int)] w fun e w' => ∃ sa sc, e = .returned (.tuple #[.slice sa t.m sc, .bool (blankOk t r s)]) ∧ RowOwn w.heap.size w' sa ((blankSets t r s).map strV) ∧ t.m ≤ sc ∧ Below w.heap.size w w' := by
 obtain ⟨w1, hw1⟩ : ∃ w1, w.alloc (.cells (typCells t) 71) = w1 := ⟨_, rfl⟩
 have b0 : TypAt w1 w.heap.size 0 t := by rw [← hw1]; exact Box.typ (Box.new _ _ _)
 have hB : Below w.heap.size w w1 := by rw [← hw1]; go_grown
 have HX := Lib.hid b0
 have HR := Lib.hid (hR.below hB)
 have HB := Lib.hid hB
 have HW := Lib.hid hw1
 have HSM := Lib.hid hsm
 have HTS := Lib.hid hts
 have H1 := Lib.hid h1
 have HG := Lib.hid hg
 have HKS := Lib.hid hs
 have HM := Lib.hid hm
 have ST := Lib.hid (show LsSt t r s w1 (.slice none 0 0) 0 w1 from ⟨ownsRow_nil _ _ _ _, Below.refl _ _⟩)
 have HRIM := Lib.hid (show t.rim = mkB (str (nowT t r s 0)) by
  show _ = mkB (str (hasC (bl t.rim)))
  rw [str_has (Typ.sets_iff.1 hts).1, mkB_bl])
 have c4 := b0.fields.2.2.2.2.1
 simp only [Nat.zero_add] at c4
 clear b0 hB hw1 hsm hts h1 hg hs hR hm
 go_enter Tryz.func108, Tryz.ntmps108
 go_upto_region 1 with fail
 simp only [HW.out]
 go_wp2_with fail
 clear c4
 go_loopw [8, 9, 10, 11, 12, 13, 14, 15] (fun ov kv nv pv _ _ _ _ wr => ∃ p : Nat, p ≤ t.m ∧ pv = .int .i64 p ∧ kv = .bool (okTo4 t r s p) ∧ nv = .string (mkB (str (nowT t r s p))) ∧ LsSt t r s w1 ov p wr) (fun _ _ _ pv _ _ _ _ _ => t.m - (intOf pv).toNat)
 case atStart => exact ⟨0, Nat.zero_le _, rfl, rfl, by rw [HRIM.out], ST.out⟩
 case round =>
  clear ST HW HRIM
  obtain ⟨p, hp, rfl, rfl, rfl, st⟩ := hrel
  have ST := Lib.hid st
  have c3 := (HX.out.below st.b).fields.2.2.2.1
  simp only [Nat.zero_add, HM.out] at c3
  obtain ⟨kb, hkb⟩ : ∃ kb, okTo4 t r s p = kb := ⟨_, rfl⟩
  rw [hkb]
  have HKB := Lib.hid hkb
  clear st hkb
  by_cases hlt : p < t.m
  rotate_left
  ·have hpn : decide ((p : Int) < (t.m : Int)) = false := by simp; omega
   have hpn2 : decide (p < t.m) = false := decide_eq_false hlt
   have HPE := Lib.hid (show p = t.m by omega)
   obtain ⟨a', c', hv, hro, hcap⟩ := ownsRow_own ST.out.o
   have HV := Lib.hid hv
   have HRO := Lib.hid hro
   have HCP := Lib.hid hcap
   clear hv hro hcap
   go_wp2_with fail
   refine bodyPost_ret (results_tmp_tmp4 rfl) rfl ⟨a', c', ?_, ?_, ?_, ?_⟩
   ·have h1 := HKB.out
    rw [HPE.out, okTo4_all] at h1
    have h2 := HV.out
    rw [HPE.out] at h2
    rw [h1, ← h2]; rfl
   ·have h1 := HRO.out
    rw [HPE.out, blankTo_all] at h1
    exact h1.less (by have := HB.out.size; omega)
   ·have := HCP.out; have := HPE.out; omega
   ·exact HB.out.trans (ST.out.b.mono HB.out.size)
  have hpi : (p : Int) < (t.m : Int) := by omega
  have hpi2 : decide (p < t.m) = true := decide_eq_true hlt
  have hp0 : (0 : Int) ≤ (p : Int) := by omega
  have hpw : IntKind.i64.wrap ((p : Int) + 1) = (p : Int) + 1 := IntWalk.i64_in _ (by omega)
  have HRG := Lib.hid (ringR_any ra rc r s p hs1 HG.out wr (HR.out.below ST.out.b))
  have hnz : (mkB (str (nowT t r s p))).size ≤ 1000 := by rw [mkB_size]; have := str_len (nowT t r s p); omega
  have hgz : (ringS r s p).size ≤ 26 := by have := set_len (ringS_set HG.out.set s p); rwa [bl_len] at this
  have hbo := both_any (mkB (str (nowT t r s p))) (ringS r s p) (by omega) (by omega) wr
  rw [bl_mkB, both_blank HG.out.set s p] at hbo
  have HBO := Lib.hid hbo
  clear hbo hgz hnz
  go_wp2_with (refine HRG.out.mono ?_)
  rintro e w2 ⟨rfl, rfl⟩
  clear c3 HRG
  go_wp2_with (refine HBO.out.mono ?_)
  rintro e wr ⟨rfl, rfl⟩
  clear HBO
  obtain ⟨B, hB⟩ : ∃ B, mkB (str (blankOf t r s p)) = B := ⟨_, rfl⟩
  have hbz : B.size ≤ 1000 := by rw [← hB, mkB_size]; have := str_len (blankOf t r s p); omega
  have HBB := Lib.hid (show bl B = str (blankOf t r s p) by rw [← hB, bl_mkB])
  have HBV := Lib.hid (show strV (str (blankOf t r s p)) = .string B from congrArg Value.string hB)
  simp only [hB]
  clear hB
  have hsz := ST.out.b.size
  have hbs := run_bslice (P := Tryz.prog) (T := 85) Tryz.underlying85 info_str2 (by omega) (by omega) (v := .string B) (g := fun _ => .string B) rfl wr
  obtain ⟨v', U, hrun, hown, hbU, -, -⟩ := app_fn (P := Tryz.prog) (TT := 85) Tryz.underlying85 info_str rfl (by omega) (by omega) ST.out.o (by omega) hsz (fun _ => .string B) (fun j _ => rfl)
  obtain ⟨a', c', rfl, -, -⟩ := ownsRow_own hown
  have HBS := Lib.hid hbs
  have HRUN := Lib.hid hrun
  have SU := Lib.hid (show LsSt t r s w1 (.slice a' (p + 1) c') (p + 1) U from ⟨by rw [blankTo_succ, HBV.out]; exact hown, ST.out.b.trans hbU⟩)
  clear hbs hrun hown hbU hsz ST
  go_upto_region 9 with (first
   | (apply wpList_bsl (T := 85) (n := 1) (hr := HBS.out); (· rfl); (· (simp only [List.map_toArray, List.map_cons, List.map_nil]; rfl)))
   | (at_builtin; refine wpList_app rfl _ _ _ rfl rfl rfl HRUN.out ?_))
  clear HBS HRUN
  have HL := Lib.hid (TypAt.load (HX.out.below SU.out.b))
  have hwh := wholeR_any t ra rc r s (p + 1) hs1 HG.out U (HR.out.below SU.out.b)
  rw [show ((p + 1 : Nat) : Int) = (p : Int) + 1 by omega] at hwh
  have HWH := Lib.hid hwh
  have HOE := Lib.hid (show okTo4 t r s (p + 1) = (kb && !(wholeB t r s (p + 1) && any26 fun c => blankOf t r s p c && t.kd.base c)) by
   rw [okTo4_succ, HKB.out, whole_eq H1.out HKS.out, show decide (((p + 1 : Nat) : Int) ≤ t.most) = true from decide_eq_true (by rw [HM.out]; omega), Bool.and_true]; rfl)
  clear hwh
  go_wp2_with (refine wpList_load_box rfl 71 _ rfl rfl HL.out ?_)
  refine HWH.out.mono ?_
  rintro e w5 ⟨rfl, hb5⟩
  have ST := Lib.hid (SU.out.below hb5)
  clear hb5 SU HWH HL
  rcases h3 : wholeB t r s (p + 1) with _ | _
  ·rw [h3, Bool.false_and, Bool.not_false, Bool.and_true] at HOE
   have HOK := HOE
   clear HOE h3 HKB
   go_wp2_with fail
   go_loopw [12, 13, 14, 15] (fun xv cv _ _ wr => ∃ c : Nat, c ≤ 26 ∧ cv = .int .u8 (97 + (c : Int)) ∧ xv = .string (mkB (strTo (nowT t r s (p + 1)) c)) ∧ LsSt t r s w1 (.slice a' (p + 1) c') (p + 1) wr) (fun _ cv _ _ _ => 123 - (intOf cv).toNat)
   case atStart => exact ⟨0, by omega, rfl, rfl, ST.out⟩
   case round =>
    clear ST
    obtain ⟨c, hc, rfl, rfl, st⟩ := hrel
    have ST := Lib.hid st
    clear st
    by_cases hc26 : c < 26
    rotate_left
    ·have hcn : decide ((97 : Int) + (c : Int) ≤ 122) = false := by simp; omega
     have HNV := Lib.hid (show mkB (strTo (nowT t r s (p + 1)) c) = mkB (str (nowT t r s (p + 1))) by rw [show c = 26 by omega]; rfl)
     go_wp2_with fail
     go_roundw
     case rel => exact ⟨p + 1, by omega, by go_num, by rw [HOK.out], by rw [HNV.out], ST.out⟩
     case measure => simp [intOf]; omega
    have hci : (97 : Int) + (c : Int) ≤ 122 := by omega
    have hcw : IntKind.u8.wrap ((97 : Int) + (c : Int) + 1) = (97 : Int) + ((c + 1 : Nat) : Int) := by
     show ((97 : Int) + (c : Int) + 1) % 256 = _; omega
    have hch : ((chC c).toNat : Int) = 97 + (c : Int) := by rw [chC_nat hc26]; omega
    have HCO := Lib.hid (comesN_eq HTS.out r s p hc26)
    have HCH := Lib.hid hch
    have HSU := Lib.hid (strTo_succ (nowT t r s (p + 1)) c)
    clear hch
    go_wp2_with fail
    go_loopw [14, 15] (fun lv qv wr => ∃ q : Nat, q ≤ B.size ∧ qv = .int .i64 q ∧ lv = .bool (((str (blankOf t r s p)).take q).any fun x => inL (bl (aftS t x)) (chC c)) ∧ LsSt t r s w1 (.slice a' (p + 1) c') (p + 1) wr) (fun _ qv _ => B.size - (intOf qv).toNat)
    case atStart => exact ⟨0, by omega, rfl, rfl, ST.out⟩
    case round =>
     clear ST
     obtain ⟨q, hq, rfl, rfl, st⟩ := hrel
     have ST := Lib.hid st
     clear st
     obtain ⟨cv, hlv⟩ : ∃ lv, (((str (blankOf t r s p)).take q).any fun x => inL (bl (aftS t x)) (chC c)) = lv := ⟨_, rfl⟩
     rw [hlv]
     have HLV := Lib.hid hlv
     clear hlv
     by_cases hql : q < B.size
     ·obtain ⟨z, hz⟩ : ∃ z, B[q] = z := ⟨_, rfl⟩
      have hbz : (str (blankOf t r s p))[q]? = some z := by rw [← HBB.out, bl_at _ hql, hz]
      have HT := Lib.hid (any_take (fun x => inL (bl (aftS t x)) (chC c)) hbz)
      have hqi : (q : Int) < (B.size : Int) := by omega
      have hq0 : (0 : Int) ≤ (q : Int) := by omega
      have HAF := Lib.hid (fun W => afterR_any t z W)
      have hasz : (aftS t z).size ≤ 1000000 := by
       unfold aftS
       split
       ·have := HSM.out.after (z.toNat - 97) (by omega); omega
       ·exact Nat.zero_le _
      have HIN := Lib.hid (fun W => inR_any (aftS t z) (chC c) hasz W)
      rw [HCH.out] at HIN
      clear hbz hasz
      rcases cv with _ | _
      ·go_wp2_with fail
       refine wp_region_heldB 10 [] (by kernel_rfl) (by kernel_rfl) (by kernel_rfl) (by simp) ?_
       intro S' hS
       have K0 := trivial
       have L1 := Lib.hid (fun A hA => TypAt.load ((HX.out.below ST.out.b).below (hS A hA)))
       have HS := Lib.hid hS
       clear hS
       simp only [List.take_succ_cons, List.take_zero, List.drop_succ_cons, List.drop_zero]
       repeat (first
        | (refine held_load 71 _ (by rfl) rfl rfl L1.out ?_; try (dsimp only); try simp only [Act.put, List.setIfInBounds_toArray, List.set_cons_zero, List.set_cons_succ])
        | (refine held_not rfl (by rfl) ?_; try (dsimp only); try simp only [Act.put, List.setIfInBounds_toArray, List.set_cons_zero, List.set_cons_succ])
        | (refine held_val (v := ?_) rfl (by rfl) ?_ ?_; rotate_left; (· (intro W hW; go_simp; try with_reducible rfl)); try (dsimp only); try simp only [Act.put, List.setIfInBounds_toArray, List.set_cons_zero, List.set_cons_succ])
        | (refine held_skip rfl (by rfl) ?_ ?_; (· (intro W hW; go_simp; try with_reducible rfl)); try (dsimp only); try simp only [Act.put, List.setIfInBounds_toArray, List.set_cons_zero, List.set_cons_succ])
        | (refine held_call (v := .string (aftS t z)) (f := 85) (args := #[.agg (typCells t), .int .u8 z.toNat]) rfl (by rfl) ?_ ?_ ?_; (· (intro W hW; go_simp; done)); (· exact (fun W hW => HAF.out W)); try (dsimp only); try simp only [Act.put, List.setIfInBounds_toArray, List.set_cons_zero, List.set_cons_succ])
        | (refine held_call (v := .bool (inL (bl (aftS t z)) (chC c))) (f := 37) (args := #[.string (aftS t z), .int .u8 (97 + (c : Int))]) rfl (by rfl) ?_ ?_ ?_; (· (intro W hW; go_simp; done)); (· exact (fun W hW => (HIN.out W).mono fun e w' h => ⟨h.1, h.2 ▸ Below.refl _ _⟩)); try (dsimp only); try simp only [Act.put, List.setIfInBounds_toArray, List.set_cons_zero, List.set_cons_succ]))
       refine held_nil ?_
       intro τ hτ W2 hW hO
       obtain rfl := laid0 hτ
       have ST2 := Lib.hid (ST.out.below (HS.out W2 hW))
       clear hτ hO hW K0 HS L1 ST
       simp only [overs, List.foldl_nil]
       go_wp2_with fail
       go_roundw
       case rel => exact ⟨q + 1, by omega, by go_num, by rw [HT.out, HLV.out]; rfl, ST2.out⟩
       case measure => simp [intOf]; omega
      ·go_wp2_with fail
       refine wp_region_heldB 10 [] (by kernel_rfl) (by kernel_rfl) (by kernel_rfl) (by simp) ?_
       intro S' hS
       have K0 := trivial
       have HS := Lib.hid hS
       clear hS
       simp only [List.take_succ_cons, List.take_zero, List.drop_succ_cons, List.drop_zero]
       repeat (first
        | (refine held_not rfl (by rfl) ?_; try (dsimp only); try simp only [Act.put, List.setIfInBounds_toArray, List.set_cons_zero, List.set_cons_succ])
        | (refine held_val (v := ?_) rfl (by rfl) ?_ ?_; rotate_left; (· (intro W hW; go_simp; try with_reducible rfl)); try (dsimp only); try simp only [Act.put, List.setIfInBounds_toArray, List.set_cons_zero, List.set_cons_succ])
        | (refine held_skip rfl (by rfl) ?_ ?_; (· (intro W hW; go_simp; try with_reducible rfl)); try (dsimp only); try simp only [Act.put, List.setIfInBounds_toArray, List.set_cons_zero, List.set_cons_succ]))
       refine held_nil ?_
       intro τ hτ W2 hW hO
       obtain rfl := laid0 hτ
       have ST2 := Lib.hid (ST.out.below (HS.out W2 hW))
       clear hτ hO hW K0 HS ST
       simp only [overs, List.foldl_nil]
       go_wp2_with fail
       go_roundw
       case rel => exact ⟨q + 1, by omega, by go_num, by rw [HT.out, HLV.out]; rfl, ST2.out⟩
       case measure => simp [intOf]; omega
     ·have hqn : decide ((q : Int) < (B.size : Int)) = false := by simp; omega
      have HCV := Lib.hid (show nowT t r s (p + 1) c = cv by rw [← HCO.out, ← HLV.out, List.take_of_length_le (by rw [← HBB.out, bl_len]; omega)])
      clear HLV HCO
      rcases cv with _ | _
      ·have HN := Lib.hid (show strTo (nowT t r s (p + 1)) (c + 1) = strTo (nowT t r s (p + 1)) c by rw [HSU.out, HCV.out]; simp)
       go_wp2_with fail
       go_roundw
       case rel => exact ⟨c + 1, by omega, by go_num, by rw [HN.out], ST.out⟩
       case measure => simp [intOf]; omega
      ·have HN := Lib.hid (show mkB (strTo (nowT t r s (p + 1)) (c + 1)) = mkB (strTo (nowT t r s (p + 1)) c) ++ mkB [chC c] by rw [HSU.out, HCV.out, mkB_app]; rfl)
       have hzs : (mkB (strTo (nowT t r s (p + 1)) c)).size ≤ 1000 := by rw [mkB_size]; have := strTo_len (nowT t r s (p + 1)) c; omega
       have hr5 := Lib.hid (run_byte (97 + (c : Int)) wr)
       have hC := run_conv1 wr (chC c) (97 + (c : Int)) HCH.out.symm
       have ST2 := Lib.hid (ST.out.below (show Below wr.heap.size wr (wr.alloc (.cells #[.int .u8 (97 + (c : Int))] 5)) from by go_grown))
       have h1s : (mkB [chC c]).size = 1 := by rw [mkB_size]; rfl
       go_wp2_with (first
        | (apply wpList_bsl (T := 98) (n := 1) (hr := hr5.out); (· rfl); (· (simp only [List.map_toArray, List.map_cons, List.map_nil]; rfl)))
        | (refine wpList_cat rfl _ _ _ rfl rfl rfl (by rw [h1s]; omega) ?_))
       go_roundw
       case rel => exact ⟨c + 1, by omega, by go_num, by rw [HN.out], ST2.out⟩
       case measure => simp [intOf]; omega
  ·obtain ⟨can, hcan⟩ : ∃ can, mkB (bothL (str (blankOf t r s p)) (bl t.base)) = can := ⟨_, rfl⟩
   have hce : can.toList.isEmpty = !(any26 fun c => blankOf t r s p c && t.kd.base c) := by
    rw [ByteArray.toList_eq, ← hcan]
    show (bl (mkB _)).isEmpty = _
    rw [bl_mkB]
    exact can_base HTS.out r s p
   have hbt := both_any B t.base (by omega) (by have := HSM.out.base; omega) w5
   rw [HBB.out, hcan] at hbt
   have HBT := Lib.hid hbt
   have c5 := (HX.out.below ST.out.b).fields.2.2.2.2.2
   simp only [Nat.zero_add] at c5
   clear hbt hcan
   rw [h3, Bool.true_and] at HOE
   rcases h4 : any26 (fun c => blankOf t r s p c && t.kd.base c) with _ | _
   ·rw [h4] at HOE hce
    have hce' : can.toList.isEmpty = true := hce
    rw [Bool.not_false, Bool.and_true] at HOE
    have HOK := HOE
    clear HOE h3 h4 hce HKB
    go_wp2_with (refine HBT.out.mono ?_)
    rintro e w6 ⟨rfl, rfl⟩
    clear c5 HBT
    go_wp2_with fail
    go_loopw [12, 13, 14, 15] (fun xv cv _ _ wr => ∃ c : Nat, c ≤ 26 ∧ cv = .int .u8 (97 + (c : Int)) ∧ xv = .string (mkB (strTo (nowT t r s (p + 1)) c)) ∧ LsSt t r s w1 (.slice a' (p + 1) c') (p + 1) wr) (fun _ cv _ _ _ => 123 - (intOf cv).toNat)
    case atStart => exact ⟨0, by omega, rfl, rfl, ST.out⟩
    case round =>
     clear ST
     obtain ⟨c, hc, rfl, rfl, st⟩ := hrel
     have ST := Lib.hid st
     clear st
     by_cases hc26 : c < 26
     rotate_left
     ·have hcn : decide ((97 : Int) + (c : Int) ≤ 122) = false := by simp; omega
      have HNV := Lib.hid (show mkB (strTo (nowT t r s (p + 1)) c) = mkB (str (nowT t r s (p + 1))) by rw [show c = 26 by omega]; rfl)
      go_wp2_with fail
      go_roundw
      case rel => exact ⟨p + 1, by omega, by go_num, by rw [HOK.out], by rw [HNV.out], ST.out⟩
      case measure => simp [intOf]; omega
     have hci : (97 : Int) + (c : Int) ≤ 122 := by omega
     have hcw : IntKind.u8.wrap ((97 : Int) + (c : Int) + 1) = (97 : Int) + ((c + 1 : Nat) : Int) := by
      show ((97 : Int) + (c : Int) + 1) % 256 = _; omega
     have hch : ((chC c).toNat : Int) = 97 + (c : Int) := by rw [chC_nat hc26]; omega
     have HCO := Lib.hid (comesN_eq HTS.out r s p hc26)
     have HCH := Lib.hid hch
     have HSU := Lib.hid (strTo_succ (nowT t r s (p + 1)) c)
     clear hch
     go_wp2_with fail
     go_loopw [14, 15] (fun lv qv wr => ∃ q : Nat, q ≤ B.size ∧ qv = .int .i64 q ∧ lv = .bool (((str (blankOf t r s p)).take q).any fun x => inL (bl (aftS t x)) (chC c)) ∧ LsSt t r s w1 (.slice a' (p + 1) c') (p + 1) wr) (fun _ qv _ => B.size - (intOf qv).toNat)
     case atStart => exact ⟨0, by omega, rfl, rfl, ST.out⟩
     case round =>
      clear ST
      obtain ⟨q, hq, rfl, rfl, st⟩ := hrel
      have ST := Lib.hid st
      clear st
      obtain ⟨cv, hlv⟩ : ∃ lv, (((str (blankOf t r s p)).take q).any fun x => inL (bl (aftS t x)) (chC c)) = lv := ⟨_, rfl⟩
      rw [hlv]
      have HLV := Lib.hid hlv
      clear hlv
      by_cases hql : q < B.size
      ·obtain ⟨z, hz⟩ : ∃ z, B[q] = z := ⟨_, rfl⟩
       have hbz : (str (blankOf t r s p))[q]? = some z := by rw [← HBB.out, bl_at _ hql, hz]
       have HT := Lib.hid (any_take (fun x => inL (bl (aftS t x)) (chC c)) hbz)
       have hqi : (q : Int) < (B.size : Int) := by omega
       have hq0 : (0 : Int) ≤ (q : Int) := by omega
       have HAF := Lib.hid (fun W => afterR_any t z W)
       have hasz : (aftS t z).size ≤ 1000000 := by
        unfold aftS
        split
        ·have := HSM.out.after (z.toNat - 97) (by omega); omega
        ·exact Nat.zero_le _
       have HIN := Lib.hid (fun W => inR_any (aftS t z) (chC c) hasz W)
       rw [HCH.out] at HIN
       clear hbz hasz
       rcases cv with _ | _
       ·go_wp2_with fail
        refine wp_region_heldB 10 [] (by kernel_rfl) (by kernel_rfl) (by kernel_rfl) (by simp) ?_
        intro S' hS
        have K0 := trivial
        have L1 := Lib.hid (fun A hA => TypAt.load ((HX.out.below ST.out.b).below (hS A hA)))
        have HS := Lib.hid hS
        clear hS
        simp only [List.take_succ_cons, List.take_zero, List.drop_succ_cons, List.drop_zero]
        repeat (first
         | (refine held_load 71 _ (by rfl) rfl rfl L1.out ?_; try (dsimp only); try simp only [Act.put, List.setIfInBounds_toArray, List.set_cons_zero, List.set_cons_succ])
         | (refine held_not rfl (by rfl) ?_; try (dsimp only); try simp only [Act.put, List.setIfInBounds_toArray, List.set_cons_zero, List.set_cons_succ])
         | (refine held_val (v := ?_) rfl (by rfl) ?_ ?_; rotate_left; (· (intro W hW; go_simp; try with_reducible rfl)); try (dsimp only); try simp only [Act.put, List.setIfInBounds_toArray, List.set_cons_zero, List.set_cons_succ])
         | (refine held_skip rfl (by rfl) ?_ ?_; (· (intro W hW; go_simp; try with_reducible rfl)); try (dsimp only); try simp only [Act.put, List.setIfInBounds_toArray, List.set_cons_zero, List.set_cons_succ])
         | (refine held_call (v := .string (aftS t z)) (f := 85) (args := #[.agg (typCells t), .int .u8 z.toNat]) rfl (by rfl) ?_ ?_ ?_; (· (intro W hW; go_simp; done)); (· exact (fun W hW => HAF.out W)); try (dsimp only); try simp only [Act.put, List.setIfInBounds_toArray, List.set_cons_zero, List.set_cons_succ])
         | (refine held_call (v := .bool (inL (bl (aftS t z)) (chC c))) (f := 37) (args := #[.string (aftS t z), .int .u8 (97 + (c : Int))]) rfl (by rfl) ?_ ?_ ?_; (· (intro W hW; go_simp; done)); (· exact (fun W hW => (HIN.out W).mono fun e w' h => ⟨h.1, h.2 ▸ Below.refl _ _⟩)); try (dsimp only); try simp only [Act.put, List.setIfInBounds_toArray, List.set_cons_zero, List.set_cons_succ]))
        refine held_nil ?_
        intro τ hτ W2 hW hO
        obtain rfl := laid0 hτ
        have ST2 := Lib.hid (ST.out.below (HS.out W2 hW))
        clear hτ hO hW K0 HS L1 ST
        simp only [overs, List.foldl_nil]
        go_wp2_with fail
        go_roundw
        case rel => exact ⟨q + 1, by omega, by go_num, by rw [HT.out, HLV.out]; rfl, ST2.out⟩
        case measure => simp [intOf]; omega
       ·go_wp2_with fail
        refine wp_region_heldB 10 [] (by kernel_rfl) (by kernel_rfl) (by kernel_rfl) (by simp) ?_
        intro S' hS
        have K0 := trivial
        have HS := Lib.hid hS
        clear hS
        simp only [List.take_succ_cons, List.take_zero, List.drop_succ_cons, List.drop_zero]
        repeat (first
         | (refine held_not rfl (by rfl) ?_; try (dsimp only); try simp only [Act.put, List.setIfInBounds_toArray, List.set_cons_zero, List.set_cons_succ])
         | (refine held_val (v := ?_) rfl (by rfl) ?_ ?_; rotate_left; (· (intro W hW; go_simp; try with_reducible rfl)); try (dsimp only); try simp only [Act.put, List.setIfInBounds_toArray, List.set_cons_zero, List.set_cons_succ])
         | (refine held_skip rfl (by rfl) ?_ ?_; (· (intro W hW; go_simp; try with_reducible rfl)); try (dsimp only); try simp only [Act.put, List.setIfInBounds_toArray, List.set_cons_zero, List.set_cons_succ]))
        refine held_nil ?_
        intro τ hτ W2 hW hO
        obtain rfl := laid0 hτ
        have ST2 := Lib.hid (ST.out.below (HS.out W2 hW))
        clear hτ hO hW K0 HS ST
        simp only [overs, List.foldl_nil]
        go_wp2_with fail
        go_roundw
        case rel => exact ⟨q + 1, by omega, by go_num, by rw [HT.out, HLV.out]; rfl, ST2.out⟩
        case measure => simp [intOf]; omega
      ·have hqn : decide ((q : Int) < (B.size : Int)) = false := by simp; omega
       have HCV := Lib.hid (show nowT t r s (p + 1) c = cv by rw [← HCO.out, ← HLV.out, List.take_of_length_le (by rw [← HBB.out, bl_len]; omega)])
       clear HLV HCO
       rcases cv with _ | _
       ·have HN := Lib.hid (show strTo (nowT t r s (p + 1)) (c + 1) = strTo (nowT t r s (p + 1)) c by rw [HSU.out, HCV.out]; simp)
        go_wp2_with fail
        go_roundw
        case rel => exact ⟨c + 1, by omega, by go_num, by rw [HN.out], ST.out⟩
        case measure => simp [intOf]; omega
       ·have HN := Lib.hid (show mkB (strTo (nowT t r s (p + 1)) (c + 1)) = mkB (strTo (nowT t r s (p + 1)) c) ++ mkB [chC c] by rw [HSU.out, HCV.out, mkB_app]; rfl)
        have hzs : (mkB (strTo (nowT t r s (p + 1)) c)).size ≤ 1000 := by rw [mkB_size]; have := strTo_len (nowT t r s (p + 1)) c; omega
        have hr5 := Lib.hid (run_byte (97 + (c : Int)) wr)
        have hC := run_conv1 wr (chC c) (97 + (c : Int)) HCH.out.symm
        have ST2 := Lib.hid (ST.out.below (show Below wr.heap.size wr (wr.alloc (.cells #[.int .u8 (97 + (c : Int))] 5)) from by go_grown))
        have h1s : (mkB [chC c]).size = 1 := by rw [mkB_size]; rfl
        go_wp2_with (first
         | (apply wpList_bsl (T := 98) (n := 1) (hr := hr5.out); (· rfl); (· (simp only [List.map_toArray, List.map_cons, List.map_nil]; rfl)))
         | (refine wpList_cat rfl _ _ _ rfl rfl rfl (by rw [h1s]; omega) ?_))
        go_roundw
        case rel => exact ⟨c + 1, by omega, by go_num, by rw [HN.out], ST2.out⟩
        case measure => simp [intOf]; omega
   ·rw [h4] at HOE hce
    have hce' : can.toList.isEmpty = false := hce
    rw [Bool.not_true, Bool.and_false] at HOE
    have HOK := HOE
    clear HOE h3 h4 hce HKB
    go_wp2_with (refine HBT.out.mono ?_)
    rintro e w6 ⟨rfl, rfl⟩
    clear c5 HBT
    go_wp2_with fail
    go_loopw [12, 13, 14, 15] (fun xv cv _ _ wr => ∃ c : Nat, c ≤ 26 ∧ cv = .int .u8 (97 + (c : Int)) ∧ xv = .string (mkB (strTo (nowT t r s (p + 1)) c)) ∧ LsSt t r s w1 (.slice a' (p + 1) c') (p + 1) wr) (fun _ cv _ _ _ => 123 - (intOf cv).toNat)
    case atStart => exact ⟨0, by omega, rfl, rfl, ST.out⟩
    case round =>
     clear ST
     obtain ⟨c, hc, rfl, rfl, st⟩ := hrel
     have ST := Lib.hid st
     clear st
     by_cases hc26 : c < 26
     rotate_left
     ·have hcn : decide ((97 : Int) + (c : Int) ≤ 122) = false := by simp; omega
      have HNV := Lib.hid (show mkB (strTo (nowT t r s (p + 1)) c) = mkB (str (nowT t r s (p + 1))) by rw [show c = 26 by omega]; rfl)
      go_wp2_with fail
      go_roundw
      case rel => exact ⟨p + 1, by omega, by go_num, by rw [HOK.out], by rw [HNV.out], ST.out⟩
      case measure => simp [intOf]; omega
     have hci : (97 : Int) + (c : Int) ≤ 122 := by omega
     have hcw : IntKind.u8.wrap ((97 : Int) + (c : Int) + 1) = (97 : Int) + ((c + 1 : Nat) : Int) := by
      show ((97 : Int) + (c : Int) + 1) % 256 = _; omega
     have hch : ((chC c).toNat : Int) = 97 + (c : Int) := by rw [chC_nat hc26]; omega
     have HCO := Lib.hid (comesN_eq HTS.out r s p hc26)
     have HCH := Lib.hid hch
     have HSU := Lib.hid (strTo_succ (nowT t r s (p + 1)) c)
     clear hch
     go_wp2_with fail
     go_loopw [14, 15] (fun lv qv wr => ∃ q : Nat, q ≤ B.size ∧ qv = .int .i64 q ∧ lv = .bool (((str (blankOf t r s p)).take q).any fun x => inL (bl (aftS t x)) (chC c)) ∧ LsSt t r s w1 (.slice a' (p + 1) c') (p + 1) wr) (fun _ qv _ => B.size - (intOf qv).toNat)
     case atStart => exact ⟨0, by omega, rfl, rfl, ST.out⟩
     case round =>
      clear ST
      obtain ⟨q, hq, rfl, rfl, st⟩ := hrel
      have ST := Lib.hid st
      clear st
      obtain ⟨cv, hlv⟩ : ∃ lv, (((str (blankOf t r s p)).take q).any fun x => inL (bl (aftS t x)) (chC c)) = lv := ⟨_, rfl⟩
      rw [hlv]
      have HLV := Lib.hid hlv
      clear hlv
      by_cases hql : q < B.size
      ·obtain ⟨z, hz⟩ : ∃ z, B[q] = z := ⟨_, rfl⟩
       have hbz : (str (blankOf t r s p))[q]? = some z := by rw [← HBB.out, bl_at _ hql, hz]
       have HT := Lib.hid (any_take (fun x => inL (bl (aftS t x)) (chC c)) hbz)
       have hqi : (q : Int) < (B.size : Int) := by omega
       have hq0 : (0 : Int) ≤ (q : Int) := by omega
       have HAF := Lib.hid (fun W => afterR_any t z W)
       have hasz : (aftS t z).size ≤ 1000000 := by
        unfold aftS
        split
        ·have := HSM.out.after (z.toNat - 97) (by omega); omega
        ·exact Nat.zero_le _
       have HIN := Lib.hid (fun W => inR_any (aftS t z) (chC c) hasz W)
       rw [HCH.out] at HIN
       clear hbz hasz
       rcases cv with _ | _
       ·go_wp2_with fail
        refine wp_region_heldB 10 [] (by kernel_rfl) (by kernel_rfl) (by kernel_rfl) (by simp) ?_
        intro S' hS
        have K0 := trivial
        have L1 := Lib.hid (fun A hA => TypAt.load ((HX.out.below ST.out.b).below (hS A hA)))
        have HS := Lib.hid hS
        clear hS
        simp only [List.take_succ_cons, List.take_zero, List.drop_succ_cons, List.drop_zero]
        repeat (first
         | (refine held_load 71 _ (by rfl) rfl rfl L1.out ?_; try (dsimp only); try simp only [Act.put, List.setIfInBounds_toArray, List.set_cons_zero, List.set_cons_succ])
         | (refine held_not rfl (by rfl) ?_; try (dsimp only); try simp only [Act.put, List.setIfInBounds_toArray, List.set_cons_zero, List.set_cons_succ])
         | (refine held_val (v := ?_) rfl (by rfl) ?_ ?_; rotate_left; (· (intro W hW; go_simp; try with_reducible rfl)); try (dsimp only); try simp only [Act.put, List.setIfInBounds_toArray, List.set_cons_zero, List.set_cons_succ])
         | (refine held_skip rfl (by rfl) ?_ ?_; (· (intro W hW; go_simp; try with_reducible rfl)); try (dsimp only); try simp only [Act.put, List.setIfInBounds_toArray, List.set_cons_zero, List.set_cons_succ])
         | (refine held_call (v := .string (aftS t z)) (f := 85) (args := #[.agg (typCells t), .int .u8 z.toNat]) rfl (by rfl) ?_ ?_ ?_; (· (intro W hW; go_simp; done)); (· exact (fun W hW => HAF.out W)); try (dsimp only); try simp only [Act.put, List.setIfInBounds_toArray, List.set_cons_zero, List.set_cons_succ])
         | (refine held_call (v := .bool (inL (bl (aftS t z)) (chC c))) (f := 37) (args := #[.string (aftS t z), .int .u8 (97 + (c : Int))]) rfl (by rfl) ?_ ?_ ?_; (· (intro W hW; go_simp; done)); (· exact (fun W hW => (HIN.out W).mono fun e w' h => ⟨h.1, h.2 ▸ Below.refl _ _⟩)); try (dsimp only); try simp only [Act.put, List.setIfInBounds_toArray, List.set_cons_zero, List.set_cons_succ]))
        refine held_nil ?_
        intro τ hτ W2 hW hO
        obtain rfl := laid0 hτ
        have ST2 := Lib.hid (ST.out.below (HS.out W2 hW))
        clear hτ hO hW K0 HS L1 ST
        simp only [overs, List.foldl_nil]
        go_wp2_with fail
        go_roundw
        case rel => exact ⟨q + 1, by omega, by go_num, by rw [HT.out, HLV.out]; rfl, ST2.out⟩
        case measure => simp [intOf]; omega
       ·go_wp2_with fail
        refine wp_region_heldB 10 [] (by kernel_rfl) (by kernel_rfl) (by kernel_rfl) (by simp) ?_
        intro S' hS
        have K0 := trivial
        have HS := Lib.hid hS
        clear hS
        simp only [List.take_succ_cons, List.take_zero, List.drop_succ_cons, List.drop_zero]
        repeat (first
         | (refine held_not rfl (by rfl) ?_; try (dsimp only); try simp only [Act.put, List.setIfInBounds_toArray, List.set_cons_zero, List.set_cons_succ])
         | (refine held_val (v := ?_) rfl (by rfl) ?_ ?_; rotate_left; (· (intro W hW; go_simp; try with_reducible rfl)); try (dsimp only); try simp only [Act.put, List.setIfInBounds_toArray, List.set_cons_zero, List.set_cons_succ])
         | (refine held_skip rfl (by rfl) ?_ ?_; (· (intro W hW; go_simp; try with_reducible rfl)); try (dsimp only); try simp only [Act.put, List.setIfInBounds_toArray, List.set_cons_zero, List.set_cons_succ]))
        refine held_nil ?_
        intro τ hτ W2 hW hO
        obtain rfl := laid0 hτ
        have ST2 := Lib.hid (ST.out.below (HS.out W2 hW))
        clear hτ hO hW K0 HS ST
        simp only [overs, List.foldl_nil]
        go_wp2_with fail
        go_roundw
        case rel => exact ⟨q + 1, by omega, by go_num, by rw [HT.out, HLV.out]; rfl, ST2.out⟩
        case measure => simp [intOf]; omega
      ·have hqn : decide ((q : Int) < (B.size : Int)) = false := by simp; omega
       have HCV := Lib.hid (show nowT t r s (p + 1) c = cv by rw [← HCO.out, ← HLV.out, List.take_of_length_le (by rw [← HBB.out, bl_len]; omega)])
       clear HLV HCO
       rcases cv with _ | _
       ·have HN := Lib.hid (show strTo (nowT t r s (p + 1)) (c + 1) = strTo (nowT t r s (p + 1)) c by rw [HSU.out, HCV.out]; simp)
        go_wp2_with fail
        go_roundw
        case rel => exact ⟨c + 1, by omega, by go_num, by rw [HN.out], ST.out⟩
        case measure => simp [intOf]; omega
       ·have HN := Lib.hid (show mkB (strTo (nowT t r s (p + 1)) (c + 1)) = mkB (strTo (nowT t r s (p + 1)) c) ++ mkB [chC c] by rw [HSU.out, HCV.out, mkB_app]; rfl)
        have hzs : (mkB (strTo (nowT t r s (p + 1)) c)).size ≤ 1000 := by rw [mkB_size]; have := strTo_len (nowT t r s (p + 1)) c; omega
        have hr5 := Lib.hid (run_byte (97 + (c : Int)) wr)
        have hC := run_conv1 wr (chC c) (97 + (c : Int)) HCH.out.symm
        have ST2 := Lib.hid (ST.out.below (show Below wr.heap.size wr (wr.alloc (.cells #[.int .u8 (97 + (c : Int))] 5)) from by go_grown))
        have h1s : (mkB [chC c]).size = 1 := by rw [mkB_size]; rfl
        go_wp2_with (first
         | (apply wpList_bsl (T := 98) (n := 1) (hr := hr5.out); (· rfl); (· (simp only [List.map_toArray, List.map_cons, List.map_nil]; rfl)))
         | (refine wpList_cat rfl _ _ _ rfl rfl rfl (by rw [h1s]; omega) ?_))
        go_roundw
        case rel => exact ⟨c + 1, by omega, by go_num, by rw [HN.out], ST2.out⟩
        case measure => simp [intOf]; omega
end Go.Proofs.YthpjffhccjlnhaaGreatDoor
namespace Go.Proofs.YthpjffhccjlnhaaGreatDoor
open Go.RowKit
attribute [local go_sem] Oper.semAt_some

theorem run_build_blk3 (i s : Int) (a : Option Addr) (n c : Nat) (w : World) : (Instr.build 88 #[(0, .int .i64 i), (1, .int .i64 s), (2, .slice a n c)]).run Tryz.prog w = .ok (.agg (blkCells i s (.slice a n c))) w := by
 refine run_build w _ _ _ ?_
 rw [built_blk]
 unfold blkCells
 rw [fill_fn (off := 0) (m := 1) (g := fun _ => .int .i64 i) rfl rfl (by omega), fill_fn (off := 1) (m := 1) (g := fun _ => .int .i64 s) rfl rfl (by omega), fill_fn (off := 2) (m := 1) (g := fun _ => .slice a n c) rfl rfl (by omega)]
 refine congrArg some (fnCells_congr fun j hj => ?_)
 have h3 : j = 0 ∨ j = 1 ∨ j = 2 := by omega
 rcases h3 with rfl | rfl | rfl <;> rfl
/-- the tries up to a shift of a type -/
def preK (l : List Typ) (ware : ByteArray) (r : List Rng) (i k : Nat) : List (Nat × Nat) := triesTo l ware r i ++ (List.range k).map fun x => (i, x)
theorem preK_zero (l : List Typ) (ware : ByteArray) (r : List Rng) (i : Nat) : preK l ware r i 0 = triesTo l ware r i := by simp [preK]
theorem preK_succ (l : List Typ) (ware : ByteArray) (r : List Rng) (i k : Nat) : preK l ware r i (k + 1) = preK l ware r i k ++ [(i, k)] := by
 unfold preK
 rw [map_snoc, List.append_assoc]
theorem preK_mem {l : List Typ} {ware : ByteArray} {r : List Rng} {i k : Nat} {t : Typ} (ht : l[i]? = some t) (hw : t.ware = ware) (hk : k < shiftsOf t r) : (i, k) ∈ triesOf l ware r := mem_tries.2 ⟨t, ht, hw, hk⟩
/-- a row of blanks that grows -/
structure BlSt (l : List Typ) (r : List Rng) (w : World) (v : Value) (pre : List (Nat × Nat)) (W : World) : Prop where
 o : ∃ us, W.ownsRow w.heap.size 88 3 v (blanksOf l r pre).length us.flatten ∧ BlkRows w.heap.size (fun k => v.ownBlock = some k) W (blanksOf l r pre) us
 b : Below w.heap.size w W
theorem BlSt.below {l : List Typ} {r : List Rng} {w : World} {v : Value} {pre : List (Nat × Nat)} {W W' : World} (h : BlSt l r w v pre W) (hb : Below W.heap.size W W') : BlSt l r w v pre W' := by
 obtain ⟨us, h1, h2⟩ := h.o
 exact ⟨⟨us, ownsRow_keep h1 (Keep.of_below' (K := fun _ => True) hb) (fun _ _ => trivial), h2.keep (Keep.of_below' (K := fun _ => True) hb) (fun _ _ _ => trivial) (fun k hk => .inl hk)⟩, h.b.trans (hb.mono h.b.size)⟩
/-- one blank more -/
theorem BlSt.app {l : List Typ} {r : List Rng} {w : World} {v : Value} {pre : List (Nat × Nat)} {W W4 : World} {i k : Nat} {t : Typ} {sa : Option Addr} {sc : Nat} (h : BlSt l r w v pre W) (ht : l[i]? = some t) (hm1 : 1 ≤ t.m) (hlen : (blanksOf l r pre).length + 1 ≤ 1000000)
  (hb4 : Below W.heap.size W W4) (hro : RowOwn W.heap.size W4 sa ((blankSets t r k).map strV)) (hsc : t.m ≤ sc) :
  ∃ a' c' U, (Instr.buildSlice 72 1 #[(0, .agg (blkCells i k (.slice sa t.m sc)))]).run Tryz.prog W4 = .ok (.slice (some ⟨W4.heap.size, 0, none⟩) 1 1) (W4.alloc (.cells (blkCells i k (.slice sa t.m sc)) 88)) ∧
   (Builtin.append_ #[72, 72] 72 #[v, .slice (some ⟨W4.heap.size, 0, none⟩) 1 1]).run Tryz.prog (W4.alloc (.cells (blkCells i k (.slice sa t.m sc)) 88)) = .ok (.slice a' ((blanksOf l r pre).length + 1) c') U ∧ BlSt l r w (.slice a' ((blanksOf l r pre).length + 1) c') (pre ++ [(i, k)]) U := by
 obtain ⟨us, i2, i3⟩ := h.o
 have hW := h.b.size
 have hz4 : w.heap.size ≤ W4.heap.size := Nat.le_trans hW hb4.size
 have hbs := run_bslice (P := Tryz.prog) (T := 72) Tryz.underlying72 info_blk2 (by omega) (by omega) (v := .agg (blkCells i k (.slice sa t.m sc))) (g := blkF i k (.slice sa t.m sc)) rfl W4
 obtain ⟨v', U, hrun, hown, hbU, hkU, hoU⟩ := app_fn (P := Tryz.prog) (TT := 72) Tryz.underlying72 info_blk rfl (by omega) (by omega) (ownsRow_keep i2 (Keep.of_below' (K := fun _ => True) hb4) (fun _ _ => trivial)) hlen hz4 (blkF i k (.slice sa t.m sc)) (fun j _ => blkF_one _ _ rfl j)
 obtain ⟨a', c', rfl, -, -⟩ := ownsRow_own hown
 have hW4U := hkU.size
 have hkAll : Keep (fun j => ¬ v.ownBlock = some j) W U := (Keep.of_below' (K := fun j => ¬ v.ownBlock = some j) hb4).trans (hkU.mono fun j hj h => hj h)
 have hsl : 0 < ((blankSets t r k).map strV).length := by simp [blankSets]; exact hm1
 obtain ⟨gb, go_, rfl, hgb, hgc, -⟩ := hro 0 _ (List.getElem?_eq_getElem hsl)
 have hgl := lt_of_cell hgc
 have hrow : BlkRow w.heap.size (fun j => (Value.slice a' ((blanksOf l r pre).length + 1) c').ownBlock = some j) U (blankAt t i r k) [.int .i64 (i : Int), .int .i64 (k : Int), .slice (some ⟨gb, go_, none⟩) t.m sc] := by
  refine ⟨some ⟨gb, go_, none⟩, sc, by rw [blankAt_len]; rfl, by rw [blankAt_len]; exact hsc, ?_, fun ad had => ?_⟩
  ·rw [blankAt_strs]
   have h1 := hro.keep (K := fun j => W.heap.size ≤ j) (hkU.mono fun j (hj : W.heap.size ≤ j) h => by have := (i2.lt _ h).2; omega) (fun j hj => hj)
   exact h1.less hW
  ·cases had
   refine ⟨fun h => ?_, by simp only at hgl ⊢; omega⟩
   rcases hoU _ h with h | h
   ·have := (i2.lt _ h).2; simp only at this hgb; omega
   ·simp only at h hgl; omega
 refine ⟨a', c', U, hbs, hrun, ⟨us ++ [[.int .i64 (i : Int), .int .i64 (k : Int), .slice (some ⟨gb, go_, none⟩) t.m sc]], ?_, ?_⟩, ?_⟩
 ·rw [blanksOf_snoc ht, List.length_append, List.length_singleton, List.flatten_append, List.flatten_singleton]
  exact hown
 ·rw [blanksOf_snoc ht]
  exact (i3.keep hkAll (fun _ _ h => h) (fun j hj => (hoU j hj).imp id (fun h => Nat.le_trans hb4.size h))).snoc hrow
 ·exact (h.b.trans (hb4.mono hW)).trans hbU
theorem blanks_not {l : List Typ} {ware : ByteArray} {r : List Rng} {i k : Nat} {t : Typ} (ht : l[i]? = some t) (hw : t.ware = ware) (hk : k < shiftsOf t r) (h : blankOk t r k = false) : blanksX l ware r = [] ∧ blanksIs l ware r = false := by
 have hne : shiftsT l ware r ≠ [] := fun hn => by
  have := (fits_none l ware r).1 hn i k t (preK_mem ht hw hk) ht
  have h2 := (blankOk_iff t r k).2 this
  rw [h] at h2; cases h2
 refine ⟨by unfold blanksX; rw [if_neg fun h => hne h.2], ?_⟩
 unfold blanksIs
 rcases hs : shiftsT l ware r with _ | ⟨x, y⟩
 ·exact absurd hs hne
 ·simp
theorem blanks_all {l : List Typ} {ware : ByteArray} {r : List Rng} (h0 : wantedErr l ware r = 0) (h : ∀ x, x ∈ triesOf l ware r → ∀ t, l[x.1]? = some t → blankOk t r x.2 = true) : blanksX l ware r = blanksT l ware r ∧ blanksIs l ware r = true := by
 have hs : shiftsT l ware r = [] := (fits_none l ware r).2 fun i s t hx ht => (blankOk_iff t r s).1 (h (i, s) hx t ht)
 exact ⟨by unfold blanksX; rw [if_pos ⟨h0, hs⟩], by unfold blanksIs; rw [h0, hs]; rfl⟩
theorem tries_small {l : List Typ} {ware : ByteArray} {r : List Rng} (hte : typesErr l = 0) (hg : RgOk r) : (triesOf l ware r).length ≤ 999999 := by
 have key : ∀ k, k ≤ l.length → (triesTo l ware r k).length ≤ k * 13 := by
  intro k
  induction k with
  | zero => intro _; exact Nat.le_refl _
  | succ k ih =>
   intro hk
   obtain ⟨t, ht⟩ : ∃ t, l[k]? = some t := ⟨l[k], by simp⟩
   obtain ⟨_, _, _, hm⟩ := typeB_good (types_at hte ht)
   have hsh := shifts_le (t := t) (r := r) hm hg
   have := ih (by omega)
   by_cases hw : t.ware = ware
   ·rw [triesTo_yes ht hw, List.length_append, List.length_map, List.length_range]; omega
   ·rw [triesTo_no ht hw]; omega
 have hl12 : l.length ≤ 12 := by
  unfold typesErr at hte
  split at hte
  ·cases hte
  ·omega
 have := key l.length (Nat.le_refl _)
 rw [triesTo_all] at this; omega
set_option maxRecDepth 100000 in
set_option maxHeartbeats 4000000 in
theorem blanksR_any (a : Option Addr) (c : Nat) (l : List Typ) (ware : ByteArray) (ra : Option Addr) (rc : Nat) (r : List Rng) (w : World) (h : Ask w a c l ra rc r) :
  Calls Tryz.prog 53 #[.slice a l.length c, .string ware, .slice ra r.length rc] w (BlanksPost l ware r w) := by
 have HC := Lib.hid (askedR_any a c l ware ra rc r w h)
 have HA := Lib.hid h
 have hll := h.tlen
 clear h
 go_enter Tryz.func53, Tryz.ntmps53
 go_wp2_with (refine HC.out.mono ?_)
 rintro e w2 ⟨rfl, hb2⟩
 have HB2 := Lib.hid hb2
 clear hb2 HC
 by_cases h0 : wantedErr l ware r = 0
 rotate_left
 ·have HX : Hid (blanksX l ware r = []) := Lib.hid (by unfold blanksX; rw [if_neg fun h => h0 h.1])
  have hne : (wantedErr l ware r == 0) = false := by simpa using h0
  have HIS : Hid (blanksIs l ware r = false) := Lib.hid (by unfold blanksIs; rw [hne]; rfl)
  go_wp2_with fail
  exact bodyPost_ret (results_tmp3 rfl) rfl ⟨none, 0, [], by rw [HX.out, HIS.out]; rfl, RowOwn.nil _ _ _, by rw [HX.out]; exact BlkRows.nil _ _ _, by rw [HX.out]; exact Nat.le_refl _, HB2.out⟩
 have H0 := Lib.hid h0
 have ST := Lib.hid (show BlSt l r w (.slice none 0 0) (triesTo l ware r 0) w2 from ⟨⟨[], ownsRow_nil _ _ _ _, BlkRows.nil _ _ _⟩, HB2.out⟩)
 simp only [h0]
 obtain ⟨hte, hre⟩ := wanted_typ h0
 have HG := Lib.hid (RgOk.of hre)
 have HTE := Lib.hid hte
 clear h0 hte hre
 go_wp2_with fail
 go_loopw [10, 11, 12, 13, 14] (fun ov iv _ _ _ wr => ∃ i : Nat, i ≤ l.length ∧ iv = .int .i64 i ∧ BlSt l r w ov (triesTo l ware r i) wr ∧ ∀ x, x ∈ triesTo l ware r i → ∀ t, l[x.1]? = some t → blankOk t r x.2 = true) (fun _ iv _ _ _ _ => l.length - (intOf iv).toNat)
 case atStart => exact ⟨0, Nat.zero_le _, rfl, ST.out, fun x hx => by cases hx⟩
 case round =>
  clear ST HB2 w2
  obtain ⟨i, hi, rfl, st, hok⟩ := hrel
  have ST := Lib.hid st
  have HK := Lib.hid hok
  clear st hok
  by_cases hlt : i < l.length
  rotate_left
  ·have hin : decide ((i : Int) < (l.length : Int)) = false := by simp; omega
   have hin2 : decide (i < l.length) = false := decide_eq_false hlt
   have HIE := Lib.hid (show triesTo l ware r i = triesOf l ware r by rw [show i = l.length by omega, triesTo_all])
   obtain ⟨us, o1, o2⟩ := ST.out.o
   rw [HIE.out, blanksOf_all] at o1 o2
   obtain ⟨a', c', hv, hro, hcap⟩ := ownsRow_own o1
   have HV := Lib.hid hv
   have HRO := Lib.hid hro
   have HCP := Lib.hid hcap
   have O2 := Lib.hid o2
   have HXI := Lib.hid (blanks_all H0.out (by rw [← HIE.out]; exact HK.out))
   clear o1 o2 hv hro hcap
   go_wp2_with fail
   refine bodyPost_ret (results_tmp3 rfl) rfl ⟨a', c', us, ?_, HRO.out, ?_, ?_, ST.out.b⟩
   ·rw [HXI.out.1, HXI.out.2, H0.out, ← HV.out]; rfl
   ·rw [HXI.out.1]
    exact O2.out.keep (Keep.refl (fun _ => True) _) (fun _ _ _ => trivial) (fun k hk => by
     obtain ⟨ad, had, e⟩ := hk
     rw [HV.out]
     subst e; subst had
     exact .inl rfl)
   ·rw [HXI.out.1]; exact HCP.out
  obtain ⟨t, ht⟩ : ∃ t, l[i]? = some t := ⟨l[i], by simp [hlt]⟩
  have hki : (i : Int) < (l.length : Int) := by omega
  have hk0 : (0 : Int) ≤ (i : Int) := by omega
  have hsm := HA.out.sm t (List.mem_of_getElem? ht)
  obtain ⟨hts, h1, hlm, hm12⟩ := typeB_good (types_at HTE.out ht)
  have HTY := Lib.hid (show t.sets = true ∧ 1 ≤ t.least ∧ t.least ≤ t.most ∧ t.most ≤ 12 from ⟨hts, h1, hlm, hm12⟩)
  have HT := Lib.hid ht
  have HSM := Lib.hid hsm
  have hsh := shifts_le hm12 HG.out
  have HSH := Lib.hid (fun W (hW : RngsAt W ra r) => shiftsR_any t ra rc r ⟨by omega, hm12⟩ HG.out W hW)
  have HM := Lib.hid (show t.most = (t.m : Int) ∧ t.m ≤ 12 ∧ 1 ≤ t.m by unfold Typ.m; omega)
  have ST0 := Lib.hid (show BlSt l r w _ (preK l ware r i 0) wr by rw [preK_zero]; exact ST.out)
  have HK0 := Lib.hid (show ∀ x, x ∈ preK l ware r i 0 → ∀ t, l[x.1]? = some t → blankOk t r x.2 = true by rw [preK_zero]; exact HK.out)
  clear hts h1 hlm hm12 hsm ht ST HK
  go_wp2_with fail
  go_loopw [10, 12, 13, 14] (fun ov sv _ _ wr => ∃ k : Nat, k ≤ shiftsOf t r ∧ sv = .int .i64 k ∧ (k = 0 ∨ t.ware = ware) ∧ BlSt l r w ov (preK l ware r i k) wr ∧ ∀ x, x ∈ preK l ware r i k → ∀ t, l[x.1]? = some t → blankOk t r x.2 = true) (fun _ sv _ _ _ => shiftsOf t r - (intOf sv).toNat)
  case atStart => exact ⟨0, Nat.zero_le _, rfl, .inl rfl, ST0.out, HK0.out⟩
  case round =>
   clear ST0 HK0
   obtain ⟨k, hk, rfl, hkw, st, hok⟩ := hrel
   have ST := Lib.hid st
   have HK := Lib.hid hok
   obtain ⟨tb, tq, rfl, hat⟩ := (HA.out.ty.below st.b) i t HT.out
   have HL := Lib.hid hat.load
   have HKW := Lib.hid hkw
   have hk1 : k ≤ 1000 := by omega
   clear st hok hkw
   go_wp2_with (refine wpList_load_box rfl 71 _ rfl rfl HL.out ?_)
   clear HL
   refine (HSH.out _ (HA.out.rg.below ST.out.b)).mono ?_
   rintro e w4 ⟨rfl, hb4⟩
   have HAT := Lib.hid (hat.below hb4)
   have ST4 := Lib.hid (ST.out.below hb4)
   clear hb4 ST hat
   have f1 := HAT.out.fields.2.1
   rcases q3 : (t.ware.toList == ware.toList) with _ | _
   ·have hk00 : k = 0 := by
     rcases HKW.out with h | h
     ·exact h
     ·exact absurd h (ware_ne q3)
    have HNX := Lib.hid (show preK l ware r i k = triesTo l ware r (i + 1) by rw [triesTo_no HT.out (ware_ne q3), hk00, preK_zero])
    clear hk00
    by_cases hks : k < shiftsOf t r
    ·have q4 : decide (k < shiftsOf t r) = true := decide_eq_true hks
     have q5 : decide ((k : Int) < ((shiftsOf t r : Nat) : Int)) = true := decide_eq_true (by omega)
     go_wp2_with fail
     go_roundw
     case rel => exact ⟨i + 1, by omega, by go_num, by rw [← HNX.out]; exact ST4.out, by rw [← HNX.out]; exact HK.out⟩
     case measure => simp [intOf]; omega
    ·have q4 : decide (k < shiftsOf t r) = false := decide_eq_false hks
     have q5 : decide ((k : Int) < ((shiftsOf t r : Nat) : Int)) = false := decide_eq_false (by omega)
     go_wp2_with fail
     go_roundw
     case rel => exact ⟨i + 1, by omega, by go_num, by rw [← HNX.out]; exact ST4.out, by rw [← HNX.out]; exact HK.out⟩
     case measure => simp [intOf]; omega
   have hwe := ware_eq q3
   by_cases hks : k < shiftsOf t r
   rotate_left
   ·have hkn : decide ((k : Int) < ((shiftsOf t r : Nat) : Int)) = false := by simp; omega
    have hkn2 : decide (k < shiftsOf t r) = false := decide_eq_false hks
    have HNX := Lib.hid (show preK l ware r i k = triesTo l ware r (i + 1) by rw [triesTo_yes HT.out hwe, show shiftsOf t r = k by omega]; rfl)
    go_wp2_with fail
    go_roundw
    case rel => exact ⟨i + 1, by omega, by go_num, by rw [← HNX.out]; exact ST4.out, by rw [← HNX.out]; exact HK.out⟩
    case measure => simp [intOf]; omega
   have hkl : decide ((k : Int) < ((shiftsOf t r : Nat) : Int)) = true := by simp; omega
   have hkl2 : decide (k < shiftsOf t r) = true := decide_eq_true hks
   have HL := Lib.hid (TypAt.load HAT.out)
   have HLE := Lib.hid (leastR_any t HSM.out HTY.out.1 HTY.out.2.1 HM.out.1 HM.out.2.1 ra rc r HG.out k hks hk1 w4 (HA.out.rg.below ST4.out.b))
   go_wp2_with (refine wpList_load_box rfl 71 _ rfl rfl HL.out ?_)
   clear HL
   refine HLE.out.mono ?_
   rintro e w5 ⟨sa, sc, rfl, hro, hsc, hb5⟩
   clear HLE
   rcases hbk : blankOk t r k with _ | _
   ·have HN := Lib.hid (blanks_not HT.out hwe hks hbk)
    have HB5 := Lib.hid (ST4.out.below hb5).b
    clear hro hsc hb5
    go_wp2_with fail
    exact bodyPost_ret (results_tmp3 rfl) rfl ⟨none, 0, [], by rw [HN.out.1, HN.out.2, H0.out]; rfl, RowOwn.nil _ _ _, by rw [HN.out.1]; exact BlkRows.nil _ _ _, by rw [HN.out.1]; exact Nat.le_refl _, HB5.out⟩
   have hlen : (blanksOf l r (preK l ware r i k)).length + 1 ≤ 1000000 := by
    have h1 := blanksOf_len l r (preK l ware r i k)
    have h2 := (tries_pre (r := r) HT.out hwe hks).length_le
    have h3 := tries_small (ware := ware) HTE.out HG.out
    unfold preK at h1 ⊢
    rw [List.length_append] at h2
    omega
   obtain ⟨a', c', U, hbs, hrun, hst⟩ := ST4.out.app HT.out HM.out.2.2 hlen hb5 hro hsc
   have HBS := Lib.hid hbs
   have HRUN := Lib.hid hrun
   have HBD := Lib.hid (run_build_blk3 (i : Int) (k : Int) sa t.m sc w5)
   have ST6 := Lib.hid (show BlSt l r w (.slice a' ((blanksOf l r (preK l ware r i k)).length + 1) c') (preK l ware r i (k + 1)) U by rw [preK_succ]; exact hst)
   have HK6 := Lib.hid (show ∀ x, x ∈ preK l ware r i (k + 1) → ∀ t, l[x.1]? = some t → blankOk t r x.2 = true from fun x hx t' ht' => by
    rw [preK_succ, List.mem_append, List.mem_singleton] at hx
    rcases hx with hx | rfl
    ·exact HK.out x hx t' ht'
    ·rw [HT.out] at ht'; cases ht'; exact hbk)
   clear hbs hrun hst hro hsc hb5 hbk hlen
   go_wp2_with (first
    | (refine wpList_build rfl (v := .agg (blkCells i k (.slice sa t.m sc))) 88 _ rfl (by simp only [List.map_toArray, List.map_cons, List.map_nil]; exact HBD.out) ?_)
    | (apply wpList_bsl (T := 72) (n := 1) (hr := HBS.out); (· rfl); (· (simp only [List.map_toArray, List.map_cons, List.map_nil]; rfl)))
    | (at_builtin; refine wpList_app rfl _ _ _ rfl rfl rfl HRUN.out ?_))
   go_roundw
   case rel => exact ⟨k + 1, by omega, by go_num, .inr hwe, ST6.out, HK6.out⟩
   case measure => simp [intOf]; omega
end Go.Proofs.YthpjffhccjlnhaaGreatDoor
namespace Go.Proofs.YthpjffhccjlnhaaGreatDoor
open Go.RowKit
attribute [local go_sem] Oper.semAt_some

theorem sameW_self (A : List ByteArray) : sameW A A = true := by
 simp [sameW]
set_option maxRecDepth 100000 in
set_option maxHeartbeats 1000000 in
theorem sameBlanks_any (xa ya : Option Addr) (xc yc : Nat) (b : List Bl4) (hs : ∀ y, y ∈ b → SmlB y) (hl : b.length ≤ 1000000) (w : World) (hx : BlksIn w xa b) (hy : BlksIn w ya b) :
  Calls Tryz.prog 56 #[.slice xa b.length xc, .slice ya b.length yc] w fun e w' => e = .returned (.bool true) ∧ Below w.heap.size w w' := by
 have HX := Lib.hid hx
 have HY := Lib.hid hy
 have HS := Lib.hid hs
 clear hx hy hs
 go_enter Tryz.func56, Tryz.ntmps56
 go_wp2_with fail
 go_loopw [5] (fun iv wr => ∃ i : Nat, i ≤ b.length ∧ iv = .int .i64 i ∧ Below w.heap.size w wr) (fun iv _ => b.length - (intOf iv).toNat)
 case atStart => exact ⟨0, Nat.zero_le _, rfl, Below.refl _ _⟩
 case round =>
  obtain ⟨i, hi, rfl, hb⟩ := hrel
  have HB := Lib.hid hb
  clear hb
  by_cases hlt : i < b.length
  ·obtain ⟨y, hyi⟩ : ∃ y, b[i]? = some y := ⟨b[i], by simp [hlt]⟩
   obtain ⟨g, gq, rfl, sa, sc, hc1, hs1, hl1⟩ := HX.out i y hyi
   obtain ⟨g', gq', rfl, sa', sc', hc2, hs2, hl2⟩ := HY.out i y hyi
   have hsm := HS.out y (List.mem_of_getElem? hyi)
   have C1 := Lib.hid hc1
   have C2 := Lib.hid hc2
   have HW := Lib.hid (fun W (h1 : StrsAt W sa y.sets) (h2 : StrsAt W sa' y.sets) => sameW_self y.sets ▸ sameWords_any sa sa' sc sc' y.sets y.sets W h1 h2 hsm.len)
   have S1 := Lib.hid hs1
   have S2 := Lib.hid hs2
   have hki : (i : Int) < (b.length : Int) := by omega
   have hk0 : (0 : Int) ≤ (i : Int) := by omega
   have q1 : (y.type != y.type) = false := by simp
   have q2 : (y.shift != y.shift) = false := by simp
   clear hc1 hc2 hs1 hs2 hsm hyi
   go_wp2_with fail
   refine wp_region_heldB 38 [] (by kernel_rfl) (by kernel_rfl) (by kernel_rfl) (by simp) ?_
   intro S hS
   have k0 : ∀ A, S A → A.cell? ⟨g, gq + i * 3, none⟩ = some (.int .i64 y.type) ∧ A.cell? ⟨g, gq + i * 3 + 1, none⟩ = some (.int .i64 y.shift) ∧ A.cell? ⟨g, gq + i * 3 + 2, none⟩ = some (.slice sa y.sets.length sc) ∧
     A.cell? ⟨g', gq' + i * 3, none⟩ = some (.int .i64 y.type) ∧ A.cell? ⟨g', gq' + i * 3 + 1, none⟩ = some (.int .i64 y.shift) ∧ A.cell? ⟨g', gq' + i * 3 + 2, none⟩ = some (.slice sa' y.sets.length sc') := fun A hA => by
    have hb := HB.out.trans ((hS A hA).mono HB.out.size)
    exact ⟨below_cell hb (C1.out 0 (by omega)), below_cell hb (C1.out 1 (by omega)), below_cell hb (C1.out 2 (by omega)), below_cell hb (C2.out 0 (by omega)), below_cell hb (C2.out 1 (by omega)), below_cell hb (C2.out 2 (by omega))⟩
   have K0 := Lib.hid k0
   have HBB := Lib.hid (fun A hA => HB.out.trans ((hS A hA).mono HB.out.size))
   clear hS k0
   simp only [List.take_succ_cons, List.take_zero, List.drop_succ_cons, List.drop_zero]
   repeat (first
    | (refine held_not rfl (by rfl) ?_; try (dsimp only); try simp only [Act.put, List.setIfInBounds_toArray, List.set_cons_zero, List.set_cons_succ])
    | (refine held_val (v := ?_) rfl (by rfl) ?_ ?_; rotate_left; (· (intro W hW; obtain ⟨q0, q1, q2, q3, q4, q5⟩ := K0.out W hW; go_simp; try with_reducible rfl)); try (dsimp only); try simp only [Act.put, List.setIfInBounds_toArray, List.set_cons_zero, List.set_cons_succ])
    | (refine held_skip rfl (by rfl) ?_ ?_; (· (intro W hW; obtain ⟨q0, q1, q2, q3, q4, q5⟩ := K0.out W hW; go_simp; try with_reducible rfl)); try (dsimp only); try simp only [Act.put, List.setIfInBounds_toArray, List.set_cons_zero, List.set_cons_succ])
    | (refine held_call (v := .bool true) (f := 64) (args := #[.slice sa y.sets.length sc, .slice sa' y.sets.length sc']) rfl (by rfl) ?_ ?_ ?_; (· (intro W hW; go_simp; done)); (· exact (fun W hW => HW.out W (S1.out.below (HBB.out W hW)) (S2.out.below (HBB.out W hW)))); try (dsimp only); try simp only [Act.put, List.setIfInBounds_toArray, List.set_cons_zero, List.set_cons_succ]))
   refine held_nil ?_
   intro τ hτ W2 hW hO
   obtain rfl := laid0 hτ
   have HB2 := Lib.hid (HBB.out W2 hW)
   clear hτ hO hW K0 HBB
   simp only [overs, List.foldl_nil]
   go_wp2_with fail
   go_roundw
   case rel => exact ⟨i + 1, by omega, by go_num, HB2.out⟩
   case measure => simp [intOf]; omega
  ·have hkn : decide ((i : Int) < (b.length : Int)) = false := by simp; omega
   go_wp2_with fail
   go_ret
   exact ⟨rfl, HB.out⟩
end Go.Proofs.YthpjffhccjlnhaaGreatDoor
