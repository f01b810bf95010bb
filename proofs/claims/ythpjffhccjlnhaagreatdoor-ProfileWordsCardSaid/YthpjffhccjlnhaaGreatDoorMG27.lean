/- The reference: places: for a length, the classes that can stand at each place. A type that is as said. -/
/- The reference: Letters. No condition. -/
/- The reference: Dead. No condition. -/
import Derived.Test.YthpjffhccjlnhaaGreatDoorMG25
import Derived.Test.YthpjffhccjlnhaaGreatDoorMG22
import Derived.Test.YthpjffhccjlnhaaGreatDoorMG21
import Derived.Test.YthpjffhccjlnhaaGreatDoorMG7
import Derived.Test.YthpjffhccjlnhaaGreatDoorGRows4
import Derived.Test.YthpjffhccjlnhaaGreatDoorGDead
set_option linter.unusedSimpArgs false
set_option linter.unusedVariables false
namespace Go.Proofs.YthpjffhccjlnhaaGreatDoor
open Go.RowKit
attribute [local go_sem] Oper.semAt_some

def livN (t : Typ) (n p : Nat) : CS := fun c => placeN t.kd n p c && goodJ t.kd (n - 1 - p) c
def placeTo (t : Typ) (n k : Nat) : List Value := (List.range k).map fun p => strV (str (livN t n p))
theorem placeTo_succ (t : Typ) (n k : Nat) : placeTo t n (k + 1) = placeTo t n k ++ [strV (str (livN t n k))] := by
 unfold placeTo
 rw [List.range_succ, List.map_append]; rfl
theorem comesP_eq {t : Typ} (ht : t.sets = true) (n p : Nat) {c : Nat} (hc : c < 26) : (str (livN t n p)).any (fun x => inL (bl (aftS t x)) (chC c)) = placeN t.kd n (p + 1) c := by
 rw [comes_eq ht (set_str _) hc]
 show _ = any26 fun d => livN t n p d && t.kd.after d c
 exact any26_congr fun d hd => by rw [has_str hd]
structure PlSt (t : Typ) (n : Nat) (w6 : World) (v : Value) (p : Nat) (W : World) : Prop where
 o : W.ownsRow w6.heap.size 9 1 v p (placeTo t n p)
 b : Below w6.heap.size w6 W
theorem PlSt.below {t : Typ} {n : Nat} {w6 : World} {v : Value} {p : Nat} {W W' : World} (h : PlSt t n w6 v p W) (hb : Below W.heap.size W W') : PlSt t n w6 v p W' :=
 ⟨ownsRow_keep h.o (Keep.of_below' (K := fun _ => True) hb) (fun _ _ => trivial), h.b.trans (hb.mono h.b.size)⟩
set_option maxRecDepth 100000 in
set_option maxHeartbeats 8000000 in
theorem placesR_any (t : Typ) (hsm : SmlT t) (hts : t.sets = true) (n : Nat) (hn1 : 1 ≤ n) (hn12 : n ≤ 12) (w : World) :
  Calls Tryz.prog 105 #[.agg (typCells t), .int .i64 (n : Int)] w fun e w' => ∃ sa sc, e = .returned (.slice sa n sc) ∧ RowOwn w.heap.size w' sa (placeTo t n n) ∧ n ≤ sc ∧ Below w.heap.size w w' := by
 obtain ⟨w1, hw1⟩ : ∃ w1, w.alloc (.cells (typCells t) 71) = w1 := ⟨_, rfl⟩
 have b0 : TypAt w1 w.heap.size 0 t := by rw [← hw1]; exact Box.typ (Box.new _ _ _)
 have hB : Below w.heap.size w w1 := by rw [← hw1]; go_grown
 have X4 := Lib.hid b0
 have B4 := Lib.hid hB
 have HW := Lib.hid hw1
 have HSM := Lib.hid hsm
 have HTS := Lib.hid hts
 have HRIM := Lib.hid (show t.rim = mkB (str (placeN t.kd n 0)) by
  show _ = mkB (str (hasC (bl t.rim)))
  rw [str_has (Typ.sets_iff.1 hts).1, mkB_bl])
 have HL := Lib.hid (TypAt.load X4.out)
 have HGD := Lib.hid (goodR_any t hts (fun d hd => hsm.after d hd) w1)
 clear b0 hB hw1 hsm hts
 go_enter Tryz.func105, Tryz.ntmps105
 go_upto_region 1 with fail
 simp only [HW.out]
 go_wp2_with (refine wpList_load_box rfl 71 _ rfl rfl HL.out ?_)
 refine HGD.out.mono ?_
 rintro e9 w5 ⟨rfl, hb5⟩
 obtain ⟨wq, hwq⟩ : ∃ wq, w5.alloc (.cells (fnCells 12 fun _ => .string ByteArray.empty) 121) = wq := ⟨_, rfl⟩
 have bq : Box wq w5.heap.size (fnCells 12 fun _ => .string ByteArray.empty) 121 := by rw [← hwq]; exact Box.new _ _ _
 have hbq : Below w5.heap.size w5 wq := by rw [← hwq]; go_grown
 obtain ⟨w6, hst, hw6⟩ := run_store_all (P := Tryz.prog) agg_ends bq (goodF t.kd) (fun _ _ => rfl)
 have HX := Lib.hid (show TypAt w6 w.heap.size 0 t from ((X4.out.below hb5).below hbq).keep hw6.keep (by have := (X4.out.below hb5).lt; omega))
 have HE := Lib.hid hw6.box
 have HB6 := Lib.hid (show Below w.heap.size w w6 from by
  have h5 := B4.out.trans (hb5.mono B4.out.size)
  exact hw6.below (h5.trans (hbq.mono h5.size)) h5.size)
 have ST := Lib.hid (show PlSt t n w6 (.slice none 0 0) 0 w6 from ⟨ownsRow_nil _ _ _ _, Below.refl _ _⟩)
 have HWQ := Lib.hid hwq
 have HST := Lib.hid hst
 clear HL HGD hb5 hwq bq hbq hst hw6
 go_upto_region 2 with (simp only [zends, HWQ.out]; refine wpList_store_box rfl 121 _ _ rfl rfl rfl HST.out ?_)
 obtain ⟨e, he⟩ : ∃ e, w5.heap.size = e := ⟨_, rfl⟩
 rw [he] at HE
 simp only [he]
 clear HST HWQ X4 B4 he wq HW
 have c4 := HX.out.fields.2.2.2.2.1
 simp only [Nat.zero_add] at c4
 go_wp2_with fail
 clear c4
 go_loopw [6, 7, 8, 9, 10, 11, 12] (fun ov nv pv _ _ _ _ wr => ∃ p : Nat, p ≤ n ∧ pv = .int .i64 p ∧ nv = .string (mkB (str (placeN t.kd n p))) ∧ PlSt t n w6 ov p wr) (fun _ _ pv _ _ _ _ _ => n - (intOf pv).toNat)
 case atStart => exact ⟨0, Nat.zero_le _, rfl, by rw [HRIM.out], ST.out⟩
 case round =>
  clear ST HRIM
  obtain ⟨p, hp, rfl, rfl, st⟩ := hrel
  have ST := Lib.hid st
  clear st
  by_cases hlt : p < n
  rotate_left
  ·have hpn : decide ((p : Int) < (n : Int)) = false := by simp; omega
   have hpn2 : decide (p < n) = false := decide_eq_false hlt
   have HPE := Lib.hid (show p = n by omega)
   obtain ⟨a', c', hv, hro, hcap⟩ := ownsRow_own ST.out.o
   subst hv
   have HRO := Lib.hid hro
   have HCP := Lib.hid hcap
   clear hro hcap
   go_wp2_with fail
   go_ret
   refine ⟨a', c', by rw [HPE.out]; rfl, ?_, by have := HCP.out; have := HPE.out; omega, HB6.out.trans (ST.out.b.mono HB6.out.size)⟩
   have h1 := HRO.out
   rw [HPE.out] at h1
   exact h1.less HB6.out.size
  have hpi : (p : Int) < (n : Int) := by omega
  have hpi2 : decide (p < n) = true := decide_eq_true hlt
  have hp0 : (0 : Int) ≤ (p : Int) := by omega
  obtain ⟨m, hm⟩ : ∃ m, n - 1 = m := ⟨_, rfl⟩
  obtain ⟨q, hq⟩ : ∃ q, m - p = q := ⟨_, rfl⟩
  have hw1 : IntKind.i64.wrap ((n : Int) - 1) = (m : Int) := by rw [IntWalk.i64_in _ (by omega)]; omega
  have hw2 : IntKind.i64.wrap ((m : Int) - (p : Int)) = (q : Int) := by rw [IntWalk.i64_in _ (by omega)]; omega
  have hq12 : (q : Int) < 12 := by omega
  have hq0 : (0 : Int) ≤ (q : Int) := by omega
  have ce : wr.cell? ⟨e, q, none⟩ = some (.string (mkB (str (goodJ t.kd q)))) := (HE.out.below' ST.out.b).fn (i := q) (by omega)
  have hnz : (mkB (str (placeN t.kd n p))).size ≤ 1000 := by rw [mkB_size]; have := str_len (placeN t.kd n p); omega
  have hgz : (mkB (str (goodJ t.kd q))).size ≤ 1000 := by rw [mkB_size]; have := str_len (goodJ t.kd q); omega
  have hbo := both_any (mkB (str (placeN t.kd n p))) (mkB (str (goodJ t.kd q))) (by omega) (by omega) wr
  rw [bl_mkB, bl_mkB, both_set (set_str _) (set_str _), show str (fun c => hasC (str (placeN t.kd n p)) c && hasC (str (goodJ t.kd q)) c) = str (livN t n p) from str_congr fun c hc => by
   rw [has_str hc, has_str hc]
   unfold livN
   rw [show n - 1 - p = q by omega]] at hbo
  have HBO := Lib.hid hbo
  clear hbo hgz hnz hm hq
  go_wp2_with (refine HBO.out.mono ?_)
  rintro e2 wr ⟨rfl, rfl⟩
  clear HBO ce
  obtain ⟨B, hB⟩ : ∃ B, mkB (str (livN t n p)) = B := ⟨_, rfl⟩
  have hbz : B.size ≤ 1000 := by rw [← hB, mkB_size]; have := str_len (livN t n p); omega
  have HBB := Lib.hid (show bl B = str (livN t n p) by rw [← hB, bl_mkB])
  have HBV := Lib.hid (show strV (str (livN t n p)) = .string B from congrArg Value.string hB)
  simp only [hB]
  clear hB
  have hsz := ST.out.b.size
  have hbs := run_bslice (P := Tryz.prog) (T := 85) Tryz.underlying85 info_str2 (by omega) (by omega) (v := .string B) (g := fun _ => .string B) rfl wr
  obtain ⟨v', U, hrun, hown, hbU, -, -⟩ := app_fn (P := Tryz.prog) (TT := 85) Tryz.underlying85 info_str rfl (by omega) (by omega) ST.out.o (by omega) hsz (fun _ => .string B) (fun j _ => rfl)
  obtain ⟨a', c', rfl, -, -⟩ := ownsRow_own hown
  have HBS := Lib.hid hbs
  have HRUN := Lib.hid hrun
  have SU := Lib.hid (show PlSt t n w6 (.slice a' (p + 1) c') (p + 1) U from ⟨by rw [placeTo_succ, HBV.out]; exact hown, ST.out.b.trans hbU⟩)
  clear hbs hrun hown hbU hsz ST
  go_upto_region 9 with (first
   | (apply wpList_bsl (T := 85) (n := 1) (hr := HBS.out); (· rfl); (· (simp only [List.map_toArray, List.map_cons, List.map_nil]; rfl)))
   | (at_builtin; refine wpList_app rfl _ _ _ rfl rfl rfl HRUN.out ?_))
  clear HBS HRUN
  have ST := SU
  go_wp2_with fail
  go_loopw [9, 10, 11, 12] (fun xv cv _ _ wr => ∃ c : Nat, c ≤ 26 ∧ cv = .int .u8 (97 + (c : Int)) ∧ xv = .string (mkB (strTo (placeN t.kd n (p + 1)) c)) ∧ PlSt t n w6 (.slice a' (p + 1) c') (p + 1) wr) (fun _ cv _ _ _ => 123 - (intOf cv).toNat)
  case atStart => exact ⟨0, by omega, rfl, rfl, ST.out⟩
  case round =>
   clear ST
   obtain ⟨c, hc, rfl, rfl, st⟩ := hrel
   have ST := Lib.hid st
   clear st
   by_cases hc26 : c < 26
   rotate_left
   ·have hcn : decide ((97 : Int) + (c : Int) ≤ 122) = false := by simp; omega
    have HNV := Lib.hid (show mkB (strTo (placeN t.kd n (p + 1)) c) = mkB (str (placeN t.kd n (p + 1))) by rw [show c = 26 by omega]; rfl)
    go_wp2_with fail
    go_roundw
    case rel => exact ⟨p + 1, by omega, by go_num, by rw [HNV.out], ST.out⟩
    case measure => simp [intOf]; omega
   have hci : (97 : Int) + (c : Int) ≤ 122 := by omega
   have hcw : IntKind.u8.wrap ((97 : Int) + (c : Int) + 1) = (97 : Int) + ((c + 1 : Nat) : Int) := by
    show ((97 : Int) + (c : Int) + 1) % 256 = _; omega
   have hch : ((chC c).toNat : Int) = 97 + (c : Int) := by rw [chC_nat hc26]; omega
   have HCO := Lib.hid (comesP_eq HTS.out n p hc26)
   have HCH := Lib.hid hch
   have HSU := Lib.hid (strTo_succ (placeN t.kd n (p + 1)) c)
   clear hch
   go_wp2_with fail
   go_loopw [11, 12] (fun lv qv wr => ∃ q : Nat, q ≤ B.size ∧ qv = .int .i64 q ∧ lv = .bool (((str (livN t n p)).take q).any fun x => inL (bl (aftS t x)) (chC c)) ∧ PlSt t n w6 (.slice a' (p + 1) c') (p + 1) wr) (fun _ qv _ => B.size - (intOf qv).toNat)
   case atStart => exact ⟨0, by omega, rfl, rfl, ST.out⟩
   case round =>
    clear ST
    obtain ⟨q, hq, rfl, rfl, st⟩ := hrel
    have ST := Lib.hid st
    clear st
    obtain ⟨cv, hlv⟩ : ∃ lv, (((str (livN t n p)).take q).any fun x => inL (bl (aftS t x)) (chC c)) = lv := ⟨_, rfl⟩
    rw [hlv]
    have HLV := Lib.hid hlv
    clear hlv
    by_cases hql : q < B.size
    ·obtain ⟨z, hz⟩ : ∃ z, B[q] = z := ⟨_, rfl⟩
     have hbz : (str (livN t n p))[q]? = some z := by rw [← HBB.out, bl_at _ hql, hz]
     have HT := Lib.hid (any_take (fun x => inL (bl (aftS t x)) (chC c)) hbz)
     have hqi : (q : Int) < (B.size : Int) := by omega
     have hq0 : (0 : Int) ≤ (q : Int) := by omega
     have HAF := Lib.hid (fun W => afterR_any t z W)
     have hasz : (aftS t z).size ≤ 1000000 := by
      unfold aftS
      split
      ·have := HSM.out.after (z.toNat - 97) (by omega); omega
      ·exact Nat.zero_le _
     have HIN := Lib.hid (fun W => inR_any (aftS t z) (chC c) hasz W)
     rw [HCH.out] at HIN
     clear hbz hasz
     rcases cv with _ | _
     ·go_wp2_with fail
      refine wp_region_heldB 10 [] (by kernel_rfl) (by kernel_rfl) (by kernel_rfl) (by simp) ?_
      intro S' hS
      have K0 := trivial
      have L1 := Lib.hid (fun A hA => TypAt.load ((HX.out.below ST.out.b).below (hS A hA)))
      have HS := Lib.hid hS
      clear hS
      simp only [List.take_succ_cons, List.take_zero, List.drop_succ_cons, List.drop_zero]
      repeat (first
       | (refine held_load 71 _ (by rfl) rfl rfl L1.out ?_; try (dsimp only); try simp only [Act.put, List.setIfInBounds_toArray, List.set_cons_zero, List.set_cons_succ])
       | (refine held_not rfl (by rfl) ?_; try (dsimp only); try simp only [Act.put, List.setIfInBounds_toArray, List.set_cons_zero, List.set_cons_succ])
       | (refine held_val (v := ?_) rfl (by rfl) ?_ ?_; rotate_left; (· (intro W hW; go_simp; try with_reducible rfl)); try (dsimp only); try simp only [Act.put, List.setIfInBounds_toArray, List.set_cons_zero, List.set_cons_succ])
       | (refine held_skip rfl (by rfl) ?_ ?_; (· (intro W hW; go_simp; try with_reducible rfl)); try (dsimp only); try simp only [Act.put, List.setIfInBounds_toArray, List.set_cons_zero, List.set_cons_succ])
       | (refine held_call (v := .string (aftS t z)) (f := 85) (args := #[.agg (typCells t), .int .u8 z.toNat]) rfl (by rfl) ?_ ?_ ?_; (· (intro W hW; go_simp; done)); (· exact (fun W hW => HAF.out W)); try (dsimp only); try simp only [Act.put, List.setIfInBounds_toArray, List.set_cons_zero, List.set_cons_succ])
       | (refine held_call (v := .bool (inL (bl (aftS t z)) (chC c))) (f := 37) (args := #[.string (aftS t z), .int .u8 (97 + (c : Int))]) rfl (by rfl) ?_ ?_ ?_; (· (intro W hW; go_simp; done)); (· exact (fun W hW => (HIN.out W).mono fun e w' h => ⟨h.1, h.2 ▸ Below.refl _ _⟩)); try (dsimp only); try simp only [Act.put, List.setIfInBounds_toArray, List.set_cons_zero, List.set_cons_succ]))
      refine held_nil ?_
      intro τ hτ W2 hW hO
      obtain rfl := laid0 hτ
      have ST2 := Lib.hid (ST.out.below (HS.out W2 hW))
      clear hτ hO hW K0 HS L1 ST
      simp only [overs, List.foldl_nil]
      go_wp2_with fail
      go_roundw
      case rel => exact ⟨q + 1, by omega, by go_num, by rw [HT.out, HLV.out]; rfl, ST2.out⟩
      case measure => simp [intOf]; omega
     ·go_wp2_with fail
      refine wp_region_heldB 10 [] (by kernel_rfl) (by kernel_rfl) (by kernel_rfl) (by simp) ?_
      intro S' hS
      have K0 := trivial
      have HS := Lib.hid hS
      clear hS
      simp only [List.take_succ_cons, List.take_zero, List.drop_succ_cons, List.drop_zero]
      repeat (first
       | (refine held_not rfl (by rfl) ?_; try (dsimp only); try simp only [Act.put, List.setIfInBounds_toArray, List.set_cons_zero, List.set_cons_succ])
       | (refine held_val (v := ?_) rfl (by rfl) ?_ ?_; rotate_left; (· (intro W hW; go_simp; try with_reducible rfl)); try (dsimp only); try simp only [Act.put, List.setIfInBounds_toArray, List.set_cons_zero, List.set_cons_succ])
       | (refine held_skip rfl (by rfl) ?_ ?_; (· (intro W hW; go_simp; try with_reducible rfl)); try (dsimp only); try simp only [Act.put, List.setIfInBounds_toArray, List.set_cons_zero, List.set_cons_succ]))
      refine held_nil ?_
      intro τ hτ W2 hW hO
      obtain rfl := laid0 hτ
      have ST2 := Lib.hid (ST.out.below (HS.out W2 hW))
      clear hτ hO hW K0 HS ST
      simp only [overs, List.foldl_nil]
      go_wp2_with fail
      go_roundw
      case rel => exact ⟨q + 1, by omega, by go_num, by rw [HT.out, HLV.out]; rfl, ST2.out⟩
      case measure => simp [intOf]; omega
    ·have hqn : decide ((q : Int) < (B.size : Int)) = false := by simp; omega
     have HCV := Lib.hid (show placeN t.kd n (p + 1) c = cv by rw [← HCO.out, ← HLV.out, List.take_of_length_le (by rw [← HBB.out, bl_len]; omega)])
     clear HLV HCO
     rcases cv with _ | _
     ·have HN := Lib.hid (show strTo (placeN t.kd n (p + 1)) (c + 1) = strTo (placeN t.kd n (p + 1)) c by rw [HSU.out, HCV.out]; simp)
      go_wp2_with fail
      go_roundw
      case rel => exact ⟨c + 1, by omega, by go_num, by rw [HN.out], ST.out⟩
      case measure => simp [intOf]; omega
     ·have HN := Lib.hid (show mkB (strTo (placeN t.kd n (p + 1)) (c + 1)) = mkB (strTo (placeN t.kd n (p + 1)) c) ++ mkB [chC c] by rw [HSU.out, HCV.out, mkB_app]; rfl)
      have hzs : (mkB (strTo (placeN t.kd n (p + 1)) c)).size ≤ 1000 := by rw [mkB_size]; have := strTo_len (placeN t.kd n (p + 1)) c; omega
      have hr5 := Lib.hid (run_byte (97 + (c : Int)) wr)
      have hC := run_conv1 wr (chC c) (97 + (c : Int)) HCH.out.symm
      have ST2 := Lib.hid (ST.out.below (show Below wr.heap.size wr (wr.alloc (.cells #[.int .u8 (97 + (c : Int))] 5)) from by go_grown))
      have h1s : (mkB [chC c]).size = 1 := by rw [mkB_size]; rfl
      go_wp2_with (first
       | (apply wpList_bsl (T := 98) (n := 1) (hr := hr5.out); (· rfl); (· (simp only [List.map_toArray, List.map_cons, List.map_nil]; rfl)))
       | (refine wpList_cat rfl _ _ _ rfl rfl rfl (by rw [h1s]; omega) ?_))
      go_roundw
      case rel => exact ⟨c + 1, by omega, by go_num, by rw [HN.out], ST2.out⟩
      case measure => simp [intOf]; omega
end Go.Proofs.YthpjffhccjlnhaaGreatDoor
namespace Go.Proofs.YthpjffhccjlnhaaGreatDoor
open Go.RowKit
attribute [local go_sem] Oper.semAt_some

def hitN (t : Typ) (c n : Nat) : Bool := (List.range n).any fun p => livN t n p c
def hitTo (t : Typ) (lo c j : Nat) : Bool := (List.range j).any fun x => hitN t c (lo + x)
theorem hit_all {t : Typ} {m lo : Nat} {c : Nat} (hc : c < 26) : lettersW t.kd m (lo : Int) c = hitTo t lo c (m + 1 - lo) := by
 rw [Bool.eq_iff_iff, letters_ref hc]
 unfold hitTo hitN
 simp only [List.any_eq_true, List.mem_range]
 constructor
 ·rintro ⟨n, h1, h2, p, hp, h⟩
  refine ⟨n - lo, by omega, p, by omega, ?_⟩
  rw [place_liv _ _ _ hp] at h
  rw [show lo + (n - lo) = n by omega]; exact h
 ·rintro ⟨x, hx, p, hp, h⟩
  exact ⟨lo + x, by omega, by omega, p, hp, by rw [place_liv _ _ _ hp]; exact h⟩
theorem any_range {f : Nat → Bool} (k : Nat) : (List.range (k + 1)).any f = ((List.range k).any f || f k) := by
 rw [List.range_succ, List.any_append]; simp
set_option maxRecDepth 100000 in
set_option maxHeartbeats 8000000 in
theorem lettersR_any (a : Option Addr) (c : Nat) (l : List Typ) (i : Int) (w : World) (h : TypesAt w a l) (hs : ∀ t, t ∈ l → SmlT t) (hl : l.length ≤ 1000000) :
  Calls Tryz.prog 47 #[.slice a l.length c, .int .i64 i] w fun e w' => e = .returned (lettersOut l i) ∧ Below w.heap.size w w' := by
 have HC := Lib.hid (ofR_any a c l i w h hs hl)
 have HT := Lib.hid h
 have HS := Lib.hid hs
 clear h hs
 go_enter Tryz.func47, Tryz.ntmps47
 go_wp2_with (refine HC.out.mono ?_)
 rintro e w2 ⟨rfl, hb1⟩
 have HB1 := Lib.hid hb1
 have HT1 := Lib.hid (HT.out.below hb1)
 clear hb1 HC HT
 by_cases h0 : askedErr l i = 0
 rotate_left
 ·have HE : Hid (lettersOut l i = .tuple #[.string ByteArray.empty, .int .i64 (askedErr l i)]) := Lib.hid (by unfold lettersOut; rw [if_neg h0])
  have hne : (askedErr l i == 0) = false := by simpa using h0
  go_wp2_with fail
  exact bodyPost_ret (results_tmp_tmp4 rfl) rfl ⟨by rw [HE.out]; rfl, HB1.out⟩
 obtain ⟨n1, T, rfl, ht1, hk1, hg1, hm1, hm12⟩ := asked_good h0
 have hsm := HS.out T (List.mem_of_getElem? ht1)
 obtain ⟨hts, g1', g2', g3'⟩ := typeB_good hg1
 obtain ⟨lo, e1⟩ : ∃ lo : Nat, T.least = (lo : Int) := ⟨T.least.toNat, by omega⟩
 obtain ⟨m, e2⟩ : ∃ m : Nat, T.m = m := ⟨_, rfl⟩
 have e3 : T.most = (m : Int) := by rw [← e2]; unfold Typ.m; omega
 have hlo1 : 1 ≤ lo := by omega
 have hlom : lo ≤ m := by omega
 have hm12' : m ≤ 12 := by omega
 obtain ⟨P, hP⟩ : ∃ P, lettersW T.kd m (lo : Int) = P := ⟨_, rfl⟩
 have HE : Hid (lettersOut l n1 = .tuple #[.string (mkB (str P)), .int .i64 0]) := Lib.hid (by
  unfold lettersOut
  rw [if_pos h0, hk1, ← hP]
  show Value.tuple #[.string (mkB (str (lettersW T.kd T.m T.least))), _] = _
  rw [e1, e2])
 have HHP := Lib.hid (show ∀ c, c < 26 → P c = hitTo T lo c (m + 1 - lo) from fun c hc => by rw [← hP, hit_all hc])
 have HTS := Lib.hid hts
 have HSM := Lib.hid hsm
 have HLO := Lib.hid e1
 have HHI := Lib.hid e3
 have hn1 : (n1 : Int) < (l.length : Int) := by have := (List.getElem?_eq_some_iff.1 ht1).1; omega
 have hn10 : (0 : Int) ≤ (n1 : Int) := by omega
 obtain ⟨b, o, rfl, hat1⟩ := HT1.out n1 T ht1
 have HAT := Lib.hid hat1
 simp only [h0]
 clear hat1 hk1 hg1 hm1 hm12 hts hsm HT1 ht1 h0 HS e1 e2 e3 g1' g2' g3' hP
 go_wp2_with fail
 go_loopw [7, 8, 9, 10, 11, 12] (fun xv cv _ _ _ _ wr => ∃ c : Nat, c ≤ 26 ∧ cv = .int .u8 (97 + (c : Int)) ∧ xv = .string (mkB (strTo P c)) ∧ Below w2.heap.size w2 wr) (fun _ cv _ _ _ _ _ => 123 - (intOf cv).toNat)
 case atStart => exact ⟨0, by omega, rfl, rfl, Below.refl _ _⟩
 case round =>
  obtain ⟨c, hc, rfl, rfl, hb⟩ := hrel
  obtain ⟨wa, rfl⟩ : ∃ x, x = wr := ⟨_, rfl⟩
  have HBR := Lib.hid hb
  by_cases hc26 : c < 26
  rotate_left
  ·have hcn : decide ((97 : Int) + (c : Int) ≤ 122) = false := by simp; omega
   have HNV := Lib.hid (show mkB (strTo P c) = mkB (str P) by rw [show c = 26 by omega]; rfl)
   clear hb
   go_wp2_with fail
   exact bodyPost_ret (results_tmp_tmp4 rfl) rfl ⟨by rw [HE.out, ← HNV.out]; rfl, HB1.out.trans (HBR.out.mono HB1.out.size)⟩
  have hci : (97 : Int) + (c : Int) ≤ 122 := by omega
  have hcw : IntKind.u8.wrap ((97 : Int) + (c : Int) + 1) = (97 : Int) + ((c + 1 : Nat) : Int) := by
   show ((97 : Int) + (c : Int) + 1) % 256 = _; omega
  have HCH := Lib.hid (show ((chC c).toNat : Int) = 97 + (c : Int) by rw [chC_nat hc26]; omega)
  have HSU := Lib.hid (strTo_succ P c)
  have HPC := Lib.hid (HHP.out c hc26)
  have c2 := (HAT.out.below hb).fields.2.2.1
  rw [HLO.out] at c2
  clear hb
  go_wp2_with fail
  clear c2
  go_loopw [9, 10, 11, 12] (fun sv nv _ _ wr => ∃ j : Nat, j ≤ m + 1 - lo ∧ nv = .int .i64 ((lo + j : Nat) : Int) ∧ sv = .bool (hitTo T lo c j) ∧ Below w2.heap.size w2 wr) (fun _ nv _ _ _ => m + 1 - (intOf nv).toNat)
  case atStart => exact ⟨0, Nat.zero_le _, rfl, rfl, HBR.out⟩
  case round =>
   clear HBR
   obtain ⟨j, hj, rfl, rfl, hb⟩ := hrel
   obtain ⟨wn, rfl⟩ : ∃ x, x = wr := ⟨_, rfl⟩
   have HBR := Lib.hid hb
   obtain ⟨n, hn⟩ : ∃ n, lo + j = n := ⟨_, rfl⟩
   obtain ⟨cv, hcv⟩ : ∃ cv, hitTo T lo c j = cv := ⟨_, rfl⟩
   rw [hn, hcv]
   have HCV := Lib.hid hcv
   have HNN := Lib.hid hn
   have c3 := (HAT.out.below hb).fields.2.2.2.1
   rw [HHI.out] at c3
   have HL := Lib.hid (TypAt.load (HAT.out.below hb))
   clear hb hcv
   by_cases hnm : n ≤ m
   rotate_left
   ·have hnn : decide ((n : Int) ≤ (m : Int)) = false := by simp; omega
    have hnn2 : decide (n ≤ m) = false := decide_eq_false hnm
    have HPV := Lib.hid (show P c = cv by rw [HPC.out, ← HCV.out, show m + 1 - lo = j by omega])
    clear HCV HNN HL hn
    rcases cv with _ | _
    ·have HN := Lib.hid (show strTo P (c + 1) = strTo P c by rw [HSU.out, HPV.out]; simp)
     go_wp2_with fail
     go_roundw
     case rel => exact ⟨c + 1, by omega, by go_num, by rw [HN.out], HBR.out⟩
     case measure => simp [intOf]; omega
    ·have HN := Lib.hid (show mkB (strTo P (c + 1)) = mkB (strTo P c) ++ mkB [chC c] by rw [HSU.out, HPV.out, mkB_app]; rfl)
     have hzs : (mkB (strTo P c)).size ≤ 1000 := by rw [mkB_size]; have := strTo_len P c; omega
     have hr5 := Lib.hid (run_byte (97 + (c : Int)) wn)
     have hC := run_conv1 wn (chC c) (97 + (c : Int)) HCH.out.symm
     have HB5 := Lib.hid (HBR.out.trans ((show Below wn.heap.size wn (wn.alloc (.cells #[.int .u8 (97 + (c : Int))] 5)) from by go_grown).mono HBR.out.size))
     have h1s : (mkB [chC c]).size = 1 := by rw [mkB_size]; rfl
     go_wp2_with (first
      | (apply wpList_bsl (T := 98) (n := 1) (hr := hr5.out); (· rfl); (· (simp only [List.map_toArray, List.map_cons, List.map_nil]; rfl)))
      | (refine wpList_cat rfl _ _ _ rfl rfl rfl (by rw [h1s]; omega) ?_))
     go_roundw
     case rel => exact ⟨c + 1, by omega, by go_num, by rw [HN.out], HB5.out⟩
     case measure => simp [intOf]; omega
   have hni : (n : Int) ≤ (m : Int) := by omega
   have HPL := Lib.hid (placesR_any T HSM.out HTS.out n (by omega) (by omega) wn)
   clear hn
   go_wp2_with (refine wpList_load_box rfl 71 _ rfl rfl HL.out ?_)
   refine HPL.out.mono ?_
   rintro e w4 ⟨fa, fc, rfl, hro, -, hb4⟩
   have HB4 := Lib.hid (HBR.out.trans (hb4.mono HBR.out.size))
   have HRO := Lib.hid hro
   clear HPL HL hb4 hro c3
   go_wp2_with fail
   go_loopw [9, 12] (fun sv kv wr => ∃ q : Nat, q ≤ n ∧ kv = .int .i64 q ∧ sv = .bool (cv || (List.range q).any fun p => livN T n p c) ∧ Below w4.heap.size w4 wr) (fun _ kv _ => n - (intOf kv).toNat)
   case atStart => exact ⟨0, Nat.zero_le _, rfl, by simp, Below.refl _ _⟩
   case round =>
    obtain ⟨q, hq, rfl, rfl, hb⟩ := hrel
    have HBQ := Lib.hid hb
    obtain ⟨dv, hdv⟩ : ∃ dv, (cv || (List.range q).any fun p => livN T n p c) = dv := ⟨_, rfl⟩
    rw [hdv]
    have HDV := Lib.hid hdv
    clear hdv
    by_cases hqn : q < n
    rotate_left
    ·have hqf : decide ((q : Int) < (n : Int)) = false := by simp; omega
     have hqf2 : decide (q < n) = false := decide_eq_false hqn
     have HN := Lib.hid (show hitTo T lo c (j + 1) = dv by
      unfold hitTo
      rw [any_range, ← HDV.out, ← HCV.out, HNN.out, show q = n by omega]; rfl)
     have hjw : IntKind.i64.wrap ((n : Int) + 1) = ((lo + (j + 1) : Nat) : Int) := by rw [IntWalk.i64_in _ (by omega)]; have := HNN.out; omega
     clear hb
     go_wp2_with fail
     go_roundw
     case rel => exact ⟨j + 1, by have := HNN.out; omega, by first | rfl | go_num, by rw [HN.out], HB4.out.trans (HBQ.out.mono HB4.out.size)⟩
     case measure => (have := HNN.out; simp [intOf]; omega)
    have hqi : (q : Int) < (n : Int) := by omega
    have hq0 : (0 : Int) ≤ (q : Int) := by omega
    rcases dv with _ | _
    rotate_left
    ·have HN := Lib.hid (show (cv || (List.range (q + 1)).any fun p => livN T n p c) = true by rw [any_range, ← Bool.or_assoc, HDV.out]; rfl)
     clear hb
     go_wp2_with fail
     go_roundw
     case rel => exact ⟨q + 1, by omega, by go_num, by rw [HN.out], HBQ.out⟩
     case measure => simp [intOf]; omega
    obtain ⟨X, hX⟩ : ∃ X, mkB (str (livN T n q)) = X := ⟨_, rfl⟩
    obtain ⟨g, go_, rfl, hgc⟩ := (HRO.out.below hb).row q (strV (str (livN T n q))) (by
     unfold placeTo
     rw [List.getElem?_map, List.getElem?_range hqn]; rfl)
    have cx : wr.cell? ⟨g, go_ + q, none⟩ = some (.string X) := by rw [← hX]; exact hgc
    have hXz : X.size ≤ 26 := by rw [← hX, mkB_size]; exact str_len _
    have hin := inR_any X (chC c) (by omega) wr
    rw [inL_ch hc26, ← hX, bl_mkB, has_str hc26, hX, HCH.out] at hin
    have HIN := Lib.hid hin
    have HN := Lib.hid (show (cv || (List.range (q + 1)).any fun p => livN T n p c) = livN T n q c by rw [any_range, ← Bool.or_assoc, HDV.out]; rfl)
    clear hb hX hgc hin
    obtain ⟨ev, hev⟩ : ∃ ev, livN T n q c = ev := ⟨_, rfl⟩
    rw [hev] at HIN HN
    clear hev
    go_wp2_with (refine HIN.out.mono ?_)
    rintro e wr ⟨rfl, rfl⟩
    clear HIN
    go_wp2_with fail
    go_roundw
    case rel => exact ⟨q + 1, by omega, by go_num, by rw [HN.out], HBQ.out⟩
    case measure => simp [intOf]; omega
end Go.Proofs.YthpjffhccjlnhaaGreatDoor
namespace Go.Proofs.YthpjffhccjlnhaaGreatDoor
open Go.RowKit
attribute [local go_sem] Oper.semAt_some

theorem any_ne {s : ByteArray} (hs : isSetB (bl s) = true) : s.toList.isEmpty = !(any26 (hasC (bl s))) := by
 rw [ByteArray.toList_eq]
 show (bl s).isEmpty = _
 rw [Bool.eq_iff_iff, List.isEmpty_iff, Bool.not_eq_true', any26_false]
 conv => lhs; rw [← str_has hs]
 exact str_nil
theorem wpList_load_on9 {P : Program} {ops : Array Oper} {rest : List Oper} {o : Oper} {a : Act} {w : World} {Q : Exit → Act → World → Prop} (hw : Region.wanted o (yielded ops a.tmps) = true) (ty : TypeId) (x : Operand) (ho : o.op = .load ty x) {p v : Value} (hx : a.eval x = p)
  (hr : (Instr.loadAt ty p).run P w = .ok v w) (h : wpList P ops Q rest (a.put o.dst v) w) : wpList P ops Q (o :: rest) a w := by
 unfold wpList
 rw [if_pos hw]
 exact .inl (wp_load_box ty x ho hx hr h)
structure DdSt (T : Typ) (g : Nat) (w W : World) : Prop where
 x : TypAt W g 0 T
 b : Below w.heap.size w W
theorem DdSt.below {T : Typ} {g : Nat} {w W W' : World} (h : DdSt T g w W) (hb : Below W.heap.size W W') : DdSt T g w W' := ⟨h.x.below hb, h.b.trans (hb.mono h.b.size)⟩
set_option maxRecDepth 100000 in
set_option maxHeartbeats 8000000 in
theorem deadR_any (a : Option Addr) (c : Nat) (l : List Typ) (i : Int) (w : World) (h : TypesAt w a l) (hs : ∀ t, t ∈ l → SmlT t) (hl : l.length ≤ 1000000) :
  Calls Tryz.prog 49 #[.slice a l.length c, .int .i64 i] w fun e w' => e = .returned (deadOut l i) ∧ Below w.heap.size w w' := by
 have hle := lettersR_any a c l i w h hs hl
 have HT := Lib.hid h
 have HS := Lib.hid hs
 clear h hs
 by_cases h0 : askedErr l i = 0
 rotate_left
 ·have HE : Hid (deadOut l i = .tuple #[.string ByteArray.empty, .int .i64 (askedErr l i)]) := Lib.hid (by unfold deadOut; rw [if_neg h0])
  have hne : (askedErr l i == 0) = false := by simpa using h0
  rw [show lettersOut l i = .tuple #[.string ByteArray.empty, .int .i64 (askedErr l i)] by unfold lettersOut; rw [if_neg h0]] at hle
  have HC := Lib.hid hle
  clear hle
  go_enter Tryz.func49, Tryz.ntmps49
  go_wp2_with (refine HC.out.mono ?_)
  rintro e w1 ⟨rfl, hb1⟩
  have HB1 := Lib.hid hb1
  clear hb1 HC
  go_wp2_with fail
  exact bodyPost_ret (results_tmp_tmp4 rfl) rfl ⟨by rw [HE.out]; rfl, HB1.out⟩
 obtain ⟨n1, T, rfl, ht1, hk1, hg1, hm1, hm12⟩ := asked_good h0
 have hsm := HS.out T (List.mem_of_getElem? ht1)
 obtain ⟨hts, -, -, -⟩ := typeB_good hg1
 obtain ⟨P, hP⟩ : ∃ P, lettersW T.kd T.m T.least = P := ⟨_, rfl⟩
 obtain ⟨U, hU⟩ : ∃ U, mkB (str P) = U := ⟨_, rfl⟩
 have HUB := Lib.hid (show bl U = str P by rw [← hU, bl_mkB])
 have hUz : U.size ≤ 26 := by rw [← hU, mkB_size]; exact str_len P
 rw [show lettersOut l n1 = .tuple #[.string U, .int .i64 0] by
  unfold lettersOut
  rw [if_pos h0, hk1, ← hU, ← hP]; rfl] at hle
 obtain ⟨D, hD⟩ : ∃ D, deadW T.kd T.m T.least = D := ⟨_, rfl⟩
 have HDD := Lib.hid (show ∀ c, D c = (namedW T.kd c && !P c) from fun c => by rw [← hD, ← hP]; rfl)
 have HE : Hid (deadOut l n1 = .tuple #[.string (mkB (str D)), .int .i64 0]) := Lib.hid (by
  unfold deadOut
  rw [if_pos h0, hk1, ← hD]; rfl)
 have HC := Lib.hid hle
 have HTS := Lib.hid hts
 have HAZ := Lib.hid hsm.after
 have hrz := hsm.rim
 have hbz := hsm.base
 have hn1 : (n1 : Int) < (l.length : Int) := by have := (List.getElem?_eq_some_iff.1 ht1).1; omega
 have hn10 : (0 : Int) ≤ (n1 : Int) := by omega
 have HT1 := Lib.hid ht1
 clear hle hk1 hg1 hm1 hm12 hts hsm ht1 h0 HS hP hU hD
 go_enter Tryz.func49, Tryz.ntmps49
 go_wp2_with (refine HC.out.mono ?_)
 rintro e w1 ⟨rfl, hb1⟩
 have HB1 := Lib.hid hb1
 obtain ⟨b, o, rfl, hat1⟩ := (HT.out.below hb1) n1 T HT1.out
 obtain ⟨wp, hwp⟩ : ∃ wp, w1.alloc (.cells (typCells typ0) 71) = wp := ⟨_, rfl⟩
 have bp : Box wp w1.heap.size (typCells typ0) 71 := by rw [← hwp]; exact Box.new _ _ _
 have hbp : Below w1.heap.size w1 wp := by rw [← hwp]; go_grown
 obtain ⟨W4, hst, hw4⟩ := run_store_all (P := Tryz.prog) agg_typ bp (typF T) (fun j _ => typF_one _ j)
 have ST := Lib.hid (show DdSt T w1.heap.size w W4 from ⟨Box.typ hw4.box, hw4.below (HB1.out.trans (hbp.mono HB1.out.size)) HB1.out.size⟩)
 have HST := Lib.hid hst
 have HWP := Lib.hid hwp
 have HL1 := Lib.hid (TypAt.load hat1)
 clear hb1 HC hat1 hwp bp hbp hst hw4
 go_upto_region 5 with (first
  | (refine wpList_load_box rfl 71 _ rfl rfl HL1.out ?_)
  | (simp only [ztyp, HWP.out]; refine wpList_store_box rfl 71 _ _ rfl rfl rfl HST.out ?_))
 obtain ⟨g, hg⟩ : ∃ g, w1.heap.size = g := ⟨_, rfl⟩
 rw [hg] at ST
 simp only [hg]
 clear HST HWP HL1 HB1 hg wp
 go_wp2_with fail
 go_loopw [9, 10, 11, 12] (fun xv cv _ _ wr => ∃ c : Nat, c ≤ 26 ∧ cv = .int .u8 (97 + (c : Int)) ∧ xv = .string (mkB (strTo D c)) ∧ DdSt T g w wr) (fun _ cv _ _ _ => 123 - (intOf cv).toNat)
 case atStart => exact ⟨0, by omega, rfl, rfl, ST.out⟩
 case round =>
  clear ST
  obtain ⟨c, hc, rfl, rfl, st⟩ := hrel
  obtain ⟨wa, rfl⟩ : ∃ x, x = wr := ⟨_, rfl⟩
  have ST := Lib.hid st
  by_cases hc26 : c < 26
  rotate_left
  ·have hcn : decide ((97 : Int) + (c : Int) ≤ 122) = false := by simp; omega
   have HNV := Lib.hid (show mkB (strTo D c) = mkB (str D) by rw [show c = 26 by omega]; rfl)
   clear st
   go_wp2_with fail
   exact bodyPost_ret (results_tmp_tmp4 rfl) rfl ⟨by rw [HE.out, ← HNV.out]; rfl, ST.out.b⟩
  have hci : (97 : Int) + (c : Int) ≤ 122 := by omega
  have hcw : IntKind.u8.wrap ((97 : Int) + (c : Int) + 1) = (97 : Int) + ((c + 1 : Nat) : Int) := by
   show ((97 : Int) + (c : Int) + 1) % 256 = _; omega
  have HCH := Lib.hid (show ((chC c).toNat : Int) = 97 + (c : Int) by rw [chC_nat hc26]; omega)
  have HSU := Lib.hid (strTo_succ D c)
  have c4 := st.x.fields.2.2.2.2.1
  have c5 := st.x.fields.2.2.2.2.2
  simp only [Nat.zero_add] at c4 c5
  have h1 := inR_any T.rim (chC c) (by omega) wa
  have h2 := inR_any T.base (chC c) (by omega) wa
  rw [inL_ch hc26, HCH.out] at h1 h2
  obtain ⟨r1, hr1⟩ : ∃ x, hasC (bl T.rim) c = x := ⟨_, rfl⟩
  obtain ⟨r2, hr2⟩ : ∃ x, hasC (bl T.base) c = x := ⟨_, rfl⟩
  rw [hr1] at h1
  rw [hr2] at h2
  have HI1 := Lib.hid h1
  have HI2 := Lib.hid h2
  have HR1 := Lib.hid (show T.kd.rim c = r1 from hr1)
  have HR2 := Lib.hid (show T.kd.base c = r2 from hr2)
  clear st h1 h2 hr1 hr2
  rcases r1 with _ | _
  rotate_left
  ·obtain ⟨nv, hnv⟩ : ∃ nv, true = nv := ⟨_, rfl⟩
   have HNV := Lib.hid (show (T.kd.rim c || T.kd.base c || any26 (T.kd.after c)) = nv by rw [← hnv, HR1.out]; simp)
   have HTN := Lib.hid hnv
   clear hnv
   go_wp2_with (refine HI1.out.mono ?_)
   rintro e wa ⟨rfl, rfl⟩
   clear HI1 HI2 c4 c5
   go_wp2_with fail
   go_loopw [11, 12] (fun sv kv wr => ∃ q : Nat, q ≤ 26 ∧ kv = .int .i64 q ∧ sv = .bool (nv || (List.range q).any fun e => T.kd.after e c) ∧ DdSt T g w wr) (fun _ kv _ => 26 - (intOf kv).toNat)
   case atStart => exact ⟨0, by omega, rfl, (by first | (simp; done) | (rw [← HTN.out]; simp)), ST.out⟩
   case round =>
    clear ST
    obtain ⟨q, hq, rfl, rfl, st⟩ := hrel
    have ST := Lib.hid st
    obtain ⟨dv, hdv⟩ : ∃ dv, (nv || (List.range q).any fun e => T.kd.after e c) = dv := ⟨_, rfl⟩
    rw [hdv]
    have HDV := Lib.hid hdv
    clear hdv
    by_cases hq26 : q < 26
    ·have hqi : (q : Int) < 26 := by omega
     have hq0 : (0 : Int) ≤ (q : Int) := by omega
     rcases dv with _ | _
     rotate_left
     ·have HN := Lib.hid (show (nv || (List.range (q + 1)).any fun e => T.kd.after e c) = true by rw [any_range, ← Bool.or_assoc, HDV.out]; rfl)
      clear st
      go_wp2_with fail
      go_roundw
      case rel => exact ⟨q + 1, by omega, by go_num, by rw [HN.out], ST.out⟩
      case measure => simp [intOf]; omega
     have f7 : wr.cell? ⟨g, 6 + q, none⟩ = some (.string (T.after q)) := by
      have := st.x (6 + q) (by omega)
      rw [Nat.zero_add] at this
      rw [this]; exact congrArg some (by rw [Nat.add_comm 6 q]; rfl)
     have haz := HAZ.out q hq26
     have hin := inR_any (T.after q) (chC c) (by omega) wr
     rw [inL_ch hc26, HCH.out] at hin
     obtain ⟨ev, hev⟩ : ∃ ev, hasC (bl (T.after q)) c = ev := ⟨_, rfl⟩
     rw [hev] at hin
     have HIN := Lib.hid hin
     have HN := Lib.hid (show (nv || (List.range (q + 1)).any fun e => T.kd.after e c) = ev by rw [any_range, ← Bool.or_assoc, HDV.out, ← hev]; rfl)
     clear st hin hev
     go_wp2_with (refine HIN.out.mono ?_)
     rintro e wr ⟨rfl, rfl⟩
     clear HIN
     go_wp2_with fail
     go_roundw
     case rel => exact ⟨q + 1, by omega, by go_num, by rw [HN.out], ST.out⟩
     case measure => simp [intOf]; omega
    have hqf : decide ((q : Int) < 26) = false := by simp; omega
    have HFV := Lib.hid (show namedW T.kd c = dv by
     rw [← HDV.out, show q = 26 by omega, ← HNV.out]
     show (T.kd.rim c || T.kd.base c || (any26 fun e => T.kd.after e c) || any26 (T.kd.after c)) = (_ || any26 fun e => T.kd.after e c)
     generalize (any26 fun e => T.kd.after e c) = x1
     generalize any26 (T.kd.after c) = x2
     generalize T.kd.rim c = x3
     generalize T.kd.base c = x4
     cases x1 <;> cases x2 <;> cases x3 <;> cases x4 <;> rfl)
    clear st HDV
    rcases dv with _ | _
    ·have HN := Lib.hid (show strTo D (c + 1) = strTo D c by rw [HSU.out, show D c = false by rw [HDD.out, HFV.out]; rfl]; simp)
     go_wp2_with fail
     go_roundw
     case rel => exact ⟨c + 1, by omega, by go_num, by rw [HN.out], ST.out⟩
     case measure => simp [intOf]; omega
    have hin := inR_any U (chC c) (by omega) wr
    rw [inL_ch hc26, HCH.out, HUB.out, has_str hc26] at hin
    obtain ⟨uv, huv⟩ : ∃ uv, P c = uv := ⟨_, rfl⟩
    rw [huv] at hin
    have HIN := Lib.hid hin
    have HDC := Lib.hid (show D c = !uv by rw [HDD.out, HFV.out, ← huv]; rfl)
    clear hin huv
    rcases uv with _ | _
    rotate_left
    ·have HN := Lib.hid (show strTo D (c + 1) = strTo D c by rw [HSU.out, HDC.out]; simp)
     go_wp2_with (refine HIN.out.mono ?_)
     rintro e wr ⟨rfl, rfl⟩
     clear HIN
     go_wp2_with fail
     go_roundw
     case rel => exact ⟨c + 1, by omega, by go_num, by rw [HN.out], ST.out⟩
     case measure => simp [intOf]; omega
    ·have HN := Lib.hid (show mkB (strTo D (c + 1)) = mkB (strTo D c) ++ mkB [chC c] by rw [HSU.out, HDC.out, mkB_app]; rfl)
     have hzs : (mkB (strTo D c)).size ≤ 1000 := by rw [mkB_size]; have := strTo_len D c; omega
     have h1s : (mkB [chC c]).size = 1 := by rw [mkB_size]; rfl
     go_wp2_with (refine HIN.out.mono ?_)
     rintro e wr ⟨rfl, rfl⟩
     clear HIN
     have hr5 := Lib.hid (run_byte (97 + (c : Int)) wr)
     have hC := run_conv1 wr (chC c) (97 + (c : Int)) HCH.out.symm
     have ST5 := Lib.hid (ST.out.below (show Below wr.heap.size wr (wr.alloc (.cells #[.int .u8 (97 + (c : Int))] 5)) from by go_grown))
     go_wp2_with (first
      | (apply wpList_bsl (T := 98) (n := 1) (hr := hr5.out); (· rfl); (· (simp only [List.map_toArray, List.map_cons, List.map_nil]; rfl)))
      | (refine wpList_cat rfl _ _ _ rfl rfl rfl (by rw [h1s]; omega) ?_))
     go_roundw
     case rel => exact ⟨c + 1, by omega, by go_num, by rw [HN.out], ST5.out⟩
     case measure => simp [intOf]; omega
  rcases r2 with _ | _
  rotate_left
  ·obtain ⟨nv, hnv⟩ : ∃ nv, true = nv := ⟨_, rfl⟩
   have HNV := Lib.hid (show (T.kd.rim c || T.kd.base c || any26 (T.kd.after c)) = nv by rw [← hnv, HR2.out]; simp)
   have HTN := Lib.hid hnv
   clear hnv
   go_wp2_with (refine HI1.out.mono ?_)
   rintro e wa ⟨rfl, rfl⟩
   go_wp2_with (refine HI2.out.mono ?_)
   rintro e wa ⟨rfl, rfl⟩
   clear HI1 HI2 c4 c5
   go_wp2_with fail
   go_loopw [11, 12] (fun sv kv wr => ∃ q : Nat, q ≤ 26 ∧ kv = .int .i64 q ∧ sv = .bool (nv || (List.range q).any fun e => T.kd.after e c) ∧ DdSt T g w wr) (fun _ kv _ => 26 - (intOf kv).toNat)
   case atStart => exact ⟨0, by omega, rfl, (by first | (simp; done) | (rw [← HTN.out]; simp)), ST.out⟩
   case round =>
    clear ST
    obtain ⟨q, hq, rfl, rfl, st⟩ := hrel
    have ST := Lib.hid st
    obtain ⟨dv, hdv⟩ : ∃ dv, (nv || (List.range q).any fun e => T.kd.after e c) = dv := ⟨_, rfl⟩
    rw [hdv]
    have HDV := Lib.hid hdv
    clear hdv
    by_cases hq26 : q < 26
    ·have hqi : (q : Int) < 26 := by omega
     have hq0 : (0 : Int) ≤ (q : Int) := by omega
     rcases dv with _ | _
     rotate_left
     ·have HN := Lib.hid (show (nv || (List.range (q + 1)).any fun e => T.kd.after e c) = true by rw [any_range, ← Bool.or_assoc, HDV.out]; rfl)
      clear st
      go_wp2_with fail
      go_roundw
      case rel => exact ⟨q + 1, by omega, by go_num, by rw [HN.out], ST.out⟩
      case measure => simp [intOf]; omega
     have f7 : wr.cell? ⟨g, 6 + q, none⟩ = some (.string (T.after q)) := by
      have := st.x (6 + q) (by omega)
      rw [Nat.zero_add] at this
      rw [this]; exact congrArg some (by rw [Nat.add_comm 6 q]; rfl)
     have haz := HAZ.out q hq26
     have hin := inR_any (T.after q) (chC c) (by omega) wr
     rw [inL_ch hc26, HCH.out] at hin
     obtain ⟨ev, hev⟩ : ∃ ev, hasC (bl (T.after q)) c = ev := ⟨_, rfl⟩
     rw [hev] at hin
     have HIN := Lib.hid hin
     have HN := Lib.hid (show (nv || (List.range (q + 1)).any fun e => T.kd.after e c) = ev by rw [any_range, ← Bool.or_assoc, HDV.out, ← hev]; rfl)
     clear st hin hev
     go_wp2_with (refine HIN.out.mono ?_)
     rintro e wr ⟨rfl, rfl⟩
     clear HIN
     go_wp2_with fail
     go_roundw
     case rel => exact ⟨q + 1, by omega, by go_num, by rw [HN.out], ST.out⟩
     case measure => simp [intOf]; omega
    have hqf : decide ((q : Int) < 26) = false := by simp; omega
    have HFV := Lib.hid (show namedW T.kd c = dv by
     rw [← HDV.out, show q = 26 by omega, ← HNV.out]
     show (T.kd.rim c || T.kd.base c || (any26 fun e => T.kd.after e c) || any26 (T.kd.after c)) = (_ || any26 fun e => T.kd.after e c)
     generalize (any26 fun e => T.kd.after e c) = x1
     generalize any26 (T.kd.after c) = x2
     generalize T.kd.rim c = x3
     generalize T.kd.base c = x4
     cases x1 <;> cases x2 <;> cases x3 <;> cases x4 <;> rfl)
    clear st HDV
    rcases dv with _ | _
    ·have HN := Lib.hid (show strTo D (c + 1) = strTo D c by rw [HSU.out, show D c = false by rw [HDD.out, HFV.out]; rfl]; simp)
     go_wp2_with fail
     go_roundw
     case rel => exact ⟨c + 1, by omega, by go_num, by rw [HN.out], ST.out⟩
     case measure => simp [intOf]; omega
    have hin := inR_any U (chC c) (by omega) wr
    rw [inL_ch hc26, HCH.out, HUB.out, has_str hc26] at hin
    obtain ⟨uv, huv⟩ : ∃ uv, P c = uv := ⟨_, rfl⟩
    rw [huv] at hin
    have HIN := Lib.hid hin
    have HDC := Lib.hid (show D c = !uv by rw [HDD.out, HFV.out, ← huv]; rfl)
    clear hin huv
    rcases uv with _ | _
    rotate_left
    ·have HN := Lib.hid (show strTo D (c + 1) = strTo D c by rw [HSU.out, HDC.out]; simp)
     go_wp2_with (refine HIN.out.mono ?_)
     rintro e wr ⟨rfl, rfl⟩
     clear HIN
     go_wp2_with fail
     go_roundw
     case rel => exact ⟨c + 1, by omega, by go_num, by rw [HN.out], ST.out⟩
     case measure => simp [intOf]; omega
    ·have HN := Lib.hid (show mkB (strTo D (c + 1)) = mkB (strTo D c) ++ mkB [chC c] by rw [HSU.out, HDC.out, mkB_app]; rfl)
     have hzs : (mkB (strTo D c)).size ≤ 1000 := by rw [mkB_size]; have := strTo_len D c; omega
     have h1s : (mkB [chC c]).size = 1 := by rw [mkB_size]; rfl
     go_wp2_with (refine HIN.out.mono ?_)
     rintro e wr ⟨rfl, rfl⟩
     clear HIN
     have hr5 := Lib.hid (run_byte (97 + (c : Int)) wr)
     have hC := run_conv1 wr (chC c) (97 + (c : Int)) HCH.out.symm
     have ST5 := Lib.hid (ST.out.below (show Below wr.heap.size wr (wr.alloc (.cells #[.int .u8 (97 + (c : Int))] 5)) from by go_grown))
     go_wp2_with (first
      | (apply wpList_bsl (T := 98) (n := 1) (hr := hr5.out); (· rfl); (· (simp only [List.map_toArray, List.map_cons, List.map_nil]; rfl)))
      | (refine wpList_cat rfl _ _ _ rfl rfl rfl (by rw [h1s]; omega) ?_))
     go_roundw
     case rel => exact ⟨c + 1, by omega, by go_num, by rw [HN.out], ST5.out⟩
     case measure => simp [intOf]; omega
  obtain ⟨nv, hnv⟩ : ∃ nv, any26 (T.kd.after c) = nv := ⟨_, rfl⟩
  have HNV := Lib.hid (show (T.kd.rim c || T.kd.base c || any26 (T.kd.after c)) = nv by rw [hnv, HR1.out, HR2.out]; rfl)
  have hae : (T.after c).toList.isEmpty = !nv := by
   rw [any_ne ((Typ.sets_iff.1 HTS.out).2.2 c hc26), ← hnv]; rfl
  have hnn : (!!nv) = nv := by cases nv <;> rfl
  have ha := afterR_any T (chC c) wa
  rw [show aftS T (chC c) = T.after c by
   unfold aftS
   rw [chC_nat hc26, if_pos (by omega), show 97 + c - 97 = c by omega], HCH.out] at ha
  have HAF := Lib.hid ha
  have HL := Lib.hid (TypAt.load ST.out.x)
  clear ha hnv
  go_wp2_with (refine HI1.out.mono ?_)
  rintro e wa ⟨rfl, rfl⟩
  go_wp2_with (refine HI2.out.mono ?_)
  rintro e wa ⟨rfl, rfl⟩
  go_wp2_with (refine wpList_load_on9 (by rfl) 71 _ rfl rfl HL.out ?_)
  refine HAF.out.mono ?_
  rintro e w5 ⟨rfl, hb5⟩
  have ST5 := Lib.hid (ST.out.below hb5)
  clear HI1 HI2 c4 c5 hb5 HAF HL ST
  have ST := ST5
  clear ST5
  go_upto_region 10 with fail
  clear hae
  go_wp2_with fail
  go_loopw [11, 12] (fun sv kv wr => ∃ q : Nat, q ≤ 26 ∧ kv = .int .i64 q ∧ sv = .bool (nv || (List.range q).any fun e => T.kd.after e c) ∧ DdSt T g w wr) (fun _ kv _ => 26 - (intOf kv).toNat)
  case atStart => exact ⟨0, by omega, rfl, (by first | (simp; done) | (rw [← HTN.out]; simp)), ST.out⟩
  case round =>
   clear ST
   obtain ⟨q, hq, rfl, rfl, st⟩ := hrel
   have ST := Lib.hid st
   obtain ⟨dv, hdv⟩ : ∃ dv, (nv || (List.range q).any fun e => T.kd.after e c) = dv := ⟨_, rfl⟩
   rw [hdv]
   have HDV := Lib.hid hdv
   clear hdv
   by_cases hq26 : q < 26
   ·have hqi : (q : Int) < 26 := by omega
    have hq0 : (0 : Int) ≤ (q : Int) := by omega
    rcases dv with _ | _
    rotate_left
    ·have HN := Lib.hid (show (nv || (List.range (q + 1)).any fun e => T.kd.after e c) = true by rw [any_range, ← Bool.or_assoc, HDV.out]; rfl)
     clear st
     go_wp2_with fail
     go_roundw
     case rel => exact ⟨q + 1, by omega, by go_num, by rw [HN.out], ST.out⟩
     case measure => simp [intOf]; omega
    have f7 : wr.cell? ⟨g, 6 + q, none⟩ = some (.string (T.after q)) := by
     have := st.x (6 + q) (by omega)
     rw [Nat.zero_add] at this
     rw [this]; exact congrArg some (by rw [Nat.add_comm 6 q]; rfl)
    have haz := HAZ.out q hq26
    have hin := inR_any (T.after q) (chC c) (by omega) wr
    rw [inL_ch hc26, HCH.out] at hin
    obtain ⟨ev, hev⟩ : ∃ ev, hasC (bl (T.after q)) c = ev := ⟨_, rfl⟩
    rw [hev] at hin
    have HIN := Lib.hid hin
    have HN := Lib.hid (show (nv || (List.range (q + 1)).any fun e => T.kd.after e c) = ev by rw [any_range, ← Bool.or_assoc, HDV.out, ← hev]; rfl)
    clear st hin hev
    go_wp2_with (refine HIN.out.mono ?_)
    rintro e wr ⟨rfl, rfl⟩
    clear HIN
    go_wp2_with fail
    go_roundw
    case rel => exact ⟨q + 1, by omega, by go_num, by rw [HN.out], ST.out⟩
    case measure => simp [intOf]; omega
   have hqf : decide ((q : Int) < 26) = false := by simp; omega
   have HFV := Lib.hid (show namedW T.kd c = dv by
    rw [← HDV.out, show q = 26 by omega, ← HNV.out]
    show (T.kd.rim c || T.kd.base c || (any26 fun e => T.kd.after e c) || any26 (T.kd.after c)) = (_ || any26 fun e => T.kd.after e c)
    generalize (any26 fun e => T.kd.after e c) = x1
    generalize any26 (T.kd.after c) = x2
    generalize T.kd.rim c = x3
    generalize T.kd.base c = x4
    cases x1 <;> cases x2 <;> cases x3 <;> cases x4 <;> rfl)
   clear st HDV
   rcases dv with _ | _
   ·have HN := Lib.hid (show strTo D (c + 1) = strTo D c by rw [HSU.out, show D c = false by rw [HDD.out, HFV.out]; rfl]; simp)
    go_wp2_with fail
    go_roundw
    case rel => exact ⟨c + 1, by omega, by go_num, by rw [HN.out], ST.out⟩
    case measure => simp [intOf]; omega
   have hin := inR_any U (chC c) (by omega) wr
   rw [inL_ch hc26, HCH.out, HUB.out, has_str hc26] at hin
   obtain ⟨uv, huv⟩ : ∃ uv, P c = uv := ⟨_, rfl⟩
   rw [huv] at hin
   have HIN := Lib.hid hin
   have HDC := Lib.hid (show D c = !uv by rw [HDD.out, HFV.out, ← huv]; rfl)
   clear hin huv
   rcases uv with _ | _
   rotate_left
   ·have HN := Lib.hid (show strTo D (c + 1) = strTo D c by rw [HSU.out, HDC.out]; simp)
    go_wp2_with (refine HIN.out.mono ?_)
    rintro e wr ⟨rfl, rfl⟩
    clear HIN
    go_wp2_with fail
    go_roundw
    case rel => exact ⟨c + 1, by omega, by go_num, by rw [HN.out], ST.out⟩
    case measure => simp [intOf]; omega
   ·have HN := Lib.hid (show mkB (strTo D (c + 1)) = mkB (strTo D c) ++ mkB [chC c] by rw [HSU.out, HDC.out, mkB_app]; rfl)
    have hzs : (mkB (strTo D c)).size ≤ 1000 := by rw [mkB_size]; have := strTo_len D c; omega
    have h1s : (mkB [chC c]).size = 1 := by rw [mkB_size]; rfl
    go_wp2_with (refine HIN.out.mono ?_)
    rintro e wr ⟨rfl, rfl⟩
    clear HIN
    have hr5 := Lib.hid (run_byte (97 + (c : Int)) wr)
    have hC := run_conv1 wr (chC c) (97 + (c : Int)) HCH.out.symm
    have ST5 := Lib.hid (ST.out.below (show Below wr.heap.size wr (wr.alloc (.cells #[.int .u8 (97 + (c : Int))] 5)) from by go_grown))
    go_wp2_with (first
     | (apply wpList_bsl (T := 98) (n := 1) (hr := hr5.out); (· rfl); (· (simp only [List.map_toArray, List.map_cons, List.map_nil]; rfl)))
     | (refine wpList_cat rfl _ _ _ rfl rfl rfl (by rw [h1s]; omega) ?_))
    go_roundw
    case rel => exact ⟨c + 1, by omega, by go_num, by rw [HN.out], ST5.out⟩
    case measure => simp [intOf]; omega
end Go.Proofs.YthpjffhccjlnhaaGreatDoor
