/- The reference: blank: sets show that a type and a shift have no fit. A type and rings that are as said. -/
import Derived.Test.YthpjffhccjlnhaaGreatDoorGRef13
set_option linter.unusedSimpArgs false
set_option linter.unusedVariables false
namespace Go.Proofs.YthpjffhccjlnhaaGreatDoor
open Go.RowKit
attribute [local go_sem] Oper.semAt_some

structure BkSt (B : Nat) (t : Typ) (ra : Option Addr) (r : List Rng) (sa : Option Addr) (S : List ByteArray) (w W : World) : Prop where
 x : TypAt W B 0 t
 r : RngsAt W ra r
 a : StrsAt W sa S
 b : Below w.heap.size w W
theorem BkSt.below {B : Nat} {t : Typ} {ra : Option Addr} {r : List Rng} {sa : Option Addr} {S : List ByteArray} {w W W' : World} (h : BkSt B t ra r sa S w W) (hb : Below W.heap.size W W') : BkSt B t ra r sa S w W' :=
 ⟨h.x.below hb, h.r.below hb, h.a.below hb, h.b.trans (hb.mono h.b.size)⟩
/-- what a set must have -/
def needB (t : Typ) (r : List Rng) (s : Nat) (S : List ByteArray) (p : Nat) : CS := fun c => !(beforeB t.kd S p c && cutOf r s p c) || hasC (setAt4 S p) c
theorem shownAt_eq (t : Typ) (r : List Rng) (s : Nat) (S : List ByteArray) (p : Nat) : shownAt t r s S p = (isSetB (setAt4 S p) && all26 (needB t r s S p) && !(decide (leastOf4 t r s ≤ ((p + 1 : Nat) : Int)) && any26 fun c => hasC (setAt4 S p) c && t.kd.base c)) := rfl
theorem need_no {t : Typ} {r : List Rng} {s : Nat} {S : List ByteArray} {p c : Nat} (hc : c < 26) (h : needB t r s S p c = false) : shownAt t r s S p = false := by
 rw [shownAt_eq, show all26 (needB t r s S p) = false by
  rw [Bool.eq_false_iff]; intro ha
  have := all26_iff.1 ha c hc
  rw [h] at this; cases this]
 simp
theorem comesL_eq {t : Typ} (ht : t.sets = true) {S : List ByteArray} {m : Nat} (hm : isSetB (setAt4 S m) = true) {c : Nat} (hc : c < 26) : (setAt4 S m).any (fun x => inL (bl (aftS t x)) (chC c)) = beforeB t.kd S (m + 1) c := comes_eq ht hm hc
theorem shownB_all {t : Typ} {r : List Rng} {s : Nat} {S : List ByteArray} (hl : S.length = t.m) (h : ∀ p, p < S.length → shownAt t r s S p = true) : shownB t r s S = true := by
 unfold shownB
 rw [Bool.and_eq_true]
 exact ⟨by simpa using hl, List.all_eq_true.2 fun p hp => h p (by simpa using hp)⟩
theorem shownB_len {t : Typ} {r : List Rng} {s : Nat} {S : List ByteArray} (hl : S.length ≠ t.m) : shownB t r s S = false := by
 unfold shownB
 rw [show (S.length == t.m) = false by simpa using hl]; rfl
set_option maxRecDepth 100000 in
set_option maxHeartbeats 8000000 in
theorem blankR_any (t : Typ) (hsm : SmlT t) (hts : t.sets = true) (h1 : 1 ≤ t.least) (hm12 : 0 ≤ t.most ∧ t.most ≤ 12) (ra : Option Addr) (rc : Nat) (r : List Rng) (hg : RgOk r) (s : Nat) (hs : s < shiftsOf t r) (hs1 : s ≤ 1000) (sa : Option Addr) (sc : Nat) (S : List ByteArray)
  (hS : ∀ x, x ∈ S → x.size ≤ 1000) (hl : S.length ≤ 1000000) (w : World) (hR : RngsAt w ra r) (hA : StrsAt w sa S) :
  Calls Tryz.prog 110 #[.agg (typCells t), .slice ra r.length rc, .int .i64 (s : Int), .slice sa S.length sc] w fun e w' => e = .returned (.bool (shownB t r s S)) ∧ Below w.heap.size w w' := by
 obtain ⟨w1, hw1⟩ : ∃ w1, w.alloc (.cells (typCells t) 71) = w1 := ⟨_, rfl⟩
 have b0 : TypAt w1 w.heap.size 0 t := by rw [← hw1]; exact Box.typ (Box.new _ _ _)
 have hB : Below w.heap.size w w1 := by rw [← hw1]; go_grown
 have ST := Lib.hid (show BkSt w.heap.size t ra r sa S w w1 from ⟨b0, hR.below hB, hA.below hB, hB⟩)
 have HW := Lib.hid hw1
 have HSM := Lib.hid hsm
 have HTS := Lib.hid hts
 have H1 := Lib.hid h1
 have HG := Lib.hid hg
 have HKS := Lib.hid hs
 have HSS := Lib.hid hS
 have c3 := b0.fields.2.2.2.1
 simp only [Nat.zero_add] at c3
 clear b0 hB hw1 hsm hts h1 hg hs hS hR hA
 by_cases hlen : (S.length : Int) = t.most
 rotate_left
 ·have hlb : ((S.length : Int) == t.most) = false := by simpa using hlen
  have HN := Lib.hid (shownB_len (r := r) (s := s) (S := S) (t := t) (by unfold Typ.m; omega))
  go_enter Tryz.func110, Tryz.ntmps110
  go_upto_region 1 with fail
  simp only [HW.out]
  go_wp2_with fail
  go_ret
  exact ⟨ret_bool HN.out.symm, ST.out.b⟩
 have hlb : ((S.length : Int) == t.most) = true := by simpa using hlen
 have hlb2 : ((S.length : Int) != t.most) = false := by simpa using hlen
 have HLE := Lib.hid hlen
 have HLM := Lib.hid (show S.length = t.m by unfold Typ.m; omega)
 have hS12 : S.length ≤ 12 := by omega
 clear hlen
 go_enter Tryz.func110, Tryz.ntmps110
 go_upto_region 1 with fail
 simp only [HW.out]
 go_wp2_with fail
 clear c3 hlb hlb2
 go_loopw [9, 10, 11, 12, 13] (fun pv _ _ _ _ wr => ∃ p : Nat, p ≤ S.length ∧ pv = .int .i64 p ∧ (∀ j, j < p → shownAt t r s S j = true) ∧ BkSt w.heap.size t ra r sa S w wr) (fun pv _ _ _ _ _ => S.length - (intOf pv).toNat)
 case atStart => exact ⟨0, Nat.zero_le _, rfl, fun j hj => absurd hj (Nat.not_lt_zero j), ST.out⟩
 case round =>
  clear ST HW w1
  obtain ⟨p, hp, rfl, hall, st⟩ := hrel
  have HALL := Lib.hid hall
  have ST := Lib.hid st
  clear hall st
  by_cases hlt : p < S.length
  rotate_left
  ·have hpn : decide ((p : Int) < (S.length : Int)) = false := by simp; omega
   have HY := Lib.hid (shownB_all HLM.out fun j hj => HALL.out j (by omega))
   go_wp2_with fail
   go_ret
   exact ⟨ret_bool HY.out.symm, ST.out.b⟩
  obtain ⟨x, hx⟩ : ∃ x, S[p]? = some x := ⟨S[p], by simp [hlt]⟩
  obtain ⟨b, o, rfl, hxc⟩ := ST.out.a p x hx
  have hxs := HSS.out x (List.mem_of_getElem? hx)
  have hsx : setAt4 S p = bl x := setAt4_at hx
  have hpi : (p : Int) < (S.length : Int) := by omega
  have hp0 : (0 : Int) ≤ (p : Int) := by omega
  have hpw : IntKind.i64.wrap ((p : Int) + 1) = (p : Int) + 1 := IntWalk.i64_in _ (by omega)
  have HX := Lib.hid hx
  have HSX := Lib.hid hsx
  clear hx hsx
  go_wp2_with fail
  clear hxc
  refine (classes2_any x _ (by omega)).mono ?_
  rintro e w5 ⟨rfl, hb⟩
  have ST5 := Lib.hid (ST.out.below hb)
  clear hb ST
  rcases hq : isSetB (bl x) with _ | _
  ·have HN := Lib.hid (shown_no hlt (show shownAt t r s S p = false by rw [shownAt_eq, HSX.out, hq]; rfl))
   go_wp2_with fail
   go_ret
   exact ⟨ret_bool HN.out.symm, ST5.out.b⟩
  have HQ := Lib.hid hq
  clear hq
  have c4 := ST5.out.x.fields.2.2.2.2.1
  simp only [Nat.zero_add] at c4
  go_wp2_with fail
  clear c4
  go_loopw [11, 12, 13] (fun cv _ _ wr => ∃ c : Nat, c ≤ 26 ∧ cv = .int .u8 (97 + (c : Int)) ∧ (∀ d, d < c → needB t r s S p d = true) ∧ BkSt w.heap.size t ra r (some ⟨b, o, none⟩) S w wr) (fun cv _ _ _ => 123 - (intOf cv).toNat)
  case atStart => exact ⟨0, by omega, rfl, fun d hd => absurd hd (Nat.not_lt_zero d), ST5.out⟩
  case round =>
   clear ST5 w5
   obtain ⟨c, hc, rfl, hnd, st⟩ := hrel
   have HND := Lib.hid hnd
   have ST := Lib.hid st
   clear hnd st
   by_cases hc26 : c < 26
   rotate_left
   ·have hcn : decide ((97 : Int) + (c : Int) ≤ 122) = false := by simp; omega
    have HALL26 := Lib.hid (show all26 (needB t r s S p) = true from all26_iff.2 fun d hd => HND.out d (by omega))
    have hxc := (ST.out.a p x HX.out)
    obtain ⟨b', o', he, hxc⟩ := hxc
    cases he
    have HXC := Lib.hid hxc
    have HWH := Lib.hid (fun W (hW : RngsAt W ra r) => wholeR_any t ra rc r s (p + 1) hs1 HG.out W hW)
    have hwq : wholeB t r s (p + 1) = decide (leastOf4 t r s ≤ ((p + 1 : Nat) : Int)) := by
     rw [whole_eq H1.out HKS.out, show decide (((p + 1 : Nat) : Int) ≤ t.most) = true from decide_eq_true (by have := HLE.out; omega), Bool.and_true]
    have HAT := Lib.hid (shownAt_eq t r s S p)
    rw [HSX.out, HQ.out, HALL26.out, ← hwq] at HAT
    have hpc : ((p + 1 : Nat) : Int) = (p : Int) + 1 := by omega
    rw [hpc] at HWH
    clear hxc hwq hc hpc
    rcases h3 : wholeB t r s (p + 1) with _ | _
    ·rw [h3] at HAT HWH
     go_wp2_with fail
     refine wp_region_heldB 16 [] (by kernel_rfl) (by kernel_rfl) (by kernel_rfl) (by simp) ?_
     intro S' hS
     have K0 := trivial
     have L1 := Lib.hid (fun A hA => TypAt.load (ST.out.x.below (hS A hA)))
     have HS := Lib.hid hS
     clear hS
     simp only [List.take_succ_cons, List.take_zero, List.drop_succ_cons, List.drop_zero]
     repeat (first
      | (refine held_load 71 _ (by rfl) rfl rfl L1.out ?_; try (dsimp only); try simp only [Act.put, List.setIfInBounds_toArray, List.set_cons_zero, List.set_cons_succ])
      | (refine held_not rfl (by rfl) ?_; try (dsimp only); try simp only [Act.put, List.setIfInBounds_toArray, List.set_cons_zero, List.set_cons_succ])
      | (refine held_val (v := ?_) rfl (by rfl) ?_ ?_; rotate_left; (· (intro W hW; go_simp; try with_reducible rfl)); try (dsimp only); try simp only [Act.put, List.setIfInBounds_toArray, List.set_cons_zero, List.set_cons_succ])
      | (refine held_skip rfl (by rfl) ?_ ?_; (· (intro W hW; go_simp; try with_reducible rfl)); try (dsimp only); try simp only [Act.put, List.setIfInBounds_toArray, List.set_cons_zero, List.set_cons_succ])
      | (refine held_call (v := .bool false) (f := 111) (args := #[.agg (typCells t), .slice ra r.length rc, .int .i64 (s : Int), .int .i64 ((p : Int) + 1)]) rfl (by rfl) ?_ ?_ ?_; (· (intro W hW; go_simp; done)); (· exact (fun W hW => HWH.out W (ST.out.r.below (HS.out W hW)))); try (dsimp only); try simp only [Act.put, List.setIfInBounds_toArray, List.set_cons_zero, List.set_cons_succ]))
     refine held_nil ?_
     intro τ hτ W2 hW hO
     obtain rfl := laid0 hτ
     have ST2 := Lib.hid (ST.out.below (HS.out W2 hW))
     clear hτ hO hW K0 HS L1
     simp only [overs, List.foldl_nil]
     go_wp2_with fail
     go_roundw
     case rel => exact ⟨p + 1, by omega, by go_num, all_step HALL.out HAT.out, ST2.out⟩
     case measure => simp [intOf]; omega
    ·obtain ⟨can, hcan⟩ : ∃ can, mkB (bothL (bl x) (bl t.base)) = can := ⟨_, rfl⟩
     have hce : can.toList.isEmpty = !(any26 fun c => hasC (bl x) c && t.kd.base c) := by
      rw [ByteArray.toList_eq, ← hcan]
      show (bl (mkB _)).isEmpty = _
      rw [bl_mkB]
      exact both_some HQ.out (Typ.sets_iff.1 HTS.out).2.1
     have HBT := Lib.hid (fun W => both_any x t.base (by omega) (by have := HSM.out.base; omega) W)
     rw [hcan] at HBT
     rw [h3] at HAT HWH
     clear hcan
     rcases h4 : any26 (fun c => hasC (bl x) c && t.kd.base c) with _ | _
     ·rw [h4] at HAT hce
      have hce' : can.toList.isEmpty = true := hce
      clear hce
      go_wp2_with fail
      refine wp_region_heldB 16 [] (by kernel_rfl) (by kernel_rfl) (by kernel_rfl) (by simp) ?_
      intro S' hS
      have k0 : ∀ A, S' A → A.cell? ⟨b, o + p, none⟩ = some (.string x) ∧ A.cell? ⟨w.heap.size, 5, none⟩ = some (.string t.base) := fun A hA => by
       have f := (ST.out.x.below (hS A hA)).fields.2.2.2.2.2
       rw [Nat.zero_add] at f
       exact ⟨below_cell (hS A hA) HXC.out, f⟩
      have K0 := Lib.hid k0
      have L1 := Lib.hid (fun A hA => TypAt.load (ST.out.x.below (hS A hA)))
      have HS := Lib.hid hS
      clear hS k0
      simp only [List.take_succ_cons, List.take_zero, List.drop_succ_cons, List.drop_zero]
      repeat (first
       | (refine held_load 71 _ (by rfl) rfl rfl L1.out ?_; try (dsimp only); try simp only [Act.put, List.setIfInBounds_toArray, List.set_cons_zero, List.set_cons_succ])
       | (refine held_not rfl (by rfl) ?_; try (dsimp only); try simp only [Act.put, List.setIfInBounds_toArray, List.set_cons_zero, List.set_cons_succ])
       | (refine held_val (v := ?_) rfl (by rfl) ?_ ?_; rotate_left; (· (intro W hW; obtain ⟨q0, q1⟩ := K0.out W hW; go_simp; try with_reducible rfl)); try (dsimp only); try simp only [Act.put, List.setIfInBounds_toArray, List.set_cons_zero, List.set_cons_succ])
       | (refine held_skip rfl (by rfl) ?_ ?_; (· (intro W hW; obtain ⟨q0, q1⟩ := K0.out W hW; go_simp; try with_reducible rfl)); try (dsimp only); try simp only [Act.put, List.setIfInBounds_toArray, List.set_cons_zero, List.set_cons_succ])
       | (refine held_call (v := .bool true) (f := 111) (args := #[.agg (typCells t), .slice ra r.length rc, .int .i64 (s : Int), .int .i64 ((p : Int) + 1)]) rfl (by rfl) ?_ ?_ ?_; (· (intro W hW; go_simp; done)); (· exact (fun W hW => HWH.out W (ST.out.r.below (HS.out W hW)))); try (dsimp only); try simp only [Act.put, List.setIfInBounds_toArray, List.set_cons_zero, List.set_cons_succ])
       | (refine held_call (v := .string can) (f := 84) (args := #[.string x, .string t.base]) rfl (by rfl) ?_ ?_ ?_; (· (intro W hW; go_simp; done)); (· exact (fun W hW => (HBT.out W).mono fun e w' h => ⟨h.1, h.2 ▸ Below.refl _ _⟩)); try (dsimp only); try simp only [Act.put, List.setIfInBounds_toArray, List.set_cons_zero, List.set_cons_succ]))
      refine held_nil ?_
      intro τ hτ W2 hW hO
      obtain rfl := laid0 hτ
      have ST2 := Lib.hid (ST.out.below (HS.out W2 hW))
      clear hτ hO hW K0 HS L1
      simp only [overs, List.foldl_nil]
      go_wp2_with fail
      go_roundw
      case rel => exact ⟨p + 1, by omega, by go_num, all_step HALL.out HAT.out, ST2.out⟩
      case measure => simp [intOf]; omega
     ·rw [h4] at HAT hce
      have hce' : can.toList.isEmpty = false := hce
      have HN := Lib.hid (shown_no hlt HAT.out)
      clear hce
      go_wp2_with fail
      refine wp_region_heldB 16 [] (by kernel_rfl) (by kernel_rfl) (by kernel_rfl) (by simp) ?_
      intro S' hS
      have k0 : ∀ A, S' A → A.cell? ⟨b, o + p, none⟩ = some (.string x) ∧ A.cell? ⟨w.heap.size, 5, none⟩ = some (.string t.base) := fun A hA => by
       have f := (ST.out.x.below (hS A hA)).fields.2.2.2.2.2
       rw [Nat.zero_add] at f
       exact ⟨below_cell (hS A hA) HXC.out, f⟩
      have K0 := Lib.hid k0
      have L1 := Lib.hid (fun A hA => TypAt.load (ST.out.x.below (hS A hA)))
      have HS := Lib.hid hS
      clear hS k0
      simp only [List.take_succ_cons, List.take_zero, List.drop_succ_cons, List.drop_zero]
      repeat (first
       | (refine held_load 71 _ (by rfl) rfl rfl L1.out ?_; try (dsimp only); try simp only [Act.put, List.setIfInBounds_toArray, List.set_cons_zero, List.set_cons_succ])
       | (refine held_not rfl (by rfl) ?_; try (dsimp only); try simp only [Act.put, List.setIfInBounds_toArray, List.set_cons_zero, List.set_cons_succ])
       | (refine held_val (v := ?_) rfl (by rfl) ?_ ?_; rotate_left; (· (intro W hW; obtain ⟨q0, q1⟩ := K0.out W hW; go_simp; try with_reducible rfl)); try (dsimp only); try simp only [Act.put, List.setIfInBounds_toArray, List.set_cons_zero, List.set_cons_succ])
       | (refine held_skip rfl (by rfl) ?_ ?_; (· (intro W hW; obtain ⟨q0, q1⟩ := K0.out W hW; go_simp; try with_reducible rfl)); try (dsimp only); try simp only [Act.put, List.setIfInBounds_toArray, List.set_cons_zero, List.set_cons_succ])
       | (refine held_call (v := .bool true) (f := 111) (args := #[.agg (typCells t), .slice ra r.length rc, .int .i64 (s : Int), .int .i64 ((p : Int) + 1)]) rfl (by rfl) ?_ ?_ ?_; (· (intro W hW; go_simp; done)); (· exact (fun W hW => HWH.out W (ST.out.r.below (HS.out W hW)))); try (dsimp only); try simp only [Act.put, List.setIfInBounds_toArray, List.set_cons_zero, List.set_cons_succ])
       | (refine held_call (v := .string can) (f := 84) (args := #[.string x, .string t.base]) rfl (by rfl) ?_ ?_ ?_; (· (intro W hW; go_simp; done)); (· exact (fun W hW => (HBT.out W).mono fun e w' h => ⟨h.1, h.2 ▸ Below.refl _ _⟩)); try (dsimp only); try simp only [Act.put, List.setIfInBounds_toArray, List.set_cons_zero, List.set_cons_succ]))
      refine held_nil ?_
      intro τ hτ W2 hW hO
      obtain rfl := laid0 hτ
      have ST2 := Lib.hid (ST.out.below (HS.out W2 hW))
      clear hτ hO hW K0 HS L1
      simp only [overs, List.foldl_nil]
      go_wp2_with fail
      go_ret
      exact ⟨ret_bool HN.out.symm, ST2.out.b⟩
   have hci : (97 : Int) + (c : Int) ≤ 122 := by omega
   have hcw : IntKind.u8.wrap ((97 : Int) + (c : Int) + 1) = (97 : Int) + ((c + 1 : Nat) : Int) := by
    show ((97 : Int) + (c : Int) + 1) % 256 = _; omega
   have hch : ((chC c).toNat : Int) = 97 + (c : Int) := by rw [chC_nat hc26]; omega
   have HIR := Lib.hid (fun W => inR_any t.rim (chC c) (by have := HSM.out.rim; omega) W)
   have HRG := Lib.hid (fun W (hW : RngsAt W ra r) => ringR_any ra rc r s p hs1 HG.out W hW)
   have hrz : (ringS r s p).size ≤ 1000000 := set_size (ringS_set HG.out.set s p)
   have HIG := Lib.hid (fun W => inR_any (ringS r s p) (chC c) hrz W)
   have HIX := Lib.hid (fun W => inR_any x (chC c) (by omega) W)
   rw [hch, inL_ch hc26] at HIR HIX
   rw [hch, inL_ch hc26, ringS_cut _ _ _ hc26] at HIG
   obtain ⟨b', o', he, hxc⟩ := ST.out.a p x HX.out
   cases he
   have HNE := Lib.hid (show needB t r s S p c = (!(beforeB t.kd S p c && cutOf r s p c) || hasC (bl x) c) by unfold needB; rw [HSX.out])
   clear hrz
   go_wp2_with (refine (HIR.out _).mono ?_)
   rintro e w6 ⟨rfl, rfl⟩
   rcases Nat.eq_zero_or_pos p with hpz | hpz
   ·have hpp : decide ((0 : Int) < (p : Int)) = false := by simp; omega
    have hpp2 : decide (0 < p) = false := decide_eq_false (by omega)
    obtain ⟨cv, hcv⟩ : ∃ cv, hasC (bl t.rim) c = cv := ⟨_, rfl⟩
    have HCV := Lib.hid (show cv = beforeB t.kd S p c by rw [← hcv, hpz]; rfl)
    rw [hcv]
    clear hcv hpz
    rcases cv with _ | _
    ·rw [← HCV.out] at HNE
     go_wp2_with fail
     go_roundw
     case rel => exact ⟨c + 1, by omega, by go_num, all_step HND.out HNE.out, ST.out⟩
     case measure => simp [intOf]; omega
    ·rw [← HCV.out] at HNE
     have HRR := Lib.hid (HRG.out _ ST.out.r)
     go_wp2_with (refine HRR.out.mono ?_)
     rintro e w8 ⟨rfl, rfl⟩
     clear HRR
     rcases hq1 : cutOf r s p c with _ | _
     ·rw [hq1] at HIG HNE
      go_wp2_with (refine (HIG.out _).mono ?_)
      rintro e w9 ⟨rfl, rfl⟩
      go_wp2_with fail
      go_roundw
      case rel => exact ⟨c + 1, by omega, by go_num, all_step HND.out HNE.out, ST.out⟩
      case measure => simp [intOf]; omega
     ·rw [hq1] at HIG HNE
      go_wp2_with (refine (HIG.out _).mono ?_)
      rintro e w9 ⟨rfl, rfl⟩
      rcases hq2 : hasC (bl x) c with _ | _
      ·rw [hq2] at HIX HNE
       have HN := Lib.hid (shown_no hlt (need_no hc26 HNE.out))
       go_wp2_with (refine (HIX.out _).mono ?_)
       rintro e w9 ⟨rfl, rfl⟩
       go_wp2_with fail
       go_ret
       exact ⟨ret_bool HN.out.symm, ST.out.b⟩
      ·rw [hq2] at HIX HNE
       go_wp2_with (refine (HIX.out _).mono ?_)
       rintro e w9 ⟨rfl, rfl⟩
       go_wp2_with fail
       go_roundw
       case rel => exact ⟨c + 1, by omega, by go_num, all_step HND.out HNE.out, ST.out⟩
       case measure => simp [intOf]; omega
   ·obtain ⟨m, hm⟩ : ∃ m, p = m + 1 := ⟨p - 1, by omega⟩
    have hpp : decide ((0 : Int) < (p : Int)) = true := by simp; omega
    have hpp2 : decide (0 < p) = true := decide_eq_true (by omega)
    have hmw : IntKind.i64.wrap ((p : Int) - 1) = (m : Int) := by rw [IntWalk.i64_in _ (by omega)]; omega
    have hmi : (m : Int) < (S.length : Int) := by omega
    have hm0 : (0 : Int) ≤ (m : Int) := by omega
    obtain ⟨y, hy⟩ : ∃ y, S[m]? = some y := ⟨S[m]'(by omega), by simp [show m < S.length by omega]⟩
    have hys := HSS.out y (List.mem_of_getElem? hy)
    have hsy : setAt4 S m = bl y := setAt4_at hy
    have hiy : isSetB (bl y) = true := by
     have h := HALL.out m (by omega)
     rw [shownAt_eq, hsy] at h
     simp only [Bool.and_eq_true] at h
     exact h.1.1
    have HCO := Lib.hid (show (bl y).any (fun x => inL (bl (aftS t x)) (chC c)) = beforeB t.kd S p c by
     rw [hm, ← comesL_eq HTS.out (by rw [hsy]; exact hiy) hc26, hsy])
    have HMM := Lib.hid (show m < S.length by omega)
    clear hm
    obtain ⟨b', o', he, hyc⟩ := ST.out.a m y hy
    cases he
    have HY := Lib.hid hy
    clear hsy hiy hyc hxc hy
    go_wp2_with fail
    go_loopw [12, 13] (fun lv qv wr => ∃ q : Nat, q ≤ y.size ∧ qv = .int .i64 q ∧ lv = .bool (((bl y).take q).any fun x => inL (bl (aftS t x)) (chC c)) ∧ BkSt w.heap.size t ra r (some ⟨b, o, none⟩) S w wr) (fun _ qv _ => y.size - (intOf qv).toNat)
    case atStart => exact ⟨0, by omega, rfl, rfl, ST.out⟩
    case round =>
     clear ST
     obtain ⟨q, hq, rfl, rfl, st⟩ := hrel
     have ST := Lib.hid st
     clear st
     obtain ⟨cv, hlv⟩ : ∃ lv, (((bl y).take q).any fun x => inL (bl (aftS t x)) (chC c)) = lv := ⟨_, rfl⟩
     rw [hlv]
     have HLV := Lib.hid hlv
     clear hlv
     obtain ⟨b', o', he, hxc⟩ := ST.out.a p x HX.out
     cases he
     obtain ⟨b', o', he, hyc⟩ := ST.out.a m y HY.out
     cases he
     by_cases hql : q < y.size
     ·obtain ⟨z, hz⟩ : ∃ z, y[q] = z := ⟨_, rfl⟩
      have hbz : (bl y)[q]? = some z := by rw [bl_at _ hql, hz]
      have HT := Lib.hid (any_take (fun x => inL (bl (aftS t x)) (chC c)) hbz)
      have hqi : (q : Int) < (y.size : Int) := by omega
      have hq0 : (0 : Int) ≤ (q : Int) := by omega
      have HAF := Lib.hid (fun W => afterR_any t z W)
      have hasz : (aftS t z).size ≤ 1000000 := by
       unfold aftS
       split
       ·have := HSM.out.after (z.toNat - 97) (by omega); omega
       ·exact Nat.zero_le _
      have HIN := Lib.hid (fun W => inR_any (aftS t z) (chC c) hasz W)
      rw [hch] at HIN
      have HYC := Lib.hid hyc
      clear hbz hasz
      rcases cv with _ | _
      ·go_wp2_with fail
       clear hyc hxc
       refine wp_region_heldB 14 [] (by kernel_rfl) (by kernel_rfl) (by kernel_rfl) (by simp) ?_
       intro S' hS
       have k0 : ∀ A, S' A → A.cell? ⟨b, o + m, none⟩ = some (.string y) := fun A hA => below_cell (hS A hA) HYC.out
       have K0 := Lib.hid k0
       have L1 := Lib.hid (fun A hA => TypAt.load (ST.out.x.below (hS A hA)))
       have HS := Lib.hid hS
       clear hS k0
       simp only [List.take_succ_cons, List.take_zero, List.drop_succ_cons, List.drop_zero]
       repeat (first
        | (refine held_load 71 _ (by rfl) rfl rfl L1.out ?_; try (dsimp only); try simp only [Act.put, List.setIfInBounds_toArray, List.set_cons_zero, List.set_cons_succ])
        | (refine held_not rfl (by rfl) ?_; try (dsimp only); try simp only [Act.put, List.setIfInBounds_toArray, List.set_cons_zero, List.set_cons_succ])
        | (refine held_val (v := ?_) rfl (by rfl) ?_ ?_; rotate_left; (· (intro W hW; have q0 := K0.out W hW; go_simp; try with_reducible rfl)); try (dsimp only); try simp only [Act.put, List.setIfInBounds_toArray, List.set_cons_zero, List.set_cons_succ])
        | (refine held_skip rfl (by rfl) ?_ ?_; (· (intro W hW; have q0 := K0.out W hW; go_simp; try with_reducible rfl)); try (dsimp only); try simp only [Act.put, List.setIfInBounds_toArray, List.set_cons_zero, List.set_cons_succ])
        | (refine held_call (v := .string (aftS t z)) (f := 85) (args := #[.agg (typCells t), .int .u8 z.toNat]) rfl (by rfl) ?_ ?_ ?_; (· (intro W hW; go_simp; done)); (· exact (fun W hW => HAF.out W)); try (dsimp only); try simp only [Act.put, List.setIfInBounds_toArray, List.set_cons_zero, List.set_cons_succ])
        | (refine held_call (v := .bool (inL (bl (aftS t z)) (chC c))) (f := 37) (args := #[.string (aftS t z), .int .u8 (97 + (c : Int))]) rfl (by rfl) ?_ ?_ ?_; (· (intro W hW; go_simp; done)); (· exact (fun W hW => (HIN.out W).mono fun e w' h => ⟨h.1, h.2 ▸ Below.refl _ _⟩)); try (dsimp only); try simp only [Act.put, List.setIfInBounds_toArray, List.set_cons_zero, List.set_cons_succ]))
       refine held_nil ?_
       intro τ hτ W2 hW hO
       obtain rfl := laid0 hτ
       have ST2 := Lib.hid (ST.out.below (HS.out W2 hW))
       clear hτ hO hW K0 HS L1 ST
       simp only [overs, List.foldl_nil]
       go_wp2_with fail
       go_roundw
       case rel => exact ⟨q + 1, by omega, by go_num, by rw [HT.out, HLV.out]; rfl, ST2.out⟩
       case measure => simp [intOf]; omega
      ·go_wp2_with fail
       clear hyc hxc
       refine wp_region_heldB 14 [] (by kernel_rfl) (by kernel_rfl) (by kernel_rfl) (by simp) ?_
       intro S' hS
       have K0 := trivial
       have HS := Lib.hid hS
       clear hS
       simp only [List.take_succ_cons, List.take_zero, List.drop_succ_cons, List.drop_zero]
       repeat (first
        | (refine held_not rfl (by rfl) ?_; try (dsimp only); try simp only [Act.put, List.setIfInBounds_toArray, List.set_cons_zero, List.set_cons_succ])
        | (refine held_val (v := ?_) rfl (by rfl) ?_ ?_; rotate_left; (· (intro W hW; go_simp; try with_reducible rfl)); try (dsimp only); try simp only [Act.put, List.setIfInBounds_toArray, List.set_cons_zero, List.set_cons_succ])
        | (refine held_skip rfl (by rfl) ?_ ?_; (· (intro W hW; go_simp; try with_reducible rfl)); try (dsimp only); try simp only [Act.put, List.setIfInBounds_toArray, List.set_cons_zero, List.set_cons_succ]))
       refine held_nil ?_
       intro τ hτ W2 hW hO
       obtain rfl := laid0 hτ
       have ST2 := Lib.hid (ST.out.below (HS.out W2 hW))
       clear hτ hO hW K0 HS ST
       simp only [overs, List.foldl_nil]
       go_wp2_with fail
       go_roundw
       case rel => exact ⟨q + 1, by omega, by go_num, by rw [HT.out, HLV.out]; rfl, ST2.out⟩
       case measure => simp [intOf]; omega
     ·have hqn : decide ((q : Int) < (y.size : Int)) = false := by simp; omega
      have HCV := Lib.hid (show cv = beforeB t.kd S p c by rw [← HCO.out, ← HLV.out, List.take_of_length_le (by rw [bl_len]; omega)])
      clear HLV HCO
      rcases cv with _ | _
      ·rw [← HCV.out] at HNE
       go_wp2_with fail
       go_roundw
       case rel => exact ⟨c + 1, by omega, by go_num, all_step HND.out HNE.out, ST.out⟩
       case measure => simp [intOf]; omega
      ·rw [← HCV.out] at HNE
       have HRR := Lib.hid (HRG.out _ ST.out.r)
       go_wp2_with (refine HRR.out.mono ?_)
       rintro e w8 ⟨rfl, rfl⟩
       clear HRR
       rcases hq1 : cutOf r s p c with _ | _
       ·rw [hq1] at HIG HNE
        go_wp2_with (refine (HIG.out _).mono ?_)
        rintro e w9 ⟨rfl, rfl⟩
        go_wp2_with fail
        go_roundw
        case rel => exact ⟨c + 1, by omega, by go_num, all_step HND.out HNE.out, ST.out⟩
        case measure => simp [intOf]; omega
       ·rw [hq1] at HIG HNE
        go_wp2_with (refine (HIG.out _).mono ?_)
        rintro e w9 ⟨rfl, rfl⟩
        rcases hq2 : hasC (bl x) c with _ | _
        ·rw [hq2] at HIX HNE
         have HN := Lib.hid (shown_no hlt (need_no hc26 HNE.out))
         go_wp2_with (refine (HIX.out _).mono ?_)
         rintro e w9 ⟨rfl, rfl⟩
         go_wp2_with fail
         go_ret
         exact ⟨ret_bool HN.out.symm, ST.out.b⟩
        ·rw [hq2] at HIX HNE
         go_wp2_with (refine (HIX.out _).mono ?_)
         rintro e w9 ⟨rfl, rfl⟩
         go_wp2_with fail
         go_roundw
         case rel => exact ⟨c + 1, by omega, by go_num, all_step HND.out HNE.out, ST.out⟩
         case measure => simp [intOf]; omega
end Go.Proofs.YthpjffhccjlnhaaGreatDoor
