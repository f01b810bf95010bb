/- The reference: blank: sets show that a type and a shift have no fit. A type and rings that are as said. -/
/- The reference: CheckBlanks. No condition but that the blanks are small. -/
/- The law's slight; what the plain functions of a fit and of blanks say together. No condition. -/
import Derived.Test.YthpjffhccjlnhaaGreatDoorMG22
import Derived.Test.YthpjffhccjlnhaaGreatDoorMG19
set_option linter.unusedSimpArgs false
set_option linter.unusedVariables false
namespace Go.Proofs.YthpjffhccjlnhaaGreatDoor
open Go.RowKit
attribute [local go_sem] Oper.semAt_some

structure BkSt (B : Nat) (t : Typ) (ra : Option Addr) (r : List Rng) (sa : Option Addr) (S : List ByteArray) (w W : World) : Prop where
 x : TypAt W B 0 t
 r : RngsAt W ra r
 a : StrsAt W sa S
 b : Below w.heap.size w W
theorem BkSt.below {B : Nat} {t : Typ} {ra : Option Addr} {r : List Rng} {sa : Option Addr} {S : List ByteArray} {w W W' : World} (h : BkSt B t ra r sa S w W) (hb : Below W.heap.size W W') : BkSt B t ra r sa S w W' :=
 ⟨h.x.below hb, h.r.below hb, h.a.below hb, h.b.trans (hb.mono h.b.size)⟩
/-- what a set must have -/
def needB (t : Typ) (r : List Rng) (s : Nat) (S : List ByteArray) (p : Nat) : CS := fun c => !(beforeB t.kd S p c && cutOf r s p c) || hasC (setAt4 S p) c
theorem shownAt_eq (t : Typ) (r : List Rng) (s : Nat) (S : List ByteArray) (p : Nat) : shownAt t r s S p = (isSetB (setAt4 S p) && all26 (needB t r s S p) && !(decide (leastOf4 t r s ≤ ((p + 1 : Nat) : Int)) && any26 fun c => hasC (setAt4 S p) c && t.kd.base c)) := rfl
theorem need_no {t : Typ} {r : List Rng} {s : Nat} {S : List ByteArray} {p c : Nat} (hc : c < 26) (h : needB t r s S p c = false) : shownAt t r s S p = false := by
 rw [shownAt_eq, show all26 (needB t r s S p) = false by
  rw [Bool.eq_false_iff]; intro ha
  have := all26_iff.1 ha c hc
  rw [h] at this; cases this]
 simp
theorem comesL_eq {t : Typ} (ht : t.sets = true) {S : List ByteArray} {m : Nat} (hm : isSetB (setAt4 S m) = true) {c : Nat} (hc : c < 26) : (setAt4 S m).any (fun x => inL (bl (aftS t x)) (chC c)) = beforeB t.kd S (m + 1) c := comes_eq ht hm hc
theorem shownB_all {t : Typ} {r : List Rng} {s : Nat} {S : List ByteArray} (hl : S.length = t.m) (h : ∀ p, p < S.length → shownAt t r s S p = true) : shownB t r s S = true := by
 unfold shownB
 rw [Bool.and_eq_true]
 exact ⟨by simpa using hl, List.all_eq_true.2 fun p hp => h p (by simpa using hp)⟩
theorem shownB_len {t : Typ} {r : List Rng} {s : Nat} {S : List ByteArray} (hl : S.length ≠ t.m) : shownB t r s S = false := by
 unfold shownB
 rw [show (S.length == t.m) = false by simpa using hl]; rfl
set_option maxRecDepth 100000 in
set_option maxHeartbeats 8000000 in
theorem blankR_any (t : Typ) (hsm : SmlT t) (hts : t.sets = true) (h1 : 1 ≤ t.least) (hm12 : 0 ≤ t.most ∧ t.most ≤ 12) (ra : Option Addr) (rc : Nat) (r : List Rng) (hg : RgOk r) (s : Nat) (hs : s < shiftsOf t r) (hs1 : s ≤ 1000) (sa : Option Addr) (sc : Nat) (S : List ByteArray)
  (hS : ∀ x, x ∈ S → x.size ≤ 1000) (hl : S.length ≤ 1000000) (w : World) (hR : RngsAt w ra r) (hA : StrsAt w sa S) :
  Calls Tryz.prog 110 #[.agg (typCells t), .slice ra r.length rc, .int .i64 (s : Int), .slice sa S.length sc] w fun e w' => e = .returned (.bool (shownB t r s S)) ∧ Below w.heap.size w w' := by
 obtain ⟨w1, hw1⟩ : ∃ w1, w.alloc (.cells (typCells t) 71) = w1 := ⟨_, rfl⟩
 have b0 : TypAt w1 w.heap.size 0 t := by rw [← hw1]; exact Box.typ (Box.new _ _ _)
 have hB : Below w.heap.size w w1 := by rw [← hw1]; go_grown
 have ST := Lib.hid (show BkSt w.heap.size t ra r sa S w w1 from ⟨b0, hR.below hB, hA.below hB, hB⟩)
 have HW := Lib.hid hw1
 have HSM := Lib.hid hsm
 have HTS := Lib.hid hts
 have H1 := Lib.hid h1
 have HG := Lib.hid hg
 have HKS := Lib.hid hs
 have HSS := Lib.hid hS
 have c3 := b0.fields.2.2.2.1
 simp only [Nat.zero_add] at c3
 clear b0 hB hw1 hsm hts h1 hg hs hS hR hA
 by_cases hlen : (S.length : Int) = t.most
 rotate_left
 ·have hlb : ((S.length : Int) == t.most) = false := by simpa using hlen
  have HN := Lib.hid (shownB_len (r := r) (s := s) (S := S) (t := t) (by unfold Typ.m; omega))
  go_enter Tryz.func110, Tryz.ntmps110
  go_upto_region 1 with fail
  simp only [HW.out]
  go_wp2_with fail
  go_ret
  exact ⟨ret_bool HN.out.symm, ST.out.b⟩
 have hlb : ((S.length : Int) == t.most) = true := by simpa using hlen
 have hlb2 : ((S.length : Int) != t.most) = false := by simpa using hlen
 have HLE := Lib.hid hlen
 have HLM := Lib.hid (show S.length = t.m by unfold Typ.m; omega)
 have hS12 : S.length ≤ 12 := by omega
 clear hlen
 go_enter Tryz.func110, Tryz.ntmps110
 go_upto_region 1 with fail
 simp only [HW.out]
 go_wp2_with fail
 clear c3 hlb hlb2
 go_loopw [9, 10, 11, 12, 13] (fun pv _ _ _ _ wr => ∃ p : Nat, p ≤ S.length ∧ pv = .int .i64 p ∧ (∀ j, j < p → shownAt t r s S j = true) ∧ BkSt w.heap.size t ra r sa S w wr) (fun pv _ _ _ _ _ => S.length - (intOf pv).toNat)
 case atStart => exact ⟨0, Nat.zero_le _, rfl, fun j hj => absurd hj (Nat.not_lt_zero j), ST.out⟩
 case round =>
  clear ST HW w1
  obtain ⟨p, hp, rfl, hall, st⟩ := hrel
  have HALL := Lib.hid hall
  have ST := Lib.hid st
  clear hall st
  by_cases hlt : p < S.length
  rotate_left
  ·have hpn : decide ((p : Int) < (S.length : Int)) = false := by simp; omega
   have HY := Lib.hid (shownB_all HLM.out fun j hj => HALL.out j (by omega))
   go_wp2_with fail
   go_ret
   exact ⟨ret_bool HY.out.symm, ST.out.b⟩
  obtain ⟨x, hx⟩ : ∃ x, S[p]? = some x := ⟨S[p], by simp [hlt]⟩
  obtain ⟨b, o, rfl, hxc⟩ := ST.out.a p x hx
  have hxs := HSS.out x (List.mem_of_getElem? hx)
  have hsx : setAt4 S p = bl x := setAt4_at hx
  have hpi : (p : Int) < (S.length : Int) := by omega
  have hp0 : (0 : Int) ≤ (p : Int) := by omega
  have hpw : IntKind.i64.wrap ((p : Int) + 1) = (p : Int) + 1 := IntWalk.i64_in _ (by omega)
  have HX := Lib.hid hx
  have HSX := Lib.hid hsx
  clear hx hsx
  go_wp2_with fail
  clear hxc
  refine (classes2_any x _ (by omega)).mono ?_
  rintro e w5 ⟨rfl, hb⟩
  have ST5 := Lib.hid (ST.out.below hb)
  clear hb ST
  rcases hq : isSetB (bl x) with _ | _
  ·have HN := Lib.hid (shown_no hlt (show shownAt t r s S p = false by rw [shownAt_eq, HSX.out, hq]; rfl))
   go_wp2_with fail
   go_ret
   exact ⟨ret_bool HN.out.symm, ST5.out.b⟩
  have HQ := Lib.hid hq
  clear hq
  have c4 := ST5.out.x.fields.2.2.2.2.1
  simp only [Nat.zero_add] at c4
  go_wp2_with fail
  clear c4
  go_loopw [11, 12, 13] (fun cv _ _ wr => ∃ c : Nat, c ≤ 26 ∧ cv = .int .u8 (97 + (c : Int)) ∧ (∀ d, d < c → needB t r s S p d = true) ∧ BkSt w.heap.size t ra r (some ⟨b, o, none⟩) S w wr) (fun cv _ _ _ => 123 - (intOf cv).toNat)
  case atStart => exact ⟨0, by omega, rfl, fun d hd => absurd hd (Nat.not_lt_zero d), ST5.out⟩
  case round =>
   clear ST5 w5
   obtain ⟨c, hc, rfl, hnd, st⟩ := hrel
   have HND := Lib.hid hnd
   have ST := Lib.hid st
   clear hnd st
   by_cases hc26 : c < 26
   rotate_left
   ·have hcn : decide ((97 : Int) + (c : Int) ≤ 122) = false := by simp; omega
    have HALL26 := Lib.hid (show all26 (needB t r s S p) = true from all26_iff.2 fun d hd => HND.out d (by omega))
    have hxc := (ST.out.a p x HX.out)
    obtain ⟨b', o', he, hxc⟩ := hxc
    cases he
    have HXC := Lib.hid hxc
    have HWH := Lib.hid (fun W (hW : RngsAt W ra r) => wholeR_any t ra rc r s (p + 1) hs1 HG.out W hW)
    have hwq : wholeB t r s (p + 1) = decide (leastOf4 t r s ≤ ((p + 1 : Nat) : Int)) := by
     rw [whole_eq H1.out HKS.out, show decide (((p + 1 : Nat) : Int) ≤ t.most) = true from decide_eq_true (by have := HLE.out; omega), Bool.and_true]
    have HAT := Lib.hid (shownAt_eq t r s S p)
    rw [HSX.out, HQ.out, HALL26.out, ← hwq] at HAT
    have hpc : ((p + 1 : Nat) : Int) = (p : Int) + 1 := by omega
    rw [hpc] at HWH
    clear hxc hwq hc hpc
    rcases h3 : wholeB t r s (p + 1) with _ | _
    ·rw [h3] at HAT HWH
     go_wp2_with fail
     refine wp_region_heldB 16 [] (by kernel_rfl) (by kernel_rfl) (by kernel_rfl) (by simp) ?_
     intro S' hS
     have K0 := trivial
     have L1 := Lib.hid (fun A hA => TypAt.load (ST.out.x.below (hS A hA)))
     have HS := Lib.hid hS
     clear hS
     simp only [List.take_succ_cons, List.take_zero, List.drop_succ_cons, List.drop_zero]
     repeat (first
      | (refine held_load 71 _ (by rfl) rfl rfl L1.out ?_; try (dsimp only); try simp only [Act.put, List.setIfInBounds_toArray, List.set_cons_zero, List.set_cons_succ])
      | (refine held_not rfl (by rfl) ?_; try (dsimp only); try simp only [Act.put, List.setIfInBounds_toArray, List.set_cons_zero, List.set_cons_succ])
      | (refine held_val (v := ?_) rfl (by rfl) ?_ ?_; rotate_left; (· (intro W hW; go_simp; try with_reducible rfl)); try (dsimp only); try simp only [Act.put, List.setIfInBounds_toArray, List.set_cons_zero, List.set_cons_succ])
      | (refine held_skip rfl (by rfl) ?_ ?_; (· (intro W hW; go_simp; try with_reducible rfl)); try (dsimp only); try simp only [Act.put, List.setIfInBounds_toArray, List.set_cons_zero, List.set_cons_succ])
      | (refine held_call (v := .bool false) (f := 111) (args := #[.agg (typCells t), .slice ra r.length rc, .int .i64 (s : Int), .int .i64 ((p : Int) + 1)]) rfl (by rfl) ?_ ?_ ?_; (· (intro W hW; go_simp; done)); (· exact (fun W hW => HWH.out W (ST.out.r.below (HS.out W hW)))); try (dsimp only); try simp only [Act.put, List.setIfInBounds_toArray, List.set_cons_zero, List.set_cons_succ]))
     refine held_nil ?_
     intro τ hτ W2 hW hO
     obtain rfl := laid0 hτ
     have ST2 := Lib.hid (ST.out.below (HS.out W2 hW))
     clear hτ hO hW K0 HS L1
     simp only [overs, List.foldl_nil]
     go_wp2_with fail
     go_roundw
     case rel => exact ⟨p + 1, by omega, by go_num, all_step HALL.out HAT.out, ST2.out⟩
     case measure => simp [intOf]; omega
    ·obtain ⟨can, hcan⟩ : ∃ can, mkB (bothL (bl x) (bl t.base)) = can := ⟨_, rfl⟩
     have hce : can.toList.isEmpty = !(any26 fun c => hasC (bl x) c && t.kd.base c) := by
      rw [ByteArray.toList_eq, ← hcan]
      show (bl (mkB _)).isEmpty = _
      rw [bl_mkB]
      exact both_some HQ.out (Typ.sets_iff.1 HTS.out).2.1
     have HBT := Lib.hid (fun W => both_any x t.base (by omega) (by have := HSM.out.base; omega) W)
     rw [hcan] at HBT
     rw [h3] at HAT HWH
     clear hcan
     rcases h4 : any26 (fun c => hasC (bl x) c && t.kd.base c) with _ | _
     ·rw [h4] at HAT hce
      have hce' : can.toList.isEmpty = true := hce
      clear hce
      go_wp2_with fail
      refine wp_region_heldB 16 [] (by kernel_rfl) (by kernel_rfl) (by kernel_rfl) (by simp) ?_
      intro S' hS
      have k0 : ∀ A, S' A → A.cell? ⟨b, o + p, none⟩ = some (.string x) ∧ A.cell? ⟨w.heap.size, 5, none⟩ = some (.string t.base) := fun A hA => by
       have f := (ST.out.x.below (hS A hA)).fields.2.2.2.2.2
       rw [Nat.zero_add] at f
       exact ⟨below_cell (hS A hA) HXC.out, f⟩
      have K0 := Lib.hid k0
      have L1 := Lib.hid (fun A hA => TypAt.load (ST.out.x.below (hS A hA)))
      have HS := Lib.hid hS
      clear hS k0
      simp only [List.take_succ_cons, List.take_zero, List.drop_succ_cons, List.drop_zero]
      repeat (first
       | (refine held_load 71 _ (by rfl) rfl rfl L1.out ?_; try (dsimp only); try simp only [Act.put, List.setIfInBounds_toArray, List.set_cons_zero, List.set_cons_succ])
       | (refine held_not rfl (by rfl) ?_; try (dsimp only); try simp only [Act.put, List.setIfInBounds_toArray, List.set_cons_zero, List.set_cons_succ])
       | (refine held_val (v := ?_) rfl (by rfl) ?_ ?_; rotate_left; (· (intro W hW; obtain ⟨q0, q1⟩ := K0.out W hW; go_simp; try with_reducible rfl)); try (dsimp only); try simp only [Act.put, List.setIfInBounds_toArray, List.set_cons_zero, List.set_cons_succ])
       | (refine held_skip rfl (by rfl) ?_ ?_; (· (intro W hW; obtain ⟨q0, q1⟩ := K0.out W hW; go_simp; try with_reducible rfl)); try (dsimp only); try simp only [Act.put, List.setIfInBounds_toArray, List.set_cons_zero, List.set_cons_succ])
       | (refine held_call (v := .bool true) (f := 111) (args := #[.agg (typCells t), .slice ra r.length rc, .int .i64 (s : Int), .int .i64 ((p : Int) + 1)]) rfl (by rfl) ?_ ?_ ?_; (· (intro W hW; go_simp; done)); (· exact (fun W hW => HWH.out W (ST.out.r.below (HS.out W hW)))); try (dsimp only); try simp only [Act.put, List.setIfInBounds_toArray, List.set_cons_zero, List.set_cons_succ])
       | (refine held_call (v := .string can) (f := 84) (args := #[.string x, .string t.base]) rfl (by rfl) ?_ ?_ ?_; (· (intro W hW; go_simp; done)); (· exact (fun W hW => (HBT.out W).mono fun e w' h => ⟨h.1, h.2 ▸ Below.refl _ _⟩)); try (dsimp only); try simp only [Act.put, List.setIfInBounds_toArray, List.set_cons_zero, List.set_cons_succ]))
      refine held_nil ?_
      intro τ hτ W2 hW hO
      obtain rfl := laid0 hτ
      have ST2 := Lib.hid (ST.out.below (HS.out W2 hW))
      clear hτ hO hW K0 HS L1
      simp only [overs, List.foldl_nil]
      go_wp2_with fail
      go_roundw
      case rel => exact ⟨p + 1, by omega, by go_num, all_step HALL.out HAT.out, ST2.out⟩
      case measure => simp [intOf]; omega
     ·rw [h4] at HAT hce
      have hce' : can.toList.isEmpty = false := hce
      have HN := Lib.hid (shown_no hlt HAT.out)
      clear hce
      go_wp2_with fail
      refine wp_region_heldB 16 [] (by kernel_rfl) (by kernel_rfl) (by kernel_rfl) (by simp) ?_
      intro S' hS
      have k0 : ∀ A, S' A → A.cell? ⟨b, o + p, none⟩ = some (.string x) ∧ A.cell? ⟨w.heap.size, 5, none⟩ = some (.string t.base) := fun A hA => by
       have f := (ST.out.x.below (hS A hA)).fields.2.2.2.2.2
       rw [Nat.zero_add] at f
       exact ⟨below_cell (hS A hA) HXC.out, f⟩
      have K0 := Lib.hid k0
      have L1 := Lib.hid (fun A hA => TypAt.load (ST.out.x.below (hS A hA)))
      have HS := Lib.hid hS
      clear hS k0
      simp only [List.take_succ_cons, List.take_zero, List.drop_succ_cons, List.drop_zero]
      repeat (first
       | (refine held_load 71 _ (by rfl) rfl rfl L1.out ?_; try (dsimp only); try simp only [Act.put, List.setIfInBounds_toArray, List.set_cons_zero, List.set_cons_succ])
       | (refine held_not rfl (by rfl) ?_; try (dsimp only); try simp only [Act.put, List.setIfInBounds_toArray, List.set_cons_zero, List.set_cons_succ])
       | (refine held_val (v := ?_) rfl (by rfl) ?_ ?_; rotate_left; (· (intro W hW; obtain ⟨q0, q1⟩ := K0.out W hW; go_simp; try with_reducible rfl)); try (dsimp only); try simp only [Act.put, List.setIfInBounds_toArray, List.set_cons_zero, List.set_cons_succ])
       | (refine held_skip rfl (by rfl) ?_ ?_; (· (intro W hW; obtain ⟨q0, q1⟩ := K0.out W hW; go_simp; try with_reducible rfl)); try (dsimp only); try simp only [Act.put, List.setIfInBounds_toArray, List.set_cons_zero, List.set_cons_succ])
       | (refine held_call (v := .bool true) (f := 111) (args := #[.agg (typCells t), .slice ra r.length rc, .int .i64 (s : Int), .int .i64 ((p : Int) + 1)]) rfl (by rfl) ?_ ?_ ?_; (· (intro W hW; go_simp; done)); (· exact (fun W hW => HWH.out W (ST.out.r.below (HS.out W hW)))); try (dsimp only); try simp only [Act.put, List.setIfInBounds_toArray, List.set_cons_zero, List.set_cons_succ])
       | (refine held_call (v := .string can) (f := 84) (args := #[.string x, .string t.base]) rfl (by rfl) ?_ ?_ ?_; (· (intro W hW; go_simp; done)); (· exact (fun W hW => (HBT.out W).mono fun e w' h => ⟨h.1, h.2 ▸ Below.refl _ _⟩)); try (dsimp only); try simp only [Act.put, List.setIfInBounds_toArray, List.set_cons_zero, List.set_cons_succ]))
      refine held_nil ?_
      intro τ hτ W2 hW hO
      obtain rfl := laid0 hτ
      have ST2 := Lib.hid (ST.out.below (HS.out W2 hW))
      clear hτ hO hW K0 HS L1
      simp only [overs, List.foldl_nil]
      go_wp2_with fail
      go_ret
      exact ⟨ret_bool HN.out.symm, ST2.out.b⟩
   have hci : (97 : Int) + (c : Int) ≤ 122 := by omega
   have hcw : IntKind.u8.wrap ((97 : Int) + (c : Int) + 1) = (97 : Int) + ((c + 1 : Nat) : Int) := by
    show ((97 : Int) + (c : Int) + 1) % 256 = _; omega
   have hch : ((chC c).toNat : Int) = 97 + (c : Int) := by rw [chC_nat hc26]; omega
   have HIR := Lib.hid (fun W => inR_any t.rim (chC c) (by have := HSM.out.rim; omega) W)
   have HRG := Lib.hid (fun W (hW : RngsAt W ra r) => ringR_any ra rc r s p hs1 HG.out W hW)
   have hrz : (ringS r s p).size ≤ 1000000 := set_size (ringS_set HG.out.set s p)
   have HIG := Lib.hid (fun W => inR_any (ringS r s p) (chC c) hrz W)
   have HIX := Lib.hid (fun W => inR_any x (chC c) (by omega) W)
   rw [hch, inL_ch hc26] at HIR HIX
   rw [hch, inL_ch hc26, ringS_cut _ _ _ hc26] at HIG
   obtain ⟨b', o', he, hxc⟩ := ST.out.a p x HX.out
   cases he
   have HNE := Lib.hid (show needB t r s S p c = (!(beforeB t.kd S p c && cutOf r s p c) || hasC (bl x) c) by unfold needB; rw [HSX.out])
   clear hrz
   go_wp2_with (refine (HIR.out _).mono ?_)
   rintro e w6 ⟨rfl, rfl⟩
   rcases Nat.eq_zero_or_pos p with hpz | hpz
   ·have hpp : decide ((0 : Int) < (p : Int)) = false := by simp; omega
    have hpp2 : decide (0 < p) = false := decide_eq_false (by omega)
    obtain ⟨cv, hcv⟩ : ∃ cv, hasC (bl t.rim) c = cv := ⟨_, rfl⟩
    have HCV := Lib.hid (show cv = beforeB t.kd S p c by rw [← hcv, hpz]; rfl)
    rw [hcv]
    clear hcv hpz
    rcases cv with _ | _
    ·rw [← HCV.out] at HNE
     go_wp2_with fail
     go_roundw
     case rel => exact ⟨c + 1, by omega, by go_num, all_step HND.out HNE.out, ST.out⟩
     case measure => simp [intOf]; omega
    ·rw [← HCV.out] at HNE
     have HRR := Lib.hid (HRG.out _ ST.out.r)
     go_wp2_with (refine HRR.out.mono ?_)
     rintro e w8 ⟨rfl, rfl⟩
     clear HRR
     rcases hq1 : cutOf r s p c with _ | _
     ·rw [hq1] at HIG HNE
      go_wp2_with (refine (HIG.out _).mono ?_)
      rintro e w9 ⟨rfl, rfl⟩
      go_wp2_with fail
      go_roundw
      case rel => exact ⟨c + 1, by omega, by go_num, all_step HND.out HNE.out, ST.out⟩
      case measure => simp [intOf]; omega
     ·rw [hq1] at HIG HNE
      go_wp2_with (refine (HIG.out _).mono ?_)
      rintro e w9 ⟨rfl, rfl⟩
      rcases hq2 : hasC (bl x) c with _ | _
      ·rw [hq2] at HIX HNE
       have HN := Lib.hid (shown_no hlt (need_no hc26 HNE.out))
       go_wp2_with (refine (HIX.out _).mono ?_)
       rintro e w9 ⟨rfl, rfl⟩
       go_wp2_with fail
       go_ret
       exact ⟨ret_bool HN.out.symm, ST.out.b⟩
      ·rw [hq2] at HIX HNE
       go_wp2_with (refine (HIX.out _).mono ?_)
       rintro e w9 ⟨rfl, rfl⟩
       go_wp2_with fail
       go_roundw
       case rel => exact ⟨c + 1, by omega, by go_num, all_step HND.out HNE.out, ST.out⟩
       case measure => simp [intOf]; omega
   ·obtain ⟨m, hm⟩ : ∃ m, p = m + 1 := ⟨p - 1, by omega⟩
    have hpp : decide ((0 : Int) < (p : Int)) = true := by simp; omega
    have hpp2 : decide (0 < p) = true := decide_eq_true (by omega)
    have hmw : IntKind.i64.wrap ((p : Int) - 1) = (m : Int) := by rw [IntWalk.i64_in _ (by omega)]; omega
    have hmi : (m : Int) < (S.length : Int) := by omega
    have hm0 : (0 : Int) ≤ (m : Int) := by omega
    obtain ⟨y, hy⟩ : ∃ y, S[m]? = some y := ⟨S[m]'(by omega), by simp [show m < S.length by omega]⟩
    have hys := HSS.out y (List.mem_of_getElem? hy)
    have hsy : setAt4 S m = bl y := setAt4_at hy
    have hiy : isSetB (bl y) = true := by
     have h := HALL.out m (by omega)
     rw [shownAt_eq, hsy] at h
     simp only [Bool.and_eq_true] at h
     exact h.1.1
    have HCO := Lib.hid (show (bl y).any (fun x => inL (bl (aftS t x)) (chC c)) = beforeB t.kd S p c by
     rw [hm, ← comesL_eq HTS.out (by rw [hsy]; exact hiy) hc26, hsy])
    have HMM := Lib.hid (show m < S.length by omega)
    clear hm
    obtain ⟨b', o', he, hyc⟩ := ST.out.a m y hy
    cases he
    have HY := Lib.hid hy
    clear hsy hiy hyc hxc hy
    go_wp2_with fail
    go_loopw [12, 13] (fun lv qv wr => ∃ q : Nat, q ≤ y.size ∧ qv = .int .i64 q ∧ lv = .bool (((bl y).take q).any fun x => inL (bl (aftS t x)) (chC c)) ∧ BkSt w.heap.size t ra r (some ⟨b, o, none⟩) S w wr) (fun _ qv _ => y.size - (intOf qv).toNat)
    case atStart => exact ⟨0, by omega, rfl, rfl, ST.out⟩
    case round =>
     clear ST
     obtain ⟨q, hq, rfl, rfl, st⟩ := hrel
     have ST := Lib.hid st
     clear st
     obtain ⟨cv, hlv⟩ : ∃ lv, (((bl y).take q).any fun x => inL (bl (aftS t x)) (chC c)) = lv := ⟨_, rfl⟩
     rw [hlv]
     have HLV := Lib.hid hlv
     clear hlv
     obtain ⟨b', o', he, hxc⟩ := ST.out.a p x HX.out
     cases he
     obtain ⟨b', o', he, hyc⟩ := ST.out.a m y HY.out
     cases he
     by_cases hql : q < y.size
     ·obtain ⟨z, hz⟩ : ∃ z, y[q] = z := ⟨_, rfl⟩
      have hbz : (bl y)[q]? = some z := by rw [bl_at _ hql, hz]
      have HT := Lib.hid (any_take (fun x => inL (bl (aftS t x)) (chC c)) hbz)
      have hqi : (q : Int) < (y.size : Int) := by omega
      have hq0 : (0 : Int) ≤ (q : Int) := by omega
      have HAF := Lib.hid (fun W => afterR_any t z W)
      have hasz : (aftS t z).size ≤ 1000000 := by
       unfold aftS
       split
       ·have := HSM.out.after (z.toNat - 97) (by omega); omega
       ·exact Nat.zero_le _
      have HIN := Lib.hid (fun W => inR_any (aftS t z) (chC c) hasz W)
      rw [hch] at HIN
      have HYC := Lib.hid hyc
      clear hbz hasz
      rcases cv with _ | _
      ·go_wp2_with fail
       clear hyc hxc
       refine wp_region_heldB 14 [] (by kernel_rfl) (by kernel_rfl) (by kernel_rfl) (by simp) ?_
       intro S' hS
       have k0 : ∀ A, S' A → A.cell? ⟨b, o + m, none⟩ = some (.string y) := fun A hA => below_cell (hS A hA) HYC.out
       have K0 := Lib.hid k0
       have L1 := Lib.hid (fun A hA => TypAt.load (ST.out.x.below (hS A hA)))
       have HS := Lib.hid hS
       clear hS k0
       simp only [List.take_succ_cons, List.take_zero, List.drop_succ_cons, List.drop_zero]
       repeat (first
        | (refine held_load 71 _ (by rfl) rfl rfl L1.out ?_; try (dsimp only); try simp only [Act.put, List.setIfInBounds_toArray, List.set_cons_zero, List.set_cons_succ])
        | (refine held_not rfl (by rfl) ?_; try (dsimp only); try simp only [Act.put, List.setIfInBounds_toArray, List.set_cons_zero, List.set_cons_succ])
        | (refine held_val (v := ?_) rfl (by rfl) ?_ ?_; rotate_left; (· (intro W hW; have q0 := K0.out W hW; go_simp; try with_reducible rfl)); try (dsimp only); try simp only [Act.put, List.setIfInBounds_toArray, List.set_cons_zero, List.set_cons_succ])
        | (refine held_skip rfl (by rfl) ?_ ?_; (· (intro W hW; have q0 := K0.out W hW; go_simp; try with_reducible rfl)); try (dsimp only); try simp only [Act.put, List.setIfInBounds_toArray, List.set_cons_zero, List.set_cons_succ])
        | (refine held_call (v := .string (aftS t z)) (f := 85) (args := #[.agg (typCells t), .int .u8 z.toNat]) rfl (by rfl) ?_ ?_ ?_; (· (intro W hW; go_simp; done)); (· exact (fun W hW => HAF.out W)); try (dsimp only); try simp only [Act.put, List.setIfInBounds_toArray, List.set_cons_zero, List.set_cons_succ])
        | (refine held_call (v := .bool (inL (bl (aftS t z)) (chC c))) (f := 37) (args := #[.string (aftS t z), .int .u8 (97 + (c : Int))]) rfl (by rfl) ?_ ?_ ?_; (· (intro W hW; go_simp; done)); (· exact (fun W hW => (HIN.out W).mono fun e w' h => ⟨h.1, h.2 ▸ Below.refl _ _⟩)); try (dsimp only); try simp only [Act.put, List.setIfInBounds_toArray, List.set_cons_zero, List.set_cons_succ]))
       refine held_nil ?_
       intro τ hτ W2 hW hO
       obtain rfl := laid0 hτ
       have ST2 := Lib.hid (ST.out.below (HS.out W2 hW))
       clear hτ hO hW K0 HS L1 ST
       simp only [overs, List.foldl_nil]
       go_wp2_with fail
       go_roundw
       case rel => exact ⟨q + 1, by omega, by go_num, by rw [HT.out, HLV.out]; rfl, ST2.out⟩
       case measure => simp [intOf]; omega
      ·go_wp2_with fail
       clear hyc hxc
       refine wp_region_heldB 14 [] (by kernel_rfl) (by kernel_rfl) (by kernel_rfl) (by simp) ?_
       intro S' hS
       have K0 := trivial
       have HS := Lib.hid hS
       clear hS
       simp only [List.take_succ_cons, List.take_zero, List.drop_succ_cons, List.drop_zero]
       repeat (first
        | (refine held_not rfl (by rfl) ?_; try (dsimp only); try simp only [Act.put, List.setIfInBounds_toArray, List.set_cons_zero, List.set_cons_succ])
        | (refine held_val (v := ?_) rfl (by rfl) ?_ ?_; rotate_left; (· (intro W hW; go_simp; try with_reducible rfl)); try (dsimp only); try simp only [Act.put, List.setIfInBounds_toArray, List.set_cons_zero, List.set_cons_succ])
        | (refine held_skip rfl (by rfl) ?_ ?_; (· (intro W hW; go_simp; try with_reducible rfl)); try (dsimp only); try simp only [Act.put, List.setIfInBounds_toArray, List.set_cons_zero, List.set_cons_succ]))
       refine held_nil ?_
       intro τ hτ W2 hW hO
       obtain rfl := laid0 hτ
       have ST2 := Lib.hid (ST.out.below (HS.out W2 hW))
       clear hτ hO hW K0 HS ST
       simp only [overs, List.foldl_nil]
       go_wp2_with fail
       go_roundw
       case rel => exact ⟨q + 1, by omega, by go_num, by rw [HT.out, HLV.out]; rfl, ST2.out⟩
       case measure => simp [intOf]; omega
     ·have hqn : decide ((q : Int) < (y.size : Int)) = false := by simp; omega
      have HCV := Lib.hid (show cv = beforeB t.kd S p c by rw [← HCO.out, ← HLV.out, List.take_of_length_le (by rw [bl_len]; omega)])
      clear HLV HCO
      rcases cv with _ | _
      ·rw [← HCV.out] at HNE
       go_wp2_with fail
       go_roundw
       case rel => exact ⟨c + 1, by omega, by go_num, all_step HND.out HNE.out, ST.out⟩
       case measure => simp [intOf]; omega
      ·rw [← HCV.out] at HNE
       have HRR := Lib.hid (HRG.out _ ST.out.r)
       go_wp2_with (refine HRR.out.mono ?_)
       rintro e w8 ⟨rfl, rfl⟩
       clear HRR
       rcases hq1 : cutOf r s p c with _ | _
       ·rw [hq1] at HIG HNE
        go_wp2_with (refine (HIG.out _).mono ?_)
        rintro e w9 ⟨rfl, rfl⟩
        go_wp2_with fail
        go_roundw
        case rel => exact ⟨c + 1, by omega, by go_num, all_step HND.out HNE.out, ST.out⟩
        case measure => simp [intOf]; omega
       ·rw [hq1] at HIG HNE
        go_wp2_with (refine (HIG.out _).mono ?_)
        rintro e w9 ⟨rfl, rfl⟩
        rcases hq2 : hasC (bl x) c with _ | _
        ·rw [hq2] at HIX HNE
         have HN := Lib.hid (shown_no hlt (need_no hc26 HNE.out))
         go_wp2_with (refine (HIX.out _).mono ?_)
         rintro e w9 ⟨rfl, rfl⟩
         go_wp2_with fail
         go_ret
         exact ⟨ret_bool HN.out.symm, ST.out.b⟩
        ·rw [hq2] at HIX HNE
         go_wp2_with (refine (HIX.out _).mono ?_)
         rintro e w9 ⟨rfl, rfl⟩
         go_wp2_with fail
         go_roundw
         case rel => exact ⟨c + 1, by omega, by go_num, all_step HND.out HNE.out, ST.out⟩
         case measure => simp [intOf]; omega
end Go.Proofs.YthpjffhccjlnhaaGreatDoor
namespace Go.Proofs.YthpjffhccjlnhaaGreatDoor
open Go.RowKit
attribute [local go_sem] Oper.semAt_some

structure CbR (a : Option Addr) (c : Nat) (l : List Typ) (ra : Option Addr) (rc : Nat) (r : List Rng) (ba : Option Addr) (b : List Bl4) (w W : World) : Prop where
 k : Ask W a c l ra rc r
 d : BlksIn W ba b
 b : Below w.heap.size w W
theorem CbR.below {a : Option Addr} {c : Nat} {l : List Typ} {ra : Option Addr} {rc : Nat} {r : List Rng} {ba : Option Addr} {b : List Bl4} {w W W' : World} (h : CbR a c l ra rc r ba b w W) (hb : Below W.heap.size W W') : CbR a c l ra rc r ba b w W' :=
 ⟨h.k.below hb, h.d.below hb, h.b.trans (hb.mono h.b.size)⟩
/-- the blanks ahead of a place are right -/
def OkPre (l : List Typ) (ware : ByteArray) (r : List Rng) (b : List Bl4) (m : Nat) : Prop := m ≤ b.length ∧ ∀ (k : Nat) x y, k < m → (triesOf l ware r)[k]? = some x → b[k]? = some y → okX l r x y = true
theorem OkPre.next {l : List Typ} {ware : ByteArray} {r : List Rng} {b : List Bl4} {m : Nat} (h : OkPre l ware r b m) {x : Nat × Nat} {y : Bl4} (hx : (triesOf l ware r)[m]? = some x) (hy : b[m]? = some y) (ho : okX l r x y = true) : OkPre l ware r b (m + 1) := by
 refine ⟨(List.getElem?_eq_some_iff.1 hy).1, fun k x' y' hk hx' hy' => ?_⟩
 rcases Nat.lt_or_ge k m with h1 | h1
 ·exact h.2 k x' y' h1 hx' hy'
 ·have : k = m := by omega
  subst this
  rw [hx] at hx'; rw [hy] at hy'
  cases hx'; cases hy'; exact ho
theorem blksOut_no {l : List Typ} {ware : ByteArray} {r : List Rng} {b : List Bl4} (h0 : wantedErr l ware r = 0) (h : checkBlanksT l ware r b = false) : checkBlanksOut l ware r b = .tuple #[.bool false, .int .i64 0] := by
 unfold checkBlanksOut
 rw [h0, h]; rfl
theorem shifts_le {t : Typ} {r : List Rng} (hm : t.most ≤ 12) (hg : RgOk r) : shiftsOf t r ≤ 13 := by
 unfold shiftsOf
 split
 ·omega
 ·have : -1 ≤ lastAt r := by
   unfold lastAt
   rcases hl : r.getLast? with _ | y
   ·exact Int.le_refl _
   ·have := (hg.at0 y (List.mem_of_getLast? hl)).1
    simp only; omega
  omega
theorem try_pre {l : List Typ} {ware : ByteArray} {r : List Rng} {i k : Nat} {t : Typ} (ht : l[i]? = some t) (h : t.ware = ware) (hk : k < shiftsOf t r) : (triesOf l ware r)[(triesTo l ware r i).length + k]? = some (i, k) := by
 have := pre_at (tries_pre ht h hk)
 rwa [List.length_append, List.length_map, List.length_range] at this
set_option maxRecDepth 100000 in
set_option maxHeartbeats 4000000 in
theorem checkBlanksR_any (a : Option Addr) (c : Nat) (l : List Typ) (ware : ByteArray) (ra : Option Addr) (rc : Nat) (r : List Rng) (ba : Option Addr) (bc : Nat) (b : List Bl4) (w : World) (h : Ask w a c l ra rc r) (hb : BlksIn w ba b) (hbs : ∀ y, y ∈ b → SmlB y) (hbl : b.length ≤ 1000000) :
  Calls Tryz.prog 55 #[.slice a l.length c, .string ware, .slice ra r.length rc, .slice ba b.length bc] w fun e w' => e = .returned (checkBlanksOut l ware r b) ∧ Below w.heap.size w w' := by
 have HC := Lib.hid (askedR_any a c l ware ra rc r w h)
 have ST1 := Lib.hid (show CbR a c l ra rc r ba b w w from ⟨h, hb, Below.refl _ _⟩)
 have HBS := Lib.hid hbs
 have hll := h.tlen
 clear h hb hbs
 go_enter Tryz.func55, Tryz.ntmps55
 go_wp2_with (refine HC.out.mono ?_)
 rintro e w2 ⟨rfl, hb2⟩
 have ST := Lib.hid (ST1.out.below hb2)
 clear hb2 HC ST1
 by_cases h0 : wantedErr l ware r = 0
 rotate_left
 ·have HN := Lib.hid (show checkBlanksOut l ware r b = .tuple #[.bool false, .int .i64 (wantedErr l ware r)] by unfold checkBlanksOut; rw [show (wantedErr l ware r == 0) = false by simpa using h0]; rfl)
  have hne : (wantedErr l ware r == 0) = false := by simpa using h0
  go_wp2_with fail
  exact bodyPost_ret (results_tmp_tmp4 rfl) rfl ⟨by rw [HN.out]; rfl, ST.out.b⟩
 have H0 := Lib.hid h0
 simp only [h0]
 obtain ⟨hte, hre⟩ := wanted_typ h0
 have HG := Lib.hid (RgOk.of hre)
 have HTE := Lib.hid hte
 clear h0 hte hre
 have hl12 : l.length ≤ 12 := by
  have h := HTE.out
  unfold typesErr at h
  split at h
  ·cases h
  ·omega
 go_wp2_with fail
 go_loopw [11, 12, 13] (fun mv iv _ wr => ∃ i : Nat, i ≤ l.length ∧ iv = .int .i64 i ∧ mv = .int .i64 ((triesTo l ware r i).length : Nat) ∧ OkPre l ware r b (triesTo l ware r i).length ∧ CbR a c l ra rc r ba b w wr) (fun _ iv _ _ => l.length - (intOf iv).toNat)
 case atStart => exact ⟨0, Nat.zero_le _, rfl, rfl, ⟨Nat.zero_le _, fun k _ _ hk => absurd hk (Nat.not_lt_zero k)⟩, ST.out⟩
 case round =>
  clear ST w2
  obtain ⟨i, hi, rfl, rfl, hpre, st⟩ := hrel
  have HPR := Lib.hid hpre
  have ST := Lib.hid st
  clear hpre st
  by_cases hlt : i < l.length
  rotate_left
  ·have hin : decide ((i : Int) < (l.length : Int)) = false := by simp; omega
   have hie : i = l.length := by omega
   have HCB := Lib.hid (checkB_all (l := l) (ware := ware) (r := r) (b := b) fun k x y hx hy => HPR.out.2 k x y (by rw [hie, triesTo_all]; exact (List.getElem?_eq_some_iff.1 hx).1) hx hy)
   have HN := Lib.hid (show checkBlanksOut l ware r b = .tuple #[.bool (((triesTo l ware r i).length : Int) == (b.length : Int)), .int .i64 0] by
    unfold checkBlanksOut
    rw [H0.out, HCB.out, hie, triesTo_all, show ((triesOf l ware r).length == b.length) = (((triesOf l ware r).length : Int) == (b.length : Int)) by
     rw [Bool.eq_iff_iff, beq_iff_eq, beq_iff_eq]; omega]
    rfl)
   clear hie
   go_wp2_with fail
   exact bodyPost_ret (results_tmp_tmp4 rfl) rfl ⟨by rw [HN.out]; rfl, ST.out.b⟩
  obtain ⟨t, ht⟩ : ∃ t, l[i]? = some t := ⟨l[i], by simp [hlt]⟩
  have hki : (i : Int) < (l.length : Int) := by omega
  have hk0 : (0 : Int) ≤ (i : Int) := by omega
  have hsm := ST.out.k.sm t (List.mem_of_getElem? ht)
  obtain ⟨hts, h1, hlm, hm12⟩ := typeB_good (types_at HTE.out ht)
  have HTY := Lib.hid (show t.sets = true ∧ 1 ≤ t.least ∧ t.least ≤ t.most ∧ t.most ≤ 12 from ⟨hts, h1, hlm, hm12⟩)
  have HT := Lib.hid ht
  have HSM := Lib.hid hsm
  have hsh := shifts_le hm12 HG.out
  have HSH := Lib.hid (fun W (hW : RngsAt W ra r) => shiftsR_any t ra rc r ⟨by omega, hm12⟩ HG.out W hW)
  clear hts h1 hlm hm12 hsm ht
  obtain ⟨n0, hn0⟩ : ∃ n0, (triesTo l ware r i).length = n0 := ⟨_, rfl⟩
  have HN0 := Lib.hid hn0
  rw [hn0] at HPR
  simp only [hn0]
  clear hn0
  go_wp2_with fail
  go_loopw [11, 13] (fun mv sv wr => ∃ k : Nat, k ≤ shiftsOf t r ∧ sv = .int .i64 k ∧ mv = .int .i64 ((n0 + k : Nat) : Int) ∧ (k = 0 ∨ t.ware = ware) ∧ OkPre l ware r b (n0 + k) ∧ CbR a c l ra rc r ba b w wr) (fun _ sv _ => shiftsOf t r - (intOf sv).toNat)
  case atStart => exact ⟨0, Nat.zero_le _, rfl, rfl, .inl rfl, HPR.out, ST.out⟩
  case round =>
   clear ST HPR
   obtain ⟨k, hk, rfl, rfl, hkw, hpre, st⟩ := hrel
   obtain ⟨m, hm⟩ : ∃ m, n0 + k = m := ⟨_, rfl⟩
   rw [hm] at hpre
   simp only [hm]
   have HM := Lib.hid hm
   clear hm
   have HPR := Lib.hid hpre
   have ST := Lib.hid st
   obtain ⟨tb, tq, rfl, hat⟩ := st.k.ty i t HT.out
   have HL := Lib.hid hat.load
   have HKW := Lib.hid hkw
   have hk1 : k ≤ 1000 := by omega
   clear hpre st
   go_wp2_with (refine wpList_load_box rfl 71 _ rfl rfl HL.out ?_)
   clear HL
   refine (HSH.out _ ST.out.k.rg).mono ?_
   rintro e w4 ⟨rfl, hb4⟩
   have HAT := Lib.hid (hat.below hb4)
   have ST4 := Lib.hid (ST.out.below hb4)
   clear hb4 ST hat
   have f1 := HAT.out.fields.2.1
   rcases q3 : (t.ware.toList == ware.toList) with _ | _
   ·have hk00 : k = 0 := by
     rcases HKW.out with h | h
     ·exact h
     ·exact absurd h (ware_ne q3)
    have HNX := Lib.hid (triesTo_no (r := r) HT.out (ware_ne q3))
    have HK0 := Lib.hid hk00
    clear hk00
    have HME := Lib.hid (show m = n0 by have h1 := HM.out; have h2 := HK0.out; omega)
    by_cases hks : k < shiftsOf t r
    ·have q4 : decide (k < shiftsOf t r) = true := decide_eq_true hks
     have q5 : decide ((k : Int) < ((shiftsOf t r : Nat) : Int)) = true := decide_eq_true (by omega)
     go_wp2_with fail
     go_roundw
     case rel => exact ⟨i + 1, by omega, by go_num, by rw [HNX.out, HN0.out, HME.out], by have h := HPR.out; rw [HME.out] at h; rw [HNX.out, HN0.out]; exact h, ST4.out⟩
     case measure => simp [intOf]; omega
    ·have q4 : decide (k < shiftsOf t r) = false := decide_eq_false hks
     have q5 : decide ((k : Int) < ((shiftsOf t r : Nat) : Int)) = false := decide_eq_false (by omega)
     go_wp2_with fail
     go_roundw
     case rel => exact ⟨i + 1, by omega, by go_num, by rw [HNX.out, HN0.out, HME.out], by have h := HPR.out; rw [HME.out] at h; rw [HNX.out, HN0.out]; exact h, ST4.out⟩
     case measure => simp [intOf]; omega
   have hwe := ware_eq q3
   have HNX := Lib.hid (triesTo_yes (r := r) HT.out hwe)
   by_cases hks : k < shiftsOf t r
   rotate_left
   ·have hkn : decide ((k : Int) < ((shiftsOf t r : Nat) : Int)) = false := by simp; omega
    have hkn2 : decide (k < shiftsOf t r) = false := decide_eq_false hks
    have hke : k = shiftsOf t r := by omega
    have HLN := Lib.hid (show (triesTo l ware r (i + 1)).length = m by rw [HNX.out, List.length_append, HN0.out, List.length_map, List.length_range, ← hke]; exact HM.out)
    clear hke
    go_wp2_with fail
    go_roundw
    case rel => exact ⟨i + 1, by omega, by go_num, by rw [HLN.out], by rw [HLN.out]; exact HPR.out, ST4.out⟩
    case measure => simp [intOf]; omega
   have hkl : decide ((k : Int) < ((shiftsOf t r : Nat) : Int)) = true := by simp; omega
   have hkl2 : decide (k < shiftsOf t r) = true := decide_eq_true hks
   have HX := Lib.hid (show (triesOf l ware r)[m]? = some (i, k) by rw [← HM.out, ← HN0.out]; exact try_pre HT.out hwe hks)
   have ST := ST4
   have HM2 := Lib.hid (show n0 + (k + 1) = m + 1 by have h := HM.out; omega)
   clear ST4
   by_cases hmb : m < b.length
   rotate_left
   ·have hbm : decide ((b.length : Int) ≤ (m : Int)) = true := by simp; omega
    have hbm2 : decide (b.length ≤ m) = true := decide_eq_true (by omega)
    have HN := Lib.hid (blksOut_no H0.out (checkB_short (b := b) (Nat.lt_of_le_of_lt (Nat.not_lt.1 hmb) (List.getElem?_eq_some_iff.1 HX.out).1)))
    go_wp2_with fail
    refine wp_region_heldB 37 [] (by kernel_rfl) (by kernel_rfl) (by kernel_rfl) (by simp) ?_
    intro S hS
    have K0 := trivial
    have HS := Lib.hid hS
    clear hS
    simp only [List.take_succ_cons, List.take_zero, List.drop_succ_cons, List.drop_zero]
    repeat (first
     | (refine held_not rfl (by rfl) ?_; try (dsimp only); try simp only [Act.put, List.setIfInBounds_toArray, List.set_cons_zero, List.set_cons_succ])
     | (refine held_val (v := ?_) rfl (by rfl) ?_ ?_; rotate_left; (· (intro W hW; go_simp; try with_reducible rfl)); try (dsimp only); try simp only [Act.put, List.setIfInBounds_toArray, List.set_cons_zero, List.set_cons_succ])
     | (refine held_skip rfl (by rfl) ?_ ?_; (· (intro W hW; go_simp; try with_reducible rfl)); try (dsimp only); try simp only [Act.put, List.setIfInBounds_toArray, List.set_cons_zero, List.set_cons_succ]))
    refine held_nil ?_
    intro τ hτ W2 hW hO
    obtain rfl := laid0 hτ
    have ST2 := Lib.hid (ST.out.below (HS.out W2 hW))
    clear hτ hO hW K0 HS
    simp only [overs, List.foldl_nil]
    go_wp2_with fail
    exact bodyPost_ret (results_tmp_tmp4 rfl) rfl ⟨by rw [HN.out]; rfl, ST2.out.b⟩
   have hbm : decide ((b.length : Int) ≤ (m : Int)) = false := by simp; omega
   have hbm2 : decide (b.length ≤ m) = false := decide_eq_false (by omega)
   have hmi : (m : Int) < (b.length : Int) := by omega
   have hm0 : (0 : Int) ≤ (m : Int) := by omega
   have hmw : IntKind.i64.wrap ((m : Int) + 1) = (m : Int) + 1 := IntWalk.i64_in _ (by omega)
   obtain ⟨y, hy⟩ : ∃ y, b[m]? = some y := ⟨b[m], by simp [hmb]⟩
   obtain ⟨g, gq, rfl, sa, sc, hyc, hys, hyl⟩ := ST.out.d m y hy
   have HYC := Lib.hid hyc
   have HYS := Lib.hid hys
   have HY := Lib.hid hy
   have HSB := Lib.hid (HBS.out y (List.mem_of_getElem? hy))
   have HBD := Lib.hid (fun h => blksOut_no H0.out (checkB_bad HX.out HY.out h))
   have HOX := Lib.hid (show okX l r (i, k) y = ((y.type == (i : Int)) && (y.shift == (k : Int)) && shownB t r k y.sets) by unfold okX; rw [HT.out])
   clear hyc hys hy
   rcases q5 : (y.type == (i : Int)) with _ | _
   ·rw [q5] at HOX
    have q5n : (y.type != (i : Int)) = true := by unfold bne; rw [q5]; rfl
    have HN := Lib.hid (HBD.out HOX.out)
    go_wp2_with fail
    refine wp_region_heldB 37 [] (by kernel_rfl) (by kernel_rfl) (by kernel_rfl) (by simp) ?_
    intro S hS
    have k0 : ∀ A, S A → A.cell? ⟨g, gq + m * 3, none⟩ = some (.int .i64 y.type) ∧ A.cell? ⟨g, gq + m * 3 + 1, none⟩ = some (.int .i64 y.shift) ∧ A.cell? ⟨g, gq + m * 3 + 2, none⟩ = some (.slice sa y.sets.length sc) := fun A hA => ⟨below_cell (hS A hA) (HYC.out 0 (by omega)), below_cell (hS A hA) (HYC.out 1 (by omega)), below_cell (hS A hA) (HYC.out 2 (by omega))⟩
    have K0 := Lib.hid k0
    have L1 := Lib.hid (fun A hA => TypAt.load (HAT.out.below (hS A hA)))
    have HS := Lib.hid hS
    clear hS k0
    simp only [List.take_succ_cons, List.take_zero, List.drop_succ_cons, List.drop_zero]
    repeat (first
     | (refine held_not rfl (by rfl) ?_; try (dsimp only); try simp only [Act.put, List.setIfInBounds_toArray, List.set_cons_zero, List.set_cons_succ])
     | (refine held_val (v := ?_) rfl (by rfl) ?_ ?_; rotate_left; (· (intro W hW; obtain ⟨q0, q1, q2⟩ := K0.out W hW; go_simp; try with_reducible rfl)); try (dsimp only); try simp only [Act.put, List.setIfInBounds_toArray, List.set_cons_zero, List.set_cons_succ])
     | (refine held_skip rfl (by rfl) ?_ ?_; (· (intro W hW; obtain ⟨q0, q1, q2⟩ := K0.out W hW; go_simp; try with_reducible rfl)); try (dsimp only); try simp only [Act.put, List.setIfInBounds_toArray, List.set_cons_zero, List.set_cons_succ]))
    refine held_nil ?_
    intro τ hτ W2 hW hO
    obtain rfl := laid0 hτ
    have ST2 := Lib.hid (ST.out.below (HS.out W2 hW))
    clear hτ hO hW K0 HS
    simp only [overs, List.foldl_nil]
    go_wp2_with fail
    exact bodyPost_ret (results_tmp_tmp4 rfl) rfl ⟨by rw [HN.out]; rfl, ST2.out.b⟩
   have q5n : (y.type != (i : Int)) = false := by unfold bne; rw [q5]; rfl
   rcases q6 : (y.shift == (k : Int)) with _ | _
   ·rw [q5, q6] at HOX
    have q6n : (y.shift != (k : Int)) = true := by unfold bne; rw [q6]; rfl
    have HN := Lib.hid (HBD.out HOX.out)
    go_wp2_with fail
    refine wp_region_heldB 37 [] (by kernel_rfl) (by kernel_rfl) (by kernel_rfl) (by simp) ?_
    intro S hS
    have k0 : ∀ A, S A → A.cell? ⟨g, gq + m * 3, none⟩ = some (.int .i64 y.type) ∧ A.cell? ⟨g, gq + m * 3 + 1, none⟩ = some (.int .i64 y.shift) ∧ A.cell? ⟨g, gq + m * 3 + 2, none⟩ = some (.slice sa y.sets.length sc) := fun A hA => ⟨below_cell (hS A hA) (HYC.out 0 (by omega)), below_cell (hS A hA) (HYC.out 1 (by omega)), below_cell (hS A hA) (HYC.out 2 (by omega))⟩
    have K0 := Lib.hid k0
    have L1 := Lib.hid (fun A hA => TypAt.load (HAT.out.below (hS A hA)))
    have HS := Lib.hid hS
    clear hS k0
    simp only [List.take_succ_cons, List.take_zero, List.drop_succ_cons, List.drop_zero]
    repeat (first
     | (refine held_not rfl (by rfl) ?_; try (dsimp only); try simp only [Act.put, List.setIfInBounds_toArray, List.set_cons_zero, List.set_cons_succ])
     | (refine held_val (v := ?_) rfl (by rfl) ?_ ?_; rotate_left; (· (intro W hW; obtain ⟨q0, q1, q2⟩ := K0.out W hW; go_simp; try with_reducible rfl)); try (dsimp only); try simp only [Act.put, List.setIfInBounds_toArray, List.set_cons_zero, List.set_cons_succ])
     | (refine held_skip rfl (by rfl) ?_ ?_; (· (intro W hW; obtain ⟨q0, q1, q2⟩ := K0.out W hW; go_simp; try with_reducible rfl)); try (dsimp only); try simp only [Act.put, List.setIfInBounds_toArray, List.set_cons_zero, List.set_cons_succ]))
    refine held_nil ?_
    intro τ hτ W2 hW hO
    obtain rfl := laid0 hτ
    have ST2 := Lib.hid (ST.out.below (HS.out W2 hW))
    clear hτ hO hW K0 HS
    simp only [overs, List.foldl_nil]
    go_wp2_with fail
    exact bodyPost_ret (results_tmp_tmp4 rfl) rfl ⟨by rw [HN.out]; rfl, ST2.out.b⟩
   have q6n : (y.shift != (k : Int)) = false := by unfold bne; rw [q6]; rfl
   have HBK := Lib.hid (fun W (hR : RngsAt W ra r) (hA : StrsAt W sa y.sets) => blankR_any t HSM.out HTY.out.1 HTY.out.2.1 ⟨by have := HTY.out; omega, HTY.out.2.2.2⟩ ra rc r HG.out k hks hk1 sa sc y.sets HSB.out.str HSB.out.len W hR hA)
   rcases q7 : shownB t r k y.sets with _ | _
   ·rw [q5, q6, q7] at HOX
    rw [q7] at HBK
    have HN := Lib.hid (HBD.out HOX.out)
    go_wp2_with fail
    refine wp_region_heldB 37 [] (by kernel_rfl) (by kernel_rfl) (by kernel_rfl) (by simp) ?_
    intro S hS
    have k0 : ∀ A, S A → A.cell? ⟨g, gq + m * 3, none⟩ = some (.int .i64 y.type) ∧ A.cell? ⟨g, gq + m * 3 + 1, none⟩ = some (.int .i64 y.shift) ∧ A.cell? ⟨g, gq + m * 3 + 2, none⟩ = some (.slice sa y.sets.length sc) := fun A hA => ⟨below_cell (hS A hA) (HYC.out 0 (by omega)), below_cell (hS A hA) (HYC.out 1 (by omega)), below_cell (hS A hA) (HYC.out 2 (by omega))⟩
    have K0 := Lib.hid k0
    have L1 := Lib.hid (fun A hA => TypAt.load (HAT.out.below (hS A hA)))
    have HS := Lib.hid hS
    clear hS k0
    simp only [List.take_succ_cons, List.take_zero, List.drop_succ_cons, List.drop_zero]
    repeat (first
     | (refine held_load 71 _ (by rfl) rfl rfl L1.out ?_; try (dsimp only); try simp only [Act.put, List.setIfInBounds_toArray, List.set_cons_zero, List.set_cons_succ])
     | (refine held_not rfl (by rfl) ?_; try (dsimp only); try simp only [Act.put, List.setIfInBounds_toArray, List.set_cons_zero, List.set_cons_succ])
     | (refine held_val (v := ?_) rfl (by rfl) ?_ ?_; rotate_left; (· (intro W hW; obtain ⟨q0, q1, q2⟩ := K0.out W hW; go_simp; try with_reducible rfl)); try (dsimp only); try simp only [Act.put, List.setIfInBounds_toArray, List.set_cons_zero, List.set_cons_succ])
     | (refine held_skip rfl (by rfl) ?_ ?_; (· (intro W hW; obtain ⟨q0, q1, q2⟩ := K0.out W hW; go_simp; try with_reducible rfl)); try (dsimp only); try simp only [Act.put, List.setIfInBounds_toArray, List.set_cons_zero, List.set_cons_succ])
     | (refine held_call (v := .bool false) (f := 110) (args := #[.agg (typCells t), .slice ra r.length rc, .int .i64 (k : Int), .slice sa y.sets.length sc]) rfl (by rfl) ?_ ?_ ?_; (· (intro W hW; go_simp; done)); (· exact (fun W hW => HBK.out W (ST.out.k.rg.below (HS.out W hW)) (HYS.out.below (HS.out W hW)))); try (dsimp only); try simp only [Act.put, List.setIfInBounds_toArray, List.set_cons_zero, List.set_cons_succ]))
    refine held_nil ?_
    intro τ hτ W2 hW hO
    obtain rfl := laid0 hτ
    have ST2 := Lib.hid (ST.out.below (HS.out W2 hW))
    clear hτ hO hW K0 HS
    simp only [overs, List.foldl_nil]
    go_wp2_with fail
    exact bodyPost_ret (results_tmp_tmp4 rfl) rfl ⟨by rw [HN.out]; rfl, ST2.out.b⟩
   rw [q5, q6, q7] at HOX
   rw [q7] at HBK
   have HPN := Lib.hid (HPR.out.next HX.out HY.out HOX.out)
   go_wp2_with fail
   refine wp_region_heldB 37 [] (by kernel_rfl) (by kernel_rfl) (by kernel_rfl) (by simp) ?_
   intro S hS
   have k0 : ∀ A, S A → A.cell? ⟨g, gq + m * 3, none⟩ = some (.int .i64 y.type) ∧ A.cell? ⟨g, gq + m * 3 + 1, none⟩ = some (.int .i64 y.shift) ∧ A.cell? ⟨g, gq + m * 3 + 2, none⟩ = some (.slice sa y.sets.length sc) := fun A hA => ⟨below_cell (hS A hA) (HYC.out 0 (by omega)), below_cell (hS A hA) (HYC.out 1 (by omega)), below_cell (hS A hA) (HYC.out 2 (by omega))⟩
   have K0 := Lib.hid k0
   have L1 := Lib.hid (fun A hA => TypAt.load (HAT.out.below (hS A hA)))
   have HS := Lib.hid hS
   clear hS k0
   simp only [List.take_succ_cons, List.take_zero, List.drop_succ_cons, List.drop_zero]
   repeat (first
    | (refine held_load 71 _ (by rfl) rfl rfl L1.out ?_; try (dsimp only); try simp only [Act.put, List.setIfInBounds_toArray, List.set_cons_zero, List.set_cons_succ])
    | (refine held_not rfl (by rfl) ?_; try (dsimp only); try simp only [Act.put, List.setIfInBounds_toArray, List.set_cons_zero, List.set_cons_succ])
    | (refine held_val (v := ?_) rfl (by rfl) ?_ ?_; rotate_left; (· (intro W hW; obtain ⟨q0, q1, q2⟩ := K0.out W hW; go_simp; try with_reducible rfl)); try (dsimp only); try simp only [Act.put, List.setIfInBounds_toArray, List.set_cons_zero, List.set_cons_succ])
    | (refine held_skip rfl (by rfl) ?_ ?_; (· (intro W hW; obtain ⟨q0, q1, q2⟩ := K0.out W hW; go_simp; try with_reducible rfl)); try (dsimp only); try simp only [Act.put, List.setIfInBounds_toArray, List.set_cons_zero, List.set_cons_succ])
    | (refine held_call (v := .bool true) (f := 110) (args := #[.agg (typCells t), .slice ra r.length rc, .int .i64 (k : Int), .slice sa y.sets.length sc]) rfl (by rfl) ?_ ?_ ?_; (· (intro W hW; go_simp; done)); (· exact (fun W hW => HBK.out W (ST.out.k.rg.below (HS.out W hW)) (HYS.out.below (HS.out W hW)))); try (dsimp only); try simp only [Act.put, List.setIfInBounds_toArray, List.set_cons_zero, List.set_cons_succ]))
   refine held_nil ?_
   intro τ hτ W2 hW hO
   obtain rfl := laid0 hτ
   have ST2 := Lib.hid (ST.out.below (HS.out W2 hW))
   clear hτ hO hW K0 HS
   simp only [overs, List.foldl_nil]
   go_wp2_with fail
   go_roundw
   case rel => exact ⟨k + 1, by omega, by go_num, by rw [HM2.out]; go_num, .inr hwe, by rw [HM2.out]; exact HPN.out, ST2.out⟩
   case measure => simp [intOf]; omega
end Go.Proofs.YthpjffhccjlnhaaGreatDoor
namespace Go.Proofs.YthpjffhccjlnhaaGreatDoor
open Go.RowKit
attribute [local go_sem] Oper.semAt_some

def SlightPost (b : List Bl4) (w : World) (e : Ending) (w' : World) : Prop := ∃ v, e = .returned (.bool v) ∧ (v = true → b.length ≤ 160 ∧ ∀ (j : Nat) y, b[j]? = some y → SmlB y) ∧ w' = w
theorem slight_no (b : List Bl4) (w : World) {e : Ending} (h : e = .returned (.bool false)) : SlightPost b w e w := ⟨false, h, (fun h => by cases h), rfl⟩
set_option maxRecDepth 100000 in
set_option maxHeartbeats 1000000 in
theorem slight_any (ba : Option Addr) (bc : Nat) (b : List Bl4) (w : World) (h : BlksIn w ba b) :
  Calls Tryz.prog 51 #[.slice ba b.length bc] w (SlightPost b w) := by
 have HM := Lib.hid h
 clear h
 go_enter Tryz.func51, Tryz.ntmps51
 go_wp2_with fail
 go_loopw [3, 4] (fun iv _ wr => ∃ i : Nat, i ≤ b.length ∧ i ≤ 160 ∧ iv = .int .i64 i ∧ (∀ (j : Nat) y, j < i → b[j]? = some y → SmlB y) ∧ w = wr) (fun iv _ _ => b.length - (intOf iv).toNat)
 case atStart => exact ⟨0, Nat.zero_le _, Nat.zero_le _, rfl, fun j _ hj => absurd hj (Nat.not_lt_zero j), rfl⟩
 case round =>
  obtain ⟨i, hi, hi2, rfl, hall, rfl⟩ := hrel
  have HA := Lib.hid hall
  clear hall
  by_cases hlt : i < b.length
  rotate_left
  ·have q1 : decide ((i : Int) < (b.length : Int)) = false := by simp; omega
   have q2 : decide (i < b.length) = false := decide_eq_false hlt
   have HF := Lib.hid (show decide ((b.length : Int) ≤ 160) = true → b.length ≤ 160 ∧ ∀ (j : Nat) y, b[j]? = some y → SmlB y from fun h => ⟨by have := of_decide_eq_true h; omega, fun j y hy => HA.out j y (by have := (List.getElem?_eq_some_iff.1 hy).1; omega) hy⟩)
   go_wp2_with fail
   go_ret
   exact ⟨_, rfl, HF.out, rfl⟩
  have q1 : decide ((i : Int) < (b.length : Int)) = true := by simp; omega
  have q2 : decide (i < b.length) = true := decide_eq_true hlt
  by_cases hl2 : i < 160
  rotate_left
  ·have q3 : decide ((i : Int) < 160) = false := by simp; omega
   have HF := Lib.hid (show decide ((b.length : Int) ≤ 160) = true → b.length ≤ 160 ∧ ∀ (j : Nat) y, b[j]? = some y → SmlB y from fun h => by have := of_decide_eq_true h; omega)
   go_wp2_with fail
   go_ret
   exact ⟨_, rfl, HF.out, rfl⟩
  have q3 : decide ((i : Int) < 160) = true := by simp; omega
  obtain ⟨y, hy⟩ : ∃ y, b[i]? = some y := ⟨b[i], by simp [hlt]⟩
  obtain ⟨g, gq, rfl, sa, sc, hyc, hys, hyl⟩ := HM.out i y hy
  have c2 : w.cell? ⟨g, gq + i * 3 + 2, none⟩ = some (.slice sa y.sets.length sc) := hyc 2 (by omega)
  have HY := Lib.hid hy
  have HYS := Lib.hid hys
  have hki : (i : Int) < (b.length : Int) := by omega
  have hk0 : (0 : Int) ≤ (i : Int) := by omega
  have hkw : IntKind.i64.wrap ((i : Int) + 1) = (i : Int) + 1 := IntWalk.i64_in _ (by omega)
  clear hyc hys hy
  by_cases h20 : 20 < y.sets.length
  ·have q4 : decide ((20 : Int) < (y.sets.length : Int)) = true := by simp; omega
   go_wp2_with fail
   go_ret
   exact slight_no _ _ rfl
  have q4 : decide ((20 : Int) < (y.sets.length : Int)) = false := by simp; omega
  go_wp2_with fail
  go_loopw [4] (fun kv wr => ∃ k : Nat, k ≤ y.sets.length ∧ kv = .int .i64 k ∧ (∀ (j : Nat) x, j < k → y.sets[j]? = some x → x.size ≤ 1000) ∧ w = wr) (fun kv _ => y.sets.length - (intOf kv).toNat)
  case atStart => exact ⟨0, Nat.zero_le _, rfl, fun j _ hj => absurd hj (Nat.not_lt_zero j), rfl⟩
  case round =>
   obtain ⟨k, hk, rfl, hall2, rfl⟩ := hrel
   have HA2 := Lib.hid hall2
   clear hall2
   by_cases hkl : k < y.sets.length
   ·obtain ⟨x, hx⟩ : ∃ x, y.sets[k]? = some x := ⟨y.sets[k], by simp [hkl]⟩
    obtain ⟨s1, s2, rfl, hxc⟩ := HYS.out k x hx
    have HX := Lib.hid hx
    have hkk : (k : Int) < (y.sets.length : Int) := by omega
    have hk3 : (0 : Int) ≤ (k : Int) := by omega
    have hkw2 : IntKind.i64.wrap ((k : Int) + 1) = (k : Int) + 1 := IntWalk.i64_in _ (by omega)
    clear hx
    by_cases h40 : 40 < x.size
    ·have q5 : decide ((40 : Int) < (x.size : Int)) = true := by simp; omega
     go_wp2_with fail
     go_ret
     exact slight_no _ _ rfl
    ·have q5 : decide ((40 : Int) < (x.size : Int)) = false := by simp; omega
     have HREL := Lib.hid (show ∃ q : Nat, q ≤ y.sets.length ∧ Value.int .i64 ((k : Int) + 1) = .int .i64 q ∧ (∀ (j : Nat) x, j < q → y.sets[j]? = some x → x.size ≤ 1000) ∧ True from ⟨k + 1, by omega, rfl, fun j z hj hz => by
      rcases Nat.lt_or_ge j k with h1 | h1
      ·exact HA2.out j z h1 hz
      ·have : j = k := by omega
       subst this
       rw [HX.out] at hz; cases hz; omega, trivial⟩)
     go_wp2_with fail
     exact ⟨by simpa using HREL.out, by simp [intOf]; omega⟩
   ·have hkn : decide ((k : Int) < (y.sets.length : Int)) = false := by simp; omega
    have HS := Lib.hid (show SmlB y from ⟨by omega, fun x hx => by
     obtain ⟨j, hj⟩ := List.getElem?_of_mem hx
     exact HA2.out j x (by have := (List.getElem?_eq_some_iff.1 hj).1; omega) hj⟩)
    have HREL := Lib.hid (show ∃ q : Nat, q ≤ b.length ∧ q ≤ 160 ∧ Value.int .i64 ((i : Int) + 1) = .int .i64 q ∧ (∀ (j : Nat) y, j < q → b[j]? = some y → SmlB y) ∧ True from ⟨i + 1, by omega, by omega, rfl, fun j z hj hz => by
     rcases Nat.lt_or_ge j i with h1 | h1
     ·exact HA.out j z h1 hz
     ·have : j = i := by omega
      subst this
      rw [HY.out] at hz; cases hz; exact HS.out, trivial⟩)
    go_wp2_with fail
    exact ⟨by simpa using HREL.out, by simp [intOf]; omega⟩
/-! a fit and blanks -/
theorem fit_yes {l : List Typ} {ware : ByteArray} {r : List Rng} (h0 : wantedErr l ware r = 0) {f : Ft} (hf : f ∈ shiftsT l ware r) : checkFitT l ware r f.type f.shift (mkB (toS f.word)) = true := by
 rw [shiftsT_eq] at hf
 obtain ⟨⟨i, s⟩, hx, he⟩ := List.mem_filterMap.1 hf
 obtain ⟨t, ht, hw, hs⟩ := mem_tries.1 hx
 simp only [fitsAt, ht, Option.map_eq_some_iff] at he
 obtain ⟨w, hw2, rfl⟩ := he
 have hm : w ∈ fitsOf t r s := List.mem_of_mem_head? (by rw [hw2]; rfl)
 have hc : ∀ c ∈ w, c < 26 := by
  obtain ⟨h1, _, _⟩ := (mem_fitL (Nat.le_refl _)).1 hm
  exact (chain_iff.1 h1).2.1
 obtain ⟨_, h1, _, _⟩ := typeB_good (types_at (wanted_typ h0).1 ht)
 refine checkFit_iff.2 ⟨i, s, t, rfl, rfl, ht, hw, hs, ?_⟩
 rw [bl_mkB]
 exact (fitB_iff h1).2 ⟨all_toS hc, by rw [cl_toS hc]; exact hm⟩
theorem fit_some {l : List Typ} {ware : ByteArray} {r : List Rng} (h0 : wantedErr l ware r = 0) {i s : Int} {wd : ByteArray} (h : checkFitT l ware r i s wd = true) : shiftsT l ware r ≠ [] := by
 intro hn
 obtain ⟨n, k, t, rfl, rfl, ht, hw, hs, hf⟩ := checkFit_iff.1 h
 obtain ⟨_, h1, _, _⟩ := typeB_good (types_at (wanted_typ h0).1 ht)
 have := (fits_none l ware r).1 hn n k t (mem_tries.2 ⟨t, ht, hw, hs⟩) ht
 have hm := ((fitB_iff h1).1 hf).2
 rw [this] at hm; cases hm
theorem flat_at {us : List (List Value)} {n k j : Nat} {u : List Value} (h : ∀ x ∈ us, x.length = n) (hk : us[k]? = some u) (hj : j < n) : us.flatten[k * n + j]? = u[j]? := by
 induction us generalizing k with
 | nil => simp at hk
 | cons x us ih =>
  have hx := h x (by simp)
  cases k with
  | zero =>
   simp only [List.getElem?_cons_zero, Option.some.injEq] at hk
   subst hk
   rw [List.flatten_cons, Nat.zero_mul, Nat.zero_add, List.getElem?_append_left (by omega)]
  | succ k =>
   rw [List.flatten_cons, List.getElem?_append_right (by rw [hx, Nat.succ_mul]; omega), hx, show (k + 1) * n + j - n = k * n + j by rw [Nat.succ_mul]; omega]
   exact ih (fun y hy => h y (by simp [hy])) (by simpa using hk)
/-- what Blanks gave, as a slice of blanks -/
theorem blks_in {B : Nat} {A : Nat → Prop} {W : World} {fa : Option Addr} {L : List Bl4} {us : List (List Value)} (ho : RowOwn B W fa us.flatten) (hr : BlkRows B A W L us) : BlksIn W fa L := by
 have h3 : ∀ u ∈ us, u.length = 3 := fun u hu => by
  obtain ⟨k, hk⟩ := List.getElem?_of_mem hu
  have hkl := (List.getElem?_eq_some_iff.1 hk).1
  obtain ⟨b, hb⟩ : ∃ b, L[k]? = some b := ⟨L[k]'(by have := hr.1; omega), by simp⟩
  obtain ⟨sa, sc, e, _⟩ := hr.2 k b u hb hk
  rw [e]; rfl
 intro k b hb
 have hkl := (List.getElem?_eq_some_iff.1 hb).1
 obtain ⟨u, hu⟩ : ∃ u, us[k]? = some u := ⟨us[k]'(by have := hr.1; omega), by simp⟩
 obtain ⟨sa, sc, rfl, hl, hs, _⟩ := hr.2 k b u hb hu
 have cell : ∀ j v, j < 3 → ([.int .i64 b.type, .int .i64 b.shift, .slice sa b.sets.length sc] : List Value)[j]? = some v → ∃ g o, fa = some ⟨g, o, none⟩ ∧ W.cell? ⟨g, o + (k * 3 + j), none⟩ = some v := fun j v hj hv => by
  obtain ⟨g, o, ha, _, hc, _⟩ := ho (k * 3 + j) v (by rw [flat_at h3 hu hj]; exact hv)
  exact ⟨g, o, ha, hc⟩
 obtain ⟨g, o, ha, _⟩ := cell 0 _ (by omega) rfl
 refine ⟨g, o, ha, sa, sc, fun j hj => ?_, fun m s hm => ?_, hl⟩
 ·have key : ∀ v, ([.int .i64 b.type, .int .i64 b.shift, .slice sa b.sets.length sc] : List Value)[j]? = some v → W.cell? ⟨g, o + k * 3 + j, none⟩ = some v := fun v hv => by
   obtain ⟨g', o', ha', hc⟩ := cell j v hj hv
   rw [ha] at ha'
   cases ha'
   rw [Nat.add_assoc]; exact hc
  rcases j with _ | _ | _ | j
  ·exact key _ rfl
  ·exact key _ rfl
  ·exact key _ rfl
  ·omega
 ·obtain ⟨g', o', ha', _, hc, _⟩ := hs m (.string s) (by rw [List.getElem?_map, hm]; rfl)
  exact ⟨g', o', ha', hc⟩
theorem blks_sml {l : List Typ} {ware : ByteArray} {r : List Rng} (h0 : wantedErr l ware r = 0) : (∀ y, y ∈ blanksX l ware r → SmlB y) ∧ (blanksX l ware r).length ≤ 1000000 := by
 obtain ⟨hte, hre⟩ := wanted_typ h0
 have hg := RgOk.of hre
 unfold blanksX
 split
 ·have hlen : (blanksT l ware r).length ≤ (triesOf l ware r).length := List.length_filterMap_le _ _
  refine ⟨fun y hy => ?_, ?_⟩
  ·obtain ⟨⟨i, s⟩, hx, he⟩ := List.mem_filterMap.1 hy
   obtain ⟨t, ht, _, _⟩ := mem_tries.1 hx
   simp only [ht, Option.some.injEq] at he
   subst he
   obtain ⟨_, _, _, hm⟩ := typeB_good (types_at hte ht)
   refine ⟨?_, fun x hx => ?_⟩
   ·simp only [List.length_map, blankSets, List.length_range, Typ.m]; omega
   ·obtain ⟨u, hu, rfl⟩ := List.mem_map.1 hx
    obtain ⟨p, _, rfl⟩ := List.mem_map.1 hu
    rw [mkB_size]
    have := str_len (blankOf t r s p); omega
  ·refine Nat.le_trans hlen ?_
   have key : ∀ k, k ≤ l.length → (triesTo l ware r k).length ≤ k * 13 := by
    intro k
    induction k with
    | zero => intro _; exact Nat.le_refl _
    | succ k ih =>
     intro hk
     obtain ⟨t, ht⟩ : ∃ t, l[k]? = some t := ⟨l[k], by simp⟩
     obtain ⟨_, _, _, hm⟩ := typeB_good (types_at hte ht)
     have hsh := shifts_le (t := t) (r := r) hm hg
     have := ih (by omega)
     by_cases hw : t.ware = ware
     ·rw [triesTo_yes ht hw, List.length_append, List.length_map, List.length_range]; omega
     ·rw [triesTo_no ht hw]; omega
   have hl12 : l.length ≤ 12 := by
    unfold typesErr at hte
    split at hte
    ·cases hte
    ·omega
   have := key l.length (Nat.le_refl _)
   rw [triesTo_all] at this; omega
 ·exact ⟨(fun y hy => by cases hy), Nat.zero_le _⟩
end Go.Proofs.YthpjffhccjlnhaaGreatDoor
