/- Package profile: Overlap. No condition. -/
import Derived.Test.YthpjffhccjlnhaaGreatDoorMG7
set_option linter.unusedSimpArgs false
set_option linter.unusedVariables false
namespace Go.Proofs.YthpjffhccjlnhaaGreatDoor
open Go.RowKit
attribute [local go_sem] Oper.semAt_some

def meetTo (A B : Knd) (k : Nat) : Knd := ⟨A.typ, A.index, fun c => A.rim c && B.rim c, fun c => A.base c && B.base c, fun c d => if c < k then A.after c d && B.after c d else A.after c d⟩
def meetAll (A B : Knd) : Knd := ⟨A.typ, A.index, fun c => A.rim c && B.rim c, fun c => A.base c && B.base c, fun c d => A.after c d && B.after c d⟩
theorem meetAll_kd (A B : Knd) : (meetAll A B).kd = meetK A.kd B.kd := rfl
theorem meetTo_all (A B : Knd) : kndCells (meetTo A B 26) = kndCells (meetAll A B) := by
 refine fnCells_congr fun j hj => ?_
 unfold kndF meetTo meetAll
 dsimp only
 rw [if_pos (show (j - 85) / 26 < 26 by omega)]
theorem KndBox.put2 {w : World} {b : Nat} {A B : Knd} (h : KndBox w b A) :
  ∃ w1, (Instr.storeAt 108 (.pointer (some ⟨b, 33, none⟩)) (.agg (setCells fun c => A.rim c && B.rim c))).run Tryz.prog w = .ok () w1 ∧
   ∃ w2, (Instr.storeAt 108 (.pointer (some ⟨b, 59, none⟩)) (.agg (setCells fun c => A.base c && B.base c))).run Tryz.prog w1 = .ok () w2 ∧
   KndBox w2 b (meetTo A B 0) ∧ Keep (fun k => k ≠ b) w w2 ∧ w2.heap.size = w.heap.size := by
 obtain ⟨w1, hr1, hw1⟩ := run_store_sub agg_set h 33 (setF fun c => A.rim c && B.rim c) (setF_one _) (by omega)
 obtain ⟨w2, hr2, hw2⟩ := run_store_sub agg_set hw1.box 59 (setF fun c => A.base c && B.base c) (setF_one _) (by omega)
 refine ⟨w1, hr1, w2, hr2, hw2.box.cong fun j hj => ?_, hw1.keep.trans hw2.keep, by rw [hw2.size, hw1.size]⟩
 unfold kndF setF meetTo
 dsimp only
 by_cases h1 : 59 ≤ j ∧ j < 59 + 26
 ·rw [if_pos h1, if_neg (by omega), if_neg (by omega), if_neg (by omega), if_pos (by omega)]
 ·rw [if_neg h1]
  by_cases h2 : 33 ≤ j ∧ j < 33 + 26
  ·rw [if_pos h2, if_neg (by omega), if_neg (by omega), if_pos (by omega)]
  ·rw [if_neg h2]
   split; · rfl
   split; · rfl
   rw [if_neg (by omega), if_neg (by omega)]
   simp
   rw [if_neg (by omega), if_neg (by omega)]
theorem KndBox.putA {w : World} {b : Nat} {A B : Knd} {k : Nat} (h : KndBox w b (meetTo A B k)) (hk : k < 26) :
  ∃ w', (Instr.storeAt 108 (.pointer (some ⟨b, 85 + k * 26, none⟩)) (.agg (setCells fun d => A.after k d && B.after k d))).run Tryz.prog w = .ok () w' ∧ Wrote w w' b (kndCells (meetTo A B (k + 1))) 111 := by
 obtain ⟨w', hr, hw⟩ := run_store_sub agg_set h (85 + k * 26) (setF fun d => A.after k d && B.after k d) (setF_one _) (by omega)
 refine ⟨w', hr, ⟨hw.box.cong fun j hj => ?_, hw.keep, hw.size⟩⟩
 by_cases h1 : 85 + k * 26 ≤ j ∧ j < 85 + k * 26 + 26
 ·rw [if_pos h1]
  unfold kndF setF
  rw [if_neg (by omega), if_neg (by omega), if_neg (by omega), if_neg (by omega)]
  simp only [meetTo]
  rw [show (j - 85) / 26 = k by omega, show (j - 85) % 26 = j - (85 + k * 26) by omega, if_pos (by omega)]
 ·rw [if_neg h1]
  unfold kndF
  split; · rfl
  split; · rfl
  split; · rfl
  split; · rfl
  simp only [meetTo]
  by_cases e : (j - 85) / 26 < k
  ·rw [if_pos e, if_pos (by omega)]
  ·rw [if_neg e, if_neg (by omega)]
def overK (A B : Knd) : List Nat := firstW (meetK A.kd B.kd) (loOf A.typ B.typ) (hiOf A.typ B.typ + 1 - loOf A.typ B.typ)
def overOut (l : List Typ) (i j : Int) : Value :=
 if askedErr l i = 0 then
  if askedErr l j = 0 then .tuple #[.string (mkB (toS (overK (askedKnd l i) (askedKnd l j)))), .bool (!(overK (askedKnd l i) (askedKnd l j)).isEmpty), .int .i64 0]
  else .tuple #[.string ByteArray.empty, .bool false, .int .i64 (askedErr l j)]
 else .tuple #[.string ByteArray.empty, .bool false, .int .i64 (askedErr l i)]
/-- the memory of Overlap: the two kinds -/
structure OverSt (A B K : Knd) (xb yb : Nat) (w W : World) : Prop where
 x : KndBox W xb K
 y : KndBox W yb B
 b : Below w.heap.size w W
 s : w.heap.size ≤ xb
 q : xb < yb
theorem OverSt.below {A B K : Knd} {xb yb : Nat} {w W W' : World} (h : OverSt A B K xb yb w W) (hb : Below W.heap.size W W') : OverSt A B K xb yb w W' := ⟨h.x.below' hb, h.y.below' hb, h.b.trans (hb.mono h.b.size), h.s, h.q⟩
theorem OverSt.set_ {A B K K' : Knd} {xb yb : Nat} {w W W' : World} (h : OverSt A B K xb yb w W) (hk : Keep (fun k => k ≠ xb) W W') (hx : KndBox W' xb K') : OverSt A B K' xb yb w W' :=
 ⟨hx, hk.heap (by have := h.q; omega) h.y, h.b.trans ((hk.mono fun k hk => by have := h.s; omega).below h.b.size), h.s, h.q⟩
set_option maxRecDepth 100000 in
set_option maxHeartbeats 4000000 in
theorem overX_any (a : Option Addr) (c : Nat) (l : List Typ) (i j : Int) (w : World) (h : TypesAt w a l) (hs : ∀ t, t ∈ l → SmlT t) (hl : l.length ≤ 1000000) (hlc : l.length ≤ c) :
  Calls Tryz.prog 24 #[.slice a l.length c, .int .i64 i, .int .i64 j] w fun e w' => e = .returned (overOut l i j) ∧ Below w.heap.size w w' := by
 have HC := Lib.hid (askedP_any a c l i w h hs hl hlc)
 have HT := Lib.hid h
 have HS := Lib.hid hs
 clear h hs
 go_enter Tryz.func24, Tryz.ntmps24
 go_upto_region 1 with fail
 go_wp2_with fail
 refine HC.out.mono ?_
 rintro e wp ⟨rfl, hbp⟩
 obtain ⟨wq, hwq⟩ : ∃ wq, wp.alloc (.cells (kndCells knd0) 111) = wq := ⟨_, rfl⟩
 have bq : KndBox wq wp.heap.size knd0 := by rw [← hwq]; exact Box.new _ _ _
 have hbq : Below wp.heap.size wp wq := by rw [← hwq]; go_grown
 have hsq : wq.heap.size = wp.heap.size + 1 := by rw [← hwq]; simp
 obtain ⟨w3, hst, hw3⟩ := run_store_all (P := Tryz.prog) agg_knd bq (kndF (askedKnd l i)) (fun j _ => kndF_one _ j)
 have HB3 := Lib.hid (hbp.trans ((hw3.below hbq (Nat.le_refl _)).mono hbp.size))
 have HBX := Lib.hid hw3.box
 have HS1 := Lib.hid hbp.size
 have GS3 := Lib.hid (show w3.heap.size = wp.heap.size + 1 by rw [hw3.size, hsq])
 have HWQ := Lib.hid hwq
 have HST := Lib.hid hst
 clear hbp hwq bq hbq hsq hst hw3 HC
 go_upto_region 2 with (simp only [zknd, HWQ.out]; refine wpList_store_box rfl 111 _ _ rfl rfl rfl HST.out ?_)
 obtain ⟨xb, hxb⟩ : ∃ xb, wp.heap.size = xb := ⟨_, rfl⟩
 rw [hxb] at HBX HS1 GS3
 simp only [hxb]
 clear HST HWQ
 clear hxb wq wp
 by_cases h0 : askedErr l i = 0
 rotate_left
 ·have HE : Hid (overOut l i j = .tuple #[.string ByteArray.empty, .bool false, .int .i64 (askedErr l i)]) := Lib.hid (by unfold overOut; rw [if_neg h0])
  have hne : (askedErr l i == 0) = false := by simpa using h0
  go_wp2_with fail
  exact bodyPost_ret (results_tmp3 rfl) rfl ⟨by rw [HE.out]; rfl, HB3.out⟩
 have HC := Lib.hid (askedP_any a c l j w3 (HT.out.below HB3.out) HS.out hl hlc)
 have H0 := Lib.hid h0
 simp only [h0]
 clear h0
 go_upto_region 4 with fail
 go_wp2_with fail
 refine HC.out.mono ?_
 rintro e wp ⟨rfl, hbp⟩
 obtain ⟨wq, hwq⟩ : ∃ wq, wp.alloc (.cells (kndCells knd0) 111) = wq := ⟨_, rfl⟩
 have bq : KndBox wq wp.heap.size knd0 := by rw [← hwq]; exact Box.new _ _ _
 have hbq : Below wp.heap.size wp wq := by rw [← hwq]; go_grown
 have hsq : wq.heap.size = wp.heap.size + 1 := by rw [← hwq]; simp
 obtain ⟨w6, hst, hw6⟩ := run_store_all (P := Tryz.prog) agg_knd bq (kndF (askedKnd l j)) (fun j _ => kndF_one _ j)
 have hb6 : Below w3.heap.size w3 w6 := hbp.trans ((hw6.below hbq (Nat.le_refl _)).mono hbp.size)
 have ST6 := Lib.hid (show OverSt (askedKnd l i) (askedKnd l j) (askedKnd l i) xb wp.heap.size w w6 from ⟨HBX.out.below' hb6, hw6.box, HB3.out.trans (hb6.mono HB3.out.size), HS1.out, by have := hbp.size; have := GS3.out; omega⟩)
 have HWQ := Lib.hid hwq
 have HST := Lib.hid hst
 clear hbp hwq bq hbq hsq hst hw6 HC hb6
 go_upto_region 5 with (simp only [zknd, HWQ.out]; refine wpList_store_box rfl 111 _ _ rfl rfl rfl HST.out ?_)
 obtain ⟨yb, hyb⟩ : ∃ yb, wp.heap.size = yb := ⟨_, rfl⟩
 rw [hyb] at ST6
 simp only [hyb]
 clear HST HWQ HBX HB3 HS1 GS3
 clear hyb wq wp
 by_cases h1 : askedErr l j = 0
 rotate_left
 ·have HE : Hid (overOut l i j = .tuple #[.string ByteArray.empty, .bool false, .int .i64 (askedErr l j)]) := Lib.hid (by unfold overOut; rw [if_pos H0.out, if_neg h1])
  have hne : (askedErr l j == 0) = false := by simpa using h1
  go_wp2_with fail
  exact bodyPost_ret (results_tmp3 rfl) rfl ⟨by rw [HE.out]; rfl, ST6.out.b⟩
 obtain ⟨n1, t1, hi1, ht1, hk1, hg1, hm1, hm121⟩ := asked_good H0.out
 obtain ⟨n2, t2, hi2, ht2, hk2, hg2, hm2, hm122⟩ := asked_good h1
 have HE : Hid (overOut l i j = .tuple #[.string (mkB (toS (overK (askedKnd l i) (askedKnd l j)))), .bool (!(overK (askedKnd l i) (askedKnd l j)).isEmpty), .int .i64 0]) := Lib.hid (by unfold overOut; rw [if_pos H0.out, if_pos h1])
 have HM : Hid (1 ≤ (askedKnd l i).typ.least ∧ (askedKnd l i).typ.most ≤ 12 ∧ 0 ≤ (askedKnd l i).typ.most ∧ 1 ≤ (askedKnd l j).typ.least ∧ (askedKnd l j).typ.most ≤ 12 ∧ 0 ≤ (askedKnd l j).typ.most ∧ (askedKnd l i).typ.least ≤ 12 ∧ (askedKnd l j).typ.least ≤ 12) := Lib.hid (by
  have e1 := (typeB_good hg1).2.2.1
  have e2 := (typeB_good hg2).2.2.1
  have e3 := (typeB_good hg1).2.1
  have e4 := (typeB_good hg2).2.1
  rw [hk1, hk2]
  simp only [kndOf] at *
  omega)
 simp only [h1]
 clear h1 hi1 ht1 hk1 hg1 hm1 hm121 hi2 ht2 hk2 hg2 hm2 hm122 H0 HT HS
 generalize askedKnd l i = A at *
 generalize askedKnd l j = B at *
 go_upto_region 7 with fail
 refine wp_region_heldB 11 [] (by kernel_rfl) (by kernel_rfl) (by kernel_rfl) (by simp) ?_
 intro S hS
 have L1 := Lib.hid (fun W hW => KndBox.rim_ (ST6.out.x.below' (hS W hW)))
 have L2 := Lib.hid (fun W hW => KndBox.rim_ (ST6.out.y.below' (hS W hW)))
 have L3 := Lib.hid (fun W hW => KndBox.base_ (ST6.out.x.below' (hS W hW)))
 have L4 := Lib.hid (fun W hW => KndBox.base_ (ST6.out.y.below' (hS W hW)))
 have HS := Lib.hid hS
 clear hS
 simp only [List.take_succ_cons, List.take_zero, List.drop_succ_cons, List.drop_zero]
 repeat (first
  | (refine held_load 108 _ (by rfl) rfl rfl L1.out ?_; try (dsimp only); try simp only [Act.put, List.setIfInBounds_toArray, List.set_cons_zero, List.set_cons_succ])
  | (refine held_load 108 _ (by rfl) rfl rfl L2.out ?_; try (dsimp only); try simp only [Act.put, List.setIfInBounds_toArray, List.set_cons_zero, List.set_cons_succ])
  | (refine held_load 108 _ (by rfl) rfl rfl L3.out ?_; try (dsimp only); try simp only [Act.put, List.setIfInBounds_toArray, List.set_cons_zero, List.set_cons_succ])
  | (refine held_load 108 _ (by rfl) rfl rfl L4.out ?_; try (dsimp only); try simp only [Act.put, List.setIfInBounds_toArray, List.set_cons_zero, List.set_cons_succ])
  | (refine held_not rfl (by rfl) ?_; try (dsimp only); try simp only [Act.put, List.setIfInBounds_toArray, List.set_cons_zero, List.set_cons_succ])
  | (refine held_val (v := ?_) rfl (by rfl) ?_ ?_; rotate_left; (· (intro W hW; go_simp; try with_reducible rfl)); try (dsimp only); try simp only [Act.put, List.setIfInBounds_toArray, List.set_cons_zero, List.set_cons_succ])
  | (refine held_skip rfl (by rfl) ?_ ?_; (· (intro W hW; go_simp; try with_reducible rfl)); try (dsimp only); try simp only [Act.put, List.setIfInBounds_toArray, List.set_cons_zero, List.set_cons_succ])
  | (refine held_call (v := .agg (setCells fun d => (A.rim d && B.rim d))) (f := 77) (args := #[.agg (setCells A.rim), .agg (setCells B.rim)]) rfl (by rfl) ?_ ?_ ?_; (· (intro W hW; go_simp; done)); (· exact (fun W hW => cut_any _ _ W)); try (dsimp only); try simp only [Act.put, List.setIfInBounds_toArray, List.set_cons_zero, List.set_cons_succ])
  | (refine held_call (v := .agg (setCells fun d => (A.base d && B.base d))) (f := 77) (args := #[.agg (setCells A.base), .agg (setCells B.base)]) rfl (by rfl) ?_ ?_ ?_; (· (intro W hW; go_simp; done)); (· exact (fun W hW => cut_any _ _ W)); try (dsimp only); try simp only [Act.put, List.setIfInBounds_toArray, List.set_cons_zero, List.set_cons_succ]))
 refine held_nil ?_
 intro τ hτ W hW hO
 obtain rfl := laid0 hτ
 have hb := HS.out W hW
 clear hτ hO hW HS L1 L2 L3 L4
 simp only [overs, List.foldl_nil]
 have st := ST6.out.below hb
 obtain ⟨W1, hs1, W2, hs2, hx, hk, hsz⟩ := KndBox.put2 (B := B) st.x
 have ST := Lib.hid (st.set_ hk hx)
 have H1 := Lib.hid hs1
 have H2 := Lib.hid hs2
 clear hb st hs1 hs2 hx hk hsz ST6
 go_wp2_with (first
  | (refine wpList_store_box rfl 108 _ _ rfl rfl rfl H1.out ?_)
  | (refine wpList_store_box rfl 108 _ _ rfl rfl rfl H2.out ?_))
 clear H1 H2
 go_loopw [45] (fun iv wr => ∃ k : Nat, k ≤ 26 ∧ iv = .int .i64 k ∧ OverSt A B (meetTo A B k) xb yb w wr) (fun iv _ => 26 - (intOf iv).toNat)
 case atStart => exact ⟨0, by omega, rfl, ST.out⟩
 case round =>
  clear ST W1 W2 W
  obtain ⟨k, hk, rfl, st⟩ := hrel
  have ST := Lib.hid st
  clear st
  by_cases hlt : k < 26
  ·have hki : (k : Int) < 26 := by omega
   have hk0 : (0 : Int) ≤ (k : Int) := by omega
   have hq : decide ((k : Int) < 26) = true := decide_eq_true hki
   go_upto_region 11 with fail
   refine wp_region_heldB 11 [] (by kernel_rfl) (by kernel_rfl) (by kernel_rfl) (by simp) ?_
   intro S hS
   have L1 := Lib.hid (fun W hW => (show (Instr.loadAt 108 (.pointer (some ⟨xb, 85 + k * 26, none⟩))).run Tryz.prog W = .ok (.agg (setCells (A.after k))) W from by
    have := KndBox.after_ (ST.out.x.below' (hS W hW)) hlt
    rw [this]; simp [meetTo]))
   have L2 := Lib.hid (fun W hW => KndBox.after_ (ST.out.y.below' (hS W hW)) hlt)
   have HS := Lib.hid hS
   clear hS
   simp only [List.take_succ_cons, List.take_zero, List.drop_succ_cons, List.drop_zero]
   repeat (first
    | (refine held_load 108 _ (by rfl) rfl rfl L1.out ?_; try (dsimp only); try simp only [Act.put, List.setIfInBounds_toArray, List.set_cons_zero, List.set_cons_succ])
    | (refine held_load 108 _ (by rfl) rfl rfl L2.out ?_; try (dsimp only); try simp only [Act.put, List.setIfInBounds_toArray, List.set_cons_zero, List.set_cons_succ])
    | (refine held_not rfl (by rfl) ?_; try (dsimp only); try simp only [Act.put, List.setIfInBounds_toArray, List.set_cons_zero, List.set_cons_succ])
    | (refine held_val (v := ?_) rfl (by rfl) ?_ ?_; rotate_left; (· (intro W hW; go_simp; try with_reducible rfl)); try (dsimp only); try simp only [Act.put, List.setIfInBounds_toArray, List.set_cons_zero, List.set_cons_succ])
    | (refine held_skip rfl (by rfl) ?_ ?_; (· (intro W hW; go_simp; try with_reducible rfl)); try (dsimp only); try simp only [Act.put, List.setIfInBounds_toArray, List.set_cons_zero, List.set_cons_succ])
    | (refine held_call (v := .agg (setCells fun d => (A.after k d && B.after k d))) (f := 77) (args := #[.agg (setCells (A.after k)), .agg (setCells (B.after k))]) rfl (by rfl) ?_ ?_ ?_; (· (intro W hW; go_simp; done)); (· exact (fun W hW => cut_any _ _ W)); try (dsimp only); try simp only [Act.put, List.setIfInBounds_toArray, List.set_cons_zero, List.set_cons_succ]))
   refine held_nil ?_
   intro τ hτ W hW hO
   obtain rfl := laid0 hτ
   have hb := HS.out W hW
   clear hτ hO hW HS L1 L2
   simp only [overs, List.foldl_nil]
   have st := ST.out.below hb
   obtain ⟨W1, hs1, hw1⟩ := KndBox.putA st.x hlt
   have ST1 := Lib.hid (st.set_ hw1.keep hw1.box)
   have H1 := Lib.hid hs1
   clear hb st hs1 hw1
   go_wp2_with (refine wpList_store_box rfl 108 _ _ rfl rfl rfl H1.out ?_)
   go_roundw
   case rel => exact ⟨k + 1, by omega, by go_num, ST1.out⟩
   case measure => simp [intOf]; omega
  ·have hk26 : k = 26 := by omega
   have hq : decide ((k : Int) < 26) = false := decide_eq_false (by omega)
   rw [hk26] at ST
   clear hk26 hlt hk
   obtain ⟨hm1, hm2, hm3, hm4, hm5, hm6, hm7, hm8⟩ := HM.out
   obtain ⟨K, hK⟩ : ∃ K, meetAll A B = K := ⟨_, rfl⟩
   have hx : KndBox wr xb K := by rw [← hK]; have := ST.out.x; unfold KndBox at this; rwa [meetTo_all] at this
   have STK := Lib.hid (show OverSt A B K xb yb w wr from ⟨hx, ST.out.y, ST.out.b, ST.out.s, ST.out.q⟩)
   obtain ⟨lo, hlo⟩ : ∃ lo : Nat, (if A.typ.least < B.typ.least then B.typ.least else A.typ.least) = (lo : Int) := ⟨(if A.typ.least < B.typ.least then B.typ.least else A.typ.least).toNat, by split <;> omega⟩
   obtain ⟨hi, hhi⟩ : ∃ hi : Nat, (if B.typ.most < A.typ.most then B.typ.most else A.typ.most) = (hi : Int) := ⟨(if B.typ.most < A.typ.most then B.typ.most else A.typ.most).toNat, by split <;> omega⟩
   have hlo12 : lo ≤ 12 := by split at hlo <;> omega
   have hhi12 : hi ≤ 12 := by split at hhi <;> omega
   have HOV := Lib.hid (show overK A B = firstW K.kd lo (hi + 1 - lo) by
    have e1 : loOf A.typ B.typ = lo := by unfold loOf; split at hlo <;> omega
    have e2 : hiOf A.typ B.typ = hi := by unfold hiOf; split at hhi <;> omega
    rw [overK, e1, e2, ← hK]; rfl)
   have c1 : wr.cell? ⟨xb, 2, none⟩ = some (.int .i64 A.typ.least) := by have := KndBox.least_ hx; rw [← hK] at this; exact this
   have c2 := KndBox.least_ ST.out.y
   have HKT := Lib.hid (show K.typ.most = A.typ.most by rw [← hK]; rfl)
   clear hx ST hK hm1 hm2 hm3 hm4 hm5 hm6 hm7 hm8
   have HHI := Lib.hid hhi
   clear hhi
   go_upto_region 13 with fail
   go_wp2_with fail
   clear c1 c2 hlo
   go_loopw [13] (fun iv wz => ∃ q : Nat, q ≤ hi + 1 - lo ∧ iv = .int .i64 ((lo + q : Nat) : Int) ∧ (∀ q', q' < q → firstAt K.kd lo q' = []) ∧ OverSt A B K xb yb w wz) (fun iv _ => hi + 1 - (intOf iv).toNat)
   case atStart => exact ⟨0, Nat.zero_le _, rfl, fun j hj => absurd hj (Nat.not_lt_zero j), STK.out⟩
   case round =>
    clear STK
    obtain ⟨q, hq, rfl, hno, st⟩ := hrel
    have HNO := Lib.hid hno
    have ST := Lib.hid st
    have c3 := KndBox.most_ st.x
    rw [HKT.out] at c3
    have c4 := KndBox.most_ st.y
    have HL := Lib.hid (KndBox.load st.x)
    have hhi := HHI.out
    clear hno st
    obtain ⟨n', hn'⟩ : ∃ n', lo + q = n' := ⟨_, rfl⟩
    rw [hn']
    by_cases hlt : lo + q ≤ hi
    ·have hle : decide ((n' : Int) ≤ (hi : Int)) = true := decide_eq_true (by omega)
     go_wp2_with (refine wpList_load_box rfl 111 _ rfl rfl HL.out ?_)
     clear c3 c4 hhi
     refine (exact_any K n' _).mono ?_
     rintro e w4 ⟨rfl, hb4⟩
     go_wp2_with fail
     refine (free_any w4).mono ?_
     rintro e w5 ⟨rfl, hb5⟩
     go_wp2_with fail
     have hwd := word_any (exactK K n') allC n' n' rfl (by omega) w5
     rw [exact_word] at hwd
     refine hwd.mono ?_
     rintro e w6 ⟨rfl, hb6⟩
     have hb7 := (hb4.trans (hb5.mono hb4.size)).trans (hb6.mono (by have := hb4.size; have := hb5.size; omega))
     have ST7 := Lib.hid (ST.out.below hb7)
     clear hb4 hb5 hb6 hb7 hwd
     have hfa : firstAt K.kd lo q = refWord K.kd n' K.rim := by unfold firstAt; rw [hn']; rfl
     have hme := mk_empty (refWord K.kd n' K.rim)
     rcases hq2 : (refWord K.kd n' K.rim).isEmpty with _ | _
     ·have HF : Hid (overK A B = refWord K.kd n' K.rim) := Lib.hid (by rw [HOV.out, ← hfa]; exact firstW_at (by omega) HNO.out (by rw [hfa]; intro h; rw [h] at hq2; cases hq2))
      rw [hq2] at hme
      have HQ := Lib.hid hq2
      clear hq2 hfa
      go_wp2_with fail
      exact bodyPost_ret (results_tmp3 rfl) rfl ⟨by rw [HE.out, HF.out, HQ.out]; rfl, ST7.out.b⟩
     ·rw [hq2] at hme
      have HE0 : Hid (firstAt K.kd lo q = []) := Lib.hid (by rw [hfa]; exact List.isEmpty_iff.1 hq2)
      clear hq2 hfa
      go_wp2_with fail
      go_roundw
      case rel =>
       refine ⟨q + 1, by omega, by subst hn'; go_num, fun j' hj' => ?_, ST7.out⟩
       rcases Nat.lt_or_ge j' q with h | h
       ·exact HNO.out j' h
       ·have : j' = q := by omega
        subst this; exact HE0.out
      case measure => simp [intOf]; omega
    ·have hle : decide ((n' : Int) ≤ (hi : Int)) = false := decide_eq_false (by omega)
     have HF : Hid (overK A B = []) := Lib.hid (by rw [HOV.out]; exact firstW_no fun j' hj' => HNO.out j' (by omega))
     go_wp2_with fail
     exact bodyPost_ret (results_tmp3 rfl) rfl ⟨by rw [HE.out, HF.out]; rfl, ST.out.b⟩
end Go.Proofs.YthpjffhccjlnhaaGreatDoor
