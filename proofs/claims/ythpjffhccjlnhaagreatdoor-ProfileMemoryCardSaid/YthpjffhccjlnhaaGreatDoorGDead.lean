/- Package profile: Dead. No condition. -/
import Derived.Test.YthpjffhccjlnhaaGreatDoorGMany
set_option linter.unusedSimpArgs false
set_option linter.unusedVariables false
namespace Go.Proofs.YthpjffhccjlnhaaGreatDoor
open Go.RowKit
attribute [local go_sem] Oper.semAt_some

theorem wpListIn_load_boxG {F : Fence} {n : Nat} {P : Program} {ops : Array Oper} {rest : List Oper} {o : Oper} {a : Act} {w : World} {Q : Exit → Act → World → Prop} (hg : Region.wanted o (yielded ops a.tmps) = true) (ty : TypeId) (x : Operand) (ho : o.op = .load ty x) {p v : Value} (hx : a.eval x = p)
  (hr : (Instr.loadAt ty p).run P w = .ok v w) (h : wpListIn F n P ops Q rest (a.put o.dst v) w) : wpListIn F n P ops Q (o :: rest) a w := by
 simp only [wpListIn, hg, if_true]
 unfold Oper.wpIn
 refine ⟨by simp [Oper.about, ho], ?_⟩
 rw [Oper.semAt_plain F _ _ (by rw [ho]; intro c hc; cases hc)]
 unfold execOp
 simp only [ho, hx, Sem.run_bind, hr, Result.andThen_ok, Sem.run_pure]
 exact h
/-! 26 sets in memory -/
def setsCells (f : Nat → CS) : Array Value := fnCells 676 (cutF f)
theorem agg_sets : Agg Tryz.prog 109 676 := ⟨⟨_, Tryz.underlying109, rfl⟩, by kernel_rfl⟩
theorem KndBox.sets_ {w : World} {b : Nat} {k : Knd} (h : KndBox w b k) : (Instr.loadAt 109 (.pointer (some ⟨b, 85, none⟩))).run Tryz.prog w = .ok (.agg (setsCells k.after)) w :=
 run_load_sub agg_sets h 85 (cutF k.after) (fun j hj => by unfold kndF cutF; rw [if_neg (by omega), if_neg (by omega), if_neg (by omega), if_neg (by omega), show 85 + j - 85 = j by omega]) (by omega)
theorem sets_extract (f : Nat → CS) {p : Nat} (hp : p < 26) : (setsCells f).extract (p * 26) (p * 26 + 26) = setCells (f p) := by
 refine fnCells_ext ?_ fun i hi => ?_
 ·simp only [Array.size_extract, setsCells, fnCells_size]; omega
 ·rw [Array.getElem?_extract_of_lt (by simp only [setsCells, fnCells_size]; omega)]
  have := fnCells_get (n := 676) (f := cutF f) (i := p * 26 + i) (by omega)
  refine ((Array.getElem?_eq_getElem _).symm.trans this).trans ?_
  unfold cutF setF
  rw [show (p * 26 + i) / 26 = p by omega, show (p * 26 + i) % 26 = i by omega]
theorem run_index_sets (f : Nat → CS) {p : Nat} (hp : p < 26) (w : World) : (Instr.index 109 (.agg (setsCells f)) (.int .i64 (p : Int))).run Tryz.prog w = .ok (.agg (setCells (f p))) w := by
 have hi : (0 : Int) ≤ p ∧ (p : Int) < 26 := by omega
 have hs : (sizeOf 108).run Tryz.prog w = .ok 26 w := by kernel_rfl
 have ha : (isAgg 108).run Tryz.prog w = .ok true w := by kernel_rfl
 have he := sets_extract f hp
 have hn : ¬ 26 ≤ p := by omega
 simp [hn, hp, Instr.index, run_underlying Tryz.underlying109, asIntOf, hi, hs, ha, part, he]
/-- what is named, k classes being looked at -/
def namedTo (K : Kd) (k : Nat) : CS := fun c => K.rim c || K.base c || ((List.range k).any fun e => K.after e c) || (decide (c < k) && any26 (K.after c))
theorem namedTo_all (K : Kd) {c : Nat} (hc : c < 26) : namedTo K 26 c = namedW K c := by simp [namedTo, namedW, hc, any26]
theorem namedTo_zero (K : Kd) (c : Nat) : namedTo K 0 c = (K.rim c || K.base c) := by simp [namedTo]
theorem namedTo_succ (K : Kd) (k c : Nat) : namedTo K (k + 1) c = if c = k then (namedTo K k c || K.after k c) || any26 (K.after k) else (namedTo K k c || K.after k c) := by
 unfold namedTo
 rw [List.range_succ, List.any_append]
 by_cases e : c = k
 ·subst e; rw [if_pos rfl]; simp [Bool.or_assoc]
 ·rw [if_neg e]
  have : decide (c < k + 1) = decide (c < k) := by rw [Bool.eq_iff_iff]; simp; omega
  rw [this]
  simp only [List.any_cons, List.any_nil, Bool.or_false]
  cases K.rim c <;> cases K.base c <;> cases (List.range k).any (fun e => K.after e c) <;> cases K.after k c <;> cases (decide (c < k) && any26 (K.after c)) <;> rfl
def deadOut (l : List Typ) (i : Int) : Value := if askedErr l i = 0 then .tuple #[.string (mkB (str (deadW (askedKnd l i).kd (askedKnd l i).typ.m (askedKnd l i).typ.least))), .int .i64 0] else .tuple #[.string ByteArray.empty, .int .i64 (askedErr l i)]
set_option maxRecDepth 100000 in
set_option maxHeartbeats 4000000 in
theorem deadX_bad (a : Option Addr) (c : Nat) (l : List Typ) (i : Int) (w : World) (h : TypesAt w a l) (hs : ∀ t, t ∈ l → SmlT t) (hl : l.length ≤ 1000000) (hlc : l.length ≤ c) (h0 : askedErr l i ≠ 0) :
  Calls Tryz.prog 48 #[.slice a l.length c, .int .i64 i] w fun e w' => e = .returned (deadOut l i) ∧ Below w.heap.size w w' := by
 have HC := Lib.hid (askedP_any a c l i w h hs hl hlc)
 clear h hs
 go_enter Tryz.func48, Tryz.ntmps48
 go_upto_region 1 with fail
 go_wp2_with fail
 refine HC.out.mono ?_
 rintro e w1 ⟨rfl, hb1⟩
 obtain ⟨w2, hw2⟩ : ∃ w2, w1.alloc (.cells (kndCells knd0) 111) = w2 := ⟨_, rfl⟩
 have b2 : KndBox w2 w1.heap.size knd0 := by rw [← hw2]; exact Box.new _ _ _
 have hb2 : Below w1.heap.size w1 w2 := by rw [← hw2]; go_grown
 obtain ⟨w3, hst, hw3⟩ := run_store_all (P := Tryz.prog) agg_knd b2 (kndF (askedKnd l i)) (fun j _ => kndF_one _ j)
 have HB3 := Lib.hid (hb1.trans ((hw3.below hb2 (Nat.le_refl _)).mono hb1.size))
 have HW2 := Lib.hid hw2
 have HST := Lib.hid hst
 clear hb1 hw2 b2 hb2 hst hw3 HC
 go_upto_region 2 with (simp only [zknd, HW2.out]; refine wpList_store_box rfl 111 _ _ rfl rfl rfl HST.out ?_)
 have HE : Hid (deadOut l i = .tuple #[.string ByteArray.empty, .int .i64 (askedErr l i)]) := Lib.hid (by unfold deadOut; rw [if_neg h0])
 have hne : (askedErr l i == 0) = false := by simpa using h0
 go_wp2_with fail
 exact bodyPost_ret (results_tmp_tmp4 rfl) rfl ⟨by rw [HE.out]; rfl, HB3.out⟩
structure DeadSt (K : Knd) (kb nb : Nat) (f : CS) (w W : World) : Prop where
 k : KndBox W kb K
 n : SetBox W nb f
 b : Below w.heap.size w W
 s : w.heap.size ≤ kb
 q : kb < nb
theorem DeadSt.below {K : Knd} {kb nb : Nat} {f : CS} {w W W' : World} (h : DeadSt K kb nb f w W) (hb : Below W.heap.size W W') : DeadSt K kb nb f w W' := ⟨h.k.below' hb, h.n.below' hb, h.b.trans (hb.mono h.b.size), h.s, h.q⟩
theorem DeadSt.keep {K : Knd} {kb nb : Nat} {f g : CS} {w W W' : World} (h : DeadSt K kb nb f w W) (hk : Keep (fun k => k ≠ nb) W W') (hn : SetBox W' nb g) : DeadSt K kb nb g w W' :=
 ⟨hk.heap (by have := h.q; omega) h.k, hn, h.b.trans ((hk.mono fun k hk => by have := h.s; have := h.q; omega).below h.b.size), h.s, h.q⟩
set_option maxRecDepth 100000 in
set_option maxHeartbeats 4000000 in
theorem deadX_any (a : Option Addr) (c : Nat) (l : List Typ) (i : Int) (w : World) (h : TypesAt w a l) (hs : ∀ t, t ∈ l → SmlT t) (hl : l.length ≤ 1000000) (hlc : l.length ≤ c) :
  Calls Tryz.prog 48 #[.slice a l.length c, .int .i64 i] w fun e w' => e = .returned (deadOut l i) ∧ Below w.heap.size w w' := by
 by_cases h0 : askedErr l i = 0
 rotate_left
 ·exact deadX_bad a c l i w h hs hl hlc h0
 have hmf := run_mf Tryz.prog
 have hc := askedP_any a c l i w h hs hl hlc
 obtain ⟨n, t, hi, ht, hk, hg, hm, hm12⟩ := asked_good h0
 have HE : Hid (deadOut l i = .tuple #[.string (mkB (str (deadW (askedKnd l i).kd (askedKnd l i).typ.m (askedKnd l i).typ.least))), .int .i64 0]) := Lib.hid (by unfold deadOut; rw [if_pos h0])
 have HM : Hid ((askedKnd l i).typ.most = ((askedKnd l i).typ.m : Int) ∧ (askedKnd l i).typ.m ≤ 12) := Lib.hid (by rw [hk]; exact ⟨hm, hm12⟩)
 rw [h0] at hc
 have HC := Lib.hid hc
 clear hi ht hk hg hm hm12 hc h hs h0
 generalize askedKnd l i = K at *
 refine (callsIn_wide (n := 0)).1 (callsIn_of_wp_marks Tryz.func48 rfl trivial ?_ rfl)
 simp only [Tryz.ntmps48, List.size_toArray, List.length_cons, List.length_nil, Nat.reduceAdd, Nat.reduceSub, Array.replicate_succ, Array.replicate_zero, List.push_toArray, List.append_toArray, List.nil_append, List.cons_append]
 gi_upto_region 2 with (first
  | (gi_at_call 76; (with_reducible refine (callsIn_wide.2 HC.out).mono ?_); rintro e w1 ⟨rfl, hb1⟩
     obtain ⟨w2, hw2⟩ : ∃ w2, w1.alloc (.cells (kndCells knd0) 111) = w2 := ⟨_, rfl⟩
     have b2 : KndBox w2 w1.heap.size knd0 := by rw [← hw2]; exact Box.new _ _ _
     have hb2 : Below w1.heap.size w1 w2 := by rw [← hw2]; go_grown
     have gs2 : w2.heap.size = w1.heap.size + 1 := by rw [← hw2]; simp
     obtain ⟨w3, hst, hw3⟩ := run_store_all (P := Tryz.prog) agg_knd b2 (kndF K) (fun j _ => kndF_one _ j)
     have gs3 : w3.heap.size = w1.heap.size + 1 := by rw [hw3.size, gs2]
     have HB3 := Lib.hid (hb1.trans ((hw3.below hb2 (Nat.le_refl _)).mono hb1.size))
     have HS1 := Lib.hid hb1.size
     have B3 := Lib.hid hw3.box
     have GS3 := Lib.hid gs3
     have HW2 := Lib.hid hw2
     have HST := Lib.hid hst
     clear hb1 hw2 b2 hb2 hst hw3 HC gs2 gs3)
  | (simp only [zknd, HW2.out]; refine wpListIn_store_box rfl 111 _ _ rfl rfl rfl HST.out ?_))
 obtain ⟨kb, hkb⟩ : ∃ kb, w1.heap.size = kb := ⟨_, rfl⟩
 rw [hkb] at GS3 HS1 B3
 simp only [hkb]
 have HL1 := Lib.hid (KndBox.rim_ B3.out)
 have HL2 := Lib.hid (KndBox.base_ B3.out)
 have hw4 := with4_any K.rim K.base w3
 have HW4 := Lib.hid hw4
 clear hw4 HST HW2
 gi_upto_region 5 with (first
  | (refine wpListIn_load_box rfl 108 _ rfl rfl HL1.out ?_)
  | (refine wpListIn_load_box rfl 108 _ rfl rfl HL2.out ?_))
 refine (callsIn_wide.2 HW4.out).mono ?_
 rintro e w4 ⟨rfl, hb4⟩
 obtain ⟨w5, hw5⟩ : ∃ w5, w4.alloc (.cells (setCells fun _ => false) 108) = w5 := ⟨_, rfl⟩
 have b5 : SetBox w5 w4.heap.size fun _ => false := by rw [← hw5]; exact Box.new _ _ _
 have hb5 : Below w4.heap.size w4 w5 := by rw [← hw5]; go_grown
 obtain ⟨w6, hst, hw6⟩ := store_set b5 (fun c => K.rim c || K.base c)
 have hs4 := hb4.size
 have HS4 := Lib.hid hs4
 have hb6 : Below w3.heap.size w3 w6 := hb4.trans ((hw6.below hb5 (Nat.le_refl _)).mono hs4)
 have ST6 := Lib.hid (show DeadSt K kb w4.heap.size (namedTo K.kd 0) w w6 from ⟨B3.out.below' hb6, hw6.box.cong (fun i hi => by simp [setF, namedTo_zero, Knd.kd]), HB3.out.trans (hb6.mono HB3.out.size), HS1.out, by have := GS3.out; omega⟩)
 have HW5 := Lib.hid hw5
 have HST := Lib.hid hst
 clear hb4 hw5 b5 hb5 hst hw6 hs4 hb6 HW4
 gi_upto_region 5 with (simp only [zset, HW5.out]; refine wpListIn_store_box rfl 108 _ _ rfl rfl rfl HST.out ?_)
 obtain ⟨nb, hnb⟩ : ∃ nb, w4.heap.size = nb := ⟨_, rfl⟩
 rw [hnb] at ST6
 simp only [hnb]
 have HL := Lib.hid (KndBox.sets_ ST6.out.k)
 clear HST HW5 HL1 HL2 HS4 B3 HB3
 gi_wp2_with (refine wpListIn_load_box rfl 109 _ rfl rfl HL.out ?_)
 clear HL
 gi_loopw [28] (fun iv wr => ∃ k : Nat, k ≤ 26 ∧ iv = .int .i64 k ∧ DeadSt K kb nb (namedTo K.kd k) w wr ∧ nb + 1 ≤ wr.heap.size) (fun iv _ => 26 - (intOf iv).toNat)
 case atStart => exact ⟨0, by omega, rfl, ST6.out, by have := ST6.out.n.lt; omega⟩
 case round =>
  clear ST6
  obtain ⟨k, hk, rfl, st, hsz⟩ := hrel
  have ST := Lib.hid st
  clear st
  by_cases hlt : k < 26
  ·have hki : (k : Int) < 26 := by omega
   have hk0 : (0 : Int) ≤ (k : Int) := by omega
   have hq : decide ((k : Int) < 26) = true := decide_eq_true hki
   have hix := run_index_sets K.after hlt wr
   obtain ⟨w7, hw7⟩ : ∃ w7, wr.alloc (.cells (setCells fun _ => false) 108) = w7 := ⟨_, rfl⟩
   obtain ⟨gb, hgb⟩ : ∃ gb, wr.heap.size = gb := ⟨_, rfl⟩
   have b7 : SetBox w7 gb fun _ => false := by rw [← hw7]; exact Box.new' hgb.symm
   have st7 : DeadSt K kb nb (namedTo K.kd k) w w7 := by rw [← hw7]; exact ST.out.below (by go_grown)
   obtain ⟨w8, hst, hw8⟩ := store_set b7 (K.after k)
   have hs7 : w7.heap.size = gb + 1 := by rw [← hw7]; simp [hgb]
   have hs8 : w8.heap.size = gb + 1 := by rw [hw8.size, hs7]
   rw [hgb] at hsz
   have ST8 := Lib.hid (show DeadSt K kb nb (namedTo K.kd k) w w8 from ⟨hw8.far st7.k (by have := st7.q; omega), hw8.far st7.n (by omega), hw8.below st7.b (by have := st7.q; have := st7.s; omega), st7.s, st7.q⟩)
   have B8 := Lib.hid hw8.box
   have HW7 := Lib.hid hw7
   have HST := Lib.hid hst
   clear hw7 b7 st7 hst hw8 hs7
   (try simp only [hgb])
   gi_upto_region 8 with (simp only [zset, HW7.out]; refine wpListIn_store_box rfl 108 _ _ rfl rfl rfl HST.out ?_)
   clear HST HW7 hix
   have HL1 := Lib.hid (load_set ST8.out.n)
   have HL2 := Lib.hid (load_set B8.out)
   have hw9 := with4_any (namedTo K.kd k) (K.after k) w8
   have HW9 := Lib.hid hw9
   clear hw9
   gi_upto_region 9 with (first
    | (refine wpListIn_load_box rfl 108 _ rfl rfl HL1.out ?_)
    | (refine wpListIn_load_box rfl 108 _ rfl rfl HL2.out ?_))
   refine (callsIn_wide.2 HW9.out).mono ?_
   rintro e w9 ⟨rfl, hb9⟩
   have st9 := ST8.out.below hb9
   obtain ⟨w10, hst, hw10⟩ := store_set st9.n (fun d => namedTo K.kd k d || K.after k d)
   have st10 := st9.keep hw10.keep hw10.box
   have b10 : SetBox w10 gb (K.after k) := hw10.far (B8.out.below' hb9) (by omega)
   have hs9 := hb9.size
   have hs10 : gb + 1 ≤ w10.heap.size := by rw [hw10.size]; omega
   have ST10 := Lib.hid st10
   have B10 := Lib.hid b10
   have HST := Lib.hid hst
   clear hb9 st9 hst hw10 st10 b10 hs9 HL1 HL2 HW9 ST8 B8
   gi_upto_region 9 with (refine wpListIn_store_box rfl 108 _ _ rfl rfl rfl HST.out ?_)
   clear HST
   have c1 := SetBox.cell_ ST10.out.n hlt
   have c2 := ST10.out.n.frozen k
   have HL3 := Lib.hid (load_set B10.out)
   have hne := run_neq_empty (K.after k)
   rcases hg : (namedTo K.kd k k || K.after k k) with _ | _
   ·rw [hg] at c1
    have HG := Lib.hid hg
    clear hg
    gi_wp2_with (refine wpListIn_load_boxG (by rfl) 108 _ rfl rfl HL3.out ?_)
    go_roundw
    case rel =>
     have hk : ∀ u, Keep (fun k => k ≠ nb) w10 (w10.setCell ⟨nb, k, none⟩ u) := fun u => (Keep.refl _ w10).setCell (.inl (by simp)) _
     refine ⟨k + 1, by omega, by go_num, ST10.out.keep (hk _) (SetBox.put ST10.out.n k _ _ fun d hd => ?_), by simp; omega⟩
     rw [namedTo_succ]
     by_cases e : d = k
     ·subst e
      rw [if_pos rfl, if_pos rfl, show K.kd.after d = K.after d from rfl, HG.out]; simp
     ·rw [if_neg e, if_neg e]; rfl
    case measure => simp [intOf]; omega
   ·rw [hg] at c1
    have HG := Lib.hid hg
    clear hg
    gi_wp2_with fail
    go_roundw
    case rel =>
     have hk : ∀ u, Keep (fun k => k ≠ nb) w10 (w10.setCell ⟨nb, k, none⟩ u) := fun u => (Keep.refl _ w10).setCell (.inl (by simp)) _
     refine ⟨k + 1, by omega, by go_num, ST10.out.keep (hk _) (SetBox.put ST10.out.n k _ _ fun d hd => ?_), by simp; omega⟩
     rw [namedTo_succ]
     by_cases e : d = k
     ·subst e
      rw [if_pos rfl, if_pos rfl, show K.kd.after d = K.after d from rfl, HG.out]; simp
     ·rw [if_neg e, if_neg e]; rfl
    case measure => simp [intOf]; omega
  ·obtain rfl : k = 26 := by omega
   have hq : decide (((26 : Nat) : Int) < 26) = false := decide_eq_false (by omega)
   have HL := Lib.hid (KndBox.load ST.out.k)
   gi_upto_region 11 with fail
   gi_wp2_with (refine wpListIn_load_box rfl 111 _ rfl rfl HL.out ?_)
   refine (callsIn_wide.2 (letters_any K K.typ.m HM.out.1 HM.out.2 wr)).mono ?_
   rintro e w12 ⟨rfl, hb12⟩
   have st12 := ST.out.below hb12
   have hs12 : nb + 1 ≤ w12.heap.size := by have := hb12.size; omega
   have ST12 := Lib.hid st12
   clear st12 hb12 HL hsz ST
   gi_wp2_with fail
   refine wpIn_each (s := lettersW K.kd K.typ.m K.typ.least) rfl (fun pre W => DeadSt K kb nb (fun d => namedTo K.kd 26 d && !pre.contains d) w W) ?hI ?h0 11 ?assign ?body ?done
   case hI => exact fun pre A B h hk => ⟨hk.heap (by have := h.q; omega) h.k, hk.heap (by omega) h.n, h.b.trans ((hk.mono fun k hk => by have := h.s; have := h.q; omega).below h.b.size), h.s, h.q⟩
   case h0 => exact ⟨ST12.out.k, ST12.out.n.cong fun i hi => by simp [setF], ST12.out.b, ST12.out.s, ST12.out.q⟩
   case assign =>
    intro l c W Kk hK
    gi_wp2_with fail
    exact hK
   case body =>
    rintro l pre c W st hlt hc hpre
    simp only [List.setIfInBounds_toArray, List.set_cons_succ, List.set_cons_zero]
    have hci : (c : Int) < 26 := by omega
    have hc0 : (0 : Int) ≤ (c : Int) := by omega
    have c1 := SetBox.cell_ st.n hc
    have c2 := st.n.frozen c
    have ST := Lib.hid st
    clear st
    gi_wp2_with fail
    have hk : ∀ u, Keep (fun k => k ≠ nb) W (W.setCell ⟨nb, c, none⟩ u) := fun u => (Keep.refl _ W).setCell (.inl (by simp)) _
    refine ⟨(hk _).mono fun k hk => by omega, ST.out.keep (hk _) (SetBox.put ST.out.n c false _ fun d _ => ?_)⟩
    by_cases e : d = c
    ·subst e; simp
    ·rw [if_neg e]; simp [e]
   case done =>
    rintro W st0 hD
    have st : DeadSt K kb nb (deadW K.kd K.typ.m K.typ.least) w W := ⟨st0.k, st0.n.cong fun c hc => by
     unfold setF
     dsimp only
     rw [namedTo_all _ hc, deadW]
     congr 3
     rw [Bool.eq_iff_iff]; simp [mem_classes, hc], st0.b, st0.s, st0.q⟩
    have ST := Lib.hid st
    have HD := Lib.hid hD
    clear st st0 hD
    have HL := Lib.hid (load_set ST.out.n)
    gi_wp2_with (refine wpListIn_load_box rfl 108 _ rfl rfl HL.out ?_)
    refine (callsIn_wide.2 (text_any _ W)).mono ?_
    rintro e W2 ⟨rfl, hb2⟩
    have HB2 := Lib.hid hb2
    clear hb2
    gi_wp2_with fail
    refine ⟨by simp, .inl ⟨_, _, rfl, run_takeDeferred ((Keep.of_below' (K := fun k => k < W.heap.size) HB2.out).heap (Array.getElem?_eq_some_iff.1 HD.out).1 HD.out), ?_⟩⟩
    refine ⟨_, results_tmp_tmp4 rfl, ?_, ?_⟩
    ·rw [HE.out]
     rfl
    ·have hb3 := ST.out.b.trans (HB2.out.mono ST.out.b.size)
     exact below_put hb3 (by have := ST.out.q; have := ST.out.s; omega) _
end Go.Proofs.YthpjffhccjlnhaaGreatDoor
