/- Package profile: Many. No condition. -/
import Derived.Test.YthpjffhccjlnhaaGreatDoorMG7
import Derived.Sort.CutIn
set_option linter.unusedSimpArgs false
set_option linter.unusedVariables false
namespace Go.Proofs.YthpjffhccjlnhaaGreatDoor
open Go.RowKit
attribute [local go_sem] Oper.semAt_some

/-! frames known by some of their slots -/
theorem frame_of {N : Nat} {a : Array Value} (h : a.size = N) : ∃ u : Nat → Value, a = fnCells N u ∧ ∀ i, i < N → a.getD i undef = u i := by
 refine ⟨fun i => a.getD i undef, fnCells_ext h fun i hi => ?_, fun _ _ => rfl⟩
 rw [Array.getD_eq_getD_getElem?, Array.getElem?_eq_getElem (by omega)]
 rfl
theorem fn75 (u : Nat → Value) : fnCells 75 u = #[u 0, u 1, u 2, u 3, u 4, u 5, u 6, u 7, u 8, u 9, u 10, u 11, u 12, u 13, u 14, u 15, u 16, u 17, u 18, u 19, u 20, u 21, u 22, u 23, u 24, u 25, u 26, u 27, u 28, u 29, u 30, u 31, u 32, u 33, u 34, u 35, u 36, u 37, u 38, u 39, u 40, u 41, u 42, u 43, u 44, u 45, u 46, u 47, u 48, u 49, u 50, u 51, u 52, u 53, u 54, u 55, u 56, u 57, u 58, u 59, u 60, u 61, u 62, u 63, u 64, u 65, u 66, u 67, u 68, u 69, u 70, u 71, u 72, u 73, u 74] := rfl
/-! 26 numbers in memory -/
def cntF (f : Nat → Nat) : Nat → Value := fun c => .int .i64 (f c : Int)
def cntCells (f : Nat → Nat) : Array Value := fnCells 26 (cntF f)
abbrev CntBox (w : World) (b : Nat) (f : Nat → Nat) : Prop := Box w b (cntCells f) 140
theorem agg_cnt : Agg Tryz.prog 140 26 := ⟨⟨_, Tryz.underlying140, rfl⟩, by kernel_rfl⟩
theorem zcnt : (#[.int .i64 0, .int .i64 0, .int .i64 0, .int .i64 0, .int .i64 0, .int .i64 0, .int .i64 0, .int .i64 0, .int .i64 0, .int .i64 0, .int .i64 0, .int .i64 0, .int .i64 0, .int .i64 0, .int .i64 0, .int .i64 0, .int .i64 0, .int .i64 0, .int .i64 0, .int .i64 0, .int .i64 0, .int .i64 0, .int .i64 0, .int .i64 0, .int .i64 0, .int .i64 0] : Array Value) = cntCells fun _ => 0 := by kernel_rfl
section
variable {w : World} {b : Nat} {f : Nat → Nat}
theorem CntBox.load (h : CntBox w b f) : (Instr.loadAt 140 (.pointer (some ⟨b, 0, none⟩))).run Tryz.prog w = .ok (.agg (cntCells f)) w := run_load_sub agg_cnt h 0 (cntF f) (fun j _ => by rw [Nat.zero_add]) (by omega)
theorem CntBox.store (h : CntBox w b f) (g : Nat → Nat) : ∃ w', (Instr.storeAt 140 (.pointer (some ⟨b, 0, none⟩)) (.agg (cntCells g))).run Tryz.prog w = .ok () w' ∧ Wrote w w' b (cntCells g) 140 := run_store_all agg_cnt h (cntF g) (fun _ _ => rfl)
theorem CntBox.cell_ (h : CntBox w b f) {c : Nat} (hc : c < 26) : w.cell? ⟨b, c, none⟩ = some (.int .i64 (f c : Int)) := h.fn hc
theorem CntBox.put (h : CntBox w b f) (c : Nat) (n : Nat) : CntBox (w.setCell ⟨b, c, none⟩ (.int .i64 (n : Int))) b (fun d => if d = c then n else f d) :=
 (h.fset c (.int .i64 (n : Int))).cong fun i _ => by
  unfold cntF
  dsimp only
  by_cases e : i = c
  ·rw [if_pos e, if_pos e]
  ·rw [if_neg e, if_neg e]
theorem CntBox.congr_ {g : Nat → Nat} (h : CntBox w b f) (e : ∀ c, c < 26 → f c = g c) : CntBox w b g := h.cong fun i hi => by unfold cntF; rw [e i hi]
end
theorem run_index_cnt (f : Nat → Nat) {k : Nat} (hk : k < 26) (w : World) : (Instr.index 140 (.agg (cntCells f)) (.int .i64 (k : Int))).run Tryz.prog w = .ok (.int .i64 (f k : Int)) w := by
 have hi : (0 : Int) ≤ k ∧ (k : Int) < 26 := by omega
 have hs : (sizeOf 3).run Tryz.prog w = .ok 1 w := by kernel_rfl
 have ha : (isAgg 3).run Tryz.prog w = .ok false w := by kernel_rfl
 have hg : (cntCells f)[k]? = some (.int .i64 (f k : Int)) := fnCells_get hk
 simp [Instr.index, run_underlying Tryz.underlying140, asIntOf, hi, hs, hk, hg, part, ha, Nat.not_le.2 hk]
theorem classes_nodup (s : CS) : (classesOf s).Nodup := List.nodup_range.filter _
/-! what is counted so far -/
def curM (K : Kd) (j c : Nat) : Nat → Nat := fun d => satF (fun c' => K.after c' d) (atM K j) (List.range c) 0
def sumM (K : Kd) (least : Int) (j c : Nat) : Nat := satF (fun c' => decide (least ≤ ((j + 1 : Nat) : Int)) && K.base c') (atM K j) (List.range c) (manyM K least j)
theorem satF_succ (p : CS) (f : Nat → Nat) (c s : Nat) : satF p f (List.range (c + 1)) s = if p c then min (satF p f (List.range c) s + f c) satM else satF p f (List.range c) s := by
 simp [satF, List.range_succ, List.foldl_append]
theorem satF_le (p : CS) (f : Nat → Nat) (l : List Nat) (s : Nat) (h : s ≤ satM) : satF p f l s ≤ satM := by
 induction l generalizing s with
 | nil => exact h
 | cons x l ih =>
  rw [satF, List.foldl_cons]
  refine ih _ ?_
  split
  ·exact Nat.min_le_right _ _
  ·exact h
theorem atM_le (K : Kd) (j c : Nat) : atM K j c ≤ satM := by
 cases j with
 | zero => simp only [atM, ind, satM]; split <;> omega
 | succ j => exact satF_le _ _ _ _ (by simp [satM])
theorem manyM_le (K : Kd) (least : Int) (j : Nat) : manyM K least j ≤ satM := by
 induction j with
 | zero => simp [manyM]
 | succ j ih => exact satF_le _ _ _ _ ih
theorem curM_le (K : Kd) (j c d : Nat) : curM K j c d ≤ satM := satF_le _ _ _ _ (by simp [satM])
theorem sumM_le (K : Kd) (least : Int) (j c : Nat) : sumM K least j c ≤ satM := satF_le _ _ _ _ (manyM_le _ _ _)
theorem curM_all (K : Kd) (j : Nat) : curM K j 26 = atM K (j + 1) := rfl
theorem sumM_all (K : Kd) (least : Int) (j : Nat) : sumM K least j 26 = manyM K least (j + 1) := rfl
def manyOut (l : List Typ) (i : Int) : Value := if askedErr l i = 0 then .tuple #[.int .i64 (manyM (askedKnd l i).kd (askedKnd l i).typ.least (askedKnd l i).typ.m : Nat), .int .i64 0] else .tuple #[.int .i64 0, .int .i64 (askedErr l i)]
set_option maxRecDepth 100000 in
set_option maxHeartbeats 4000000 in
theorem manyX_bad (a : Option Addr) (c : Nat) (l : List Typ) (i : Int) (w : World) (h : TypesAt w a l) (hs : ∀ t, t ∈ l → SmlT t) (hl : l.length ≤ 1000000) (hlc : l.length ≤ c) (h0 : askedErr l i ≠ 0) :
  Calls Tryz.prog 44 #[.slice a l.length c, .int .i64 i] w fun e w' => e = .returned (manyOut l i) ∧ Below w.heap.size w w' := by
 have HC := Lib.hid (askedP_any a c l i w h hs hl hlc)
 clear h hs
 go_enter Tryz.func44, Tryz.ntmps44
 go_upto_region 1 with fail
 go_wp2_with fail
 refine HC.out.mono ?_
 rintro e w1 ⟨rfl, hb1⟩
 obtain ⟨w2, hw2⟩ : ∃ w2, w1.alloc (.cells (kndCells knd0) 111) = w2 := ⟨_, rfl⟩
 have b2 : KndBox w2 w1.heap.size knd0 := by rw [← hw2]; exact Box.new _ _ _
 have hb2 : Below w1.heap.size w1 w2 := by rw [← hw2]; go_grown
 obtain ⟨w3, hst, hw3⟩ := run_store_all (P := Tryz.prog) agg_knd b2 (kndF (askedKnd l i)) (fun j _ => kndF_one _ j)
 have HB3 := Lib.hid (hb1.trans ((hw3.below hb2 (Nat.le_refl _)).mono hb1.size))
 have HW2 := Lib.hid hw2
 have HST := Lib.hid hst
 clear hb1 hw2 b2 hb2 hst hw3 HC
 go_upto_region 2 with (simp only [zknd, HW2.out]; refine wpList_store_box rfl 111 _ _ rfl rfl rfl HST.out ?_)
 have HE : Hid (manyOut l i = .tuple #[.int .i64 0, .int .i64 (askedErr l i)]) := Lib.hid (by unfold manyOut; rw [if_neg h0])
 have hne : (askedErr l i == 0) = false := by simpa using h0
 go_wp2_with fail
 exact bodyPost_ret (results_tmp_tmp4 rfl) rfl ⟨by rw [HE.out]; rfl, HB3.out⟩
/-- the memory of Many: the kind, the numbers at hand -/
structure ManySt (K : Knd) (kb : Nat) (f : Nat → Nat) (rs : List Nat) (w W : World) : Prop where
 k : KndBox W kb K
 n : CntBox W (kb + 1) f
 b : Below w.heap.size w W
 s : w.heap.size ≤ kb
 m : Marks rs W
 r : ∀ r ∈ rs, kb + 1 < r
theorem ManySt.keep {K : Knd} {kb : Nat} {f : Nat → Nat} {rs : List Nat} {w W W' : World} (h : ManySt K kb f rs w W) {P : Nat → Prop} (hk : Keep P W W') (h1 : ∀ k, k ≤ kb + 1 → P k) (h2 : ∀ r ∈ rs, P r) : ManySt K kb f rs w W' :=
 ⟨hk.heap (h1 _ (by omega)) h.k, hk.heap (h1 _ (by omega)) h.n, h.b.trans ((hk.mono fun k hk' => h1 k (by have := h.s; omega)).below h.b.size), h.s, h.m.keep hk h2, h.r⟩
theorem ManySt.below {K : Knd} {kb : Nat} {f : Nat → Nat} {rs : List Nat} {w W W' : World} (h : ManySt K kb f rs w W) (hb : Below W.heap.size W W') : ManySt K kb f rs w W' := h.keep (Keep.of_below' (K := fun _ => True) hb) (fun _ _ => trivial) (fun _ _ => trivial)
def ManyI (K : Knd) (kb : Nat) (w : World) (n : Nat) (a : Act) (W : World) : Prop :=
 ∃ (j : Nat) (rs : List Nat), a.tmps.size = 75 ∧ a.defers = rs.map markOf ∧ a.tmps.getD 6 undef = .pointer (some ⟨kb, 0, none⟩) ∧ a.tmps.getD 8 undef = .pointer (some ⟨kb + 1, 0, none⟩) ∧ a.tmps.getD 10 undef = .int .i64 (manyM K.kd K.typ.least j : Nat) ∧ a.tmps.getD 11 undef = .int .i64 ((j : Int) + 1) ∧
  j + n = K.typ.m ∧ ManySt K kb (atM K.kd j) rs w W
def ManyJ (K : Knd) (kb nb j : Nat) (w : World) (n : Nat) (a : Act) (W : World) : Prop :=
 ∃ (c : Nat) (rs : List Nat), a.tmps.size = 75 ∧ a.defers = rs.map markOf ∧ a.tmps.getD 6 undef = .pointer (some ⟨kb, 0, none⟩) ∧ a.tmps.getD 8 undef = .pointer (some ⟨kb + 1, 0, none⟩) ∧ a.tmps.getD 10 undef = .int .i64 (sumM K.kd K.typ.least j c : Nat) ∧ a.tmps.getD 11 undef = .int .i64 ((j : Int) + 1) ∧
  a.tmps.getD 12 undef = .pointer (some ⟨nb, 0, none⟩) ∧ a.tmps.getD 38 undef = .agg (cntCells (atM K.kd j)) ∧ a.tmps.getD 39 undef = .int .i64 (c : Int) ∧ c + n = 26 ∧ ManySt K kb (atM K.kd j) rs w W ∧ CntBox W nb (curM K.kd j c) ∧ kb + 1 < nb ∧ nb ∉ rs
set_option maxRecDepth 100000 in
set_option maxHeartbeats 4000000 in
theorem manyX_any (a : Option Addr) (c : Nat) (l : List Typ) (i : Int) (w : World) (h : TypesAt w a l) (hs : ∀ t, t ∈ l → SmlT t) (hl : l.length ≤ 1000000) (hlc : l.length ≤ c) :
  Calls Tryz.prog 44 #[.slice a l.length c, .int .i64 i] w fun e w' => e = .returned (manyOut l i) ∧ Below w.heap.size w w' := by
 by_cases h0 : askedErr l i = 0
 rotate_left
 ·exact manyX_bad a c l i w h hs hl hlc h0
 have hmf := run_mf Tryz.prog
 have hc := askedP_any a c l i w h hs hl hlc
 obtain ⟨n, t, hi, ht, hk, hg, hm, hm12⟩ := asked_good h0
 have HE : Hid (manyOut l i = .tuple #[.int .i64 (manyM (askedKnd l i).kd (askedKnd l i).typ.least (askedKnd l i).typ.m : Nat), .int .i64 0]) := Lib.hid (by unfold manyOut; rw [if_pos h0])
 have HM : Hid (1 ≤ (askedKnd l i).typ.least ∧ (askedKnd l i).typ.least ≤ (askedKnd l i).typ.most ∧ (askedKnd l i).typ.most = ((askedKnd l i).typ.m : Int) ∧ (askedKnd l i).typ.m ≤ 12) := Lib.hid (by rw [hk]; exact ⟨(typeB_good hg).2.1, (typeB_good hg).2.2.1, hm, hm12⟩)
 rw [h0] at hc
 have HC := Lib.hid hc
 clear hi ht hk hg hm hm12 hc h hs h0
 generalize askedKnd l i = K at *
 obtain ⟨hm0, hm1, hm2, hm3⟩ := HM.out
 refine (callsIn_wide (n := 0)).1 (callsIn_of_wp_marks Tryz.func44 rfl trivial ?_ rfl)
 simp only [Tryz.ntmps44, List.size_toArray, List.length_cons, List.length_nil, Nat.reduceAdd, Nat.reduceSub, Array.replicate_succ, Array.replicate_zero, List.push_toArray, List.append_toArray, List.nil_append, List.cons_append]
 gi_upto_region 2 with (first
  | (gi_at_call 76; (with_reducible refine (callsIn_wide.2 HC.out).mono ?_); rintro e w1 ⟨rfl, hb1⟩
     obtain ⟨w2, hw2⟩ : ∃ w2, w1.alloc (.cells (kndCells knd0) 111) = w2 := ⟨_, rfl⟩
     have b2 : KndBox w2 w1.heap.size knd0 := by rw [← hw2]; exact Box.new _ _ _
     have hb2 : Below w1.heap.size w1 w2 := by rw [← hw2]; go_grown
     have gs2 : w2.heap.size = w1.heap.size + 1 := by rw [← hw2]; simp
     obtain ⟨w3, hst, hw3⟩ := run_store_all (P := Tryz.prog) agg_knd b2 (kndF K) (fun j _ => kndF_one _ j)
     have gs3 : w3.heap.size = w1.heap.size + 1 := by rw [hw3.size, gs2]
     obtain ⟨w4, hw4⟩ : ∃ w4, w3.alloc (.cells (cntCells fun _ => 0) 140) = w4 := ⟨_, rfl⟩
     have HB3 := Lib.hid (hb1.trans ((hw3.below hb2 (Nat.le_refl _)).mono hb1.size))
     have b4 : KndBox w4 w1.heap.size K := by rw [← hw4]; exact hw3.box.alloc _
     have n4 : CntBox w4 (w1.heap.size + 1) (fun _ => 0) := by rw [← hw4]; exact Box.new' gs3.symm
     have HB4 := Lib.hid (show Below w.heap.size w w4 by rw [← hw4]; exact HB3.out.alloc (by have := hb1.size; omega) _)
     have gs4 : w4.heap.size = w1.heap.size + 2 := by rw [← hw4]; simp [gs3]
     have HR4 := Lib.hid (KndBox.rim_ b4)
     have HS1 := Lib.hid hb1.size
     have B4 := Lib.hid b4
     have N4 := Lib.hid n4
     have GS4 := Lib.hid gs4
     have GS3 := Lib.hid gs3
     have HW4 := Lib.hid hw4
     have HW2 := Lib.hid hw2
     have HST := Lib.hid hst
     clear hb1 hw2 b2 hb2 hst hw3 HC hw4 b4 n4 gs4 gs2 gs3)
  | (simp only [zknd, HW2.out]; refine wpListIn_store_box rfl 111 _ _ rfl rfl rfl HST.out ?_))
 obtain ⟨kb, hkb⟩ : ∃ kb, w1.heap.size = kb := ⟨_, rfl⟩
 rw [hkb] at GS3 GS4 HS1 B4 N4 HR4
 simp only [hkb]
 gi_wp2_with (simp only [zcnt, HW4.out, GS3.out]; refine wpListIn_load_box rfl 108 _ rfl rfl HR4.out ?_)
 clear HR4 HW4 HW2 HST HB3
 refine wpIn_each (s := K.rim) rfl (fun pre W => ManySt K kb (fun d => ind (pre.contains d)) [] w W) ?hI ?h0 9 ?assign ?body ?done
 case hI =>
  rintro pre A B h1 hk
  rw [GS4.out] at hk
  exact h1.keep hk (fun k hk => by omega) (fun r hr => by cases hr)
 case h0 => exact ⟨B4.out, N4.out.congr_ fun _ _ => rfl, HB4.out, HS1.out, Marks.nil _, fun _ h => by cases h⟩
 case assign =>
  intro l c W Kk hK
  gi_wp2_with fail
  exact hK
 case body =>
  rintro l pre c W st hlt hc hpre
  simp only [List.setIfInBounds_toArray, List.set_cons_succ, List.set_cons_zero]
  rw [GS4.out] at hlt ⊢
  have hci : (c : Int) < 26 := by omega
  have hc0 : (0 : Int) ≤ (c : Int) := by omega
  have c1 := st.n.cell_ hc
  have c2 := st.n.frozen c
  have ST := Lib.hid st
  clear st
  gi_wp2_with fail
  have hk : ∀ u, Keep (fun k => k ≠ kb + 1) W (W.setCell ⟨kb + 1, c, none⟩ u) := fun u => (Keep.refl _ W).setCell (.inl (by simp)) _
  refine ⟨(hk _).mono fun k hk => by omega, (hk _).heap (by omega) ST.out.k, (CntBox.put ST.out.n c 1).congr_ fun d _ => ?_, ST.out.b.trans (((hk _).mono fun k hk => by have := ST.out.s; omega).below ST.out.b.size), ST.out.s, Marks.nil _, fun _ h => by cases h⟩
  by_cases e : d = c
  ·subst e; simp [ind]
  ·simp [e]
 case done =>
  rintro W st hD
  rw [GS4.out] at hD ⊢
  have ST := Lib.hid st
  have HD := Lib.hid hD
  clear st hD
  gi_wp2_with fail
  have st1 : ManySt K kb (atM K.kd 0) [kb + 2] w W := ⟨ST.out.k, ST.out.n.congr_ fun c hc => by rw [atM]; congr 1; rw [Bool.eq_iff_iff]; simp [mem_classes, hc, Knd.kd], ST.out.b, ST.out.s, (Marks.nil W).cons (by simp) HD.out, fun r hr => by simp at hr; omega⟩
  refine wpIn_loopN (ManyI K kb w) K.typ.m ⟨0, [kb + 2], rfl, rfl, rfl, rfl, rfl, rfl, by omega, st1⟩ ?_
  clear ST HD B4 N4 HB4 GS4 GS3
  rintro n a W ⟨j, rs, hsz, hdf, h6, h8, h10, h11, hjn, st⟩ Kk hKk
  obtain ⟨u, hu, hv⟩ := frame_of hsz
  rw [hv _ (by omega)] at h6 h8 h10 h11
  obtain ⟨t, d⟩ := a
  simp only at hu hdf
  subst hu hdf
  have HV := Lib.hid (show u 6 = _ ∧ u 8 = _ ∧ u 10 = _ ∧ u 11 = _ from ⟨h6, h8, h10, h11⟩)
  have ST := Lib.hid st
  have HK := Lib.hid hKk
  have cm := KndBox.most_ st.k
  rw [hm2] at cm
  have cl := KndBox.least_ st.k
  clear hsz hv hKk st
  simp only [fn75, h6, h8, h10, h11]
  clear h6 h8 h10 h11
  rcases n with _ | n
  ·have hq : decide ((j : Int) + 1 ≤ (K.typ.m : Int)) = false := decide_eq_false (by omega)
   obtain rfl : j = K.typ.m := by omega
   gi_wp2_with fail
   refine leaves_marks rs _ ST.out.m fun W' hk => ?_
   refine ⟨_, results_tmp_tmp4 rfl, ?_, ?_⟩
   ·rw [HE.out]; rfl
   ·exact ST.out.b.trans ((hk.mono fun k hk => fun hr => by have := ST.out.r k hr; have := ST.out.s; omega).below ST.out.b.size)
  ·have hq : decide ((j : Int) + 1 ≤ (K.typ.m : Int)) = true := decide_eq_true (by omega)
   have HLn := Lib.hid (CntBox.load ST.out.n)
   gi_wp2_with (simp only [zcnt]; refine wpListIn_load_box rfl 140 _ rfl rfl (CntBox.load (ST.out.n.alloc _)) ?_)
   obtain ⟨W1, hW1⟩ : ∃ W1, W.alloc (.cells (cntCells fun _ => 0) 140) = W1 := ⟨_, rfl⟩
   obtain ⟨nb, hnb⟩ : ∃ nb, W.heap.size = nb := ⟨_, rfl⟩
   have hgk := ST.out.n.lt
   have hgs := ST.out.b.size
   have st1 : ManySt K kb (atM K.kd j) rs w W1 := by rw [← hW1]; exact ST.out.below (by go_grown)
   have n1 : CntBox W1 nb (fun _ => 0) := by rw [← hW1]; exact Box.new' hnb.symm
   have hnr : nb ∉ rs := fun hr => by have := ST.out.m.lt _ hr; omega
   have hkn : kb + 1 < nb := by omega
   simp only [hW1, hnb]
   refine wpIn_loopN (ManyJ K kb nb j w) 26 ⟨0, rs, rfl, rfl, rfl, rfl, rfl, rfl, rfl, rfl, rfl, by omega, st1, n1.congr_ fun _ _ => rfl, hkn, hnr⟩ ?_
   clear HLn ST st1 n1 hW1 hnb cm cl hq
   clear W1
   rintro r a W1 ⟨c, rs1, hsz, hdf, h6, h8, h10, h11, h12, h38, h39, hcr, st, nn, _, hnr⟩ Kj hKj
   obtain ⟨v, hu, hv⟩ := frame_of hsz
   rw [hv _ (by omega)] at h6 h8 h10 h11 h12 h38 h39
   obtain ⟨t, d⟩ := a
   simp only at hu hdf
   subst hu hdf
   have HV1 := Lib.hid (show v 6 = _ ∧ v 8 = _ ∧ v 10 = _ ∧ v 11 = _ ∧ v 12 = _ ∧ v 38 = _ from ⟨h6, h8, h10, h11, h12, h38⟩)
   have ST := Lib.hid st
   have NN := Lib.hid nn
   have HKJ := Lib.hid hKj
   clear hsz hv hKj st nn
   simp only [fn75, h6, h8, h10, h11, h12, h38, h39]
   clear h6 h8 h10 h11 h12 h38 h39
   rcases r with _ | r
   ·obtain rfl : c = 26 := by omega
    have HL := Lib.hid (CntBox.load NN.out)
    obtain ⟨W2, hst, hw2⟩ := CntBox.store ST.out.n (atM K.kd (j + 1))
    have HST := Lib.hid hst
    have HW2 := Lib.hid hw2
    clear hst hw2
    simp only [curM_all] at HL
    gi_wp2_with (first
     | (refine wpListIn_load_box rfl 140 _ rfl rfl HL.out ?_)
     | (refine wpListIn_store_box rfl 140 _ _ rfl rfl rfl HST.out ?_))
    have hkr : kb + 1 ∉ rs1 := fun hr => by have := ST.out.r _ hr; omega
    refine HK.out n _ _ (by omega) ⟨j + 1, rs1, rfl, rfl, rfl, rfl, rfl, by go_num, by omega, HW2.out.far ST.out.k (by omega), HW2.out.box, HW2.out.below ST.out.b (by have := ST.out.s; omega), ST.out.s, ST.out.m.keep HW2.out.keep fun r hr => by have := ST.out.r r hr; omega, ST.out.r⟩
   ·have hc : c < 26 := by omega
    have hci : (c : Int) < 26 := by omega
    have hc0 : (0 : Int) ≤ (c : Int) := by omega
    have hq : decide ((c : Int) < 26) = true := decide_eq_true hci
    have hix := run_index_cnt (atM K.kd j) hc W1
    have hf1 := atM_le K.kd j c
    gi_upto_region 16 with fail
    obtain ⟨W2, hW2⟩ : ∃ W2, W1.alloc (.cells #[.int .i64 (atM K.kd j c : Int)] 3) = W2 := ⟨_, rfl⟩
    obtain ⟨gb, hgb⟩ : ∃ gb, W1.heap.size = gb := ⟨_, rfl⟩
    simp only [hW2, hgb]
    have hgs := ST.out.b.size
    have hnl := NN.out.lt
    have st2 : ManySt K kb (atM K.kd j) rs1 w W2 := by rw [← hW2]; exact ST.out.below (by go_grown)
    have n2 : CntBox W2 nb (curM K.kd j c) := by rw [← hW2]; exact NN.out.alloc _
    have g2 : IntBox W2 gb (atM K.kd j c) := by rw [← hW2]; exact Box.new' hgb.symm
    have hs2 : W2.heap.size = gb + 1 := by rw [← hW2]; simp [hgb]
    have hgr : gb ∉ rs1 := fun hr => by have := ST.out.m.lt _ hr; omega
    have hgn : nb < gb := by omega
    have cl := KndBox.least_ st2.k
    have cb := KndBox.baseAt st2.k hc
    have cg := g2.cell 0
    have cgf := g2.frozen 0
    have HL := Lib.hid (KndBox.after_ st2.k hc)
    have ST2 := Lib.hid st2
    have N2 := Lib.hid n2
    have G2 := Lib.hid g2
    have hs1 := sumM_le K.kd K.typ.least j c
    have hw1 : IntKind.i64.wrap ((sumM K.kd K.typ.least j c : Int) + (atM K.kd j c : Int)) = (sumM K.kd K.typ.least j c : Int) + (atM K.kd j c : Int) := IntWalk.i64_in _ (by simp only [satM] at hs1 hf1; omega)
    clear ST NN st2 n2 g2 hW2 hgb hix hq hgs hnl
    clear W1
    obtain ⟨sm, hsm⟩ : ∃ sm, sumM K.kd K.typ.least j (c + 1) = sm := ⟨_, rfl⟩
    have HSM := Lib.hid hsm
    clear hsm
    have HRL := Lib.hid (fun r (hr : r ∈ rs1) => (show r < gb from by have h := ST2.out.m.lt r hr; have h2 : r ≠ gb := fun e => hgr (e ▸ hr); omega))
    rcases hb1 : decide (K.typ.least ≤ (j : Int) + 1) with _ | _
    ·have HS : sumM K.kd K.typ.least j c = sm := by
      rw [← HSM.out, sumM, sumM, satF_succ, if_neg (by rw [show ((j + 1 : Nat) : Int) = (j : Int) + 1 by omega, hb1]; simp)]
     gi_upto_region 18 with fail
     (try simp only [HS])
     clear HS cl cb hb1 cg cgf hw1
     gi_wp2_with (refine wpListIn_load_box rfl 108 _ rfl rfl HL.out ?_)
     clear HL
     refine wpIn_each (s := K.after c) rfl (fun pre W => ManySt K kb (atM K.kd j) rs1 w W ∧ CntBox W nb (fun d => if pre.contains d then min (curM K.kd j c d + atM K.kd j c) satM else curM K.kd j c d) ∧ IntBox W gb (atM K.kd j c)) ?hI ?h0 15 ?assign ?body ?done
     case hI =>
      rintro pre A B ⟨h1, h2, h3⟩ hk
      rw [hs2] at hk
      exact ⟨h1.keep hk (fun k hk => by omega) (fun r hr => by have := HRL.out r hr; omega), hk.heap (by omega) h2, hk.heap (by omega) h3⟩
     case h0 => exact ⟨ST2.out, N2.out.congr_ fun _ _ => rfl, G2.out⟩
     case assign =>
      intro l c W Kk hK
      gi_wp2_with fail
      exact hK
     case body =>
      rintro l pre d W ⟨st, nn, gg⟩ hlt hd hpre
      simp only [List.setIfInBounds_toArray, List.set_cons_succ, List.set_cons_zero]
      rw [hs2] at hlt ⊢
      have hdi : (d : Int) < 26 := by omega
      have hd0 : (0 : Int) ≤ (d : Int) := by omega
      have hnd : pre.contains d = false := by
       have := (List.nodup_append.1 ((classes_nodup (K.after c)).sublist hpre.sublist)).2.2
       simpa using fun h => this d h d (by simp) rfl
      have ST3 := Lib.hid st
      have N3 := Lib.hid nn
      have G3 := Lib.hid gg
      clear st nn gg
      obtain ⟨x, hx⟩ : ∃ x, curM K.kd j c d = x := ⟨_, rfl⟩
      have hf2 : x ≤ satM := hx ▸ curM_le K.kd j c d
      have hw1 : IntKind.i64.wrap ((x : Int) + (atM K.kd j c : Int)) = (x : Int) + (atM K.kd j c : Int) := IntWalk.i64_in _ (by simp only [satM] at hf1 hf2; omega)
      have hmn : (if (1000000000 : Int) < (x : Int) + (atM K.kd j c : Int) then (1000000000 : Int) else (x : Int) + (atM K.kd j c : Int)) = ((min (x + atM K.kd j c) satM : Nat) : Int) := by simp only [satM]; split <;> omega
      gi_wp2_with fail
      refine wpIn_region_heldB_round 7 [] (by kernel_rfl) (by kernel_rfl) (by kernel_rfl) (by kernel_rfl) (by simp) ?_
      intro S hS
      have k0 : ∀ A, S A → A.cell? ⟨nb, d, none⟩ = some (.int .i64 (x : Int)) ∧ A.cell? ⟨gb, 0, none⟩ = some (.int .i64 (atM K.kd j c : Int)) := fun A hA => ⟨by
       rw [CntBox.cell_ (N3.out.below' (hS A hA)) hd, if_neg (by simp only [hnd]; simp), hx], (G3.out.below' (hS A hA)).cell 0⟩
      have K0 := Lib.hid k0
      have HS := Lib.hid hS
      clear hS k0
      simp only [List.take_succ_cons, List.take_zero, List.drop_succ_cons, List.drop_zero]
      repeat (first
       | (refine held_not rfl (by rfl) ?_; try (dsimp only); try simp only [Act.put, List.setIfInBounds_toArray, List.set_cons_zero, List.set_cons_succ])
       | (refine held_val (v := ?_) rfl (by rfl) ?_ ?_; rotate_left; (· (intro W hW; obtain ⟨q0, q1⟩ := K0.out W hW; go_simp; try with_reducible rfl)); try (dsimp only); try simp only [Act.put, List.setIfInBounds_toArray, List.set_cons_zero, List.set_cons_succ])
       | (refine held_skip rfl (by rfl) ?_ ?_; (· (intro W hW; obtain ⟨q0, q1⟩ := K0.out W hW; go_simp; try with_reducible rfl)); try (dsimp only); try simp only [Act.put, List.setIfInBounds_toArray, List.set_cons_zero, List.set_cons_succ]))
      refine held_nil ?_
      intro τ hτ W3 hW hO
      obtain rfl := laid0 hτ
      have HB := Lib.hid (HS.out W3 hW)
      clear hτ hO hW HS K0
      simp only [overs, List.foldl_nil]
      have n4 : CntBox W3 nb _ := N3.out.below' HB.out
      have N4 := Lib.hid n4
      clear n4
      have ST4 := Lib.hid (ST3.out.below HB.out)
      have d2 := N4.out.cell_ hd
      have d3 := N4.out.frozen d
      gi_wp2_with fail
      (try simp only [hmn])
      have hk : ∀ u, Keep (fun k => k ≠ nb) W3 (W3.setCell ⟨nb, d, none⟩ u) := fun u => (Keep.refl _ W3).setCell (.inl (by simp)) _
      refine ⟨(Keep.of_below' HB.out).trans ((hk _).mono fun k hk => by omega), ST4.out.keep (hk _) (fun k hk => by omega) (fun r hr e => hnr (e ▸ hr)), (CntBox.put N4.out d _).congr_ fun e _ => ?_, (hk _).heap (by omega) (G3.out.below' HB.out)⟩
      by_cases h : e = d
      ·subst h; rw [if_pos rfl, if_pos (by simp), hx]
      ·rw [if_neg h]; simp [h]
     case done =>
      rintro W ⟨st, nn, gg⟩ hD
      rw [hs2] at hD ⊢
      have ST3 := Lib.hid st
      have N3 := Lib.hid nn
      have HD := Lib.hid hD
      have hw2 : IntKind.i64.wrap ((c : Int) + 1) = (c : Int) + 1 := IntWalk.i64_in _ (by omega)
      clear st nn gg hD
      gi_wp2_with fail
      refine HKJ.out r _ _ (by omega) ⟨c + 1, (gb + 1) :: rs1, rfl, rfl, rfl, rfl, by rw [HSM.out]; rfl, rfl, rfl, rfl, by go_num, by omega, ⟨ST3.out.k, ST3.out.n, ST3.out.b, ST3.out.s, ST3.out.m.cons (fun hr => by have := HRL.out _ hr; omega) HD.out, fun r hr => ?_⟩, N3.out.congr_ fun d hd => ?_, by omega, fun hr => ?_⟩
      ·rcases List.mem_cons.1 hr with rfl | hr
       ·omega
       ·exact ST2.out.r r hr
      ·rw [curM, curM, satF_succ]
       have e : (classesOf (K.after c)).contains d = K.kd.after c d := by rw [Bool.eq_iff_iff]; simp [mem_classes, hd, Knd.kd]
       rw [e]
      ·rcases List.mem_cons.1 hr with h | hr
       ·omega
       ·exact hnr hr
    ·rcases hb2 : K.base c with _ | _
     ·rw [hb2] at cb
      have HS : sumM K.kd K.typ.least j c = sm := by
       rw [← HSM.out, sumM, sumM, satF_succ, if_neg (by rw [show K.kd.base c = K.base c from rfl, hb2]; simp)]
      gi_upto_region 18 with fail
      (try simp only [HS])
      clear HS cl cb hb1 cg cgf hw1
      gi_wp2_with (refine wpListIn_load_box rfl 108 _ rfl rfl HL.out ?_)
      clear HL
      refine wpIn_each (s := K.after c) rfl (fun pre W => ManySt K kb (atM K.kd j) rs1 w W ∧ CntBox W nb (fun d => if pre.contains d then min (curM K.kd j c d + atM K.kd j c) satM else curM K.kd j c d) ∧ IntBox W gb (atM K.kd j c)) ?hI ?h0 15 ?assign ?body ?done
      case hI =>
       rintro pre A B ⟨h1, h2, h3⟩ hk
       rw [hs2] at hk
       exact ⟨h1.keep hk (fun k hk => by omega) (fun r hr => by have := HRL.out r hr; omega), hk.heap (by omega) h2, hk.heap (by omega) h3⟩
      case h0 => exact ⟨ST2.out, N2.out.congr_ fun _ _ => rfl, G2.out⟩
      case assign =>
       intro l c W Kk hK
       gi_wp2_with fail
       exact hK
      case body =>
       rintro l pre d W ⟨st, nn, gg⟩ hlt hd hpre
       simp only [List.setIfInBounds_toArray, List.set_cons_succ, List.set_cons_zero]
       rw [hs2] at hlt ⊢
       have hdi : (d : Int) < 26 := by omega
       have hd0 : (0 : Int) ≤ (d : Int) := by omega
       have hnd : pre.contains d = false := by
        have := (List.nodup_append.1 ((classes_nodup (K.after c)).sublist hpre.sublist)).2.2
        simpa using fun h => this d h d (by simp) rfl
       have ST3 := Lib.hid st
       have N3 := Lib.hid nn
       have G3 := Lib.hid gg
       clear st nn gg
       obtain ⟨x, hx⟩ : ∃ x, curM K.kd j c d = x := ⟨_, rfl⟩
       have hf2 : x ≤ satM := hx ▸ curM_le K.kd j c d
       have hw1 : IntKind.i64.wrap ((x : Int) + (atM K.kd j c : Int)) = (x : Int) + (atM K.kd j c : Int) := IntWalk.i64_in _ (by simp only [satM] at hf1 hf2; omega)
       have hmn : (if (1000000000 : Int) < (x : Int) + (atM K.kd j c : Int) then (1000000000 : Int) else (x : Int) + (atM K.kd j c : Int)) = ((min (x + atM K.kd j c) satM : Nat) : Int) := by simp only [satM]; split <;> omega
       gi_wp2_with fail
       refine wpIn_region_heldB_round 7 [] (by kernel_rfl) (by kernel_rfl) (by kernel_rfl) (by kernel_rfl) (by simp) ?_
       intro S hS
       have k0 : ∀ A, S A → A.cell? ⟨nb, d, none⟩ = some (.int .i64 (x : Int)) ∧ A.cell? ⟨gb, 0, none⟩ = some (.int .i64 (atM K.kd j c : Int)) := fun A hA => ⟨by
        rw [CntBox.cell_ (N3.out.below' (hS A hA)) hd, if_neg (by simp only [hnd]; simp), hx], (G3.out.below' (hS A hA)).cell 0⟩
       have K0 := Lib.hid k0
       have HS := Lib.hid hS
       clear hS k0
       simp only [List.take_succ_cons, List.take_zero, List.drop_succ_cons, List.drop_zero]
       repeat (first
        | (refine held_not rfl (by rfl) ?_; try (dsimp only); try simp only [Act.put, List.setIfInBounds_toArray, List.set_cons_zero, List.set_cons_succ])
        | (refine held_val (v := ?_) rfl (by rfl) ?_ ?_; rotate_left; (· (intro W hW; obtain ⟨q0, q1⟩ := K0.out W hW; go_simp; try with_reducible rfl)); try (dsimp only); try simp only [Act.put, List.setIfInBounds_toArray, List.set_cons_zero, List.set_cons_succ])
        | (refine held_skip rfl (by rfl) ?_ ?_; (· (intro W hW; obtain ⟨q0, q1⟩ := K0.out W hW; go_simp; try with_reducible rfl)); try (dsimp only); try simp only [Act.put, List.setIfInBounds_toArray, List.set_cons_zero, List.set_cons_succ]))
       refine held_nil ?_
       intro τ hτ W3 hW hO
       obtain rfl := laid0 hτ
       have HB := Lib.hid (HS.out W3 hW)
       clear hτ hO hW HS K0
       simp only [overs, List.foldl_nil]
       have n4 : CntBox W3 nb _ := N3.out.below' HB.out
       have N4 := Lib.hid n4
       clear n4
       have ST4 := Lib.hid (ST3.out.below HB.out)
       have d2 := N4.out.cell_ hd
       have d3 := N4.out.frozen d
       gi_wp2_with fail
       (try simp only [hmn])
       have hk : ∀ u, Keep (fun k => k ≠ nb) W3 (W3.setCell ⟨nb, d, none⟩ u) := fun u => (Keep.refl _ W3).setCell (.inl (by simp)) _
       refine ⟨(Keep.of_below' HB.out).trans ((hk _).mono fun k hk => by omega), ST4.out.keep (hk _) (fun k hk => by omega) (fun r hr e => hnr (e ▸ hr)), (CntBox.put N4.out d _).congr_ fun e _ => ?_, (hk _).heap (by omega) (G3.out.below' HB.out)⟩
       by_cases h : e = d
       ·subst h; rw [if_pos rfl, if_pos (by simp), hx]
       ·rw [if_neg h]; simp [h]
      case done =>
       rintro W ⟨st, nn, gg⟩ hD
       rw [hs2] at hD ⊢
       have ST3 := Lib.hid st
       have N3 := Lib.hid nn
       have HD := Lib.hid hD
       have hw2 : IntKind.i64.wrap ((c : Int) + 1) = (c : Int) + 1 := IntWalk.i64_in _ (by omega)
       clear st nn gg hD
       gi_wp2_with fail
       refine HKJ.out r _ _ (by omega) ⟨c + 1, (gb + 1) :: rs1, rfl, rfl, rfl, rfl, by rw [HSM.out]; rfl, rfl, rfl, rfl, by go_num, by omega, ⟨ST3.out.k, ST3.out.n, ST3.out.b, ST3.out.s, ST3.out.m.cons (fun hr => by have := HRL.out _ hr; omega) HD.out, fun r hr => ?_⟩, N3.out.congr_ fun d hd => ?_, by omega, fun hr => ?_⟩
       ·rcases List.mem_cons.1 hr with rfl | hr
        ·omega
        ·exact ST2.out.r r hr
       ·rw [curM, curM, satF_succ]
        have e : (classesOf (K.after c)).contains d = K.kd.after c d := by rw [Bool.eq_iff_iff]; simp [mem_classes, hd, Knd.kd]
        rw [e]
       ·rcases List.mem_cons.1 hr with h | hr
        ·omega
        ·exact hnr hr
     ·rw [hb2] at cb
      have HS : (if (1000000000 : Int) < (sumM K.kd K.typ.least j c : Int) + (atM K.kd j c : Int) then (1000000000 : Int) else (sumM K.kd K.typ.least j c : Int) + (atM K.kd j c : Int)) = (sm : Int) := by
       have e : sm = min (sumM K.kd K.typ.least j c + atM K.kd j c) satM := by
        rw [← HSM.out, sumM, sumM, satF_succ, if_pos (by rw [show ((j + 1 : Nat) : Int) = (j : Int) + 1 by omega, hb1, show K.kd.base c = K.base c from rfl, hb2]; rfl)]
       rw [e]; simp only [satM]; split <;> omega
      gi_upto_region 18 with fail
      (try simp only [HS])
      clear HS cl cb hb1 cg cgf hw1
      gi_wp2_with (refine wpListIn_load_box rfl 108 _ rfl rfl HL.out ?_)
      clear HL
      refine wpIn_each (s := K.after c) rfl (fun pre W => ManySt K kb (atM K.kd j) rs1 w W ∧ CntBox W nb (fun d => if pre.contains d then min (curM K.kd j c d + atM K.kd j c) satM else curM K.kd j c d) ∧ IntBox W gb (atM K.kd j c)) ?hI ?h0 15 ?assign ?body ?done
      case hI =>
       rintro pre A B ⟨h1, h2, h3⟩ hk
       rw [hs2] at hk
       exact ⟨h1.keep hk (fun k hk => by omega) (fun r hr => by have := HRL.out r hr; omega), hk.heap (by omega) h2, hk.heap (by omega) h3⟩
      case h0 => exact ⟨ST2.out, N2.out.congr_ fun _ _ => rfl, G2.out⟩
      case assign =>
       intro l c W Kk hK
       gi_wp2_with fail
       exact hK
      case body =>
       rintro l pre d W ⟨st, nn, gg⟩ hlt hd hpre
       simp only [List.setIfInBounds_toArray, List.set_cons_succ, List.set_cons_zero]
       rw [hs2] at hlt ⊢
       have hdi : (d : Int) < 26 := by omega
       have hd0 : (0 : Int) ≤ (d : Int) := by omega
       have hnd : pre.contains d = false := by
        have := (List.nodup_append.1 ((classes_nodup (K.after c)).sublist hpre.sublist)).2.2
        simpa using fun h => this d h d (by simp) rfl
       have ST3 := Lib.hid st
       have N3 := Lib.hid nn
       have G3 := Lib.hid gg
       clear st nn gg
       obtain ⟨x, hx⟩ : ∃ x, curM K.kd j c d = x := ⟨_, rfl⟩
       have hf2 : x ≤ satM := hx ▸ curM_le K.kd j c d
       have hw1 : IntKind.i64.wrap ((x : Int) + (atM K.kd j c : Int)) = (x : Int) + (atM K.kd j c : Int) := IntWalk.i64_in _ (by simp only [satM] at hf1 hf2; omega)
       have hmn : (if (1000000000 : Int) < (x : Int) + (atM K.kd j c : Int) then (1000000000 : Int) else (x : Int) + (atM K.kd j c : Int)) = ((min (x + atM K.kd j c) satM : Nat) : Int) := by simp only [satM]; split <;> omega
       gi_wp2_with fail
       refine wpIn_region_heldB_round 7 [] (by kernel_rfl) (by kernel_rfl) (by kernel_rfl) (by kernel_rfl) (by simp) ?_
       intro S hS
       have k0 : ∀ A, S A → A.cell? ⟨nb, d, none⟩ = some (.int .i64 (x : Int)) ∧ A.cell? ⟨gb, 0, none⟩ = some (.int .i64 (atM K.kd j c : Int)) := fun A hA => ⟨by
        rw [CntBox.cell_ (N3.out.below' (hS A hA)) hd, if_neg (by simp only [hnd]; simp), hx], (G3.out.below' (hS A hA)).cell 0⟩
       have K0 := Lib.hid k0
       have HS := Lib.hid hS
       clear hS k0
       simp only [List.take_succ_cons, List.take_zero, List.drop_succ_cons, List.drop_zero]
       repeat (first
        | (refine held_not rfl (by rfl) ?_; try (dsimp only); try simp only [Act.put, List.setIfInBounds_toArray, List.set_cons_zero, List.set_cons_succ])
        | (refine held_val (v := ?_) rfl (by rfl) ?_ ?_; rotate_left; (· (intro W hW; obtain ⟨q0, q1⟩ := K0.out W hW; go_simp; try with_reducible rfl)); try (dsimp only); try simp only [Act.put, List.setIfInBounds_toArray, List.set_cons_zero, List.set_cons_succ])
        | (refine held_skip rfl (by rfl) ?_ ?_; (· (intro W hW; obtain ⟨q0, q1⟩ := K0.out W hW; go_simp; try with_reducible rfl)); try (dsimp only); try simp only [Act.put, List.setIfInBounds_toArray, List.set_cons_zero, List.set_cons_succ]))
       refine held_nil ?_
       intro τ hτ W3 hW hO
       obtain rfl := laid0 hτ
       have HB := Lib.hid (HS.out W3 hW)
       clear hτ hO hW HS K0
       simp only [overs, List.foldl_nil]
       have n4 : CntBox W3 nb _ := N3.out.below' HB.out
       have N4 := Lib.hid n4
       clear n4
       have ST4 := Lib.hid (ST3.out.below HB.out)
       have d2 := N4.out.cell_ hd
       have d3 := N4.out.frozen d
       gi_wp2_with fail
       (try simp only [hmn])
       have hk : ∀ u, Keep (fun k => k ≠ nb) W3 (W3.setCell ⟨nb, d, none⟩ u) := fun u => (Keep.refl _ W3).setCell (.inl (by simp)) _
       refine ⟨(Keep.of_below' HB.out).trans ((hk _).mono fun k hk => by omega), ST4.out.keep (hk _) (fun k hk => by omega) (fun r hr e => hnr (e ▸ hr)), (CntBox.put N4.out d _).congr_ fun e _ => ?_, (hk _).heap (by omega) (G3.out.below' HB.out)⟩
       by_cases h : e = d
       ·subst h; rw [if_pos rfl, if_pos (by simp), hx]
       ·rw [if_neg h]; simp [h]
      case done =>
       rintro W ⟨st, nn, gg⟩ hD
       rw [hs2] at hD ⊢
       have ST3 := Lib.hid st
       have N3 := Lib.hid nn
       have HD := Lib.hid hD
       have hw2 : IntKind.i64.wrap ((c : Int) + 1) = (c : Int) + 1 := IntWalk.i64_in _ (by omega)
       clear st nn gg hD
       gi_wp2_with fail
       refine HKJ.out r _ _ (by omega) ⟨c + 1, (gb + 1) :: rs1, rfl, rfl, rfl, rfl, by rw [HSM.out]; rfl, rfl, rfl, rfl, by go_num, by omega, ⟨ST3.out.k, ST3.out.n, ST3.out.b, ST3.out.s, ST3.out.m.cons (fun hr => by have := HRL.out _ hr; omega) HD.out, fun r hr => ?_⟩, N3.out.congr_ fun d hd => ?_, by omega, fun hr => ?_⟩
       ·rcases List.mem_cons.1 hr with rfl | hr
        ·omega
        ·exact ST2.out.r r hr
       ·rw [curM, curM, satF_succ]
        have e : (classesOf (K.after c)).contains d = K.kd.after c d := by rw [Bool.eq_iff_iff]; simp [mem_classes, hd, Knd.kd]
        rw [e]
       ·rcases List.mem_cons.1 hr with h | hr
        ·omega
        ·exact hnr hr
end Go.Proofs.YthpjffhccjlnhaaGreatDoor
