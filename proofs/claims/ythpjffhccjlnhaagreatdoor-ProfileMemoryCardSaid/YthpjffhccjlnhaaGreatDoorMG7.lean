/- Package profile: exact, Letters. No condition. -/
/- Package profile: Letters. No condition. -/
/- Package profile: has: a word is a profile of a kind. No condition. -/
/- Package profile: IsProfile. No condition. -/
/- Package profile: First. No condition. -/
import Derived.Test.YthpjffhccjlnhaaGreatDoorMG6
set_option linter.unusedSimpArgs false
set_option linter.unusedVariables false
namespace Go.Proofs.YthpjffhccjlnhaaGreatDoor
open Go.RowKit
attribute [local go_sem] Oper.semAt_some

def exactK (K : Knd) (n : Int) : Knd := ⟨{ K.typ with most := n }, K.index, K.rim, K.base, K.after⟩
theorem exactK_kd (K : Knd) (n : Int) : (exactK K n).kd = K.kd := rfl
theorem KndBox.exact {w : World} {b : Nat} {K : Knd} (h : KndBox w b K) (n : Int) : KndBox (w.setCell ⟨b, 3, none⟩ (.int .i64 n)) b (exactK K n) :=
 (h.fset 3 (.int .i64 n)).cong fun i _ => by
  by_cases e : i = 3
  ·subst e; rfl
  ·rw [if_neg e]
   unfold kndF exactK
   dsimp only
   split
   ·rcases i with _ | _ | _ | _ | _ | _ | i <;> first | rfl | exact absurd rfl e
   ·rfl
set_option maxRecDepth 100000 in
set_option maxHeartbeats 1000000 in
theorem exact_any (K : Knd) (n : Int) (w : World) : Calls Tryz.prog 78 #[.agg (kndCells K), .int .i64 n] w fun e w' => e = .returned (.agg (kndCells (exactK K n))) ∧ Below w.heap.size w w' := by
 obtain ⟨w1, hw1⟩ : ∃ w1, (w.alloc (.cells (kndCells K) 111)).alloc (.cells (kndCells knd0) 111) = w1 := ⟨_, rfl⟩
 have b0 : KndBox w1 w.heap.size K := by rw [← hw1]; exact (Box.new _ _ _).alloc _
 have b1 : KndBox w1 (w.heap.size + 1) knd0 := by rw [← hw1]; exact Box.new' (by simp)
 have hB : Below w.heap.size w w1 := by rw [← hw1]; go_grown
 obtain ⟨w2, hw2⟩ : ∃ w2, w1.setCell ⟨w.heap.size, 3, none⟩ (.int .i64 n) = w2 := ⟨_, rfl⟩
 have k2 : Keep (fun k => k ≠ w.heap.size) w1 w2 := by rw [← hw2]; exact (Keep.refl _ w1).setCell (.inl (by simp)) _
 have b2 : KndBox w2 w.heap.size (exactK K n) := by rw [← hw2]; exact KndBox.exact b0 n
 have HL := Lib.hid (KndBox.load b2)
 obtain ⟨w3, hst, hw3⟩ := run_store_all (P := Tryz.prog) agg_knd (k2.heap (by omega) b1) (kndF (exactK K n)) (fun j _ => kndF_one _ j)
 have HB := Lib.hid (hw3.below (hB.trans ((k2.mono fun k (hk : k < w.heap.size) => by omega).below hB.size)) (by omega))
 have HST := Lib.hid hst
 have HW3 := Lib.hid hw3
 have HW := Lib.hid hw1
 have HW2 := Lib.hid hw2
 have c3 := b0.fn (i := 3) (by omega)
 have f3 := b0.frozen 3
 clear b0 b1 hB hw1 hw2 k2 b2 hst hw3
 go_enter Tryz.func78, Tryz.ntmps78
 go_upto_region 1 with fail
 simp only [zknd, HW.out]
 go_upto_region 2 with fail
 simp only [HW2.out]
 go_wp2_with (first
  | (refine wpList_load_box rfl 111 _ rfl rfl HL.out ?_)
  | (refine wpList_store_box rfl 111 _ _ rfl rfl rfl HST.out ?_))
 refine bodyPost_ret (results_cell rfl rfl (KndBox.loadv HW3.out.box)) rfl ⟨rfl, HB.out⟩
end Go.Proofs.YthpjffhccjlnhaaGreatDoor
namespace Go.Proofs.YthpjffhccjlnhaaGreatDoor
open Go.RowKit
attribute [local go_sem] Oper.semAt_some

theorem asked_good {l : List Typ} {i : Int} (h : askedErr l i = 0) : ∃ (n : Nat) (t : Typ), i = n ∧ l[n]? = some t ∧ askedKnd l i = kndOf t i ∧ typeB t = true ∧ ((kndOf t i).typ.most = (t.m : Int)) ∧ t.m ≤ 12 := by
 have h1 : typesErr l = 0 := by
  unfold askedErr at h
  split at h
  ·assumption
  ·exact h
 have h2 : inB i 0 ((l.length : Int) - 1) = true := by
  unfold askedErr at h
  rw [if_pos h1] at h
  rcases hb : inB i 0 ((l.length : Int) - 1) with _ | _
  ·rw [hb] at h; cases h
  ·rfl
 have hi : 0 ≤ i ∧ i < l.length := by simp [inB] at h2; omega
 obtain ⟨n, rfl⟩ : ∃ n : Nat, i = n := ⟨i.toNat, by omega⟩
 obtain ⟨t, ht⟩ : ∃ t, l[n]? = some t := ⟨l[n]'(by omega), by simp [show n < l.length by omega]⟩
 have hg := (typesErr_good h1).2 n t ht
 obtain ⟨_, g1, g2, g3⟩ := typeB_good hg
 refine ⟨n, t, rfl, ht, by simp [askedKnd, h, ht], hg, ?_, ?_⟩
 ·show t.most = (t.most.toNat : Int)
  omega
 ·show t.most.toNat ≤ 12
  omega
theorem results_tmp_tmp4 {P : Program} {fn : Func} {t u : Tmp} (h : fn.results = #[.tmp t, .tmp u]) {tmps : Array Value} {w : World} : (results fn tmps).run P w = .ok (.tuple #[tmps.getD t undef, tmps.getD u undef]) w := by
 simp [results, h]
def lettersOut (l : List Typ) (i : Int) : Value := if askedErr l i = 0 then .tuple #[.string (mkB (str (lettersW (askedKnd l i).kd (askedKnd l i).typ.m (askedKnd l i).typ.least))), .int .i64 0] else .tuple #[.string ByteArray.empty, .int .i64 (askedErr l i)]
set_option maxRecDepth 100000 in
set_option maxHeartbeats 1000000 in
theorem lettersX_any (a : Option Addr) (c : Nat) (l : List Typ) (i : Int) (w : World) (h : TypesAt w a l) (hs : ∀ t, t ∈ l → SmlT t) (hl : l.length ≤ 1000000) (hlc : l.length ≤ c) :
  Calls Tryz.prog 46 #[.slice a l.length c, .int .i64 i] w fun e w' => e = .returned (lettersOut l i) ∧ Below w.heap.size w w' := by
 have HC := Lib.hid (askedP_any a c l i w h hs hl hlc)
 clear h hs
 go_enter Tryz.func46, Tryz.ntmps46
 go_upto_region 1 with fail
 go_wp2_with fail
 refine HC.out.mono ?_
 rintro e w1 ⟨rfl, hb1⟩
 obtain ⟨w2, hw2⟩ : ∃ w2, w1.alloc (.cells (kndCells knd0) 111) = w2 := ⟨_, rfl⟩
 have b2 : KndBox w2 w1.heap.size knd0 := by rw [← hw2]; exact Box.new _ _ _
 have hb2 : Below w1.heap.size w1 w2 := by rw [← hw2]; go_grown
 obtain ⟨w3, hst, hw3⟩ := run_store_all (P := Tryz.prog) agg_knd b2 (kndF (askedKnd l i)) (fun j _ => kndF_one _ j)
 have HB3 := Lib.hid (hb1.trans ((hw3.below hb2 (Nat.le_refl _)).mono hb1.size))
 have HL := Lib.hid (KndBox.load hw3.box)
 have HW2 := Lib.hid hw2
 have HST := Lib.hid hst
 clear hb1 hw2 b2 hb2 hst hw3 HC
 go_upto_region 2 with (simp only [zknd, HW2.out]; refine wpList_store_box rfl 111 _ _ rfl rfl rfl HST.out ?_)
 by_cases h0 : askedErr l i = 0
 ·obtain ⟨n, t, hi, ht, hk, hg, hm, hm12⟩ := asked_good h0
  have HE : Hid (lettersOut l i = .tuple #[.string (mkB (str (lettersW (askedKnd l i).kd (askedKnd l i).typ.m (askedKnd l i).typ.least))), .int .i64 0]) := Lib.hid (by unfold lettersOut; rw [if_pos h0])
  have HM : Hid ((askedKnd l i).typ.most = ((askedKnd l i).typ.m : Int) ∧ (askedKnd l i).typ.m ≤ 12) := Lib.hid (by rw [hk]; exact ⟨hm, hm12⟩)
  clear hi ht hk hg hm hm12
  simp only [h0]
  clear h0
  go_wp2_with (refine wpList_load_box rfl 111 _ rfl rfl HL.out ?_)
  refine (letters_any (askedKnd l i) (askedKnd l i).typ.m HM.out.1 HM.out.2 w3).mono ?_
  rintro e w4 ⟨rfl, hb4⟩
  have HB4 := Lib.hid (HB3.out.trans (hb4.mono HB3.out.size))
  clear hb4
  go_wp2_with fail
  refine (text_any _ w4).mono ?_
  rintro e w5 ⟨rfl, hb5⟩
  have HB5 := Lib.hid (HB4.out.trans (hb5.mono HB4.out.size))
  clear hb5
  go_wp2_with fail
  exact bodyPost_ret (results_tmp_tmp4 rfl) rfl ⟨by rw [HE.out]; rfl, HB5.out⟩
 ·have HE : Hid (lettersOut l i = .tuple #[.string ByteArray.empty, .int .i64 (askedErr l i)]) := Lib.hid (by unfold lettersOut; rw [if_neg h0])
  have hne : (askedErr l i == 0) = false := by simpa using h0
  go_wp2_with fail
  exact bodyPost_ret (results_tmp_tmp4 rfl) rfl ⟨by rw [HE.out]; rfl, HB3.out⟩
end Go.Proofs.YthpjffhccjlnhaaGreatDoor
namespace Go.Proofs.YthpjffhccjlnhaaGreatDoor
open Go.RowKit
attribute [local go_sem] Oper.semAt_some

def badLet (c : UInt8) : Bool := !letC c
set_option maxHeartbeats 1000000 in
theorem letFn_any (c : UInt8) (w : World) : Calls Tryz.prog 145 #[.int .u8 c.toNat] w fun e w' => e = .returned (.bool (badLet c)) ∧ Below w.heap.size w w' := by
 go_enter Tryz.func145, Tryz.ntmps145
 go_wp2
 all_goals go_ret
 all_goals (refine ⟨ret_bool ?_, Below.refl _ _⟩; rw [Bool.eq_iff_iff]; simp [badLet, letC]; omega)
theorem any_badLet (l : List UInt8) : l.any badLet = !l.all letC := by simp [badLet, List.any_eq_not_all_not]
/-- the memory of has -/
structure HasSt (K : Knd) (w W : World) : Prop where
 k : KndBox W w.heap.size K
 b : Below w.heap.size w W
theorem HasSt.below {K : Knd} {w W W' : World} (h : HasSt K w W) (hb : Below W.heap.size W W') : HasSt K w W' := ⟨h.k.below' hb, h.b.trans (hb.mono h.b.size)⟩
theorem byte_class {x : UInt8} (h : letC x = true) : ∃ c : Nat, c < 26 ∧ cl x = c ∧ (x.toNat : Int) - 97 = c ∧ IntKind.u8.wrap ((x.toNat : Int) - 97) = (c : Int) := by
 simp only [letC, Bool.and_eq_true, decide_eq_true_eq] at h
 refine ⟨x.toNat - 97, by omega, rfl, by omega, ?_⟩
 have e : (x.toNat : Int) - 97 = ((x.toNat - 97 : Nat) : Int) := by omega
 rw [e]
 show ((x.toNat - 97 : Nat) : Int) % 256 = _
 omega
set_option maxRecDepth 100000 in
set_option maxHeartbeats 1000000 in
theorem has_any (K : Knd) (s : ByteArray) (hs : s.size ≤ 1000000) (h1 : 1 ≤ K.typ.least) (w : World) : Calls Tryz.prog 101 #[.agg (kndCells K), .string s] w fun e w' => e = .returned (.bool (profB K.kd K.typ.least K.typ.most (bl s))) ∧ Below w.heap.size w w' := by
 obtain ⟨w1, hw1⟩ : ∃ w1, w.alloc (.cells (kndCells K) 111) = w1 := ⟨_, rfl⟩
 have b0 : KndBox w1 w.heap.size K := by rw [← hw1]; exact Box.new _ _ _
 have hB : Below w.heap.size w w1 := by rw [← hw1]; go_grown
 obtain ⟨cap, W', hc, hby, hbw⟩ := conv_any s w1
 have hl : s.data.toList.length = s.size := by simp
 have hk := containsB_any 145 #[] badLet (enters_of Tryz.func145 (by kernel_rfl) rfl) (fun c W => by simpa using letFn_any c W) _ cap _ W' hby (by omega)
 rw [hl, any_badLet] at hk
 have ST := Lib.hid (HasSt.mk b0 hB)
 have HK := Lib.hid hk
 have HBW := Lib.hid hbw
 have HW := Lib.hid hw1
 have c2 := KndBox.least_ b0
 have c3 := KndBox.most_ b0
 clear hk hby hbw b0 hB hw1 hl
 go_enter Tryz.func101, Tryz.ntmps101
 go_upto_region 1 with fail
 simp only [HW.out]
 go_wp2_with fail
 refine (in_any (s.size : Int) K.typ.least K.typ.most w1).mono ?_
 rintro e w' ⟨rfl, rfl⟩
 rcases h2 : inB (s.size : Int) K.typ.least K.typ.most with _ | _
 ·have HN : Hid (profB K.kd K.typ.least K.typ.most (bl s) = false) := Lib.hid (by
   have : decide (K.typ.least ≤ ((bl s).length : Int) ∧ ((bl s).length : Int) ≤ K.typ.most) = false := by rw [bl_len]; simpa [inB] using h2
   unfold profB; rw [this]; rfl)
  go_wp2_with fail
  go_ret
  exact ⟨ret_bool HN.out.symm, ST.out.b⟩
 go_wp2_with fail
 refine HK.out.mono ?_
 rintro e w2 ⟨rfl, hb2⟩
 have hb3 := HBW.out.trans (hb2.mono HBW.out.size)
 have ST2 := Lib.hid (ST.out.below hb3)
 clear c2 c3 hb2 hb3 HK HBW hc ST
 rcases h3 : (bl s).all letC with _ | _
 ·have HN : Hid (profB K.kd K.typ.least K.typ.most (bl s) = false) := Lib.hid (by unfold profB; rw [h3]; simp)
  go_wp2_with fail
  go_ret
  exact ⟨ret_bool HN.out.symm, ST2.out.b⟩
 have hlen : 1 ≤ s.size := by simp [inB] at h2; omega
 have HLEN : Hid (decide (K.typ.least ≤ ((bl s).length : Int) ∧ ((bl s).length : Int) ≤ K.typ.most) = true) := Lib.hid (by rw [bl_len]; simpa [inB] using h2)
 have hall : ∀ k (hk : k < s.size), letC s[k] = true := fun k hk => by
  have := List.all_eq_true.1 h3 s[k] (List.mem_of_getElem? (bl_at s hk))
  exact this
 have HALL := Lib.hid hall
 have H3 := Lib.hid h3
 clear h2 h3 hall
 go_wp2_with fail
 go_loopw [5] (fun iv wr => ∃ k : Nat, 1 ≤ k ∧ k ≤ s.size ∧ iv = .int .i64 k ∧ (∀ j, j + 1 < k → linkB K.kd (bl s) j = true) ∧ HasSt K w wr) (fun iv _ => s.size - (intOf iv).toNat)
 case atStart => exact ⟨1, Nat.le_refl _, hlen, rfl, fun j hj => by omega, ST2.out⟩
 case round =>
  clear ST2
  obtain ⟨k, hk1, hk, rfl, hlk, st⟩ := hrel
  have HL := Lib.hid hlk
  have ST := Lib.hid st
  clear hlk st
  by_cases hlt : k < s.size
  ·obtain ⟨m, rfl⟩ : ∃ m, k = m + 1 := ⟨k - 1, by omega⟩
   obtain ⟨x, hx⟩ : ∃ x, s[m]'(by omega) = x := ⟨_, rfl⟩
   obtain ⟨y, hy⟩ : ∃ y, s[m + 1] = y := ⟨_, rfl⟩
   obtain ⟨c, hc26, hcl, hce, hcw⟩ := byte_class (by have := HALL.out m (by omega); rwa [hx] at this)
   obtain ⟨d, hd26, hdl, hde, hdw⟩ := byte_class (by have := HALL.out (m + 1) hlt; rwa [hy] at this)
   have hlink : linkB K.kd (bl s) m = K.after c d := by
    unfold linkB
    rw [bl_at s (show m < s.size by omega), bl_at s hlt, hx, hy]
    simp only [Option.getD_some, hcl, hdl]; rfl
   have hcell : wr.cell? ⟨w.heap.size, 85 + c * 26 + d, none⟩ = some (.bool (K.after c d)) := by rw [ST.out.k.fn (by omega), kndF_after K c hd26]; rfl
   have hci : (c : Int) < 26 := by omega
   have hdi : (d : Int) < 26 := by omega
   have hc0 : (0 : Int) ≤ (c : Int) := by omega
   have hd0 : (0 : Int) ≤ (d : Int) := by omega
   have hm0 : (0 : Int) ≤ (m : Int) := by omega
   have hm1 : IntKind.i64.wrap ((m : Int) + 1 - 1) = (m : Int) := by rw [show (m : Int) + 1 - 1 = (m : Int) by omega]; exact IntWalk.i64_in _ (by omega)
   have hm2 : (m : Int) + 1 < (s.size : Int) := by omega
   have hm3 : (0 : Int) ≤ (m : Int) + 1 := by omega
   have hm4 : ((m : Int) + 1).toNat = m + 1 := by omega
   have hm5 : m < s.size := by omega
   have hcv : IntKind.u8.wrap (c : Int) = (c : Int) := by rw [hce] at hcw; exact hcw
   have hdv : IntKind.u8.wrap (d : Int) = (d : Int) := by rw [hde] at hdw; exact hdw
   have hm6 : IntKind.i64.wrap (m : Int) = (m : Int) := IntWalk.i64_in _ (by omega)
   have hg1 : s[m]? = some x := by rw [← hx]; exact getElem?_pos s m (by omega)
   have hg2 : s[m + 1]? = some y := by rw [← hy]; exact getElem?_pos s (m + 1) hlt
   rcases hq : K.after c d with _ | _
   ·rw [hq] at hcell hlink
    have HN : Hid (profB K.kd K.typ.least K.typ.most (bl s) = false) := Lib.hid (by
     have hn : (List.range ((bl s).length - 1)).all (linkB K.kd (bl s)) = false := by
      rw [List.all_eq_false]
      exact ⟨m, by rw [bl_len]; simp; omega, by simp [hlink]⟩
     unfold profB; rw [hn]; simp)
    clear hlink hq
    go_upto_region 6 with fail
    refine wp_region_heldB 14 [] (by kernel_rfl) (by kernel_rfl) (by kernel_rfl) (by simp) ?_
    intro S hS
    have k0 : ∀ A, S A → A.cell? ⟨w.heap.size, 85 + c * 26 + d, none⟩ = some (.bool false) := fun A hA => below_cell (hS A hA) hcell
    have K0 := Lib.hid k0
    have HS := Lib.hid hS
    clear hS k0
    simp only [List.take_succ_cons, List.take_zero, List.drop_succ_cons, List.drop_zero]
    repeat (first
     | (refine held_not rfl (by rfl) ?_; try (dsimp only); try simp only [Act.put, List.setIfInBounds_toArray, List.set_cons_zero, List.set_cons_succ])
     | (refine held_val (v := ?_) rfl (by rfl) ?_ ?_; rotate_left; (· (intro W hW; have q0 := K0.out W hW; go_simp; try with_reducible rfl)); try (dsimp only); try simp only [Act.put, List.setIfInBounds_toArray, List.set_cons_zero, List.set_cons_succ])
     | (refine held_skip rfl (by rfl) ?_ ?_; (· (intro W hW; have q0 := K0.out W hW; go_simp; try with_reducible rfl)); try (dsimp only); try simp only [Act.put, List.setIfInBounds_toArray, List.set_cons_zero, List.set_cons_succ]))
    refine held_nil ?_
    intro τ hτ W2 hW hO
    obtain rfl := laid0 hτ
    have ST2 := Lib.hid (ST.out.below (HS.out W2 hW))
    clear hτ hO hW K0 HS
    simp only [overs, List.foldl_nil]
    go_wp2_with fail
    go_ret
    exact ⟨ret_bool HN.out.symm, ST2.out.b⟩
   ·rw [hq] at hcell hlink
    have HLK := Lib.hid hlink
    clear hlink hq
    go_upto_region 6 with fail
    refine wp_region_heldB 14 [] (by kernel_rfl) (by kernel_rfl) (by kernel_rfl) (by simp) ?_
    intro S hS
    have k0 : ∀ A, S A → A.cell? ⟨w.heap.size, 85 + c * 26 + d, none⟩ = some (.bool true) := fun A hA => below_cell (hS A hA) hcell
    have K0 := Lib.hid k0
    have HS := Lib.hid hS
    clear hS k0
    simp only [List.take_succ_cons, List.take_zero, List.drop_succ_cons, List.drop_zero]
    repeat (first
     | (refine held_not rfl (by rfl) ?_; try (dsimp only); try simp only [Act.put, List.setIfInBounds_toArray, List.set_cons_zero, List.set_cons_succ])
     | (refine held_val (v := ?_) rfl (by rfl) ?_ ?_; rotate_left; (· (intro W hW; have q0 := K0.out W hW; go_simp; try with_reducible rfl)); try (dsimp only); try simp only [Act.put, List.setIfInBounds_toArray, List.set_cons_zero, List.set_cons_succ])
     | (refine held_skip rfl (by rfl) ?_ ?_; (· (intro W hW; have q0 := K0.out W hW; go_simp; try with_reducible rfl)); try (dsimp only); try simp only [Act.put, List.setIfInBounds_toArray, List.set_cons_zero, List.set_cons_succ]))
    refine held_nil ?_
    intro τ hτ W2 hW hO
    obtain rfl := laid0 hτ
    have ST2 := Lib.hid (ST.out.below (HS.out W2 hW))
    clear hτ hO hW K0 HS
    simp only [overs, List.foldl_nil]
    go_wp2_with fail
    go_roundw
    case rel =>
     refine ⟨m + 1 + 1, by omega, by omega, by go_num, fun j hj => ?_, ST2.out⟩
     rcases Nat.lt_or_ge j m with h | h
     ·exact HL.out j (by omega)
     ·have : j = m := by omega
      subst this; exact HLK.out
    case measure => simp [intOf]; omega
  ·have hke : k = s.size := by omega
   have hkn : decide ((k : Int) < (s.size : Int)) = false := by simp; omega
   obtain ⟨n, hn⟩ : ∃ n, s.size = n + 1 := ⟨s.size - 1, by omega⟩
   obtain ⟨x, hx⟩ : ∃ x, s[0]'(by omega) = x := ⟨_, rfl⟩
   obtain ⟨y, hy⟩ : ∃ y, s[n]'(by omega) = y := ⟨_, rfl⟩
   obtain ⟨c, hc26, hcl, hce, hcw⟩ := byte_class (by have := HALL.out 0 (by omega); rwa [hx] at this)
   obtain ⟨d, hd26, hdl, hde, hdw⟩ := byte_class (by have := HALL.out n (by omega); rwa [hy] at this)
   have HP : Hid (profB K.kd K.typ.least K.typ.most (bl s) = (K.rim c && K.base d)) := Lib.hid (by
    have hl : (List.range ((bl s).length - 1)).all (linkB K.kd (bl s)) = true := List.all_eq_true.2 fun j hj => HL.out j (by rw [bl_len] at hj; simp at hj; omega)
    unfold profB
    rw [HLEN.out, H3.out, hl, bl_len, hn, show n + 1 - 1 = n by omega, bl_at s (show 0 < s.size by omega), bl_at s (show n < s.size by omega), hx, hy]
    simp only [Option.getD_some, hcl, hdl, Bool.true_and]; rfl)
   have r1 : wr.cell? ⟨w.heap.size, 33 + c, none⟩ = some (.bool (K.rim c)) := by rw [ST.out.k.fn (by omega), kndF_rim K hc26]; rfl
   have r2 := ST.out.k.baseAt hd26
   have hci : (c : Int) < 26 := by omega
   have hdi : (d : Int) < 26 := by omega
   have hc0 : (0 : Int) ≤ (c : Int) := by omega
   have hd0 : (0 : Int) ≤ (d : Int) := by omega
   have hm0 : (0 : Int) ≤ (n : Int) := by omega
   have hm1 : IntKind.i64.wrap ((s.size : Int) - 1) = (n : Int) := by rw [show (s.size : Int) - 1 = (n : Int) by omega]; exact IntWalk.i64_in _ (by omega)
   have hm2 : n < s.size := by omega
   have hm3 : 0 < s.size := by omega
   rcases hq1 : K.rim c with _ | _
   ·rw [hq1] at r1 HP
    go_wp2_with fail
    go_ret
    exact ⟨ret_bool (by rw [HP.out]; rfl), ST.out.b⟩
   ·rcases hq2 : K.base d with _ | _
    all_goals
     rw [hq1] at r1
     rw [hq2] at r2
     rw [hq1, hq2] at HP
     go_wp2_with fail
     go_ret
     exact ⟨ret_bool (by rw [HP.out]; rfl), ST.out.b⟩
end Go.Proofs.YthpjffhccjlnhaaGreatDoor
namespace Go.Proofs.YthpjffhccjlnhaaGreatDoor
open Go.RowKit
attribute [local go_sem] Oper.semAt_some

def profOut (l : List Typ) (i : Int) (s : ByteArray) : Value := if askedErr l i = 0 then .tuple #[.bool (profB (askedKnd l i).kd (askedKnd l i).typ.least (askedKnd l i).typ.most (bl s)), .int .i64 0] else .tuple #[.bool false, .int .i64 (askedErr l i)]
set_option maxRecDepth 100000 in
set_option maxHeartbeats 1000000 in
theorem isProfile_any (a : Option Addr) (c : Nat) (l : List Typ) (i : Int) (s : ByteArray) (hsz : s.size ≤ 1000000) (w : World) (h : TypesAt w a l) (hs : ∀ t, t ∈ l → SmlT t) (hl : l.length ≤ 1000000) (hlc : l.length ≤ c) :
  Calls Tryz.prog 41 #[.slice a l.length c, .int .i64 i, .string s] w fun e w' => e = .returned (profOut l i s) ∧ Below w.heap.size w w' := by
 have HC := Lib.hid (askedP_any a c l i w h hs hl hlc)
 clear h hs
 go_enter Tryz.func41, Tryz.ntmps41
 go_upto_region 1 with fail
 go_wp2_with fail
 refine HC.out.mono ?_
 rintro e w1 ⟨rfl, hb1⟩
 obtain ⟨w2, hw2⟩ : ∃ w2, w1.alloc (.cells (kndCells knd0) 111) = w2 := ⟨_, rfl⟩
 have b2 : KndBox w2 w1.heap.size knd0 := by rw [← hw2]; exact Box.new _ _ _
 have hb2 : Below w1.heap.size w1 w2 := by rw [← hw2]; go_grown
 obtain ⟨w3, hst, hw3⟩ := run_store_all (P := Tryz.prog) agg_knd b2 (kndF (askedKnd l i)) (fun j _ => kndF_one _ j)
 have HB3 := Lib.hid (hb1.trans ((hw3.below hb2 (Nat.le_refl _)).mono hb1.size))
 have HL := Lib.hid (KndBox.load hw3.box)
 have HW2 := Lib.hid hw2
 have HST := Lib.hid hst
 clear hb1 hw2 b2 hb2 hst hw3 HC
 go_upto_region 2 with (simp only [zknd, HW2.out]; refine wpList_store_box rfl 111 _ _ rfl rfl rfl HST.out ?_)
 by_cases h0 : askedErr l i = 0
 ·obtain ⟨n, t, hi, ht, hk, hg, hm, hm12⟩ := asked_good h0
  have HE : Hid (profOut l i s = .tuple #[.bool (profB (askedKnd l i).kd (askedKnd l i).typ.least (askedKnd l i).typ.most (bl s)), .int .i64 0]) := Lib.hid (by unfold profOut; rw [if_pos h0])
  have HM : Hid (1 ≤ (askedKnd l i).typ.least) := Lib.hid (by rw [hk]; exact (typeB_good hg).2.1)
  clear hi ht hk hg hm hm12
  simp only [h0]
  clear h0
  go_wp2_with (refine wpList_load_box rfl 111 _ rfl rfl HL.out ?_)
  refine (has_any (askedKnd l i) s hsz HM.out w3).mono ?_
  rintro e w4 ⟨rfl, hb4⟩
  have HB4 := Lib.hid (HB3.out.trans (hb4.mono HB3.out.size))
  clear hb4
  go_wp2_with fail
  exact bodyPost_ret (results_tmp_tmp4 rfl) rfl ⟨by rw [HE.out]; rfl, HB4.out⟩
 ·have HE : Hid (profOut l i s = .tuple #[.bool false, .int .i64 (askedErr l i)]) := Lib.hid (by unfold profOut; rw [if_neg h0])
  have hne : (askedErr l i == 0) = false := by simpa using h0
  go_wp2_with fail
  exact bodyPost_ret (results_tmp_tmp4 rfl) rfl ⟨by rw [HE.out]; rfl, HB3.out⟩
end Go.Proofs.YthpjffhccjlnhaaGreatDoor
namespace Go.Proofs.YthpjffhccjlnhaaGreatDoor
open Go.RowKit
attribute [local go_sem] Oper.semAt_some

def firstK (K : Knd) : List Nat := firstW K.kd K.typ.least.toNat (K.typ.m + 1 - K.typ.least.toNat)
def firstOut (l : List Typ) (i : Int) : Value := if askedErr l i = 0 then .tuple #[.string (mkB (toS (firstK (askedKnd l i)))), .bool (!(firstK (askedKnd l i)).isEmpty), .int .i64 0] else .tuple #[.string ByteArray.empty, .bool false, .int .i64 (askedErr l i)]
theorem results_tmp3 {P : Program} {fn : Func} {t u v : Tmp} (h : fn.results = #[.tmp t, .tmp u, .tmp v]) {tmps : Array Value} {w : World} : (results fn tmps).run P w = .ok (.tuple #[tmps.getD t undef, tmps.getD u undef, tmps.getD v undef]) w := by
 simp [results, h]
theorem exact_word (K : Knd) (n : Nat) : wordP (exactK K n) n allC n 0 (fun c => (exactK K n).rim c && endsP (exactK K n) n allC n 0 c) = refWord K.kd n K.rim := (refWord_eq K.kd n n (Nat.le_refl _) K.rim).symm
theorem firstW_no {K : Kd} {lo cnt : Nat} (h : ∀ j, j < cnt → firstAt K lo j = []) : firstW K lo cnt = [] := by
 unfold firstW
 rw [List.find?_eq_none.2 fun x hx => by
  obtain ⟨j, hj, rfl⟩ := List.mem_map.1 hx
  simp [h j (by simpa using hj)]]
 rfl
theorem mk_empty (w : List Nat) : (mkB (toS w)).toList.isEmpty = w.isEmpty := by
 rw [ByteArray.toList_eq]
 cases w <;> rfl
set_option maxRecDepth 100000 in
set_option maxHeartbeats 1000000 in
theorem firstX_any (a : Option Addr) (c : Nat) (l : List Typ) (i : Int) (w : World) (h : TypesAt w a l) (hs : ∀ t, t ∈ l → SmlT t) (hl : l.length ≤ 1000000) (hlc : l.length ≤ c) :
  Calls Tryz.prog 26 #[.slice a l.length c, .int .i64 i] w fun e w' => e = .returned (firstOut l i) ∧ Below w.heap.size w w' := by
 have HC := Lib.hid (askedP_any a c l i w h hs hl hlc)
 clear h hs
 go_enter Tryz.func26, Tryz.ntmps26
 go_upto_region 1 with fail
 go_wp2_with fail
 refine HC.out.mono ?_
 rintro e w1 ⟨rfl, hb1⟩
 obtain ⟨w2, hw2⟩ : ∃ w2, w1.alloc (.cells (kndCells knd0) 111) = w2 := ⟨_, rfl⟩
 have b2 : KndBox w2 w1.heap.size knd0 := by rw [← hw2]; exact Box.new _ _ _
 have hb2 : Below w1.heap.size w1 w2 := by rw [← hw2]; go_grown
 obtain ⟨w3, hst, hw3⟩ := run_store_all (P := Tryz.prog) agg_knd b2 (kndF (askedKnd l i)) (fun j _ => kndF_one _ j)
 have HB3 := Lib.hid (hb1.trans ((hw3.below hb2 (Nat.le_refl _)).mono hb1.size))
 have HBX := Lib.hid hw3.box
 have HW2 := Lib.hid hw2
 have HST := Lib.hid hst
 clear hb1 hw2 b2 hb2 hst hw3 HC
 go_upto_region 2 with (simp only [zknd, HW2.out]; refine wpList_store_box rfl 111 _ _ rfl rfl rfl HST.out ?_)
 by_cases h0 : askedErr l i = 0
 ·obtain ⟨n, t, hi, ht, hk, hg, hm, hm12⟩ := asked_good h0
  have HE : Hid (firstOut l i = .tuple #[.string (mkB (toS (firstK (askedKnd l i)))), .bool (!(firstK (askedKnd l i)).isEmpty), .int .i64 0]) := Lib.hid (by unfold firstOut; rw [if_pos h0])
  have HM : Hid (1 ≤ (askedKnd l i).typ.least ∧ (askedKnd l i).typ.most = ((askedKnd l i).typ.m : Int) ∧ (askedKnd l i).typ.m ≤ 12) := Lib.hid (by rw [hk]; exact ⟨(typeB_good hg).2.1, hm, hm12⟩)
  clear hi ht hk hg hm hm12
  simp only [h0]
  clear h0
  generalize askedKnd l i = K at *
  obtain ⟨hm1, hm2, hm3⟩ := HM.out
  obtain ⟨lo, hlo⟩ : ∃ lo : Nat, K.typ.least = lo := ⟨K.typ.least.toNat, by omega⟩
  have c2 := KndBox.least_ HBX.out
  rw [hlo] at c2
  have HLO := Lib.hid (show firstK K = firstW K.kd lo (K.typ.m + 1 - lo) by unfold firstK; rw [hlo]; rfl)
  go_wp2_with fail
  clear c2
  go_loopw [9] (fun iv wr => ∃ j : Nat, j ≤ K.typ.m + 1 - lo ∧ iv = .int .i64 ((lo + j : Nat) : Int) ∧ (∀ j', j' < j → firstAt K.kd lo j' = []) ∧ KndBox wr w1.heap.size K ∧ Below w.heap.size w wr) (fun iv _ => K.typ.m + 1 - (intOf iv).toNat)
  case atStart => exact ⟨0, Nat.zero_le _, rfl, fun j hj => absurd hj (Nat.not_lt_zero j), HBX.out, HB3.out⟩
  case round =>
   obtain ⟨j, hj, rfl, hno, hbx, hbw⟩ := hrel
   have HNO := Lib.hid hno
   have HX := Lib.hid hbx
   have HW := Lib.hid hbw
   have c3 := KndBox.most_ hbx
   rw [hm2] at c3
   have HL := Lib.hid (KndBox.load hbx)
   clear hno hbx hbw
   by_cases hlt : lo + j ≤ K.typ.m
   ·have hle : ((lo + j : Nat) : Int) ≤ (K.typ.m : Int) := by omega
    obtain ⟨n', hn'⟩ : ∃ n', lo + j = n' := ⟨_, rfl⟩
    rw [hn'] at hle ⊢
    go_wp2_with (refine wpList_load_box rfl 111 _ rfl rfl HL.out ?_)
    clear c3
    refine (exact_any K n' wr).mono ?_
    rintro e w4 ⟨rfl, hb4⟩
    go_wp2_with fail
    refine (free_any w4).mono ?_
    rintro e w5 ⟨rfl, hb5⟩
    go_wp2_with fail
    have hwd := word_any (exactK K n') allC n' n' rfl (by omega) w5
    rw [exact_word] at hwd
    refine hwd.mono ?_
    rintro e w6 ⟨rfl, hb6⟩
    have hb7 := (hb4.trans (hb5.mono hb4.size)).trans (hb6.mono (by have := hb4.size; have := hb5.size; omega))
    have HB7 := Lib.hid hb7
    clear hb4 hb5 hb6 hb7 hwd
    have hfa : firstAt K.kd lo j = refWord K.kd n' K.rim := by unfold firstAt; rw [hn']; rfl
    have hme := mk_empty (refWord K.kd n' K.rim)
    rcases hq : (refWord K.kd n' K.rim).isEmpty with _ | _
    ·have HF : Hid (firstK K = refWord K.kd n' K.rim) := Lib.hid (by rw [HLO.out, ← hfa]; exact firstW_at (by omega) HNO.out (by rw [hfa]; intro h; rw [h] at hq; cases hq))
     rw [hq] at hme
     have HQ := Lib.hid hq
     clear hq hfa
     go_wp2_with fail
     exact bodyPost_ret (results_tmp3 rfl) rfl ⟨by rw [HE.out, HF.out, HQ.out]; rfl, HW.out.trans (HB7.out.mono HW.out.size)⟩
    ·rw [hq] at hme
     have HE0 : Hid (firstAt K.kd lo j = []) := Lib.hid (by rw [hfa]; exact List.isEmpty_iff.1 hq)
     clear hq hfa
     go_wp2_with fail
     go_roundw
     case rel =>
      refine ⟨j + 1, by omega, by subst hn'; go_num, fun j' hj' => ?_, HX.out.below' HB7.out, HW.out.trans (HB7.out.mono HW.out.size)⟩
      rcases Nat.lt_or_ge j' j with h | h
      ·exact HNO.out j' h
      ·have : j' = j := by omega
       subst this; exact HE0.out
     case measure => simp [intOf]; omega
   ·have hln : decide (((lo + j : Nat) : Int) ≤ (K.typ.m : Int)) = false := by simp; omega
    have HF : Hid (firstK K = []) := Lib.hid (by rw [HLO.out]; exact firstW_no fun j' hj' => HNO.out j' (by omega))
    go_wp2_with fail
    exact bodyPost_ret (results_tmp3 rfl) rfl ⟨by rw [HE.out, HF.out]; rfl, HW.out⟩
 ·have HE : Hid (firstOut l i = .tuple #[.string ByteArray.empty, .bool false, .int .i64 (askedErr l i)]) := Lib.hid (by unfold firstOut; rw [if_neg h0])
  have hne : (askedErr l i == 0) = false := by simpa using h0
  go_wp2_with fail
  exact bodyPost_ret (results_tmp3 rfl) rfl ⟨by rw [HE.out]; rfl, HB3.out⟩
end Go.Proofs.YthpjffhccjlnhaaGreatDoor
