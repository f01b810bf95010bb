/- ProfileLeast: for all inputs the law returns true and makes new memory alone. No condition. -/
import Derived.Test.YthpjffhccjlnhaaGreatDoorGLeastP
import Derived.Test.YthpjffhccjlnhaaGreatDoorMG15
set_option linter.unusedSimpArgs false
set_option linter.unusedVariables false
namespace Go.Proofs.YthpjffhccjlnhaaGreatDoor
open Go.RowKit
attribute [local go_sem] Oper.semAt_some

theorem complete_form (l : List Typ) (ware : ByteArray) (r : List Rng) : ∃ (i j : Int) (x : ByteArray), completeOut l ware r = .tuple #[.agg #[.int .i64 i, .int .i64 j, .string x], .bool (wantedErr l ware r == 0 && !(shiftsT l ware r).isEmpty), .int .i64 (wantedErr l ware r)] := by
 unfold completeOut
 by_cases h : wantedErr l ware r = 0
 ·rw [if_pos h, h]
  rcases shiftsT l ware r with _ | ⟨f, L⟩
  ·exact ⟨0, 0, ByteArray.empty, rfl⟩
  ·exact ⟨f.type, f.shift, mkB (toS f.word), rfl⟩
 ·rw [if_neg h]
  have : (wantedErr l ware r == 0) = false := by simpa using h
  rw [this]
  exact ⟨0, 0, ByteArray.empty, rfl⟩
theorem mod_small (which : Int) {n : Nat} (h : 0 < n) (hn : n ≤ 12) : ∃ k : Nat, wrap64 ((IntKind.u64.wrap which).tmod (n : Int)) = (k : Int) ∧ k < n := by
 have h0 : 0 ≤ IntKind.u64.wrap which := by unfold IntKind.wrap; simp [IntKind.bits, IntKind.signed]; omega
 have h1 := Int.tmod_nonneg (n : Int) h0
 have h2 := Int.tmod_lt_of_pos (IntKind.u64.wrap which) (show (0 : Int) < n by omega)
 refine ⟨((IntKind.u64.wrap which).tmod (n : Int)).toNat, ?_, by omega⟩
 have : wrap64 ((IntKind.u64.wrap which).tmod (n : Int)) = (IntKind.u64.wrap which).tmod (n : Int) := by unfold wrap64; omega
 rw [this]; omega
theorem row_pre {w : World} {a : Option Addr} {X Y : List Value} (h : Row w a (X ++ Y)) : Row w a X := fun j v hv => h j v (by rw [List.getElem?_append_left (List.getElem?_eq_some_iff.1 hv).1]; exact hv)
theorem row_suf {w : World} {g o : Nat} {X Y : List Value} (h : Row w (some ⟨g, o, none⟩) (X ++ Y)) : Row w (some ⟨g, o + X.length, none⟩) Y := fun j v hv => by
 obtain ⟨b, o', e, hc⟩ := h (X.length + j) v (by rw [List.getElem?_append_right (by omega), Nat.add_sub_cancel_left]; exact hv)
 cases e
 exact ⟨_, _, rfl, by rw [Nat.add_assoc]; exact hc⟩
theorem rngRows_app (X Y : List Rng) : rngRows (X ++ Y) = rngRows X ++ rngRows Y := by simp [rngRows]
theorem rngRows_one (L : List Rng) : ∀ u ∈ rngRows L, u.oneCell' = true := fun u hu => by
 obtain ⟨y, _, hy⟩ := List.mem_flatMap.1 hu
 simp only [rngRow, List.mem_cons, List.mem_nil_iff, or_false] at hy
 rcases hy with rfl | rfl <;> rfl
theorem rngRows_size (L : List Rng) : (rngRows L).length = L.length * 2 := by
 induction L with
 | nil => rfl
 | cons y L ih =>
  have : rngRows (y :: L) = rngRow y ++ rngRows L := rfl
  rw [this, List.length_append, ih, List.length_cons]; simp [rngRow]; omega
theorem ringsAt_app (r : List Rng) (A B : List Nat) : ringsAt r (A ++ B) = ringsAt r A ++ ringsAt r B := by simp [ringsAt]
theorem err_lt {l : List Typ} {ware : ByteArray} {r : List Rng} (h : wantedErr l ware r = 0) : r.length ≤ 12 := (ringsErr_good (wanted_good h).2.1).1

set_option maxRecDepth 100000 in
set_option maxHeartbeats 8000000 in
theorem profileLeast_any (a : Option Addr) (l : List Typ) (c : Nat) (hlc : l.length ≤ c) (ware : ByteArray) (ra : Option Addr) (r : List Rng) (rc : Nat) (hrc : r.length ≤ rc) (which : Int) (w : World) (hT : TypesAt w a l) (hR : RngsAt w ra r) :
  Calls Tryz.prog 6 #[.slice a l.length c, .string ware, .slice ra r.length rc, .int .i64 which] w fun e w' => e = .returned (.bool true) ∧ Below w.heap.size w w' := by
 have HT := Lib.hid hT
 have HR := Lib.hid hR
 have HSH := Lib.hid (short_any a c l ra rc r w hT hR)
 clear hT hR
 have htu := fun W => turned_law W
 have HTU := Lib.hid htu
 clear htu
 go_enter Tryz.func6, Tryz.ntmps6
 go_wp2_with (refine HSH.out.mono ?_)
 rintro e w' ⟨b, rfl, hok, rfl⟩
 clear HSH
 rcases b with _ | _
 ·go_wp2_with (refine (HTU.out _).mono ?_)
  rintro e w1 ⟨rfl, hb⟩
  have HB := Lib.hid hb
  clear hb
  go_wp2_with fail
  go_ret
  exact ⟨rfl, HB.out⟩
 by_cases hsz : 100 < ware.size
 ·have hszi : (100 : Int) < (ware.size : Int) := by omega
  go_wp2_with (refine (HTU.out _).mono ?_)
  rintro e w1 ⟨rfl, hb⟩
  have HB := Lib.hid hb
  clear hb
  go_wp2_with fail
  go_ret
  exact ⟨rfl, HB.out⟩
 have hszi : ¬ (100 : Int) < (ware.size : Int) := by omega
 have HA := Lib.hid ((hok rfl).ask HT.out HR.out hlc hrc)
 clear hok
 have HRU := Lib.hid (ruled_any a c l ware ra rc r w' HA.out)
 go_wp2_with (refine HRU.out.mono ?_)
 rintro e w1 ⟨fa, fc, rfl, hints, hfc, hb1⟩
 have HB1 := Lib.hid hb1
 have HA1 := Lib.hid (HA.out.below hb1)
 have HI1 := Lib.hid hints
 have HFC := Lib.hid hfc
 clear hb1 hints hfc HRU HA
 have HCO := Lib.hid (complete_any a c l ware ra rc r w1 HA1.out)
 by_cases h0 : wantedErr l ware r = 0
 rotate_left
 ·have hX : ruledX l ware r = [] := by unfold ruledX; rw [if_neg fun h => h0 h.1]
  have hIs : blanksIs l ware r = false := by unfold blanksIs; simp [h0]
  obtain ⟨fi, fj, fx, hCo⟩ := complete_form l ware r
  have hne : (wantedErr l ware r == 0) = false := by simpa using h0
  rw [hX, hIs]
  rw [hCo, hne, Bool.false_and] at HCO
  clear hX hIs hCo HI1 HFC
  go_wp2_with (refine HCO.out.mono ?_)
  rintro e w2 ⟨rfl, hb2⟩
  obtain ⟨v2, hv2⟩ : ∃ x, w2.alloc (.cells #[.int .i64 fi, .int .i64 fj, .string fx] 44) = x := ⟨_, rfl⟩
  have hb2' := HB1.out.trans (hb2.mono HB1.out.size)
  have HB2 := Lib.hid (hb2'.trans ((show Below w2.heap.size w2 v2 by rw [← hv2]; go_grown).mono hb2'.size))
  clear hb2 hb2' HCO
  go_wp2_with (refine (HTU.out _).mono ?_)
  rintro e w3 ⟨rfl, hb3⟩
  have HB3 := Lib.hid (HB2.out.trans (hb3.mono HB2.out.size))
  clear hb3 hv2
  go_wp2_with fail
  go_ret
  exact ⟨rfl, HB3.out⟩
 have hIs : blanksIs l ware r = (shiftsT l ware r).isEmpty := by unfold blanksIs; rw [h0]; rfl
 rw [hIs, h0]
 obtain ⟨fi, fj, fx, hCo⟩ := complete_form l ware r
 rw [hCo, h0] at HCO
 have h00 : ((0 : Int) == 0) = true := rfl
 rw [h00, Bool.true_and] at HCO
 clear hIs hCo
 go_wp2_with (refine HCO.out.mono ?_)
 rintro e w2 ⟨rfl, hb2⟩
 obtain ⟨v2, hv2⟩ : ∃ x, w2.alloc (.cells #[.int .i64 fi, .int .i64 fj, .string fx] 44) = x := ⟨_, rfl⟩
 have hbv : Below w1.heap.size w1 v2 := hb2.trans ((show Below w2.heap.size w2 v2 by rw [← hv2]; go_grown).mono hb2.size)
 have HB2 := Lib.hid (HB1.out.trans (hbv.mono HB1.out.size))
 have HA2 := Lib.hid (HA1.out.below hbv)
 have HI2 := Lib.hid (HI1.out.below hbv)
 clear hb2 hbv HCO HI1 HA1
 by_cases hsh : shiftsT l ware r = []
 rotate_left
 ·have hX : ruledX l ware r = [] := by unfold ruledX; rw [if_neg fun h => hsh h.2]
  have hse : (shiftsT l ware r).isEmpty = false := by simpa using hsh
  rw [hX, hse]
  clear HI2 HFC hX
  go_wp2_with (refine (HTU.out _).mono ?_)
  rintro e w3 ⟨rfl, hb3⟩
  have HB3 := Lib.hid (HB2.out.trans (hb3.mono HB2.out.size))
  clear hb3 hv2
  go_wp2_with fail
  go_ret
  exact ⟨rfl, HB3.out⟩
 have HLO := Lib.hid (least_ok h0 hsh)
 obtain ⟨A, hA⟩ : ∃ A, ruledX l ware r = A := ⟨_, rfl⟩
 rw [hsh, hA]
 rw [hA] at HI2 HLO HFC
 have h12 := err_lt h0
 have hAl : A.length ≤ 12 := by
  have h1 := HLO.out.lt
  have h2 : A.Nodup := HLO.out.asc.imp (fun h => Nat.ne_of_lt h)
  have h3 : A.Sublist (List.range r.length) := by rw [← hA]; unfold ruledX; rw [if_pos ⟨h0, hsh⟩]; exact ruled_sub _
  have := h3.length_le
  simp at this; omega
 clear hA
 have hemp : ([] : List Ft).isEmpty = true := rfl
 rw [hemp]
 go_wp2_with fail
 go_loopw [15, 16] (fun v iv wr => ∃ k : Nat, k ≤ A.length ∧ iv = .int .i64 k ∧ wr.ownsRow v2.heap.size 48 2 v k (rngRows (ringsAt r (A.take k))) ∧ Below v2.heap.size v2 wr) (fun _ iv _ => A.length - (intOf iv).toNat)
 case atStart => exact ⟨0, Nat.zero_le _, rfl, ownsRow_nil _ _ _ _, Below.refl _ _⟩
 case round =>
  obtain ⟨k, hk, rfl, ho, hb⟩ := hrel
  have HO := Lib.hid ho
  have HB := Lib.hid hb
  clear hv2
  by_cases hlt : k < A.length
  ·obtain ⟨n, hn⟩ : ∃ n, A[k]? = some n := ⟨A[k], by simp [hlt]⟩
   have hnr := HLO.out.lt n (List.mem_of_getElem? hn)
   obtain ⟨y, hy⟩ : ∃ y, r[n]? = some y := ⟨r[n], by simp [hnr]⟩
   obtain ⟨b, o, rfl, hc1⟩ := (HI2.out.below hb) k (.int .i64 (n : Int)) (by simp [intsOf, hn])
   obtain ⟨rb, ro, rfl, hyc⟩ := (HA2.out.rg.below hb) n y hy
   have HYC := Lib.hid hyc
   have HC1 := Lib.hid hc1
   have hki : (k : Int) < (A.length : Int) := by omega
   have hk0 : (0 : Int) ≤ (k : Int) := by omega
   have hni : (n : Int) < (r.length : Int) := by omega
   have hn0 : (0 : Int) ≤ (n : Int) := by omega
   have hn1 : ¬ (n : Int) < 0 := by omega
   have hn2 : ¬ (r.length : Int) ≤ (n : Int) := by omega
   have hn3 : ¬ r.length ≤ n := by omega
   have hkw : IntKind.i64.wrap ((k : Int) + 1) = (k : Int) + 1 := IntWalk.i64_in _ (by omega)
   have HNX : Hid (ringsAt r (A.take (k + 1)) = ringsAt r (A.take k) ++ [y]) := Lib.hid (by rw [List.take_add_one, hn]; exact ringsAt_snoc hy)
   have HD : Hid (∀ m, A[k - 1]? = some m → 0 < k → m < n) := Lib.hid fun m hm h0 => by
    have h1 := List.getElem?_eq_some_iff.1 hm
    have h2 := List.getElem?_eq_some_iff.1 hn
    have := List.pairwise_iff_getElem.1 HLO.out.asc (k - 1) k h1.1 h2.1 (by omega)
    rw [h1.2, h2.2] at this; exact this
   go_upto_region 15 with fail
   refine wp_region_heldB 30 [] (by kernel_rfl) (by kernel_rfl) (by kernel_rfl) (by simp) ?_
   intro S hS
   rcases Nat.eq_zero_or_pos k with h0k | h0k
   ·have HKZ := Lib.hid h0k
    have k0 : ∀ V, S V → V.cell? ⟨b, o + k, none⟩ = some (.int .i64 n) := fun V hV => below_cell (hS V hV) hc1
    have K0 := Lib.hid k0
    have HS := Lib.hid hS
    clear hS k0 hc1 ho hb hyc h0k
    simp only [List.take_succ_cons, List.take_zero, List.drop_succ_cons, List.drop_zero]
    repeat (first
     | (refine held_val (v := .bool false) rfl (by rfl) ?_ ?_; (· (intro W hW; have q0 := K0.out W hW; go_simp; done)); try (dsimp only); try simp only [Act.put, List.setIfInBounds_toArray, List.set_cons_zero, List.set_cons_succ])
     | (refine held_val (v := .bool false) rfl (by rfl) ?_ ?_; (· (intro W hW; go_simp; have hkz := HKZ.out; first | omega | simp [hkz])); try (dsimp only); try simp only [Act.put, List.setIfInBounds_toArray, List.set_cons_zero, List.set_cons_succ])
     | (refine held_not rfl (by rfl) ?_; try (dsimp only); try simp only [Act.put, List.setIfInBounds_toArray, List.set_cons_zero, List.set_cons_succ])
     | (refine held_val (v := ?_) rfl (by rfl) ?_ ?_; rotate_left; (· (intro W hW; have q0 := K0.out W hW; go_simp; try with_reducible rfl)); try (dsimp only); try simp only [Act.put, List.setIfInBounds_toArray, List.set_cons_zero, List.set_cons_succ])
     | (refine held_skip rfl (by rfl) ?_ ?_; (· (intro W hW; have q0 := K0.out W hW; go_simp; try with_reducible rfl)); try (dsimp only); try simp only [Act.put, List.setIfInBounds_toArray, List.set_cons_zero, List.set_cons_succ]))
    refine held_nil ?_
    intro τ hτ W5 hW hO
    obtain rfl := laid0 hτ
    have hb5 : Below wr.heap.size wr W5 := HS.out W5 hW
    clear hτ hO hW K0 HS
    simp only [overs, List.foldl_nil]
    have ho5 := ownsRow_keep HO.out (Keep.of_below' (K := fun _ => True) hb5) (fun _ _ => trivial)
    have hb25 : Below v2.heap.size v2 W5 := HB.out.trans (hb5.mono HB.out.size)
    have HL := Lib.hid (HYC.out.below hb5).load
    have hcw := below_cell hb5 HC1.out
    have hbs := run_bslice (P := Tryz.prog) (T := 37) Tryz.underlying37 info_rng2 (by omega) (by omega) (v := .agg (rngCells y)) (g := rngF y) rfl W5
    obtain ⟨v', U, hrun, hown, hbU, -, -⟩ := app_fn (P := Tryz.prog) (TT := 37) Tryz.underlying37 info_rng rfl (by omega) (by omega) ho5 (by omega) hb25.size (rngF y) (fun j _ => rngF_one y j)
    obtain ⟨a', c', rfl, -, -⟩ := ownsRow_own hown
    have HBS := Lib.hid hbs
    have HRUN := Lib.hid hrun
    have HREL := Lib.hid (show ∃ q : Nat, q ≤ A.length ∧ Value.int .i64 ((k : Int) + 1) = .int .i64 q ∧ U.ownsRow v2.heap.size 48 2 (.slice a' (k + 1) c') q (rngRows (ringsAt r (A.take q))) ∧ Below v2.heap.size v2 U from ⟨k + 1, by omega, rfl, by
     rw [HNX.out]
     simp only [rngRows, List.flatMap_append, List.flatMap_cons, List.flatMap_nil, List.append_nil]
     exact hown, hb25.trans hbU⟩)
    clear hbs hrun hown hbU ho5 hb25
    go_wp2_with (first
     | (refine wpList_load_box rfl 48 _ rfl rfl HL.out ?_)
     | (apply wpList_bsl (T := 37) (n := 1) (hr := HBS.out); (· rfl); (· rfl); (· (simp only [List.map_toArray, List.map_cons, List.map_nil]; rfl)))
     | (at_builtin; refine wpList_app rfl _ _ _ rfl rfl rfl HRUN.out ?_))
    exact ⟨HREL.out, by simp [intOf]; omega⟩
   ·obtain ⟨q, hq⟩ : ∃ q, k - 1 = q := ⟨_, rfl⟩
    obtain ⟨m, hm⟩ : ∃ m, A[q]? = some m := ⟨A[q]'(by omega), List.getElem?_eq_getElem _⟩
    have hmn := HD.out m (by rw [hq]; exact hm) h0k
    obtain ⟨b', o', e', hc2⟩ := (HI2.out.below hb) q (.int .i64 (m : Int)) (by simp [intsOf, hm])
    cases e'
    have hqw : IntKind.i64.wrap ((k : Int) - 1) = (q : Int) := by rw [IntWalk.i64_in _ (by omega)]; omega
    have hq0 : (0 : Int) ≤ (q : Int) := by omega
    have hqi : (q : Int) < (A.length : Int) := by omega
    have hmn1 : ¬ (n : Int) ≤ (m : Int) := by omega
    have hmn2 : ¬ n ≤ m := by omega
    have hqp : (0 : Int) < (k : Int) := by omega
    have k0 : ∀ V, S V → V.cell? ⟨b, o + k, none⟩ = some (.int .i64 n) ∧ V.cell? ⟨b, o + q, none⟩ = some (.int .i64 m) := fun V hV => ⟨below_cell (hS V hV) hc1, below_cell (hS V hV) hc2⟩
    have K0 := Lib.hid k0
    have HS := Lib.hid hS
    clear hS k0 hc1 hc2 ho hb hyc hq
    simp only [List.take_succ_cons, List.take_zero, List.drop_succ_cons, List.drop_zero]
    repeat (first
     | (refine held_val (v := .bool false) rfl (by rfl) ?_ ?_; (· (intro W hW; obtain ⟨q0, q1⟩ := K0.out W hW; go_simp; done)); try (dsimp only); try simp only [Act.put, List.setIfInBounds_toArray, List.set_cons_zero, List.set_cons_succ])
     | (refine held_val (v := .bool true) rfl (by rfl) ?_ ?_; (· (intro W hW; obtain ⟨q0, q1⟩ := K0.out W hW; go_simp; done)); try (dsimp only); try simp only [Act.put, List.setIfInBounds_toArray, List.set_cons_zero, List.set_cons_succ])
     | (refine held_not rfl (by rfl) ?_; try (dsimp only); try simp only [Act.put, List.setIfInBounds_toArray, List.set_cons_zero, List.set_cons_succ])
     | (refine held_val (v := ?_) rfl (by rfl) ?_ ?_; rotate_left; (· (intro W hW; obtain ⟨q0, q1⟩ := K0.out W hW; go_simp; try with_reducible rfl)); try (dsimp only); try simp only [Act.put, List.setIfInBounds_toArray, List.set_cons_zero, List.set_cons_succ])
     | (refine held_skip rfl (by rfl) ?_ ?_; (· (intro W hW; obtain ⟨q0, q1⟩ := K0.out W hW; go_simp; try with_reducible rfl)); try (dsimp only); try simp only [Act.put, List.setIfInBounds_toArray, List.set_cons_zero, List.set_cons_succ]))
    refine held_nil ?_
    intro τ hτ W5 hW hO
    obtain rfl := laid0 hτ
    have hb5 : Below wr.heap.size wr W5 := HS.out W5 hW
    clear hτ hO hW K0 HS
    simp only [overs, List.foldl_nil]
    have ho5 := ownsRow_keep HO.out (Keep.of_below' (K := fun _ => True) hb5) (fun _ _ => trivial)
    have hb25 : Below v2.heap.size v2 W5 := HB.out.trans (hb5.mono HB.out.size)
    have HL := Lib.hid (HYC.out.below hb5).load
    have hcw := below_cell hb5 HC1.out
    have hbs := run_bslice (P := Tryz.prog) (T := 37) Tryz.underlying37 info_rng2 (by omega) (by omega) (v := .agg (rngCells y)) (g := rngF y) rfl W5
    obtain ⟨v', U, hrun, hown, hbU, -, -⟩ := app_fn (P := Tryz.prog) (TT := 37) Tryz.underlying37 info_rng rfl (by omega) (by omega) ho5 (by omega) hb25.size (rngF y) (fun j _ => rngF_one y j)
    obtain ⟨a', c', rfl, -, -⟩ := ownsRow_own hown
    have HBS := Lib.hid hbs
    have HRUN := Lib.hid hrun
    have HREL := Lib.hid (show ∃ q : Nat, q ≤ A.length ∧ Value.int .i64 ((k : Int) + 1) = .int .i64 q ∧ U.ownsRow v2.heap.size 48 2 (.slice a' (k + 1) c') q (rngRows (ringsAt r (A.take q))) ∧ Below v2.heap.size v2 U from ⟨k + 1, by omega, rfl, by
     rw [HNX.out]
     simp only [rngRows, List.flatMap_append, List.flatMap_cons, List.flatMap_nil, List.append_nil]
     exact hown, hb25.trans hbU⟩)
    clear hbs hrun hown hbU ho5 hb25
    go_wp2_with (first
     | (refine wpList_load_box rfl 48 _ rfl rfl HL.out ?_)
     | (apply wpList_bsl (T := 37) (n := 1) (hr := HBS.out); (· rfl); (· rfl); (· (simp only [List.map_toArray, List.map_cons, List.map_nil]; rfl)))
     | (at_builtin; refine wpList_app rfl _ _ _ rfl rfl rfl HRUN.out ?_))
    exact ⟨HREL.out, by simp [intOf]; omega⟩
  ·have hkn : decide ((k : Int) < (A.length : Int)) = false := by simp; omega
   have hke : k = A.length := by omega
   subst hke
   rw [List.take_length] at ho
   obtain ⟨la, lc, rfl, hro, hrc2⟩ := ownsRow_own ho
   have hRl : (ringsAt r A).length = A.length := ringsAt_len HLO.out.lt
   have hR := rngs_of_own hro
   have hask : Ask wr a c l la lc (ringsAt r A) := ⟨HA2.out.ty.below hb, HA2.out.sm, HA2.out.tlen, HA2.out.tcap, hR, fun y hy => by
    simp only [ringsAt, List.mem_filterMap] at hy
    obtain ⟨j, _, hj⟩ := hy
    exact HA2.out.rsm y (List.mem_of_getElem? hj), by omega, by omega⟩
   have HCO := Lib.hid (complete_any a c l ware la lc (ringsAt r A) wr hask)
   obtain ⟨gi, gj, gx, hCo⟩ := complete_form l ware (ringsAt r A)
   rw [hCo, HLO.out.err A (List.Sublist.refl _), HLO.out.none_, hRl] at HCO
   clear hCo hask
   go_wp2_with (refine HCO.out.mono ?_)
   rintro e w3 ⟨rfl, hb3⟩
   have hz : ((0 : Int) == 0 && !([] : List Ft).isEmpty) = false := rfl
   rw [hz]
   have hbz := hb.trans (hb3.mono hb.size)
   have HB3 := Lib.hid (HB2.out.trans (hbz.mono HB2.out.size))
   have HA3 := Lib.hid (HA2.out.below hbz)
   have HO3 := Lib.hid (ownsRow_keep ho (Keep.of_below' (K := fun _ => True) hb3) (fun _ _ => trivial))
   have HR3 := Lib.hid (hR.below hb3)
   have hz3 : v2.heap.size ≤ w3.heap.size := hbz.size
   clear hb3 hbz HCO hR ho hro
   rcases Nat.eq_zero_or_pos A.length with h0k | h0k
   ·rw [h0k]
    go_wp2_with (refine (HTU.out _).mono ?_)
    rintro e w4 ⟨rfl, hb4⟩
    have HB4 := Lib.hid (HB3.out.trans (hb4.mono HB3.out.size))
    clear hb4
    go_wp2_with fail
    go_ret
    exact ⟨rfl, HB4.out⟩
   ·have hn0 : ¬ (A.length : Int) = 0 := by omega
    have hn1 : ((A.length : Int) == 0) = false := by simpa using hn0
    have hn2 : ¬ A.length = 0 := by omega
    go_upto_region 24 with fail
    obtain ⟨k, hkeq, hkl⟩ := mod_small which h0k (by omega)
    rw [hkeq]
    clear hkeq
    obtain ⟨g, cap, hge⟩ := Go.Joins.ownsRow_form HO3.out h0k
    cases hge
    have hg := (HO3.out.lt g rfl)
    have hcap := hrc2
    have hk0 : (0 : Int) ≤ (k : Int) := by omega
    have hki : (k : Int) ≤ (A.length : Int) := by omega
    have hki2 : (k : Int) + 1 ≤ (A.length : Int) := by omega
    have hkc : (k : Int) ≤ (lc : Int) := by omega
    have hkc2 : (k : Int) + 1 ≤ (lc : Int) := by omega
    have hkA : (A.length : Int) ≤ (lc : Int) := by omega
    have hkw : IntKind.i64.wrap ((k : Int) + 1) = (k : Int) + 1 := IntWalk.i64_in _ (by omega)
    have hk10 : (0 : Int) ≤ (k : Int) + 1 := by omega
    refine wp_region_M (fun V => Below w3.heap.size w3 V) 19 (by kernel_rfl) ?_
    have hbd : Below w3.heap.size w3 w3.drew := (Below.refl _ w3).drew
    have hSS : Below w3.heap.size w3 w3.drew := hbd
    refine anyM_take (i := 0) (v := ?_) (by kernel_rfl) rfl (by kernel_rfl) (by kernel_rfl) (by kernel_rfl) (by kernel_rfl) (fun _ _ _ h => h) (by rfl) ?_ hSS ?_
    rotate_left
    ·(intro W hW; go_simp; try with_reducible rfl)
    try (dsimp only); try simp only [Act.put, List.setIfInBounds_toArray, List.set_cons_zero, List.set_cons_succ]
    refine anyM_take (i := 1) (v := ?_) (by kernel_rfl) rfl (by kernel_rfl) (by kernel_rfl) (by kernel_rfl) (by kernel_rfl) (fun _ _ _ h => h) (by rfl) ?_ hSS ?_
    rotate_left
    ·(intro W hW; go_simp; try with_reducible rfl)
    try (dsimp only); try simp only [Act.put, List.setIfInBounds_toArray, List.set_cons_zero, List.set_cons_succ]
    refine anyM_take (i := 3) (v := ?_) (by kernel_rfl) rfl (by kernel_rfl) (by kernel_rfl) (by kernel_rfl) (by kernel_rfl) (fun _ _ _ h => h) (by rfl) ?_ hSS ?_
    rotate_left
    ·(intro W hW; go_simp; try with_reducible rfl)
    try (dsimp only); try simp only [Act.put, List.setIfInBounds_toArray, List.set_cons_zero, List.set_cons_succ]
    refine anyM_take (i := 4) (v := ?_) (by kernel_rfl) rfl (by kernel_rfl) (by kernel_rfl) (by kernel_rfl) (by kernel_rfl) (fun _ _ _ h => h) (by rfl) ?_ hSS ?_
    rotate_left
    ·(intro W hW; go_simp; try with_reducible rfl)
    try (dsimp only); try simp only [Act.put, List.setIfInBounds_toArray, List.set_cons_zero, List.set_cons_succ]
    refine anyM_take (i := 5) (v := ?_) (by kernel_rfl) rfl (by kernel_rfl) (by kernel_rfl) (by kernel_rfl) (by kernel_rfl) (fun _ _ _ h => h) (by rfl) ?_ hSS ?_
    rotate_left
    ·(intro W hW; go_simp; try with_reducible rfl)
    try (dsimp only); try simp only [Act.put, List.setIfInBounds_toArray, List.set_cons_zero, List.set_cons_succ]
    refine anyM_take (i := 7) (v := ?_) (by kernel_rfl) rfl (by kernel_rfl) (by kernel_rfl) (by kernel_rfl) (by kernel_rfl) (fun _ _ _ h => h) (by rfl) ?_ hSS ?_
    rotate_left
    ·(intro W hW; go_simp; try with_reducible rfl)
    try (dsimp only); try simp only [Act.put, List.setIfInBounds_toArray, List.set_cons_zero, List.set_cons_succ]
    refine anyM_take (i := 8) (v := ?_) (by kernel_rfl) rfl (by kernel_rfl) (by kernel_rfl) (by kernel_rfl) (by kernel_rfl) (fun _ _ _ h => h) (by rfl) ?_ hSS ?_
    rotate_left
    ·(intro W hW; go_simp; try with_reducible rfl)
    try (dsimp only); try simp only [Act.put, List.setIfInBounds_toArray, List.set_cons_zero, List.set_cons_succ]
    refine anyM_take (i := 9) (v := ?_) (by kernel_rfl) rfl (by kernel_rfl) (by kernel_rfl) (by kernel_rfl) (by kernel_rfl) (fun _ _ _ h => h) (by rfl) ?_ hSS ?_
    rotate_left
    ·(intro W hW; go_simp; try with_reducible rfl)
    try (dsimp only); try simp only [Act.put, List.setIfInBounds_toArray, List.set_cons_zero, List.set_cons_succ]
    refine anyM_take (i := 10) (v := ?_) (by kernel_rfl) rfl (by kernel_rfl) (by kernel_rfl) (by kernel_rfl) (by kernel_rfl) (fun _ _ _ h => h) (by rfl) ?_ hSS ?_
    rotate_left
    ·(intro W hW; go_simp; try with_reducible rfl)
    try (dsimp only); try simp only [Act.put, List.setIfInBounds_toArray, List.set_cons_zero, List.set_cons_succ]
    have hbs0 : (Instr.buildSlice 37 0 #[]).run Tryz.prog w3.drew = .ok (.slice (some ⟨w3.drew.heap.size, 0, none⟩) 0 0) (w3.drew.alloc (.cells #[] 48)) := by go_simp
    have hlt1 : ∀ B : List Nat, B.Sublist A → ∀ x ∈ B, x < r.length := fun B hB x hx => HLO.out.lt x (hB.subset hx)
    have hl1 : (ringsAt r (A.take k)).length = k := by rw [ringsAt_len (hlt1 _ (List.take_sublist _ _)), List.length_take]; omega
    have hl1' : (ringsAt r (A.take (k + 1))).length = k + 1 := by rw [ringsAt_len (hlt1 _ (List.take_sublist _ _)), List.length_take]; omega
    have hl2 : (ringsAt r (A.drop (k + 1))).length = A.length - (k + 1) := by rw [ringsAt_len (hlt1 _ (List.drop_sublist _ _)), List.length_drop]
    have hsubD : (dropAt A k).Sublist A := by
     have := List.Sublist.append (List.Sublist.refl (A.take k)) (List.drop_sublist_drop_left A (Nat.le_succ k))
     rwa [List.take_append_drop] at this
    have hrow3 : Row w3 (some ⟨g, 0, none⟩) (rngRows (ringsAt r A)) := fun j v hv => ⟨g, 0, rfl, by
     have hj := (List.getElem?_eq_some_iff.1 hv).1
     rw [rngRows_size, hRl] at hj
     rw [Nat.zero_add, HO3.out.cellAt j hj]; exact hv⟩
    have hrowA : Row w3 (some ⟨g, 0, none⟩) (rngRows (ringsAt r (A.take k))) := row_pre (Y := rngRows (ringsAt r (A.drop k))) (by rw [← rngRows_app, ← ringsAt_app, List.take_append_drop]; exact hrow3)
    have hrowB : Row w3 (if lc = k + 1 then some ⟨g, 0, none⟩ else some ⟨g, (k + 1) * 2, none⟩) (rngRows (ringsAt r (A.drop (k + 1)))) := by
     split
     ·have : ringsAt r (A.drop (k + 1)) = [] := List.length_eq_zero_iff.1 (by rw [hl2]; omega)
      rw [this]; exact Row.nil _ _
     ·have := row_suf (X := rngRows (ringsAt r (A.take (k + 1)))) (Y := rngRows (ringsAt r (A.drop (k + 1)))) (by rw [← rngRows_app, ← ringsAt_app, List.take_append_drop]; exact hrow3)
      rw [rngRows_size, hl1', Nat.zero_add] at this; exact this
    have hbe : Below w3.heap.size w3 (w3.drew.alloc (.cells #[] 48)) := hbd.alloc (Nat.le_refl _) _
    have hoe : (w3.drew.alloc (.cells #[] 48)).ownsRow w3.heap.size 48 2 (.slice (some ⟨w3.drew.heap.size, 0, none⟩) 0 0) 0 [] := ownsRow_empty w3.drew _ _ _ (Nat.le_refl _)
    refine anyM_run (i := 2) (v := .slice (some ⟨w3.drew.heap.size, 0, none⟩) 0 0) (w' := w3.drew.alloc (.cells #[] 48)) rfl (by kernel_rfl) (by rfl) ?_ (.inr hbe) ?_
    ·refine exec_bslice 37 _ _ rfl ?_
     simp only [List.map_toArray, List.map_nil]
     exact hbs0
    try (dsimp only); try simp only [Act.put, List.setIfInBounds_toArray, List.set_cons_zero, List.set_cons_succ]
    obtain ⟨v1, U1, hr1, ho1, hg1, -⟩ := run_append_row (P := Tryz.prog) (w3.drew.alloc (.cells #[] 48)) w3.heap.size 37 37 48 _ 2 24 Tryz.underlying37 info_rng rfl (by omega)
     _ 0 [] hoe (some ⟨g, 0, none⟩) k lc (rngRows (ringsAt r (A.take k))) (by rw [rngRows_size, hl1]) (hrowA.below hbe) (rngRows_one _) (by omega) (by omega) hbe.size
    have hb1 : Below w3.heap.size w3 U1 := hbe.grown hg1 hbe.size (fun j hj => (hoe.lt j hj).1)
    refine anyM_run (i := 6) (v := v1) (w' := U1) rfl (by kernel_rfl) (by rfl) ?_ (.inr hb1) ?_
    ·refine exec_app (v := .slice (some ⟨w3.drew.heap.size, 0, none⟩) 0 0) (u := .slice (some ⟨g, 0, none⟩) k lc) _ _ 37 rfl (by rfl) (by rfl) ?_
     exact hr1
    try (dsimp only); try simp only [Act.put, List.setIfInBounds_toArray, List.set_cons_zero, List.set_cons_succ]
    obtain ⟨v2', U2, hr2, ho2, hg2, -⟩ := run_append_row (P := Tryz.prog) U1 w3.heap.size 37 37 48 _ 2 24 Tryz.underlying37 info_rng rfl (by omega)
     _ _ _ ho1 _ (A.length - (k + 1)) (lc - (k + 1)) (rngRows (ringsAt r (A.drop (k + 1)))) (by rw [rngRows_size, hl2]) (hrowB.below hb1) (rngRows_one _) (by omega) (by omega) hb1.size
    have hb2 : Below w3.heap.size w3 U2 := hb1.grown hg2 hb1.size (fun j hj => (ho1.lt j hj).1)
    obtain ⟨pa, pc, rfl, hro2, hpc⟩ := ownsRow_own ho2
    refine anyM_run (i := 11) (v := .slice pa (0 + k + (A.length - (k + 1))) pc) (w' := U2) rfl (by kernel_rfl) (by rfl) ?_ (.inr hb2) ?_
    ·refine exec_app (v := v1) (u := .slice (if lc = k + 1 then some ⟨g, 0, none⟩ else some ⟨g, (k + 1) * 2, none⟩) (A.length - (k + 1)) (lc - (k + 1))) _ _ 37 rfl (by rfl) (by rfl) ?_
     exact hr2
    try (dsimp only); try simp only [Act.put, List.setIfInBounds_toArray, List.set_cons_zero, List.set_cons_succ]
    have hrD : rngRows (ringsAt r (dropAt A k)) = [] ++ rngRows (ringsAt r (A.take k)) ++ rngRows (ringsAt r (A.drop (k + 1))) := by
     unfold dropAt; rw [ringsAt_app, rngRows_app, List.nil_append]
    have hlD : (ringsAt r (dropAt A k)).length = 0 + k + (A.length - (k + 1)) := by unfold dropAt; rw [ringsAt_app, List.length_append, hl1, hl2]; omega
    rw [← hrD] at hro2
    have hask2 : Ask U2 a c l pa pc (ringsAt r (dropAt A k)) := ⟨HA3.out.ty.below hb2, HA3.out.sm, HA3.out.tlen, HA3.out.tcap, rngs_of_own hro2, fun y hy => by
     simp only [ringsAt, List.mem_filterMap] at hy
     obtain ⟨j, _, hj⟩ := hy
     exact HA3.out.rsm y (List.mem_of_getElem? hj), by omega, by omega⟩
    have hco2 := complete_any a c l ware pa pc (ringsAt r (dropAt A k)) U2 hask2
    obtain ⟨ui, uj, ux, hCo2⟩ := complete_form l ware (ringsAt r (dropAt A k))
    have hne2 : (shiftsT l ware (ringsAt r (dropAt A k))).isEmpty = false := by simpa using HLO.out.some_ k hkl
    rw [hCo2, HLO.out.err _ hsubD, hne2, hlD] at hco2
    refine anyM_call (i := 12) (f := 30) (args := #[.slice a l.length c, .string ware, .slice pa (0 + k + (A.length - (k + 1))) pc]) rfl (by kernel_rfl) (by rfl) ?_ hco2 ?_
    ·go_simp
    rintro e U3 ⟨rfl, hb3⟩
    have hb3' : Below w3.heap.size w3 U3 := hb2.trans (hb3.mono hb2.size)
    refine .inl ⟨_, rfl, .inr hb3', ?_⟩
    try (dsimp only); try simp only [Act.put, List.setIfInBounds_toArray, List.set_cons_zero, List.set_cons_succ]
    refine anyM_run (i := 13) (v := .tuple #[.agg #[.int .i64 ui, .int .i64 uj, .string ux], .bool ((0 : Int) == 0 && !false), .int .i64 0]) (w' := U3) rfl (by kernel_rfl) (by rfl) ?_ (.inr hb3') ?_
    ·go_simp
    try (dsimp only); try simp only [Act.put, List.setIfInBounds_toArray, List.set_cons_zero, List.set_cons_succ]
    have hSS : Below w3.heap.size w3 U3 := hb3'
    refine anyM_take (i := 14) (v := ?_) (by kernel_rfl) rfl (by kernel_rfl) (by kernel_rfl) (by kernel_rfl) (by kernel_rfl) (fun _ _ _ h => h) (by rfl) ?_ hSS ?_
    rotate_left
    ·(intro W hW; go_simp; try with_reducible rfl)
    try (dsimp only); try simp only [Act.put, List.setIfInBounds_toArray, List.set_cons_zero, List.set_cons_succ]
    refine anyM_take (i := 15) (v := ?_) (by kernel_rfl) rfl (by kernel_rfl) (by kernel_rfl) (by kernel_rfl) (by kernel_rfl) (fun _ _ _ h => h) (by rfl) ?_ hSS ?_
    rotate_left
    ·(intro W hW; go_simp; try with_reducible rfl)
    try (dsimp only); try simp only [Act.put, List.setIfInBounds_toArray, List.set_cons_zero, List.set_cons_succ]
    refine anyM_take (i := 16) (v := ?_) (by kernel_rfl) rfl (by kernel_rfl) (by kernel_rfl) (by kernel_rfl) (by kernel_rfl) (fun _ _ _ h => h) (by rfl) ?_ hSS ?_
    rotate_left
    ·(intro W hW; go_simp; try with_reducible rfl)
    try (dsimp only); try simp only [Act.put, List.setIfInBounds_toArray, List.set_cons_zero, List.set_cons_succ]
    refine anyM_run (i := 17) (v := .bool true) (w' := U3) rfl (by kernel_rfl) (by rfl) ?_ (.inr hb3') ?_
    ·go_simp
    try (dsimp only); try simp only [Act.put, List.setIfInBounds_toArray, List.set_cons_zero, List.set_cons_succ]
    refine anyM_run (i := 18) (v := .int .i64 0) (w' := U3) rfl (by kernel_rfl) (by rfl) ?_ (.inr hb3') ?_
    ·go_simp
    try (dsimp only); try simp only [Act.put, List.setIfInBounds_toArray, List.set_cons_zero, List.set_cons_succ]
    refine anyM_done (by kernel_rfl) ?_ _
    have HB5 := Lib.hid (HB3.out.trans (hb3'.mono HB3.out.size))
    go_wp2_with (refine (HTU.out _).mono ?_)
    all_goals
     rintro e w5 ⟨rfl, hb5⟩
     have HB6 := Lib.hid (HB5.out.trans (hb5.mono HB5.out.size))
     clear hb5
     go_wp2_with fail
     go_ret
     exact ⟨rfl, HB6.out⟩
end Go.Proofs.YthpjffhccjlnhaaGreatDoor
