/- The chapter's examples, evaluated. No program. -/
/- The reference: SameWords. No condition. -/
/- The chapter's examples: turned. No condition. -/
import Derived.Test.YthpjffhccjlnhaaGreatDoorGPrint
import Derived.Test.YthpjffhccjlnhaaGreatDoorGDead
import Derived.Test.YthpjffhccjlnhaaGreatDoorGRuled
import Derived.Test.YthpjffhccjlnhaaGreatDoorMG13
import Derived.Test.YthpjffhccjlnhaaGreatDoorMG5
set_option linter.unusedSimpArgs false
set_option linter.unusedVariables false
namespace Go.Proofs.YthpjffhccjlnhaaGreatDoor
def vSrc : ByteArray := ⟨#[116, 121, 112, 101, 32, 106, 97, 114, 32, 98, 101, 108, 108, 32, 51, 32, 52, 10, 114, 105, 109, 32, 97, 98, 10, 98, 97, 115, 101, 32, 100, 10, 97, 102, 116, 101, 114, 32, 97, 32, 99, 10, 97, 102, 116, 101, 114, 32, 98, 32, 99, 101, 10, 97, 102, 116, 101, 114, 32, 99, 32, 99, 100, 10, 116, 121, 112, 101, 32, 99, 117, 112, 32, 98, 101, 108, 108, 32, 50, 32, 51, 10, 114, 105, 109, 32, 98, 10, 98, 97, 115, 101, 32, 99, 100, 10, 97, 102, 116, 101, 114, 32, 98, 32, 99, 10, 97, 102, 116, 101, 114, 32, 99, 32, 100, 10]⟩
def vSt : RdSt := match readAll 0 ⟨[], 0, 0⟩ (splitC 10 (bl vSrc)) with | .inl s => s | .inr _ => ⟨[], 0, 0⟩
def vT : List Typ := vSt.types
theorem v_read : readAll 0 ⟨[], 0, 0⟩ (splitC 10 (bl vSrc)) = .inl vSt := by kernel_rfl
theorem v_due : vSt.due = 3 := by kernel_rfl
theorem v_err : typesErr vT = 0 := by kernel_rfl
theorem v_len : vT.length = 2 := by kernel_rfl
theorem v_first : firstOut vT 0 = .tuple #[.string ⟨#[97, 99, 100]⟩, .bool true, .int .i64 0] := by kernel_rfl
theorem v_many : manyOut vT 0 = .tuple #[.int .i64 4, .int .i64 0] := by kernel_rfl
theorem v_over : overOut vT 0 1 = .tuple #[.string ⟨#[98, 99, 100]⟩, .bool true, .int .i64 0] := by kernel_rfl
theorem v_print : printOut vT = vSrc := by kernel_rfl
def vBell : ByteArray := ⟨#[98, 101, 108, 108]⟩
def vR1 : List Rng := [⟨0, ⟨#[99]⟩⟩, ⟨1, ⟨#[99]⟩⟩]
def vR2 : List Rng := [⟨0, ⟨#[97]⟩⟩, ⟨3, ⟨#[99]⟩⟩]
def vR3 : List Rng := [⟨0, ⟨#[99]⟩⟩]
theorem v_letters : lettersOut vT 0 = .tuple #[.string ⟨#[97, 98, 99, 100]⟩, .int .i64 0] := by kernel_rfl
theorem v_dead : deadOut vT 0 = .tuple #[.string ⟨#[101]⟩, .int .i64 0] := by kernel_rfl
theorem v_complete : completeOut vT vBell vR1 = .tuple #[.agg #[.int .i64 0, .int .i64 1, .string ⟨#[97, 99, 99, 100]⟩], .bool true, .int .i64 0] := by kernel_rfl
theorem v_blanks : blanksX vT vBell vR2 = [⟨0, 0, [⟨#[97]⟩, ⟨#[99]⟩, ⟨#[99, 100]⟩, ⟨#[99]⟩]⟩] := by kernel_rfl
theorem v_blanksIs : blanksIs vT vBell vR2 = true := by kernel_rfl
theorem v_wanted : wantedErr vT vBell vR2 = 0 := by kernel_rfl
theorem v_ruled : ruledX vT vBell vR2 = [1] := by kernel_rfl
theorem v_choices : choicesOut vT vBell vR3 1 = .tuple #[.string ⟨#[99, 100]⟩, .int .i64 0] := by kernel_rfl
end Go.Proofs.YthpjffhccjlnhaaGreatDoor
namespace Go.Proofs.YthpjffhccjlnhaaGreatDoor
open Go.RowKit
attribute [local go_sem] Oper.semAt_some

def sameW (A B : List ByteArray) : Bool := decide (A = B)
theorem bytes_beq (a b : ByteArray) : (a.toList == b.toList) = decide (a = b) := by
 by_cases h : a = b
 ·subst h; simp
 ·have : ¬ a.toList = b.toList := fun e => h (by
   rw [ByteArray.toList_eq, ByteArray.toList_eq] at e
   cases a; cases b; simp at e; rw [e])
  simp [h, this]
theorem sameW_len {A B : List ByteArray} (h : A.length ≠ B.length) : sameW A B = false := by
 simp only [sameW, decide_eq_false_iff_not]; intro e; exact h (by rw [e])
theorem sameW_all {A B : List ByteArray} (hl : A.length = B.length) (h : ∀ (j : Nat) x y, A[j]? = some x → B[j]? = some y → x = y) : sameW A B = true := by
 simp only [sameW, decide_eq_true_eq]
 refine List.ext_getElem? fun j => ?_
 rcases hx : A[j]? with _ | x
 ·rw [List.getElem?_eq_none_iff] at hx; rw [eq_comm, List.getElem?_eq_none_iff]; omega
 ·have : j < A.length := (List.getElem?_eq_some_iff.1 hx).1
  obtain ⟨y, hy⟩ : ∃ y, B[j]? = some y := ⟨B[j], by simp [show j < B.length by omega]⟩
  rw [hy, h j x y hx hy]
theorem sameW_no {A B : List ByteArray} {j : Nat} {x y : ByteArray} (hx : A[j]? = some x) (hy : B[j]? = some y) (h : ¬ x = y) : sameW A B = false := by
 simp only [sameW, decide_eq_false_iff_not]; intro e; rw [e, hy] at hx; cases hx; exact h rfl
set_option maxHeartbeats 1000000 in
theorem same2_any (a b : Option Addr) (c d : Nat) (A B : List ByteArray) (w : World) (hA : StrsAt w a A) (hB : StrsAt w b B) (hl : A.length ≤ 1000000) :
  Calls Tryz.prog 122 #[.slice a A.length c, .slice b B.length d] w fun e w' => e = .returned (.bool (sameW A B)) ∧ Below w.heap.size w w' := by
 have HA := Lib.hid hA
 have HB := Lib.hid hB
 clear hA hB
 obtain ⟨n, hn⟩ : ∃ n, A.length = n := ⟨_, rfl⟩
 obtain ⟨m, hm⟩ : ∃ m, B.length = m := ⟨_, rfl⟩
 rw [hn, hm]
 rw [hn] at hl
 by_cases hlen : n = m
 rotate_left
 ·have HS : Hid (sameW A B = false) := Lib.hid (sameW_len (by omega))
  have hne : ((n : Int) == (m : Int)) = false := by rw [beq_eq_false_iff_ne]; omega
  have hne2 : ((n : Int) != (m : Int)) = true := by rw [bne, hne]; rfl
  go_enter Tryz.func122, Tryz.ntmps122
  go_wp2_with fail
  go_ret
  exact ⟨by rw [HS.out]; rfl, Below.refl _ _⟩
 subst hlen
 go_enter Tryz.func122, Tryz.ntmps122
 go_wp2_with fail
 go_loopw [5] (fun i wr => ∃ k : Nat, k ≤ n ∧ i = .int .i64 k ∧ (∀ (j : Nat) x y, j < k → A[j]? = some x → B[j]? = some y → x = y) ∧ Below w.heap.size w wr) (fun i _ => n - (intOf i).toNat)
 case atStart => exact ⟨0, Nat.zero_le _, rfl, fun j _ _ hj => absurd hj (Nat.not_lt_zero j), Below.refl _ _⟩
 case round =>
  obtain ⟨k, hk, rfl, hall, hbw⟩ := hrel
  have HALL := Lib.hid hall
  have HW := Lib.hid hbw
  clear hall hbw
  by_cases hlt : k < n
  ·obtain ⟨x, hx⟩ : ∃ x, A[k]? = some x := ⟨A[k]'(by omega), List.getElem?_eq_getElem _⟩
   obtain ⟨y, hy⟩ : ∃ y, B[k]? = some y := ⟨B[k]'(by omega), List.getElem?_eq_getElem _⟩
   obtain ⟨b1, o1, rfl, hc1⟩ := (HA.out.below HW.out) k x hx
   obtain ⟨b2, o2, rfl, hc2⟩ := (HB.out.below HW.out) k y hy
   have hki : (k : Int) < (n : Int) := by omega
   have hk0 : (0 : Int) ≤ (k : Int) := by omega
   have hkw : IntKind.i64.wrap ((k : Int) + 1) = (k : Int) + 1 := IntWalk.i64_in _ (by omega)
   have HX := Lib.hid hx
   have HY := Lib.hid hy
   clear hx hy
   go_upto_region 6 with fail
   refine wp_region_heldB 9 [] (by kernel_rfl) (by kernel_rfl) (by kernel_rfl) (by simp) ?_
   intro S hS
   have k0 : ∀ V, S V → V.cell? ⟨b1, o1 + k, none⟩ = some (.string x) ∧ V.cell? ⟨b2, o2 + k, none⟩ = some (.string y) := fun V hV => ⟨below_cell (hS V hV) hc1, below_cell (hS V hV) hc2⟩
   have K0 := Lib.hid k0
   have HS := Lib.hid hS
   clear hS k0 hc1 hc2
   simp only [List.take_succ_cons, List.take_zero, List.drop_succ_cons, List.drop_zero]
   repeat (first
    | (refine held_not rfl (by rfl) ?_; try (dsimp only); try simp only [Act.put, List.setIfInBounds_toArray, List.set_cons_zero, List.set_cons_succ])
    | (refine held_val (v := ?_) rfl (by rfl) ?_ ?_; rotate_left; (· (intro W hW; obtain ⟨q0, q1⟩ := K0.out W hW; go_simp; try with_reducible rfl)); try (dsimp only); try simp only [Act.put, List.setIfInBounds_toArray, List.set_cons_zero, List.set_cons_succ])
    | (refine held_skip rfl (by rfl) ?_ ?_; (· (intro W hW; obtain ⟨q0, q1⟩ := K0.out W hW; go_simp; try with_reducible rfl)); try (dsimp only); try simp only [Act.put, List.setIfInBounds_toArray, List.set_cons_zero, List.set_cons_succ]))
   refine held_nil ?_
   intro τ hτ W2 hW hO
   obtain rfl := laid0 hτ
   have HB2 := Lib.hid (HW.out.trans ((HS.out W2 hW).mono HW.out.size))
   clear hτ hO hW K0 HS
   simp only [overs, List.foldl_nil]
   by_cases hxy : x = y
   ·have e1 : (x.toList == y.toList) = true := by rw [bytes_beq]; simpa using hxy
    have HXY := Lib.hid hxy
    rw [e1, Bool.not_true]
    go_wp2_with fail
    refine ⟨⟨k + 1, by omega, rfl, fun j u v hj hu hv => ?_, HB2.out⟩, by simp [intOf]; omega⟩
    rcases Nat.lt_or_ge j k with h1 | h1
    ·exact HALL.out j u v h1 hu hv
    ·have : j = k := by omega
     subst this
     rw [HX.out] at hu; cases hu
     rw [HY.out] at hv; cases hv
     exact HXY.out
   ·have e1 : (x.toList == y.toList) = false := by rw [bytes_beq]; simpa using hxy
    have HN := Lib.hid (sameW_no HX.out HY.out hxy)
    rw [e1, Bool.not_false]
    go_wp2_with fail
    go_ret
    exact ⟨by rw [HN.out]; rfl, HB2.out⟩
  ·have hkn : decide ((k : Int) < (n : Int)) = false := by simp; omega
   have HS := Lib.hid (sameW_all (hn.trans hm.symm) fun j x y hx hy => HALL.out j x y (by have := (List.getElem?_eq_some_iff.1 hx).1; omega) hx hy)
   go_wp2_with fail
   go_ret
   exact ⟨by rw [HS.out]; rfl, HW.out⟩
theorem sameWords_any (a b : Option Addr) (c d : Nat) (A B : List ByteArray) (w : World) (hA : StrsAt w a A) (hB : StrsAt w b B) (hl : A.length ≤ 1000000) :
  Calls Tryz.prog 64 #[.slice a A.length c, .slice b B.length d] w fun e w' => e = .returned (.bool (sameW A B)) ∧ Below w.heap.size w w' := by
 have HC := Lib.hid (same2_any a b c d A B w hA hB hl)
 clear hA hB
 go_enter Tryz.func64, Tryz.ntmps64
 go_wp2_with fail
 refine HC.out.mono ?_
 rintro e w2 ⟨rfl, hb⟩
 have HB := Lib.hid hb
 clear hb HC
 go_wp2_with fail
 go_ret
 exact ⟨rfl, HB.out⟩
end Go.Proofs.YthpjffhccjlnhaaGreatDoor
namespace Go.Proofs.YthpjffhccjlnhaaGreatDoor
open Go.RowKit
attribute [local go_sem] Oper.semAt_some

def rngsV (l : List Rng) : List Value := l.flatMap fun y => [.int .i64 y.at_, .string y.set]
theorem rngsV_at : ∀ (l : List Rng) (k : Nat) (y : Rng), l[k]? = some y → ∀ j, j < 2 → (rngsV l)[k * 2 + j]? = some (rngF y j)
 | [], k, y, h, _, _ => by simp at h
 | x :: l, 0, y, h, j, hj => by
  simp at h; subst h
  rcases j with _ | _ | j
  ·rfl
  ·rfl
  ·omega
 | x :: l, k + 1, y, h, j, hj => by
  have := rngsV_at l k y (by simpa using h) j hj
  have e : rngsV (x :: l) = [.int .i64 x.at_, .string x.set] ++ rngsV l := rfl
  rw [e, List.getElem?_append_right (by simp; omega), List.length_cons, List.length_cons, List.length_nil, show (k + 1) * 2 + j - (0 + 1 + 1) = k * 2 + j by omega]
  exact this
theorem rngs_box {W : World} {b : Nat} {l : List Rng} {t : TypeId} (h : Box W b (rngsV l).toArray t) : RngsAt W (some ⟨b, 0, none⟩) l := fun k y hy =>
 ⟨b, 0, rfl, fun j hj => by rw [h.cell, List.getElem?_toArray, Nat.zero_add]; exact rngsV_at l k y hy j hj⟩
/-- what stands while the examples are asked -/
structure TuSt (a : Option Addr) (c : Nat) (w W : World) : Prop where
 ty : TypesAt W a vT
 bel : Below w.heap.size w W
theorem TuSt.below {a : Option Addr} {c : Nat} {w W W' : World} (h : TuSt a c w W) (hb : Below W.heap.size W W') : TuSt a c w W' := ⟨h.ty.below hb, h.bel.trans (hb.mono h.bel.size)⟩
theorem v_sml : ∀ t, t ∈ vT → SmlT t := types_sml v_err
theorem TuSt.ask {a : Option Addr} {c : Nat} {w W : World} (h : TuSt a c w W) (hc : 2 ≤ c) {b : Nat} {r : List Rng} {t : TypeId} (hr : Box W b (rngsV r).toArray t) (hs : ∀ y, y ∈ r → y.set.size ≤ 1000) (hl : r.length ≤ 1000) : Ask W a c vT (some ⟨b, 0, none⟩) r.length r :=
 ⟨h.ty, v_sml, by rw [v_len]; omega, by rw [v_len]; exact hc, rngs_box hr, hs, by omega, Nat.le_refl _⟩
set_option maxRecDepth 100000 in
set_option maxHeartbeats 8000000 in
theorem turned_any (w : World) : Calls Tryz.prog 18 #[] w fun e w' => e = .returned (.bool true) ∧ Below w.heap.size w w' := by
 go_enter Tryz.func18, Tryz.ntmps18
 go_wp2_with fail
 refine (parse_good vSrc (by decide) vSt v_read (.inr v_due) v_err w).mono ?_
 rintro e w1 ⟨a, c, rfl, hT, hc, hb1⟩
 have hc2 : 2 ≤ c := hc
 have T1 := Lib.hid (show TuSt a c w w1 from ⟨hT, hb1⟩)
 have hpo : parseOk vSt.types a c = .tuple #[.slice a 2 c, .agg #[.int .i64 0, .int .i64 0]] := rfl
 rw [hpo]
 clear hT hb1 hpo hc
 go_wp2_with fail
 obtain ⟨v1, hv1⟩ : ∃ x, w1.alloc (.cells #[.int .i64 0, .int .i64 0] 27) = x := ⟨_, rfl⟩
 rw [hv1]
 have T2 := Lib.hid (T1.out.below (W' := v1) (by rw [← hv1]; go_grown))
 clear hv1
 have hk := firstX_any a c vT 0 v1 T2.out.ty v_sml (by rw [v_len]; omega) (by rw [v_len]; exact hc2)
 rw [v_len, v_first] at hk
 refine hk.mono ?_
 rintro e v2 ⟨rfl, hb⟩
 have T3 := Lib.hid (T2.out.below hb)
 clear hb hk
 go_wp2_with fail
 have hk := manyX_any a c vT 0 v2 T3.out.ty v_sml (by rw [v_len]; omega) (by rw [v_len]; exact hc2)
 rw [v_len, v_many] at hk
 refine hk.mono ?_
 rintro e v3 ⟨rfl, hb⟩
 have T4 := Lib.hid (T3.out.below hb)
 clear hb hk
 go_wp2_with fail
 have hk := lettersX_any a c vT 0 v3 T4.out.ty v_sml (by rw [v_len]; omega) (by rw [v_len]; exact hc2)
 rw [v_len, v_letters] at hk
 refine hk.mono ?_
 rintro e v4 ⟨rfl, hb⟩
 have T5 := Lib.hid (T4.out.below hb)
 clear hb hk
 go_wp2_with fail
 have hk := deadX_any a c vT 0 v4 T5.out.ty v_sml (by rw [v_len]; omega) (by rw [v_len]; exact hc2)
 rw [v_len, v_dead] at hk
 refine hk.mono ?_
 rintro e v5 ⟨rfl, hb⟩
 have T6 := Lib.hid (T5.out.below hb)
 clear hb hk
 go_wp2_with fail
 have hk := overX_any a c vT 0 1 v5 T6.out.ty v_sml (by rw [v_len]; omega) (by rw [v_len]; exact hc2)
 rw [v_len, v_over] at hk
 refine hk.mono ?_
 rintro e v6 ⟨rfl, hb⟩
 have T7 := Lib.hid (T6.out.below hb)
 clear hb hk
 go_wp2_with fail
 obtain ⟨v7, hv7⟩ : ∃ x, v6.alloc (.cells #[.int .i64 0, .string ⟨#[99]⟩, .int .i64 1, .string ⟨#[99]⟩] 48) = x := ⟨_, rfl⟩
 have T8 := Lib.hid (T7.out.below (W' := v7) (by rw [← hv7]; go_grown))
 have hk := complete_any a c vT vBell (some ⟨v6.heap.size, 0, none⟩) 2 vR1 v7 (T8.out.ask hc2 (b := v6.heap.size) (r := vR1) (t := 48) (by rw [← hv7]; exact Box.new _ _ _) (by decide) (by decide))
 rw [hv7]
 clear hv7
 rw [v_len, v_complete] at hk
 refine hk.mono ?_
 rintro e v8 ⟨rfl, hb⟩
 have T9 := Lib.hid (T8.out.below hb)
 clear hb hk
 go_wp2_with fail
 obtain ⟨v9, hv9⟩ : ∃ x, (v8.alloc (.cells #[.int .i64 0, .int .i64 1, .string ⟨#[97, 99, 99, 100]⟩] 44)).alloc (.cells #[.int .i64 0, .string ⟨#[97]⟩, .int .i64 3, .string ⟨#[99]⟩] 48) = x := ⟨_, rfl⟩
 have T10 := Lib.hid (T9.out.below (W' := v9) (by rw [← hv9]; go_grown))
 have FB : Box v9 v8.heap.size #[.int .i64 0, .int .i64 1, .string ⟨#[97, 99, 99, 100]⟩] 44 := by rw [← hv9]; exact (Box.new _ _ _).alloc _
 have RB : Box v9 (v8.heap.size + 1) (rngsV vR2).toArray 48 := by rw [← hv9]; exact Box.new' (by simp)
 have hk := blanks_any a c vT vBell (some ⟨v8.heap.size + 1, 0, none⟩) 2 vR2 v9 (T10.out.ask hc2 RB (by decide) (by decide))
 rw [hv9]
 clear hv9
 rw [v_len] at hk
 refine hk.mono ?_
 rintro e v10 ⟨fa, fc, us, rfl, hro, hrows, hfc, hb⟩
 rw [v_blanks] at hrows hfc ⊢
 rw [v_blanksIs, v_wanted]
 obtain ⟨u, rfl⟩ : ∃ u, us = [u] := List.length_eq_one_iff.1 hrows.1
 obtain ⟨sa, sc, rfl, hsc, hsr, -⟩ := hrows.2 0 _ u rfl rfl
 obtain ⟨fb, fo, rfl, -, hc3, -⟩ := hro 2 _ rfl
 have hS0 : StrsAt v10 sa [⟨#[97]⟩, ⟨#[99]⟩, ⟨#[99, 100]⟩, ⟨#[99]⟩] := fun k x hx => by
  obtain ⟨b1, o1, h1, -, h2, -⟩ := hsr k (.string x) (by rw [List.getElem?_map, hx]; rfl)
  exact ⟨b1, o1, h1, h2⟩
 have T11 := Lib.hid (T10.out.below hb)
 have FB2 := FB.below' hb
 have RB2 := RB.below' hb
 clear FB RB hb hk hrows hsr hro
 go_wp2_with fail
 have hk := ruled_any a c vT vBell (some ⟨v8.heap.size + 1, 0, none⟩) 2 vR2 v10 (T11.out.ask hc2 RB2 (by decide) (by decide))
 rw [v_len] at hk
 refine hk.mono ?_
 rintro e v11 ⟨ga, gc, rfl, hro, hgc, hb⟩
 rw [v_ruled] at hro hgc ⊢
 rw [v_blanksIs, v_wanted]
 obtain ⟨gb, go, rfl, hc4⟩ := hro 0 (.int .i64 1) rfl
 have T12 := Lib.hid (T11.out.below hb)
 have FB3 := FB2.below' hb
 have hc5 := below_cell hb hc3
 have hS1 := hS0.below hb
 clear FB2 RB2 hb hk hro hc3 hS0
 go_wp2_with fail
 obtain ⟨v12, hv12⟩ : ∃ x, v11.alloc (.cells #[.int .i64 0, .string ⟨#[99]⟩] 48) = x := ⟨_, rfl⟩
 have hb12 : Below v11.heap.size v11 v12 := by rw [← hv12]; go_grown
 have T13 := Lib.hid (T12.out.below hb12)
 have hk := choices_any a c vT vBell (some ⟨v11.heap.size, 0, none⟩) 1 vR3 1 v12 (T13.out.ask hc2 (b := v11.heap.size) (r := vR3) (t := 48) (by rw [← hv12]; exact Box.new _ _ _) (by decide) (by decide))
 rw [hv12]
 clear hv12
 rw [v_len, v_choices] at hk
 refine hk.mono ?_
 rintro e v13 ⟨rfl, hb⟩
 have T14 := Lib.hid (T13.out.below hb)
 have hc6 := below_cell hb (below_cell hb12 hc5)
 have hc7 := below_cell hb (below_cell hb12 hc4)
 have hS2 := (hS1.below hb12).below hb
 have FB4 := (FB3.below' hb12).below' hb
 obtain ⟨r1, r2⟩ := FB4.rules
 clear hb hk hc5 hc4 hS1 FB3 FB4 hb12
 go_wp2_with fail
 obtain ⟨v14, hv14⟩ : ∃ x, v13.alloc (.cells #[.string ⟨#[97]⟩, .string ⟨#[99]⟩, .string ⟨#[99, 100]⟩, .string ⟨#[99]⟩] 9) = x := ⟨_, rfl⟩
 have hb14 : Below v13.heap.size v13 v14 := by rw [← hv14]; go_grown
 have T15 := Lib.hid (T14.out.below hb14)
 have hS3 := hS2.below hb14
 have hS4 : StrsAt v14 (some ⟨v13.heap.size, 0, none⟩) [⟨#[97]⟩, ⟨#[99]⟩, ⟨#[99, 100]⟩, ⟨#[99]⟩] := fun k x hx => ⟨_, _, rfl, by
  rw [← hv14, (Box.new v13 _ _).cell, Nat.zero_add]
  match k, hx with
  | 0, hx => cases hx; rfl
  | 1, hx => cases hx; rfl
  | 2, hx => cases hx; rfl
  | 3, hx => cases hx; rfl⟩
 have hk := sameWords_any sa (some ⟨v13.heap.size, 0, none⟩) sc 4 _ _ v14 hS3 hS4 (by decide)
 rw [hv14]
 have hc8 := below_cell hb14 hc7
 clear hv14 hb14 hS2 hS3 hS4 hc7 hc6 r1 r2
 refine hk.mono ?_
 rintro e v15 ⟨rfl, hb⟩
 have hsw : sameW [⟨#[97]⟩, ⟨#[99]⟩, ⟨#[99, 100]⟩, ⟨#[99]⟩] [⟨#[97]⟩, ⟨#[99]⟩, ⟨#[99, 100]⟩, ⟨#[99]⟩] = true := by simp [sameW]
 rw [hsw]
 have T16 := Lib.hid (T15.out.below hb)
 have hc9 : v15.cell? ⟨gb, go, none⟩ = some (.int .i64 1) := below_cell hb hc8
 clear hk hb hc8 hsw
 have hk := print_any a c vT v15 T16.out.ty v_sml (by rw [v_len]; omega) (by rw [v_len]; exact hc2)
 rw [v_len, v_print] at hk
 have HK := Lib.hid hk
 clear hk
 go_wp2_with fail
 refine HK.out.mono ?_
 rintro e v16 ⟨rfl, hb⟩
 have HB := Lib.hid (T16.out.below hb).bel
 clear hb
 go_wp2_with fail
 go_ret
 refine ⟨?_, HB.out⟩
 simp only [ByteArray.toList_eq]
 kernel_rfl
end Go.Proofs.YthpjffhccjlnhaaGreatDoor
