/- The reference: Profile. A type that is as said. -/
/- The reference: IsProfile. No condition but that the word is not too long. -/
import Derived.Test.YthpjffhccjlnhaaGreatDoorMG22
import Derived.Test.YthpjffhccjlnhaaGreatDoorMG7
set_option linter.unusedSimpArgs false
set_option linter.unusedVariables false
namespace Go.Proofs.YthpjffhccjlnhaaGreatDoor
open Go.RowKit
attribute [local go_sem] Oper.semAt_some

def linkR (t : Typ) (w : List UInt8) (j : Nat) : Bool := inL (bl (aftS t (w[j]?.getD 0))) (w[j + 1]?.getD 0)
theorem profR_no {t : Typ} (ht : t.sets = true) (h1 : 1 ≤ t.least) {w : List UInt8} (h : ¬ ((t.least ≤ (w.length : Int) ∧ (w.length : Int) ≤ t.most) ∧ inL (bl t.rim) (w[0]?.getD 0) = true ∧ inL (bl t.base) (w[w.length - 1]?.getD 0) = true ∧ ∀ i, i + 1 < w.length → linkR t w i = true)) : profB t.kd t.least t.most w = false := by
 rw [Bool.eq_false_iff]
 exact fun hp => h ((profR_iff ht h1).1 hp)
set_option maxRecDepth 100000 in
set_option maxHeartbeats 2000000 in
theorem profileR_any (t : Typ) (hsm : SmlT t) (hts : t.sets = true) (h1 : 1 ≤ t.least) (hm : t.most ≤ 1000) (s : ByteArray) (hs : s.size ≤ 1000000) (w : World) :
  Calls Tryz.prog 102 #[.agg (typCells t), .string s] w fun e w' => e = .returned (.bool (profB t.kd t.least t.most (bl s))) ∧ Below w.heap.size w w' := by
 obtain ⟨w1, hw1⟩ : ∃ w1, w.alloc (.cells (typCells t) 71) = w1 := ⟨_, rfl⟩
 have b0 : TypAt w1 w.heap.size 0 t := by rw [← hw1]; exact Box.typ (Box.new _ _ _)
 have hB : Below w.heap.size w w1 := by rw [← hw1]; go_grown
 have HB := Lib.hid hB
 have HX := Lib.hid b0
 have HW := Lib.hid hw1
 have HSM := Lib.hid hsm
 have HTS := Lib.hid hts
 have H1 := Lib.hid h1
 clear b0 hB hw1 hsm hts h1
 rcases q1 : decide ((s.size : Int) < t.least) with _ | _
 rotate_left
 ·have HN := Lib.hid (profR_no (w := bl s) HTS.out H1.out fun h => by have := of_decide_eq_true q1; rw [bl_len] at h; omega)
  go_enter Tryz.func102, Tryz.ntmps102
  go_upto_region 1 with fail
  simp only [HW.out]
  refine wp_region_heldB 31 [] (by kernel_rfl) (by kernel_rfl) (by kernel_rfl) (by simp) ?_
  intro S hS
  have k0 : ∀ A, S A → A.cell? ⟨w.heap.size, 2, none⟩ = some (.int .i64 t.least) ∧ A.cell? ⟨w.heap.size, 3, none⟩ = some (.int .i64 t.most) ∧ A.cell? ⟨w.heap.size, 4, none⟩ = some (.string t.rim) ∧ A.cell? ⟨w.heap.size, 5, none⟩ = some (.string t.base) := fun A hA => by
   have f := (HX.out.below (hS A hA)).fields
   simp only [Nat.zero_add] at f
   exact ⟨f.2.2.1, f.2.2.2.1, f.2.2.2.2.1, f.2.2.2.2.2⟩
  have K0 := Lib.hid k0
  have HS := Lib.hid hS
  clear hS k0
  simp only [List.take_succ_cons, List.take_zero, List.drop_succ_cons, List.drop_zero]
  repeat (first
   | (refine held_not rfl (by rfl) ?_; try (dsimp only); try simp only [Act.put, List.setIfInBounds_toArray, List.set_cons_zero, List.set_cons_succ])
   | (refine held_val (v := ?_) rfl (by rfl) ?_ ?_; rotate_left; (· (intro W hW; obtain ⟨q0, q1, q2, q3⟩ := K0.out W hW; go_simp; try with_reducible rfl)); try (dsimp only); try simp only [Act.put, List.setIfInBounds_toArray, List.set_cons_zero, List.set_cons_succ])
   | (refine held_skip rfl (by rfl) ?_ ?_; (· (intro W hW; obtain ⟨q0, q1, q2, q3⟩ := K0.out W hW; go_simp; try with_reducible rfl)); try (dsimp only); try simp only [Act.put, List.setIfInBounds_toArray, List.set_cons_zero, List.set_cons_succ]))
  refine held_nil ?_
  intro τ hτ W2 hW hO
  obtain rfl := laid0 hτ
  have HX2 := Lib.hid (HX.out.below (HS.out W2 hW))
  have HB2 := Lib.hid (HB.out.trans ((HS.out W2 hW).mono HB.out.size))
  clear hτ hO hW K0 HS
  simp only [overs, List.foldl_nil]
  go_wp2_with fail
  go_ret
  exact ⟨ret_bool HN.out.symm, HB2.out⟩
 rcases q2 : decide (t.most < (s.size : Int)) with _ | _
 rotate_left
 ·have HN := Lib.hid (profR_no (w := bl s) HTS.out H1.out fun h => by have := of_decide_eq_true q2; rw [bl_len] at h; omega)
  go_enter Tryz.func102, Tryz.ntmps102
  go_upto_region 1 with fail
  simp only [HW.out]
  refine wp_region_heldB 31 [] (by kernel_rfl) (by kernel_rfl) (by kernel_rfl) (by simp) ?_
  intro S hS
  have k0 : ∀ A, S A → A.cell? ⟨w.heap.size, 2, none⟩ = some (.int .i64 t.least) ∧ A.cell? ⟨w.heap.size, 3, none⟩ = some (.int .i64 t.most) ∧ A.cell? ⟨w.heap.size, 4, none⟩ = some (.string t.rim) ∧ A.cell? ⟨w.heap.size, 5, none⟩ = some (.string t.base) := fun A hA => by
   have f := (HX.out.below (hS A hA)).fields
   simp only [Nat.zero_add] at f
   exact ⟨f.2.2.1, f.2.2.2.1, f.2.2.2.2.1, f.2.2.2.2.2⟩
  have K0 := Lib.hid k0
  have HS := Lib.hid hS
  clear hS k0
  simp only [List.take_succ_cons, List.take_zero, List.drop_succ_cons, List.drop_zero]
  repeat (first
   | (refine held_not rfl (by rfl) ?_; try (dsimp only); try simp only [Act.put, List.setIfInBounds_toArray, List.set_cons_zero, List.set_cons_succ])
   | (refine held_val (v := ?_) rfl (by rfl) ?_ ?_; rotate_left; (· (intro W hW; obtain ⟨q0, q1, q2, q3⟩ := K0.out W hW; go_simp; try with_reducible rfl)); try (dsimp only); try simp only [Act.put, List.setIfInBounds_toArray, List.set_cons_zero, List.set_cons_succ])
   | (refine held_skip rfl (by rfl) ?_ ?_; (· (intro W hW; obtain ⟨q0, q1, q2, q3⟩ := K0.out W hW; go_simp; try with_reducible rfl)); try (dsimp only); try simp only [Act.put, List.setIfInBounds_toArray, List.set_cons_zero, List.set_cons_succ]))
  refine held_nil ?_
  intro τ hτ W2 hW hO
  obtain rfl := laid0 hτ
  have HX2 := Lib.hid (HX.out.below (HS.out W2 hW))
  have HB2 := Lib.hid (HB.out.trans ((HS.out W2 hW).mono HB.out.size))
  clear hτ hO hW K0 HS
  simp only [overs, List.foldl_nil]
  go_wp2_with fail
  go_ret
  exact ⟨ret_bool HN.out.symm, HB2.out⟩
 have g1 : t.least ≤ (s.size : Int) := by have := of_decide_eq_false q1; omega
 have g2 : (s.size : Int) ≤ t.most := by have := of_decide_eq_false q2; omega
 have hs0 : 0 < s.size := by have := H1.out; omega
 obtain ⟨z, hz⟩ : ∃ z, s.size = z + 1 := ⟨s.size - 1, by omega⟩
 have hzl : z < s.size := by omega
 obtain ⟨x0, hx0⟩ : ∃ x, s[0] = x := ⟨_, rfl⟩
 obtain ⟨x9, hx9⟩ : ∃ x, s[z] = x := ⟨_, rfl⟩
 have b0 : (bl s)[0]? = some x0 := by rw [bl_at s hs0, hx0]
 have b9 : (bl s)[z]? = some x9 := by rw [bl_at s hzl, hx9]
 have hzi : (z : Int) < (s.size : Int) := by omega
 have hz0 : (0 : Int) ≤ (z : Int) := by omega
 have hszi : (0 : Int) < (s.size : Int) := by omega
 have hzw : IntKind.i64.wrap ((s.size : Int) - 1) = (z : Int) := by rw [IntWalk.i64_in _ (by omega)]; omega
 have hzv : (s.size : Int) - 1 = (z : Int) := by omega
 have hzu : IntKind.i64.wrap (z : Int) = (z : Int) := IntWalk.i64_in _ (by omega)
 have HI1 := Lib.hid (fun W => inR_any t.rim x0 (by have := HSM.out.rim; omega) W)
 have HI2 := Lib.hid (fun W => inR_any t.base x9 (by have := HSM.out.base; omega) W)
 have HG := Lib.hid (show t.least ≤ ((bl s).length : Int) ∧ ((bl s).length : Int) ≤ t.most by rw [bl_len]; exact ⟨g1, g2⟩)
 have B0 := Lib.hid b0
 have B9 := Lib.hid (show (bl s)[(bl s).length - 1]? = some x9 by rw [bl_len, hz, Nat.add_sub_cancel]; exact b9)
 have HZ := Lib.hid hz
 clear b0 b9 g1 g2 hz
 rcases q3 : inL (bl t.rim) x0 with _ | _
 ·have HN := Lib.hid (profR_no (w := bl s) HTS.out H1.out fun h => by have h := h.2.1; rw [B0.out] at h; rw [Option.getD_some, q3] at h; cases h)
  rw [q3] at HI1
  go_enter Tryz.func102, Tryz.ntmps102
  go_upto_region 1 with fail
  simp only [HW.out]
  refine wp_region_heldB 31 [] (by kernel_rfl) (by kernel_rfl) (by kernel_rfl) (by simp) ?_
  intro S hS
  have k0 : ∀ A, S A → A.cell? ⟨w.heap.size, 2, none⟩ = some (.int .i64 t.least) ∧ A.cell? ⟨w.heap.size, 3, none⟩ = some (.int .i64 t.most) ∧ A.cell? ⟨w.heap.size, 4, none⟩ = some (.string t.rim) ∧ A.cell? ⟨w.heap.size, 5, none⟩ = some (.string t.base) := fun A hA => by
   have f := (HX.out.below (hS A hA)).fields
   simp only [Nat.zero_add] at f
   exact ⟨f.2.2.1, f.2.2.2.1, f.2.2.2.2.1, f.2.2.2.2.2⟩
  have K0 := Lib.hid k0
  have HS := Lib.hid hS
  clear hS k0
  simp only [List.take_succ_cons, List.take_zero, List.drop_succ_cons, List.drop_zero]
  repeat (first
   | (refine held_not rfl (by rfl) ?_; try (dsimp only); try simp only [Act.put, List.setIfInBounds_toArray, List.set_cons_zero, List.set_cons_succ])
   | (refine held_val (v := ?_) rfl (by rfl) ?_ ?_; rotate_left; (· (intro W hW; obtain ⟨q0, q1, q2, q3⟩ := K0.out W hW; go_simp; try with_reducible rfl)); try (dsimp only); try simp only [Act.put, List.setIfInBounds_toArray, List.set_cons_zero, List.set_cons_succ])
   | (refine held_skip rfl (by rfl) ?_ ?_; (· (intro W hW; obtain ⟨q0, q1, q2, q3⟩ := K0.out W hW; go_simp; try with_reducible rfl)); try (dsimp only); try simp only [Act.put, List.setIfInBounds_toArray, List.set_cons_zero, List.set_cons_succ])
   | (refine held_call (v := .bool false) (f := 37) (args := #[.string t.rim, .int .u8 x0.toNat]) rfl (by rfl) ?_ ?_ ?_; (· (intro W hW; go_simp; done)); (· exact (fun W hW => (HI1.out W).mono fun e w' h => ⟨h.1, h.2 ▸ Below.refl _ _⟩)); try (dsimp only); try simp only [Act.put, List.setIfInBounds_toArray, List.set_cons_zero, List.set_cons_succ]))
  refine held_nil ?_
  intro τ hτ W2 hW hO
  obtain rfl := laid0 hτ
  have HX2 := Lib.hid (HX.out.below (HS.out W2 hW))
  have HB2 := Lib.hid (HB.out.trans ((HS.out W2 hW).mono HB.out.size))
  clear hτ hO hW K0 HS
  simp only [overs, List.foldl_nil]
  go_wp2_with fail
  go_ret
  exact ⟨ret_bool HN.out.symm, HB2.out⟩
 rcases q4 : inL (bl t.base) x9 with _ | _
 ·have HN := Lib.hid (profR_no (w := bl s) HTS.out H1.out fun h => by have h := h.2.2.1; rw [B9.out] at h; rw [Option.getD_some, q4] at h; cases h)
  rw [q3] at HI1
  rw [q4] at HI2
  go_enter Tryz.func102, Tryz.ntmps102
  go_upto_region 1 with fail
  simp only [HW.out]
  refine wp_region_heldB 31 [] (by kernel_rfl) (by kernel_rfl) (by kernel_rfl) (by simp) ?_
  intro S hS
  have k0 : ∀ A, S A → A.cell? ⟨w.heap.size, 2, none⟩ = some (.int .i64 t.least) ∧ A.cell? ⟨w.heap.size, 3, none⟩ = some (.int .i64 t.most) ∧ A.cell? ⟨w.heap.size, 4, none⟩ = some (.string t.rim) ∧ A.cell? ⟨w.heap.size, 5, none⟩ = some (.string t.base) := fun A hA => by
   have f := (HX.out.below (hS A hA)).fields
   simp only [Nat.zero_add] at f
   exact ⟨f.2.2.1, f.2.2.2.1, f.2.2.2.2.1, f.2.2.2.2.2⟩
  have K0 := Lib.hid k0
  have HS := Lib.hid hS
  clear hS k0
  simp only [List.take_succ_cons, List.take_zero, List.drop_succ_cons, List.drop_zero]
  repeat (first
   | (refine held_not rfl (by rfl) ?_; try (dsimp only); try simp only [Act.put, List.setIfInBounds_toArray, List.set_cons_zero, List.set_cons_succ])
   | (refine held_val (v := ?_) rfl (by rfl) ?_ ?_; rotate_left; (· (intro W hW; obtain ⟨q0, q1, q2, q3⟩ := K0.out W hW; go_simp; try with_reducible rfl)); try (dsimp only); try simp only [Act.put, List.setIfInBounds_toArray, List.set_cons_zero, List.set_cons_succ])
   | (refine held_skip rfl (by rfl) ?_ ?_; (· (intro W hW; obtain ⟨q0, q1, q2, q3⟩ := K0.out W hW; go_simp; try with_reducible rfl)); try (dsimp only); try simp only [Act.put, List.setIfInBounds_toArray, List.set_cons_zero, List.set_cons_succ])
   | (refine held_call (v := .bool true) (f := 37) (args := #[.string t.rim, .int .u8 x0.toNat]) rfl (by rfl) ?_ ?_ ?_; (· (intro W hW; go_simp; done)); (· exact (fun W hW => (HI1.out W).mono fun e w' h => ⟨h.1, h.2 ▸ Below.refl _ _⟩)); try (dsimp only); try simp only [Act.put, List.setIfInBounds_toArray, List.set_cons_zero, List.set_cons_succ])
   | (refine held_call (v := .bool false) (f := 37) (args := #[.string t.base, .int .u8 x9.toNat]) rfl (by rfl) ?_ ?_ ?_; (· (intro W hW; go_simp; done)); (· exact (fun W hW => (HI2.out W).mono fun e w' h => ⟨h.1, h.2 ▸ Below.refl _ _⟩)); try (dsimp only); try simp only [Act.put, List.setIfInBounds_toArray, List.set_cons_zero, List.set_cons_succ]))
  refine held_nil ?_
  intro τ hτ W2 hW hO
  obtain rfl := laid0 hτ
  have HX2 := Lib.hid (HX.out.below (HS.out W2 hW))
  have HB2 := Lib.hid (HB.out.trans ((HS.out W2 hW).mono HB.out.size))
  clear hτ hO hW K0 HS
  simp only [overs, List.foldl_nil]
  go_wp2_with fail
  go_ret
  exact ⟨ret_bool HN.out.symm, HB2.out⟩
 have HQ := Lib.hid (show inL (bl t.rim) ((bl s)[0]?.getD 0) = true ∧ inL (bl t.base) ((bl s)[(bl s).length - 1]?.getD 0) = true by rw [B0.out, B9.out]; exact ⟨q3, q4⟩)
 rw [q3] at HI1
 rw [q4] at HI2
 go_enter Tryz.func102, Tryz.ntmps102
 go_upto_region 1 with fail
 simp only [HW.out]
 refine wp_region_heldB 31 [] (by kernel_rfl) (by kernel_rfl) (by kernel_rfl) (by simp) ?_
 intro S hS
 have k0 : ∀ A, S A → A.cell? ⟨w.heap.size, 2, none⟩ = some (.int .i64 t.least) ∧ A.cell? ⟨w.heap.size, 3, none⟩ = some (.int .i64 t.most) ∧ A.cell? ⟨w.heap.size, 4, none⟩ = some (.string t.rim) ∧ A.cell? ⟨w.heap.size, 5, none⟩ = some (.string t.base) := fun A hA => by
  have f := (HX.out.below (hS A hA)).fields
  simp only [Nat.zero_add] at f
  exact ⟨f.2.2.1, f.2.2.2.1, f.2.2.2.2.1, f.2.2.2.2.2⟩
 have K0 := Lib.hid k0
 have HS := Lib.hid hS
 clear hS k0
 simp only [List.take_succ_cons, List.take_zero, List.drop_succ_cons, List.drop_zero]
 repeat (first
  | (refine held_not rfl (by rfl) ?_; try (dsimp only); try simp only [Act.put, List.setIfInBounds_toArray, List.set_cons_zero, List.set_cons_succ])
  | (refine held_val (v := ?_) rfl (by rfl) ?_ ?_; rotate_left; (· (intro W hW; obtain ⟨q0, q1, q2, q3⟩ := K0.out W hW; go_simp; try with_reducible rfl)); try (dsimp only); try simp only [Act.put, List.setIfInBounds_toArray, List.set_cons_zero, List.set_cons_succ])
  | (refine held_skip rfl (by rfl) ?_ ?_; (· (intro W hW; obtain ⟨q0, q1, q2, q3⟩ := K0.out W hW; go_simp; try with_reducible rfl)); try (dsimp only); try simp only [Act.put, List.setIfInBounds_toArray, List.set_cons_zero, List.set_cons_succ])
  | (refine held_call (v := .bool true) (f := 37) (args := #[.string t.rim, .int .u8 x0.toNat]) rfl (by rfl) ?_ ?_ ?_; (· (intro W hW; go_simp; done)); (· exact (fun W hW => (HI1.out W).mono fun e w' h => ⟨h.1, h.2 ▸ Below.refl _ _⟩)); try (dsimp only); try simp only [Act.put, List.setIfInBounds_toArray, List.set_cons_zero, List.set_cons_succ])
  | (refine held_call (v := .bool true) (f := 37) (args := #[.string t.base, .int .u8 x9.toNat]) rfl (by rfl) ?_ ?_ ?_; (· (intro W hW; go_simp; done)); (· exact (fun W hW => (HI2.out W).mono fun e w' h => ⟨h.1, h.2 ▸ Below.refl _ _⟩)); try (dsimp only); try simp only [Act.put, List.setIfInBounds_toArray, List.set_cons_zero, List.set_cons_succ]))
 refine held_nil ?_
 intro τ hτ W2 hW hO
 obtain rfl := laid0 hτ
 have HX2 := Lib.hid (HX.out.below (HS.out W2 hW))
 have HB2 := Lib.hid (HB.out.trans ((HS.out W2 hW).mono HB.out.size))
 clear hτ hO hW K0 HS
 simp only [overs, List.foldl_nil]
 clear q1 q2 q3 q4 HI1 HI2 hx0 hx9 hzi hz0 hszi hzw hzv hzu HX HB HW B0 B9 hzl
 go_wp2_with fail
 go_loopw [5] (fun iv wr => ∃ m : Nat, m + 1 ≤ s.size ∧ iv = .int .i64 ((m : Int) + 1) ∧ (∀ j, j < m → linkR t (bl s) j = true) ∧ TypAt wr w.heap.size 0 t ∧ Below w.heap.size w wr) (fun iv _ => s.size - (intOf iv).toNat)
 case atStart => exact ⟨0, by omega, rfl, fun j hj => absurd hj (Nat.not_lt_zero j), HX2.out, HB2.out⟩
 case round =>
  clear HX2 HB2 W2
  obtain ⟨m, hm1, rfl, hall, hx, hb⟩ := hrel
  have HA := Lib.hid hall
  have HX := Lib.hid hx
  have HB := Lib.hid hb
  clear hall hx hb
  by_cases hlt : m + 1 < s.size
  ·have hml : m < s.size := by omega
   obtain ⟨x, hx⟩ : ∃ x, s[m] = x := ⟨_, rfl⟩
   obtain ⟨y, hy⟩ : ∃ y, s[m + 1] = y := ⟨_, rfl⟩
   have bx : (bl s)[m]? = some x := by rw [bl_at s hml, hx]
   have by_ : (bl s)[m + 1]? = some y := by rw [bl_at s hlt, hy]
   have hki : (m : Int) + 1 < (s.size : Int) := by omega
   have hk0 : (0 : Int) ≤ (m : Int) + 1 := by omega
   have hm0 : (0 : Int) ≤ (m : Int) := by omega
   have hml2 : (m : Int) < (s.size : Int) := by omega
   have hmw : IntKind.i64.wrap (m : Int) = (m : Int) := IntWalk.i64_in _ (by omega)
   have hmw1 : IntKind.i64.wrap ((m : Int) + 1 - 1) = (m : Int) := by rw [IntWalk.i64_in _ (by omega)]; omega
   have HAF := Lib.hid (fun W => afterR_any t x W)
   have hasz : (aftS t x).size ≤ 1000000 := by
    unfold aftS
    split
    ·have := HSM.out.after (x.toNat - 97) (by omega); omega
    ·exact Nat.zero_le _
   have HIN := Lib.hid (fun W => inR_any (aftS t x) y hasz W)
   have HLK := Lib.hid (show linkR t (bl s) m = inL (bl (aftS t x)) y by unfold linkR; rw [bx, by_]; rfl)
   clear bx by_ hasz
   rcases hq : inL (bl (aftS t x)) y with _ | _
   ·rw [hq] at HIN HLK
    have HN := Lib.hid (profR_no (w := bl s) HTS.out H1.out fun h => by have := h.2.2.2 m (by rw [bl_len]; exact hlt); rw [HLK.out] at this; cases this)
    go_wp2_with fail
    refine wp_region_heldB 11 [] (by kernel_rfl) (by kernel_rfl) (by kernel_rfl) (by simp) ?_
    intro S hS
    have K0 := trivial
    have L1 := Lib.hid (fun A hA => TypAt.load (HX.out.below (hS A hA)))
    have HS := Lib.hid hS
    clear hS
    simp only [List.take_succ_cons, List.take_zero, List.drop_succ_cons, List.drop_zero]
    repeat (first
     | (refine held_load 71 _ (by rfl) rfl rfl L1.out ?_; try (dsimp only); try simp only [Act.put, List.setIfInBounds_toArray, List.set_cons_zero, List.set_cons_succ])
     | (refine held_not rfl (by rfl) ?_; try (dsimp only); try simp only [Act.put, List.setIfInBounds_toArray, List.set_cons_zero, List.set_cons_succ])
     | (refine held_val (v := ?_) rfl (by rfl) ?_ ?_; rotate_left; (· (intro W hW; go_simp; try with_reducible rfl)); try (dsimp only); try simp only [Act.put, List.setIfInBounds_toArray, List.set_cons_zero, List.set_cons_succ])
     | (refine held_skip rfl (by rfl) ?_ ?_; (· (intro W hW; go_simp; try with_reducible rfl)); try (dsimp only); try simp only [Act.put, List.setIfInBounds_toArray, List.set_cons_zero, List.set_cons_succ])
     | (refine held_call (v := .string (aftS t x)) (f := 85) (args := #[.agg (typCells t), .int .u8 x.toNat]) rfl (by rfl) ?_ ?_ ?_; (· (intro W hW; go_simp; done)); (· exact (fun W hW => HAF.out W)); try (dsimp only); try simp only [Act.put, List.setIfInBounds_toArray, List.set_cons_zero, List.set_cons_succ])
     | (refine held_call (v := .bool false) (f := 37) (args := #[.string (aftS t x), .int .u8 y.toNat]) rfl (by rfl) ?_ ?_ ?_; (· (intro W hW; go_simp; done)); (· exact (fun W hW => (HIN.out W).mono fun e w' h => ⟨h.1, h.2 ▸ Below.refl _ _⟩)); try (dsimp only); try simp only [Act.put, List.setIfInBounds_toArray, List.set_cons_zero, List.set_cons_succ]))
    refine held_nil ?_
    intro τ hτ W2 hW hO
    obtain rfl := laid0 hτ
    have HX2 := Lib.hid (HX.out.below (HS.out W2 hW))
    have HB2 := Lib.hid (HB.out.trans ((HS.out W2 hW).mono HB.out.size))
    clear hτ hO hW K0 HS
    simp only [overs, List.foldl_nil]
    go_wp2_with fail
    go_ret
    exact ⟨ret_bool HN.out.symm, HB2.out⟩
   ·rw [hq] at HIN HLK
    go_wp2_with fail
    refine wp_region_heldB 11 [] (by kernel_rfl) (by kernel_rfl) (by kernel_rfl) (by simp) ?_
    intro S hS
    have K0 := trivial
    have L1 := Lib.hid (fun A hA => TypAt.load (HX.out.below (hS A hA)))
    have HS := Lib.hid hS
    clear hS
    simp only [List.take_succ_cons, List.take_zero, List.drop_succ_cons, List.drop_zero]
    repeat (first
     | (refine held_load 71 _ (by rfl) rfl rfl L1.out ?_; try (dsimp only); try simp only [Act.put, List.setIfInBounds_toArray, List.set_cons_zero, List.set_cons_succ])
     | (refine held_not rfl (by rfl) ?_; try (dsimp only); try simp only [Act.put, List.setIfInBounds_toArray, List.set_cons_zero, List.set_cons_succ])
     | (refine held_val (v := ?_) rfl (by rfl) ?_ ?_; rotate_left; (· (intro W hW; go_simp; try with_reducible rfl)); try (dsimp only); try simp only [Act.put, List.setIfInBounds_toArray, List.set_cons_zero, List.set_cons_succ])
     | (refine held_skip rfl (by rfl) ?_ ?_; (· (intro W hW; go_simp; try with_reducible rfl)); try (dsimp only); try simp only [Act.put, List.setIfInBounds_toArray, List.set_cons_zero, List.set_cons_succ])
     | (refine held_call (v := .string (aftS t x)) (f := 85) (args := #[.agg (typCells t), .int .u8 x.toNat]) rfl (by rfl) ?_ ?_ ?_; (· (intro W hW; go_simp; done)); (· exact (fun W hW => HAF.out W)); try (dsimp only); try simp only [Act.put, List.setIfInBounds_toArray, List.set_cons_zero, List.set_cons_succ])
     | (refine held_call (v := .bool true) (f := 37) (args := #[.string (aftS t x), .int .u8 y.toNat]) rfl (by rfl) ?_ ?_ ?_; (· (intro W hW; go_simp; done)); (· exact (fun W hW => (HIN.out W).mono fun e w' h => ⟨h.1, h.2 ▸ Below.refl _ _⟩)); try (dsimp only); try simp only [Act.put, List.setIfInBounds_toArray, List.set_cons_zero, List.set_cons_succ]))
    refine held_nil ?_
    intro τ hτ W2 hW hO
    obtain rfl := laid0 hτ
    have HX2 := Lib.hid (HX.out.below (HS.out W2 hW))
    have HB2 := Lib.hid (HB.out.trans ((HS.out W2 hW).mono HB.out.size))
    clear hτ hO hW K0 HS
    simp only [overs, List.foldl_nil]
    go_wp2_with fail
    go_roundw
    case rel => exact ⟨m + 1, by omega, by go_num, all_step HA.out HLK.out, HX2.out, HB2.out⟩
    case measure => simp [intOf]; omega
  ·have hkn : decide ((m : Int) + 1 < (s.size : Int)) = false := by simp; omega
   have HY := Lib.hid (show profB t.kd t.least t.most (bl s) = true from (profR_iff HTS.out H1.out).2 ⟨HG.out, HQ.out.1, HQ.out.2, fun i hi => HA.out i (by rw [bl_len] at hi; omega)⟩)
   go_wp2_with fail
   go_ret
   exact ⟨ret_bool HY.out.symm, HB.out⟩
end Go.Proofs.YthpjffhccjlnhaaGreatDoor
namespace Go.Proofs.YthpjffhccjlnhaaGreatDoor
open Go.RowKit
attribute [local go_sem] Oper.semAt_some

theorem wpList_load_on {P : Program} {ops : Array Oper} {rest : List Oper} {o : Oper} {a : Act} {w : World} {Q : Exit → Act → World → Prop} (hw : Region.wanted o (yielded ops a.tmps) = true) (ty : TypeId) (x : Operand) (ho : o.op = .load ty x) {p v : Value} (hx : a.eval x = p)
  (hr : (Instr.loadAt ty p).run P w = .ok v w) (h : wpList P ops Q rest (a.put o.dst v) w) : wpList P ops Q (o :: rest) a w := by
 unfold wpList
 rw [if_pos hw]
 exact .inl (wp_load_box ty x ho hx hr h)
set_option maxRecDepth 100000 in
set_option maxHeartbeats 1000000 in
theorem isProfileR_any (a : Option Addr) (c : Nat) (l : List Typ) (i : Int) (s : ByteArray) (hsz : s.size ≤ 1000000) (w : World) (h : TypesAt w a l) (hs : ∀ t, t ∈ l → SmlT t) (hl : l.length ≤ 1000000) :
  Calls Tryz.prog 42 #[.slice a l.length c, .int .i64 i, .string s] w fun e w' => e = .returned (profOut l i s) ∧ Below w.heap.size w w' := by
 have HC := Lib.hid (ofR_any a c l i w h hs hl)
 have HT := Lib.hid h
 have HS := Lib.hid hs
 clear h hs
 go_enter Tryz.func42, Tryz.ntmps42
 go_wp2_with (refine HC.out.mono ?_)
 rintro e w1 ⟨rfl, hb⟩
 have HB := Lib.hid hb
 have HT1 := Lib.hid (HT.out.below hb)
 clear hb HC HT
 by_cases h0 : askedErr l i = 0
 rotate_left
 ·have hne : (askedErr l i == 0) = false := by simpa using h0
  have HE := Lib.hid (show profOut l i s = .tuple #[.bool false, .int .i64 (askedErr l i)] by unfold profOut; rw [if_neg h0])
  go_wp2_with fail
  exact bodyPost_ret (results_tmp_tmp4 rfl) rfl ⟨by rw [HE.out]; rfl, HB.out⟩
 obtain ⟨n, t, rfl, ht, hk, htb, hmo, hm12⟩ := asked_good h0
 have HE := Lib.hid (show profOut l n s = .tuple #[.bool (profB t.kd t.least t.most (bl s)), .int .i64 0] by unfold profOut; rw [if_pos h0, hk]; rfl)
 obtain ⟨hts, h1, hlm, hm⟩ := typeB_good htb
 have hni : (n : Int) < (l.length : Int) := by have := (List.getElem?_eq_some_iff.1 ht).1; omega
 have hn0 : (0 : Int) ≤ (n : Int) := by omega
 obtain ⟨b, o, rfl, hat⟩ := HT1.out n t ht
 have HL := Lib.hid hat.load
 have HP := Lib.hid (profileR_any t (HS.out t (List.mem_of_getElem? ht)) hts h1 (by omega) s hsz w1)
 simp only [h0]
 clear h0 hk htb hmo hm12 hts h1 hlm hm ht hat
 go_wp2_with (refine wpList_load_on (by rfl) 71 _ rfl rfl HL.out ?_)
 refine HP.out.mono ?_
 rintro e w2 ⟨rfl, hb⟩
 have HB2 := Lib.hid (HB.out.trans (hb.mono HB.out.size))
 clear hb HP HL
 go_wp2_with fail
 exact bodyPost_ret (results_tmp_tmp4 rfl) rfl ⟨by rw [HE.out]; rfl, HB2.out⟩
end Go.Proofs.YthpjffhccjlnhaaGreatDoor
