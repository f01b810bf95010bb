/- The reference: Profile. A type that is as said. -/
/- The reference: CheckFit. No condition. -/
import Derived.Test.YthpjffhccjlnhaaGreatDoorMG22
set_option linter.unusedSimpArgs false
set_option linter.unusedVariables false
namespace Go.Proofs.YthpjffhccjlnhaaGreatDoor
open Go.RowKit
attribute [local go_sem] Oper.semAt_some

def linkR (t : Typ) (w : List UInt8) (j : Nat) : Bool := inL (bl (aftS t (w[j]?.getD 0))) (w[j + 1]?.getD 0)
theorem profR_no {t : Typ} (ht : t.sets = true) (h1 : 1 ≤ t.least) {w : List UInt8} (h : ¬ ((t.least ≤ (w.length : Int) ∧ (w.length : Int) ≤ t.most) ∧ inL (bl t.rim) (w[0]?.getD 0) = true ∧ inL (bl t.base) (w[w.length - 1]?.getD 0) = true ∧ ∀ i, i + 1 < w.length → linkR t w i = true)) : profB t.kd t.least t.most w = false := by
 rw [Bool.eq_false_iff]
 exact fun hp => h ((profR_iff ht h1).1 hp)
set_option maxRecDepth 100000 in
set_option maxHeartbeats 2000000 in
theorem profileR_any (t : Typ) (hsm : SmlT t) (hts : t.sets = true) (h1 : 1 ≤ t.least) (hm : t.most ≤ 1000) (s : ByteArray) (hs : s.size ≤ 1000000) (w : World) :
  Calls Tryz.prog 102 #[.agg (typCells t), .string s] w fun e w' => e = .returned (.bool (profB t.kd t.least t.most (bl s))) ∧ Below w.heap.size w w' := by
 obtain ⟨w1, hw1⟩ : ∃ w1, w.alloc (.cells (typCells t) 71) = w1 := ⟨_, rfl⟩
 have b0 : TypAt w1 w.heap.size 0 t := by rw [← hw1]; exact Box.typ (Box.new _ _ _)
 have hB : Below w.heap.size w w1 := by rw [← hw1]; go_grown
 have HB := Lib.hid hB
 have HX := Lib.hid b0
 have HW := Lib.hid hw1
 have HSM := Lib.hid hsm
 have HTS := Lib.hid hts
 have H1 := Lib.hid h1
 clear b0 hB hw1 hsm hts h1
 rcases q1 : decide ((s.size : Int) < t.least) with _ | _
 rotate_left
 ·have HN := Lib.hid (profR_no (w := bl s) HTS.out H1.out fun h => by have := of_decide_eq_true q1; rw [bl_len] at h; omega)
  go_enter Tryz.func102, Tryz.ntmps102
  go_upto_region 1 with fail
  simp only [HW.out]
  refine wp_region_heldB 31 [] (by kernel_rfl) (by kernel_rfl) (by kernel_rfl) (by simp) ?_
  intro S hS
  have k0 : ∀ A, S A → A.cell? ⟨w.heap.size, 2, none⟩ = some (.int .i64 t.least) ∧ A.cell? ⟨w.heap.size, 3, none⟩ = some (.int .i64 t.most) ∧ A.cell? ⟨w.heap.size, 4, none⟩ = some (.string t.rim) ∧ A.cell? ⟨w.heap.size, 5, none⟩ = some (.string t.base) := fun A hA => by
   have f := (HX.out.below (hS A hA)).fields
   simp only [Nat.zero_add] at f
   exact ⟨f.2.2.1, f.2.2.2.1, f.2.2.2.2.1, f.2.2.2.2.2⟩
  have K0 := Lib.hid k0
  have HS := Lib.hid hS
  clear hS k0
  simp only [List.take_succ_cons, List.take_zero, List.drop_succ_cons, List.drop_zero]
  repeat (first
   | (refine held_not rfl (by rfl) ?_; try (dsimp only); try simp only [Act.put, List.setIfInBounds_toArray, List.set_cons_zero, List.set_cons_succ])
   | (refine held_val (v := ?_) rfl (by rfl) ?_ ?_; rotate_left; (· (intro W hW; obtain ⟨q0, q1, q2, q3⟩ := K0.out W hW; go_simp; try with_reducible rfl)); try (dsimp only); try simp only [Act.put, List.setIfInBounds_toArray, List.set_cons_zero, List.set_cons_succ])
   | (refine held_skip rfl (by rfl) ?_ ?_; (· (intro W hW; obtain ⟨q0, q1, q2, q3⟩ := K0.out W hW; go_simp; try with_reducible rfl)); try (dsimp only); try simp only [Act.put, List.setIfInBounds_toArray, List.set_cons_zero, List.set_cons_succ]))
  refine held_nil ?_
  intro τ hτ W2 hW hO
  obtain rfl := laid0 hτ
  have HX2 := Lib.hid (HX.out.below (HS.out W2 hW))
  have HB2 := Lib.hid (HB.out.trans ((HS.out W2 hW).mono HB.out.size))
  clear hτ hO hW K0 HS
  simp only [overs, List.foldl_nil]
  go_wp2_with fail
  go_ret
  exact ⟨ret_bool HN.out.symm, HB2.out⟩
 rcases q2 : decide (t.most < (s.size : Int)) with _ | _
 rotate_left
 ·have HN := Lib.hid (profR_no (w := bl s) HTS.out H1.out fun h => by have := of_decide_eq_true q2; rw [bl_len] at h; omega)
  go_enter Tryz.func102, Tryz.ntmps102
  go_upto_region 1 with fail
  simp only [HW.out]
  refine wp_region_heldB 31 [] (by kernel_rfl) (by kernel_rfl) (by kernel_rfl) (by simp) ?_
  intro S hS
  have k0 : ∀ A, S A → A.cell? ⟨w.heap.size, 2, none⟩ = some (.int .i64 t.least) ∧ A.cell? ⟨w.heap.size, 3, none⟩ = some (.int .i64 t.most) ∧ A.cell? ⟨w.heap.size, 4, none⟩ = some (.string t.rim) ∧ A.cell? ⟨w.heap.size, 5, none⟩ = some (.string t.base) := fun A hA => by
   have f := (HX.out.below (hS A hA)).fields
   simp only [Nat.zero_add] at f
   exact ⟨f.2.2.1, f.2.2.2.1, f.2.2.2.2.1, f.2.2.2.2.2⟩
  have K0 := Lib.hid k0
  have HS := Lib.hid hS
  clear hS k0
  simp only [List.take_succ_cons, List.take_zero, List.drop_succ_cons, List.drop_zero]
  repeat (first
   | (refine held_not rfl (by rfl) ?_; try (dsimp only); try simp only [Act.put, List.setIfInBounds_toArray, List.set_cons_zero, List.set_cons_succ])
   | (refine held_val (v := ?_) rfl (by rfl) ?_ ?_; rotate_left; (· (intro W hW; obtain ⟨q0, q1, q2, q3⟩ := K0.out W hW; go_simp; try with_reducible rfl)); try (dsimp only); try simp only [Act.put, List.setIfInBounds_toArray, List.set_cons_zero, List.set_cons_succ])
   | (refine held_skip rfl (by rfl) ?_ ?_; (· (intro W hW; obtain ⟨q0, q1, q2, q3⟩ := K0.out W hW; go_simp; try with_reducible rfl)); try (dsimp only); try simp only [Act.put, List.setIfInBounds_toArray, List.set_cons_zero, List.set_cons_succ]))
  refine held_nil ?_
  intro τ hτ W2 hW hO
  obtain rfl := laid0 hτ
  have HX2 := Lib.hid (HX.out.below (HS.out W2 hW))
  have HB2 := Lib.hid (HB.out.trans ((HS.out W2 hW).mono HB.out.size))
  clear hτ hO hW K0 HS
  simp only [overs, List.foldl_nil]
  go_wp2_with fail
  go_ret
  exact ⟨ret_bool HN.out.symm, HB2.out⟩
 have g1 : t.least ≤ (s.size : Int) := by have := of_decide_eq_false q1; omega
 have g2 : (s.size : Int) ≤ t.most := by have := of_decide_eq_false q2; omega
 have hs0 : 0 < s.size := by have := H1.out; omega
 obtain ⟨z, hz⟩ : ∃ z, s.size = z + 1 := ⟨s.size - 1, by omega⟩
 have hzl : z < s.size := by omega
 obtain ⟨x0, hx0⟩ : ∃ x, s[0] = x := ⟨_, rfl⟩
 obtain ⟨x9, hx9⟩ : ∃ x, s[z] = x := ⟨_, rfl⟩
 have b0 : (bl s)[0]? = some x0 := by rw [bl_at s hs0, hx0]
 have b9 : (bl s)[z]? = some x9 := by rw [bl_at s hzl, hx9]
 have hzi : (z : Int) < (s.size : Int) := by omega
 have hz0 : (0 : Int) ≤ (z : Int) := by omega
 have hszi : (0 : Int) < (s.size : Int) := by omega
 have hzw : IntKind.i64.wrap ((s.size : Int) - 1) = (z : Int) := by rw [IntWalk.i64_in _ (by omega)]; omega
 have hzv : (s.size : Int) - 1 = (z : Int) := by omega
 have hzu : IntKind.i64.wrap (z : Int) = (z : Int) := IntWalk.i64_in _ (by omega)
 have HI1 := Lib.hid (fun W => inR_any t.rim x0 (by have := HSM.out.rim; omega) W)
 have HI2 := Lib.hid (fun W => inR_any t.base x9 (by have := HSM.out.base; omega) W)
 have HG := Lib.hid (show t.least ≤ ((bl s).length : Int) ∧ ((bl s).length : Int) ≤ t.most by rw [bl_len]; exact ⟨g1, g2⟩)
 have B0 := Lib.hid b0
 have B9 := Lib.hid (show (bl s)[(bl s).length - 1]? = some x9 by rw [bl_len, hz, Nat.add_sub_cancel]; exact b9)
 have HZ := Lib.hid hz
 clear b0 b9 g1 g2 hz
 rcases q3 : inL (bl t.rim) x0 with _ | _
 ·have HN := Lib.hid (profR_no (w := bl s) HTS.out H1.out fun h => by have h := h.2.1; rw [B0.out] at h; rw [Option.getD_some, q3] at h; cases h)
  rw [q3] at HI1
  go_enter Tryz.func102, Tryz.ntmps102
  go_upto_region 1 with fail
  simp only [HW.out]
  refine wp_region_heldB 31 [] (by kernel_rfl) (by kernel_rfl) (by kernel_rfl) (by simp) ?_
  intro S hS
  have k0 : ∀ A, S A → A.cell? ⟨w.heap.size, 2, none⟩ = some (.int .i64 t.least) ∧ A.cell? ⟨w.heap.size, 3, none⟩ = some (.int .i64 t.most) ∧ A.cell? ⟨w.heap.size, 4, none⟩ = some (.string t.rim) ∧ A.cell? ⟨w.heap.size, 5, none⟩ = some (.string t.base) := fun A hA => by
   have f := (HX.out.below (hS A hA)).fields
   simp only [Nat.zero_add] at f
   exact ⟨f.2.2.1, f.2.2.2.1, f.2.2.2.2.1, f.2.2.2.2.2⟩
  have K0 := Lib.hid k0
  have HS := Lib.hid hS
  clear hS k0
  simp only [List.take_succ_cons, List.take_zero, List.drop_succ_cons, List.drop_zero]
  repeat (first
   | (refine held_not rfl (by rfl) ?_; try (dsimp only); try simp only [Act.put, List.setIfInBounds_toArray, List.set_cons_zero, List.set_cons_succ])
   | (refine held_val (v := ?_) rfl (by rfl) ?_ ?_; rotate_left; (· (intro W hW; obtain ⟨q0, q1, q2, q3⟩ := K0.out W hW; go_simp; try with_reducible rfl)); try (dsimp only); try simp only [Act.put, List.setIfInBounds_toArray, List.set_cons_zero, List.set_cons_succ])
   | (refine held_skip rfl (by rfl) ?_ ?_; (· (intro W hW; obtain ⟨q0, q1, q2, q3⟩ := K0.out W hW; go_simp; try with_reducible rfl)); try (dsimp only); try simp only [Act.put, List.setIfInBounds_toArray, List.set_cons_zero, List.set_cons_succ])
   | (refine held_call (v := .bool false) (f := 37) (args := #[.string t.rim, .int .u8 x0.toNat]) rfl (by rfl) ?_ ?_ ?_; (· (intro W hW; go_simp; done)); (· exact (fun W hW => (HI1.out W).mono fun e w' h => ⟨h.1, h.2 ▸ Below.refl _ _⟩)); try (dsimp only); try simp only [Act.put, List.setIfInBounds_toArray, List.set_cons_zero, List.set_cons_succ]))
  refine held_nil ?_
  intro τ hτ W2 hW hO
  obtain rfl := laid0 hτ
  have HX2 := Lib.hid (HX.out.below (HS.out W2 hW))
  have HB2 := Lib.hid (HB.out.trans ((HS.out W2 hW).mono HB.out.size))
  clear hτ hO hW K0 HS
  simp only [overs, List.foldl_nil]
  go_wp2_with fail
  go_ret
  exact ⟨ret_bool HN.out.symm, HB2.out⟩
 rcases q4 : inL (bl t.base) x9 with _ | _
 ·have HN := Lib.hid (profR_no (w := bl s) HTS.out H1.out fun h => by have h := h.2.2.1; rw [B9.out] at h; rw [Option.getD_some, q4] at h; cases h)
  rw [q3] at HI1
  rw [q4] at HI2
  go_enter Tryz.func102, Tryz.ntmps102
  go_upto_region 1 with fail
  simp only [HW.out]
  refine wp_region_heldB 31 [] (by kernel_rfl) (by kernel_rfl) (by kernel_rfl) (by simp) ?_
  intro S hS
  have k0 : ∀ A, S A → A.cell? ⟨w.heap.size, 2, none⟩ = some (.int .i64 t.least) ∧ A.cell? ⟨w.heap.size, 3, none⟩ = some (.int .i64 t.most) ∧ A.cell? ⟨w.heap.size, 4, none⟩ = some (.string t.rim) ∧ A.cell? ⟨w.heap.size, 5, none⟩ = some (.string t.base) := fun A hA => by
   have f := (HX.out.below (hS A hA)).fields
   simp only [Nat.zero_add] at f
   exact ⟨f.2.2.1, f.2.2.2.1, f.2.2.2.2.1, f.2.2.2.2.2⟩
  have K0 := Lib.hid k0
  have HS := Lib.hid hS
  clear hS k0
  simp only [List.take_succ_cons, List.take_zero, List.drop_succ_cons, List.drop_zero]
  repeat (first
   | (refine held_not rfl (by rfl) ?_; try (dsimp only); try simp only [Act.put, List.setIfInBounds_toArray, List.set_cons_zero, List.set_cons_succ])
   | (refine held_val (v := ?_) rfl (by rfl) ?_ ?_; rotate_left; (· (intro W hW; obtain ⟨q0, q1, q2, q3⟩ := K0.out W hW; go_simp; try with_reducible rfl)); try (dsimp only); try simp only [Act.put, List.setIfInBounds_toArray, List.set_cons_zero, List.set_cons_succ])
   | (refine held_skip rfl (by rfl) ?_ ?_; (· (intro W hW; obtain ⟨q0, q1, q2, q3⟩ := K0.out W hW; go_simp; try with_reducible rfl)); try (dsimp only); try simp only [Act.put, List.setIfInBounds_toArray, List.set_cons_zero, List.set_cons_succ])
   | (refine held_call (v := .bool true) (f := 37) (args := #[.string t.rim, .int .u8 x0.toNat]) rfl (by rfl) ?_ ?_ ?_; (· (intro W hW; go_simp; done)); (· exact (fun W hW => (HI1.out W).mono fun e w' h => ⟨h.1, h.2 ▸ Below.refl _ _⟩)); try (dsimp only); try simp only [Act.put, List.setIfInBounds_toArray, List.set_cons_zero, List.set_cons_succ])
   | (refine held_call (v := .bool false) (f := 37) (args := #[.string t.base, .int .u8 x9.toNat]) rfl (by rfl) ?_ ?_ ?_; (· (intro W hW; go_simp; done)); (· exact (fun W hW => (HI2.out W).mono fun e w' h => ⟨h.1, h.2 ▸ Below.refl _ _⟩)); try (dsimp only); try simp only [Act.put, List.setIfInBounds_toArray, List.set_cons_zero, List.set_cons_succ]))
  refine held_nil ?_
  intro τ hτ W2 hW hO
  obtain rfl := laid0 hτ
  have HX2 := Lib.hid (HX.out.below (HS.out W2 hW))
  have HB2 := Lib.hid (HB.out.trans ((HS.out W2 hW).mono HB.out.size))
  clear hτ hO hW K0 HS
  simp only [overs, List.foldl_nil]
  go_wp2_with fail
  go_ret
  exact ⟨ret_bool HN.out.symm, HB2.out⟩
 have HQ := Lib.hid (show inL (bl t.rim) ((bl s)[0]?.getD 0) = true ∧ inL (bl t.base) ((bl s)[(bl s).length - 1]?.getD 0) = true by rw [B0.out, B9.out]; exact ⟨q3, q4⟩)
 rw [q3] at HI1
 rw [q4] at HI2
 go_enter Tryz.func102, Tryz.ntmps102
 go_upto_region 1 with fail
 simp only [HW.out]
 refine wp_region_heldB 31 [] (by kernel_rfl) (by kernel_rfl) (by kernel_rfl) (by simp) ?_
 intro S hS
 have k0 : ∀ A, S A → A.cell? ⟨w.heap.size, 2, none⟩ = some (.int .i64 t.least) ∧ A.cell? ⟨w.heap.size, 3, none⟩ = some (.int .i64 t.most) ∧ A.cell? ⟨w.heap.size, 4, none⟩ = some (.string t.rim) ∧ A.cell? ⟨w.heap.size, 5, none⟩ = some (.string t.base) := fun A hA => by
  have f := (HX.out.below (hS A hA)).fields
  simp only [Nat.zero_add] at f
  exact ⟨f.2.2.1, f.2.2.2.1, f.2.2.2.2.1, f.2.2.2.2.2⟩
 have K0 := Lib.hid k0
 have HS := Lib.hid hS
 clear hS k0
 simp only [List.take_succ_cons, List.take_zero, List.drop_succ_cons, List.drop_zero]
 repeat (first
  | (refine held_not rfl (by rfl) ?_; try (dsimp only); try simp only [Act.put, List.setIfInBounds_toArray, List.set_cons_zero, List.set_cons_succ])
  | (refine held_val (v := ?_) rfl (by rfl) ?_ ?_; rotate_left; (· (intro W hW; obtain ⟨q0, q1, q2, q3⟩ := K0.out W hW; go_simp; try with_reducible rfl)); try (dsimp only); try simp only [Act.put, List.setIfInBounds_toArray, List.set_cons_zero, List.set_cons_succ])
  | (refine held_skip rfl (by rfl) ?_ ?_; (· (intro W hW; obtain ⟨q0, q1, q2, q3⟩ := K0.out W hW; go_simp; try with_reducible rfl)); try (dsimp only); try simp only [Act.put, List.setIfInBounds_toArray, List.set_cons_zero, List.set_cons_succ])
  | (refine held_call (v := .bool true) (f := 37) (args := #[.string t.rim, .int .u8 x0.toNat]) rfl (by rfl) ?_ ?_ ?_; (· (intro W hW; go_simp; done)); (· exact (fun W hW => (HI1.out W).mono fun e w' h => ⟨h.1, h.2 ▸ Below.refl _ _⟩)); try (dsimp only); try simp only [Act.put, List.setIfInBounds_toArray, List.set_cons_zero, List.set_cons_succ])
  | (refine held_call (v := .bool true) (f := 37) (args := #[.string t.base, .int .u8 x9.toNat]) rfl (by rfl) ?_ ?_ ?_; (· (intro W hW; go_simp; done)); (· exact (fun W hW => (HI2.out W).mono fun e w' h => ⟨h.1, h.2 ▸ Below.refl _ _⟩)); try (dsimp only); try simp only [Act.put, List.setIfInBounds_toArray, List.set_cons_zero, List.set_cons_succ]))
 refine held_nil ?_
 intro τ hτ W2 hW hO
 obtain rfl := laid0 hτ
 have HX2 := Lib.hid (HX.out.below (HS.out W2 hW))
 have HB2 := Lib.hid (HB.out.trans ((HS.out W2 hW).mono HB.out.size))
 clear hτ hO hW K0 HS
 simp only [overs, List.foldl_nil]
 clear q1 q2 q3 q4 HI1 HI2 hx0 hx9 hzi hz0 hszi hzw hzv hzu HX HB HW B0 B9 hzl
 go_wp2_with fail
 go_loopw [5] (fun iv wr => ∃ m : Nat, m + 1 ≤ s.size ∧ iv = .int .i64 ((m : Int) + 1) ∧ (∀ j, j < m → linkR t (bl s) j = true) ∧ TypAt wr w.heap.size 0 t ∧ Below w.heap.size w wr) (fun iv _ => s.size - (intOf iv).toNat)
 case atStart => exact ⟨0, by omega, rfl, fun j hj => absurd hj (Nat.not_lt_zero j), HX2.out, HB2.out⟩
 case round =>
  clear HX2 HB2 W2
  obtain ⟨m, hm1, rfl, hall, hx, hb⟩ := hrel
  have HA := Lib.hid hall
  have HX := Lib.hid hx
  have HB := Lib.hid hb
  clear hall hx hb
  by_cases hlt : m + 1 < s.size
  ·have hml : m < s.size := by omega
   obtain ⟨x, hx⟩ : ∃ x, s[m] = x := ⟨_, rfl⟩
   obtain ⟨y, hy⟩ : ∃ y, s[m + 1] = y := ⟨_, rfl⟩
   have bx : (bl s)[m]? = some x := by rw [bl_at s hml, hx]
   have by_ : (bl s)[m + 1]? = some y := by rw [bl_at s hlt, hy]
   have hki : (m : Int) + 1 < (s.size : Int) := by omega
   have hk0 : (0 : Int) ≤ (m : Int) + 1 := by omega
   have hm0 : (0 : Int) ≤ (m : Int) := by omega
   have hml2 : (m : Int) < (s.size : Int) := by omega
   have hmw : IntKind.i64.wrap (m : Int) = (m : Int) := IntWalk.i64_in _ (by omega)
   have hmw1 : IntKind.i64.wrap ((m : Int) + 1 - 1) = (m : Int) := by rw [IntWalk.i64_in _ (by omega)]; omega
   have HAF := Lib.hid (fun W => afterR_any t x W)
   have hasz : (aftS t x).size ≤ 1000000 := by
    unfold aftS
    split
    ·have := HSM.out.after (x.toNat - 97) (by omega); omega
    ·exact Nat.zero_le _
   have HIN := Lib.hid (fun W => inR_any (aftS t x) y hasz W)
   have HLK := Lib.hid (show linkR t (bl s) m = inL (bl (aftS t x)) y by unfold linkR; rw [bx, by_]; rfl)
   clear bx by_ hasz
   rcases hq : inL (bl (aftS t x)) y with _ | _
   ·rw [hq] at HIN HLK
    have HN := Lib.hid (profR_no (w := bl s) HTS.out H1.out fun h => by have := h.2.2.2 m (by rw [bl_len]; exact hlt); rw [HLK.out] at this; cases this)
    go_wp2_with fail
    refine wp_region_heldB 11 [] (by kernel_rfl) (by kernel_rfl) (by kernel_rfl) (by simp) ?_
    intro S hS
    have K0 := trivial
    have L1 := Lib.hid (fun A hA => TypAt.load (HX.out.below (hS A hA)))
    have HS := Lib.hid hS
    clear hS
    simp only [List.take_succ_cons, List.take_zero, List.drop_succ_cons, List.drop_zero]
    repeat (first
     | (refine held_load 71 _ (by rfl) rfl rfl L1.out ?_; try (dsimp only); try simp only [Act.put, List.setIfInBounds_toArray, List.set_cons_zero, List.set_cons_succ])
     | (refine held_not rfl (by rfl) ?_; try (dsimp only); try simp only [Act.put, List.setIfInBounds_toArray, List.set_cons_zero, List.set_cons_succ])
     | (refine held_val (v := ?_) rfl (by rfl) ?_ ?_; rotate_left; (· (intro W hW; go_simp; try with_reducible rfl)); try (dsimp only); try simp only [Act.put, List.setIfInBounds_toArray, List.set_cons_zero, List.set_cons_succ])
     | (refine held_skip rfl (by rfl) ?_ ?_; (· (intro W hW; go_simp; try with_reducible rfl)); try (dsimp only); try simp only [Act.put, List.setIfInBounds_toArray, List.set_cons_zero, List.set_cons_succ])
     | (refine held_call (v := .string (aftS t x)) (f := 85) (args := #[.agg (typCells t), .int .u8 x.toNat]) rfl (by rfl) ?_ ?_ ?_; (· (intro W hW; go_simp; done)); (· exact (fun W hW => HAF.out W)); try (dsimp only); try simp only [Act.put, List.setIfInBounds_toArray, List.set_cons_zero, List.set_cons_succ])
     | (refine held_call (v := .bool false) (f := 37) (args := #[.string (aftS t x), .int .u8 y.toNat]) rfl (by rfl) ?_ ?_ ?_; (· (intro W hW; go_simp; done)); (· exact (fun W hW => (HIN.out W).mono fun e w' h => ⟨h.1, h.2 ▸ Below.refl _ _⟩)); try (dsimp only); try simp only [Act.put, List.setIfInBounds_toArray, List.set_cons_zero, List.set_cons_succ]))
    refine held_nil ?_
    intro τ hτ W2 hW hO
    obtain rfl := laid0 hτ
    have HX2 := Lib.hid (HX.out.below (HS.out W2 hW))
    have HB2 := Lib.hid (HB.out.trans ((HS.out W2 hW).mono HB.out.size))
    clear hτ hO hW K0 HS
    simp only [overs, List.foldl_nil]
    go_wp2_with fail
    go_ret
    exact ⟨ret_bool HN.out.symm, HB2.out⟩
   ·rw [hq] at HIN HLK
    go_wp2_with fail
    refine wp_region_heldB 11 [] (by kernel_rfl) (by kernel_rfl) (by kernel_rfl) (by simp) ?_
    intro S hS
    have K0 := trivial
    have L1 := Lib.hid (fun A hA => TypAt.load (HX.out.below (hS A hA)))
    have HS := Lib.hid hS
    clear hS
    simp only [List.take_succ_cons, List.take_zero, List.drop_succ_cons, List.drop_zero]
    repeat (first
     | (refine held_load 71 _ (by rfl) rfl rfl L1.out ?_; try (dsimp only); try simp only [Act.put, List.setIfInBounds_toArray, List.set_cons_zero, List.set_cons_succ])
     | (refine held_not rfl (by rfl) ?_; try (dsimp only); try simp only [Act.put, List.setIfInBounds_toArray, List.set_cons_zero, List.set_cons_succ])
     | (refine held_val (v := ?_) rfl (by rfl) ?_ ?_; rotate_left; (· (intro W hW; go_simp; try with_reducible rfl)); try (dsimp only); try simp only [Act.put, List.setIfInBounds_toArray, List.set_cons_zero, List.set_cons_succ])
     | (refine held_skip rfl (by rfl) ?_ ?_; (· (intro W hW; go_simp; try with_reducible rfl)); try (dsimp only); try simp only [Act.put, List.setIfInBounds_toArray, List.set_cons_zero, List.set_cons_succ])
     | (refine held_call (v := .string (aftS t x)) (f := 85) (args := #[.agg (typCells t), .int .u8 x.toNat]) rfl (by rfl) ?_ ?_ ?_; (· (intro W hW; go_simp; done)); (· exact (fun W hW => HAF.out W)); try (dsimp only); try simp only [Act.put, List.setIfInBounds_toArray, List.set_cons_zero, List.set_cons_succ])
     | (refine held_call (v := .bool true) (f := 37) (args := #[.string (aftS t x), .int .u8 y.toNat]) rfl (by rfl) ?_ ?_ ?_; (· (intro W hW; go_simp; done)); (· exact (fun W hW => (HIN.out W).mono fun e w' h => ⟨h.1, h.2 ▸ Below.refl _ _⟩)); try (dsimp only); try simp only [Act.put, List.setIfInBounds_toArray, List.set_cons_zero, List.set_cons_succ]))
    refine held_nil ?_
    intro τ hτ W2 hW hO
    obtain rfl := laid0 hτ
    have HX2 := Lib.hid (HX.out.below (HS.out W2 hW))
    have HB2 := Lib.hid (HB.out.trans ((HS.out W2 hW).mono HB.out.size))
    clear hτ hO hW K0 HS
    simp only [overs, List.foldl_nil]
    go_wp2_with fail
    go_roundw
    case rel => exact ⟨m + 1, by omega, by go_num, all_step HA.out HLK.out, HX2.out, HB2.out⟩
    case measure => simp [intOf]; omega
  ·have hkn : decide ((m : Int) + 1 < (s.size : Int)) = false := by simp; omega
   have HY := Lib.hid (show profB t.kd t.least t.most (bl s) = true from (profR_iff HTS.out H1.out).2 ⟨HG.out, HQ.out.1, HQ.out.2, fun i hi => HA.out i (by rw [bl_len] at hi; omega)⟩)
   go_wp2_with fail
   go_ret
   exact ⟨ret_bool HY.out.symm, HB.out⟩
end Go.Proofs.YthpjffhccjlnhaaGreatDoor
namespace Go.Proofs.YthpjffhccjlnhaaGreatDoor
open Go.RowKit
attribute [local go_sem] Oper.semAt_some

structure CfR (B : Nat) (i s : Int) (wd : ByteArray) (a : Option Addr) (c : Nat) (l : List Typ) (ra : Option Addr) (rc : Nat) (r : List Rng) (w W : World) : Prop where
 f : W.cell? ⟨B, 0, none⟩ = some (.int .i64 i) ∧ W.cell? ⟨B, 1, none⟩ = some (.int .i64 s) ∧ W.cell? ⟨B, 2, none⟩ = some (.string wd)
 k : Ask W a c l ra rc r
 b : Below w.heap.size w W
theorem CfR.below {B : Nat} {i s : Int} {wd : ByteArray} {a : Option Addr} {c : Nat} {l : List Typ} {ra : Option Addr} {rc : Nat} {r : List Rng} {w W W' : World} (h : CfR B i s wd a c l ra rc r w W) (hb : Below W.heap.size W W') : CfR B i s wd a c l ra rc r w W' :=
 ⟨⟨below_cell hb h.f.1, below_cell hb h.f.2.1, below_cell hb h.f.2.2⟩, h.k.below hb, h.b.trans (hb.mono h.b.size)⟩
theorem fitOut_no {l : List Typ} {ware : ByteArray} {r : List Rng} {i s : Int} {wd : ByteArray} (h0 : wantedErr l ware r = 0) (h : ¬ ∃ (n k : Nat) (t : Typ), i = n ∧ s = k ∧ l[n]? = some t ∧ t.ware = ware ∧ k < shiftsOf t r ∧ fitB t r k (bl wd) = true) : checkFitOut l ware r i s wd = .tuple #[.bool false, .int .i64 0] := by
 unfold checkFitOut
 rw [h0, show checkFitT l ware r i s wd = false by rw [Bool.eq_false_iff]; exact fun hp => h (checkFit_iff.1 hp)]; rfl
theorem fitOut_yes {l : List Typ} {ware : ByteArray} {r : List Rng} {n k : Nat} {wd : ByteArray} {t : Typ} (h0 : wantedErr l ware r = 0) (h1 : l[n]? = some t) (h2 : t.ware = ware) (h3 : k < shiftsOf t r) (h4 : fitB t r k (bl wd) = true) : checkFitOut l ware r n k wd = .tuple #[.bool true, .int .i64 0] := by
 unfold checkFitOut
 rw [h0, checkFit_iff.2 ⟨n, k, t, rfl, rfl, h1, h2, h3, h4⟩]; rfl
set_option maxRecDepth 100000 in
set_option maxHeartbeats 4000000 in
theorem checkFitR_any (a : Option Addr) (c : Nat) (l : List Typ) (ware : ByteArray) (ra : Option Addr) (rc : Nat) (r : List Rng) (i s : Int) (wd : ByteArray) (hwd : wd.size ≤ 1000000) (w : World) (h : Ask w a c l ra rc r) :
  Calls Tryz.prog 59 #[.slice a l.length c, .string ware, .slice ra r.length rc, .agg (ftCells i s wd)] w fun e w' => e = .returned (checkFitOut l ware r i s wd) ∧ Below w.heap.size w w' := by
 obtain ⟨w1, hw1⟩ : ∃ w1, w.alloc (.cells (ftCells i s wd) 44) = w1 := ⟨_, rfl⟩
 have b0 : Box w1 w.heap.size (ftCells i s wd) 44 := by rw [← hw1]; exact Box.new _ _ _
 have hB : Below w.heap.size w w1 := by rw [← hw1]; go_grown
 have ST1 := Lib.hid (show CfR w.heap.size i s wd a c l ra rc r w w1 from ⟨⟨b0.fn (i := 0) (by omega), b0.fn (i := 1) (by omega), b0.fn (i := 2) (by omega)⟩, h.below hB, hB⟩)
 have HC := Lib.hid (askedR_any a c l ware ra rc r w1 (h.below hB))
 have HW := Lib.hid hw1
 have hll := h.tlen
 clear b0 hB hw1 h
 go_enter Tryz.func59, Tryz.ntmps59
 go_upto_region 1 with fail
 simp only [HW.out]
 go_wp2_with (refine HC.out.mono ?_)
 rintro e w2 ⟨rfl, hb2⟩
 have ST := Lib.hid (ST1.out.below hb2)
 clear hb2 HC ST1 HW w1
 by_cases h0 : wantedErr l ware r = 0
 rotate_left
 ·have HN := Lib.hid (show checkFitOut l ware r i s wd = .tuple #[.bool false, .int .i64 (wantedErr l ware r)] by unfold checkFitOut; rw [show (wantedErr l ware r == 0) = false by simpa using h0]; rfl)
  have hne : (wantedErr l ware r == 0) = false := by simpa using h0
  go_wp2_with fail
  exact bodyPost_ret (results_tmp_tmp4 rfl) rfl ⟨by rw [HN.out]; rfl, ST.out.b⟩
 have H0 := Lib.hid h0
 simp only [h0]
 clear h0
 rcases q1 : decide (i < 0) with _ | _
 rotate_left
 ·have HN := Lib.hid (fitOut_no (i := i) (s := s) (wd := wd) H0.out (by rintro ⟨n, k, t, rfl, _⟩; have := of_decide_eq_true q1; omega))
  go_wp2_with fail
  refine wp_region_heldB 63 [] (by kernel_rfl) (by kernel_rfl) (by kernel_rfl) (by simp) ?_
  intro S hS
  have k0 : ∀ A, S A → A.cell? ⟨w.heap.size, 0, none⟩ = some (.int .i64 i) ∧ A.cell? ⟨w.heap.size, 1, none⟩ = some (.int .i64 s) ∧ A.cell? ⟨w.heap.size, 2, none⟩ = some (.string wd) := fun A hA => (ST.out.below (hS A hA)).f
  have K0 := Lib.hid k0
  have HS := Lib.hid hS
  clear hS k0
  simp only [List.take_succ_cons, List.take_zero, List.drop_succ_cons, List.drop_zero]
  repeat (first
   | (refine held_not rfl (by rfl) ?_; try (dsimp only); try simp only [Act.put, List.setIfInBounds_toArray, List.set_cons_zero, List.set_cons_succ])
   | (refine held_val (v := ?_) rfl (by rfl) ?_ ?_; rotate_left; (· (intro W hW; obtain ⟨q0, q1, q2⟩ := K0.out W hW; go_simp; try with_reducible rfl)); try (dsimp only); try simp only [Act.put, List.setIfInBounds_toArray, List.set_cons_zero, List.set_cons_succ])
   | (refine held_skip rfl (by rfl) ?_ ?_; (· (intro W hW; obtain ⟨q0, q1, q2⟩ := K0.out W hW; go_simp; try with_reducible rfl)); try (dsimp only); try simp only [Act.put, List.setIfInBounds_toArray, List.set_cons_zero, List.set_cons_succ]))
  refine held_nil ?_
  intro τ hτ W2 hW hO
  obtain rfl := laid0 hτ
  have ST2 := Lib.hid (ST.out.below (HS.out W2 hW))
  clear hτ hO hW K0 HS
  simp only [overs, List.foldl_nil]
  go_wp2_with fail
  exact bodyPost_ret (results_tmp_tmp4 rfl) rfl ⟨by rw [HN.out]; rfl, ST2.out.b⟩
 rcases q2 : decide ((l.length : Int) ≤ i) with _ | _
 rotate_left
 ·have HN := Lib.hid (fitOut_no (i := i) (s := s) (wd := wd) H0.out (by
   rintro ⟨n, k, t, rfl, _, ht, _⟩
   have := of_decide_eq_true q2
   have := (List.getElem?_eq_some_iff.1 ht).1
   omega))
  go_wp2_with fail
  refine wp_region_heldB 63 [] (by kernel_rfl) (by kernel_rfl) (by kernel_rfl) (by simp) ?_
  intro S hS
  have k0 : ∀ A, S A → A.cell? ⟨w.heap.size, 0, none⟩ = some (.int .i64 i) ∧ A.cell? ⟨w.heap.size, 1, none⟩ = some (.int .i64 s) ∧ A.cell? ⟨w.heap.size, 2, none⟩ = some (.string wd) := fun A hA => (ST.out.below (hS A hA)).f
  have K0 := Lib.hid k0
  have HS := Lib.hid hS
  clear hS k0
  simp only [List.take_succ_cons, List.take_zero, List.drop_succ_cons, List.drop_zero]
  repeat (first
   | (refine held_not rfl (by rfl) ?_; try (dsimp only); try simp only [Act.put, List.setIfInBounds_toArray, List.set_cons_zero, List.set_cons_succ])
   | (refine held_val (v := ?_) rfl (by rfl) ?_ ?_; rotate_left; (· (intro W hW; obtain ⟨q0, q1, q2⟩ := K0.out W hW; go_simp; try with_reducible rfl)); try (dsimp only); try simp only [Act.put, List.setIfInBounds_toArray, List.set_cons_zero, List.set_cons_succ])
   | (refine held_skip rfl (by rfl) ?_ ?_; (· (intro W hW; obtain ⟨q0, q1, q2⟩ := K0.out W hW; go_simp; try with_reducible rfl)); try (dsimp only); try simp only [Act.put, List.setIfInBounds_toArray, List.set_cons_zero, List.set_cons_succ]))
  refine held_nil ?_
  intro τ hτ W2 hW hO
  obtain rfl := laid0 hτ
  have ST2 := Lib.hid (ST.out.below (HS.out W2 hW))
  clear hτ hO hW K0 HS
  simp only [overs, List.foldl_nil]
  go_wp2_with fail
  exact bodyPost_ret (results_tmp_tmp4 rfl) rfl ⟨by rw [HN.out]; rfl, ST2.out.b⟩
 obtain ⟨n, rfl⟩ : ∃ n : Nat, i = n := ⟨i.toNat, by have := of_decide_eq_false q1; omega⟩
 have hnl : n < l.length := by have := of_decide_eq_false q2; omega
 obtain ⟨t, ht⟩ : ∃ t, l[n]? = some t := ⟨l[n], by simp [hnl]⟩
 have hni : (n : Int) < (l.length : Int) := by omega
 have hnd : decide (l.length ≤ n) = false := decide_eq_false (by omega)
 have hn0 : (0 : Int) ≤ (n : Int) := by omega
 obtain ⟨b, o, rfl, hat⟩ := ST.out.k.ty n t ht
 have HAT := Lib.hid hat
 have hsm := ST.out.k.sm t (List.mem_of_getElem? ht)
 obtain ⟨hte, hre⟩ := wanted_typ H0.out
 obtain ⟨hts, h1, hlm, hm12⟩ := typeB_good (types_at hte ht)
 have HG := Lib.hid (RgOk.of hre)
 have HT := Lib.hid ht
 have HSM := Lib.hid hsm
 have HTY := Lib.hid (show t.sets = true ∧ 1 ≤ t.least ∧ t.least ≤ t.most ∧ t.most ≤ 12 from ⟨hts, h1, hlm, hm12⟩)
 clear hat hsm hte hre hts h1 hlm hm12 ht
 rcases q3 : (t.ware.toList == ware.toList) with _ | _
 ·have HN := Lib.hid (fitOut_no (i := (n : Int)) (s := s) (wd := wd) H0.out (by
   rintro ⟨n', k, t', hn, _, ht, hw, _⟩
   have e : n = n' := by omega
   subst e
   rw [HT.out] at ht
   injection ht with e
   subst e
   exact ware_ne q3 hw))
  go_wp2_with fail
  refine wp_region_heldB 63 [] (by kernel_rfl) (by kernel_rfl) (by kernel_rfl) (by simp) ?_
  intro S hS
  have k0 : ∀ A, S A → A.cell? ⟨w.heap.size, 0, none⟩ = some (.int .i64 (n : Int)) ∧ A.cell? ⟨w.heap.size, 1, none⟩ = some (.int .i64 s) ∧ A.cell? ⟨w.heap.size, 2, none⟩ = some (.string wd) ∧ A.cell? ⟨b, o + n * 32 + 1, none⟩ = some (.string t.ware) := fun A hA => by
   have f := (ST.out.below (hS A hA)).f
   exact ⟨f.1, f.2.1, f.2.2, (HAT.out.below (hS A hA)).fields.2.1⟩
  have K0 := Lib.hid k0
  have L1 := Lib.hid (fun A hA => TypAt.load (HAT.out.below (hS A hA)))
  have HS := Lib.hid hS
  clear hS k0
  simp only [List.take_succ_cons, List.take_zero, List.drop_succ_cons, List.drop_zero]
  repeat (first
   | (refine held_not rfl (by rfl) ?_; try (dsimp only); try simp only [Act.put, List.setIfInBounds_toArray, List.set_cons_zero, List.set_cons_succ])
   | (refine held_val (v := ?_) rfl (by rfl) ?_ ?_; rotate_left; (· (intro W hW; obtain ⟨q0, q1, q2, q3⟩ := K0.out W hW; go_simp; try with_reducible rfl)); try (dsimp only); try simp only [Act.put, List.setIfInBounds_toArray, List.set_cons_zero, List.set_cons_succ])
   | (refine held_skip rfl (by rfl) ?_ ?_; (· (intro W hW; obtain ⟨q0, q1, q2, q3⟩ := K0.out W hW; go_simp; try with_reducible rfl)); try (dsimp only); try simp only [Act.put, List.setIfInBounds_toArray, List.set_cons_zero, List.set_cons_succ]))
  refine held_nil ?_
  intro τ hτ W2 hW hO
  obtain rfl := laid0 hτ
  have ST2 := Lib.hid (ST.out.below (HS.out W2 hW))
  clear hτ hO hW K0 HS
  simp only [overs, List.foldl_nil]
  go_wp2_with fail
  exact bodyPost_ret (results_tmp_tmp4 rfl) rfl ⟨by rw [HN.out]; rfl, ST2.out.b⟩
 have HWA := Lib.hid (ware_eq q3)
 rcases q4 : decide (s < 0) with _ | _
 rotate_left
 ·have HN := Lib.hid (fitOut_no (i := (n : Int)) (s := s) (wd := wd) H0.out (by
   rintro ⟨n', k, t', hn, rfl, _⟩
   have := of_decide_eq_true q4; omega))
  go_wp2_with fail
  refine wp_region_heldB 63 [] (by kernel_rfl) (by kernel_rfl) (by kernel_rfl) (by simp) ?_
  intro S hS
  have k0 : ∀ A, S A → A.cell? ⟨w.heap.size, 0, none⟩ = some (.int .i64 (n : Int)) ∧ A.cell? ⟨w.heap.size, 1, none⟩ = some (.int .i64 s) ∧ A.cell? ⟨w.heap.size, 2, none⟩ = some (.string wd) ∧ A.cell? ⟨b, o + n * 32 + 1, none⟩ = some (.string t.ware) := fun A hA => by
   have f := (ST.out.below (hS A hA)).f
   exact ⟨f.1, f.2.1, f.2.2, (HAT.out.below (hS A hA)).fields.2.1⟩
  have K0 := Lib.hid k0
  have L1 := Lib.hid (fun A hA => TypAt.load (HAT.out.below (hS A hA)))
  have HS := Lib.hid hS
  clear hS k0
  simp only [List.take_succ_cons, List.take_zero, List.drop_succ_cons, List.drop_zero]
  repeat (first
   | (refine held_not rfl (by rfl) ?_; try (dsimp only); try simp only [Act.put, List.setIfInBounds_toArray, List.set_cons_zero, List.set_cons_succ])
   | (refine held_val (v := ?_) rfl (by rfl) ?_ ?_; rotate_left; (· (intro W hW; obtain ⟨q0, q1, q2, q3⟩ := K0.out W hW; go_simp; try with_reducible rfl)); try (dsimp only); try simp only [Act.put, List.setIfInBounds_toArray, List.set_cons_zero, List.set_cons_succ])
   | (refine held_skip rfl (by rfl) ?_ ?_; (· (intro W hW; obtain ⟨q0, q1, q2, q3⟩ := K0.out W hW; go_simp; try with_reducible rfl)); try (dsimp only); try simp only [Act.put, List.setIfInBounds_toArray, List.set_cons_zero, List.set_cons_succ]))
  refine held_nil ?_
  intro τ hτ W2 hW hO
  obtain rfl := laid0 hτ
  have ST2 := Lib.hid (ST.out.below (HS.out W2 hW))
  clear hτ hO hW K0 HS
  simp only [overs, List.foldl_nil]
  go_wp2_with fail
  exact bodyPost_ret (results_tmp_tmp4 rfl) rfl ⟨by rw [HN.out]; rfl, ST2.out.b⟩
 obtain ⟨k, rfl⟩ : ∃ k : Nat, s = k := ⟨s.toNat, by have := of_decide_eq_false q4; omega⟩
 have hkd : decide (shiftsOf t r ≤ k) = decide (((shiftsOf t r : Nat) : Int) ≤ (k : Int)) := by
  rw [Bool.eq_iff_iff, decide_eq_true_eq, decide_eq_true_eq]; omega
 have HSH := Lib.hid (fun W (hW : RngsAt W ra r) => shiftsR_any t ra rc r ⟨by have := HTY.out; omega, HTY.out.2.2.2⟩ HG.out W hW)
 rcases q5 : decide (((shiftsOf t r : Nat) : Int) ≤ (k : Int)) with _ | _
 rotate_left
 ·rw [q5] at hkd
  have HN := Lib.hid (fitOut_no (i := (n : Int)) (s := (k : Int)) (wd := wd) H0.out (by
   rintro ⟨n', k', t', hn, hk, ht, _, hs, _⟩
   have e : n = n' := by omega
   have e2 : k = k' := by omega
   subst e e2
   rw [HT.out] at ht
   injection ht with e
   subst e
   have := of_decide_eq_true q5; omega))
  go_wp2_with fail
  refine wp_region_heldB 63 [] (by kernel_rfl) (by kernel_rfl) (by kernel_rfl) (by simp) ?_
  intro S hS
  have k0 : ∀ A, S A → A.cell? ⟨w.heap.size, 0, none⟩ = some (.int .i64 (n : Int)) ∧ A.cell? ⟨w.heap.size, 1, none⟩ = some (.int .i64 (k : Int)) ∧ A.cell? ⟨w.heap.size, 2, none⟩ = some (.string wd) ∧ A.cell? ⟨b, o + n * 32 + 1, none⟩ = some (.string t.ware) := fun A hA => by
   have f := (ST.out.below (hS A hA)).f
   exact ⟨f.1, f.2.1, f.2.2, (HAT.out.below (hS A hA)).fields.2.1⟩
  have K0 := Lib.hid k0
  have L1 := Lib.hid (fun A hA => TypAt.load (HAT.out.below (hS A hA)))
  have HS := Lib.hid hS
  clear hS k0
  simp only [List.take_succ_cons, List.take_zero, List.drop_succ_cons, List.drop_zero]
  repeat (first
   | (refine held_load 71 _ (by rfl) rfl rfl L1.out ?_; try (dsimp only); try simp only [Act.put, List.setIfInBounds_toArray, List.set_cons_zero, List.set_cons_succ])
   | (refine held_not rfl (by rfl) ?_; try (dsimp only); try simp only [Act.put, List.setIfInBounds_toArray, List.set_cons_zero, List.set_cons_succ])
   | (refine held_val (v := ?_) rfl (by rfl) ?_ ?_; rotate_left; (· (intro W hW; obtain ⟨q0, q1, q2, q3⟩ := K0.out W hW; go_simp; try with_reducible rfl)); try (dsimp only); try simp only [Act.put, List.setIfInBounds_toArray, List.set_cons_zero, List.set_cons_succ])
   | (refine held_skip rfl (by rfl) ?_ ?_; (· (intro W hW; obtain ⟨q0, q1, q2, q3⟩ := K0.out W hW; go_simp; try with_reducible rfl)); try (dsimp only); try simp only [Act.put, List.setIfInBounds_toArray, List.set_cons_zero, List.set_cons_succ])
   | (refine held_call (v := .int .i64 (shiftsOf t r : Nat)) (f := 107) (args := #[.agg (typCells t), .slice ra r.length rc]) rfl (by rfl) ?_ ?_ ?_; (· (intro W hW; go_simp; done)); (· exact (fun W hW => HSH.out W (ST.out.k.rg.below (HS.out W hW)))); try (dsimp only); try simp only [Act.put, List.setIfInBounds_toArray, List.set_cons_zero, List.set_cons_succ]))
  refine held_nil ?_
  intro τ hτ W2 hW hO
  obtain rfl := laid0 hτ
  have ST2 := Lib.hid (ST.out.below (HS.out W2 hW))
  clear hτ hO hW K0 HS
  simp only [overs, List.foldl_nil]
  go_wp2_with fail
  exact bodyPost_ret (results_tmp_tmp4 rfl) rfl ⟨by rw [HN.out]; rfl, ST2.out.b⟩
 rw [q5] at hkd
 have HKS := Lib.hid (show k < shiftsOf t r by have := of_decide_eq_false q5; omega)
 have hk12 : k ≤ 12 := by
  have h1 := HKS.out
  have h2 : shiftsOf t r ≤ 13 := by
   have hm := HTY.out
   unfold shiftsOf
   split
   ·omega
   ·have : -1 ≤ lastAt r := by
     unfold lastAt
     rcases hl : r.getLast? with _ | y
     ·exact Int.le_refl _
     ·have := (HG.out.at0 y (List.mem_of_getLast? hl)).1; simp only; omega
    omega
  omega
 have hk1 : k ≤ 1000 := by omega
 have HPF := Lib.hid (fun W => profileR_any t HSM.out HTY.out.1 HTY.out.2.1 (by have := HTY.out; omega) wd hwd W)
 have HWH := Lib.hid (fun W (hW : RngsAt W ra r) => wholeR_any t ra rc r k wd.size hk1 HG.out W hW)
 have HFI := Lib.hid (fitR_iff (t := t) (r := r) (s := k) (w := bl wd) HTY.out.2.1 HKS.out HG.out.set)
 have HNO := Lib.hid (show fitB t r k (bl wd) = false → checkFitOut l ware r n k wd = .tuple #[.bool false, .int .i64 0] from fun hf => fitOut_no (i := (n : Int)) (s := (k : Int)) (wd := wd) H0.out (by
   rintro ⟨n', k', t', hn, hk, ht, _, hs, hfb⟩
   have e : n = n' := by omega
   have e2 : k = k' := by omega
   subst e e2
   rw [HT.out] at ht
   injection ht with e
   subst e
   rw [hf] at hfb; cases hfb))
 rcases q6 : profB t.kd t.least t.most (bl wd) with _ | _
 ·have HN := Lib.hid (HNO.out (by rw [Bool.eq_false_iff]; intro hf; have := (HFI.out.1 hf).1; rw [q6] at this; cases this))
  rw [q6] at HPF
  go_wp2_with fail
  refine wp_region_heldB 63 [] (by kernel_rfl) (by kernel_rfl) (by kernel_rfl) (by simp) ?_
  intro S hS
  have k0 : ∀ A, S A → A.cell? ⟨w.heap.size, 0, none⟩ = some (.int .i64 (n : Int)) ∧ A.cell? ⟨w.heap.size, 1, none⟩ = some (.int .i64 (k : Int)) ∧ A.cell? ⟨w.heap.size, 2, none⟩ = some (.string wd) ∧ A.cell? ⟨b, o + n * 32 + 1, none⟩ = some (.string t.ware) := fun A hA => by
   have f := (ST.out.below (hS A hA)).f
   exact ⟨f.1, f.2.1, f.2.2, (HAT.out.below (hS A hA)).fields.2.1⟩
  have K0 := Lib.hid k0
  have L1 := Lib.hid (fun A hA => TypAt.load (HAT.out.below (hS A hA)))
  have HS := Lib.hid hS
  clear hS k0
  simp only [List.take_succ_cons, List.take_zero, List.drop_succ_cons, List.drop_zero]
  repeat (first
   | (refine held_load 71 _ (by rfl) rfl rfl L1.out ?_; try (dsimp only); try simp only [Act.put, List.setIfInBounds_toArray, List.set_cons_zero, List.set_cons_succ])
   | (refine held_not rfl (by rfl) ?_; try (dsimp only); try simp only [Act.put, List.setIfInBounds_toArray, List.set_cons_zero, List.set_cons_succ])
   | (refine held_val (v := ?_) rfl (by rfl) ?_ ?_; rotate_left; (· (intro W hW; obtain ⟨q0, q1, q2, q3⟩ := K0.out W hW; go_simp; try with_reducible rfl)); try (dsimp only); try simp only [Act.put, List.setIfInBounds_toArray, List.set_cons_zero, List.set_cons_succ])
   | (refine held_skip rfl (by rfl) ?_ ?_; (· (intro W hW; obtain ⟨q0, q1, q2, q3⟩ := K0.out W hW; go_simp; try with_reducible rfl)); try (dsimp only); try simp only [Act.put, List.setIfInBounds_toArray, List.set_cons_zero, List.set_cons_succ])
   | (refine held_call (v := .int .i64 (shiftsOf t r : Nat)) (f := 107) (args := #[.agg (typCells t), .slice ra r.length rc]) rfl (by rfl) ?_ ?_ ?_; (· (intro W hW; go_simp; done)); (· exact (fun W hW => HSH.out W (ST.out.k.rg.below (HS.out W hW)))); try (dsimp only); try simp only [Act.put, List.setIfInBounds_toArray, List.set_cons_zero, List.set_cons_succ])
   | (refine held_call (v := .bool false) (f := 102) (args := #[.agg (typCells t), .string wd]) rfl (by rfl) ?_ ?_ ?_; (· (intro W hW; go_simp; done)); (· exact (fun W hW => HPF.out W)); try (dsimp only); try simp only [Act.put, List.setIfInBounds_toArray, List.set_cons_zero, List.set_cons_succ]))
  refine held_nil ?_
  intro τ hτ W2 hW hO
  obtain rfl := laid0 hτ
  have ST2 := Lib.hid (ST.out.below (HS.out W2 hW))
  clear hτ hO hW K0 HS
  simp only [overs, List.foldl_nil]
  go_wp2_with fail
  exact bodyPost_ret (results_tmp_tmp4 rfl) rfl ⟨by rw [HN.out]; rfl, ST2.out.b⟩
 rcases q7 : wholeB t r k wd.size with _ | _
 ·have HN := Lib.hid (HNO.out (by rw [Bool.eq_false_iff]; intro hf; have := (HFI.out.1 hf).2.1; rw [bl_len, q7] at this; cases this))
  rw [q6] at HPF
  rw [q7] at HWH
  go_wp2_with fail
  refine wp_region_heldB 63 [] (by kernel_rfl) (by kernel_rfl) (by kernel_rfl) (by simp) ?_
  intro S hS
  have k0 : ∀ A, S A → A.cell? ⟨w.heap.size, 0, none⟩ = some (.int .i64 (n : Int)) ∧ A.cell? ⟨w.heap.size, 1, none⟩ = some (.int .i64 (k : Int)) ∧ A.cell? ⟨w.heap.size, 2, none⟩ = some (.string wd) ∧ A.cell? ⟨b, o + n * 32 + 1, none⟩ = some (.string t.ware) := fun A hA => by
   have f := (ST.out.below (hS A hA)).f
   exact ⟨f.1, f.2.1, f.2.2, (HAT.out.below (hS A hA)).fields.2.1⟩
  have K0 := Lib.hid k0
  have L1 := Lib.hid (fun A hA => TypAt.load (HAT.out.below (hS A hA)))
  have HS := Lib.hid hS
  clear hS k0
  simp only [List.take_succ_cons, List.take_zero, List.drop_succ_cons, List.drop_zero]
  repeat (first
   | (refine held_load 71 _ (by rfl) rfl rfl L1.out ?_; try (dsimp only); try simp only [Act.put, List.setIfInBounds_toArray, List.set_cons_zero, List.set_cons_succ])
   | (refine held_not rfl (by rfl) ?_; try (dsimp only); try simp only [Act.put, List.setIfInBounds_toArray, List.set_cons_zero, List.set_cons_succ])
   | (refine held_val (v := ?_) rfl (by rfl) ?_ ?_; rotate_left; (· (intro W hW; obtain ⟨q0, q1, q2, q3⟩ := K0.out W hW; go_simp; try with_reducible rfl)); try (dsimp only); try simp only [Act.put, List.setIfInBounds_toArray, List.set_cons_zero, List.set_cons_succ])
   | (refine held_skip rfl (by rfl) ?_ ?_; (· (intro W hW; obtain ⟨q0, q1, q2, q3⟩ := K0.out W hW; go_simp; try with_reducible rfl)); try (dsimp only); try simp only [Act.put, List.setIfInBounds_toArray, List.set_cons_zero, List.set_cons_succ])
   | (refine held_call (v := .int .i64 (shiftsOf t r : Nat)) (f := 107) (args := #[.agg (typCells t), .slice ra r.length rc]) rfl (by rfl) ?_ ?_ ?_; (· (intro W hW; go_simp; done)); (· exact (fun W hW => HSH.out W (ST.out.k.rg.below (HS.out W hW)))); try (dsimp only); try simp only [Act.put, List.setIfInBounds_toArray, List.set_cons_zero, List.set_cons_succ])
   | (refine held_call (v := .bool true) (f := 102) (args := #[.agg (typCells t), .string wd]) rfl (by rfl) ?_ ?_ ?_; (· (intro W hW; go_simp; done)); (· exact (fun W hW => HPF.out W)); try (dsimp only); try simp only [Act.put, List.setIfInBounds_toArray, List.set_cons_zero, List.set_cons_succ])
   | (refine held_call (v := .bool false) (f := 111) (args := #[.agg (typCells t), .slice ra r.length rc, .int .i64 (k : Int), .int .i64 (wd.size : Int)]) rfl (by rfl) ?_ ?_ ?_; (· (intro W hW; go_simp; done)); (· exact (fun W hW => HWH.out W (ST.out.k.rg.below (HS.out W hW)))); try (dsimp only); try simp only [Act.put, List.setIfInBounds_toArray, List.set_cons_zero, List.set_cons_succ]))
  refine held_nil ?_
  intro τ hτ W2 hW hO
  obtain rfl := laid0 hτ
  have ST2 := Lib.hid (ST.out.below (HS.out W2 hW))
  clear hτ hO hW K0 HS
  simp only [overs, List.foldl_nil]
  go_wp2_with fail
  exact bodyPost_ret (results_tmp_tmp4 rfl) rfl ⟨by rw [HN.out]; rfl, ST2.out.b⟩
 have HPW := Lib.hid (show profB t.kd t.least t.most (bl wd) = true ∧ wholeB t r k (bl wd).length = true from ⟨q6, by rw [bl_len]; exact q7⟩)
 rw [q6] at HPF
 rw [q7] at HWH
 go_wp2_with fail
 refine wp_region_heldB 63 [] (by kernel_rfl) (by kernel_rfl) (by kernel_rfl) (by simp) ?_
 intro S hS
 have k0 : ∀ A, S A → A.cell? ⟨w.heap.size, 0, none⟩ = some (.int .i64 (n : Int)) ∧ A.cell? ⟨w.heap.size, 1, none⟩ = some (.int .i64 (k : Int)) ∧ A.cell? ⟨w.heap.size, 2, none⟩ = some (.string wd) ∧ A.cell? ⟨b, o + n * 32 + 1, none⟩ = some (.string t.ware) := fun A hA => by
  have f := (ST.out.below (hS A hA)).f
  exact ⟨f.1, f.2.1, f.2.2, (HAT.out.below (hS A hA)).fields.2.1⟩
 have K0 := Lib.hid k0
 have L1 := Lib.hid (fun A hA => TypAt.load (HAT.out.below (hS A hA)))
 have HS := Lib.hid hS
 clear hS k0
 simp only [List.take_succ_cons, List.take_zero, List.drop_succ_cons, List.drop_zero]
 repeat (first
  | (refine held_load 71 _ (by rfl) rfl rfl L1.out ?_; try (dsimp only); try simp only [Act.put, List.setIfInBounds_toArray, List.set_cons_zero, List.set_cons_succ])
  | (refine held_not rfl (by rfl) ?_; try (dsimp only); try simp only [Act.put, List.setIfInBounds_toArray, List.set_cons_zero, List.set_cons_succ])
  | (refine held_val (v := ?_) rfl (by rfl) ?_ ?_; rotate_left; (· (intro W hW; obtain ⟨q0, q1, q2, q3⟩ := K0.out W hW; go_simp; try with_reducible rfl)); try (dsimp only); try simp only [Act.put, List.setIfInBounds_toArray, List.set_cons_zero, List.set_cons_succ])
  | (refine held_skip rfl (by rfl) ?_ ?_; (· (intro W hW; obtain ⟨q0, q1, q2, q3⟩ := K0.out W hW; go_simp; try with_reducible rfl)); try (dsimp only); try simp only [Act.put, List.setIfInBounds_toArray, List.set_cons_zero, List.set_cons_succ])
  | (refine held_call (v := .int .i64 (shiftsOf t r : Nat)) (f := 107) (args := #[.agg (typCells t), .slice ra r.length rc]) rfl (by rfl) ?_ ?_ ?_; (· (intro W hW; go_simp; done)); (· exact (fun W hW => HSH.out W (ST.out.k.rg.below (HS.out W hW)))); try (dsimp only); try simp only [Act.put, List.setIfInBounds_toArray, List.set_cons_zero, List.set_cons_succ])
  | (refine held_call (v := .bool true) (f := 102) (args := #[.agg (typCells t), .string wd]) rfl (by rfl) ?_ ?_ ?_; (· (intro W hW; go_simp; done)); (· exact (fun W hW => HPF.out W)); try (dsimp only); try simp only [Act.put, List.setIfInBounds_toArray, List.set_cons_zero, List.set_cons_succ])
  | (refine held_call (v := .bool true) (f := 111) (args := #[.agg (typCells t), .slice ra r.length rc, .int .i64 (k : Int), .int .i64 (wd.size : Int)]) rfl (by rfl) ?_ ?_ ?_; (· (intro W hW; go_simp; done)); (· exact (fun W hW => HWH.out W (ST.out.k.rg.below (HS.out W hW)))); try (dsimp only); try simp only [Act.put, List.setIfInBounds_toArray, List.set_cons_zero, List.set_cons_succ]))
 refine held_nil ?_
 intro τ hτ W2 hW hO
 obtain rfl := laid0 hτ
 have ST2 := Lib.hid (ST.out.below (HS.out W2 hW))
 clear hτ hO hW K0 HS
 simp only [overs, List.foldl_nil]
 clear hkd hnd q1 q2 q3 q4 q5 q6 q7 HPF HWH HSH L1 HAT ST HSM
 go_wp2_with fail
 go_loopw [11] (fun pv wr => ∃ p : Nat, p ≤ wd.size ∧ pv = .int .i64 p ∧ (∀ j, j < p → inL (bl (ringS r k j)) ((bl wd)[j]?.getD 0) = true) ∧ CfR w.heap.size n k wd (some ⟨b, o, none⟩) c l ra rc r w wr) (fun pv _ => wd.size - (intOf pv).toNat)
 case atStart => exact ⟨0, Nat.zero_le _, rfl, fun j hj => absurd hj (Nat.not_lt_zero j), ST2.out⟩
 case round =>
  clear ST2 W2
  obtain ⟨p, hp, rfl, hall, st⟩ := hrel
  have HA := Lib.hid hall
  have ST := Lib.hid st
  have c2 := st.f.2.2
  clear hall st
  by_cases hlt : p < wd.size
  ·obtain ⟨x, hx⟩ : ∃ x, wd[p] = x := ⟨_, rfl⟩
   have bx : (bl wd)[p]? = some x := by rw [bl_at wd hlt, hx]
   have hpi : (p : Int) < (wd.size : Int) := by omega
   have hp0 : (0 : Int) ≤ (p : Int) := by omega
   have hrs : (ringS r k p).size ≤ 1000000 := set_size (ringS_set HG.out.set k p)
   have HRG := Lib.hid (fun W (hW : RngsAt W ra r) => ringR_any ra rc r k p hk1 HG.out W hW)
   have HIN := Lib.hid (fun W => inR_any (ringS r k p) x hrs W)
   have HLK := Lib.hid (show inL (bl (ringS r k p)) ((bl wd)[p]?.getD 0) = inL (bl (ringS r k p)) x by rw [bx]; rfl)
   clear bx hrs
   rcases hq : inL (bl (ringS r k p)) x with _ | _
   ·rw [hq] at HIN HLK
    have HN := Lib.hid (HNO.out (by rw [Bool.eq_false_iff]; intro hf; have := (HFI.out.1 hf).2.2 p (by rw [bl_len]; exact hlt); rw [HLK.out] at this; cases this))
    go_wp2_with fail
    clear c2
    refine wp_region_heldB 11 [] (by kernel_rfl) (by kernel_rfl) (by kernel_rfl) (by simp) ?_
    intro S hS
    have k0 : ∀ A, S A → A.cell? ⟨w.heap.size, 1, none⟩ = some (.int .i64 (k : Int)) ∧ A.cell? ⟨w.heap.size, 2, none⟩ = some (.string wd) := fun A hA => (ST.out.below (hS A hA)).f.2
    have K0 := Lib.hid k0
    have HS := Lib.hid hS
    clear hS k0
    simp only [List.take_succ_cons, List.take_zero, List.drop_succ_cons, List.drop_zero]
    repeat (first
     | (refine held_not rfl (by rfl) ?_; try (dsimp only); try simp only [Act.put, List.setIfInBounds_toArray, List.set_cons_zero, List.set_cons_succ])
     | (refine held_val (v := ?_) rfl (by rfl) ?_ ?_; rotate_left; (· (intro W hW; obtain ⟨q0, q1⟩ := K0.out W hW; go_simp; try with_reducible rfl)); try (dsimp only); try simp only [Act.put, List.setIfInBounds_toArray, List.set_cons_zero, List.set_cons_succ])
     | (refine held_skip rfl (by rfl) ?_ ?_; (· (intro W hW; obtain ⟨q0, q1⟩ := K0.out W hW; go_simp; try with_reducible rfl)); try (dsimp only); try simp only [Act.put, List.setIfInBounds_toArray, List.set_cons_zero, List.set_cons_succ])
     | (refine held_call (v := .string (ringS r k p)) (f := 112) (args := #[.slice ra r.length rc, .int .i64 (k : Int), .int .i64 (p : Int)]) rfl (by rfl) ?_ ?_ ?_; (· (intro W hW; go_simp; done)); (· exact (fun W hW => (HRG.out W (ST.out.k.rg.below (HS.out W hW))).mono fun e w' h => ⟨h.1, h.2 ▸ Below.refl _ _⟩)); try (dsimp only); try simp only [Act.put, List.setIfInBounds_toArray, List.set_cons_zero, List.set_cons_succ])
     | (refine held_call (v := .bool false) (f := 37) (args := #[.string (ringS r k p), .int .u8 x.toNat]) rfl (by rfl) ?_ ?_ ?_; (· (intro W hW; go_simp; done)); (· exact (fun W hW => (HIN.out W).mono fun e w' h => ⟨h.1, h.2 ▸ Below.refl _ _⟩)); try (dsimp only); try simp only [Act.put, List.setIfInBounds_toArray, List.set_cons_zero, List.set_cons_succ]))
    refine held_nil ?_
    intro τ hτ W2 hW hO
    obtain rfl := laid0 hτ
    have ST2 := Lib.hid (ST.out.below (HS.out W2 hW))
    clear hτ hO hW K0 HS
    simp only [overs, List.foldl_nil]
    go_wp2_with fail
    exact bodyPost_ret (results_tmp_tmp4 rfl) rfl ⟨by rw [HN.out]; rfl, ST2.out.b⟩
   ·rw [hq] at HIN HLK
    go_wp2_with fail
    clear c2
    refine wp_region_heldB 11 [] (by kernel_rfl) (by kernel_rfl) (by kernel_rfl) (by simp) ?_
    intro S hS
    have k0 : ∀ A, S A → A.cell? ⟨w.heap.size, 1, none⟩ = some (.int .i64 (k : Int)) ∧ A.cell? ⟨w.heap.size, 2, none⟩ = some (.string wd) := fun A hA => (ST.out.below (hS A hA)).f.2
    have K0 := Lib.hid k0
    have HS := Lib.hid hS
    clear hS k0
    simp only [List.take_succ_cons, List.take_zero, List.drop_succ_cons, List.drop_zero]
    repeat (first
     | (refine held_not rfl (by rfl) ?_; try (dsimp only); try simp only [Act.put, List.setIfInBounds_toArray, List.set_cons_zero, List.set_cons_succ])
     | (refine held_val (v := ?_) rfl (by rfl) ?_ ?_; rotate_left; (· (intro W hW; obtain ⟨q0, q1⟩ := K0.out W hW; go_simp; try with_reducible rfl)); try (dsimp only); try simp only [Act.put, List.setIfInBounds_toArray, List.set_cons_zero, List.set_cons_succ])
     | (refine held_skip rfl (by rfl) ?_ ?_; (· (intro W hW; obtain ⟨q0, q1⟩ := K0.out W hW; go_simp; try with_reducible rfl)); try (dsimp only); try simp only [Act.put, List.setIfInBounds_toArray, List.set_cons_zero, List.set_cons_succ])
     | (refine held_call (v := .string (ringS r k p)) (f := 112) (args := #[.slice ra r.length rc, .int .i64 (k : Int), .int .i64 (p : Int)]) rfl (by rfl) ?_ ?_ ?_; (· (intro W hW; go_simp; done)); (· exact (fun W hW => (HRG.out W (ST.out.k.rg.below (HS.out W hW))).mono fun e w' h => ⟨h.1, h.2 ▸ Below.refl _ _⟩)); try (dsimp only); try simp only [Act.put, List.setIfInBounds_toArray, List.set_cons_zero, List.set_cons_succ])
     | (refine held_call (v := .bool true) (f := 37) (args := #[.string (ringS r k p), .int .u8 x.toNat]) rfl (by rfl) ?_ ?_ ?_; (· (intro W hW; go_simp; done)); (· exact (fun W hW => (HIN.out W).mono fun e w' h => ⟨h.1, h.2 ▸ Below.refl _ _⟩)); try (dsimp only); try simp only [Act.put, List.setIfInBounds_toArray, List.set_cons_zero, List.set_cons_succ]))
    refine held_nil ?_
    intro τ hτ W2 hW hO
    obtain rfl := laid0 hτ
    have ST2 := Lib.hid (ST.out.below (HS.out W2 hW))
    clear hτ hO hW K0 HS
    simp only [overs, List.foldl_nil]
    go_wp2_with fail
    go_roundw
    case rel => exact ⟨p + 1, by omega, by go_num, all_step HA.out HLK.out, ST2.out⟩
    case measure => simp [intOf]; omega
  ·have hpn : decide ((p : Int) < (wd.size : Int)) = false := by simp; omega
   have HY := Lib.hid (fitOut_yes (wd := wd) H0.out HT.out HWA.out HKS.out (HFI.out.2 ⟨HPW.out.1, HPW.out.2, fun j hj => HA.out j (by rw [bl_len] at hj; omega)⟩))
   go_wp2_with fail
   exact bodyPost_ret (results_tmp_tmp4 rfl) rfl ⟨by rw [HY.out]; rfl, ST.out.b⟩
end Go.Proofs.YthpjffhccjlnhaaGreatDoor
