/- Package profile: rings; first[Ring]. (first: turned from GFirst.) No condition. -/
/- Package profile: CheckRings. Printed by mk_checkr.py. No condition. -/
/- Package profile: asked, wanted. No condition. -/
/- Package profile: wanted. No condition. -/
import Derived.Test.YthpjffhccjlnhaaGreatDoorMG5
set_option linter.unusedSimpArgs false
set_option linter.unusedVariables false
namespace Go.Proofs.YthpjffhccjlnhaaGreatDoor
open Go.RowKit
attribute [local go_sem] Oper.semAt_some

def rngF (y : Rng) : Nat → Value
 | 0 => .int .i64 y.at_
 | _ => .string y.set
def rngCells (y : Rng) : Array Value := fnCells 2 (rngF y)
def rng0 : Rng := ⟨0, ByteArray.empty⟩
theorem rngF_one (y : Rng) (j : Nat) : (rngF y j).oneCell' = true := by rcases j with _ | j <;> rfl
theorem agg_rng : Agg Tryz.prog 48 2 := ⟨⟨_, Tryz.underlying48, rfl⟩, by kernel_rfl⟩
theorem zrng : (#[.int .i64 0, .string { data := #[] }] : Array Value) = rngCells rng0 := by kernel_rfl
theorem rngCells_eq (y : Rng) : rngCells y = #[.int .i64 y.at_, .string y.set] := rfl
/-- a ring at a place -/
def RngAt (w : World) (b o : Nat) (y : Rng) : Prop := ∀ j, j < 2 → w.cell? ⟨b, o + j, none⟩ = some (rngF y j)
theorem RngAt.below {w w' : World} {b o : Nat} {y : Rng} (h : RngAt w b o y) (hb : Below w.heap.size w w') : RngAt w' b o y := fun j hj => below_cell hb (h j hj)
theorem RngAt.load {w : World} {b o : Nat} {y : Rng} (h : RngAt w b o y) : (Instr.loadAt 48 (.pointer (some ⟨b, o, none⟩))).run Tryz.prog w = .ok (.agg (rngCells y)) w := run_load_fn agg_rng h
theorem RngAt.fields {w : World} {b o : Nat} {y : Rng} (h : RngAt w b o y) : w.cell? ⟨b, o, none⟩ = some (.int .i64 y.at_) ∧ w.cell? ⟨b, o + 1, none⟩ = some (.string y.set) := ⟨h 0 (by omega), h 1 (by omega)⟩
theorem Box.rng {w : World} {b : Nat} {y : Rng} {ty : TypeId} (h : Box w b (rngCells y) ty) : RngAt w b 0 y := fun j hj => by rw [Nat.zero_add]; exact h.fn hj
/-- a slice of rings -/
def RngsAt (w : World) (a : Option Addr) (l : List Rng) : Prop := ∀ k y, l[k]? = some y → ∃ b o, a = some ⟨b, o, none⟩ ∧ RngAt w b (o + k * 2) y
theorem RngsAt.below {w w' : World} {a : Option Addr} {l : List Rng} (h : RngsAt w a l) (hb : Below w.heap.size w w') : RngsAt w' a l := fun k y hy => by
 obtain ⟨b, o, ha, h1⟩ := h k y hy; exact ⟨b, o, ha, h1.below hb⟩
set_option maxRecDepth 100000 in
set_option maxHeartbeats 1000000 in
theorem firstR_any (K : Nat) (caps : Array Value) (er : Nat → Int) (hent : ∀ args W, (callFunc K args).run Tryz.prog W = .ok (.enter K args) W) (a : Option Addr) (c : Nat) (l : List Rng) (w : World)
  (hf : ∀ i x, l[i]? = some x → ∀ W, Below w.heap.size w W → Calls Tryz.prog K (#[.slice a i i, .agg (rngCells x)] ++ caps) W fun e W' => e = .returned (.int .i64 (er i)) ∧ Below W.heap.size W W') (h : RngsAt w a l) (hl : l.length ≤ 1000000) (hlc : l.length ≤ c) :
  Calls Tryz.prog 119 #[.slice a l.length c, .func (.func K) #[] caps] w fun e w' => e = .returned (.int .i64 (firstE er l.length)) ∧ Below w.heap.size w w' := by
 have HF := Lib.hid hf
 have HT := Lib.hid h
 clear hf h
 go_enter Tryz.func119, Tryz.ntmps119
 go_wp2_with fail
 go_loopw [10] (fun iv wr => ∃ k : Nat, k ≤ l.length ∧ iv = .int .i64 k ∧ (∀ j, j < k → er j = 0) ∧ Below w.heap.size w wr) (fun iv _ => l.length - (intOf iv).toNat)
 case atStart => exact ⟨0, Nat.zero_le _, rfl, fun j hj => absurd hj (Nat.not_lt_zero j), Below.refl _ _⟩
 case round =>
  obtain ⟨k, hk, rfl, hall, hbw⟩ := hrel
  have HA := Lib.hid hall
  have HW := Lib.hid hbw
  clear hall hbw
  by_cases hlt : k < l.length
  ·obtain ⟨x, hx⟩ : ∃ x, l[k]? = some x := ⟨l[k], by simp [hlt]⟩
   obtain ⟨b, o, rfl, hc⟩ := (HT.out.below HW.out) k x hx
   have hki : (k : Int) < (l.length : Int) := by omega
   have hk0 : (0 : Int) ≤ (k : Int) := by omega
   have hkc : (k : Int) ≤ (c : Int) := by omega
   have HX := Lib.hid hx
   have HL := Lib.hid hc.load
   obtain ⟨w2, hw2⟩ : ∃ w2, wr.alloc (.cells (rngCells rng0) 48) = w2 := ⟨_, rfl⟩
   have b2 : Box w2 wr.heap.size (rngCells rng0) 48 := by rw [← hw2]; exact Box.new _ _ _
   have hb2 : Below wr.heap.size wr w2 := by rw [← hw2]; go_grown
   obtain ⟨w3, hst, hw3⟩ := run_store_all (P := Tryz.prog) agg_rng b2 (rngF x) (fun j _ => rngF_one x j)
   have HB3 := Lib.hid (HW.out.trans ((hw3.below hb2 (Nat.le_refl _)).mono HW.out.size))
   have HX3 := Lib.hid hw3.box.rng
   have HW2 := Lib.hid hw2
   have HST := Lib.hid hst
   clear hx hc hw2 b2 hb2 hst hw3
   go_upto_region 4 with (first
    | (refine wpList_load_box rfl 48 _ rfl rfl HL.out ?_)
    | (simp only [zrng, HW2.out]; refine wpList_store_box rfl 48 _ _ rfl rfl rfl HST.out ?_))
   refine wp_region_heldB 7 [] (by kernel_rfl) (by kernel_rfl) (by kernel_rfl) (by simp) ?_
   intro S hS
   have L2 := Lib.hid (fun A hA => RngAt.load (HX3.out.below (hS A hA)))
   have HS := Lib.hid hS
   clear hS
   simp only [List.take_succ_cons, List.take_zero, List.drop_succ_cons, List.drop_zero]
   repeat (first
    | (refine held_load 48 _ (by rfl) rfl rfl L2.out ?_; try (dsimp only); try simp only [Act.put, List.setIfInBounds_toArray, List.set_cons_zero, List.set_cons_succ])
    | (refine held_not rfl (by rfl) ?_; try (dsimp only); try simp only [Act.put, List.setIfInBounds_toArray, List.set_cons_zero, List.set_cons_succ])
    | (refine held_val (v := ?_) rfl (by rfl) ?_ ?_; rotate_left; (· (intro W hW; go_simp; try with_reducible rfl)); try (dsimp only); try simp only [Act.put, List.setIfInBounds_toArray, List.set_cons_zero, List.set_cons_succ])
    | (refine held_skip rfl (by rfl) ?_ ?_; (· (intro W hW; go_simp; try with_reducible rfl)); try (dsimp only); try simp only [Act.put, List.setIfInBounds_toArray, List.set_cons_zero, List.set_cons_succ])
    | (refine held_call (v := .int .i64 (er k)) (f := K) (args := #[.slice (some ⟨b, o, none⟩) k k, .agg (rngCells x)] ++ caps) rfl (by rfl) ?_ ?_ ?_; (· (intro W hW; go_simp; done)); (· exact (fun W hW => HF.out k x HX.out W (HB3.out.trans ((HS.out W hW).mono HB3.out.size)))); try (dsimp only); try simp only [Act.put, List.setIfInBounds_toArray, List.set_cons_zero, List.set_cons_succ]))
   refine held_nil ?_
   intro τ hτ W4 hW hO
   obtain rfl := laid0 hτ
   have HB4 := Lib.hid (HB3.out.trans ((HS.out W4 hW).mono HB3.out.size))
   clear hτ hO hW HS L2 HST HW2 HL
   simp only [overs, List.foldl_nil]
   by_cases he : er k = 0
   ·have HE := Lib.hid he
    rw [he]
    clear he
    go_wp2_with fail
    go_roundw
    case rel =>
     refine ⟨k + 1, by omega, by go_num, fun j hj => ?_, HB4.out⟩
     rcases Nat.lt_or_ge j k with h1 | h1
     ·exact HA.out j h1
     ·have : j = k := by omega
      subst this; exact HE.out
    case measure => simp [intOf]; omega
   ·have HE := Lib.hid (firstE_at hlt he HA.out)
    have hne : (er k == 0) = false := by simpa using he
    go_wp2_with fail
    go_ret
    exact ⟨ret_int HE.out.symm, HB4.out⟩
  ·have hkn : decide ((k : Int) < (l.length : Int)) = false := by simp; omega
   have HE := Lib.hid (firstE_none (er := er) (n := l.length) fun j hj => HA.out j (by omega))
   go_wp2_with fail
   go_ret
   exact ⟨ret_int HE.out.symm, HW.out⟩
end Go.Proofs.YthpjffhccjlnhaaGreatDoor
namespace Go.Proofs.YthpjffhccjlnhaaGreatDoor
open Go.RowKit
attribute [local go_sem] Oper.semAt_some

/-- the ring ahead stands not before it -/
def prevB (l : List Rng) (y : Rng) : Nat → Bool
 | 0 => false
 | k + 1 => match l[k]? with | some z => decide (y.at_ ≤ z.at_) | none => false
/-- what is wrong with the ring at a place -/
def rngErr (l : List Rng) (i : Nat) : Int := match l[i]? with
 | some y => if !inB y.at_ 0 11 || y.set.toList.isEmpty || !isSetB (bl y.set) || prevB l y i then 1 else 0
 | none => 0
def ringsErr (l : List Rng) : Int := if 12 < l.length then 2 else firstE (rngErr l) l.length
theorem inI_any (a b c : Int) (w : World) : Calls Tryz.prog 95 #[.int .i64 a, .int .i64 b, .int .i64 c] w fun e w' => e = .returned (.bool (inB a b c)) ∧ Below w.heap.size w w' :=
 (in_any a b c w).mono fun e w' h => ⟨h.1, h.2 ▸ Below.refl _ _⟩
set_option maxRecDepth 100000 in
set_option maxHeartbeats 1000000 in
theorem rngErr_any (l : List Rng) (i : Nat) (y : Rng) (a : Option Addr) (hy : l[i]? = some y) (ht : y.set.size ≤ 1000) (w : World) (h : RngsAt w a l) (hl : l.length ≤ 1000000) :
  Calls Tryz.prog 120 #[.slice a i i, .agg (rngCells y)] w fun e w' => e = .returned (.int .i64 (rngErr l i)) ∧ Below w.heap.size w w' := by
 have hil : i < l.length := (List.getElem?_eq_some_iff.1 hy).1
 obtain ⟨w1, hw1⟩ : ∃ w1, w.alloc (.cells (rngCells y) 48) = w1 := ⟨_, rfl⟩
 have b0 : Box w1 w.heap.size (rngCells y) 48 := by rw [← hw1]; exact Box.new _ _ _
 have hB : Below w.heap.size w w1 := by rw [← hw1]; go_grown
 have f0 := (Box.rng b0).fields
 have F0 := Lib.hid f0
 have HT := Lib.hid (h.below hB)
 have HB := Lib.hid hB
 have HW := Lib.hid hw1
 have HE : Hid (rngErr l i = if !inB y.at_ 0 11 || y.set.toList.isEmpty || !isSetB (bl y.set) || prevB l y i then 1 else 0) := Lib.hid (by unfold rngErr; rw [hy])
 have hsz : y.set.size ≤ 1000000 := by omega
 clear b0 hB h hw1 ht hy f0
 rcases h1 : inB y.at_ 0 11 with _ | _
 ·rw [h1] at HE; simp only [Bool.not_false, Bool.true_or, if_true] at HE
  go_enter Tryz.func120, Tryz.ntmps120
  go_upto_region 1 with fail
  simp only [HW.out]
  refine wp_region_heldB 32 [] (by kernel_rfl) (by kernel_rfl) (by kernel_rfl) (by simp) ?_
  intro S hS
  have k0 : ∀ A, S A → A.cell? ⟨w.heap.size, 0, none⟩ = some (.int .i64 y.at_) ∧ A.cell? ⟨w.heap.size, 0 + 1, none⟩ = some (.string y.set) := fun A hA => ⟨below_cell (hS A hA) F0.out.1, below_cell (hS A hA) F0.out.2⟩
  simp only [Nat.zero_add] at k0
  have K0 := Lib.hid k0
  have HS := Lib.hid hS
  clear hS k0
  simp only [List.take_succ_cons, List.take_zero, List.drop_succ_cons, List.drop_zero]
  repeat (first
   | (refine held_not rfl (by rfl) ?_; try (dsimp only); try simp only [Act.put, List.setIfInBounds_toArray, List.set_cons_zero, List.set_cons_succ])
   | (refine held_val (v := ?_) rfl (by rfl) ?_ ?_; rotate_left; (· (intro W hW; obtain ⟨q0, q1⟩ := K0.out W hW; go_simp; try with_reducible rfl)); try (dsimp only); try simp only [Act.put, List.setIfInBounds_toArray, List.set_cons_zero, List.set_cons_succ])
   | (refine held_skip rfl (by rfl) ?_ ?_; (· (intro W hW; obtain ⟨q0, q1⟩ := K0.out W hW; go_simp; try with_reducible rfl)); try (dsimp only); try simp only [Act.put, List.setIfInBounds_toArray, List.set_cons_zero, List.set_cons_succ])
   | (refine held_call (v := .bool false) (f := 95) (args := #[.int .i64 y.at_, .int .i64 0, .int .i64 11]) rfl (by rfl) ?_ ?_ ?_; (· (intro W hW; go_simp; done)); (· exact (fun W hW => by have := inI_any y.at_ 0 11 W; rwa [h1] at this)); try (dsimp only); try simp only [Act.put, List.setIfInBounds_toArray, List.set_cons_zero, List.set_cons_succ]))
  refine held_nil ?_
  intro τ hτ W2 hW hO
  obtain rfl := laid0 hτ
  have HB2 := Lib.hid (HB.out.trans ((HS.out W2 hW).mono HB.out.size))
  clear hτ hO hW K0 HS
  simp only [overs, List.foldl_nil]
  go_wp2_with fail
  go_ret
  exact ⟨ret_int HE.out.symm, HB2.out⟩
 rcases h2' : !y.set.toList.isEmpty with _ | _
 ·have h2 : y.set.toList.isEmpty = true := by simpa using h2'
  rw [h1, h2] at HE; simp only [Bool.not_true, Bool.false_or, Bool.true_or, if_true] at HE
  go_enter Tryz.func120, Tryz.ntmps120
  go_upto_region 1 with fail
  simp only [HW.out]
  refine wp_region_heldB 32 [] (by kernel_rfl) (by kernel_rfl) (by kernel_rfl) (by simp) ?_
  intro S hS
  have k0 : ∀ A, S A → A.cell? ⟨w.heap.size, 0, none⟩ = some (.int .i64 y.at_) ∧ A.cell? ⟨w.heap.size, 0 + 1, none⟩ = some (.string y.set) := fun A hA => ⟨below_cell (hS A hA) F0.out.1, below_cell (hS A hA) F0.out.2⟩
  simp only [Nat.zero_add] at k0
  have K0 := Lib.hid k0
  have HS := Lib.hid hS
  clear hS k0
  simp only [List.take_succ_cons, List.take_zero, List.drop_succ_cons, List.drop_zero]
  repeat (first
   | (refine held_not rfl (by rfl) ?_; try (dsimp only); try simp only [Act.put, List.setIfInBounds_toArray, List.set_cons_zero, List.set_cons_succ])
   | (refine held_val (v := ?_) rfl (by rfl) ?_ ?_; rotate_left; (· (intro W hW; obtain ⟨q0, q1⟩ := K0.out W hW; go_simp; try with_reducible rfl)); try (dsimp only); try simp only [Act.put, List.setIfInBounds_toArray, List.set_cons_zero, List.set_cons_succ])
   | (refine held_skip rfl (by rfl) ?_ ?_; (· (intro W hW; obtain ⟨q0, q1⟩ := K0.out W hW; go_simp; try with_reducible rfl)); try (dsimp only); try simp only [Act.put, List.setIfInBounds_toArray, List.set_cons_zero, List.set_cons_succ])
   | (refine held_call (v := .bool true) (f := 95) (args := #[.int .i64 y.at_, .int .i64 0, .int .i64 11]) rfl (by rfl) ?_ ?_ ?_; (· (intro W hW; go_simp; done)); (· exact (fun W hW => by have := inI_any y.at_ 0 11 W; rwa [h1] at this)); try (dsimp only); try simp only [Act.put, List.setIfInBounds_toArray, List.set_cons_zero, List.set_cons_succ]))
  refine held_nil ?_
  intro τ hτ W2 hW hO
  obtain rfl := laid0 hτ
  have HB2 := Lib.hid (HB.out.trans ((HS.out W2 hW).mono HB.out.size))
  clear hτ hO hW K0 HS
  simp only [overs, List.foldl_nil]
  go_wp2_with fail
  go_ret
  exact ⟨ret_int HE.out.symm, HB2.out⟩
 have h2 : y.set.toList.isEmpty = false := by simpa using h2'
 rcases h3 : isSetB (bl y.set) with _ | _
 ·rw [h1, h2, h3] at HE; simp only [Bool.not_true, Bool.not_false, Bool.false_or, Bool.true_or, if_true] at HE
  go_enter Tryz.func120, Tryz.ntmps120
  go_upto_region 1 with fail
  simp only [HW.out]
  refine wp_region_heldB 32 [] (by kernel_rfl) (by kernel_rfl) (by kernel_rfl) (by simp) ?_
  intro S hS
  have k0 : ∀ A, S A → A.cell? ⟨w.heap.size, 0, none⟩ = some (.int .i64 y.at_) ∧ A.cell? ⟨w.heap.size, 0 + 1, none⟩ = some (.string y.set) := fun A hA => ⟨below_cell (hS A hA) F0.out.1, below_cell (hS A hA) F0.out.2⟩
  simp only [Nat.zero_add] at k0
  have K0 := Lib.hid k0
  have HS := Lib.hid hS
  clear hS k0
  simp only [List.take_succ_cons, List.take_zero, List.drop_succ_cons, List.drop_zero]
  repeat (first
   | (refine held_not rfl (by rfl) ?_; try (dsimp only); try simp only [Act.put, List.setIfInBounds_toArray, List.set_cons_zero, List.set_cons_succ])
   | (refine held_val (v := ?_) rfl (by rfl) ?_ ?_; rotate_left; (· (intro W hW; obtain ⟨q0, q1⟩ := K0.out W hW; go_simp; try with_reducible rfl)); try (dsimp only); try simp only [Act.put, List.setIfInBounds_toArray, List.set_cons_zero, List.set_cons_succ])
   | (refine held_skip rfl (by rfl) ?_ ?_; (· (intro W hW; obtain ⟨q0, q1⟩ := K0.out W hW; go_simp; try with_reducible rfl)); try (dsimp only); try simp only [Act.put, List.setIfInBounds_toArray, List.set_cons_zero, List.set_cons_succ])
   | (refine held_call (v := .bool true) (f := 95) (args := #[.int .i64 y.at_, .int .i64 0, .int .i64 11]) rfl (by rfl) ?_ ?_ ?_; (· (intro W hW; go_simp; done)); (· exact (fun W hW => by have := inI_any y.at_ 0 11 W; rwa [h1] at this)); try (dsimp only); try simp only [Act.put, List.setIfInBounds_toArray, List.set_cons_zero, List.set_cons_succ])
   | (refine held_call (v := .bool false) (f := 121) (args := #[.string y.set]) rfl (by rfl) ?_ ?_ ?_; (· (intro W hW; go_simp; done)); (· exact (fun W hW => by have := isSet_any y.set W hsz; rwa [h3] at this)); try (dsimp only); try simp only [Act.put, List.setIfInBounds_toArray, List.set_cons_zero, List.set_cons_succ]))
  refine held_nil ?_
  intro τ hτ W2 hW hO
  obtain rfl := laid0 hτ
  have HB2 := Lib.hid (HB.out.trans ((HS.out W2 hW).mono HB.out.size))
  clear hτ hO hW K0 HS
  simp only [overs, List.foldl_nil]
  go_wp2_with fail
  go_ret
  exact ⟨ret_int HE.out.symm, HB2.out⟩
 rcases i with _ | k
 ·rw [h1, h2, h3] at HE; simp only [prevB, Bool.not_true, Bool.false_or, if_false, Bool.false_eq_true] at HE
  go_enter Tryz.func120, Tryz.ntmps120
  go_upto_region 1 with fail
  simp only [HW.out]
  refine wp_region_heldB 32 [] (by kernel_rfl) (by kernel_rfl) (by kernel_rfl) (by simp) ?_
  intro S hS
  have k0 : ∀ A, S A → A.cell? ⟨w.heap.size, 0, none⟩ = some (.int .i64 y.at_) ∧ A.cell? ⟨w.heap.size, 0 + 1, none⟩ = some (.string y.set) := fun A hA => ⟨below_cell (hS A hA) F0.out.1, below_cell (hS A hA) F0.out.2⟩
  simp only [Nat.zero_add] at k0
  have K0 := Lib.hid k0
  have HS := Lib.hid hS
  clear hS k0
  simp only [List.take_succ_cons, List.take_zero, List.drop_succ_cons, List.drop_zero]
  repeat (first
   | (refine held_not rfl (by rfl) ?_; try (dsimp only); try simp only [Act.put, List.setIfInBounds_toArray, List.set_cons_zero, List.set_cons_succ])
   | (refine held_val (v := ?_) rfl (by rfl) ?_ ?_; rotate_left; (· (intro W hW; obtain ⟨q0, q1⟩ := K0.out W hW; go_simp; try with_reducible rfl)); try (dsimp only); try simp only [Act.put, List.setIfInBounds_toArray, List.set_cons_zero, List.set_cons_succ])
   | (refine held_skip rfl (by rfl) ?_ ?_; (· (intro W hW; obtain ⟨q0, q1⟩ := K0.out W hW; go_simp; try with_reducible rfl)); try (dsimp only); try simp only [Act.put, List.setIfInBounds_toArray, List.set_cons_zero, List.set_cons_succ])
   | (refine held_call (v := .bool true) (f := 95) (args := #[.int .i64 y.at_, .int .i64 0, .int .i64 11]) rfl (by rfl) ?_ ?_ ?_; (· (intro W hW; go_simp; done)); (· exact (fun W hW => by have := inI_any y.at_ 0 11 W; rwa [h1] at this)); try (dsimp only); try simp only [Act.put, List.setIfInBounds_toArray, List.set_cons_zero, List.set_cons_succ])
   | (refine held_call (v := .bool true) (f := 121) (args := #[.string y.set]) rfl (by rfl) ?_ ?_ ?_; (· (intro W hW; go_simp; done)); (· exact (fun W hW => by have := isSet_any y.set W hsz; rwa [h3] at this)); try (dsimp only); try simp only [Act.put, List.setIfInBounds_toArray, List.set_cons_zero, List.set_cons_succ]))
  refine held_nil ?_
  intro τ hτ W2 hW hO
  obtain rfl := laid0 hτ
  have HB2 := Lib.hid (HB.out.trans ((HS.out W2 hW).mono HB.out.size))
  clear hτ hO hW K0 HS
  simp only [overs, List.foldl_nil]
  go_wp2_with fail
  go_ret
  exact ⟨ret_int HE.out.symm, HB2.out⟩
 obtain ⟨z, hz⟩ : ∃ z, l[k]? = some z := ⟨l[k], by simp [show k < l.length by omega]⟩
 obtain ⟨b, o, rfl, hzc⟩ := HT.out k z hz
 have HZ := Lib.hid hzc
 rw [h1, h2, h3] at HE
 simp only [prevB, hz, Bool.not_true, Bool.false_or] at HE
 have hk0 : (0 : Int) ≤ (k : Int) := by omega
 have hk3 : (k : Int) < (k : Int) + 1 := by omega
 have hk4 : (0 : Int) < (k : Int) + 1 := by omega
 have hk5 : IntKind.i64.wrap ((k : Int) + 1 - 1) = (k : Int) := by rw [show (k : Int) + 1 - 1 = (k : Int) by omega]; exact IntWalk.i64_in _ (by omega)
 have hk6 : IntKind.i64.wrap (k : Int) = (k : Int) := IntWalk.i64_in _ (by omega)
 clear hzc hz
 rcases h5 : decide (y.at_ ≤ z.at_) with _ | _
 ·rw [h5] at HE; simp only [Bool.false_eq_true, if_false] at HE
  go_enter Tryz.func120, Tryz.ntmps120
  go_upto_region 1 with fail
  simp only [HW.out]
  refine wp_region_heldB 32 [] (by kernel_rfl) (by kernel_rfl) (by kernel_rfl) (by simp) ?_
  intro S hS
  have k0 : ∀ A, S A → A.cell? ⟨w.heap.size, 0, none⟩ = some (.int .i64 y.at_) ∧ A.cell? ⟨w.heap.size, 0 + 1, none⟩ = some (.string y.set) ∧ A.cell? ⟨b, o + k * 2, none⟩ = some (.int .i64 z.at_) := fun A hA => ⟨below_cell (hS A hA) F0.out.1, below_cell (hS A hA) F0.out.2, (HZ.out.below (hS A hA)).fields.1⟩
  simp only [Nat.zero_add] at k0
  have K0 := Lib.hid k0
  have HS := Lib.hid hS
  clear hS k0
  simp only [List.take_succ_cons, List.take_zero, List.drop_succ_cons, List.drop_zero]
  repeat (first
   | (refine held_not rfl (by rfl) ?_; try (dsimp only); try simp only [Act.put, List.setIfInBounds_toArray, List.set_cons_zero, List.set_cons_succ])
   | (refine held_val (v := ?_) rfl (by rfl) ?_ ?_; rotate_left; (· (intro W hW; obtain ⟨q0, q1, q2⟩ := K0.out W hW; go_simp; try with_reducible rfl)); try (dsimp only); try simp only [Act.put, List.setIfInBounds_toArray, List.set_cons_zero, List.set_cons_succ])
   | (refine held_skip rfl (by rfl) ?_ ?_; (· (intro W hW; obtain ⟨q0, q1, q2⟩ := K0.out W hW; go_simp; try with_reducible rfl)); try (dsimp only); try simp only [Act.put, List.setIfInBounds_toArray, List.set_cons_zero, List.set_cons_succ])
   | (refine held_call (v := .bool true) (f := 95) (args := #[.int .i64 y.at_, .int .i64 0, .int .i64 11]) rfl (by rfl) ?_ ?_ ?_; (· (intro W hW; go_simp; done)); (· exact (fun W hW => by have := inI_any y.at_ 0 11 W; rwa [h1] at this)); try (dsimp only); try simp only [Act.put, List.setIfInBounds_toArray, List.set_cons_zero, List.set_cons_succ])
   | (refine held_call (v := .bool true) (f := 121) (args := #[.string y.set]) rfl (by rfl) ?_ ?_ ?_; (· (intro W hW; go_simp; done)); (· exact (fun W hW => by have := isSet_any y.set W hsz; rwa [h3] at this)); try (dsimp only); try simp only [Act.put, List.setIfInBounds_toArray, List.set_cons_zero, List.set_cons_succ]))
  refine held_nil ?_
  intro τ hτ W2 hW hO
  obtain rfl := laid0 hτ
  have HB2 := Lib.hid (HB.out.trans ((HS.out W2 hW).mono HB.out.size))
  clear hτ hO hW K0 HS
  simp only [overs, List.foldl_nil]
  go_wp2_with fail
  go_ret
  exact ⟨ret_int HE.out.symm, HB2.out⟩
 ·rw [h5] at HE; simp only [if_true] at HE
  go_enter Tryz.func120, Tryz.ntmps120
  go_upto_region 1 with fail
  simp only [HW.out]
  refine wp_region_heldB 32 [] (by kernel_rfl) (by kernel_rfl) (by kernel_rfl) (by simp) ?_
  intro S hS
  have k0 : ∀ A, S A → A.cell? ⟨w.heap.size, 0, none⟩ = some (.int .i64 y.at_) ∧ A.cell? ⟨w.heap.size, 0 + 1, none⟩ = some (.string y.set) ∧ A.cell? ⟨b, o + k * 2, none⟩ = some (.int .i64 z.at_) := fun A hA => ⟨below_cell (hS A hA) F0.out.1, below_cell (hS A hA) F0.out.2, (HZ.out.below (hS A hA)).fields.1⟩
  simp only [Nat.zero_add] at k0
  have K0 := Lib.hid k0
  have HS := Lib.hid hS
  clear hS k0
  simp only [List.take_succ_cons, List.take_zero, List.drop_succ_cons, List.drop_zero]
  repeat (first
   | (refine held_not rfl (by rfl) ?_; try (dsimp only); try simp only [Act.put, List.setIfInBounds_toArray, List.set_cons_zero, List.set_cons_succ])
   | (refine held_val (v := ?_) rfl (by rfl) ?_ ?_; rotate_left; (· (intro W hW; obtain ⟨q0, q1, q2⟩ := K0.out W hW; go_simp; try with_reducible rfl)); try (dsimp only); try simp only [Act.put, List.setIfInBounds_toArray, List.set_cons_zero, List.set_cons_succ])
   | (refine held_skip rfl (by rfl) ?_ ?_; (· (intro W hW; obtain ⟨q0, q1, q2⟩ := K0.out W hW; go_simp; try with_reducible rfl)); try (dsimp only); try simp only [Act.put, List.setIfInBounds_toArray, List.set_cons_zero, List.set_cons_succ])
   | (refine held_call (v := .bool true) (f := 95) (args := #[.int .i64 y.at_, .int .i64 0, .int .i64 11]) rfl (by rfl) ?_ ?_ ?_; (· (intro W hW; go_simp; done)); (· exact (fun W hW => by have := inI_any y.at_ 0 11 W; rwa [h1] at this)); try (dsimp only); try simp only [Act.put, List.setIfInBounds_toArray, List.set_cons_zero, List.set_cons_succ])
   | (refine held_call (v := .bool true) (f := 121) (args := #[.string y.set]) rfl (by rfl) ?_ ?_ ?_; (· (intro W hW; go_simp; done)); (· exact (fun W hW => by have := isSet_any y.set W hsz; rwa [h3] at this)); try (dsimp only); try simp only [Act.put, List.setIfInBounds_toArray, List.set_cons_zero, List.set_cons_succ]))
  refine held_nil ?_
  intro τ hτ W2 hW hO
  obtain rfl := laid0 hτ
  have HB2 := Lib.hid (HB.out.trans ((HS.out W2 hW).mono HB.out.size))
  clear hτ hO hW K0 HS
  simp only [overs, List.foldl_nil]
  go_wp2_with fail
  go_ret
  exact ⟨ret_int HE.out.symm, HB2.out⟩
set_option maxHeartbeats 1000000 in
theorem checkRings_any (a : Option Addr) (c : Nat) (l : List Rng) (w : World) (h : RngsAt w a l) (hs : ∀ y, y ∈ l → y.set.size ≤ 1000) (hl : l.length ≤ 1000000) (hlc : l.length ≤ c) :
  Calls Tryz.prog 62 #[.slice a l.length c] w fun e w' => e = .returned (.int .i64 (ringsErr l)) ∧ Below w.heap.size w w' := by
 have hent : ∀ args W, (callFunc 120 args).run Tryz.prog W = .ok (.enter 120 args) W := enters_of Tryz.func120 (by kernel_rfl) rfl
 have HC := Lib.hid (firstR_any 120 #[] (rngErr l) hent a c l w (fun i x hx W hW => rngErr_any l i x a hx (hs x (List.mem_of_getElem? hx)) W (h.below hW) hl) h hl hlc)
 clear h hs hent
 by_cases h12 : 12 < l.length
 ·have h12i : (12 : Int) < (l.length : Int) := by omega
  have HE : Hid (ringsErr l = 2) := Lib.hid (by unfold ringsErr; rw [if_pos h12])
  go_enter Tryz.func62, Tryz.ntmps62
  go_wp2_with fail
  go_ret
  exact ⟨ret_int HE.out.symm, Below.refl _ _⟩
 ·have h12i : decide ((12 : Int) < (l.length : Int)) = false := by simp; omega
  have HE : Hid (ringsErr l = firstE (rngErr l) l.length) := Lib.hid (by unfold ringsErr; rw [if_neg h12])
  go_enter Tryz.func62, Tryz.ntmps62
  go_wp2_with fail
  refine HC.out.mono ?_
  rintro e w1 ⟨rfl, hb⟩
  have HB := Lib.hid hb
  clear hb
  go_wp2_with fail
  go_ret
  exact ⟨ret_int HE.out.symm, HB.out⟩
end Go.Proofs.YthpjffhccjlnhaaGreatDoor
namespace Go.Proofs.YthpjffhccjlnhaaGreatDoor
open Go.RowKit
attribute [local go_sem] Oper.semAt_some

theorem firstE_zero {er : Nat → Int} {n : Nat} (h : firstE er n = 0) : ∀ j, j < n → er j = 0 := by
 intro j hj
 unfold firstE at h
 rcases hf : (List.range n).find? (fun i => er i != 0) with _ | i
 ·have := List.find?_eq_none.1 hf j (by simpa using hj)
  simpa using this
 ·rw [hf] at h
  have := List.find?_some hf
  simp only at h
  rw [h] at this; simp at this
theorem typesErr_good {l : List Typ} (h : typesErr l = 0) : l.length ≤ 12 ∧ ∀ (i : Nat) x, l[i]? = some x → typeB x = true := by
 unfold typesErr at h
 split at h
 ·cases h
 ·refine ⟨by omega, fun i x hx => ?_⟩
  have := firstE_zero h i (List.getElem?_eq_some_iff.1 hx).1
  unfold typErr at this
  rw [hx] at this
  rcases hb : typeB x with _ | _
  ·simp [hb] at this
  ·rfl
theorem typeB_good {t : Typ} (h : typeB t = true) : t.sets = true ∧ 1 ≤ t.least ∧ t.least ≤ t.most ∧ t.most ≤ 12 := by
 simp only [typeB, Bool.and_eq_true, decide_eq_true_eq] at h
 obtain ⟨⟨⟨⟨⟨⟨⟨⟨_, _⟩, h3⟩, h4⟩, _⟩, _⟩, h7⟩, h8⟩, h9⟩ := h
 refine ⟨Typ.sets_iff.2 ⟨h7, h8, fun c hc => ?_⟩, ?_, ?_, h4⟩
 ·simp only [Bool.not_eq_true', List.any_eq_false] at h9
  have := h9 (t.after c) (List.mem_map.2 ⟨c, by simpa using hc, rfl⟩)
  simpa using this
 ·simp [inB] at h3; omega
 ·simp [inB] at h3; omega
theorem results_cell_tmp4 {P : Program} {fn : Func} {t u : Tmp} {ty : TypeId} (h : fn.results = #[.cell t ty, .tmp u]) {tmps : Array Value} {w : World} {p : Addr} {v : Value} (hp : tmps.getD t undef = .pointer (some p))
  (hr : (loadVar ty p).run P w = .ok v w) : (results fn tmps).run P w = .ok (.tuple #[v, tmps.getD u undef]) w := by
 have hp' : tmps[t]?.getD undef = .pointer (some p) := by simpa using hp
 simp [results, h, hp', asAddr, hr]
def askedErr (l : List Typ) (i : Int) : Int := if typesErr l = 0 then (if inB i 0 ((l.length : Int) - 1) then 0 else 40) else typesErr l
def askedKnd (l : List Typ) (i : Int) : Knd := if askedErr l i = 0 then match l[i.toNat]? with | some t => kndOf t i | none => knd0 else knd0
set_option maxRecDepth 100000 in
set_option maxHeartbeats 1000000 in
theorem askedP_any (a : Option Addr) (c : Nat) (l : List Typ) (i : Int) (w : World) (h : TypesAt w a l) (hs : ∀ t, t ∈ l → SmlT t) (hl : l.length ≤ 1000000) (hlc : l.length ≤ c) :
  Calls Tryz.prog 76 #[.slice a l.length c, .int .i64 i] w fun e w' => e = .returned (.tuple #[.agg (kndCells (askedKnd l i)), .int .i64 (askedErr l i)]) ∧ Below w.heap.size w w' := by
 obtain ⟨w1, hw1⟩ : ∃ w1, w.alloc (.cells (kndCells knd0) 111) = w1 := ⟨_, rfl⟩
 have b0 : KndBox w1 w.heap.size knd0 := by rw [← hw1]; exact Box.new _ _ _
 have hB : Below w.heap.size w w1 := by rw [← hw1]; go_grown
 have HC := Lib.hid (checkTypes_any a c l w1 (h.below hB) hs hl hlc)
 have HT := Lib.hid (h.below hB)
 have B0 := Lib.hid b0
 have HB := Lib.hid hB
 have HW := Lib.hid hw1
 have hlw : IntKind.i64.wrap ((l.length : Int) - 1) = (l.length : Int) - 1 := IntWalk.i64_in _ (by omega)
 clear h hs b0 hB hw1
 go_enter Tryz.func76, Tryz.ntmps76
 go_upto_region 1 with fail
 simp only [zknd, HW.out]
 go_wp2_with fail
 refine HC.out.mono ?_
 rintro e w2 ⟨rfl, hb2⟩
 have HB2 := Lib.hid (HB.out.trans (hb2.mono HB.out.size))
 have b2 : KndBox w2 w.heap.size knd0 := B0.out.below' hb2
 have HT2 := Lib.hid (HT.out.below hb2)
 clear hb2 HC HT
 by_cases h1 : typesErr l = 0
 ·have H1 := Lib.hid h1
  rw [h1]
  clear h1
  go_wp2_with fail
  refine (in_any i 0 ((l.length : Int) - 1) w2).mono ?_
  rintro e w3 ⟨rfl, rfl⟩
  rcases h2 : inB i 0 ((l.length : Int) - 1) with _ | _
  ·have HE : Hid (askedErr l i = 40 ∧ askedKnd l i = knd0) := Lib.hid (by have h3 : askedErr l i = 40 := by simp [askedErr, H1.out, h2]
                                                                          exact ⟨h3, by simp [askedKnd, h3]⟩)
   obtain ⟨w5, hst, hw5⟩ := run_store_all (P := Tryz.prog) agg_knd b2 (kndF knd0) (fun j _ => kndF_one _ j)
   have HST := Lib.hid hst
   have HW5 := Lib.hid hw5
   clear hst hw5 b2 h2
   go_wp2_with (first
    | (refine wpList_build rfl (v := .agg (kndCells knd0)) 111 _ rfl (by simp only [List.map_toArray, List.map_nil]; exact run_build_knd0 _) ?_)
    | (refine wpList_store_box rfl 111 _ _ rfl rfl rfl HST.out ?_))
   refine bodyPost_ret (results_cell_tmp4 rfl rfl (KndBox.loadv HW5.out.box)) rfl ⟨?_, HW5.out.below HB2.out (Nat.le_refl _)⟩
   rw [HE.out.1, HE.out.2]; rfl
  ·have hi : 0 ≤ i ∧ i < l.length := by simp [inB] at h2; omega
   obtain ⟨n, rfl⟩ : ∃ n : Nat, i = n := ⟨i.toNat, by omega⟩
   obtain ⟨t, ht⟩ : ∃ t, l[n]? = some t := ⟨l[n]'(by omega), by simp [show n < l.length by omega]⟩
   have hg := typeB_good ((typesErr_good H1.out).2 n t ht)
   have HE : Hid (askedErr l n = 0 ∧ askedKnd l n = kndOf t n) := Lib.hid (by have h3 : askedErr l n = 0 := by simp [askedErr, H1.out, h2]
                                                                              exact ⟨h3, by simp [askedKnd, h3, ht]⟩)
   have HK := Lib.hid (kindOf_any a c l n t ht hg.1 w2 HT2.out)
   clear hg ht hi h2
   go_wp2_with fail
   refine HK.out.mono ?_
   rintro e w3 ⟨rfl, hb3⟩
   obtain ⟨w5, hst, hw5⟩ := run_store_all (P := Tryz.prog) agg_knd (Box.below' b2 hb3) (kndF (kndOf t n)) (fun j _ => kndF_one _ j)
   have HST := Lib.hid hst
   have HW5 := Lib.hid hw5
   have HB3 := Lib.hid (HB2.out.trans (hb3.mono HB2.out.size))
   clear hst hw5 b2 hb3
   go_wp2_with (refine wpList_store_box rfl 111 _ _ rfl rfl rfl HST.out ?_)
   refine bodyPost_ret (results_cell_tmp4 rfl rfl (KndBox.loadv HW5.out.box)) rfl ⟨?_, HW5.out.below HB3.out (Nat.le_refl _)⟩
   rw [HE.out.1, HE.out.2]; rfl
 ·have HE : Hid (askedErr l i = typesErr l ∧ askedKnd l i = knd0) := Lib.hid (by have h3 : askedErr l i = typesErr l := by simp [askedErr, h1]
                                                                                 exact ⟨h3, by simp [askedKnd, h3, h1]⟩)
  have hne : (typesErr l == 0) = false := by simpa using h1
  obtain ⟨w5, hst, hw5⟩ := run_store_all (P := Tryz.prog) agg_knd b2 (kndF knd0) (fun j _ => kndF_one _ j)
  have HST := Lib.hid hst
  have HW5 := Lib.hid hw5
  clear hst hw5 b2
  go_wp2_with (first
   | (refine wpList_build rfl (v := .agg (kndCells knd0)) 111 _ rfl (by simp only [List.map_toArray, List.map_nil]; exact run_build_knd0 _) ?_)
   | (refine wpList_store_box rfl 111 _ _ rfl rfl rfl HST.out ?_))
  refine bodyPost_ret (results_cell_tmp4 rfl rfl (KndBox.loadv HW5.out.box)) rfl ⟨?_, HW5.out.below HB2.out (Nat.le_refl _)⟩
  rw [HE.out.1, HE.out.2]; rfl
end Go.Proofs.YthpjffhccjlnhaaGreatDoor
namespace Go.Proofs.YthpjffhccjlnhaaGreatDoor
open Go.RowKit
attribute [local go_sem] Oper.semAt_some

def wareIs (ware : ByteArray) (t : Typ) : Bool := t.ware.toList == ware.toList
def wantedErr (l : List Typ) (ware : ByteArray) (r : List Rng) : Int := if typesErr l = 0 then (if ringsErr r = 0 then (if l.any (wareIs ware) then 0 else 40) else ringsErr r) else typesErr l
set_option maxRecDepth 100000 in
set_option maxHeartbeats 1000000 in
theorem wareIs_any (ware : ByteArray) (y : Typ) (g : Nat) (w : World) (hg : Box w g #[.string ware] 9) : Calls Tryz.prog 136 #[.agg (typCells y), .pointer (some ⟨g, 0, none⟩)] w fun e w' => e = .returned (.bool (wareIs ware y)) ∧ Below w.heap.size w w' := by
 obtain ⟨w1, hw1⟩ : ∃ w1, w.alloc (.cells (typCells y) 71) = w1 := ⟨_, rfl⟩
 have b0 : Box w1 w.heap.size (typCells y) 71 := by rw [← hw1]; exact Box.new _ _ _
 have hB : Below w.heap.size w w1 := by rw [← hw1]; go_grown
 have c1 := (Box.typ b0).fields.2.1
 have c2 := (hg.below' hB).cell 0
 simp only [Nat.zero_add] at c1
 have HB := Lib.hid hB
 have HW := Lib.hid hw1
 clear b0 hB hg hw1
 go_enter Tryz.func136, Tryz.ntmps136
 go_upto_region 1 with fail
 simp only [HW.out]
 go_wp2_with fail
 go_ret
 exact ⟨rfl, HB.out⟩
set_option maxRecDepth 100000 in
set_option maxHeartbeats 1000000 in
theorem wanted_any (a : Option Addr) (c : Nat) (l : List Typ) (ware : ByteArray) (ra : Option Addr) (rc : Nat) (r : List Rng) (w : World) (h : TypesAt w a l) (hs : ∀ t, t ∈ l → SmlT t) (hl : l.length ≤ 1000000) (hlc : l.length ≤ c)
  (hr : RngsAt w ra r) (hrs : ∀ y, y ∈ r → y.set.size ≤ 1000) (hrl : r.length ≤ 1000000) (hrc : r.length ≤ rc) :
  Calls Tryz.prog 86 #[.slice a l.length c, .string ware, .slice ra r.length rc] w fun e w' => e = .returned (.int .i64 (wantedErr l ware r)) ∧ Below w.heap.size w w' := by
 obtain ⟨w1, hw1⟩ : ∃ w1, w.alloc (.cells #[.string ware] 9) = w1 := ⟨_, rfl⟩
 have b0 : Box w1 w.heap.size #[.string ware] 9 := by rw [← hw1]; exact Box.new _ _ _
 have hB : Below w.heap.size w w1 := by rw [← hw1]; go_grown
 have HC := Lib.hid (checkTypes_any a c l w1 (h.below hB) hs hl hlc)
 have HT := Lib.hid (h.below hB)
 have HR := Lib.hid (hr.below hB)
 have B0 := Lib.hid b0
 have HB := Lib.hid hB
 have HW := Lib.hid hw1
 clear h hs b0 hB hw1 hr
 go_enter Tryz.func86, Tryz.ntmps86
 go_upto_region 1 with fail
 simp only [HW.out]
 go_wp2_with fail
 refine HC.out.mono ?_
 rintro e w2 ⟨rfl, hb2⟩
 have HB2 := Lib.hid (HB.out.trans (hb2.mono HB.out.size))
 have B2 := Lib.hid (B0.out.below' hb2)
 have HT2 := Lib.hid (HT.out.below hb2)
 have HR2 := Lib.hid (HR.out.below hb2)
 clear hb2 HC HT HR B0
 by_cases h1 : typesErr l = 0
 ·have HE : Hid (wantedErr l ware r = if ringsErr r = 0 then (if l.any (wareIs ware) then 0 else 40) else ringsErr r) := Lib.hid (by simp [wantedErr, h1])
  rw [h1]
  clear h1
  go_wp2_with fail
  refine (checkRings_any ra rc r w2 HR2.out hrs hrl hrc).mono ?_
  rintro e w3 ⟨rfl, hb3⟩
  have HB3 := Lib.hid (HB2.out.trans (hb3.mono HB2.out.size))
  have B3 := Lib.hid (B2.out.below' hb3)
  have HT3 := Lib.hid (HT2.out.below hb3)
  clear hb3 HT2 HR2 B2
  by_cases h2 : ringsErr r = 0
  ·rw [h2, if_pos rfl] at HE
   rw [h2]
   clear h2
   have hmf := run_mf Tryz.prog
   have hent : ∀ args W, (callFunc 136 args).run Tryz.prog W = .ok (.enter 136 args) W := enters_of Tryz.func136 (by kernel_rfl) rfl
   have HQ := Lib.hid (containsT_any 136 #[.pointer (some ⟨w.heap.size, 0, none⟩)] (wareIs ware) hent a c l w3 (fun y _ W hW => wareIs_any ware y w.heap.size W (B3.out.below' hW)) HT3.out hl)
   go_wp2_with fail
   refine HQ.out.mono ?_
   rintro e w4 ⟨rfl, hb4⟩
   have HB4 := Lib.hid (HB3.out.trans (hb4.mono HB3.out.size))
   clear hb4
   rcases hq : l.any (wareIs ware) with _ | _
   all_goals
    rw [hq] at HE
    clear hq
    go_wp2_with fail
    go_ret
    exact ⟨ret_int (by rw [HE.out]; rfl), HB4.out⟩
  ·rw [if_neg h2] at HE
   have hne : (ringsErr r == 0) = false := by simpa using h2
   go_wp2_with fail
   go_ret
   exact ⟨ret_int HE.out.symm, HB3.out⟩
 ·have HE : Hid (wantedErr l ware r = typesErr l) := Lib.hid (by simp [wantedErr, h1])
  have hne : (typesErr l == 0) = false := by simpa using h1
  go_wp2_with fail
  go_ret
  exact ⟨ret_int HE.out.symm, HB2.out⟩
end Go.Proofs.YthpjffhccjlnhaaGreatDoor
