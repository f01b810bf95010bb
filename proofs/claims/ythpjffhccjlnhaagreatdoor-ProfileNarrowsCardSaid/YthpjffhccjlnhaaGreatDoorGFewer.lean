/- The law's fewer: each type and shift of a list is in another one. No condition. -/
import Derived.Test.YthpjffhccjlnhaaGreatDoorMG10
import Derived.Test.YthpjffhccjlnhaaGreatDoorGRef1
set_option linter.unusedSimpArgs false
set_option linter.unusedVariables false
namespace Go.Proofs.YthpjffhccjlnhaaGreatDoor
open Go.RowKit
attribute [local go_sem] Oper.semAt_some

/-- a slice of fits, by type and shift -/
def FtsAt (w : World) (a : Option Addr) (L : List Ft) : Prop := ∀ (k : Nat) f, L[k]? = some f → ∃ b o, a = some ⟨b, o, none⟩ ∧ w.cell? ⟨b, o + k * 3, none⟩ = some (.int .i64 f.type) ∧ w.cell? ⟨b, o + k * 3 + 1, none⟩ = some (.int .i64 f.shift)
theorem FtsAt.below {w w' : World} {a : Option Addr} {L : List Ft} (h : FtsAt w a L) (hb : Below w.heap.size w w') : FtsAt w' a L := fun k f hf => by
 obtain ⟨b, o, ha, h1, h2⟩ := h k f hf
 exact ⟨b, o, ha, below_cell hb h1, below_cell hb h2⟩
def sameFt (x y : Ft) : Bool := (y.type == x.type) && (y.shift == x.shift)
def fewerB (A B : List Ft) : Bool := A.all fun x => B.any (sameFt x)
theorem int_eq (a b : Nat) : ((a : Int) == (b : Int)) = (a == b) := by
 rw [Bool.eq_iff_iff, beq_iff_eq, beq_iff_eq]; omega
set_option maxRecDepth 100000 in
set_option maxHeartbeats 2000000 in
theorem fewer_any (xa ya : Option Addr) (xc yc : Nat) (A B : List Ft) (hA : A.length ≤ 1000000) (hB : B.length ≤ 1000000) (w : World) (hx : FtsAt w xa A) (hy : FtsAt w ya B) :
  Calls Tryz.prog 39 #[.slice xa A.length xc, .slice ya B.length yc] w fun e w' => e = .returned (.bool (fewerB A B)) ∧ Below w.heap.size w w' := by
 have HX := Lib.hid hx
 have HY := Lib.hid hy
 clear hx hy
 go_enter Tryz.func39, Tryz.ntmps39
 go_wp2_with fail
 go_loopw [5, 6, 7] (fun iv _ _ wr => ∃ i : Nat, i ≤ A.length ∧ iv = .int .i64 i ∧ (∀ (j : Nat) x, j < i → A[j]? = some x → B.any (sameFt x) = true) ∧ Below w.heap.size w wr) (fun iv _ _ _ => A.length - (intOf iv).toNat)
 case atStart => exact ⟨0, Nat.zero_le _, rfl, fun j _ hj => absurd hj (Nat.not_lt_zero j), Below.refl _ _⟩
 case round =>
  obtain ⟨i, hi, rfl, hall, hb⟩ := hrel
  have HALL := Lib.hid hall
  have HB := Lib.hid hb
  clear hall hb
  by_cases hlt : i < A.length
  rotate_left
  ·have hin : decide ((i : Int) < (A.length : Int)) = false := by simp; omega
   have HF := Lib.hid (show fewerB A B = true from List.all_eq_true.2 fun x hx => by
    obtain ⟨j, hj⟩ := List.getElem?_of_mem hx
    exact HALL.out j x (by have := (List.getElem?_eq_some_iff.1 hj).1; omega) hj)
   go_wp2_with fail
   go_ret
   exact ⟨by rw [HF.out]; rfl, HB.out⟩
  obtain ⟨x, hx⟩ : ∃ x, A[i]? = some x := ⟨A[i], by simp [hlt]⟩
  obtain ⟨xb, xo, rfl, hx0, hx1⟩ := (HX.out.below HB.out) i x hx
  have HXI := Lib.hid hx
  have X0 := Lib.hid hx0
  have X1 := Lib.hid hx1
  have hki : (i : Int) < (A.length : Int) := by omega
  have hk0 : (0 : Int) ≤ (i : Int) := by omega
  clear hx hx0 hx1
  go_wp2_with fail
  go_loopw [6, 7] (fun fv kv wr' => ∃ k : Nat, k ≤ B.length ∧ kv = .int .i64 k ∧ fv = .bool ((B.take k).any (sameFt x)) ∧ Below wr.heap.size wr wr') (fun _ kv _ => B.length - (intOf kv).toNat)
  case atStart => exact ⟨0, Nat.zero_le _, rfl, rfl, Below.refl _ _⟩
  case round =>
   obtain ⟨k, hk, rfl, rfl, hbw⟩ := hrel
   have HBW := Lib.hid hbw
   have hx0 := below_cell hbw X0.out
   have hx1 := below_cell hbw X1.out
   have HBT := Lib.hid (HB.out.trans (hbw.mono HB.out.size))
   clear hbw
   obtain ⟨fv, hfv⟩ : ∃ fv, (B.take k).any (sameFt x) = fv := ⟨_, rfl⟩
   rw [hfv]
   have HFV := Lib.hid hfv
   clear hfv
   by_cases hkl : k < B.length
   rotate_left
   ·have hkn : decide ((k : Int) < (B.length : Int)) = false := by simp; omega
    have HE := Lib.hid (show B.any (sameFt x) = fv by rw [← HFV.out, List.take_of_length_le (by omega)])
    rcases fv with _ | _
    ·have HF := Lib.hid (show fewerB A B = false by
      unfold fewerB
      rw [List.all_eq_false]
      exact ⟨x, List.mem_of_getElem? HXI.out, by rw [HE.out]; simp⟩)
     go_wp2_with fail
     go_ret
     exact ⟨by rw [HF.out]; rfl, HBT.out⟩
    ·go_wp2_with fail
     go_roundw
     case rel => exact ⟨i + 1, by omega, by go_num, fun j z hj hz => by
      rcases Nat.lt_or_ge j i with h1 | h1
      ·exact HALL.out j z h1 hz
      ·have : j = i := by omega
       subst this
       rw [HXI.out] at hz; cases hz; exact HE.out, HBT.out⟩
     case measure => simp [intOf]; omega
   obtain ⟨y, hy⟩ : ∃ y, B[k]? = some y := ⟨B[k], by simp [hkl]⟩
   obtain ⟨yb, yo, rfl, hy0, hy1⟩ := (HY.out.below HBT.out) k y hy
   have HT := Lib.hid (show (B.take (k + 1)).any (sameFt x) = ((B.take k).any (sameFt x) || sameFt x y) by rw [List.take_add_one, hy, List.any_append]; simp)
   have hkk : (k : Int) < (B.length : Int) := by omega
   have hkk0 : (0 : Int) ≤ (k : Int) := by omega
   have e1 := int_eq y.type x.type
   have e2 := int_eq y.shift x.shift
   clear hy
   rcases fv with _ | _
   ·rcases h1 : (y.type == x.type) with _ | _
    ·have HS := Lib.hid (show sameFt x y = false by unfold sameFt; rw [h1]; rfl)
     rw [h1] at e1
     clear e2
     go_wp2_with fail
     go_quiet (fail)
     go_wp2_with fail
     go_roundw
     case rel => exact ⟨k + 1, by omega, by go_num, by rw [HT.out, HFV.out, HS.out]; rfl, below_drewN HBW.out _⟩
     case measure => simp [intOf]; omega
    ·rcases h2 : (y.shift == x.shift) with _ | _
     ·have HS := Lib.hid (show (B.take (k + 1)).any (sameFt x) = false by
       rw [HT.out, HFV.out]
       unfold sameFt
       rw [h1, h2]; rfl)
      rw [h1] at e1
      rw [h2] at e2
      go_wp2_with fail
      go_quiet (fail)
      go_wp2_with fail
      go_roundw
      case rel => exact ⟨k + 1, by omega, by go_num, by rw [HS.out], below_drewN HBW.out _⟩
      case measure => simp [intOf]; omega
     ·have HS := Lib.hid (show (B.take (k + 1)).any (sameFt x) = true by
       rw [HT.out, HFV.out]
       unfold sameFt
       rw [h1, h2]; rfl)
      rw [h1] at e1
      rw [h2] at e2
      go_wp2_with fail
      go_quiet (fail)
      go_wp2_with fail
      go_roundw
      case rel => exact ⟨k + 1, by omega, by go_num, by rw [HS.out], below_drewN HBW.out _⟩
      case measure => simp [intOf]; omega
   ·clear e1 e2
    go_wp2_with fail
    go_quiet (fail)
    go_wp2_with fail
    go_roundw
    case rel => exact ⟨k + 1, by omega, by go_num, by rw [HT.out, HFV.out]; rfl, below_drewN HBW.out _⟩
    case measure => simp [intOf]; omega
end Go.Proofs.YthpjffhccjlnhaaGreatDoor
