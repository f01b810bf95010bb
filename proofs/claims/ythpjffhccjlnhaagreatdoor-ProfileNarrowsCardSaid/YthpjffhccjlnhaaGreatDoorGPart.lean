/- The law's part: whether all classes of a string are in another one. No condition. -/
import Derived.Test.YthpjffhccjlnhaaGreatDoorGRef1
set_option linter.unusedSimpArgs false
set_option linter.unusedVariables false
namespace Go.Proofs.YthpjffhccjlnhaaGreatDoor
open Go.RowKit
attribute [local go_sem] Oper.semAt_some

def partB (a b : List UInt8) : Bool := a.all (inL b)
theorem part_no {a b : List UInt8} {j : Nat} {x : UInt8} (h : a[j]? = some x) (hx : inL b x = false) : partB a b = false := by
 rw [Bool.eq_false_iff]; intro hp
 have := List.all_eq_true.1 hp x (List.mem_of_getElem? h)
 rw [hx] at this; cases this
theorem part_yes {a b : List UInt8} (h : ∀ (j : Nat) x, a[j]? = some x → inL b x = true) : partB a b = true := List.all_eq_true.2 fun x hx => by
 obtain ⟨j, hj⟩ := List.getElem?_of_mem hx
 exact h j x hj
set_option maxHeartbeats 1000000 in
theorem part_any (s t : ByteArray) (hs : s.size ≤ 100000) (ht : t.size ≤ 100000) (w : World) :
  Calls Tryz.prog 38 #[.string s, .string t] w fun e w' => e = .returned (.bool (partB (bl s) (bl t))) ∧ w' = w := by
 go_enter Tryz.func38, Tryz.ntmps38
 go_wp2_with fail
 go_loopw [5] (fun i wr => ∃ k : Nat, k ≤ s.size ∧ i = .int .i64 k ∧ (∀ (j : Nat) x, j < k → (bl s)[j]? = some x → inL (bl t) x = true) ∧ w = wr) (fun i _ => s.size - (intOf i).toNat)
 case atStart => exact ⟨0, Nat.zero_le _, rfl, fun j _ hj => absurd hj (Nat.not_lt_zero j), rfl⟩
 case round =>
  obtain ⟨k, hk, rfl, hall, rfl⟩ := hrel
  have HALL := Lib.hid hall
  clear hall
  by_cases hlt : k < s.size
  ·obtain ⟨x, hx⟩ : ∃ x, s[k] = x := ⟨_, rfl⟩
   have hblx : (bl s)[k]? = some x := by rw [bl_at s hlt, hx]
   have HBX := Lib.hid hblx
   have hki : (k : Int) < (s.size : Int) := by omega
   have hk0 : (0 : Int) ≤ (k : Int) := by omega
   have hkw : IntKind.i64.wrap ((k : Int) + 1) = (k : Int) + 1 := IntWalk.i64_in _ (by omega)
   have HIN := Lib.hid (inR_any t x (by omega) w)
   clear hblx
   rcases hin : inL (bl t) x with _ | _
   ·rw [hin] at HIN
    have HN := Lib.hid (part_no HBX.out hin)
    go_wp2_with (refine HIN.out.mono ?_)
    rintro e w2 ⟨rfl, rfl⟩
    go_wp2_with fail
    go_ret
    exact ⟨by rw [HN.out]; rfl, rfl⟩
   ·rw [hin] at HIN
    have HREL := Lib.hid (show ∃ q : Nat, q ≤ s.size ∧ Value.int .i64 ((k : Int) + 1) = .int .i64 q ∧ (∀ (j : Nat) x, j < q → (bl s)[j]? = some x → inL (bl t) x = true) ∧ True from ⟨k + 1, by omega, rfl, fun j y hj hy => by
     rcases Nat.lt_or_ge j k with h1 | h1
     ·exact HALL.out j y h1 hy
     ·have : j = k := by omega
      subst this
      rw [HBX.out] at hy; cases hy; exact hin, trivial⟩)
    go_wp2_with (refine HIN.out.mono ?_)
    rintro e w2 ⟨rfl, rfl⟩
    go_wp2_with fail
    exact ⟨by simpa using HREL.out, by simp [intOf]; omega⟩
  ·have hkn : decide ((k : Int) < (s.size : Int)) = false := by simp; omega
   have HY := Lib.hid (part_yes (a := bl s) (b := bl t) fun j x hj => HALL.out j x (by have := (List.getElem?_eq_some_iff.1 hj).1; rw [bl_len] at this; omega) hj)
   go_wp2_with fail
   go_ret
   exact ⟨by rw [HY.out]; rfl, rfl⟩
end Go.Proofs.YthpjffhccjlnhaaGreatDoor
