/- The reference: In, both. No condition. -/
import Derived.Test.YthpjffhccjlnhaaGreatDoorMG4
import Derived.Test.YthpjffhccjlnhaaGreatDoorGPrint
import Derived.Test.YthpjffhccjlnhaaGreatDoorGOneP
set_option linter.unusedSimpArgs false
set_option linter.unusedVariables false
namespace Go.Proofs.YthpjffhccjlnhaaGreatDoor
open Go.RowKit
attribute [local go_sem] Oper.semAt_some

def inL (l : List UInt8) (b : UInt8) : Bool := l.contains b
theorem inL_no {l : List UInt8} {b : UInt8} (h : ∀ (j : Nat) x, l[j]? = some x → x ≠ b) : inL l b = false := by
 simp only [inL, Bool.eq_false_iff, ne_eq, List.contains_iff_mem]
 intro hm
 obtain ⟨j, hj⟩ := List.getElem?_of_mem hm
 exact h j b hj rfl
theorem inL_yes {l : List UInt8} {b : UInt8} {j : Nat} (h : l[j]? = some b) : inL l b = true := by
 simp only [inL, List.contains_iff_mem]; exact List.mem_of_getElem? h
theorem byte_eq (x b : UInt8) : ((x.toNat : Int) == (b.toNat : Int)) = decide (x = b) := by
 by_cases h : x = b
 ·subst h; simp
 ·have : ¬ (x.toNat : Int) = (b.toNat : Int) := fun e => h (UInt8.toNat_inj.1 (by omega))
  simp [h, this]
set_option maxHeartbeats 1000000 in
theorem in2_any (s : ByteArray) (b : UInt8) (hs : s.size ≤ 1000000) (w : World) :
  Calls Tryz.prog 100 #[.string s, .int .u8 b.toNat] w fun e w' => e = .returned (.bool (inL (bl s) b)) ∧ w' = w := by
 go_enter Tryz.func100, Tryz.ntmps100
 go_wp2_with fail
 go_loopw [5] (fun i wr => ∃ k : Nat, k ≤ s.size ∧ i = .int .i64 k ∧ (∀ (j : Nat) x, j < k → (bl s)[j]? = some x → x ≠ b) ∧ w = wr) (fun i _ => s.size - (intOf i).toNat)
 case atStart => exact ⟨0, Nat.zero_le _, rfl, fun j _ hj => absurd hj (Nat.not_lt_zero j), rfl⟩
 case round =>
  obtain ⟨k, hk, rfl, hall, rfl⟩ := hrel
  have HALL := Lib.hid hall
  clear hall
  by_cases hlt : k < s.size
  ·obtain ⟨x, hx⟩ : ∃ x, s[k] = x := ⟨_, rfl⟩
   have hblx : (bl s)[k]? = some x := by rw [bl_at s hlt, hx]
   have HBX := Lib.hid hblx
   have hki : (k : Int) < (s.size : Int) := by omega
   have hk0 : (0 : Int) ≤ (k : Int) := by omega
   have hkw : IntKind.i64.wrap ((k : Int) + 1) = (k : Int) + 1 := IntWalk.i64_in _ (by omega)
   clear hblx
   by_cases hxb : x = b
   ·have e1 : ((x.toNat : Int) == (b.toNat : Int)) = true := by rw [byte_eq]; simpa using hxb
    have HY := Lib.hid (inL_yes (hxb ▸ HBX.out))
    go_wp2_with fail
    go_ret
    exact ⟨by rw [HY.out]; rfl, rfl⟩
   ·have e1 : ((x.toNat : Int) == (b.toNat : Int)) = false := by rw [byte_eq]; simpa using hxb
    have HREL := Lib.hid (show ∃ q : Nat, q ≤ s.size ∧ Value.int .i64 ((k : Int) + 1) = .int .i64 q ∧ (∀ (j : Nat) x, j < q → (bl s)[j]? = some x → x ≠ b) ∧ True from ⟨k + 1, by omega, rfl, fun j y hj hy => by
     rcases Nat.lt_or_ge j k with h1 | h1
     ·exact HALL.out j y h1 hy
     ·have : j = k := by omega
      subst this
      rw [HBX.out] at hy; cases hy; exact hxb, trivial⟩)
    go_wp2_with fail
    exact ⟨HREL.out, by simp [intOf]; omega⟩
  ·have hkn : decide ((k : Int) < (s.size : Int)) = false := by simp; omega
   have HN := Lib.hid (inL_no (l := bl s) (b := b) fun j x hj => HALL.out j x (by have := (List.getElem?_eq_some_iff.1 hj).1; rw [bl_len] at this; omega) hj)
   go_wp2_with fail
   go_ret
   exact ⟨by rw [HN.out]; rfl, rfl⟩
theorem inR_any (s : ByteArray) (b : UInt8) (hs : s.size ≤ 1000000) (w : World) :
  Calls Tryz.prog 37 #[.string s, .int .u8 b.toNat] w fun e w' => e = .returned (.bool (inL (bl s) b)) ∧ w' = w := by
 have HC := Lib.hid (in2_any s b hs w)
 go_enter Tryz.func37, Tryz.ntmps37
 go_wp2_with fail
 refine HC.out.mono ?_
 rintro e w2 ⟨rfl, rfl⟩
 go_wp2_with fail
 go_ret
 exact ⟨rfl, rfl⟩
theorem both_take (a b : List UInt8) {k : Nat} {x : UInt8} (h : a[k]? = some x) : bothL (a.take (k + 1)) b = bothL (a.take k) b ++ if inL b x then [x] else [] := by
 unfold bothL inL
 rw [List.take_add_one, h, List.filter_append]
 by_cases hm : x ∈ b <;> simp [hm]
theorem both_len (a b : List UInt8) : (bothL a b).length ≤ a.length := List.length_filter_le _ _
set_option maxHeartbeats 1000000 in
theorem both_any (s t : ByteArray) (hs : s.size ≤ 100000) (ht : t.size ≤ 100000) (w : World) :
  Calls Tryz.prog 84 #[.string s, .string t] w fun e w' => e = .returned (.string (mkB (bothL (bl s) (bl t)))) ∧ w' = w := by
 go_enter Tryz.func84, Tryz.ntmps84
 go_wp2_with fail
 go_loopw [5, 6] (fun v i wr => ∃ k : Nat, k ≤ s.size ∧ i = .int .i64 k ∧ (∃ o : ByteArray, v = .string o ∧ bl o = bothL ((bl s).take k) (bl t)) ∧ w = wr) (fun _ i _ => s.size - (intOf i).toNat)
 case atStart => exact ⟨0, Nat.zero_le _, rfl, ⟨⟨#[]⟩, rfl, rfl⟩, rfl⟩
 case round =>
  obtain ⟨k, hk, rfl, ⟨o, rfl, ho⟩, rfl⟩ := hrel
  by_cases hlt : k < s.size
  ·obtain ⟨x, hx⟩ : ∃ x, s[k] = x := ⟨_, rfl⟩
   have hblx : (bl s)[k]? = some x := by rw [bl_at s hlt, hx]
   have hki : (k : Int) < (s.size : Int) := by omega
   have hk0 : (0 : Int) ≤ (k : Int) := by omega
   have hkw : IntKind.i64.wrap ((k : Int) + 1) = (k : Int) + 1 := IntWalk.i64_in _ (by omega)
   have hkle : (k : Int) ≤ (k : Int) + 1 := by omega
   have hks : (k : Int) + 1 ≤ (s.size : Int) := by omega
   have hstep := both_take (bl s) (bl t) hblx
   have hol : o.size ≤ 100000 := by
    have := both_len ((bl s).take k) (bl t)
    rw [← ho, bl_len, List.length_take, bl_len] at this; omega
   have h1s : (s.extract k (k + 1)).size = 1 := size_one (by rw [bl_len]; exact hlt)
   have h1b := bl_one hblx
   have HIN := Lib.hid (inR_any t x (by omega) w)
   rcases hin : inL (bl t) x with _ | _
   ·rw [hin] at HIN hstep
    have HREL := Lib.hid (show ∃ q : Nat, q ≤ s.size ∧ Value.int .i64 ((k : Int) + 1) = .int .i64 q ∧ (∃ o2 : ByteArray, Value.string o = .string o2 ∧ bl o2 = bothL ((bl s).take q) (bl t)) ∧ True from ⟨k + 1, by omega, rfl, ⟨o, rfl, by rw [hstep, ho]; simp⟩, trivial⟩)
    clear hstep ho hblx
    go_wp2_with (refine HIN.out.mono ?_)
    rintro e w2 ⟨rfl, rfl⟩
    go_wp2_with fail
    exact ⟨by simpa using HREL.out, by simp [intOf]; omega⟩
   ·rw [hin] at HIN hstep
    have HREL := Lib.hid (show ∃ q : Nat, q ≤ s.size ∧ Value.int .i64 ((k : Int) + 1) = .int .i64 q ∧ (∃ o2 : ByteArray, Value.string (o ++ s.extract k (k + 1)) = .string o2 ∧ bl o2 = bothL ((bl s).take q) (bl t)) ∧ True from ⟨k + 1, by omega, rfl, ⟨_, rfl, by rw [hstep, bl_app, ho, h1b]; rfl⟩, trivial⟩)
    clear hstep ho hblx
    go_wp2_with (refine HIN.out.mono ?_)
    rintro e w2 ⟨rfl, rfl⟩
    go_wp2_with (refine wpList_cat rfl _ _ _ rfl rfl rfl (by omega) ?_)
    exact ⟨by simpa using HREL.out, by simp [intOf]; omega⟩
  ·have hkn : decide ((k : Int) < (s.size : Int)) = false := by simp; omega
   have hfin : o = mkB (bothL (bl s) (bl t)) := by rw [← mkB_bl o, ho, List.take_of_length_le (by rw [bl_len]; omega)]
   have HF := Lib.hid hfin
   clear ho hfin
   go_wp2_with fail
   go_ret
   exact ⟨by rw [← HF.out]; rfl, rfl⟩
end Go.Proofs.YthpjffhccjlnhaaGreatDoor
