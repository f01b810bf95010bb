/- The law's without. No condition. -/
import Derived.Test.YthpjffhccjlnhaaGreatDoorGRef1
set_option linter.unusedSimpArgs false
set_option linter.unusedVariables false
namespace Go.Proofs.YthpjffhccjlnhaaGreatDoor
open Go.RowKit
attribute [local go_sem] Oper.semAt_some

def woutL (a b : List UInt8) : List UInt8 := a.filter fun x => !inL b x
theorem wout_take (a b : List UInt8) {k : Nat} {x : UInt8} (h : a[k]? = some x) : woutL (a.take (k + 1)) b = woutL (a.take k) b ++ if inL b x then [] else [x] := by
 unfold woutL inL
 rw [List.take_add_one, h, List.filter_append]
 by_cases hm : x ∈ b <;> simp [hm]
theorem wout_len (a b : List UInt8) : (woutL a b).length ≤ a.length := List.length_filter_le _ _
set_option maxHeartbeats 1000000 in
theorem without_any (s t : ByteArray) (hs : s.size ≤ 100000) (ht : t.size ≤ 100000) (w : World) :
  Calls Tryz.prog 50 #[.string s, .string t] w fun e w' => e = .returned (.string (mkB (woutL (bl s) (bl t)))) ∧ w' = w := by
 go_enter Tryz.func50, Tryz.ntmps50
 go_wp2_with fail
 go_loopw [5, 6] (fun v i wr => ∃ k : Nat, k ≤ s.size ∧ i = .int .i64 k ∧ (∃ o : ByteArray, v = .string o ∧ bl o = woutL ((bl s).take k) (bl t)) ∧ w = wr) (fun _ i _ => s.size - (intOf i).toNat)
 case atStart => exact ⟨0, Nat.zero_le _, rfl, ⟨⟨#[]⟩, rfl, rfl⟩, rfl⟩
 case round =>
  obtain ⟨k, hk, rfl, ⟨o, rfl, ho⟩, rfl⟩ := hrel
  by_cases hlt : k < s.size
  ·obtain ⟨x, hx⟩ : ∃ x, s[k] = x := ⟨_, rfl⟩
   have hblx : (bl s)[k]? = some x := by rw [bl_at s hlt, hx]
   have hki : (k : Int) < (s.size : Int) := by omega
   have hk0 : (0 : Int) ≤ (k : Int) := by omega
   have hkw : IntKind.i64.wrap ((k : Int) + 1) = (k : Int) + 1 := IntWalk.i64_in _ (by omega)
   have hkle : (k : Int) ≤ (k : Int) + 1 := by omega
   have hks : (k : Int) + 1 ≤ (s.size : Int) := by omega
   have hstep := wout_take (bl s) (bl t) hblx
   have hol : o.size ≤ 100000 := by
    have := wout_len ((bl s).take k) (bl t)
    rw [← ho, bl_len, List.length_take, bl_len] at this; omega
   have h1s : (s.extract k (k + 1)).size = 1 := size_one (by rw [bl_len]; exact hlt)
   have h1b := bl_one hblx
   have HIN := Lib.hid (inR_any t x (by omega) w)
   rcases hin : inL (bl t) x with _ | _
   ·rw [hin] at HIN hstep
    have HREL := Lib.hid (show ∃ q : Nat, q ≤ s.size ∧ Value.int .i64 ((k : Int) + 1) = .int .i64 q ∧ (∃ o2 : ByteArray, Value.string (o ++ s.extract k (k + 1)) = .string o2 ∧ bl o2 = woutL ((bl s).take q) (bl t)) ∧ True from ⟨k + 1, by omega, rfl, ⟨_, rfl, by rw [hstep, bl_app, ho, h1b]; rfl⟩, trivial⟩)
    clear hstep ho hblx
    go_wp2_with (refine HIN.out.mono ?_)
    rintro e w2 ⟨rfl, rfl⟩
    go_wp2_with (refine wpList_cat rfl _ _ _ rfl rfl rfl (by omega) ?_)
    exact ⟨by simpa using HREL.out, by simp [intOf]; omega⟩
   ·rw [hin] at HIN hstep
    have HREL := Lib.hid (show ∃ q : Nat, q ≤ s.size ∧ Value.int .i64 ((k : Int) + 1) = .int .i64 q ∧ (∃ o2 : ByteArray, Value.string o = .string o2 ∧ bl o2 = woutL ((bl s).take q) (bl t)) ∧ True from ⟨k + 1, by omega, rfl, ⟨o, rfl, by rw [hstep, ho]; simp⟩, trivial⟩)
    clear hstep ho hblx
    go_wp2_with (refine HIN.out.mono ?_)
    rintro e w2 ⟨rfl, rfl⟩
    go_wp2_with fail
    exact ⟨by simpa using HREL.out, by simp [intOf]; omega⟩
  ·have hkn : decide ((k : Int) < (s.size : Int)) = false := by simp; omega
   have hfin : o = mkB (woutL (bl s) (bl t)) := by rw [← mkB_bl o, ho, List.take_of_length_le (by rw [bl_len]; omega)]
   have HF := Lib.hid hfin
   clear ho hfin
   go_wp2_with fail
   go_ret
   exact ⟨by rw [← HF.out]; rfl, rfl⟩
end Go.Proofs.YthpjffhccjlnhaaGreatDoor
