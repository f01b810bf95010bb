/- The reference: Name. No condition. -/
import Derived.Test.YthpjffhccjlnhaaGreatDoorGRef2
import Derived.Test.YthpjffhccjlnhaaGreatDoorMG5
set_option linter.unusedSimpArgs false
set_option linter.unusedVariables false
namespace Go.Proofs.YthpjffhccjlnhaaGreatDoor
open Go.RowKit
attribute [local go_sem] Oper.semAt_some

theorem name_no {s : ByteArray} {j : Nat} {x : UInt8} (h : (bl s)[j]? = some x) (hx : nameByte x = false) : isNameB s = false := by
 rw [Bool.eq_false_iff]; intro hp
 simp only [isNameB, Bool.and_eq_true] at hp
 have := List.all_eq_true.1 hp.2 x (List.mem_of_getElem? h)
 rw [hx] at this; cases this
set_option maxHeartbeats 2000000 in
theorem name2_any (s : ByteArray) (hs : s.size ≤ 1000000) (w : World) :
  Calls Tryz.prog 150 #[.string s] w fun e w' => e = .returned (.bool (isNameB s)) ∧ w' = w := by
 by_cases h1 : s.size < 1
 ·have h1i : (s.size : Int) < 1 := by omega
  have HN : Hid (isNameB s = false) := Lib.hid (by
   have : inB s.size 1 24 = false := by simp [inB]; omega
   unfold isNameB; rw [this]; rfl)
  go_enter Tryz.func150, Tryz.ntmps150
  go_wp2_with fail
  go_ret
  exact ⟨by rw [HN.out]; rfl, rfl⟩
 have h1i : ¬ (s.size : Int) < 1 := by omega
 by_cases h2 : 24 < s.size
 ·have h2i : (24 : Int) < (s.size : Int) := by omega
  have HN : Hid (isNameB s = false) := Lib.hid (by
   have : inB s.size 1 24 = false := by simp [inB]; omega
   unfold isNameB; rw [this]; rfl)
  go_enter Tryz.func150, Tryz.ntmps150
  go_wp2_with fail
  go_ret
  exact ⟨by rw [HN.out]; rfl, rfl⟩
 have h2i : ¬ (24 : Int) < (s.size : Int) := by omega
 have h0s : 0 < s.size := by omega
 have h0i : (0 : Int) < (s.size : Int) := by omega
 obtain ⟨x0, hx0⟩ : ∃ x, s[0] = x := ⟨_, rfl⟩
 have hb0 : (bl s)[0]? = some x0 := by rw [bl_at s h0s, hx0]
 have hfirst : isNameB s = (inB s.size 1 24 && (decide (97 ≤ x0.toNat) && decide (x0.toNat ≤ 122)) && (bl s).all nameByte) := by
  have hb0' : s.data.toList[0]? = some x0 := hb0
  unfold isNameB; rw [hb0']; rfl
 by_cases h3 : x0.toNat < 97
 ·have h3i : (x0.toNat : Int) < 97 := by omega
  have HN : Hid (isNameB s = false) := Lib.hid (by
   have : decide (97 ≤ x0.toNat) = false := by simp; omega
   rw [hfirst, this]; simp)
  clear hfirst hb0
  go_enter Tryz.func150, Tryz.ntmps150
  go_wp2_with fail
  go_ret
  exact ⟨by rw [HN.out]; rfl, rfl⟩
 have h3i : ¬ (x0.toNat : Int) < 97 := by omega
 by_cases h4 : 122 < x0.toNat
 ·have h4i : (122 : Int) < (x0.toNat : Int) := by omega
  have HN : Hid (isNameB s = false) := Lib.hid (by
   have : decide (x0.toNat ≤ 122) = false := by simp; omega
   rw [hfirst, this]; simp)
  clear hfirst hb0
  go_enter Tryz.func150, Tryz.ntmps150
  go_wp2_with fail
  go_ret
  exact ⟨by rw [HN.out]; rfl, rfl⟩
 have h4i : ¬ (122 : Int) < (x0.toNat : Int) := by omega
 have HF : Hid (isNameB s = (bl s).all nameByte) := Lib.hid (by
  have a1 : decide (97 ≤ x0.toNat) = true := by simp; omega
  have a2 : decide (x0.toNat ≤ 122) = true := by simp; omega
  have a3 : inB s.size 1 24 = true := by simp [inB]; omega
  rw [hfirst, a1, a2, a3]; simp)
 clear hfirst hb0
 go_enter Tryz.func150, Tryz.ntmps150
 go_wp2_with fail
 clear hx0 h3 h4 h3i h4i
 go_loopw [3] (fun i wr => ∃ k : Nat, k ≤ s.size ∧ i = .int .i64 k ∧ (∀ (j : Nat) x, j < k → (bl s)[j]? = some x → nameByte x = true) ∧ w = wr) (fun i _ => s.size - (intOf i).toNat)
 case atStart => exact ⟨0, Nat.zero_le _, rfl, fun j _ hj => absurd hj (Nat.not_lt_zero j), rfl⟩
 case round =>
  obtain ⟨k, hk, rfl, hall, rfl⟩ := hrel
  have HALL := Lib.hid hall
  clear hall
  by_cases hlt : k < s.size
  ·obtain ⟨x, hx⟩ : ∃ x, s[k] = x := ⟨_, rfl⟩
   have hblx : (bl s)[k]? = some x := by rw [bl_at s hlt, hx]
   have HBX := Lib.hid hblx
   have hki : (k : Int) < (s.size : Int) := by omega
   have hk0 : (0 : Int) ≤ (k : Int) := by omega
   have hkw : IntKind.i64.wrap ((k : Int) + 1) = (k : Int) + 1 := IntWalk.i64_in _ (by omega)
   clear hblx
   have HREL : nameByte x = true → Hid (∃ q : Nat, q ≤ s.size ∧ Value.int .i64 ((k : Int) + 1) = .int .i64 q ∧ (∀ (j : Nat) x, j < q → (bl s)[j]? = some x → nameByte x = true) ∧ True) := fun hn => Lib.hid ⟨k + 1, by omega, rfl, fun j y hj hy => by
     rcases Nat.lt_or_ge j k with h1 | h1
     ·exact HALL.out j y h1 hy
     ·have : j = k := by omega
      subst this
      rw [HBX.out] at hy; cases hy; exact hn, trivial⟩
   have hxi : ((x.toNat : Int) == 45) = decide (x.toNat = 45) := by
    by_cases h : x.toNat = 45
    ·rw [h]; rfl
    ·have : ¬ (x.toNat : Int) = 45 := by omega
     simp [h, this]
   rcases hn : nameByte x with _ | _
   ·have HN := Lib.hid (name_no HBX.out hn)
    clear HREL
    simp only [nameByte, Bool.or_eq_false_iff, Bool.and_eq_false_iff, decide_eq_false_iff_not, beq_eq_false_iff_ne] at hn
    obtain ⟨⟨n1, n2⟩, n3⟩ := hn
    have e3 : ((x.toNat : Int) == 45) = false := by rw [hxi]; simpa using n3
    clear hxi
    rcases Nat.lt_or_ge x.toNat 97 with g1 | g1
    ·have g1i : (x.toNat : Int) < 97 := by omega
     rcases Nat.lt_or_ge x.toNat 48 with g2 | g2
     ·have g2i : (x.toNat : Int) < 48 := by omega
      go_wp2_with fail
      go_ret
      exact ⟨by rw [HN.out]; rfl, rfl⟩
     ·have g2i : ¬ (x.toNat : Int) < 48 := by omega
      have g3 : 57 < x.toNat := by omega
      have g3i : (57 : Int) < (x.toNat : Int) := by omega
      go_wp2_with fail
      go_ret
      exact ⟨by rw [HN.out]; rfl, rfl⟩
    ·have g1i : ¬ (x.toNat : Int) < 97 := by omega
     have g2 : 122 < x.toNat := by omega
     have g2i : (122 : Int) < (x.toNat : Int) := by omega
     have g3 : ¬ x.toNat < 48 := by omega
     have g3i : ¬ (x.toNat : Int) < 48 := by omega
     have g4 : 57 < x.toNat := by omega
     have g4i : (57 : Int) < (x.toNat : Int) := by omega
     go_wp2_with fail
     go_ret
     exact ⟨by rw [HN.out]; rfl, rfl⟩
   ·have HR := HREL hn
    clear HREL
    simp only [nameByte, Bool.or_eq_true, Bool.and_eq_true, decide_eq_true_eq, beq_iff_eq] at hn
    have hx5 := UInt8.toNat_lt x
    rcases Nat.lt_or_ge x.toNat 97 with g1 | g1
    ·have g1i : (x.toNat : Int) < 97 := by omega
     rcases Nat.lt_or_ge x.toNat 48 with g2 | g2
     ·have g3 : x.toNat = 45 := by omega
      have e3 : ((x.toNat : Int) == 45) = true := by rw [hxi]; simpa using g3
      have g2i : (x.toNat : Int) < 48 := by omega
      clear hxi
      go_wp2_with fail
      exact ⟨by simpa using HR.out, by simp [intOf]; omega⟩
     ·have g2i : ¬ (x.toNat : Int) < 48 := by omega
      have g3 : ¬ 57 < x.toNat := by omega
      have g3i : ¬ (57 : Int) < (x.toNat : Int) := by omega
      clear hxi
      go_wp2_with fail
      exact ⟨by simpa using HR.out, by simp [intOf]; omega⟩
    ·have g1i : ¬ (x.toNat : Int) < 97 := by omega
     have g2 : ¬ 122 < x.toNat := by omega
     have g2i : ¬ (122 : Int) < (x.toNat : Int) := by omega
     clear hxi
     go_wp2_with fail
     exact ⟨by simpa using HR.out, by simp [intOf]; omega⟩
  ·have hkn : decide ((k : Int) < (s.size : Int)) = false := by simp; omega
   have HY : Hid (isNameB s = true) := Lib.hid (by
    rw [HF.out]
    exact List.all_eq_true.2 fun x hx => by
     obtain ⟨j, hj⟩ := List.getElem?_of_mem hx
     exact HALL.out j x (by have := (List.getElem?_eq_some_iff.1 hj).1; rw [bl_len] at this; omega) hj)
   go_wp2_with fail
   go_ret
   exact ⟨by rw [HY.out]; rfl, rfl⟩
end Go.Proofs.YthpjffhccjlnhaaGreatDoor
