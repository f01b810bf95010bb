/- slices.Index and slices.Contains at []int, walked. -/
import Derived.Test.YtpjcnkajimgagaaGreatMRefA
set_option linter.unusedSimpArgs false
set_option linter.unusedVariables false
namespace Go.Proofs.YtpjcnkajimgagaaGreat
open Go.RowKit
attribute [local go_sem] Oper.semAt_some

theorem index_any (a : Option Addr) (c : Nat) (l : List Int) (x : Int) (w : World) (h : Ints w a l) (hl : l.length ≤ 1000000) :
  Calls Tryz.prog 103 #[.slice a l.length c, .int .i64 x] w fun e w' => (∃ v : Int, e = .returned (.int .i64 v) ∧ (decide (0 ≤ v)) = l.contains x) ∧ Below w.heap.size w w' := by
 go_enter Tryz.func103, Tryz.ntmps103
 go_wp2_with fail
 go_loopw [8] (fun i wr => ∃ k : Nat, k ≤ l.length ∧ i = .int .i64 k ∧ (l.take k).contains x = false ∧ Below w.heap.size w wr) (fun i _ => l.length - (intOf i).toNat)
 case atStart => exact ⟨0, Nat.zero_le _, rfl, by simp, Below.refl _ _⟩
 case round =>
  obtain ⟨k, hk, rfl, hall, hb⟩ := hrel
  have HA := Lib.hid hall
  have HB := Lib.hid hb
  clear hall hb
  by_cases hlt : k < l.length
  ·obtain ⟨b, o, rfl, hc0⟩ := (h.below HB.out).base (by omega)
   obtain ⟨y, hy⟩ := get_of_lt l hlt
   have hc := hc0 _ _ hy
   have hkn : (k : Int) < (l.length : Int) := by omega
   have HY := Lib.hid hy
   clear hy hc0
   by_cases hyx : x = y
   ·have hyb : (x == y) = true := by simp [hyx]
    have HX := Lib.hid hyx
    clear hyx
    go_wp2_with fail
    try (go_quiet (fail); go_wp2_with fail)
    go_ret
    have : x ∈ l := by rw [HX.out]; exact List.mem_of_getElem? HY.out
    first
     | exact ⟨⟨_, rfl, by simp [this]⟩, HB.out⟩
     | exact ⟨⟨_, rfl, by simp [this]⟩, below_drewN HB.out _⟩
   ·have hyb : (x == y) = false := by simp [hyx]
    have HX := Lib.hid hyx
    clear hyx
    go_wp2_with fail
    try (go_quiet (fail); go_wp2_with fail)
    go_roundw
    case rel =>
     have e : (l.take (k + 1)).contains x = false := by rw [take_snoc HY.out]; simp only [List.contains_append, HA.out]; simp; exact HX.out
     first
      | exact ⟨k + 1, by omega, by go_num, e, HB.out⟩
      | exact ⟨k + 1, by omega, by go_num, e, below_drewN HB.out _⟩
    case measure => simp [intOf]; omega
  ·go_wp2_with fail
   go_ret
   have h1 := HA.out
   rw [List.take_of_length_le (by omega)] at h1
   have h2 : ¬ x ∈ l := by simpa using h1
   exact ⟨⟨_, rfl, by simp [h2]⟩, HB.out⟩
theorem contains_any (a : Option Addr) (c : Nat) (l : List Int) (x : Int) (w : World) (h : Ints w a l) (hl : l.length ≤ 1000000) :
  Calls Tryz.prog 65 #[.slice a l.length c, .int .i64 x] w fun e w' => e = .returned (.bool (l.contains x)) ∧ Below w.heap.size w w' := by
 have HI := Lib.hid (index_any a c l x w h hl)
 clear h
 go_enter Tryz.func65, Tryz.ntmps65
 go_wp2_with fail
 (with_reducible refine HI.out.mono ?_)
 rintro e w2 ⟨⟨v, rfl, hv⟩, hb⟩
 have HV := Lib.hid hv
 have HB := Lib.hid hb
 clear hv hb
 by_cases h0 : 0 ≤ v
 ·go_wp2_with fail
  go_ret
  exact ⟨by rw [← HV.out]; simp [h0], HB.out⟩
 ·go_wp2_with fail
  go_ret
  exact ⟨by rw [← HV.out]; simp [h0], HB.out⟩
end Go.Proofs.YtpjcnkajimgagaaGreat
