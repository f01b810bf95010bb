/- The reference's small functions: within, Same, has, how. -/
/- The reference's rising. -/
import Derived.Test.YtpjcnkajimgagaaGreatMHeld
import Derived.Test.YtpjcnkajimgagaaGreatMChk
import Derived.Test.YtpjcnkajimgagaaGreatMWords
import Derived.BigQuiet
import Derived.Deep.QuietTactic
import Derived.WalkMore
set_option linter.unusedSimpArgs false
set_option linter.unusedVariables false
namespace Go.Proofs.YtpjcnkajimgagaaGreat
open Go.RowKit

theorem within_any (a b c : Int) (w : World) :
  Calls Tryz.prog 68 #[.int .i64 a, .int .i64 b, .int .i64 c] w fun e w' => e = .returned (.bool (inB a b c)) ∧ w = w' := by
 go_enter Tryz.func68, Tryz.ntmps68
 go_wp2
 all_goals go_ret
 all_goals (refine ⟨ret_bool ?_, rfl⟩; rw [Bool.eq_iff_iff]; simp [inB]; omega)
theorem within_held {a b c : Int} {v : Bool} (h : inB a b c = v) (W : World) : Calls Tryz.prog 68 #[.int .i64 a, .int .i64 b, .int .i64 c] W fun e W' => e = .returned (.bool v) ∧ Below W.heap.size W W' :=
 (within_any a b c W).mono (by rintro e w' ⟨rfl, rfl⟩; exact ⟨by rw [h], Below.refl _ _⟩)
theorem how_any (t : Bool) (w : World) : Calls Tryz.prog 60 #[.bool t] w fun e w' => e = .returned (.int .i64 (if t then 1 else 2)) ∧ w = w' := by
 cases t
 all_goals
  go_enter Tryz.func60, Tryz.ntmps60
  go_wp2
  go_ret
  exact ⟨rfl, rfl⟩

theorem has_any (a : Option Addr) (c : Nat) (l : List Int) (x : Int) (w : World) (h : Ints w a l) (hl : l.length ≤ 1000000) :
  Calls Tryz.prog 83 #[.slice a l.length c, .int .i64 x] w fun e w' => e = .returned (.bool (l.contains x)) ∧ w = w' := by
 go_enter Tryz.func83, Tryz.ntmps83
 go_wp2
 go_loop [5] (fun i => ∃ k : Nat, k ≤ l.length ∧ i = .int .i64 k ∧ (l.take k).contains x = false) (fun i => l.length - (intOf i).toNat)
 case atStart => exact ⟨0, Nat.zero_le _, rfl, by simp⟩
 case round =>
  obtain ⟨k, hk, rfl, hall⟩ := hrel
  have HA := Lib.hid hall
  clear hall
  by_cases hlt : k < l.length
  ·obtain ⟨b, o, rfl, hb⟩ := h.base (by omega)
   obtain ⟨y, hy⟩ := get_of_lt l hlt
   have hc := hb _ _ hy
   have HY := Lib.hid hy
   clear hy hb
   by_cases hyx : y = x
   ·have hyb : (y == x) = true := by simp [hyx]
    have HX := Lib.hid hyx
    clear hyx
    go_wp2
    go_ret
    refine ⟨ret_bool ?_, rfl⟩
    have : x ∈ l := by rw [← HX.out]; exact List.mem_of_getElem? HY.out
    simp [this]
   ·have hyb : (y == x) = false := by simp [hyx]
    have HX := Lib.hid hyx
    clear hyx
    go_wp2
    go_round
    case rel => exact ⟨k + 1, by omega, by go_num, by rw [take_snoc HY.out]; simp only [List.contains_append, HA.out]; simp; exact fun e => HX.out e.symm⟩
    case measure => simp [intOf]; omega
  ·go_wp2
   go_ret
   refine ⟨ret_bool ?_, rfl⟩
   have h1 := HA.out
   rw [List.take_of_length_le (by omega)] at h1
   have h2 : ¬ x ∈ l := by simpa using h1
   simp [h2]

/-- two lists are equal -/
theorem same_take {l m : List Int} {k : Nat} {x y : Int} (hx : l[k]? = some x) (hy : m[k]? = some y) (h : l.take k = m.take k) : (l.take (k + 1) = m.take (k + 1)) ↔ x = y := by
 rw [take_snoc hx, take_snoc hy, h]; simp
set_option maxHeartbeats 1000000 in
theorem same_ref (a b : Option Addr) (ca cb : Nat) (l m : List Int) (w : World) (ha : Ints w a l) (hb : Ints w b m) (hl : l.length ≤ 1000000) (hm : m.length ≤ 1000000) :
  Calls Tryz.prog 14 #[.slice a l.length ca, .slice b m.length cb] w fun e w' => e = .returned (.bool (decide (l = m))) ∧ Below w.heap.size w w' := by
 by_cases hlen : l.length = m.length
 ·have hlb : ((l.length : Int) != (m.length : Int)) = false := by simp [hlen]
  have HL := Lib.hid hlen
  clear hlen
  go_enter Tryz.func14, Tryz.ntmps14
  go_wp2
  go_loopw [5] (fun i wr => ∃ k : Nat, k ≤ l.length ∧ i = .int .i64 k ∧ l.take k = m.take k ∧ Below w.heap.size w wr) (fun i _ => l.length - (intOf i).toNat)
  case atStart => exact ⟨0, Nat.zero_le _, rfl, by simp, Below.refl _ _⟩
  case round =>
   obtain ⟨k, hk, rfl, hall, hB⟩ := hrel
   have HA := Lib.hid hall
   have HB := Lib.hid hB
   clear hall
   by_cases hlt : k < l.length
   ·have hltm : k < m.length := by have := HL.out; omega
    obtain ⟨b1, o1, rfl, hb1⟩ := (ha.below hB).base (by omega)
    obtain ⟨b2, o2, rfl, hb2⟩ := (hb.below hB).base (by omega)
    obtain ⟨x, hx⟩ := get_of_lt l hlt
    obtain ⟨y, hy⟩ := get_of_lt m hltm
    have c1 := hb1 _ _ hx
    have c2 := hb2 _ _ hy
    have HX := Lib.hid hx
    have HY := Lib.hid hy
    have hki : (k : Int) < m.length := by omega
    clear hx hy hb1 hb2 hB
    by_cases hxy : x = y
    ·have hxb : (x != y) = false := by simp [hxy]
     have HXY := Lib.hid hxy
     clear hxy
     go_wp2_with fail
     go_quiet (fail)
     go_wp2_with fail
     go_roundw
     case rel => exact ⟨k + 1, by omega, by go_num, (same_take HX.out HY.out HA.out).2 HXY.out, below_drewN HB.out _⟩
     case measure => simp [intOf]; omega
    ·have hxb : (x != y) = true := by simp [hxy]
     have HXY := Lib.hid hxy
     clear hxy
     go_wp2_with fail
     go_quiet (fail)
     go_wp2_with fail
     go_ret
     refine ⟨ret_bool ?_, below_drewN HB.out _⟩
     symm
     simp only [decide_eq_false_iff_not]
     intro e
     subst e
     have := HX.out.symm.trans HY.out
     exact HXY.out (Option.some.inj this)
   ·clear hB
    go_wp2_with fail
    go_ret
    refine ⟨ret_bool ?_, HB.out⟩
    have h1 := HA.out
    have h2 := HL.out
    rw [List.take_of_length_le (by omega), List.take_of_length_le (by omega)] at h1
    simp [h1]
 ·have hlb : ((l.length : Int) != (m.length : Int)) = true := by simp; omega
  have HL := Lib.hid hlen
  clear hlen
  go_enter Tryz.func14, Tryz.ntmps14
  go_wp2
  go_ret
  exact ⟨ret_bool (by symm; simp only [decide_eq_false_iff_not]; exact fun e => HL.out (by rw [e])), Below.refl _ _⟩
end Go.Proofs.YtpjcnkajimgagaaGreat
namespace Go.Proofs.YtpjcnkajimgagaaGreat
open Go.RowKit

def risingB (l : List Int) (m : Int) : Bool := decide ((l.length : Int) ≤ m) && idsB l
theorem rising_no {l : List Int} {m : Int} {k : Nat} (_ : (l.length : Int) ≤ m) (hk : k < l.length) (h : idAt l k = false) : false = risingB l m := by
 rw [risingB, idsB, upto_false hk h, Bool.and_false]
set_option maxHeartbeats 2000000 in
theorem rising_any (a : Option Addr) (c : Nat) (l : List Int) (m : Int) (w : World) (h : Ints w a l) (hl : l.length ≤ 1000000) :
  Calls Tryz.prog 120 #[.slice a l.length c, .int .i64 m] w fun e w' => e = .returned (.bool (risingB l m)) ∧ Below w.heap.size w w' := by
 by_cases hlen : (l.length : Int) ≤ m
 ·have hnl : ¬ m < (l.length : Int) := by omega
  have HL := Lib.hid hlen
  clear hlen
  go_enter Tryz.func120, Tryz.ntmps120
  go_wp2
  go_loopw [5] (fun i wr => ∃ k : Nat, k ≤ l.length ∧ i = .int .i64 k ∧ (∀ j, j < k → idAt l j = true) ∧ Below w.heap.size w wr) (fun i _ => l.length - (intOf i).toNat)
  case atStart => exact ⟨0, Nat.zero_le _, rfl, all_none, Below.refl _ _⟩
  case round =>
   obtain ⟨k, hk, rfl, hall, hB⟩ := hrel
   have HA := Lib.hid hall
   have HB := Lib.hid hB
   clear hall
   by_cases hlt : k < l.length
   ·obtain ⟨b, o, rfl, hb⟩ := (h.below hB).base (by omega)
    obtain ⟨x, hx⟩ := get_of_lt l hlt
    have c1 := hb _ _ hx
    have HX := Lib.hid hx
    have HBA := Lib.hid hb
    clear hx hb hB
    rcases h1 : inB x 1 1000000 with _ | _
    ·have HH1 := Lib.hid h1
     clear h1
     go_wp2_with fail
     refine wp_region_heldB 22 [] (by kernel_rfl) (by kernel_rfl) (by kernel_rfl) (by simp) ?_
     intro S hS
     have k0 : ∀ W, S W → W.cell? ⟨b, o + k, none⟩ = some (.int .i64 x) := fun W h => below_cell (hS W h) c1
     have K0 := Lib.hid k0
     have HS := Lib.hid hS
     clear k0 hS c1
     simp only [List.take_succ_cons, List.take_zero, List.drop_succ_cons, List.drop_zero]
     repeat (first
      | (refine held_not rfl (by rfl) ?_; try (dsimp only); try simp only [Act.put, List.setIfInBounds_toArray, List.set_cons_zero, List.set_cons_succ])
      | (refine held_val (v := ?_) rfl (by rfl) ?_ ?_; rotate_left; (· (intro W hW; have q0 := K0.out W hW; go_simp; try with_reducible rfl)); try (dsimp only); try simp only [Act.put, List.setIfInBounds_toArray, List.set_cons_zero, List.set_cons_succ])
      | (refine held_skip rfl (by rfl) ?_ ?_; (· (intro W hW; have q0 := K0.out W hW; go_simp; try with_reducible rfl)); try (dsimp only); try simp only [Act.put, List.setIfInBounds_toArray, List.set_cons_zero, List.set_cons_succ])
      | (refine held_call (v := .bool false) (f := 68) (args := #[.int .i64 x, .int .i64 1, .int .i64 1000000]) rfl (by rfl) ?_ ?_ ?_; (· (intro W hW; go_simp; done)); (· exact (fun W hW => within_held HH1.out W)); try (dsimp only); try simp only [Act.put, List.setIfInBounds_toArray, List.set_cons_zero, List.set_cons_succ]))
     refine held_nil ?_
     intro τ hτ wn hW hO
     obtain rfl := laid0 hτ
     have HBW := Lib.hid (HS.out wn hW)
     clear hτ hO hW K0 HS
     simp only [overs, List.foldl_nil]
     go_wp2_with fail
     go_ret
     exact ⟨ret_bool (rising_no HL.out hlt (by simp [idAt, HX.out, HH1.out])), HB.out.trans (HBW.out.mono HB.out.size)⟩
    ·have HH1 := Lib.hid h1
     clear h1
     by_cases hk0 : k = 0
     ·have hneg : ¬ (0 < (k : Int)) := by omega
      have hdk : decide (0 < k) = false := by simp; omega
      have HK0 := Lib.hid hk0
      clear hk0
      go_wp2_with fail
      refine wp_region_heldB 22 [] (by kernel_rfl) (by kernel_rfl) (by kernel_rfl) (by simp) ?_
      intro S hS
      have k0 : ∀ W, S W → W.cell? ⟨b, o + k, none⟩ = some (.int .i64 x) := fun W h => below_cell (hS W h) c1
      have K0 := Lib.hid k0
      have HS := Lib.hid hS
      clear k0 hS c1
      simp only [List.take_succ_cons, List.take_zero, List.drop_succ_cons, List.drop_zero]
      repeat (first
       | (refine held_not rfl (by rfl) ?_; try (dsimp only); try simp only [Act.put, List.setIfInBounds_toArray, List.set_cons_zero, List.set_cons_succ])
       | (refine held_val (v := ?_) rfl (by rfl) ?_ ?_; rotate_left; (· (intro W hW; have q0 := K0.out W hW; go_simp; try with_reducible rfl)); try (dsimp only); try simp only [Act.put, List.setIfInBounds_toArray, List.set_cons_zero, List.set_cons_succ])
       | (refine held_skip rfl (by rfl) ?_ ?_; (· (intro W hW; have q0 := K0.out W hW; go_simp; try with_reducible rfl)); try (dsimp only); try simp only [Act.put, List.setIfInBounds_toArray, List.set_cons_zero, List.set_cons_succ])
       | (refine held_call (v := .bool true) (f := 68) (args := #[.int .i64 x, .int .i64 1, .int .i64 1000000]) rfl (by rfl) ?_ ?_ ?_; (· (intro W hW; go_simp; done)); (· exact (fun W hW => within_held HH1.out W)); try (dsimp only); try simp only [Act.put, List.setIfInBounds_toArray, List.set_cons_zero, List.set_cons_succ]))
      refine held_nil ?_
      intro τ hτ wn hW hO
      obtain rfl := laid0 hτ
      have HBW := Lib.hid (HS.out wn hW)
      clear hτ hO hW K0 HS
      simp only [overs, List.foldl_nil]
      go_wp2_with fail
      go_roundw
      case rel => exact ⟨k + 1, by omega, by go_num, all_step HA.out (by have h0 := HK0.out; have h1 := HX.out; rw [h0] at h1 ⊢; rw [idAt_zero h1]; exact HH1.out), HB.out.trans (HBW.out.mono HB.out.size)⟩
      case measure => simp [intOf]; omega
     ·have hpos : 0 < (k : Int) := by omega
      have hdk : decide (0 < k) = true := by simp; omega
      have hm1 : ((k : Int) - 1).toNat = k - 1 := by omega
      have hwr : IntKind.i64.wrap ((k : Int) - 1) = (k : Int) - 1 := IntWalk.i64_in _ (by omega)
      have h0k : (0 : Int) ≤ (k : Int) - 1 := by omega
      have hk1l : (k : Int) - 1 < (l.length : Int) := by omega
      have hk1g : ¬ ((k : Int) < 1) := by omega
      obtain ⟨y, hy⟩ := get_of_lt l (k := k - 1) (by omega)
      have c2 := HBA.out _ _ hy
      have HY := Lib.hid hy
      have HK0 := Lib.hid hk0
      clear hy hk0
      by_cases hyx : y < x
      ·have hyb : decide (x ≤ y) = false := by simp; omega
       have HYX := Lib.hid hyx
       clear hyx
       go_wp2_with fail
       refine wp_region_heldB 22 [] (by kernel_rfl) (by kernel_rfl) (by kernel_rfl) (by simp) ?_
       intro S hS
       have k0 : ∀ W, S W → W.cell? ⟨b, o + k, none⟩ = some (.int .i64 x) ∧ W.cell? ⟨b, o + (k - 1), none⟩ = some (.int .i64 y) := fun W h => ⟨below_cell (hS W h) c1, below_cell (hS W h) c2⟩
       have K0 := Lib.hid k0
       have HS := Lib.hid hS
       clear k0 hS c1 c2
       simp only [List.take_succ_cons, List.take_zero, List.drop_succ_cons, List.drop_zero]
       repeat (first
        | (refine held_not rfl (by rfl) ?_; try (dsimp only); try simp only [Act.put, List.setIfInBounds_toArray, List.set_cons_zero, List.set_cons_succ])
        | (refine held_val (v := ?_) rfl (by rfl) ?_ ?_; rotate_left; (· (intro W hW; obtain ⟨q0, q1⟩ := K0.out W hW; go_simp; try with_reducible rfl)); try (dsimp only); try simp only [Act.put, List.setIfInBounds_toArray, List.set_cons_zero, List.set_cons_succ])
        | (refine held_skip rfl (by rfl) ?_ ?_; (· (intro W hW; obtain ⟨q0, q1⟩ := K0.out W hW; go_simp; try with_reducible rfl)); try (dsimp only); try simp only [Act.put, List.setIfInBounds_toArray, List.set_cons_zero, List.set_cons_succ])
        | (refine held_call (v := .bool true) (f := 68) (args := #[.int .i64 x, .int .i64 1, .int .i64 1000000]) rfl (by rfl) ?_ ?_ ?_; (· (intro W hW; go_simp; done)); (· exact (fun W hW => within_held HH1.out W)); try (dsimp only); try simp only [Act.put, List.setIfInBounds_toArray, List.set_cons_zero, List.set_cons_succ]))
       refine held_nil ?_
       intro τ hτ wn hW hO
       obtain rfl := laid0 hτ
       have HBW := Lib.hid (HS.out wn hW)
       clear hτ hO hW K0 HS
       simp only [overs, List.foldl_nil]
       go_wp2_with fail
       go_roundw
       case rel => exact ⟨k + 1, by omega, by go_num, all_step HA.out (by simp [idAt, HX.out, HY.out, HH1.out, HYX.out]), HB.out.trans (HBW.out.mono HB.out.size)⟩
       case measure => simp [intOf]; omega
      ·have hyb : decide (x ≤ y) = true := by simp; omega
       have HYX := Lib.hid hyx
       clear hyx
       go_wp2_with fail
       refine wp_region_heldB 22 [] (by kernel_rfl) (by kernel_rfl) (by kernel_rfl) (by simp) ?_
       intro S hS
       have k0 : ∀ W, S W → W.cell? ⟨b, o + k, none⟩ = some (.int .i64 x) ∧ W.cell? ⟨b, o + (k - 1), none⟩ = some (.int .i64 y) := fun W h => ⟨below_cell (hS W h) c1, below_cell (hS W h) c2⟩
       have K0 := Lib.hid k0
       have HS := Lib.hid hS
       clear k0 hS c1 c2
       simp only [List.take_succ_cons, List.take_zero, List.drop_succ_cons, List.drop_zero]
       repeat (first
        | (refine held_not rfl (by rfl) ?_; try (dsimp only); try simp only [Act.put, List.setIfInBounds_toArray, List.set_cons_zero, List.set_cons_succ])
        | (refine held_val (v := ?_) rfl (by rfl) ?_ ?_; rotate_left; (· (intro W hW; obtain ⟨q0, q1⟩ := K0.out W hW; go_simp; try with_reducible rfl)); try (dsimp only); try simp only [Act.put, List.setIfInBounds_toArray, List.set_cons_zero, List.set_cons_succ])
        | (refine held_skip rfl (by rfl) ?_ ?_; (· (intro W hW; obtain ⟨q0, q1⟩ := K0.out W hW; go_simp; try with_reducible rfl)); try (dsimp only); try simp only [Act.put, List.setIfInBounds_toArray, List.set_cons_zero, List.set_cons_succ])
        | (refine held_call (v := .bool true) (f := 68) (args := #[.int .i64 x, .int .i64 1, .int .i64 1000000]) rfl (by rfl) ?_ ?_ ?_; (· (intro W hW; go_simp; done)); (· exact (fun W hW => within_held HH1.out W)); try (dsimp only); try simp only [Act.put, List.setIfInBounds_toArray, List.set_cons_zero, List.set_cons_succ]))
       refine held_nil ?_
       intro τ hτ wn hW hO
       obtain rfl := laid0 hτ
       have HBW := Lib.hid (HS.out wn hW)
       clear hτ hO hW K0 HS
       simp only [overs, List.foldl_nil]
       go_wp2_with fail
       go_ret
       exact ⟨ret_bool (rising_no HL.out hlt (by simp [idAt, HX.out, HY.out, HH1.out, HYX.out, HK0.out])), HB.out.trans (HBW.out.mono HB.out.size)⟩
   ·clear hB
    go_wp2_with fail
    go_ret
    exact ⟨ret_bool (by rw [risingB, decide_eq_true HL.out, idsB, upto_true (fun j hj => HA.out j (by omega))]; rfl), HB.out⟩
 ·have hnl : m < (l.length : Int) := by omega
  have HL := Lib.hid hlen
  clear hlen
  go_enter Tryz.func120, Tryz.ntmps120
  go_wp2
  go_ret
  exact ⟨ret_bool (by have h1 := HL.out; rw [risingB, decide_eq_false (by omega)]; rfl), Below.refl _ _⟩
end Go.Proofs.YtpjcnkajimgagaaGreat
