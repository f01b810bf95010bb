/- The checks of a part and of a name, walked: each returns what the plain functions of the model say. -/
/- The checks of a name, a part and a case. -/
import Derived.Test.YtpjcnkajimgagaaGreatProg
import Derived.Test.YtpjcnkajimgagaaGreatMWords
import Derived.WalkKit
import Derived.WalkSpells
import Derived.WalkLawsBesides
import Derived.Deep.QuietTactic
import Derived.BigQuiet
import Derived.Handy
import Derived.Lib.Hide
import Derived.Lib.ConvBytes
set_option linter.unusedSimpArgs false
set_option linter.unusedVariables false
namespace Go.Proofs.YtpjcnkajimgagaaGreat
open Go.RowKit

set_option maxHeartbeats 400000 in
theorem in_any (a b c : Int) (w : World) :
  Calls Tryz.prog 66 #[.int .i64 a, .int .i64 b, .int .i64 c] w fun e w' => e = .returned (.bool (inB a b c)) ∧ w = w' := by
 go_enter Tryz.func66, Tryz.ntmps66
 go_wp2
 all_goals (go_ret; refine ⟨?_, rfl⟩; unfold inB; congr 2; simp; omega)

set_option maxHeartbeats 400000 in
theorem by_any (n : Int) (f : Bool) (w : World) :
  Calls Tryz.prog 118 #[.int .i64 n, .bool f] w fun e w' => e = .returned (.bool (byB n f)) ∧ w = w' := by
 go_enter Tryz.func118, Tryz.ntmps118
 go_wp2_with (go_at_call 66; refine (in_any _ _ _ _).mono ?_; rintro e w' ⟨rfl, rfl⟩)
 all_goals (go_ret; exact ⟨by simp [byB, *], rfl⟩)

set_option maxHeartbeats 1000000 in
theorem ids_any (a : Option Addr) (c : Nat) (l : List Int) (w : World) (h : Ints w a l) (hl : l.length ≤ 1000000) :
  Calls Tryz.prog 134 #[.slice a l.length c] w fun e w' => e = .returned (.bool (idsB l)) ∧ w = w' := by
 go_enter Tryz.func134, Tryz.ntmps134
 go_wp2
 go_loop [3, 4, 7] (fun _ _ i => ∃ k : Nat, k ≤ l.length ∧ i = .int .i64 k ∧ ∀ j, j < k → idAt l j = true) (fun _ _ i => l.length - (intOf i).toNat)
 case atStart => exact ⟨0, Nat.zero_le _, rfl, all_none⟩
 case round =>
  obtain ⟨k, hk, rfl, hall⟩ := hrel
  have HA := Lib.hid hall
  clear hall
  by_cases hlt : k < l.length
  ·obtain ⟨b, o, rfl, hb⟩ := h.base (by omega)
   obtain ⟨x, hx⟩ := get_of_lt l hlt
   have hc := hb _ _ hx
   rcases k with _ | k
   ·simp only [Nat.add_zero] at hc
    have HX := Lib.hid hx
    clear hx hb
    go_wp2_with (go_at_call 66; refine (in_any _ _ _ _).mono ?_; rintro e w' ⟨rfl, rfl⟩)
    ·exact ⟨⟨1, by omega, rfl, all_step HA.out (by rw [idAt_zero HX.out]; assumption)⟩, by simp [intOf]; omega⟩
    ·go_ret
     exact ⟨ret_bool (upto_false hlt (by rw [idAt_zero HX.out]; simp [*])).symm, rfl⟩
   ·obtain ⟨y, hy⟩ := get_of_lt l (k := k) (by omega)
    have hc' := hb _ _ hy
    have HX := Lib.hid hx
    have HY := Lib.hid hy
    clear hx hy hb
    go_wp2_with (go_at_call 66; refine (in_any _ _ _ _).mono ?_; rintro e w' ⟨rfl, rfl⟩)
    ·go_ret
     exact ⟨ret_bool (upto_false hlt (by rw [idAt_succ HX.out HY.out]; simp [*])).symm, rfl⟩
    ·exact ⟨⟨k + 2, by omega, by go_num, all_step HA.out (by rw [idAt_succ HX.out HY.out]; simp [*])⟩, by simp [intOf]; omega⟩
    ·go_ret
     exact ⟨ret_bool (upto_false hlt (by rw [idAt_succ HX.out HY.out]; simp [*])).symm, rfl⟩
  ·go_wp2
   go_ret
   exact ⟨ret_bool (by rw [idsB, upto_true (fun j hj => HA.out j (by omega))]), rfl⟩

def badByte (c : UInt8) : Bool := !nameByte c
set_option maxHeartbeats 1000000 in
theorem nameFn_any (c : UInt8) (w : World) :
  Calls Tryz.prog 133 #[.int .u8 c.toNat] w fun e w' => e = .returned (.bool (badByte c)) ∧ w = w' := by
 go_enter Tryz.func133, Tryz.ntmps133
 go_wp2
 all_goals go_ret
 all_goals (refine ⟨ret_bool ?_, rfl⟩; rw [Bool.eq_iff_iff]; simp [badByte, nameByte]; omega)

def IndexPost (l : List UInt8) (w : World) (e : Ending) (w' : World) : Prop :=
 (if l.all nameByte then e = .returned (.int .i64 (-1)) else ∃ k : Nat, e = .returned (.int .i64 k)) ∧ w = w'

theorem all_of_upto {l : List UInt8} (h : ∀ (j : Nat) x, j < l.length → l[j]? = some x → nameByte x = true) : l.all nameByte = true := by
 rw [List.all_eq_true]
 intro x hx
 obtain ⟨j, hj, e⟩ := List.getElem_of_mem hx
 exact h j x hj (by simp [hj, e])
theorem not_all_of {l : List UInt8} {j : Nat} {x : UInt8} (h : l[j]? = some x) (hx : nameByte x = false) : ¬ l.all nameByte = true := by
 rw [List.all_eq_true]
 intro hh
 have := hh x (List.mem_of_getElem? h)
 rw [hx] at this; cases this

set_option maxHeartbeats 1000000 in
theorem indexFn_any (a : Option Addr) (c : Nat) (l : List UInt8) (w : World) (h : Bytes w a l) (hl : l.length ≤ 1000000) :
  Calls Tryz.prog 153 #[.slice a l.length c, .func (.func 133) #[] #[]] w (IndexPost l w) := by
 go_enter Tryz.func153, Tryz.ntmps153
 go_wp2
 go_loop [5, 8] (fun _ i => ∃ k : Nat, k ≤ l.length ∧ i = .int .i64 k ∧ ∀ (j : Nat) x, j < k → l[j]? = some x → nameByte x = true) (fun _ i => l.length - (intOf i).toNat)
 case atStart => exact ⟨0, Nat.zero_le _, rfl, fun j _ hj => absurd hj (Nat.not_lt_zero j)⟩
 case round =>
  obtain ⟨k, hk, rfl, hall⟩ := hrel
  have HA := Lib.hid hall
  clear hall
  by_cases hlt : k < l.length
  ·obtain ⟨b, o, x, rfl, hx, hc⟩ := h.at_ hlt
   have HX := Lib.hid hx
   clear hx
   go_wp2_with (go_at_call 133; refine (nameFn_any _ _).mono ?_; rintro e w' ⟨rfl, rfl⟩)
   ·have hb : badByte x = true := by assumption
    go_ret
    refine ⟨?_, rfl⟩
    rw [if_neg (not_all_of HX.out (by simpa [badByte] using hb))]
    exact ⟨k, rfl⟩
   ·have hb : badByte x = false := by assumption
    refine ⟨⟨k + 1, by omega, by go_num, fun j y hj hy => ?_⟩, by simp [intOf]; omega⟩
    rcases Nat.lt_or_ge j k with h1 | h1
    ·exact HA.out j y h1 hy
    ·have : j = k := by omega
     subst this
     rw [HX.out] at hy; cases hy
     simpa [badByte] using hb
  ·go_wp2
   go_ret
   refine ⟨?_, rfl⟩
   rw [if_pos (all_of_upto fun j x hj hx => HA.out j x (by omega) hx)]
   rfl

set_option maxHeartbeats 1000000 in
theorem containsFn_any (a : Option Addr) (c : Nat) (l : List UInt8) (w : World) (h : Bytes w a l) (hl : l.length ≤ 1000000) :
  Calls Tryz.prog 132 #[.slice a l.length c, .func (.func 133) #[] #[]] w fun e w' => e = .returned (.bool (!l.all nameByte)) ∧ w = w' := by
 have hi := indexFn_any a c l w h hl
 unfold IndexPost at hi
 by_cases ha : l.all nameByte = true
 ·simp only [ha, if_true] at hi
  have HI := Lib.hid hi
  have HB := Lib.hid ha
  clear hi ha
  go_enter Tryz.func132, Tryz.ntmps132
  go_wp2_with (go_at_call 153; refine HI.out.mono ?_; rintro e w' ⟨rfl, rfl⟩)
  go_ret
  exact ⟨ret_bool (by rw [HB.out]; rfl), rfl⟩
 ·simp only [ha] at hi
  have HI := Lib.hid hi
  have HB := Lib.hid ha
  clear hi ha
  go_enter Tryz.func132, Tryz.ntmps132
  go_wp2_with (go_at_call 153; refine HI.out.mono ?_; rintro e w' ⟨⟨k, rfl⟩, rfl⟩)
  go_ret
  exact ⟨ret_bool (by simp [HB.out]), rfl⟩

end Go.Proofs.YtpjcnkajimgagaaGreat
namespace Go.Proofs.YtpjcnkajimgagaaGreat
open Go.RowKit

theorem conv_any (s : ByteArray) (w : World) : ∃ cap W', (convert 9 100 (.string s)).run Tryz.prog w = .ok (.slice (some ⟨w.heap.size, 0, none⟩) s.size cap) W' ∧
  Bytes W' (some ⟨w.heap.size, 0, none⟩) s.data.toList ∧ Below w.heap.size w W' := by
 have h := Lib.run_convert_string_bytes (P := Tryz.prog) w 9 100 5 s Tryz.underlying9 Tryz.underlying100 Tryz.underlying5
 refine ⟨_, _, h, fun k v hv => ?_, ⟨?_, ?_, ?_, by rw [Lib.bytesWorld_size]; omega, fun k hk => Lib.bytesWorld_at_old w 5 s k hk⟩⟩
 ·refine ⟨_, _, rfl, ?_⟩
  rw [List.getElem?_map] at hv
  cases hx : s.data.toList[k]? with
  | none => rw [hx] at hv; cases hv
  | some x =>
   rw [hx] at hv; cases hv
   have hk : k < s.size := by
    have := (List.getElem?_eq_some_iff.1 hx).1
    simpa using this
   rw [Nat.zero_add, Lib.bytesWorld_cell w 5 s k hk]
   simp only [List.getD, hx, Option.getD_some]
 all_goals (simp only [Lib.bytesWorld, World.freeze]; split <;> rfl)

theorem name_head (s : ByteArray) (h : 0 < s.size) : s.data.toList[0]?.getD 0 = s[0] := by
 have : s.data.toList[0]? = some s[0] := by simp [ByteArray.getElem_eq_getElem_data, h]
 rw [this]; rfl

set_option maxRecDepth 100000 in
set_option maxHeartbeats 1000000 in
theorem isName_any (s : ByteArray) (w : World) (hs : s.size ≤ 1000) :
  Calls Tryz.prog 117 #[.string s] w fun e w' => e = .returned (.bool (isNameB s)) ∧ Below w.heap.size w w' := by
 by_cases h0 : inB s.size 1 24 = true
 ·have hp : 0 < s.size := by simp [inB] at h0; omega
  obtain ⟨cap, W', hc, hb, hw⟩ := conv_any s w
  have HB := Lib.hid hb
  have HW := Lib.hid hw
  have HH := Lib.hid (name_head s hp)
  have hl : s.data.toList.length = s.size := by simp
  have hk := containsFn_any _ cap _ W' hb (by omega)
  rw [hl] at hk
  have HK := Lib.hid hk
  clear hb hw hl hk
  go_enter Tryz.func117, Tryz.ntmps117
  go_wp2_with (first
   | (go_at_call 66; refine (in_any _ _ _ _).mono ?_; rintro e w' ⟨rfl, rfl⟩)
   | (go_at_call 132; refine HK.out.mono ?_; rintro e w' ⟨rfl, rfl⟩))
  all_goals go_ret
  ·refine ⟨ret_bool ?_, Below.refl _ _⟩
   rw [isNameB, HH.out]
   simp; omega
  ·refine ⟨ret_bool ?_, HW.out⟩
   rw [isNameB, HH.out]
   simp [*]; intro _; omega
  ·refine ⟨ret_bool ?_, Below.refl _ _⟩
   rw [isNameB, HH.out]
   simp [*]; intros; omega
 ·go_enter Tryz.func117, Tryz.ntmps117
  go_wp2_with (go_at_call 66; refine (in_any _ _ _ _).mono ?_; rintro e w' ⟨rfl, rfl⟩)
  go_ret
  exact ⟨ret_bool (by simp [isNameB, h0]), Below.refl _ _⟩

set_option maxRecDepth 100000 in
set_option maxHeartbeats 1000000 in
theorem isPart_any (v : Prt) (sa ra : Option Addr) (sc rc : Nat) (w : World) (hs : Ints w sa v.sherds) (hr : Ints w ra v.rests) (h1 : v.sherds.length ≤ 1000) (h2 : v.rests.length ≤ 1000) :
  Calls Tryz.prog 119 #[.agg #[.slice sa v.sherds.length sc, .int .i64 v.span.low, .int .i64 v.span.high, .int .i64 v.span.lowBy, .int .i64 v.span.highBy, .bool v.foot, .int .i64 v.footBy, .slice ra v.rests.length rc]] w fun e w' => e = .returned (.bool (isPartB v)) ∧ Below w.heap.size w w' := by
 obtain ⟨ss, ⟨lo, hi, lb, hb⟩, ft, fb, rs⟩ := v
 dsimp only at *
 have HS := Lib.hid hs
 have HR := Lib.hid hr
 clear hs hr
 go_enter Tryz.func119, Tryz.ntmps119
 go_wp2_with (first
  | (go_at_call 66; refine (in_any _ _ _ _).mono ?_; rintro e w' ⟨rfl, rfl⟩)
  | (go_at_call 118; refine (by_any _ _ _).mono ?_; rintro e w' ⟨rfl, rfl⟩)
  | (go_at_call 134; (with_reducible refine (ids_any sa sc ss _ (HS.out.below (by go_grown)) (by omega)).mono ?_); rintro e w' ⟨rfl, rfl⟩)
  | (go_at_call 134; (with_reducible refine (ids_any ra rc rs _ (HR.out.below (by go_grown)) (by omega)).mono ?_); rintro e w' ⟨rfl, rfl⟩))
 all_goals (go_ret; refine ⟨ret_bool ?_, by go_grown⟩)
 ·have h3 : hi ≤ 1000 → False := fun h => by omega
  simp [isPartB, okSpn, *]; intros; omega
 all_goals (simp [isPartB, okSpn, *]; try omega)
end Go.Proofs.YtpjcnkajimgagaaGreat
