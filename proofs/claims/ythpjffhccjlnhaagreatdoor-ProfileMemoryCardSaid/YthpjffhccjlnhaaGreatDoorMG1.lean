/- Package profile: in, isName; a search through bytes by a function. No condition. -/
/- Package profile: isSet. No condition. -/
/- Arrays that are known cell by cell, of whatever size: their loads and stores, whole and in part, by value. No condition. -/
/- Package profile: of, cut, with: sets of classes. No condition. -/
/- Package profile: cut and with. No condition. -/
/- Package profile: two sets compared. No condition. -/
/- The law of the range over a function, for iterators that read no memory between two rounds: a round may write whatever lies. No condition. -/
import Derived.Test.YthpjffhccjlnhaaGreatDoorProg
import Derived.Test.YthpjffhccjlnhaaGreatDoorMWords
import Derived.Lib.ConvBytes
import Derived.RangeFuncCalls
import Derived.Shelf.Abstract
import Derived.WalkKit
import Derived.WalkSpells
import Derived.WalkLawsBesides
import Derived.Deep.QuietTactic
import Derived.BigQuiet
import Derived.Handy
import Derived.Lib.Hide
import Derived.Test.YthpjffhccjlnhaaGreatDoorMP4
import Derived.IntWalk
import Derived.Test.YthpjffhccjlnhaaGreatDoorRangeF
import Derived.Deep.MidRow
import Derived.Test.YthpjffhccjlnhaaGreatDoorMHeld
import Derived.Deep.DeepCutAuto
import Derived.Laws.StructEq
import Derived.ChangeKeysEq
set_option linter.unusedSimpArgs false
set_option linter.unusedVariables false
namespace Go.Proofs.YthpjffhccjlnhaaGreatDoor
open Go.RowKit

set_option maxHeartbeats 400000 in
theorem in_any (a b c : Int) (w : World) :
  Calls Tryz.prog 95 #[.int .i64 a, .int .i64 b, .int .i64 c] w fun e w' => e = .returned (.bool (inB a b c)) ∧ w = w' := by
 go_enter Tryz.func95, Tryz.ntmps95
 go_wp2
 all_goals (go_ret; refine ⟨?_, rfl⟩; unfold inB; congr 2; simp; omega)

def badByte (c : UInt8) : Bool := !nameByte c
set_option maxHeartbeats 1000000 in
theorem nameFn_any (c : UInt8) (w : World) :
  Calls Tryz.prog 163 #[.int .u8 c.toNat] w fun e w' => e = .returned (.bool (badByte c)) ∧ w = w' := by
 go_enter Tryz.func163, Tryz.ntmps163
 go_wp2
 all_goals go_ret
 all_goals (refine ⟨ret_bool ?_, rfl⟩; rw [Bool.eq_iff_iff]; simp [badByte, nameByte]; omega)

/-- something holds of no element, or the place of the first of which it holds -/
def IdxPost {α : Type} (p : α → Bool) (l : List α) (w : World) (e : Ending) (w' : World) : Prop :=
 (if l.any p then ∃ k : Nat, e = .returned (.int .i64 k) else e = .returned (.int .i64 (-1))) ∧ Below w.heap.size w w'
theorem any_no {α : Type} {p : α → Bool} {l : List α} (h : ∀ (j : Nat) x, j < l.length → l[j]? = some x → p x = false) : ¬ l.any p = true := by
 intro hh
 obtain ⟨x, hx, hp⟩ := List.any_eq_true.1 hh
 obtain ⟨j, hj, e⟩ := List.getElem_of_mem hx
 rw [h j x hj (by simp [hj, e])] at hp; cases hp
theorem any_yes {α : Type} {p : α → Bool} {l : List α} {j : Nat} {x : α} (h : l[j]? = some x) (hx : p x = true) : l.any p = true := List.any_eq_true.2 ⟨x, List.mem_of_getElem? h, hx⟩

set_option maxHeartbeats 1000000 in
theorem indexB_any (K : Nat) (caps : Array Value) (p : UInt8 → Bool) (hent : ∀ args W, (callFunc K args).run Tryz.prog W = .ok (.enter K args) W) (hf : ∀ (c : UInt8) W, Calls Tryz.prog K (#[.int .u8 c.toNat] ++ caps) W fun e W' => e = .returned (.bool (p c)) ∧ Below W.heap.size W W')
  (a : Option Addr) (c : Nat) (l : List UInt8) (w : World) (h : Bytes w a l) (hl : l.length ≤ 1000000) :
  Calls Tryz.prog 162 #[.slice a l.length c, .func (.func K) #[] caps] w (IdxPost p l w) := by
 have HF := Lib.hid hf
 have HBY := Lib.hid h
 clear hf h
 go_enter Tryz.func162, Tryz.ntmps162
 go_wp2_with fail
 go_loopw [5, 8] (fun _ i wr => ∃ k : Nat, k ≤ l.length ∧ i = .int .i64 k ∧ (∀ (j : Nat) x, j < k → l[j]? = some x → p x = false) ∧ Below w.heap.size w wr) (fun _ i _ => l.length - (intOf i).toNat)
 case atStart => exact ⟨0, Nat.zero_le _, rfl, fun j _ hj => absurd hj (Nat.not_lt_zero j), Below.refl _ _⟩
 case round =>
  obtain ⟨k, hk, rfl, hall, hbw⟩ := hrel
  have HA := Lib.hid hall
  have HW := Lib.hid hbw
  clear hall hbw
  by_cases hlt : k < l.length
  ·obtain ⟨b, o, x, rfl, hx, hc⟩ := (HBY.out.below HW.out).at_ hlt
   have HX := Lib.hid hx
   clear hx
   go_wp2_with fail
   refine (HF.out x _).mono ?_
   rintro e w1 ⟨rfl, hb1⟩
   have HB1 := Lib.hid (HW.out.trans (hb1.mono HW.out.size))
   clear hb1 hc
   rcases hp : p x with _ | _
   ·have HP := Lib.hid hp
    clear hp
    go_wp2_with fail
    go_roundw
    case rel =>
     refine ⟨k + 1, by omega, by go_num, fun j y hj hy => ?_, HB1.out⟩
     rcases Nat.lt_or_ge j k with h1 | h1
     ·exact HA.out j y h1 hy
     ·have : j = k := by omega
      subst this
      rw [HX.out] at hy; cases hy
      exact HP.out
    case measure => simp [intOf]; omega
   ·have HP := Lib.hid hp
    clear hp
    go_wp2_with fail
    go_ret
    refine ⟨?_, HB1.out⟩
    rw [if_pos (any_yes HX.out HP.out)]
    exact ⟨k, rfl⟩
  ·go_wp2_with fail
   go_ret
   refine ⟨?_, HW.out⟩
   rw [if_neg (any_no fun j x hj hx => HA.out j x (by omega) hx)]
   rfl

set_option maxHeartbeats 1000000 in
theorem containsB_any (K : Nat) (caps : Array Value) (p : UInt8 → Bool) (hent : ∀ args W, (callFunc K args).run Tryz.prog W = .ok (.enter K args) W) (hf : ∀ (c : UInt8) W, Calls Tryz.prog K (#[.int .u8 c.toNat] ++ caps) W fun e W' => e = .returned (.bool (p c)) ∧ Below W.heap.size W W')
  (a : Option Addr) (c : Nat) (l : List UInt8) (w : World) (h : Bytes w a l) (hl : l.length ≤ 1000000) :
  Calls Tryz.prog 144 #[.slice a l.length c, .func (.func K) #[] caps] w fun e w' => e = .returned (.bool (l.any p)) ∧ Below w.heap.size w w' := by
 have hi := indexB_any K caps p hent hf a c l w h hl
 unfold IdxPost at hi
 clear hent hf
 by_cases ha : l.any p = true
 ·simp only [ha, if_true] at hi
  have HI := Lib.hid hi
  have HB := Lib.hid ha
  clear hi ha
  go_enter Tryz.func144, Tryz.ntmps144
  go_wp2_with fail
  refine HI.out.mono ?_
  rintro e w' ⟨⟨k, rfl⟩, hb⟩
  have HW := Lib.hid hb
  clear hb
  go_wp2_with fail
  go_ret
  exact ⟨ret_bool (by simp [HB.out]), HW.out⟩
 ·simp only [ha] at hi
  have HI := Lib.hid hi
  have HB := Lib.hid ha
  clear hi ha
  go_enter Tryz.func144, Tryz.ntmps144
  go_wp2_with fail
  refine HI.out.mono ?_
  rintro e w' ⟨he, hb⟩
  obtain rfl := (show e = .returned (.int .i64 (-1)) by simpa using he)
  have HW := Lib.hid hb
  clear hb he
  go_wp2_with fail
  go_ret
  exact ⟨ret_bool (by simpa using HB.out), HW.out⟩

theorem nameFn_below (c : UInt8) (w : World) : Calls Tryz.prog 163 #[.int .u8 c.toNat] w fun e w' => e = .returned (.bool (badByte c)) ∧ Below w.heap.size w w' :=
 (nameFn_any c w).mono fun e w' h => ⟨h.1, h.2 ▸ Below.refl _ _⟩
theorem any_bad (l : List UInt8) : l.any badByte = !l.all nameByte := by simp [badByte, List.any_eq_not_all_not]
theorem conv_any (s : ByteArray) (w : World) : ∃ cap W', (convert 9 98 (.string s)).run Tryz.prog w = .ok (.slice (some ⟨w.heap.size, 0, none⟩) s.size cap) W' ∧
  Bytes W' (some ⟨w.heap.size, 0, none⟩) s.data.toList ∧ Below w.heap.size w W' := by
 have h := Lib.run_convert_string_bytes (P := Tryz.prog) w 9 98 5 s Tryz.underlying9 Tryz.underlying98 Tryz.underlying5
 refine ⟨_, _, h, fun k v hv => ?_, ⟨?_, ?_, ?_, by rw [Lib.bytesWorld_size]; omega, fun k hk => Lib.bytesWorld_at_old w 5 s k hk⟩⟩
 ·refine ⟨_, _, rfl, ?_⟩
  rw [List.getElem?_map] at hv
  cases hx : s.data.toList[k]? with
  | none => rw [hx] at hv; cases hv
  | some x =>
   rw [hx] at hv; cases hv
   have hk : k < s.size := by
    have := (List.getElem?_eq_some_iff.1 hx).1
    simpa using this
   rw [Nat.zero_add, Lib.bytesWorld_cell w 5 s k hk]
   simp only [List.getD, hx, Option.getD_some]
 all_goals (simp only [Lib.bytesWorld, World.freeze]; split <;> rfl)

theorem name_head (s : ByteArray) (h : 0 < s.size) : s.data.toList[0]?.getD 0 = s[0] := by
 have : s.data.toList[0]? = some s[0] := by simp [ByteArray.getElem_eq_getElem_data, h]
 rw [this]; rfl

set_option maxRecDepth 100000 in
set_option maxHeartbeats 1000000 in
theorem isName_any (s : ByteArray) (w : World) (hs : s.size ≤ 1000) :
  Calls Tryz.prog 146 #[.string s] w fun e w' => e = .returned (.bool (isNameB s)) ∧ Below w.heap.size w w' := by
 by_cases h0 : inB s.size 1 24 = true
 ·have hp : 0 < s.size := by simp [inB] at h0; omega
  obtain ⟨cap, W', hc, hb, hw⟩ := conv_any s w
  have HB := Lib.hid hb
  have HW := Lib.hid hw
  have HH := Lib.hid (name_head s hp)
  have hl : s.data.toList.length = s.size := by simp
  have hk := containsB_any 163 #[] badByte (enters_of Tryz.func163 (by kernel_rfl) rfl) (fun c W => by simpa using nameFn_below c W) _ cap _ W' hb (by omega)
  rw [hl, any_bad] at hk
  have HK := Lib.hid hk
  clear hb hw hl hk
  go_enter Tryz.func146, Tryz.ntmps146
  go_wp2_with (first
   | (go_at_call 95; refine (in_any _ _ _ _).mono ?_; rintro e w' ⟨rfl, rfl⟩)
   | (go_at_call 144; refine HK.out.mono ?_; rintro e w' ⟨rfl, hbk⟩; have HBK := Lib.hid hbk; clear hbk))
  all_goals go_ret
  ·refine ⟨ret_bool ?_, Below.refl _ _⟩
   rw [isNameB, HH.out]
   simp; omega
  ·refine ⟨ret_bool ?_, HW.out.trans (HBK.out.mono HW.out.size)⟩
   rw [isNameB, HH.out]
   simp [*]; intro _; omega
  ·refine ⟨ret_bool ?_, Below.refl _ _⟩
   rw [isNameB, HH.out]
   simp [*]; intros; omega
 ·go_enter Tryz.func146, Tryz.ntmps146
  go_wp2_with (go_at_call 95; refine (in_any _ _ _ _).mono ?_; rintro e w' ⟨rfl, rfl⟩)
  go_ret
  exact ⟨ret_bool (by simp [isNameB, h0]), Below.refl _ _⟩

end Go.Proofs.YthpjffhccjlnhaaGreatDoor
namespace Go.Proofs.YthpjffhccjlnhaaGreatDoor
open Go.RowKit

theorem below_drewN {B : Nat} {a w : World} (h : Below B a w) (n : Nat) : Below B a (w.drewN n) := ⟨h.os, h.tape, h.output, h.size, h.block⟩
theorem bl_at (s : ByteArray) {k : Nat} (h : k < s.size) : (bl s)[k]? = some s[k] := by
 simp [bl, ByteArray.getElem_eq_getElem_data, h]
theorem setAt_zero4 (s : ByteArray) (h : 0 < s.size) : setAtC (bl s) 0 = letC s[0] := by simp [setAtC, bl_at s h]
theorem setAt_succ4 (s : ByteArray) {k : Nat} (h : k + 1 < s.size) : setAtC (bl s) (k + 1) = (letC s[k + 1] && decide (s[k].toNat < s[k + 1].toNat)) := by
 simp [setAtC, bl_at s h, bl_at s (show k < s.size by omega)]
theorem bl_len (s : ByteArray) : (bl s).length = s.size := by simp [bl]
theorem notSet {l : List UInt8} {k : Nat} (hk : k < l.length) (h : setAtC l k = false) : isSetB l = false := by
 rw [Bool.eq_false_iff]; intro hh
 have := isSetB_iff.1 hh k hk
 rw [h] at this; cases this
set_option maxRecDepth 100000 in
set_option maxHeartbeats 2000000 in
theorem isSet_any (s : ByteArray) (w : World) (hs : s.size ≤ 1000000) :
  Calls Tryz.prog 121 #[.string s] w fun e w' => e = .returned (.bool (isSetB (bl s))) ∧ Below w.heap.size w w' := by
 go_enter Tryz.func121, Tryz.ntmps121
 go_wp2_with fail
 go_loopw [3, 6, 7] (fun _ iv _ wr => ∃ k : Nat, k ≤ s.size ∧ iv = .int .i64 k ∧ (∀ j, j < k → setAtC (bl s) j = true) ∧ Below w.heap.size w wr) (fun _ iv _ _ => s.size - (intOf iv).toNat)
 case atStart => exact ⟨0, Nat.zero_le _, rfl, fun j hj => absurd hj (Nat.not_lt_zero j), Below.refl _ _⟩
 case round =>
  obtain ⟨k, hk, rfl, hall, hbw⟩ := hrel
  have HA := Lib.hid hall
  have HW := Lib.hid hbw
  clear hall hbw
  by_cases hlt : k < s.size
  ·have hk0 : (0 : Int) ≤ k := by omega
   have hkn : (k : Int) < (s.size : Int) := by omega
   obtain ⟨x, hx⟩ : ∃ x, s[k] = x := ⟨_, rfl⟩
   have fin : setAtC (bl s) k = false → isSetB (bl s) = false := notSet (by rw [bl_len]; exact hlt)
   have FIN := Lib.hid fin
   have XN := Lib.hid hx
   clear fin
   rcases h1 : decide ((x.toNat : Int) < 97) with _ | _
   ·rcases h2 : decide ((122 : Int) < (x.toNat : Int)) with _ | _
    ·have HL : Hid (letC x = true) := by
      have a := of_decide_eq_false h1; have b := of_decide_eq_false h2
      simp only [letC, Bool.and_eq_true, decide_eq_true_eq]; exact ⟨by omega, by omega⟩
     rcases k with _ | k
     ·have HS := Lib.hid (setAt_zero4 s (by omega))
      go_wp2_with fail
      go_quiet (fail)
      go_wp2_with fail
      go_roundw
      case rel => exact ⟨1, by omega, rfl, all_step HA.out (by rw [HS.out, XN.out]; exact HL.out), below_drewN HW.out _⟩
      case measure => simp [intOf]; omega
     ·obtain ⟨y, hy⟩ : ∃ y, s[k] = y := ⟨_, rfl⟩
      have HS := Lib.hid (setAt_succ4 s (k := k) (by omega))
      have YN := Lib.hid hy
      have e1 : IntKind.i64.wrap ((k : Int) + 1 - 1) = (k : Int) := by rw [IntWalk.i64_in _ (by omega)]; omega
      have hk1 : (k : Int) < (s.size : Int) := by omega
      have hk2 : (0 : Int) ≤ (k : Int) := by omega
      have hk3 : decide ((0 : Int) < (k : Int) + 1) = true := decide_eq_true (by omega)
      rcases h3 : decide (x.toNat ≤ y.toNat) with _ | _
      ·have HY := Lib.hid (show y.toNat < x.toNat from by have a := of_decide_eq_false h3; omega)
       go_wp2_with fail
       go_quiet (fail)
       go_wp2_with fail
       go_roundw
       case rel => exact ⟨k + 2, by omega, by go_num, all_step HA.out (by rw [HS.out, XN.out, YN.out, HL.out]; simp [HY.out]), below_drewN HW.out _⟩
       case measure => simp [intOf]; omega
      ·have HY := Lib.hid (show x.toNat ≤ y.toNat from of_decide_eq_true h3)
       go_wp2_with fail
       go_quiet (fail)
       go_wp2_with fail
       go_ret
       exact ⟨ret_bool (FIN.out (by rw [HS.out, XN.out, YN.out]; have := HY.out; simp; omega)).symm, below_drewN HW.out _⟩
    ·have HL : Hid (setAtC (bl s) k = false) := by
      have b := of_decide_eq_true h2
      have : letC s[k] = false := by rw [XN.out]; simp [letC]; omega
      rcases k with _ | k
      ·rw [setAt_zero4 s (by omega)]; exact this
      ·show setAtC (bl s) (k + 1) = false
       rw [setAt_succ4 s (by omega), this]; rfl
     go_wp2_with fail
     go_quiet (fail)
     go_wp2_with fail
     go_ret
     exact ⟨ret_bool (FIN.out HL.out).symm, below_drewN HW.out _⟩
   ·have HL : Hid (setAtC (bl s) k = false) := by
     have b := of_decide_eq_true h1
     have : letC s[k] = false := by rw [XN.out]; simp [letC]; omega
     rcases k with _ | k
     ·rw [setAt_zero4 s (by omega)]; exact this
     ·show setAtC (bl s) (k + 1) = false
      rw [setAt_succ4 s (by omega), this]; rfl
    go_wp2_with fail
    go_quiet (fail)
    go_wp2_with fail
    go_ret
    exact ⟨ret_bool (FIN.out HL.out).symm, below_drewN HW.out _⟩
  ·have HF := Lib.hid (show isSetB (bl s) = true from isSetB_iff.2 fun j hj => HA.out j (by rw [bl_len] at hj; omega))
   have hkn : decide ((k : Int) < (s.size : Int)) = false := by simp; omega
   go_wp2_with fail
   go_ret
   exact ⟨ret_bool HF.out.symm, HW.out⟩
end Go.Proofs.YthpjffhccjlnhaaGreatDoor
namespace Go.Proofs.YthpjffhccjlnhaaGreatDoor
open Go.RowKit

/-- n cells, each given by its place -/
def fnCells (n : Nat) (f : Nat → Value) : Array Value := ((List.range n).map f).toArray
theorem fnCells_size (n : Nat) (f : Nat → Value) : (fnCells n f).size = n := by simp [fnCells]
theorem fnCells_get {n : Nat} {f : Nat → Value} {i : Nat} (h : i < n) : (fnCells n f)[i]? = some (f i) := by simp [fnCells, h]
theorem fnCells_some {n : Nat} {f : Nat → Value} {i : Nat} {v : Value} (h : (fnCells n f)[i]? = some v) : i < n ∧ v = f i := by
 have hi : i < n := by have := (Array.getElem?_eq_some_iff.1 h).1; rw [fnCells_size] at this; exact this
 rw [fnCells_get hi] at h; exact ⟨hi, by injection h with h; exact h.symm⟩
theorem fnCells_congr {n : Nat} {f g : Nat → Value} (h : ∀ i, i < n → f i = g i) : fnCells n f = fnCells n g := by
 unfold fnCells
 rw [List.map_congr_left fun i hi => h i (by simpa using hi)]
theorem fnCells_ext {n : Nat} {f : Nat → Value} {A : Array Value} (hs : A.size = n) (h : ∀ i, i < n → A[i]? = some (f i)) : A = fnCells n f := by
 apply Array.ext_getElem?
 intro i
 by_cases hi : i < n
 ·rw [h i hi, fnCells_get hi]
 ·rw [Array.getElem?_eq_none (by omega), Array.getElem?_eq_none (by rw [fnCells_size]; omega)]
theorem fnCells_set {n : Nat} {f : Nat → Value} (i : Nat) (v : Value) : (fnCells n f).setIfInBounds i v = fnCells n (fun j => if j = i then v else f j) := by
 refine fnCells_ext (by simp [fnCells_size]) fun j hj => ?_
 rw [Array.getElem?_setIfInBounds]
 by_cases e : i = j
 ·subst e; simp [fnCells_size, hj]
 ·rw [if_neg e, fnCells_get hj, if_neg (fun h => e h.symm)]
theorem fnCells_one {n : Nat} {f : Nat → Value} (h : ∀ i, i < n → (f i).oneCell' = true) : (fnCells n f).all (·.oneCell') = true := by
 refine Array.all_eq_true_iff_forall_mem.2 fun v hv => ?_
 simp only [fnCells, List.mem_toArray, List.mem_map, List.mem_range] at hv
 obtain ⟨i, hi, rfl⟩ := hv
 exact h i hi
theorem Box.fn {w : World} {b n : Nat} {f : Nat → Value} {t : TypeId} (h : Box w b (fnCells n f) t) {i : Nat} (hi : i < n) : w.cell? ⟨b, i, none⟩ = some (f i) := by rw [h.cell, fnCells_get hi]
theorem Box.cong {w : World} {b n : Nat} {f g : Nat → Value} {t : TypeId} (h : Box w b (fnCells n f) t) (e : ∀ i, i < n → f i = g i) : Box w b (fnCells n g) t := fnCells_congr e ▸ h
theorem Box.fset {w : World} {b n : Nat} {f : Nat → Value} {t : TypeId} (h : Box w b (fnCells n f) t) (i : Nat) (v : Value) : Box (w.setCell ⟨b, i, none⟩ v) b (fnCells n fun j => if j = i then v else f j) t := by
 have := h.set_ i v
 rwa [fnCells_set] at this

/-! the operations -/
theorem wp_load_box {P : Program} {op : Oper} {a : Act} {w : World} {K : Act → World → Prop} {Q : Exit → Act → World → Prop} (ty : TypeId) (x : Operand) (ho : op.op = .load ty x) {p v : Value} (hx : a.eval x = p)
  (hr : (Instr.loadAt ty p).run P w = .ok v w) (h : K (a.put op.dst v) w) : op.wp P a w K Q := by
 unfold Oper.wp execOp
 simp only [ho, hx, Sem.run_bind, hr, Result.andThen_ok, Sem.run_pure]
 exact h
theorem wp_store_box {P : Program} {op : Oper} {a : Act} {w w' : World} {K : Act → World → Prop} {Q : Exit → Act → World → Prop} (ty : TypeId) (x y : Operand) (ho : op.op = .store ty x y) {p v : Value} (hx : a.eval x = p) (hy : a.eval y = v)
  (hr : (Instr.storeAt ty p v).run P w = .ok () w') (h : K (a.put op.dst undef) w') : op.wp P a w K Q := by
 unfold Oper.wp execOp
 simp only [ho, hx, hy, Sem.run_bind, hr, Result.andThen_ok, Sem.run_pure]
 exact h
theorem wpList_store_box {P : Program} {ops : Array Oper} {rest : List Oper} {o : Oper} {a : Act} {w w' : World} {Q : Exit → Act → World → Prop} (hg : o.guard = none) (ty : TypeId) (x y : Operand) (ho : o.op = .store ty x y) {p v : Value} (hx : a.eval x = p) (hy : a.eval y = v)
  (hr : (Instr.storeAt ty p v).run P w = .ok () w') (h : wpList P ops Q rest (a.put o.dst undef) w') : wpList P ops Q (o :: rest) a w :=
 wpList_plain hg fun _ hK => wp_store_box ty x y ho hx hy hr (hK _ _ h)
theorem wpList_load_box {P : Program} {ops : Array Oper} {rest : List Oper} {o : Oper} {a : Act} {w : World} {Q : Exit → Act → World → Prop} (hg : o.guard = none) (ty : TypeId) (x : Operand) (ho : o.op = .load ty x) {p v : Value} (hx : a.eval x = p)
  (hr : (Instr.loadAt ty p).run P w = .ok v w) (h : wpList P ops Q rest (a.put o.dst v) w) : wpList P ops Q (o :: rest) a w :=
 wpList_plain hg fun _ hK => wp_load_box ty x ho hx hr (hK _ _ h)
theorem wpListIn_store_box {F : Fence} {n : Nat} {P : Program} {ops : Array Oper} {rest : List Oper} {o : Oper} {a : Act} {w w' : World} {Q : Exit → Act → World → Prop} (hg : o.guard = none) (ty : TypeId) (x y : Operand) (ho : o.op = .store ty x y) {p v : Value} (hx : a.eval x = p) (hy : a.eval y = v)
  (hr : (Instr.storeAt ty p v).run P w = .ok () w') (h : wpListIn F n P ops Q rest (a.put o.dst undef) w') : wpListIn F n P ops Q (o :: rest) a w :=
 wpListIn_plain hg fun K hK => by
  unfold Oper.wpIn
  refine ⟨by simp [Oper.about, ho], ?_⟩
  rw [Oper.semAt_plain F _ _ (by rw [ho]; intro c hc; cases hc)]
  unfold execOp
  simp only [ho, hx, hy, Sem.run_bind, hr, Result.andThen_ok, Sem.run_pure]
  exact hK _ _ h
theorem wpListIn_load_box {F : Fence} {n : Nat} {P : Program} {ops : Array Oper} {rest : List Oper} {o : Oper} {a : Act} {w : World} {Q : Exit → Act → World → Prop} (hg : o.guard = none) (ty : TypeId) (x : Operand) (ho : o.op = .load ty x) {p v : Value} (hx : a.eval x = p)
  (hr : (Instr.loadAt ty p).run P w = .ok v w) (h : wpListIn F n P ops Q rest (a.put o.dst v) w) : wpListIn F n P ops Q (o :: rest) a w :=
 wpListIn_plain hg fun K hK => by
  unfold Oper.wpIn
  refine ⟨by simp [Oper.about, ho], ?_⟩
  rw [Oper.semAt_plain F _ _ (by rw [ho]; intro c hc; cases hc)]
  unfold execOp
  simp only [ho, hx, Sem.run_bind, hr, Result.andThen_ok, Sem.run_pure]
  exact hK _ _ h

/-! loads and stores of arrays and structs -/
section
variable {P : Program}
/-- a type of m cells that is an array or a struct -/
structure Agg (P : Program) (ty : TypeId) (m : Nat) : Prop where
 row : ∃ d, P.underlying ty = some d ∧ d.isRow = true
 size : (P.info? ty).map (·.size) = some m
theorem run_load_fn {ty m : Nat} (hA : Agg P ty m) {w : World} {b o : Nat} {g : Nat → Value} (h : ∀ j, j < m → w.cell? ⟨b, o + j, none⟩ = some (g j)) : (Instr.loadAt ty (.pointer (some ⟨b, o, none⟩))).run P w = .ok (.agg (fnCells m g)) w := by
 obtain ⟨d, hu, hd⟩ := hA.row
 have := run_loadAt_mid (P := P) w b o ty ((List.range m).map g) d (fun j v hv => by
  have hj : j < m := by have := (List.getElem?_eq_some_iff.1 hv).1; simpa using this
  simp [hj] at hv; subst hv; exact h j hj) hu hd (by rw [hA.size]; simp)
 exact this
/-- a part of an array -/
theorem run_load_sub {ty m : Nat} (hA : Agg P ty m) {w : World} {b n : Nat} {f : Nat → Value} {t : TypeId} (h : Box w b (fnCells n f) t) (o : Nat) (g : Nat → Value) (hg : ∀ j, j < m → f (o + j) = g j) (hn : o + m ≤ n) :
  (Instr.loadAt ty (.pointer (some ⟨b, o, none⟩))).run P w = .ok (.agg (fnCells m g)) w :=
 run_load_fn hA fun j hj => by rw [h.fn (by omega), hg j hj]
theorem run_loadv_sub {ty m : Nat} (hA : Agg P ty m) {w : World} {b n : Nat} {f : Nat → Value} {t : TypeId} (h : Box w b (fnCells n f) t) (o : Nat) (g : Nat → Value) (hg : ∀ j, j < m → f (o + j) = g j) (hn : o + m ≤ n) :
  (loadVar ty ⟨b, o, none⟩).run P w = .ok (.agg (fnCells m g)) w := by
 obtain ⟨d, hu, hd⟩ := hA.row
 have := run_loadVar_mid (P := P) w b o ty ((List.range m).map g) d (fun j v hv => by
  have hj : j < m := by have := (List.getElem?_eq_some_iff.1 hv).1; simpa using this
  simp [hj] at hv; subst hv; rw [h.fn (by omega), hg j hj]) hu hd (by rw [hA.size]; simp)
 exact this
theorem size_setCells (W : World) (g : Nat) : ∀ (vs : List Value) (o : Nat), (W.setCells g o vs).heap.size = W.heap.size := by
 intro vs
 induction vs generalizing W with
 | nil => intro o; rfl
 | cons v vs ih => intro o; unfold World.setCells; rw [ih]; simp
theorem keep_setCells {K : Nat → Prop} {A W : World} (h : Keep K A W) {g : Nat} (hg : ¬ K g ∨ A.heap.size ≤ g) : ∀ (o : Nat) (vs : List Value), Keep K A (W.setCells g o vs) := by
 intro o vs
 induction vs generalizing W o with
 | nil => exact h
 | cons v vs ih => unfold World.setCells; exact ih (h.setCell hg _) _
theorem box_setCells {W : World} {b n : Nat} {f : Nat → Value} {t : TypeId} (h : Box W b (fnCells n f) t) : ∀ (vs : List Value) (o : Nat), Box (W.setCells b o vs) b (fnCells n fun j => if o ≤ j then vs[j - o]?.getD (f j) else f j) t := by
 intro vs
 induction vs generalizing W f with
 | nil => intro o; exact h.cong fun i _ => by simp
 | cons v vs ih =>
  intro o
  unfold World.setCells
  refine (ih (h.fset o v) (o + 1)).cong fun i _ => ?_
  by_cases h1 : o + 1 ≤ i
  ·rw [if_pos h1, if_neg (show ¬ i = o by omega), if_pos (show o ≤ i by omega)]
   obtain ⟨k, hk⟩ : ∃ k, i - o = k + 1 := ⟨i - o - 1, by omega⟩
   rw [hk, show i - (o + 1) = k by omega]; rfl
  ·rw [if_neg h1]
   by_cases h2 : i = o
   ·subst h2; simp
   ·rw [if_neg h2, if_neg (by omega)]
theorem box_far_setCells {W : World} {b : Nat} {cs : Array Value} {t : TypeId} (h : Box W b cs t) {g : Nat} (hg : b ≠ g) : ∀ (o : Nat) (vs : List Value), Box (W.setCells g o vs) b cs t := by
 intro o vs
 induction vs generalizing W o with
 | nil => exact h
 | cons v vs ih => unfold World.setCells; exact ih (h.far (by exact hg) _) _
/-- a part of an array is written: what the world is then -/
structure Wrote (w w' : World) (b : Nat) (cs : Array Value) (t : TypeId) : Prop where
 box : Box w' b cs t
 keep : Keep (fun k => k ≠ b) w w'
 size : w'.heap.size = w.heap.size
theorem run_store_sub {ty m : Nat} (hA : Agg P ty m) {w : World} {b n : Nat} {f : Nat → Value} {t : TypeId} (h : Box w b (fnCells n f) t) (o : Nat) (g : Nat → Value) (h1 : ∀ j, j < m → (g j).oneCell' = true) (hn : o + m ≤ n) :
  ∃ w', (Instr.storeAt ty (.pointer (some ⟨b, o, none⟩)) (.agg (fnCells m g))).run P w = .ok () w' ∧ Wrote w w' b (fnCells n fun j => if o ≤ j ∧ j < o + m then g (j - o) else f j) t := by
 have ht : w.there b o (fnCells m g).size := fun j hj => by
  rw [fnCells_size] at hj
  exact ⟨by rw [h.fn (by omega)]; rfl, h.frozen _⟩
 refine ⟨_, run_storeAt_mid (P := P) w b o ty (fnCells m g) ht (by rw [hA.size, fnCells_size]) (fnCells_one h1), ?_, keep_setCells (Keep.refl _ w) (.inl (by simp)) _ _, size_setCells _ _ _ _⟩
 refine (box_setCells h _ o).cong fun i _ => ?_
 have e : (fnCells m g).toList = (List.range m).map g := rfl
 rw [e]
 by_cases h1 : o ≤ i
 ·rw [if_pos h1]
  by_cases h2 : i < o + m
  ·rw [if_pos ⟨h1, h2⟩]; simp [show i - o < m by omega]
  ·rw [if_neg (by omega), List.getElem?_eq_none (by simp; omega)]; rfl
 ·rw [if_neg h1, if_neg (by omega)]
/-- the whole of it -/
theorem run_store_all {ty m : Nat} (hA : Agg P ty m) {w : World} {b : Nat} {f : Nat → Value} {t : TypeId} (h : Box w b (fnCells m f) t) (g : Nat → Value) (h1 : ∀ j, j < m → (g j).oneCell' = true) :
  ∃ w', (Instr.storeAt ty (.pointer (some ⟨b, 0, none⟩)) (.agg (fnCells m g))).run P w = .ok () w' ∧ Wrote w w' b (fnCells m g) t := by
 obtain ⟨w', hr, hw⟩ := run_store_sub hA h 0 g h1 (by omega)
 exact ⟨w', hr, hw.box.cong (fun i hi => by simp [hi]), hw.keep, hw.size⟩
theorem Wrote.below {w w' w0 : World} {b : Nat} {cs : Array Value} {t : TypeId} (h : Wrote w w' b cs t) (hb : Below w0.heap.size w0 w) (hB : w0.heap.size ≤ b) : Below w0.heap.size w0 w' :=
 hb.trans ((h.keep.mono (fun k (hk : k < w0.heap.size) => by omega)).below hb.size)
theorem Wrote.far {w w' : World} {b : Nat} {cs : Array Value} {t : TypeId} (h : Wrote w w' b cs t) {b' : Nat} {cs' : Array Value} {t' : TypeId} (hx : Box w b' cs' t') (hne : b' ≠ b) : Box w' b' cs' t' := h.keep.heap hne hx
end

/-- results in a cell -/
theorem results_cell {P : Program} {fn : Func} {t : Tmp} {ty : TypeId} (h : fn.results = #[.cell t ty]) {tmps : Array Value} {w : World} {p : Addr} {v : Value} (hp : tmps.getD t undef = .pointer (some p))
  (hr : (loadVar ty p).run P w = .ok v w) : (results fn tmps).run P w = .ok v w := by
 have hp' : tmps[t]?.getD undef = .pointer (some p) := by simpa using hp
 simp [results, h, hp', asAddr, hr]
end Go.Proofs.YthpjffhccjlnhaaGreatDoor
namespace Go.Proofs.YthpjffhccjlnhaaGreatDoor
open Go.RowKit

def setF (s : CS) : Nat → Value := fun c => .bool (s c)
def setCells (s : CS) : Array Value := fnCells 26 (setF s)
theorem agg_set : Agg Tryz.prog 108 26 := ⟨⟨_, Tryz.underlying108, rfl⟩, by kernel_rfl⟩
theorem zset : (#[.bool false, .bool false, .bool false, .bool false, .bool false, .bool false, .bool false, .bool false, .bool false, .bool false, .bool false, .bool false, .bool false, .bool false, .bool false, .bool false, .bool false, .bool false, .bool false, .bool false, .bool false, .bool false, .bool false, .bool false, .bool false, .bool false] : Array Value) = setCells (fun _ => false) := by kernel_rfl
theorem setF_one (s : CS) : ∀ j, j < 26 → (setF s j).oneCell' = true := fun _ _ => rfl
theorem setCells_congr {s t : CS} (h : ∀ c, c < 26 → s c = t c) : setCells s = setCells t := fnCells_congr fun i hi => by simp only [setF, h i hi]
theorem take_has {l : List UInt8} {k : Nat} {x : UInt8} (hx : l[k]? = some x) (c : Nat) : hasC (l.take (k + 1)) c = (hasC (l.take k) c || x.toNat == 97 + c) := by
 obtain ⟨hk, rfl⟩ := List.getElem?_eq_some_iff.1 hx
 rw [List.take_succ_eq_append_getElem hk]
 simp only [hasC, List.any_append, List.any_cons, List.any_nil, Bool.or_false]
/-- a set in a box -/
abbrev SetBox (w : World) (b : Nat) (s : CS) : Prop := Box w b (setCells s) 108
theorem SetBox.cell_ {w : World} {b : Nat} {s : CS} (h : SetBox w b s) {c : Nat} (hc : c < 26) : w.cell? ⟨b, c, none⟩ = some (.bool (s c)) := h.fn hc
theorem SetBox.put {w : World} {b : Nat} {s : CS} (h : SetBox w b s) (c : Nat) (v : Bool) (t : CS) (ht : ∀ d, d < 26 → t d = if d = c then v else s d) : SetBox (w.setCell ⟨b, c, none⟩ (.bool v)) b t :=
 (h.fset c (.bool v)).cong fun i hi => by
  simp only [setF, ht i hi]
  split <;> rfl
theorem load_set {w : World} {b : Nat} {s : CS} (h : SetBox w b s) : (Instr.loadAt 108 (.pointer (some ⟨b, 0, none⟩))).run Tryz.prog w = .ok (.agg (setCells s)) w := run_load_sub agg_set h 0 (setF s) (fun j _ => by rw [Nat.zero_add]) (by omega)
theorem loadv_set {w : World} {b : Nat} {s : CS} (h : SetBox w b s) : (loadVar 108 ⟨b, 0, none⟩).run Tryz.prog w = .ok (.agg (setCells s)) w := run_loadv_sub agg_set h 0 (setF s) (fun j _ => by rw [Nat.zero_add]) (by omega)
theorem store_set {w : World} {b : Nat} {s : CS} (h : SetBox w b s) (t : CS) : ∃ w', (Instr.storeAt 108 (.pointer (some ⟨b, 0, none⟩)) (.agg (setCells t))).run Tryz.prog w = .ok () w' ∧ Wrote w w' b (setCells t) 108 := run_store_all agg_set h (setF t) (setF_one _)
set_option maxRecDepth 100000 in
set_option maxHeartbeats 2000000 in
theorem of_any (s : ByteArray) (hs : isSetB (bl s) = true) (w : World) (hl : s.size ≤ 1000000) :
  Calls Tryz.prog 142 #[.string s] w fun e w' => e = .returned (.agg (setCells (hasC (bl s)))) ∧ Below w.heap.size w w' := by
 obtain ⟨w1, hw1⟩ : ∃ w1, (w.alloc (.cells (setCells fun _ => false) 108)).alloc (.cells (setCells fun _ => false) 108) = w1 := ⟨_, rfl⟩
 have b0 : SetBox w1 w.heap.size (fun _ => false) := by rw [← hw1]; exact (Box.new _ _ _).alloc _
 have b1 : SetBox w1 (w.heap.size + 1) (fun _ => false) := by rw [← hw1]; exact Box.new' (by simp)
 have hB : Below w.heap.size w w1 := by rw [← hw1]; go_grown
 have B0 := Lib.hid b0
 have B1 := Lib.hid b1
 have HB := Lib.hid hB
 have HW := Lib.hid hw1
 have HS := Lib.hid hs
 clear b0 b1 hB hw1 hs
 go_enter Tryz.func142, Tryz.ntmps142
 go_upto_region 2 with fail
 simp only [zset, HW.out]
 go_wp2_with fail
 go_loopw [4, 7, 8] (fun _ iv _ wr => ∃ k : Nat, k ≤ s.size ∧ iv = .int .i64 k ∧ SetBox wr w.heap.size (fun _ => false) ∧ SetBox wr (w.heap.size + 1) (hasC ((bl s).take k)) ∧ Below w.heap.size w wr) (fun _ iv _ _ => s.size - (intOf iv).toNat)
 case atStart => exact ⟨0, Nat.zero_le _, rfl, B0.out, B1.out, HB.out⟩
 case round =>
  clear B0 B1 HB
  obtain ⟨k, hk, rfl, b0, b1, hB⟩ := hrel
  have B0 := Lib.hid b0
  have B1 := Lib.hid b1
  have HB := Lib.hid hB
  by_cases hlt : k < s.size
  ·obtain ⟨x, hx⟩ : ∃ x, s[k] = x := ⟨_, rfl⟩
   have hlet := isSetB_iff.1 HS.out k (by rw [bl_len]; exact hlt)
   have hl1 : 97 ≤ x.toNat ∧ x.toNat ≤ 122 := by
    simp only [setAtC, bl_at s hlt, hx, Option.getD_some, Bool.and_eq_true, letC, decide_eq_true_eq] at hlet
    exact hlet.1
   obtain ⟨c, hc⟩ : ∃ c : Nat, (x.toNat : Int) - 97 = c := ⟨x.toNat - 97, by omega⟩
   have hc26 : (c : Int) < 26 := by omega
   have hwr : IntKind.u8.wrap ((x.toNat : Int) - 97) = (c : Int) := by rw [hc]; show (c : Int) % 256 = c; omega
   have hxe : x.toNat = 97 + c := by omega
   have HX := Lib.hid hxe
   have XN := Lib.hid hx
   have hcell := SetBox.cell_ b1 (c := c) (by omega)
   have hfr := b1.frozen c
   clear hlet b0 b1 hB hxe
   go_wp2_with fail
   go_roundw
   case rel =>
    refine ⟨k + 1, by omega, by go_num, B0.out.far (by simp) _, B1.out.put c true _ fun d hd => ?_, HB.out.setCell (by simp) _⟩
    rw [take_has (bl_at s hlt), XN.out, HX.out]
    by_cases e : d = c
    ·subst e; simp
    ·rw [if_neg e, show (97 + c == 97 + d) = false by simp; omega, Bool.or_false]
   case measure => simp [intOf]; omega
  ·have hkn : decide ((k : Int) < (s.size : Int)) = false := by simp; omega
   have hload := run_load_sub agg_set b1 0 (setF (hasC (bl s))) (fun j hj => by rw [Nat.zero_add, List.take_of_length_le (by rw [bl_len]; omega)]) (by omega)
   obtain ⟨w2, hst, hw2⟩ := run_store_all agg_set b0 (setF (hasC (bl s))) (setF_one _)
   have HL := Lib.hid hload
   have HST := Lib.hid hst
   have HW2 := Lib.hid hw2
   clear b0 b1 hB hload hst hw2
   go_wp2_with (first
    | (refine wpList_load_box rfl 108 _ rfl rfl HL.out ?_)
    | (refine wpList_store_box rfl 108 _ _ rfl rfl rfl HST.out ?_))
   refine bodyPost_ret (results_cell rfl rfl (run_loadv_sub agg_set HW2.out.box 0 (setF (hasC (bl s))) (fun j _ => by rw [Nat.zero_add]) (by omega))) rfl ⟨rfl, HW2.out.below HB.out (Nat.le_refl _)⟩
end Go.Proofs.YthpjffhccjlnhaaGreatDoor
namespace Go.Proofs.YthpjffhccjlnhaaGreatDoor
open Go.RowKit

set_option maxRecDepth 100000 in
set_option maxHeartbeats 2000000 in
theorem cut_any (s t : CS) (w : World) :
  Calls Tryz.prog 77 #[.agg (setCells s), .agg (setCells t)] w fun e w' => e = .returned (.agg (setCells fun d => (s d && t d))) ∧ Below w.heap.size w w' := by
 obtain ⟨w1, hw1⟩ : ∃ w1, ((w.alloc (.cells (setCells s) 108)).alloc (.cells (setCells t) 108)).alloc (.cells (setCells fun _ => false) 108) = w1 := ⟨_, rfl⟩
 have b0 : SetBox w1 w.heap.size s := by rw [← hw1]; exact ((Box.new _ _ _).alloc _).alloc _
 have b1 : SetBox w1 (w.heap.size + 1) t := by rw [← hw1]; exact (Box.new' (by simp)).alloc _
 have b2 : SetBox w1 (w.heap.size + 2) (fun _ => false) := by rw [← hw1]; exact Box.new' (by simp)
 have hB : Below w.heap.size w w1 := by rw [← hw1]; go_grown
 have B0 := Lib.hid b0
 have B1 := Lib.hid b1
 have B2 := Lib.hid b2
 have HB := Lib.hid hB
 have HW := Lib.hid hw1
 clear b0 b1 b2 hB hw1
 go_enter Tryz.func77, Tryz.ntmps77
 go_upto_region 1 with fail
 simp only [zset, HW.out]
 go_wp2_with fail
 go_loopw [5, 6, 7] (fun _ iv _ wr => ∃ k : Nat, k ≤ 26 ∧ iv = .int .i64 k ∧ SetBox wr w.heap.size (fun d => if d < k then (s d && t d) else s d) ∧ SetBox wr (w.heap.size + 1) t ∧ SetBox wr (w.heap.size + 2) (fun _ => false) ∧ Below w.heap.size w wr) (fun _ iv _ _ => 26 - (intOf iv).toNat)
 case atStart => exact ⟨0, Nat.zero_le _, rfl, B0.out.cong (fun i _ => by simp), B1.out, B2.out, HB.out⟩
 case round =>
  clear B0 B1 B2 HB
  obtain ⟨k, hk, rfl, b0, b1, b2, hB⟩ := hrel
  have B0 := Lib.hid b0
  have B1 := Lib.hid b1
  have B2 := Lib.hid b2
  have HB := Lib.hid hB
  by_cases hlt : k < 26
  ·have hki : (k : Int) < 26 := by omega
   have hk0 : (0 : Int) ≤ (k : Int) := by omega
   have hc0 : wr.cell? ⟨w.heap.size, k, none⟩ = some (.bool (s k)) := by rw [b0.cell_ hlt, if_neg (by omega)]
   have hc1 := b1.cell_ hlt
   have hf0 := b0.frozen k
   clear b0 b1 b2 hB
   rcases hsk : s k with _ | _
   all_goals
    rw [hsk] at hc0
    have HS := Lib.hid hsk
    clear hsk
    go_wp2_with fail
    go_roundw
    case rel =>
     refine ⟨k + 1, by omega, by go_num, B0.out.put k _ _ fun d hd => ?_, B1.out.far (by simp) _, B2.out.far (by simp) _, HB.out.setCell (by simp) _⟩
     by_cases e : d = k
     ·subst e; simp [HS.out]
     ·rw [if_neg e]
      by_cases h2 : d < k
      ·rw [if_pos h2, if_pos (by omega)]
      ·rw [if_neg h2, if_neg (by omega)]
    case measure => simp [intOf]; omega
  ·have hkn : decide ((k : Int) < 26) = false := by simp; omega
   have hload := run_load_sub agg_set b0 0 (setF fun d => (s d && t d)) (fun j hj => by simp only [Nat.zero_add, setF]; rw [if_pos (by omega)]) (by omega)
   obtain ⟨w2, hst, hw2⟩ := run_store_all agg_set b2 (setF fun d => (s d && t d)) (setF_one _)
   have HL := Lib.hid hload
   have HST := Lib.hid hst
   have HW2 := Lib.hid hw2
   clear b0 b1 b2 hB hload hst hw2
   go_wp2_with (first
    | (refine wpList_load_box rfl 108 _ rfl rfl HL.out ?_)
    | (refine wpList_store_box rfl 108 _ _ rfl rfl rfl HST.out ?_))
   refine bodyPost_ret (results_cell rfl rfl (run_loadv_sub agg_set HW2.out.box 0 (setF fun d => (s d && t d)) (fun j _ => by rw [Nat.zero_add]) (by omega))) rfl ⟨rfl, HW2.out.below HB.out (by simp)⟩

set_option maxRecDepth 100000 in
set_option maxHeartbeats 2000000 in
theorem with4_any (s t : CS) (w : World) :
  Calls Tryz.prog 98 #[.agg (setCells s), .agg (setCells t)] w fun e w' => e = .returned (.agg (setCells fun d => (s d || t d))) ∧ Below w.heap.size w w' := by
 obtain ⟨w1, hw1⟩ : ∃ w1, ((w.alloc (.cells (setCells s) 108)).alloc (.cells (setCells t) 108)).alloc (.cells (setCells fun _ => false) 108) = w1 := ⟨_, rfl⟩
 have b0 : SetBox w1 w.heap.size s := by rw [← hw1]; exact ((Box.new _ _ _).alloc _).alloc _
 have b1 : SetBox w1 (w.heap.size + 1) t := by rw [← hw1]; exact (Box.new' (by simp)).alloc _
 have b2 : SetBox w1 (w.heap.size + 2) (fun _ => false) := by rw [← hw1]; exact Box.new' (by simp)
 have hB : Below w.heap.size w w1 := by rw [← hw1]; go_grown
 have B0 := Lib.hid b0
 have B1 := Lib.hid b1
 have B2 := Lib.hid b2
 have HB := Lib.hid hB
 have HW := Lib.hid hw1
 clear b0 b1 b2 hB hw1
 go_enter Tryz.func98, Tryz.ntmps98
 go_upto_region 1 with fail
 simp only [zset, HW.out]
 go_wp2_with fail
 go_loopw [5, 6, 7] (fun _ iv _ wr => ∃ k : Nat, k ≤ 26 ∧ iv = .int .i64 k ∧ SetBox wr w.heap.size (fun d => if d < k then (s d || t d) else s d) ∧ SetBox wr (w.heap.size + 1) t ∧ SetBox wr (w.heap.size + 2) (fun _ => false) ∧ Below w.heap.size w wr) (fun _ iv _ _ => 26 - (intOf iv).toNat)
 case atStart => exact ⟨0, Nat.zero_le _, rfl, B0.out.cong (fun i _ => by simp), B1.out, B2.out, HB.out⟩
 case round =>
  clear B0 B1 B2 HB
  obtain ⟨k, hk, rfl, b0, b1, b2, hB⟩ := hrel
  have B0 := Lib.hid b0
  have B1 := Lib.hid b1
  have B2 := Lib.hid b2
  have HB := Lib.hid hB
  by_cases hlt : k < 26
  ·have hki : (k : Int) < 26 := by omega
   have hk0 : (0 : Int) ≤ (k : Int) := by omega
   have hc0 : wr.cell? ⟨w.heap.size, k, none⟩ = some (.bool (s k)) := by rw [b0.cell_ hlt, if_neg (by omega)]
   have hc1 := b1.cell_ hlt
   have hf0 := b0.frozen k
   clear b0 b1 b2 hB
   rcases hsk : s k with _ | _
   all_goals
    rw [hsk] at hc0
    have HS := Lib.hid hsk
    clear hsk
    go_wp2_with fail
    go_roundw
    case rel =>
     refine ⟨k + 1, by omega, by go_num, B0.out.put k _ _ fun d hd => ?_, B1.out.far (by simp) _, B2.out.far (by simp) _, HB.out.setCell (by simp) _⟩
     by_cases e : d = k
     ·subst e; simp [HS.out]
     ·rw [if_neg e]
      by_cases h2 : d < k
      ·rw [if_pos h2, if_pos (by omega)]
      ·rw [if_neg h2, if_neg (by omega)]
    case measure => simp [intOf]; omega
  ·have hkn : decide ((k : Int) < 26) = false := by simp; omega
   have hload := run_load_sub agg_set b0 0 (setF fun d => (s d || t d)) (fun j hj => by simp only [Nat.zero_add, setF]; rw [if_pos (by omega)]) (by omega)
   obtain ⟨w2, hst, hw2⟩ := run_store_all agg_set b2 (setF fun d => (s d || t d)) (setF_one _)
   have HL := Lib.hid hload
   have HST := Lib.hid hst
   have HW2 := Lib.hid hw2
   clear b0 b1 b2 hB hload hst hw2
   go_wp2_with (first
    | (refine wpList_load_box rfl 108 _ rfl rfl HL.out ?_)
    | (refine wpList_store_box rfl 108 _ _ rfl rfl rfl HST.out ?_))
   refine bodyPost_ret (results_cell rfl rfl (run_loadv_sub agg_set HW2.out.box 0 (setF fun d => (s d || t d)) (fun j _ => by rw [Nat.zero_add]) (by omega))) rfl ⟨rfl, HW2.out.below HB.out (by simp)⟩
end Go.Proofs.YthpjffhccjlnhaaGreatDoor
namespace Go.Proofs.YthpjffhccjlnhaaGreatDoor
open Go.RowKit

theorem bool_cells : Tryz.prog.cellsOf 4 = 1 := by kernel_rfl
theorem bool_plain : Tryz.prog.plainKey 4 = true := by kernel_rfl
theorem run_equalIn_bool4 (w : World) (d : Nat) (a b : Bool) : (Op.equalIn (d + 1) 4 (.bool a) (.bool b)).run Tryz.prog w = .ok (a == b) w := by
 simp [Op.equalIn, run_underlying Tryz.underlying4]
theorem run_eqItems_set (f g : CS) (w : World) : ∀ is : List Nat, (∀ i ∈ is, i < 26) → (Op.eqItems 9999 4 (Tryz.prog.cellsOf 4) (setCells f) (setCells g) is).run Tryz.prog w = .ok (is.all fun i => f i == g i) w
 | [], _ => by simp [Op.eqItems]
 | i :: is, h => by
  have h1 : (part 4 (setCells f) (i * Tryz.prog.cellsOf 4)).run Tryz.prog w = .ok (.bool (f i)) w := run_part_plain w bool_plain (by rw [bool_cells, Nat.mul_one]; exact fnCells_get (h i (by simp)))
  have h2 : (part 4 (setCells g) (i * Tryz.prog.cellsOf 4)).run Tryz.prog w = .ok (.bool (g i)) w := run_part_plain w bool_plain (by rw [bool_cells, Nat.mul_one]; exact fnCells_get (h i (by simp)))
  have h3 := run_equalIn_bool4 w 9998 (f i) (g i)
  have ih := run_eqItems_set f g w is (fun j hj => h j (by simp [hj]))
  simp only [Op.eqItems, Sem.run_bind, h1, h2, h3, Result.andThen_ok]
  rcases e : (f i == g i) with _ | _
  ·simp [e]
  ·simp only [Bool.not_true, Bool.false_eq_true, if_false, ih, List.all_cons, e, Bool.true_and]
/-- two sets are equal -/
def eqS (f g : CS) : Bool := all26 fun i => f i == g i
theorem run_equalIn_set (f g : CS) (w : World) : (Op.equalIn 10000 108 (.agg (setCells f)) (.agg (setCells g))).run Tryz.prog w = .ok (eqS f g) w := by
 obtain ⟨i, hi⟩ : ∃ i, Tryz.prog.info? 4 = some i := info_of_underlying Tryz.underlying4
 have h := run_equalIn_array (P := Tryz.prog) w 9999 (t := 108) (e := 4) (n := 26) (setCells f) (setCells g) Tryz.underlying108 hi
 rw [show 10000 = 9999 + 1 from rfl, h, run_eqItems_set f g w _ (by simp)]
 rfl
theorem run_eql_set (f g : CS) (w : World) : (binOp .eql 108 (.agg (setCells f)) (.agg (setCells g))).run Tryz.prog w = .ok (.bool (eqS f g)) w := by
 simp only [binOp]
 simp [Op.equal, Op.maxDepth, run_equalIn_set f g w]
theorem run_neq_set (f g : CS) (w : World) : (binOp .neq 108 (.agg (setCells f)) (.agg (setCells g))).run Tryz.prog w = .ok (.bool (!eqS f g)) w := by
 simp only [binOp]
 simp [Op.equal, Op.maxDepth, run_equalIn_set f g w]
theorem eqS_empty (f : CS) : (!eqS f fun _ => false) = any26 f := by
 rw [Bool.eq_iff_iff]
 simp only [eqS, Bool.not_eq_true', any26_iff]
 rw [Bool.eq_false_iff, ne_eq, all26_iff]
 constructor
 ·intro h
  refine Classical.byContradiction fun hh => h fun c hc => ?_
  have : f c = false := by rw [Bool.eq_false_iff]; exact fun e => hh ⟨c, hc, e⟩
  rw [this]; rfl
 ·rintro ⟨c, hc, e⟩ h
  have := h c hc
  rw [e] at this; cases this
/-- a set against the empty one, as it is built -/
theorem run_neq_empty (f : CS) (w : World) : (binOp .neq 108 (.agg (setCells f)) (.agg #[.bool false, .bool false, .bool false, .bool false, .bool false, .bool false, .bool false, .bool false, .bool false, .bool false, .bool false, .bool false, .bool false, .bool false, .bool false, .bool false, .bool false, .bool false, .bool false, .bool false, .bool false, .bool false, .bool false, .bool false, .bool false, .bool false])).run Tryz.prog w = .ok (.bool (any26 f)) w := by
 rw [zset, run_neq_set, eqS_empty]
end Go.Proofs.YthpjffhccjlnhaaGreatDoor
namespace Go.Proofs.YthpjffhccjlnhaaGreatDoor
open Go.RowKit
variable {P : Program}

/-- WHAT AN ITERATOR GIVES, one that reads no memory between two rounds -/
def GivesM {α : Type} (P : Program) (gf : Nat) (fs lb : Array Value) (Rd : α → Array Value → World → Prop) (xs : List α) (W : World) : Prop :=
 ∀ (l : Nat) (J Jx : List α → World → Prop), (∀ s A B, J s A → Below A.heap.size A B → J s B) → (∀ s A B, Jx s A → Below A.heap.size A B → Jx s B) →
  (∀ pre x args W1, J pre W1 → Rd x args W1 → (pre ++ [x]) <+: xs → YieldAt Fence.wide 0 P l args W1 fun e W' =>
   (e = .returned (.bool true) ∧ J (pre ++ [x]) W') ∨ (e = .returned (.bool false) ∧ Jx (pre ++ [x]) W')) →
  J [] W →
  CallsIn Fence.wide 0 P gf (fs ++ #[.func (.yield l) #[] #[]] ++ lb) W fun e W' => (∃ v, e = .returned v) ∧ (J xs W' ∨ ∃ pre, pre <+: xs ∧ Jx pre W')
/-- how a round's body may be left -/
def roundEndsM {α : Type} (R : Nat → Prop) (I : List α → World → Prop) (Ix : Code → List α → World → Prop) (xs : List α) (W : World) : Exit → Act → World → Prop
 | .normal, _, W' => Keep R W W' ∧ I xs W'
 | .ret, _, W' => Keep R W W' ∧ Ix .ret xs W'
 | .exit id, _, W' => Keep R W W' ∧ Ix (.exit id) xs W'
 | .goto t, _, W' => Keep R W W' ∧ Ix (.goto t) xs W'
 | .panic _, _, _ => False
 | .outgrown, _, _ => False

/-- THE LAW -/
theorem wpIn_rangeM {α : Type} {g : Operand} {ps : Array Tmp} {assign body : Code} {Q : Exit → Act → World → Prop} {a : Act} {w : World}
  {gf : Nat} {fs lb : Array Value} (hg : a.eval g = .func (.func gf) fs lb) (eg : ∀ args w, (callFunc gf args).run P w = .ok (.enter gf args) w)
  {Rd : α → Array Value → World → Prop} {xs : List α} (hgives : ∀ o1 o2 : Obj, GivesM P gf fs lb Rd xs ((w.alloc o1).alloc o2))
  (hps : ∀ x args W, Rd x args W → args.size = ps.size)
  (I : List α → World → Prop) (Ix : Code → List α → World → Prop)
  (hI : ∀ s A B, I s A → Below A.heap.size A B → I s B) (hI2 : ∀ s A o, I s A → I s (A.putObj (w.heap.size + 1) o))
  (hIx : ∀ c s A B, Ix c s A → Below A.heap.size A B → Ix c s B) (hIx2 : ∀ c s A o, Ix c s A → Ix c s (A.putObj (w.heap.size + 1) o))
  (h0 : I [] w) (As : α → Array Value → Act → World → Prop)
  (hAs : ∀ x args act A o, As x args act A → As x args act (A.putObj (w.heap.size + 1) o))
  (hassign : ∀ (l : Nat) (x : α) (args : Array Value) (W : World) (K : Act → World → Prop), Rd x args W → w.heap.size + 1 < W.heap.size → (∀ act W', As x args act W' → Below W.heap.size W W' → K act W') →
   assign.wpIn (Fence.wide.inRound l) 0 P (Exit.then K (fun _ _ _ => False)) { tmps := (ps.zip args).foldl (fun t (p, v) => t.setIfInBounds p v) a.tmps, defers := [] } W)
  (hbody : ∀ (l : Nat) (pre : List α) (x : α) (args : Array Value) (act : Act) (W : World), I pre W → As x args act W → (pre ++ [x]) <+: xs → w.heap.size + 1 < W.heap.size → l = w.heap.size + 1 → (∃ r, W.heap[l]? = some (.loop r)) →
   body.wpIn (Fence.wide.inRound l) 0 P (roundEndsM (fun k => k = w.heap.size ∨ k = w.heap.size + 1) I Ix (pre ++ [x]) W) act W)
  (hdone : ∀ (W : World), I xs W → W.heap[w.heap.size]? = some (.deferred (some [])) → Q .normal { a with defers := { target := .collected w.heap.size, args := #[] } :: a.defers } W)
  (hstop : ∀ (c : Code) (pre : List α) (W : World), pre <+: xs → Ix c pre W → W.heap[w.heap.size]? = some (.deferred (some [])) → c.wpIn Fence.wide 0 P Q { a with defers := { target := .collected w.heap.size, args := #[] } :: a.defers } W) :
  (Code.rangeFunc g ps assign body).wpIn Fence.wide 0 P Q a w := by
 refine wpIn_rangeFunc ?_
 intro fn hfn
 obtain ⟨rec, hrec⟩ : ∃ rec : LoopState → Option Code → Loop, rec = fun st pe => { state := st, pending := pe, fn, tmps := a.tmps, params := ps, assign, body, defers := w.heap.size } := ⟨_, rfl⟩
 obtain ⟨W1, hW1⟩ : ∃ W1, (w.alloc (.deferred (some []))).alloc (.loop (rec .ready none)) = W1 := ⟨_, rfl⟩
 have hgv := hgives (.deferred (some [])) (.loop (rec .ready none))
 rw [hW1] at hgv
 have hBW : Below w.heap.size w W1 := by rw [← hW1]; exact ((Below.refl _ w).alloc (Nat.le_refl _) _).alloc (by simp) _
 have hL1 : W1.heap[w.heap.size + 1]? = some (.loop (rec .ready none)) := by
  rw [← hW1]; have := World.alloc_heap_new (w.alloc (.deferred (some []))) (.loop (rec .ready none)); rwa [World.size_alloc] at this
 have hK1 : W1.heap[w.heap.size]? = some (.deferred (some [])) := by
  rw [← hW1]; exact (Below.heap_alloc _ _ _ (by simp)).trans (World.alloc_heap_new w _)
 have hI1 : I [] W1 := hI [] w _ h0 hBW
 have bl : ∀ {A B : World} {k : Nat} {o : Obj}, Below A.heap.size A B → A.heap[k]? = some o → B.heap[k]? = some o := fun hb h => (hb.block _ (Array.getElem?_eq_some_iff.1 h).1).trans h
 refine ⟨w.heap.size + 1, [{ target := .collected w.heap.size, args := #[] }], W1, { target := .fn (.func gf) lb, args := fs ++ #[.func (.yield (w.heap.size + 1)) #[] #[]] }, W1, gf,
  fs ++ #[.func (.yield (w.heap.size + 1)) #[] #[]] ++ lb, W1, ?_, ?_, ?_, ?_, ?_, ?_⟩
 ·rw [← hW1, hrec]; exact run_enterLoop_outer _ _ _ _ _
 ·simp only [resolve, hg]
  simp [go_sem]
 ·intro f' _; trivial
 ·simp [invoke, go_sem, eg]
 ·simp [Fence.wide]
 ·refine (hgv (w.heap.size + 1)
   (fun pre W => I pre W ∧ (W.heap[w.heap.size + 1]? = some (.loop (rec .ready none)) ∧ W.heap[w.heap.size]? = some (.deferred (some []))))
   (fun pre W => ∃ c, Ix c pre W ∧ W.heap[w.heap.size + 1]? = some (.loop (rec .done (some c))) ∧ W.heap[w.heap.size]? = some (.deferred (some [])))
   (fun s A B hs hb => ⟨hI s A B hs.1 hb, bl hb hs.2.1, bl hb hs.2.2⟩)
   (fun s A B hs hb => by
    obtain ⟨c, hc, hl, hd⟩ := hs
    exact ⟨c, hIx c s A B hc hb, bl hb hl, bl hb hd⟩)
   ?_ ⟨hI1, hL1, hK1⟩).mono ?_
  ·-- one round
   rintro pre x args W ⟨hi, hl, hk⟩ hrd hpre
   have hlt : w.heap.size + 1 < W.heap.size := (Array.getElem?_eq_some_iff.1 hl).1
   have hy := run_yield (P := P) (args := args) hl (by rw [hrec]; exact hps x args W hrd)
   rw [hrec] at hy
   refine ⟨fn, _, assign, body, hy, roundIn_of_wpIn hfn (hassign _ x args W _ hrd hlt fun act V hact hWV => ?_)⟩
   have hlV := bl hWV hl
   have hkV := bl hWV hk
   have hltV : w.heap.size + 1 < V.heap.size := Nat.lt_of_lt_of_le hlt hWV.size
   refine ⟨_, run_beginRound hlV (by rw [hrec]), ?_⟩
   have hl2 : (V.putObj (w.heap.size + 1) (.loop { rec .ready none with state := .busy })).heap[w.heap.size + 1]? = some (.loop { rec .ready none with state := .busy }) := World.putObj_heap_same hltV
   have hk2 : (V.putObj (w.heap.size + 1) (.loop { rec .ready none with state := .busy })).heap[w.heap.size]? = some (.deferred (some [])) := (World.putObj_heap_other (by omega)).trans hkV
   have hI3 : I pre (V.putObj (w.heap.size + 1) (.loop { rec .ready none with state := .busy })) := hI2 _ _ _ (hI _ _ _ hi hWV)
   have hR2 : As x args act (V.putObj (w.heap.size + 1) (.loop { rec .ready none with state := .busy })) := hAs _ _ _ _ _ hact
   refine wpIn_mono (hbody _ pre x args act _ hI3 hR2 hpre (by simpa using hltV) rfl ⟨_, hl2⟩) ?_
   have fin : ∀ (jump : Option Code) (W3 : World), W3.heap[w.heap.size + 1]? = (V.putObj (w.heap.size + 1) (.loop { rec .ready none with state := .busy })).heap[w.heap.size + 1]? → W3.heap[w.heap.size]? = (V.putObj (w.heap.size + 1) (.loop { rec .ready none with state := .busy })).heap[w.heap.size]? →
     (Instr.endRound (w.heap.size + 1) jump).run P W3 = .ok (.bool jump.isNone) (W3.putObj (w.heap.size + 1) (.loop (rec (if jump.isNone then .ready else .done) jump))) ∧
     (W3.putObj (w.heap.size + 1) (.loop (rec (if jump.isNone then .ready else .done) jump))).heap[w.heap.size + 1]? = some (.loop (rec (if jump.isNone then .ready else .done) jump)) ∧
     (W3.putObj (w.heap.size + 1) (.loop (rec (if jump.isNone then .ready else .done) jump))).heap[w.heap.size]? = some (.deferred (some [])) := fun jump W3 e1 e2 => by
    have hl3 := e1.trans hl2
    have := run_endRound (P := P) jump hl3
    rw [hrec] at this ⊢
    exact ⟨this, World.putObj_heap_same (Array.getElem?_eq_some_iff.1 hl3).1, (World.putObj_heap_other (by omega)).trans (e2.trans hk2)⟩
   have szV : (V.putObj (w.heap.size + 1) (.loop { rec .ready none with state := .busy })).heap.size = V.heap.size := by simp
   rintro e a3 W3 hp
   cases e with
   | normal =>
    obtain ⟨hk3, hi3⟩ := hp
    obtain ⟨hr, hl4, hk4⟩ := fin none W3 (hk3.block _ (.inr rfl) (by rw [szV]; omega)) (hk3.block _ (.inl rfl) (by rw [szV]; omega))
    exact ⟨_, _, hr, .inl ⟨rfl, hI2 _ _ _ hi3, hl4, hk4⟩⟩
   | ret =>
    obtain ⟨hk3, hi3⟩ := hp
    obtain ⟨hr, hl4, hk4⟩ := fin (some .ret) W3 (hk3.block _ (.inr rfl) (by rw [szV]; omega)) (hk3.block _ (.inl rfl) (by rw [szV]; omega))
    exact ⟨_, _, hr, .inr ⟨rfl, .ret, hIx2 _ _ _ _ hi3, hl4, hk4⟩⟩
   | exit id =>
    obtain ⟨hk3, hi3⟩ := hp
    obtain ⟨hr, hl4, hk4⟩ := fin (some (.exit id)) W3 (hk3.block _ (.inr rfl) (by rw [szV]; omega)) (hk3.block _ (.inl rfl) (by rw [szV]; omega))
    exact ⟨_, _, hr, .inr ⟨rfl, .exit id, hIx2 _ _ _ _ hi3, hl4, hk4⟩⟩
   | goto t =>
    obtain ⟨hk3, hi3⟩ := hp
    obtain ⟨hr, hl4, hk4⟩ := fin (some (.goto t)) W3 (hk3.block _ (.inr rfl) (by rw [szV]; omega)) (hk3.block _ (.inl rfl) (by rw [szV]; omega))
    exact ⟨_, _, hr, .inr ⟨rfl, .goto t, hIx2 _ _ _ _ hi3, hl4, hk4⟩⟩
   | panic ch => exact hp.elim
   | outgrown => exact hp.elim
  ·-- behind the iterator
   rintro e W2 ⟨⟨v, rfl⟩, (⟨hi, hl, hk⟩ | ⟨pre, hpre, c, hi, hl, hk⟩)⟩
   ·exact ⟨none, _, by have := run_endLoop (P := P) hl (by rw [hrec]; simp); rw [hrec] at this; exact this, hdone _ (hI2 _ _ _ hi) ((World.putObj_heap_other (by omega)).trans hk)⟩
   ·exact ⟨some c, _, by have := run_endLoop (P := P) hl (by rw [hrec]; simp); rw [hrec] at this; exact this, hstop c pre _ hpre (hIx2 _ _ _ _ hi) ((World.putObj_heap_other (by omega)).trans hk)⟩
end Go.Proofs.YthpjffhccjlnhaaGreatDoor
