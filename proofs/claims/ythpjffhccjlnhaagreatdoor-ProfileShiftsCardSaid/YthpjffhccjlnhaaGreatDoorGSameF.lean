/- The reference: SameFits of two equal lists. No condition. -/
import Derived.Test.YthpjffhccjlnhaaGreatDoorGShiftR
set_option linter.unusedSimpArgs false
set_option linter.unusedVariables false
namespace Go.Proofs.YthpjffhccjlnhaaGreatDoor
open Go.RowKit
attribute [local go_sem] Oper.semAt_some

set_option maxRecDepth 100000 in
set_option maxHeartbeats 1000000 in
theorem sameFits_any (B1 B2 : Nat) (xa ya : Option Addr) (xc yc : Nat) (L : List Ft) (hl : L.length ≤ 1000000) (w : World) (hx : RowOwn B1 w xa (ftRows L)) (hy : RowOwn B2 w ya (ftRows L)) :
  Calls Tryz.prog 36 #[.slice xa L.length xc, .slice ya L.length yc] w fun e w' => e = .returned (.bool true) ∧ Below w.heap.size w w' := by
 have HX := Lib.hid (show RwR w (.slice none 0 0) xa (ftRows L) from fun q x h => by
  obtain ⟨b, o, g1, g2, g3, _⟩ := hx q x h
  exact ⟨b, o, g1, g3, fun e => by cases e⟩)
 have HY := Lib.hid (show RwR w (.slice none 0 0) ya (ftRows L) from fun q x h => by
  obtain ⟨b, o, g1, g2, g3, _⟩ := hy q x h
  exact ⟨b, o, g1, g3, fun e => by cases e⟩)
 clear hx hy
 go_enter Tryz.func36, Tryz.ntmps36
 go_wp2_with fail
 go_loopw [5] (fun iv wr => ∃ i : Nat, i ≤ L.length ∧ iv = .int .i64 i ∧ Below w.heap.size w wr) (fun iv _ => L.length - (intOf iv).toNat)
 case atStart => exact ⟨0, Nat.zero_le _, rfl, Below.refl _ _⟩
 case round =>
  obtain ⟨i, hi, rfl, hb⟩ := hrel
  have HB := Lib.hid hb
  clear hb
  by_cases hlt : i < L.length
  ·obtain ⟨f, hf⟩ : ∃ f, L[i]? = some f := ⟨L[i], by simp [hlt]⟩
   obtain ⟨b, o, rfl, c0, c1, c2, -⟩ := RwR.ft (HX.out.below HB.out) hf
   obtain ⟨b', o', rfl, d0, d1, d2, -⟩ := RwR.ft (HY.out.below HB.out) hf
   have hki : (i : Int) < (L.length : Int) := by omega
   have hk0 : (0 : Int) ≤ (i : Int) := by omega
   clear hf
   go_wp2_with fail
   go_quiet (fail)
   go_wp2_with fail
   go_roundw
   case rel => exact ⟨i + 1, by omega, by go_num, below_drewN HB.out _⟩
   case measure => simp [intOf]; omega
  ·have hkn : decide ((i : Int) < (L.length : Int)) = false := by simp; omega
   go_wp2_with fail
   go_ret
   exact ⟨rfl, HB.out⟩
end Go.Proofs.YthpjffhccjlnhaaGreatDoor
