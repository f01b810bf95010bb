/- The law's short. No condition. -/
/- What the laws of chapter 4 share. No condition. -/
import Derived.Test.YthpjffhccjlnhaaGreatDoorMG10
import Derived.Test.YthpjffhccjlnhaaGreatDoorMG18
set_option linter.unusedSimpArgs false
set_option linter.unusedVariables false
namespace Go.Proofs.YthpjffhccjlnhaaGreatDoor
open Go.RowKit
attribute [local go_sem] Oper.semAt_some

structure ShT (t : Typ) : Prop where
 name : t.name.size ≤ 100
 ware : t.ware.size ≤ 100
 rim : t.rim.size ≤ 40
 base : t.base.size ≤ 40
 after : ∀ c, c < 26 → (t.after c).size ≤ 40
structure ShortOk (l : List Typ) (r : List Rng) : Prop where
 tl : l.length ≤ 15
 rl : r.length ≤ 15
 ty : ∀ t, t ∈ l → ShT t
 rg : ∀ y, y ∈ r → y.set.size ≤ 40
def ShortPost (l : List Typ) (r : List Rng) (w : World) (e : Ending) (w' : World) : Prop := ∃ b, e = .returned (.bool b) ∧ (b = true → ShortOk l r) ∧ w' = w
theorem short_no (l : List Typ) (r : List Rng) (w : World) {x : Value} (h : x = .bool false) : ShortPost l r w (.returned x) w := ⟨false, by rw [h], (fun h => nomatch h), rfl⟩
set_option maxRecDepth 100000 in
set_option maxHeartbeats 4000000 in
theorem short_any (a : Option Addr) (c : Nat) (l : List Typ) (ra : Option Addr) (rc : Nat) (r : List Rng) (w : World) (h : TypesAt w a l) (hr : RngsAt w ra r) :
  Calls Tryz.prog 17 #[.slice a l.length c, .slice ra r.length rc] w (ShortPost l r w) := by
 have HT := Lib.hid h
 have HR := Lib.hid hr
 clear h hr
 by_cases g1 : 15 < l.length
 ·have g1i : (15 : Int) < (l.length : Int) := by omega
  go_enter Tryz.func17, Tryz.ntmps17
  go_wp2_with fail
  go_ret
  exact short_no _ _ _ rfl
 have g1i : ¬ (15 : Int) < (l.length : Int) := by omega
 by_cases g2 : 15 < r.length
 ·have g2i : (15 : Int) < (r.length : Int) := by omega
  go_enter Tryz.func17, Tryz.ntmps17
  go_wp2_with fail
  go_ret
  exact short_no _ _ _ rfl
 have g2i : ¬ (15 : Int) < (r.length : Int) := by omega
 go_enter Tryz.func17, Tryz.ntmps17
 go_wp2_with fail
 go_loopw [5] (fun i wr => ∃ k : Nat, k ≤ l.length ∧ i = .int .i64 k ∧ (∀ (j : Nat) t, j < k → l[j]? = some t → ShT t) ∧ w = wr) (fun i _ => l.length - (intOf i).toNat)
 case atStart => exact ⟨0, Nat.zero_le _, rfl, fun j _ hj => absurd hj (Nat.not_lt_zero j), rfl⟩
 case round =>
  obtain ⟨k, hk, rfl, hall, rfl⟩ := hrel
  have HALL := Lib.hid hall
  clear hall
  by_cases hlt : k < l.length
  ·obtain ⟨t, ht⟩ : ∃ t, l[k]? = some t := ⟨l[k], by simp [hlt]⟩
   obtain ⟨b, o, rfl, hc⟩ := HT.out k t ht
   have hki : (k : Int) < (l.length : Int) := by omega
   have hk0 : (0 : Int) ≤ (k : Int) := by omega
   have hkw : IntKind.i64.wrap ((k : Int) + 1) = (k : Int) + 1 := IntWalk.i64_in _ (by omega)
   obtain ⟨f1, f2, f3, f4, f5, f6⟩ := TypAt.fields hc
   have HX := Lib.hid ht
   have HC := Lib.hid hc
   clear ht hc
   by_cases n1 : 100 < t.name.size
   ·have n1i : (100 : Int) < (t.name.size : Int) := by omega
    go_wp2_with fail
    go_ret
    exact short_no _ _ _ rfl
   have n1i : ¬ (100 : Int) < (t.name.size : Int) := by omega
   by_cases n2 : 100 < t.ware.size
   ·have n2i : (100 : Int) < (t.ware.size : Int) := by omega
    go_wp2_with fail
    go_ret
    exact short_no _ _ _ rfl
   have n2i : ¬ (100 : Int) < (t.ware.size : Int) := by omega
   by_cases n3 : 40 < t.rim.size
   ·have n3i : (40 : Int) < (t.rim.size : Int) := by omega
    go_wp2_with fail
    go_ret
    exact short_no _ _ _ rfl
   have n3i : ¬ (40 : Int) < (t.rim.size : Int) := by omega
   by_cases n4 : 40 < t.base.size
   ·have n4i : (40 : Int) < (t.base.size : Int) := by omega
    go_wp2_with fail
    go_ret
    exact short_no _ _ _ rfl
   have n4i : ¬ (40 : Int) < (t.base.size : Int) := by omega
   go_wp2_with fail
   go_loopw [6] (fun i wr => ∃ q : Nat, q ≤ 26 ∧ i = .int .i64 q ∧ (∀ j, j < q → (t.after j).size ≤ 40) ∧ w = wr) (fun i _ => 26 - (intOf i).toNat)
   case atStart => exact ⟨0, Nat.zero_le _, rfl, fun j hj => absurd hj (Nat.not_lt_zero j), rfl⟩
   case round =>
    obtain ⟨q, hq, rfl, hall, rfl⟩ := hrel
    have HALL2 := Lib.hid hall
    clear hall
    by_cases hlt2 : q < 26
    ·have hqi : (q : Int) < 26 := by omega
     have hq0 : (0 : Int) ≤ (q : Int) := by omega
     have hqw : IntKind.i64.wrap ((q : Int) + 1) = (q : Int) + 1 := IntWalk.i64_in _ (by omega)
     have hqn : ¬ (26 : Int) ≤ (q : Int) := by omega
     have f7 : w.cell? ⟨b, o + k * 32 + 6 + q, none⟩ = some (.string (t.after q)) := by rw [Nat.add_assoc _ 6 q, HC.out (6 + q) (by omega), Nat.add_comm 6 q]; rfl
     by_cases n5 : 40 < (t.after q).size
     ·have n5i : (40 : Int) < ((t.after q).size : Int) := by omega
      go_wp2_with fail
      go_ret
      exact short_no _ _ _ rfl
     have n5i : ¬ (40 : Int) < ((t.after q).size : Int) := by omega
     have HREL := Lib.hid (show ∃ p : Nat, p ≤ 26 ∧ Value.int .i64 ((q : Int) + 1) = .int .i64 p ∧ (∀ j, j < p → (t.after j).size ≤ 40) ∧ True from ⟨q + 1, by omega, rfl, fun j hj => by
      rcases Nat.lt_or_ge j q with h1 | h1
      ·exact HALL2.out j h1
      ·have : j = q := by omega
       subst this; omega, trivial⟩)
     go_wp2_with fail
     exact ⟨HREL.out, by simp [intOf]; omega⟩
    ·have hqn : decide ((q : Int) < 26) = false := by simp; omega
     have hke : q = 26 := by omega
     subst hke
     have HREL := Lib.hid (show ∃ p : Nat, p ≤ l.length ∧ Value.int .i64 ((k : Int) + 1) = .int .i64 p ∧ (∀ (j : Nat) t, j < p → l[j]? = some t → ShT t) ∧ True from ⟨k + 1, by omega, rfl, fun j u hj hu => by
      rcases Nat.lt_or_ge j k with h1 | h1
      ·exact HALL.out j u h1 hu
      ·have : j = k := by omega
       subst this
       rw [HX.out] at hu; cases hu
       exact ⟨by omega, by omega, by omega, by omega, HALL2.out⟩, trivial⟩)
     go_wp2_with fail
     exact ⟨HREL.out, by simp [intOf]; omega⟩
  ·have hkn : decide ((k : Int) < (l.length : Int)) = false := by simp; omega
   have HTY := Lib.hid (show ∀ t, t ∈ l → ShT t from fun t ht => by
    obtain ⟨i, hi⟩ := List.getElem?_of_mem ht
    exact HALL.out i t (by have := (List.getElem?_eq_some_iff.1 hi).1; omega) hi)
   go_wp2_with fail
   go_loopw [7] (fun i wr => ∃ q : Nat, q ≤ r.length ∧ i = .int .i64 q ∧ (∀ (j : Nat) y, j < q → r[j]? = some y → y.set.size ≤ 40) ∧ w = wr) (fun i _ => r.length - (intOf i).toNat)
   case atStart => exact ⟨0, Nat.zero_le _, rfl, fun j _ hj => absurd hj (Nat.not_lt_zero j), rfl⟩
   case round =>
    obtain ⟨q, hq, rfl, hall, rfl⟩ := hrel
    have HALL3 := Lib.hid hall
    clear hall
    by_cases hlt2 : q < r.length
    ·obtain ⟨y, hy⟩ : ∃ y, r[q]? = some y := ⟨r[q], by simp [hlt2]⟩
     obtain ⟨b, o, rfl, hc⟩ := HR.out q y hy
     have hqi : (q : Int) < (r.length : Int) := by omega
     have hq0 : (0 : Int) ≤ (q : Int) := by omega
     have hqw : IntKind.i64.wrap ((q : Int) + 1) = (q : Int) + 1 := IntWalk.i64_in _ (by omega)
     have f1 : w.cell? ⟨b, o + q * 2 + 1, none⟩ = some (.string y.set) := hc 1 (by omega)
     have HY := Lib.hid hy
     clear hc hy
     by_cases n5 : 40 < y.set.size
     ·have n5i : (40 : Int) < (y.set.size : Int) := by omega
      go_wp2_with fail
      go_ret
      exact short_no _ _ _ rfl
     have n5i : ¬ (40 : Int) < (y.set.size : Int) := by omega
     have HREL := Lib.hid (show ∃ p : Nat, p ≤ r.length ∧ Value.int .i64 ((q : Int) + 1) = .int .i64 p ∧ (∀ (j : Nat) y, j < p → r[j]? = some y → y.set.size ≤ 40) ∧ True from ⟨q + 1, by omega, rfl, fun j z hj hz => by
      rcases Nat.lt_or_ge j q with h1 | h1
      ·exact HALL3.out j z h1 hz
      ·have : j = q := by omega
       subst this
       rw [HY.out] at hz; cases hz; omega, trivial⟩)
     go_wp2_with fail
     exact ⟨HREL.out, by simp [intOf]; omega⟩
    ·have hqn : decide ((q : Int) < (r.length : Int)) = false := by simp; omega
     have HOK := Lib.hid (show ShortOk l r from ⟨by omega, by omega, HTY.out, fun y hy => by
      obtain ⟨i, hi⟩ := List.getElem?_of_mem hy
      exact HALL3.out i y (by have := (List.getElem?_eq_some_iff.1 hi).1; omega) hi⟩)
     go_wp2_with fail
     go_ret
     exact ⟨true, rfl, fun _ => HOK.out, rfl⟩
end Go.Proofs.YthpjffhccjlnhaaGreatDoor
namespace Go.Proofs.YthpjffhccjlnhaaGreatDoor
open Go.RowKit
def TurnPost (W : World) (e : Ending) (w' : World) : Prop := e = .returned (.bool true) ∧ Below W.heap.size W w'
theorem turned_law (W : World) : Calls Tryz.prog 18 #[] W (TurnPost W) := turned_any W
theorem ShortOk.sml {l : List Typ} {r : List Rng} (h : ShortOk l r) : ∀ t, t ∈ l → SmlT t := fun t ht => by
 have := h.ty t ht
 exact ⟨by have := this.name; omega, by have := this.ware; omega, by have := this.rim; omega, by have := this.base; omega, fun c hc => by have := this.after c hc; omega⟩
theorem ShortOk.ask {l : List Typ} {r : List Rng} (h : ShortOk l r) {w : World} {a ra : Option Addr} {c rc : Nat} (hT : TypesAt w a l) (hR : RngsAt w ra r) (hc : l.length ≤ c) (hrc : r.length ≤ rc) : Ask w a c l ra rc r :=
 ⟨hT, h.sml, by have := h.tl; omega, hc, hR, fun y hy => by have := h.rg y hy; omega, by have := h.rl; omega, hrc⟩
end Go.Proofs.YthpjffhccjlnhaaGreatDoor
