/- The reference: CheckTypes, of, after. No condition. -/
import Derived.Test.YthpjffhccjlnhaaGreatDoorGRef4
import Derived.Test.YthpjffhccjlnhaaGreatDoorMG6
set_option linter.unusedSimpArgs false
set_option linter.unusedVariables false
namespace Go.Proofs.YthpjffhccjlnhaaGreatDoor
open Go.RowKit
attribute [local go_sem] Oper.semAt_some

theorem take_any_no {l : List Typ} {i : Nat} {p : Typ → Bool} (h : ∀ (j : Nat) y, j < i → l[j]? = some y → p y = false) : (l.take i).any p = false := by
 rw [Bool.eq_false_iff]; intro ha
 obtain ⟨y, hy, hp⟩ := List.any_eq_true.1 ha
 obtain ⟨j, hj⟩ := List.getElem?_of_mem hy
 rw [List.getElem?_take] at hj
 split at hj
 ·rename_i hlt
  rw [h j y hlt hj] at hp; cases hp
 ·cases hj
theorem take_any_yes {l : List Typ} {i j : Nat} {y : Typ} {p : Typ → Bool} (hj : j < i) (hy : l[j]? = some y) (hp : p y = true) : (l.take i).any p = true :=
 List.any_eq_true.2 ⟨y, List.mem_of_getElem? (i := j) (by rw [List.getElem?_take, if_pos hj]; exact hy), hp⟩
theorem typErr_eq {l : List Typ} {i : Nat} {x : Typ} (hx : l[i]? = some x) : typErr l i = if typeB x then (if (l.take i).any (sameName x) then 6 else 0) else 1 := by unfold typErr; rw [hx]
theorem typesErr_at {l : List Typ} {i : Nat} {e : Int} (hl : ¬ 12 < l.length) (hi : i < l.length) (he : typErr l i = e) (h0 : e ≠ 0) (h : ∀ j, j < i → typErr l j = 0) : typesErr l = e := by
 unfold typesErr; rw [if_neg hl, firstE_at hi (he ▸ h0) h, he]
set_option maxRecDepth 100000 in
set_option maxHeartbeats 2000000 in
theorem checkTypesR_any (a : Option Addr) (c : Nat) (l : List Typ) (w : World) (h : TypesAt w a l) (hs : ∀ t, t ∈ l → SmlT t) (hl : l.length ≤ 1000000) :
  Calls Tryz.prog 61 #[.slice a l.length c] w fun e w' => e = .returned (.int .i64 (typesErr l)) ∧ Below w.heap.size w w' := by
 have HM := Lib.hid h
 have HS := Lib.hid hs
 clear h hs
 by_cases h12 : 12 < l.length
 ·have h12i : (12 : Int) < (l.length : Int) := by omega
  have HE : Hid (typesErr l = 2) := Lib.hid (by unfold typesErr; rw [if_pos h12])
  go_enter Tryz.func61, Tryz.ntmps61
  go_wp2_with fail
  go_ret
  exact ⟨ret_int HE.out.symm, Below.refl _ _⟩
 have h12i : ¬ (12 : Int) < (l.length : Int) := by omega
 have H12 := Lib.hid h12
 go_enter Tryz.func61, Tryz.ntmps61
 go_wp2_with fail
 clear h12 h12i
 go_loopw [3, 4] (fun iv _ wr => ∃ k : Nat, k ≤ l.length ∧ iv = .int .i64 k ∧ (∀ j, j < k → typErr l j = 0) ∧ Below w.heap.size w wr) (fun iv _ _ => l.length - (intOf iv).toNat)
 case atStart => exact ⟨0, Nat.zero_le _, rfl, fun j hj => absurd hj (Nat.not_lt_zero j), Below.refl _ _⟩
 case round =>
  obtain ⟨i, hi, rfl, hall, hb⟩ := hrel
  have HA := Lib.hid hall
  have HB := Lib.hid hb
  clear hall hb
  by_cases hlt : i < l.length
  ·obtain ⟨x, hx⟩ : ∃ x, l[i]? = some x := ⟨l[i], by simp [hlt]⟩
   obtain ⟨b, o, rfl, hT⟩ := (HM.out.below HB.out) i x hx
   have HX := Lib.hid hx
   have HT := Lib.hid hT
   have HL := Lib.hid hT.load
   have hki : (i : Int) < (l.length : Int) := by omega
   have hk0 : (0 : Int) ≤ (i : Int) := by omega
   clear hx hT
   go_wp2_with (refine wpList_load_box rfl 71 _ rfl rfl HL.out ?_)
   refine (right_any x (HS.out x (List.mem_of_getElem? HX.out)) _).mono ?_
   rintro e w1 ⟨rfl, hb⟩
   have HB1 := Lib.hid (HB.out.trans (hb.mono HB.out.size))
   have HT1 := Lib.hid (HT.out.below hb)
   clear hb HB HT HL
   have HE := Lib.hid (typErr_eq HX.out)
   rcases ht : typeB x with _ | _
   ·rw [ht] at HE
    have HN := Lib.hid (typesErr_at H12.out hlt HE.out (by simp) HA.out)
    clear ht
    go_wp2_with fail
    go_ret
    exact ⟨ret_int (by rw [HN.out]; rfl), HB1.out⟩
   rw [ht, if_pos rfl] at HE
   clear ht
   go_wp2_with fail
   go_loopw [4] (fun jv wr => ∃ k : Nat, k ≤ i ∧ jv = .int .i64 k ∧ (∀ (j : Nat) y, j < k → l[j]? = some y → sameName x y = false) ∧ Below w.heap.size w wr ∧ Below w1.heap.size w1 wr) (fun jv _ => i - (intOf jv).toNat)
   case atStart => exact ⟨0, Nat.zero_le _, rfl, fun j _ hj => absurd hj (Nat.not_lt_zero j), HB1.out, Below.refl _ _⟩
   case round =>
    obtain ⟨k, hk, rfl, hno, hb2, hb3⟩ := hrel
    have HNO := Lib.hid hno
    have HB2 := Lib.hid hb2
    have HB3 := Lib.hid hb3
    clear hno hb2 hb3
    by_cases hkl : k < i
    ·obtain ⟨y, hy⟩ : ∃ y, l[k]? = some y := ⟨l[k], by simp⟩
     obtain ⟨b', o', he, hTy⟩ := (HM.out.below HB2.out) k y hy
     cases he
     have hc1 := hTy.fields.1
     have hc2 := (HT1.out.below HB3.out).fields.1
     have HY := Lib.hid hy
     have hkk : (k : Int) < (i : Int) := by omega
     have hk3 : (0 : Int) ≤ (k : Int) := by omega
     have hkl2 : (k : Int) < (l.length : Int) := by omega
     clear hTy hy
     rcases hq : (y.name.toList == x.name.toList) with _ | _
     ·have HQ := Lib.hid hq
      go_wp2_with fail
      go_quiet (fail)
      go_wp2_with fail
      go_roundw
      case rel => exact ⟨k + 1, by omega, by go_num, fun j z hj hz => by
       rcases Nat.lt_or_ge j k with h1 | h1
       ·exact HNO.out j z h1 hz
       ·have : j = k := by omega
        subst this
        rw [HY.out] at hz; cases hz; exact HQ.out, below_drewN HB2.out _, below_drewN HB3.out _⟩
      case measure => simp [intOf]; omega
     ·have HN := Lib.hid (typesErr_at H12.out hlt (HE.out.trans (by rw [take_any_yes hkl HY.out hq, if_pos rfl])) (by simp) HA.out)
      go_wp2_with fail
      go_quiet (fail)
      go_wp2_with fail
      go_ret
      exact ⟨ret_int (by rw [HN.out]), below_drewN HB2.out _⟩
    ·have hkn : decide ((k : Int) < (i : Int)) = false := by simp; omega
     have HZ := Lib.hid (show typErr l i = 0 from HE.out.trans (by rw [take_any_no fun j y hj hy => HNO.out j y (by omega) hy]; rfl))
     go_wp2_with fail
     go_roundw
     case rel => exact ⟨i + 1, by omega, by go_num, fun j hj => by
      rcases Nat.lt_or_ge j i with h1 | h1
      ·exact HA.out j h1
      ·have : j = i := by omega
       subst this; exact HZ.out, HB2.out⟩
     case measure => simp [intOf]; omega
  ·have hkn : decide ((i : Int) < (l.length : Int)) = false := by simp; omega
   have HE : Hid (typesErr l = 0) := Lib.hid (by unfold typesErr; rw [if_neg H12.out]; exact firstE_none fun j hj => HA.out j (by omega))
   go_wp2_with fail
   go_ret
   exact ⟨ret_int HE.out.symm, HB.out⟩
set_option maxHeartbeats 1000000 in
theorem ofR_any (a : Option Addr) (c : Nat) (l : List Typ) (i : Int) (w : World) (h : TypesAt w a l) (hs : ∀ t, t ∈ l → SmlT t) (hl : l.length ≤ 1000000) :
  Calls Tryz.prog 81 #[.slice a l.length c, .int .i64 i] w fun e w' => e = .returned (.int .i64 (askedErr l i)) ∧ Below w.heap.size w w' := by
 have HC := Lib.hid (checkTypesR_any a c l w h hs hl)
 clear h hs
 by_cases h0 : typesErr l = 0
 ·have HE : Hid (askedErr l i = if inB i 0 ((l.length : Int) - 1) then 0 else 40) := Lib.hid (by unfold askedErr; rw [if_pos h0])
  rw [h0] at HC
  clear h0
  go_enter Tryz.func81, Tryz.ntmps81
  go_wp2_with (refine HC.out.mono ?_)
  rintro e w1 ⟨rfl, hb⟩
  have HB := Lib.hid hb
  clear hb
  rcases h1 : decide (i < 0) with _ | _
  ·rcases h2 : decide ((l.length : Int) ≤ i) with _ | _
   ·have HI : Hid (askedErr l i = 0) := Lib.hid (by
     have a := of_decide_eq_false h1; have b := of_decide_eq_false h2
     rw [HE.out, if_pos (by simp [inB]; omega)])
    go_wp2_with fail
    go_ret
    exact ⟨ret_int HI.out.symm, HB.out⟩
   ·have HI : Hid (askedErr l i = 40) := Lib.hid (by
     have b := of_decide_eq_true h2
     rw [HE.out, if_neg (by simp [inB]; omega)])
    go_wp2_with fail
    go_ret
    exact ⟨ret_int HI.out.symm, HB.out⟩
  ·have HI : Hid (askedErr l i = 40) := Lib.hid (by
    have b := of_decide_eq_true h1
    rw [HE.out, if_neg (by simp [inB]; omega)])
   go_wp2_with fail
   go_ret
   exact ⟨ret_int HI.out.symm, HB.out⟩
 ·have HE : Hid (askedErr l i = typesErr l) := Lib.hid (by unfold askedErr; rw [if_neg h0])
  have h0' : (typesErr l == 0) = false := by simpa using h0
  clear h0
  go_enter Tryz.func81, Tryz.ntmps81
  go_wp2_with (refine HC.out.mono ?_)
  rintro e w1 ⟨rfl, hb⟩
  have HB := Lib.hid hb
  clear hb
  go_wp2_with fail
  go_ret
  exact ⟨ret_int HE.out.symm, HB.out⟩
/-- what may come below a class -/
def aftS (t : Typ) (c : UInt8) : ByteArray := if 97 ≤ c.toNat ∧ c.toNat ≤ 122 then t.after (c.toNat - 97) else ByteArray.empty
set_option maxRecDepth 100000 in
set_option maxHeartbeats 1000000 in
theorem afterR_any (t : Typ) (c : UInt8) (w : World) : Calls Tryz.prog 85 #[.agg (typCells t), .int .u8 c.toNat] w fun e w' => e = .returned (.string (aftS t c)) ∧ Below w.heap.size w w' := by
 obtain ⟨w1, hw1⟩ : ∃ w1, w.alloc (.cells (typCells t) 71) = w1 := ⟨_, rfl⟩
 have b0 : TypAt w1 w.heap.size 0 t := by rw [← hw1]; exact Box.typ (Box.new _ _ _)
 have hB : Below w.heap.size w w1 := by rw [← hw1]; go_grown
 have HB := Lib.hid hB
 have HX := Lib.hid b0
 have HW := Lib.hid hw1
 clear b0 hB hw1
 have hx5 := UInt8.toNat_lt c
 rcases Nat.lt_or_ge c.toNat 97 with g1 | g1
 ·have g1i : (c.toNat : Int) < 97 := by omega
  have HE : Hid (aftS t c = ByteArray.empty) := Lib.hid (by unfold aftS; rw [if_neg (by omega)])
  go_enter Tryz.func85, Tryz.ntmps85
  go_upto_region 1 with fail
  simp only [HW.out]
  go_wp2_with fail
  go_ret
  exact ⟨by rw [HE.out]; rfl, HB.out⟩
 ·have g1i : ¬ (c.toNat : Int) < 97 := by omega
  by_cases g2 : 122 < c.toNat
  ·have g2i : (122 : Int) < (c.toNat : Int) := by omega
   have HE : Hid (aftS t c = ByteArray.empty) := Lib.hid (by unfold aftS; rw [if_neg (by omega)])
   go_enter Tryz.func85, Tryz.ntmps85
   go_upto_region 1 with fail
   simp only [HW.out]
   go_wp2_with fail
   go_ret
   exact ⟨by rw [HE.out]; rfl, HB.out⟩
  ·have g2i : ¬ (122 : Int) < (c.toNat : Int) := by omega
   have HE : Hid (aftS t c = t.after (c.toNat - 97)) := Lib.hid (by unfold aftS; rw [if_pos (by omega)])
   obtain ⟨k, hk⟩ : ∃ k, c.toNat - 97 = k := ⟨_, rfl⟩
   have hck : (c.toNat : Int) = (k : Int) + 97 := by omega
   have hk26 : k < 26 := by omega
   have hki : (k : Int) < 26 := by omega
   have hk0 : (0 : Int) ≤ (k : Int) := by omega
   have hwr : IntKind.u8.wrap ((k : Int) + 97 - 97) = (k : Int) := by
    rw [show (k : Int) + 97 - 97 = (k : Int) by omega]; show (k : Int) % 256 = k; omega
   rw [hk] at HE
   rw [hck] at g1i g2i ⊢
   have hc := HX.out (6 + k) (by omega)
   rw [show typF t (6 + k) = .string (t.after k) by rw [Nat.add_comm]; rfl, show 0 + (6 + k) = k + 6 by omega] at hc
   have hc' := hc
   rw [show k + 6 = 6 + k by omega] at hc'
   clear hck hk
   go_enter Tryz.func85, Tryz.ntmps85
   go_upto_region 1 with fail
   simp only [HW.out]
   go_wp2_with fail
   go_ret
   exact ⟨by rw [HE.out]; rfl, HB.out⟩
end Go.Proofs.YthpjffhccjlnhaaGreatDoor
