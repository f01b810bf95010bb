/- The reference: CheckTypes, of, after. No condition. -/
/- The reference: CheckRings. No condition. -/
/- The reference: ends: the classes from which just so many further ones lead to the base. No condition. -/
import Derived.Test.YthpjffhccjlnhaaGreatDoorMG20
import Derived.Test.YthpjffhccjlnhaaGreatDoorMG6
set_option linter.unusedSimpArgs false
set_option linter.unusedVariables false
namespace Go.Proofs.YthpjffhccjlnhaaGreatDoor
open Go.RowKit
attribute [local go_sem] Oper.semAt_some

theorem take_any_no {l : List Typ} {i : Nat} {p : Typ → Bool} (h : ∀ (j : Nat) y, j < i → l[j]? = some y → p y = false) : (l.take i).any p = false := by
 rw [Bool.eq_false_iff]; intro ha
 obtain ⟨y, hy, hp⟩ := List.any_eq_true.1 ha
 obtain ⟨j, hj⟩ := List.getElem?_of_mem hy
 rw [List.getElem?_take] at hj
 split at hj
 ·rename_i hlt
  rw [h j y hlt hj] at hp; cases hp
 ·cases hj
theorem take_any_yes {l : List Typ} {i j : Nat} {y : Typ} {p : Typ → Bool} (hj : j < i) (hy : l[j]? = some y) (hp : p y = true) : (l.take i).any p = true :=
 List.any_eq_true.2 ⟨y, List.mem_of_getElem? (i := j) (by rw [List.getElem?_take, if_pos hj]; exact hy), hp⟩
theorem typErr_eq {l : List Typ} {i : Nat} {x : Typ} (hx : l[i]? = some x) : typErr l i = if typeB x then (if (l.take i).any (sameName x) then 6 else 0) else 1 := by unfold typErr; rw [hx]
theorem typesErr_at {l : List Typ} {i : Nat} {e : Int} (hl : ¬ 12 < l.length) (hi : i < l.length) (he : typErr l i = e) (h0 : e ≠ 0) (h : ∀ j, j < i → typErr l j = 0) : typesErr l = e := by
 unfold typesErr; rw [if_neg hl, firstE_at hi (he ▸ h0) h, he]
set_option maxRecDepth 100000 in
set_option maxHeartbeats 2000000 in
theorem checkTypesR_any (a : Option Addr) (c : Nat) (l : List Typ) (w : World) (h : TypesAt w a l) (hs : ∀ t, t ∈ l → SmlT t) (hl : l.length ≤ 1000000) :
  Calls Tryz.prog 61 #[.slice a l.length c] w fun e w' => e = .returned (.int .i64 (typesErr l)) ∧ Below w.heap.size w w' := by
 have HM := Lib.hid h
 have HS := Lib.hid hs
 clear h hs
 by_cases h12 : 12 < l.length
 ·have h12i : (12 : Int) < (l.length : Int) := by omega
  have HE : Hid (typesErr l = 2) := Lib.hid (by unfold typesErr; rw [if_pos h12])
  go_enter Tryz.func61, Tryz.ntmps61
  go_wp2_with fail
  go_ret
  exact ⟨ret_int HE.out.symm, Below.refl _ _⟩
 have h12i : ¬ (12 : Int) < (l.length : Int) := by omega
 have H12 := Lib.hid h12
 go_enter Tryz.func61, Tryz.ntmps61
 go_wp2_with fail
 clear h12 h12i
 go_loopw [3, 4] (fun iv _ wr => ∃ k : Nat, k ≤ l.length ∧ iv = .int .i64 k ∧ (∀ j, j < k → typErr l j = 0) ∧ Below w.heap.size w wr) (fun iv _ _ => l.length - (intOf iv).toNat)
 case atStart => exact ⟨0, Nat.zero_le _, rfl, fun j hj => absurd hj (Nat.not_lt_zero j), Below.refl _ _⟩
 case round =>
  obtain ⟨i, hi, rfl, hall, hb⟩ := hrel
  have HA := Lib.hid hall
  have HB := Lib.hid hb
  clear hall hb
  by_cases hlt : i < l.length
  ·obtain ⟨x, hx⟩ : ∃ x, l[i]? = some x := ⟨l[i], by simp [hlt]⟩
   obtain ⟨b, o, rfl, hT⟩ := (HM.out.below HB.out) i x hx
   have HX := Lib.hid hx
   have HT := Lib.hid hT
   have HL := Lib.hid hT.load
   have hki : (i : Int) < (l.length : Int) := by omega
   have hk0 : (0 : Int) ≤ (i : Int) := by omega
   clear hx hT
   go_wp2_with (refine wpList_load_box rfl 71 _ rfl rfl HL.out ?_)
   refine (right_any x (HS.out x (List.mem_of_getElem? HX.out)) _).mono ?_
   rintro e w1 ⟨rfl, hb⟩
   have HB1 := Lib.hid (HB.out.trans (hb.mono HB.out.size))
   have HT1 := Lib.hid (HT.out.below hb)
   clear hb HB HT HL
   have HE := Lib.hid (typErr_eq HX.out)
   rcases ht : typeB x with _ | _
   ·rw [ht] at HE
    have HN := Lib.hid (typesErr_at H12.out hlt HE.out (by simp) HA.out)
    clear ht
    go_wp2_with fail
    go_ret
    exact ⟨ret_int (by rw [HN.out]; rfl), HB1.out⟩
   rw [ht, if_pos rfl] at HE
   clear ht
   go_wp2_with fail
   go_loopw [4] (fun jv wr => ∃ k : Nat, k ≤ i ∧ jv = .int .i64 k ∧ (∀ (j : Nat) y, j < k → l[j]? = some y → sameName x y = false) ∧ Below w.heap.size w wr ∧ Below w1.heap.size w1 wr) (fun jv _ => i - (intOf jv).toNat)
   case atStart => exact ⟨0, Nat.zero_le _, rfl, fun j _ hj => absurd hj (Nat.not_lt_zero j), HB1.out, Below.refl _ _⟩
   case round =>
    obtain ⟨k, hk, rfl, hno, hb2, hb3⟩ := hrel
    have HNO := Lib.hid hno
    have HB2 := Lib.hid hb2
    have HB3 := Lib.hid hb3
    clear hno hb2 hb3
    by_cases hkl : k < i
    ·obtain ⟨y, hy⟩ : ∃ y, l[k]? = some y := ⟨l[k], by simp⟩
     obtain ⟨b', o', he, hTy⟩ := (HM.out.below HB2.out) k y hy
     cases he
     have hc1 := hTy.fields.1
     have hc2 := (HT1.out.below HB3.out).fields.1
     have HY := Lib.hid hy
     have hkk : (k : Int) < (i : Int) := by omega
     have hk3 : (0 : Int) ≤ (k : Int) := by omega
     have hkl2 : (k : Int) < (l.length : Int) := by omega
     clear hTy hy
     rcases hq : (y.name.toList == x.name.toList) with _ | _
     ·have HQ := Lib.hid hq
      go_wp2_with fail
      go_quiet (fail)
      go_wp2_with fail
      go_roundw
      case rel => exact ⟨k + 1, by omega, by go_num, fun j z hj hz => by
       rcases Nat.lt_or_ge j k with h1 | h1
       ·exact HNO.out j z h1 hz
       ·have : j = k := by omega
        subst this
        rw [HY.out] at hz; cases hz; exact HQ.out, below_drewN HB2.out _, below_drewN HB3.out _⟩
      case measure => simp [intOf]; omega
     ·have HN := Lib.hid (typesErr_at H12.out hlt (HE.out.trans (by rw [take_any_yes hkl HY.out hq, if_pos rfl])) (by simp) HA.out)
      go_wp2_with fail
      go_quiet (fail)
      go_wp2_with fail
      go_ret
      exact ⟨ret_int (by rw [HN.out]), below_drewN HB2.out _⟩
    ·have hkn : decide ((k : Int) < (i : Int)) = false := by simp; omega
     have HZ := Lib.hid (show typErr l i = 0 from HE.out.trans (by rw [take_any_no fun j y hj hy => HNO.out j y (by omega) hy]; rfl))
     go_wp2_with fail
     go_roundw
     case rel => exact ⟨i + 1, by omega, by go_num, fun j hj => by
      rcases Nat.lt_or_ge j i with h1 | h1
      ·exact HA.out j h1
      ·have : j = i := by omega
       subst this; exact HZ.out, HB2.out⟩
     case measure => simp [intOf]; omega
  ·have hkn : decide ((i : Int) < (l.length : Int)) = false := by simp; omega
   have HE : Hid (typesErr l = 0) := Lib.hid (by unfold typesErr; rw [if_neg H12.out]; exact firstE_none fun j hj => HA.out j (by omega))
   go_wp2_with fail
   go_ret
   exact ⟨ret_int HE.out.symm, HB.out⟩
set_option maxHeartbeats 1000000 in
theorem ofR_any (a : Option Addr) (c : Nat) (l : List Typ) (i : Int) (w : World) (h : TypesAt w a l) (hs : ∀ t, t ∈ l → SmlT t) (hl : l.length ≤ 1000000) :
  Calls Tryz.prog 81 #[.slice a l.length c, .int .i64 i] w fun e w' => e = .returned (.int .i64 (askedErr l i)) ∧ Below w.heap.size w w' := by
 have HC := Lib.hid (checkTypesR_any a c l w h hs hl)
 clear h hs
 by_cases h0 : typesErr l = 0
 ·have HE : Hid (askedErr l i = if inB i 0 ((l.length : Int) - 1) then 0 else 40) := Lib.hid (by unfold askedErr; rw [if_pos h0])
  rw [h0] at HC
  clear h0
  go_enter Tryz.func81, Tryz.ntmps81
  go_wp2_with (refine HC.out.mono ?_)
  rintro e w1 ⟨rfl, hb⟩
  have HB := Lib.hid hb
  clear hb
  rcases h1 : decide (i < 0) with _ | _
  ·rcases h2 : decide ((l.length : Int) ≤ i) with _ | _
   ·have HI : Hid (askedErr l i = 0) := Lib.hid (by
     have a := of_decide_eq_false h1; have b := of_decide_eq_false h2
     rw [HE.out, if_pos (by simp [inB]; omega)])
    go_wp2_with fail
    go_ret
    exact ⟨ret_int HI.out.symm, HB.out⟩
   ·have HI : Hid (askedErr l i = 40) := Lib.hid (by
     have b := of_decide_eq_true h2
     rw [HE.out, if_neg (by simp [inB]; omega)])
    go_wp2_with fail
    go_ret
    exact ⟨ret_int HI.out.symm, HB.out⟩
  ·have HI : Hid (askedErr l i = 40) := Lib.hid (by
    have b := of_decide_eq_true h1
    rw [HE.out, if_neg (by simp [inB]; omega)])
   go_wp2_with fail
   go_ret
   exact ⟨ret_int HI.out.symm, HB.out⟩
 ·have HE : Hid (askedErr l i = typesErr l) := Lib.hid (by unfold askedErr; rw [if_neg h0])
  have h0' : (typesErr l == 0) = false := by simpa using h0
  clear h0
  go_enter Tryz.func81, Tryz.ntmps81
  go_wp2_with (refine HC.out.mono ?_)
  rintro e w1 ⟨rfl, hb⟩
  have HB := Lib.hid hb
  clear hb
  go_wp2_with fail
  go_ret
  exact ⟨ret_int HE.out.symm, HB.out⟩
/-- what may come below a class -/
def aftS (t : Typ) (c : UInt8) : ByteArray := if 97 ≤ c.toNat ∧ c.toNat ≤ 122 then t.after (c.toNat - 97) else ByteArray.empty
set_option maxRecDepth 100000 in
set_option maxHeartbeats 1000000 in
theorem afterR_any (t : Typ) (c : UInt8) (w : World) : Calls Tryz.prog 85 #[.agg (typCells t), .int .u8 c.toNat] w fun e w' => e = .returned (.string (aftS t c)) ∧ Below w.heap.size w w' := by
 obtain ⟨w1, hw1⟩ : ∃ w1, w.alloc (.cells (typCells t) 71) = w1 := ⟨_, rfl⟩
 have b0 : TypAt w1 w.heap.size 0 t := by rw [← hw1]; exact Box.typ (Box.new _ _ _)
 have hB : Below w.heap.size w w1 := by rw [← hw1]; go_grown
 have HB := Lib.hid hB
 have HX := Lib.hid b0
 have HW := Lib.hid hw1
 clear b0 hB hw1
 have hx5 := UInt8.toNat_lt c
 rcases Nat.lt_or_ge c.toNat 97 with g1 | g1
 ·have g1i : (c.toNat : Int) < 97 := by omega
  have HE : Hid (aftS t c = ByteArray.empty) := Lib.hid (by unfold aftS; rw [if_neg (by omega)])
  go_enter Tryz.func85, Tryz.ntmps85
  go_upto_region 1 with fail
  simp only [HW.out]
  go_wp2_with fail
  go_ret
  exact ⟨by rw [HE.out]; rfl, HB.out⟩
 ·have g1i : ¬ (c.toNat : Int) < 97 := by omega
  by_cases g2 : 122 < c.toNat
  ·have g2i : (122 : Int) < (c.toNat : Int) := by omega
   have HE : Hid (aftS t c = ByteArray.empty) := Lib.hid (by unfold aftS; rw [if_neg (by omega)])
   go_enter Tryz.func85, Tryz.ntmps85
   go_upto_region 1 with fail
   simp only [HW.out]
   go_wp2_with fail
   go_ret
   exact ⟨by rw [HE.out]; rfl, HB.out⟩
  ·have g2i : ¬ (122 : Int) < (c.toNat : Int) := by omega
   have HE : Hid (aftS t c = t.after (c.toNat - 97)) := Lib.hid (by unfold aftS; rw [if_pos (by omega)])
   obtain ⟨k, hk⟩ : ∃ k, c.toNat - 97 = k := ⟨_, rfl⟩
   have hck : (c.toNat : Int) = (k : Int) + 97 := by omega
   have hk26 : k < 26 := by omega
   have hki : (k : Int) < 26 := by omega
   have hk0 : (0 : Int) ≤ (k : Int) := by omega
   have hwr : IntKind.u8.wrap ((k : Int) + 97 - 97) = (k : Int) := by
    rw [show (k : Int) + 97 - 97 = (k : Int) by omega]; show (k : Int) % 256 = k; omega
   rw [hk] at HE
   rw [hck] at g1i g2i ⊢
   have hc := HX.out (6 + k) (by omega)
   rw [show typF t (6 + k) = .string (t.after k) by rw [Nat.add_comm]; rfl, show 0 + (6 + k) = k + 6 by omega] at hc
   have hc' := hc
   rw [show k + 6 = 6 + k by omega] at hc'
   clear hck hk
   go_enter Tryz.func85, Tryz.ntmps85
   go_upto_region 1 with fail
   simp only [HW.out]
   go_wp2_with fail
   go_ret
   exact ⟨by rw [HE.out]; rfl, HB.out⟩
end Go.Proofs.YthpjffhccjlnhaaGreatDoor
namespace Go.Proofs.YthpjffhccjlnhaaGreatDoor
open Go.RowKit
attribute [local go_sem] Oper.semAt_some

theorem rngErr_eq {l : List Rng} {i : Nat} {y : Rng} (hy : l[i]? = some y) : rngErr l i = if !inB y.at_ 0 11 || prevB l y i || !classesB (bl y.set) then 1 else 0 := by
 unfold rngErr classesB
 rw [hy]
 simp only [ByteArray.toList_eq]
 simp only [bl]
 generalize y.set.data.toList.isEmpty = a
 cases inB y.at_ 0 11 <;> cases a <;> cases isSetB y.set.data.toList <;> cases prevB l y i <;> rfl
theorem ringsErr_at {l : List Rng} {i : Nat} {e : Int} (hl : ¬ 12 < l.length) (hi : i < l.length) (he : rngErr l i = e) (h0 : e ≠ 0) (h : ∀ j, j < i → rngErr l j = 0) : ringsErr l = e := by
 unfold ringsErr; rw [if_neg hl, firstE_at hi (he ▸ h0) h, he]
set_option maxRecDepth 100000 in
set_option maxHeartbeats 2000000 in
theorem checkRingsR_any (a : Option Addr) (c : Nat) (l : List Rng) (w : World) (h : RngsAt w a l) (hs : ∀ y, y ∈ l → y.set.size ≤ 1000) (hl : l.length ≤ 1000000) :
  Calls Tryz.prog 63 #[.slice a l.length c] w fun e w' => e = .returned (.int .i64 (ringsErr l)) ∧ Below w.heap.size w w' := by
 have HM := Lib.hid h
 have HS := Lib.hid hs
 clear h hs
 by_cases h12 : 12 < l.length
 ·have h12i : (12 : Int) < (l.length : Int) := by omega
  have HE : Hid (ringsErr l = 2) := Lib.hid (by unfold ringsErr; rw [if_pos h12])
  go_enter Tryz.func63, Tryz.ntmps63
  go_wp2_with fail
  go_ret
  exact ⟨ret_int HE.out.symm, Below.refl _ _⟩
 have h12i : ¬ (12 : Int) < (l.length : Int) := by omega
 have H12 := Lib.hid h12
 go_enter Tryz.func63, Tryz.ntmps63
 go_wp2_with fail
 clear h12 h12i
 go_loopw [3] (fun iv wr => ∃ k : Nat, k ≤ l.length ∧ iv = .int .i64 k ∧ (∀ j, j < k → rngErr l j = 0) ∧ Below w.heap.size w wr) (fun iv _ => l.length - (intOf iv).toNat)
 case atStart => exact ⟨0, Nat.zero_le _, rfl, fun j hj => absurd hj (Nat.not_lt_zero j), Below.refl _ _⟩
 case round =>
  obtain ⟨i, hi, rfl, hall, hb⟩ := hrel
  have HA := Lib.hid hall
  have HB := Lib.hid hb
  clear hall hb
  by_cases hlt : i < l.length
  ·obtain ⟨y, hy⟩ : ∃ y, l[i]? = some y := ⟨l[i], by simp [hlt]⟩
   obtain ⟨b, o, rfl, hT⟩ := (HM.out.below HB.out) i y hy
   have HY := Lib.hid hy
   have HT := Lib.hid hT.fields
   have hki : (i : Int) < (l.length : Int) := by omega
   have hk0 : (0 : Int) ≤ (i : Int) := by omega
   have HE := Lib.hid (rngErr_eq hy)
   clear hy hT
   have bad : rngErr l i = 1 → ringsErr l = 1 := fun h => ringsErr_at H12.out hlt h (by simp) HA.out
   have BAD := Lib.hid bad
   clear bad
   have hsy := HS.out y (List.mem_of_getElem? HY.out)
   rcases h1 : decide (y.at_ < 0) with _ | _
   ·rcases h2 : decide (11 < y.at_) with _ | _
    ·have HI : Hid (inB y.at_ 0 11 = true) := Lib.hid (by
      have a := of_decide_eq_false h1; have b := of_decide_eq_false h2
      simp [inB]; omega)
     rw [HI.out] at HE
     rcases i with _ | i
     ·rw [Nat.zero_mul, Nat.add_zero] at HT
      rcases hq : classesB (bl y.set) with _ | _
      ·have HN := Lib.hid (BAD.out (HE.out.trans (by simp [hq])))
       clear BAD HE
       go_wp2_with fail
       refine wp_region_heldB 41 [] (by kernel_rfl) (by kernel_rfl) (by kernel_rfl) (by simp) ?_
       intro S hS
       have k0 : ∀ A, S A → A.cell? ⟨b, o, none⟩ = some (.int .i64 y.at_) ∧ A.cell? ⟨b, o + 1, none⟩ = some (.string y.set) := fun A hA => ⟨below_cell (hS A hA) HT.out.1, below_cell (hS A hA) HT.out.2⟩
       have K0 := Lib.hid k0
       have HSS := Lib.hid hS
       clear hS k0
       simp only [List.take_succ_cons, List.take_zero, List.drop_succ_cons, List.drop_zero]
       repeat (first
        | (refine held_not rfl (by rfl) ?_; try (dsimp only); try simp only [Act.put, List.setIfInBounds_toArray, List.set_cons_zero, List.set_cons_succ])
        | (refine held_val (v := ?_) rfl (by rfl) ?_ ?_; rotate_left; (· (intro W hW; obtain ⟨q0, q1⟩ := K0.out W hW; go_simp; try with_reducible rfl)); try (dsimp only); try simp only [Act.put, List.setIfInBounds_toArray, List.set_cons_zero, List.set_cons_succ])
        | (refine held_skip rfl (by rfl) ?_ ?_; (· (intro W hW; obtain ⟨q0, q1⟩ := K0.out W hW; go_simp; try with_reducible rfl)); try (dsimp only); try simp only [Act.put, List.setIfInBounds_toArray, List.set_cons_zero, List.set_cons_succ])
        | (refine held_call (v := .bool false) (f := 71) (args := #[.string y.set]) rfl (by rfl) ?_ ?_ ?_; (· (intro W hW; go_simp; done)); (· exact (fun W hW => by have := classesR_any y.set W (by omega); rwa [hq] at this)); try (dsimp only); try simp only [Act.put, List.setIfInBounds_toArray, List.set_cons_zero, List.set_cons_succ]))
       refine held_nil ?_
       intro τ hτ W2 hW hO
       obtain rfl := laid0 hτ
       have HB2 := Lib.hid (HB.out.trans ((HSS.out W2 hW).mono HB.out.size))
       clear hτ hO hW K0 HSS
       simp only [overs, List.foldl_nil]
       go_wp2_with fail
       go_ret
       exact ⟨ret_int HN.out.symm, HB2.out⟩
      ·have HZ := Lib.hid (HE.out.trans (show _ = (0 : Int) by simp [hq, prevB]))
       clear BAD HE
       go_wp2_with fail
       refine wp_region_heldB 41 [] (by kernel_rfl) (by kernel_rfl) (by kernel_rfl) (by simp) ?_
       intro S hS
       have k0 : ∀ A, S A → A.cell? ⟨b, o, none⟩ = some (.int .i64 y.at_) ∧ A.cell? ⟨b, o + 1, none⟩ = some (.string y.set) := fun A hA => ⟨below_cell (hS A hA) HT.out.1, below_cell (hS A hA) HT.out.2⟩
       have K0 := Lib.hid k0
       have HSS := Lib.hid hS
       clear hS k0
       simp only [List.take_succ_cons, List.take_zero, List.drop_succ_cons, List.drop_zero]
       repeat (first
        | (refine held_not rfl (by rfl) ?_; try (dsimp only); try simp only [Act.put, List.setIfInBounds_toArray, List.set_cons_zero, List.set_cons_succ])
        | (refine held_val (v := ?_) rfl (by rfl) ?_ ?_; rotate_left; (· (intro W hW; obtain ⟨q0, q1⟩ := K0.out W hW; go_simp; try with_reducible rfl)); try (dsimp only); try simp only [Act.put, List.setIfInBounds_toArray, List.set_cons_zero, List.set_cons_succ])
        | (refine held_skip rfl (by rfl) ?_ ?_; (· (intro W hW; obtain ⟨q0, q1⟩ := K0.out W hW; go_simp; try with_reducible rfl)); try (dsimp only); try simp only [Act.put, List.setIfInBounds_toArray, List.set_cons_zero, List.set_cons_succ])
        | (refine held_call (v := .bool true) (f := 71) (args := #[.string y.set]) rfl (by rfl) ?_ ?_ ?_; (· (intro W hW; go_simp; done)); (· exact (fun W hW => by have := classesR_any y.set W (by omega); rwa [hq] at this)); try (dsimp only); try simp only [Act.put, List.setIfInBounds_toArray, List.set_cons_zero, List.set_cons_succ]))
       refine held_nil ?_
       intro τ hτ W2 hW hO
       obtain rfl := laid0 hτ
       have HB2 := Lib.hid (HB.out.trans ((HSS.out W2 hW).mono HB.out.size))
       clear hτ hO hW K0 HSS
       simp only [overs, List.foldl_nil]
       go_wp2_with fail
       go_roundw
       case rel => exact ⟨1, by omega, by go_num, fun j hj => by
        rcases Nat.lt_or_ge j (0) with h1 | h1
        ·exact HA.out j h1
        ·have : j = 0 := by omega
         subst this; exact HZ.out, HB2.out⟩
       case measure => simp [intOf]; omega
     ·obtain ⟨z, hz⟩ : ∃ z, l[i]? = some z := ⟨l[i], by simp⟩
      obtain ⟨b', o', he, hTz⟩ := (HM.out.below HB.out) i z hz
      cases he
      have HZT := Lib.hid hTz.fields.1
      have hadd : o + (i + 1) * 2 = o + i * 2 + 2 := by omega
      rw [hadd] at HT
      have HP : Hid (prevB l y (i + 1) = decide (y.at_ ≤ z.at_)) := Lib.hid (by simp only [prevB, hz])
      have e1 : IntKind.i64.wrap ((i : Int) + 1 - 1) = (i : Int) := by rw [IntWalk.i64_in _ (by omega)]; omega
      have hk1 : (i : Int) < (l.length : Int) := by omega
      have hk2 : (0 : Int) ≤ (i : Int) := by omega
      have hk3 : decide ((0 : Int) < (i : Int) + 1) = true := decide_eq_true (by omega)
      have e2 : IntKind.i64.wrap (i : Int) = (i : Int) := IntWalk.i64_in _ (by omega)
      have hk4 : (i : Int) + 1 < (l.length : Int) := by omega
      have hk5 : (0 : Int) ≤ (i : Int) + 1 := by omega
      clear hTz hz
      rcases hp : decide (y.at_ ≤ z.at_) with _ | _
      ·rcases hq : classesB (bl y.set) with _ | _
       ·have HN := Lib.hid (BAD.out (HE.out.trans (by simp [hq])))
        clear BAD HE HP
        go_wp2_with fail
        refine wp_region_heldB 41 [] (by kernel_rfl) (by kernel_rfl) (by kernel_rfl) (by simp) ?_
        intro S hS
        have k0 : ∀ A, S A → A.cell? ⟨b, o + i * 2 + 2, none⟩ = some (.int .i64 y.at_) ∧ A.cell? ⟨b, o + i * 2 + 2 + 1, none⟩ = some (.string y.set) ∧ A.cell? ⟨b, o + i * 2, none⟩ = some (.int .i64 z.at_) := fun A hA => ⟨below_cell (hS A hA) HT.out.1, below_cell (hS A hA) HT.out.2, below_cell (hS A hA) HZT.out⟩
        have K0 := Lib.hid k0
        have HSS := Lib.hid hS
        clear hS k0
        simp only [List.take_succ_cons, List.take_zero, List.drop_succ_cons, List.drop_zero]
        repeat (first
         | (refine held_not rfl (by rfl) ?_; try (dsimp only); try simp only [Act.put, List.setIfInBounds_toArray, List.set_cons_zero, List.set_cons_succ])
         | (refine held_val (v := ?_) rfl (by rfl) ?_ ?_; rotate_left; (· (intro W hW; obtain ⟨q0, q1, q2⟩ := K0.out W hW; go_simp; try with_reducible rfl)); try (dsimp only); try simp only [Act.put, List.setIfInBounds_toArray, List.set_cons_zero, List.set_cons_succ])
         | (refine held_skip rfl (by rfl) ?_ ?_; (· (intro W hW; obtain ⟨q0, q1, q2⟩ := K0.out W hW; go_simp; try with_reducible rfl)); try (dsimp only); try simp only [Act.put, List.setIfInBounds_toArray, List.set_cons_zero, List.set_cons_succ])
         | (refine held_call (v := .bool false) (f := 71) (args := #[.string y.set]) rfl (by rfl) ?_ ?_ ?_; (· (intro W hW; go_simp; done)); (· exact (fun W hW => by have := classesR_any y.set W (by omega); rwa [hq] at this)); try (dsimp only); try simp only [Act.put, List.setIfInBounds_toArray, List.set_cons_zero, List.set_cons_succ]))
        refine held_nil ?_
        intro τ hτ W2 hW hO
        obtain rfl := laid0 hτ
        have HB2 := Lib.hid (HB.out.trans ((HSS.out W2 hW).mono HB.out.size))
        clear hτ hO hW K0 HSS
        simp only [overs, List.foldl_nil]
        go_wp2_with fail
        go_ret
        exact ⟨ret_int HN.out.symm, HB2.out⟩
       ·have HZ := Lib.hid (HE.out.trans (show _ = (0 : Int) by rw [HP.out, hp, hq]; rfl))
        clear BAD HE HP
        go_wp2_with fail
        refine wp_region_heldB 41 [] (by kernel_rfl) (by kernel_rfl) (by kernel_rfl) (by simp) ?_
        intro S hS
        have k0 : ∀ A, S A → A.cell? ⟨b, o + i * 2 + 2, none⟩ = some (.int .i64 y.at_) ∧ A.cell? ⟨b, o + i * 2 + 2 + 1, none⟩ = some (.string y.set) ∧ A.cell? ⟨b, o + i * 2, none⟩ = some (.int .i64 z.at_) := fun A hA => ⟨below_cell (hS A hA) HT.out.1, below_cell (hS A hA) HT.out.2, below_cell (hS A hA) HZT.out⟩
        have K0 := Lib.hid k0
        have HSS := Lib.hid hS
        clear hS k0
        simp only [List.take_succ_cons, List.take_zero, List.drop_succ_cons, List.drop_zero]
        repeat (first
         | (refine held_not rfl (by rfl) ?_; try (dsimp only); try simp only [Act.put, List.setIfInBounds_toArray, List.set_cons_zero, List.set_cons_succ])
         | (refine held_val (v := ?_) rfl (by rfl) ?_ ?_; rotate_left; (· (intro W hW; obtain ⟨q0, q1, q2⟩ := K0.out W hW; go_simp; try with_reducible rfl)); try (dsimp only); try simp only [Act.put, List.setIfInBounds_toArray, List.set_cons_zero, List.set_cons_succ])
         | (refine held_skip rfl (by rfl) ?_ ?_; (· (intro W hW; obtain ⟨q0, q1, q2⟩ := K0.out W hW; go_simp; try with_reducible rfl)); try (dsimp only); try simp only [Act.put, List.setIfInBounds_toArray, List.set_cons_zero, List.set_cons_succ])
         | (refine held_call (v := .bool true) (f := 71) (args := #[.string y.set]) rfl (by rfl) ?_ ?_ ?_; (· (intro W hW; go_simp; done)); (· exact (fun W hW => by have := classesR_any y.set W (by omega); rwa [hq] at this)); try (dsimp only); try simp only [Act.put, List.setIfInBounds_toArray, List.set_cons_zero, List.set_cons_succ]))
        refine held_nil ?_
        intro τ hτ W2 hW hO
        obtain rfl := laid0 hτ
        have HB2 := Lib.hid (HB.out.trans ((HSS.out W2 hW).mono HB.out.size))
        clear hτ hO hW K0 HSS
        simp only [overs, List.foldl_nil]
        go_wp2_with fail
        go_roundw
        case rel => exact ⟨i + 2, by omega, by go_num, fun j hj => by
         rcases Nat.lt_or_ge j (i + 1) with h1 | h1
         ·exact HA.out j h1
         ·have : j = i + 1 := by omega
          subst this; exact HZ.out, HB2.out⟩
        case measure => simp [intOf]; omega
      ·have HN := Lib.hid (BAD.out (HE.out.trans (by rw [HP.out, hp]; rfl)))
       clear BAD HE HP
       go_wp2_with fail
       refine wp_region_heldB 41 [] (by kernel_rfl) (by kernel_rfl) (by kernel_rfl) (by simp) ?_
       intro S hS
       have k0 : ∀ A, S A → A.cell? ⟨b, o + i * 2 + 2, none⟩ = some (.int .i64 y.at_) ∧ A.cell? ⟨b, o + i * 2 + 2 + 1, none⟩ = some (.string y.set) ∧ A.cell? ⟨b, o + i * 2, none⟩ = some (.int .i64 z.at_) := fun A hA => ⟨below_cell (hS A hA) HT.out.1, below_cell (hS A hA) HT.out.2, below_cell (hS A hA) HZT.out⟩
       have K0 := Lib.hid k0
       have HSS := Lib.hid hS
       clear hS k0
       simp only [List.take_succ_cons, List.take_zero, List.drop_succ_cons, List.drop_zero]
       repeat (first
        | (refine held_not rfl (by rfl) ?_; try (dsimp only); try simp only [Act.put, List.setIfInBounds_toArray, List.set_cons_zero, List.set_cons_succ])
        | (refine held_val (v := ?_) rfl (by rfl) ?_ ?_; rotate_left; (· (intro W hW; obtain ⟨q0, q1, q2⟩ := K0.out W hW; go_simp; try with_reducible rfl)); try (dsimp only); try simp only [Act.put, List.setIfInBounds_toArray, List.set_cons_zero, List.set_cons_succ])
        | (refine held_skip rfl (by rfl) ?_ ?_; (· (intro W hW; obtain ⟨q0, q1, q2⟩ := K0.out W hW; go_simp; try with_reducible rfl)); try (dsimp only); try simp only [Act.put, List.setIfInBounds_toArray, List.set_cons_zero, List.set_cons_succ]))
       refine held_nil ?_
       intro τ hτ W2 hW hO
       obtain rfl := laid0 hτ
       have HB2 := Lib.hid (HB.out.trans ((HSS.out W2 hW).mono HB.out.size))
       clear hτ hO hW K0 HSS
       simp only [overs, List.foldl_nil]
       go_wp2_with fail
       go_ret
       exact ⟨ret_int HN.out.symm, HB2.out⟩
    ·have HN := Lib.hid (BAD.out (HE.out.trans (by
      have b := of_decide_eq_true h2
      have : inB y.at_ 0 11 = false := by simp [inB]; omega
      simp [this])))
     clear BAD HE
     go_wp2_with fail
     refine wp_region_heldB 41 [] (by kernel_rfl) (by kernel_rfl) (by kernel_rfl) (by simp) ?_
     intro S hS
     have k0 : ∀ A, S A → A.cell? ⟨b, o + i * 2, none⟩ = some (.int .i64 y.at_) ∧ A.cell? ⟨b, o + i * 2 + 1, none⟩ = some (.string y.set) := fun A hA => ⟨below_cell (hS A hA) HT.out.1, below_cell (hS A hA) HT.out.2⟩
     have K0 := Lib.hid k0
     have HSS := Lib.hid hS
     clear hS k0
     simp only [List.take_succ_cons, List.take_zero, List.drop_succ_cons, List.drop_zero]
     repeat (first
      | (refine held_not rfl (by rfl) ?_; try (dsimp only); try simp only [Act.put, List.setIfInBounds_toArray, List.set_cons_zero, List.set_cons_succ])
      | (refine held_val (v := ?_) rfl (by rfl) ?_ ?_; rotate_left; (· (intro W hW; obtain ⟨q0, q1⟩ := K0.out W hW; go_simp; try with_reducible rfl)); try (dsimp only); try simp only [Act.put, List.setIfInBounds_toArray, List.set_cons_zero, List.set_cons_succ])
      | (refine held_skip rfl (by rfl) ?_ ?_; (· (intro W hW; obtain ⟨q0, q1⟩ := K0.out W hW; go_simp; try with_reducible rfl)); try (dsimp only); try simp only [Act.put, List.setIfInBounds_toArray, List.set_cons_zero, List.set_cons_succ]))
     refine held_nil ?_
     intro τ hτ W2 hW hO
     obtain rfl := laid0 hτ
     have HB2 := Lib.hid (HB.out.trans ((HSS.out W2 hW).mono HB.out.size))
     clear hτ hO hW K0 HSS
     simp only [overs, List.foldl_nil]
     go_wp2_with fail
     go_ret
     exact ⟨ret_int HN.out.symm, HB2.out⟩
   ·have HN := Lib.hid (BAD.out (HE.out.trans (by
     have b := of_decide_eq_true h1
     have : inB y.at_ 0 11 = false := by simp [inB]; omega
     simp [this])))
    clear BAD HE
    go_wp2_with fail
    refine wp_region_heldB 41 [] (by kernel_rfl) (by kernel_rfl) (by kernel_rfl) (by simp) ?_
    intro S hS
    have k0 : ∀ A, S A → A.cell? ⟨b, o + i * 2, none⟩ = some (.int .i64 y.at_) ∧ A.cell? ⟨b, o + i * 2 + 1, none⟩ = some (.string y.set) := fun A hA => ⟨below_cell (hS A hA) HT.out.1, below_cell (hS A hA) HT.out.2⟩
    have K0 := Lib.hid k0
    have HSS := Lib.hid hS
    clear hS k0
    simp only [List.take_succ_cons, List.take_zero, List.drop_succ_cons, List.drop_zero]
    repeat (first
     | (refine held_not rfl (by rfl) ?_; try (dsimp only); try simp only [Act.put, List.setIfInBounds_toArray, List.set_cons_zero, List.set_cons_succ])
     | (refine held_val (v := ?_) rfl (by rfl) ?_ ?_; rotate_left; (· (intro W hW; obtain ⟨q0, q1⟩ := K0.out W hW; go_simp; try with_reducible rfl)); try (dsimp only); try simp only [Act.put, List.setIfInBounds_toArray, List.set_cons_zero, List.set_cons_succ])
     | (refine held_skip rfl (by rfl) ?_ ?_; (· (intro W hW; obtain ⟨q0, q1⟩ := K0.out W hW; go_simp; try with_reducible rfl)); try (dsimp only); try simp only [Act.put, List.setIfInBounds_toArray, List.set_cons_zero, List.set_cons_succ]))
    refine held_nil ?_
    intro τ hτ W2 hW hO
    obtain rfl := laid0 hτ
    have HB2 := Lib.hid (HB.out.trans ((HSS.out W2 hW).mono HB.out.size))
    clear hτ hO hW K0 HSS
    simp only [overs, List.foldl_nil]
    go_wp2_with fail
    go_ret
    exact ⟨ret_int HN.out.symm, HB2.out⟩
  ·have hkn : decide ((i : Int) < (l.length : Int)) = false := by simp; omega
   have HE : Hid (ringsErr l = 0) := Lib.hid (by unfold ringsErr; rw [if_neg H12.out]; exact firstE_none fun j hj => HA.out j (by omega))
   go_wp2_with fail
   go_ret
   exact ⟨ret_int HE.out.symm, HB.out⟩
end Go.Proofs.YthpjffhccjlnhaaGreatDoor
namespace Go.Proofs.YthpjffhccjlnhaaGreatDoor
open Go.RowKit
attribute [local go_sem] Oper.semAt_some

/-! one byte, as a string -/
theorem run_byte (x : Int) (w : World) : (Instr.buildSlice 98 1 #[(0, .int .u8 x)]).run Tryz.prog w = .ok (.slice (some ⟨w.heap.size, 0, none⟩) 1 1) (w.alloc (.cells #[.int .u8 x] 5)) :=
 run_bslice (P := Tryz.prog) (m := 1) (Z := .int .u8 0) (g := fun _ => .int .u8 x) Tryz.underlying98 (by kernel_rfl) (by omega) (by omega) rfl w
theorem run_conv1 (w : World) (b : UInt8) (x : Int) (hx : x = (b.toNat : Int)) : (convert 98 9 (.slice (some ⟨w.heap.size, 0, none⟩) 1 1)).run Tryz.prog (w.alloc (.cells #[.int .u8 x] 5)) = .ok (.string (mkB [b])) (w.alloc (.cells #[.int .u8 x] 5)) := by
 subst hx
 exact run_convert_bytes_back _ _ _ 5 ⟨w.heap.size, 0, none⟩ 1 [b] Tryz.underlying98 Tryz.underlying5 Tryz.underlying9 (fun j hj => by
  have : j = 0 := by simp at hj; omega
  subst this
  exact (Box.new w _ _).cell 0)
theorem mkB_app (a b : List UInt8) : mkB a ++ mkB b = mkB (a ++ b) := by rw [← mkB_bl (mkB a ++ mkB b), bl_app, bl_mkB, bl_mkB]
theorem mkB_size (a : List UInt8) : (mkB a).size = a.length := by rw [← bl_len, bl_mkB]
/-- the first classes of a set -/
def strTo (s : CS) (c : Nat) : List UInt8 := ((List.range c).filter s).map chC
theorem strTo_succ (s : CS) (c : Nat) : strTo s (c + 1) = strTo s c ++ if s c then [chC c] else [] := by
 unfold strTo
 rw [List.range_succ, List.filter_append, List.map_append]
 by_cases h : s c <;> simp [h]
theorem strTo_all (s : CS) : strTo s 26 = str s := rfl
theorem strTo_len (s : CS) (c : Nat) : (strTo s c).length ≤ c := by
 unfold strTo; rw [List.length_map]; exact Nat.le_trans (List.length_filter_le _ _) (by simp)
theorem str_len (s : CS) : (str s).length ≤ 26 := strTo_len s 26
theorem any_take {α : Type} {l : List α} {k : Nat} {x : α} (p : α → Bool) (h : l[k]? = some x) : (l.take (k + 1)).any p = ((l.take k).any p || p x) := by
 rw [List.take_add_one, h, List.any_append]; simp
/-- a class leads on -/
theorem leads_eq {l : List UInt8} (s : CS) : l.any (inL (str s)) = any26 fun d => hasC l d && s d := by
 rw [Bool.eq_iff_iff, List.any_eq_true, any26_iff]
 constructor
 ·rintro ⟨x, hx, hs⟩
  have hm : x ∈ str s := by simpa [inL] using hs
  obtain ⟨h1, h2⟩ := mem_str.1 hm
  simp [letC] at h1
  refine ⟨x.toNat - 97, by omega, ?_⟩
  rw [Bool.and_eq_true]
  refine ⟨(hasC_iff (by omega)).2 ?_, h2⟩
  rwa [chC, show 97 + (x.toNat - 97) = x.toNat by omega, UInt8.ofNat_toNat]
 ·rintro ⟨d, hd, h⟩
  rw [Bool.and_eq_true] at h
  refine ⟨chC d, (hasC_iff hd).1 h.1, ?_⟩
  simp only [inL, List.contains_iff_mem]
  exact mem_str.2 ⟨by simp [letC, chC_nat hd]; omega, by rw [chC_nat hd, show 97 + d - 97 = d by omega]; exact h.2⟩
theorem aftS_c (t : Typ) {c : Nat} (hc : c < 26) : aftS t (chC c) = t.after c := by
 unfold aftS; rw [chC_nat hc, if_pos (by omega)]; congr 1; omega

/-! the twelve strings -/
def gS (K : Kd) (j : Nat) : ByteArray := mkB (str (goodJ K j))
def endF (K : Kd) (k c : Nat) : Nat → Value := fun j => .string (if j < k then gS K j else if j = k then mkB (strTo (goodJ K k) c) else ByteArray.empty)
abbrev EndBox (w : World) (b : Nat) (K : Kd) (k c : Nat) : Prop := Box w b (fnCells 12 (endF K k c)) 121
theorem endF_next (K : Kd) (k : Nat) : endF K k 26 = endF K (k + 1) 0 := by
 funext j
 unfold endF
 congr 1
 by_cases h1 : j < k
 ·rw [if_pos h1, if_pos (by omega)]
 ·rw [if_neg h1]
  by_cases h2 : j = k
  ·subst h2; rw [if_pos rfl, if_pos (by omega)]; rfl
  ·rw [if_neg h2, if_neg (by omega)]
   split <;> rfl
theorem endF_zero (K : Kd) (j : Nat) : endF K 0 0 j = .string ByteArray.empty := by
 unfold endF
 congr 1
 rw [if_neg (by omega)]
 split <;> rfl
theorem endF_step (K : Kd) (k c : Nat) (j : Nat) : (if j = k then Value.string (mkB (strTo (goodJ K k) c ++ if goodJ K k c then [chC c] else [])) else endF K k c j) = endF K k (c + 1) j := by
 unfold endF
 by_cases h1 : j < k
 ·rw [if_neg (by omega), if_pos h1, if_pos h1]
 ·by_cases h2 : j = k
  ·subst h2
   rw [if_pos rfl, if_neg h1, if_pos rfl, strTo_succ]
  ·rw [if_neg h2, if_neg h1, if_neg h2, if_neg h1, if_neg h2]
theorem endF_stay (K : Kd) (k c : Nat) (h : goodJ K k c = false) : endF K k (c + 1) = endF K k c := by
 funext j
 rw [← endF_step, h]
 by_cases h2 : j = k
 ·subst h2; simp [endF]
 ·rw [if_neg h2]
def goodF (K : Kd) : Nat → Value := fun j => .string (gS K j)
theorem endF_all (K : Kd) : fnCells 12 (endF K 12 0) = fnCells 12 (goodF K) := fnCells_congr fun j hj => by unfold endF goodF; rw [if_pos hj]
theorem agg_ends : Agg Tryz.prog 121 12 := ⟨⟨_, Tryz.underlying121, rfl⟩, by kernel_rfl⟩
theorem zends : (#[.string { data := #[] }, .string { data := #[] }, .string { data := #[] }, .string { data := #[] }, .string { data := #[] }, .string { data := #[] }, .string { data := #[] }, .string { data := #[] }, .string { data := #[] }, .string { data := #[] }, .string { data := #[] }, .string { data := #[] }] : Array Value) = fnCells 12 (fun _ => .string ByteArray.empty) := by kernel_rfl
structure EnSt (B : Nat) (t : Typ) (k c : Nat) (w W : World) : Prop where
 x : TypAt W B 0 t
 z : Box W (B + 1) (fnCells 12 fun _ => .string ByteArray.empty) 121
 e : EndBox W (B + 2) t.kd k c
 b : Below B w W
 s : B = w.heap.size
theorem EnSt.below {B : Nat} {t : Typ} {k c : Nat} {w W W' : World} (h : EnSt B t k c w W) (hb : Below W.heap.size W W') : EnSt B t k c w W' :=
 ⟨h.x.below hb, h.z.below' hb, h.e.below' hb, h.b.trans (hb.mono (by have := h.b.size; have := h.s; omega)), h.s⟩
theorem EnSt.set_ {B : Nat} {t : Typ} {k c k' c' : Nat} {w W : World} (h : EnSt B t k c w W) (i : Nat) (v : Value) (he : ∀ j, j < 12 → (if j = i then v else endF t.kd k c j) = endF t.kd k' c' j) : EnSt B t k' c' w (W.setCell ⟨B + 2, i, none⟩ v) :=
 ⟨h.x.keep ((Keep.refl (fun k => k ≠ B + 2) W).setCell (.inl (by simp)) _) (by omega), h.z.far (by simp) _, (h.e.fset i v).cong he, h.b.setCell (by have := h.s; show B ≤ B + 2; omega) _, h.s⟩
theorem EnSt.cast {B : Nat} {t : Typ} {k c k' c' : Nat} {w W : World} (h : EnSt B t k c w W) (he : endF t.kd k c = endF t.kd k' c') : EnSt B t k' c' w W := ⟨h.x, h.z, by have := h.e; unfold EndBox at this ⊢; rw [← he]; exact this, h.b, h.s⟩
set_option maxRecDepth 100000 in
set_option maxHeartbeats 4000000 in
theorem goodR_any (t : Typ) (ht : t.sets = true) (hz : ∀ c, c < 26 → (t.after c).size ≤ 1000) (w : World) : Calls Tryz.prog 83 #[.agg (typCells t)] w fun e w' => e = .returned (.agg (fnCells 12 (goodF t.kd))) ∧ Below w.heap.size w w' := by
 obtain ⟨w3, hw3⟩ : ∃ w3, ((w.alloc (.cells (typCells t) 71)).alloc (.cells (fnCells 12 fun _ => .string ByteArray.empty) 121)).alloc (.cells (fnCells 12 fun _ => .string ByteArray.empty) 121) = w3 := ⟨_, rfl⟩
 have b0 : TypAt w3 w.heap.size 0 t := by rw [← hw3]; exact Box.typ (((Box.new _ _ _).alloc _).alloc _)
 have b1 : Box w3 (w.heap.size + 1) (fnCells 12 fun _ => .string ByteArray.empty) 121 := by rw [← hw3]; exact (Box.new' (by simp)).alloc _
 have b2 : Box w3 (w.heap.size + 2) (fnCells 12 fun _ => .string ByteArray.empty) 121 := by rw [← hw3]; exact Box.new' (by simp)
 have hB : Below w.heap.size w w3 := by rw [← hw3]; go_grown
 have ST := Lib.hid (show EnSt w.heap.size t 0 0 w w3 from ⟨b0, b1, b2.cong fun j _ => (endF_zero t.kd j).symm, hB, rfl⟩)
 obtain ⟨s1, s2, s3⟩ := Typ.sets_iff.1 ht
 have HG0 := Lib.hid (show t.base = gS t.kd 0 by show _ = mkB (str (hasC (bl t.base))); rw [str_has s2, mkB_bl])
 have HZ := Lib.hid hz
 have HW := Lib.hid hw3
 have f6 := (TypAt.fields b0).2.2.2.2.2
 have r2 := b2.frozen 0
 have c2 := b2.cell 0
 clear b0 b1 b2 hB hw3 s1 s2 s3 ht hz
 simp only [Nat.zero_add] at f6
 go_enter Tryz.func83, Tryz.ntmps83
 go_upto_region 2 with fail
 simp only [zends, HW.out]
 go_upto_region 3 with fail
 clear f6 r2 c2
 have ST1 := Lib.hid (show EnSt w.heap.size t 1 0 w (w3.setCell ⟨w.heap.size + 2, 0, none⟩ (.string t.base)) from ST.out.set_ 0 _ fun j hj => by
  unfold endF
  by_cases h0 : j = 0
  ·subst h0; rw [if_pos rfl, if_pos (by omega), HG0.out]
  ·rw [if_neg h0, if_neg (by omega), if_neg h0, if_neg (by omega)]
   split <;> rfl)
 obtain ⟨w4, hw4⟩ : ∃ w4, w3.setCell ⟨w.heap.size + 2, 0, none⟩ (.string t.base) = w4 := ⟨_, rfl⟩
 rw [hw4] at ST1
 simp only [hw4]
 clear hw4 ST HW HG0 w3
 go_wp2_with fail
 go_loopw [4, 5, 6, 7] (fun iv _ _ _ wr => ∃ m : Nat, m ≤ 11 ∧ iv = .int .i64 ((m : Int) + 1) ∧ EnSt w.heap.size t (m + 1) 0 w wr) (fun iv _ _ _ _ => 12 - (intOf iv).toNat)
 case atStart => exact ⟨0, by omega, rfl, ST1.out⟩
 case round =>
  clear ST1 w4
  obtain ⟨m, hm, rfl, hst⟩ := hrel
  have ST := Lib.hid hst
  clear hst
  by_cases hlt : m < 11
  ·have hki : (m : Int) + 1 < 12 := by omega
   have hk0 : (0 : Int) ≤ (m : Int) + 1 := by omega
   have hm0 : (0 : Int) ≤ (m : Int) := by omega
   have hm12 : (m : Int) < 12 := by omega
   have hmw : IntKind.i64.wrap (m : Int) = (m : Int) := IntWalk.i64_in _ (by omega)
   have hmw1 : IntKind.i64.wrap ((m : Int) + 1 - 1) = (m : Int) := by rw [IntWalk.i64_in _ (by omega)]; omega
   go_wp2_with fail
   go_loopw [5, 6, 7] (fun cv _ _ wr => ∃ c : Nat, c ≤ 26 ∧ cv = .int .u8 (97 + (c : Int)) ∧ EnSt w.heap.size t (m + 1) c w wr) (fun cv _ _ _ => 123 - (intOf cv).toNat)
   case atStart => exact ⟨0, by omega, rfl, ST.out⟩
   case round =>
    clear ST
    obtain ⟨c, hc, rfl, hst⟩ := hrel
    have ST := Lib.hid hst
    clear hst
    by_cases hc26 : c < 26
    ·have hci : (97 : Int) + (c : Int) ≤ 122 := by omega
     have hcw : IntKind.u8.wrap ((97 : Int) + (c : Int) + 1) = (97 : Int) + ((c + 1 : Nat) : Int) := by
      show ((97 : Int) + (c : Int) + 1) % 256 = _; omega
     have haf : ∀ W, Calls Tryz.prog 85 #[.agg (typCells t), .int .u8 (97 + (c : Int))] W fun e w' => e = .returned (.string (t.after c)) ∧ Below W.heap.size W w' := fun W => by
      have := afterR_any t (chC c) W
      rw [aftS_c t hc26, chC_nat hc26] at this
      exact this
     have HAF := Lib.hid haf
     have hsz := HZ.out c hc26
     have hG : ((bl (t.after c)).any (inL (bl (gS t.kd m)))) = goodJ t.kd (m + 1) c := by rw [gS, bl_mkB, leads_eq]; rfl
     have HG := Lib.hid hG
     have hgs : (gS t.kd m).size ≤ 1000000 := by rw [gS, mkB_size]; have := str_len (goodJ t.kd m); omega
     have HGS := Lib.hid hgs
     clear haf hG hgs
     go_wp2_with fail
     go_loopw [6, 7] (fun lv qv wr => ∃ q : Nat, q ≤ (t.after c).size ∧ qv = .int .i64 q ∧ lv = .bool (((bl (t.after c)).take q).any (inL (bl (gS t.kd m)))) ∧ EnSt w.heap.size t (m + 1) c w wr) (fun _ qv _ => (t.after c).size - (intOf qv).toNat)
     case atStart => exact ⟨0, by omega, rfl, rfl, ST.out⟩
     case round =>
      clear ST
      obtain ⟨q, hq, rfl, rfl, hst⟩ := hrel
      have ST := Lib.hid hst
      have HL := Lib.hid (TypAt.load hst.x)
      clear hst
      obtain ⟨lv, hlv⟩ : ∃ lv, ((bl (t.after c)).take q).any (inL (bl (gS t.kd m))) = lv := ⟨_, rfl⟩
      rw [hlv]
      have HLV := Lib.hid hlv
      clear hlv
      go_wp2_with (refine wpList_load_box rfl 71 _ rfl rfl HL.out ?_)
      refine (HAF.out _).mono ?_
      rintro e w5 ⟨rfl, hb⟩
      have ST5 := Lib.hid (ST.out.below hb)
      clear hb ST HL
      by_cases hql : q < (t.after c).size
      ·obtain ⟨x, hx⟩ : ∃ x, (t.after c)[q] = x := ⟨_, rfl⟩
       have hbx : (bl (t.after c))[q]? = some x := by rw [bl_at _ hql, hx]
       have HT := Lib.hid (any_take (inL (bl (gS t.kd m))) hbx)
       have hqi : (q : Int) < ((t.after c).size : Int) := by omega
       have hq0 : (0 : Int) ≤ (q : Int) := by omega
       clear hbx
       rcases lv with _ | _
       ·go_wp2_with fail
        refine wp_region_heldB 14 [] (by kernel_rfl) (by kernel_rfl) (by kernel_rfl) (by simp) ?_
        intro S hS
        have k0 : ∀ A, S A → A.cell? ⟨w.heap.size + 2, m, none⟩ = some (.string (gS t.kd m)) := fun A hA => by
         have := (ST5.out.e.below' (hS A hA)).fn (i := m) (by omega)
         rw [this]; unfold endF; rw [if_pos (by omega)]
        have K0 := Lib.hid k0
        have L2 := Lib.hid (fun A hA => TypAt.load (ST5.out.x.below (hS A hA)))
        have HS := Lib.hid hS
        clear hS k0
        simp only [List.take_succ_cons, List.take_zero, List.drop_succ_cons, List.drop_zero]
        repeat (first
         | (refine held_load 71 _ (by rfl) rfl rfl L2.out ?_; try (dsimp only); try simp only [Act.put, List.setIfInBounds_toArray, List.set_cons_zero, List.set_cons_succ])
         | (refine held_not rfl (by rfl) ?_; try (dsimp only); try simp only [Act.put, List.setIfInBounds_toArray, List.set_cons_zero, List.set_cons_succ])
         | (refine held_val (v := ?_) rfl (by rfl) ?_ ?_; rotate_left; (· (intro W hW; have q0 := K0.out W hW; go_simp; try with_reducible rfl)); try (dsimp only); try simp only [Act.put, List.setIfInBounds_toArray, List.set_cons_zero, List.set_cons_succ])
         | (refine held_skip rfl (by rfl) ?_ ?_; (· (intro W hW; have q0 := K0.out W hW; go_simp; try with_reducible rfl)); try (dsimp only); try simp only [Act.put, List.setIfInBounds_toArray, List.set_cons_zero, List.set_cons_succ])
         | (refine held_call (v := .string (t.after c)) (f := 85) (args := #[.agg (typCells t), .int .u8 (97 + (c : Int))]) rfl (by rfl) ?_ ?_ ?_; (· (intro W hW; go_simp; done)); (· exact (fun W hW => HAF.out W)); try (dsimp only); try simp only [Act.put, List.setIfInBounds_toArray, List.set_cons_zero, List.set_cons_succ])
         | (refine held_call (v := .bool (inL (bl (gS t.kd m)) x)) (f := 37) (args := #[.string (gS t.kd m), .int .u8 x.toNat]) rfl (by rfl) ?_ ?_ ?_; (· (intro W hW; go_simp; done)); (· exact (fun W hW => (inR_any (gS t.kd m) x HGS.out W).mono fun e w' h => ⟨h.1, h.2 ▸ Below.refl _ _⟩)); try (dsimp only); try simp only [Act.put, List.setIfInBounds_toArray, List.set_cons_zero, List.set_cons_succ]))
        refine held_nil ?_
        intro τ hτ W2 hW hO
        obtain rfl := laid0 hτ
        have ST6 := Lib.hid (ST5.out.below (HS.out W2 hW))
        clear hτ hO hW K0 L2 HS
        simp only [overs, List.foldl_nil]
        go_wp2_with fail
        go_roundw
        case rel => exact ⟨q + 1, by omega, by go_num, by rw [HT.out, HLV.out]; rfl, ST6.out⟩
        case measure => simp [intOf]; omega
       ·go_wp2_with fail
        refine wp_region_heldB 14 [] (by kernel_rfl) (by kernel_rfl) (by kernel_rfl) (by simp) ?_
        intro S hS
        have K0 := trivial
        have HS := Lib.hid hS
        clear hS
        simp only [List.take_succ_cons, List.take_zero, List.drop_succ_cons, List.drop_zero]
        repeat (first
         | (refine held_not rfl (by rfl) ?_; try (dsimp only); try simp only [Act.put, List.setIfInBounds_toArray, List.set_cons_zero, List.set_cons_succ])
         | (refine held_val (v := ?_) rfl (by rfl) ?_ ?_; rotate_left; (· (intro W hW; go_simp; try with_reducible rfl)); try (dsimp only); try simp only [Act.put, List.setIfInBounds_toArray, List.set_cons_zero, List.set_cons_succ])
         | (refine held_skip rfl (by rfl) ?_ ?_; (· (intro W hW; go_simp; try with_reducible rfl)); try (dsimp only); try simp only [Act.put, List.setIfInBounds_toArray, List.set_cons_zero, List.set_cons_succ]))
        refine held_nil ?_
        intro τ hτ W2 hW hO
        obtain rfl := laid0 hτ
        have ST6 := Lib.hid (ST5.out.below (HS.out W2 hW))
        clear hτ hO hW K0 HS
        simp only [overs, List.foldl_nil]
        go_wp2_with fail
        go_roundw
        case rel => exact ⟨q + 1, by omega, by go_num, by rw [HT.out, HLV.out]; rfl, ST6.out⟩
        case measure => simp [intOf]; omega
      ·have hqn : decide ((q : Int) < ((t.after c).size : Int)) = false := by simp; omega
       have HV := Lib.hid (show goodJ t.kd (m + 1) c = lv by rw [← HG.out, ← HLV.out, List.take_of_length_le (by rw [bl_len]; omega)])
       rcases lv with _ | _
       ·have HN := Lib.hid (ST5.out.cast (k' := m + 1) (c' := c + 1) (endF_stay t.kd (m + 1) c HV.out).symm)
        go_wp2_with fail
        go_roundw
        case rel => exact ⟨c + 1, by omega, by go_num, HN.out⟩
        case measure => simp [intOf]; omega
       ·have hzs : (mkB (strTo (goodJ t.kd (m + 1)) c)).size ≤ 1000 := by rw [mkB_size]; have := strTo_len (goodJ t.kd (m + 1)) c; omega
        have hm11 : (m : Int) + 1 < 12 := by omega
        go_wp2_with fail
        refine wp_region_M (fun A => Below w5.heap.size w5 A) 9 (by kernel_rfl) ?_
        have hbd : Below w5.heap.size w5 w5.drew := (Below.refl _ w5).drew
        have hSS : Below w5.heap.size w5 w5.drew := hbd
        have hf : ∀ A, Below w5.heap.size w5 A → A.cell? ⟨w.heap.size + 2, m + 1, none⟩ = some (.string (mkB (strTo (goodJ t.kd (m + 1)) c))) := fun A hA => by
         have := (ST5.out.e.below' hA).fn (i := m + 1) (by omega)
         rw [this]; unfold endF; rw [if_neg (by omega), if_pos rfl]
        have K0 := Lib.hid hf
        clear hf
        refine anyM_take (i := 0) (v := ?_) (by kernel_rfl) rfl (by kernel_rfl) (by kernel_rfl) (by kernel_rfl) (by kernel_rfl) (fun _ _ _ h => h) (by rfl) ?_ hSS ?_
        rotate_left
        ·(intro W hW; have q0 := K0.out W hW; go_simp; try with_reducible rfl)
        try (dsimp only); try simp only [Act.put, List.setIfInBounds_toArray, List.set_cons_zero, List.set_cons_succ]
        refine anyM_take (i := 1) (v := ?_) (by kernel_rfl) rfl (by kernel_rfl) (by kernel_rfl) (by kernel_rfl) (by kernel_rfl) (fun _ _ _ h => h) (by rfl) ?_ hSS ?_
        rotate_left
        ·(intro W hW; have q0 := K0.out W hW; go_simp; try with_reducible rfl)
        try (dsimp only); try simp only [Act.put, List.setIfInBounds_toArray, List.set_cons_zero, List.set_cons_succ]
        refine anyM_take (i := 2) (v := ?_) (by kernel_rfl) rfl (by kernel_rfl) (by kernel_rfl) (by kernel_rfl) (by kernel_rfl) (fun _ _ _ h => h) (by rfl) ?_ hSS ?_
        rotate_left
        ·(intro W hW; have q0 := K0.out W hW; go_simp; try with_reducible rfl)
        try (dsimp only); try simp only [Act.put, List.setIfInBounds_toArray, List.set_cons_zero, List.set_cons_succ]
        refine anyM_take (i := 3) (v := ?_) (by kernel_rfl) rfl (by kernel_rfl) (by kernel_rfl) (by kernel_rfl) (by kernel_rfl) (fun _ _ _ h => h) (by rfl) ?_ hSS ?_
        rotate_left
        ·(intro W hW; have q0 := K0.out W hW; go_simp; try with_reducible rfl)
        try (dsimp only); try simp only [Act.put, List.setIfInBounds_toArray, List.set_cons_zero, List.set_cons_succ]
        refine anyM_take (i := 4) (v := ?_) (by kernel_rfl) rfl (by kernel_rfl) (by kernel_rfl) (by kernel_rfl) (by kernel_rfl) (fun _ _ _ h => h) (by rfl) ?_ hSS ?_
        rotate_left
        ·(intro W hW; have q0 := K0.out W hW; go_simp; try with_reducible rfl)
        try (dsimp only); try simp only [Act.put, List.setIfInBounds_toArray, List.set_cons_zero, List.set_cons_succ]
        obtain ⟨w6, hw6⟩ : ∃ w6, w5.drew.alloc (.cells #[.int .u8 (97 + (c : Int))] 5) = w6 := ⟨_, rfl⟩
        have hb1 : Below w5.heap.size w5 w6 := by rw [← hw6]; exact hbd.alloc (Nat.le_refl _) _
        have hr5 := run_byte (97 + (c : Int)) w5.drew
        have hC := run_conv1 w5.drew (chC c) (97 + (c : Int)) (by rw [chC_nat hc26]; rfl)
        rw [hw6] at hr5 hC
        obtain ⟨g6, hg6⟩ : ∃ g, w5.drew.heap.size = g := ⟨_, rfl⟩
        rw [hg6] at hr5 hC
        clear hw6 hg6
        refine anyM_run (i := 5) (v := .slice (some ⟨g6, 0, none⟩) 1 1) (w' := w6) rfl (by kernel_rfl) (by rfl) ?_ (.inr hb1) ?_
        ·refine exec_bslice 98 _ _ rfl ?_
         simp only [List.map_toArray, List.map_cons, List.map_nil]
         exact hr5
        try (dsimp only); try simp only [Act.put, List.setIfInBounds_toArray, List.set_cons_zero, List.set_cons_succ]
        refine anyM_run (i := 6) (v := .string (mkB [chC c])) (w' := w6) rfl (by kernel_rfl) (by rfl) ?_ (.inr hb1) ?_
        ·go_simp
        try (dsimp only); try simp only [Act.put, List.setIfInBounds_toArray, List.set_cons_zero, List.set_cons_succ]
        refine anyM_run (i := 7) (v := .string (mkB (strTo (goodJ t.kd (m + 1)) c) ++ mkB [chC c])) (w' := w6) rfl (by kernel_rfl) (by rfl) ?_ (.inr hb1) ?_
        ·exact exec_cat _ _ _ rfl (by rfl) (by rfl) (by rw [mkB_size [chC c]]; simp; omega)
        try (dsimp only); try simp only [Act.put, List.setIfInBounds_toArray, List.set_cons_zero, List.set_cons_succ]
        refine anyM_run (i := 8) (v := .pointer (some ⟨w.heap.size + 2, m + 1, none⟩)) (w' := w6) rfl (by kernel_rfl) (by rfl) ?_ (.inr hb1) ?_
        ·go_simp
        try (dsimp only); try simp only [Act.put, List.setIfInBounds_toArray, List.set_cons_zero, List.set_cons_succ]
        have ST6 := Lib.hid (ST5.out.below hb1)
        have r1 := ST6.out.e.frozen (m + 1)
        have r2 := K0.out _ hb1
        have r1s : (w6.cell? ⟨w.heap.size + 2, m + 1, none⟩).isSome = true := by rw [r2]; rfl
        refine anyM_skip (i := 9) (w' := w6.setCell ⟨w.heap.size + 2, m + 1, none⟩ (.string (mkB (strTo (goodJ t.kd (m + 1)) c) ++ mkB [chC c]))) rfl (by kernel_rfl) (by rfl) ?_ (.inl (by decide)) ?_
        ·go_simp
        try (dsimp only); try simp only [Act.put, List.setIfInBounds_toArray, List.set_cons_zero, List.set_cons_succ]
        refine anyM_done (by kernel_rfl) ?_ _
        have HN := Lib.hid (ST6.out.set_ (k' := m + 1) (c' := c + 1) (m + 1) (.string (mkB (strTo (goodJ t.kd (m + 1)) c) ++ mkB [chC c])) fun j _ => by
         rw [← endF_step, HV.out, mkB_app]; rfl)
        obtain ⟨w7, hw7⟩ : ∃ w7, w6.setCell ⟨w.heap.size + 2, m + 1, none⟩ (.string (mkB (strTo (goodJ t.kd (m + 1)) c) ++ mkB [chC c])) = w7 := ⟨_, rfl⟩
        rw [hw7] at HN
        rw [hw7]
        clear hw7 r1 r2 r1s hC hr5 ST6 hb1 hSS hbd K0
        go_wp2_with fail
        go_roundw
        case rel => exact ⟨c + 1, by omega, by go_num, HN.out⟩
        case measure => simp [intOf]; omega
    ·have hcn : decide ((97 : Int) + (c : Int) ≤ 122) = false := by simp; omega
     have h26 : c = 26 := by omega
     have HN := Lib.hid (ST.out.cast (k' := m + 1 + 1) (c' := 0) (by rw [h26]; exact endF_next t.kd (m + 1)))
     go_wp2_with fail
     go_roundw
     case rel => exact ⟨m + 1, by omega, by go_num, HN.out⟩
     case measure => simp [intOf]; omega
  ·have hkn : decide ((m : Int) + 1 < 12) = false := by simp; omega
   have hk12 : m = 11 := by omega
   subst hk12
   have e12 : EndBox wr (w.heap.size + 2) t.kd 12 0 := ST.out.e
   unfold EndBox at e12
   rw [endF_all] at e12
   have HL := Lib.hid (run_load_sub agg_ends e12 0 (goodF t.kd) (fun j _ => by rw [Nat.zero_add]) (by omega))
   obtain ⟨w2, hst2, hw2⟩ := run_store_all (P := Tryz.prog) agg_ends ST.out.z (goodF t.kd) (fun _ _ => rfl)
   have HST := Lib.hid hst2
   have HW2 := Lib.hid hw2
   clear e12 hst2 hw2
   go_wp2_with (first
    | (refine wpList_load_box rfl 121 _ rfl rfl HL.out ?_)
    | (refine wpList_store_box rfl 121 _ _ rfl rfl rfl HST.out ?_))
   refine bodyPost_ret (results_cell rfl rfl (run_loadv_sub agg_ends HW2.out.box 0 (goodF t.kd) (fun j _ => by rw [Nat.zero_add]) (by omega))) rfl ⟨rfl, HW2.out.below ST.out.b (by omega)⟩
end Go.Proofs.YthpjffhccjlnhaaGreatDoor
