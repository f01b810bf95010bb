/- The reference: CheckRings. No condition. -/
import Derived.Test.YthpjffhccjlnhaaGreatDoorGRef5
set_option linter.unusedSimpArgs false
set_option linter.unusedVariables false
namespace Go.Proofs.YthpjffhccjlnhaaGreatDoor
open Go.RowKit
attribute [local go_sem] Oper.semAt_some

theorem rngErr_eq {l : List Rng} {i : Nat} {y : Rng} (hy : l[i]? = some y) : rngErr l i = if !inB y.at_ 0 11 || prevB l y i || !classesB (bl y.set) then 1 else 0 := by
 unfold rngErr classesB
 rw [hy]
 simp only [ByteArray.toList_eq]
 simp only [bl]
 generalize y.set.data.toList.isEmpty = a
 cases inB y.at_ 0 11 <;> cases a <;> cases isSetB y.set.data.toList <;> cases prevB l y i <;> rfl
theorem ringsErr_at {l : List Rng} {i : Nat} {e : Int} (hl : ¬ 12 < l.length) (hi : i < l.length) (he : rngErr l i = e) (h0 : e ≠ 0) (h : ∀ j, j < i → rngErr l j = 0) : ringsErr l = e := by
 unfold ringsErr; rw [if_neg hl, firstE_at hi (he ▸ h0) h, he]
set_option maxRecDepth 100000 in
set_option maxHeartbeats 2000000 in
theorem checkRingsR_any (a : Option Addr) (c : Nat) (l : List Rng) (w : World) (h : RngsAt w a l) (hs : ∀ y, y ∈ l → y.set.size ≤ 1000) (hl : l.length ≤ 1000000) :
  Calls Tryz.prog 63 #[.slice a l.length c] w fun e w' => e = .returned (.int .i64 (ringsErr l)) ∧ Below w.heap.size w w' := by
 have HM := Lib.hid h
 have HS := Lib.hid hs
 clear h hs
 by_cases h12 : 12 < l.length
 ·have h12i : (12 : Int) < (l.length : Int) := by omega
  have HE : Hid (ringsErr l = 2) := Lib.hid (by unfold ringsErr; rw [if_pos h12])
  go_enter Tryz.func63, Tryz.ntmps63
  go_wp2_with fail
  go_ret
  exact ⟨ret_int HE.out.symm, Below.refl _ _⟩
 have h12i : ¬ (12 : Int) < (l.length : Int) := by omega
 have H12 := Lib.hid h12
 go_enter Tryz.func63, Tryz.ntmps63
 go_wp2_with fail
 clear h12 h12i
 go_loopw [3] (fun iv wr => ∃ k : Nat, k ≤ l.length ∧ iv = .int .i64 k ∧ (∀ j, j < k → rngErr l j = 0) ∧ Below w.heap.size w wr) (fun iv _ => l.length - (intOf iv).toNat)
 case atStart => exact ⟨0, Nat.zero_le _, rfl, fun j hj => absurd hj (Nat.not_lt_zero j), Below.refl _ _⟩
 case round =>
  obtain ⟨i, hi, rfl, hall, hb⟩ := hrel
  have HA := Lib.hid hall
  have HB := Lib.hid hb
  clear hall hb
  by_cases hlt : i < l.length
  ·obtain ⟨y, hy⟩ : ∃ y, l[i]? = some y := ⟨l[i], by simp [hlt]⟩
   obtain ⟨b, o, rfl, hT⟩ := (HM.out.below HB.out) i y hy
   have HY := Lib.hid hy
   have HT := Lib.hid hT.fields
   have hki : (i : Int) < (l.length : Int) := by omega
   have hk0 : (0 : Int) ≤ (i : Int) := by omega
   have HE := Lib.hid (rngErr_eq hy)
   clear hy hT
   have bad : rngErr l i = 1 → ringsErr l = 1 := fun h => ringsErr_at H12.out hlt h (by simp) HA.out
   have BAD := Lib.hid bad
   clear bad
   have hsy := HS.out y (List.mem_of_getElem? HY.out)
   rcases h1 : decide (y.at_ < 0) with _ | _
   ·rcases h2 : decide (11 < y.at_) with _ | _
    ·have HI : Hid (inB y.at_ 0 11 = true) := Lib.hid (by
      have a := of_decide_eq_false h1; have b := of_decide_eq_false h2
      simp [inB]; omega)
     rw [HI.out] at HE
     rcases i with _ | i
     ·rw [Nat.zero_mul, Nat.add_zero] at HT
      rcases hq : classesB (bl y.set) with _ | _
      ·have HN := Lib.hid (BAD.out (HE.out.trans (by simp [hq])))
       clear BAD HE
       go_wp2_with fail
       refine wp_region_heldB 41 [] (by kernel_rfl) (by kernel_rfl) (by kernel_rfl) (by simp) ?_
       intro S hS
       have k0 : ∀ A, S A → A.cell? ⟨b, o, none⟩ = some (.int .i64 y.at_) ∧ A.cell? ⟨b, o + 1, none⟩ = some (.string y.set) := fun A hA => ⟨below_cell (hS A hA) HT.out.1, below_cell (hS A hA) HT.out.2⟩
       have K0 := Lib.hid k0
       have HSS := Lib.hid hS
       clear hS k0
       simp only [List.take_succ_cons, List.take_zero, List.drop_succ_cons, List.drop_zero]
       repeat (first
        | (refine held_not rfl (by rfl) ?_; try (dsimp only); try simp only [Act.put, List.setIfInBounds_toArray, List.set_cons_zero, List.set_cons_succ])
        | (refine held_val (v := ?_) rfl (by rfl) ?_ ?_; rotate_left; (· (intro W hW; obtain ⟨q0, q1⟩ := K0.out W hW; go_simp; try with_reducible rfl)); try (dsimp only); try simp only [Act.put, List.setIfInBounds_toArray, List.set_cons_zero, List.set_cons_succ])
        | (refine held_skip rfl (by rfl) ?_ ?_; (· (intro W hW; obtain ⟨q0, q1⟩ := K0.out W hW; go_simp; try with_reducible rfl)); try (dsimp only); try simp only [Act.put, List.setIfInBounds_toArray, List.set_cons_zero, List.set_cons_succ])
        | (refine held_call (v := .bool false) (f := 71) (args := #[.string y.set]) rfl (by rfl) ?_ ?_ ?_; (· (intro W hW; go_simp; done)); (· exact (fun W hW => by have := classesR_any y.set W (by omega); rwa [hq] at this)); try (dsimp only); try simp only [Act.put, List.setIfInBounds_toArray, List.set_cons_zero, List.set_cons_succ]))
       refine held_nil ?_
       intro τ hτ W2 hW hO
       obtain rfl := laid0 hτ
       have HB2 := Lib.hid (HB.out.trans ((HSS.out W2 hW).mono HB.out.size))
       clear hτ hO hW K0 HSS
       simp only [overs, List.foldl_nil]
       go_wp2_with fail
       go_ret
       exact ⟨ret_int HN.out.symm, HB2.out⟩
      ·have HZ := Lib.hid (HE.out.trans (show _ = (0 : Int) by simp [hq, prevB]))
       clear BAD HE
       go_wp2_with fail
       refine wp_region_heldB 41 [] (by kernel_rfl) (by kernel_rfl) (by kernel_rfl) (by simp) ?_
       intro S hS
       have k0 : ∀ A, S A → A.cell? ⟨b, o, none⟩ = some (.int .i64 y.at_) ∧ A.cell? ⟨b, o + 1, none⟩ = some (.string y.set) := fun A hA => ⟨below_cell (hS A hA) HT.out.1, below_cell (hS A hA) HT.out.2⟩
       have K0 := Lib.hid k0
       have HSS := Lib.hid hS
       clear hS k0
       simp only [List.take_succ_cons, List.take_zero, List.drop_succ_cons, List.drop_zero]
       repeat (first
        | (refine held_not rfl (by rfl) ?_; try (dsimp only); try simp only [Act.put, List.setIfInBounds_toArray, List.set_cons_zero, List.set_cons_succ])
        | (refine held_val (v := ?_) rfl (by rfl) ?_ ?_; rotate_left; (· (intro W hW; obtain ⟨q0, q1⟩ := K0.out W hW; go_simp; try with_reducible rfl)); try (dsimp only); try simp only [Act.put, List.setIfInBounds_toArray, List.set_cons_zero, List.set_cons_succ])
        | (refine held_skip rfl (by rfl) ?_ ?_; (· (intro W hW; obtain ⟨q0, q1⟩ := K0.out W hW; go_simp; try with_reducible rfl)); try (dsimp only); try simp only [Act.put, List.setIfInBounds_toArray, List.set_cons_zero, List.set_cons_succ])
        | (refine held_call (v := .bool true) (f := 71) (args := #[.string y.set]) rfl (by rfl) ?_ ?_ ?_; (· (intro W hW; go_simp; done)); (· exact (fun W hW => by have := classesR_any y.set W (by omega); rwa [hq] at this)); try (dsimp only); try simp only [Act.put, List.setIfInBounds_toArray, List.set_cons_zero, List.set_cons_succ]))
       refine held_nil ?_
       intro τ hτ W2 hW hO
       obtain rfl := laid0 hτ
       have HB2 := Lib.hid (HB.out.trans ((HSS.out W2 hW).mono HB.out.size))
       clear hτ hO hW K0 HSS
       simp only [overs, List.foldl_nil]
       go_wp2_with fail
       go_roundw
       case rel => exact ⟨1, by omega, by go_num, fun j hj => by
        rcases Nat.lt_or_ge j (0) with h1 | h1
        ·exact HA.out j h1
        ·have : j = 0 := by omega
         subst this; exact HZ.out, HB2.out⟩
       case measure => simp [intOf]; omega
     ·obtain ⟨z, hz⟩ : ∃ z, l[i]? = some z := ⟨l[i], by simp⟩
      obtain ⟨b', o', he, hTz⟩ := (HM.out.below HB.out) i z hz
      cases he
      have HZT := Lib.hid hTz.fields.1
      have hadd : o + (i + 1) * 2 = o + i * 2 + 2 := by omega
      rw [hadd] at HT
      have HP : Hid (prevB l y (i + 1) = decide (y.at_ ≤ z.at_)) := Lib.hid (by simp only [prevB, hz])
      have e1 : IntKind.i64.wrap ((i : Int) + 1 - 1) = (i : Int) := by rw [IntWalk.i64_in _ (by omega)]; omega
      have hk1 : (i : Int) < (l.length : Int) := by omega
      have hk2 : (0 : Int) ≤ (i : Int) := by omega
      have hk3 : decide ((0 : Int) < (i : Int) + 1) = true := decide_eq_true (by omega)
      have e2 : IntKind.i64.wrap (i : Int) = (i : Int) := IntWalk.i64_in _ (by omega)
      have hk4 : (i : Int) + 1 < (l.length : Int) := by omega
      have hk5 : (0 : Int) ≤ (i : Int) + 1 := by omega
      clear hTz hz
      rcases hp : decide (y.at_ ≤ z.at_) with _ | _
      ·rcases hq : classesB (bl y.set) with _ | _
       ·have HN := Lib.hid (BAD.out (HE.out.trans (by simp [hq])))
        clear BAD HE HP
        go_wp2_with fail
        refine wp_region_heldB 41 [] (by kernel_rfl) (by kernel_rfl) (by kernel_rfl) (by simp) ?_
        intro S hS
        have k0 : ∀ A, S A → A.cell? ⟨b, o + i * 2 + 2, none⟩ = some (.int .i64 y.at_) ∧ A.cell? ⟨b, o + i * 2 + 2 + 1, none⟩ = some (.string y.set) ∧ A.cell? ⟨b, o + i * 2, none⟩ = some (.int .i64 z.at_) := fun A hA => ⟨below_cell (hS A hA) HT.out.1, below_cell (hS A hA) HT.out.2, below_cell (hS A hA) HZT.out⟩
        have K0 := Lib.hid k0
        have HSS := Lib.hid hS
        clear hS k0
        simp only [List.take_succ_cons, List.take_zero, List.drop_succ_cons, List.drop_zero]
        repeat (first
         | (refine held_not rfl (by rfl) ?_; try (dsimp only); try simp only [Act.put, List.setIfInBounds_toArray, List.set_cons_zero, List.set_cons_succ])
         | (refine held_val (v := ?_) rfl (by rfl) ?_ ?_; rotate_left; (· (intro W hW; obtain ⟨q0, q1, q2⟩ := K0.out W hW; go_simp; try with_reducible rfl)); try (dsimp only); try simp only [Act.put, List.setIfInBounds_toArray, List.set_cons_zero, List.set_cons_succ])
         | (refine held_skip rfl (by rfl) ?_ ?_; (· (intro W hW; obtain ⟨q0, q1, q2⟩ := K0.out W hW; go_simp; try with_reducible rfl)); try (dsimp only); try simp only [Act.put, List.setIfInBounds_toArray, List.set_cons_zero, List.set_cons_succ])
         | (refine held_call (v := .bool false) (f := 71) (args := #[.string y.set]) rfl (by rfl) ?_ ?_ ?_; (· (intro W hW; go_simp; done)); (· exact (fun W hW => by have := classesR_any y.set W (by omega); rwa [hq] at this)); try (dsimp only); try simp only [Act.put, List.setIfInBounds_toArray, List.set_cons_zero, List.set_cons_succ]))
        refine held_nil ?_
        intro τ hτ W2 hW hO
        obtain rfl := laid0 hτ
        have HB2 := Lib.hid (HB.out.trans ((HSS.out W2 hW).mono HB.out.size))
        clear hτ hO hW K0 HSS
        simp only [overs, List.foldl_nil]
        go_wp2_with fail
        go_ret
        exact ⟨ret_int HN.out.symm, HB2.out⟩
       ·have HZ := Lib.hid (HE.out.trans (show _ = (0 : Int) by rw [HP.out, hp, hq]; rfl))
        clear BAD HE HP
        go_wp2_with fail
        refine wp_region_heldB 41 [] (by kernel_rfl) (by kernel_rfl) (by kernel_rfl) (by simp) ?_
        intro S hS
        have k0 : ∀ A, S A → A.cell? ⟨b, o + i * 2 + 2, none⟩ = some (.int .i64 y.at_) ∧ A.cell? ⟨b, o + i * 2 + 2 + 1, none⟩ = some (.string y.set) ∧ A.cell? ⟨b, o + i * 2, none⟩ = some (.int .i64 z.at_) := fun A hA => ⟨below_cell (hS A hA) HT.out.1, below_cell (hS A hA) HT.out.2, below_cell (hS A hA) HZT.out⟩
        have K0 := Lib.hid k0
        have HSS := Lib.hid hS
        clear hS k0
        simp only [List.take_succ_cons, List.take_zero, List.drop_succ_cons, List.drop_zero]
        repeat (first
         | (refine held_not rfl (by rfl) ?_; try (dsimp only); try simp only [Act.put, List.setIfInBounds_toArray, List.set_cons_zero, List.set_cons_succ])
         | (refine held_val (v := ?_) rfl (by rfl) ?_ ?_; rotate_left; (· (intro W hW; obtain ⟨q0, q1, q2⟩ := K0.out W hW; go_simp; try with_reducible rfl)); try (dsimp only); try simp only [Act.put, List.setIfInBounds_toArray, List.set_cons_zero, List.set_cons_succ])
         | (refine held_skip rfl (by rfl) ?_ ?_; (· (intro W hW; obtain ⟨q0, q1, q2⟩ := K0.out W hW; go_simp; try with_reducible rfl)); try (dsimp only); try simp only [Act.put, List.setIfInBounds_toArray, List.set_cons_zero, List.set_cons_succ])
         | (refine held_call (v := .bool true) (f := 71) (args := #[.string y.set]) rfl (by rfl) ?_ ?_ ?_; (· (intro W hW; go_simp; done)); (· exact (fun W hW => by have := classesR_any y.set W (by omega); rwa [hq] at this)); try (dsimp only); try simp only [Act.put, List.setIfInBounds_toArray, List.set_cons_zero, List.set_cons_succ]))
        refine held_nil ?_
        intro τ hτ W2 hW hO
        obtain rfl := laid0 hτ
        have HB2 := Lib.hid (HB.out.trans ((HSS.out W2 hW).mono HB.out.size))
        clear hτ hO hW K0 HSS
        simp only [overs, List.foldl_nil]
        go_wp2_with fail
        go_roundw
        case rel => exact ⟨i + 2, by omega, by go_num, fun j hj => by
         rcases Nat.lt_or_ge j (i + 1) with h1 | h1
         ·exact HA.out j h1
         ·have : j = i + 1 := by omega
          subst this; exact HZ.out, HB2.out⟩
        case measure => simp [intOf]; omega
      ·have HN := Lib.hid (BAD.out (HE.out.trans (by rw [HP.out, hp]; rfl)))
       clear BAD HE HP
       go_wp2_with fail
       refine wp_region_heldB 41 [] (by kernel_rfl) (by kernel_rfl) (by kernel_rfl) (by simp) ?_
       intro S hS
       have k0 : ∀ A, S A → A.cell? ⟨b, o + i * 2 + 2, none⟩ = some (.int .i64 y.at_) ∧ A.cell? ⟨b, o + i * 2 + 2 + 1, none⟩ = some (.string y.set) ∧ A.cell? ⟨b, o + i * 2, none⟩ = some (.int .i64 z.at_) := fun A hA => ⟨below_cell (hS A hA) HT.out.1, below_cell (hS A hA) HT.out.2, below_cell (hS A hA) HZT.out⟩
       have K0 := Lib.hid k0
       have HSS := Lib.hid hS
       clear hS k0
       simp only [List.take_succ_cons, List.take_zero, List.drop_succ_cons, List.drop_zero]
       repeat (first
        | (refine held_not rfl (by rfl) ?_; try (dsimp only); try simp only [Act.put, List.setIfInBounds_toArray, List.set_cons_zero, List.set_cons_succ])
        | (refine held_val (v := ?_) rfl (by rfl) ?_ ?_; rotate_left; (· (intro W hW; obtain ⟨q0, q1, q2⟩ := K0.out W hW; go_simp; try with_reducible rfl)); try (dsimp only); try simp only [Act.put, List.setIfInBounds_toArray, List.set_cons_zero, List.set_cons_succ])
        | (refine held_skip rfl (by rfl) ?_ ?_; (· (intro W hW; obtain ⟨q0, q1, q2⟩ := K0.out W hW; go_simp; try with_reducible rfl)); try (dsimp only); try simp only [Act.put, List.setIfInBounds_toArray, List.set_cons_zero, List.set_cons_succ]))
       refine held_nil ?_
       intro τ hτ W2 hW hO
       obtain rfl := laid0 hτ
       have HB2 := Lib.hid (HB.out.trans ((HSS.out W2 hW).mono HB.out.size))
       clear hτ hO hW K0 HSS
       simp only [overs, List.foldl_nil]
       go_wp2_with fail
       go_ret
       exact ⟨ret_int HN.out.symm, HB2.out⟩
    ·have HN := Lib.hid (BAD.out (HE.out.trans (by
      have b := of_decide_eq_true h2
      have : inB y.at_ 0 11 = false := by simp [inB]; omega
      simp [this])))
     clear BAD HE
     go_wp2_with fail
     refine wp_region_heldB 41 [] (by kernel_rfl) (by kernel_rfl) (by kernel_rfl) (by simp) ?_
     intro S hS
     have k0 : ∀ A, S A → A.cell? ⟨b, o + i * 2, none⟩ = some (.int .i64 y.at_) ∧ A.cell? ⟨b, o + i * 2 + 1, none⟩ = some (.string y.set) := fun A hA => ⟨below_cell (hS A hA) HT.out.1, below_cell (hS A hA) HT.out.2⟩
     have K0 := Lib.hid k0
     have HSS := Lib.hid hS
     clear hS k0
     simp only [List.take_succ_cons, List.take_zero, List.drop_succ_cons, List.drop_zero]
     repeat (first
      | (refine held_not rfl (by rfl) ?_; try (dsimp only); try simp only [Act.put, List.setIfInBounds_toArray, List.set_cons_zero, List.set_cons_succ])
      | (refine held_val (v := ?_) rfl (by rfl) ?_ ?_; rotate_left; (· (intro W hW; obtain ⟨q0, q1⟩ := K0.out W hW; go_simp; try with_reducible rfl)); try (dsimp only); try simp only [Act.put, List.setIfInBounds_toArray, List.set_cons_zero, List.set_cons_succ])
      | (refine held_skip rfl (by rfl) ?_ ?_; (· (intro W hW; obtain ⟨q0, q1⟩ := K0.out W hW; go_simp; try with_reducible rfl)); try (dsimp only); try simp only [Act.put, List.setIfInBounds_toArray, List.set_cons_zero, List.set_cons_succ]))
     refine held_nil ?_
     intro τ hτ W2 hW hO
     obtain rfl := laid0 hτ
     have HB2 := Lib.hid (HB.out.trans ((HSS.out W2 hW).mono HB.out.size))
     clear hτ hO hW K0 HSS
     simp only [overs, List.foldl_nil]
     go_wp2_with fail
     go_ret
     exact ⟨ret_int HN.out.symm, HB2.out⟩
   ·have HN := Lib.hid (BAD.out (HE.out.trans (by
     have b := of_decide_eq_true h1
     have : inB y.at_ 0 11 = false := by simp [inB]; omega
     simp [this])))
    clear BAD HE
    go_wp2_with fail
    refine wp_region_heldB 41 [] (by kernel_rfl) (by kernel_rfl) (by kernel_rfl) (by simp) ?_
    intro S hS
    have k0 : ∀ A, S A → A.cell? ⟨b, o + i * 2, none⟩ = some (.int .i64 y.at_) ∧ A.cell? ⟨b, o + i * 2 + 1, none⟩ = some (.string y.set) := fun A hA => ⟨below_cell (hS A hA) HT.out.1, below_cell (hS A hA) HT.out.2⟩
    have K0 := Lib.hid k0
    have HSS := Lib.hid hS
    clear hS k0
    simp only [List.take_succ_cons, List.take_zero, List.drop_succ_cons, List.drop_zero]
    repeat (first
     | (refine held_not rfl (by rfl) ?_; try (dsimp only); try simp only [Act.put, List.setIfInBounds_toArray, List.set_cons_zero, List.set_cons_succ])
     | (refine held_val (v := ?_) rfl (by rfl) ?_ ?_; rotate_left; (· (intro W hW; obtain ⟨q0, q1⟩ := K0.out W hW; go_simp; try with_reducible rfl)); try (dsimp only); try simp only [Act.put, List.setIfInBounds_toArray, List.set_cons_zero, List.set_cons_succ])
     | (refine held_skip rfl (by rfl) ?_ ?_; (· (intro W hW; obtain ⟨q0, q1⟩ := K0.out W hW; go_simp; try with_reducible rfl)); try (dsimp only); try simp only [Act.put, List.setIfInBounds_toArray, List.set_cons_zero, List.set_cons_succ]))
    refine held_nil ?_
    intro τ hτ W2 hW hO
    obtain rfl := laid0 hτ
    have HB2 := Lib.hid (HB.out.trans ((HSS.out W2 hW).mono HB.out.size))
    clear hτ hO hW K0 HSS
    simp only [overs, List.foldl_nil]
    go_wp2_with fail
    go_ret
    exact ⟨ret_int HN.out.symm, HB2.out⟩
  ·have hkn : decide ((i : Int) < (l.length : Int)) = false := by simp; omega
   have HE : Hid (ringsErr l = 0) := Lib.hid (by unfold ringsErr; rw [if_neg H12.out]; exact firstE_none fun j hj => HA.out j (by omega))
   go_wp2_with fail
   go_ret
   exact ⟨ret_int HE.out.symm, HB.out⟩
end Go.Proofs.YthpjffhccjlnhaaGreatDoor
