/- SureCertain: what is certain follows from With both ways, and holds in every list that fits: the law returns true for every input, and its arguments read as before. No condition. -/
/- SureCertain: the statement. -/
import Derived.Test.YtoaacllpegfcjaaGreatMLaw
import Derived.ProofKit
import Derived.JoinedCond
set_option linter.unusedSimpArgs false
set_option linter.unusedVariables false
namespace Go.Proofs.YtoaacllpegfcjaaGreat
open Go.RowKit
attribute [local go_sem] Oper.semAt_some

set_option maxRecDepth 100000 in
set_option maxHeartbeats 4000000 in
theorem sureCertain_any (c : Cs) (hf : c.Fit) (pa : Option Addr) (pc : Nat) (_ : c.parts.length ≤ pc) (x : Int) (_ : (Lit.int .i64 x).wf = true) (y : Int) (_ : (Lit.int .i64 y).wf = true) (na : Option Addr) (l : List Int) (nc : Nat) (hk : l.length ≤ nc) (hm : nc ≤ maxLen) (w : World)
    (hp : PartsAt w pa c.parts) (hi : Ints w na l) :
    Calls Tryz.prog 3 #[.agg #[.string c.ware, .int .i64 c.limit, .int .i64 c.by_, .slice pa c.parts.length pc], .int .i64 x, .int .i64 y, .slice na l.length nc] w fun e w' => e = .returned (.bool true) ∧ Below w.heap.size w w' := by
  have hll : l.length ≤ maxLen := Nat.le_trans hk hm
  unfold maxLen at hll
  obtain ⟨w1, hw1, hB1, b1⟩ := box_case w c pa pc
  have e1 : ∀ i, w1.cell? ⟨w.heap.size, i, none⟩ = (#[.string c.ware, .int .i64 c.limit, .int .i64 c.by_, .slice pa c.parts.length pc] : Array Value)[i]? := b1.cell
  have HFW := Lib.hid (few_any c hf pa pc w1 (hp.below hB1))
  have HP := Lib.hid hp
  have HI := Lib.hid hi
  have HW := Lib.hid hw1
  have HB1 := Lib.hid hB1
  have HX := Lib.hid b1
  have HAL := Lib.hid alive_any
  clear hw1 hB1 b1 hp hi hk hm
  rcases hfb : fewB c with _ | _
  · rw [hfb] at HFW
    go_enter Tryz.func3, Tryz.ntmps3
    go_upto_region 1 with fail
    simp only [HW.out]
    go_wp2_with fail
    (with_reducible refine HFW.out.mono ?_)
    rintro e w2 ⟨rfl, hb2⟩
    have HB2 := Lib.hid (HB1.out.trans (hb2.mono HB1.out.size))
    have HX2 := Lib.hid (HX.out.below' hb2)
    clear hb2 e1
    go_wp2_with fail
    (with_reducible refine (HAL.out _).mono ?_)
    rintro e w3 ⟨rfl, hb3⟩
    have HB3 := Lib.hid (HB2.out.trans (hb3.mono HB2.out.size))
    clear hb3
    go_wp2_with fail
    go_ret
    exact ⟨rfl, HB3.out⟩
  · rw [hfb] at HFW
    have hsm := few_small hfb
    by_cases hl20 : 20 < l.length
    · go_enter Tryz.func3, Tryz.ntmps3
      go_upto_region 1 with fail
      simp only [HW.out]
      go_wp2_with fail
      (with_reducible refine HFW.out.mono ?_)
      rintro e w2 ⟨rfl, hb2⟩
      have HB2 := Lib.hid (HB1.out.trans (hb2.mono HB1.out.size))
      have HX2 := Lib.hid (HX.out.below' hb2)
      clear hb2 e1
      go_wp2_with fail
      (with_reducible refine (HAL.out _).mono ?_)
      rintro e w3 ⟨rfl, hb3⟩
      have HB3 := Lib.hid (HB2.out.trans (hb3.mono HB2.out.size))
      clear hb3
      go_wp2_with fail
      go_ret
      exact ⟨rfl, HB3.out⟩
    · have hw1 := fun W h => (with_sees c hsm pa pc x y true W h).mono (fun (e : Ending) (w' : World) ⟨a, cap, h1, _, h2⟩ => (⟨a, _, cap, h1, h2⟩ : ∃ (a : Option Addr) (n cap : Nat), e = Ending.returned (.tuple #[.slice a n cap, .bool (seenB (openErr c [x, y]) ((allR c).find? (asPair x.toNat y.toNat true))), .int .i64 (openErr c [x, y])]) ∧ Below W.heap.size W w'))
      have hw2 := fun W h => (with_sees c hsm pa pc x y false W h).mono (fun (e : Ending) (w' : World) ⟨a, cap, h1, _, h2⟩ => (⟨a, _, cap, h1, h2⟩ : ∃ (a : Option Addr) (n cap : Nat), e = Ending.returned (.tuple #[.slice a n cap, .bool (seenB (openErr c [x, y]) ((allR c).find? (asPair x.toNat y.toNat false))), .int .i64 (openErr c [x, y])]) ∧ Below W.heap.size W w'))
      have han := fun W h => (answerTop_any c hsm pa pc x y W h).mono (fun (e : Ending) (w' : World) ⟨h1, h2⟩ => (⟨h2, h1⟩ : e = Ending.returned (.tuple #[.int .u8 (if askErr c [x, y] = 0 then ansAt c x.toNat y.toNat else 0), .int .i64 (askErr c [x, y])]) ∧ Below W.heap.size W w'))
      by_cases hz : openErr c [x, y] = 0
      · have hx := open_in hz x (by simp)
        have hy := open_in hz y (by simp)
        obtain ⟨a, rfl⟩ := Int.eq_ofNat_of_zero_le hx.1
        obtain ⟨b, rfl⟩ := Int.eq_ofNat_of_zero_le hy.1
        have ha : a < c.parts.length := by omega
        have hb : b < c.parts.length := by omega
        have hae := ask_eq0 hz
        have hfi := fun W h1 h2 => (fits_any c hsm pa pc na l nc (by omega) W h1 h2).mono (fun (e : Ending) (w' : World) ⟨h1, h2⟩ => (⟨h2, h1⟩ : e = Ending.returned (.tuple #[.bool (checkCase c == 0 && fitsB c l), .int .i64 (checkCase c)]) ∧ Below W.heap.size W w'))
        rw [open_check hz, show ((0 : Int) == 0 && fitsB c l) = fitsB c l from rfl] at hfi
        simp only [hz, seenB, if_true, Int.toNat_natCast, with_isSome ha hb, Bool.false_eq_true, if_false] at hw1 hw2
        rw [hae, Int.toNat_natCast, Int.toNat_natCast, ans_iff] at han
        have HFI := Lib.hid hfi
        have HABC := Lib.hid (And.intro ha hb)
        clear hfi hae hx hy hz hf
        rcases hT : togB c.parts.length (allR c) a b with _ | _ <;> rcases hA : aptB c.parts.length (allR c) a b with _ | _
        · have hem := none_empty ha hb hT hA
          rw [hT] at hw1
          rw [hA] at hw2
          rw [hem, if_pos (rfl : true = true)] at han
          simp only [Int.reduceEq, if_false] at han
          have HW1 := Lib.hid hw1
          have HW2 := Lib.hid hw2
          have HAN := Lib.hid han
          clear hw1 hw2 han hT hA hem hsm HFI ha hb
          go_enter Tryz.func3, Tryz.ntmps3
          go_upto_region 1 with fail
          simp only [HW.out]
          go_wp2_with fail
          (with_reducible refine HFW.out.mono ?_)
          rintro e w2 ⟨rfl, hb2⟩
          have HB2 := Lib.hid (HB1.out.trans (hb2.mono HB1.out.size))
          have HX2 := Lib.hid (HX.out.below' hb2)
          clear hb2 e1
          have e1 : ∀ i, w2.cell? ⟨w.heap.size, i, none⟩ = (#[.string c.ware, .int .i64 c.limit, .int .i64 c.by_, .slice pa c.parts.length pc] : Array Value)[i]? := HX2.out.cell
          go_wp2_with fail
          (with_reducible refine (HW1.out _ (HP.out.below HB2.out)).mono ?_)
          rintro e w2 ⟨a3, n3, c3, rfl, hbn⟩
          have HX2 := Lib.hid (HX2.out.below' hbn)
          have HB2 := Lib.hid (HB2.out.trans (hbn.mono HB2.out.size))
          clear hbn
          try clear e1
          have e1 : ∀ i, w2.cell? ⟨w.heap.size, i, none⟩ = (#[.string c.ware, .int .i64 c.limit, .int .i64 c.by_, .slice pa c.parts.length pc] : Array Value)[i]? := HX2.out.cell
          go_wp2_with fail
          (with_reducible refine (HW2.out _ (HP.out.below HB2.out)).mono ?_)
          rintro e w2 ⟨a4, n4, c4, rfl, hbn⟩
          have HX2 := Lib.hid (HX2.out.below' hbn)
          have HB2 := Lib.hid (HB2.out.trans (hbn.mono HB2.out.size))
          clear hbn
          try clear e1
          have e1 : ∀ i, w2.cell? ⟨w.heap.size, i, none⟩ = (#[.string c.ware, .int .i64 c.limit, .int .i64 c.by_, .slice pa c.parts.length pc] : Array Value)[i]? := HX2.out.cell
          go_wp2_with fail
          (with_reducible refine (HAN.out _ (HP.out.below HB2.out)).mono ?_)
          rintro e w2 ⟨rfl, hbn⟩
          have HX2 := Lib.hid (HX2.out.below' hbn)
          have HB2 := Lib.hid (HB2.out.trans (hbn.mono HB2.out.size))
          clear hbn
          try clear e1
          go_wp2_with fail
          (with_reducible refine (HAL.out _).mono ?_)
          rintro e w3 ⟨rfl, hb3⟩
          have HB3 := Lib.hid (HB2.out.trans (hb3.mono HB2.out.size))
          clear hb3
          go_wp2_with fail
          go_ret
          exact ⟨rfl, HB3.out⟩
        · have hne := some_full ha hb (.inr hA)
          have hdiff : ∀ r, Reas c r → ((nth r a : Int) == (nth r b : Int)) = false := fun r hr => by
            have h1 : nth r a ≠ nth r b := fun e => by have := (tog_iff ha hb).2 ⟨r, hr, e⟩; rw [hT] at this; cases this
            simp; omega
          rw [hT] at hw1
          rw [hA] at hw2
          rw [hne, hT, hA] at han
          simp only [if_true, Bool.false_eq_true, if_false] at han
          have HW1 := Lib.hid hw1
          have HW2 := Lib.hid hw2
          have HAN := Lib.hid han
          have HD := Lib.hid hdiff
          clear hdiff
          clear hw1 hw2 han hT hA hne hsm
          rcases hfv : fitsB c l with _ | _
          · rw [hfv] at HFI
            clear hfv
            go_enter Tryz.func3, Tryz.ntmps3
            go_upto_region 1 with fail
            simp only [HW.out]
            go_wp2_with fail
            (with_reducible refine HFW.out.mono ?_)
            rintro e w2 ⟨rfl, hb2⟩
            have HB2 := Lib.hid (HB1.out.trans (hb2.mono HB1.out.size))
            have HX2 := Lib.hid (HX.out.below' hb2)
            clear hb2 e1
            have e1 : ∀ i, w2.cell? ⟨w.heap.size, i, none⟩ = (#[.string c.ware, .int .i64 c.limit, .int .i64 c.by_, .slice pa c.parts.length pc] : Array Value)[i]? := HX2.out.cell
            go_wp2_with fail
            (with_reducible refine (HW1.out _ (HP.out.below HB2.out)).mono ?_)
            rintro e w2 ⟨a3, n3, c3, rfl, hbn⟩
            have HX2 := Lib.hid (HX2.out.below' hbn)
            have HB2 := Lib.hid (HB2.out.trans (hbn.mono HB2.out.size))
            clear hbn
            try clear e1
            have e1 : ∀ i, w2.cell? ⟨w.heap.size, i, none⟩ = (#[.string c.ware, .int .i64 c.limit, .int .i64 c.by_, .slice pa c.parts.length pc] : Array Value)[i]? := HX2.out.cell
            go_wp2_with fail
            (with_reducible refine (HW2.out _ (HP.out.below HB2.out)).mono ?_)
            rintro e w2 ⟨a4, n4, c4, rfl, hbn⟩
            have HX2 := Lib.hid (HX2.out.below' hbn)
            have HB2 := Lib.hid (HB2.out.trans (hbn.mono HB2.out.size))
            clear hbn
            try clear e1
            have e1 : ∀ i, w2.cell? ⟨w.heap.size, i, none⟩ = (#[.string c.ware, .int .i64 c.limit, .int .i64 c.by_, .slice pa c.parts.length pc] : Array Value)[i]? := HX2.out.cell
            go_wp2_with fail
            (with_reducible refine (HAN.out _ (HP.out.below HB2.out)).mono ?_)
            rintro e w2 ⟨rfl, hbn⟩
            have HX2 := Lib.hid (HX2.out.below' hbn)
            have HB2 := Lib.hid (HB2.out.trans (hbn.mono HB2.out.size))
            clear hbn
            try clear e1
            have e1 : ∀ i, w2.cell? ⟨w.heap.size, i, none⟩ = (#[.string c.ware, .int .i64 c.limit, .int .i64 c.by_, .slice pa c.parts.length pc] : Array Value)[i]? := HX2.out.cell
            go_wp2_with fail
            (with_reducible refine (HFI.out _ (HP.out.below HB2.out) (HI.out.below HB2.out)).mono ?_)
            rintro e w2 ⟨rfl, hbn⟩
            have HX2 := Lib.hid (HX2.out.below' hbn)
            have HB2 := Lib.hid (HB2.out.trans (hbn.mono HB2.out.size))
            clear hbn
            try clear e1
            go_wp2_with fail
            refine wp_region_heldB 24 [] (by kernel_rfl) (by kernel_rfl) (by kernel_rfl) (by simp) ?_
            intro S hS
            have K0 := Lib.hid (fun W (_ : S W) => trivial)
            have HS := Lib.hid hS
            clear hS
            simp only [List.take_succ_cons, List.take_zero, List.drop_succ_cons, List.drop_zero]
            repeat (first
              | (refine held_not rfl (by rfl) ?_; try (dsimp only); try simp only [Act.put, List.setIfInBounds_toArray, List.set_cons_zero, List.set_cons_succ])
              | (refine held_val (v := ?_) rfl (by rfl) ?_ ?_; rotate_left; (· (intro W hW; go_simp; try with_reducible rfl)); try (dsimp only); try simp only [Act.put, List.setIfInBounds_toArray, List.set_cons_zero, List.set_cons_succ])
              | (refine held_skip rfl (by rfl) ?_ ?_; (· (intro W hW; go_simp; try with_reducible rfl)); try (dsimp only); try simp only [Act.put, List.setIfInBounds_toArray, List.set_cons_zero, List.set_cons_succ])
              | (refine held_call (v := .bool true) (f := 14) (args := #[]) rfl (by rfl) ?_ ?_ ?_; (· (intro W hW; go_simp; done)); (· exact (fun W _ => HAL.out W)); try (dsimp only); try simp only [Act.put, List.setIfInBounds_toArray, List.set_cons_zero, List.set_cons_succ]))
            refine held_nil ?_
            intro τ hτ wn hW hO
            obtain rfl := laid0 hτ
            have HBW := Lib.hid (HS.out wn hW)
            clear hτ hO hW K0 HS
            simp only [overs, List.foldl_nil]
            go_wp2_with fail
            go_ret
            exact ⟨rfl, HB2.out.trans (HBW.out.mono HB2.out.size)⟩
          · rw [hfv] at HFI
            obtain ⟨r, hr, hlr, hlen⟩ := fits_len hfv
            have huv := HD.out r hr
            have hla : (a : Int) < (l.length : Int) := by omega
            have hlb : (b : Int) < (l.length : Int) := by omega
            have hga : l[a]? = some (nth r a : Int) := by rw [hlr, natInts, List.getElem?_map, List.getElem?_eq_getElem (by rw [hr.len]; exact ha), nth_get (by rw [hr.len]; exact ha)]; rfl
            have hgb : l[b]? = some (nth r b : Int) := by rw [hlr, natInts, List.getElem?_map, List.getElem?_eq_getElem (by rw [hr.len]; exact hb), nth_get (by rw [hr.len]; exact hb)]; rfl
            generalize nth r a = u at *
            generalize nth r b = v at *
            have HG := Lib.hid (And.intro hga hgb)
            clear hfv hr hlr hlen hga hgb HD
            go_enter Tryz.func3, Tryz.ntmps3
            go_upto_region 1 with fail
            simp only [HW.out]
            go_wp2_with fail
            (with_reducible refine HFW.out.mono ?_)
            rintro e w2 ⟨rfl, hb2⟩
            have HB2 := Lib.hid (HB1.out.trans (hb2.mono HB1.out.size))
            have HX2 := Lib.hid (HX.out.below' hb2)
            clear hb2 e1
            have e1 : ∀ i, w2.cell? ⟨w.heap.size, i, none⟩ = (#[.string c.ware, .int .i64 c.limit, .int .i64 c.by_, .slice pa c.parts.length pc] : Array Value)[i]? := HX2.out.cell
            go_wp2_with fail
            (with_reducible refine (HW1.out _ (HP.out.below HB2.out)).mono ?_)
            rintro e w2 ⟨a3, n3, c3, rfl, hbn⟩
            have HX2 := Lib.hid (HX2.out.below' hbn)
            have HB2 := Lib.hid (HB2.out.trans (hbn.mono HB2.out.size))
            clear hbn
            try clear e1
            have e1 : ∀ i, w2.cell? ⟨w.heap.size, i, none⟩ = (#[.string c.ware, .int .i64 c.limit, .int .i64 c.by_, .slice pa c.parts.length pc] : Array Value)[i]? := HX2.out.cell
            go_wp2_with fail
            (with_reducible refine (HW2.out _ (HP.out.below HB2.out)).mono ?_)
            rintro e w2 ⟨a4, n4, c4, rfl, hbn⟩
            have HX2 := Lib.hid (HX2.out.below' hbn)
            have HB2 := Lib.hid (HB2.out.trans (hbn.mono HB2.out.size))
            clear hbn
            try clear e1
            have e1 : ∀ i, w2.cell? ⟨w.heap.size, i, none⟩ = (#[.string c.ware, .int .i64 c.limit, .int .i64 c.by_, .slice pa c.parts.length pc] : Array Value)[i]? := HX2.out.cell
            go_wp2_with fail
            (with_reducible refine (HAN.out _ (HP.out.below HB2.out)).mono ?_)
            rintro e w2 ⟨rfl, hbn⟩
            have HX2 := Lib.hid (HX2.out.below' hbn)
            have HB2 := Lib.hid (HB2.out.trans (hbn.mono HB2.out.size))
            clear hbn
            try clear e1
            have e1 : ∀ i, w2.cell? ⟨w.heap.size, i, none⟩ = (#[.string c.ware, .int .i64 c.limit, .int .i64 c.by_, .slice pa c.parts.length pc] : Array Value)[i]? := HX2.out.cell
            go_wp2_with fail
            (with_reducible refine (HFI.out _ (HP.out.below HB2.out) (HI.out.below HB2.out)).mono ?_)
            rintro e w2 ⟨rfl, hbn⟩
            have HX2 := Lib.hid (HX2.out.below' hbn)
            have HB2 := Lib.hid (HB2.out.trans (hbn.mono HB2.out.size))
            clear hbn
            try clear e1
            obtain ⟨nb, no, hna, hcell⟩ := (HI.out.below HB2.out).base (by omega)
            subst hna
            have HC1 := Lib.hid (And.intro (hcell a _ HG.out.1) (hcell b _ HG.out.2))
            clear hcell
            go_wp2_with fail
            refine wp_region_heldB 24 [] (by kernel_rfl) (by kernel_rfl) (by kernel_rfl) (by simp) ?_
            intro S hS
            have k0 : ∀ W, S W → W.cell? ⟨nb, no + a, none⟩ = some (.int .i64 u) ∧ W.cell? ⟨nb, no + b, none⟩ = some (.int .i64 v) := fun W h => ⟨below_cell (hS W h) (HC1.out.1), below_cell (hS W h) HC1.out.2⟩
            have K0 := Lib.hid k0
            have HS := Lib.hid hS
            clear k0 hS
            simp only [List.take_succ_cons, List.take_zero, List.drop_succ_cons, List.drop_zero]
            repeat (first
              | (refine held_not rfl (by rfl) ?_; try (dsimp only); try simp only [Act.put, List.setIfInBounds_toArray, List.set_cons_zero, List.set_cons_succ])
              | (refine held_val (v := ?_) rfl (by rfl) ?_ ?_; rotate_left; (· (intro W hW; obtain ⟨q0, q1⟩ := K0.out W hW; go_simp; try with_reducible rfl)); try (dsimp only); try simp only [Act.put, List.setIfInBounds_toArray, List.set_cons_zero, List.set_cons_succ])
              | (refine held_skip rfl (by rfl) ?_ ?_; (· (intro W hW; obtain ⟨q0, q1⟩ := K0.out W hW; go_simp; try with_reducible rfl)); try (dsimp only); try simp only [Act.put, List.setIfInBounds_toArray, List.set_cons_zero, List.set_cons_succ])
              | (refine held_call (v := .bool true) (f := 14) (args := #[]) rfl (by rfl) ?_ ?_ ?_; (· (intro W hW; go_simp; done)); (· exact (fun W _ => HAL.out W)); try (dsimp only); try simp only [Act.put, List.setIfInBounds_toArray, List.set_cons_zero, List.set_cons_succ]))
            refine held_nil ?_
            intro τ hτ wn hW hO
            obtain rfl := laid0 hτ
            have HBW := Lib.hid (HS.out wn hW)
            clear hτ hO hW K0 HS
            simp only [overs, List.foldl_nil]
            go_wp2_with fail
            go_ret
            exact ⟨rfl, HB2.out.trans (HBW.out.mono HB2.out.size)⟩
        · have hne := some_full ha hb (.inl hT)
          have hdiff : ∀ r, Reas c r → ((nth r a : Int) == (nth r b : Int)) = true := fun r hr => by
            have h1 : nth r a = nth r b := Classical.byContradiction fun e => by have := (apt_iff ha hb).2 ⟨r, hr, e⟩; rw [hA] at this; cases this
            simp [h1]
          rw [hT] at hw1
          rw [hA] at hw2
          rw [hne, hA] at han
          simp only [if_true, Bool.false_eq_true, if_false] at han
          have HW1 := Lib.hid hw1
          have HW2 := Lib.hid hw2
          have HAN := Lib.hid han
          have HD := Lib.hid hdiff
          clear hdiff
          clear hw1 hw2 han hT hA hne hsm
          rcases hfv : fitsB c l with _ | _
          · rw [hfv] at HFI
            clear hfv
            go_enter Tryz.func3, Tryz.ntmps3
            go_upto_region 1 with fail
            simp only [HW.out]
            go_wp2_with fail
            (with_reducible refine HFW.out.mono ?_)
            rintro e w2 ⟨rfl, hb2⟩
            have HB2 := Lib.hid (HB1.out.trans (hb2.mono HB1.out.size))
            have HX2 := Lib.hid (HX.out.below' hb2)
            clear hb2 e1
            have e1 : ∀ i, w2.cell? ⟨w.heap.size, i, none⟩ = (#[.string c.ware, .int .i64 c.limit, .int .i64 c.by_, .slice pa c.parts.length pc] : Array Value)[i]? := HX2.out.cell
            go_wp2_with fail
            (with_reducible refine (HW1.out _ (HP.out.below HB2.out)).mono ?_)
            rintro e w2 ⟨a3, n3, c3, rfl, hbn⟩
            have HX2 := Lib.hid (HX2.out.below' hbn)
            have HB2 := Lib.hid (HB2.out.trans (hbn.mono HB2.out.size))
            clear hbn
            try clear e1
            have e1 : ∀ i, w2.cell? ⟨w.heap.size, i, none⟩ = (#[.string c.ware, .int .i64 c.limit, .int .i64 c.by_, .slice pa c.parts.length pc] : Array Value)[i]? := HX2.out.cell
            go_wp2_with fail
            (with_reducible refine (HW2.out _ (HP.out.below HB2.out)).mono ?_)
            rintro e w2 ⟨a4, n4, c4, rfl, hbn⟩
            have HX2 := Lib.hid (HX2.out.below' hbn)
            have HB2 := Lib.hid (HB2.out.trans (hbn.mono HB2.out.size))
            clear hbn
            try clear e1
            have e1 : ∀ i, w2.cell? ⟨w.heap.size, i, none⟩ = (#[.string c.ware, .int .i64 c.limit, .int .i64 c.by_, .slice pa c.parts.length pc] : Array Value)[i]? := HX2.out.cell
            go_wp2_with fail
            (with_reducible refine (HAN.out _ (HP.out.below HB2.out)).mono ?_)
            rintro e w2 ⟨rfl, hbn⟩
            have HX2 := Lib.hid (HX2.out.below' hbn)
            have HB2 := Lib.hid (HB2.out.trans (hbn.mono HB2.out.size))
            clear hbn
            try clear e1
            have e1 : ∀ i, w2.cell? ⟨w.heap.size, i, none⟩ = (#[.string c.ware, .int .i64 c.limit, .int .i64 c.by_, .slice pa c.parts.length pc] : Array Value)[i]? := HX2.out.cell
            go_wp2_with fail
            (with_reducible refine (HFI.out _ (HP.out.below HB2.out) (HI.out.below HB2.out)).mono ?_)
            rintro e w2 ⟨rfl, hbn⟩
            have HX2 := Lib.hid (HX2.out.below' hbn)
            have HB2 := Lib.hid (HB2.out.trans (hbn.mono HB2.out.size))
            clear hbn
            try clear e1
            go_wp2_with fail
            refine wp_region_heldB 24 [] (by kernel_rfl) (by kernel_rfl) (by kernel_rfl) (by simp) ?_
            intro S hS
            have K0 := Lib.hid (fun W (_ : S W) => trivial)
            have HS := Lib.hid hS
            clear hS
            simp only [List.take_succ_cons, List.take_zero, List.drop_succ_cons, List.drop_zero]
            repeat (first
              | (refine held_not rfl (by rfl) ?_; try (dsimp only); try simp only [Act.put, List.setIfInBounds_toArray, List.set_cons_zero, List.set_cons_succ])
              | (refine held_val (v := ?_) rfl (by rfl) ?_ ?_; rotate_left; (· (intro W hW; go_simp; try with_reducible rfl)); try (dsimp only); try simp only [Act.put, List.setIfInBounds_toArray, List.set_cons_zero, List.set_cons_succ])
              | (refine held_skip rfl (by rfl) ?_ ?_; (· (intro W hW; go_simp; try with_reducible rfl)); try (dsimp only); try simp only [Act.put, List.setIfInBounds_toArray, List.set_cons_zero, List.set_cons_succ])
              | (refine held_call (v := .bool true) (f := 14) (args := #[]) rfl (by rfl) ?_ ?_ ?_; (· (intro W hW; go_simp; done)); (· exact (fun W _ => HAL.out W)); try (dsimp only); try simp only [Act.put, List.setIfInBounds_toArray, List.set_cons_zero, List.set_cons_succ]))
            refine held_nil ?_
            intro τ hτ wn hW hO
            obtain rfl := laid0 hτ
            have HBW := Lib.hid (HS.out wn hW)
            clear hτ hO hW K0 HS
            simp only [overs, List.foldl_nil]
            go_wp2_with fail
            go_ret
            exact ⟨rfl, HB2.out.trans (HBW.out.mono HB2.out.size)⟩
          · rw [hfv] at HFI
            obtain ⟨r, hr, hlr, hlen⟩ := fits_len hfv
            have huv := HD.out r hr
            have hla : (a : Int) < (l.length : Int) := by omega
            have hlb : (b : Int) < (l.length : Int) := by omega
            have hga : l[a]? = some (nth r a : Int) := by rw [hlr, natInts, List.getElem?_map, List.getElem?_eq_getElem (by rw [hr.len]; exact ha), nth_get (by rw [hr.len]; exact ha)]; rfl
            have hgb : l[b]? = some (nth r b : Int) := by rw [hlr, natInts, List.getElem?_map, List.getElem?_eq_getElem (by rw [hr.len]; exact hb), nth_get (by rw [hr.len]; exact hb)]; rfl
            generalize nth r a = u at *
            generalize nth r b = v at *
            have HG := Lib.hid (And.intro hga hgb)
            clear hfv hr hlr hlen hga hgb HD
            go_enter Tryz.func3, Tryz.ntmps3
            go_upto_region 1 with fail
            simp only [HW.out]
            go_wp2_with fail
            (with_reducible refine HFW.out.mono ?_)
            rintro e w2 ⟨rfl, hb2⟩
            have HB2 := Lib.hid (HB1.out.trans (hb2.mono HB1.out.size))
            have HX2 := Lib.hid (HX.out.below' hb2)
            clear hb2 e1
            have e1 : ∀ i, w2.cell? ⟨w.heap.size, i, none⟩ = (#[.string c.ware, .int .i64 c.limit, .int .i64 c.by_, .slice pa c.parts.length pc] : Array Value)[i]? := HX2.out.cell
            go_wp2_with fail
            (with_reducible refine (HW1.out _ (HP.out.below HB2.out)).mono ?_)
            rintro e w2 ⟨a3, n3, c3, rfl, hbn⟩
            have HX2 := Lib.hid (HX2.out.below' hbn)
            have HB2 := Lib.hid (HB2.out.trans (hbn.mono HB2.out.size))
            clear hbn
            try clear e1
            have e1 : ∀ i, w2.cell? ⟨w.heap.size, i, none⟩ = (#[.string c.ware, .int .i64 c.limit, .int .i64 c.by_, .slice pa c.parts.length pc] : Array Value)[i]? := HX2.out.cell
            go_wp2_with fail
            (with_reducible refine (HW2.out _ (HP.out.below HB2.out)).mono ?_)
            rintro e w2 ⟨a4, n4, c4, rfl, hbn⟩
            have HX2 := Lib.hid (HX2.out.below' hbn)
            have HB2 := Lib.hid (HB2.out.trans (hbn.mono HB2.out.size))
            clear hbn
            try clear e1
            have e1 : ∀ i, w2.cell? ⟨w.heap.size, i, none⟩ = (#[.string c.ware, .int .i64 c.limit, .int .i64 c.by_, .slice pa c.parts.length pc] : Array Value)[i]? := HX2.out.cell
            go_wp2_with fail
            (with_reducible refine (HAN.out _ (HP.out.below HB2.out)).mono ?_)
            rintro e w2 ⟨rfl, hbn⟩
            have HX2 := Lib.hid (HX2.out.below' hbn)
            have HB2 := Lib.hid (HB2.out.trans (hbn.mono HB2.out.size))
            clear hbn
            try clear e1
            have e1 : ∀ i, w2.cell? ⟨w.heap.size, i, none⟩ = (#[.string c.ware, .int .i64 c.limit, .int .i64 c.by_, .slice pa c.parts.length pc] : Array Value)[i]? := HX2.out.cell
            go_wp2_with fail
            (with_reducible refine (HFI.out _ (HP.out.below HB2.out) (HI.out.below HB2.out)).mono ?_)
            rintro e w2 ⟨rfl, hbn⟩
            have HX2 := Lib.hid (HX2.out.below' hbn)
            have HB2 := Lib.hid (HB2.out.trans (hbn.mono HB2.out.size))
            clear hbn
            try clear e1
            obtain ⟨nb, no, hna, hcell⟩ := (HI.out.below HB2.out).base (by omega)
            subst hna
            have HC1 := Lib.hid (And.intro (hcell a _ HG.out.1) (hcell b _ HG.out.2))
            clear hcell
            go_wp2_with fail
            refine wp_region_heldB 24 [] (by kernel_rfl) (by kernel_rfl) (by kernel_rfl) (by simp) ?_
            intro S hS
            have k0 : ∀ W, S W → W.cell? ⟨nb, no + a, none⟩ = some (.int .i64 u) ∧ W.cell? ⟨nb, no + b, none⟩ = some (.int .i64 v) := fun W h => ⟨below_cell (hS W h) (HC1.out.1), below_cell (hS W h) HC1.out.2⟩
            have K0 := Lib.hid k0
            have HS := Lib.hid hS
            clear k0 hS
            simp only [List.take_succ_cons, List.take_zero, List.drop_succ_cons, List.drop_zero]
            repeat (first
              | (refine held_not rfl (by rfl) ?_; try (dsimp only); try simp only [Act.put, List.setIfInBounds_toArray, List.set_cons_zero, List.set_cons_succ])
              | (refine held_val (v := ?_) rfl (by rfl) ?_ ?_; rotate_left; (· (intro W hW; obtain ⟨q0, q1⟩ := K0.out W hW; go_simp; try with_reducible rfl)); try (dsimp only); try simp only [Act.put, List.setIfInBounds_toArray, List.set_cons_zero, List.set_cons_succ])
              | (refine held_skip rfl (by rfl) ?_ ?_; (· (intro W hW; obtain ⟨q0, q1⟩ := K0.out W hW; go_simp; try with_reducible rfl)); try (dsimp only); try simp only [Act.put, List.setIfInBounds_toArray, List.set_cons_zero, List.set_cons_succ])
              | (refine held_call (v := .bool true) (f := 14) (args := #[]) rfl (by rfl) ?_ ?_ ?_; (· (intro W hW; go_simp; done)); (· exact (fun W _ => HAL.out W)); try (dsimp only); try simp only [Act.put, List.setIfInBounds_toArray, List.set_cons_zero, List.set_cons_succ]))
            refine held_nil ?_
            intro τ hτ wn hW hO
            obtain rfl := laid0 hτ
            have HBW := Lib.hid (HS.out wn hW)
            clear hτ hO hW K0 HS
            simp only [overs, List.foldl_nil]
            go_wp2_with fail
            go_ret
            exact ⟨rfl, HB2.out.trans (HBW.out.mono HB2.out.size)⟩
        · have hne := some_full ha hb (.inl hT)
          rw [hT] at hw1
          rw [hA] at hw2
          rw [hne, hT, hA] at han
          simp only [if_true, Bool.false_eq_true, if_false] at han
          have HW1 := Lib.hid hw1
          have HW2 := Lib.hid hw2
          have HAN := Lib.hid han
          clear hw1 hw2 han hT hA hne hsm
          rcases hfv : fitsB c l with _ | _
          · rw [hfv] at HFI
            clear hfv
            go_enter Tryz.func3, Tryz.ntmps3
            go_upto_region 1 with fail
            simp only [HW.out]
            go_wp2_with fail
            (with_reducible refine HFW.out.mono ?_)
            rintro e w2 ⟨rfl, hb2⟩
            have HB2 := Lib.hid (HB1.out.trans (hb2.mono HB1.out.size))
            have HX2 := Lib.hid (HX.out.below' hb2)
            clear hb2 e1
            have e1 : ∀ i, w2.cell? ⟨w.heap.size, i, none⟩ = (#[.string c.ware, .int .i64 c.limit, .int .i64 c.by_, .slice pa c.parts.length pc] : Array Value)[i]? := HX2.out.cell
            go_wp2_with fail
            (with_reducible refine (HW1.out _ (HP.out.below HB2.out)).mono ?_)
            rintro e w2 ⟨a3, n3, c3, rfl, hbn⟩
            have HX2 := Lib.hid (HX2.out.below' hbn)
            have HB2 := Lib.hid (HB2.out.trans (hbn.mono HB2.out.size))
            clear hbn
            try clear e1
            have e1 : ∀ i, w2.cell? ⟨w.heap.size, i, none⟩ = (#[.string c.ware, .int .i64 c.limit, .int .i64 c.by_, .slice pa c.parts.length pc] : Array Value)[i]? := HX2.out.cell
            go_wp2_with fail
            (with_reducible refine (HW2.out _ (HP.out.below HB2.out)).mono ?_)
            rintro e w2 ⟨a4, n4, c4, rfl, hbn⟩
            have HX2 := Lib.hid (HX2.out.below' hbn)
            have HB2 := Lib.hid (HB2.out.trans (hbn.mono HB2.out.size))
            clear hbn
            try clear e1
            have e1 : ∀ i, w2.cell? ⟨w.heap.size, i, none⟩ = (#[.string c.ware, .int .i64 c.limit, .int .i64 c.by_, .slice pa c.parts.length pc] : Array Value)[i]? := HX2.out.cell
            go_wp2_with fail
            (with_reducible refine (HAN.out _ (HP.out.below HB2.out)).mono ?_)
            rintro e w2 ⟨rfl, hbn⟩
            have HX2 := Lib.hid (HX2.out.below' hbn)
            have HB2 := Lib.hid (HB2.out.trans (hbn.mono HB2.out.size))
            clear hbn
            try clear e1
            have e1 : ∀ i, w2.cell? ⟨w.heap.size, i, none⟩ = (#[.string c.ware, .int .i64 c.limit, .int .i64 c.by_, .slice pa c.parts.length pc] : Array Value)[i]? := HX2.out.cell
            go_wp2_with fail
            (with_reducible refine (HFI.out _ (HP.out.below HB2.out) (HI.out.below HB2.out)).mono ?_)
            rintro e w2 ⟨rfl, hbn⟩
            have HX2 := Lib.hid (HX2.out.below' hbn)
            have HB2 := Lib.hid (HB2.out.trans (hbn.mono HB2.out.size))
            clear hbn
            try clear e1
            go_wp2_with fail
            refine wp_region_heldB 24 [] (by kernel_rfl) (by kernel_rfl) (by kernel_rfl) (by simp) ?_
            intro S hS
            have K0 := Lib.hid (fun W (_ : S W) => trivial)
            have HS := Lib.hid hS
            clear hS
            simp only [List.take_succ_cons, List.take_zero, List.drop_succ_cons, List.drop_zero]
            repeat (first
              | (refine held_not rfl (by rfl) ?_; try (dsimp only); try simp only [Act.put, List.setIfInBounds_toArray, List.set_cons_zero, List.set_cons_succ])
              | (refine held_val (v := ?_) rfl (by rfl) ?_ ?_; rotate_left; (· (intro W hW; go_simp; try with_reducible rfl)); try (dsimp only); try simp only [Act.put, List.setIfInBounds_toArray, List.set_cons_zero, List.set_cons_succ])
              | (refine held_skip rfl (by rfl) ?_ ?_; (· (intro W hW; go_simp; try with_reducible rfl)); try (dsimp only); try simp only [Act.put, List.setIfInBounds_toArray, List.set_cons_zero, List.set_cons_succ])
              | (refine held_call (v := .bool true) (f := 14) (args := #[]) rfl (by rfl) ?_ ?_ ?_; (· (intro W hW; go_simp; done)); (· exact (fun W _ => HAL.out W)); try (dsimp only); try simp only [Act.put, List.setIfInBounds_toArray, List.set_cons_zero, List.set_cons_succ]))
            refine held_nil ?_
            intro τ hτ wn hW hO
            obtain rfl := laid0 hτ
            have HBW := Lib.hid (HS.out wn hW)
            clear hτ hO hW K0 HS
            simp only [overs, List.foldl_nil]
            go_wp2_with fail
            go_ret
            exact ⟨rfl, HB2.out.trans (HBW.out.mono HB2.out.size)⟩
          · rw [hfv] at HFI
            clear hfv
            go_enter Tryz.func3, Tryz.ntmps3
            go_upto_region 1 with fail
            simp only [HW.out]
            go_wp2_with fail
            (with_reducible refine HFW.out.mono ?_)
            rintro e w2 ⟨rfl, hb2⟩
            have HB2 := Lib.hid (HB1.out.trans (hb2.mono HB1.out.size))
            have HX2 := Lib.hid (HX.out.below' hb2)
            clear hb2 e1
            have e1 : ∀ i, w2.cell? ⟨w.heap.size, i, none⟩ = (#[.string c.ware, .int .i64 c.limit, .int .i64 c.by_, .slice pa c.parts.length pc] : Array Value)[i]? := HX2.out.cell
            go_wp2_with fail
            (with_reducible refine (HW1.out _ (HP.out.below HB2.out)).mono ?_)
            rintro e w2 ⟨a3, n3, c3, rfl, hbn⟩
            have HX2 := Lib.hid (HX2.out.below' hbn)
            have HB2 := Lib.hid (HB2.out.trans (hbn.mono HB2.out.size))
            clear hbn
            try clear e1
            have e1 : ∀ i, w2.cell? ⟨w.heap.size, i, none⟩ = (#[.string c.ware, .int .i64 c.limit, .int .i64 c.by_, .slice pa c.parts.length pc] : Array Value)[i]? := HX2.out.cell
            go_wp2_with fail
            (with_reducible refine (HW2.out _ (HP.out.below HB2.out)).mono ?_)
            rintro e w2 ⟨a4, n4, c4, rfl, hbn⟩
            have HX2 := Lib.hid (HX2.out.below' hbn)
            have HB2 := Lib.hid (HB2.out.trans (hbn.mono HB2.out.size))
            clear hbn
            try clear e1
            have e1 : ∀ i, w2.cell? ⟨w.heap.size, i, none⟩ = (#[.string c.ware, .int .i64 c.limit, .int .i64 c.by_, .slice pa c.parts.length pc] : Array Value)[i]? := HX2.out.cell
            go_wp2_with fail
            (with_reducible refine (HAN.out _ (HP.out.below HB2.out)).mono ?_)
            rintro e w2 ⟨rfl, hbn⟩
            have HX2 := Lib.hid (HX2.out.below' hbn)
            have HB2 := Lib.hid (HB2.out.trans (hbn.mono HB2.out.size))
            clear hbn
            try clear e1
            have e1 : ∀ i, w2.cell? ⟨w.heap.size, i, none⟩ = (#[.string c.ware, .int .i64 c.limit, .int .i64 c.by_, .slice pa c.parts.length pc] : Array Value)[i]? := HX2.out.cell
            go_wp2_with fail
            (with_reducible refine (HFI.out _ (HP.out.below HB2.out) (HI.out.below HB2.out)).mono ?_)
            rintro e w2 ⟨rfl, hbn⟩
            have HX2 := Lib.hid (HX2.out.below' hbn)
            have HB2 := Lib.hid (HB2.out.trans (hbn.mono HB2.out.size))
            clear hbn
            try clear e1
            go_wp2_with fail
            refine wp_region_heldB 24 [] (by kernel_rfl) (by kernel_rfl) (by kernel_rfl) (by simp) ?_
            intro S hS
            have K0 := Lib.hid (fun W (_ : S W) => trivial)
            have HS := Lib.hid hS
            clear hS
            simp only [List.take_succ_cons, List.take_zero, List.drop_succ_cons, List.drop_zero]
            repeat (first
              | (refine held_not rfl (by rfl) ?_; try (dsimp only); try simp only [Act.put, List.setIfInBounds_toArray, List.set_cons_zero, List.set_cons_succ])
              | (refine held_val (v := ?_) rfl (by rfl) ?_ ?_; rotate_left; (· (intro W hW; go_simp; try with_reducible rfl)); try (dsimp only); try simp only [Act.put, List.setIfInBounds_toArray, List.set_cons_zero, List.set_cons_succ])
              | (refine held_skip rfl (by rfl) ?_ ?_; (· (intro W hW; go_simp; try with_reducible rfl)); try (dsimp only); try simp only [Act.put, List.setIfInBounds_toArray, List.set_cons_zero, List.set_cons_succ])
              | (refine held_call (v := .bool true) (f := 14) (args := #[]) rfl (by rfl) ?_ ?_ ?_; (· (intro W hW; go_simp; done)); (· exact (fun W _ => HAL.out W)); try (dsimp only); try simp only [Act.put, List.setIfInBounds_toArray, List.set_cons_zero, List.set_cons_succ]))
            refine held_nil ?_
            intro τ hτ wn hW hO
            obtain rfl := laid0 hτ
            have HBW := Lib.hid (HS.out wn hW)
            clear hτ hO hW K0 HS
            simp only [overs, List.foldl_nil]
            go_wp2_with fail
            go_ret
            exact ⟨rfl, HB2.out.trans (HBW.out.mono HB2.out.size)⟩
      · have hae := ask_eq hz
        have hzz : (openErr c [x, y] != 0) = true := by simpa using hz
        simp only [hz, seenB, if_false, Option.isSome_none] at hw1 hw2
        rw [hae, if_neg hz] at han
        have HW1 := Lib.hid hw1
        have HW2 := Lib.hid hw2
        have HAN := Lib.hid han
        clear hw1 hw2 han hae hz hsm
        generalize openErr c [x, y] = er at *
        go_enter Tryz.func3, Tryz.ntmps3
        go_upto_region 1 with fail
        simp only [HW.out]
        go_wp2_with fail
        (with_reducible refine HFW.out.mono ?_)
        rintro e w2 ⟨rfl, hb2⟩
        have HB2 := Lib.hid (HB1.out.trans (hb2.mono HB1.out.size))
        have HX2 := Lib.hid (HX.out.below' hb2)
        clear hb2 e1
        have e1 : ∀ i, w2.cell? ⟨w.heap.size, i, none⟩ = (#[.string c.ware, .int .i64 c.limit, .int .i64 c.by_, .slice pa c.parts.length pc] : Array Value)[i]? := HX2.out.cell
        go_wp2_with fail
        (with_reducible refine (HW1.out _ (HP.out.below HB2.out)).mono ?_)
        rintro e w2 ⟨a3, n3, c3, rfl, hbn⟩
        have HX2 := Lib.hid (HX2.out.below' hbn)
        have HB2 := Lib.hid (HB2.out.trans (hbn.mono HB2.out.size))
        clear hbn
        try clear e1
        have e1 : ∀ i, w2.cell? ⟨w.heap.size, i, none⟩ = (#[.string c.ware, .int .i64 c.limit, .int .i64 c.by_, .slice pa c.parts.length pc] : Array Value)[i]? := HX2.out.cell
        go_wp2_with fail
        (with_reducible refine (HW2.out _ (HP.out.below HB2.out)).mono ?_)
        rintro e w2 ⟨a4, n4, c4, rfl, hbn⟩
        have HX2 := Lib.hid (HX2.out.below' hbn)
        have HB2 := Lib.hid (HB2.out.trans (hbn.mono HB2.out.size))
        clear hbn
        try clear e1
        have e1 : ∀ i, w2.cell? ⟨w.heap.size, i, none⟩ = (#[.string c.ware, .int .i64 c.limit, .int .i64 c.by_, .slice pa c.parts.length pc] : Array Value)[i]? := HX2.out.cell
        go_wp2_with fail
        (with_reducible refine (HAN.out _ (HP.out.below HB2.out)).mono ?_)
        rintro e w2 ⟨rfl, hbn⟩
        have HX2 := Lib.hid (HX2.out.below' hbn)
        have HB2 := Lib.hid (HB2.out.trans (hbn.mono HB2.out.size))
        clear hbn
        try clear e1
        go_wp2_with fail
        (with_reducible refine (HAL.out _).mono ?_)
        rintro e w3 ⟨rfl, hb3⟩
        have HB3 := Lib.hid (HB2.out.trans (hb3.mono HB2.out.size))
        clear hb3
        go_wp2_with fail
        go_ret
        exact ⟨rfl, HB3.out⟩
end Go.Proofs.YtoaacllpegfcjaaGreat
namespace Go.Proofs.YtoaacllpegfcjaaGreat.SureCertainEnd
open Go.ChangeShapes Go.WideShapes Go.ChangeAt Go.RowKit

theorem own : ownKnob Tryz.prog.godebug = none := by kernel_rfl

set_option maxRecDepth 100000 in
theorem lifted (os : Os) (started : os.Started) (H : Type) (enc : TypeId × Value → H) :
    ReturnsInHanded {} Tryz.checked os 3 .any (Rows.sureCertainSpec.pre6 enc Tryz.prog Tryz.f3 Rows.sureCertainRow.domain false) (Rows.sureCertainSpec.post enc Tryz.prog Tryz.f3 false true false false) := by
  refine returnsInHanded_of_change (C := Tryz.checked) own started (by kernel_rfl) Tryz.func3
    (ChangeSpec.witness6 (enc := enc) (C := Tryz.checked) false ⟨#[], #[.agg #[.string ⟨#[]⟩, .int .i64 0, .int .i64 0, .slice none 0 0], .int .i64 0, .int .i64 0, .slice none 0 0], []⟩ 8 (by kernel_rfl) (by kernel_rfl) (by kernel_rfl) (by kernel_rfl)) ?_
  intro W base args ds gs before hval0 hW hcnd _
  have hval : ∀ (j : Nat) t v, Tryz.f3.params[j]? = some t → args[j]? = some v → Value.okWide Tryz.prog W .any base t v := hval0
  have hW' := hW
  obtain ⟨p, q, hA0, hV, rfl, hfz, hnd⟩ := hW
  have hA : DataW.TrodAll enc Tryz.prog W 0 (fun _ => true) true Tryz.f3.params.toList args.toList ds p := hA0
  rw [Tryz.params3] at hA hval
  obtain ⟨v0, vs0, d0, ds0, p0, q0, hargs, rfl, rfl, h0, r0⟩ := trodAll_cons hA
  obtain ⟨v1, vs1, d1, ds1, p1, q1, rfl, rfl, rfl, h1, r1⟩ := trodAll_cons r0
  obtain ⟨v2, vs2, d2, ds2, p2, q2, rfl, rfl, rfl, h2, r2⟩ := trodAll_cons r1
  obtain ⟨v3, vs3, d3, ds3, p3, q3, rfl, rfl, rfl, h3, r3⟩ := trodAll_cons r2
  obtain ⟨rfl, rfl, rfl⟩ := trodAll_nil r3
  obtain rfl : args = #[v0, v1, v2, v3] := by cases args; simp_all
  obtain ⟨rfl, rfl⟩ := trodVars_none hV
  obtain ⟨c0, pa0, pc0, rfl, hp0, hpc0, hfit0, hlw0⟩ := case_of (hval 0 _ v0 rfl rfl) h0
  obtain ⟨a1, rfl, rfl, rfl, w1⟩ := open_int Tryz.underlying3 (hval 1 _ v1 rfl rfl) h1
  obtain ⟨a2, rfl, rfl, rfl, w2⟩ := open_int Tryz.underlying3 (hval 2 _ v2 rfl rfl) h2
  obtain ⟨a3, l3, k3, rfl, hi3, hk3, hm3⟩ := ints_arg (hval 3 _ v3 rfl rfl) h3
  clear hA0 hval0
  refine (sureCertain_any c0 hfit0 pa0 pc0 hpc0 a1 w1 a2 w2 a3 l3 k3 hk3 hm3 W hp0 hi3).mono fun e W' ⟨he, hb⟩ => ?_
  subst he
  exact ⟨_, rfl, law_post rfl rfl (of_decide_eq_true (by kernel_rfl)) hW' rfl rfl rfl hb⟩

theorem over : Rows.sureCertainRow.holds Tryz.pinned (OpenSpec.ofChange Rows.sureCertainSpec) :=
  OpenClaim.holds_of_wide 3 Tryz.f3 rfl rfl rfl rfl rfl rfl rfl ⟨rfl, rfl, rfl, rfl, rfl⟩ rfl rfl rfl rfl rfl (by kernel_rfl) Tryz.func3 (by kernel_rfl)
    (of_decide_eq_true (by kernel_rfl)) (by unfold Func.isWrapper; first | (rw [if_pos (by decide +kernel)]; kernel_rfl) | (rw [if_neg (by decide +kernel)]; exact ⟨rfl, rfl⟩))
    (fun os started H enc _ => lifted os started H enc)

theorem proved : Rows.SureCertainSaid :=
  over
#print axioms proved
end Go.Proofs.YtoaacllpegfcjaaGreat.SureCertainEnd
