/- The reference's Reached. -/
import Derived.Test.YtpjcnkajimgagaaGreatMAnsR
import Derived.Test.YtpjcnkajimgagaaGreatMReachS
set_option linter.unusedSimpArgs false
set_option linter.unusedVariables false
namespace Go.Proofs.YtpjcnkajimgagaaGreat
open Go.RowKit
attribute [local go_sem] Oper.semAt_some

theorem app_pairR {base : Nat} {W : World} {v : Value} {k : Nat} {xs : List Value} (h : W.ownsRow base 71 2 v k xs) (hk : k + 1 ≤ 1000000) (hB : base ≤ W.heap.size) (x y : Nat) :
  ∃ v' U, (Builtin.append_ #[31, 31] 31 #[v, .slice (some ⟨W.heap.size, 0, none⟩) 1 1]).run Tryz.prog (W.alloc (.cells #[.int .i64 x, .int .i64 y] 71)) = .ok v' U ∧ U.ownsRow base 71 2 v' (k + 1) (xs ++ [.int .i64 x, .int .i64 y]) ∧ Below base W U := by
 obtain ⟨v', U, hrun, hown, hg, _⟩ := run_append_row (P := Tryz.prog) (W.alloc (.cells #[.int .i64 x, .int .i64 y] 71)) base 31 31 71 (.agg #[.int .i64 0, .int .i64 0]) 2 16 Tryz.underlying31 info_pair rfl (by omega)
  _ _ _ (ownsRow_keep h ((Keep.refl (fun _ => True) W).alloc (.cells #[.int .i64 x, .int .i64 y] 71)) (fun _ _ => trivial)) (some ⟨W.heap.size, 0, none⟩) 1 1 [.int .i64 x, .int .i64 y] rfl (pair_row _ _ _ _) (by intro u hu; simp at hu; rcases hu with rfl | rfl <;> rfl) (by omega) (by omega) (by simp; omega)
 exact ⟨v', U, hrun, hown, ((Below.refl _ W).alloc hB (.cells #[.int .i64 x, .int .i64 y] 71)).grown hg (by simp; omega) (fun j hj => (h.lt j hj).1)⟩
/-- the open pairs among some -/
theorem pairsTo_roomR {n x y : Nat} (h8 : n ≤ 8) (hx : x < n) (hy : y < n) : (pairsTo n x ++ rowTo x y).length ≤ 1000 := by
 have h1 := pairsTo_len n x
 have h2 : x * n ≤ 8 * 8 := Nat.mul_le_mul (by omega) h8
 rw [List.length_append]
 have h3 : (rowTo x y).length ≤ y := by simp [rowTo]
 omega
theorem pairCells_snocR (l : List (Nat × Nat)) (x y : Nat) : pairCells (l ++ [(x, y)]) = pairCells l ++ [.int .i64 x, .int .i64 y] := by simp [pairCells, List.flatMap_append]
theorem own_pairsR {base : Nat} {W : World} {v : Value} {l : List (Nat × Nat)} (h : W.ownsRow base 71 2 v l.length (pairCells l)) : OwnPairs base l W v := by
 obtain ⟨a, cap, hv, hr, _⟩ := ownsRow_own h
 exact ⟨a, cap, hv, hr⟩
/-- one answer, read -/
theorem gridR_at {T : TypeId} {B : Nat} {Q : Nat → Prop} {W : World} {a : Option Addr} {m cap : Nat} {c : Cs} (h : RowsG T B Q W (.slice a m cap) (ansRows c)) {i j : Nat} (hi : i < c.parts.length) (hj : j < c.parts.length) :
  ∃ b o b2 o2 rc, a = some ⟨b, o, none⟩ ∧ W.cell? ⟨b, o + i, none⟩ = some (.slice (some ⟨b2, o2, none⟩) c.parts.length rc) ∧ W.cell? ⟨b2, o2 + j, none⟩ = some (.int .u8 (ansAt c i j)) := by
 obtain ⟨a', cap', hv, hr⟩ := h.at_
 injection hv with h1 h2 h3
 obtain ⟨b, o, ra, rc, e1, e2, e3, _⟩ := hr i (ansRowTo c i c.parts.length) (by simp [ansRows, ansRowsTo, hi])
 obtain ⟨b2, o2, e4, e5⟩ := e3 j (.int .u8 (ansAt c i j)) (by simp [ansRowTo, hj])
 subst e4
 rw [ansRowTo_len] at e2
 exact ⟨b, o, b2, o2, rc, by rw [h1]; exact e1, e2, e5⟩
def reachIn (c d : Cs) (l : List (Nat × Nat)) : List (Nat × Nat) := l.filter (reachB c d)
theorem reachIn_yes {c d : Cs} {l : List (Nat × Nat)} {x y : Nat} (h : (ansAt c x y != ansAt d x y) = true) : reachIn c d (l ++ [(x, y)]) = reachIn c d l ++ [(x, y)] := by
 unfold reachIn
 rw [List.filter_append]
 simp only [List.filter_cons, reachB, h]
 simp
theorem reachIn_no {c d : Cs} {l : List (Nat × Nat)} {x y : Nat} (h : (ansAt c x y != ansAt d x y) = false) : reachIn c d (l ++ [(x, y)]) = reachIn c d l := by
 unfold reachIn
 rw [List.filter_append]
 simp only [List.filter_cons, reachB, h]
 simp
theorem reachIn_len {c d : Cs} {l : List (Nat × Nat)} : (reachIn c d l).length ≤ l.length := List.length_filter_le _ _
theorem ask_whole {c : Cs} (h : checkCase c = 0) (hz : askErr c [] ≠ 0) : askErr c [] = 61 := by
 have h0 : openErr c [] = 0 := by rw [open_nil]; exact h
 unfold askErr at hz ⊢
 rw [if_pos h0] at hz ⊢
 split
 ·rfl
 ·rename_i hh; rw [if_neg hh] at hz; exact absurd rfl hz
theorem rows_any {T : TypeId} {er : Int} {L : List (List Value)} {w : World} {e : Ending} {w' : World} (h : RowsPost T er L w e w') : ∃ a k cap, e = .returned (.tuple #[.slice a k cap, .int .i64 er]) ∧ Below w.heap.size w w' := by
 obtain ⟨hb, ⟨_, he⟩ | ⟨h0, v, he, hr⟩⟩ := h
 ·exact ⟨none, 0, 0, he, hb⟩
 ·obtain ⟨a, cap, rfl, _⟩ := hr.at_
  exact ⟨a, _, cap, by rw [h0]; exact he, hb⟩
theorem rows_good {er : Int} {c : Cs} {w : World} {e : Ending} {w' : World} (hz : er = 0) (h : RowsPost 100 er (ansRows c) w e w') : ∃ (a : Option Addr) (cap : Nat), e = Ending.returned (.tuple #[.slice a c.parts.length cap, .int .i64 0]) ∧ RowsG 100 w.heap.size (fun b => w.heap.size ≤ b) w' (.slice a c.parts.length cap) (ansRows c) ∧ Below w.heap.size w w' := by
 obtain ⟨hb, ⟨h, _⟩ | ⟨_, v, he, hr⟩⟩ := h
 ·exact absurd hz h
 ·obtain ⟨a, cap, rfl, _⟩ := hr.at_
  have hm : (ansRows c).length = c.parts.length := ansRowsTo_len _ _
  rw [hm] at he hr
  exact ⟨a, cap, he, hr, hb⟩
set_option maxRecDepth 100000 in
set_option maxHeartbeats 4000000 in
theorem reached_ref (c d : Cs) (hsm : c.Small) (hsd : d.Small) (pa : Option Addr) (pc : Nat) (qa : Option Addr) (qc : Nat) (w : World) (hp : PartsAt w pa c.parts) (hq : PartsAt w qa d.parts) :
  Calls Tryz.prog 13 #[.agg #[.string c.ware, .int .i64 c.limit, .int .i64 c.by_, .slice pa c.parts.length pc], .agg #[.string d.ware, .int .i64 d.limit, .int .i64 d.by_, .slice qa d.parts.length qc]] w (PairsPost (reachErr c d) (reachOf c d) w) := by
 obtain ⟨w2, hw2⟩ : ∃ w2, ((w.alloc (.cells #[.string c.ware, .int .i64 c.limit, .int .i64 c.by_, .slice pa c.parts.length pc] 24)).alloc (.cells #[.string d.ware, .int .i64 d.limit, .int .i64 d.by_, .slice qa d.parts.length qc] 24)) = w2 := ⟨_, rfl⟩
 have hB2 : Below w.heap.size w w2 := by rw [← hw2]; go_grown
 have b0 : Box w2 w.heap.size #[.string c.ware, .int .i64 c.limit, .int .i64 c.by_, .slice pa c.parts.length pc] 24 := by rw [← hw2]; exact (Box.new _ _ _).alloc _
 have b1 : Box w2 (w.heap.size + 1) #[.string d.ware, .int .i64 d.limit, .int .i64 d.by_, .slice qa d.parts.length qc] 24 := by rw [← hw2]; exact Box.new' (by simp)
 have HCC := Lib.hid (fun W (h : Below w.heap.size w W) => checkCase_ref c hsm pa pc W (hp.below h))
 have HCD := Lib.hid (fun W (h : Below w.heap.size w W) => checkCase_ref d hsd qa qc W (hq.below h))
 have HAC := Lib.hid (fun W (h : Below w.heap.size w W) => answers_ref c hsm pa pc W (hp.below h))
 have HAD := Lib.hid (fun W (h : Below w.heap.size w W) => answers_ref d hsd qa qc W (hq.below h))
 have HW := Lib.hid hw2
 have HBX := Lib.hid hB2
 have X0 := Lib.hid b0
 have X1 := Lib.hid b1
 clear hp hq b0 b1 hw2 hB2
 have hcE : reachErr c d = if checkCase c ≠ 0 then checkCase c else if checkCase d ≠ 0 then checkCase d else if c.parts.length ≠ d.parts.length then 1 else if askErr c [] ≠ 0 then askErr c [] else askErr d [] := rfl
 by_cases h1 : checkCase c = 0
 ·by_cases h2 : checkCase d = 0
  ·by_cases h3 : c.parts.length = d.parts.length
   ·have hlb : ((c.parts.length : Int) != (d.parts.length : Int)) = false := by simp; omega
    by_cases h4 : askErr c [] = 0
    ·by_cases h5 : askErr d [] = 0
     ·have HEE := Lib.hid (show reachErr c d = 0 by rw [hcE, if_neg (by simpa using h1), if_neg (by simpa using h2), if_neg (by simpa using h3), if_neg (by simpa using h4), h5])
      have h8 := check_small (ask_open h4)
      have H3 := Lib.hid h3
      have HAC := Lib.hid (fun W h => (HAC.out W h).mono (fun (e : Ending) (w' : World) hh => rows_good h4 hh))
      have HAD := Lib.hid (fun W h => (HAD.out W h).mono (fun (e : Ending) (w' : World) hh => rows_good h5 hh))
      rw [h1] at HCC
      rw [h2] at HCD
      clear h1 h2 h3 h4 h5 hcE
      go_enter Tryz.func13, Tryz.ntmps13
      go_upto_region 1 with fail
      simp only [HW.out]
      have e0 := X0.out.cell
      have e1 := X1.out.cell
      go_wp2_with fail
      (with_reducible refine (HCC.out _ HBX.out).mono ?_)
      rintro e w2 ⟨rfl, hb⟩
      have HBX := Lib.hid (HBX.out.trans (hb.mono HBX.out.size))
      have X0 := Lib.hid (X0.out.below' hb)
      have X1 := Lib.hid (X1.out.below' hb)
      try clear e0
      try clear e1
      clear hb
      have e0 := X0.out.cell
      have e1 := X1.out.cell
      go_wp2_with fail
      (with_reducible refine (HCD.out _ HBX.out).mono ?_)
      rintro e w2 ⟨rfl, hb⟩
      have HBX := Lib.hid (HBX.out.trans (hb.mono HBX.out.size))
      have X0 := Lib.hid (X0.out.below' hb)
      have X1 := Lib.hid (X1.out.below' hb)
      try clear e0
      try clear e1
      clear hb
      have e0 := X0.out.cell
      have e1 := X1.out.cell
      go_wp2_with fail
      (with_reducible refine (HAC.out _ HBX.out).mono ?_)
      rintro e w3 ⟨la, lc, rfl, hr, hb⟩
      have HBX := Lib.hid (HBX.out.trans (hb.mono HBX.out.size))
      have X0 := Lib.hid (X0.out.below' hb)
      have X1 := Lib.hid (X1.out.below' hb)
      try clear e0
      try clear e1
      have HR := Lib.hid hr
      clear hb hr
      have e0 := X0.out.cell
      have e1 := X1.out.cell
      go_wp2_with fail
      (with_reducible refine (HAD.out _ HBX.out).mono ?_)
      rintro e w3 ⟨ma, mc, rfl, hr, hb⟩
      have HBX := Lib.hid (HBX.out.trans (hb.mono HBX.out.size))
      have X0 := Lib.hid (X0.out.below' hb)
      have X1 := Lib.hid (X1.out.below' hb)
      try clear e0
      try clear e1
      have HR := Lib.hid (HR.out.below hb)
      have HS := Lib.hid hr
      have HW3 := Lib.hid HBX.out
      clear hb hr
      go_wp2_with fail
      go_loopw [12, 13] (fun ov iv wr => ∃ i : Nat, i ≤ c.parts.length ∧ iv = .int .i64 i ∧ wr.ownsRow w3.heap.size 71 2 ov (reachIn c d (pairsTo c.parts.length i)).length (pairCells (reachIn c d (pairsTo c.parts.length i))) ∧ Below w3.heap.size w3 wr) (fun _ iv _ => c.parts.length - (intOf iv).toNat)
      case atStart => exact ⟨0, Nat.zero_le _, rfl, ownsRow_nil _ _ _ _, Below.refl _ _⟩
      case round =>
       obtain ⟨i, hi, rfl, hown, hbw⟩ := hrel
       have HO := Lib.hid hown
       have HBW := Lib.hid hbw
       clear hown hbw
       by_cases hil : i < c.parts.length
       ·have hin : (i : Int) < (c.parts.length : Int) := by omega
        go_wp2_with fail
        go_loopw [12, 14] (fun ov jv wx => ∃ j : Nat, i + 1 ≤ j ∧ j ≤ c.parts.length ∧ jv = .int .i64 j ∧ wx.ownsRow w3.heap.size 71 2 ov (reachIn c d (pairsTo c.parts.length i ++ rowTo i j)).length (pairCells (reachIn c d (pairsTo c.parts.length i ++ rowTo i j))) ∧ Below w3.heap.size w3 wx) (fun _ jv _ => c.parts.length - (intOf jv).toNat)
        case atStart => exact ⟨i + 1, Nat.le_refl _, by omega, by go_num, by rw [rowTo_zero, List.append_nil]; exact HO.out, HBW.out⟩
        case round =>
         clear HO HBW
         obtain ⟨j, hij, hj, rfl, hown, hbw⟩ := hrel
         have HO := Lib.hid hown
         have HBW := Lib.hid hbw
         clear hown hbw
         by_cases hjl : j < c.parts.length
         ·have hjn : (j : Int) < (c.parts.length : Int) := by omega
          have hdn : (i : Int) < (d.parts.length : Int) := by have := H3.out; omega
          have hdj : (j : Int) < (d.parts.length : Int) := by have := H3.out; omega
          obtain ⟨b, o, b2, o2, rc, hla, c1, c2⟩ := gridR_at (HR.out.below HBW.out) hil hjl
          obtain ⟨g, p, g2, p2, rd, hma, d1, d2⟩ := gridR_at (HS.out.below HBW.out) (i := i) (j := j) (by have := H3.out; omega) (by have := H3.out; omega)
          subst hla hma
          have hroom := Nat.le_trans (reachIn_len (c := c) (d := d)) (pairsTo_roomR (y := j) h8 hil hjl)
          have k0 : ∀ A, Below wr.heap.size wr A → A.cell? ⟨b, o + i, none⟩ = some (.slice (some ⟨b2, o2, none⟩) c.parts.length rc) ∧ A.cell? ⟨b2, o2 + j, none⟩ = some (.int .u8 (ansAt c i j)) ∧ A.cell? ⟨g, p + i, none⟩ = some (.slice (some ⟨g2, p2, none⟩) d.parts.length rd) ∧ A.cell? ⟨g2, p2 + j, none⟩ = some (.int .u8 (ansAt d i j)) := fun A hA =>
           ⟨below_cell hA c1, below_cell hA c2, below_cell hA d1, below_cell hA d2⟩
          have K0 := Lib.hid k0
          clear k0 c1 c2 d1 d2
          go_upto_region 20 with fail
          refine wp_region_L (fun A => Below wr.heap.size wr A) 15 (by kernel_rfl) ?_
          have hSS : Below wr.heap.size wr wr.drew := (Below.refl _ wr).drew
          refine anyL_take (i := 0) (v := ?_) (by kernel_rfl) rfl (by kernel_rfl) (by kernel_rfl) (by kernel_rfl) (by kernel_rfl) (fun _ _ _ h => h) (by rfl) ?_ hSS ?_
          rotate_left
          ·(intro W hW; obtain ⟨q0, q1, q2, q3⟩ := K0.out W hW; go_simp; try with_reducible rfl)
          try (dsimp only); try simp only [Act.put, List.setIfInBounds_toArray, List.set_cons_zero, List.set_cons_succ]
          refine anyL_take (i := 1) (v := ?_) (by kernel_rfl) rfl (by kernel_rfl) (by kernel_rfl) (by kernel_rfl) (by kernel_rfl) (fun _ _ _ h => h) (by rfl) ?_ hSS ?_
          rotate_left
          ·(intro W hW; obtain ⟨q0, q1, q2, q3⟩ := K0.out W hW; go_simp; try with_reducible rfl)
          try (dsimp only); try simp only [Act.put, List.setIfInBounds_toArray, List.set_cons_zero, List.set_cons_succ]
          refine anyL_take (i := 2) (v := ?_) (by kernel_rfl) rfl (by kernel_rfl) (by kernel_rfl) (by kernel_rfl) (by kernel_rfl) (fun _ _ _ h => h) (by rfl) ?_ hSS ?_
          rotate_left
          ·(intro W hW; obtain ⟨q0, q1, q2, q3⟩ := K0.out W hW; go_simp; try with_reducible rfl)
          try (dsimp only); try simp only [Act.put, List.setIfInBounds_toArray, List.set_cons_zero, List.set_cons_succ]
          refine anyL_take (i := 3) (v := ?_) (by kernel_rfl) rfl (by kernel_rfl) (by kernel_rfl) (by kernel_rfl) (by kernel_rfl) (fun _ _ _ h => h) (by rfl) ?_ hSS ?_
          rotate_left
          ·(intro W hW; obtain ⟨q0, q1, q2, q3⟩ := K0.out W hW; go_simp; try with_reducible rfl)
          try (dsimp only); try simp only [Act.put, List.setIfInBounds_toArray, List.set_cons_zero, List.set_cons_succ]
          refine anyL_take (i := 4) (v := ?_) (by kernel_rfl) rfl (by kernel_rfl) (by kernel_rfl) (by kernel_rfl) (by kernel_rfl) (fun _ _ _ h => h) (by rfl) ?_ hSS ?_
          rotate_left
          ·(intro W hW; obtain ⟨q0, q1, q2, q3⟩ := K0.out W hW; go_simp; try with_reducible rfl)
          try (dsimp only); try simp only [Act.put, List.setIfInBounds_toArray, List.set_cons_zero, List.set_cons_succ]
          refine anyL_take (i := 5) (v := ?_) (by kernel_rfl) rfl (by kernel_rfl) (by kernel_rfl) (by kernel_rfl) (by kernel_rfl) (fun _ _ _ h => h) (by rfl) ?_ hSS ?_
          rotate_left
          ·(intro W hW; obtain ⟨q0, q1, q2, q3⟩ := K0.out W hW; go_simp; try with_reducible rfl)
          try (dsimp only); try simp only [Act.put, List.setIfInBounds_toArray, List.set_cons_zero, List.set_cons_succ]
          refine anyL_take (i := 6) (v := ?_) (by kernel_rfl) rfl (by kernel_rfl) (by kernel_rfl) (by kernel_rfl) (by kernel_rfl) (fun _ _ _ h => h) (by rfl) ?_ hSS ?_
          rotate_left
          ·(intro W hW; obtain ⟨q0, q1, q2, q3⟩ := K0.out W hW; go_simp; try with_reducible rfl)
          try (dsimp only); try simp only [Act.put, List.setIfInBounds_toArray, List.set_cons_zero, List.set_cons_succ]
          refine anyL_take (i := 7) (v := ?_) (by kernel_rfl) rfl (by kernel_rfl) (by kernel_rfl) (by kernel_rfl) (by kernel_rfl) (fun _ _ _ h => h) (by rfl) ?_ hSS ?_
          rotate_left
          ·(intro W hW; obtain ⟨q0, q1, q2, q3⟩ := K0.out W hW; go_simp; try with_reducible rfl)
          try (dsimp only); try simp only [Act.put, List.setIfInBounds_toArray, List.set_cons_zero, List.set_cons_succ]
          refine anyL_take (i := 8) (v := ?_) (by kernel_rfl) rfl (by kernel_rfl) (by kernel_rfl) (by kernel_rfl) (by kernel_rfl) (fun _ _ _ h => h) (by rfl) ?_ hSS ?_
          rotate_left
          ·(intro W hW; obtain ⟨q0, q1, q2, q3⟩ := K0.out W hW; go_simp; try with_reducible rfl)
          try (dsimp only); try simp only [Act.put, List.setIfInBounds_toArray, List.set_cons_zero, List.set_cons_succ]
          refine anyL_take (i := 9) (v := ?_) (by kernel_rfl) rfl (by kernel_rfl) (by kernel_rfl) (by kernel_rfl) (by kernel_rfl) (fun _ _ _ h => h) (by rfl) ?_ hSS ?_
          rotate_left
          ·(intro W hW; obtain ⟨q0, q1, q2, q3⟩ := K0.out W hW; go_simp; try with_reducible rfl)
          try (dsimp only); try simp only [Act.put, List.setIfInBounds_toArray, List.set_cons_zero, List.set_cons_succ]
          refine anyL_take (i := 10) (v := ?_) (by kernel_rfl) rfl (by kernel_rfl) (by kernel_rfl) (by kernel_rfl) (by kernel_rfl) (fun _ _ _ h => h) (by rfl) ?_ hSS ?_
          rotate_left
          ·(intro W hW; obtain ⟨q0, q1, q2, q3⟩ := K0.out W hW; go_simp; try with_reducible rfl)
          try (dsimp only); try simp only [Act.put, List.setIfInBounds_toArray, List.set_cons_zero, List.set_cons_succ]
          refine anyL_take (i := 11) (v := ?_) (by kernel_rfl) rfl (by kernel_rfl) (by kernel_rfl) (by kernel_rfl) (by kernel_rfl) (fun _ _ _ h => h) (by rfl) ?_ hSS ?_
          rotate_left
          ·(intro W hW; obtain ⟨q0, q1, q2, q3⟩ := K0.out W hW; go_simp; try with_reducible rfl)
          try (dsimp only); try simp only [Act.put, List.setIfInBounds_toArray, List.set_cons_zero, List.set_cons_succ]
          refine anyL_take (i := 12) (v := ?_) (by kernel_rfl) rfl (by kernel_rfl) (by kernel_rfl) (by kernel_rfl) (by kernel_rfl) (fun _ _ _ h => h) (by rfl) ?_ hSS ?_
          rotate_left
          ·(intro W hW; obtain ⟨q0, q1, q2, q3⟩ := K0.out W hW; go_simp; try with_reducible rfl)
          try (dsimp only); try simp only [Act.put, List.setIfInBounds_toArray, List.set_cons_zero, List.set_cons_succ]
          refine anyL_take (i := 13) (v := ?_) (by kernel_rfl) rfl (by kernel_rfl) (by kernel_rfl) (by kernel_rfl) (by kernel_rfl) (fun _ _ _ h => h) (by rfl) ?_ hSS ?_
          rotate_left
          ·(intro W hW; obtain ⟨q0, q1, q2, q3⟩ := K0.out W hW; go_simp; try with_reducible rfl)
          try (dsimp only); try simp only [Act.put, List.setIfInBounds_toArray, List.set_cons_zero, List.set_cons_succ]
          refine anyL_take (i := 14) (v := ?_) (by kernel_rfl) rfl (by kernel_rfl) (by kernel_rfl) (by kernel_rfl) (by kernel_rfl) (fun _ _ _ h => h) (by rfl) ?_ hSS ?_
          rotate_left
          ·(intro W hW; obtain ⟨q0, q1, q2, q3⟩ := K0.out W hW; go_simp; try with_reducible rfl)
          try (dsimp only); try simp only [Act.put, List.setIfInBounds_toArray, List.set_cons_zero, List.set_cons_succ]
          refine anyL_done (by kernel_rfl) ?_ _
          have HBW := Lib.hid (HBW.out.trans (hSS.mono HBW.out.size))
          have HO := Lib.hid (ownsRow_keep HO.out (Keep.of_below' hSS (K := fun _ => True)) (fun _ _ => trivial))
          clear hSS K0
          generalize wr.drew = wy at *
          rcases h3 : (ansAt c i j != ansAt d i j) with _ | _
          ·have H3' := Lib.hid (reachIn_no (l := pairsTo c.parts.length i ++ rowTo i j) h3)
           go_wp2_with fail
           go_roundw
           case rel => exact ⟨j + 1, by omega, by omega, by go_num, by rw [rowTo_succ hij, ← List.append_assoc, H3'.out]; exact HO.out, HBW.out⟩
           case measure => simp [intOf]; omega
          ·have H3' := Lib.hid (reachIn_yes (l := pairsTo c.parts.length i ++ rowTo i j) h3)
           obtain ⟨v6, w6, hrun, hown, hb6⟩ := app_pairR HO.out (by omega) HBW.out.size i j
           have HRN := Lib.hid hrun
           have HOW := Lib.hid hown
           have HB6 := Lib.hid (HBW.out.trans hb6)
           clear hrun hown hb6
           go_wp2_with (at_builtin; refine wpList_app rfl _ _ _ rfl rfl rfl HRN.out ?_)
           go_roundw
           case rel =>
            refine ⟨j + 1, by omega, by omega, by go_num, ?_, HB6.out⟩
            rw [rowTo_succ hij, ← List.append_assoc, H3'.out, pairCells_snocR, List.length_append, List.length_singleton]
            exact HOW.out
           case measure => simp [intOf]; omega
         ·have hje : j = c.parts.length := by omega
          have HJE := Lib.hid hje
          clear hje
          go_wp2_with fail
          go_roundw
          case rel =>
           refine ⟨i + 1, by omega, by go_num, ?_, HBW.out⟩
           have := HO.out
           rw [HJE.out, ← pairsTo_succ] at this
           exact this
          case measure => simp [intOf]; omega
       ·have hie : i = c.parts.length := by omega
        have HIE := Lib.hid hie
        clear hie
        go_wp2_with fail
        go_ret2
        refine ⟨HW3.out.trans (HBW.out.mono HW3.out.size), .inr ⟨HEE.out, _, rfl, ?_⟩⟩
        have := HO.out
        rw [HIE.out] at this
        exact own_pairsR (ownsRow_less this HW3.out.size)
     ·have h61 := ask_whole h2 h5
      have HEE := Lib.hid (show reachErr c d = 61 by rw [hcE, if_neg (by simpa using h1), if_neg (by simpa using h2), if_neg (by simpa using h3), if_neg (by simpa using h4), h61])
      have HE0 := Lib.hid (show reachErr c d ≠ 0 by rw [HEE.out]; decide)
      rw [h4] at HAC
      rw [h61] at HAD
      rw [h1] at HCC
      rw [h2] at HCD
      clear h1 h2 h3 h4 h5 hcE h61
      go_enter Tryz.func13, Tryz.ntmps13
      go_upto_region 1 with fail
      simp only [HW.out]
      have e0 := X0.out.cell
      have e1 := X1.out.cell
      go_wp2_with fail
      (with_reducible refine (HCC.out _ HBX.out).mono ?_)
      rintro e w2 ⟨rfl, hb⟩
      have HBX := Lib.hid (HBX.out.trans (hb.mono HBX.out.size))
      have X0 := Lib.hid (X0.out.below' hb)
      have X1 := Lib.hid (X1.out.below' hb)
      try clear e0
      try clear e1
      clear hb
      have e0 := X0.out.cell
      have e1 := X1.out.cell
      go_wp2_with fail
      (with_reducible refine (HCD.out _ HBX.out).mono ?_)
      rintro e w2 ⟨rfl, hb⟩
      have HBX := Lib.hid (HBX.out.trans (hb.mono HBX.out.size))
      have X0 := Lib.hid (X0.out.below' hb)
      have X1 := Lib.hid (X1.out.below' hb)
      try clear e0
      try clear e1
      clear hb
      have e0 := X0.out.cell
      have e1 := X1.out.cell
      go_wp2_with fail
      (with_reducible refine ((HAC.out _ HBX.out).mono (fun _ _ h => rows_any h)).mono ?_)
      rintro e w2 ⟨va, vk, vc, rfl, hb⟩
      have HBX := Lib.hid (HBX.out.trans (hb.mono HBX.out.size))
      have X0 := Lib.hid (X0.out.below' hb)
      have X1 := Lib.hid (X1.out.below' hb)
      try clear e0
      try clear e1
      clear hb
      have e0 := X0.out.cell
      have e1 := X1.out.cell
      go_wp2_with fail
      (with_reducible refine ((HAD.out _ HBX.out).mono (fun _ _ h => rows_any h)).mono ?_)
      rintro e w2 ⟨ua, uk, uc, rfl, hb⟩
      have HBX := Lib.hid (HBX.out.trans (hb.mono HBX.out.size))
      have X0 := Lib.hid (X0.out.below' hb)
      have X1 := Lib.hid (X1.out.below' hb)
      try clear e0
      try clear e1
      clear hb
      have e0 := X0.out.cell
      have e1 := X1.out.cell
      go_wp2_with fail
      go_ret2
      rw [HEE.out]
      exact ⟨HBX.out, .inl ⟨by rw [← HEE.out]; exact HE0.out, rfl⟩⟩
    ·have h61 := ask_whole h1 h4
     have HEE := Lib.hid (show reachErr c d = 61 by rw [hcE, if_neg (by simpa using h1), if_neg (by simpa using h2), if_neg (by simpa using h3), if_pos h4, h61])
     have HE0 := Lib.hid (show reachErr c d ≠ 0 by rw [HEE.out]; decide)
     rw [h61] at HAC
     rw [h1] at HCC
     rw [h2] at HCD
     clear h1 h2 h3 h4 hcE h61
     go_enter Tryz.func13, Tryz.ntmps13
     go_upto_region 1 with fail
     simp only [HW.out]
     have e0 := X0.out.cell
     have e1 := X1.out.cell
     go_wp2_with fail
     (with_reducible refine (HCC.out _ HBX.out).mono ?_)
     rintro e w2 ⟨rfl, hb⟩
     have HBX := Lib.hid (HBX.out.trans (hb.mono HBX.out.size))
     have X0 := Lib.hid (X0.out.below' hb)
     have X1 := Lib.hid (X1.out.below' hb)
     try clear e0
     try clear e1
     clear hb
     have e0 := X0.out.cell
     have e1 := X1.out.cell
     go_wp2_with fail
     (with_reducible refine (HCD.out _ HBX.out).mono ?_)
     rintro e w2 ⟨rfl, hb⟩
     have HBX := Lib.hid (HBX.out.trans (hb.mono HBX.out.size))
     have X0 := Lib.hid (X0.out.below' hb)
     have X1 := Lib.hid (X1.out.below' hb)
     try clear e0
     try clear e1
     clear hb
     have e0 := X0.out.cell
     have e1 := X1.out.cell
     go_wp2_with fail
     (with_reducible refine ((HAC.out _ HBX.out).mono (fun _ _ h => rows_any h)).mono ?_)
     rintro e w2 ⟨va, vk, vc, rfl, hb⟩
     have HBX := Lib.hid (HBX.out.trans (hb.mono HBX.out.size))
     have X0 := Lib.hid (X0.out.below' hb)
     have X1 := Lib.hid (X1.out.below' hb)
     try clear e0
     try clear e1
     clear hb
     have e0 := X0.out.cell
     have e1 := X1.out.cell
     go_wp2_with fail
     (with_reducible refine ((HAD.out _ HBX.out).mono (fun _ _ h => rows_any h)).mono ?_)
     rintro e w2 ⟨ua, uk, uc, rfl, hb⟩
     have HBX := Lib.hid (HBX.out.trans (hb.mono HBX.out.size))
     have X0 := Lib.hid (X0.out.below' hb)
     have X1 := Lib.hid (X1.out.below' hb)
     try clear e0
     try clear e1
     clear hb
     have e0 := X0.out.cell
     have e1 := X1.out.cell
     go_wp2_with fail
     go_ret2
     rw [HEE.out]
     exact ⟨HBX.out, .inl ⟨by rw [← HEE.out]; exact HE0.out, rfl⟩⟩
   ·have hlb : ((c.parts.length : Int) != (d.parts.length : Int)) = true := by simp; omega
    have HEE := Lib.hid (show reachErr c d = 1 by rw [hcE, if_neg (by simpa using h1), if_neg (by simpa using h2), if_pos h3])
    have HE0 := Lib.hid (show reachErr c d ≠ 0 by rw [HEE.out]; decide)
    rw [h1] at HCC
    rw [h2] at HCD
    clear h1 h2 h3 hcE
    go_enter Tryz.func13, Tryz.ntmps13
    go_upto_region 1 with fail
    simp only [HW.out]
    have e0 := X0.out.cell
    have e1 := X1.out.cell
    go_wp2_with fail
    (with_reducible refine (HCC.out _ HBX.out).mono ?_)
    rintro e w2 ⟨rfl, hb⟩
    have HBX := Lib.hid (HBX.out.trans (hb.mono HBX.out.size))
    have X0 := Lib.hid (X0.out.below' hb)
    have X1 := Lib.hid (X1.out.below' hb)
    try clear e0
    try clear e1
    clear hb
    have e0 := X0.out.cell
    have e1 := X1.out.cell
    go_wp2_with fail
    (with_reducible refine (HCD.out _ HBX.out).mono ?_)
    rintro e w2 ⟨rfl, hb⟩
    have HBX := Lib.hid (HBX.out.trans (hb.mono HBX.out.size))
    have X0 := Lib.hid (X0.out.below' hb)
    have X1 := Lib.hid (X1.out.below' hb)
    try clear e0
    try clear e1
    clear hb
    have e0 := X0.out.cell
    have e1 := X1.out.cell
    go_wp2_with fail
    go_ret2
    rw [HEE.out]
    exact ⟨HBX.out, .inl ⟨by rw [← HEE.out]; exact HE0.out, rfl⟩⟩
  ·have HEE := Lib.hid (show reachErr c d = checkCase d by rw [hcE, if_neg (by simpa using h1), if_pos h2])
   have HE0 := Lib.hid (show reachErr c d ≠ 0 by rw [HEE.out]; exact h2)
   have hzz : (checkCase d != 0) = true := by simpa using h2
   rw [h1] at HCC
   clear h1 h2 hcE
   go_enter Tryz.func13, Tryz.ntmps13
   go_upto_region 1 with fail
   simp only [HW.out]
   have e0 := X0.out.cell
   have e1 := X1.out.cell
   go_wp2_with fail
   (with_reducible refine (HCC.out _ HBX.out).mono ?_)
   rintro e w2 ⟨rfl, hb⟩
   have HBX := Lib.hid (HBX.out.trans (hb.mono HBX.out.size))
   have X0 := Lib.hid (X0.out.below' hb)
   have X1 := Lib.hid (X1.out.below' hb)
   try clear e0
   try clear e1
   clear hb
   have e0 := X0.out.cell
   have e1 := X1.out.cell
   go_wp2_with fail
   (with_reducible refine (HCD.out _ HBX.out).mono ?_)
   rintro e w2 ⟨rfl, hb⟩
   have HBX := Lib.hid (HBX.out.trans (hb.mono HBX.out.size))
   have X0 := Lib.hid (X0.out.below' hb)
   have X1 := Lib.hid (X1.out.below' hb)
   try clear e0
   try clear e1
   clear hb
   have e0 := X0.out.cell
   have e1 := X1.out.cell
   go_wp2_with fail
   go_ret2
   rw [HEE.out]
   exact ⟨HBX.out, .inl ⟨by rw [← HEE.out]; exact HE0.out, rfl⟩⟩
 ·have HEE := Lib.hid (show reachErr c d = checkCase c by rw [hcE, if_pos h1])
  have HE0 := Lib.hid (show reachErr c d ≠ 0 by rw [HEE.out]; exact h1)
  have hzz : (checkCase c != 0) = true := by simpa using h1
  clear h1 hcE
  go_enter Tryz.func13, Tryz.ntmps13
  go_upto_region 1 with fail
  simp only [HW.out]
  have e0 := X0.out.cell
  have e1 := X1.out.cell
  go_wp2_with fail
  (with_reducible refine (HCC.out _ HBX.out).mono ?_)
  rintro e w2 ⟨rfl, hb⟩
  have HBX := Lib.hid (HBX.out.trans (hb.mono HBX.out.size))
  have X0 := Lib.hid (X0.out.below' hb)
  have X1 := Lib.hid (X1.out.below' hb)
  try clear e0
  try clear e1
  clear hb
  have e0 := X0.out.cell
  have e1 := X1.out.cell
  go_wp2_with fail
  go_ret2
  rw [HEE.out]
  exact ⟨HBX.out, .inl ⟨by rw [← HEE.out]; exact HE0.out, rfl⟩⟩
end Go.Proofs.YtpjcnkajimgagaaGreat
