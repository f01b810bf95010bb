/- The reference: CheckBlanks. No condition but that the blanks are small. -/
import Derived.Test.YthpjffhccjlnhaaGreatDoorGRef14
set_option linter.unusedSimpArgs false
set_option linter.unusedVariables false
namespace Go.Proofs.YthpjffhccjlnhaaGreatDoor
open Go.RowKit
attribute [local go_sem] Oper.semAt_some

structure CbR (a : Option Addr) (c : Nat) (l : List Typ) (ra : Option Addr) (rc : Nat) (r : List Rng) (ba : Option Addr) (b : List Bl4) (w W : World) : Prop where
 k : Ask W a c l ra rc r
 d : BlksIn W ba b
 b : Below w.heap.size w W
theorem CbR.below {a : Option Addr} {c : Nat} {l : List Typ} {ra : Option Addr} {rc : Nat} {r : List Rng} {ba : Option Addr} {b : List Bl4} {w W W' : World} (h : CbR a c l ra rc r ba b w W) (hb : Below W.heap.size W W') : CbR a c l ra rc r ba b w W' :=
 ⟨h.k.below hb, h.d.below hb, h.b.trans (hb.mono h.b.size)⟩
/-- the blanks ahead of a place are right -/
def OkPre (l : List Typ) (ware : ByteArray) (r : List Rng) (b : List Bl4) (m : Nat) : Prop := m ≤ b.length ∧ ∀ (k : Nat) x y, k < m → (triesOf l ware r)[k]? = some x → b[k]? = some y → okX l r x y = true
theorem OkPre.next {l : List Typ} {ware : ByteArray} {r : List Rng} {b : List Bl4} {m : Nat} (h : OkPre l ware r b m) {x : Nat × Nat} {y : Bl4} (hx : (triesOf l ware r)[m]? = some x) (hy : b[m]? = some y) (ho : okX l r x y = true) : OkPre l ware r b (m + 1) := by
 refine ⟨(List.getElem?_eq_some_iff.1 hy).1, fun k x' y' hk hx' hy' => ?_⟩
 rcases Nat.lt_or_ge k m with h1 | h1
 ·exact h.2 k x' y' h1 hx' hy'
 ·have : k = m := by omega
  subst this
  rw [hx] at hx'; rw [hy] at hy'
  cases hx'; cases hy'; exact ho
theorem blksOut_no {l : List Typ} {ware : ByteArray} {r : List Rng} {b : List Bl4} (h0 : wantedErr l ware r = 0) (h : checkBlanksT l ware r b = false) : checkBlanksOut l ware r b = .tuple #[.bool false, .int .i64 0] := by
 unfold checkBlanksOut
 rw [h0, h]; rfl
theorem shifts_le {t : Typ} {r : List Rng} (hm : t.most ≤ 12) (hg : RgOk r) : shiftsOf t r ≤ 13 := by
 unfold shiftsOf
 split
 ·omega
 ·have : -1 ≤ lastAt r := by
   unfold lastAt
   rcases hl : r.getLast? with _ | y
   ·exact Int.le_refl _
   ·have := (hg.at0 y (List.mem_of_getLast? hl)).1
    simp only; omega
  omega
theorem try_pre {l : List Typ} {ware : ByteArray} {r : List Rng} {i k : Nat} {t : Typ} (ht : l[i]? = some t) (h : t.ware = ware) (hk : k < shiftsOf t r) : (triesOf l ware r)[(triesTo l ware r i).length + k]? = some (i, k) := by
 have := pre_at (tries_pre ht h hk)
 rwa [List.length_append, List.length_map, List.length_range] at this
set_option maxRecDepth 100000 in
set_option maxHeartbeats 4000000 in
theorem checkBlanksR_any (a : Option Addr) (c : Nat) (l : List Typ) (ware : ByteArray) (ra : Option Addr) (rc : Nat) (r : List Rng) (ba : Option Addr) (bc : Nat) (b : List Bl4) (w : World) (h : Ask w a c l ra rc r) (hb : BlksIn w ba b) (hbs : ∀ y, y ∈ b → SmlB y) (hbl : b.length ≤ 1000000) :
  Calls Tryz.prog 55 #[.slice a l.length c, .string ware, .slice ra r.length rc, .slice ba b.length bc] w fun e w' => e = .returned (checkBlanksOut l ware r b) ∧ Below w.heap.size w w' := by
 have HC := Lib.hid (askedR_any a c l ware ra rc r w h)
 have ST1 := Lib.hid (show CbR a c l ra rc r ba b w w from ⟨h, hb, Below.refl _ _⟩)
 have HBS := Lib.hid hbs
 have hll := h.tlen
 clear h hb hbs
 go_enter Tryz.func55, Tryz.ntmps55
 go_wp2_with (refine HC.out.mono ?_)
 rintro e w2 ⟨rfl, hb2⟩
 have ST := Lib.hid (ST1.out.below hb2)
 clear hb2 HC ST1
 by_cases h0 : wantedErr l ware r = 0
 rotate_left
 ·have HN := Lib.hid (show checkBlanksOut l ware r b = .tuple #[.bool false, .int .i64 (wantedErr l ware r)] by unfold checkBlanksOut; rw [show (wantedErr l ware r == 0) = false by simpa using h0]; rfl)
  have hne : (wantedErr l ware r == 0) = false := by simpa using h0
  go_wp2_with fail
  exact bodyPost_ret (results_tmp_tmp4 rfl) rfl ⟨by rw [HN.out]; rfl, ST.out.b⟩
 have H0 := Lib.hid h0
 simp only [h0]
 obtain ⟨hte, hre⟩ := wanted_typ h0
 have HG := Lib.hid (RgOk.of hre)
 have HTE := Lib.hid hte
 clear h0 hte hre
 have hl12 : l.length ≤ 12 := by
  have h := HTE.out
  unfold typesErr at h
  split at h
  ·cases h
  ·omega
 go_wp2_with fail
 go_loopw [11, 12, 13] (fun mv iv _ wr => ∃ i : Nat, i ≤ l.length ∧ iv = .int .i64 i ∧ mv = .int .i64 ((triesTo l ware r i).length : Nat) ∧ OkPre l ware r b (triesTo l ware r i).length ∧ CbR a c l ra rc r ba b w wr) (fun _ iv _ _ => l.length - (intOf iv).toNat)
 case atStart => exact ⟨0, Nat.zero_le _, rfl, rfl, ⟨Nat.zero_le _, fun k _ _ hk => absurd hk (Nat.not_lt_zero k)⟩, ST.out⟩
 case round =>
  clear ST w2
  obtain ⟨i, hi, rfl, rfl, hpre, st⟩ := hrel
  have HPR := Lib.hid hpre
  have ST := Lib.hid st
  clear hpre st
  by_cases hlt : i < l.length
  rotate_left
  ·have hin : decide ((i : Int) < (l.length : Int)) = false := by simp; omega
   have hie : i = l.length := by omega
   have HCB := Lib.hid (checkB_all (l := l) (ware := ware) (r := r) (b := b) fun k x y hx hy => HPR.out.2 k x y (by rw [hie, triesTo_all]; exact (List.getElem?_eq_some_iff.1 hx).1) hx hy)
   have HN := Lib.hid (show checkBlanksOut l ware r b = .tuple #[.bool (((triesTo l ware r i).length : Int) == (b.length : Int)), .int .i64 0] by
    unfold checkBlanksOut
    rw [H0.out, HCB.out, hie, triesTo_all, show ((triesOf l ware r).length == b.length) = (((triesOf l ware r).length : Int) == (b.length : Int)) by
     rw [Bool.eq_iff_iff, beq_iff_eq, beq_iff_eq]; omega]
    rfl)
   clear hie
   go_wp2_with fail
   exact bodyPost_ret (results_tmp_tmp4 rfl) rfl ⟨by rw [HN.out]; rfl, ST.out.b⟩
  obtain ⟨t, ht⟩ : ∃ t, l[i]? = some t := ⟨l[i], by simp [hlt]⟩
  have hki : (i : Int) < (l.length : Int) := by omega
  have hk0 : (0 : Int) ≤ (i : Int) := by omega
  have hsm := ST.out.k.sm t (List.mem_of_getElem? ht)
  obtain ⟨hts, h1, hlm, hm12⟩ := typeB_good (types_at HTE.out ht)
  have HTY := Lib.hid (show t.sets = true ∧ 1 ≤ t.least ∧ t.least ≤ t.most ∧ t.most ≤ 12 from ⟨hts, h1, hlm, hm12⟩)
  have HT := Lib.hid ht
  have HSM := Lib.hid hsm
  have hsh := shifts_le hm12 HG.out
  have HSH := Lib.hid (fun W (hW : RngsAt W ra r) => shiftsR_any t ra rc r ⟨by omega, hm12⟩ HG.out W hW)
  clear hts h1 hlm hm12 hsm ht
  obtain ⟨n0, hn0⟩ : ∃ n0, (triesTo l ware r i).length = n0 := ⟨_, rfl⟩
  have HN0 := Lib.hid hn0
  rw [hn0] at HPR
  simp only [hn0]
  clear hn0
  go_wp2_with fail
  go_loopw [11, 13] (fun mv sv wr => ∃ k : Nat, k ≤ shiftsOf t r ∧ sv = .int .i64 k ∧ mv = .int .i64 ((n0 + k : Nat) : Int) ∧ (k = 0 ∨ t.ware = ware) ∧ OkPre l ware r b (n0 + k) ∧ CbR a c l ra rc r ba b w wr) (fun _ sv _ => shiftsOf t r - (intOf sv).toNat)
  case atStart => exact ⟨0, Nat.zero_le _, rfl, rfl, .inl rfl, HPR.out, ST.out⟩
  case round =>
   clear ST HPR
   obtain ⟨k, hk, rfl, rfl, hkw, hpre, st⟩ := hrel
   obtain ⟨m, hm⟩ : ∃ m, n0 + k = m := ⟨_, rfl⟩
   rw [hm] at hpre
   simp only [hm]
   have HM := Lib.hid hm
   clear hm
   have HPR := Lib.hid hpre
   have ST := Lib.hid st
   obtain ⟨tb, tq, rfl, hat⟩ := st.k.ty i t HT.out
   have HL := Lib.hid hat.load
   have HKW := Lib.hid hkw
   have hk1 : k ≤ 1000 := by omega
   clear hpre st
   go_wp2_with (refine wpList_load_box rfl 71 _ rfl rfl HL.out ?_)
   clear HL
   refine (HSH.out _ ST.out.k.rg).mono ?_
   rintro e w4 ⟨rfl, hb4⟩
   have HAT := Lib.hid (hat.below hb4)
   have ST4 := Lib.hid (ST.out.below hb4)
   clear hb4 ST hat
   have f1 := HAT.out.fields.2.1
   rcases q3 : (t.ware.toList == ware.toList) with _ | _
   ·have hk00 : k = 0 := by
     rcases HKW.out with h | h
     ·exact h
     ·exact absurd h (ware_ne q3)
    have HNX := Lib.hid (triesTo_no (r := r) HT.out (ware_ne q3))
    have HK0 := Lib.hid hk00
    clear hk00
    have HME := Lib.hid (show m = n0 by have h1 := HM.out; have h2 := HK0.out; omega)
    by_cases hks : k < shiftsOf t r
    ·have q4 : decide (k < shiftsOf t r) = true := decide_eq_true hks
     have q5 : decide ((k : Int) < ((shiftsOf t r : Nat) : Int)) = true := decide_eq_true (by omega)
     go_wp2_with fail
     go_roundw
     case rel => exact ⟨i + 1, by omega, by go_num, by rw [HNX.out, HN0.out, HME.out], by have h := HPR.out; rw [HME.out] at h; rw [HNX.out, HN0.out]; exact h, ST4.out⟩
     case measure => simp [intOf]; omega
    ·have q4 : decide (k < shiftsOf t r) = false := decide_eq_false hks
     have q5 : decide ((k : Int) < ((shiftsOf t r : Nat) : Int)) = false := decide_eq_false (by omega)
     go_wp2_with fail
     go_roundw
     case rel => exact ⟨i + 1, by omega, by go_num, by rw [HNX.out, HN0.out, HME.out], by have h := HPR.out; rw [HME.out] at h; rw [HNX.out, HN0.out]; exact h, ST4.out⟩
     case measure => simp [intOf]; omega
   have hwe := ware_eq q3
   have HNX := Lib.hid (triesTo_yes (r := r) HT.out hwe)
   by_cases hks : k < shiftsOf t r
   rotate_left
   ·have hkn : decide ((k : Int) < ((shiftsOf t r : Nat) : Int)) = false := by simp; omega
    have hkn2 : decide (k < shiftsOf t r) = false := decide_eq_false hks
    have hke : k = shiftsOf t r := by omega
    have HLN := Lib.hid (show (triesTo l ware r (i + 1)).length = m by rw [HNX.out, List.length_append, HN0.out, List.length_map, List.length_range, ← hke]; exact HM.out)
    clear hke
    go_wp2_with fail
    go_roundw
    case rel => exact ⟨i + 1, by omega, by go_num, by rw [HLN.out], by rw [HLN.out]; exact HPR.out, ST4.out⟩
    case measure => simp [intOf]; omega
   have hkl : decide ((k : Int) < ((shiftsOf t r : Nat) : Int)) = true := by simp; omega
   have hkl2 : decide (k < shiftsOf t r) = true := decide_eq_true hks
   have HX := Lib.hid (show (triesOf l ware r)[m]? = some (i, k) by rw [← HM.out, ← HN0.out]; exact try_pre HT.out hwe hks)
   have ST := ST4
   have HM2 := Lib.hid (show n0 + (k + 1) = m + 1 by have h := HM.out; omega)
   clear ST4
   by_cases hmb : m < b.length
   rotate_left
   ·have hbm : decide ((b.length : Int) ≤ (m : Int)) = true := by simp; omega
    have hbm2 : decide (b.length ≤ m) = true := decide_eq_true (by omega)
    have HN := Lib.hid (blksOut_no H0.out (checkB_short (b := b) (Nat.lt_of_le_of_lt (Nat.not_lt.1 hmb) (List.getElem?_eq_some_iff.1 HX.out).1)))
    go_wp2_with fail
    refine wp_region_heldB 37 [] (by kernel_rfl) (by kernel_rfl) (by kernel_rfl) (by simp) ?_
    intro S hS
    have K0 := trivial
    have HS := Lib.hid hS
    clear hS
    simp only [List.take_succ_cons, List.take_zero, List.drop_succ_cons, List.drop_zero]
    repeat (first
     | (refine held_not rfl (by rfl) ?_; try (dsimp only); try simp only [Act.put, List.setIfInBounds_toArray, List.set_cons_zero, List.set_cons_succ])
     | (refine held_val (v := ?_) rfl (by rfl) ?_ ?_; rotate_left; (· (intro W hW; go_simp; try with_reducible rfl)); try (dsimp only); try simp only [Act.put, List.setIfInBounds_toArray, List.set_cons_zero, List.set_cons_succ])
     | (refine held_skip rfl (by rfl) ?_ ?_; (· (intro W hW; go_simp; try with_reducible rfl)); try (dsimp only); try simp only [Act.put, List.setIfInBounds_toArray, List.set_cons_zero, List.set_cons_succ]))
    refine held_nil ?_
    intro τ hτ W2 hW hO
    obtain rfl := laid0 hτ
    have ST2 := Lib.hid (ST.out.below (HS.out W2 hW))
    clear hτ hO hW K0 HS
    simp only [overs, List.foldl_nil]
    go_wp2_with fail
    exact bodyPost_ret (results_tmp_tmp4 rfl) rfl ⟨by rw [HN.out]; rfl, ST2.out.b⟩
   have hbm : decide ((b.length : Int) ≤ (m : Int)) = false := by simp; omega
   have hbm2 : decide (b.length ≤ m) = false := decide_eq_false (by omega)
   have hmi : (m : Int) < (b.length : Int) := by omega
   have hm0 : (0 : Int) ≤ (m : Int) := by omega
   have hmw : IntKind.i64.wrap ((m : Int) + 1) = (m : Int) + 1 := IntWalk.i64_in _ (by omega)
   obtain ⟨y, hy⟩ : ∃ y, b[m]? = some y := ⟨b[m], by simp [hmb]⟩
   obtain ⟨g, gq, rfl, sa, sc, hyc, hys, hyl⟩ := ST.out.d m y hy
   have HYC := Lib.hid hyc
   have HYS := Lib.hid hys
   have HY := Lib.hid hy
   have HSB := Lib.hid (HBS.out y (List.mem_of_getElem? hy))
   have HBD := Lib.hid (fun h => blksOut_no H0.out (checkB_bad HX.out HY.out h))
   have HOX := Lib.hid (show okX l r (i, k) y = ((y.type == (i : Int)) && (y.shift == (k : Int)) && shownB t r k y.sets) by unfold okX; rw [HT.out])
   clear hyc hys hy
   rcases q5 : (y.type == (i : Int)) with _ | _
   ·rw [q5] at HOX
    have q5n : (y.type != (i : Int)) = true := by unfold bne; rw [q5]; rfl
    have HN := Lib.hid (HBD.out HOX.out)
    go_wp2_with fail
    refine wp_region_heldB 37 [] (by kernel_rfl) (by kernel_rfl) (by kernel_rfl) (by simp) ?_
    intro S hS
    have k0 : ∀ A, S A → A.cell? ⟨g, gq + m * 3, none⟩ = some (.int .i64 y.type) ∧ A.cell? ⟨g, gq + m * 3 + 1, none⟩ = some (.int .i64 y.shift) ∧ A.cell? ⟨g, gq + m * 3 + 2, none⟩ = some (.slice sa y.sets.length sc) := fun A hA => ⟨below_cell (hS A hA) (HYC.out 0 (by omega)), below_cell (hS A hA) (HYC.out 1 (by omega)), below_cell (hS A hA) (HYC.out 2 (by omega))⟩
    have K0 := Lib.hid k0
    have L1 := Lib.hid (fun A hA => TypAt.load (HAT.out.below (hS A hA)))
    have HS := Lib.hid hS
    clear hS k0
    simp only [List.take_succ_cons, List.take_zero, List.drop_succ_cons, List.drop_zero]
    repeat (first
     | (refine held_not rfl (by rfl) ?_; try (dsimp only); try simp only [Act.put, List.setIfInBounds_toArray, List.set_cons_zero, List.set_cons_succ])
     | (refine held_val (v := ?_) rfl (by rfl) ?_ ?_; rotate_left; (· (intro W hW; obtain ⟨q0, q1, q2⟩ := K0.out W hW; go_simp; try with_reducible rfl)); try (dsimp only); try simp only [Act.put, List.setIfInBounds_toArray, List.set_cons_zero, List.set_cons_succ])
     | (refine held_skip rfl (by rfl) ?_ ?_; (· (intro W hW; obtain ⟨q0, q1, q2⟩ := K0.out W hW; go_simp; try with_reducible rfl)); try (dsimp only); try simp only [Act.put, List.setIfInBounds_toArray, List.set_cons_zero, List.set_cons_succ]))
    refine held_nil ?_
    intro τ hτ W2 hW hO
    obtain rfl := laid0 hτ
    have ST2 := Lib.hid (ST.out.below (HS.out W2 hW))
    clear hτ hO hW K0 HS
    simp only [overs, List.foldl_nil]
    go_wp2_with fail
    exact bodyPost_ret (results_tmp_tmp4 rfl) rfl ⟨by rw [HN.out]; rfl, ST2.out.b⟩
   have q5n : (y.type != (i : Int)) = false := by unfold bne; rw [q5]; rfl
   rcases q6 : (y.shift == (k : Int)) with _ | _
   ·rw [q5, q6] at HOX
    have q6n : (y.shift != (k : Int)) = true := by unfold bne; rw [q6]; rfl
    have HN := Lib.hid (HBD.out HOX.out)
    go_wp2_with fail
    refine wp_region_heldB 37 [] (by kernel_rfl) (by kernel_rfl) (by kernel_rfl) (by simp) ?_
    intro S hS
    have k0 : ∀ A, S A → A.cell? ⟨g, gq + m * 3, none⟩ = some (.int .i64 y.type) ∧ A.cell? ⟨g, gq + m * 3 + 1, none⟩ = some (.int .i64 y.shift) ∧ A.cell? ⟨g, gq + m * 3 + 2, none⟩ = some (.slice sa y.sets.length sc) := fun A hA => ⟨below_cell (hS A hA) (HYC.out 0 (by omega)), below_cell (hS A hA) (HYC.out 1 (by omega)), below_cell (hS A hA) (HYC.out 2 (by omega))⟩
    have K0 := Lib.hid k0
    have L1 := Lib.hid (fun A hA => TypAt.load (HAT.out.below (hS A hA)))
    have HS := Lib.hid hS
    clear hS k0
    simp only [List.take_succ_cons, List.take_zero, List.drop_succ_cons, List.drop_zero]
    repeat (first
     | (refine held_not rfl (by rfl) ?_; try (dsimp only); try simp only [Act.put, List.setIfInBounds_toArray, List.set_cons_zero, List.set_cons_succ])
     | (refine held_val (v := ?_) rfl (by rfl) ?_ ?_; rotate_left; (· (intro W hW; obtain ⟨q0, q1, q2⟩ := K0.out W hW; go_simp; try with_reducible rfl)); try (dsimp only); try simp only [Act.put, List.setIfInBounds_toArray, List.set_cons_zero, List.set_cons_succ])
     | (refine held_skip rfl (by rfl) ?_ ?_; (· (intro W hW; obtain ⟨q0, q1, q2⟩ := K0.out W hW; go_simp; try with_reducible rfl)); try (dsimp only); try simp only [Act.put, List.setIfInBounds_toArray, List.set_cons_zero, List.set_cons_succ]))
    refine held_nil ?_
    intro τ hτ W2 hW hO
    obtain rfl := laid0 hτ
    have ST2 := Lib.hid (ST.out.below (HS.out W2 hW))
    clear hτ hO hW K0 HS
    simp only [overs, List.foldl_nil]
    go_wp2_with fail
    exact bodyPost_ret (results_tmp_tmp4 rfl) rfl ⟨by rw [HN.out]; rfl, ST2.out.b⟩
   have q6n : (y.shift != (k : Int)) = false := by unfold bne; rw [q6]; rfl
   have HBK := Lib.hid (fun W (hR : RngsAt W ra r) (hA : StrsAt W sa y.sets) => blankR_any t HSM.out HTY.out.1 HTY.out.2.1 ⟨by have := HTY.out; omega, HTY.out.2.2.2⟩ ra rc r HG.out k hks hk1 sa sc y.sets HSB.out.str HSB.out.len W hR hA)
   rcases q7 : shownB t r k y.sets with _ | _
   ·rw [q5, q6, q7] at HOX
    rw [q7] at HBK
    have HN := Lib.hid (HBD.out HOX.out)
    go_wp2_with fail
    refine wp_region_heldB 37 [] (by kernel_rfl) (by kernel_rfl) (by kernel_rfl) (by simp) ?_
    intro S hS
    have k0 : ∀ A, S A → A.cell? ⟨g, gq + m * 3, none⟩ = some (.int .i64 y.type) ∧ A.cell? ⟨g, gq + m * 3 + 1, none⟩ = some (.int .i64 y.shift) ∧ A.cell? ⟨g, gq + m * 3 + 2, none⟩ = some (.slice sa y.sets.length sc) := fun A hA => ⟨below_cell (hS A hA) (HYC.out 0 (by omega)), below_cell (hS A hA) (HYC.out 1 (by omega)), below_cell (hS A hA) (HYC.out 2 (by omega))⟩
    have K0 := Lib.hid k0
    have L1 := Lib.hid (fun A hA => TypAt.load (HAT.out.below (hS A hA)))
    have HS := Lib.hid hS
    clear hS k0
    simp only [List.take_succ_cons, List.take_zero, List.drop_succ_cons, List.drop_zero]
    repeat (first
     | (refine held_load 71 _ (by rfl) rfl rfl L1.out ?_; try (dsimp only); try simp only [Act.put, List.setIfInBounds_toArray, List.set_cons_zero, List.set_cons_succ])
     | (refine held_not rfl (by rfl) ?_; try (dsimp only); try simp only [Act.put, List.setIfInBounds_toArray, List.set_cons_zero, List.set_cons_succ])
     | (refine held_val (v := ?_) rfl (by rfl) ?_ ?_; rotate_left; (· (intro W hW; obtain ⟨q0, q1, q2⟩ := K0.out W hW; go_simp; try with_reducible rfl)); try (dsimp only); try simp only [Act.put, List.setIfInBounds_toArray, List.set_cons_zero, List.set_cons_succ])
     | (refine held_skip rfl (by rfl) ?_ ?_; (· (intro W hW; obtain ⟨q0, q1, q2⟩ := K0.out W hW; go_simp; try with_reducible rfl)); try (dsimp only); try simp only [Act.put, List.setIfInBounds_toArray, List.set_cons_zero, List.set_cons_succ])
     | (refine held_call (v := .bool false) (f := 110) (args := #[.agg (typCells t), .slice ra r.length rc, .int .i64 (k : Int), .slice sa y.sets.length sc]) rfl (by rfl) ?_ ?_ ?_; (· (intro W hW; go_simp; done)); (· exact (fun W hW => HBK.out W (ST.out.k.rg.below (HS.out W hW)) (HYS.out.below (HS.out W hW)))); try (dsimp only); try simp only [Act.put, List.setIfInBounds_toArray, List.set_cons_zero, List.set_cons_succ]))
    refine held_nil ?_
    intro τ hτ W2 hW hO
    obtain rfl := laid0 hτ
    have ST2 := Lib.hid (ST.out.below (HS.out W2 hW))
    clear hτ hO hW K0 HS
    simp only [overs, List.foldl_nil]
    go_wp2_with fail
    exact bodyPost_ret (results_tmp_tmp4 rfl) rfl ⟨by rw [HN.out]; rfl, ST2.out.b⟩
   rw [q5, q6, q7] at HOX
   rw [q7] at HBK
   have HPN := Lib.hid (HPR.out.next HX.out HY.out HOX.out)
   go_wp2_with fail
   refine wp_region_heldB 37 [] (by kernel_rfl) (by kernel_rfl) (by kernel_rfl) (by simp) ?_
   intro S hS
   have k0 : ∀ A, S A → A.cell? ⟨g, gq + m * 3, none⟩ = some (.int .i64 y.type) ∧ A.cell? ⟨g, gq + m * 3 + 1, none⟩ = some (.int .i64 y.shift) ∧ A.cell? ⟨g, gq + m * 3 + 2, none⟩ = some (.slice sa y.sets.length sc) := fun A hA => ⟨below_cell (hS A hA) (HYC.out 0 (by omega)), below_cell (hS A hA) (HYC.out 1 (by omega)), below_cell (hS A hA) (HYC.out 2 (by omega))⟩
   have K0 := Lib.hid k0
   have L1 := Lib.hid (fun A hA => TypAt.load (HAT.out.below (hS A hA)))
   have HS := Lib.hid hS
   clear hS k0
   simp only [List.take_succ_cons, List.take_zero, List.drop_succ_cons, List.drop_zero]
   repeat (first
    | (refine held_load 71 _ (by rfl) rfl rfl L1.out ?_; try (dsimp only); try simp only [Act.put, List.setIfInBounds_toArray, List.set_cons_zero, List.set_cons_succ])
    | (refine held_not rfl (by rfl) ?_; try (dsimp only); try simp only [Act.put, List.setIfInBounds_toArray, List.set_cons_zero, List.set_cons_succ])
    | (refine held_val (v := ?_) rfl (by rfl) ?_ ?_; rotate_left; (· (intro W hW; obtain ⟨q0, q1, q2⟩ := K0.out W hW; go_simp; try with_reducible rfl)); try (dsimp only); try simp only [Act.put, List.setIfInBounds_toArray, List.set_cons_zero, List.set_cons_succ])
    | (refine held_skip rfl (by rfl) ?_ ?_; (· (intro W hW; obtain ⟨q0, q1, q2⟩ := K0.out W hW; go_simp; try with_reducible rfl)); try (dsimp only); try simp only [Act.put, List.setIfInBounds_toArray, List.set_cons_zero, List.set_cons_succ])
    | (refine held_call (v := .bool true) (f := 110) (args := #[.agg (typCells t), .slice ra r.length rc, .int .i64 (k : Int), .slice sa y.sets.length sc]) rfl (by rfl) ?_ ?_ ?_; (· (intro W hW; go_simp; done)); (· exact (fun W hW => HBK.out W (ST.out.k.rg.below (HS.out W hW)) (HYS.out.below (HS.out W hW)))); try (dsimp only); try simp only [Act.put, List.setIfInBounds_toArray, List.set_cons_zero, List.set_cons_succ]))
   refine held_nil ?_
   intro τ hτ W2 hW hO
   obtain rfl := laid0 hτ
   have ST2 := Lib.hid (ST.out.below (HS.out W2 hW))
   clear hτ hO hW K0 HS
   simp only [overs, List.foldl_nil]
   go_wp2_with fail
   go_roundw
   case rel => exact ⟨k + 1, by omega, by go_num, by rw [HM2.out]; go_num, .inr hwe, by rw [HM2.out]; exact HPN.out, ST2.out⟩
   case measure => simp [intOf]; omega
end Go.Proofs.YthpjffhccjlnhaaGreatDoor
