/- The reference's answer, Answer, Answers, walked. -/
/- The reference's Answers, walked. -/
import Derived.Test.YtpjcnkajimgagaaGreatRefW
import Derived.Test.YtpjcnkajimgagaaGreatMAnswers
import Derived.Test.YtpjcnkajimgagaaGreatMPlainB
import Derived.Test.YtpjcnkajimgagaaGreatMDecR
import Derived.Test.YtpjcnkajimgagaaGreatMLawB
set_option linter.unusedSimpArgs false
set_option linter.unusedVariables false
namespace Go.Proofs.YtpjcnkajimgagaaGreat
open Go.RowKit
attribute [local go_sem] Oper.semAt_some

def sameN (L : List (List Nat)) (a b k : Nat) : Nat := ((L.take k).filter fun x => nth x a == nth x b).length
theorem sameN_succ {L : List (List Nat)} {a b k : Nat} {x : List Nat} (h : L[k]? = some x) : sameN L a b (k + 1) = sameN L a b k + if nth x a == nth x b then 1 else 0 := by
 unfold sameN
 rw [take_snoc h, List.filter_append, List.length_append]
 congr 1
 rcases hb : (nth x a == nth x b) with _ | _ <;> simp [hb]
theorem sameN_le (L : List (List Nat)) (a b k : Nat) : sameN L a b k ≤ k := by
 have := List.length_filter_le (fun x : List Nat => nth x a == nth x b) (L.take k)
 rw [List.length_take] at this
 unfold sameN
 omega
theorem sameN_all {L : List (List Nat)} {a b : Nat} : sameN L a b L.length = L.length ↔ ∀ x ∈ L, nth x a = nth x b := by
 unfold sameN
 rw [List.take_length, List.length_filter_eq_length_iff]
 simp
theorem sameN_none {L : List (List Nat)} {a b : Nat} : sameN L a b L.length = 0 ↔ ∀ x ∈ L, nth x a ≠ nth x b := by
 unfold sameN
 rw [List.take_length, List.length_eq_zero_iff, List.filter_eq_nil_iff]
 simp
theorem ans_count {c : Cs} (hne : (allR c).isEmpty = false) {a b : Nat} (ha : a < c.parts.length) (hb : b < c.parts.length) :
  ansAt c a b = if sameN (allR c) a b (allR c).length = (allR c).length then 1 else if sameN (allR c) a b (allR c).length = 0 then 2 else 3 := by
 split
 ·rename_i h
  rw [sameN_all] at h
  exact (ans_one ha hb).2 fun x hx => h x (mem_allR.2 hx)
 ·rename_i h
  rw [sameN_all] at h
  have h1 : aptB c.parts.length (allR c) a b = true := (apt_iff ha hb).2 (by
   refine Classical.byContradiction fun hn => h fun x hx => ?_
   exact Classical.byContradiction fun hne => hn ⟨x, mem_allR.1 hx, hne⟩)
  rw [ans_iff, h1, if_pos rfl]
  by_cases h2 : sameN (allR c) a b (allR c).length = 0
  ·rw [if_pos h2]
   rw [sameN_none] at h2
   have h3 : togB c.parts.length (allR c) a b = false := by
    rw [Bool.eq_false_iff]
    intro ht
    obtain ⟨x, hx, e⟩ := (tog_iff ha hb).1 ht
    exact h2 x (mem_allR.2 hx) e
   rw [h3]; rfl
  ·rw [if_neg h2]
   rw [sameN_none] at h2
   have h3 : togB c.parts.length (allR c) a b = true := (tog_iff ha hb).2 (by
    refine Classical.byContradiction fun hn => h2 fun x hx e => hn ⟨x, mem_allR.1 hx, e⟩)
   rw [h3]; rfl
theorem row_val {w : World} {a : Option Addr} {x : List Nat} (h : Ints w a (natInts x)) {k : Nat} (hk : k < x.length) : ∃ b o, a = some ⟨b, o, none⟩ ∧ w.cell? ⟨b, o + k, none⟩ = some (.int .i64 (nth x k : Nat)) :=
 nat_cell h (by rw [nth_get hk, List.getElem?_eq_getElem hk])
set_option maxRecDepth 100000 in
set_option maxHeartbeats 2000000 in
theorem answerR_any {B : Nat} {Q : Nat → Prop} (c : Cs) (h8 : c.parts.length ≤ 8) (hne : (allR c).isEmpty = false) (x y : Nat) (hx : x < c.parts.length) (hy : y < c.parts.length) (a : Option Addr) (cap : Nat) (w : World) (hR : RowsV B Q w (.slice a (allR c).length cap) (allR c)) :
  Calls Tryz.prog 82 #[.slice a (allR c).length cap, .int .i64 x, .int .i64 y] w fun e w' => e = .returned (.int .u8 (ansAt c x y)) ∧ Below w.heap.size w w' := by
 have hrl := allR_len h8
 have HE := Lib.hid (ans_count hne hx hy)
 have HSZ := Lib.hid (fun z (hz : z ∈ allR c) => allR_size hz)
 have HR := Lib.hid hR
 have hn0 : 0 < (allR c).length := by
  rcases h : allR c with _ | ⟨z, l⟩
  ·rw [h] at hne; cases hne
  ·simp
 obtain ⟨n, hn⟩ : ∃ n, c.parts.length = n := ⟨_, rfl⟩
 rw [hn] at hx hy HSZ
 clear hR hne hn h8
 generalize ansAt c x y = v at *
 generalize allR c = R at *
 go_enter Tryz.func82, Tryz.ntmps82
 go_wp2_with fail
 go_loopw [7, 8] (fun sv iv wr => ∃ k : Nat, k ≤ R.length ∧ iv = .int .i64 k ∧ sv = .int .i64 (sameN R x y k : Nat) ∧ Below w.heap.size w wr) (fun _ iv _ => R.length - (intOf iv).toNat)
 case atStart => exact ⟨0, Nat.zero_le _, rfl, rfl, Below.refl _ _⟩
 case round =>
  obtain ⟨k, hk, rfl, rfl, hb⟩ := hrel
  have HB := Lib.hid hb
  clear hb
  have hsl := sameN_le R x y k
  by_cases hlt : k < R.length
  ·have hki : (k : Int) < (R.length : Int) := by omega
   obtain ⟨l, hl⟩ := get_of_lt R hlt
   obtain ⟨_, _, hva, hrd⟩ := (HR.out.below HB.out).at_
   injection hva with hva1 _ hva2
   subst hva1 hva2
   obtain ⟨rb, ro, la, lc, rfl, hc, hi, hic⟩ := hrd k l hl
   have hln := HSZ.out l (List.mem_of_getElem? hl)
   obtain ⟨b1, o1, rfl, d1⟩ := row_val hi (k := x) (by omega)
   obtain ⟨b2, o2, hb2, d2⟩ := row_val hi (k := y) (by omega)
   cases hb2
   have hxi : (x : Int) < (l.length : Int) := by omega
   have hyi : (y : Int) < (l.length : Int) := by omega
   have HC := Lib.hid (And.intro hc (And.intro d1 d2))
   have HS := Lib.hid (sameN_succ (a := x) (b := y) hl)
   clear hc d1 d2 hi hrd hl
   rcases he : (nth l x == nth l y) with _ | _
   ·have hei : (((nth l x : Nat) : Int) == ((nth l y : Nat) : Int)) = false := by
     rw [beq_eq_false_iff_ne] at he ⊢; omega
    rw [he] at HS
    clear he
    go_wp2_with fail
    refine wp_region_heldB 15 [] (by kernel_rfl) (by kernel_rfl) (by kernel_rfl) (by simp) ?_
    intro S hS
    have k0 := fun W (h : S W) => (⟨below_cell (hS W h) HC.out.1, below_cell (hS W h) HC.out.2.1, below_cell (hS W h) HC.out.2.2⟩ : _ ∧ _ ∧ _)
    have K0 := Lib.hid k0
    have HSS := Lib.hid hS
    clear k0 hS
    simp only [List.take_succ_cons, List.take_zero, List.drop_succ_cons, List.drop_zero]
    repeat (first
     | (refine held_not rfl (by rfl) ?_; try (dsimp only); try simp only [Act.put, List.setIfInBounds_toArray, List.set_cons_zero, List.set_cons_succ])
     | (refine held_val (v := ?_) rfl (by rfl) ?_ ?_; rotate_left; (· (intro W hW; obtain ⟨q0, q1, q2⟩ := K0.out W hW; go_simp; try with_reducible rfl)); try (dsimp only); try simp only [Act.put, List.setIfInBounds_toArray, List.set_cons_zero, List.set_cons_succ])
     | (refine held_skip rfl (by rfl) ?_ ?_; (· (intro W hW; obtain ⟨q0, q1, q2⟩ := K0.out W hW; go_simp; try with_reducible rfl)); try (dsimp only); try simp only [Act.put, List.setIfInBounds_toArray, List.set_cons_zero, List.set_cons_succ]))
    refine held_nil ?_
    intro τ hτ wn hW hO
    obtain rfl := laid0 hτ
    have HBN := Lib.hid (HB.out.trans ((HSS.out wn hW).mono HB.out.size))
    clear hτ hO hW K0 HSS
    simp only [overs, List.foldl_nil]
    go_wp2_with fail
    go_roundw
    case rel => exact ⟨k + 1, by omega, by go_num, by rw [HS.out]; rfl, HBN.out⟩
    case measure => simp [intOf]; omega
   ·have hei : (((nth l x : Nat) : Int) == ((nth l y : Nat) : Int)) = true := by
     rw [beq_iff_eq] at he ⊢; omega
    rw [he] at HS
    clear he
    go_wp2_with fail
    refine wp_region_heldB 15 [] (by kernel_rfl) (by kernel_rfl) (by kernel_rfl) (by simp) ?_
    intro S hS
    have k0 := fun W (h : S W) => (⟨below_cell (hS W h) HC.out.1, below_cell (hS W h) HC.out.2.1, below_cell (hS W h) HC.out.2.2⟩ : _ ∧ _ ∧ _)
    have K0 := Lib.hid k0
    have HSS := Lib.hid hS
    clear k0 hS
    simp only [List.take_succ_cons, List.take_zero, List.drop_succ_cons, List.drop_zero]
    repeat (first
     | (refine held_not rfl (by rfl) ?_; try (dsimp only); try simp only [Act.put, List.setIfInBounds_toArray, List.set_cons_zero, List.set_cons_succ])
     | (refine held_val (v := ?_) rfl (by rfl) ?_ ?_; rotate_left; (· (intro W hW; obtain ⟨q0, q1, q2⟩ := K0.out W hW; go_simp; try with_reducible rfl)); try (dsimp only); try simp only [Act.put, List.setIfInBounds_toArray, List.set_cons_zero, List.set_cons_succ])
     | (refine held_skip rfl (by rfl) ?_ ?_; (· (intro W hW; obtain ⟨q0, q1, q2⟩ := K0.out W hW; go_simp; try with_reducible rfl)); try (dsimp only); try simp only [Act.put, List.setIfInBounds_toArray, List.set_cons_zero, List.set_cons_succ]))
    refine held_nil ?_
    intro τ hτ wn hW hO
    obtain rfl := laid0 hτ
    have HBN := Lib.hid (HB.out.trans ((HSS.out wn hW).mono HB.out.size))
    clear hτ hO hW K0 HSS
    simp only [overs, List.foldl_nil]
    go_wp2_with fail
    go_roundw
    case rel => exact ⟨k + 1, by omega, by go_num, by rw [HS.out]; go_num, HBN.out⟩
    case measure => simp [intOf]; omega
  ·have hke : k = R.length := by omega
   subst hke
   by_cases h1 : sameN R x y R.length = R.length
   ·have hb : (((sameN R x y R.length : Nat) : Int) == (R.length : Int)) = true := by simp; omega
    have HV := Lib.hid (HE.out.trans (if_pos h1))
    clear h1
    go_wp2_with fail
    go_ret
    exact ⟨by rw [HV.out]; rfl, HB.out⟩
   ·have hb : (((sameN R x y R.length : Nat) : Int) == (R.length : Int)) = false := by simp; omega
    by_cases h2 : sameN R x y R.length = 0
    ·have hb2 : (((sameN R x y R.length : Nat) : Int) == 0) = true := by simp; omega
     have HV := Lib.hid ((HE.out.trans (if_neg h1)).trans (if_pos h2))
     clear h1 h2
     go_wp2_with fail
     go_ret
     exact ⟨by rw [HV.out]; rfl, HB.out⟩
    ·have hb2 : (((sameN R x y R.length : Nat) : Int) == 0) = false := by simp; omega
     have HV := Lib.hid ((HE.out.trans (if_neg h1)).trans (if_neg h2))
     clear h1 h2
     go_wp2_with fail
     go_ret
     exact ⟨by rw [HV.out]; rfl, HB.out⟩
set_option maxRecDepth 100000 in
set_option maxHeartbeats 2000000 in
theorem answerTop_ref (c : Cs) (hsm : c.Small) (pa : Option Addr) (pc : Nat) (x y : Int) (w : World) (hp : PartsAt w pa c.parts) :
  Calls Tryz.prog 44 #[.agg #[.string c.ware, .int .i64 c.limit, .int .i64 c.by_, .slice pa c.parts.length pc], .int .i64 x, .int .i64 y] w (AnsPost (askErr c [x, y]) (ansAt c x.toNat y.toNat) w) := by
 obtain ⟨w1, hw1⟩ : ∃ w1, w.alloc (.cells #[.string c.ware, .int .i64 c.limit, .int .i64 c.by_, .slice pa c.parts.length pc] 24) = w1 := ⟨_, rfl⟩
 have hB1 : Below w.heap.size w w1 := by rw [← hw1]; go_grown
 have b1 : Box w1 w.heap.size (csCells c pa pc) 24 := by rw [← hw1]; exact Box.new _ _ _
 have e1 : ∀ i, w1.cell? ⟨w.heap.size, i, none⟩ = (#[.string c.ware, .int .i64 c.limit, .int .i64 c.by_, .slice pa c.parts.length pc] : Array Value)[i]? := b1.cell
 have HP := Lib.hid hp
 have HW := Lib.hid hw1
 have HB1 := Lib.hid hB1
 have HX := Lib.hid b1
 clear hw1 hB1 b1
 have hak := asked_ref c hsm pa pc x y w1 (hp.below HB1.out)
 have HAK := Lib.hid hak
 clear hak hp
 by_cases hz : openErr c [x, y] = 0
 ·have h8 := check_small hz
  have hlim := check_lim (open_check hz)
  have hx := open_in hz x (by simp)
  have hy := open_in hz y (by simp)
  obtain ⟨a, rfl⟩ := Int.eq_ofNat_of_zero_le hx.1
  obtain ⟨b, rfl⟩ := Int.eq_ofNat_of_zero_le hy.1
  simp only [Int.toNat_natCast]
  have hae := ask_eq0 hz
  rw [hz] at HAK
  have hxa := hx.2
  have hyb := hy.2
  clear hz hx hy
  go_enter Tryz.func44, Tryz.ntmps44
  go_upto_region 1 with fail
  simp only [HW.out]
  go_upto_region 4 with (go_at_call 57; (with_reducible refine HAK.out.mono ?_); rintro e w2 ⟨rfl, hb2⟩; have e2 : ∀ i, w2.cell? ⟨w.heap.size, i, none⟩ = (#[.string c.ware, .int .i64 c.limit, .int .i64 c.by_, .slice pa c.parts.length pc] : Array Value)[i]? := (HX.out.below' hb2).cell; have HB2 := Lib.hid hb2; clear hb2)
  clear e1
  have hW2 : Below w.heap.size w w2 := HB1.out.trans (HB2.out.mono HB1.out.size)
  have HAL := Lib.hid (allTop_ref c h8 hlim.1 pa pc w2 (HP.out.below hW2))
  have HW2 := Lib.hid hW2
  clear hW2
  go_upto_region 5 with (go_at_call 72; (with_reducible refine HAL.out.mono ?_); rintro e w3 ⟨v, rfl, hv, hb⟩; have HB3 := Lib.hid hb; have HV := Lib.hid hv; obtain ⟨ra, rcap, rfl, -⟩ := hv.at_; clear hb)
  have HW3 := Lib.hid (HW2.out.trans (HB3.out.mono HW2.out.size))
  clear e2
  rcases hem : (allR c).isEmpty with _ | _
  ·have hl0 : (((allR c).length : Int) == 0) = false := by
    rw [beq_eq_false_iff_ne]
    intro e
    rw [List.isEmpty_eq_false_iff] at hem
    exact hem (List.length_eq_zero_iff.1 (by omega))
   rw [hem] at hae
   have HAN := Lib.hid (fun W (h : Below w3.heap.size w3 W) => answerR_any c h8 hem a b (by omega) (by omega) ra rcap W (HV.out.below h))
   have HAE := Lib.hid hae
   clear hae hem
   go_wp2_with (go_at_call 82; (with_reducible refine (HAN.out _ (Below.refl _ _)).mono ?_); rintro e w4 ⟨rfl, hb4⟩; have HB4 := Lib.hid hb4; clear hb4)
   go_ret2
   refine ⟨HW3.out.trans (HB4.out.mono HW3.out.size), ?_⟩
   rw [HAE.out]; rfl
  ·have hl0 : (((allR c).length : Int) == 0) = true := by
    rw [List.isEmpty_iff] at hem
    rw [hem]; rfl
   rw [hem] at hae
   have HAE := Lib.hid hae
   clear hae hem
   go_wp2_with fail
   go_ret2
   refine ⟨HW3.out, ?_⟩
   rw [HAE.out]; rfl
 ·have HAE := Lib.hid (ask_eq hz)
  have hzz : (openErr c [x, y] != 0) = true := by simpa using hz
  have HZ := Lib.hid hz
  clear hz
  go_enter Tryz.func44, Tryz.ntmps44
  go_upto_region 1 with fail
  simp only [HW.out]
  go_wp2_with (go_at_call 57; (with_reducible refine HAK.out.mono ?_); rintro e w2 ⟨rfl, hb2⟩; have HB2 := Lib.hid hb2; clear hb2)
  go_ret2
  refine ⟨HB1.out.trans (HB2.out.mono HB1.out.size), ?_⟩
  rw [HAE.out, if_neg HZ.out]; rfl
end Go.Proofs.YtpjcnkajimgagaaGreat
namespace Go.Proofs.YtpjcnkajimgagaaGreat
open Go.RowKit
attribute [local go_sem] Oper.semAt_some

set_option maxRecDepth 100000 in
set_option maxHeartbeats 4000000 in
theorem answers_ref (c : Cs) (hsm : c.Small) (pa : Option Addr) (pc : Nat) (w : World) (hp : PartsAt w pa c.parts) :
  Calls Tryz.prog 50 #[.agg #[.string c.ware, .int .i64 c.limit, .int .i64 c.by_, .slice pa c.parts.length pc]] w (RowsPost 100 (askErr c []) (ansRows c) w) := by
 obtain ⟨w1, hw1⟩ : ∃ w1, w.alloc (.cells #[.string c.ware, .int .i64 c.limit, .int .i64 c.by_, .slice pa c.parts.length pc] 24) = w1 := ⟨_, rfl⟩
 have hB1 : Below w.heap.size w w1 := by rw [← hw1]; go_grown
 have b1 : Box w1 w.heap.size (csCells c pa pc) 24 := by rw [← hw1]; exact Box.new _ _ _
 have e1 : ∀ i, w1.cell? ⟨w.heap.size, i, none⟩ = (#[.string c.ware, .int .i64 c.limit, .int .i64 c.by_, .slice pa c.parts.length pc] : Array Value)[i]? := b1.cell
 have hck := checkCase_ref c hsm pa pc w1 (hp.below hB1)
 have HCK := Lib.hid hck
 have HP := Lib.hid hp
 have HW := Lib.hid hw1
 have HB1 := Lib.hid hB1
 have HX := Lib.hid b1
 clear hw1 hB1 b1 hck hp
 have heq : openErr c [] = checkCase c := by unfold openErr; split <;> simp [*]
 by_cases hz : checkCase c = 0
 ·have h8 := check_small (heq.trans hz)
  have hlim := check_lim hz
  have hae := ask_eq0 (heq.trans hz)
  rw [hz] at HCK
  clear hz heq
  go_enter Tryz.func50, Tryz.ntmps50
  go_upto_region 1 with fail
  simp only [HW.out]
  go_upto_region 4 with (go_at_call 49; (with_reducible refine HCK.out.mono ?_); rintro e w2 ⟨rfl, hb2⟩; have e2 : ∀ i, w2.cell? ⟨w.heap.size, i, none⟩ = (#[.string c.ware, .int .i64 c.limit, .int .i64 c.by_, .slice pa c.parts.length pc] : Array Value)[i]? := (HX.out.below' hb2).cell; have HB2 := Lib.hid hb2; clear hb2)
  clear e1
  have hW2 : Below w.heap.size w w2 := HB1.out.trans (HB2.out.mono HB1.out.size)
  have HAL := Lib.hid (allTop_ref c h8 hlim.1 pa pc w2 (HP.out.below hW2))
  have HX2 := Lib.hid (HX.out.below' HB2.out)
  have HW2 := Lib.hid hW2
  clear hW2
  go_upto_region 5 with (go_at_call 72; (with_reducible refine HAL.out.mono ?_); rintro e w3 ⟨v, rfl, hv, hb⟩; have HB3 := Lib.hid hb; have HV := Lib.hid hv; obtain ⟨ra, rcap, rfl, -⟩ := hv.at_; clear hb)
  have HW3 := Lib.hid (HW2.out.trans (HB3.out.mono HW2.out.size))
  have HX3 := Lib.hid (HX2.out.below' HB3.out)
  clear e2 HX2
  rcases hem : (allR c).isEmpty with _ | _
  ·have hl0 : (((allR c).length : Int) == 0) = false := by
    rw [beq_eq_false_iff_ne]
    intro e
    rw [List.isEmpty_eq_false_iff] at hem
    exact hem (List.length_eq_zero_iff.1 (by omega))
   rw [hem] at hae
   have HAN := Lib.hid (fun (i j : Nat) (hi : i < c.parts.length) (hj : j < c.parts.length) W (h : Below w3.heap.size w3 W) => answerR_any c h8 hem i j hi hj ra rcap W (HV.out.below h))
   have HAE := Lib.hid hae
   have H8 := Lib.hid h8
   clear hae hem
   go_wp2_with fail
   go_loopw [6, 7] (fun ov iv wr => ∃ i : Nat, i ≤ c.parts.length ∧ iv = .int .i64 i ∧ RowsG 100 w3.heap.size (fun b => w3.heap.size ≤ b) wr ov (ansRowsTo c i) ∧ Below w3.heap.size w3 wr) (fun _ iv _ => c.parts.length - (intOf iv).toNat)
   case atStart => exact ⟨0, Nat.zero_le _, rfl, RowsG.nil _ _ _, Below.refl _ _⟩
   case round =>
    obtain ⟨i, hi, rfl, hrows, hbw⟩ := hrel
    have HR := Lib.hid hrows
    have HBW := Lib.hid hbw
    clear hrows hbw
    have e5 : ∀ j, wr.cell? ⟨w.heap.size, j, none⟩ = (#[.string c.ware, .int .i64 c.limit, .int .i64 c.by_, .slice pa c.parts.length pc] : Array Value)[j]? := (HX3.out.below' HBW.out).cell
    by_cases hil : i < c.parts.length
    ·have hin : (i : Int) < (c.parts.length : Int) := by omega
     go_wp2_with fail
     clear e5
     obtain ⟨wo, hwo⟩ : ∃ wo : World, wo = wr := ⟨_, rfl⟩
     subst hwo
     go_loopw [8, 9] (fun rv jv wx => ∃ j : Nat, j ≤ c.parts.length ∧ jv = .int .i64 j ∧ wx.ownsRow wo.heap.size 5 1 rv j (ansRowTo c i j) ∧ Below wo.heap.size wo wx) (fun _ jv _ => c.parts.length - (intOf jv).toNat)
     case atStart => exact ⟨0, Nat.zero_le _, rfl, ownsRow_nil _ _ _ _, Below.refl _ _⟩
     case round =>
      obtain ⟨j, hj, rfl, hrow, hbx⟩ := hrel
      have HRW := Lib.hid hrow
      have HBO := Lib.hid hbx
      clear hrow hbx
      have e6 : ∀ j, wr.cell? ⟨w.heap.size, j, none⟩ = (#[.string c.ware, .int .i64 c.limit, .int .i64 c.by_, .slice pa c.parts.length pc] : Array Value)[j]? := ((HX3.out.below' HBW.out).below' HBO.out).cell
      by_cases hjl : j < c.parts.length
      ·have hjn : (j : Int) < (c.parts.length : Int) := by omega
       go_wp2_with (first
        | (go_at_call 82; (with_reducible refine (HAN.out i j hil hjl _ (HBW.out.trans (HBO.out.mono HBW.out.size))).mono ?_); rintro e w5 ⟨rfl, hb5⟩; obtain ⟨v6, w6, hrun, hown, hb6⟩ := app_one (E := 5) (TT := 100) Tryz.underlying100 info_u8 rfl (by omega) (ownsRow_keep HRW.out (K := fun _ => True) (Keep.of_below' hb5) (fun _ _ => trivial)) (by have := H8.out; omega) (Nat.le_trans HBO.out.size hb5.size) (.int .u8 (ansAt c i j)) rfl; have HRN := Lib.hid hrun; have HOW := Lib.hid hown; have HB6 := Lib.hid ((HBO.out.trans (hb5.mono HBO.out.size)).trans hb6); clear hrun hown hb6 hb5)
        | (at_builtin; refine wpList_app rfl _ _ _ rfl rfl rfl HRN.out ?_))
       go_roundw
       case rel => exact ⟨j + 1, by omega, by go_num, by rw [ansRowTo_succ]; exact HOW.out, HB6.out⟩
       case measure => simp [intOf]; omega
      ·have hje : j = c.parts.length := by omega
       have HJE := Lib.hid hje
       obtain ⟨qa, qcap, hrv, -, -⟩ := ownsRow_own HRW.out
       subst hrv
       obtain ⟨v6, w6, hrun, hown, hb6⟩ := push_own (TT := 97) Tryz.underlying97 info_row8 HR.out HBO.out HRW.out (by rw [ansRowsTo_len]; have := H8.out; omega) HBW.out.size
       have HRN := Lib.hid hrun
       have HOW := Lib.hid hown
       have HB6 := Lib.hid hb6
       clear hrun hown hb6 hje
       go_wp2_with (at_builtin; refine wpList_app rfl _ _ _ rfl rfl rfl HRN.out ?_)
       go_roundw
       case rel =>
        have hbo : Below w3.heap.size wo w6 := (HBO.out.mono HBW.out.size).trans HB6.out
        refine ⟨i + 1, by omega, by go_num, ?_, HBW.out.trans hbo⟩
        rw [ansRowsTo_succ]
        have := HOW.out
        rw [HJE.out] at this
        exact this
       case measure => simp [intOf]; omega
    ·have hie : i = c.parts.length := by omega
     have HIE := Lib.hid hie
     clear hie
     go_wp2_with fail
     go_ret2
     refine ⟨HW3.out.trans (HBW.out.mono HW3.out.size), .inr ⟨HAE.out, _, rfl, ?_⟩⟩
     have := HR.out
     rw [HIE.out] at this
     exact this.less HW3.out.size (fun b hb => by have := HW3.out.size; omega)
  ·have hl0 : (((allR c).length : Int) == 0) = true := by
    rw [List.isEmpty_iff] at hem
    rw [hem]; rfl
   rw [hem] at hae
   have HAE := Lib.hid hae
   clear hae hem
   go_wp2_with fail
   go_ret2
   exact ⟨HW3.out, .inl ⟨by rw [HAE.out]; decide, by rw [HAE.out]; rfl⟩⟩
 ·have HAE := Lib.hid (show askErr c [] = checkCase c by rw [ask_eq (by rw [heq]; exact hz), heq])
  have hzz : (checkCase c != 0) = true := by simpa using hz
  have HZ := Lib.hid hz
  clear hz heq
  go_enter Tryz.func50, Tryz.ntmps50
  go_upto_region 1 with fail
  simp only [HW.out]
  go_wp2_with (go_at_call 49; (with_reducible refine HCK.out.mono ?_); rintro e w2 ⟨rfl, hb2⟩; have HB2 := Lib.hid hb2; clear hb2)
  go_ret2
  exact ⟨HB1.out.trans (HB2.out.mono HB1.out.size), .inl ⟨by rw [HAE.out]; exact HZ.out, by rw [HAE.out]; rfl⟩⟩
end Go.Proofs.YtpjcnkajimgagaaGreat
