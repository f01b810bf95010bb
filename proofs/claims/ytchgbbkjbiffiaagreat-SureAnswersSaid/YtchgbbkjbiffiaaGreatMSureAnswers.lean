/- SureAnswers: the answers, all of them, the open pairs and the classes are the reference's: the law returns true for every input, and its arguments read as before. No condition. -/
/- SureAnswers: the statement. -/
import Derived.Test.YtchgbbkjbiffiaaGreatMAnsR
import Derived.Test.YtchgbbkjbiffiaaGreatMCertain
import Derived.Test.YtchgbbkjbiffiaaGreatMAlive
import Derived.Test.YtchgbbkjbiffiaaGreatMLaw
import Derived.ProofKit
import Derived.JoinedCond
set_option linter.unusedSimpArgs false
set_option linter.unusedVariables false
namespace Go.Proofs.YtchgbbkjbiffiaaGreat
open Go.RowKit
attribute [local go_sem] Oper.semAt_some

theorem nil_pairs (w : World) : Row w none (pairCells []) := Row.nil _ _
set_option maxRecDepth 100000 in
set_option maxHeartbeats 4000000 in
theorem sureAnswers_any (c : Cs) (hf : c.Fit) (pa : Option Addr) (pc : Nat) (_ : c.parts.length ≤ pc) (x : Int) (_ : (Lit.int .i64 x).wf = true) (y : Int) (_ : (Lit.int .i64 y).wf = true) (w : World) (hp : PartsAt w pa c.parts) :
    Calls Tryz.prog 11 #[.agg #[.string c.ware, .int .i64 c.limit, .int .i64 c.by_, .slice pa c.parts.length pc], .int .i64 x, .int .i64 y] w fun e w' => e = .returned (.bool true) ∧ Below w.heap.size w w' := by
  obtain ⟨w1, hw1, hB1, b1⟩ := box_case w c pa pc
  have e1 : ∀ i, w1.cell? ⟨w.heap.size, i, none⟩ = (#[.string c.ware, .int .i64 c.limit, .int .i64 c.by_, .slice pa c.parts.length pc] : Array Value)[i]? := b1.cell
  have HFW := Lib.hid (few_any c hf pa pc w1 (hp.below hB1))
  have HP := Lib.hid hp
  have HW := Lib.hid hw1
  have HB1 := Lib.hid hB1
  have HX := Lib.hid b1
  have HAL := Lib.hid alive_any
  clear hw1 hB1 b1 hp
  rcases hfb : fewB c with _ | _
  · rw [hfb] at HFW
    go_enter Tryz.func11, Tryz.ntmps11
    go_upto_region 1 with fail
    simp only [HW.out]
    go_wp2_with fail
    (with_reducible refine HFW.out.mono ?_)
    rintro e w2 ⟨rfl, hb2⟩
    have HB2 := Lib.hid (HB1.out.trans (hb2.mono HB1.out.size))
    have HX2 := Lib.hid (HX.out.below' hb2)
    clear hb2 e1
    go_wp2_with fail
    (with_reducible refine (HAL.out _).mono ?_)
    rintro e w3 ⟨rfl, hb3⟩
    have HB3 := Lib.hid (HB2.out.trans (hb3.mono HB2.out.size))
    clear hb3
    go_wp2_with fail
    go_ret
    exact ⟨rfl, HB3.out⟩
  rw [hfb] at HFW
  have hsm := few_small hfb
  have h10 : c.parts.length ≤ 10 := hsm.1
  have HA1 := Lib.hid (fun W h => (answerTop_any c hsm pa pc x y W h).mono (fun (e : Ending) (w' : World) ⟨h1, h2⟩ => (⟨h2, h1⟩ : e = Ending.returned (.tuple #[.int .u8 (if askErr c [x, y] = 0 then ansAt c x.toNat y.toNat else 0), .int .i64 (askErr c [x, y])]) ∧ Below W.heap.size W w')))
  have HA2 := Lib.hid (fun W h => (answerTop_ref c hsm pa pc x y W h).mono (fun (e : Ending) (w' : World) ⟨h1, h2⟩ => (⟨h2, h1⟩ : e = Ending.returned (.tuple #[.int .u8 (if askErr c [x, y] = 0 then ansAt c x.toNat y.toNat else 0), .int .i64 (askErr c [x, y])]) ∧ Below W.heap.size W w')))
  generalize (if askErr c [x, y] = 0 then ansAt c x.toNat y.toNat else 0) = av at *
  generalize askErr c [x, y] = ae at *
  by_cases hz : askErr c [] = 0
  · have h8 := check_small (ask_open hz)
    have rows := fun {T : TypeId} {L : List (List Value)} {W : World} {e : Ending} {w' : World} (hh : RowsPost T (askErr c []) L W e w') => (by
      obtain ⟨hb, ⟨h, _⟩ | ⟨_, v, he, hr⟩⟩ := hh
      · exact absurd hz h
      · obtain ⟨a, cap, rfl, _⟩ := hr.at_
        exact ⟨a, cap, he, hr, hb⟩ : ∃ (a : Option Addr) (cap : Nat), e = Ending.returned (.tuple #[.slice a L.length cap, .int .i64 0]) ∧ RowsG T W.heap.size (fun b => W.heap.size ≤ b) w' (.slice a L.length cap) L ∧ Below W.heap.size W w')
    have prs := fun {W : World} {e : Ending} {w' : World} (hh : PairsPost (askErr c []) (openOf c) W e w') => (by
      obtain ⟨hb, ⟨h, _⟩ | ⟨_, v, he, a, cap, hv, hr⟩⟩ := hh
      · exact absurd hz h
      · subst hv
        exact ⟨a, cap, he, hr.row, hb⟩ : ∃ (a : Option Addr) (cap : Nat), e = Ending.returned (.tuple #[.slice a (openOf c).length cap, .int .i64 0]) ∧ Row w' a (pairCells (openOf c)) ∧ Below W.heap.size W w')
    have hrl : (ansRows c).length = c.parts.length := ansRowsTo_len _ _
    have hcl : (certRows c c.parts.length).length = (certTo c c.parts.length).length := by simp [certRows]
    have HAN := Lib.hid (fun W h => (answers_any c hsm pa pc W h).mono (fun (e : Ending) (w' : World) hh => rows hh))
    have HAR := Lib.hid (fun W h => (answers_ref c hsm pa pc W h).mono (fun (e : Ending) (w' : World) hh => rows hh))
    have HCN := Lib.hid (fun W h => (certain_any c hsm pa pc W h).mono (fun (e : Ending) (w' : World) hh => rows hh))
    have HCR := Lib.hid (fun W h => (certain_ref c hsm pa pc W h).mono (fun (e : Ending) (w' : World) hh => rows hh))
    have HON := Lib.hid (fun W h => (open_any c hsm pa pc W h).mono (fun (e : Ending) (w' : World) hh => prs hh))
    have HOR := Lib.hid (fun W h => (open_ref c hsm pa pc W h).mono (fun (e : Ending) (w' : World) hh => prs hh))
    rw [hrl] at HAN HAR
    rw [hcl] at HCN HCR
    have hol : (openOf c).length ≤ 1000000 := by
      have h1 := List.length_filter_le (fun p : Nat × Nat => ansAt c p.1 p.2 == 3) (pairsOf c.parts.length)
      have h2 := pairsOf_len h8
      unfold openOf
      omega
    have hcm := certTo_len c c.parts.length
    have HOL := Lib.hid hol
    have HCM := Lib.hid hcm
    clear hz hsm hf rows prs hrl hcl hol hcm
    go_enter Tryz.func11, Tryz.ntmps11
    go_upto_region 1 with fail
    simp only [HW.out]
    go_wp2_with fail
    (with_reducible refine HFW.out.mono ?_)
    rintro e w2 ⟨rfl, hb2⟩
    have HB2 := Lib.hid (HB1.out.trans (hb2.mono HB1.out.size))
    have HX2 := Lib.hid (HX.out.below' hb2)
    clear hb2 e1
    have e1 : ∀ i, w2.cell? ⟨w.heap.size, i, none⟩ = (#[.string c.ware, .int .i64 c.limit, .int .i64 c.by_, .slice pa c.parts.length pc] : Array Value)[i]? := HX2.out.cell
    go_wp2_with fail
    (with_reducible refine (HA1.out _ (HP.out.below HB2.out)).mono ?_)
    rintro e w2 ⟨rfl, hbn⟩
    have HX2 := Lib.hid (HX2.out.below' hbn)
    have HB2 := Lib.hid (HB2.out.trans (hbn.mono HB2.out.size))
    clear hbn
    try clear e1
    have e1 : ∀ i, w2.cell? ⟨w.heap.size, i, none⟩ = (#[.string c.ware, .int .i64 c.limit, .int .i64 c.by_, .slice pa c.parts.length pc] : Array Value)[i]? := HX2.out.cell
    go_wp2_with fail
    (with_reducible refine (HA2.out _ (HP.out.below HB2.out)).mono ?_)
    rintro e w2 ⟨rfl, hbn⟩
    have HX2 := Lib.hid (HX2.out.below' hbn)
    have HB2 := Lib.hid (HB2.out.trans (hbn.mono HB2.out.size))
    clear hbn
    try clear e1
    have e1 : ∀ i, w2.cell? ⟨w.heap.size, i, none⟩ = (#[.string c.ware, .int .i64 c.limit, .int .i64 c.by_, .slice pa c.parts.length pc] : Array Value)[i]? := HX2.out.cell
    go_wp2_with fail
    (with_reducible refine (HAN.out _ (HP.out.below HB2.out)).mono ?_)
    rintro e w2 ⟨la, lc, rfl, hr, hbn⟩
    have HR := Lib.hid hr
    clear hr
    have HX2 := Lib.hid (HX2.out.below' hbn)
    have HB2 := Lib.hid (HB2.out.trans (hbn.mono HB2.out.size))
    clear hbn
    try clear e1
    have e1 : ∀ i, w2.cell? ⟨w.heap.size, i, none⟩ = (#[.string c.ware, .int .i64 c.limit, .int .i64 c.by_, .slice pa c.parts.length pc] : Array Value)[i]? := HX2.out.cell
    go_wp2_with fail
    (with_reducible refine (HAR.out _ (HP.out.below HB2.out)).mono ?_)
    rintro e w2 ⟨ma, mc, rfl, hr, hbn⟩
    have HM := Lib.hid hr
    have HR := Lib.hid (HR.out.below hbn)
    clear hr
    have HX2 := Lib.hid (HX2.out.below' hbn)
    have HB2 := Lib.hid (HB2.out.trans (hbn.mono HB2.out.size))
    clear hbn
    try clear e1
    go_wp2_with fail
    go_loopw [70] (fun iv wr => ∃ i : Nat, i ≤ c.parts.length ∧ iv = .int .i64 i ∧ Below w2.heap.size w2 wr) (fun iv _ => c.parts.length - (intOf iv).toNat)
    case atStart => exact ⟨0, Nat.zero_le _, rfl, Below.refl _ _⟩
    case round =>
      obtain ⟨i, hi, rfl, hbw⟩ := hrel
      have HBW := Lib.hid hbw
      clear hbw
      by_cases hil : i < c.parts.length
      · have hin : (i : Int) < (c.parts.length : Int) := by omega
        obtain ⟨b, o, ra, rc, hla, c1, hrow⟩ := arow_at (HR.out.below HBW.out) hil
        obtain ⟨b2, o2, rb, rd, hma, c2, hrow2⟩ := arow_at (HM.out.below HBW.out) hil
        subst hla
        subst hma
        have heq := fun W (hW : Below wr.heap.size wr W) => equal8_any ra rb rc rd _ _ W (hrow.below hW) (hrow2.below hW) (by simp; omega) (by simp; omega)
        rw [show decide ((List.range c.parts.length).map (fun y => ansAt c i y) = (List.range c.parts.length).map (fun y => ansAt c i y)) = true from decide_eq_true rfl] at heq
        simp only [List.length_map, List.length_range] at heq
        have HEQ := Lib.hid heq
        have HC := Lib.hid (And.intro c1 c2)
        clear heq hrow hrow2 c1 c2
        go_wp2_with fail
        refine wp_region_heldB 10 [] (by kernel_rfl) (by kernel_rfl) (by kernel_rfl) (by simp) ?_
        intro S hS
        have k0 := fun W (h : S W) => (⟨below_cell (hS W h) HC.out.1, below_cell (hS W h) HC.out.2⟩ : _ ∧ _)
        have K0 := Lib.hid k0
        have HSS := Lib.hid hS
        clear k0 hS
        simp only [List.take_succ_cons, List.take_zero, List.drop_succ_cons, List.drop_zero]
        repeat (first
          | (refine held_not rfl (by rfl) ?_; try (dsimp only); try simp only [Act.put, List.setIfInBounds_toArray, List.set_cons_zero, List.set_cons_succ])
          | (refine held_val (v := ?_) rfl (by rfl) ?_ ?_; rotate_left; (· (intro W hW; obtain ⟨q0, q1⟩ := K0.out W hW; go_simp; try with_reducible rfl)); try (dsimp only); try simp only [Act.put, List.setIfInBounds_toArray, List.set_cons_zero, List.set_cons_succ])
          | (refine held_skip rfl (by rfl) ?_ ?_; (· (intro W hW; obtain ⟨q0, q1⟩ := K0.out W hW; go_simp; try with_reducible rfl)); try (dsimp only); try simp only [Act.put, List.setIfInBounds_toArray, List.set_cons_zero, List.set_cons_succ])
          | (refine held_call (v := .bool true) (f := 53) (args := #[.slice ra c.parts.length rc, .slice rb c.parts.length rd]) rfl (by rfl) ?_ ?_ ?_; (· (intro W hW; go_simp; done)); (· exact (fun W hW => HEQ.out W (HSS.out W hW))); try (dsimp only); try simp only [Act.put, List.setIfInBounds_toArray, List.set_cons_zero, List.set_cons_succ]))
        refine held_nil ?_
        intro τ hτ wn hW hO
        obtain rfl := laid0 hτ
        have HBN := Lib.hid (HBW.out.trans ((HSS.out wn hW).mono HBW.out.size))
        clear hτ hO hW K0 HSS
        simp only [overs, List.foldl_nil]
        go_wp2_with fail
        go_roundw
        case rel => exact ⟨i + 1, by omega, by go_num, HBN.out⟩
        case measure => simp [intOf]; omega
      · have HB2 := Lib.hid (HB2.out.trans (HBW.out.mono HB2.out.size))
        have HX2 := Lib.hid (HX2.out.below' HBW.out)
        clear HBW HR HM
        obtain ⟨w2', hw2'⟩ : ∃ w2', wr = w2' := ⟨_, rfl⟩
        subst hw2'
        have e1 : ∀ i, wr.cell? ⟨w.heap.size, i, none⟩ = (#[.string c.ware, .int .i64 c.limit, .int .i64 c.by_, .slice pa c.parts.length pc] : Array Value)[i]? := HX2.out.cell
        go_wp2_with fail
        (with_reducible refine (HON.out _ (HP.out.below HB2.out)).mono ?_)
        rintro e w2 ⟨oa, oc, rfl, hr, hbn⟩
        have HO1 := Lib.hid hr
        clear hr
        have HX2 := Lib.hid (HX2.out.below' hbn)
        have HB2 := Lib.hid (HB2.out.trans (hbn.mono HB2.out.size))
        clear hbn
        try clear e1
        have e1 : ∀ i, w2.cell? ⟨w.heap.size, i, none⟩ = (#[.string c.ware, .int .i64 c.limit, .int .i64 c.by_, .slice pa c.parts.length pc] : Array Value)[i]? := HX2.out.cell
        go_wp2_with fail
        (with_reducible refine (HOR.out _ (HP.out.below HB2.out)).mono ?_)
        rintro e w2 ⟨pa2, pc2, rfl, hr, hbn⟩
        have HO2 := Lib.hid hr
        have HO1 := Lib.hid (HO1.out.below hbn)
        clear hr
        have HX2 := Lib.hid (HX2.out.below' hbn)
        have HB2 := Lib.hid (HB2.out.trans (hbn.mono HB2.out.size))
        clear hbn
        try clear e1
        have e1 : ∀ i, w2.cell? ⟨w.heap.size, i, none⟩ = (#[.string c.ware, .int .i64 c.limit, .int .i64 c.by_, .slice pa c.parts.length pc] : Array Value)[i]? := HX2.out.cell
        go_wp2_with fail
        (with_reducible refine (HCN.out _ (HP.out.below HB2.out)).mono ?_)
        rintro e w2 ⟨ka, kc, rfl, hr, hbn⟩
        have HK1 := Lib.hid hr
        have HO1 := Lib.hid (HO1.out.below hbn)
        have HO2 := Lib.hid (HO2.out.below hbn)
        clear hr
        have HX2 := Lib.hid (HX2.out.below' hbn)
        have HB2 := Lib.hid (HB2.out.trans (hbn.mono HB2.out.size))
        clear hbn
        try clear e1
        have e1 : ∀ i, w2.cell? ⟨w.heap.size, i, none⟩ = (#[.string c.ware, .int .i64 c.limit, .int .i64 c.by_, .slice pa c.parts.length pc] : Array Value)[i]? := HX2.out.cell
        go_wp2_with fail
        (with_reducible refine (HCR.out _ (HP.out.below HB2.out)).mono ?_)
        rintro e w2 ⟨ja, jc, rfl, hr, hbn⟩
        have HK2 := Lib.hid hr
        have HK1 := Lib.hid (HK1.out.below hbn)
        have HO1 := Lib.hid (HO1.out.below hbn)
        have HO2 := Lib.hid (HO2.out.below hbn)
        clear hr
        have HX2 := Lib.hid (HX2.out.below' hbn)
        have HB2 := Lib.hid (HB2.out.trans (hbn.mono HB2.out.size))
        clear hbn
        try clear e1
        go_wp2_with fail
        (with_reducible refine (HAL.out _).mono ?_)
        rintro e w3 ⟨rfl, hb3⟩
        have hsp := fun W (hW : Below w3.heap.size w3 W) => samePairs_ref oa pa2 oc pc2 (openOf c) (openOf c) W ((HO1.out.below hb3).below hW) ((HO2.out.below hb3).below hW) HOL.out HOL.out
        rw [decide_eq_true (rfl : openOf c = openOf c)] at hsp
        have her := fun W (hW : Below w3.heap.size w3 W) => equalRows_any (certTo c c.parts.length) (certTo c c.parts.length) (by have := HCM.out; omega) (by have := HCM.out; omega) (fun z hz => by obtain ⟨r, _, rfl⟩ := List.mem_map.1 hz; have := clsTo_len c r c.parts.length; omega) (fun z hz => by obtain ⟨r, _, rfl⟩ := List.mem_map.1 hz; have := clsTo_len c r c.parts.length; omega) ka ja kc jc W ((HK1.out.below hb3).below hW) ((HK2.out.below hb3).below hW)
        rw [decide_eq_true (rfl : certTo c c.parts.length = certTo c c.parts.length)] at her
        have HSP := Lib.hid hsp
        have HER := Lib.hid her
        have HB3 := Lib.hid (HB2.out.trans (hb3.mono HB2.out.size))
        clear hsp her hb3
        go_wp2_with fail
        (with_reducible refine (HSP.out _ (Below.refl _ _)).mono ?_)
        rintro e w4 ⟨rfl, hb4⟩
        have HB4 := Lib.hid hb4
        clear hb4
        go_wp2_with fail
        (with_reducible refine (HER.out _ HB4.out).mono ?_)
        rintro e w5 ⟨rfl, hb5⟩
        have HB5 := Lib.hid ((HB3.out.trans (HB4.out.mono HB3.out.size)).trans (hb5.mono (by have := HB3.out.size; have := HB4.out.size; omega)))
        clear hb5
        go_wp2_with fail
        go_ret
        exact ⟨by simp, HB5.out⟩
  · have rows := fun {T : TypeId} {L : List (List Value)} {W : World} {e : Ending} {w' : World} (hh : RowsPost T (askErr c []) L W e w') => (by
      obtain ⟨hb, ⟨_, he⟩ | ⟨h, _⟩⟩ := hh
      · exact ⟨he, hb⟩
      · exact absurd h hz : e = Ending.returned (.tuple #[.slice none 0 0, .int .i64 (askErr c [])]) ∧ Below W.heap.size W w')
    have prs := fun {W : World} {e : Ending} {w' : World} (hh : PairsPost (askErr c []) (openOf c) W e w') => (by
      obtain ⟨hb, ⟨_, he⟩ | ⟨h, _⟩⟩ := hh
      · exact ⟨he, hb⟩
      · exact absurd h hz : e = Ending.returned (.tuple #[.slice none 0 0, .int .i64 (askErr c [])]) ∧ Below W.heap.size W w')
    have HAN := Lib.hid (fun W h => (answers_any c hsm pa pc W h).mono (fun (e : Ending) (w' : World) hh => rows hh))
    have HAR := Lib.hid (fun W h => (answers_ref c hsm pa pc W h).mono (fun (e : Ending) (w' : World) hh => rows hh))
    have HCN := Lib.hid (fun W h => (certain_any c hsm pa pc W h).mono (fun (e : Ending) (w' : World) hh => rows hh))
    have HCR := Lib.hid (fun W h => (certain_ref c hsm pa pc W h).mono (fun (e : Ending) (w' : World) hh => rows hh))
    have HON := Lib.hid (fun W h => (open_any c hsm pa pc W h).mono (fun (e : Ending) (w' : World) hh => prs hh))
    have HOR := Lib.hid (fun W h => (open_ref c hsm pa pc W h).mono (fun (e : Ending) (w' : World) hh => prs hh))
    have HSP := Lib.hid (fun W => samePairs_ref none none 0 0 [] [] W (Row.nil _ _) (Row.nil _ _) (by simp) (by simp))
    have HER := Lib.hid (fun W => equalRows_any [] [] (by simp) (by simp) (by simp) (by simp) none none 0 0 W (RowsG.nil (T := 36) 0 (fun _ => True) W) (RowsG.nil (T := 36) 0 (fun _ => True) W))
    rw [decide_eq_true (rfl : ([] : List (Nat × Nat)) = [])] at HSP
    rw [decide_eq_true (rfl : ([] : List (List Nat)) = [])] at HER
    simp only [List.length_nil] at HSP HER
    clear hz hsm hf rows prs
    generalize askErr c [] = er at *
    go_enter Tryz.func11, Tryz.ntmps11
    go_upto_region 1 with fail
    simp only [HW.out]
    go_wp2_with fail
    (with_reducible refine HFW.out.mono ?_)
    rintro e w2 ⟨rfl, hb2⟩
    have HB2 := Lib.hid (HB1.out.trans (hb2.mono HB1.out.size))
    have HX2 := Lib.hid (HX.out.below' hb2)
    clear hb2 e1
    have e1 : ∀ i, w2.cell? ⟨w.heap.size, i, none⟩ = (#[.string c.ware, .int .i64 c.limit, .int .i64 c.by_, .slice pa c.parts.length pc] : Array Value)[i]? := HX2.out.cell
    go_wp2_with fail
    (with_reducible refine (HA1.out _ (HP.out.below HB2.out)).mono ?_)
    rintro e w2 ⟨rfl, hbn⟩
    have HX2 := Lib.hid (HX2.out.below' hbn)
    have HB2 := Lib.hid (HB2.out.trans (hbn.mono HB2.out.size))
    clear hbn
    try clear e1
    have e1 : ∀ i, w2.cell? ⟨w.heap.size, i, none⟩ = (#[.string c.ware, .int .i64 c.limit, .int .i64 c.by_, .slice pa c.parts.length pc] : Array Value)[i]? := HX2.out.cell
    go_wp2_with fail
    (with_reducible refine (HA2.out _ (HP.out.below HB2.out)).mono ?_)
    rintro e w2 ⟨rfl, hbn⟩
    have HX2 := Lib.hid (HX2.out.below' hbn)
    have HB2 := Lib.hid (HB2.out.trans (hbn.mono HB2.out.size))
    clear hbn
    try clear e1
    have e1 : ∀ i, w2.cell? ⟨w.heap.size, i, none⟩ = (#[.string c.ware, .int .i64 c.limit, .int .i64 c.by_, .slice pa c.parts.length pc] : Array Value)[i]? := HX2.out.cell
    go_wp2_with fail
    (with_reducible refine (HAN.out _ (HP.out.below HB2.out)).mono ?_)
    rintro e w2 ⟨rfl, hbn⟩
    have HX2 := Lib.hid (HX2.out.below' hbn)
    have HB2 := Lib.hid (HB2.out.trans (hbn.mono HB2.out.size))
    clear hbn
    try clear e1
    have e1 : ∀ i, w2.cell? ⟨w.heap.size, i, none⟩ = (#[.string c.ware, .int .i64 c.limit, .int .i64 c.by_, .slice pa c.parts.length pc] : Array Value)[i]? := HX2.out.cell
    go_wp2_with fail
    (with_reducible refine (HAR.out _ (HP.out.below HB2.out)).mono ?_)
    rintro e w2 ⟨rfl, hbn⟩
    have HX2 := Lib.hid (HX2.out.below' hbn)
    have HB2 := Lib.hid (HB2.out.trans (hbn.mono HB2.out.size))
    clear hbn
    try clear e1
    go_wp2_with fail
    obtain ⟨wq, hwq⟩ : ∃ wq : World, wq = w2 := ⟨_, rfl⟩
    subst hwq
    go_loopw [70] (fun iv wx => iv = .int .i64 0 ∧ wq = wx) (fun _ _ => 0)
    case atStart => exact ⟨rfl, rfl⟩
    case round =>
      obtain ⟨rfl, rfl⟩ := hrel
      have e1 : ∀ i, wq.cell? ⟨w.heap.size, i, none⟩ = (#[.string c.ware, .int .i64 c.limit, .int .i64 c.by_, .slice pa c.parts.length pc] : Array Value)[i]? := HX2.out.cell
      go_wp2_with fail
      (with_reducible refine (HON.out _ (HP.out.below HB2.out)).mono ?_)
      rintro e w2 ⟨rfl, hbn⟩
      have HX2 := Lib.hid (HX2.out.below' hbn)
      have HB2 := Lib.hid (HB2.out.trans (hbn.mono HB2.out.size))
      clear hbn
      try clear e1
      have e1 : ∀ i, w2.cell? ⟨w.heap.size, i, none⟩ = (#[.string c.ware, .int .i64 c.limit, .int .i64 c.by_, .slice pa c.parts.length pc] : Array Value)[i]? := HX2.out.cell
      go_wp2_with fail
      (with_reducible refine (HOR.out _ (HP.out.below HB2.out)).mono ?_)
      rintro e w2 ⟨rfl, hbn⟩
      have HX2 := Lib.hid (HX2.out.below' hbn)
      have HB2 := Lib.hid (HB2.out.trans (hbn.mono HB2.out.size))
      clear hbn
      try clear e1
      have e1 : ∀ i, w2.cell? ⟨w.heap.size, i, none⟩ = (#[.string c.ware, .int .i64 c.limit, .int .i64 c.by_, .slice pa c.parts.length pc] : Array Value)[i]? := HX2.out.cell
      go_wp2_with fail
      (with_reducible refine (HCN.out _ (HP.out.below HB2.out)).mono ?_)
      rintro e w2 ⟨rfl, hbn⟩
      have HX2 := Lib.hid (HX2.out.below' hbn)
      have HB2 := Lib.hid (HB2.out.trans (hbn.mono HB2.out.size))
      clear hbn
      try clear e1
      have e1 : ∀ i, w2.cell? ⟨w.heap.size, i, none⟩ = (#[.string c.ware, .int .i64 c.limit, .int .i64 c.by_, .slice pa c.parts.length pc] : Array Value)[i]? := HX2.out.cell
      go_wp2_with fail
      (with_reducible refine (HCR.out _ (HP.out.below HB2.out)).mono ?_)
      rintro e w2 ⟨rfl, hbn⟩
      have HX2 := Lib.hid (HX2.out.below' hbn)
      have HB2 := Lib.hid (HB2.out.trans (hbn.mono HB2.out.size))
      clear hbn
      try clear e1
      go_wp2_with fail
      (with_reducible refine (HAL.out _).mono ?_)
      rintro e w2 ⟨rfl, hbn⟩
      have HX2 := Lib.hid (HX2.out.below' hbn)
      have HB2 := Lib.hid (HB2.out.trans (hbn.mono HB2.out.size))
      clear hbn
      try clear e1
      go_wp2_with fail
      (with_reducible refine (HSP.out _).mono ?_)
      rintro e w2 ⟨rfl, hbn⟩
      have HX2 := Lib.hid (HX2.out.below' hbn)
      have HB2 := Lib.hid (HB2.out.trans (hbn.mono HB2.out.size))
      clear hbn
      try clear e1
      go_wp2_with fail
      (with_reducible refine (HER.out _).mono ?_)
      rintro e w2 ⟨rfl, hbn⟩
      have HX2 := Lib.hid (HX2.out.below' hbn)
      have HB2 := Lib.hid (HB2.out.trans (hbn.mono HB2.out.size))
      clear hbn
      try clear e1
      go_wp2_with fail
      go_ret
      exact ⟨by simp, HB2.out⟩
end Go.Proofs.YtchgbbkjbiffiaaGreat
namespace Go.Proofs.YtchgbbkjbiffiaaGreat.SureAnswersEnd
open Go.ChangeShapes Go.WideShapes Go.ChangeAt Go.RowKit

theorem own : ownKnob Tryz.prog.godebug = none := by kernel_rfl

set_option maxRecDepth 100000 in
theorem lifted (os : Os) (started : os.Started) (H : Type) (enc : TypeId × Value → H) :
    ReturnsInHanded {} Tryz.checked os 11 .any (Rows.sureAnswersSpec.pre6 enc Tryz.prog Tryz.f11 Rows.sureAnswersRow.domain false) (Rows.sureAnswersSpec.post enc Tryz.prog Tryz.f11 false true false false) := by
  refine returnsInHanded_of_change (C := Tryz.checked) own started (by kernel_rfl) Tryz.func11
    (ChangeSpec.witness6 (enc := enc) (C := Tryz.checked) false ⟨#[], #[.agg #[.string ⟨#[]⟩, .int .i64 0, .int .i64 0, .slice none 0 0], .int .i64 0, .int .i64 0], []⟩ 8 (by kernel_rfl) (by kernel_rfl) (by kernel_rfl) (by kernel_rfl)) ?_
  intro W base args ds gs before hval0 hW hcnd _
  have hval : ∀ (j : Nat) t v, Tryz.f11.params[j]? = some t → args[j]? = some v → Value.okWide Tryz.prog W .any base t v := hval0
  have hW' := hW
  obtain ⟨p, q, hA0, hV, rfl, hfz, hnd⟩ := hW
  have hA : DataW.TrodAll enc Tryz.prog W 0 (fun _ => true) true Tryz.f11.params.toList args.toList ds p := hA0
  rw [Tryz.params11] at hA hval
  obtain ⟨v0, vs0, d0, ds0, p0, q0, hargs, rfl, rfl, h0, r0⟩ := trodAll_cons hA
  obtain ⟨v1, vs1, d1, ds1, p1, q1, rfl, rfl, rfl, h1, r1⟩ := trodAll_cons r0
  obtain ⟨v2, vs2, d2, ds2, p2, q2, rfl, rfl, rfl, h2, r2⟩ := trodAll_cons r1
  obtain ⟨rfl, rfl, rfl⟩ := trodAll_nil r2
  obtain rfl : args = #[v0, v1, v2] := by cases args; simp_all
  obtain ⟨rfl, rfl⟩ := trodVars_none hV
  obtain ⟨c0, pa0, pc0, rfl, hp0, hpc0, hfit0, hlw0⟩ := case_of (hval 0 _ v0 rfl rfl) h0
  obtain ⟨a1, rfl, rfl, rfl, w1⟩ := open_int Tryz.underlying3 (hval 1 _ v1 rfl rfl) h1
  obtain ⟨a2, rfl, rfl, rfl, w2⟩ := open_int Tryz.underlying3 (hval 2 _ v2 rfl rfl) h2
  clear hA0 hval0
  refine (sureAnswers_any c0 hfit0 pa0 pc0 hpc0 a1 w1 a2 w2 W hp0).mono fun e W' ⟨he, hb⟩ => ?_
  subst he
  exact ⟨_, rfl, law_post rfl rfl (of_decide_eq_true (by kernel_rfl)) hW' rfl rfl rfl hb⟩

theorem over : Rows.sureAnswersRow.holds Tryz.pinned (OpenSpec.ofChange Rows.sureAnswersSpec) :=
  OpenClaim.holds_of_wide 11 Tryz.f11 rfl rfl rfl rfl rfl rfl rfl ⟨rfl, rfl, rfl, rfl, rfl⟩ rfl rfl rfl rfl rfl (by kernel_rfl) Tryz.func11 (by kernel_rfl)
    (of_decide_eq_true (by kernel_rfl)) (by unfold Func.isWrapper; first | (rw [if_pos (by decide +kernel)]; kernel_rfl) | (rw [if_neg (by decide +kernel)]; exact ⟨rfl, rfl⟩))
    (fun os started H enc _ => lifted os started H enc)

theorem proved : Rows.SureAnswersSaid :=
  over
#print axioms proved
end Go.Proofs.YtchgbbkjbiffiaaGreat.SureAnswersEnd
