/- SureEither: a reassembly or a refutation, never both; where some refutation is accepted no list that fits has the two parts so: the law returns true for every input, and its arguments read as before. No condition. -/
/- SureEither: the statement. -/
import Derived.Test.YtoaacllpegfcjaaGreatMLaw
import Derived.ProofKit
import Derived.JoinedCond
set_option linter.unusedSimpArgs false
set_option linter.unusedVariables false
namespace Go.Proofs.YtoaacllpegfcjaaGreat
open Go.RowKit
attribute [local go_sem] Oper.semAt_some

set_option maxRecDepth 100000 in
set_option maxHeartbeats 8000000 in
theorem sureEither_any (c : Cs) (hf : c.Fit) (pa : Option Addr) (pc : Nat) (_ : c.parts.length ≤ pc) (x : Int) (_ : (Lit.int .i64 x).wf = true) (y : Int) (_ : (Lit.int .i64 y).wf = true) (t : Bool)
    (la : Option Addr) (L : List Br) (lc : Nat) (hLk : L.length ≤ lc) (hLm : lc ≤ maxLen) (hLs : ∀ z ∈ L, z.kind < 256 ∧ z.many.length ≤ maxLen) (na : Option Addr) (l : List Int) (nc : Nat) (hk : l.length ≤ nc) (hm : nc ≤ maxLen) (w : World)
    (hp : PartsAt w pa c.parts) (hbr : BrsAt w la L) (hi : Ints w na l) :
    Calls Tryz.prog 4 #[.agg #[.string c.ware, .int .i64 c.limit, .int .i64 c.by_, .slice pa c.parts.length pc], .int .i64 x, .int .i64 y, .bool t, .slice la L.length lc, .slice na l.length nc] w fun e w' => e = .returned (.bool true) ∧ Below w.heap.size w w' := by
  have hll : l.length ≤ maxLen := Nat.le_trans hk hm
  have hsl := fun W h => slight_any L la lc (Nat.le_trans hLk hLm) (fun z hz => (hLs z hz).2) W h
  unfold maxLen at hll
  obtain ⟨w1, hw1, hB1, b1⟩ := box_case w c pa pc
  have e1 : ∀ i, w1.cell? ⟨w.heap.size, i, none⟩ = (#[.string c.ware, .int .i64 c.limit, .int .i64 c.by_, .slice pa c.parts.length pc] : Array Value)[i]? := b1.cell
  have HFW := Lib.hid (few_any c hf pa pc w1 (hp.below hB1))
  have HP := Lib.hid hp
  have HI := Lib.hid hi
  have HBR := Lib.hid hbr
  have HW := Lib.hid hw1
  have HB1 := Lib.hid hB1
  have HX := Lib.hid b1
  have HAL := Lib.hid alive_any
  have HSL := Lib.hid hsl
  have HLS := Lib.hid hLs
  clear hw1 hB1 b1 hp hi hk hm hbr hsl hLm hLs
  rcases hfb : fewB c with _ | _
  · rw [hfb] at HFW
    go_enter Tryz.func4, Tryz.ntmps4
    go_upto_region 1 with fail
    simp only [HW.out]
    go_wp2_with fail
    (with_reducible refine HFW.out.mono ?_)
    rintro e w2 ⟨rfl, hb2⟩
    have HB2 := Lib.hid (HB1.out.trans (hb2.mono HB1.out.size))
    have HX2 := Lib.hid (HX.out.below' hb2)
    clear hb2 e1
    go_wp2_with fail
    (with_reducible refine (HAL.out _).mono ?_)
    rintro e w3 ⟨rfl, hb3⟩
    have HB3 := Lib.hid (HB2.out.trans (hb3.mono HB2.out.size))
    clear hb3
    go_wp2_with fail
    go_ret
    exact ⟨rfl, HB3.out⟩
  rw [hfb] at HFW
  have hsm := few_small hfb
  rcases hsb : slightB L with _ | _
  · rw [hsb] at HSL
    go_enter Tryz.func4, Tryz.ntmps4
    go_upto_region 1 with fail
    simp only [HW.out]
    go_wp2_with fail
    (with_reducible refine HFW.out.mono ?_)
    rintro e w2 ⟨rfl, hb2⟩
    have HB2 := Lib.hid (HB1.out.trans (hb2.mono HB1.out.size))
    have HX2 := Lib.hid (HX.out.below' hb2)
    clear hb2 e1
    go_wp2_with fail
    (with_reducible refine (HSL.out _ (HBR.out.below HB2.out)).mono ?_)
    rintro e w2 ⟨rfl, hbn⟩
    have HX2 := Lib.hid (HX2.out.below' hbn)
    have HB2 := Lib.hid (HB2.out.trans (hbn.mono HB2.out.size))
    clear hbn
    try clear e1
    go_wp2_with fail
    (with_reducible refine (HAL.out _).mono ?_)
    rintro e w3 ⟨rfl, hb3⟩
    have HB3 := Lib.hid (HB2.out.trans (hb3.mono HB2.out.size))
    clear hb3
    go_wp2_with fail
    go_ret
    exact ⟨rfl, HB3.out⟩
  rw [hsb] at HSL
  have hsl := slight_len hsb
  have hls : ∀ z ∈ L, z.Small := fun z hz => ⟨(HLS.out z hz).1, by have := hsl.2 z hz; omega⟩
  by_cases hl20 : 20 < l.length
  · go_enter Tryz.func4, Tryz.ntmps4
    go_upto_region 1 with fail
    simp only [HW.out]
    go_wp2_with fail
    (with_reducible refine HFW.out.mono ?_)
    rintro e w2 ⟨rfl, hb2⟩
    have HB2 := Lib.hid (HB1.out.trans (hb2.mono HB1.out.size))
    have HX2 := Lib.hid (HX.out.below' hb2)
    clear hb2 e1
    go_wp2_with fail
    (with_reducible refine (HSL.out _ (HBR.out.below HB2.out)).mono ?_)
    rintro e w2 ⟨rfl, hbn⟩
    have HX2 := Lib.hid (HX2.out.below' hbn)
    have HB2 := Lib.hid (HB2.out.trans (hbn.mono HB2.out.size))
    clear hbn
    try clear e1
    go_wp2_with fail
    (with_reducible refine (HAL.out _).mono ?_)
    rintro e w3 ⟨rfl, hb3⟩
    have HB3 := Lib.hid (HB2.out.trans (hb3.mono HB2.out.size))
    clear hb3
    go_wp2_with fail
    go_ret
    exact ⟨rfl, HB3.out⟩
  have hw1 := fun W h => with_sees c hsm pa pc x y t W h
  have hrf := fun W h => refuteF_any c hsm pa pc x y t W h
  by_cases hz : openErr c [x, y] = 0
  · have hx := open_in hz x (by simp)
    have hy := open_in hz y (by simp)
    obtain ⟨a, rfl⟩ := Int.eq_ofNat_of_zero_le hx.1
    obtain ⟨b, rfl⟩ := Int.eq_ofNat_of_zero_le hy.1
    have ha : a < c.parts.length := by omega
    have hb : b < c.parts.length := by omega
    have h8 := check_small hz
    have hlim := check_lim (open_check hz)
    have hfi := fun W h1 h2 => (fits_any c hsm pa pc na l nc (by omega) W h1 h2).mono (fun (e : Ending) (w' : World) ⟨h1, h2⟩ => (⟨h2, h1⟩ : e = Ending.returned (.tuple #[.bool (checkCase c == 0 && fitsB c l), .int .i64 (checkCase c)]) ∧ Below W.heap.size W w'))
    rw [open_check hz, show ((0 : Int) == 0 && fitsB c l) = fitsB c l from rfl] at hfi
    have hch := fun W h1 h2 => (checkRefute_any c hsm pa pc a b t L hsl.1 hls la lc W h1 h2 hLk).mono (fun (e : Ending) (w' : World) ⟨h1, h2⟩ => (⟨h2, h1⟩ : e = Ending.returned (.tuple #[.bool (openErr c [(a : Int), (b : Int)] == 0 && (refutedB c c.parts.length (beginD (a : Int).toNat (b : Int).toNat t) L).isSome), .int .i64 (openErr c [(a : Int), (b : Int)])]) ∧ Below W.heap.size W w'))
    simp only [hz, Int.toNat_natCast] at hch
    rw [show ((0 : Int) == 0 && (refutedB c c.parts.length (beginD a b t) L).isSome) = (refutedB c c.parts.length (beginD a b t) L).isSome from rfl] at hch
    simp only [hz, seenB, if_true, Int.toNat_natCast] at hw1 hrf
    have HFI := Lib.hid hfi
    clear hfi hx hy
    rcases hfo : (allR c).find? (asPair a b t) with _ | r
    · obtain ⟨R, hR, hRok⟩ := refute_law h8 hlim.1 ha hb hfo
      have hRs := refuteR_small h8 hlim.2 ha hR
      have hc2 := fun W ra rc h1 h2 h3 => (checkRefute_any c hsm pa pc a b t R (by have := hRs.2; omega) hRs.1 ra rc W h1 h2 h3).mono (fun (e : Ending) (w' : World) ⟨h1, h2⟩ => (⟨h2, h1⟩ : e = Ending.returned (.tuple #[.bool (openErr c [(a : Int), (b : Int)] == 0 && (refutedB c c.parts.length (beginD (a : Int).toNat (b : Int).toNat t) R).isSome), .int .i64 (openErr c [(a : Int), (b : Int)])]) ∧ Below W.heap.size W w'))
      simp only [hz, Int.toNat_natCast, hRok] at hc2
      rw [show ((0 : Int) == 0 && true) = true from rfl] at hc2
      simp only [hfo, hR] at hw1 hrf
      have hrf2 := fun W h => (hrf W h).mono (fun (e : Ending) (w' : World) hh => (by
        obtain ⟨hbb, ⟨h, _⟩ | ⟨_, h, _⟩ | ⟨_, _, h, _⟩ | ⟨_, _, z, a', cap, h, he, h1, h2⟩⟩ := hh
        · exact absurd rfl h
        · cases h
        · cases h
        · cases h; exact ⟨a', cap, he, h1, h2, hbb⟩ : ∃ (a' : Option Addr) (cap : Nat), e = Ending.returned (.tuple #[.slice a' R.length cap, .bool true, .int .i64 0]) ∧ BrsAt w' a' R ∧ R.length ≤ cap ∧ Below W.heap.size W w'))
      have hw3 := fun W h => (hw1 W h).mono (fun (e : Ending) (w' : World) ⟨a', cap, h1, _, h2⟩ => (⟨a', cap, h1, h2⟩ : ∃ (a' : Option Addr) (cap : Nat), e = Ending.returned (.tuple #[.slice a' 0 cap, .bool false, .int .i64 0]) ∧ Below W.heap.size W w'))
      have hchk := fun h : (refutedB c c.parts.length (beginD a b t) L).isSome = true => check_law h8 hlim.1 ha hb h
      have HW1 := Lib.hid hw3
      have HRF := Lib.hid hrf2
      have HC2 := Lib.hid hc2
      have HCK := Lib.hid hchk
      clear hw1 hw3 hrf hrf2 hc2 hchk hfo hR hRok hRs hz hsm hlim
      rcases hsh : (refutedB c c.parts.length (beginD a b t) L).isSome with _ | _
      · rw [hsh] at hch
        have HCH := Lib.hid hch
        clear hch hsh
        rcases hfv : fitsB c l with _ | _
        · rw [hfv] at HFI
          clear hfv
          go_enter Tryz.func4, Tryz.ntmps4
          go_upto_region 1 with fail
          simp only [HW.out]
          go_wp2_with fail
          (with_reducible refine HFW.out.mono ?_)
          rintro e w2 ⟨rfl, hb2⟩
          have HB2 := Lib.hid (HB1.out.trans (hb2.mono HB1.out.size))
          have HX2 := Lib.hid (HX.out.below' hb2)
          clear hb2 e1
          go_wp2_with fail
          (with_reducible refine (HSL.out _ (HBR.out.below HB2.out)).mono ?_)
          rintro e w2 ⟨rfl, hbn⟩
          have HX2 := Lib.hid (HX2.out.below' hbn)
          have HB2 := Lib.hid (HB2.out.trans (hbn.mono HB2.out.size))
          clear hbn
          try clear e1
          have e1 : ∀ i, w2.cell? ⟨w.heap.size, i, none⟩ = (#[.string c.ware, .int .i64 c.limit, .int .i64 c.by_, .slice pa c.parts.length pc] : Array Value)[i]? := HX2.out.cell
          go_wp2_with fail
          (with_reducible refine (HW1.out _ (HP.out.below HB2.out)).mono ?_)
          rintro e w2 ⟨a3, c3, rfl, hbn⟩
          have HX2 := Lib.hid (HX2.out.below' hbn)
          have HB2 := Lib.hid (HB2.out.trans (hbn.mono HB2.out.size))
          clear hbn
          try clear e1
          have e1 : ∀ i, w2.cell? ⟨w.heap.size, i, none⟩ = (#[.string c.ware, .int .i64 c.limit, .int .i64 c.by_, .slice pa c.parts.length pc] : Array Value)[i]? := HX2.out.cell
          go_wp2_with fail
          (with_reducible refine (HRF.out _ (HP.out.below HB2.out)).mono ?_)
          rintro e w2 ⟨a4, c4, rfl, hr, hRc, hbn⟩
          have HR := Lib.hid hr
          clear hr
          have HX2 := Lib.hid (HX2.out.below' hbn)
          have HB2 := Lib.hid (HB2.out.trans (hbn.mono HB2.out.size))
          clear hbn
          try clear e1
          have e1 : ∀ i, w2.cell? ⟨w.heap.size, i, none⟩ = (#[.string c.ware, .int .i64 c.limit, .int .i64 c.by_, .slice pa c.parts.length pc] : Array Value)[i]? := HX2.out.cell
          go_wp2_with fail
          (with_reducible refine (HCH.out _ (HP.out.below HB2.out) (HBR.out.below HB2.out)).mono ?_)
          rintro e w2 ⟨rfl, hbn⟩
          have HR := Lib.hid (HR.out.below hbn)
          have HX2 := Lib.hid (HX2.out.below' hbn)
          have HB2 := Lib.hid (HB2.out.trans (hbn.mono HB2.out.size))
          clear hbn
          try clear e1
          have e1 : ∀ i, w2.cell? ⟨w.heap.size, i, none⟩ = (#[.string c.ware, .int .i64 c.limit, .int .i64 c.by_, .slice pa c.parts.length pc] : Array Value)[i]? := HX2.out.cell
          go_wp2_with fail
          (with_reducible refine (HFI.out _ (HP.out.below HB2.out) (HI.out.below HB2.out)).mono ?_)
          rintro e w2 ⟨rfl, hbn⟩
          have HR := Lib.hid (HR.out.below hbn)
          have HX2 := Lib.hid (HX2.out.below' hbn)
          have HB2 := Lib.hid (HB2.out.trans (hbn.mono HB2.out.size))
          clear hbn
          try clear e1
          go_wp2_with fail
          refine wp_region_heldB 36 [] (by kernel_rfl) (by kernel_rfl) (by kernel_rfl) (by simp) ?_
          intro S hS
          have K0 := Lib.hid (fun W (_ : S W) => trivial)
          have HS := Lib.hid hS
          clear hS
          simp only [List.take_succ_cons, List.take_zero, List.drop_succ_cons, List.drop_zero]
          repeat (first
            | (refine held_not rfl (by rfl) ?_; try (dsimp only); try simp only [Act.put, List.setIfInBounds_toArray, List.set_cons_zero, List.set_cons_succ])
            | (refine held_val (v := ?_) rfl (by rfl) ?_ ?_; rotate_left; (· (intro W hW; go_simp; try with_reducible rfl)); try (dsimp only); try simp only [Act.put, List.setIfInBounds_toArray, List.set_cons_zero, List.set_cons_succ])
            | (refine held_skip rfl (by rfl) ?_ ?_; (· (intro W hW; go_simp; try with_reducible rfl)); try (dsimp only); try simp only [Act.put, List.setIfInBounds_toArray, List.set_cons_zero, List.set_cons_succ]))
          refine held_nil ?_
          intro τ hτ w2 hW hO
          obtain rfl := laid0 hτ
          have hbn := HS.out w2 hW
          clear hτ hO hW K0 HS
          simp only [overs, List.foldl_nil]
          have HR := Lib.hid (HR.out.below hbn)
          have HX2 := Lib.hid (HX2.out.below' hbn)
          have HB2 := Lib.hid (HB2.out.trans (hbn.mono HB2.out.size))
          clear hbn
          try clear e1
          have e1 : ∀ i, w2.cell? ⟨w.heap.size, i, none⟩ = (#[.string c.ware, .int .i64 c.limit, .int .i64 c.by_, .slice pa c.parts.length pc] : Array Value)[i]? := HX2.out.cell
          go_wp2_with fail
          (with_reducible refine (HC2.out _ _ _ (HP.out.below HB2.out) HR.out hRc).mono ?_)
          rintro e w2 ⟨rfl, hbn⟩
          have HX2 := Lib.hid (HX2.out.below' hbn)
          have HB2 := Lib.hid (HB2.out.trans (hbn.mono HB2.out.size))
          clear hbn e1 HR
          go_wp2_with fail
          (with_reducible refine (HAL.out _).mono ?_)
          rintro e w3 ⟨rfl, hb3⟩
          have HB3 := Lib.hid (HB2.out.trans (hb3.mono HB2.out.size))
          clear hb3
          go_wp2_with fail
          go_ret
          exact ⟨rfl, HB3.out⟩
        · rw [hfv] at HFI
          clear hfv
          go_enter Tryz.func4, Tryz.ntmps4
          go_upto_region 1 with fail
          simp only [HW.out]
          go_wp2_with fail
          (with_reducible refine HFW.out.mono ?_)
          rintro e w2 ⟨rfl, hb2⟩
          have HB2 := Lib.hid (HB1.out.trans (hb2.mono HB1.out.size))
          have HX2 := Lib.hid (HX.out.below' hb2)
          clear hb2 e1
          go_wp2_with fail
          (with_reducible refine (HSL.out _ (HBR.out.below HB2.out)).mono ?_)
          rintro e w2 ⟨rfl, hbn⟩
          have HX2 := Lib.hid (HX2.out.below' hbn)
          have HB2 := Lib.hid (HB2.out.trans (hbn.mono HB2.out.size))
          clear hbn
          try clear e1
          have e1 : ∀ i, w2.cell? ⟨w.heap.size, i, none⟩ = (#[.string c.ware, .int .i64 c.limit, .int .i64 c.by_, .slice pa c.parts.length pc] : Array Value)[i]? := HX2.out.cell
          go_wp2_with fail
          (with_reducible refine (HW1.out _ (HP.out.below HB2.out)).mono ?_)
          rintro e w2 ⟨a3, c3, rfl, hbn⟩
          have HX2 := Lib.hid (HX2.out.below' hbn)
          have HB2 := Lib.hid (HB2.out.trans (hbn.mono HB2.out.size))
          clear hbn
          try clear e1
          have e1 : ∀ i, w2.cell? ⟨w.heap.size, i, none⟩ = (#[.string c.ware, .int .i64 c.limit, .int .i64 c.by_, .slice pa c.parts.length pc] : Array Value)[i]? := HX2.out.cell
          go_wp2_with fail
          (with_reducible refine (HRF.out _ (HP.out.below HB2.out)).mono ?_)
          rintro e w2 ⟨a4, c4, rfl, hr, hRc, hbn⟩
          have HR := Lib.hid hr
          clear hr
          have HX2 := Lib.hid (HX2.out.below' hbn)
          have HB2 := Lib.hid (HB2.out.trans (hbn.mono HB2.out.size))
          clear hbn
          try clear e1
          have e1 : ∀ i, w2.cell? ⟨w.heap.size, i, none⟩ = (#[.string c.ware, .int .i64 c.limit, .int .i64 c.by_, .slice pa c.parts.length pc] : Array Value)[i]? := HX2.out.cell
          go_wp2_with fail
          (with_reducible refine (HCH.out _ (HP.out.below HB2.out) (HBR.out.below HB2.out)).mono ?_)
          rintro e w2 ⟨rfl, hbn⟩
          have HR := Lib.hid (HR.out.below hbn)
          have HX2 := Lib.hid (HX2.out.below' hbn)
          have HB2 := Lib.hid (HB2.out.trans (hbn.mono HB2.out.size))
          clear hbn
          try clear e1
          have e1 : ∀ i, w2.cell? ⟨w.heap.size, i, none⟩ = (#[.string c.ware, .int .i64 c.limit, .int .i64 c.by_, .slice pa c.parts.length pc] : Array Value)[i]? := HX2.out.cell
          go_wp2_with fail
          (with_reducible refine (HFI.out _ (HP.out.below HB2.out) (HI.out.below HB2.out)).mono ?_)
          rintro e w2 ⟨rfl, hbn⟩
          have HR := Lib.hid (HR.out.below hbn)
          have HX2 := Lib.hid (HX2.out.below' hbn)
          have HB2 := Lib.hid (HB2.out.trans (hbn.mono HB2.out.size))
          clear hbn
          try clear e1
          go_wp2_with fail
          refine wp_region_heldB 36 [] (by kernel_rfl) (by kernel_rfl) (by kernel_rfl) (by simp) ?_
          intro S hS
          have K0 := Lib.hid (fun W (_ : S W) => trivial)
          have HS := Lib.hid hS
          clear hS
          simp only [List.take_succ_cons, List.take_zero, List.drop_succ_cons, List.drop_zero]
          repeat (first
            | (refine held_not rfl (by rfl) ?_; try (dsimp only); try simp only [Act.put, List.setIfInBounds_toArray, List.set_cons_zero, List.set_cons_succ])
            | (refine held_val (v := ?_) rfl (by rfl) ?_ ?_; rotate_left; (· (intro W hW; go_simp; try with_reducible rfl)); try (dsimp only); try simp only [Act.put, List.setIfInBounds_toArray, List.set_cons_zero, List.set_cons_succ])
            | (refine held_skip rfl (by rfl) ?_ ?_; (· (intro W hW; go_simp; try with_reducible rfl)); try (dsimp only); try simp only [Act.put, List.setIfInBounds_toArray, List.set_cons_zero, List.set_cons_succ]))
          refine held_nil ?_
          intro τ hτ w2 hW hO
          obtain rfl := laid0 hτ
          have hbn := HS.out w2 hW
          clear hτ hO hW K0 HS
          simp only [overs, List.foldl_nil]
          have HR := Lib.hid (HR.out.below hbn)
          have HX2 := Lib.hid (HX2.out.below' hbn)
          have HB2 := Lib.hid (HB2.out.trans (hbn.mono HB2.out.size))
          clear hbn
          try clear e1
          have e1 : ∀ i, w2.cell? ⟨w.heap.size, i, none⟩ = (#[.string c.ware, .int .i64 c.limit, .int .i64 c.by_, .slice pa c.parts.length pc] : Array Value)[i]? := HX2.out.cell
          go_wp2_with fail
          (with_reducible refine (HC2.out _ _ _ (HP.out.below HB2.out) HR.out hRc).mono ?_)
          rintro e w2 ⟨rfl, hbn⟩
          have HX2 := Lib.hid (HX2.out.below' hbn)
          have HB2 := Lib.hid (HB2.out.trans (hbn.mono HB2.out.size))
          clear hbn e1 HR
          go_wp2_with fail
          (with_reducible refine (HAL.out _).mono ?_)
          rintro e w3 ⟨rfl, hb3⟩
          have HB3 := Lib.hid (HB2.out.trans (hb3.mono HB2.out.size))
          clear hb3
          go_wp2_with fail
          go_ret
          exact ⟨rfl, HB3.out⟩
      · rw [hsh] at hch
        have HCH := Lib.hid hch
        have HCK := Lib.hid (HCK.out hsh)
        clear hch hsh
        rcases hfv : fitsB c l with _ | _
        · rw [hfv] at HFI
          clear hfv
          go_enter Tryz.func4, Tryz.ntmps4
          go_upto_region 1 with fail
          simp only [HW.out]
          go_wp2_with fail
          (with_reducible refine HFW.out.mono ?_)
          rintro e w2 ⟨rfl, hb2⟩
          have HB2 := Lib.hid (HB1.out.trans (hb2.mono HB1.out.size))
          have HX2 := Lib.hid (HX.out.below' hb2)
          clear hb2 e1
          go_wp2_with fail
          (with_reducible refine (HSL.out _ (HBR.out.below HB2.out)).mono ?_)
          rintro e w2 ⟨rfl, hbn⟩
          have HX2 := Lib.hid (HX2.out.below' hbn)
          have HB2 := Lib.hid (HB2.out.trans (hbn.mono HB2.out.size))
          clear hbn
          try clear e1
          have e1 : ∀ i, w2.cell? ⟨w.heap.size, i, none⟩ = (#[.string c.ware, .int .i64 c.limit, .int .i64 c.by_, .slice pa c.parts.length pc] : Array Value)[i]? := HX2.out.cell
          go_wp2_with fail
          (with_reducible refine (HW1.out _ (HP.out.below HB2.out)).mono ?_)
          rintro e w2 ⟨a3, c3, rfl, hbn⟩
          have HX2 := Lib.hid (HX2.out.below' hbn)
          have HB2 := Lib.hid (HB2.out.trans (hbn.mono HB2.out.size))
          clear hbn
          try clear e1
          have e1 : ∀ i, w2.cell? ⟨w.heap.size, i, none⟩ = (#[.string c.ware, .int .i64 c.limit, .int .i64 c.by_, .slice pa c.parts.length pc] : Array Value)[i]? := HX2.out.cell
          go_wp2_with fail
          (with_reducible refine (HRF.out _ (HP.out.below HB2.out)).mono ?_)
          rintro e w2 ⟨a4, c4, rfl, hr, hRc, hbn⟩
          have HR := Lib.hid hr
          clear hr
          have HX2 := Lib.hid (HX2.out.below' hbn)
          have HB2 := Lib.hid (HB2.out.trans (hbn.mono HB2.out.size))
          clear hbn
          try clear e1
          have e1 : ∀ i, w2.cell? ⟨w.heap.size, i, none⟩ = (#[.string c.ware, .int .i64 c.limit, .int .i64 c.by_, .slice pa c.parts.length pc] : Array Value)[i]? := HX2.out.cell
          go_wp2_with fail
          (with_reducible refine (HCH.out _ (HP.out.below HB2.out) (HBR.out.below HB2.out)).mono ?_)
          rintro e w2 ⟨rfl, hbn⟩
          have HR := Lib.hid (HR.out.below hbn)
          have HX2 := Lib.hid (HX2.out.below' hbn)
          have HB2 := Lib.hid (HB2.out.trans (hbn.mono HB2.out.size))
          clear hbn
          try clear e1
          have e1 : ∀ i, w2.cell? ⟨w.heap.size, i, none⟩ = (#[.string c.ware, .int .i64 c.limit, .int .i64 c.by_, .slice pa c.parts.length pc] : Array Value)[i]? := HX2.out.cell
          go_wp2_with fail
          (with_reducible refine (HFI.out _ (HP.out.below HB2.out) (HI.out.below HB2.out)).mono ?_)
          rintro e w2 ⟨rfl, hbn⟩
          have HR := Lib.hid (HR.out.below hbn)
          have HX2 := Lib.hid (HX2.out.below' hbn)
          have HB2 := Lib.hid (HB2.out.trans (hbn.mono HB2.out.size))
          clear hbn
          try clear e1
          go_wp2_with fail
          refine wp_region_heldB 36 [] (by kernel_rfl) (by kernel_rfl) (by kernel_rfl) (by simp) ?_
          intro S hS
          have K0 := Lib.hid (fun W (_ : S W) => trivial)
          have HS := Lib.hid hS
          clear hS
          simp only [List.take_succ_cons, List.take_zero, List.drop_succ_cons, List.drop_zero]
          repeat (first
            | (refine held_not rfl (by rfl) ?_; try (dsimp only); try simp only [Act.put, List.setIfInBounds_toArray, List.set_cons_zero, List.set_cons_succ])
            | (refine held_val (v := ?_) rfl (by rfl) ?_ ?_; rotate_left; (· (intro W hW; go_simp; try with_reducible rfl)); try (dsimp only); try simp only [Act.put, List.setIfInBounds_toArray, List.set_cons_zero, List.set_cons_succ])
            | (refine held_skip rfl (by rfl) ?_ ?_; (· (intro W hW; go_simp; try with_reducible rfl)); try (dsimp only); try simp only [Act.put, List.setIfInBounds_toArray, List.set_cons_zero, List.set_cons_succ]))
          refine held_nil ?_
          intro τ hτ w2 hW hO
          obtain rfl := laid0 hτ
          have hbn := HS.out w2 hW
          clear hτ hO hW K0 HS
          simp only [overs, List.foldl_nil]
          have HR := Lib.hid (HR.out.below hbn)
          have HX2 := Lib.hid (HX2.out.below' hbn)
          have HB2 := Lib.hid (HB2.out.trans (hbn.mono HB2.out.size))
          clear hbn
          try clear e1
          have e1 : ∀ i, w2.cell? ⟨w.heap.size, i, none⟩ = (#[.string c.ware, .int .i64 c.limit, .int .i64 c.by_, .slice pa c.parts.length pc] : Array Value)[i]? := HX2.out.cell
          go_wp2_with fail
          (with_reducible refine (HC2.out _ _ _ (HP.out.below HB2.out) HR.out hRc).mono ?_)
          rintro e w2 ⟨rfl, hbn⟩
          have HX2 := Lib.hid (HX2.out.below' hbn)
          have HB2 := Lib.hid (HB2.out.trans (hbn.mono HB2.out.size))
          clear hbn e1 HR
          go_wp2_with fail
          (with_reducible refine (HAL.out _).mono ?_)
          rintro e w3 ⟨rfl, hb3⟩
          have HB3 := Lib.hid (HB2.out.trans (hb3.mono HB2.out.size))
          clear hb3
          go_wp2_with fail
          go_ret
          exact ⟨rfl, HB3.out⟩
        · rw [hfv] at HFI
          obtain ⟨q, hq, hlq, hlen⟩ := fits_len hfv
          have hck := HCK.out q (mem_allR.2 hq)
          rw [asPair, nth_eq' (by rw [hq.len]; exact ha) (by rw [hq.len]; exact hb)] at hck
          have hla : (a : Int) < (l.length : Int) := by omega
          have hlb : (b : Int) < (l.length : Int) := by omega
          have hga : l[a]? = some (nth q a : Int) := by rw [hlq, natInts, List.getElem?_map, List.getElem?_eq_getElem (by rw [hq.len]; exact ha), nth_get (by rw [hq.len]; exact ha)]; rfl
          have hgb : l[b]? = some (nth q b : Int) := by rw [hlq, natInts, List.getElem?_map, List.getElem?_eq_getElem (by rw [hq.len]; exact hb), nth_get (by rw [hq.len]; exact hb)]; rfl
          rw [← beq_int] at hck
          generalize nth q a = u at *
          generalize nth q b = v at *
          have HG := Lib.hid (And.intro hga hgb)
          clear hfv hq hlq hlen hga hgb
          rcases huv : ((u : Int) == (v : Int)) with _ | _
          all_goals
            rw [huv] at hck
            cases t
            all_goals first
              | (simp at hck; done)
              | skip
            clear hck
            go_enter Tryz.func4, Tryz.ntmps4
            go_upto_region 1 with fail
            simp only [HW.out]
            go_wp2_with fail
            (with_reducible refine HFW.out.mono ?_)
            rintro e w2 ⟨rfl, hb2⟩
            have HB2 := Lib.hid (HB1.out.trans (hb2.mono HB1.out.size))
            have HX2 := Lib.hid (HX.out.below' hb2)
            clear hb2 e1
            go_wp2_with fail
            (with_reducible refine (HSL.out _ (HBR.out.below HB2.out)).mono ?_)
            rintro e w2 ⟨rfl, hbn⟩
            have HX2 := Lib.hid (HX2.out.below' hbn)
            have HB2 := Lib.hid (HB2.out.trans (hbn.mono HB2.out.size))
            clear hbn
            try clear e1
            have e1 : ∀ i, w2.cell? ⟨w.heap.size, i, none⟩ = (#[.string c.ware, .int .i64 c.limit, .int .i64 c.by_, .slice pa c.parts.length pc] : Array Value)[i]? := HX2.out.cell
            go_wp2_with fail
            (with_reducible refine (HW1.out _ (HP.out.below HB2.out)).mono ?_)
            rintro e w2 ⟨a3, c3, rfl, hbn⟩
            have HX2 := Lib.hid (HX2.out.below' hbn)
            have HB2 := Lib.hid (HB2.out.trans (hbn.mono HB2.out.size))
            clear hbn
            try clear e1
            have e1 : ∀ i, w2.cell? ⟨w.heap.size, i, none⟩ = (#[.string c.ware, .int .i64 c.limit, .int .i64 c.by_, .slice pa c.parts.length pc] : Array Value)[i]? := HX2.out.cell
            go_wp2_with fail
            (with_reducible refine (HRF.out _ (HP.out.below HB2.out)).mono ?_)
            rintro e w2 ⟨a4, c4, rfl, hr, hRc, hbn⟩
            have HR := Lib.hid hr
            clear hr
            have HX2 := Lib.hid (HX2.out.below' hbn)
            have HB2 := Lib.hid (HB2.out.trans (hbn.mono HB2.out.size))
            clear hbn
            try clear e1
            have e1 : ∀ i, w2.cell? ⟨w.heap.size, i, none⟩ = (#[.string c.ware, .int .i64 c.limit, .int .i64 c.by_, .slice pa c.parts.length pc] : Array Value)[i]? := HX2.out.cell
            go_wp2_with fail
            (with_reducible refine (HCH.out _ (HP.out.below HB2.out) (HBR.out.below HB2.out)).mono ?_)
            rintro e w2 ⟨rfl, hbn⟩
            have HR := Lib.hid (HR.out.below hbn)
            have HX2 := Lib.hid (HX2.out.below' hbn)
            have HB2 := Lib.hid (HB2.out.trans (hbn.mono HB2.out.size))
            clear hbn
            try clear e1
            have e1 : ∀ i, w2.cell? ⟨w.heap.size, i, none⟩ = (#[.string c.ware, .int .i64 c.limit, .int .i64 c.by_, .slice pa c.parts.length pc] : Array Value)[i]? := HX2.out.cell
            go_wp2_with fail
            (with_reducible refine (HFI.out _ (HP.out.below HB2.out) (HI.out.below HB2.out)).mono ?_)
            rintro e w2 ⟨rfl, hbn⟩
            have HR := Lib.hid (HR.out.below hbn)
            have HX2 := Lib.hid (HX2.out.below' hbn)
            have HB2 := Lib.hid (HB2.out.trans (hbn.mono HB2.out.size))
            clear hbn
            try clear e1
            obtain ⟨nb, no, hna, hcell⟩ := (HI.out.below HB2.out).base (by omega)
            subst hna
            have HC1 := Lib.hid (And.intro (hcell a _ HG.out.1) (hcell b _ HG.out.2))
            clear hcell
            go_wp2_with fail
            refine wp_region_heldB 36 [] (by kernel_rfl) (by kernel_rfl) (by kernel_rfl) (by simp) ?_
            intro S hS
            have k0 : ∀ W, S W → W.cell? ⟨nb, no + a, none⟩ = some (.int .i64 u) ∧ W.cell? ⟨nb, no + b, none⟩ = some (.int .i64 v) := fun W h => ⟨below_cell (hS W h) (HC1.out.1), below_cell (hS W h) HC1.out.2⟩
            have K0 := Lib.hid k0
            have HS := Lib.hid hS
            clear k0 hS
            simp only [List.take_succ_cons, List.take_zero, List.drop_succ_cons, List.drop_zero]
            repeat (first
              | (refine held_not rfl (by rfl) ?_; try (dsimp only); try simp only [Act.put, List.setIfInBounds_toArray, List.set_cons_zero, List.set_cons_succ])
              | (refine held_val (v := ?_) rfl (by rfl) ?_ ?_; rotate_left; (· (intro W hW; obtain ⟨q0, q1⟩ := K0.out W hW; go_simp; try with_reducible rfl)); try (dsimp only); try simp only [Act.put, List.setIfInBounds_toArray, List.set_cons_zero, List.set_cons_succ])
              | (refine held_skip rfl (by rfl) ?_ ?_; (· (intro W hW; obtain ⟨q0, q1⟩ := K0.out W hW; go_simp; try with_reducible rfl)); try (dsimp only); try simp only [Act.put, List.setIfInBounds_toArray, List.set_cons_zero, List.set_cons_succ]))
            refine held_nil ?_
            intro τ hτ w2 hW hO
            obtain rfl := laid0 hτ
            have hbn := HS.out w2 hW
            clear hτ hO hW K0 HS
            simp only [overs, List.foldl_nil]
            have HR := Lib.hid (HR.out.below hbn)
            have HX2 := Lib.hid (HX2.out.below' hbn)
            have HB2 := Lib.hid (HB2.out.trans (hbn.mono HB2.out.size))
            clear hbn
            try clear e1
            have e1 : ∀ i, w2.cell? ⟨w.heap.size, i, none⟩ = (#[.string c.ware, .int .i64 c.limit, .int .i64 c.by_, .slice pa c.parts.length pc] : Array Value)[i]? := HX2.out.cell
            go_wp2_with fail
            (with_reducible refine (HC2.out _ _ _ (HP.out.below HB2.out) HR.out hRc).mono ?_)
            rintro e w2 ⟨rfl, hbn⟩
            have HX2 := Lib.hid (HX2.out.below' hbn)
            have HB2 := Lib.hid (HB2.out.trans (hbn.mono HB2.out.size))
            clear hbn e1 HR
            go_wp2_with fail
            (with_reducible refine (HAL.out _).mono ?_)
            rintro e w3 ⟨rfl, hb3⟩
            have HB3 := Lib.hid (HB2.out.trans (hb3.mono HB2.out.size))
            clear hb3
            go_wp2_with fail
            go_ret
            exact ⟨rfl, HB3.out⟩
    · have hr := mem_allR.1 (List.mem_of_find?_eq_some hfo)
      have hpr := List.find?_some hfo
      have hsh : (refutedB c c.parts.length (beginD a b t) L).isSome = false := by
        rcases h : (refutedB c c.parts.length (beginD a b t) L).isSome with _ | _
        · rfl
        · have := check_law h8 hlim.1 ha hb h r (mem_allR.2 hr)
          rw [hpr] at this; cases this
      rw [hsh] at hch
      rw [asPair, nth_eq' (by rw [hr.len]; exact ha) (by rw [hr.len]; exact hb), ← beq_int] at hpr
      have hfx := fun W a' cap h1 h2 => (fits_any c hsm pa pc a' (natInts r) cap (by rw [natInts_len, hr.len]; omega) W h1 h2).mono (fun (e : Ending) (w' : World) ⟨h1, h2⟩ => (⟨h2, h1⟩ : e = Ending.returned (.tuple #[.bool (checkCase c == 0 && fitsB c (natInts r)), .int .i64 (checkCase c)]) ∧ Below W.heap.size W w'))
      rw [open_check hz, show fitsB c (natInts r) = true from fitsB_iff.2 ⟨r, hr, rfl⟩, show ((0 : Int) == 0 && true) = true from rfl, natInts_len] at hfx
      simp only [hfo, Option.getD_some, Option.isSome_some] at hw1
      have hrf2 := fun W h => (hrf W h).mono (fun (e : Ending) (w' : World) hh => show e = Ending.returned (.tuple #[.slice none 0 0, .bool false, .int .i64 0]) ∧ Below W.heap.size W w' from by
        rw [hfo] at hh
        obtain ⟨hbb, ⟨h, _⟩ | ⟨_, _, he⟩ | ⟨_, h, _⟩ | ⟨_, h, _⟩⟩ := hh
        · exact absurd rfl h
        · exact ⟨he, hbb⟩
        · cases h
        · cases h)
      have hga : (natInts r)[a]? = some (nth r a : Int) := by rw [natInts, List.getElem?_map, List.getElem?_eq_getElem (by rw [hr.len]; exact ha), nth_get (by rw [hr.len]; exact ha)]; rfl
      have hgb : (natInts r)[b]? = some (nth r b : Int) := by rw [natInts, List.getElem?_map, List.getElem?_eq_getElem (by rw [hr.len]; exact hb), nth_get (by rw [hr.len]; exact hb)]; rfl
      have hra : (a : Int) < (r.length : Int) := by rw [hr.len]; omega
      have hrb : (b : Int) < (r.length : Int) := by rw [hr.len]; omega
      have hrl : (natInts r).length = r.length := natInts_len r
      obtain ⟨X, hX⟩ : ∃ X, natInts r = X := ⟨_, rfl⟩
      rw [hX] at hw1 hfx hga hgb hrl
      obtain ⟨rn, hrn⟩ : ∃ rn, r.length = rn := ⟨_, rfl⟩
      rw [hrn] at hw1 hfx hra hrb hrl
      generalize nth r a = u at *
      generalize nth r b = v at *
      have HW1 := Lib.hid hw1
      have HRF := Lib.hid hrf2
      have HFX := Lib.hid hfx
      have HCH := Lib.hid hch
      have HG := Lib.hid (And.intro hga (And.intro hgb hrl))
      clear hw1 hrf hrf2 hfx hch hsh hfo hr hz hsm hga hgb hrl hX hrn
      rcases hfv : fitsB c l with _ | _
      all_goals
        rw [hfv] at HFI
        clear hfv
        rcases huv : ((u : Int) == (v : Int)) with _ | _
        all_goals
          rw [huv] at hpr
          cases t
          all_goals first
            | (simp at hpr; done)
            | skip
          clear hpr
          go_enter Tryz.func4, Tryz.ntmps4
          go_upto_region 1 with fail
          simp only [HW.out]
          go_wp2_with fail
          (with_reducible refine HFW.out.mono ?_)
          rintro e w2 ⟨rfl, hb2⟩
          have HB2 := Lib.hid (HB1.out.trans (hb2.mono HB1.out.size))
          have HX2 := Lib.hid (HX.out.below' hb2)
          clear hb2 e1
          go_wp2_with fail
          (with_reducible refine (HSL.out _ (HBR.out.below HB2.out)).mono ?_)
          rintro e w2 ⟨rfl, hbn⟩
          have HX2 := Lib.hid (HX2.out.below' hbn)
          have HB2 := Lib.hid (HB2.out.trans (hbn.mono HB2.out.size))
          clear hbn
          try clear e1
          have e1 : ∀ i, w2.cell? ⟨w.heap.size, i, none⟩ = (#[.string c.ware, .int .i64 c.limit, .int .i64 c.by_, .slice pa c.parts.length pc] : Array Value)[i]? := HX2.out.cell
          go_wp2_with fail
          (with_reducible refine (HW1.out _ (HP.out.below HB2.out)).mono ?_)
          rintro e w2 ⟨a3, c3, rfl, hxi, hbn⟩
          have HXI := Lib.hid hxi
          clear hxi
          have HX2 := Lib.hid (HX2.out.below' hbn)
          have HB2 := Lib.hid (HB2.out.trans (hbn.mono HB2.out.size))
          clear hbn
          try clear e1
          have e1 : ∀ i, w2.cell? ⟨w.heap.size, i, none⟩ = (#[.string c.ware, .int .i64 c.limit, .int .i64 c.by_, .slice pa c.parts.length pc] : Array Value)[i]? := HX2.out.cell
          go_wp2_with fail
          (with_reducible refine (HRF.out _ (HP.out.below HB2.out)).mono ?_)
          rintro e w2 ⟨rfl, hbn⟩
          have HXI := Lib.hid (HXI.out.below hbn)
          have HX2 := Lib.hid (HX2.out.below' hbn)
          have HB2 := Lib.hid (HB2.out.trans (hbn.mono HB2.out.size))
          clear hbn
          try clear e1
          have e1 : ∀ i, w2.cell? ⟨w.heap.size, i, none⟩ = (#[.string c.ware, .int .i64 c.limit, .int .i64 c.by_, .slice pa c.parts.length pc] : Array Value)[i]? := HX2.out.cell
          go_wp2_with fail
          (with_reducible refine (HCH.out _ (HP.out.below HB2.out) (HBR.out.below HB2.out)).mono ?_)
          rintro e w2 ⟨rfl, hbn⟩
          have HXI := Lib.hid (HXI.out.below hbn)
          have HX2 := Lib.hid (HX2.out.below' hbn)
          have HB2 := Lib.hid (HB2.out.trans (hbn.mono HB2.out.size))
          clear hbn
          try clear e1
          have e1 : ∀ i, w2.cell? ⟨w.heap.size, i, none⟩ = (#[.string c.ware, .int .i64 c.limit, .int .i64 c.by_, .slice pa c.parts.length pc] : Array Value)[i]? := HX2.out.cell
          go_wp2_with fail
          (with_reducible refine (HFI.out _ (HP.out.below HB2.out) (HI.out.below HB2.out)).mono ?_)
          rintro e w2 ⟨rfl, hbn⟩
          have HXI := Lib.hid (HXI.out.below hbn)
          have HX2 := Lib.hid (HX2.out.below' hbn)
          have HB2 := Lib.hid (HB2.out.trans (hbn.mono HB2.out.size))
          clear hbn
          try clear e1
          go_wp2_with fail
          refine wp_region_heldB 36 [] (by kernel_rfl) (by kernel_rfl) (by kernel_rfl) (by simp) ?_
          intro S hS
          have K0 := Lib.hid (fun W (_ : S W) => trivial)
          have HS := Lib.hid hS
          clear hS
          simp only [List.take_succ_cons, List.take_zero, List.drop_succ_cons, List.drop_zero]
          repeat (first
            | (refine held_not rfl (by rfl) ?_; try (dsimp only); try simp only [Act.put, List.setIfInBounds_toArray, List.set_cons_zero, List.set_cons_succ])
            | (refine held_val (v := ?_) rfl (by rfl) ?_ ?_; rotate_left; (· (intro W hW; go_simp; try with_reducible rfl)); try (dsimp only); try simp only [Act.put, List.setIfInBounds_toArray, List.set_cons_zero, List.set_cons_succ])
            | (refine held_skip rfl (by rfl) ?_ ?_; (· (intro W hW; go_simp; try with_reducible rfl)); try (dsimp only); try simp only [Act.put, List.setIfInBounds_toArray, List.set_cons_zero, List.set_cons_succ]))
          refine held_nil ?_
          intro τ hτ w2 hW hO
          obtain rfl := laid0 hτ
          have hbn := HS.out w2 hW
          clear hτ hO hW K0 HS
          simp only [overs, List.foldl_nil]
          have HXI := Lib.hid (HXI.out.below hbn)
          have HX2 := Lib.hid (HX2.out.below' hbn)
          have HB2 := Lib.hid (HB2.out.trans (hbn.mono HB2.out.size))
          clear hbn
          try clear e1
          have e1 : ∀ i, w2.cell? ⟨w.heap.size, i, none⟩ = (#[.string c.ware, .int .i64 c.limit, .int .i64 c.by_, .slice pa c.parts.length pc] : Array Value)[i]? := HX2.out.cell
          go_wp2_with fail
          (with_reducible refine (HFX.out _ _ _ (HP.out.below HB2.out) HXI.out).mono ?_)
          rintro e w2 ⟨rfl, hbn⟩
          have HXI := Lib.hid (HXI.out.below hbn)
          have HX2 := Lib.hid (HX2.out.below' hbn)
          have HB2 := Lib.hid (HB2.out.trans (hbn.mono HB2.out.size))
          clear hbn
          try clear e1
          obtain ⟨nb, no, hna, hcell⟩ := HXI.out.base (by have := HG.out.2.2; omega)
          subst hna
          have HC1 := Lib.hid (And.intro (hcell a _ HG.out.1) (hcell b _ HG.out.2.1))
          clear hcell
          go_wp2_with fail
          refine wp_region_heldB 27 [] (by kernel_rfl) (by kernel_rfl) (by kernel_rfl) (by simp) ?_
          intro S hS
          have k0 : ∀ W, S W → W.cell? ⟨nb, no + a, none⟩ = some (.int .i64 u) ∧ W.cell? ⟨nb, no + b, none⟩ = some (.int .i64 v) := fun W h => ⟨below_cell (hS W h) (HC1.out.1), below_cell (hS W h) HC1.out.2⟩
          have K0 := Lib.hid k0
          have HS := Lib.hid hS
          clear k0 hS
          simp only [List.take_succ_cons, List.take_zero, List.drop_succ_cons, List.drop_zero]
          repeat (first
            | (refine held_not rfl (by rfl) ?_; try (dsimp only); try simp only [Act.put, List.setIfInBounds_toArray, List.set_cons_zero, List.set_cons_succ])
            | (refine held_val (v := ?_) rfl (by rfl) ?_ ?_; rotate_left; (· (intro W hW; obtain ⟨q0, q1⟩ := K0.out W hW; go_simp; try with_reducible rfl)); try (dsimp only); try simp only [Act.put, List.setIfInBounds_toArray, List.set_cons_zero, List.set_cons_succ])
            | (refine held_skip rfl (by rfl) ?_ ?_; (· (intro W hW; obtain ⟨q0, q1⟩ := K0.out W hW; go_simp; try with_reducible rfl)); try (dsimp only); try simp only [Act.put, List.setIfInBounds_toArray, List.set_cons_zero, List.set_cons_succ])
            | (refine held_call (v := .bool true) (f := 14) (args := #[]) rfl (by rfl) ?_ ?_ ?_; (· (intro W hW; go_simp; done)); (· exact (fun W _ => HAL.out W)); try (dsimp only); try simp only [Act.put, List.setIfInBounds_toArray, List.set_cons_zero, List.set_cons_succ]))
          refine held_nil ?_
          intro τ hτ w2 hW hO
          obtain rfl := laid0 hτ
          have hbn := HS.out w2 hW
          clear hτ hO hW K0 HS
          simp only [overs, List.foldl_nil]
          go_wp2_with fail
          go_ret
          exact ⟨rfl, HB2.out.trans (hbn.mono HB2.out.size)⟩
  · have hzz : (openErr c [x, y] != 0) = true := by simpa using hz
    simp only [hz, seenB, if_false, Option.isSome_none, Option.getD_none, List.length_nil] at hw1
    have hw3 := fun W h => (hw1 W h).mono (fun (e : Ending) (w' : World) ⟨a', cap, h1, _, h2⟩ => (⟨a', cap, h1, h2⟩ : ∃ (a' : Option Addr) (cap : Nat), e = Ending.returned (.tuple #[.slice a' 0 cap, .bool false, .int .i64 (openErr c [x, y])]) ∧ Below W.heap.size W w'))
    have hrf2 := fun W h => (hrf W h).mono (fun (e : Ending) (w' : World) hh => (by
        obtain ⟨hbb, ⟨_, he⟩ | ⟨h, _⟩ | ⟨h, _⟩ | ⟨h, _⟩⟩ := hh
        · exact ⟨he, hbb⟩
        · exact absurd h hz
        · exact absurd h hz
        · exact absurd h hz : e = Ending.returned (.tuple #[.slice none 0 0, .bool false, .int .i64 (openErr c [x, y])]) ∧ Below W.heap.size W w'))
    have HW1 := Lib.hid hw3
    have HRF := Lib.hid hrf2
    clear hw1 hw3 hrf hrf2 hz hsm
    generalize openErr c [x, y] = er at *
    go_enter Tryz.func4, Tryz.ntmps4
    go_upto_region 1 with fail
    simp only [HW.out]
    go_wp2_with fail
    (with_reducible refine HFW.out.mono ?_)
    rintro e w2 ⟨rfl, hb2⟩
    have HB2 := Lib.hid (HB1.out.trans (hb2.mono HB1.out.size))
    have HX2 := Lib.hid (HX.out.below' hb2)
    clear hb2 e1
    go_wp2_with fail
    (with_reducible refine (HSL.out _ (HBR.out.below HB2.out)).mono ?_)
    rintro e w2 ⟨rfl, hbn⟩
    have HX2 := Lib.hid (HX2.out.below' hbn)
    have HB2 := Lib.hid (HB2.out.trans (hbn.mono HB2.out.size))
    clear hbn
    try clear e1
    have e1 : ∀ i, w2.cell? ⟨w.heap.size, i, none⟩ = (#[.string c.ware, .int .i64 c.limit, .int .i64 c.by_, .slice pa c.parts.length pc] : Array Value)[i]? := HX2.out.cell
    go_wp2_with fail
    (with_reducible refine (HW1.out _ (HP.out.below HB2.out)).mono ?_)
    rintro e w2 ⟨a3, c3, rfl, hbn⟩
    have HX2 := Lib.hid (HX2.out.below' hbn)
    have HB2 := Lib.hid (HB2.out.trans (hbn.mono HB2.out.size))
    clear hbn
    try clear e1
    have e1 : ∀ i, w2.cell? ⟨w.heap.size, i, none⟩ = (#[.string c.ware, .int .i64 c.limit, .int .i64 c.by_, .slice pa c.parts.length pc] : Array Value)[i]? := HX2.out.cell
    go_wp2_with fail
    (with_reducible refine (HRF.out _ (HP.out.below HB2.out)).mono ?_)
    rintro e w2 ⟨rfl, hbn⟩
    have HX2 := Lib.hid (HX2.out.below' hbn)
    have HB2 := Lib.hid (HB2.out.trans (hbn.mono HB2.out.size))
    clear hbn
    try clear e1
    go_wp2_with fail
    (with_reducible refine (HAL.out _).mono ?_)
    rintro e w3 ⟨rfl, hb3⟩
    have HB3 := Lib.hid (HB2.out.trans (hb3.mono HB2.out.size))
    clear hb3
    go_wp2_with fail
    go_ret
    exact ⟨rfl, HB3.out⟩
end Go.Proofs.YtoaacllpegfcjaaGreat
namespace Go.Proofs.YtoaacllpegfcjaaGreat.SureEitherEnd
open Go.ChangeShapes Go.WideShapes Go.ChangeAt Go.RowKit

theorem own : ownKnob Tryz.prog.godebug = none := by kernel_rfl

set_option maxRecDepth 100000 in
theorem lifted (os : Os) (started : os.Started) (H : Type) (enc : TypeId × Value → H) :
    ReturnsInHanded {} Tryz.checked os 4 .any (Rows.sureEitherSpec.pre6 enc Tryz.prog Tryz.f4 Rows.sureEitherRow.domain false) (Rows.sureEitherSpec.post enc Tryz.prog Tryz.f4 false true false false) := by
  refine returnsInHanded_of_change (C := Tryz.checked) own started (by kernel_rfl) Tryz.func4
    (ChangeSpec.witness6 (enc := enc) (C := Tryz.checked) false ⟨#[], #[.agg #[.string ⟨#[]⟩, .int .i64 0, .int .i64 0, .slice none 0 0], .int .i64 0, .int .i64 0, .bool false, .slice none 0 0, .slice none 0 0], []⟩ 8 (by kernel_rfl) (by kernel_rfl) (by kernel_rfl) (by kernel_rfl)) ?_
  intro W base args ds gs before hval0 hW hcnd _
  have hval : ∀ (j : Nat) t v, Tryz.f4.params[j]? = some t → args[j]? = some v → Value.okWide Tryz.prog W .any base t v := hval0
  have hW' := hW
  obtain ⟨p, q, hA0, hV, rfl, hfz, hnd⟩ := hW
  have hA : DataW.TrodAll enc Tryz.prog W 0 (fun _ => true) true Tryz.f4.params.toList args.toList ds p := hA0
  rw [Tryz.params4] at hA hval
  obtain ⟨v0, vs0, d0, ds0, p0, q0, hargs, rfl, rfl, h0, r0⟩ := trodAll_cons hA
  obtain ⟨v1, vs1, d1, ds1, p1, q1, rfl, rfl, rfl, h1, r1⟩ := trodAll_cons r0
  obtain ⟨v2, vs2, d2, ds2, p2, q2, rfl, rfl, rfl, h2, r2⟩ := trodAll_cons r1
  obtain ⟨v3, vs3, d3, ds3, p3, q3, rfl, rfl, rfl, h3, r3⟩ := trodAll_cons r2
  obtain ⟨v4, vs4, d4, ds4, p4, q4, rfl, rfl, rfl, h4, r4⟩ := trodAll_cons r3
  obtain ⟨v5, vs5, d5, ds5, p5, q5, rfl, rfl, rfl, h5, r5⟩ := trodAll_cons r4
  obtain ⟨rfl, rfl, rfl⟩ := trodAll_nil r5
  obtain rfl : args = #[v0, v1, v2, v3, v4, v5] := by cases args; simp_all
  obtain ⟨rfl, rfl⟩ := trodVars_none hV
  obtain ⟨c0, pa0, pc0, rfl, hp0, hpc0, hfit0, hlw0⟩ := case_of (hval 0 _ v0 rfl rfl) h0
  obtain ⟨a1, rfl, rfl, rfl, w1⟩ := open_int Tryz.underlying3 (hval 1 _ v1 rfl rfl) h1
  obtain ⟨a2, rfl, rfl, rfl, w2⟩ := open_int Tryz.underlying3 (hval 2 _ v2 rfl rfl) h2
  obtain ⟨a3, rfl, rfl, rfl⟩ := open_bool Tryz.underlying4 (hval 3 _ v3 rfl rfl) h3
  obtain ⟨a4, l4, k4, rfl, hi4, hk4, hm4, hs4⟩ := brs_arg (hval 4 _ v4 rfl rfl) h4
  obtain ⟨a5, l5, k5, rfl, hi5, hk5, hm5⟩ := ints_arg (hval 5 _ v5 rfl rfl) h5
  clear hA0 hval0
  refine (sureEither_any c0 hfit0 pa0 pc0 hpc0 a1 w1 a2 w2 a3 a4 l4 k4 hk4 hm4 hs4 a5 l5 k5 hk5 hm5 W hp0 hi4 hi5).mono fun e W' ⟨he, hb⟩ => ?_
  subst he
  exact ⟨_, rfl, law_post rfl rfl (of_decide_eq_true (by kernel_rfl)) hW' rfl rfl rfl hb⟩

theorem over : Rows.sureEitherRow.holds Tryz.pinned (OpenSpec.ofChange Rows.sureEitherSpec) :=
  OpenClaim.holds_of_wide 4 Tryz.f4 rfl rfl rfl rfl rfl rfl rfl ⟨rfl, rfl, rfl, rfl, rfl⟩ rfl rfl rfl rfl rfl (by kernel_rfl) Tryz.func4 (by kernel_rfl)
    (of_decide_eq_true (by kernel_rfl)) (by unfold Func.isWrapper; first | (rw [if_pos (by decide +kernel)]; kernel_rfl) | (rw [if_neg (by decide +kernel)]; exact ⟨rfl, rfl⟩))
    (fun os started H enc _ => lifted os started H enc)

theorem proved : Rows.SureEitherSaid :=
  over
#print axioms proved
end Go.Proofs.YtoaacllpegfcjaaGreat.SureEitherEnd
