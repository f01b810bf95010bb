/- None. -/
/- The reference's First. -/
import Derived.Test.YtchgbbkjbiffiaaGreatMRefute
import Derived.Test.YtchgbbkjbiffiaaGreatMPlain
import Derived.Test.YtchgbbkjbiffiaaGreatMAnswers
import Derived.Test.YtchgbbkjbiffiaaGreatRefW
set_option linter.unusedSimpArgs false
set_option linter.unusedVariables false
namespace Go.Proofs.YtchgbbkjbiffiaaGreat
open Go.RowKit
attribute [local go_sem] Oper.semAt_some

theorem none_small {c : Cs} (hn : c.parts.length ≤ 8) (hl : c.limit ≤ 40) {l : List Br} (h : putM c c.parts.length (List.range c.parts.length) (fun _ _ => 0) [] = some l) : (∀ z ∈ l, z.Small) ∧ l.length ≤ 20000 := by
  refine ⟨putM_small hl _ _ _ _ h, ?_⟩
  have h3 := putM_len _ _ _ _ h
  rw [List.length_range] at h3
  have h5 := bnd_le (m := 0) hn
  have h6 := bnd_eight
  simp only [List.length_nil] at h3
  omega

set_option maxRecDepth 100000 in
set_option maxHeartbeats 2000000 in
theorem none_any (c : Cs) (hsm : c.Small) (pa : Option Addr) (pc : Nat) (w : World) (hp : PartsAt w pa c.parts) :
    Calls Tryz.prog 22 #[.agg #[.string c.ware, .int .i64 c.limit, .int .i64 c.by_, .slice pa c.parts.length pc]] w
      (RefuteOut (checkCase c) ((allR c).find? fun _ => true).isSome (putM c c.parts.length (List.range c.parts.length) (fun _ _ => 0) []) w) := by
  have hB1 : Below w.heap.size w (w.alloc (.cells #[.string c.ware, .int .i64 c.limit, .int .i64 c.by_, .slice pa c.parts.length pc] 24)) := (Below.refl _ w).alloc (Nat.le_refl _) _
  have ho := opened_any c hsm pa pc [] none 0 (w.alloc (.cells #[.string c.ware, .int .i64 c.limit, .int .i64 c.by_, .slice pa c.parts.length pc] 24)) (hp.below hB1) (Ints.nil _ _) (by simp)
  have HO := Lib.hid ho
  have HP := Lib.hid hp
  clear ho hp
  have heq : openErr c [] = checkCase c := by unfold openErr; split <;> simp [*]
  rw [heq] at HO
  simp only [List.length_nil] at HO
  have hmf := run_mf Tryz.prog
  by_cases hz : checkCase c = 0
  · have ho := opened_good HO.out hz
    have h8 := check_small (heq.trans hz)
    have hlm := check_lim hz
    have HO := Lib.hid ho
    have HZ := Lib.hid hz
    clear ho heq hz
    rcases hfi : (allR c).find? (fun _ => true) with _ | x
    · go_enter Tryz.func22, Tryz.ntmps22
      go_upto_region 4 with (go_at_call 61; (with_reducible refine HO.out.mono ?_); rintro e w' ⟨bb, rfl, hbb, hbx, hb⟩; have HBX := Lib.hid hbx; have HF := Lib.hid (find_none (find_any c _ rfl h8 pa pc _ (HP.out.below (hB1.trans (hb.mono (by simp)))) bb hbx _ _ _ (anyList_holds _ _)) hfi); have HB := Lib.hid (hB1.trans (hb.mono (by simp))); clear hbx hb)
      go_wp2_with fail
      (with_reducible refine HF.out.mono ?_)
      rintro e w2 ⟨rfl, hb2⟩
      go_upto_region 7 with fail
      have HB2 := Lib.hid (HB.out.trans (hb2.mono HB.out.size))
      have HBX2 := Lib.hid (HBX.out.below' hb2)
      have x1 := HBX2.out.cell 3
      simp only [csCells, List.getElem?_toArray, List.getElem?_cons_succ, List.getElem?_cons_zero] at x1
      clear hb2 HF
      go_wp2_with fail
      clear x1
      go_loopw [9, 31] (fun ov iv wr => ∃ i : Nat, i ≤ c.parts.length ∧ iv = .int .i64 i ∧ wr.ownsRow w2.heap.size 3 1 ov (List.range i).length ((natInts (List.range i)).map (Value.int .i64)) ∧ Below w2.heap.size w2 wr) (fun _ iv _ => c.parts.length - (intOf iv).toNat)
      case atStart => exact ⟨0, Nat.zero_le _, rfl, ownsRow_nil _ _ _ _, Below.refl _ _⟩
      case round =>
        obtain ⟨i, hi, rfl, hrow, hbx⟩ := hrel
        have HO5 := Lib.hid hrow
        have HB5 := Lib.hid hbx
        clear hrow hbx
        by_cases hil : i < c.parts.length
        · have hin : (i : Int) < (c.parts.length : Int) := by omega
          obtain ⟨v6, w6, hrun, hown, hb6⟩ := app_one (E := 3) (TT := 36) Tryz.underlying36 info_int rfl (by omega) HO5.out (by have := List.length_range (n := i); omega) HB5.out.size (.int .i64 i) rfl
          have HRN := Lib.hid hrun
          have HOW := Lib.hid hown
          have HB6 := Lib.hid (HB5.out.trans hb6)
          clear hrun hown hb6
          go_wp2_with (at_builtin; refine wpList_app rfl _ _ _ rfl rfl rfl HRN.out ?_)
          go_roundw
          case rel =>
            refine ⟨i + 1, by omega, by go_num, ?_, HB6.out⟩
            rw [List.range_succ, natInts_snoc, List.map_append, List.length_append, List.length_singleton]
            exact HOW.out
          case measure => simp [intOf]; omega
        · have hie : i = c.parts.length := by omega
          subst hie
          obtain ⟨a5, c5, rfl, hro, hcap⟩ := ownsRow_own HO5.out
          have hrf : ∀ A, Below wr.heap.size wr A → Calls Tryz.prog 73 #[.pointer (some ⟨bb, 0, none⟩), .agg (decCells fun _ _ => 0), .slice a5 (List.range c.parts.length).length c5] A (RefutePost (putM c c.parts.length (List.range c.parts.length) (fun _ _ => 0) []) A) := fun A hA =>
            refute_any c h8 hlm pa pc bb A (HP.out.below ((HB2.out.trans (HB5.out.mono HB2.out.size)).trans (hA.mono (HB2.out.trans (HB5.out.mono HB2.out.size)).size))) ((HBX2.out.below' HB5.out).below' hA) (fun _ _ => 0) (fun _ _ => Nat.zero_le _) (List.range c.parts.length) (by simpa using h8) (fun x hx => List.mem_range.1 hx) a5 c5 ((ints_rowOwn hro).below hA) hcap
          rw [List.length_range] at hrf
          have HRF := Lib.hid (hrf wr (Below.refl _ _))
          have HBW := Lib.hid (HB2.out.trans (HB5.out.mono HB2.out.size))
          clear hrf hro hcap HO5 HB5
          go_wp2_with fail
          simp only [zero_dec]
          (with_reducible refine HRF.out.mono ?_)
          rintro e w7 ⟨hb7, ⟨hno, rfl⟩ | ⟨xs, a7, c7, hso, rfl, hbr7, hc7⟩⟩
          · have HB7 := Lib.hid (HBW.out.trans (hb7.mono HBW.out.size))
            have HNO := Lib.hid hno
            clear hb7 hno
            go_wp2_with fail
            go_ret3
            exact ⟨HB7.out, .inr (.inr (.inl ⟨HZ.out, rfl, HNO.out, rfl⟩))⟩
          · have HB7 := Lib.hid (HBW.out.trans (hb7.mono HBW.out.size))
            have HSO := Lib.hid hso
            have HBR := Lib.hid hbr7
            clear hb7 hso hbr7
            go_wp2_with fail
            go_ret3
            exact ⟨HB7.out, .inr (.inr (.inr ⟨HZ.out, rfl, xs, a7, c7, HSO.out, rfl, HBR.out, hc7⟩))⟩
    · go_enter Tryz.func22, Tryz.ntmps22
      go_wp2_with (first
        | (go_at_call 61; (with_reducible refine HO.out.mono ?_); rintro e w' ⟨bb, rfl, hbb, hbx, hb⟩; have HF := Lib.hid (find_some (find_any c _ rfl h8 pa pc _ (HP.out.below (hB1.trans (hb.mono (by simp)))) bb hbx _ _ _ (anyList_holds _ _)) hfi); have HB := Lib.hid (hB1.trans (hb.mono (by simp))); clear hbx hb)
        | (go_at_call 70; (with_reducible refine HF.out.mono ?_); rintro e w2 ⟨v, rfl, hv, hb2⟩; have HV := Lib.hid hv; clear hv))
      go_ret3
      exact ⟨HB.out.trans (hb2.mono HB.out.size), .inr (.inl ⟨HZ.out, rfl, rfl⟩)⟩
  · have ho := opened_bad HO.out hz
    have HO := Lib.hid ho
    clear ho
    go_enter Tryz.func22, Tryz.ntmps22
    have hzz : (checkCase c != 0) = true := by simpa using hz
    go_wp2_with (go_at_call 61; (with_reducible refine HO.out.mono ?_); rintro e w' ⟨rfl, hb⟩)
    go_ret3
    exact ⟨hB1.trans (hb.mono (by simp)), .inl ⟨hz, rfl⟩⟩
end Go.Proofs.YtchgbbkjbiffiaaGreat
namespace Go.Proofs.YtchgbbkjbiffiaaGreat
open Go.RowKit
attribute [local go_sem] Oper.semAt_some

set_option maxRecDepth 100000 in
set_option maxHeartbeats 1000000 in
theorem first_ref (c : Cs) (hsm : c.Small) (pa : Option Addr) (pc : Nat) (w : World) (hp : PartsAt w pa c.parts) :
    Calls Tryz.prog 23 #[.agg #[.string c.ware, .int .i64 c.limit, .int .i64 c.by_, .slice pa c.parts.length pc]] w (LookPost (checkCase c) ((allR c).find? fun _ => true) w) := by
  obtain ⟨w1, hw1⟩ : ∃ w1, w.alloc (.cells #[.string c.ware, .int .i64 c.limit, .int .i64 c.by_, .slice pa c.parts.length pc] 24) = w1 := ⟨_, rfl⟩
  have hB1 : Below w.heap.size w w1 := by rw [← hw1]; go_grown
  have b1 : Box w1 w.heap.size (csCells c pa pc) 24 := by rw [← hw1]; exact Box.new _ _ _
  have e1 : ∀ i, w1.cell? ⟨w.heap.size, i, none⟩ = (#[.string c.ware, .int .i64 c.limit, .int .i64 c.by_, .slice pa c.parts.length pc] : Array Value)[i]? := b1.cell
  have hcc := checkCase_ref c hsm pa pc w1 (hp.below hB1)
  have HP := Lib.hid hp
  have HW := Lib.hid hw1
  have HB1 := Lib.hid hB1
  have HX := Lib.hid b1
  have HCC := Lib.hid hcc
  clear hw1 hB1 b1 hcc hp
  by_cases hz : checkCase c = 0
  · have h8 : c.parts.length ≤ 8 := check_small (ps := []) (by unfold openErr; rw [if_pos hz]; rfl)
    have hlim := check_lim hz
    have hrl := allR_len h8
    have HZ := Lib.hid hz
    rw [hz] at HCC
    clear hz
    rcases hL : allR c with _ | ⟨l, L⟩
    all_goals
      have HL := Lib.hid hL
      rw [hL] at hrl
      clear hL
      go_enter Tryz.func23, Tryz.ntmps23
      go_upto_region 1 with fail
      simp only [HW.out]
      go_wp2_with fail
      (with_reducible refine HCC.out.mono ?_)
      rintro e w2 ⟨rfl, hb2⟩
      have e2 : ∀ i, w2.cell? ⟨w.heap.size, i, none⟩ = (#[.string c.ware, .int .i64 c.limit, .int .i64 c.by_, .slice pa c.parts.length pc] : Array Value)[i]? := (HX.out.below' hb2).cell
      have HB2 := Lib.hid (HB1.out.trans (hb2.mono HB1.out.size))
      have HAL := Lib.hid (allTop_ref c h8 hlim.1 pa pc w2 (HP.out.below HB2.out))
      clear hb2 e1
      go_wp2_with fail
      (with_reducible refine HAL.out.mono ?_)
      rintro e w3 ⟨v, rfl, hv, hb3⟩
      rw [HL.out] at hv
      obtain ⟨ra, rcap, rfl, hrd⟩ := hv.at_
      have HB3 := Lib.hid (HB2.out.trans (hb3.mono HB2.out.size))
      clear hb3 hv e2
    · simp only [List.length_nil]
      clear hrd
      go_wp2_with fail
      go_ret3
      exact ⟨HB3.out, .inr (.inl ⟨HZ.out, rfl, rfl⟩)⟩
    · obtain ⟨b, o, la, lc, rfl, hc, hi, _⟩ := hrd 0 l rfl
      have HI := Lib.hid hi
      rw [Nat.add_zero] at hc
      obtain ⟨N, hN⟩ : ∃ N, L.length = N := ⟨_, rfl⟩
      simp only [List.length_cons, hN] at hrl ⊢
      clear hrd hi hN
      go_wp2_with fail
      go_ret3
      exact ⟨HB3.out, .inr (.inr ⟨HZ.out, l, la, lc, rfl, rfl, HI.out⟩)⟩
  · have hzz : (checkCase c != 0) = true := by simpa using hz
    have HZ := Lib.hid hz
    clear hz
    go_enter Tryz.func23, Tryz.ntmps23
    go_upto_region 1 with fail
    simp only [HW.out]
    go_wp2_with (go_at_call 69; (with_reducible refine HCC.out.mono ?_); rintro e w2 ⟨rfl, hb2⟩; have HB2 := Lib.hid hb2; clear hb2)
    go_ret3
    exact ⟨HB1.out.trans (HB2.out.mono HB1.out.size), .inl ⟨HZ.out, rfl⟩⟩
end Go.Proofs.YtchgbbkjbiffiaaGreat
