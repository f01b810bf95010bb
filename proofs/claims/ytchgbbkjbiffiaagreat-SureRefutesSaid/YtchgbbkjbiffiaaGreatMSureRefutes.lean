/- SureRefutes: Refute and None return refutations that the reference accepts, just where it finds no reassembly: the law returns true for every input, and its arguments read as before. No condition. -/
/- SureRefutes: the statement. -/
import Derived.Test.YtchgbbkjbiffiaaGreatMNoneR
import Derived.Test.YtchgbbkjbiffiaaGreatMWalkR
import Derived.Test.YtchgbbkjbiffiaaGreatMLaw
import Derived.ProofKit
import Derived.JoinedCond
set_option linter.unusedSimpArgs false
set_option linter.unusedVariables false
namespace Go.Proofs.YtchgbbkjbiffiaaGreat
open Go.RowKit
attribute [local go_sem] Oper.semAt_some

theorem rout_bad {er : Int} {fd : Bool} {o : Option (List Br)} {w w' : World} {e : Ending} (he : er ≠ 0) (h : RefuteOut er fd o w e w') : e = .returned (.tuple #[.slice none 0 0, .bool false, .int .i64 er]) ∧ Below w.heap.size w w' := by
  rcases h with ⟨hb, ⟨_, h⟩ | ⟨h, _⟩ | ⟨h, _⟩ | ⟨h, _⟩⟩
  · exact ⟨h, hb⟩
  all_goals exact absurd h he
theorem rout_found {o : Option (List Br)} {w w' : World} {e : Ending} (h : RefuteOut 0 true o w e w') : e = .returned (.tuple #[.slice none 0 0, .bool false, .int .i64 0]) ∧ Below w.heap.size w w' := by
  rcases h with ⟨hb, ⟨h, _⟩ | ⟨_, _, h⟩ | ⟨_, h, _⟩ | ⟨_, h, _⟩⟩
  · exact absurd rfl h
  · exact ⟨h, hb⟩
  all_goals cases h
theorem rout_ok {R : List Br} {w w' : World} {e : Ending} (h : RefuteOut 0 false (some R) w e w') : ∃ (a : Option Addr) (cap : Nat), e = .returned (.tuple #[.slice a R.length cap, .bool true, .int .i64 0]) ∧ BrsAt w' a R ∧ R.length ≤ cap ∧ Below w.heap.size w w' := by
  rcases h with ⟨hb, ⟨h, _⟩ | ⟨_, h, _⟩ | ⟨_, _, h, _⟩ | ⟨_, _, x, a, cap, h, h1, h2, h3⟩⟩
  · exact absurd rfl h
  · cases h
  · cases h
  · cases h
    exact ⟨a, cap, h1, h2, h3, hb⟩
theorem look_bad {er : Int} {o : Option (List Nat)} {w w' : World} {e : Ending} (he : er ≠ 0) (h : LookPost er o w e w') : e = .returned (.tuple #[.slice none 0 0, .bool false, .int .i64 er]) ∧ Below w.heap.size w w' := by
  rcases h with ⟨hb, ⟨_, h⟩ | ⟨h, _⟩ | ⟨h, _⟩⟩
  · exact ⟨h, hb⟩
  all_goals exact absurd h he
theorem look_none {w w' : World} {e : Ending} (h : LookPost 0 none w e w') : e = .returned (.tuple #[.slice none 0 0, .bool false, .int .i64 0]) ∧ Below w.heap.size w w' := by
  rcases h with ⟨hb, ⟨h, _⟩ | ⟨_, _, h⟩ | ⟨_, _, _, _, h, _⟩⟩
  · exact absurd rfl h
  · exact ⟨h, hb⟩
  · cases h
theorem look_some {x : List Nat} {w w' : World} {e : Ending} (h : LookPost 0 (some x) w e w') : ∃ (a : Option Addr) (cap : Nat), e = .returned (.tuple #[.slice a x.length cap, .bool true, .int .i64 0]) ∧ Below w.heap.size w w' := by
  rcases h with ⟨hb, ⟨h, _⟩ | ⟨_, h, _⟩ | ⟨_, y, a, cap, h, h1, _⟩⟩
  · exact absurd rfl h
  · cases h
  · cases h
    exact ⟨a, cap, h1, hb⟩
theorem chk_yes {er : Int} {b : Bool} {w w' : World} {e : Ending} (he : er = 0) (hb : b = true) (h : BoolPost er (er == 0 && b) w e w') : e = .returned (.tuple #[.bool true, .int .i64 0]) ∧ Below w.heap.size w w' := by
  subst he hb
  exact ⟨h.2, h.1⟩

theorem cells_of {c : Cs} {pa : Option Addr} {pc b : Nat} {W : World} {t : TypeId} (h : Box W b (csCells c pa pc) t) : ∀ i, W.cell? ⟨b, i, none⟩ = (#[.string c.ware, .int .i64 c.limit, .int .i64 c.by_, .slice pa c.parts.length pc] : Array Value)[i]? := h.cell
def cArg (c : Cs) (pa : Option Addr) (pc : Nat) : Array Value := #[.agg #[.string c.ware, .int .i64 c.limit, .int .i64 c.by_, .slice pa c.parts.length pc]]
theorem find_true {l : List (List Nat)} (h : l.find? (fun _ => true) = none) : l = [] := by
  rcases l with _ | ⟨x, l⟩
  · rfl
  · simp at h
/-- what a finder of refutations, a finder of reassemblies and a check of refutations answer: one of three ways -/
def Ways (f g k : Nat) (args : Array Value) (c : Cs) (pa : Option Addr) (pc : Nat) : Prop :=
  (∃ er : Int, er ≠ 0 ∧ (∀ W, PartsAt W pa c.parts → Calls Tryz.prog f (cArg c pa pc ++ args) W fun e w' => e = .returned (.tuple #[.slice none 0 0, .bool false, .int .i64 er]) ∧ Below W.heap.size W w') ∧
    ∀ W, PartsAt W pa c.parts → Calls Tryz.prog g (cArg c pa pc ++ args) W fun e w' => e = .returned (.tuple #[.slice none 0 0, .bool false, .int .i64 er]) ∧ Below W.heap.size W w') ∨
  (∃ x : List Nat, (∀ W, PartsAt W pa c.parts → Calls Tryz.prog f (cArg c pa pc ++ args) W fun e w' => e = .returned (.tuple #[.slice none 0 0, .bool false, .int .i64 0]) ∧ Below W.heap.size W w') ∧
    ∀ W, PartsAt W pa c.parts → Calls Tryz.prog g (cArg c pa pc ++ args) W fun e w' => ∃ (a : Option Addr) (cap : Nat), e = .returned (.tuple #[.slice a x.length cap, .bool true, .int .i64 0]) ∧ Below W.heap.size W w') ∨
  ∃ R : List Br, (∀ W, PartsAt W pa c.parts → Calls Tryz.prog f (cArg c pa pc ++ args) W fun e w' => ∃ (a : Option Addr) (cap : Nat), e = .returned (.tuple #[.slice a R.length cap, .bool true, .int .i64 0]) ∧ BrsAt w' a R ∧ R.length ≤ cap ∧ Below W.heap.size W w') ∧
    (∀ W, PartsAt W pa c.parts → Calls Tryz.prog g (cArg c pa pc ++ args) W fun e w' => e = .returned (.tuple #[.slice none 0 0, .bool false, .int .i64 0]) ∧ Below W.heap.size W w') ∧
    ∀ W ra rc, PartsAt W pa c.parts → BrsAt W ra R → R.length ≤ rc → Calls Tryz.prog k (cArg c pa pc ++ args ++ #[.slice ra R.length rc]) W fun e w' => e = .returned (.tuple #[.bool true, .int .i64 0]) ∧ Below W.heap.size W w'
set_option maxRecDepth 100000 in
theorem pair_ways (c : Cs) (hsm : c.Small) (pa : Option Addr) (pc : Nat) (x y : Int) (t : Bool) : Ways 20 21 17 #[.int .i64 x, .int .i64 y, .bool t] c pa pc := by
  simp only [Ways, cArg, List.append_toArray, List.cons_append, List.nil_append, List.append_nil]
  have hrf := fun W h => refuteF_any c hsm pa pc x y t W h
  have hwr := fun W h => with_ref c hsm pa pc x y t W h
  by_cases hz : openErr c [x, y] = 0
  · have hx := open_in hz x (by simp)
    have hy := open_in hz y (by simp)
    obtain ⟨a, rfl⟩ := Int.eq_ofNat_of_zero_le hx.1
    obtain ⟨b, rfl⟩ := Int.eq_ofNat_of_zero_le hy.1
    have h8 := check_small hz
    have hlim := check_lim (open_check hz)
    simp only [hz, Int.toNat_natCast] at hrf hwr
    rcases hfo : (allR c).find? (asPair a b t) with _ | z
    · obtain ⟨R, hR, hRok⟩ := refute_law h8 hlim.1 (by omega) (by omega) hfo
      have hRs := refuteR_small h8 hlim.2 (by omega) hR
      simp only [hfo, hR, Option.isSome_none] at hrf hwr
      exact .inr (.inr ⟨R, fun W h => (hrf W h).mono fun _ _ hh => rout_ok hh, fun W h => (hwr W h).mono fun _ _ hh => look_none hh,
        fun W ra rc h1 h2 h3 => (checkRefute_ref c hsm pa pc a b t R (by have := hRs.2; omega) hRs.1 ra rc W h1 h2 h3).mono fun _ _ hh => chk_yes hz (by simpa using hRok) hh⟩)
    · simp only [hfo, Option.isSome_some] at hrf hwr
      exact .inr (.inl ⟨z, fun W h => (hrf W h).mono fun _ _ hh => rout_found hh, fun W h => (hwr W h).mono fun _ _ hh => look_some hh⟩)
  · exact .inl ⟨_, hz, fun W h => (hrf W h).mono fun _ _ hh => rout_bad hz hh, fun W h => (hwr W h).mono fun _ _ hh => look_bad hz hh⟩
set_option maxRecDepth 100000 in
theorem none_ways (c : Cs) (hsm : c.Small) (pa : Option Addr) (pc : Nat) : Ways 22 23 19 #[] c pa pc := by
  simp only [Ways, cArg, List.append_toArray, List.cons_append, List.nil_append, List.append_nil]
  have heq : openErr c [] = checkCase c := by unfold openErr; split <;> simp [*]
  have hnf := fun W h => none_any c hsm pa pc W h
  have hfr := fun W h => first_ref c hsm pa pc W h
  by_cases hz2 : checkCase c = 0
  · have h8 := check_small (ps := []) (heq.trans hz2)
    have hlim := check_lim hz2
    simp only [hz2] at hnf hfr
    rcases hfo : (allR c).find? (fun _ => true) with _ | x2
    · obtain ⟨S, hS, hSok⟩ := none_law h8 hlim.1 (find_true hfo)
      have hSs := none_small h8 hlim.2 hS
      simp only [hfo, hS, Option.isSome_none] at hnf hfr
      exact .inr (.inr ⟨S, fun W h => (hnf W h).mono fun _ _ hh => rout_ok hh, fun W h => (hfr W h).mono fun _ _ hh => look_none hh,
        fun W ra rc h1 h2 h3 => (checkNone_ref c hsm pa pc S (by have := hSs.2; omega) hSs.1 ra rc W h1 h2 h3).mono fun _ _ hh => chk_yes (heq.trans hz2) hSok hh⟩)
    · simp only [hfo, Option.isSome_some] at hnf hfr
      exact .inr (.inl ⟨x2, fun W h => (hnf W h).mono fun _ _ hh => rout_found hh, fun W h => (hfr W h).mono fun _ _ hh => look_some hh⟩)
  · exact .inl ⟨_, hz2, fun W h => (hnf W h).mono fun _ _ hh => rout_bad hz2 hh, fun W h => (hfr W h).mono fun _ _ hh => look_bad hz2 hh⟩
set_option maxRecDepth 100000 in
set_option maxHeartbeats 8000000 in
theorem sureRefutes_any (c : Cs) (hf : c.Fit) (pa : Option Addr) (pc : Nat) (_ : c.parts.length ≤ pc) (x : Int) (_ : (Lit.int .i64 x).wf = true) (y : Int) (_ : (Lit.int .i64 y).wf = true) (t : Bool) (w : World) (hp : PartsAt w pa c.parts) :
    Calls Tryz.prog 4 #[.agg #[.string c.ware, .int .i64 c.limit, .int .i64 c.by_, .slice pa c.parts.length pc], .int .i64 x, .int .i64 y, .bool t] w fun e w' => e = .returned (.bool true) ∧ Below w.heap.size w w' := by
  obtain ⟨w1, hw1, hB1, b1⟩ := box_case w c pa pc
  have e1 : ∀ i, w1.cell? ⟨w.heap.size, i, none⟩ = (#[.string c.ware, .int .i64 c.limit, .int .i64 c.by_, .slice pa c.parts.length pc] : Array Value)[i]? := b1.cell
  have HFW := Lib.hid (few_any c hf pa pc w1 (hp.below hB1))
  have HP := Lib.hid hp
  have HW := Lib.hid hw1
  have HB1 := Lib.hid hB1
  have HX := Lib.hid b1
  have HAL := Lib.hid alive_any
  clear hw1 hB1 b1 hp
  rcases hfb : fewB c with _ | _
  · rw [hfb] at HFW
    go_enter Tryz.func4, Tryz.ntmps4
    go_upto_region 1 with fail
    simp only [HW.out]
    go_wp2_with fail
    (with_reducible refine HFW.out.mono ?_)
    rintro e w2 ⟨rfl, hb2⟩
    have HB2 := Lib.hid (HB1.out.trans (hb2.mono HB1.out.size))
    have HX2 := Lib.hid (HX.out.below' hb2)
    clear hb2 e1
    go_wp2_with fail
    (with_reducible refine (HAL.out _).mono ?_)
    rintro e w3 ⟨rfl, hb3⟩
    have HB3 := Lib.hid (HB2.out.trans (hb3.mono HB2.out.size))
    clear hb3
    go_wp2_with fail
    go_ret
    exact ⟨rfl, HB3.out⟩
  rw [hfb] at HFW
  have hsm := few_small hfb
  have HNW := Lib.hid (none_ways c hsm pa pc)
  have hpw := pair_ways c hsm pa pc x y t
  simp only [Ways, cArg, List.append_toArray, List.cons_append, List.nil_append, List.append_nil] at hpw
  clear hf hsm hfb
  go_enter Tryz.func4, Tryz.ntmps4
  go_upto_region 1 with fail
  simp only [HW.out]
  go_wp2_with fail
  (with_reducible refine HFW.out.mono ?_)
  rintro e w2 ⟨rfl, hb2⟩
  have HB2 := Lib.hid (HB1.out.trans (hb2.mono HB1.out.size))
  have HX2 := Lib.hid (HX.out.below' hb2)
  clear hb2 e1
  rcases hpw with ⟨er, hz, hrf, hwr⟩ | ⟨z, hrf, hwr⟩ | ⟨R, hrf, hwr, hck⟩
  case' inl =>
    have hz1 : (er == 0) = false := by simpa using hz
    have hz2 : (er != 0) = true := by simpa using hz
    have hz3 : decide (er = 0) = false := by simpa using hz
    have HRF := Lib.hid hrf
    have HWR := Lib.hid hwr
    clear hrf hwr hz
    have e1 := cells_of HX2.out
    go_wp2_with fail
    (with_reducible refine (HRF.out _ (HP.out.below HB2.out)).mono ?_)
    rintro e w2 ⟨rfl, hbn⟩
    have HX2 := Lib.hid (HX2.out.below' hbn)
    have HB2 := Lib.hid (HB2.out.trans (hbn.mono HB2.out.size))
    clear hbn
    try clear e1
    have e1 := cells_of HX2.out
    go_wp2_with fail
    (with_reducible refine (HWR.out _ (HP.out.below HB2.out)).mono ?_)
    rintro e w2 ⟨rfl, hbn⟩
    have HX2 := Lib.hid (HX2.out.below' hbn)
    have HB2 := Lib.hid (HB2.out.trans (hbn.mono HB2.out.size))
    clear hbn
    try clear e1
  case' inr.inl =>
    have HRF := Lib.hid hrf
    have HWR := Lib.hid hwr
    clear hrf hwr
    have e1 := cells_of HX2.out
    go_wp2_with fail
    (with_reducible refine (HRF.out _ (HP.out.below HB2.out)).mono ?_)
    rintro e w2 ⟨rfl, hbn⟩
    have HX2 := Lib.hid (HX2.out.below' hbn)
    have HB2 := Lib.hid (HB2.out.trans (hbn.mono HB2.out.size))
    clear hbn
    try clear e1
    have e1 := cells_of HX2.out
    go_wp2_with fail
    (with_reducible refine (HWR.out _ (HP.out.below HB2.out)).mono ?_)
    rintro e w2 ⟨a3, c3, rfl, hbn⟩
    have HX2 := Lib.hid (HX2.out.below' hbn)
    have HB2 := Lib.hid (HB2.out.trans (hbn.mono HB2.out.size))
    clear hbn
    try clear e1
  case' inr.inr =>
    have HRF := Lib.hid hrf
    have HWR := Lib.hid hwr
    have HCK := Lib.hid hck
    clear hrf hwr hck
    have e1 := cells_of HX2.out
    go_wp2_with fail
    (with_reducible refine (HRF.out _ (HP.out.below HB2.out)).mono ?_)
    rintro e w2 ⟨a4, c4, rfl, hr, hRc, hbn⟩
    have HR := Lib.hid hr
    clear hr
    have HX2 := Lib.hid (HX2.out.below' hbn)
    have HB2 := Lib.hid (HB2.out.trans (hbn.mono HB2.out.size))
    clear hbn
    try clear e1
    have e1 := cells_of HX2.out
    go_wp2_with fail
    (with_reducible refine (HWR.out _ (HP.out.below HB2.out)).mono ?_)
    rintro e w2 ⟨rfl, hbn⟩
    have HR := Lib.hid (HR.out.below hbn)
    have HX2 := Lib.hid (HX2.out.below' hbn)
    have HB2 := Lib.hid (HB2.out.trans (hbn.mono HB2.out.size))
    clear hbn
    try clear e1
    have e1 := cells_of HX2.out
    go_wp2_with fail
    (with_reducible refine (HCK.out _ a4 c4 (HP.out.below HB2.out) HR.out hRc).mono ?_)
    rintro e w2 ⟨rfl, hbn⟩
    have HX2 := Lib.hid (HX2.out.below' hbn)
    have HB2 := Lib.hid (HB2.out.trans (hbn.mono HB2.out.size))
    clear hbn
    try clear e1
  all_goals
    have e1 := cells_of HX2.out
    go_upto_region 11 with fail
    clear e1
    have hnw := HNW.out
    simp only [Ways, cArg, List.append_toArray, List.cons_append, List.nil_append, List.append_nil] at hnw
    rcases hnw with ⟨er2, hz, hrf, hwr⟩ | ⟨z, hrf, hwr⟩ | ⟨R, hrf, hwr, hck⟩
    · have hy1 : (er2 == 0) = false := by simpa using hz
      have hy2 : (er2 != 0) = true := by simpa using hz
      have hy3 : decide (er2 = 0) = false := by simpa using hz
      have HNF := Lib.hid hrf
      have HFR := Lib.hid hwr
      clear hrf hwr hz
      have e1 := cells_of HX2.out
      go_wp2_with fail
      (with_reducible refine (HNF.out _ (HP.out.below HB2.out)).mono ?_)
      rintro e w2 ⟨rfl, hbn⟩
      have HX2 := Lib.hid (HX2.out.below' hbn)
      have HB2 := Lib.hid (HB2.out.trans (hbn.mono HB2.out.size))
      clear hbn
      try clear e1
      have e1 := cells_of HX2.out
      go_wp2_with fail
      (with_reducible refine (HFR.out _ (HP.out.below HB2.out)).mono ?_)
      rintro e w2 ⟨rfl, hbn⟩
      have HX2 := Lib.hid (HX2.out.below' hbn)
      have HB2 := Lib.hid (HB2.out.trans (hbn.mono HB2.out.size))
      clear hbn
      try clear e1
      go_wp2_with fail
      (with_reducible refine (HAL.out _).mono ?_)
      rintro e w3 ⟨rfl, hb3⟩
      have HB3 := Lib.hid (HB2.out.trans (hb3.mono HB2.out.size))
      clear hb3
      go_wp2_with fail
      go_ret
      exact ⟨rfl, HB3.out⟩
    · have HNF := Lib.hid hrf
      have HFR := Lib.hid hwr
      clear hrf hwr
      have e1 := cells_of HX2.out
      go_wp2_with fail
      (with_reducible refine (HNF.out _ (HP.out.below HB2.out)).mono ?_)
      rintro e w2 ⟨rfl, hbn⟩
      have HX2 := Lib.hid (HX2.out.below' hbn)
      have HB2 := Lib.hid (HB2.out.trans (hbn.mono HB2.out.size))
      clear hbn
      try clear e1
      have e1 := cells_of HX2.out
      go_wp2_with fail
      (with_reducible refine (HFR.out _ (HP.out.below HB2.out)).mono ?_)
      rintro e w2 ⟨a3, c3, rfl, hbn⟩
      have HX2 := Lib.hid (HX2.out.below' hbn)
      have HB2 := Lib.hid (HB2.out.trans (hbn.mono HB2.out.size))
      clear hbn
      try clear e1
      go_wp2_with fail
      (with_reducible refine (HAL.out _).mono ?_)
      rintro e w3 ⟨rfl, hb3⟩
      have HB3 := Lib.hid (HB2.out.trans (hb3.mono HB2.out.size))
      clear hb3
      go_wp2_with fail
      go_ret
      exact ⟨rfl, HB3.out⟩
    · have HNF := Lib.hid hrf
      have HFR := Lib.hid hwr
      have HCN := Lib.hid hck
      clear hrf hwr hck
      have e1 := cells_of HX2.out
      go_wp2_with fail
      (with_reducible refine (HNF.out _ (HP.out.below HB2.out)).mono ?_)
      rintro e w2 ⟨a4, c4, rfl, hr, hRc, hbn⟩
      have HR := Lib.hid hr
      clear hr
      have HX2 := Lib.hid (HX2.out.below' hbn)
      have HB2 := Lib.hid (HB2.out.trans (hbn.mono HB2.out.size))
      clear hbn
      try clear e1
      have e1 := cells_of HX2.out
      go_wp2_with fail
      (with_reducible refine (HFR.out _ (HP.out.below HB2.out)).mono ?_)
      rintro e w2 ⟨rfl, hbn⟩
      have HR := Lib.hid (HR.out.below hbn)
      have HX2 := Lib.hid (HX2.out.below' hbn)
      have HB2 := Lib.hid (HB2.out.trans (hbn.mono HB2.out.size))
      clear hbn
      try clear e1
      have e1 := cells_of HX2.out
      go_wp2_with fail
      (with_reducible refine (HCN.out _ a4 c4 (HP.out.below HB2.out) HR.out hRc).mono ?_)
      rintro e w2 ⟨rfl, hbn⟩
      have HX2 := Lib.hid (HX2.out.below' hbn)
      have HB2 := Lib.hid (HB2.out.trans (hbn.mono HB2.out.size))
      clear hbn
      try clear e1
      go_wp2_with fail
      (with_reducible refine (HAL.out _).mono ?_)
      rintro e w3 ⟨rfl, hb3⟩
      have HB3 := Lib.hid (HB2.out.trans (hb3.mono HB2.out.size))
      clear hb3
      go_wp2_with fail
      go_ret
      exact ⟨rfl, HB3.out⟩
end Go.Proofs.YtchgbbkjbiffiaaGreat
namespace Go.Proofs.YtchgbbkjbiffiaaGreat.SureRefutesEnd
open Go.ChangeShapes Go.WideShapes Go.ChangeAt Go.RowKit

theorem own : ownKnob Tryz.prog.godebug = none := by kernel_rfl

set_option maxRecDepth 100000 in
theorem lifted (os : Os) (started : os.Started) (H : Type) (enc : TypeId × Value → H) :
    ReturnsInHanded {} Tryz.checked os 4 .any (Rows.sureRefutesSpec.pre6 enc Tryz.prog Tryz.f4 Rows.sureRefutesRow.domain false) (Rows.sureRefutesSpec.post enc Tryz.prog Tryz.f4 false true false false) := by
  refine returnsInHanded_of_change (C := Tryz.checked) own started (by kernel_rfl) Tryz.func4
    (ChangeSpec.witness6 (enc := enc) (C := Tryz.checked) false ⟨#[], #[.agg #[.string ⟨#[]⟩, .int .i64 0, .int .i64 0, .slice none 0 0], .int .i64 0, .int .i64 0, .bool false], []⟩ 8 (by kernel_rfl) (by kernel_rfl) (by kernel_rfl) (by kernel_rfl)) ?_
  intro W base args ds gs before hval0 hW hcnd _
  have hval : ∀ (j : Nat) t v, Tryz.f4.params[j]? = some t → args[j]? = some v → Value.okWide Tryz.prog W .any base t v := hval0
  have hW' := hW
  obtain ⟨p, q, hA0, hV, rfl, hfz, hnd⟩ := hW
  have hA : DataW.TrodAll enc Tryz.prog W 0 (fun _ => true) true Tryz.f4.params.toList args.toList ds p := hA0
  rw [Tryz.params4] at hA hval
  obtain ⟨v0, vs0, d0, ds0, p0, q0, hargs, rfl, rfl, h0, r0⟩ := trodAll_cons hA
  obtain ⟨v1, vs1, d1, ds1, p1, q1, rfl, rfl, rfl, h1, r1⟩ := trodAll_cons r0
  obtain ⟨v2, vs2, d2, ds2, p2, q2, rfl, rfl, rfl, h2, r2⟩ := trodAll_cons r1
  obtain ⟨v3, vs3, d3, ds3, p3, q3, rfl, rfl, rfl, h3, r3⟩ := trodAll_cons r2
  obtain ⟨rfl, rfl, rfl⟩ := trodAll_nil r3
  obtain rfl : args = #[v0, v1, v2, v3] := by cases args; simp_all
  obtain ⟨rfl, rfl⟩ := trodVars_none hV
  obtain ⟨c0, pa0, pc0, rfl, hp0, hpc0, hfit0, hlw0⟩ := case_of (hval 0 _ v0 rfl rfl) h0
  obtain ⟨a1, rfl, rfl, rfl, w1⟩ := open_int Tryz.underlying3 (hval 1 _ v1 rfl rfl) h1
  obtain ⟨a2, rfl, rfl, rfl, w2⟩ := open_int Tryz.underlying3 (hval 2 _ v2 rfl rfl) h2
  obtain ⟨a3, rfl, rfl, rfl⟩ := open_bool Tryz.underlying4 (hval 3 _ v3 rfl rfl) h3
  clear hA0 hval0
  refine (sureRefutes_any c0 hfit0 pa0 pc0 hpc0 a1 w1 a2 w2 a3 W hp0).mono fun e W' ⟨he, hb⟩ => ?_
  subst he
  exact ⟨_, rfl, law_post rfl rfl (of_decide_eq_true (by kernel_rfl)) hW' rfl rfl rfl hb⟩

theorem over : Rows.sureRefutesRow.holds Tryz.pinned (OpenSpec.ofChange Rows.sureRefutesSpec) :=
  OpenClaim.holds_of_wide 4 Tryz.f4 rfl rfl rfl rfl rfl rfl rfl ⟨rfl, rfl, rfl, rfl, rfl⟩ rfl rfl rfl rfl rfl (by kernel_rfl) Tryz.func4 (by kernel_rfl)
    (of_decide_eq_true (by kernel_rfl)) (by unfold Func.isWrapper; first | (rw [if_pos (by decide +kernel)]; kernel_rfl) | (rw [if_neg (by decide +kernel)]; exact ⟨rfl, rfl⟩))
    (fun os started H enc _ => lifted os started H enc)

theorem proved : Rows.SureRefutesSaid :=
  over
#print axioms proved
end Go.Proofs.YtchgbbkjbiffiaaGreat.SureRefutesEnd
