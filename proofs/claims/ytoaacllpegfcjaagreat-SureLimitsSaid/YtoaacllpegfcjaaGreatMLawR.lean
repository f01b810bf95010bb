/- A list that is looked for, as the program and as the reference return it. -/
/- Clash, of the program and of the reference; the reference's Count, First. -/
/- The reference's Fits. -/
import Derived.Test.YtoaacllpegfcjaaGreatRefW
import Derived.Test.YtoaacllpegfcjaaGreatMAlive
import Derived.Test.YtoaacllpegfcjaaGreatMFind
import Derived.Test.YtoaacllpegfcjaaGreatMPlain
set_option linter.unusedSimpArgs false
set_option linter.unusedVariables false
namespace Go.Proofs.YtoaacllpegfcjaaGreat
open Go.RowKit

/-- what both return, in one form -/
def SeePost (er : Int) (o : Option (List Nat)) (w : World) (e : Ending) (w' : World) : Prop :=
  ∃ (a : Option Addr) (cap : Nat), e = .returned (.tuple #[.slice a ((if er = 0 then o else none).getD []).length cap, .bool (if er = 0 then o else none).isSome, .int .i64 er]) ∧ Ints w' a (natInts ((if er = 0 then o else none).getD [])) ∧ Below w.heap.size w w'
theorem see_list {er : Int} {o : Option (List Nat)} {w : World} {e : Ending} {w' : World} (h : ListPost er o w e w') : SeePost er o w e w' := by
  obtain ⟨hb, ⟨h, rfl⟩ | ⟨h, ho, rfl⟩ | ⟨h, x, v, ho, rfl, hv⟩⟩ := h
  · simp only [SeePost, h, if_false]
    exact ⟨none, 0, rfl, Ints.nil _ _, hb⟩
  · simp only [SeePost, h, ho, if_true]
    exact ⟨none, 0, rfl, Ints.nil _ _, hb⟩
  · obtain ⟨a, cap, rfl, hi⟩ := own_ints hv
    simp only [SeePost, h, ho, if_true]
    exact ⟨a, cap, rfl, hi, hb⟩
theorem see_look {er : Int} {o : Option (List Nat)} {w : World} {e : Ending} {w' : World} (h : LookPost er o w e w') : SeePost er o w e w' := by
  obtain ⟨hb, ⟨h, rfl⟩ | ⟨h, ho, rfl⟩ | ⟨h, x, a, cap, ho, rfl, hi⟩⟩ := h
  · simp only [SeePost, h, if_false]
    exact ⟨none, 0, rfl, Ints.nil _ _, hb⟩
  · simp only [SeePost, h, ho, if_true]
    exact ⟨none, 0, rfl, Ints.nil _ _, hb⟩
  · simp only [SeePost, h, ho, if_true]
    exact ⟨a, cap, rfl, hi, hb⟩
end Go.Proofs.YtoaacllpegfcjaaGreat
namespace Go.Proofs.YtoaacllpegfcjaaGreat
open Go.RowKit
attribute [local go_sem] Oper.semAt_some

set_option maxRecDepth 100000 in
set_option maxHeartbeats 1000000 in
theorem clashTop_any (c : Cs) (hsm : c.Small) (pa : Option Addr) (pc : Nat) (x y : Int) (w : World) (hp : PartsAt w pa c.parts) :
    Calls Tryz.prog 21 #[.agg #[.string c.ware, .int .i64 c.limit, .int .i64 c.by_, .slice pa c.parts.length pc], .int .i64 x, .int .i64 y] w
      (BoolPost (openErr c [x, y]) (openErr c [x, y] == 0 && clashB c x.toNat y.toNat) w) := by
  obtain ⟨w1, hw1⟩ : ∃ w1, w.alloc (.cells #[.string c.ware, .int .i64 c.limit, .int .i64 c.by_, .slice pa c.parts.length pc] 24) = w1 := ⟨_, rfl⟩
  have hB1 : Below w.heap.size w w1 := by rw [← hw1]; go_grown
  have hs1 : w1.heap.size = w.heap.size + 1 := by rw [← hw1]; simp
  have b1 : Box w1 w.heap.size (csCells c pa pc) 24 := by rw [← hw1]; exact Box.new _ _ _
  have e1 : ∀ i, w1.cell? ⟨w.heap.size, i, none⟩ = (#[.string c.ware, .int .i64 c.limit, .int .i64 c.by_, .slice pa c.parts.length pc] : Array Value)[i]? := b1.cell
  have hB2 : Below w.heap.size w (w1.alloc (.cells #[.int .i64 x, .int .i64 y] 3)) := hB1.alloc (by omega) _
  have ho := opened_any c hsm pa pc [x, y] (some ⟨w1.heap.size, 0, none⟩) 2 (w1.alloc (.cells #[.int .i64 x, .int .i64 y] 3)) (hp.below hB2) (pair_ints _ _ _ _) (by simp)
  simp only [List.length_cons, List.length_nil, Nat.zero_add, Nat.reduceAdd] at ho
  have HP := Lib.hid hp
  have HW := Lib.hid hw1
  have HB2 := Lib.hid hB2
  clear hp hw1 hB1 b1 hs1 hB2
  by_cases hz : openErr c [x, y] = 0
  · have hoo := opened_good ho hz
    have h8 := check_small hz
    have hx := open_in hz x (by simp)
    have hy := open_in hz y (by simp)
    obtain ⟨a, rfl⟩ := Int.eq_ofNat_of_zero_le hx.1
    obtain ⟨b, rfl⟩ := Int.eq_ofNat_of_zero_le hy.1
    simp only [Int.toNat_natCast]
    have HO := Lib.hid hoo
    have HZ := Lib.hid hz
    clear ho hoo hz
    go_enter Tryz.func21, Tryz.ntmps21
    go_upto_region 1 with fail
    simp only [HW.out]
    go_wp2_with fail
    (with_reducible refine HO.out.mono ?_)
    rintro e w' ⟨bb, rfl, hbb, hbx, hb⟩
    have HBX := Lib.hid hbx
    have HB := Lib.hid (HB2.out.trans (hb.mono HB2.out.size))
    have HC := Lib.hid (clash_any c (by omega) bb a b pa pc w' hbx (HP.out.below HB.out) (by omega) (by omega))
    clear hbx hb hbb
    go_wp2_with fail
    (with_reducible refine HC.out.mono ?_)
    rintro e w2 ⟨rfl, hb2⟩
    have HB3 := Lib.hid (HB.out.trans (hb2.mono HB.out.size))
    clear hb2
    go_wp2_with fail
    go_ret2
    exact ⟨HB3.out, by rw [HZ.out]; rfl⟩
  · have hoo := opened_bad ho hz
    have HO := Lib.hid hoo
    have HZ := Lib.hid hz
    have hzz : (openErr c [x, y] != 0) = true := by simpa using hz
    clear ho hoo hz
    go_enter Tryz.func21, Tryz.ntmps21
    go_upto_region 1 with fail
    simp only [HW.out]
    go_wp2_with (go_at_call 51; (with_reducible refine HO.out.mono ?_); rintro e w' ⟨rfl, hb⟩; have HB := Lib.hid (HB2.out.trans (hb.mono HB2.out.size)); clear hb)
    go_ret2
    exact ⟨HB.out, by rw [show (openErr c [x, y] == 0) = false by simpa using HZ.out]; rfl⟩
set_option maxRecDepth 100000 in
set_option maxHeartbeats 1000000 in
theorem clashTop_ref (c : Cs) (hsm : c.Small) (pa : Option Addr) (pc : Nat) (x y : Int) (w : World) (hp : PartsAt w pa c.parts) :
    Calls Tryz.prog 22 #[.agg #[.string c.ware, .int .i64 c.limit, .int .i64 c.by_, .slice pa c.parts.length pc], .int .i64 x, .int .i64 y] w
      (BoolPost (openErr c [x, y]) (openErr c [x, y] == 0 && clashB c x.toNat y.toNat) w) := by
  obtain ⟨w1, hw1⟩ : ∃ w1, w.alloc (.cells #[.string c.ware, .int .i64 c.limit, .int .i64 c.by_, .slice pa c.parts.length pc] 24) = w1 := ⟨_, rfl⟩
  have hB1 : Below w.heap.size w w1 := by rw [← hw1]; go_grown
  have b1 : Box w1 w.heap.size (csCells c pa pc) 24 := by rw [← hw1]; exact Box.new _ _ _
  have e1 : ∀ i, w1.cell? ⟨w.heap.size, i, none⟩ = (#[.string c.ware, .int .i64 c.limit, .int .i64 c.by_, .slice pa c.parts.length pc] : Array Value)[i]? := b1.cell
  have hak := asked_ref c hsm pa pc x y w1 (hp.below hB1)
  have HP := Lib.hid hp
  have HW := Lib.hid hw1
  have HB1 := Lib.hid hB1
  have HX := Lib.hid b1
  have HAK := Lib.hid hak
  clear hw1 hB1 b1 hak hp
  by_cases hz : openErr c [x, y] = 0
  · have h8 := check_small hz
    have hx := open_in hz x (by simp)
    have hy := open_in hz y (by simp)
    obtain ⟨a, rfl⟩ := Int.eq_ofNat_of_zero_le hx.1
    obtain ⟨b, rfl⟩ := Int.eq_ofNat_of_zero_le hy.1
    simp only [Int.toNat_natCast]
    have HZ := Lib.hid hz
    rw [hz] at HAK
    clear hz
    go_enter Tryz.func22, Tryz.ntmps22
    go_upto_region 1 with fail
    simp only [HW.out]
    go_wp2_with fail
    (with_reducible refine HAK.out.mono ?_)
    rintro e w2 ⟨rfl, hb2⟩
    have e2 : ∀ i, w2.cell? ⟨w.heap.size, i, none⟩ = (#[.string c.ware, .int .i64 c.limit, .int .i64 c.by_, .slice pa c.parts.length pc] : Array Value)[i]? := (HX.out.below' hb2).cell
    have HB2 := Lib.hid (HB1.out.trans (hb2.mono HB1.out.size))
    have HC := Lib.hid (clash_ref c (by omega) a b pa pc w2 (HP.out.below HB2.out) (by omega) (by omega))
    clear hb2 e1
    go_wp2_with fail
    (with_reducible refine HC.out.mono ?_)
    rintro e w3 ⟨rfl, hb3⟩
    have HB3 := Lib.hid (HB2.out.trans (hb3.mono HB2.out.size))
    clear hb3
    go_wp2_with fail
    go_ret2
    exact ⟨HB3.out, by rw [HZ.out]; rfl⟩
  · have hzz : (openErr c [x, y] != 0) = true := by simpa using hz
    have HZ := Lib.hid hz
    clear hz
    go_enter Tryz.func22, Tryz.ntmps22
    go_upto_region 1 with fail
    simp only [HW.out]
    go_wp2_with (go_at_call 63; (with_reducible refine HAK.out.mono ?_); rintro e w2 ⟨rfl, hb2⟩; have HB2 := Lib.hid hb2; clear hb2)
    go_ret2
    exact ⟨HB1.out.trans (HB2.out.mono HB1.out.size), by rw [show (openErr c [x, y] == 0) = false by simpa using HZ.out]; rfl⟩
set_option maxRecDepth 100000 in
set_option maxHeartbeats 1000000 in
theorem count_ref (c : Cs) (hsm : c.Small) (pa : Option Addr) (pc : Nat) (w : World) (hp : PartsAt w pa c.parts) :
    Calls Tryz.prog 29 #[.agg #[.string c.ware, .int .i64 c.limit, .int .i64 c.by_, .slice pa c.parts.length pc]] w (IntPost (checkCase c) (allR c).length w) := by
  obtain ⟨w1, hw1⟩ : ∃ w1, w.alloc (.cells #[.string c.ware, .int .i64 c.limit, .int .i64 c.by_, .slice pa c.parts.length pc] 24) = w1 := ⟨_, rfl⟩
  have hB1 : Below w.heap.size w w1 := by rw [← hw1]; go_grown
  have b1 : Box w1 w.heap.size (csCells c pa pc) 24 := by rw [← hw1]; exact Box.new _ _ _
  have e1 : ∀ i, w1.cell? ⟨w.heap.size, i, none⟩ = (#[.string c.ware, .int .i64 c.limit, .int .i64 c.by_, .slice pa c.parts.length pc] : Array Value)[i]? := b1.cell
  have hcc := checkCase_ref c hsm pa pc w1 (hp.below hB1)
  have HP := Lib.hid hp
  have HW := Lib.hid hw1
  have HB1 := Lib.hid hB1
  have HX := Lib.hid b1
  have HCC := Lib.hid hcc
  clear hw1 hB1 b1 hcc hp
  by_cases hz : checkCase c = 0
  · have h8 : c.parts.length ≤ 8 := check_small (ps := []) (by unfold openErr; rw [if_pos hz]; rfl)
    have hlim := check_lim hz
    have hrl := allR_len h8
    have HZ := Lib.hid hz
    rw [hz] at HCC
    obtain ⟨N, hN⟩ : ∃ N, (allR c).length = N := ⟨_, rfl⟩
    have HN := Lib.hid hN
    rw [hN] at hrl
    clear hz hN
    go_enter Tryz.func29, Tryz.ntmps29
    go_upto_region 1 with fail
    simp only [HW.out]
    go_wp2_with fail
    (with_reducible refine HCC.out.mono ?_)
    rintro e w2 ⟨rfl, hb2⟩
    have e2 : ∀ i, w2.cell? ⟨w.heap.size, i, none⟩ = (#[.string c.ware, .int .i64 c.limit, .int .i64 c.by_, .slice pa c.parts.length pc] : Array Value)[i]? := (HX.out.below' hb2).cell
    have HB2 := Lib.hid (HB1.out.trans (hb2.mono HB1.out.size))
    have HAL := Lib.hid (allTop_ref c h8 hlim.1 pa pc w2 (HP.out.below HB2.out))
    clear hb2 e1
    go_wp2_with fail
    (with_reducible refine HAL.out.mono ?_)
    rintro e w3 ⟨v, rfl, hv, hb3⟩
    obtain ⟨ra, rcap, rfl, -⟩ := hv.at_
    have HB3 := Lib.hid (HB2.out.trans (hb3.mono HB2.out.size))
    rw [HN.out] at *
    clear hb3 hv e2
    go_wp2_with fail
    go_ret2
    exact ⟨HB3.out, by rw [HZ.out, if_pos rfl]; rfl⟩
  · have hzz : (checkCase c != 0) = true := by simpa using hz
    have HZ := Lib.hid hz
    clear hz
    go_enter Tryz.func29, Tryz.ntmps29
    go_upto_region 1 with fail
    simp only [HW.out]
    go_wp2_with (go_at_call 25; (with_reducible refine HCC.out.mono ?_); rintro e w2 ⟨rfl, hb2⟩; have HB2 := Lib.hid hb2; clear hb2)
    go_ret2
    exact ⟨HB1.out.trans (HB2.out.mono HB1.out.size), by rw [if_neg HZ.out]; rfl⟩
set_option maxRecDepth 100000 in
set_option maxHeartbeats 1000000 in
theorem first_ref (c : Cs) (hsm : c.Small) (pa : Option Addr) (pc : Nat) (w : World) (hp : PartsAt w pa c.parts) :
    Calls Tryz.prog 27 #[.agg #[.string c.ware, .int .i64 c.limit, .int .i64 c.by_, .slice pa c.parts.length pc]] w (LookPost (checkCase c) ((allR c).find? fun _ => true) w) := by
  obtain ⟨w1, hw1⟩ : ∃ w1, w.alloc (.cells #[.string c.ware, .int .i64 c.limit, .int .i64 c.by_, .slice pa c.parts.length pc] 24) = w1 := ⟨_, rfl⟩
  have hB1 : Below w.heap.size w w1 := by rw [← hw1]; go_grown
  have b1 : Box w1 w.heap.size (csCells c pa pc) 24 := by rw [← hw1]; exact Box.new _ _ _
  have e1 : ∀ i, w1.cell? ⟨w.heap.size, i, none⟩ = (#[.string c.ware, .int .i64 c.limit, .int .i64 c.by_, .slice pa c.parts.length pc] : Array Value)[i]? := b1.cell
  have hcc := checkCase_ref c hsm pa pc w1 (hp.below hB1)
  have HP := Lib.hid hp
  have HW := Lib.hid hw1
  have HB1 := Lib.hid hB1
  have HX := Lib.hid b1
  have HCC := Lib.hid hcc
  clear hw1 hB1 b1 hcc hp
  by_cases hz : checkCase c = 0
  · have h8 : c.parts.length ≤ 8 := check_small (ps := []) (by unfold openErr; rw [if_pos hz]; rfl)
    have hlim := check_lim hz
    have hrl := allR_len h8
    have HZ := Lib.hid hz
    rw [hz] at HCC
    clear hz
    rcases hL : allR c with _ | ⟨l, L⟩
    all_goals
      have HL := Lib.hid hL
      rw [hL] at hrl
      clear hL
      go_enter Tryz.func27, Tryz.ntmps27
      go_upto_region 1 with fail
      simp only [HW.out]
      go_wp2_with fail
      (with_reducible refine HCC.out.mono ?_)
      rintro e w2 ⟨rfl, hb2⟩
      have e2 : ∀ i, w2.cell? ⟨w.heap.size, i, none⟩ = (#[.string c.ware, .int .i64 c.limit, .int .i64 c.by_, .slice pa c.parts.length pc] : Array Value)[i]? := (HX.out.below' hb2).cell
      have HB2 := Lib.hid (HB1.out.trans (hb2.mono HB1.out.size))
      have HAL := Lib.hid (allTop_ref c h8 hlim.1 pa pc w2 (HP.out.below HB2.out))
      clear hb2 e1
      go_wp2_with fail
      (with_reducible refine HAL.out.mono ?_)
      rintro e w3 ⟨v, rfl, hv, hb3⟩
      rw [HL.out] at hv
      obtain ⟨ra, rcap, rfl, hrd⟩ := hv.at_
      have HB3 := Lib.hid (HB2.out.trans (hb3.mono HB2.out.size))
      clear hb3 hv e2
    · simp only [List.length_nil]
      clear hrd
      go_wp2_with fail
      go_ret3
      exact ⟨HB3.out, .inr (.inl ⟨HZ.out, rfl, rfl⟩)⟩
    · obtain ⟨b, o, la, lc, rfl, hc, hi, _⟩ := hrd 0 l rfl
      have HI := Lib.hid hi
      rw [Nat.add_zero] at hc
      obtain ⟨N, hN⟩ : ∃ N, L.length = N := ⟨_, rfl⟩
      simp only [List.length_cons, hN] at hrl ⊢
      clear hrd hi hN
      go_wp2_with fail
      go_ret3
      exact ⟨HB3.out, .inr (.inr ⟨HZ.out, l, la, lc, rfl, rfl, HI.out⟩)⟩
  · have hzz : (checkCase c != 0) = true := by simpa using hz
    have HZ := Lib.hid hz
    clear hz
    go_enter Tryz.func27, Tryz.ntmps27
    go_upto_region 1 with fail
    simp only [HW.out]
    go_wp2_with (go_at_call 25; (with_reducible refine HCC.out.mono ?_); rintro e w2 ⟨rfl, hb2⟩; have HB2 := Lib.hid hb2; clear hb2)
    go_ret3
    exact ⟨HB1.out.trans (HB2.out.mono HB1.out.size), .inl ⟨HZ.out, rfl⟩⟩
end Go.Proofs.YtoaacllpegfcjaaGreat
namespace Go.Proofs.YtoaacllpegfcjaaGreat
open Go.RowKit
attribute [local go_sem] Oper.semAt_some

theorem any_at {α : Type} {l : List α} {k : Nat} {x : α} {p : α → Bool} (hx : l[k]? = some x) (hp : p x = true) : l.any p = true := by
  rw [List.any_eq_true]; exact ⟨x, List.mem_of_getElem? hx, hp⟩
theorem any_snoc {α : Type} {l : List α} {k : Nat} {x : α} {p : α → Bool} (hx : l[k]? = some x) (h : (l.take k).any p = false) (hp : p x = false) : (l.take (k + 1)).any p = false := by
  rw [take_snoc hx, List.any_append, h]; simp [hp]
set_option maxRecDepth 100000 in
set_option maxHeartbeats 2000000 in
theorem fits_ref (c : Cs) (hsm : c.Small) (pa : Option Addr) (pc : Nat) (na : Option Addr) (l : List Int) (nc : Nat) (hll : l.length ≤ 1000000) (w : World) (hp : PartsAt w pa c.parts) (hi : Ints w na l) :
    Calls Tryz.prog 23 #[.agg #[.string c.ware, .int .i64 c.limit, .int .i64 c.by_, .slice pa c.parts.length pc], .slice na l.length nc] w (BoolPost (checkCase c) (checkCase c == 0 && fitsB c l) w) := by
  obtain ⟨w1, hw1⟩ : ∃ w1, w.alloc (.cells #[.string c.ware, .int .i64 c.limit, .int .i64 c.by_, .slice pa c.parts.length pc] 24) = w1 := ⟨_, rfl⟩
  have hB1 : Below w.heap.size w w1 := by rw [← hw1]; go_grown
  have b1 : Box w1 w.heap.size (csCells c pa pc) 24 := by rw [← hw1]; exact Box.new _ _ _
  have e1 : ∀ i, w1.cell? ⟨w.heap.size, i, none⟩ = (#[.string c.ware, .int .i64 c.limit, .int .i64 c.by_, .slice pa c.parts.length pc] : Array Value)[i]? := b1.cell
  have hcc := checkCase_ref c hsm pa pc w1 (hp.below hB1)
  have HP := Lib.hid hp
  have HI := Lib.hid hi
  have HW := Lib.hid hw1
  have HB1 := Lib.hid hB1
  have HX := Lib.hid b1
  have HCC := Lib.hid hcc
  clear hw1 hB1 b1 hcc hp hi
  by_cases hz : checkCase c = 0
  · have h8 : c.parts.length ≤ 8 := check_small (ps := []) (by unfold openErr; rw [if_pos hz]; rfl)
    have hlim := check_lim hz
    have hrl := allR_len h8
    have HZ := Lib.hid hz
    rw [hz] at HCC
    clear hz
    obtain ⟨R, hR⟩ : ∃ R, allR c = R := ⟨_, rfl⟩
    have hfb : fitsB c l = R.any fun x => natInts x == l := by rw [← hR]; rfl
    rw [hR] at hrl
    have HR := Lib.hid hR
    have HF := Lib.hid hfb
    clear hR hfb
    go_enter Tryz.func23, Tryz.ntmps23
    go_upto_region 1 with fail
    simp only [HW.out]
    go_wp2_with fail
    (with_reducible refine HCC.out.mono ?_)
    rintro e w2 ⟨rfl, hb2⟩
    have e2 : ∀ i, w2.cell? ⟨w.heap.size, i, none⟩ = (#[.string c.ware, .int .i64 c.limit, .int .i64 c.by_, .slice pa c.parts.length pc] : Array Value)[i]? := (HX.out.below' hb2).cell
    have HB2 := Lib.hid (HB1.out.trans (hb2.mono HB1.out.size))
    have HAL := Lib.hid (allTop_ref c h8 hlim.1 pa pc w2 (HP.out.below HB2.out))
    clear hb2 e1
    go_wp2_with fail
    (with_reducible refine HAL.out.mono ?_)
    rintro e w3 ⟨v, rfl, hv, hb3⟩
    rw [HR.out] at hv
    have HV := Lib.hid hv
    obtain ⟨ra, rcap, rfl, -⟩ := hv.at_
    have HB3 := Lib.hid (HB2.out.trans (hb3.mono HB2.out.size))
    clear hb3 hv e2
    go_wp2_with fail
    go_loopw [8] (fun i wr => ∃ k : Nat, k ≤ R.length ∧ i = .int .i64 k ∧ Hid ((R.take k).any (fun x => natInts x == l) = false) ∧ Below w3.heap.size w3 wr) (fun i _ => R.length - (intOf i).toNat)
    case atStart => exact ⟨0, Nat.zero_le _, rfl, Lib.hid rfl, Below.refl _ _⟩
    case round =>
      obtain ⟨k, hk, rfl, HNO, hb⟩ := hrel
      have HB := Lib.hid hb
      clear hb
      by_cases hlt : k < R.length
      · obtain ⟨x, hx⟩ := get_of_lt R hlt
        obtain ⟨_, _, hva, hrd⟩ := (HV.out.below HB.out).at_
        injection hva with hva1 _ hva2
        subst hva1 hva2
        obtain ⟨rb, ro, la, lc, rfl, hc, hix, hic⟩ := hrd k x hx
        have hxn : x.length ≤ 1000000 := by
          have := allR_size (c := c) (x := x) (by rw [HR.out]; exact List.mem_of_getElem? hx)
          omega
        have hki : (k : Int) < (R.length : Int) := by omega
        have hsa := same_ref la na lc nc (natInts x) l wr hix ((HI.out.below HB3.out).below HB.out) (by rw [natInts_len]; exact hxn) hll
        rw [natInts_len] at hsa
        have HXX := Lib.hid hx
        clear hx hrd hix hic
        rcases hsm : decide (natInts x = l) with _ | _
        · rw [hsm] at hsa
          have HSA := Lib.hid hsa
          have HNE := Lib.hid (show (natInts x == l) = false by simpa using hsm)
          clear hsa hsm
          go_wp2_with (go_at_call 30; (with_reducible refine HSA.out.mono ?_); rintro e w4 ⟨rfl, hb4⟩; have HB4 := Lib.hid (HB.out.trans (hb4.mono HB.out.size)); clear hb4)
          go_roundw
          case rel => exact ⟨k + 1, by omega, by go_num, Lib.hid (any_snoc HXX.out HNO.out HNE.out), HB4.out⟩
          case measure => simp [intOf]; omega
        · rw [hsm] at hsa
          have HSA := Lib.hid hsa
          have HEQ := Lib.hid (show (natInts x == l) = true by simpa using hsm)
          clear hsa hsm
          go_wp2_with (go_at_call 30; (with_reducible refine HSA.out.mono ?_); rintro e w4 ⟨rfl, hb4⟩; have HB4 := Lib.hid (HB.out.trans (hb4.mono HB.out.size)); clear hb4)
          go_ret2
          exact ⟨HB3.out.trans (HB4.out.mono HB3.out.size), by rw [HZ.out, HF.out, any_at (p := fun x => natInts x == l) HXX.out HEQ.out]; rfl⟩
      · go_wp2_with fail
        go_ret2
        refine ⟨HB3.out.trans (HB.out.mono HB3.out.size), ?_⟩
        have h1 := HNO.out
        rw [List.take_of_length_le (by omega)] at h1
        rw [HZ.out, HF.out, h1]; rfl
  · have hzz : (checkCase c != 0) = true := by simpa using hz
    have HZ := Lib.hid hz
    clear hz
    go_enter Tryz.func23, Tryz.ntmps23
    go_upto_region 1 with fail
    simp only [HW.out]
    go_wp2_with (go_at_call 25; (with_reducible refine HCC.out.mono ?_); rintro e w2 ⟨rfl, hb2⟩; have HB2 := Lib.hid hb2; clear hb2)
    go_ret2
    exact ⟨HB1.out.trans (HB2.out.mono HB1.out.size), by rw [show (checkCase c == 0) = false by simpa using HZ.out]; rfl⟩
end Go.Proofs.YtoaacllpegfcjaaGreat
