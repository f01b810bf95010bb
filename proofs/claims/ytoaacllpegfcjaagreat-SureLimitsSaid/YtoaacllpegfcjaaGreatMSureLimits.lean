/- What SureLimits looks at, in plain words. -/
/- SureLimits: how many reassemblies there are, what is open, and how the answers stand without a limit: the law returns true for every input, and its arguments read as before. No condition. -/
/- SureLimits: the statement. -/
import Derived.Test.YtoaacllpegfcjaaGreatMAnswers
import Derived.Test.YtoaacllpegfcjaaGreatMLaw
import Derived.Test.YtoaacllpegfcjaaGreatMPlain
import Derived.Test.YtoaacllpegfcjaaGreatMLawR
import Derived.ProofKit
import Derived.JoinedCond
set_option linter.unusedSimpArgs false
set_option linter.unusedVariables false
namespace Go.Proofs.YtoaacllpegfcjaaGreat
open Go.RowKit

theorem pairs_iff {n a b : Nat} : (a, b) ∈ pairsOf n ↔ a < b ∧ b < n := by
  simp only [pairsOf, pairsTo, rowTo, List.mem_flatMap, List.mem_range, List.mem_map, Prod.mk.injEq]
  constructor
  · rintro ⟨x, hx, d, hd, rfl, rfl⟩
    omega
  · rintro ⟨h1, h2⟩
    exact ⟨a, by omega, b - (a + 1), by omega, rfl, by omega⟩
theorem open_empty {c : Cs} (hne : (allR c).isEmpty = false) : (openOf c).length = 0 ↔ (allR c).length = 1 := by
  rw [one_open hne, List.length_eq_zero_iff, openOf, List.filter_eq_nil_iff]
  constructor
  · intro h a b ha hb hab e
    exact h (a, b) (pairs_iff.2 ⟨hab, hb⟩) (by simp [e])
  · rintro h ⟨a, b⟩ hp e
    have := pairs_iff.1 hp
    exact h a b (by omega) this.2 this.1 (by simpa using e)
def freed (c : Cs) : Cs := { c with limit := 0, by_ := 0 }
theorem freed_small {c : Cs} (h : c.Small) : (freed c).Small := ⟨h.1, h.2.1, h.2.2⟩
theorem freed_ask (c : Cs) : askErr (freed c) [] = checkCase (freed c) := by
  unfold askErr
  rw [free_some (c := freed c) (Int.le_refl 0)]
  unfold openErr
  by_cases h : checkCase (freed c) = 0
  · simp [h]
  · simp [h]
theorem open_pair {c : Cs} {a b : Nat} (h : checkCase c = 0) (ha : a < c.parts.length) (hb : b < c.parts.length) : openErr c [(a : Int), (b : Int)] = 0 := by
  unfold openErr
  rw [if_pos h, if_pos]
  simp only [List.all_cons, List.all_nil, Bool.and_true, inB, Bool.and_eq_true, decide_eq_true_eq]
  omega
/-- how the answers stand without a limit -/
theorem freed_ans {c : Cs} {a b : Nat} (ha : a < c.parts.length) (hb : b < c.parts.length) :
    (a = b ∧ ansAt (freed c) a b = 1 ∧ clashB (freed c) a b = false) ∨ (a ≠ b ∧ ((ansAt (freed c) a b = 2 ∧ clashB (freed c) a b = true) ∨ (ansAt (freed c) a b = 3 ∧ clashB (freed c) a b = false))) := by
  have h := free_ans (c := freed c) (Int.le_refl 0) (a := a) (b := b) ha hb
  by_cases hab : a = b
  · refine .inl ⟨hab, by rw [h, if_pos hab], ?_⟩
    rcases hc : clashB (freed c) a b with _ | _
    · rfl
    · exact absurd hab (clashB_ne hc)
  · rw [if_neg hab] at h
    refine .inr ⟨hab, ?_⟩
    rcases hc : clashB (freed c) a b with _ | _
    · exact .inr ⟨by rw [h, hc]; rfl, rfl⟩
    · exact .inl ⟨by rw [h, hc]; rfl, rfl⟩
theorem grid_at {T : TypeId} {B : Nat} {Q : Nat → Prop} {W : World} {a : Option Addr} {m cap : Nat} {c : Cs} (h : RowsG T B Q W (.slice a m cap) (ansRows c)) {i j : Nat} (hi : i < c.parts.length) (hj : j < c.parts.length) :
    m = c.parts.length ∧ ∃ b o b2 o2 rc, a = some ⟨b, o, none⟩ ∧ W.cell? ⟨b, o + i, none⟩ = some (.slice (some ⟨b2, o2, none⟩) c.parts.length rc) ∧ W.cell? ⟨b2, o2 + j, none⟩ = some (.int .u8 (ansAt c i j)) := by
  obtain ⟨a', cap', hv, hr⟩ := h.at_
  injection hv with h1 h2 h3
  have hm : (ansRows c).length = c.parts.length := ansRowsTo_len c _
  refine ⟨by omega, ?_⟩
  obtain ⟨b, o, ra, rc, e1, e2, e3, _⟩ := hr i (ansRowTo c i c.parts.length) (by simp [ansRows, ansRowsTo, hi])
  obtain ⟨b2, o2, e4, e5⟩ := e3 j (.int .u8 (ansAt c i j)) (by simp [ansRowTo, hj])
  subst e4
  rw [ansRowTo_len] at e2
  exact ⟨b, o, b2, o2, rc, by rw [h1]; exact e1, e2, e5⟩
end Go.Proofs.YtoaacllpegfcjaaGreat
namespace Go.Proofs.YtoaacllpegfcjaaGreat
open Go.RowKit
attribute [local go_sem] Oper.semAt_some

set_option maxRecDepth 100000 in
set_option maxHeartbeats 4000000 in
theorem sureLimits_any (c : Cs) (hf : c.Fit) (pa : Option Addr) (pc : Nat) (_ : c.parts.length ≤ pc) (w : World) (hp : PartsAt w pa c.parts) :
    Calls Tryz.prog 6 #[.agg #[.string c.ware, .int .i64 c.limit, .int .i64 c.by_, .slice pa c.parts.length pc]] w fun e w' => e = .returned (.bool true) ∧ Below w.heap.size w w' := by
  obtain ⟨w1, hw1, hB1, b1⟩ := box_case w c pa pc
  have e1 : ∀ i, w1.cell? ⟨w.heap.size, i, none⟩ = (#[.string c.ware, .int .i64 c.limit, .int .i64 c.by_, .slice pa c.parts.length pc] : Array Value)[i]? := b1.cell
  have HFW := Lib.hid (few_any c hf pa pc w1 (hp.below hB1))
  have HP := Lib.hid hp
  have HW := Lib.hid hw1
  have HB1 := Lib.hid hB1
  have HX := Lib.hid b1
  have HAL := Lib.hid alive_any
  clear hw1 hB1 b1 hp
  rcases hfb : fewB c with _ | _
  · rw [hfb] at HFW
    go_enter Tryz.func6, Tryz.ntmps6
    go_upto_region 1 with fail
    simp only [HW.out]
    go_wp2_with fail
    (with_reducible refine HFW.out.mono ?_)
    rintro e w2 ⟨rfl, hb2⟩
    have HB2 := Lib.hid (HB1.out.trans (hb2.mono HB1.out.size))
    have HX2 := Lib.hid (HX.out.below' hb2)
    clear hb2 e1
    go_wp2_with fail
    (with_reducible refine (HAL.out _).mono ?_)
    rintro e w3 ⟨rfl, hb3⟩
    have HB3 := Lib.hid (HB2.out.trans (hb3.mono HB2.out.size))
    clear hb3
    go_wp2_with fail
    go_ret
    exact ⟨rfl, HB3.out⟩
  rw [hfb] at HFW
  have hsm := few_small hfb
  have h10 : c.parts.length ≤ 10 := hsm.1
  have hcn := fun W h => (count_any c hsm pa pc W h).mono (fun (e : Ending) (w' : World) ⟨h1, h2⟩ => (⟨h2, h1⟩ : e = Ending.returned (.tuple #[.int .i64 (if checkCase c = 0 then ((allR c).length : Int) else 0), .int .i64 (checkCase c)]) ∧ Below W.heap.size W w'))
  have hop := fun W h => (open_any c hsm pa pc W h).mono (fun (e : Ending) (w' : World) hh => (by
    obtain ⟨hb, ⟨h, he⟩ | ⟨h, v, he, a, cap, hv, _⟩⟩ := hh
    · exact ⟨none, 0, by rw [if_neg h]; exact he, hb⟩
    · subst hv; exact ⟨a, cap, by rw [if_pos h, h]; exact he, hb⟩ : ∃ (a : Option Addr) (cap : Nat), e = Ending.returned (.tuple #[.slice a (if askErr c [] = 0 then (openOf c).length else 0) cap, .int .i64 (askErr c [])]) ∧ Below W.heap.size W w'))
  have hl1 : (checkCase c ≠ 0 ∧ askErr c [] = checkCase c) ∨ (checkCase c = 0 ∧ askErr c [] = 61 ∧ (if checkCase c = 0 then ((allR c).length : Int) else 0) = 0) ∨
      (checkCase c = 0 ∧ askErr c [] = 0 ∧ (if checkCase c = 0 then ((allR c).length : Int) else 0) = 1 ∧ (if askErr c [] = 0 then (openOf c).length else 0) = 0) ∨ (checkCase c = 0 ∧ askErr c [] = 0 ∧ 1 < (if checkCase c = 0 then ((allR c).length : Int) else 0) ∧ 0 < (if askErr c [] = 0 then (openOf c).length else 0)) := by
    by_cases h : checkCase c = 0
    · have h1 : openErr c [] = 0 := by simp [openErr, h]
      rcases hm : (allR c).isEmpty with _ | _
      · have h2 : askErr c [] = 0 := by rw [askErr, if_pos h1, hm]; rfl
        have h3 := open_empty hm
        have h4 : (allR c).length ≠ 0 := fun e => by rw [List.length_eq_zero_iff.1 e] at hm; cases hm
        by_cases h5 : (allR c).length = 1
        · exact .inr (.inr (.inl ⟨h, h2, by rw [if_pos h, h5]; rfl, by rw [if_pos h2]; exact h3.2 h5⟩))
        · exact .inr (.inr (.inr ⟨h, h2, by rw [if_pos h]; omega, by rw [if_pos h2]; have : (openOf c).length ≠ 0 := fun e => h5 (h3.1 e); omega⟩))
      · have h2 : askErr c [] = 61 := by rw [askErr, if_pos h1, hm]; rfl
        exact .inr (.inl ⟨h, h2, by rw [if_pos h, List.isEmpty_iff.1 hm]; rfl⟩)
    · have h1 : openErr c [] = checkCase c := openErr_bad h
      exact .inl ⟨h, by rw [askErr, h1, if_neg h]⟩
  generalize (if checkCase c = 0 then ((allR c).length : Int) else 0) = nn at *
  generalize (if askErr c [] = 0 then (openOf c).length else 0) = mm at *
  generalize checkCase c = ee at *
  generalize askErr c [] = ff at *
  have hfs := freed_small hsm
  have han := fun W (h : PartsAt W pa (freed c).parts) => answers_any (freed c) hfs pa pc W h
  have hck := fun W (h : PartsAt W pa (freed c).parts) => checkCase_any (freed c) hfs pa pc W h
  have hcl := fun x y W (h : PartsAt W pa (freed c).parts) => (clashTop_any (freed c) hfs pa pc x y W h).mono (fun (e : Ending) (w' : World) ⟨h1, h2⟩ => (⟨h2, h1⟩ : e = Ending.returned (.tuple #[.bool (openErr (freed c) [x, y] == 0 && clashB (freed c) x.toNat y.toNat), .int .i64 (openErr (freed c) [x, y])]) ∧ Below W.heap.size W w'))
  rw [freed_ask] at han
  have hpl : (freed c).parts = c.parts := rfl
  have hlm : (freed c).limit = 0 := rfl
  have hby : (freed c).by_ = 0 := rfl
  have hwr : (freed c).ware = c.ware := rfl
  simp only [hpl, hlm, hby, hwr] at han hck hcl
  have hgr := fun (a b : Nat) (ha : a < c.parts.length) (hb : b < c.parts.length) => freed_ans (c := c) ha hb
  have hoq := fun (h : checkCase (freed c) = 0) (a b : Nat) (ha : a < c.parts.length) (hb : b < c.parts.length) => open_pair (c := freed c) h ha hb
  have HCN := Lib.hid hcn
  have HOP := Lib.hid hop
  have HL1 := Lib.hid hl1
  have HAN := Lib.hid han
  have HCK := Lib.hid hck
  have HCL := Lib.hid hcl
  have HGR := Lib.hid hgr
  have HOQ := Lib.hid hoq
  have HSM := Lib.hid hsm
  clear hcn hop hl1 han hck hcl hgr hoq hpl hlm hby hwr hfs hsm hf
  go_enter Tryz.func6, Tryz.ntmps6
  go_upto_region 1 with fail
  simp only [HW.out]
  go_wp2_with fail
  (with_reducible refine HFW.out.mono ?_)
  rintro e w2 ⟨rfl, hb2⟩
  have HB2 := Lib.hid (HB1.out.trans (hb2.mono HB1.out.size))
  have HX2 := Lib.hid (HX.out.below' hb2)
  clear hb2 e1
  have e1 : ∀ i, w2.cell? ⟨w.heap.size, i, none⟩ = (#[.string c.ware, .int .i64 c.limit, .int .i64 c.by_, .slice pa c.parts.length pc] : Array Value)[i]? := HX2.out.cell
  go_wp2_with fail
  (with_reducible refine (HCN.out _ (HP.out.below HB2.out)).mono ?_)
  rintro e w2 ⟨rfl, hbn⟩
  have HX2 := Lib.hid (HX2.out.below' hbn)
  have HB2 := Lib.hid (HB2.out.trans (hbn.mono HB2.out.size))
  clear hbn
  try clear e1
  have e1 : ∀ i, w2.cell? ⟨w.heap.size, i, none⟩ = (#[.string c.ware, .int .i64 c.limit, .int .i64 c.by_, .slice pa c.parts.length pc] : Array Value)[i]? := HX2.out.cell
  go_wp2_with fail
  (with_reducible refine (HOP.out _ (HP.out.below HB2.out)).mono ?_)
  rintro e w2 ⟨oa, oc, rfl, hbn⟩
  have HX2 := Lib.hid (HX2.out.below' hbn)
  have HB2 := Lib.hid (HB2.out.trans (hbn.mono HB2.out.size))
  clear hbn
  try clear e1
  go_upto_region 5 with fail
  go_cut [56] (fun s56 wx => s56 = .bool false ∧ w2 = wx)
  case first =>
    rcases HL1.out with ⟨h, h2⟩ | ⟨h, h2, h3⟩ | ⟨h, h2, h3, h4⟩ | ⟨h, h2, h3, h4⟩
    · subst h2
      have hn : (ff == 0) = false := by simpa using h
      have hn2 : (ff != 0) = true := by simpa using h
      have hn3 : (ff != ff) = false := by simp
      clear h
      go_wp2_with fail
      go_meet
      exact ⟨rfl, rfl⟩
    · subst h
      subst h2
      subst h3
      go_wp2_with fail
      go_meet
      exact ⟨rfl, rfl⟩
    · subst h
      subst h2
      subst h3
      subst h4
      go_wp2_with fail
      go_meet
      exact ⟨rfl, rfl⟩
    · subst h
      subst h2
      have hn : (nn == 1) = false := by simp; omega
      have hn2 : 0 < nn := by omega
      have hn3 : ((mm : Int) == 0) = false := by simp; omega
      clear h3 h4
      go_wp2_with fail
      go_meet
      exact ⟨rfl, rfl⟩
  case rest =>
    obtain ⟨rfl, rfl⟩ := hcut
    obtain ⟨g1, g2⟩ : (∀ i, w2.cell? ⟨w.heap.size, i, none⟩ = (#[.string c.ware, .int .i64 c.limit, .int .i64 c.by_, .slice pa c.parts.length pc] : Array Value)[i]?) ∧ (∀ i, w2.frozen? ⟨w.heap.size, i, none⟩ = false) := HX2.out.rules
    go_upto_region 8 with fail
    have gn : Box ((w2.setCell ⟨w.heap.size, 1, none⟩ (.int .i64 0)).setCell ⟨w.heap.size, 2, none⟩ (.int .i64 0)) w.heap.size #[.string c.ware, .int .i64 0, .int .i64 0, .slice pa c.parts.length pc] 24 := by
      have := ((HX2.out.set_ 1 (.int .i64 0)).set_ 2 (.int .i64 0))
      simpa [csCells] using this
    have hbw : Below w.heap.size w ((w2.setCell ⟨w.heap.size, 1, none⟩ (.int .i64 0)).setCell ⟨w.heap.size, 2, none⟩ (.int .i64 0)) := (HB2.out.setCell (by simp) _).setCell (by simp) _
    clear HX2 HB2 g1 g2
    generalize ((w2.setCell ⟨w.heap.size, 1, none⟩ (.int .i64 0)).setCell ⟨w.heap.size, 2, none⟩ (.int .i64 0)) = w2 at *
    have HX2 := Lib.hid gn
    have HB2 := Lib.hid hbw
    clear gn hbw
    by_cases hz : checkCase (freed c) = 0
    · have HAN := Lib.hid (fun W h => (HAN.out W h).mono (fun (e : Ending) (w' : World) hh => (by
        obtain ⟨hb, ⟨h, _⟩ | ⟨_, v, he, hr⟩⟩ := hh
        · exact absurd hz h
        · obtain ⟨a, cap, rfl, _⟩ := hr.at_
          have hm : (ansRows (freed c)).length = c.parts.length := ansRowsTo_len _ _
          rw [hm] at he hr
          exact ⟨a, cap, he, hr, hb⟩ : ∃ (a : Option Addr) (cap : Nat), e = Ending.returned (.tuple #[.slice a c.parts.length cap, .int .i64 0]) ∧ RowsG 54 W.heap.size (fun b => W.heap.size ≤ b) w' (.slice a c.parts.length cap) (ansRows (freed c)) ∧ Below W.heap.size W w')))
      have HOQ := Lib.hid (HOQ.out hz)
      clear HCK
      have e1 : ∀ i, w2.cell? ⟨w.heap.size, i, none⟩ = (#[.string c.ware, .int .i64 0, .int .i64 0, .slice pa c.parts.length pc] : Array Value)[i]? := HX2.out.cell
      go_wp2_with fail
      (with_reducible refine (HAN.out _ (HP.out.below HB2.out)).mono ?_)
      rintro e w2 ⟨la, lc, rfl, hr, hbn⟩
      have HR := Lib.hid hr
      clear hr
      have HX2 := Lib.hid (HX2.out.below' hbn)
      have HB2 := Lib.hid (HB2.out.trans (hbn.mono HB2.out.size))
      clear hbn
      try clear e1
      go_wp2_with fail
      go_loopw [75] (fun iv wr => ∃ i : Nat, i ≤ c.parts.length ∧ iv = .int .i64 i ∧ Below w2.heap.size w2 wr) (fun iv _ => c.parts.length - (intOf iv).toNat)
      case atStart => exact ⟨0, Nat.zero_le _, rfl, Below.refl _ _⟩
      case round =>
        obtain ⟨i, hi, rfl, hbw⟩ := hrel
        by_cases hil : i < c.parts.length
        · have hin : (i : Int) < (c.parts.length : Int) := by omega
          have HBI := Lib.hid hbw
          clear hbw
          go_wp2_with fail
          go_loopw [80] (fun jv wx => ∃ j : Nat, j ≤ c.parts.length ∧ jv = .int .i64 j ∧ Below w2.heap.size w2 wx) (fun jv _ => c.parts.length - (intOf jv).toNat)
          case atStart => exact ⟨0, Nat.zero_le _, rfl, HBI.out⟩
          case round =>
            obtain ⟨j, hj, rfl, hbj⟩ := hrel
            have HBJ := Lib.hid hbj
            clear hbj HBI
            by_cases hjl : j < c.parts.length
            · have hjn : (j : Int) < (c.parts.length : Int) := by omega
              have hcx := HCL.out i j wr (HP.out.below (HB2.out.trans (HBJ.out.mono HB2.out.size)))
              simp only [HOQ.out i j hil hjl, Int.toNat_natCast] at hcx
              rw [show ((0 : Int) == 0 && clashB (freed c) i j) = clashB (freed c) i j from rfl] at hcx
              obtain ⟨-, b, o, b2, o2, rc, hla, hc1, hc2⟩ := grid_at (c := freed c) (HR.out.below HBJ.out) hil hjl
              change wr.cell? _ = some (.slice _ c.parts.length rc) at hc1
              subst hla
              have hgr := HGR.out i j hil hjl
              have e2 : ∀ k, wr.cell? ⟨w.heap.size, k, none⟩ = (#[.string c.ware, .int .i64 0, .int .i64 0, .slice pa c.parts.length pc] : Array Value)[k]? := (HX2.out.below' HBJ.out).cell
              have HC1 := Lib.hid hc1
              have HC2 := Lib.hid hc2
              have HCX := Lib.hid hcx
              clear hc1 hc2 hcx
              generalize ansAt (freed c) i j = v at *
              generalize clashB (freed c) i j = cb at *
              rcases hgr with ⟨h1, h2, h3⟩ | ⟨h1, ⟨h2, h3⟩ | ⟨h2, h3⟩⟩
              · have h1 := h1.symm
                subst h1
                subst h2
                subst h3
                have hij : ((j : Int) != (j : Int)) = false := by simp
                go_wp2_with (go_at_call 21; (with_reducible refine HCX.out.mono ?_); rintro e w4 ⟨rfl, hb4⟩; have c1 := below_cell hb4 HC1.out; have c2 := below_cell hb4 HC2.out; have HB4 := Lib.hid hb4; clear hb4)
                go_roundw
                case rel => exact ⟨j + 1, by omega, by go_num, HBJ.out.trans (HB4.out.mono HBJ.out.size)⟩
                case measure => simp [intOf]; omega
              · subst h2
                subst h3
                have hij : ((i : Int) != (j : Int)) = true := by simp; omega
                clear h1
                go_wp2_with (go_at_call 21; (with_reducible refine HCX.out.mono ?_); rintro e w4 ⟨rfl, hb4⟩; have c1 := below_cell hb4 HC1.out; have c2 := below_cell hb4 HC2.out; have HB4 := Lib.hid hb4; clear hb4)
                go_roundw
                case rel => exact ⟨j + 1, by omega, by go_num, HBJ.out.trans (HB4.out.mono HBJ.out.size)⟩
                case measure => simp [intOf]; omega
              · subst h2
                subst h3
                have hij : ((i : Int) != (j : Int)) = true := by simp; omega
                clear h1
                go_wp2_with (go_at_call 21; (with_reducible refine HCX.out.mono ?_); rintro e w4 ⟨rfl, hb4⟩; have c1 := below_cell hb4 HC1.out; have c2 := below_cell hb4 HC2.out; have HB4 := Lib.hid hb4; clear hb4)
                go_roundw
                case rel => exact ⟨j + 1, by omega, by go_num, HBJ.out.trans (HB4.out.mono HBJ.out.size)⟩
                case measure => simp [intOf]; omega
            · go_wp2_with fail
              go_roundw
              case rel => exact ⟨i + 1, by omega, by go_num, HBJ.out⟩
              case measure => simp [intOf]; omega
        · have HBW := Lib.hid hbw
          clear hbw
          go_wp2_with fail
          (with_reducible refine (HAL.out _).mono ?_)
          rintro e w3 ⟨rfl, hb3⟩
          have HB3 := Lib.hid hb3
          clear hb3
          go_wp2_with fail
          go_ret
          have h1 := HB2.out.trans (HBW.out.mono HB2.out.size)
          exact ⟨rfl, h1.trans (HB3.out.mono h1.size)⟩
    · have HAN := Lib.hid (fun W h => (HAN.out W h).mono (fun (e : Ending) (w' : World) hh => (by
        obtain ⟨hb, ⟨_, he⟩ | ⟨h, _⟩⟩ := hh
        · exact ⟨he, hb⟩
        · exact absurd h hz : e = Ending.returned (.tuple #[.slice none 0 0, .int .i64 (checkCase (freed c))]) ∧ Below W.heap.size W w')))
      have hzz : (checkCase (freed c) != 0) = true := by simpa using hz
      clear HOQ HGR HCL
      generalize checkCase (freed c) = e3 at *
      have e1 : ∀ i, w2.cell? ⟨w.heap.size, i, none⟩ = (#[.string c.ware, .int .i64 0, .int .i64 0, .slice pa c.parts.length pc] : Array Value)[i]? := HX2.out.cell
      go_wp2_with fail
      (with_reducible refine (HAN.out _ (HP.out.below HB2.out)).mono ?_)
      rintro e w2 ⟨rfl, hbn⟩
      have HX2 := Lib.hid (HX2.out.below' hbn)
      have HB2 := Lib.hid (HB2.out.trans (hbn.mono HB2.out.size))
      clear hbn
      try clear e1
      have e1 : ∀ i, w2.cell? ⟨w.heap.size, i, none⟩ = (#[.string c.ware, .int .i64 0, .int .i64 0, .slice pa c.parts.length pc] : Array Value)[i]? := HX2.out.cell
      go_wp2_with fail
      (with_reducible refine (HAL.out _).mono ?_)
      rintro e w2 ⟨rfl, hbn⟩
      have HX2 := Lib.hid (HX2.out.below' hbn)
      have HB2 := Lib.hid (HB2.out.trans (hbn.mono HB2.out.size))
      clear hbn
      try clear e1
      have e1 : ∀ i, w2.cell? ⟨w.heap.size, i, none⟩ = (#[.string c.ware, .int .i64 0, .int .i64 0, .slice pa c.parts.length pc] : Array Value)[i]? := HX2.out.cell
      go_wp2_with fail
      (with_reducible refine (HCK.out _ (HP.out.below HB2.out)).mono ?_)
      rintro e w2 ⟨rfl, hbn⟩
      have HX2 := Lib.hid (HX2.out.below' hbn)
      have HB2 := Lib.hid (HB2.out.trans (hbn.mono HB2.out.size))
      clear hbn
      try clear e1
      go_wp2_with fail
      go_ret
      exact ⟨by simp, HB2.out⟩
end Go.Proofs.YtoaacllpegfcjaaGreat
namespace Go.Proofs.YtoaacllpegfcjaaGreat.SureLimitsEnd
open Go.ChangeShapes Go.WideShapes Go.ChangeAt Go.RowKit

theorem own : ownKnob Tryz.prog.godebug = none := by kernel_rfl

set_option maxRecDepth 100000 in
theorem lifted (os : Os) (started : os.Started) (H : Type) (enc : TypeId × Value → H) :
    ReturnsInHanded {} Tryz.checked os 6 .any (Rows.sureLimitsSpec.pre6 enc Tryz.prog Tryz.f6 Rows.sureLimitsRow.domain false) (Rows.sureLimitsSpec.post enc Tryz.prog Tryz.f6 false true false false) := by
  refine returnsInHanded_of_change (C := Tryz.checked) own started (by kernel_rfl) Tryz.func6
    (ChangeSpec.witness6 (enc := enc) (C := Tryz.checked) false ⟨#[], #[.agg #[.string ⟨#[]⟩, .int .i64 0, .int .i64 0, .slice none 0 0]], []⟩ 8 (by kernel_rfl) (by kernel_rfl) (by kernel_rfl) (by kernel_rfl)) ?_
  intro W base args ds gs before hval0 hW hcnd _
  have hval : ∀ (j : Nat) t v, Tryz.f6.params[j]? = some t → args[j]? = some v → Value.okWide Tryz.prog W .any base t v := hval0
  have hW' := hW
  obtain ⟨p, q, hA0, hV, rfl, hfz, hnd⟩ := hW
  have hA : DataW.TrodAll enc Tryz.prog W 0 (fun _ => true) true Tryz.f6.params.toList args.toList ds p := hA0
  rw [Tryz.params6] at hA hval
  obtain ⟨v0, vs0, d0, ds0, p0, q0, hargs, rfl, rfl, h0, r0⟩ := trodAll_cons hA
  obtain ⟨rfl, rfl, rfl⟩ := trodAll_nil r0
  obtain rfl : args = #[v0] := by cases args; simp_all
  obtain ⟨rfl, rfl⟩ := trodVars_none hV
  obtain ⟨c0, pa0, pc0, rfl, hp0, hpc0, hfit0, hlw0⟩ := case_of (hval 0 _ v0 rfl rfl) h0
  clear hA0 hval0
  refine (sureLimits_any c0 hfit0 pa0 pc0 hpc0 W hp0).mono fun e W' ⟨he, hb⟩ => ?_
  subst he
  exact ⟨_, rfl, law_post rfl rfl (of_decide_eq_true (by kernel_rfl)) hW' rfl rfl rfl hb⟩

theorem over : Rows.sureLimitsRow.holds Tryz.pinned (OpenSpec.ofChange Rows.sureLimitsSpec) :=
  OpenClaim.holds_of_wide 6 Tryz.f6 rfl rfl rfl rfl rfl rfl rfl ⟨rfl, rfl, rfl, rfl, rfl⟩ rfl rfl rfl rfl rfl (by kernel_rfl) Tryz.func6 (by kernel_rfl)
    (of_decide_eq_true (by kernel_rfl)) (by unfold Func.isWrapper; first | (rw [if_pos (by decide +kernel)]; kernel_rfl) | (rw [if_neg (by decide +kernel)]; exact ⟨rfl, rfl⟩))
    (fun os started H enc _ => lifted os started H enc)

theorem proved : Rows.SureLimitsSaid :=
  over
#print axioms proved
end Go.Proofs.YtoaacllpegfcjaaGreat.SureLimitsEnd
