/- SureClasses: the classes are what the answers say: the law returns true for every input, and its arguments read as before. No condition. -/
/- SureClasses: the statement. -/
import Derived.Test.YtoaacllpegfcjaaGreatMCertain
import Derived.Test.YtoaacllpegfcjaaGreatMLaw
import Derived.Deep.OwnRows
import Derived.ProofKit
import Derived.JoinedCond
set_option linter.unusedSimpArgs false
set_option linter.unusedVariables false
namespace Go.Proofs.YtoaacllpegfcjaaGreat
open Go.RowKit
attribute [local go_sem] Oper.semAt_some

/-- a row of ints by a function -/
def idxCells (n : Nat) (f : Nat → Int) : Array Value := ((List.range n).map fun y => Value.int .i64 (f y)).toArray
theorem idxCells_at {n : Nat} {f : Nat → Int} {y : Nat} (h : y < n) : (idxCells n f)[y]? = some (.int .i64 (f y)) := by simp [idxCells, h]
theorem idxCells_set {n : Nat} {f : Nat → Int} {p : Nat} {v : Int} : (idxCells n f).setIfInBounds p (.int .i64 v) = idxCells n (fun y => if y = p then v else f y) := by
  apply Array.ext_getElem?
  intro k
  by_cases hk : k < n
  · rw [idxCells_at hk]
    by_cases e : p = k
    · subst e
      rw [Array.getElem?_setIfInBounds_self_of_lt (by simp [idxCells]; omega)]
      simp
    · rw [Array.getElem?_setIfInBounds_ne e, idxCells_at hk, if_neg (fun h => e h.symm)]
  · rw [Array.getElem?_eq_none (by simp [idxCells]; omega), Array.getElem?_eq_none (by simp [idxCells]; omega)]
theorem idxCells_congr {n : Nat} {f g : Nat → Int} (h : ∀ y, y < n → f y = g y) : idxCells n f = idxCells n g := by
  unfold idxCells
  rw [List.map_congr_left (fun y hy => by rw [h y (List.mem_range.1 hy)])]
theorem made_zero (n : Nat) : madeCells #[.int .i64 0] n = idxCells n (fun _ => 0) := by
  apply Array.ext_getElem?
  intro k
  by_cases hk : k < n
  · rw [idxCells_at hk]; simp [madeCells, hk, Nat.mod_one]
  · rw [Array.getElem?_eq_none (by simp [madeCells]; omega), Array.getElem?_eq_none (by simp [idxCells]; omega)]
/-- one class, read -/
theorem class_at {T : TypeId} {B : Nat} {Q : Nat → Prop} {W : World} {a : Option Addr} {m cap : Nat} {c : Cs} (h : RowsG T B Q W (.slice a m cap) (certRows c c.parts.length)) {i : Nat} {x : List Nat} (hx : (certTo c c.parts.length)[i]? = some x) :
    ∃ b o b2 o2 rc, a = some ⟨b, o, none⟩ ∧ W.cell? ⟨b, o + i, none⟩ = some (.slice (some ⟨b2, o2, none⟩) x.length rc) ∧ ∀ (j p : Nat), x[j]? = some p → W.cell? ⟨b2, o2 + j, none⟩ = some (.int .i64 (p : Int)) := by
  obtain ⟨a', cap', hv, hr⟩ := h.at_
  injection hv with h1 h2 h3
  obtain ⟨b, o, ra, rc, e1, e2, e3, _⟩ := hr i (rowN x) (by rw [certRows, List.getElem?_map, hx]; rfl)
  have hl : (rowN x).length = x.length := by simp [rowN, natInts]
  obtain ⟨p0, hp0⟩ := get_of_lt x (cert_ne hx)
  have hg : ∀ (j p : Nat), x[j]? = some p → (rowN x)[j]? = some (.int .i64 (p : Int)) := fun j p hp => by simp [rowN, natInts, hp]
  obtain ⟨b2, o2, e4, e5⟩ := e3 0 _ (hg 0 p0 hp0)
  subst e4
  rw [hl] at e2
  refine ⟨b, o, b2, o2, rc, by rw [h1]; exact e1, e2, fun j p hp => ?_⟩
  obtain ⟨b3, o3, e6, e7⟩ := e3 j _ (hg j p hp)
  cases e6
  exact e7
/-- one row of answers, read -/
theorem arow_at {T : TypeId} {B : Nat} {Q : Nat → Prop} {W : World} {a : Option Addr} {m cap : Nat} {c : Cs} (h : RowsG T B Q W (.slice a m cap) (ansRows c)) {i : Nat} (hi : i < c.parts.length) :
    ∃ b o ra rc, a = some ⟨b, o, none⟩ ∧ W.cell? ⟨b, o + i, none⟩ = some (.slice ra c.parts.length rc) ∧ U8s W ra ((List.range c.parts.length).map (fun y => ansAt c i y)) := by
  obtain ⟨a', cap', hv, hr⟩ := h.at_
  injection hv with h1 h2 h3
  obtain ⟨b, o, ra, rc, e1, e2, e3, _⟩ := hr i (ansRowTo c i c.parts.length) (by simp [ansRows, ansRowsTo, hi])
  rw [ansRowTo_len] at e2
  refine ⟨b, o, ra, rc, by rw [h1]; exact e1, e2, ?_⟩
  unfold U8s
  rw [List.map_map]
  exact e3
set_option maxRecDepth 100000 in
set_option maxHeartbeats 4000000 in
theorem sureClasses_any (c : Cs) (hf : c.Fit) (pa : Option Addr) (pc : Nat) (_ : c.parts.length ≤ pc) (w : World) (hp : PartsAt w pa c.parts) :
    Calls Tryz.prog 9 #[.agg #[.string c.ware, .int .i64 c.limit, .int .i64 c.by_, .slice pa c.parts.length pc]] w fun e w' => e = .returned (.bool true) ∧ Below w.heap.size w w' := by
  obtain ⟨w1, hw1, hB1, b1⟩ := box_case w c pa pc
  have e1 : ∀ i, w1.cell? ⟨w.heap.size, i, none⟩ = (#[.string c.ware, .int .i64 c.limit, .int .i64 c.by_, .slice pa c.parts.length pc] : Array Value)[i]? := b1.cell
  have HFW := Lib.hid (few_any c hf pa pc w1 (hp.below hB1))
  have HP := Lib.hid hp
  have HW := Lib.hid hw1
  have HB1 := Lib.hid hB1
  have HX := Lib.hid b1
  have HAL := Lib.hid alive_any
  clear hw1 hB1 b1 hp
  rcases hfb : fewB c with _ | _
  · rw [hfb] at HFW
    go_enter Tryz.func9, Tryz.ntmps9
    go_upto_region 1 with fail
    simp only [HW.out]
    go_wp2_with fail
    (with_reducible refine HFW.out.mono ?_)
    rintro e w2 ⟨rfl, hb2⟩
    have HB2 := Lib.hid (HB1.out.trans (hb2.mono HB1.out.size))
    have HX2 := Lib.hid (HX.out.below' hb2)
    clear hb2 e1
    go_wp2_with fail
    (with_reducible refine (HAL.out _).mono ?_)
    rintro e w3 ⟨rfl, hb3⟩
    have HB3 := Lib.hid (HB2.out.trans (hb3.mono HB2.out.size))
    clear hb3
    go_wp2_with fail
    go_ret
    exact ⟨rfl, HB3.out⟩
  rw [hfb] at HFW
  have hsm := few_small hfb
  have h10 : c.parts.length ≤ 10 := hsm.1
  by_cases hz : askErr c [] = 0
  · have h8 := check_small (ask_open hz)
    have han := fun W h => (answers_any c hsm pa pc W h).mono (fun (e : Ending) (w' : World) hh => (by
      obtain ⟨hb, ⟨h, _⟩ | ⟨_, v, he, hr⟩⟩ := hh
      · exact absurd hz h
      · obtain ⟨a, cap, rfl, _⟩ := hr.at_
        have hm : (ansRows c).length = c.parts.length := ansRowsTo_len _ _
        rw [hm] at he hr
        exact ⟨a, cap, he, hr, hb⟩ : ∃ (a : Option Addr) (cap : Nat), e = Ending.returned (.tuple #[.slice a c.parts.length cap, .int .i64 0]) ∧ RowsG 54 W.heap.size (fun b => W.heap.size ≤ b) w' (.slice a c.parts.length cap) (ansRows c) ∧ Below W.heap.size W w'))
    have hce := fun W h => (certain_any c hsm pa pc W h).mono (fun (e : Ending) (w' : World) hh => (by
      obtain ⟨hb, ⟨h, _⟩ | ⟨_, v, he, hr⟩⟩ := hh
      · exact absurd hz h
      · obtain ⟨a, cap, rfl, _⟩ := hr.at_
        have hm : (certRows c c.parts.length).length = (certTo c c.parts.length).length := by simp [certRows]
        rw [hm] at he hr
        exact ⟨a, cap, he, hr, hb⟩ : ∃ (a : Option Addr) (cap : Nat), e = Ending.returned (.tuple #[.slice a (certTo c c.parts.length).length cap, .int .i64 0]) ∧ RowsG 25 W.heap.size (fun b => W.heap.size ≤ b) w' (.slice a (certTo c c.parts.length).length cap) (certRows c c.parts.length) ∧ Below W.heap.size W w'))
    have HAN := Lib.hid han
    have HCE := Lib.hid hce
    have H8 := Lib.hid h8
    have hml := certTo_len c c.parts.length
    have HML := Lib.hid hml
    clear han hce hz hsm hf hml
    go_enter Tryz.func9, Tryz.ntmps9
    go_upto_region 1 with fail
    simp only [HW.out]
    go_wp2_with fail
    (with_reducible refine HFW.out.mono ?_)
    rintro e w2 ⟨rfl, hb2⟩
    have HB2 := Lib.hid (HB1.out.trans (hb2.mono HB1.out.size))
    have HX2 := Lib.hid (HX.out.below' hb2)
    clear hb2 e1
    have e1 : ∀ i, w2.cell? ⟨w.heap.size, i, none⟩ = (#[.string c.ware, .int .i64 c.limit, .int .i64 c.by_, .slice pa c.parts.length pc] : Array Value)[i]? := HX2.out.cell
    go_wp2_with fail
    (with_reducible refine (HAN.out _ (HP.out.below HB2.out)).mono ?_)
    rintro e w2 ⟨la, lc, rfl, hr, hbn⟩
    have HR := Lib.hid hr
    clear hr
    have HX2 := Lib.hid (HX2.out.below' hbn)
    have HB2 := Lib.hid (HB2.out.trans (hbn.mono HB2.out.size))
    clear hbn
    try clear e1
    have e1 : ∀ i, w2.cell? ⟨w.heap.size, i, none⟩ = (#[.string c.ware, .int .i64 c.limit, .int .i64 c.by_, .slice pa c.parts.length pc] : Array Value)[i]? := HX2.out.cell
    go_wp2_with fail
    (with_reducible refine (HCE.out _ (HP.out.below HB2.out)).mono ?_)
    rintro e w2 ⟨ka, kc, rfl, hr, hbn⟩
    have HK := Lib.hid hr
    have HR := Lib.hid (HR.out.below hbn)
    clear hr
    have HX2 := Lib.hid (HX2.out.below' hbn)
    have HB2 := Lib.hid (HB2.out.trans (hbn.mono HB2.out.size))
    clear hbn
    try clear e1
    have e1 : ∀ i, w2.cell? ⟨w.heap.size, i, none⟩ = (#[.string c.ware, .int .i64 c.limit, .int .i64 c.by_, .slice pa c.parts.length pc] : Array Value)[i]? := HX2.out.cell
    obtain ⟨ti, hti⟩ := Option.map_eq_some_iff.1 info_int
    obtain ⟨hti1, hti2⟩ := hti
    simp only [Prod.mk.injEq] at hti2
    obtain ⟨hti2, hti3, hti4⟩ := hti2
    go_upto_region 11 with (at_make; refine wpList_make_row _ rfl _ _ 25 rfl 3 ti (.int .i64 0) Tryz.underlying25 hti1 hti2 hti3 rfl .i64 .i64 c.parts.length rfl rfl (by rw [hti4]; omega) (by omega) ?_)
    rw [made_zero]
    have gs : Box (w2.alloc (.cells (idxCells c.parts.length (fun _ => 0)) 3)) w2.heap.size (idxCells c.parts.length (fun _ => 0)) 3 := Box.new _ _ _
    have hbs : Below w2.heap.size w2 (w2.alloc (.cells (idxCells c.parts.length (fun _ => 0)) 3)) := (Below.refl _ _).alloc (Nat.le_refl _) _
    generalize w2.alloc (.cells (idxCells c.parts.length (fun _ => 0)) 3) = w5 at *
    have HGS := Lib.hid gs
    have HBS := Lib.hid hbs
    clear gs hbs e1 hti1 hti2 hti3 hti4
    go_wp2_with fail
    generalize hob : w2.heap.size = ob at *
    go_loopw [64] (fun iv wr => ∃ i : Nat, i ≤ c.parts.length ∧ iv = .int .i64 i ∧ Box wr ob (idxCells c.parts.length (fun y => if y < i then -1 else 0)) 3 ∧ Below ob w2 wr) (fun iv _ => c.parts.length - (intOf iv).toNat)
    case atStart => exact ⟨0, Nat.zero_le _, rfl, HGS.out, HBS.out⟩
    case round =>
      clear HGS HBS
      obtain ⟨i, hi, rfl, hbx, hbw⟩ := hrel
      have HBX := Lib.hid hbx
      have HBW := Lib.hid hbw
      clear hbx hbw
      by_cases hil : i < c.parts.length
      · have hin : (i : Int) < (c.parts.length : Int) := by omega
        have c1 : wr.cell? ⟨ob, i, none⟩ = some (.int .i64 _) := by { rw [HBX.out.cell]; exact idxCells_at hil }
        have c2 := HBX.out.frozen i
        go_wp2_with fail
        go_roundw
        case rel =>
          refine ⟨i + 1, by omega, by go_num, ?_, HBW.out.setCell (by simp) _⟩
          have := HBX.out.set_ i (.int .i64 (-1))
          rw [idxCells_set, idxCells_congr (g := fun y => if y < i + 1 then -1 else 0) (fun y _ => by
            by_cases h1 : y = i
            · rw [if_pos h1, if_pos (by omega)]
            · rw [if_neg h1]
              by_cases h2 : y < i
              · rw [if_pos h2, if_pos (by omega)]
              · rw [if_neg h2, if_neg (by omega)])] at this
          exact this
        case measure => simp [intOf]; omega
      · have hbx2 := HBX.out
        rw [idxCells_congr (g := fun _ => -1) (fun y hy => if_pos (by omega))] at hbx2
        have HBX := Lib.hid hbx2
        clear hbx2
        go_wp2_with fail
        obtain ⟨wq, hwq⟩ : ∃ wq : World, wq = wr := ⟨_, rfl⟩
        subst hwq
        go_loopw [73] (fun iv wr => ∃ (k : Nat) (f : Nat → Int), k ≤ (certTo c c.parts.length).length ∧ iv = .int .i64 k ∧ IdxP c k 0 f ∧ Box wr ob (idxCells c.parts.length f) 3 ∧ Below ob w2 wr) (fun iv _ => (certTo c c.parts.length).length - (intOf iv).toNat)
        case atStart => exact ⟨0, _, Nat.zero_le _, rfl, idx_start c, HBX.out, HBW.out⟩
        case round =>
          clear HBX HBW
          obtain ⟨k, f, hk, rfl, hix, hbx, hbw⟩ := hrel
          have HIX := Lib.hid hix
          have HBX := Lib.hid hbx
          have HBW := Lib.hid hbw
          clear hbx hbw hix
          have hm10 := HML.out
          by_cases hkl : k < (certTo c c.parts.length).length
          · have hin : (k : Int) < ((certTo c c.parts.length).length : Int) := by omega
            obtain ⟨x, hx⟩ := get_of_lt _ hkl
            have hbk : Below w2.heap.size w2 wr := by rw [hob]; exact HBW.out
            obtain ⟨b, o, b2, o2, rc, hka, hc1, hc2⟩ := class_at HK.out hx
            subst hka
            have c1 := below_cell hbk hc1
            have hxl : x.length ≤ c.parts.length := by
              obtain ⟨r, _, _, rfl⟩ := cert_at hx
              exact clsTo_len _ _ _
            have HC2 := Lib.hid hc2
            have HXX := Lib.hid hx
            clear hc1 hc2 hx hbk
            go_wp2_with fail
            clear c1
            go_loopw [80] (fun jv wx => ∃ (j : Nat) (f : Nat → Int), j ≤ x.length ∧ jv = .int .i64 j ∧ IdxP c k j f ∧ Box wx ob (idxCells c.parts.length f) 3 ∧ Below ob w2 wx) (fun jv _ => x.length - (intOf jv).toNat)
            case atStart => exact ⟨0, f, Nat.zero_le _, rfl, HIX.out, HBX.out, HBW.out⟩
            case round =>
              clear HIX HBX HBW
              obtain ⟨j, f, hj, rfl, hix, hbx, hbw⟩ := hrel
              have HIX := Lib.hid hix
              have HBX := Lib.hid hbx
              have HBW := Lib.hid hbw
              clear hbx hbw hix
              have hbk : Below w2.heap.size w2 wr := by rw [hob]; exact HBW.out
              by_cases hjl : j < x.length
              · have hjn : (j : Int) < (x.length : Int) := by omega
                obtain ⟨p, hp⟩ := get_of_lt x hjl
                obtain ⟨hpn, hfp⟩ := idx_free HIX.out HXX.out hp
                have c1 := below_cell hbk (HC2.out j p hp)
                have c2 : wr.cell? ⟨ob, p, none⟩ = some (.int .i64 (-1)) := by rw [HBX.out.cell, idxCells_at hpn, hfp]
                have c3 := HBX.out.frozen p
                have hp0 : ¬ ((p : Int) < 0) := by omega
                have hpi : (p : Int) < (c.parts.length : Int) := by omega
                have HPP := Lib.hid hp
                rcases j with _ | j'
                · clear hbk hp hfp
                  have c0 : wr.cell? ⟨b2, o2, none⟩ = some (.int .i64 (p : Int)) := by simpa using c1
                  have hj0 : (0 : Int) < (x.length : Int) := by omega
                  go_wp2_with fail
                  go_roundw
                  case rel =>
                    refine ⟨_, _, by omega, by go_num, idx_set HIX.out HXX.out HPP.out, ?_, HBW.out.setCell (by simp) _⟩
                    have := HBX.out.set_ p (.int .i64 k)
                    rw [idxCells_set] at this
                    exact this
                  case measure => simp [intOf]; omega
                · obtain ⟨q, hq⟩ := get_of_lt x (k := j') (by omega)
                  have c4 := below_cell hbk (HC2.out j' q hq)
                  have hqp := cert_in HXX.out hq hp
                  have hqi : ¬ ((p : Int) ≤ (q : Int)) := by omega
                  have hjj : (j' : Int) < (x.length : Int) := by omega
                  have hsb : IntKind.i64.wrap (((j' + 1 : Nat) : Int) - 1) = (j' : Int) := by rw [IntWalk.i64_in _ (by omega)]; omega
                  clear hbk hp hfp hq hqp
                  go_wp2_with fail
                  go_roundw
                  case rel =>
                    refine ⟨_, _, by omega, by go_num, idx_set HIX.out HXX.out HPP.out, ?_, HBW.out.setCell (by simp) _⟩
                    have := HBX.out.set_ p (.int .i64 k)
                    rw [idxCells_set] at this
                    exact this
                  case measure => simp [intOf]; omega
              · have hix := HIX.out
                have HIX := Lib.hid (idx_next hix HXX.out (by omega))
                have hx0 : ((x.length : Int) == 0) = false := beq_eq_false_iff_ne.2 (by have := cert_ne HXX.out; omega)
                have hx1 : (0 : Int) < (x.length : Int) := by have := cert_ne HXX.out; omega
                obtain ⟨p, hp⟩ := get_of_lt x (k := 0) (cert_ne HXX.out)
                have c0 := below_cell hbk (HC2.out 0 p hp)
                rw [Nat.add_zero] at c0
                rcases k with _ | k'
                · clear hbk hp hix
                  go_wp2_with fail
                  go_quiet (fail)
                  go_wp2_with fail
                  go_roundw
                  case rel => exact ⟨_, _, by omega, by go_num, HIX.out, HBX.out.drewN _, below_drewN HBW.out _⟩
                  case measure => simp [intOf]; omega
                · obtain ⟨y, hy⟩ := get_of_lt (certTo c c.parts.length) (k := k') (by omega)
                  obtain ⟨b', o', b3, o3, rc3, hka, hd1, hd2⟩ := class_at HK.out hy
                  cases hka
                  obtain ⟨q, hq⟩ := get_of_lt y (k := 0) (cert_ne hy)
                  have d1 := below_cell hbk hd1
                  have d0 := below_cell hbk (hd2 0 q hq)
                  rw [Nat.add_zero] at d0
                  have hy1 : (0 : Int) < (y.length : Int) := by have := cert_ne hy; omega
                  have hqp := cert_rise hy HXX.out hq hp
                  have hqi : ¬ ((p : Int) ≤ (q : Int)) := by omega
                  have hkk : (k' : Int) < ((certTo c c.parts.length).length : Int) := by omega
                  have hsb : IntKind.i64.wrap (((k' + 1 : Nat) : Int) - 1) = (k' : Int) := by rw [IntWalk.i64_in _ (by omega)]; omega
                  clear hbk hp hix hd1 hd2 hq hy hqp
                  go_wp2_with fail
                  go_quiet (fail)
                  go_wp2_with fail
                  go_roundw
                  case rel => exact ⟨_, _, by omega, by go_num, HIX.out, HBX.out.drewN _, below_drewN HBW.out _⟩
                  case measure => simp [intOf]; omega
          · have hke : k = (certTo c c.parts.length).length := by omega
            have hix := HIX.out
            rw [hke] at hix
            have hsm2 := fun (a b : Nat) (ha : a < c.parts.length) (hb : b < c.parts.length) => idx_same hix ha hb
            have HS := Lib.hid hsm2
            clear hix hke hsm2 HIX
            go_wp2_with fail
            go_loopw [139] (fun iv wx => ∃ a : Nat, a ≤ c.parts.length ∧ iv = .int .i64 a ∧ Box wx ob (idxCells c.parts.length f) 3 ∧ Below ob w2 wx) (fun iv _ => c.parts.length - (intOf iv).toNat)
            case atStart => exact ⟨0, Nat.zero_le _, rfl, HBX.out, HBW.out⟩
            case round =>
              clear HBX HBW
              obtain ⟨a, ha, rfl, hbx, hbw⟩ := hrel
              have HBX := Lib.hid hbx
              have HBW := Lib.hid hbw
              clear hbx hbw
              by_cases hal : a < c.parts.length
              · have han_ : (a : Int) < (c.parts.length : Int) := by omega
                have hbk : Below w2.heap.size w2 wr := by rw [hob]; exact HBW.out
                obtain ⟨b, o, ra, rc, hla, hh, hrow⟩ := arow_at HR.out hal
                subst hla
                obtain ⟨b2, o2, hra, hcell⟩ := hrow.base (by simp; omega)
                subst hra
                have hcl : ∀ y, y < c.parts.length → w2.cell? ⟨b2, o2 + y, none⟩ = some (.int .u8 (ansAt c a y)) := fun y hy => hcell y _ (by simp [hy])
                have c1 := below_cell hbk hh
                have c2 := below_cell hbk (hcl a hal)
                rw [ans_refl hal] at c2
                have c3 : wr.cell? ⟨ob, a, none⟩ = some (.int .i64 (f a)) := by rw [HBX.out.cell, idxCells_at hal]
                have hfa : ¬ (f a < 0) := by have := (HS.out a a hal hal).2; omega
                have HHD := Lib.hid hh
                have HROW := Lib.hid hrow
                have HCL := Lib.hid hcl
                have HFA := Lib.hid hfa
                clear hh hrow hcl hcell hbk
                go_wp2_with fail
                clear c1 c2 c3 hfa
                go_loopw [167] (fun iv wx => ∃ d : Nat, d ≤ c.parts.length ∧ iv = .int .i64 d ∧ Box wx ob (idxCells c.parts.length f) 3 ∧ Below ob w2 wx) (fun iv _ => c.parts.length - (intOf iv).toNat)
                case atStart => exact ⟨0, Nat.zero_le _, rfl, HBX.out, HBW.out⟩
                case round =>
                  clear HBX HBW
                  obtain ⟨d, hd, rfl, hbx, hbw⟩ := hrel
                  have HBX := Lib.hid hbx
                  have HBW := Lib.hid hbw
                  clear hbx hbw
                  by_cases hdl : d < c.parts.length
                  · have hdn : (d : Int) < (c.parts.length : Int) := by omega
                    have hbk : Below w2.heap.size w2 wr := by rw [hob]; exact HBW.out
                    obtain ⟨b', o', rd, rc2, hla, hh2, hrow2⟩ := arow_at HR.out hdl
                    cases hla
                    obtain ⟨b3, o3, hrd, hcell2⟩ := hrow2.base (by simp; omega)
                    subst hrd
                    have c1 := below_cell hbk HHD.out
                    have c2 := below_cell hbk hh2
                    have c3 := below_cell hbk (HCL.out d hdl)
                    have c4 := below_cell hbk (hcell2 a (ansAt c d a) (by simp [hal]))
                    rw [ans_symm hdl hal] at c4
                    have c5 : wr.cell? ⟨ob, a, none⟩ = some (.int .i64 (f a)) := by rw [HBX.out.cell, idxCells_at hal]
                    have c6 : wr.cell? ⟨ob, d, none⟩ = some (.int .i64 (f d)) := by rw [HBX.out.cell, idxCells_at hdl]
                    have hsame := (HS.out a d hal hdl).1
                    have HC := Lib.hid (And.intro c1 (And.intro c2 (And.intro c3 (And.intro c4 (And.intro c5 c6)))))
                    by_cases hv : ansAt c a d = 1
                    · have hf := hsame.2 hv
                      have heq := fun W (hW : Below wr.heap.size wr W) => equal8_any (some ⟨b2, o2, none⟩) (some ⟨b3, o3, none⟩) rc rc2 _ _ W ((HROW.out.below hbk).below hW) ((hrow2.below hbk).below hW) (by simp; omega) (by simp; omega)
                      rw [show decide ((List.range c.parts.length).map (fun y => ansAt c a y) = (List.range c.parts.length).map (fun y => ansAt c d y)) = true from decide_eq_true (rows_same hal hdl hv)] at heq
                      simp only [List.length_map, List.length_range] at heq
                      rw [hv, ← hf] at HC
                      have HEQ := Lib.hid heq
                      clear heq hv hf hsame c1 c2 c3 c4 c5 c6 hh2 hrow2 hcell2 hbk
                      generalize f a = u at *
                      have huu : (u == u) = true := by simp
                      go_wp2_with fail
                      refine wp_region_heldB 58 [] (by kernel_rfl) (by kernel_rfl) (by kernel_rfl) (by simp) ?_
                      intro S hS
                      have k0 := fun W (h : S W) => (⟨below_cell (hS W h) HC.out.1, below_cell (hS W h) HC.out.2.1, below_cell (hS W h) HC.out.2.2.1, below_cell (hS W h) HC.out.2.2.2.1, below_cell (hS W h) HC.out.2.2.2.2.1, below_cell (hS W h) HC.out.2.2.2.2.2⟩ : _ ∧ _ ∧ _ ∧ _ ∧ _ ∧ _)
                      have K0 := Lib.hid k0
                      have HSS := Lib.hid hS
                      clear k0 hS
                      simp only [List.take_succ_cons, List.take_zero, List.drop_succ_cons, List.drop_zero]
                      repeat (first
                        | (refine held_not rfl (by rfl) ?_; try (dsimp only); try simp only [Act.put, List.setIfInBounds_toArray, List.set_cons_zero, List.set_cons_succ])
                        | (refine held_val (v := ?_) rfl (by rfl) ?_ ?_; rotate_left; (· (intro W hW; obtain ⟨q0, q1, q2, q3, q4, q5⟩ := K0.out W hW; go_simp; try with_reducible rfl)); try (dsimp only); try simp only [Act.put, List.setIfInBounds_toArray, List.set_cons_zero, List.set_cons_succ])
                        | (refine held_skip rfl (by rfl) ?_ ?_; (· (intro W hW; obtain ⟨q0, q1, q2, q3, q4, q5⟩ := K0.out W hW; go_simp; try with_reducible rfl)); try (dsimp only); try simp only [Act.put, List.setIfInBounds_toArray, List.set_cons_zero, List.set_cons_succ])
                        | (refine held_call (v := .bool true) (f := 37) (args := #[.slice (some ⟨b2, o2, none⟩) c.parts.length rc, .slice (some ⟨b3, o3, none⟩) c.parts.length rc2]) rfl (by rfl) ?_ ?_ ?_; (· (intro W hW; go_simp; done)); (· exact (fun W hW => HEQ.out W (HSS.out W hW))); try (dsimp only); try simp only [Act.put, List.setIfInBounds_toArray, List.set_cons_zero, List.set_cons_succ]))
                      refine held_nil ?_
                      intro τ hτ wn hW hO
                      obtain rfl := laid0 hτ
                      have hbn := HSS.out wn hW
                      have hlx := HBX.out.lt
                      have HBX := Lib.hid (HBX.out.below' hbn)
                      have HBW := Lib.hid (HBW.out.trans (hbn.mono (by omega)))
                      clear hτ hO hW K0 HSS
                      simp only [overs, List.foldl_nil]
                      go_wp2_with fail
                      go_roundw
                      case rel => exact ⟨d + 1, by omega, by go_num, HBX.out, HBW.out⟩
                      case measure => simp [intOf]; omega
                    · have hf : ¬ (f a = f d) := fun e => hv (hsame.1 e)
                      have hvb : (ansAt c a d == 1) = false := by simpa using hv
                      have hvn : (ansAt c a d != ansAt c a d) = false := by simp
                      have hfb : (f a == f d) = false := by simpa using hf
                      clear hv hf hsame c1 c2 c3 c4 c5 c6 hh2 hrow2 hcell2 hbk
                      generalize ansAt c a d = v at *
                      go_wp2_with fail
                      refine wp_region_heldB 58 [] (by kernel_rfl) (by kernel_rfl) (by kernel_rfl) (by simp) ?_
                      intro S hS
                      have k0 := fun W (h : S W) => (⟨below_cell (hS W h) HC.out.1, below_cell (hS W h) HC.out.2.1, below_cell (hS W h) HC.out.2.2.1, below_cell (hS W h) HC.out.2.2.2.1, below_cell (hS W h) HC.out.2.2.2.2.1, below_cell (hS W h) HC.out.2.2.2.2.2⟩ : _ ∧ _ ∧ _ ∧ _ ∧ _ ∧ _)
                      have K0 := Lib.hid k0
                      have HSS := Lib.hid hS
                      clear k0 hS
                      simp only [List.take_succ_cons, List.take_zero, List.drop_succ_cons, List.drop_zero]
                      repeat (first
                        | (refine held_not rfl (by rfl) ?_; try (dsimp only); try simp only [Act.put, List.setIfInBounds_toArray, List.set_cons_zero, List.set_cons_succ])
                        | (refine held_val (v := ?_) rfl (by rfl) ?_ ?_; rotate_left; (· (intro W hW; obtain ⟨q0, q1, q2, q3, q4, q5⟩ := K0.out W hW; go_simp; try with_reducible rfl)); try (dsimp only); try simp only [Act.put, List.setIfInBounds_toArray, List.set_cons_zero, List.set_cons_succ])
                        | (refine held_skip rfl (by rfl) ?_ ?_; (· (intro W hW; obtain ⟨q0, q1, q2, q3, q4, q5⟩ := K0.out W hW; go_simp; try with_reducible rfl)); try (dsimp only); try simp only [Act.put, List.setIfInBounds_toArray, List.set_cons_zero, List.set_cons_succ]))
                      refine held_nil ?_
                      intro τ hτ wn hW hO
                      obtain rfl := laid0 hτ
                      have hbn := HSS.out wn hW
                      have hlx := HBX.out.lt
                      have HBX := Lib.hid (HBX.out.below' hbn)
                      have HBW := Lib.hid (HBW.out.trans (hbn.mono (by omega)))
                      clear hτ hO hW K0 HSS
                      simp only [overs, List.foldl_nil]
                      go_wp2_with fail
                      go_roundw
                      case rel => exact ⟨d + 1, by omega, by go_num, HBX.out, HBW.out⟩
                      case measure => simp [intOf]; omega
                  · go_wp2_with fail
                    go_roundw
                    case rel => exact ⟨a + 1, by omega, by go_num, HBX.out, HBW.out⟩
                    case measure => simp [intOf]; omega
              · go_wp2_with fail
                (with_reducible refine (HAL.out _).mono ?_)
                rintro e w3 ⟨rfl, hb3⟩
                have HB3 := Lib.hid hb3
                clear hb3
                go_wp2_with fail
                go_ret
                have h1 := HB2.out.trans (HBW.out.mono (by rw [← hob]; exact HB2.out.size))
                exact ⟨rfl, h1.trans (HB3.out.mono h1.size)⟩
  · have han := fun W h => (answers_any c hsm pa pc W h).mono (fun (e : Ending) (w' : World) hh => (by
      obtain ⟨hb, ⟨_, he⟩ | ⟨h, _⟩⟩ := hh
      · exact ⟨he, hb⟩
      · exact absurd h hz : e = Ending.returned (.tuple #[.slice none 0 0, .int .i64 (askErr c [])]) ∧ Below W.heap.size W w'))
    have hce := fun W h => (certain_any c hsm pa pc W h).mono (fun (e : Ending) (w' : World) hh => (by
      obtain ⟨hb, ⟨_, he⟩ | ⟨h, _⟩⟩ := hh
      · exact ⟨he, hb⟩
      · exact absurd h hz : e = Ending.returned (.tuple #[.slice none 0 0, .int .i64 (askErr c [])]) ∧ Below W.heap.size W w'))
    have hzz : (askErr c [] != 0) = true := by simpa using hz
    have HAN := Lib.hid han
    have HCE := Lib.hid hce
    clear han hce hz hsm hf
    generalize askErr c [] = er at *
    have hze : (er != er) = false := by simp
    have hzf : (er == er) = true := by simp
    go_enter Tryz.func9, Tryz.ntmps9
    go_upto_region 1 with fail
    simp only [HW.out]
    go_wp2_with fail
    (with_reducible refine HFW.out.mono ?_)
    rintro e w2 ⟨rfl, hb2⟩
    have HB2 := Lib.hid (HB1.out.trans (hb2.mono HB1.out.size))
    have HX2 := Lib.hid (HX.out.below' hb2)
    clear hb2 e1
    have e1 : ∀ i, w2.cell? ⟨w.heap.size, i, none⟩ = (#[.string c.ware, .int .i64 c.limit, .int .i64 c.by_, .slice pa c.parts.length pc] : Array Value)[i]? := HX2.out.cell
    go_wp2_with fail
    (with_reducible refine (HAN.out _ (HP.out.below HB2.out)).mono ?_)
    rintro e w2 ⟨rfl, hbn⟩
    have HX2 := Lib.hid (HX2.out.below' hbn)
    have HB2 := Lib.hid (HB2.out.trans (hbn.mono HB2.out.size))
    clear hbn
    try clear e1
    have e1 : ∀ i, w2.cell? ⟨w.heap.size, i, none⟩ = (#[.string c.ware, .int .i64 c.limit, .int .i64 c.by_, .slice pa c.parts.length pc] : Array Value)[i]? := HX2.out.cell
    go_wp2_with fail
    (with_reducible refine (HCE.out _ (HP.out.below HB2.out)).mono ?_)
    rintro e w2 ⟨rfl, hbn⟩
    have HX2 := Lib.hid (HX2.out.below' hbn)
    have HB2 := Lib.hid (HB2.out.trans (hbn.mono HB2.out.size))
    clear hbn
    try clear e1
    go_wp2_with fail
    (with_reducible refine (HAL.out _).mono ?_)
    rintro e w2 ⟨rfl, hbn⟩
    have HX2 := Lib.hid (HX2.out.below' hbn)
    have HB2 := Lib.hid (HB2.out.trans (hbn.mono HB2.out.size))
    clear hbn
    try clear e1
    go_wp2_with fail
    go_ret
    exact ⟨by simp, HB2.out⟩
end Go.Proofs.YtoaacllpegfcjaaGreat
namespace Go.Proofs.YtoaacllpegfcjaaGreat.SureClassesEnd
open Go.ChangeShapes Go.WideShapes Go.ChangeAt Go.RowKit

theorem own : ownKnob Tryz.prog.godebug = none := by kernel_rfl

set_option maxRecDepth 100000 in
theorem lifted (os : Os) (started : os.Started) (H : Type) (enc : TypeId × Value → H) :
    ReturnsInHanded {} Tryz.checked os 9 .any (Rows.sureClassesSpec.pre6 enc Tryz.prog Tryz.f9 Rows.sureClassesRow.domain false) (Rows.sureClassesSpec.post enc Tryz.prog Tryz.f9 false true false false) := by
  refine returnsInHanded_of_change (C := Tryz.checked) own started (by kernel_rfl) Tryz.func9
    (ChangeSpec.witness6 (enc := enc) (C := Tryz.checked) false ⟨#[], #[.agg #[.string ⟨#[]⟩, .int .i64 0, .int .i64 0, .slice none 0 0]], []⟩ 8 (by kernel_rfl) (by kernel_rfl) (by kernel_rfl) (by kernel_rfl)) ?_
  intro W base args ds gs before hval0 hW hcnd _
  have hval : ∀ (j : Nat) t v, Tryz.f9.params[j]? = some t → args[j]? = some v → Value.okWide Tryz.prog W .any base t v := hval0
  have hW' := hW
  obtain ⟨p, q, hA0, hV, rfl, hfz, hnd⟩ := hW
  have hA : DataW.TrodAll enc Tryz.prog W 0 (fun _ => true) true Tryz.f9.params.toList args.toList ds p := hA0
  rw [Tryz.params9] at hA hval
  obtain ⟨v0, vs0, d0, ds0, p0, q0, hargs, rfl, rfl, h0, r0⟩ := trodAll_cons hA
  obtain ⟨rfl, rfl, rfl⟩ := trodAll_nil r0
  obtain rfl : args = #[v0] := by cases args; simp_all
  obtain ⟨rfl, rfl⟩ := trodVars_none hV
  obtain ⟨c0, pa0, pc0, rfl, hp0, hpc0, hfit0, hlw0⟩ := case_of (hval 0 _ v0 rfl rfl) h0
  clear hA0 hval0
  refine (sureClasses_any c0 hfit0 pa0 pc0 hpc0 W hp0).mono fun e W' ⟨he, hb⟩ => ?_
  subst he
  exact ⟨_, rfl, law_post rfl rfl (of_decide_eq_true (by kernel_rfl)) hW' rfl rfl rfl hb⟩

theorem over : Rows.sureClassesRow.holds Tryz.pinned (OpenSpec.ofChange Rows.sureClassesSpec) :=
  OpenClaim.holds_of_wide 9 Tryz.f9 rfl rfl rfl rfl rfl rfl rfl ⟨rfl, rfl, rfl, rfl, rfl⟩ rfl rfl rfl rfl rfl (by kernel_rfl) Tryz.func9 (by kernel_rfl)
    (of_decide_eq_true (by kernel_rfl)) (by unfold Func.isWrapper; first | (rw [if_pos (by decide +kernel)]; kernel_rfl) | (rw [if_neg (by decide +kernel)]; exact ⟨rfl, rfl⟩))
    (fun os started H enc _ => lifted os started H enc)

theorem proved : Rows.SureClassesSaid :=
  over
#print axioms proved
end Go.Proofs.YtoaacllpegfcjaaGreat.SureClassesEnd
