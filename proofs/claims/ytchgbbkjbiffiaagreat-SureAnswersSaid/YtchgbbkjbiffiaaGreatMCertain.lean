/- What Certain tells, in plain words: the classes of the answer 'together', each once, at its first member. -/
/- Certain: the classes of what is certainly together. -/
/- What SureClasses looks at, in plain words: the classes are not empty, sorted, apart, in order, and hold every part. -/
/- slices.Equal at []uint8, walked. -/
import Derived.Test.YtchgbbkjbiffiaaGreatMAnswers
import Derived.Test.YtchgbbkjbiffiaaGreatMPlain
import Derived.Test.YtchgbbkjbiffiaaGreatMAllR
import Derived.Test.YtchgbbkjbiffiaaGreatMRefA
set_option linter.unusedSimpArgs false
set_option linter.unusedVariables false
namespace Go.Proofs.YtchgbbkjbiffiaaGreat
open Go.RowKit

def clsTo (c : Cs) (x k : Nat) : List Nat := (List.range k).filter fun y => ansAt c x y == 1
def seenA (c : Cs) (k y : Nat) : Bool := (List.range k).any fun x => ansAt c x y == 1
def certTo (c : Cs) (k : Nat) : List (List Nat) := ((List.range k).filter fun x => !seenA c x x).map fun x => clsTo c x c.parts.length
def rowN (l : List Nat) : List Value := (natInts l).map (Value.int .i64)
def certRows (c : Cs) (k : Nat) : List (List Value) := (certTo c k).map rowN
theorem clsTo_yes {c : Cs} {x k : Nat} (h : ansAt c x k = 1) : clsTo c x (k + 1) = clsTo c x k ++ [k] := by simp [clsTo, List.range_succ, List.filter_append, h]
theorem clsTo_no {c : Cs} {x k : Nat} (h : ansAt c x k ≠ 1) : clsTo c x (k + 1) = clsTo c x k := by simp [clsTo, List.range_succ, List.filter_append, h]
theorem clsTo_len (c : Cs) (x k : Nat) : (clsTo c x k).length ≤ k := Nat.le_trans (List.length_filter_le _ _) (by simp)
theorem certTo_len (c : Cs) (k : Nat) : (certTo c k).length ≤ k := by unfold certTo; rw [List.length_map]; exact Nat.le_trans (List.length_filter_le _ _) (by simp)
theorem certRows_yes {c : Cs} {k : Nat} (h : seenA c k k = false) : certRows c (k + 1) = certRows c k ++ [rowN (clsTo c k c.parts.length)] := by simp [certRows, certTo, List.range_succ, List.filter_append, h]
theorem certRows_no {c : Cs} {k : Nat} (h : seenA c k k = true) : certRows c (k + 1) = certRows c k := by simp [certRows, certTo, List.range_succ, List.filter_append, h]
theorem certRows_len (c : Cs) (k : Nat) : (certRows c k).length ≤ k := by unfold certRows; rw [List.length_map]; exact certTo_len c k
theorem seenA_succ (c : Cs) (k y : Nat) : seenA c (k + 1) y = (seenA c k y || ansAt c k y == 1) := by simp [seenA, List.range_succ, List.any_append]
theorem seenA_iff {c : Cs} {k y : Nat} : seenA c k y = true ↔ ∃ x, x < k ∧ ansAt c x y = 1 := by simp [seenA]
theorem seenA_skip {c : Cs} {k y : Nat} (hk : k < c.parts.length) (hy : y < c.parts.length) (h : seenA c k k = true) : seenA c (k + 1) y = seenA c k y := by
  rw [seenA_succ]
  rcases hs : seenA c k y with _ | _
  · rw [Bool.false_or]
    rcases ha : (ansAt c k y == 1) with _ | _
    · rfl
    · obtain ⟨x, hx, e⟩ := seenA_iff.1 h
      have e2 : ansAt c x y = 1 := by rw [ans_row (by omega) hk hy e]; simpa using ha
      have := seenA_iff.2 ⟨x, hx, e2⟩
      rw [hs] at this; cases this
  · rfl
/-- the array of what is seen -/
def seenCells (s : Nat → Bool) : Array Value := ((List.range 8).map fun y => Value.bool (s y)).toArray
theorem seenCells_at {s : Nat → Bool} {y : Nat} (h : y < 8) : (seenCells s)[y]? = some (.bool (s y)) := by simp [seenCells, h]
theorem seenCells_zero : seenCells (fun _ => false) = #[.bool false, .bool false, .bool false, .bool false, .bool false, .bool false, .bool false, .bool false] := by rfl
theorem seenCells_set {s : Nat → Bool} {y : Nat} : (seenCells s).setIfInBounds y (.bool true) = seenCells (fun z => s z || z == y) := by
  apply Array.ext_getElem?
  intro k
  by_cases hk : k < 8
  · rw [seenCells_at hk]
    by_cases e : y = k
    · subst e
      rw [Array.getElem?_setIfInBounds_self_of_lt (by simp [seenCells]; omega)]
      simp
    · rw [Array.getElem?_setIfInBounds_ne e, seenCells_at hk]
      have : (k == y) = false := by simp; omega
      rw [this, Bool.or_false]
  · rw [Array.getElem?_eq_none (by simp [seenCells]; omega), Array.getElem?_eq_none (by simp [seenCells]; omega)]
theorem seenCells_congr {s t : Nat → Bool} (h : ∀ y, y < 8 → s y = t y) : seenCells s = seenCells t := by
  apply Array.ext_getElem?
  intro k
  by_cases hk : k < 8
  · rw [seenCells_at hk, seenCells_at hk, h k hk]
  · rw [Array.getElem?_eq_none (by simp [seenCells]; omega), Array.getElem?_eq_none (by simp [seenCells]; omega)]
theorem rowN_snoc (l : List Nat) (j : Nat) : rowN (l ++ [j]) = rowN l ++ [.int .i64 j] := by simp [rowN, natInts]
theorem seen_yes {c : Cs} {i j : Nat} (h : ansAt c i j = 1) (y : Nat) : ((seenA c i y || (decide (y < j) && ansAt c i y == 1)) || y == j) = (seenA c i y || (decide (y < j + 1) && ansAt c i y == 1)) := by
  rcases Nat.lt_trichotomy y j with h1 | h1 | h1
  · have h2 : (y == j) = false := by simp; omega
    have h3 : decide (y < j) = true := by simpa using h1
    have h4 : decide (y < j + 1) = true := by simp; omega
    rw [h2, h3, h4, Bool.or_false]
  · subst h1
    simp [h]
  · have h2 : (y == j) = false := by simp; omega
    have h3 : decide (y < j) = false := by simp; omega
    have h4 : decide (y < j + 1) = false := by simp; omega
    rw [h2, h3, h4, Bool.or_false]
theorem seen_no {c : Cs} {i j : Nat} (h : ansAt c i j ≠ 1) (y : Nat) : (seenA c i y || (decide (y < j) && ansAt c i y == 1)) = (seenA c i y || (decide (y < j + 1) && ansAt c i y == 1)) := by
  rcases Nat.lt_trichotomy y j with h1 | h1 | h1
  · have h3 : decide (y < j) = true := by simpa using h1
    have h4 : decide (y < j + 1) = true := by simp; omega
    rw [h3, h4]
  · subst h1
    simp [h]
  · have h3 : decide (y < j) = false := by simp; omega
    have h4 : decide (y < j + 1) = false := by simp; omega
    rw [h3, h4]
theorem seen_end {c : Cs} {i : Nat} {y : Nat} {n : Nat} (hy : y < n) : (seenA c i y || (decide (y < n) && ansAt c i y == 1)) = seenA c (i + 1) y := by
  rw [seenA_succ]
  have : decide (y < n) = true := by simpa using hy
  rw [this, Bool.true_and]
def seenN (c : Cs) (k y : Nat) : Bool := seenA c k y && decide (y < c.parts.length)
def seenJ (c : Cs) (i j y : Nat) : Bool := (seenA c i y || (decide (y < j) && ansAt c i y == 1)) && decide (y < c.parts.length)
theorem seenJ_zero (c : Cs) (i y : Nat) : seenJ c i 0 y = seenN c i y := by simp [seenJ, seenN]
theorem seenJ_yes {c : Cs} {i j : Nat} (hj : j < c.parts.length) (h : ansAt c i j = 1) (y : Nat) : (seenJ c i j y || y == j) = seenJ c i (j + 1) y := by
  have := seen_yes h y
  unfold seenJ
  rw [← this]
  by_cases hy : y < c.parts.length
  · simp [hy]
  · have h2 : (y == j) = false := by simp; omega
    simp [hy, h2]
theorem seenJ_no {c : Cs} {i j : Nat} (h : ansAt c i j ≠ 1) (y : Nat) : seenJ c i j y = seenJ c i (j + 1) y := by
  unfold seenJ; rw [seen_no h y]
theorem seenJ_end (c : Cs) (i y : Nat) : seenJ c i c.parts.length y = seenN c (i + 1) y := by
  unfold seenJ seenN
  by_cases hy : y < c.parts.length
  · rw [seen_end hy]
  · simp [hy]
theorem seenN_skip {c : Cs} {k : Nat} (hk : k < c.parts.length) (h : seenA c k k = true) (y : Nat) : seenN c k y = seenN c (k + 1) y := by
  unfold seenN
  by_cases hy : y < c.parts.length
  · rw [seenA_skip hk hy h]
  · simp [hy]
theorem seenN_own {c : Cs} {k : Nat} (hk : k < c.parts.length) : seenN c k k = seenA c k k := by simp [seenN, hk]
theorem RowsG.keepB {T : TypeId} {K : Nat → Prop} {B : Nat} {W W' : World} {v : Value} {L : List (List Value)} (h : RowsG T B (fun b => B ≤ b) W v L) (hk : Keep K W W') (hK : ∀ k, B ≤ k → k < W.heap.size → K k) : RowsG T B (fun b => B ≤ b) W' v L := by
  obtain ⟨zs, h1, h2, h3⟩ := h
  refine ⟨zs, h1, ⟨h2.1, ?_⟩, fun z hz => ?_⟩
  · rcases h2.2 with h0 | ⟨g, cap, cur, e1, e2, e3, e4⟩
    · exact .inl h0
    · exact .inr ⟨g, cap, cur, e1, e2, hk.heap (hK g e2 (Array.getElem?_eq_some_iff.1 e3).1) e3, e4⟩
  · obtain ⟨a1, a2, a3⟩ := h3 z hz
    exact ⟨row_keep a1 hk (fun b o ha hl => hK b (a3 b o ha hl).2 (row_lt a1 ha hl)), a2, a3⟩
/-- a row of the call's own put behind, where the world between has kept all from B on -/
theorem push_ownK {T TT E : TypeId} (hu : Tryz.prog.underlying TT = some (.slice T)) (hi : (Tryz.prog.info? T).map (fun i => (i.zero, i.size, i.bytes)) = some (some (.slice none 0 0), 1, 24)) {K : Nat → Prop} {B : Nat} {wo wx : World} {ov rv : Value} {L : List (List Value)} {n : Nat} {xs : List Value} (h : RowsG T B (fun b => B ≤ b) wo ov L) (hb : Keep K wo wx) (hK : ∀ k, B ≤ k → k < wo.heap.size → K k) (ho : wx.ownsRow wo.heap.size E 1 rv n xs) (hl : L.length + 1 ≤ 1000000) (hB : B ≤ wo.heap.size) :
    ∃ v' U, (Builtin.append_ #[TT, TT] TT #[ov, .slice (some ⟨wx.heap.size, 0, none⟩) 1 1]).run Tryz.prog (wx.alloc (.cells #[rv] T)) = .ok v' U ∧ RowsG T B (fun b => B ≤ b) U v' (L ++ [xs]) ∧ Below B wx U := by
  have hs := hb.size
  have hn : xs.length = n := by have := ho.1; omega
  obtain ⟨a, cap, rfl, hro, hcap⟩ := ownsRow_own ho
  subst hn
  have hba : Below wx.heap.size wx (wx.alloc (.cells #[.slice a xs.length cap] T)) := (Below.refl _ _).alloc (Nat.le_refl _) _
  have hrow : Row (wx.alloc (.cells #[.slice a xs.length cap] T)) a xs := row_keep hro.row (K := fun _ => True) (Keep.of_below' hba) (fun _ _ _ _ => trivial)
  obtain ⟨v', U, hrun, hown, hk, _⟩ := ((h.keepB hb hK).below hba).push hu hi hrow hcap (fun b o e hl => by
    obtain ⟨u, hu⟩ := get_of_lt xs hl
    obtain ⟨b', o', e', hbb, _⟩ := hro 0 u hu
    rw [e] at e'; cases e'
    refine ⟨fun hv => ?_, by omega⟩
    have := (h.lt hv).2
    omega) (Box.new wx _ T) hl (by simp; omega)
  refine ⟨v', U, hrun, hown, (hba.mono (by omega)).trans ((hk.mono (fun k (hk : k < B) hv => ?_)).below (by simp; omega))⟩
  have := (h.lt hv).1
  omega
end Go.Proofs.YtchgbbkjbiffiaaGreat
namespace Go.Proofs.YtchgbbkjbiffiaaGreat
open Go.RowKit
attribute [local go_sem] Oper.semAt_some

set_option maxRecDepth 100000 in
set_option maxHeartbeats 4000000 in
theorem certain_any (c : Cs) (hsm : c.Small) (pa : Option Addr) (pc : Nat) (w : World) (hp : PartsAt w pa c.parts) :
    Calls Tryz.prog 56 #[.agg #[.string c.ware, .int .i64 c.limit, .int .i64 c.by_, .slice pa c.parts.length pc]] w (RowsPost 36 (askErr c []) (certRows c c.parts.length) w) := by
  obtain ⟨w2, hw2⟩ : ∃ w2, (w.alloc (.cells #[.string c.ware, .int .i64 c.limit, .int .i64 c.by_, .slice pa c.parts.length pc] 24)) = w2 := ⟨_, rfl⟩
  have hsz : w2.heap.size = w.heap.size + 1 := by rw [← hw2]; simp
  have hB2 : Below w.heap.size w w2 := by rw [← hw2]; go_grown
  have b0 : Box w2 w.heap.size (csCells c pa pc) 24 := by rw [← hw2]; exact (Box.new _ _ _)
  have e0 : ∀ i, w2.cell? ⟨w.heap.size, i, none⟩ = (#[.string c.ware, .int .i64 c.limit, .int .i64 c.by_, .slice pa c.parts.length pc] : Array Value)[i]? := b0.cell
  have ho := asked_any c hsm pa pc [] none 0 w2 (hp.below hB2) (Ints.nil _ _) (by simp)
  simp only [List.length_nil] at ho
  have HW := Lib.hid hw2
  clear hp b0 hw2
  by_cases hz : askErr c [] = 0
  · have hoo := asked_good ho hz
    have h8 := check_small (ask_open hz)
    have HO := Lib.hid hoo
    have HZ := Lib.hid hz
    have H8 := Lib.hid h8
    clear ho hoo hz
    go_enter Tryz.func56, Tryz.ntmps56
    go_upto_region 1 with fail
    simp only [HW.out]
    go_upto_region 2 with (first
      | (go_at_call 84; (with_reducible refine HO.out.mono ?_); rintro e w3 ⟨bb, rfl, hbb, hbx, hb⟩; have HB := Lib.hid hb; have HX := Lib.hid hbx; have hS := fresh_store w3 (togB c.parts.length (allR c)) (aptB c.parts.length (allR c)); clear hb hbx)
      | (refine wpList_store_box rfl 133 _ _ rfl rfl rfl hS ?_))
    have hw3 : w.heap.size + 1 ≤ w3.heap.size := by have := HB.out.size; omega
    have hlb := laid_below w3 (togB c.parts.length (allR c)) (aptB c.parts.length (allR c))
    have HT := Lib.hid (laid_box w3 (togB c.parts.length (allR c)) (aptB c.parts.length (allR c)))
    have HX4 := Lib.hid (HX.out.below' hlb)
    have HB4 := Lib.hid ((hB2.trans (HB.out.mono hB2.size)).trans (hlb.mono (by omega)))
    have hbl := HX.out.lt
    clear hS hlb HX HB e0 hB2 HO
    generalize laid w3 (togB c.parts.length (allR c)) (aptB c.parts.length (allR c)) = w4 at *
    have e4 : ∀ i, w4.cell? ⟨bb, i, none⟩ = (#[.string c.ware, .int .i64 c.limit, .int .i64 c.by_, .slice pa c.parts.length pc] : Array Value)[i]? := HX4.out.cell
    go_upto_region 6 with fail
    have hw4 : w.heap.size + 1 ≤ w4.heap.size := by have := HX4.out.lt; omega
    have gs : Box (w4.alloc (.cells #[.bool false, .bool false, .bool false, .bool false, .bool false, .bool false, .bool false, .bool false] 130)) w4.heap.size (seenCells (seenN c 0)) 130 := Box.new _ _ _
    have hbs : Below w4.heap.size w4 (w4.alloc (.cells #[.bool false, .bool false, .bool false, .bool false, .bool false, .bool false, .bool false, .bool false] 130)) := by go_grown
    have hss : (w4.alloc (.cells #[.bool false, .bool false, .bool false, .bool false, .bool false, .bool false, .bool false, .bool false] 130)).heap.size = w4.heap.size + 1 := by simp
    generalize w4.alloc (.cells #[.bool false, .bool false, .bool false, .bool false, .bool false, .bool false, .bool false, .bool false] 130) = w5 at *
    have e5 : ∀ i, w5.cell? ⟨bb, i, none⟩ = (#[.string c.ware, .int .i64 c.limit, .int .i64 c.by_, .slice pa c.parts.length pc] : Array Value)[i]? := (HX4.out.below' hbs).cell
    have HGS := Lib.hid gs
    have HBS := Lib.hid hbs
    clear gs hbs e4
    have hlt4 := HX4.out.lt
    have hlt5 := HT.out.lt
    go_wp2_with fail
    clear e5
    generalize w3.heap.size = tb at *
    generalize hsb : w4.heap.size = sb at *
    go_loopw [7, 27] (fun ov iv wr => ∃ i : Nat, i ≤ c.parts.length ∧ iv = .int .i64 i ∧ RowsG 36 (sb + 1) (fun b => sb + 1 ≤ b) wr ov (certRows c i) ∧ Box wr sb (seenCells (seenN c i)) 130 ∧ Below sb w4 wr ∧ sb + 1 ≤ wr.heap.size) (fun _ iv _ => c.parts.length - (intOf iv).toNat)
    case atStart => exact ⟨0, Nat.zero_le _, rfl, RowsG.nil _ _ _, HGS.out, HBS.out, by omega⟩
    case round =>
      obtain ⟨i, hi, rfl, hrows, hsn, hbw, hgt⟩ := hrel
      have HR := Lib.hid hrows
      have HSN := Lib.hid hsn
      have HBW := Lib.hid hbw
      have HGT := Lib.hid hgt
      clear hrows hsn hbw hgt
      by_cases hil : i < c.parts.length
      · have hin : (i : Int) < (c.parts.length : Int) := by omega
        have hi8 : (i : Int) < 8 := by have := H8.out; omega
        have c1 : wr.cell? ⟨sb, i, none⟩ = some (.bool (seenA c i i)) := by rw [HSN.out.cell, ← seenN_own hil]; exact seenCells_at (by have := H8.out; omega)
        have e5 : ∀ j, wr.cell? ⟨bb, j, none⟩ = (#[.string c.ware, .int .i64 c.limit, .int .i64 c.by_, .slice pa c.parts.length pc] : Array Value)[j]? := (HX4.out.below HBW.out (by omega)).cell
        rcases hsi : seenA c i i with _ | _
        · rw [hsi] at c1
          have HSI := Lib.hid hsi
          clear hsi
          go_wp2_with fail
          clear e5 c1
          obtain ⟨wo, hwo⟩ : ∃ wo : World, wo = wr := ⟨_, rfl⟩
          subst hwo
          go_loopw [10, 39] (fun rv jv wx => ∃ j : Nat, j ≤ c.parts.length ∧ jv = .int .i64 j ∧ wx.ownsRow wo.heap.size 3 1 rv (clsTo c i j).length (rowN (clsTo c i j)) ∧ Box wx sb (seenCells (seenJ c i j)) 130 ∧ Keep (fun k => k < wo.heap.size ∧ k ≠ sb) wo wx) (fun _ jv _ => c.parts.length - (intOf jv).toNat)
          case atStart => exact ⟨0, Nat.zero_le _, rfl, ownsRow_nil _ _ _ _, by rw [seenCells_congr (fun y _ => seenJ_zero c i y)]; exact HSN.out, Keep.refl _ _⟩
          case round =>
            obtain ⟨j, hj, rfl, hrow, hsj, hkx⟩ := hrel
            have HRW := Lib.hid hrow
            have HSJ := Lib.hid hsj
            have HKX := Lib.hid hkx
            clear hrow hsj hkx
            have hbx : Below sb w4 wr := HBW.out.trans ((HKX.out.mono (fun k (hk : k < sb) => ⟨by have := HGT.out; omega, by omega⟩)).below (by have := HGT.out; omega))
            have hsz := HKX.out.size
            have HBX := Lib.hid hbx
            clear hbx
            by_cases hjl : j < c.parts.length
            · have hL := run_load_row (P := Tryz.prog) (show Box wr tb (caseTab c) 133 from HT.out.below HBX.out (by omega)) Tryz.underlying133 rfl (tab_info _ _)
              have hjn : (j : Int) < (c.parts.length : Int) := by omega
              have hj8 : (j : Int) < 8 := by have := H8.out; omega
              by_cases ha : ansAt c i j = 1
              · have hab : (ansAt c i j == 1) = true := by simpa using ha
                have HA := Lib.hid ha
                clear ha
                go_wp2_with (first
                  | (refine wpList_load_box rfl 133 _ rfl rfl hL ?_)
                  | fail)
                (with_reducible refine (answer_case c i j _ (by have := H8.out; omega) (by have := H8.out; omega)).mono ?_)
                rintro e w6 ⟨rfl, hb6⟩
                obtain ⟨v7, w7, hrun, hown, hb7⟩ := app_one (E := 3) (TT := 36) Tryz.underlying36 info_int rfl (by omega) (ownsRow_keep HRW.out (K := fun _ => True) (Keep.of_below' hb6) (fun _ _ => trivial)) (by have := H8.out; have := clsTo_len c i j; omega) (Nat.le_trans HKX.out.size hb6.size) (.int .i64 j) rfl
                have gt := (HSJ.out.below' hb6).below hb7 (by have := HGT.out; omega)
                have c7 := gt.cell j
                rw [seenCells_at (by have := H8.out; omega)] at c7
                have c8 := gt.frozen j
                have HRN := Lib.hid hrun
                have HOW := Lib.hid hown
                have HGT7 := Lib.hid gt
                have HK7 := Lib.hid ((HKX.out.trans (Keep.of_below' hb6)).trans (Keep.of_below (K := fun k => k < wo.heap.size ∧ k ≠ sb) hb7 (fun k hk _ => hk.1)))
                clear hrun hown hb7 hb6 hL gt
                go_wp2_with (at_builtin; refine wpList_app rfl _ _ _ rfl rfl rfl HRN.out ?_)
                go_roundw
                case rel =>
                  have hk9 := (Keep.refl (fun k => k ≠ sb) w7).setCell (p := ⟨sb, j, none⟩) (.inl (by simp)) (.bool true)
                  have ho9 := ownsRow_keep HOW.out hk9 (fun k hk => by have := HGT.out; omega)
                  refine ⟨j + 1, by omega, by go_num, ?_, ?_, HK7.out.setCell (.inl (by simp)) _⟩
                  · rw [clsTo_yes HA.out, rowN_snoc, List.length_append, List.length_singleton]
                    exact ho9
                  · have := HGT7.out.set_ j (.bool true)
                    rw [seenCells_set, seenCells_congr (fun y _ => seenJ_yes hjl HA.out y)] at this
                    exact this
                case measure => simp [intOf]; omega
              · have hab : (ansAt c i j == 1) = false := by simpa using ha
                have HA := Lib.hid ha
                clear ha
                go_wp2_with (first
                  | (refine wpList_load_box rfl 133 _ rfl rfl hL ?_)
                  | fail)
                (with_reducible refine (answer_case c i j _ (by have := H8.out; omega) (by have := H8.out; omega)).mono ?_)
                rintro e w6 ⟨rfl, hb6⟩
                have HB6 := Lib.hid hb6
                clear hb6 hL
                go_wp2_with fail
                go_roundw
                case rel =>
                  refine ⟨j + 1, by omega, by go_num, ?_, ?_, HKX.out.trans (Keep.of_below' HB6.out)⟩
                  · rw [clsTo_no HA.out]
                    exact ownsRow_keep HRW.out (K := fun _ => True) (Keep.of_below' HB6.out) (fun _ _ => trivial)
                  · have := HSJ.out.below' HB6.out
                    rw [seenCells_congr (fun y _ => seenJ_no HA.out y)] at this
                    exact this
                case measure => simp [intOf]; omega
            · have hje : j = c.parts.length := by omega
              have HJE := Lib.hid hje
              obtain ⟨ra, rcap, hrv, -, -⟩ := ownsRow_own HRW.out
              subst hrv
              obtain ⟨v6, w6, hrun, hown, hb6⟩ := push_ownK (TT := 80) Tryz.underlying80 info_row HR.out HKX.out (fun k h1 h2 => ⟨h2, by omega⟩) HRW.out (by have := certRows_len c i; have := H8.out; omega) HGT.out
              have HRN := Lib.hid hrun
              have HOW := Lib.hid hown
              have HB6 := Lib.hid hb6
              clear hrun hown hb6 hje
              go_wp2_with (at_builtin; refine wpList_app rfl _ _ _ rfl rfl rfl HRN.out ?_)
              go_roundw
              case rel =>
                refine ⟨i + 1, by omega, by go_num, ?_, ?_, HBX.out.trans (HB6.out.mono (by omega)), by have := HB6.out.size; have := HGT.out; omega⟩
                · rw [certRows_yes HSI.out]
                  have := HOW.out
                  rw [HJE.out] at this
                  exact this
                · have := HSJ.out.below HB6.out (by omega)
                  rw [HJE.out, seenCells_congr (fun y _ => seenJ_end c i y)] at this
                  exact this
              case measure => simp [intOf]; omega
        · rw [hsi] at c1
          have HSI := Lib.hid hsi
          clear hsi
          go_wp2_with fail
          go_roundw
          case rel =>
            refine ⟨i + 1, by omega, by go_num, ?_, ?_, HBW.out, HGT.out⟩
            · rw [certRows_no HSI.out]; exact HR.out
            · rw [← seenCells_congr (fun y _ => seenN_skip hil HSI.out y)]; exact HSN.out
          case measure => simp [intOf]; omega
      · have hie : i = c.parts.length := by omega
        have HIE := Lib.hid hie
        clear hie
        go_wp2_with fail
        go_ret2
        refine ⟨HB4.out.trans (HBW.out.mono (by omega)), .inr ⟨HZ.out, _, rfl, ?_⟩⟩
        have := HR.out
        rw [HIE.out] at this
        exact this.less (by omega) (fun b hb => by omega)
  · have hoo := asked_bad ho hz
    have HO := Lib.hid hoo
    clear ho hoo
    have hzz : (askErr c [] != 0) = true := by simpa using hz
    go_enter Tryz.func56, Tryz.ntmps56
    go_upto_region 1 with fail
    simp only [HW.out]
    go_wp2_with (first
      | (go_at_call 84; (with_reducible refine HO.out.mono ?_); rintro e w3 ⟨rfl, hb⟩; have HB := Lib.hid hb; have hS := fresh_store w3 (fun _ _ => false) (fun _ _ => false); clear hb)
      | (refine wpList_store_box rfl 133 _ _ rfl rfl rfl hS ?_))
    go_ret2
    exact ⟨(hB2.trans (HB.out.mono hB2.size)).trans ((laid_below w3 _ _).mono (by have := HB.out.size; have := hB2.size; omega)), .inl ⟨hz, rfl⟩⟩
end Go.Proofs.YtchgbbkjbiffiaaGreat
namespace Go.Proofs.YtchgbbkjbiffiaaGreat
open Go.RowKit

def reps (c : Cs) : List Nat := (List.range c.parts.length).filter fun x => !seenA c x x
theorem certTo_reps (c : Cs) : certTo c c.parts.length = (reps c).map fun x => clsTo c x c.parts.length := rfl
theorem reps_iff {c : Cs} {r : Nat} : r ∈ reps c ↔ r < c.parts.length ∧ seenA c r r = false := by simp [reps]
theorem cls_mem {c : Cs} {x k y : Nat} : y ∈ clsTo c x k ↔ y < k ∧ ansAt c x y = 1 := by simp [clsTo]
theorem range_sorted (n : Nat) : (List.range n).Pairwise (· < ·) := List.pairwise_lt_range
theorem cls_sorted (c : Cs) (x k : Nat) : (clsTo c x k).Pairwise (· < ·) := (range_sorted k).filter _
theorem reps_sorted (c : Cs) : (reps c).Pairwise (· < ·) := (range_sorted _).filter _
theorem ans_trans {c : Cs} {a b x : Nat} (ha : a < c.parts.length) (hb : b < c.parts.length) (hx : x < c.parts.length) (h : ansAt c a b = 1) (h2 : ansAt c b x = 1) : ansAt c a x = 1 := by rw [ans_row ha hb hx h]; exact h2
theorem reps_eq {c : Cs} {r s y : Nat} (hr : r ∈ reps c) (hs : s ∈ reps c) (hy : y < c.parts.length) (h1 : ansAt c r y = 1) (h2 : ansAt c s y = 1) : r = s := by
  have hr' := reps_iff.1 hr
  have hs' := reps_iff.1 hs
  have h3 : ansAt c r s = 1 := ans_trans hr'.1 hy hs'.1 h1 (by rw [ans_symm hy hs'.1]; exact h2)
  rcases Nat.lt_trichotomy r s with h | h | h
  · have := seenA_iff.2 ⟨r, h, h3⟩
    rw [hs'.2] at this; cases this
  · exact h
  · have := seenA_iff.2 ⟨s, h, by rw [ans_symm hs'.1 hr'.1]; exact h3⟩
    rw [hr'.2] at this; cases this
theorem reps_cover {c : Cs} : ∀ y, y < c.parts.length → ∃ r, r ∈ reps c ∧ ansAt c r y = 1
  | y, hy => by
    rcases h : seenA c y y with _ | _
    · exact ⟨y, reps_iff.2 ⟨hy, h⟩, ans_refl hy⟩
    · obtain ⟨x, hx, e⟩ := seenA_iff.1 h
      have hxl : x < c.parts.length := by omega
      obtain ⟨r, hr, e2⟩ := reps_cover x hxl
      exact ⟨r, hr, ans_trans (reps_iff.1 hr).1 hxl hy e2 e⟩
theorem cert_at {c : Cs} {i : Nat} {x : List Nat} (h : (certTo c c.parts.length)[i]? = some x) : ∃ r, (reps c)[i]? = some r ∧ r ∈ reps c ∧ x = clsTo c r c.parts.length := by
  rw [certTo_reps, List.getElem?_map] at h
  obtain ⟨r, hr, e⟩ := Option.map_eq_some_iff.1 h
  exact ⟨r, hr, List.mem_of_getElem? hr, e.symm⟩
theorem sorted_lt {l : List Nat} (h : l.Pairwise (· < ·)) {i j a b : Nat} (hij : i < j) (hi : l[i]? = some a) (hj : l[j]? = some b) : a < b := by
  obtain ⟨h1, rfl⟩ := List.getElem?_eq_some_iff.1 hi
  obtain ⟨h2, rfl⟩ := List.getElem?_eq_some_iff.1 hj
  exact List.pairwise_iff_getElem.1 h i j h1 h2 hij
/-- the first member is the class's own -/
theorem cert_first {c : Cs} {r : Nat} (hr : r ∈ reps c) : (clsTo c r c.parts.length)[0]? = some r := by
  have hr' := reps_iff.1 hr
  have hm : r ∈ clsTo c r c.parts.length := cls_mem.2 ⟨hr'.1, ans_refl hr'.1⟩
  obtain ⟨k, hk, e⟩ := List.getElem_of_mem hm
  have ek : (clsTo c r c.parts.length)[k]? = some r := by rw [List.getElem?_eq_getElem hk, e]
  rcases Nat.eq_zero_or_pos k with h0 | h0
  · rw [← h0]; exact ek
  · exfalso
    obtain ⟨y, hy⟩ := get_of_lt (clsTo c r c.parts.length) (k := 0) (by omega)
    have h1 := sorted_lt (cls_sorted c r c.parts.length) h0 hy ek
    have h2 := cls_mem.1 (List.mem_of_getElem? hy)
    have := seenA_iff.2 ⟨y, h1, by rw [ans_symm h2.1 hr'.1]; exact h2.2⟩
    rw [hr'.2] at this; cases this
/-- the class index, the first i classes laid, and the first j of the next -/
def IdxP (c : Cs) (i j : Nat) (f : Nat → Int) : Prop :=
  ∀ y, y < c.parts.length → (f y = -1 ∧ (∀ k x, k < i → (certTo c c.parts.length)[k]? = some x → y ∉ x) ∧ (∀ x, (certTo c c.parts.length)[i]? = some x → y ∉ x.take j)) ∨
    (∃ k x, k < i ∧ (certTo c c.parts.length)[k]? = some x ∧ y ∈ x ∧ f y = k) ∨ (∃ x, (certTo c c.parts.length)[i]? = some x ∧ y ∈ x.take j ∧ f y = i)
theorem idx_start (c : Cs) : IdxP c 0 0 (fun _ => -1) := fun y _ => .inl ⟨rfl, fun k x h => by omega, fun x _ => by simp⟩
theorem idx_free {c : Cs} {i j p : Nat} {f : Nat → Int} {x : List Nat} (h : IdxP c i j f) (hx : (certTo c c.parts.length)[i]? = some x) (hp : x[j]? = some p) : p < c.parts.length ∧ f p = -1 := by
  obtain ⟨r, hr, hrm, rfl⟩ := cert_at hx
  have hpm := cls_mem.1 (List.mem_of_getElem? hp)
  refine ⟨hpm.1, ?_⟩
  rcases h p hpm.1 with ⟨h1, _⟩ | ⟨k, z, hk, hz, hm, _⟩ | ⟨z, hz, hm, _⟩
  · exact h1
  · obtain ⟨s, hs, hsm, rfl⟩ := cert_at hz
    have e := reps_eq hrm hsm hpm.1 hpm.2 (cls_mem.1 hm).2
    subst e
    have := sorted_lt (reps_sorted c) hk hs hr
    omega
  · rw [hx] at hz; cases hz
    obtain ⟨k, hk, e⟩ := List.getElem_of_mem hm
    have hk2 : k < j := by rw [List.length_take] at hk; omega
    have h2 : (clsTo c r c.parts.length)[k]? = some p := by
      rw [List.getElem_take] at e
      rw [← e]; exact List.getElem?_eq_getElem _
    have := sorted_lt (cls_sorted c r c.parts.length) hk2 h2 hp
    omega
theorem idx_set {c : Cs} {i j p : Nat} {f : Nat → Int} {x : List Nat} (h : IdxP c i j f) (hx : (certTo c c.parts.length)[i]? = some x) (hp : x[j]? = some p) : IdxP c i (j + 1) (fun y => if y = p then (i : Int) else f y) := by
  intro y hy
  by_cases e : y = p
  · subst e
    exact .inr (.inr ⟨x, hx, by rw [take_snoc hp]; simp, by simp⟩)
  · simp only [if_neg e]
    rcases h y hy with ⟨h1, h2, h3⟩ | h2 | ⟨z, hz, hm, h3⟩
    · refine .inl ⟨h1, h2, fun z hz => ?_⟩
      rw [hx] at hz; cases hz
      rw [take_snoc hp]
      simp only [List.mem_append, List.mem_singleton, not_or]
      exact ⟨h3 x hx, e⟩
    · exact .inr (.inl h2)
    · rw [hx] at hz; cases hz
      exact .inr (.inr ⟨x, hx, by rw [take_snoc hp]; exact List.mem_append_left _ hm, h3⟩)
theorem idx_next {c : Cs} {i j : Nat} {f : Nat → Int} {x : List Nat} (h : IdxP c i j f) (hx : (certTo c c.parts.length)[i]? = some x) (hj : x.length ≤ j) : IdxP c (i + 1) 0 f := by
  intro y hy
  rcases h y hy with ⟨h1, h2, h3⟩ | ⟨k, z, hk, h2⟩ | ⟨z, hz, hm, h3⟩
  · refine .inl ⟨h1, fun k z hk hz => ?_, fun z _ => by simp⟩
    rcases Nat.lt_or_ge k i with hk2 | hk2
    · exact h2 k z hk2 hz
    · have e : k = i := by omega
      subst e
      have := h3 z hz
      rw [hx] at hz; cases hz
      rwa [List.take_of_length_le hj] at this
  · exact .inr (.inl ⟨k, z, by omega, h2⟩)
  · rw [List.take_of_length_le (by rw [hx] at hz; cases hz; exact hj)] at hm
    exact .inr (.inl ⟨i, z, by omega, hz, hm, h3⟩)
/-- at the end -/
theorem idx_end {c : Cs} {f : Nat → Int} (h : IdxP c (certTo c c.parts.length).length 0 f) {y : Nat} (hy : y < c.parts.length) : ∃ k r : Nat, (reps c)[k]? = some r ∧ r ∈ reps c ∧ ansAt c r y = 1 ∧ f y = k := by
  obtain ⟨r, hr, e⟩ := reps_cover y hy
  obtain ⟨k, hk, ek⟩ := List.getElem_of_mem hr
  have hkr : (reps c)[k]? = some r := by rw [List.getElem?_eq_getElem hk, ek]
  have hkx : (certTo c c.parts.length)[k]? = some (clsTo c r c.parts.length) := by rw [certTo_reps, List.getElem?_map, hkr]; rfl
  have hkl : k < (certTo c c.parts.length).length := (List.getElem?_eq_some_iff.1 hkx).1
  rcases h y hy with ⟨_, h2, _⟩ | ⟨k2, z, _, hz, hm, h3⟩ | ⟨z, hz, hm, _⟩
  · exact absurd (cls_mem.2 ⟨hy, e⟩) (h2 k _ hkl hkx)
  · obtain ⟨s, hs, hsm, rfl⟩ := cert_at hz
    exact ⟨k2, s, hs, hsm, (cls_mem.1 hm).2, h3⟩
  · simp at hm
theorem idx_same {c : Cs} {f : Nat → Int} (h : IdxP c (certTo c c.parts.length).length 0 f) {a b : Nat} (ha : a < c.parts.length) (hb : b < c.parts.length) : (f a = f b ↔ ansAt c a b = 1) ∧ 0 ≤ f a := by
  obtain ⟨k, r, h1, h2, h3, h4⟩ := idx_end h ha
  obtain ⟨k', s, g1, g2, g3, g4⟩ := idx_end h hb
  refine ⟨⟨fun e => ?_, fun e => ?_⟩, by omega⟩
  · have : k = k' := by omega
    subst this
    rw [h1] at g1; cases g1
    exact ans_trans ha (reps_iff.1 h2).1 hb (by rw [ans_symm ha (reps_iff.1 h2).1]; exact h3) g3
  · have hs : ansAt c s a = 1 := ans_trans (reps_iff.1 g2).1 hb ha g3 (by rw [ans_symm hb ha]; exact e)
    have := reps_eq h2 g2 ha h3 hs
    subst this
    have : k = k' := by
      rcases Nat.lt_trichotomy k k' with h | h | h
      · have := sorted_lt (reps_sorted c) h h1 g1; omega
      · exact h
      · have := sorted_lt (reps_sorted c) h g1 h1; omega
    omega
theorem cert_ne {c : Cs} {i : Nat} {x : List Nat} (h : (certTo c c.parts.length)[i]? = some x) : 0 < x.length := by
  obtain ⟨r, _, hr, rfl⟩ := cert_at h
  exact (List.getElem?_eq_some_iff.1 (cert_first hr)).1
theorem cert_rise {c : Cs} {i : Nat} {x y : List Nat} {p q : Nat} (hx : (certTo c c.parts.length)[i]? = some x) (hy : (certTo c c.parts.length)[i + 1]? = some y) (hp : x[0]? = some p) (hq : y[0]? = some q) : p < q := by
  obtain ⟨r, h1, hr, rfl⟩ := cert_at hx
  obtain ⟨s, h2, hs, rfl⟩ := cert_at hy
  rw [cert_first hr] at hp; cases hp
  rw [cert_first hs] at hq; cases hq
  exact sorted_lt (reps_sorted c) (Nat.lt_succ_self i) h1 h2
theorem cert_in {c : Cs} {i j : Nat} {x : List Nat} {p q : Nat} (hx : (certTo c c.parts.length)[i]? = some x) (hp : x[j]? = some p) (hq : x[j + 1]? = some q) : p < q := by
  obtain ⟨r, h1, hr, rfl⟩ := cert_at hx
  exact sorted_lt (cls_sorted c r _) (Nat.lt_succ_self j) hp hq
theorem rows_same {c : Cs} {a b : Nat} (ha : a < c.parts.length) (hb : b < c.parts.length) (h : ansAt c a b = 1) : (List.range c.parts.length).map (fun y => ansAt c a y) = (List.range c.parts.length).map (fun y => ansAt c b y) :=
  List.map_congr_left fun y hy => ans_row ha hb (List.mem_range.1 hy) h
end Go.Proofs.YtchgbbkjbiffiaaGreat
namespace Go.Proofs.YtchgbbkjbiffiaaGreat
open Go.RowKit
attribute [local go_sem] Oper.semAt_some

/-- a row of bytes -/
def U8s (w : World) (a : Option Addr) (l : List Int) : Prop := Row w a (l.map (Value.int .u8))
theorem U8s.below {w w' : World} {a : Option Addr} {l : List Int} (h : U8s w a l) (hb : Below w.heap.size w w') : U8s w' a l := Row.below h hb
theorem U8s.base {w : World} {a : Option Addr} {l : List Int} (h : U8s w a l) (hl : 0 < l.length) : ∃ b o, a = some ⟨b, o, none⟩ ∧ ∀ (k : Nat) v, l[k]? = some v → w.cell? ⟨b, o + k, none⟩ = some (.int .u8 v) := by
  obtain ⟨x, hx⟩ := get_of_lt l hl
  obtain ⟨b, o, ha, _⟩ := h 0 (.int .u8 x) (by rw [List.getElem?_map, hx]; rfl)
  refine ⟨b, o, ha, fun k v hv => ?_⟩
  obtain ⟨b', o', ha', hc⟩ := h k (.int .u8 v) (by rw [List.getElem?_map, hv]; rfl)
  rw [ha] at ha'; cases ha'
  exact hc
set_option maxHeartbeats 1000000 in
theorem equal8_any (a b : Option Addr) (ca cb : Nat) (l m : List Int) (w : World) (ha : U8s w a l) (hb : U8s w b m) (hl : l.length ≤ 1000000) (hm : m.length ≤ 1000000) :
    Calls Tryz.prog 53 #[.slice a l.length ca, .slice b m.length cb] w fun e w' => e = .returned (.bool (decide (l = m))) ∧ Below w.heap.size w w' := by
  by_cases hlen : l.length = m.length
  · have hlb : ((l.length : Int) != (m.length : Int)) = false := by simp [hlen]
    have HL := Lib.hid hlen
    clear hlen
    go_enter Tryz.func53, Tryz.ntmps53
    go_wp2
    go_loopw [13] (fun i wr => ∃ k : Nat, k ≤ l.length ∧ i = .int .i64 k ∧ l.take k = m.take k ∧ Below w.heap.size w wr) (fun i _ => l.length - (intOf i).toNat)
    case atStart => exact ⟨0, Nat.zero_le _, rfl, by simp, Below.refl _ _⟩
    case round =>
      obtain ⟨k, hk, rfl, hall, hB⟩ := hrel
      have HA := Lib.hid hall
      have HB := Lib.hid hB
      clear hall
      by_cases hlt : k < l.length
      · have hltm : k < m.length := by have := HL.out; omega
        obtain ⟨b1, o1, rfl, hb1⟩ := (ha.below hB).base (by omega)
        obtain ⟨b2, o2, rfl, hb2⟩ := (hb.below hB).base (by omega)
        obtain ⟨x, hx⟩ := get_of_lt l hlt
        obtain ⟨y, hy⟩ := get_of_lt m hltm
        have c1 := hb1 _ _ hx
        have c2 := hb2 _ _ hy
        have HX := Lib.hid hx
        have HY := Lib.hid hy
        have hki : (k : Int) < m.length := by omega
        clear hx hy hb1 hb2 hB
        by_cases hxy : x = y
        · have hxb : (x != y) = false := by simp [hxy]
          have HXY := Lib.hid hxy
          clear hxy
          go_wp2_with fail
          go_quiet (fail)
          go_wp2_with fail
          go_roundw
          case rel => exact ⟨k + 1, by omega, by go_num, (same_take HX.out HY.out HA.out).2 HXY.out, below_drewN HB.out _⟩
          case measure => simp [intOf]; omega
        · have hxb : (x != y) = true := by simp [hxy]
          have HXY := Lib.hid hxy
          clear hxy
          go_wp2_with fail
          go_quiet (fail)
          go_wp2_with fail
          go_ret
          refine ⟨ret_bool ?_, below_drewN HB.out _⟩
          symm
          simp only [decide_eq_false_iff_not]
          intro e
          subst e
          have := HX.out.symm.trans HY.out
          exact HXY.out (Option.some.inj this)
      · clear hB
        go_wp2_with fail
        go_ret
        refine ⟨ret_bool ?_, HB.out⟩
        have h1 := HA.out
        have h2 := HL.out
        rw [List.take_of_length_le (by omega), List.take_of_length_le (by omega)] at h1
        simp [h1]
  · have hlb : ((l.length : Int) != (m.length : Int)) = true := by simp; omega
    have HL := Lib.hid hlen
    clear hlen
    go_enter Tryz.func53, Tryz.ntmps53
    go_wp2
    go_ret
    exact ⟨ret_bool (by symm; simp only [decide_eq_false_iff_not]; exact fun e => HL.out (by rw [e])), Below.refl _ _⟩
end Go.Proofs.YtchgbbkjbiffiaaGreat
