/- ProfileMemory: rows of one's own that are written into. No program. -/
import Derived.Test.YthpjffhccjlnhaaGreatDoorMG24
import Derived.Test.YthpjffhccjlnhaaGreatDoorGRows4
import Derived.Test.YthpjffhccjlnhaaGreatDoorGWares
import Derived.Test.YthpjffhccjlnhaaGreatDoorGSameT
import Derived.Deep.MidRow
set_option linter.unusedSimpArgs false
set_option linter.unusedVariables false
namespace Go.Proofs.YthpjffhccjlnhaaGreatDoor
open Go.RowKit
theorem row_types7 {w : World} {a : Option Addr} {l : List Typ} (h : TypesAt w a l) : Row w a (typsV l) := fun j v hv => by
 have hj := (List.getElem?_eq_some_iff.1 hv).1
 rw [typsV_len] at hj
 have hk : j / 32 < l.length := by omega
 have hi : j % 32 < 32 := Nat.mod_lt _ (by omega)
 have he := typsV_at l (j / 32) l[j / 32] (List.getElem?_eq_getElem hk) (j % 32) hi
 rw [show j / 32 * 32 + j % 32 = j by omega] at he
 rw [he] at hv; cases hv
 obtain ⟨b, o, ha, h1⟩ := h (j / 32) l[j / 32] (List.getElem?_eq_getElem hk)
 refine ⟨b, o, ha, ?_⟩
 have := h1 (j % 32) hi
 rw [show o + j / 32 * 32 + j % 32 = o + j by omega] at this
 exact this
theorem typsV_one7 (l : List Typ) : ∀ u ∈ typsV l, u.oneCell' = true := fun u hu => by
 obtain ⟨t, _, ht⟩ := List.mem_flatMap.1 hu
 simp only [typCells, fnCells, List.mem_map, List.mem_range] at ht
 obtain ⟨j, _, rfl⟩ := ht
 exact typF_one t j
theorem blksX_sml7 (l : List Typ) (ware : ByteArray) (r : List Rng) : (∀ y, y ∈ blanksX l ware r → SmlB y) ∧ (blanksX l ware r).length ≤ 1000000 := by
 by_cases h : wantedErr l ware r = 0
 ·exact blks_sml h
 ·have : blanksX l ware r = [] := by unfold blanksX; rw [if_neg fun h2 => h h2.1]
  rw [this]
  exact ⟨(fun y hy => by cases hy), Nat.zero_le _⟩
theorem shX_len7 (l : List Typ) (ware : ByteArray) (r : List Rng) : (shiftsX l ware r).length ≤ 1000 := by
 unfold shiftsX
 split
 ·rename_i h
  obtain ⟨h1, h2, _⟩ := wanted_good h
  have := tries_len (ware := ware) h1 h2
  have h3 : (shiftsT l ware r).length ≤ (triesOf l ware r).length := by unfold shiftsT; exact List.length_filterMap_le _ _
  omega
 ·exact Nat.zero_le _
theorem wares_len7 {l : List Typ} (hl : l.length ≤ 15) : (waresT l).length ≤ 1000 := by
 unfold waresT
 rw [List.length_map]
 have h1 := List.length_filter_le (Lib.keeps (sortS (l.map fun t => bl t.ware)).toArray) (List.range (sortS (l.map fun t => bl t.ware)).length)
 have h2 : (waresL (l.map fun t => bl t.ware)).length ≤ (sortS (l.map fun t => bl t.ware)).length := by
  simpa [waresL, Lib.compact, Lib.compactUpTo] using h1
 rw [sortS_len, List.length_map] at h2
 omega
theorem run_build_ft7 (i : Int) (w : World) : (Instr.build 44 #[(0, .int .i64 i)]).run Tryz.prog w = .ok (.agg (ftCells i 0 ByteArray.empty)) w := by
 refine run_build w _ _ _ ?_
 rw [built_ft]
 unfold ftCells
 rw [fill_fn (off := 0) (m := 1) (g := fun _ => .int .i64 i) rfl rfl (by omega)]
 refine congrArg some (fnCells_congr fun j hj => ?_)
 have h3 : j = 0 ∨ j = 1 ∨ j = 2 := by omega
 rcases h3 with rfl | rfl | rfl <;> rfl
/-- a cell that may be written into -/
theorem there_one {W : World} {g o : Nat} (h : W.there g o 1) : ∃ v, W.cell? ⟨g, o, none⟩ = some v ∧ W.frozen? ⟨g, o, none⟩ = false := by
 obtain ⟨h1, h2⟩ := h 0 (by omega)
 obtain ⟨v, hv⟩ := Option.isSome_iff_exists.1 h1
 exact ⟨v, hv, h2⟩
/-- the fits and the wares that may be written into -/
structure MmS (V : World) (sa : Option Addr) (n : Nat) (wa : Option Addr) (m : Nat) (W : World) : Prop where
 s : ∀ j, j < n → ∃ g o, sa = some ⟨g, o, none⟩ ∧ V.heap.size ≤ g ∧ W.there g (o + j * 3) 3
 w : ∀ j, j < m → ∃ g o, wa = some ⟨g, o, none⟩ ∧ V.heap.size ≤ g ∧ W.there g (o + j) 1
 b : Below V.heap.size V W
theorem MmS.put {V : World} {sa wa : Option Addr} {n m : Nat} {W : World} (h : MmS V sa n wa m W) {g : Nat} (hg : V.heap.size ≤ g) (o : Nat) (vs : List Value) : MmS V sa n wa m (W.setCells g o vs) :=
 ⟨fun j hj => by
  obtain ⟨g', o', h1, h2, h3⟩ := h.s j hj
  exact ⟨g', o', h1, h2, World.there_setCells h3 g o vs⟩, fun j hj => by
  obtain ⟨g', o', h1, h2, h3⟩ := h.w j hj
  exact ⟨g', o', h1, h2, World.there_setCells h3 g o vs⟩, below_setCells hg vs o h.b⟩
theorem MmS.set {V : World} {sa wa : Option Addr} {n m : Nat} {W : World} (h : MmS V sa n wa m W) {g : Nat} (hg : V.heap.size ≤ g) (o : Nat) (v : Value) : MmS V sa n wa m (W.setCell ⟨g, o, none⟩ v) := h.put hg o [v]
/-- the blanks whose Sets may be written into -/
def MemA (V : World) (fa : Option Addr) (L : List Bl4) (W : World) : Prop := ∀ (i : Nat) b, L[i]? = some b → ∃ g o sa sc, fa = some ⟨g, o, none⟩ ∧ W.cell? ⟨g, o + i * 3 + 2, none⟩ = some (.slice sa b.sets.length sc) ∧
 ∀ k, k < b.sets.length → ∃ g' o', sa = some ⟨g', o', none⟩ ∧ g' ≠ g ∧ V.heap.size ≤ g' ∧ W.there g' (o' + k) 1
theorem MemA.set {V : World} {fa : Option Addr} {L : List Bl4} {W : World} (h : MemA V fa L W) {g1 : Nat} (hg : ∀ g o, fa = some ⟨g, o, none⟩ → g1 ≠ g) (p : Nat) (v : Value) : MemA V fa L (W.setCell ⟨g1, p, none⟩ v) := fun i b hb => by
 obtain ⟨g, o, sa, sc, h1, h2, h3⟩ := h i b hb
 have hne := hg g o h1
 refine ⟨g, o, sa, sc, h1, ?_, fun k hk => ?_⟩
 ·rw [World.cell?_setCell_other _ _ _ _ (fun e => by injection e with e _; exact hne e)]; exact h2
 ·obtain ⟨g', o', k1, k2, k3, k4⟩ := h3 k hk
  exact ⟨g', o', k1, k2, k3, World.there_setCells k4 g1 p [v]⟩
theorem MemA.below {V : World} {fa : Option Addr} {L : List Bl4} {W W' : World} (h : MemA V fa L W) (hb : Below W.heap.size W W') : MemA V fa L W' := fun i b hbb => by
 obtain ⟨g, o, sa, sc, h1, h2, h3⟩ := h i b hbb
 refine ⟨g, o, sa, sc, h1, below_cell hb h2, fun k hk => ?_⟩
 obtain ⟨g', o', k1, k2, k3, k4⟩ := h3 k hk
 refine ⟨g', o', k1, k2, k3, fun j hj => ?_⟩
 obtain ⟨q1, q2⟩ := k4 j hj
 obtain ⟨v, hv⟩ := Option.isSome_iff_exists.1 q1
 exact ⟨by rw [below_cell hb hv]; rfl, by rw [hb.frozen (lt_of_cell hv)]; exact q2⟩
theorem mem_of {V W : World} {fa : Option Addr} {L : List Bl4} {us : List (List Value)} (ho : RowOwn V.heap.size W fa us.flatten) (hr : BlkRows V.heap.size (fun k => ∃ ad, fa = some ad ∧ ad.block = k) W L us) : MemA V fa L W := fun i b hb => by
 have h3 : ∀ u ∈ us, u.length = 3 := fun u hu => by
  obtain ⟨k, hk⟩ := List.getElem?_of_mem hu
  have hkl := (List.getElem?_eq_some_iff.1 hk).1
  obtain ⟨b, hb⟩ : ∃ b, L[k]? = some b := ⟨L[k]'(by have := hr.1; omega), by simp⟩
  obtain ⟨sa, sc, e, _⟩ := hr.2 k b u hb hk
  rw [e]; rfl
 have hil := (List.getElem?_eq_some_iff.1 hb).1
 obtain ⟨u, hu⟩ : ∃ u, us[i]? = some u := ⟨us[i]'(by have := hr.1; omega), by simp⟩
 obtain ⟨sa, sc, rfl, h1, h2, h4⟩ := hr.2 i b _ hb hu
 obtain ⟨g, o, hfa, -, hc, -⟩ := ho (i * 3 + 2) (.slice sa b.sets.length sc) (by rw [flat_at (n := 3) h3 hu (by omega)]; rfl)
 refine ⟨g, o, sa, sc, hfa, by rw [Nat.add_assoc]; exact hc, fun k hk => ?_⟩
 obtain ⟨g', o', hsa, hB, hc', hf'⟩ := h2 k (.string b.sets[k]) (by rw [List.getElem?_map, List.getElem?_eq_getElem hk]; rfl)
 refine ⟨g', o', hsa, fun e => (h4 _ hsa).1 ⟨_, hfa, e.symm⟩, hB, fun j hj => ?_⟩
 have : j = 0 := by omega
 subst this
 exact ⟨by rw [Nat.add_zero, hc']; rfl, hf'⟩
theorem there_of {B : Nat} {W : World} {a : Option Addr} {xs : List Value} (h : RowOwn B W a xs) {p m : Nat} (hm : 0 < m) (hp : p + m ≤ xs.length) : ∃ g o, a = some ⟨g, o, none⟩ ∧ B ≤ g ∧ W.there g (o + p) m := by
 obtain ⟨g, o, ha, hB, -, -⟩ := h p _ (List.getElem?_eq_getElem (by omega))
 refine ⟨g, o, ha, hB, fun j hj => ?_⟩
 obtain ⟨g', o', ha', -, hc, hf⟩ := h (p + j) _ (List.getElem?_eq_getElem (by omega))
 rw [ha] at ha'; cases ha'
 exact ⟨by rw [Nat.add_assoc, hc]; rfl, by rw [Nat.add_assoc]; exact hf⟩
theorem MmS.of {V W : World} {sa qa : Option Addr} {X : List Ft} {Y : List ByteArray} (h1 : RowOwn V.heap.size W sa (ftRows X)) (h2 : RowOwn V.heap.size W qa (Y.map Value.string)) (hb : Below V.heap.size V W) : MmS V sa X.length qa Y.length W :=
 ⟨fun j hj => there_of h1 (by omega) (by rw [ftRows_len]; omega), fun j hj => there_of h2 (by omega) (by rw [List.length_map]; omega), hb⟩
end Go.Proofs.YthpjffhccjlnhaaGreatDoor
