/- A fit and blanks that are handed in, read as the plain ones that they show. -/
import Derived.Test.YthpjffhccjlnhaaGreatDoorOpenTy
import Derived.Test.YthpjffhccjlnhaaGreatDoorMG12
set_option linter.unusedSimpArgs false
set_option linter.unusedVariables false
namespace Go.Proofs.YthpjffhccjlnhaaGreatDoor
open Go.RowKit Go.ChangeShapes Go.WideShapes Go.Deep Go.Joins

section
variable {H : Type} {enc : TypeId × Value → H} {w : World} {base : Nat} {spare : Nat → Bool} {held : Bool}
set_option maxRecDepth 100000 in
theorem fit_arg {r : Reach} {b0 : Nat} {v : Value} {d : DataW H} {ps : List MemPlace} (hv : Value.okWide Tryz.prog w r b0 44 v) (h : DataW.Trod enc Tryz.prog w base spare held 44 v d ps) :
  ∃ (i s : Int) (x : ByteArray), v = .agg #[.int .i64 i, .int .i64 s, .string x] := by
 obtain ⟨v0, v1, v2, y0, y1, y2, n, rfl, _, _, h0, h1, h2⟩ := open_agg3 Tryz.underlying44 (by kernel_rfl) (by kernel_rfl) hv h
 obtain ⟨a0, e0, _, _⟩ := DataW.trod_int Tryz.underlying3 h0
 obtain ⟨a1, e1, _, _⟩ := DataW.trod_int Tryz.underlying3 h1
 obtain ⟨s, e2, _, _⟩ := DataW.trod_string Tryz.underlying9 h2
 cases e0; cases e1; cases e2
 exact ⟨a0, a1, s, rfl⟩
theorem str_one4 : Tryz.prog.cellsOf 9 = 1 := by kernel_rfl
set_option maxRecDepth 100000 in
theorem strs_of {fuel : Nat} {cs : List Value} {x : DataW H × List MemPlace} (h : DataW.trod enc Tryz.prog w base spare held fuel 85 cs = some x) :
  ∃ (a : Option Addr) (l : List ByteArray) (cap : Nat), cs = [.slice a l.length cap] ∧ StrsAt w a l ∧ l.length ≤ cap := by
 rcases open_slice1 Tryz.underlying85 str_one4 h with ⟨rfl, _⟩ | ⟨a, len, cap, m, n, V, D, Pl, rfl, _, hl, hm, hmm, _, hV⟩
 ·exact ⟨none, [], 0, rfl, fun k s hs => by simp at hs, Nat.le_refl _⟩
 ·have hlm : len ≤ m := by rw [hmm]; split <;> omega
  obtain ⟨f, hf⟩ := choose_lt (α := ByteArray) (n := len) (p := fun i z => w.cell? (a.add i) = some (.string z)) (fun i hi => by
   obtain ⟨h1, h2⟩ := hV i (by omega)
   obtain ⟨z, hz, _, _⟩ := DataW.trod_string Tryz.underlying9 h2
   rw [List.singleton_inj] at hz
   exact ⟨z, by rw [h1, hz]⟩)
  refine ⟨some a, (List.range len).map f, cap, by simp, fun k v hv => ?_, by simpa using hl⟩
  have hk : k < len := by
   have := (List.getElem?_eq_some_iff.1 hv).1
   simpa using this
  have h0 := hf 0 (by omega)
  have ha : a = ⟨a.block, a.off, none⟩ := spot_none (v := .string (f 0)) (by simpa [Addr.add] using h0)
  have hk' := hf k hk
  rw [ha, add_plain] at hk'
  refine ⟨a.block, a.off, by rw [← ha], ?_⟩
  rw [hk']
  rw [List.getElem?_map, List.getElem?_range hk] at hv
  simpa using hv
set_option maxRecDepth 100000 in
theorem bl4_of {fuel : Nat} {cs : List Value} {x : DataW H × List MemPlace} (h : DataW.trod enc Tryz.prog w base spare held fuel 88 cs = some x) :
  ∃ (b : Bl4) (sa : Option Addr) (sc : Nat), cs = [.int .i64 b.type, .int .i64 b.shift, .slice sa b.sets.length sc] ∧ StrsAt w sa b.sets ∧ b.sets.length ≤ sc := by
 obtain ⟨xs, n, _, _, hlen, hxs, hf⟩ := DataW.trod_struct Tryz.underlying88 h
 have hc : Tryz.prog.cellsOf 88 = 3 := by kernel_rfl
 rw [hc] at hlen
 match cs, hlen, xs, hxs with
 | [c0, c1, c2], _, [y0, y1, y2], _ =>
  have h0 := hf 0 _ rfl
  have h1 := hf 1 _ rfl
  have h2 := hf 2 _ rfl
  simp only [List.getElem?_cons_zero, List.getElem?_cons_succ] at h0 h1 h2
  obtain ⟨a0, e0, _, _⟩ := DataW.trod_int Tryz.underlying3 h0
  obtain ⟨a1, e1, _, _⟩ := DataW.trod_int Tryz.underlying3 h1
  obtain ⟨sa, l, sc, e2, i2, l2⟩ := strs_of h2
  cases e0; cases e1; cases e2
  exact ⟨⟨a0, a1, l⟩, sa, sc, rfl, i2, l2⟩
instance : Inhabited Bl4 := ⟨⟨0, 0, []⟩⟩
set_option maxRecDepth 100000 in
theorem blanks_of {fuel : Nat} {cs : List Value} {x : DataW H × List MemPlace} (h : DataW.trod enc Tryz.prog w base spare held fuel 72 cs = some x) :
  ∃ (a : Option Addr) (l : List Bl4) (cap : Nat), cs = [.slice a l.length cap] ∧ BlksIn w a l ∧ l.length ≤ cap := by
 have hc : Tryz.prog.cellsOf 88 = 3 := by kernel_rfl
 rcases open_slice Tryz.underlying72 h with ⟨rfl, _⟩ | ⟨a, len, cap, m, n, D, Pl, rfl, _, hl, hm, hmm, _, hV⟩
 ·exact ⟨none, [], 0, rfl, fun k p hp => by simp at hp, Nat.le_refl _⟩
 ·have hlm : len ≤ m := by rw [hmm]; split <;> omega
  rw [hc] at hV
  obtain ⟨f, hf⟩ := choose_lt (α := Bl4) (n := len) (p := fun i b => ∃ sa sc, (∀ j, j < 3 → w.cell? (a.add (i * 3 + j)) = some (blkF b.type b.shift (.slice sa b.sets.length sc) j)) ∧ StrsAt w sa b.sets ∧ b.sets.length ≤ sc) (fun i hi => by
   obtain ⟨cs', h1, h2⟩ := hV i (by omega)
   obtain ⟨b, sa, sc, rfl, h3⟩ := bl4_of h2
   obtain ⟨_, _, hg⟩ := World.cells?_some h1
   refine ⟨b, sa, sc, fun j hj => ?_, h3⟩
   have := hg j hj
   rw [Go.Deep.add_add] at this
   rw [this]
   rcases j with _ | _ | _ | j
   ·rfl
   ·rfl
   ·rfl
   ·omega)
  refine ⟨some a, (List.range len).map f, cap, by simp, fun k b hb => ?_, by simpa using hl⟩
  have hk : k < len := by
   have := (List.getElem?_eq_some_iff.1 hb).1
   simpa using this
  obtain ⟨sa0, sc0, h0, _⟩ := hf 0 (by omega)
  have h00 := h0 0 (by omega)
  have ha : a = ⟨a.block, a.off, none⟩ := spot_none (by simpa [Addr.add] using h00)
  rw [List.getElem?_map, List.getElem?_range hk] at hb
  have hb' : f k = b := by simpa using hb
  obtain ⟨sa, sc, h1, h2, h3⟩ := hf k hk
  rw [hb'] at h1 h2 h3
  refine ⟨a.block, a.off, by rw [← ha], sa, sc, fun j hj => ?_, h2, h3⟩
  have h6 := h1 j hj
  rw [ha, add_plain] at h6
  rw [← h6, Nat.add_assoc]
set_option maxRecDepth 100000 in
theorem blanks_arg {r : Reach} {b0 : Nat} {v : Value} {d : DataW H} {ps : List MemPlace} (hv : Value.okWide Tryz.prog w r b0 72 v) (h : DataW.Trod enc Tryz.prog w base spare held 72 v d ps) :
  ∃ (a : Option Addr) (l : List Bl4) (cap : Nat), v = .slice a l.length cap ∧ BlksIn w a l ∧ l.length ≤ cap := by
 obtain ⟨a, len, cap, rfl⟩ := okWide_slice Tryz.underlying72 hv
 obtain ⟨n, hn⟩ := field_of_Trod h rfl
 obtain ⟨a', l, cap', e, h1, h2⟩ := blanks_of hn
 rw [List.singleton_inj] at e
 exact ⟨a', l, cap', e, h1, h2⟩
end
end Go.Proofs.YthpjffhccjlnhaaGreatDoor
