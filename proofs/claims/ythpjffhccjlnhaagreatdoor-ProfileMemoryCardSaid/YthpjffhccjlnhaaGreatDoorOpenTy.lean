/- Types and rings that are handed in, read as the plain ones that they show. -/
import Derived.Test.YthpjffhccjlnhaaGreatDoorMG6
import Derived.Test.YthpjffhccjlnhaaGreatDoorMG5
import Derived.Test.YthpjffhccjlnhaaGreatDoorRows
import Derived.RowKit
import Derived.RowKit3
import Derived.Lib.SmallJoins
import Derived.Deep.Slices
import Derived.WideKeyArgs
import Derived.ChangeMaps5
import Derived.OpenShut
set_option linter.unusedSimpArgs false
set_option linter.unusedVariables false
namespace Go.Proofs.YthpjffhccjlnhaaGreatDoor
open Go.RowKit Go.ChangeShapes Go.WideShapes Go.Deep Go.Joins

section
variable {H : Type} {enc : TypeId × Value → H} {w : World} {base : Nat} {spare : Nat → Bool} {held : Bool}
theorem spot_none {a : Addr} {v : Value} (h : w.cell? a = some v) : a = ⟨a.block, a.off, none⟩ := by
 obtain ⟨b, o, s⟩ := a
 unfold World.cell? at h
 split at h
 ·rcases s with _ | s
  ·rfl
  ·simp at h
 ·cases h
theorem add_plain (b o j : Nat) : (⟨b, o, none⟩ : Addr).add j = ⟨b, o + j, none⟩ := by
 unfold Addr.add
 split
 ·rename_i h; subst h; rfl
 ·rfl
theorem one_at {l : List Value} {k : Nat} {v : Value} (h : (l.drop k).take 1 = [v]) : l[k]? = some v := by
 have := congrArg (·[0]?) h
 simpa [List.getElem?_take, List.getElem?_drop] using this
theorem str_at {fuel k : Nat} {l : List Value} {x : Option (DataW H × List MemPlace)} {y : DataW H × List MemPlace} (h : DataW.trod enc Tryz.prog w base spare held fuel 9 ((l.drop k).take (Tryz.prog.cellsOf 9)) = x) (hx : x = some y) : ∃ s : ByteArray, l[k]? = some (.string s) := by
 subst hx
 obtain ⟨s, e, _, _⟩ := DataW.trod_string Tryz.underlying9 h
 exact ⟨s, one_at ((show Tryz.prog.cellsOf 9 = 1 by kernel_rfl) ▸ e)⟩
theorem int_at {fuel k : Nat} {l : List Value} {x : Option (DataW H × List MemPlace)} {y : DataW H × List MemPlace} (h : DataW.trod enc Tryz.prog w base spare held fuel 3 ((l.drop k).take (Tryz.prog.cellsOf 3)) = x) (hx : x = some y) : ∃ s : Int, l[k]? = some (.int .i64 s) := by
 subst hx
 obtain ⟨s, e, _, _⟩ := DataW.trod_int Tryz.underlying3 h
 exact ⟨s, one_at ((show Tryz.prog.cellsOf 3 = 1 by kernel_rfl) ▸ e)⟩
instance : Inhabited ByteArray := ⟨ByteArray.empty⟩
set_option maxRecDepth 100000 in
theorem typ_of {fuel : Nat} {cs : List Value} {x : DataW H × List MemPlace} (h : DataW.trod enc Tryz.prog w base spare held fuel 71 cs = some x) : ∃ t : Typ, cs = (typCells t).toList := by
 obtain ⟨xs, n, _, _, hlen, hxs, hf⟩ := DataW.trod_struct Tryz.underlying71 h
 have hc : Tryz.prog.cellsOf 71 = 32 := by kernel_rfl
 rw [hc] at hlen
 match xs, hxs with
 | [y0, y1, y2, y3, y4, y5, y6], _ =>
  obtain ⟨s0, e0⟩ := str_at (hf 0 _ rfl) rfl
  obtain ⟨s1, e1⟩ := str_at (hf 1 _ rfl) rfl
  obtain ⟨s2, e2⟩ := int_at (hf 2 _ rfl) rfl
  obtain ⟨s3, e3⟩ := int_at (hf 3 _ rfl) rfl
  obtain ⟨s4, e4⟩ := str_at (hf 4 _ rfl) rfl
  obtain ⟨s5, e5⟩ := str_at (hf 5 _ rfl) rfl
  have h6 : DataW.trod enc Tryz.prog w base spare held n 69 ((cs.drop 6).take (Tryz.prog.cellsOf 69)) = some y6 := hf 6 _ rfl
  rw [show Tryz.prog.cellsOf 69 = 26 by kernel_rfl] at h6
  obtain ⟨zs, m, _, _, hzl, hzn, hz⟩ := DataW.trod_array Tryz.underlying69 h6
  obtain ⟨f, hF⟩ := choose_lt (α := ByteArray) (n := 26) (p := fun i z => cs[6 + i]? = some (.string z)) (fun i hi => by
   have hs : Tryz.prog.cellsOf 9 = 1 := by kernel_rfl
   have h1 := hz i hi
   obtain ⟨z, ez⟩ := str_at (k := i * 1) (by rw [hs] at h1 ⊢; exact h1) (List.getElem?_eq_getElem (by omega))
   refine ⟨z, ?_⟩
   rw [Nat.mul_one, List.getElem?_take, if_pos hi, List.getElem?_drop] at ez
   exact ez)
  refine ⟨⟨s0, s1, s2, s3, s4, s5, f⟩, List.ext_getElem? fun j => ?_⟩
  by_cases hj : j < 32
  ·have hr : ∀ T : Typ, (typCells T).toList[j]? = some (typF T j) := fun T => by rw [Array.getElem?_toList, typCells, fnCells_get hj]
   rw [hr]
   rcases j with _ | _ | _ | _ | _ | _ | j
   ·exact e0
   ·exact e1
   ·exact e2
   ·exact e3
   ·exact e4
   ·exact e5
   ·have := hF j (by omega)
    rw [Nat.add_comm 6 j] at this
    exact this
  ·rw [List.getElem?_eq_none (by omega), List.getElem?_eq_none (by rw [Array.length_toList, typCells, fnCells_size]; omega)]
instance : Inhabited Typ := ⟨typ0⟩
theorem types_of {fuel : Nat} {cs : List Value} {x : DataW H × List MemPlace} (h : DataW.trod enc Tryz.prog w base spare held fuel 22 cs = some x) :
  ∃ (a : Option Addr) (l : List Typ) (cap : Nat), cs = [.slice a l.length cap] ∧ TypesAt w a l ∧ l.length ≤ cap := by
 have hc : Tryz.prog.cellsOf 71 = 32 := by kernel_rfl
 rcases open_slice Tryz.underlying22 h with ⟨rfl, _⟩ | ⟨a, len, cap, m, n, D, Pl, rfl, _, hl, hm, hmm, _, hV⟩
 ·exact ⟨none, [], 0, rfl, fun k p hp => by simp at hp, Nat.le_refl _⟩
 ·have hlm : len ≤ m := by rw [hmm]; split <;> omega
  rw [hc] at hV
  obtain ⟨f, hf⟩ := choose_lt (α := Typ) (n := len) (p := fun i t => ∀ j, j < 32 → w.cell? (a.add (i * 32 + j)) = some (typF t j)) (fun i hi => by
   obtain ⟨cs', h1, h2⟩ := hV i (by omega)
   obtain ⟨t, rfl⟩ := typ_of h2
   obtain ⟨_, _, hg⟩ := World.cells?_some h1
   refine ⟨t, fun j hj => ?_⟩
   have := hg j hj
   rw [Go.Deep.add_add, Array.getElem?_toList, typCells, fnCells_get hj] at this
   exact this)
  refine ⟨some a, (List.range len).map f, cap, by simp, fun k t ht => ?_, by simpa using hl⟩
  have hk : k < len := by
   have := (List.getElem?_eq_some_iff.1 ht).1
   simpa using this
  have h0 := hf 0 (by omega) 0 (by omega)
  have ha : a = ⟨a.block, a.off, none⟩ := spot_none (v := typF (f 0) 0) (by simpa [Addr.add] using h0)
  rw [List.getElem?_map, List.getElem?_range hk] at ht
  have ht' : f k = t := by simpa using ht
  refine ⟨a.block, a.off, by rw [← ha], fun j hj => ?_⟩
  have h6 := hf k hk j hj
  rw [ha, add_plain, ht'] at h6
  rw [← h6, Nat.add_assoc]
set_option maxRecDepth 100000 in
theorem rng_of {fuel : Nat} {cs : List Value} {x : DataW H × List MemPlace} (h : DataW.trod enc Tryz.prog w base spare held fuel 48 cs = some x) : ∃ y : Rng, cs = (rngCells y).toList := by
 obtain ⟨xs, n, _, _, hlen, hxs, hf⟩ := DataW.trod_struct Tryz.underlying48 h
 have hc : Tryz.prog.cellsOf 48 = 2 := by kernel_rfl
 rw [hc] at hlen
 match xs, hxs with
 | [y0, y1], _ =>
  obtain ⟨s0, e0⟩ := int_at (hf 0 _ rfl) rfl
  obtain ⟨s1, e1⟩ := str_at (hf 1 _ rfl) rfl
  refine ⟨⟨s0, s1⟩, List.ext_getElem? fun j => ?_⟩
  by_cases hj : j < 2
  ·have hr : ∀ T : Rng, (rngCells T).toList[j]? = some (rngF T j) := fun T => by rw [Array.getElem?_toList, rngCells, fnCells_get hj]
   rw [hr]
   rcases j with _ | _ | j
   ·exact e0
   ·exact e1
   ·omega
  ·rw [List.getElem?_eq_none (by omega), List.getElem?_eq_none (by rw [Array.length_toList, rngCells, fnCells_size]; omega)]
instance : Inhabited Rng := ⟨rng0⟩
theorem rings_of {fuel : Nat} {cs : List Value} {x : DataW H × List MemPlace} (h : DataW.trod enc Tryz.prog w base spare held fuel 37 cs = some x) :
  ∃ (a : Option Addr) (l : List Rng) (cap : Nat), cs = [.slice a l.length cap] ∧ RngsAt w a l ∧ l.length ≤ cap := by
 have hc : Tryz.prog.cellsOf 48 = 2 := by kernel_rfl
 rcases open_slice Tryz.underlying37 h with ⟨rfl, _⟩ | ⟨a, len, cap, m, n, D, Pl, rfl, _, hl, hm, hmm, _, hV⟩
 ·exact ⟨none, [], 0, rfl, fun k p hp => by simp at hp, Nat.le_refl _⟩
 ·have hlm : len ≤ m := by rw [hmm]; split <;> omega
  rw [hc] at hV
  obtain ⟨f, hf⟩ := choose_lt (α := Rng) (n := len) (p := fun i t => ∀ j, j < 2 → w.cell? (a.add (i * 2 + j)) = some (rngF t j)) (fun i hi => by
   obtain ⟨cs', h1, h2⟩ := hV i (by omega)
   obtain ⟨t, rfl⟩ := rng_of h2
   obtain ⟨_, _, hg⟩ := World.cells?_some h1
   refine ⟨t, fun j hj => ?_⟩
   have := hg j hj
   rw [Go.Deep.add_add, Array.getElem?_toList, rngCells, fnCells_get hj] at this
   exact this)
  refine ⟨some a, (List.range len).map f, cap, by simp, fun k t ht => ?_, by simpa using hl⟩
  have hk : k < len := by
   have := (List.getElem?_eq_some_iff.1 ht).1
   simpa using this
  have h0 := hf 0 (by omega) 0 (by omega)
  have ha : a = ⟨a.block, a.off, none⟩ := spot_none (v := rngF (f 0) 0) (by simpa [Addr.add] using h0)
  rw [List.getElem?_map, List.getElem?_range hk] at ht
  have ht' : f k = t := by simpa using ht
  refine ⟨a.block, a.off, by rw [← ha], fun j hj => ?_⟩
  have h6 := hf k hk j hj
  rw [ha, add_plain, ht'] at h6
  rw [← h6, Nat.add_assoc]
set_option maxRecDepth 100000 in
theorem types_arg {r : Reach} {b0 : Nat} {v : Value} {d : DataW H} {ps : List MemPlace} (hv : Value.okWide Tryz.prog w r b0 22 v) (h : DataW.Trod enc Tryz.prog w base spare held 22 v d ps) :
  ∃ (a : Option Addr) (l : List Typ) (cap : Nat), v = .slice a l.length cap ∧ TypesAt w a l ∧ l.length ≤ cap := by
 obtain ⟨a, len, cap, rfl⟩ := okWide_slice Tryz.underlying22 hv
 obtain ⟨n, hn⟩ := field_of_Trod h rfl
 obtain ⟨a', l, cap', e, h1, h2⟩ := types_of hn
 rw [List.singleton_inj] at e
 exact ⟨a', l, cap', e, h1, h2⟩
set_option maxRecDepth 100000 in
theorem rings_arg {r : Reach} {b0 : Nat} {v : Value} {d : DataW H} {ps : List MemPlace} (hv : Value.okWide Tryz.prog w r b0 37 v) (h : DataW.Trod enc Tryz.prog w base spare held 37 v d ps) :
  ∃ (a : Option Addr) (l : List Rng) (cap : Nat), v = .slice a l.length cap ∧ RngsAt w a l ∧ l.length ≤ cap := by
 obtain ⟨a, len, cap, rfl⟩ := okWide_slice Tryz.underlying37 hv
 obtain ⟨n, hn⟩ := field_of_Trod h rfl
 obtain ⟨a', l, cap', e, h1, h2⟩ := rings_of hn
 rw [List.singleton_inj] at e
 exact ⟨a', l, cap', e, h1, h2⟩
open Go.WideElems in
theorem all_stays (hl : laidOutB Tryz.prog = true) {W W' : World} {sp' : Nat → Bool} : ∀ {ts : List TypeId} {vs : List Value} {ds : List (DataW H)} {ps : List MemPlace},
  (∀ t ∈ ts, Tryz.prog.readableRec t = true ∧ t < Tryz.prog.types.size) → DataW.TrodAll enc Tryz.prog W base (fun _ => true) true ts vs ds ps → (∀ p ∈ ps, W.sameAt W' p) → (∀ p ∈ ps, sp' p.block = true) →
  DataW.TrodAll enc Tryz.prog W' base sp' true ts vs ds ps
 | [], vs, ds, ps, _, h, _, _ => by
  obtain ⟨rfl, rfl, rfl⟩ := trodAll_nil h
  exact trodAll_mk0
 | t :: ts, vs, ds, ps, ht, h, h1, h2 => by
  obtain ⟨v, vs', d, ds', p, p', rfl, rfl, rfl, ha, hr⟩ := trodAll_cons h
  have hr' := all_stays hl (sp' := sp') (fun t ht' => ht t (List.mem_cons_of_mem _ ht')) hr (fun q hq => h1 q (List.mem_append_right _ hq)) (fun q hq => h2 q (List.mem_append_right _ hq))
  have ha' := Trod_stays hl (ht t List.mem_cons_self).1 (ht t List.mem_cons_self).2 ha (fun q hq => h1 q (List.mem_append_left _ hq)) (fun q hq => h2 q (List.mem_append_left _ hq))
  exact trodAll_cons_mk ha' hr'
theorem laid_out : laidOutB Tryz.prog = true := by kernel_rfl
/-- a law's last step: it returned true and only made new memory -/
theorem law_post {f : Func} {s : ChangeSpec} {W W' : World} {args : Array Value} {ds gs : List (DataW H)} {before : List MemPlace} (hf : f.resultTypes = #[4]) (hv : s.vars = [])
  (hts : ∀ t ∈ f.params.toList, Tryz.prog.readableRec t = true ∧ t < Tryz.prog.types.size)
  (hW : DataW.Whole enc Tryz.prog f.params.toList s.vars false W args.toList ds gs before) (hr : (s.fn H (ds ++ gs)).results = [.lit (.bool true)]) (ha : (s.fn H (ds ++ gs)).args = ds) (hg : (s.fn H (ds ++ gs)).vars = []) (hb : Below W.heap.size W W') :
  s.post enc Tryz.prog f false true false false W args (.bool true) W' := by
 have hW' := hW
 have hlt : ∀ p ∈ before, p.block < W.heap.size := fun p hp => hW.lt p hp
 obtain ⟨p, q, hA, hV, rfl, _, _⟩ := hW
 rw [hv] at hV
 obtain ⟨rfl, rfl⟩ := trodVars_none hV
 rw [List.append_nil] at hlt
 refine ⟨ds, [], p ++ [], [], p, [], hW', ?_, ?_, ?_, hb.frame _, fun h => by cases h⟩
 ·rw [hr, hf]
  exact trodAll_mk1 (shut_bool Tryz.underlying4 true)
 ·rw [ha]
  exact all_stays laid_out hts hA (fun r hr => hb.same (hlt r hr)) (fun r hr => by simpa using hlt r hr)
 ·rw [hg, hv]
  exact rfl
end
end Go.Proofs.YthpjffhccjlnhaaGreatDoor
