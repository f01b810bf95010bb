/- A case that is handed in, read as the plain case that it shows; that it reads the same behind a call that only makes new memory. -/
/- few: whether a case is small. -/
import Derived.Test.YtpjcnkajimgagaaGreatMWords
import Derived.Test.YtpjcnkajimgagaaGreatRows
import Derived.RowKit
import Derived.RowKit3
import Derived.Lib.SmallJoins
import Derived.Deep.Slices
import Derived.WideKeyArgs
import Derived.ChangeMaps5
import Derived.OpenShut
import Derived.Test.YtpjcnkajimgagaaGreatMCase
set_option linter.unusedSimpArgs false
set_option linter.unusedVariables false
namespace Go.Proofs.YtpjcnkajimgagaaGreat
open Go.RowKit Go.ChangeShapes Go.WideShapes Go.Deep Go.Joins

section
variable {H : Type} {enc : TypeId × Value → H} {w : World} {base : Nat} {spare : Nat → Bool} {held : Bool}
theorem spot_none {a : Addr} {v : Value} (h : w.cell? a = some v) : a = ⟨a.block, a.off, none⟩ := by
 obtain ⟨b, o, s⟩ := a
 unfold World.cell? at h
 split at h
 ·rcases s with _ | s
  ·rfl
  ·simp at h
 ·cases h
theorem add_plain (b o j : Nat) : (⟨b, o, none⟩ : Addr).add j = ⟨b, o + j, none⟩ := by
 unfold Addr.add
 split
 ·rename_i h; subst h; rfl
 ·rfl
theorem int_one : Tryz.prog.cellsOf 3 = 1 := by kernel_rfl
theorem ints_of {fuel : Nat} {cs : List Value} {x : DataW H × List MemPlace} (h : DataW.trod enc Tryz.prog w base spare held fuel 27 cs = some x) :
  ∃ (a : Option Addr) (l : List Int) (cap : Nat), cs = [.slice a l.length cap] ∧ Ints w a l ∧ l.length ≤ cap ∧ cap ≤ maxLen := by
 rcases open_slice1 Tryz.underlying27 int_one h with ⟨rfl, _⟩ | ⟨a, len, cap, m, n, V, D, Pl, rfl, _, hl, hm, hmm, _, hV⟩
 ·exact ⟨none, [], 0, rfl, Ints.nil _ _, Nat.le_refl _, Nat.zero_le _⟩
 ·have hlm : len ≤ m := by rw [hmm]; split <;> omega
  obtain ⟨f, hf⟩ := choose_lt (α := Int) (n := len) (p := fun i z => w.cell? (a.add i) = some (.int .i64 z)) (fun i hi => by
   obtain ⟨h1, h2⟩ := hV i (by omega)
   obtain ⟨z, hz, _, _⟩ := DataW.trod_int Tryz.underlying3 h2
   rw [List.singleton_inj] at hz
   exact ⟨z, by rw [h1, hz]⟩)
  refine ⟨some a, (List.range len).map f, cap, by simp, fun k v hv => ?_, by simpa using hl, hm⟩
  have hk : k < len := by
   have := (List.getElem?_eq_some_iff.1 hv).1
   simpa using this
  have h0 := hf 0 (by omega)
  have ha : a = ⟨a.block, a.off, none⟩ := spot_none (v := .int .i64 (f 0)) (by simpa [Addr.add] using h0)
  have hk' := hf k hk
  rw [ha, add_plain] at hk'
  refine ⟨a.block, a.off, by rw [← ha], ?_⟩
  rw [hk']
  rw [List.getElem?_map, List.getElem?_map, List.getElem?_range hk] at hv
  simpa using hv
set_option maxRecDepth 100000 in
theorem span_of {fuel : Nat} {cs : List Value} {x : DataW H × List MemPlace} (h : DataW.trod enc Tryz.prog w base spare held fuel 50 cs = some x) :
  ∃ s : Spn, cs = [.int .i64 s.low, .int .i64 s.high, .int .i64 s.lowBy, .int .i64 s.highBy] := by
 obtain ⟨xs, n, _, _, hlen, hxs, hf⟩ := DataW.trod_struct Tryz.underlying50 h
 have hc : Tryz.prog.cellsOf 50 = 4 := by kernel_rfl
 rw [hc] at hlen
 match cs, hlen, xs, hxs with
 | [c0, c1, c2, c3], _, [y0, y1, y2, y3], _ =>
  have h0 := hf 0 _ rfl
  have h1 := hf 1 _ rfl
  have h2 := hf 2 _ rfl
  have h3 := hf 3 _ rfl
  simp only [List.getElem?_cons_zero, List.getElem?_cons_succ] at h0 h1 h2 h3
  obtain ⟨a0, e0, _, _⟩ := DataW.trod_int Tryz.underlying3 h0
  obtain ⟨a1, e1, _, _⟩ := DataW.trod_int Tryz.underlying3 h1
  obtain ⟨a2, e2, _, _⟩ := DataW.trod_int Tryz.underlying3 h2
  obtain ⟨a3, e3, _, _⟩ := DataW.trod_int Tryz.underlying3 h3
  cases e0; cases e1; cases e2; cases e3
  exact ⟨⟨a0, a1, a2, a3⟩, rfl⟩
set_option maxRecDepth 100000 in
theorem part_of {fuel : Nat} {cs : List Value} {x : DataW H × List MemPlace} (h : DataW.trod enc Tryz.prog w base spare held fuel 52 cs = some x) :
  ∃ (p : Prt) (sa : Option Addr) (sc : Nat) (ra : Option Addr) (rc : Nat), cs = prtCells p sa sc ra rc ∧ Ints w sa p.sherds ∧ Ints w ra p.rests ∧ p.sherds.length ≤ sc ∧ p.rests.length ≤ rc ∧ sc ≤ maxLen ∧ rc ≤ maxLen := by
 obtain ⟨xs, n, _, _, hlen, hxs, hf⟩ := DataW.trod_struct Tryz.underlying52 h
 have hc : Tryz.prog.cellsOf 52 = 8 := by kernel_rfl
 rw [hc] at hlen
 match cs, hlen, xs, hxs with
 | [c0, c1, c2, c3, c4, c5, c6, c7], _, [y0, y1, y2, y3, y4], _ =>
  have h0 := hf 0 _ rfl
  have h1 := hf 1 _ rfl
  have h2 := hf 2 _ rfl
  have h3 := hf 3 _ rfl
  have h4 := hf 4 _ rfl
  simp only [List.getElem?_cons_zero, List.getElem?_cons_succ] at h0 h1 h2 h3 h4
  obtain ⟨sa, l, sc, e0, i0, l0, m0⟩ := ints_of h0
  obtain ⟨s, e1⟩ := span_of h1
  obtain ⟨b, e2, _⟩ := DataW.trod_bool Tryz.underlying4 h2
  obtain ⟨a3, e3, _, _⟩ := DataW.trod_int Tryz.underlying3 h3
  obtain ⟨ra, r, rc, e4, i4, l4, m4⟩ := ints_of h4
  cases e0; cases e1; cases e2; cases e3; cases e4
  exact ⟨⟨l, s, b, a3, r⟩, sa, sc, ra, rc, rfl, i0, i4, l0, l4, m0, m4⟩
instance : Inhabited Prt := ⟨⟨[], ⟨0, 0, 0, 0⟩, false, 0, []⟩⟩
/-- sizes that any argument has -/
def Cs.Fit (c : Cs) : Prop := c.parts.length ≤ maxLen ∧ c.ware.size ≤ maxLen ∧ ∀ p ∈ c.parts, p.sherds.length ≤ maxLen ∧ p.rests.length ≤ maxLen
set_option maxRecDepth 100000 in
theorem parts_of {fuel : Nat} {cs : List Value} {x : DataW H × List MemPlace} (h : DataW.trod enc Tryz.prog w base spare held fuel 22 cs = some x) :
  ∃ (a : Option Addr) (l : List Prt) (cap : Nat), cs = [.slice a l.length cap] ∧ PartsAt w a l ∧ l.length ≤ cap ∧ cap ≤ maxLen ∧ ∀ p ∈ l, p.sherds.length ≤ maxLen ∧ p.rests.length ≤ maxLen := by
 have hc : Tryz.prog.cellsOf 52 = 8 := by kernel_rfl
 rcases open_slice Tryz.underlying22 h with ⟨rfl, _⟩ | ⟨a, len, cap, m, n, D, Pl, rfl, _, hl, hm, hmm, _, hV⟩
 ·exact ⟨none, [], 0, rfl, fun k p hp => by simp at hp, Nat.le_refl _, Nat.zero_le _, by simp⟩
 ·have hlm : len ≤ m := by rw [hmm]; split <;> omega
  rw [hc] at hV
  obtain ⟨f, hf⟩ := choose_lt (α := Prt) (n := len) (p := fun i p => ∃ sa sc ra rc, (∀ j v, (prtCells p sa sc ra rc)[j]? = some v → w.cell? (a.add (i * 8 + j)) = some v) ∧ Ints w sa p.sherds ∧ Ints w ra p.rests ∧ p.sherds.length ≤ sc ∧ p.rests.length ≤ rc ∧ sc ≤ maxLen ∧ rc ≤ maxLen) (fun i hi => by
   obtain ⟨cs', h1, h2⟩ := hV i (by omega)
   obtain ⟨p, sa, sc, ra, rc, rfl, h3⟩ := part_of h2
   obtain ⟨_, _, hg⟩ := World.cells?_some h1
   refine ⟨p, sa, sc, ra, rc, fun j v hv => ?_, h3⟩
   have hj := (List.getElem?_eq_some_iff.1 hv).1
   have := hg j (by simpa [prtCells] using hj)
   rw [Go.Deep.add_add] at this
   rw [this, hv])
  refine ⟨some a, (List.range len).map f, cap, by simp, fun k p hp => ?_, by simpa using hl, hm, fun p hp => ?_⟩
  ·have hk : k < len := by
    have := (List.getElem?_eq_some_iff.1 hp).1
    simpa using this
   obtain ⟨_, _, _, _, h0, _⟩ := hf 0 (by omega)
   have ha : a = ⟨a.block, a.off, none⟩ := spot_none (by simpa [Addr.add] using h0 0 _ rfl)
   rw [List.getElem?_map, List.getElem?_range hk] at hp
   have hp' : f k = p := by simpa using hp
   obtain ⟨sa, sc, ra, rc, h1, h2, h3, h4, h5, _⟩ := hf k hk
   rw [hp'] at h1 h2 h3 h4 h5
   refine ⟨a.block, a.off, by rw [← ha], sa, sc, ra, rc, fun j v hv => ?_, h2, h3, h4, h5⟩
   have h6 := h1 j v hv
   rw [ha, add_plain] at h6
   rw [← h6, Nat.add_assoc]
  ·simp only [List.mem_map, List.mem_range] at hp
   obtain ⟨i, hi, rfl⟩ := hp
   obtain ⟨_, _, _, _, _, _, _, h4, h5, h6, h7⟩ := hf i hi
   exact ⟨Nat.le_trans h4 h6, Nat.le_trans h5 h7⟩
set_option maxRecDepth 100000 in
theorem case_of {r : Reach} {b0 : Nat} {v : Value} {d : DataW H} {ps : List MemPlace} (hv : Value.okWide Tryz.prog w r b0 24 v) (h : DataW.Trod enc Tryz.prog w base spare held 24 v d ps) :
  ∃ (c : Cs) (pa : Option Addr) (pc : Nat), v = .agg #[.string c.ware, .int .i64 c.limit, .int .i64 c.by_, .slice pa c.parts.length pc] ∧ PartsAt w pa c.parts ∧ c.parts.length ≤ pc ∧ c.Fit ∧ (Lit.int .i64 c.limit).wf = true := by
 obtain ⟨v0, v1, v2, v3, y0, y1, y2, y3, n, rfl, _, _, h0, h1, h2, h3⟩ := open_agg4 Tryz.underlying24 (by kernel_rfl) (by kernel_rfl) hv h
 obtain ⟨s, e0, _, hs⟩ := DataW.trod_string Tryz.underlying9 h0
 obtain ⟨a1, e1, _, w1⟩ := DataW.trod_int Tryz.underlying3 h1
 obtain ⟨a2, e2, _, _⟩ := DataW.trod_int Tryz.underlying3 h2
 obtain ⟨pa, l, pc, e3, hp, hl, hm, hfit⟩ := parts_of h3
 cases e0; cases e1; cases e2; cases e3
 exact ⟨⟨s, a1, a2, l⟩, pa, pc, rfl, hp, hl, ⟨Nat.le_trans hl hm, hs, hfit⟩, w1⟩
open Go.WideElems in
theorem all_stays (hl : laidOutB Tryz.prog = true) {W W' : World} {sp' : Nat → Bool} : ∀ {ts : List TypeId} {vs : List Value} {ds : List (DataW H)} {ps : List MemPlace},
  (∀ t ∈ ts, Tryz.prog.readableRec t = true ∧ t < Tryz.prog.types.size) → DataW.TrodAll enc Tryz.prog W base (fun _ => true) true ts vs ds ps → (∀ p ∈ ps, W.sameAt W' p) → (∀ p ∈ ps, sp' p.block = true) →
  DataW.TrodAll enc Tryz.prog W' base sp' true ts vs ds ps
 | [], vs, ds, ps, _, h, _, _ => by
  obtain ⟨rfl, rfl, rfl⟩ := trodAll_nil h
  exact trodAll_mk0
 | t :: ts, vs, ds, ps, ht, h, h1, h2 => by
  obtain ⟨v, vs', d, ds', p, p', rfl, rfl, rfl, ha, hr⟩ := trodAll_cons h
  have hr' := all_stays hl (sp' := sp') (fun t ht' => ht t (List.mem_cons_of_mem _ ht')) hr (fun q hq => h1 q (List.mem_append_right _ hq)) (fun q hq => h2 q (List.mem_append_right _ hq))
  have ha' := Trod_stays hl (ht t List.mem_cons_self).1 (ht t List.mem_cons_self).2 ha (fun q hq => h1 q (List.mem_append_left _ hq)) (fun q hq => h2 q (List.mem_append_left _ hq))
  exact trodAll_cons_mk ha' hr'
theorem laid_out : laidOutB Tryz.prog = true := by kernel_rfl
/-- a law's last step: it returned true and only made new memory -/
theorem law_post {f : Func} {s : ChangeSpec} {W W' : World} {args : Array Value} {ds gs : List (DataW H)} {before : List MemPlace} (hf : f.resultTypes = #[4]) (hv : s.vars = [])
  (hts : ∀ t ∈ f.params.toList, Tryz.prog.readableRec t = true ∧ t < Tryz.prog.types.size)
  (hW : DataW.Whole enc Tryz.prog f.params.toList s.vars false W args.toList ds gs before) (hr : (s.fn H (ds ++ gs)).results = [.lit (.bool true)]) (ha : (s.fn H (ds ++ gs)).args = ds) (hg : (s.fn H (ds ++ gs)).vars = []) (hb : Below W.heap.size W W') :
  s.post enc Tryz.prog f false true false false W args (.bool true) W' := by
 have hW' := hW
 have hlt : ∀ p ∈ before, p.block < W.heap.size := fun p hp => hW.lt p hp
 obtain ⟨p, q, hA, hV, rfl, _, _⟩ := hW
 rw [hv] at hV
 obtain ⟨rfl, rfl⟩ := trodVars_none hV
 rw [List.append_nil] at hlt
 refine ⟨ds, [], p ++ [], [], p, [], hW', ?_, ?_, ?_, hb.frame _, fun h => by cases h⟩
 ·rw [hr, hf]
  exact trodAll_mk1 (shut_bool Tryz.underlying4 true)
 ·rw [ha]
  exact all_stays laid_out hts hA (fun r hr => hb.same (hlt r hr)) (fun r hr => by simpa using hlt r hr)
 ·rw [hg, hv]
  exact rfl
end
end Go.Proofs.YtpjcnkajimgagaaGreat
namespace Go.Proofs.YtpjcnkajimgagaaGreat
open Go.RowKit
attribute [local go_sem] Oper.semAt_some

def fewP (p : Prt) : Bool := decide (p.sherds.length ≤ 45) && decide (p.rests.length ≤ 205)
def fewB (c : Cs) : Bool := c.parts.all fewP && (decide (c.parts.length ≤ 10) && decide (c.ware.size ≤ 60))
theorem few_small {c : Cs} (h : fewB c = true) : c.Small := by
 simp [fewB, fewP] at h
 exact ⟨h.2.1, h.2.2, fun p hp => h.1 p hp⟩
theorem few_false {c : Cs} {k : Nat} {p : Prt} (hp : c.parts[k]? = some p) (h : fewP p = false) : fewB c = false := by
 have h1 : c.parts.all fewP = false := by
  rw [List.all_eq_false]
  exact ⟨p, List.mem_of_getElem? hp, by simp [h]⟩
 simp [fewB, h1]
theorem few_end {c : Cs} {k : Nat} (hk : ¬ k < c.parts.length) (h : ∀ (j : Nat) q, j < k → c.parts[j]? = some q → fewP q = true) : fewB c = (decide (c.parts.length ≤ 10) && decide (c.ware.size ≤ 60)) := by
 have h1 : c.parts.all fewP = true := by
  rw [List.all_eq_true]
  intro p hp
  obtain ⟨j, hj⟩ := List.mem_iff_getElem?.1 hp
  have := (List.getElem?_eq_some_iff.1 hj).1
  exact h j p (by omega) hj
 simp [fewB, h1]
set_option maxRecDepth 100000 in
set_option maxHeartbeats 1000000 in
theorem few_any (c : Cs) (hf : c.Fit) (pa : Option Addr) (pc : Nat) (w : World) (hp : PartsAt w pa c.parts) :
  Calls Tryz.prog 8 #[.agg #[.string c.ware, .int .i64 c.limit, .int .i64 c.by_, .slice pa c.parts.length pc]] w fun e w' => e = .returned (.bool (fewB c)) ∧ Below w.heap.size w w' := by
 obtain ⟨hs1, hs2, hs3⟩ := hf
 unfold maxLen at hs1 hs2 hs3
 obtain ⟨w1, hw1⟩ : ∃ w1, w.alloc (.cells #[.string c.ware, .int .i64 c.limit, .int .i64 c.by_, .slice pa c.parts.length pc] 24) = w1 := ⟨_, rfl⟩
 have hB1 : Below w.heap.size w w1 := by rw [← hw1]; go_grown
 have b1 : Box w1 w.heap.size (csCells c pa pc) 24 := by rw [← hw1]; exact Box.new _ _ _
 have e1 : ∀ i, w1.cell? ⟨w.heap.size, i, none⟩ = (#[.string c.ware, .int .i64 c.limit, .int .i64 c.by_, .slice pa c.parts.length pc] : Array Value)[i]? := b1.cell
 have HP := Lib.hid hp
 have H3 := Lib.hid hs3
 have HW := Lib.hid hw1
 have HB1 := Lib.hid hB1
 have HX1 := Lib.hid b1
 clear hp hs3 hw1 b1 hB1
 go_enter Tryz.func8, Tryz.ntmps8
 go_upto_region 1 with fail
 simp only [HW.out]
 go_wp2_with fail
 clear e1
 go_loopw [8] (fun i wr => ∃ k : Nat, k ≤ c.parts.length ∧ i = .int .i64 k ∧ Hid (∀ (j : Nat) q, j < k → c.parts[j]? = some q → fewP q = true) ∧ Box wr w.heap.size (csCells c pa pc) 24 ∧ Below w.heap.size w wr) (fun i _ => c.parts.length - (intOf i).toNat)
 case atStart => exact ⟨0, Nat.zero_le _, rfl, Lib.hid (fun j q hj => absurd hj (Nat.not_lt_zero j)), HX1.out, HB1.out⟩
 case round =>
  obtain ⟨k, hk, rfl, HA, hbx, hbw⟩ := hrel
  have HBX := Lib.hid hbx
  have HBW := Lib.hid hbw
  clear hbx hbw
  by_cases hlt : k < c.parts.length
  ·obtain ⟨b, o, p, rfl, hpk, hpart⟩ := HP.out.at_ hlt
   obtain ⟨sa, sc, ra, rc, c0, c1, c2, c3, c4, c5, c6, c7, hsi, hri, hsc, hrc⟩ := hpart.open
   have d0 := below_cell HBW.out c0
   have d1 := below_cell HBW.out c1
   have d2 := below_cell HBW.out c2
   have d3 := below_cell HBW.out c3
   have d4 := below_cell HBW.out c4
   have d5 := below_cell HBW.out c5
   have d6 := below_cell HBW.out c6
   have d7 := below_cell HBW.out c7
   have hlen := H3.out p (List.mem_of_getElem? hpk)
   have hl1 := hlen.1
   have hl2 := hlen.2
   have HPK := Lib.hid hpk
   clear c0 c1 c2 c3 c4 c5 c6 c7 hpart hpk hsi hri hlen hsc hrc
   by_cases h1 : 45 < p.sherds.length
   ·go_wp2_with fail
    go_ret
    exact ⟨ret_bool (few_false HPK.out (by simp [fewP]; omega)).symm, HBW.out.alloc HBW.out.size _⟩
   ·by_cases h2 : 205 < p.rests.length
    ·go_wp2_with fail
     go_ret
     exact ⟨ret_bool (few_false HPK.out (by simp [fewP]; omega)).symm, HBW.out.alloc HBW.out.size _⟩
    ·go_wp2_with fail
     go_roundw
     case rel => exact ⟨k + 1, by omega, by go_num, Lib.hid (fun j q hj hq => by
      rcases Nat.lt_or_ge j k with h | h
      ·exact HA.out j q h hq
      ·have : j = k := by omega
       subst this
       rw [HPK.out] at hq
       cases hq
       simp [fewP]; omega), HBX.out.alloc _, HBW.out.alloc HBW.out.size _⟩
     case measure => simp [intOf]; omega
  ·have e1 : ∀ i, wr.cell? ⟨w.heap.size, i, none⟩ = (#[.string c.ware, .int .i64 c.limit, .int .i64 c.by_, .slice pa c.parts.length pc] : Array Value)[i]? := HBX.out.cell
   have HE := Lib.hid (few_end hlt HA.out)
   by_cases h1 : c.parts.length ≤ 10
   ·by_cases h2 : c.ware.size ≤ 60
    ·go_wp2_with fail
     go_ret
     exact ⟨ret_bool (by rw [HE.out]; simp [h1, h2]; omega), HBW.out⟩
    ·go_wp2_with fail
     go_ret
     exact ⟨ret_bool (by rw [HE.out]; simp [h1, h2]; omega), HBW.out⟩
   ·go_wp2_with fail
    go_ret
    exact ⟨ret_bool (by rw [HE.out]; simp [h1]), HBW.out⟩
end Go.Proofs.YtpjcnkajimgagaaGreat
