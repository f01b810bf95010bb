/- Narrow: the case with a further measurement of a colour. -/
import Derived.Test.YtpjcnkajimgagaaGreatMWithout
import Derived.Test.YtpjcnkajimgagaaGreatMPlainB
set_option linter.unusedSimpArgs false
set_option linter.unusedVariables false
namespace Go.Proofs.YtpjcnkajimgagaaGreat
open Go.RowKit
attribute [local go_sem] Oper.semAt_some

/-- the errors of Narrow -/
def narrowBad (low high id : Int) : Bool := decide (low < 0) || decide (high < low) || decide (1000 < high) || !inB id 1 1000000
def narrowErr (c : Cs) (x low high id : Int) : Int :=
 if openErr c [x] = 0 then (if narrowBad low high id then 1 else match c.parts[x.toNat]? with
  | some p => if (narrowP low high id p).span.high < (narrowP low high id p).span.low then 5 else 0
  | none => 0) else openErr c [x]
theorem modify2 {α : Type} {l : List α} {i : Nat} {p : α} {f1 f2 g : α → α} (h : l[i]? = some p) (e : f2 (f1 p) = g p) : (l.modify i f1).modify i f2 = l.modify i g := by
 apply List.ext_getElem?
 intro k
 rw [List.getElem?_modify, List.getElem?_modify, List.getElem?_modify]
 by_cases hk : i = k
 ·subst hk; rw [h]; simp [e]
 ·simp [hk]
theorem one_int (w : World) (a : Int) (t : TypeId) : Ints (w.alloc (.cells #[.int .i64 a] t)) (some ⟨w.heap.size, 0, none⟩) [a] := by
 intro k v hv
 refine ⟨_, _, rfl, ?_⟩
 rw [(Box.new w #[.int .i64 a] t).cell, Nat.zero_add]
 simpa using hv
theorem own_at {B M : Nat} {W : World} {PB i : Nat} {cells : Array Value} {l : List Prt} {p : Prt} (h : PartsB B M W PB cells l) (hp : l[i]? = some p) : W.cell? ⟨PB, i * 8 + 1, none⟩ = some (.int .i64 p.span.low) ∧ W.cell? ⟨PB, i * 8 + 2, none⟩ = some (.int .i64 p.span.high) ∧
  W.cell? ⟨PB, i * 8 + 3, none⟩ = some (.int .i64 p.span.lowBy) ∧ W.cell? ⟨PB, i * 8 + 4, none⟩ = some (.int .i64 p.span.highBy) := by
 obtain ⟨b, o, e, hc⟩ := h.at_ i p hp
 cases e
 obtain ⟨_, _, _, _, _, q1, q2, q3, q4, _⟩ := hc.open
 simp only [Nat.zero_add] at q1 q2 q3 q4
 exact ⟨q1, q2, q3, q4⟩
def setLow (v id : Int) (p : Prt) : Prt := { p with span := ⟨v, p.span.high, id, p.span.highBy⟩ }
def setHigh (v id : Int) (p : Prt) : Prt := { p with span := ⟨p.span.low, v, p.span.lowBy, id⟩ }
theorem set_low {B M : Nat} {W : World} {PB i : Nat} {cells : Array Value} {l : List Prt} {p : Prt} {v id : Int} (h : PartsB B M W PB cells l) (hp : l[i]? = some p) :
  ∃ cells', PartsB B M ((W.setCell ⟨PB, i * 8 + 1, none⟩ (.int .i64 v)).setCell ⟨PB, i * 8 + 3, none⟩ (.int .i64 id)) PB cells' (l.modify i (setLow v id)) :=
 ⟨_, partsB_clear (p' := setLow v id p) h hp rfl rfl rfl (by omega) (by omega) (fun _ _ _ _ => rfl)⟩
theorem set_high {B M : Nat} {W : World} {PB i : Nat} {cells : Array Value} {l : List Prt} {p : Prt} {v id : Int} (h : PartsB B M W PB cells l) (hp : l[i]? = some p) :
  ∃ cells', PartsB B M ((W.setCell ⟨PB, i * 8 + 2, none⟩ (.int .i64 v)).setCell ⟨PB, i * 8 + 4, none⟩ (.int .i64 id)) PB cells' (l.modify i (setHigh v id)) :=
 ⟨_, partsB_clear (p' := setHigh v id p) h hp rfl rfl rfl (by omega) (by omega) (fun _ _ _ _ => rfl)⟩
/-- the last lines: the case is handed out -/
structure NarSt (c : Cs) (w : World) (n B PB pc' : Nat) (l : List Prt) (W : World) : Prop where
 box : Box W w.heap.size #[.string c.ware, .int .i64 c.limit, .int .i64 c.by_, .slice (some ⟨PB, 0, none⟩) n pc'] 24
 res : Box W (w.heap.size + 1) #[.string ⟨#[]⟩, .int .i64 0, .int .i64 0, .slice none 0 0] 24
 parts : ∃ cells M, PartsB B M W PB cells l
 far : w.heap.size + 2 ≤ B
 old : Below w.heap.size w W
theorem partsB_far {B M : Nat} {W : World} {PB g o : Nat} {cells : Array Value} {l : List Prt} (h : PartsB B M W PB cells l) (hg : g < B) (v : Value) : PartsB B M (W.setCell ⟨g, o, none⟩ v) PB cells l := by
 have hf := h.far
 refine ⟨h.box.far (by simp; omega) _, h.far, fun i q hq => ?_⟩
 obtain ⟨sa, sc, ra, rc, e1, e2, e3, e4, e5, e6, e7⟩ := h.one i q hq
 exact ⟨sa, sc, ra, rc, e1, ints_far e2 (fun b o ha hl => by have := (e6 b o ha hl).2.1; simp; omega) _, ints_far e3 (fun b o ha hl => by have := (e7 b o ha hl).2.1; simp; omega) _, e4, e5, e6, e7⟩
theorem NarSt.low {c : Cs} {w : World} {n B PB pc' i : Nat} {l : List Prt} {p : Prt} {v id : Int} {W : World} (h : NarSt c w n B PB pc' l W) (hp : l[i]? = some p) : NarSt c w n B PB pc' (l.modify i (setLow v id)) ((W.setCell ⟨PB, i * 8 + 1, none⟩ (.int .i64 v)).setCell ⟨PB, i * 8 + 3, none⟩ (.int .i64 id)) := by
 obtain ⟨cells, M, hb⟩ := h.parts
 have h1 := hb.far
 have h2 := h.far
 obtain ⟨cells', hb'⟩ := set_low (v := v) (id := id) hb hp
 exact ⟨(h.box.far (by simp; omega) _).far (by simp; omega) _, (h.res.far (by simp; omega) _).far (by simp; omega) _, ⟨cells', M, hb'⟩, h.far, (h.old.setCell (by simp; omega) _).setCell (by simp; omega) _⟩
theorem NarSt.high {c : Cs} {w : World} {n B PB pc' i : Nat} {l : List Prt} {p : Prt} {v id : Int} {W : World} (h : NarSt c w n B PB pc' l W) (hp : l[i]? = some p) : NarSt c w n B PB pc' (l.modify i (setHigh v id)) ((W.setCell ⟨PB, i * 8 + 2, none⟩ (.int .i64 v)).setCell ⟨PB, i * 8 + 4, none⟩ (.int .i64 id)) := by
 obtain ⟨cells, M, hb⟩ := h.parts
 have h1 := hb.far
 have h2 := h.far
 obtain ⟨cells', hb'⟩ := set_high (v := v) (id := id) hb hp
 exact ⟨(h.box.far (by simp; omega) _).far (by simp; omega) _, (h.res.far (by simp; omega) _).far (by simp; omega) _, ⟨cells', M, hb'⟩, h.far, (h.old.setCell (by simp; omega) _).setCell (by simp; omega) _⟩
theorem NarSt.at_ {c : Cs} {w : World} {n B PB pc' i : Nat} {l : List Prt} {p : Prt} {W : World} (h : NarSt c w n B PB pc' l W) (hp : l[i]? = some p) : W.cell? ⟨PB, i * 8 + 1, none⟩ = some (.int .i64 p.span.low) ∧ W.cell? ⟨PB, i * 8 + 2, none⟩ = some (.int .i64 p.span.high) ∧
  W.cell? ⟨PB, i * 8 + 3, none⟩ = some (.int .i64 p.span.lowBy) ∧ W.cell? ⟨PB, i * 8 + 4, none⟩ = some (.int .i64 p.span.highBy) := by
 obtain ⟨cells, M, hb⟩ := h.parts
 exact own_at hb hp
theorem NarSt.free {c : Cs} {w : World} {n B PB pc' : Nat} {l : List Prt} {W : World} (h : NarSt c w n B PB pc' l W) (i : Nat) : W.frozen? ⟨PB, i, none⟩ = false := by
 obtain ⟨cells, M, hb⟩ := h.parts
 exact hb.box.frozen i
theorem NarSt.drewN {c : Cs} {w : World} {n B PB pc' : Nat} {l : List Prt} {W : World} (h : NarSt c w n B PB pc' l W) (k : Nat) : NarSt c w n B PB pc' l (W.drewN k) := by
 obtain ⟨cells, M, hb⟩ := h.parts
 exact ⟨h.box, h.res, ⟨cells, M, ⟨hb.box, hb.far, hb.one⟩⟩, h.far, below_drewN h.old k⟩
set_option maxRecDepth 100000 in
set_option maxHeartbeats 4000000 in
theorem narrow_any (c : Cs) (hsm : c.Small) (pa : Option Addr) (pc : Nat) (x low high id : Int) (w : World) (hp : PartsAt w pa c.parts) :
  Calls Tryz.prog 23 #[.agg #[.string c.ware, .int .i64 c.limit, .int .i64 c.by_, .slice pa c.parts.length pc], .int .i64 x, .int .i64 low, .int .i64 high, .int .i64 id] w (CasePost (narrowErr c x low high id) (narrowC c x.toNat low high id) w) := by
 obtain ⟨w3, hw3⟩ : ∃ w3, ((w.alloc (.cells #[.string c.ware, .int .i64 c.limit, .int .i64 c.by_, .slice pa c.parts.length pc] 24)).alloc (.cells #[.string ⟨#[]⟩, .int .i64 0, .int .i64 0, .slice none 0 0] 24)) = w3 := ⟨_, rfl⟩
 have hB3 : Below w.heap.size w w3 := by rw [← hw3]; go_grown
 have hs3 : w3.heap.size = w.heap.size + 2 := by rw [← hw3]; simp
 have b1 : Box w3 w.heap.size (csCells c pa pc) 24 := by rw [← hw3]; exact (Box.new _ _ _).alloc _
 have b3 : Box w3 (w.heap.size + 1) #[.string ⟨#[]⟩, .int .i64 0, .int .i64 0, .slice none 0 0] 24 := by rw [← hw3]; exact Box.new' (by simp)
 have e1 : ∀ i, w3.cell? ⟨w.heap.size, i, none⟩ = (#[.string c.ware, .int .i64 c.limit, .int .i64 c.by_, .slice pa c.parts.length pc] : Array Value)[i]? := b1.cell
 have hBa : Below w3.heap.size w3 (w3.alloc (.cells #[.int .i64 x] 3)) := by go_grown
 have ho := opened_any c hsm pa pc [x] (some ⟨w3.heap.size, 0, none⟩) 1 (w3.alloc (.cells #[.int .i64 x] 3)) (hp.below (hB3.trans (hBa.mono hB3.size))) (one_int _ _ _) (by simp)
 simp only [List.length_cons, List.length_nil, Nat.zero_add] at ho
 have HP := Lib.hid hp
 have HW := Lib.hid hw3
 have HB3 := Lib.hid hB3
 have HBA := Lib.hid hBa
 have HX1 := Lib.hid b1
 have HX3 := Lib.hid b3
 have HS3 := Lib.hid hs3
 clear hp hw3 hB3 b1 b3 hBa hs3
 by_cases hz : openErr c [x] = 0
 ·have HO := Lib.hid (opened_good ho hz)
  have HZ := Lib.hid hz
  have hx := open_in hz x (by simp)
  obtain ⟨a, rfl⟩ := Int.eq_ofNat_of_zero_le hx.1
  have ha : a < c.parts.length := by omega
  simp only [Int.toNat_natCast]
  have h8 := check_small hz
  obtain ⟨p, hpa⟩ := get_of_lt c.parts ha
  have HPA := Lib.hid hpa
  have hen : narrowErr c a low high id = if narrowBad low high id then 1 else if (narrowP low high id p).span.high < (narrowP low high id p).span.low then 5 else 0 := by
   unfold narrowErr
   rw [if_pos hz, Int.toNat_natCast, hpa]
  have HEN := Lib.hid hen
  clear ho hz hx hpa hen
  obtain ⟨n, hn⟩ : ∃ n, c.parts.length = n := ⟨_, rfl⟩
  have HN := Lib.hid hn
  have HN0 := Lib.hid (And.intro hn trivial)
  rw [hn] at ha h8
  clear hn
  by_cases h1 : low < 0
  ·have HE := Lib.hid (show narrowErr c a low high id = 1 by rw [HEN.out, if_pos (by simp [narrowBad, h1])])
   go_enter Tryz.func23, Tryz.ntmps23
   go_upto_region 1 with fail
   simp only [HW.out, Nat.add_assoc, Nat.reduceAdd]
   go_wp2_with fail
   (with_reducible refine HO.out.mono ?_)
   rintro e w4 ⟨bb, rfl, _, _, hb4⟩
   have hb4 := HBA.out.trans (hb4.mono HBA.out.size)
   have e3 := (HX3.out.below' hb4).rules
   have HX4 := Lib.hid (HX3.out.below' hb4)
   have HB4 := Lib.hid (HB3.out.trans (hb4.mono HB3.out.size))
   clear hb4 e1
   go_wp2_with fail
   refine bodyPost_ret (results_cell_tmp rfl rfl (run_loadVar_row _ _ 24 24 _ (0, 0) _ ((((HX4.out.set_ 0 _).set_ 1 _).set_ 2 _).set_ 3 _) Tryz.underlying24 rfl case_size)) rfl ?_
   refine ⟨(((HB4.out.setCell (by simp) _).setCell (by simp) _).setCell (by simp) _).setCell (by simp) _, .inl ⟨?_, ?_⟩⟩
   ·rw [HE.out]; first | exact HZ.out | decide
   ·rw [HE.out]; rfl
  by_cases h2 : high < low
  ·have HE := Lib.hid (show narrowErr c a low high id = 1 by rw [HEN.out, if_pos (by simp [narrowBad, h2])])
   go_enter Tryz.func23, Tryz.ntmps23
   go_upto_region 1 with fail
   simp only [HW.out, Nat.add_assoc, Nat.reduceAdd]
   go_wp2_with fail
   (with_reducible refine HO.out.mono ?_)
   rintro e w4 ⟨bb, rfl, _, _, hb4⟩
   have hb4 := HBA.out.trans (hb4.mono HBA.out.size)
   have e3 := (HX3.out.below' hb4).rules
   have HX4 := Lib.hid (HX3.out.below' hb4)
   have HB4 := Lib.hid (HB3.out.trans (hb4.mono HB3.out.size))
   clear hb4 e1
   go_wp2_with fail
   refine bodyPost_ret (results_cell_tmp rfl rfl (run_loadVar_row _ _ 24 24 _ (0, 0) _ ((((HX4.out.set_ 0 _).set_ 1 _).set_ 2 _).set_ 3 _) Tryz.underlying24 rfl case_size)) rfl ?_
   refine ⟨(((HB4.out.setCell (by simp) _).setCell (by simp) _).setCell (by simp) _).setCell (by simp) _, .inl ⟨?_, ?_⟩⟩
   ·rw [HE.out]; first | exact HZ.out | decide
   ·rw [HE.out]; rfl
  by_cases h3 : 1000 < high
  ·have HE := Lib.hid (show narrowErr c a low high id = 1 by rw [HEN.out, if_pos (by simp [narrowBad, h3])])
   go_enter Tryz.func23, Tryz.ntmps23
   go_upto_region 1 with fail
   simp only [HW.out, Nat.add_assoc, Nat.reduceAdd]
   go_wp2_with fail
   (with_reducible refine HO.out.mono ?_)
   rintro e w4 ⟨bb, rfl, _, _, hb4⟩
   have hb4 := HBA.out.trans (hb4.mono HBA.out.size)
   have e3 := (HX3.out.below' hb4).rules
   have HX4 := Lib.hid (HX3.out.below' hb4)
   have HB4 := Lib.hid (HB3.out.trans (hb4.mono HB3.out.size))
   clear hb4 e1
   go_wp2_with fail
   refine bodyPost_ret (results_cell_tmp rfl rfl (run_loadVar_row _ _ 24 24 _ (0, 0) _ ((((HX4.out.set_ 0 _).set_ 1 _).set_ 2 _).set_ 3 _) Tryz.underlying24 rfl case_size)) rfl ?_
   refine ⟨(((HB4.out.setCell (by simp) _).setCell (by simp) _).setCell (by simp) _).setCell (by simp) _, .inl ⟨?_, ?_⟩⟩
   ·rw [HE.out]; first | exact HZ.out | decide
   ·rw [HE.out]; rfl
  rcases h4 : inB id 1 1000000 with _ | _
  ·have HE := Lib.hid (show narrowErr c a low high id = 1 by rw [HEN.out, if_pos (by simp [narrowBad, h4])])
   have H4 := Lib.hid h4
   clear h4
   go_enter Tryz.func23, Tryz.ntmps23
   go_upto_region 1 with fail
   simp only [HW.out, Nat.add_assoc, Nat.reduceAdd]
   go_wp2_with fail
   (with_reducible refine HO.out.mono ?_)
   rintro e w4 ⟨bb, rfl, _, _, hb4⟩
   have hb4 := HBA.out.trans (hb4.mono HBA.out.size)
   have e3 := (HX3.out.below' hb4).rules
   have HX4 := Lib.hid (HX3.out.below' hb4)
   have HB4 := Lib.hid (HB3.out.trans (hb4.mono HB3.out.size))
   clear hb4 e1
   go_wp2_with (go_at_call 66; (with_reducible refine (in_any _ _ _ _).mono ?_); rintro e w' ⟨rfl, rfl⟩; simp only [H4.out])
   refine bodyPost_ret (results_cell_tmp rfl rfl (run_loadVar_row _ _ 24 24 _ (0, 0) _ ((((HX4.out.set_ 0 _).set_ 1 _).set_ 2 _).set_ 3 _) Tryz.underlying24 rfl case_size)) rfl ?_
   refine ⟨(((HB4.out.setCell (by simp) _).setCell (by simp) _).setCell (by simp) _).setCell (by simp) _, .inl ⟨?_, ?_⟩⟩
   ·rw [HE.out]; first | exact HZ.out | decide
   ·rw [HE.out]; rfl
  have H4 := Lib.hid h4
  have HNB := Lib.hid (show narrowBad low high id = false by simp [narrowBad, h1, h2, h3, h4])
  clear h4
  go_enter Tryz.func23, Tryz.ntmps23
  go_upto_region 1 with fail
  simp only [HW.out, Nat.add_assoc, Nat.reduceAdd]
  go_wp2_with fail
  (with_reducible refine HO.out.mono ?_)
  rintro e w4 ⟨bb, rfl, _, _, hb4⟩
  have hb4 := HBA.out.trans (hb4.mono HBA.out.size)
  have HX4 := Lib.hid (HX3.out.below' hb4)
  have HX6 := Lib.hid (HX1.out.below' hb4)
  have hs4 : w.heap.size + 2 ≤ w4.heap.size := by have := hb4.size; have := HS3.out; omega
  have HB4 := Lib.hid (HB3.out.trans (hb4.mono HB3.out.size))
  clear hb4 e1
  have e1 : ∀ i, w4.cell? ⟨w.heap.size, i, none⟩ = (#[.string c.ware, .int .i64 c.limit, .int .i64 c.by_, .slice pa c.parts.length pc] : Array Value)[i]? := HX6.out.cell
  have HRM := Lib.hid (remade_any c hsm pa pc w4 (HP.out.below HB4.out))
  go_upto_region 6 with (go_at_call 66; (with_reducible refine (in_any _ _ _ _).mono ?_); rintro e w' ⟨rfl, rfl⟩; simp only [H4.out])
  go_wp2_with fail
  (with_reducible refine HRM.out.mono ?_)
  rintro e w5 ⟨PB, pc', cells, rfl, hpc, hpo, hb5⟩
  have r5 : (∀ i, w5.cell? ⟨w.heap.size, i, none⟩ = (#[.string c.ware, .int .i64 c.limit, .int .i64 c.by_, .slice pa c.parts.length pc] : Array Value)[i]?) ∧ ∀ i, w5.frozen? ⟨w.heap.size, i, none⟩ = false := (HX6.out.below' hb5).rules
  have hns : NarSt c w n w4.heap.size PB pc' c.parts ((((w5.setCell ⟨w.heap.size, 0, none⟩ (.string c.ware)).setCell ⟨w.heap.size, 1, none⟩ (.int .i64 c.limit)).setCell ⟨w.heap.size, 2, none⟩ (.int .i64 c.by_)).setCell ⟨w.heap.size, 3, none⟩ (.slice (some ⟨PB, 0, none⟩) n pc')) :=
   ⟨(((((HX6.out.below' hb5).set_ 0 _).set_ 1 _).set_ 2 _).set_ 3 _), (((((HX4.out.below' hb5).far (by simp) _).far (by simp) _).far (by simp) _).far (by simp) _), ⟨cells, _, partsB_far (partsB_far (partsB_far (partsB_far (hpo.toB rfl) (by omega) _) (by omega) _) (by omega) _) (by omega) _⟩, hs4,
     ((((HB4.out.trans (hb5.mono HB4.out.size)).setCell (by simp) _).setCell (by simp) _).setCell (by simp) _).setCell (by simp) _⟩
  rw [HN.out] at hpc
  simp only [HN.out]
  clear hb5 hpo e1
  have HPC := Lib.hid hpc
  go_upto_region 7 with fail
  generalize ((((w5.setCell ⟨w.heap.size, 0, none⟩ (.string c.ware)).setCell ⟨w.heap.size, 1, none⟩ (.int .i64 c.limit)).setCell ⟨w.heap.size, 2, none⟩ (.int .i64 c.by_)).setCell ⟨w.heap.size, 3, none⟩ (.slice (some ⟨PB, 0, none⟩) n pc')) = w6 at *
  have HNS := Lib.hid hns
  clear hns r5 hpc
  have g6 : ∀ i, w6.cell? ⟨w.heap.size, i, none⟩ = (#[.string c.ware, .int .i64 c.limit, .int .i64 c.by_, .slice (some ⟨PB, 0, none⟩) n pc'] : Array Value)[i]? := HNS.out.box.cell
  obtain ⟨q1, q2, q3, q4⟩ := HNS.out.at_ HPA.out
  have fr := HNS.out.free
  have han : (a : Int) < (n : Int) := by omega
  by_cases hlo : p.span.low < low
  ·have HPX := HPA
   have hns7 := HNS.out.low (v := low) (id := id) HPX.out
   go_upto_region 10 with fail
   generalize ((w6.setCell ⟨PB, a * 8 + 1, none⟩ (.int .i64 low)).setCell ⟨PB, a * 8 + 3, none⟩ (.int .i64 id)) = w6 at *
   have HNS := Lib.hid hns7
   clear hns7 g6 q1 q2 q3 q4 fr
   have HPX := Lib.hid (show (c.parts.modify a (setLow low id))[a]? = some (setLow low id p) by rw [List.getElem?_modify, HPA.out]; simp)
   obtain ⟨q1, q2, q3, q4⟩ := HNS.out.at_ HPX.out
   simp only [setLow] at q1 q2 q3 q4
   have fr := HNS.out.free
   by_cases hhi : high < p.span.high
   ·have hns7 := HNS.out.high (v := high) (id := id) HPX.out
    go_upto_region 12 with fail
    generalize ((w6.setCell ⟨PB, a * 8 + 2, none⟩ (.int .i64 high)).setCell ⟨PB, a * 8 + 4, none⟩ (.int .i64 id)) = w6 at *
    have HNS := Lib.hid hns7
    have HLX := Lib.hid (show (c.parts.modify a (setLow low id)).modify a (setHigh high id) = (narrowC c a low high id).parts from modify2 HPA.out (by simp [setLow, setHigh, narrowP, hlo, hhi]))
    have HPX := Lib.hid (show ((c.parts.modify a (setLow low id)).modify a (setHigh high id))[a]? = some (setHigh high id (setLow low id p)) by rw [List.getElem?_modify, HPX.out]; simp)
    have HPN := Lib.hid (show (setHigh high id (setLow low id p)).span.low = (narrowP low high id p).span.low ∧ (setHigh high id (setLow low id p)).span.high = (narrowP low high id p).span.high by simp [setLow, setHigh, narrowP, hlo, hhi])
    clear hns7 q1 q2 q3 q4 fr
    have RT := HNS.out.res.rules
    have e3 : (∀ i, w6.cell? ⟨w.heap.size + 1, i, none⟩ = (#[.string ⟨#[]⟩, .int .i64 0, .int .i64 0, .slice none 0 0] : Array Value)[i]?) ∧ ∀ i, w6.frozen? ⟨w.heap.size + 1, i, none⟩ = false := RT
    have g6 : ∀ i, w6.cell? ⟨w.heap.size, i, none⟩ = (#[.string c.ware, .int .i64 c.limit, .int .i64 c.by_, .slice (some ⟨PB, 0, none⟩) n pc'] : Array Value)[i]? := HNS.out.box.cell
    obtain ⟨q1, q2, _, _⟩ := HNS.out.at_ HPX.out
    rw [HPN.out.1] at q1
    rw [HPN.out.2] at q2
    clear RT
    generalize (narrowP low high id p).span.low = lo at *
    generalize (narrowP low high id p).span.high = hi at *
    by_cases hbad : hi < lo
    ·have HE := Lib.hid (show narrowErr c a low high id = 5 by rw [HEN.out, HNB.out, if_neg (by simp), if_pos hbad])
     go_wp2_with fail
     go_quiet (fail)
     go_wp2_with fail
     refine bodyPost_ret (results_cell_tmp rfl rfl (run_loadVar_row _ _ 24 24 _ (0, 0) _ ((((HNS.out.res.set_ 0 _).set_ 1 _).set_ 2 _).set_ 3 _) Tryz.underlying24 rfl case_size)) rfl ?_
     refine ⟨below_drewN ((((HNS.out.old.setCell (by simp) _).setCell (by simp) _).setCell (by simp) _).setCell (by simp) _) _, .inl ⟨?_, ?_⟩⟩
     ·rw [HE.out]; decide
     ·rw [HE.out]; rfl
    ·have HE := Lib.hid (show narrowErr c a low high id = 0 by rw [HEN.out, HNB.out, if_neg (by simp), if_neg hbad])
     go_wp2_with fail
     go_quiet (fail)
     go_wp2_with fail
     refine bodyPost_ret (results_cell_tmp rfl rfl (run_loadVar_row _ _ 24 24 _ (0, 0) _ ((((HNS.out.res.set_ 0 _).set_ 1 _).set_ 2 _).set_ 3 _) Tryz.underlying24 rfl case_size)) rfl ?_
     obtain ⟨cells', M, hpb⟩ := HNS.out.parts
     have hfar := HNS.out.far
     have hpb' := partsB_far (partsB_far (partsB_far (partsB_far hpb (g := w.heap.size + 1) (o := 0) (by omega) (.string c.ware)) (g := w.heap.size + 1) (o := 1) (by omega) (.int .i64 c.limit)) (g := w.heap.size + 1) (o := 2) (by omega) (.int .i64 c.by_)) (g := w.heap.size + 1) (o := 3) (by omega) (.slice (some ⟨PB, 0, none⟩) n pc')
     rw [HLX.out] at hpb'
     have hln : (narrowC c a low high id).parts.length = n := by rw [← HN0.out.1]; simp [narrowC]
     refine ⟨below_drewN ((((HNS.out.old.setCell (by simp) _).setCell (by simp) _).setCell (by simp) _).setCell (by simp) _) _, .inr ⟨HE.out, PB, pc', cells', ?_, by rw [hln]; exact HPC.out, ?_⟩⟩
     ·rw [hln]; rfl
     ·have hq : PartsOwn w.heap.size _ PB cells' _ _ := hpb'.toOwn (B' := w.heap.size) rfl (by omega)
      exact ⟨hq.box, hq.far, hq.one⟩
   ·go_upto_region 12 with fail
    have HLX := Lib.hid (show c.parts.modify a (setLow low id) = (narrowC c a low high id).parts from modify_at HPA.out (by simp [setLow, narrowP, hlo, hhi]))
    have HPN := Lib.hid (show (setLow low id p).span.low = (narrowP low high id p).span.low ∧ (setLow low id p).span.high = (narrowP low high id p).span.high by simp [setLow, narrowP, hlo, hhi])
    clear q1 q2 q3 q4 fr
    have RT := HNS.out.res.rules
    have e3 : (∀ i, w6.cell? ⟨w.heap.size + 1, i, none⟩ = (#[.string ⟨#[]⟩, .int .i64 0, .int .i64 0, .slice none 0 0] : Array Value)[i]?) ∧ ∀ i, w6.frozen? ⟨w.heap.size + 1, i, none⟩ = false := RT
    have g6 : ∀ i, w6.cell? ⟨w.heap.size, i, none⟩ = (#[.string c.ware, .int .i64 c.limit, .int .i64 c.by_, .slice (some ⟨PB, 0, none⟩) n pc'] : Array Value)[i]? := HNS.out.box.cell
    obtain ⟨q1, q2, _, _⟩ := HNS.out.at_ HPX.out
    rw [HPN.out.1] at q1
    rw [HPN.out.2] at q2
    clear RT
    generalize (narrowP low high id p).span.low = lo at *
    generalize (narrowP low high id p).span.high = hi at *
    by_cases hbad : hi < lo
    ·have HE := Lib.hid (show narrowErr c a low high id = 5 by rw [HEN.out, HNB.out, if_neg (by simp), if_pos hbad])
     go_wp2_with fail
     go_quiet (fail)
     go_wp2_with fail
     refine bodyPost_ret (results_cell_tmp rfl rfl (run_loadVar_row _ _ 24 24 _ (0, 0) _ ((((HNS.out.res.set_ 0 _).set_ 1 _).set_ 2 _).set_ 3 _) Tryz.underlying24 rfl case_size)) rfl ?_
     refine ⟨below_drewN ((((HNS.out.old.setCell (by simp) _).setCell (by simp) _).setCell (by simp) _).setCell (by simp) _) _, .inl ⟨?_, ?_⟩⟩
     ·rw [HE.out]; decide
     ·rw [HE.out]; rfl
    ·have HE := Lib.hid (show narrowErr c a low high id = 0 by rw [HEN.out, HNB.out, if_neg (by simp), if_neg hbad])
     go_wp2_with fail
     go_quiet (fail)
     go_wp2_with fail
     refine bodyPost_ret (results_cell_tmp rfl rfl (run_loadVar_row _ _ 24 24 _ (0, 0) _ ((((HNS.out.res.set_ 0 _).set_ 1 _).set_ 2 _).set_ 3 _) Tryz.underlying24 rfl case_size)) rfl ?_
     obtain ⟨cells', M, hpb⟩ := HNS.out.parts
     have hfar := HNS.out.far
     have hpb' := partsB_far (partsB_far (partsB_far (partsB_far hpb (g := w.heap.size + 1) (o := 0) (by omega) (.string c.ware)) (g := w.heap.size + 1) (o := 1) (by omega) (.int .i64 c.limit)) (g := w.heap.size + 1) (o := 2) (by omega) (.int .i64 c.by_)) (g := w.heap.size + 1) (o := 3) (by omega) (.slice (some ⟨PB, 0, none⟩) n pc')
     rw [HLX.out] at hpb'
     have hln : (narrowC c a low high id).parts.length = n := by rw [← HN0.out.1]; simp [narrowC]
     refine ⟨below_drewN ((((HNS.out.old.setCell (by simp) _).setCell (by simp) _).setCell (by simp) _).setCell (by simp) _) _, .inr ⟨HE.out, PB, pc', cells', ?_, by rw [hln]; exact HPC.out, ?_⟩⟩
     ·rw [hln]; rfl
     ·have hq : PartsOwn w.heap.size _ PB cells' _ _ := hpb'.toOwn (B' := w.heap.size) rfl (by omega)
      exact ⟨hq.box, hq.far, hq.one⟩
  ·go_upto_region 10 with fail
   by_cases hhi : high < p.span.high
   ·have hns7 := HNS.out.high (v := high) (id := id) HPA.out
    go_upto_region 12 with fail
    generalize ((w6.setCell ⟨PB, a * 8 + 2, none⟩ (.int .i64 high)).setCell ⟨PB, a * 8 + 4, none⟩ (.int .i64 id)) = w6 at *
    have HNS := Lib.hid hns7
    have HLX := Lib.hid (show c.parts.modify a (setHigh high id) = (narrowC c a low high id).parts from modify_at HPA.out (by simp [setHigh, narrowP, hlo, hhi]))
    have HPX := Lib.hid (show (c.parts.modify a (setHigh high id))[a]? = some (setHigh high id p) by rw [List.getElem?_modify, HPA.out]; simp)
    have HPN := Lib.hid (show (setHigh high id p).span.low = (narrowP low high id p).span.low ∧ (setHigh high id p).span.high = (narrowP low high id p).span.high by simp [setHigh, narrowP, hlo, hhi])
    clear hns7 g6 q1 q2 q3 q4 fr
    have RT := HNS.out.res.rules
    have e3 : (∀ i, w6.cell? ⟨w.heap.size + 1, i, none⟩ = (#[.string ⟨#[]⟩, .int .i64 0, .int .i64 0, .slice none 0 0] : Array Value)[i]?) ∧ ∀ i, w6.frozen? ⟨w.heap.size + 1, i, none⟩ = false := RT
    have g6 : ∀ i, w6.cell? ⟨w.heap.size, i, none⟩ = (#[.string c.ware, .int .i64 c.limit, .int .i64 c.by_, .slice (some ⟨PB, 0, none⟩) n pc'] : Array Value)[i]? := HNS.out.box.cell
    obtain ⟨q1, q2, _, _⟩ := HNS.out.at_ HPX.out
    rw [HPN.out.1] at q1
    rw [HPN.out.2] at q2
    clear RT
    generalize (narrowP low high id p).span.low = lo at *
    generalize (narrowP low high id p).span.high = hi at *
    by_cases hbad : hi < lo
    ·have HE := Lib.hid (show narrowErr c a low high id = 5 by rw [HEN.out, HNB.out, if_neg (by simp), if_pos hbad])
     go_wp2_with fail
     go_quiet (fail)
     go_wp2_with fail
     refine bodyPost_ret (results_cell_tmp rfl rfl (run_loadVar_row _ _ 24 24 _ (0, 0) _ ((((HNS.out.res.set_ 0 _).set_ 1 _).set_ 2 _).set_ 3 _) Tryz.underlying24 rfl case_size)) rfl ?_
     refine ⟨below_drewN ((((HNS.out.old.setCell (by simp) _).setCell (by simp) _).setCell (by simp) _).setCell (by simp) _) _, .inl ⟨?_, ?_⟩⟩
     ·rw [HE.out]; decide
     ·rw [HE.out]; rfl
    ·have HE := Lib.hid (show narrowErr c a low high id = 0 by rw [HEN.out, HNB.out, if_neg (by simp), if_neg hbad])
     go_wp2_with fail
     go_quiet (fail)
     go_wp2_with fail
     refine bodyPost_ret (results_cell_tmp rfl rfl (run_loadVar_row _ _ 24 24 _ (0, 0) _ ((((HNS.out.res.set_ 0 _).set_ 1 _).set_ 2 _).set_ 3 _) Tryz.underlying24 rfl case_size)) rfl ?_
     obtain ⟨cells', M, hpb⟩ := HNS.out.parts
     have hfar := HNS.out.far
     have hpb' := partsB_far (partsB_far (partsB_far (partsB_far hpb (g := w.heap.size + 1) (o := 0) (by omega) (.string c.ware)) (g := w.heap.size + 1) (o := 1) (by omega) (.int .i64 c.limit)) (g := w.heap.size + 1) (o := 2) (by omega) (.int .i64 c.by_)) (g := w.heap.size + 1) (o := 3) (by omega) (.slice (some ⟨PB, 0, none⟩) n pc')
     rw [HLX.out] at hpb'
     have hln : (narrowC c a low high id).parts.length = n := by rw [← HN0.out.1]; simp [narrowC]
     refine ⟨below_drewN ((((HNS.out.old.setCell (by simp) _).setCell (by simp) _).setCell (by simp) _).setCell (by simp) _) _, .inr ⟨HE.out, PB, pc', cells', ?_, by rw [hln]; exact HPC.out, ?_⟩⟩
     ·rw [hln]; rfl
     ·have hq : PartsOwn w.heap.size _ PB cells' _ _ := hpb'.toOwn (B' := w.heap.size) rfl (by omega)
      exact ⟨hq.box, hq.far, hq.one⟩
   ·go_upto_region 12 with fail
    have HLX := Lib.hid (show c.parts = (narrowC c a low high id).parts from (modify_same HPA.out (by simp [narrowP, hlo, hhi])).symm)
    have HPX := HPA
    have HPN := Lib.hid (show p.span.low = (narrowP low high id p).span.low ∧ p.span.high = (narrowP low high id p).span.high by simp [narrowP, hlo, hhi])
    clear g6 q1 q2 q3 q4 fr
    have RT := HNS.out.res.rules
    have e3 : (∀ i, w6.cell? ⟨w.heap.size + 1, i, none⟩ = (#[.string ⟨#[]⟩, .int .i64 0, .int .i64 0, .slice none 0 0] : Array Value)[i]?) ∧ ∀ i, w6.frozen? ⟨w.heap.size + 1, i, none⟩ = false := RT
    have g6 : ∀ i, w6.cell? ⟨w.heap.size, i, none⟩ = (#[.string c.ware, .int .i64 c.limit, .int .i64 c.by_, .slice (some ⟨PB, 0, none⟩) n pc'] : Array Value)[i]? := HNS.out.box.cell
    obtain ⟨q1, q2, _, _⟩ := HNS.out.at_ HPX.out
    rw [HPN.out.1] at q1
    rw [HPN.out.2] at q2
    clear RT
    generalize (narrowP low high id p).span.low = lo at *
    generalize (narrowP low high id p).span.high = hi at *
    by_cases hbad : hi < lo
    ·have HE := Lib.hid (show narrowErr c a low high id = 5 by rw [HEN.out, HNB.out, if_neg (by simp), if_pos hbad])
     go_wp2_with fail
     go_quiet (fail)
     go_wp2_with fail
     refine bodyPost_ret (results_cell_tmp rfl rfl (run_loadVar_row _ _ 24 24 _ (0, 0) _ ((((HNS.out.res.set_ 0 _).set_ 1 _).set_ 2 _).set_ 3 _) Tryz.underlying24 rfl case_size)) rfl ?_
     refine ⟨below_drewN ((((HNS.out.old.setCell (by simp) _).setCell (by simp) _).setCell (by simp) _).setCell (by simp) _) _, .inl ⟨?_, ?_⟩⟩
     ·rw [HE.out]; decide
     ·rw [HE.out]; rfl
    ·have HE := Lib.hid (show narrowErr c a low high id = 0 by rw [HEN.out, HNB.out, if_neg (by simp), if_neg hbad])
     go_wp2_with fail
     go_quiet (fail)
     go_wp2_with fail
     refine bodyPost_ret (results_cell_tmp rfl rfl (run_loadVar_row _ _ 24 24 _ (0, 0) _ ((((HNS.out.res.set_ 0 _).set_ 1 _).set_ 2 _).set_ 3 _) Tryz.underlying24 rfl case_size)) rfl ?_
     obtain ⟨cells', M, hpb⟩ := HNS.out.parts
     have hfar := HNS.out.far
     have hpb' := partsB_far (partsB_far (partsB_far (partsB_far hpb (g := w.heap.size + 1) (o := 0) (by omega) (.string c.ware)) (g := w.heap.size + 1) (o := 1) (by omega) (.int .i64 c.limit)) (g := w.heap.size + 1) (o := 2) (by omega) (.int .i64 c.by_)) (g := w.heap.size + 1) (o := 3) (by omega) (.slice (some ⟨PB, 0, none⟩) n pc')
     rw [HLX.out] at hpb'
     have hln : (narrowC c a low high id).parts.length = n := by rw [← HN0.out.1]; simp [narrowC]
     refine ⟨below_drewN ((((HNS.out.old.setCell (by simp) _).setCell (by simp) _).setCell (by simp) _).setCell (by simp) _) _, .inr ⟨HE.out, PB, pc', cells', ?_, by rw [hln]; exact HPC.out, ?_⟩⟩
     ·rw [hln]; rfl
     ·have hq : PartsOwn w.heap.size _ PB cells' _ _ := hpb'.toOwn (B' := w.heap.size) rfl (by omega)
      exact ⟨hq.box, hq.far, hq.one⟩
 ·have HO := Lib.hid (opened_bad ho hz)
  have HZ := Lib.hid hz
  have hzz : (openErr c [x] != 0) = true := by simpa using hz
  have HE := Lib.hid (show narrowErr c x low high id = openErr c [x] by unfold narrowErr; rw [if_neg hz])
  clear ho hz
  go_enter Tryz.func23, Tryz.ntmps23
  go_upto_region 1 with fail
  simp only [HW.out, Nat.add_assoc, Nat.reduceAdd]
  go_wp2_with fail
  (with_reducible refine HO.out.mono ?_)
  rintro e w4 ⟨rfl, hb4⟩
  have hb4 := HBA.out.trans (hb4.mono HBA.out.size)
  have e3 := (HX3.out.below' hb4).rules
  have HX4 := Lib.hid (HX3.out.below' hb4)
  have HB4 := Lib.hid (HB3.out.trans (hb4.mono HB3.out.size))
  clear hb4 e1
  go_wp2_with fail
  refine bodyPost_ret (results_cell_tmp rfl rfl (run_loadVar_row _ _ 24 24 _ (0, 0) _ ((((HX4.out.set_ 0 _).set_ 1 _).set_ 2 _).set_ 3 _) Tryz.underlying24 rfl case_size)) rfl ?_
  refine ⟨(((HB4.out.setCell (by simp) _).setCell (by simp) _).setCell (by simp) _).setCell (by simp) _, .inl ⟨?_, ?_⟩⟩
  ·rw [HE.out]; first | exact HZ.out | decide
  ·rw [HE.out]; rfl
end Go.Proofs.YtpjcnkajimgagaaGreat
