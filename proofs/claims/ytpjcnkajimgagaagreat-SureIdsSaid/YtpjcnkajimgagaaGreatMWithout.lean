/- Without: the case without an Id. -/
import Derived.Test.YtpjcnkajimgagaaGreatMWout
import Derived.Test.YtpjcnkajimgagaaGreatMRemade
import Derived.Test.YtpjcnkajimgagaaGreatMFind
import Derived.Test.YtpjcnkajimgagaaGreatMHeld
set_option linter.unusedSimpArgs false
set_option linter.unusedVariables false
namespace Go.Proofs.YtpjcnkajimgagaaGreat
open Go.RowKit
attribute [local go_sem] Oper.semAt_some

/-- a case of the call's own behind an error number, or none -/
def CasePost (er : Int) (c' : Cs) (w : World) (e : Ending) (w' : World) : Prop :=
 Below w.heap.size w w' ∧ ((er ≠ 0 ∧ e = .returned (.tuple #[.agg #[.string ⟨#[]⟩, .int .i64 0, .int .i64 0, .slice none 0 0], .int .i64 er])) ∨
  (er = 0 ∧ ∃ PB pc' cells, e = .returned (.tuple #[.agg #[.string c'.ware, .int .i64 c'.limit, .int .i64 c'.by_, .slice (some ⟨PB, 0, none⟩) c'.parts.length pc'], .int .i64 0]) ∧ c'.parts.length ≤ pc' ∧ PartsOwn w.heap.size w' PB cells c'.parts.length c'.parts))
theorem own_parts {B : Nat} {l : List Prt} {w' : World} {PB : Nat} {cells : Array Value} (h : PartsOwn B w' PB cells l.length l) : PartsAt w' (some ⟨PB, 0, none⟩) l := (h.toB rfl).at_
/-- a store into a block of the call's own that is older -/
theorem PartsOwn.farG {B : Nat} {w : World} {PB g o : Nat} {cells : Array Value} {l : List Prt} (h : PartsOwn B w PB cells l.length l) (hg : g < B) (v : Value) : PartsOwn B (w.setCell ⟨g, o, none⟩ v) PB cells l.length l := by
 have hf := h.far
 refine ⟨h.box.far (by simp; omega) _, h.far, fun i q hq => ?_⟩
 have hi : i < l.length := (List.getElem?_eq_some_iff.1 hq).1
 obtain ⟨sa, sc, ra, rc, e1, e2, e3, e4, e5, e6, e7⟩ := h.one i q hq
 have hno : ∀ b, (if i < l.length then PB < b else b < B) → b ≠ g := fun b hb => by
  rw [if_pos hi] at hb; omega
 exact ⟨sa, sc, ra, rc, e1, ints_far e2 (fun b o ha hl => hno b (e6 b o ha hl).2) _, ints_far e3 (fun b o ha hl => hno b (e7 b o ha hl).2) _, e4, e5, e6, e7⟩
theorem PartsOwn.low {B B' : Nat} {w : World} {PB : Nat} {cells : Array Value} {l : List Prt} (h : PartsOwn B w PB cells l.length l) (hB : B' ≤ B) : PartsOwn B' w PB cells l.length l := by
 have hf := h.far
 refine ⟨h.box, by omega, fun i q hq => ?_⟩
 have hi : i < l.length := (List.getElem?_eq_some_iff.1 hq).1
 obtain ⟨sa, sc, ra, rc, e1, e2, e3, e4, e5, e6, e7⟩ := h.one i q hq
 exact ⟨sa, sc, ra, rc, e1, e2, e3, e4, e5, fun b o ha hl => ⟨(e6 b o ha hl).1, by have := (e6 b o ha hl).2; dsimp only at this ⊢; rw [if_pos hi] at this ⊢; exact this⟩, fun b o ha hl => ⟨(e7 b o ha hl).1, by have := (e7 b o ha hl).2; dsimp only at this ⊢; rw [if_pos hi] at this ⊢; exact this⟩⟩
/-- the errors of Without -/
def woutErr (c : Cs) (id : Int) : Int := if checkCase c = 0 then (if id = 0 then 1 else 0) else checkCase c
set_option maxRecDepth 100000 in
set_option maxHeartbeats 2000000 in
theorem withoutTop_any (c : Cs) (hsm : c.Small) (pa : Option Addr) (pc : Nat) (id : Int) (w : World) (hp : PartsAt w pa c.parts) :
  Calls Tryz.prog 19 #[.agg #[.string c.ware, .int .i64 c.limit, .int .i64 c.by_, .slice pa c.parts.length pc], .int .i64 id] w (CasePost (woutErr c id) (woutC (fun n => n == id) c) w) := by
 obtain ⟨w3, hw3⟩ : ∃ w3, (((w.alloc (.cells #[.string c.ware, .int .i64 c.limit, .int .i64 c.by_, .slice pa c.parts.length pc] 24)).alloc (.cells #[.int .i64 id] 3)).alloc (.cells #[.string ⟨#[]⟩, .int .i64 0, .int .i64 0, .slice none 0 0] 24)) = w3 := ⟨_, rfl⟩
 have hB3 : Below w.heap.size w w3 := by rw [← hw3]; go_grown
 have b1 : Box w3 w.heap.size (csCells c pa pc) 24 := by rw [← hw3]; exact ((Box.new _ _ _).alloc _).alloc _
 have b2 : Box w3 (w.heap.size + 1) #[.int .i64 id] 3 := by rw [← hw3]; exact (Box.new' (by simp)).alloc _
 have b3 : Box w3 (w.heap.size + 2) #[.string ⟨#[]⟩, .int .i64 0, .int .i64 0, .slice none 0 0] 24 := by rw [← hw3]; exact Box.new' (by simp)
 have e1 : ∀ i, w3.cell? ⟨w.heap.size, i, none⟩ = (#[.string c.ware, .int .i64 c.limit, .int .i64 c.by_, .slice pa c.parts.length pc] : Array Value)[i]? := b1.cell
 have ho := opened_any c hsm pa pc [] none 0 w3 (hp.below hB3) (Ints.nil _ _) (by simp)
 have heq : openErr c [] = checkCase c := by unfold openErr; split <;> simp [*]
 rw [heq, List.length_nil] at ho
 have HP := Lib.hid hp
 have HW := Lib.hid hw3
 have HB3 := Lib.hid hB3
 have HX1 := Lib.hid b1
 have HX2 := Lib.hid b2
 have HX3 := Lib.hid b3
 clear hp hw3 hB3 b1 b2 b3 heq
 by_cases hz : checkCase c = 0
 ·have HO := Lib.hid (opened_good ho hz)
  have HZ := Lib.hid hz
  clear ho hz
  by_cases hid : id = 0
  ·have HID := Lib.hid hid
   have hi0 : (id == 0) = true := by simp [hid]
   clear hid
   go_enter Tryz.func19, Tryz.ntmps19
   go_upto_region 1 with fail
   simp only [HW.out, Nat.add_assoc, Nat.reduceAdd]
   go_wp2_with fail
   (with_reducible refine HO.out.mono ?_)
   rintro e w4 ⟨bb, rfl, _, _, hb4⟩
   have e2 := (HX2.out.below' hb4).cell
   have e3 := (HX3.out.below' hb4).rules
   have HX4 := Lib.hid (HX3.out.below' hb4)
   have HB4 := Lib.hid (HB3.out.trans (hb4.mono HB3.out.size))
   clear hb4 e1
   go_wp2_with fail
   refine bodyPost_ret (results_cell_tmp rfl rfl (run_loadVar_row _ _ 24 24 _ (0, 0) _ ((((HX4.out.set_ 0 _).set_ 1 _).set_ 2 _).set_ 3 _) Tryz.underlying24 rfl case_size)) rfl ?_
   refine ⟨(((HB4.out.setCell (by simp) _).setCell (by simp) _).setCell (by simp) _).setCell (by simp) _, .inl ⟨?_, ?_⟩⟩
   ·simp [woutErr, HZ.out, HID.out]
   ·simp only [woutErr, HZ.out, HID.out, if_true]
    rfl
  ·have HID := Lib.hid hid
   have hi0 : (id == 0) = false := by simp [hid]
   clear hid
   go_enter Tryz.func19, Tryz.ntmps19
   go_upto_region 1 with fail
   simp only [HW.out, Nat.add_assoc, Nat.reduceAdd]
   go_wp2_with fail
   (with_reducible refine HO.out.mono ?_)
   rintro e w4 ⟨bb, rfl, _, _, hb4⟩
   have e2 := (HX2.out.below' hb4).cell
   have HX5 := Lib.hid (HX2.out.below' hb4)
   have HX4 := Lib.hid (HX3.out.below' hb4)
   have HX6 := Lib.hid (HX1.out.below' hb4)
   have HB4 := Lib.hid (HB3.out.trans (hb4.mono HB3.out.size))
   clear hb4 e1
   have e1 : ∀ i, w4.cell? ⟨w.heap.size, i, none⟩ = (#[.string c.ware, .int .i64 c.limit, .int .i64 c.by_, .slice pa c.parts.length pc] : Array Value)[i]? := HX6.out.cell
   have hgf : GoneFn 62 #[.pointer (some ⟨w.heap.size + 1, 0, none⟩)] (fun n => n == id) w4 := ⟨enters_of Tryz.func62 (by kernel_rfl) rfl, fun n A hA => (wout1_any n id (w.heap.size + 1) A ((HX5.out.below' hA).cell 0)).mono fun e A' ⟨he, hw⟩ => ⟨he, by rw [hw]; exact Below.refl _ _⟩⟩
   have HWO := Lib.hid (without_any c hsm pa pc w4 (HP.out.below HB4.out) _ _ _ hgf)
   clear hgf
   go_wp2_with fail
   (with_reducible refine HWO.out.mono ?_)
   rintro e w5 ⟨PB, pc', cells, rfl, hpc, hpo, hb5⟩
   have e3 := (HX4.out.below' hb5).rules
   have HX7 := Lib.hid (HX4.out.below' hb5)
   have HB5 := Lib.hid (HB4.out.trans (hb5.mono HB4.out.size))
   have HPO := Lib.hid hpo
   have hlt := HX4.out.lt
   have HE := Lib.hid (show woutErr c id = 0 by unfold woutErr; rw [if_pos HZ.out, if_neg HID.out])
   clear hb5 hpo e1 e2
   go_wp2_with fail
   refine bodyPost_ret (results_cell_tmp rfl rfl (run_loadVar_row _ _ 24 24 _ (0, 0) _ ((((HX7.out.set_ 0 _).set_ 1 _).set_ 2 _).set_ 3 _) Tryz.underlying24 rfl case_size)) rfl ?_
   refine ⟨(((HB5.out.setCell (by simp) _).setCell (by simp) _).setCell (by simp) _).setCell (by simp) _, .inr ⟨HE.out, PB, pc', cells, rfl, hpc, ?_⟩⟩
   exact ((((HPO.out.farG hlt _).farG hlt _).farG hlt _).farG hlt _).low HB4.out.size
 ·have HO := Lib.hid (opened_bad ho hz)
  have HZ := Lib.hid hz
  have hzz : (checkCase c != 0) = true := by simpa using hz
  have HE := Lib.hid (show woutErr c id = checkCase c by unfold woutErr; rw [if_neg hz])
  clear ho hz
  go_enter Tryz.func19, Tryz.ntmps19
  go_upto_region 1 with fail
  simp only [HW.out, Nat.add_assoc, Nat.reduceAdd]
  go_wp2_with fail
  (with_reducible refine HO.out.mono ?_)
  rintro e w4 ⟨rfl, hb4⟩
  have e3 := (HX3.out.below' hb4).rules
  have HX4 := Lib.hid (HX3.out.below' hb4)
  have HB4 := Lib.hid (HB3.out.trans (hb4.mono HB3.out.size))
  clear hb4 e1
  go_wp2_with fail
  refine bodyPost_ret (results_cell_tmp rfl rfl (run_loadVar_row _ _ 24 24 _ (0, 0) _ ((((HX4.out.set_ 0 _).set_ 1 _).set_ 2 _).set_ 3 _) Tryz.underlying24 rfl case_size)) rfl ?_
  refine ⟨(((HB4.out.setCell (by simp) _).setCell (by simp) _).setCell (by simp) _).setCell (by simp) _, .inl ⟨?_, ?_⟩⟩
  ·rw [HE.out]; exact HZ.out
  ·rw [HE.out]; rfl
end Go.Proofs.YtpjcnkajimgagaaGreat
