/- Only: the case with some of its Ids alone. -/
import Derived.Test.YtpjcnkajimgagaaGreatMWithout
import Derived.Test.YtpjcnkajimgagaaGreatMContains
set_option linter.unusedSimpArgs false
set_option linter.unusedVariables false
namespace Go.Proofs.YtpjcnkajimgagaaGreat
open Go.RowKit
attribute [local go_sem] Oper.semAt_some

theorem only1_any (n : Int) (a : Option Addr) (cap : Nat) (l : List Int) (g : Nat) (w : World) (hl : l.length ≤ 1000000) (hi : Ints w a l) (hg : w.cell? ⟨g, 0, none⟩ = some (.slice a l.length cap)) :
  Calls Tryz.prog 64 #[.int .i64 n, .pointer (some ⟨g, 0, none⟩)] w fun e w' => e = .returned (.bool (!l.contains n)) ∧ Below w.heap.size w w' := by
 have HC := Lib.hid (contains_any a cap l n w hi hl)
 clear hi
 go_enter Tryz.func64, Tryz.ntmps64
 go_wp2_with (go_at_call 65; (with_reducible refine HC.out.mono ?_); rintro e w2 ⟨rfl, hb2⟩; have HB2 := Lib.hid hb2; clear hb2)
 go_ret
 exact ⟨by simp, HB2.out⟩
set_option maxRecDepth 100000 in
set_option maxHeartbeats 2000000 in
theorem onlyTop_any (c : Cs) (hsm : c.Small) (pa : Option Addr) (pc : Nat) (la : Option Addr) (l : List Int) (lc : Nat) (w : World) (hp : PartsAt w pa c.parts) (hi : Ints w la l) (hl : l.length ≤ 1000000) :
  Calls Tryz.prog 21 #[.agg #[.string c.ware, .int .i64 c.limit, .int .i64 c.by_, .slice pa c.parts.length pc], .slice la l.length lc] w (CasePost (checkCase c) (woutC (fun n => !l.contains n) c) w) := by
 obtain ⟨w3, hw3⟩ : ∃ w3, (((w.alloc (.cells #[.string c.ware, .int .i64 c.limit, .int .i64 c.by_, .slice pa c.parts.length pc] 24)).alloc (.cells #[.slice la l.length lc] 27)).alloc (.cells #[.string ⟨#[]⟩, .int .i64 0, .int .i64 0, .slice none 0 0] 24)) = w3 := ⟨_, rfl⟩
 have hB3 : Below w.heap.size w w3 := by rw [← hw3]; go_grown
 have b1 : Box w3 w.heap.size (csCells c pa pc) 24 := by rw [← hw3]; exact ((Box.new _ _ _).alloc _).alloc _
 have b2 : Box w3 (w.heap.size + 1) #[.slice la l.length lc] 27 := by rw [← hw3]; exact (Box.new' (by simp)).alloc _
 have b3 : Box w3 (w.heap.size + 2) #[.string ⟨#[]⟩, .int .i64 0, .int .i64 0, .slice none 0 0] 24 := by rw [← hw3]; exact Box.new' (by simp)
 have e1 : ∀ i, w3.cell? ⟨w.heap.size, i, none⟩ = (#[.string c.ware, .int .i64 c.limit, .int .i64 c.by_, .slice pa c.parts.length pc] : Array Value)[i]? := b1.cell
 have ho := opened_any c hsm pa pc [] none 0 w3 (hp.below hB3) (Ints.nil _ _) (by simp)
 have heq : openErr c [] = checkCase c := by unfold openErr; split <;> simp [*]
 rw [heq, List.length_nil] at ho
 have HP := Lib.hid hp
 have HI := Lib.hid hi
 have HW := Lib.hid hw3
 have HB3 := Lib.hid hB3
 have HX1 := Lib.hid b1
 have HX2 := Lib.hid b2
 have HX3 := Lib.hid b3
 clear hp hw3 hB3 b1 b2 b3 heq hi
 obtain ⟨cd, hcd⟩ : ∃ cd, woutC (fun n => !l.contains n) c = cd := ⟨_, rfl⟩
 rw [hcd]
 have HCD := Lib.hid hcd
 clear hcd
 by_cases hz : checkCase c = 0
 ·have HO := Lib.hid (opened_good ho hz)
  have HZ := Lib.hid hz
  clear ho hz
  go_enter Tryz.func21, Tryz.ntmps21
  go_upto_region 1 with fail
  simp only [HW.out, Nat.add_assoc, Nat.reduceAdd]
  go_wp2_with fail
  (with_reducible refine HO.out.mono ?_)
  rintro e w4 ⟨bb, rfl, _, _, hb4⟩
  have HX5 := Lib.hid (HX2.out.below' hb4)
  have HX4 := Lib.hid (HX3.out.below' hb4)
  have HX6 := Lib.hid (HX1.out.below' hb4)
  have HB4 := Lib.hid (HB3.out.trans (hb4.mono HB3.out.size))
  clear hb4 e1
  have e1 : ∀ i, w4.cell? ⟨w.heap.size, i, none⟩ = (#[.string c.ware, .int .i64 c.limit, .int .i64 c.by_, .slice pa c.parts.length pc] : Array Value)[i]? := HX6.out.cell
  have hgf : GoneFn 64 #[.pointer (some ⟨w.heap.size + 1, 0, none⟩)] (fun n => !l.contains n) w4 := ⟨enters_of Tryz.func64 (by kernel_rfl) rfl, fun n A hA => only1_any n la lc l (w.heap.size + 1) A hl ((HI.out.below HB4.out).below hA) ((HX5.out.below' hA).cell 0)⟩
  have HWO := Lib.hid (without_any c hsm pa pc w4 (HP.out.below HB4.out) _ _ _ hgf)
  rw [HCD.out] at HWO
  clear hgf
  go_wp2_with fail
  (with_reducible refine HWO.out.mono ?_)
  rintro e w5 ⟨PB, pc', cells, rfl, hpc, hpo, hb5⟩
  have e3 := (HX4.out.below' hb5).rules
  have HX7 := Lib.hid (HX4.out.below' hb5)
  have HB5 := Lib.hid (HB4.out.trans (hb5.mono HB4.out.size))
  have HPO := Lib.hid hpo
  have hlt := HX4.out.lt
  clear hb5 hpo e1
  go_wp2_with fail
  refine bodyPost_ret (results_cell_tmp rfl rfl (run_loadVar_row _ _ 24 24 _ (0, 0) _ ((((HX7.out.set_ 0 _).set_ 1 _).set_ 2 _).set_ 3 _) Tryz.underlying24 rfl case_size)) rfl ?_
  refine ⟨(((HB5.out.setCell (by simp) _).setCell (by simp) _).setCell (by simp) _).setCell (by simp) _, .inr ⟨HZ.out, PB, pc', cells, rfl, hpc, ?_⟩⟩
  exact ((((HPO.out.farG hlt _).farG hlt _).farG hlt _).farG hlt _).low HB4.out.size
 ·have HO := Lib.hid (opened_bad ho hz)
  have HZ := Lib.hid hz
  have hzz : (checkCase c != 0) = true := by simpa using hz
  clear ho hz
  go_enter Tryz.func21, Tryz.ntmps21
  go_upto_region 1 with fail
  simp only [HW.out, Nat.add_assoc, Nat.reduceAdd]
  go_wp2_with fail
  (with_reducible refine HO.out.mono ?_)
  rintro e w4 ⟨rfl, hb4⟩
  have e3 := (HX3.out.below' hb4).rules
  have HX4 := Lib.hid (HX3.out.below' hb4)
  have HB4 := Lib.hid (HB3.out.trans (hb4.mono HB3.out.size))
  clear hb4 e1
  go_wp2_with fail
  refine bodyPost_ret (results_cell_tmp rfl rfl (run_loadVar_row _ _ 24 24 _ (0, 0) _ ((((HX4.out.set_ 0 _).set_ 1 _).set_ 2 _).set_ 3 _) Tryz.underlying24 rfl case_size)) rfl ?_
  exact ⟨(((HB4.out.setCell (by simp) _).setCell (by simp) _).setCell (by simp) _).setCell (by simp) _, .inl ⟨HZ.out, rfl⟩⟩
end Go.Proofs.YtpjcnkajimgagaaGreat
