/- The reference's Without and Only. -/
import Derived.Test.YtpjcnkajimgagaaGreatMOnlyR
import Derived.Test.YtpjcnkajimgagaaGreatMNarrowL
set_option linter.unusedSimpArgs false
set_option linter.unusedVariables false
namespace Go.Proofs.YtpjcnkajimgagaaGreat
open Go.RowKit
attribute [local go_sem] Oper.semAt_some

def CTop (d : Cs) (er : Int) (w : World) (e : Ending) (w' : World) : Prop :=
 ∃ a cap, e = .returned (.tuple #[.agg #[.string d.ware, .int .i64 d.limit, .int .i64 d.by_, .slice a d.parts.length cap], .int .i64 er]) ∧ PartsAt w' a d.parts ∧ Below w.heap.size w w'
theorem zeroC_parts (w : World) (a : Option Addr) : PartsAt w a zeroC.parts := fun i p hp => by simp [zeroC] at hp
theorem cTop_no {er : Int} {c : Cs} {w w' : World} (h : er ≠ 0) (hb : Below w.heap.size w w') : CTop (dOf er c) er w (.returned (.tuple #[.agg #[.string ⟨#[]⟩, .int .i64 0, .int .i64 0, .slice none 0 0], .int .i64 er])) w' := by
 unfold dOf; rw [if_neg h]
 exact ⟨none, 0, rfl, zeroC_parts _ _, hb⟩
theorem cTop_of {er : Int} {c : Cs} {w : World} {e : Ending} {w' : World} (h : CasePost er c w e w') : CTop (dOf er c) er w e w' := by
 obtain ⟨pd, pcd, he, hp, _, hb⟩ := case_dform h
 exact ⟨pd, pcd, he, hp, hb⟩
set_option maxRecDepth 100000 in
set_option maxHeartbeats 1000000 in
theorem withoutTop_ref (c : Cs) (hsm : c.Small) (pa : Option Addr) (pc : Nat) (id : Int) (w : World) (hp : PartsAt w pa c.parts) :
  Calls Tryz.prog 20 #[.agg #[.string c.ware, .int .i64 c.limit, .int .i64 c.by_, .slice pa c.parts.length pc], .int .i64 id] w (CTop (dOf (woutErr c id) (woutC (fun n => n == id) c)) (woutErr c id) w) := by
 obtain ⟨w1, hw1⟩ : ∃ w1, (w.alloc (.cells #[.string c.ware, .int .i64 c.limit, .int .i64 c.by_, .slice pa c.parts.length pc] 24)).alloc (.cells #[.string ⟨#[]⟩, .int .i64 0, .int .i64 0, .slice none 0 0] 24) = w1 := ⟨_, rfl⟩
 have hB1 : Below w.heap.size w w1 := by rw [← hw1]; go_grown
 have g1 : Box w1 w.heap.size #[.string c.ware, .int .i64 c.limit, .int .i64 c.by_, .slice pa c.parts.length pc] 24 := by rw [← hw1]; exact (Box.new _ _ _).alloc _
 have g2 : Box w1 (w.heap.size + 1) #[.string ⟨#[]⟩, .int .i64 0, .int .i64 0, .slice none 0 0] 24 := by rw [← hw1]; exact Box.new' (by simp)
 have hz1 : w1.heap.size = w.heap.size + 2 := by rw [← hw1]; simp
 have e1 := g1.cell
 have HCK := Lib.hid (checkCase_ref c hsm pa pc w1 (hp.below hB1))
 have HP := Lib.hid hp
 have HW := Lib.hid hw1
 have HB1 := Lib.hid hB1
 have HG1 := Lib.hid g1
 have HG2 := Lib.hid g2
 have HZ1 := Lib.hid hz1
 clear hw1 hB1 g1 g2 hz1 hp
 by_cases hz : checkCase c = 0
 ·by_cases hi0 : id = 0
  ·have HE := Lib.hid (show woutErr c id = 1 by unfold woutErr; rw [if_pos hz, if_pos hi0])
   rw [hz] at HCK
   subst hi0
   clear hz
   go_enter Tryz.func20, Tryz.ntmps20
   go_upto_region 1 with fail
   simp only [HW.out]
   go_upto_region 2 with (go_at_call 49; (with_reducible refine HCK.out.mono ?_); rintro e w3 ⟨rfl, hb3⟩)
   have HR3 := Lib.hid (HG2.out.below' hb3)
   have HG3 := Lib.hid (HG1.out.below' hb3)
   have HB3 := Lib.hid (HB1.out.trans (hb3.mono HB1.out.size))
   have hz3 : w.heap.size + 2 ≤ w3.heap.size := by have := hb3.size; have := HZ1.out; omega
   obtain ⟨v1, v2⟩ := HR3.out.rules
   clear hb3 e1 HG1 HG2 HB1 HZ1
   go_wp2_with fail
   rw [HE.out]
   refine bodyPost_ret (results_cell_tmp rfl rfl (run_loadVar_row _ _ 24 24 _ (0, 0) _ ((((HR3.out.set_ 0 _).set_ 1 _).set_ 2 _).set_ 3 _) Tryz.underlying24 rfl case_size)) rfl ?_
   refine cTop_no ?_ ((((HB3.out.setCell (by simp) _).setCell (by simp) _).setCell (by simp) _).setCell (by simp) _)
   decide
  ·have HE := Lib.hid (show woutErr c id = 0 by unfold woutErr; rw [if_pos hz, if_neg hi0])
   have hib : (id == 0) = false := by simpa using hi0
   rw [hz] at HCK
   have HWR := Lib.hid (fun W hW => withoutR_any c hsm pa pc id hi0 W (hW : PartsAt W pa c.parts))
   clear hz hi0
   rw [HE.out]
   unfold dOf
   rw [if_pos rfl]
   obtain ⟨cd, hcd⟩ : ∃ cd, woutC (fun n => n == id) c = cd := ⟨_, rfl⟩
   rw [hcd] at HWR ⊢
   have HCD := Lib.hid hcd
   clear hcd
   go_enter Tryz.func20, Tryz.ntmps20
   go_upto_region 1 with fail
   simp only [HW.out]
   go_upto_region 2 with (go_at_call 49; (with_reducible refine HCK.out.mono ?_); rintro e w3 ⟨rfl, hb3⟩)
   have HR3 := Lib.hid (HG2.out.below' hb3)
   have HG3 := Lib.hid (HG1.out.below' hb3)
   have HB3 := Lib.hid (HB1.out.trans (hb3.mono HB1.out.size))
   have hz3 : w.heap.size + 2 ≤ w3.heap.size := by have := hb3.size; have := HZ1.out; omega
   obtain ⟨v1, v2⟩ := HR3.out.rules
   clear hb3 e1 HG1 HG2 HB1 HZ1
   have e1 := HG3.out.cell
   go_wp2_with fail
   (with_reducible refine (HWR.out _ (HP.out.below HB3.out)).mono ?_)
   rintro e w4 ⟨a4, cap4, rfl, hcap4, ho4, hb4⟩
   clear e1
   have HB4 := Lib.hid (HB3.out.trans (hb4.mono HB3.out.size))
   have HR4 := Lib.hid (HR3.out.below' hb4)
   have HO4 := Lib.hid ho4
   clear v1 v2
   obtain ⟨v1, v2⟩ := HR4.out.rules
   clear hb4 ho4
   go_wp2_with fail
   refine bodyPost_ret (results_cell_tmp rfl rfl (run_loadVar_row _ _ 24 24 _ (0, 0) _ ((((HR4.out.set_ 0 (.string cd.ware)).set_ 1 (.int .i64 cd.limit)).set_ 2 (.int .i64 cd.by_)).set_ 3 (.slice a4 cd.parts.length cap4)) Tryz.underlying24 rfl case_size)) rfl ?_
   refine ⟨a4, cap4, rfl, HO4.out _ (((((Keep.refl _ w4).setCell (.inl (by simp; omega)) _).setCell (.inl (by simp; omega)) _).setCell (.inl (by simp; omega)) _).setCell (.inl (by simp; omega)) _), (((HB4.out.setCell (by simp) _).setCell (by simp) _).setCell (by simp) _).setCell (by simp) _⟩
 ·have HE := Lib.hid (show woutErr c id = checkCase c by unfold woutErr; rw [if_neg hz])
  have HZ := Lib.hid hz
  have hzz : (checkCase c != 0) = true := by simpa using hz
  clear hz
  go_enter Tryz.func20, Tryz.ntmps20
  go_upto_region 1 with fail
  simp only [HW.out]
  go_upto_region 2 with (go_at_call 49; (with_reducible refine HCK.out.mono ?_); rintro e w3 ⟨rfl, hb3⟩)
  have HR3 := Lib.hid (HG2.out.below' hb3)
  have HG3 := Lib.hid (HG1.out.below' hb3)
  have HB3 := Lib.hid (HB1.out.trans (hb3.mono HB1.out.size))
  have hz3 : w.heap.size + 2 ≤ w3.heap.size := by have := hb3.size; have := HZ1.out; omega
  obtain ⟨v1, v2⟩ := HR3.out.rules
  clear hb3 e1 HG1 HG2 HB1 HZ1
  go_wp2_with fail
  rw [HE.out]
  refine bodyPost_ret (results_cell_tmp rfl rfl (run_loadVar_row _ _ 24 24 _ (0, 0) _ ((((HR3.out.set_ 0 _).set_ 1 _).set_ 2 _).set_ 3 _) Tryz.underlying24 rfl case_size)) rfl ?_
  refine cTop_no ?_ ((((HB3.out.setCell (by simp) _).setCell (by simp) _).setCell (by simp) _).setCell (by simp) _)
  exact HZ.out
set_option maxRecDepth 100000 in
set_option maxHeartbeats 1000000 in
theorem onlyTop_ref (c : Cs) (hsm : c.Small) (pa : Option Addr) (pc : Nat) (la : Option Addr) (l : List Int) (lc : Nat) (w : World) (hp : PartsAt w pa c.parts) (hi : Ints w la l) (hl : l.length ≤ 1000000) :
  Calls Tryz.prog 22 #[.agg #[.string c.ware, .int .i64 c.limit, .int .i64 c.by_, .slice pa c.parts.length pc], .slice la l.length lc] w (CTop (dOf (checkCase c) (woutC (fun n => !l.contains n) c)) (checkCase c) w) := by
 have HI := Lib.hid hi
 clear hi
 obtain ⟨w1, hw1⟩ : ∃ w1, (w.alloc (.cells #[.string c.ware, .int .i64 c.limit, .int .i64 c.by_, .slice pa c.parts.length pc] 24)).alloc (.cells #[.string ⟨#[]⟩, .int .i64 0, .int .i64 0, .slice none 0 0] 24) = w1 := ⟨_, rfl⟩
 have hB1 : Below w.heap.size w w1 := by rw [← hw1]; go_grown
 have g1 : Box w1 w.heap.size #[.string c.ware, .int .i64 c.limit, .int .i64 c.by_, .slice pa c.parts.length pc] 24 := by rw [← hw1]; exact (Box.new _ _ _).alloc _
 have g2 : Box w1 (w.heap.size + 1) #[.string ⟨#[]⟩, .int .i64 0, .int .i64 0, .slice none 0 0] 24 := by rw [← hw1]; exact Box.new' (by simp)
 have hz1 : w1.heap.size = w.heap.size + 2 := by rw [← hw1]; simp
 have e1 := g1.cell
 have HCK := Lib.hid (checkCase_ref c hsm pa pc w1 (hp.below hB1))
 have HP := Lib.hid hp
 have HW := Lib.hid hw1
 have HB1 := Lib.hid hB1
 have HG1 := Lib.hid g1
 have HG2 := Lib.hid g2
 have HZ1 := Lib.hid hz1
 clear hw1 hB1 g1 g2 hz1 hp
 by_cases hz : checkCase c = 0
 ·have HWR := Lib.hid (fun W (hW : PartsAt W pa c.parts) (hI : Ints W la l) => only_ref c hsm pa pc la l lc W hW hI hl)
  rw [hz] at HCK ⊢
  unfold dOf
  rw [if_pos rfl]
  clear hz
  obtain ⟨cd, hcd⟩ : ∃ cd, woutC (fun n => !l.contains n) c = cd := ⟨_, rfl⟩
  rw [hcd] at HWR ⊢
  clear hcd
  go_enter Tryz.func22, Tryz.ntmps22
  go_upto_region 1 with fail
  simp only [HW.out]
  go_upto_region 2 with (go_at_call 49; (with_reducible refine HCK.out.mono ?_); rintro e w3 ⟨rfl, hb3⟩)
  have HR3 := Lib.hid (HG2.out.below' hb3)
  have HG3 := Lib.hid (HG1.out.below' hb3)
  have HB3 := Lib.hid (HB1.out.trans (hb3.mono HB1.out.size))
  have hz3 : w.heap.size + 2 ≤ w3.heap.size := by have := hb3.size; have := HZ1.out; omega
  obtain ⟨v1, v2⟩ := HR3.out.rules
  clear hb3 e1 HG1 HG2 HB1 HZ1
  have e1 := HG3.out.cell
  go_wp2_with fail
  (with_reducible refine (HWR.out _ (HP.out.below HB3.out) (HI.out.below HB3.out)).mono ?_)
  rintro e w4 ⟨a4, cap4, rfl, hcap4, ho4, hb4⟩
  clear e1
  have HB4 := Lib.hid (HB3.out.trans (hb4.mono HB3.out.size))
  have HR4 := Lib.hid (HR3.out.below' hb4)
  have HO4 := Lib.hid ho4
  clear v1 v2
  obtain ⟨v1, v2⟩ := HR4.out.rules
  clear hb4 ho4
  go_wp2_with fail
  refine bodyPost_ret (results_cell_tmp rfl rfl (run_loadVar_row _ _ 24 24 _ (0, 0) _ ((((HR4.out.set_ 0 (.string cd.ware)).set_ 1 (.int .i64 cd.limit)).set_ 2 (.int .i64 cd.by_)).set_ 3 (.slice a4 cd.parts.length cap4)) Tryz.underlying24 rfl case_size)) rfl ?_
  refine ⟨a4, cap4, rfl, HO4.out _ (((((Keep.refl _ w4).setCell (.inl (by simp; omega)) _).setCell (.inl (by simp; omega)) _).setCell (.inl (by simp; omega)) _).setCell (.inl (by simp; omega)) _), (((HB4.out.setCell (by simp) _).setCell (by simp) _).setCell (by simp) _).setCell (by simp) _⟩
 ·have HZ := Lib.hid hz
  have hzz : (checkCase c != 0) = true := by simpa using hz
  clear hz
  go_enter Tryz.func22, Tryz.ntmps22
  go_upto_region 1 with fail
  simp only [HW.out]
  go_upto_region 2 with (go_at_call 49; (with_reducible refine HCK.out.mono ?_); rintro e w3 ⟨rfl, hb3⟩)
  have HR3 := Lib.hid (HG2.out.below' hb3)
  have HG3 := Lib.hid (HG1.out.below' hb3)
  have HB3 := Lib.hid (HB1.out.trans (hb3.mono HB1.out.size))
  have hz3 : w.heap.size + 2 ≤ w3.heap.size := by have := hb3.size; have := HZ1.out; omega
  obtain ⟨v1, v2⟩ := HR3.out.rules
  clear hb3 e1 HG1 HG2 HB1 HZ1
  go_wp2_with fail
  refine bodyPost_ret (results_cell_tmp rfl rfl (run_loadVar_row _ _ 24 24 _ (0, 0) _ ((((HR3.out.set_ 0 _).set_ 1 _).set_ 2 _).set_ 3 _) Tryz.underlying24 rfl case_size)) rfl ?_
  refine cTop_no ?_ ((((HB3.out.setCell (by simp) _).setCell (by simp) _).setCell (by simp) _).setCell (by simp) _)
  exact HZ.out
end Go.Proofs.YtpjcnkajimgagaaGreat
