/- The case of the examples, as it is laid in memory. -/
import Derived.Test.YtpjcnkajimgagaaGreatMRemade
import Derived.Test.YtpjcnkajimgagaaGreatMOpen
set_option linter.unusedSimpArgs false
set_option linter.unusedVariables false
namespace Go.Proofs.YtpjcnkajimgagaaGreat
open Go.RowKit
attribute [local go_sem] Oper.semAt_some

def jarPart (s l h f : Int) : Prt := ⟨[s], ⟨l, h, 2 * s - 1, 2 * s⟩, decide (0 < f), f, []⟩
def jarsC (n : Int) : Cs := ⟨⟨#[106, 97, 114]⟩, n, if 0 < n then 20 else 0, [jarPart 1 10 20 11, jarPart 2 15 30 0, jarPart 3 25 40 12, jarPart 4 12 14 0]⟩
theorem part_size8 : (Tryz.prog.info? 52).map (·.size) = some 8 := by kernel_rfl
def jarVal (g : Nat) (s l h f : Int) : Value := .agg #[.slice (some ⟨g, 0, none⟩) 1 1, .int .i64 l, .int .i64 h, .int .i64 (2 * s - 1), .int .i64 (2 * s), .bool (decide (0 < f)), .int .i64 f, .slice none 0 0]
set_option maxRecDepth 100000 in
set_option maxHeartbeats 1000000 in
theorem jar1_any (s l h f : Int) (w : World) (hs : 0 ≤ s ∧ s ≤ 100) :
  Calls Tryz.prog 77 #[.int .i64 s, .int .i64 l, .int .i64 h, .int .i64 f] w fun e w' => ∃ g, e = .returned (jarVal g s l h f) ∧ w.heap.size ≤ g ∧ Box w' g #[.int .i64 s] 3 ∧ Below w.heap.size w w' := by
 obtain ⟨h1, h2⟩ := hs
 go_enter Tryz.func77, Tryz.ntmps77
 go_wp2
 refine bodyPost_ret (results_cell rfl rfl (run_loadVar_row _ _ 52 52 _ (0, 0) _ ((Box.new w _ _).alloc _) Tryz.underlying52 rfl part_size8)) rfl ⟨w.heap.size + 1, rfl, by omega, Box.new' (by simp), by go_grown⟩
def jarCells (g : Nat) (s l h f : Int) : List Value := [.slice (some ⟨g, 0, none⟩) 1 1, .int .i64 l, .int .i64 h, .int .i64 (2 * s - 1), .int .i64 (2 * s), .bool (decide (0 < f)), .int .i64 f, .slice none 0 0]
theorem int_row {w : World} {g : Nat} {x : Int} {t : TypeId} (h : Box w g #[.int .i64 x] t) : Ints w (some ⟨g, 0, none⟩) [x] := fun k v hv => by
 refine ⟨g, 0, rfl, ?_⟩
 rw [h.cell, Nat.zero_add]
 simpa using hv
theorem jar_at {w : World} {B g : Nat} {cs : Array Value} {T : TypeId} (hB : Box w B cs T) (k : Nat) (s l h f : Int) (hc : ∀ j, j < 8 → cs[k * 8 + j]? = (jarCells g s l h f)[j]?) (hg : Box w g #[.int .i64 s] 3) : PartAt w B (0 + k * 8) (jarPart s l h f) := by
 refine ⟨some ⟨g, 0, none⟩, 1, none, 0, fun i v hv => ?_, int_row hg, Ints.nil _ _, Nat.le_refl _, Nat.le_refl _⟩
 have hi : i < 8 := by
  have := (List.getElem?_eq_some_iff.1 hv).1
  simpa [prtCells] using this
 rw [hB.cell, Nat.zero_add, hc i hi]
 exact hv
theorem jars_parts {w : World} {n : Int} {B g1 g2 g3 g4 : Nat} {T : TypeId} (hB : Box w B (jarCells g1 1 10 20 11 ++ jarCells g2 2 15 30 0 ++ jarCells g3 3 25 40 12 ++ jarCells g4 4 12 14 0).toArray T)
  (h1 : Box w g1 #[.int .i64 1] 3) (h2 : Box w g2 #[.int .i64 2] 3) (h3 : Box w g3 #[.int .i64 3] 3) (h4 : Box w g4 #[.int .i64 4] 3) : PartsAt w (some ⟨B, 0, none⟩) (jarsC n).parts := by
 intro k p hp
 refine ⟨B, 0, rfl, ?_⟩
 match k, hp with
 | 0, hp => cases hp; exact jar_at hB 0 1 10 20 11 (fun j hj => by match j, hj with | 0, _ => rfl | 1, _ => rfl | 2, _ => rfl | 3, _ => rfl | 4, _ => rfl | 5, _ => rfl | 6, _ => rfl | 7, _ => rfl) h1
 | 1, hp => cases hp; exact jar_at hB 1 2 15 30 0 (fun j hj => by match j, hj with | 0, _ => rfl | 1, _ => rfl | 2, _ => rfl | 3, _ => rfl | 4, _ => rfl | 5, _ => rfl | 6, _ => rfl | 7, _ => rfl) h2
 | 2, hp => cases hp; exact jar_at hB 2 3 25 40 12 (fun j hj => by match j, hj with | 0, _ => rfl | 1, _ => rfl | 2, _ => rfl | 3, _ => rfl | 4, _ => rfl | 5, _ => rfl | 6, _ => rfl | 7, _ => rfl) h3
 | 3, hp => cases hp; exact jar_at hB 3 4 12 14 0 (fun j hj => by match j, hj with | 0, _ => rfl | 1, _ => rfl | 2, _ => rfl | 3, _ => rfl | 4, _ => rfl | 5, _ => rfl | 6, _ => rfl | 7, _ => rfl) h4
 | k + 4, hp => simp [jarsC] at hp
theorem jar_ne {w : World} {N g : Nat} {x : Int} {v : Value} {a b c : Value} {t t' : TypeId} (h : Box w N #[v, a, b, c] t) (h' : Box w g #[.int .i64 x] t') : g ≠ N := fun e => by
 subst e
 have := h.symm.trans h'
 simp at this
set_option maxRecDepth 100000 in
set_option maxHeartbeats 1000000 in
theorem jars_any (n : Int) (hn : n = 0 ∨ n = 2) (w : World) :
  Calls Tryz.prog 32 #[.int .i64 n] w fun e w' => ∃ pa pc, e = .returned (.agg #[.string (jarsC n).ware, .int .i64 (jarsC n).limit, .int .i64 (jarsC n).by_, .slice pa (jarsC n).parts.length pc]) ∧ PartsAt w' pa (jarsC n).parts ∧ (jarsC n).parts.length ≤ pc ∧ Below w.heap.size w w' := by
 have hj := fun s l h f w hs => jar1_any s l h f w hs
 have HJ := Lib.hid hj
 clear hj
 rcases hn with rfl | rfl
 all_goals
  go_enter Tryz.func32, Tryz.ntmps32
  have hB0 : Below w.heap.size w (w.alloc (.cells #[.string ⟨#[]⟩, .int .i64 0, .int .i64 0, .slice none 0 0] 24)) := by go_grown
  have hX0 : Box (w.alloc (.cells #[.string ⟨#[]⟩, .int .i64 0, .int .i64 0, .slice none 0 0] 24)) w.heap.size #[.string ⟨#[]⟩, .int .i64 0, .int .i64 0, .slice none 0 0] 24 := Box.new _ _ _
  go_wp2_with fail
  generalize w.alloc (.cells #[.string ⟨#[]⟩, .int .i64 0, .int .i64 0, .slice none 0 0] 24) = w0 at *
  (with_reducible refine (HJ.out 1 10 20 11 _ (by omega)).mono ?_)
  rintro e w1 ⟨g1, rfl, hg1, hb1, hB1⟩
  have HX0 := Lib.hid hX0
  have HX1 := Lib.hid hb1
  have hB1' := hB0.trans (hB1.mono hB0.size)
  have hb1 := HX1.out
  go_wp2_with fail
  (with_reducible refine (HJ.out 2 15 30 0 _ (by omega)).mono ?_)
  rintro e w2 ⟨g2, rfl, hg2, hb2, hB2⟩
  have hB2' := hB1'.trans (hB2.mono hB1'.size)
  go_wp2_with fail
  (with_reducible refine (HJ.out 3 25 40 12 _ (by omega)).mono ?_)
  rintro e w3 ⟨g3, rfl, hg3, hb3, hB3⟩
  have hB3' := hB2'.trans (hB3.mono hB2'.size)
  go_wp2_with fail
  (with_reducible refine (HJ.out 4 12 14 0 _ (by omega)).mono ?_)
  rintro e w4 ⟨g4, rfl, hg4, hb4, hB4⟩
  have hB4' := hB3'.trans (hB4.mono hB3'.size)
  have h0 := ((((hX0.below' hB1).below' hB2).below' hB3).below' hB4)
  have h1 := ((hb1.below' hB2).below' hB3).below' hB4
  have h2 := (hb2.below' hB3).below' hB4
  have h3 := hb3.below' hB4
  have e0 := h0.rules
  have h0l := h0.lt
  have H0 := Lib.hid h0
  have H1 := Lib.hid h1
  have H2 := Lib.hid h2
  have H3 := Lib.hid h3
  have H4 := Lib.hid hb4
  have HB4 := Lib.hid hB4'
  clear HX0 HX1 hB0 hX0 hB1 hB2 hB3 hB4 hB1' hB2' hB3' hB4' hb1 hb2 hb3 hb4 h0 h1 h2 h3 hg1 hg2 hg3 hg4
  simp only [jarVal, Int.reduceMul, Int.reduceSub, Int.reduceLT, decide_true, decide_false, Int.lt_irrefl]
  go_wp2_with fail
  have n1 := jar_ne H0.out H1.out
  have n2 := jar_ne H0.out H2.out
  have n3 := jar_ne H0.out H3.out
  have n4 := jar_ne H0.out H4.out
  refine bodyPost_ret (results_cell rfl rfl (run_loadVar_row _ _ 24 24 _ (0, 0) _ ((((((H0.out.set_ 0 _).set_ 1 _).set_ 2 _).set_ 3 _).alloc _).alloc _) Tryz.underlying24 rfl case_size)) rfl ⟨some ⟨w4.heap.size, 0, none⟩, 4, rfl, ?_, Nat.le_refl _, ?_⟩
  ·refine jars_parts (T := 52) ((Box.new' (by simp)).alloc _) ?_ ?_ ?_ ?_
   ·exact ((((((H1.out.far (by simpa using n1) _).far (by simpa using n1) _).far (by simpa using n1) _).far (by simpa using n1) _).alloc _).alloc _)
   ·exact ((((((H2.out.far (by simpa using n2) _).far (by simpa using n2) _).far (by simpa using n2) _).far (by simpa using n2) _).alloc _).alloc _)
   ·exact ((((((H3.out.far (by simpa using n3) _).far (by simpa using n3) _).far (by simpa using n3) _).far (by simpa using n3) _).alloc _).alloc _)
   ·exact ((((((H4.out.far (by simpa using n4) _).far (by simpa using n4) _).far (by simpa using n4) _).far (by simpa using n4) _).alloc _).alloc _)
  ·exact ((((((HB4.out.setCell (by simp) _).setCell (by simp) _).setCell (by simp) _).setCell (by simp) _).alloc (by simp; omega) _).alloc (by simp; omega) _)
end Go.Proofs.YtpjcnkajimgagaaGreat
