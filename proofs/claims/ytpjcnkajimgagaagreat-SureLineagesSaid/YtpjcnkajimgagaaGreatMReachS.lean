/- Reached: the pairs whose answers in two cases differ. -/
import Derived.Test.YtpjcnkajimgagaaGreatMOpen
import Derived.Test.YtpjcnkajimgagaaGreatMHeld
set_option linter.unusedSimpArgs false
set_option linter.unusedVariables false
namespace Go.Proofs.YtpjcnkajimgagaaGreat
open Go.RowKit
attribute [local go_sem] Oper.semAt_some

def reachB (c d : Cs) (p : Nat × Nat) : Bool := ansAt c p.1 p.2 != ansAt d p.1 p.2
def reachOf (c d : Cs) : List (Nat × Nat) := (pairsOf c.parts.length).filter (reachB c d)
def reachErr (c d : Cs) : Int := if checkCase c ≠ 0 then checkCase c else if checkCase d ≠ 0 then checkCase d else if c.parts.length ≠ d.parts.length then 1 else if askErr c [] ≠ 0 then askErr c [] else askErr d []
theorem open_nil (c : Cs) : openErr c [] = checkCase c := by unfold openErr; split <;> simp [*]
/-- between two rounds -/
def RcI (c d : Cs) (T : Nat) (w3 : World) (pre : List (Nat × Nat)) (W : World) : Prop :=
 ∃ v, Box W (w3.heap.size + 1) #[v] 31 ∧ W.ownsRow (w3.heap.size + 5) 71 2 v (pre.filter (reachB c d)).length (pairCells (pre.filter (reachB c d))) ∧
  Box W w3.heap.size (caseTab d) 76 ∧ Box W T (caseTab c) 76 ∧ Below w3.heap.size w3 W
def RcAs (c d : Cs) (pa : Option Addr) (pc : Nat) (qa : Option Addr) (qc : Nat) (b3 b4 bb b6 T : Nat) (w w6 : World) (x : Nat × Nat) (_ : Array Value) (act : Act) (W : World) : Prop :=
 ∃ pb, act = { tmps := #[.agg #[.string c.ware, .int .i64 c.limit, .int .i64 c.by_, .slice pa c.parts.length pc], .agg #[.string d.ware, .int .i64 d.limit, .int .i64 d.by_, .slice qa d.parts.length qc], .pointer (some ⟨w.heap.size, 0, none⟩), .pointer (some ⟨w.heap.size + 1, 0, none⟩), .slice none 0 0, .int .i64 0, .pointer (some ⟨b3, 0, none⟩), .int .i64 0, .pointer (some ⟨b4, 0, none⟩), .int .i64 0, .pointer (some ⟨bb, 0, none⟩), .pointer (some ⟨T, 0, none⟩), .int .i64 0, .pointer (some ⟨b6, 0, none⟩), .pointer (some ⟨w6.heap.size, 0, none⟩), .pointer (some ⟨w6.heap.size + 1, 0, none⟩), .pointer (some ⟨pb, 0, none⟩), .tuple #[.pointer (some ⟨b3, 0, none⟩), .int .i64 0], .agg #[.string c.ware, .int .i64 c.limit, .int .i64 c.by_, .slice pa c.parts.length pc], .tuple #[.pointer (some ⟨b3, 0, none⟩), .int .i64 0], .pointer (some ⟨b3, 0, none⟩), .int .i64 0, .int .i64 0, .bool false, undef, .tuple #[.pointer (some ⟨b4, 0, none⟩), .int .i64 0], .agg #[.string d.ware, .int .i64 d.limit, .int .i64 d.by_, .slice qa d.parts.length qc], .tuple #[.pointer (some ⟨b4, 0, none⟩), .int .i64 0], .pointer (some ⟨b4, 0, none⟩), .int .i64 0, .int .i64 0, .bool false, undef, .pointer (some ⟨w.heap.size, 3, none⟩), .slice pa c.parts.length pc, .int .i64 c.parts.length, .pointer (some ⟨w.heap.size + 1, 3, none⟩), .slice qa d.parts.length qc, .int .i64 d.parts.length, .bool false, .tuple #[.pointer (some ⟨bb, 0, none⟩), .agg (caseTab c), .int .i64 0], .agg #[.string c.ware, .int .i64 c.limit, .int .i64 c.by_, .slice pa c.parts.length pc], .tuple #[.pointer (some ⟨bb, 0, none⟩), .agg (caseTab c), .int .i64 0], .pointer (some ⟨bb, 0, none⟩), .agg (caseTab c), .int .i64 0, .int .i64 0, .bool false, undef, .tuple #[.pointer (some ⟨b6, 0, none⟩), .agg (caseTab d), .int .i64 0], .agg #[.string d.ware, .int .i64 d.limit, .int .i64 d.by_, .slice qa d.parts.length qc], .tuple #[.pointer (some ⟨b6, 0, none⟩), .agg (caseTab d), .int .i64 0], .pointer (some ⟨b6, 0, none⟩), .agg (caseTab d), .int .i64 0, .int .i64 0, .bool false, undef, .pointer (some ⟨bb, 0, none⟩), .func (.func 85) #[] #[.pointer (some ⟨w6.heap.size + 2, 0, none⟩)], .agg #[.int .i64 x.1, .int .i64 x.2], undef, undef, undef, undef, undef, undef, undef, undef, undef, undef, undef, undef, undef, undef, undef, undef, undef, undef], defers := [] } ∧ Box W pb #[.int .i64 x.1, .int .i64 x.2] 71 ∧ w6.heap.size + 5 ≤ pb
set_option maxRecDepth 100000 in
set_option maxHeartbeats 4000000 in
theorem reached_any (c d : Cs) (hsm : c.Small) (hsd : d.Small) (pa : Option Addr) (pc : Nat) (qa : Option Addr) (qc : Nat) (w : World) (hp : PartsAt w pa c.parts) (hq : PartsAt w qa d.parts) :
  Calls Tryz.prog 12 #[.agg #[.string c.ware, .int .i64 c.limit, .int .i64 c.by_, .slice pa c.parts.length pc], .agg #[.string d.ware, .int .i64 d.limit, .int .i64 d.by_, .slice qa d.parts.length qc]] w (PairsPost (reachErr c d) (reachOf c d) w) := by
 obtain ⟨w2, hw2⟩ : ∃ w2, ((w.alloc (.cells #[.string c.ware, .int .i64 c.limit, .int .i64 c.by_, .slice pa c.parts.length pc] 24)).alloc (.cells #[.string d.ware, .int .i64 d.limit, .int .i64 d.by_, .slice qa d.parts.length qc] 24)) = w2 := ⟨_, rfl⟩
 have hsz : w2.heap.size = w.heap.size + 2 := by rw [← hw2]; simp
 have hB2 : Below w.heap.size w w2 := by rw [← hw2]; go_grown
 have b0 : Box w2 w.heap.size #[.string c.ware, .int .i64 c.limit, .int .i64 c.by_, .slice pa c.parts.length pc] 24 := by rw [← hw2]; exact (Box.new _ _ _).alloc _
 have b1 : Box w2 (w.heap.size + 1) #[.string d.ware, .int .i64 d.limit, .int .i64 d.by_, .slice qa d.parts.length qc] 24 := by rw [← hw2]; exact Box.new' (by simp)
 have HOC := Lib.hid (fun W (h : Below w.heap.size w W) => opened_any c hsm pa pc [] none 0 W (hp.below h) (Ints.nil _ _) (by simp))
 have HOD := Lib.hid (fun W (h : Below w.heap.size w W) => opened_any d hsd qa qc [] none 0 W (hq.below h) (Ints.nil _ _) (by simp))
 have HAC := Lib.hid (fun W (h : Below w.heap.size w W) => asked_any c hsm pa pc [] none 0 W (hp.below h) (Ints.nil _ _) (by simp))
 have HAD := Lib.hid (fun W (h : Below w.heap.size w W) => asked_any d hsd qa qc [] none 0 W (hq.below h) (Ints.nil _ _) (by simp))
 simp only [open_nil, List.length_nil] at HOC HOD HAC HAD
 have HW := Lib.hid hw2
 have HBX := Lib.hid hB2
 have X0 := Lib.hid b0
 have X1 := Lib.hid b1
 clear hp hq b0 b1 hw2 hB2
 have hcE : reachErr c d = if checkCase c ≠ 0 then checkCase c else if checkCase d ≠ 0 then checkCase d else if c.parts.length ≠ d.parts.length then 1 else if askErr c [] ≠ 0 then askErr c [] else askErr d [] := rfl
 by_cases h1 : checkCase c = 0
 ·by_cases h2 : checkCase d = 0
  ·by_cases h3 : c.parts.length = d.parts.length
   ·by_cases h4 : askErr c [] = 0
    ·by_cases h5 : askErr d [] = 0
     ·have HEE := Lib.hid (show reachErr c d = 0 by rw [hcE, if_neg (by simpa using h1), if_neg (by simpa using h2), if_neg (by simpa using h3), if_neg (by simpa using h4), h5])
      have H1 := Lib.hid h1
      have H2 := Lib.hid h2
      have H4 := Lib.hid h4
      have H5 := Lib.hid h5
      have H3 := Lib.hid h3
      have hlb : ((c.parts.length : Int) != (d.parts.length : Int)) = false := by simp; omega
      clear h1 h2 h3 h4 h5 hcE
      refine (callsIn_wide (n := 0)).1 (callsIn_of_wp_marks Tryz.func12 rfl trivial ?_ rfl)
      simp only [Tryz.ntmps12, List.size_toArray, List.length_cons, List.length_nil, Nat.reduceAdd, Nat.reduceSub, Array.replicate_succ, Array.replicate_zero, List.push_toArray, List.append_toArray, List.nil_append, List.cons_append]
      gi_upto_region 1 with fail
      simp only [HW.out]
      have e0 := X0.out.cell
      have e1 := X1.out.cell
      gi_wp2_with fail
      (with_reducible refine (callsIn_wide.2 (opened_good (HOC.out _ HBX.out) H1.out)).mono ?_)
      rintro e w3 ⟨b3, rfl, _, _, hb⟩
      have HBX := Lib.hid (HBX.out.trans (hb.mono HBX.out.size))
      have X0 := Lib.hid (X0.out.below' hb)
      have X1 := Lib.hid (X1.out.below' hb)
      clear hb e0 e1
      have e0 := X0.out.cell
      have e1 := X1.out.cell
      gi_wp2_with fail
      (with_reducible refine (callsIn_wide.2 (opened_good (HOD.out _ HBX.out) H2.out)).mono ?_)
      rintro e w4 ⟨b4, rfl, _, _, hb⟩
      have HBX := Lib.hid (HBX.out.trans (hb.mono HBX.out.size))
      have X0 := Lib.hid (X0.out.below' hb)
      have X1 := Lib.hid (X1.out.below' hb)
      clear hb e0 e1
      have e0 := X0.out.cell
      have e1 := X1.out.cell
      gi_wp2_with fail
      (with_reducible refine (callsIn_wide.2 (asked_good (HAC.out _ HBX.out) H4.out)).mono ?_)
      rintro e w5 ⟨bb, rfl, hbb, hbx, hb⟩
      have hS := fresh_store w5 (togB c.parts.length (allR c)) (aptB c.parts.length (allR c))
      have hbL := laid_below w5 (togB c.parts.length (allR c)) (aptB c.parts.length (allR c))
      have hBL := HBX.out.trans (hb.mono HBX.out.size)
      have HT := Lib.hid (laid_box w5 (togB c.parts.length (allR c)) (aptB c.parts.length (allR c)))
      have HB5 := Lib.hid hb
      have HX5 := Lib.hid (hbx.below' hbL)
      have HBX := Lib.hid (hBL.trans (hbL.mono hBL.size))
      have X0 := Lib.hid ((X0.out.below' hb).below' hbL)
      have X1 := Lib.hid ((X1.out.below' hb).below' hbL)
      clear hb e0 e1 hbx hbL hBL
      have e0 := X0.out.cell
      have e1 := X1.out.cell
      gi_wp2_with (refine wpListIn_store_box rfl 76 _ _ rfl rfl rfl hS ?_)
      clear hS
      (with_reducible refine (callsIn_wide.2 (asked_good (HAD.out _ HBX.out) H5.out)).mono ?_)
      rintro e w6 ⟨b6, rfl, _, _, hb⟩
      have hS := fresh_store w6 (togB d.parts.length (allR d)) (aptB d.parts.length (allR d))
      have HT6 := Lib.hid (HT.out.below' hb)
      have HX6 := Lib.hid (HX5.out.below' hb)
      have HBX := Lib.hid (HBX.out.trans (hb.mono HBX.out.size))
      have hT6 : w5.heap.size < w6.heap.size := HT6.out.lt
      have h56 : w.heap.size + 2 ≤ w6.heap.size := (X1.out.below' hb).lt
      clear hb e0 e1 HT HX5
      gi_wp2_with (first
       | (refine wpListIn_store_box rfl 76 _ _ rfl rfl rfl hS ?_)
       | (gi_at_call 48; (with_reducible refine (callsIn_wide.2 (pairs_any _ _)).mono ?_); rintro e w' ⟨rfl, rfl⟩))
      simp only [laid_size, Nat.add_assoc, Nat.reduceAdd]
      have hbl := HX6.out.lt
      have hTl : w5.heap.size < w6.heap.size := HT6.out.lt
      have g5 : Box ((((laid w6 (togB d.parts.length (allR d)) (aptB d.parts.length (allR d)))).alloc (.cells #[.slice none 0 0] 31)).alloc (.cells #[.pointer (some ⟨bb, 0, none⟩)] 72)) w6.heap.size (caseTab d) 76 := ((laid_box w6 _ _).alloc _).alloc _
      have gT : Box ((((laid w6 (togB d.parts.length (allR d)) (aptB d.parts.length (allR d)))).alloc (.cells #[.slice none 0 0] 31)).alloc (.cells #[.pointer (some ⟨bb, 0, none⟩)] 72)) w5.heap.size (caseTab c) 76 := ((HT6.out.below' (laid_below w6 _ _)).alloc _).alloc _
      have g7 : Box ((((laid w6 (togB d.parts.length (allR d)) (aptB d.parts.length (allR d)))).alloc (.cells #[.slice none 0 0] 31)).alloc (.cells #[.pointer (some ⟨bb, 0, none⟩)] 72)) (w6.heap.size + 1) #[.slice none 0 0] 31 := (Box.new' (by rw [laid_size])).alloc _
      have g8 : Box ((((laid w6 (togB d.parts.length (allR d)) (aptB d.parts.length (allR d)))).alloc (.cells #[.slice none 0 0] 31)).alloc (.cells #[.pointer (some ⟨bb, 0, none⟩)] 72)) (w6.heap.size + 2) #[.pointer (some ⟨bb, 0, none⟩)] 72 := Box.new' (by simp [laid_size])
      have gb : Box ((((laid w6 (togB d.parts.length (allR d)) (aptB d.parts.length (allR d)))).alloc (.cells #[.slice none 0 0] 31)).alloc (.cells #[.pointer (some ⟨bb, 0, none⟩)] 72)) bb (csCells c pa pc) 88 := ((HX6.out.below' (laid_below w6 _ _)).alloc _).alloc _
      have gB : Below w6.heap.size w6 ((((laid w6 (togB d.parts.length (allR d)) (aptB d.parts.length (allR d)))).alloc (.cells #[.slice none 0 0] 31)).alloc (.cells #[.pointer (some ⟨bb, 0, none⟩)] 72)) := ((laid_below w6 _ _).alloc (by rw [laid_size]; omega) _).alloc (by simp [laid_size]; omega) _
      have gs : (((((laid w6 (togB d.parts.length (allR d)) (aptB d.parts.length (allR d)))).alloc (.cells #[.slice none 0 0] 31)).alloc (.cells #[.pointer (some ⟨bb, 0, none⟩)] 72))).heap.size = w6.heap.size + 3 := by simp [laid_size]
      generalize ((((laid w6 (togB d.parts.length (allR d)) (aptB d.parts.length (allR d)))).alloc (.cells #[.slice none 0 0] 31)).alloc (.cells #[.pointer (some ⟨bb, 0, none⟩)] 72)) = w7 at *
      obtain ⟨T, hT⟩ : ∃ T, w5.heap.size = T := ⟨_, rfl⟩
      rw [hT] at gT hTl
      simp only [hT]
      have h8 := check_small (ask_open H5.out)
      have h8c : c.parts.length ≤ 8 := by have := H3.out; omega
      refine wpIn_range2 (gf := 85) (lb := #[.pointer (some ⟨w6.heap.size + 2, 0, none⟩)]) (Z := fun k => k = w6.heap.size + 2) (n0 := w6.heap.size) (Rd := PairRd) (xs := pairsOf c.parts.length) rfl (enters_of Tryz.func85 (by kernel_rfl) rfl) ?gives ?hz ?n0 ?ps
       (RcI c d T w6) (fun _ _ _ => False) ?hI ?hX ?h0 (RcAs c d pa pc qa qc b3 b4 bb b6 T w w6) ?hAs ?assign ?body ?done ?stop
      case gives =>
       intro o1 o2
       exact pairs1_gives c _ rfl (by omega) pa pc w6 bb (w6.heap.size + 2) hbl (by omega) _ ⟨(gB.alloc (by omega) _).alloc (by simp; omega) _, (g8.alloc _).alloc _, (gb.alloc _).alloc _⟩
      case hz => intro k hk; rw [gs]; omega
      case n0 => omega
      case ps => rintro x args W rfl; rfl
      case hI =>
       rintro s A B ⟨v, h1, h2, h3, hT, h4⟩ hk
       rw [gs] at hk
       exact ⟨v, hk.heap (by omega) h1, ownsRow_keep h2 hk (fun k hk => by omega), hk.heap (by omega) h3, hk.heap (by omega) hT, h4.trans ((hk.mono fun i hi => by omega).below h4.size)⟩
      case hX => intro _ _ _ _ h; exact h.elim
      case h0 => exact ⟨_, g7, ownsRow_nil _ _ _ _, g5, gT, gB⟩
      case hAs =>
       rintro x args act A B ⟨pb, h1, h2, h3⟩ hk
       exact ⟨pb, h1, hk.heap (by rw [gs]; omega) h2, h3⟩
      case assign =>
       rintro l x args W Kk rfl hlt hk
       gi_wp2_with fail
       exact hk _ _ ⟨W.heap.size, rfl, Box.new _ _ _, by omega⟩ ((Below.refl _ W).alloc (Nat.le_refl _) _)
      case body =>
       rintro l pre x args act W ⟨v, i1, i2, i3, iT, i4⟩ ⟨pb, rfl, i5, i6⟩ hpre hlt
       have e5 := i5.cell
       have hxx := pairs_mem (hpre.subset (by simp : x ∈ pre ++ [x]))
       obtain ⟨x1, x2⟩ := x
       simp only at hxx e5 ⊢
       have I1 := Lib.hid i1
       have I2 := Lib.hid i2
       have I3 := Lib.hid i3
       have IT := Lib.hid iT
       have I4 := Lib.hid i4
       have I5 := Lib.hid i5
       have t1 : W.cell? ⟨pb, 0, none⟩ = some (.int .i64 (x1 : Int)) := e5 0
       have t2 : W.cell? ⟨pb, 1, none⟩ = some (.int .i64 (x2 : Int)) := e5 1
       clear i1 i2 i3 iT i4 i5 e5
       rcases h3 : (ansAt c x1 x2 != ansAt d x1 x2) with _ | _
       ·have H33 := Lib.hid h3
        gi_wp2_with fail
        refine wpIn_region_heldB_round 13 [] (by kernel_rfl) (by kernel_rfl) (by kernel_rfl) (by kernel_rfl) (by simp) ?_
        intro S hS
        have k0 : ∀ A, S A → A.cell? ⟨pb, 0, none⟩ = some (.int .i64 (x1 : Int)) ∧ A.cell? ⟨pb, 1, none⟩ = some (.int .i64 (x2 : Int)) := fun A h => ⟨below_cell (hS A h) t1, below_cell (hS A h) t2⟩
        have k1 : ∀ A, S A → (Instr.loadAt 76 (.pointer (some ⟨T, 0, none⟩))).run Tryz.prog A = .ok (.agg (caseTab c)) A := fun A h => run_load_row (IT.out.below' (hS A h)) Tryz.underlying76 rfl (tab_info _ _)
        have k2 : ∀ A, S A → (Instr.loadAt 76 (.pointer (some ⟨w6.heap.size, 0, none⟩))).run Tryz.prog A = .ok (.agg (caseTab d)) A := fun A h => run_load_row (I3.out.below' (hS A h)) Tryz.underlying76 rfl (tab_info _ _)
        have K0 := Lib.hid k0
        have K1 := Lib.hid k1
        have K2 := Lib.hid k2
        have HS := Lib.hid hS
        clear k0 k1 k2 hS t1 t2 h3
        simp only [List.take_succ_cons, List.take_zero, List.drop_succ_cons, List.drop_zero]
        repeat (first
         | (refine held_load 76 _ (by rfl) rfl rfl K1.out ?_; try (dsimp only); try simp only [Act.put, List.setIfInBounds_toArray, List.set_cons_zero, List.set_cons_succ])
         | (refine held_load 76 _ (by rfl) rfl rfl K2.out ?_; try (dsimp only); try simp only [Act.put, List.setIfInBounds_toArray, List.set_cons_zero, List.set_cons_succ])
         | (refine held_not rfl (by rfl) ?_; try (dsimp only); try simp only [Act.put, List.setIfInBounds_toArray, List.set_cons_zero, List.set_cons_succ])
         | (refine held_val (v := ?_) rfl (by rfl) ?_ ?_; rotate_left; (· (intro W hW; obtain ⟨q0, q1⟩ := K0.out W hW; go_simp; try with_reducible rfl)); try (dsimp only); try simp only [Act.put, List.setIfInBounds_toArray, List.set_cons_zero, List.set_cons_succ])
         | (refine held_skip rfl (by rfl) ?_ ?_; (· (intro W hW; obtain ⟨q0, q1⟩ := K0.out W hW; go_simp; try with_reducible rfl)); try (dsimp only); try simp only [Act.put, List.setIfInBounds_toArray, List.set_cons_zero, List.set_cons_succ])
         | (refine held_call (v := .int .u8 (ansAt c x1 x2)) (f := 37) (args := #[.agg (caseTab c), .int .i64 x1, .int .i64 x2]) rfl (by rfl) ?_ ?_ ?_; (· (intro W hW; go_simp; done)); (· exact (fun W hW => answer_case c x1 x2 W (by omega) (by omega))); try (dsimp only); try simp only [Act.put, List.setIfInBounds_toArray, List.set_cons_zero, List.set_cons_succ])
         | (refine held_call (v := .int .u8 (ansAt d x1 x2)) (f := 37) (args := #[.agg (caseTab d), .int .i64 x1, .int .i64 x2]) rfl (by rfl) ?_ ?_ ?_; (· (intro W hW; go_simp; done)); (· exact (fun W hW => answer_case d x1 x2 W (by omega) (by omega))); try (dsimp only); try simp only [Act.put, List.setIfInBounds_toArray, List.set_cons_zero, List.set_cons_succ]))
        refine held_nil ?_
        intro τ hτ W2 hW hO
        obtain rfl := laid0 hτ
        have HB2 := Lib.hid (HS.out W2 hW)
        clear hτ hO hW K0 K1 K2 HS
        simp only [overs, List.foldl_nil]
        try simp only [H33.out]
        gi_wp2_with fail
        have kW : Keep (fun _ => True) W W2 := Keep.of_below' HB2.out
        refine ⟨kW.mono (fun _ _ => trivial), v, I1.out.below' HB2.out, ?_, I3.out.below' HB2.out, IT.out.below' HB2.out, I4.out.trans (HB2.out.mono I4.out.size)⟩
        have e : (pre ++ [(x1, x2)]).filter (reachB c d) = pre.filter (reachB c d) := by
         rw [List.filter_append]; simp [List.filter_cons, reachB, H33.out]
        rw [e]
        exact ownsRow_keep I2.out kW (fun _ _ => trivial)
       ·have hlen : (pre.filter (reachB c d)).length + 1 ≤ 1000000 := by
         have h1 := hpre.length_le
         have h2 := pairsOf_len h8c
         have h4 := List.length_filter_le (reachB c d) pre
         rw [List.length_append] at h1
         simp only [List.length_singleton] at h1
         omega
        have H33 := Lib.hid h3
        gi_wp2_with fail
        refine wpIn_region_heldB_round 13 [] (by kernel_rfl) (by kernel_rfl) (by kernel_rfl) (by kernel_rfl) (by simp) ?_
        intro S hS
        have k0 : ∀ A, S A → A.cell? ⟨pb, 0, none⟩ = some (.int .i64 (x1 : Int)) ∧ A.cell? ⟨pb, 1, none⟩ = some (.int .i64 (x2 : Int)) := fun A h => ⟨below_cell (hS A h) t1, below_cell (hS A h) t2⟩
        have k1 : ∀ A, S A → (Instr.loadAt 76 (.pointer (some ⟨T, 0, none⟩))).run Tryz.prog A = .ok (.agg (caseTab c)) A := fun A h => run_load_row (IT.out.below' (hS A h)) Tryz.underlying76 rfl (tab_info _ _)
        have k2 : ∀ A, S A → (Instr.loadAt 76 (.pointer (some ⟨w6.heap.size, 0, none⟩))).run Tryz.prog A = .ok (.agg (caseTab d)) A := fun A h => run_load_row (I3.out.below' (hS A h)) Tryz.underlying76 rfl (tab_info _ _)
        have K0 := Lib.hid k0
        have K1 := Lib.hid k1
        have K2 := Lib.hid k2
        have HS := Lib.hid hS
        clear k0 k1 k2 hS t1 t2 h3
        simp only [List.take_succ_cons, List.take_zero, List.drop_succ_cons, List.drop_zero]
        repeat (first
         | (refine held_load 76 _ (by rfl) rfl rfl K1.out ?_; try (dsimp only); try simp only [Act.put, List.setIfInBounds_toArray, List.set_cons_zero, List.set_cons_succ])
         | (refine held_load 76 _ (by rfl) rfl rfl K2.out ?_; try (dsimp only); try simp only [Act.put, List.setIfInBounds_toArray, List.set_cons_zero, List.set_cons_succ])
         | (refine held_not rfl (by rfl) ?_; try (dsimp only); try simp only [Act.put, List.setIfInBounds_toArray, List.set_cons_zero, List.set_cons_succ])
         | (refine held_val (v := ?_) rfl (by rfl) ?_ ?_; rotate_left; (· (intro W hW; obtain ⟨q0, q1⟩ := K0.out W hW; go_simp; try with_reducible rfl)); try (dsimp only); try simp only [Act.put, List.setIfInBounds_toArray, List.set_cons_zero, List.set_cons_succ])
         | (refine held_skip rfl (by rfl) ?_ ?_; (· (intro W hW; obtain ⟨q0, q1⟩ := K0.out W hW; go_simp; try with_reducible rfl)); try (dsimp only); try simp only [Act.put, List.setIfInBounds_toArray, List.set_cons_zero, List.set_cons_succ])
         | (refine held_call (v := .int .u8 (ansAt c x1 x2)) (f := 37) (args := #[.agg (caseTab c), .int .i64 x1, .int .i64 x2]) rfl (by rfl) ?_ ?_ ?_; (· (intro W hW; go_simp; done)); (· exact (fun W hW => answer_case c x1 x2 W (by omega) (by omega))); try (dsimp only); try simp only [Act.put, List.setIfInBounds_toArray, List.set_cons_zero, List.set_cons_succ])
         | (refine held_call (v := .int .u8 (ansAt d x1 x2)) (f := 37) (args := #[.agg (caseTab d), .int .i64 x1, .int .i64 x2]) rfl (by rfl) ?_ ?_ ?_; (· (intro W hW; go_simp; done)); (· exact (fun W hW => answer_case d x1 x2 W (by omega) (by omega))); try (dsimp only); try simp only [Act.put, List.setIfInBounds_toArray, List.set_cons_zero, List.set_cons_succ]))
        refine held_nil ?_
        intro τ hτ W2 hW hO
        obtain rfl := laid0 hτ
        have HB2 := Lib.hid (HS.out W2 hW)
        clear hτ hO hW K0 K1 K2 HS
        simp only [overs, List.foldl_nil]
        try simp only [H33.out]
        obtain ⟨r1, r2⟩ := (I1.out.below' HB2.out).rules
        have r5 := (I5.out.below' HB2.out).cell
        obtain ⟨v', U, hrun, hown, hg, hvb⟩ := run_append_row (P := Tryz.prog) (W2.alloc (.cells #[.int .i64 x1, .int .i64 x2] 71)) (w6.heap.size + 5) 31 31 71 (.agg #[.int .i64 0, .int .i64 0]) 2 16 Tryz.underlying31 info_pair rfl (by omega)
         v _ _ (ownsRow_keep I2.out ((Keep.of_below' (K := fun _ => True) HB2.out).alloc _) (fun _ _ => trivial)) (some ⟨W2.heap.size, 0, none⟩) 1 1 [.int .i64 x1, .int .i64 x2] rfl (pair_row _ _ _ _) (by intro u hu; simp at hu; rcases hu with rfl | rfl <;> rfl) hlen (by omega) (by have := HB2.out.size; simp; omega)
        obtain ⟨a', c', rfl, hro, hcap⟩ := ownsRow_own hown
        have u1 := (((I1.out.below' HB2.out).alloc (.cells #[.int .i64 x1, .int .i64 x2] 71)).grown hg (ownsRow_block I2.out (by omega)))
        obtain ⟨u11, u12⟩ := u1.rules
        have HR := Lib.hid hrun
        have HOW := Lib.hid hown
        have HG := Lib.hid hg
        have HU1 := Lib.hid u1
        have hw1 := (I1.out.below' HB2.out).lt
        clear hrun hown hg hvb hro u1
        gi_wp2_with (gi_at_builtin; refine wpListIn_app rfl _ _ _ rfl rfl rfl HR.out ?_)
        have kW : Keep (fun k => k < w6.heap.size ∨ k = w6.heap.size + 2 ∨ k = w7.heap.size ∨ k = w7.heap.size + 1) W U := ((Keep.of_below' HB2.out).alloc _).grown HG.out (fun k hk => by
         have := (I2.out.lt k hk).1
         exact .inl (by simp only [gs]; omega))
        have hlW := I4.out.size
        have e : (pre ++ [(x1, x2)]).filter (reachB c d) = (pre.filter (reachB c d)) ++ [(x1, x2)] := by
         rw [List.filter_append]; simp [List.filter_cons, reachB, H33.out]
        refine ⟨kW.setCell (.inl (by simp only [gs]; omega)) _, _, HU1.out.set_ 0 _, ?_, (((I3.out.below' HB2.out).alloc _).grown HG.out (ownsRow_block I2.out (by omega))).far (by simp) _, (((IT.out.below' HB2.out).alloc _).grown HG.out (ownsRow_block I2.out (by omega))).far (by simp; omega) _, ?_⟩
        ·rw [e]
         have k5 : Keep (fun k => k ≠ w6.heap.size + 1) U (U.setCell ⟨w6.heap.size + 1, 0, none⟩ (.slice a' ((pre.filter (reachB c d)).length + 1) c')) := (Keep.refl _ U).setCell (.inl (by simp)) _
         have h5 := ownsRow_keep HOW.out k5 (fun k hk => by omega)
         rw [List.length_append, pairCells, List.flatMap_append]
         exact h5
        ·have k6 : Keep (fun k => k < w6.heap.size) W U := kW.mono (fun k hk => .inl hk)
         exact (I4.out.trans (k6.below hlW)).setCell (by simp) _
      case done =>
       rintro W ⟨v, i1, i2, i3, iT, i4⟩ hD
       obtain ⟨a', c', rfl, hro, hcap⟩ := ownsRow_own i2
       obtain ⟨u11, u12⟩ := i1.rules
       have I2 := Lib.hid hro
       have hlt := i1.lt
       clear i1 i2 hro
       gi_wp2_with fail
       refine ⟨by simp, .inl ⟨_, _, rfl, run_takeDeferred (by simpa [gs] using hD), ?_⟩⟩
       refine ⟨.tuple #[.slice a' (reachOf c d).length c', .int .i64 0], ?_, ?_⟩
       ·simp [results, go_sem, reachOf]
       ·have k5 : Keep (fun k => w6.heap.size + 5 ≤ k) W (W.putObj w7.heap.size (.deferred none)) := (Keep.refl _ W).putObj (by simp only [gs]; omega) _
        exact ⟨below_put (HBX.out.trans (i4.mono HBX.out.size)) (by omega) _, .inr ⟨HEE.out, _, rfl, a', c', rfl, (I2.out.keep k5 (fun k hk => hk)).less (by omega)⟩⟩
      case stop => intro _ _ _ _ h; exact h.elim
     ·have HEE := Lib.hid (show reachErr c d = askErr d [] by rw [hcE, if_neg (by simpa using h1), if_neg (by simpa using h2), if_neg (by simpa using h3), if_neg (by simpa using h4)])
      have HE0 := Lib.hid (show reachErr c d ≠ 0 by rw [HEE.out]; exact h5)
      have H1 := Lib.hid h1
      have H2 := Lib.hid h2
      have H4 := Lib.hid h4
      have H5 := Lib.hid h5
      have hlb : ((c.parts.length : Int) != (d.parts.length : Int)) = false := by simp; omega
      have hzz : (askErr d [] != 0) = true := by simpa using h5
      clear h1 h2 h3 h4 h5 hcE
      refine (callsIn_wide (n := 0)).1 (callsIn_of_wp_marks Tryz.func12 rfl trivial ?_ rfl)
      simp only [Tryz.ntmps12, List.size_toArray, List.length_cons, List.length_nil, Nat.reduceAdd, Nat.reduceSub, Array.replicate_succ, Array.replicate_zero, List.push_toArray, List.append_toArray, List.nil_append, List.cons_append]
      gi_upto_region 1 with fail
      simp only [HW.out]
      have e0 := X0.out.cell
      have e1 := X1.out.cell
      gi_wp2_with fail
      (with_reducible refine (callsIn_wide.2 (opened_good (HOC.out _ HBX.out) H1.out)).mono ?_)
      rintro e w3 ⟨b3, rfl, _, _, hb⟩
      have HBX := Lib.hid (HBX.out.trans (hb.mono HBX.out.size))
      have X0 := Lib.hid (X0.out.below' hb)
      have X1 := Lib.hid (X1.out.below' hb)
      clear hb e0 e1
      have e0 := X0.out.cell
      have e1 := X1.out.cell
      gi_wp2_with fail
      (with_reducible refine (callsIn_wide.2 (opened_good (HOD.out _ HBX.out) H2.out)).mono ?_)
      rintro e w4 ⟨b4, rfl, _, _, hb⟩
      have HBX := Lib.hid (HBX.out.trans (hb.mono HBX.out.size))
      have X0 := Lib.hid (X0.out.below' hb)
      have X1 := Lib.hid (X1.out.below' hb)
      clear hb e0 e1
      have e0 := X0.out.cell
      have e1 := X1.out.cell
      gi_wp2_with fail
      (with_reducible refine (callsIn_wide.2 (asked_good (HAC.out _ HBX.out) H4.out)).mono ?_)
      rintro e w5 ⟨bb, rfl, hbb, hbx, hb⟩
      have hS := fresh_store w5 (togB c.parts.length (allR c)) (aptB c.parts.length (allR c))
      have hbL := laid_below w5 (togB c.parts.length (allR c)) (aptB c.parts.length (allR c))
      have hBL := HBX.out.trans (hb.mono HBX.out.size)
      have HT := Lib.hid (laid_box w5 (togB c.parts.length (allR c)) (aptB c.parts.length (allR c)))
      have HB5 := Lib.hid hb
      have HX5 := Lib.hid (hbx.below' hbL)
      have HBX := Lib.hid (hBL.trans (hbL.mono hBL.size))
      have X0 := Lib.hid ((X0.out.below' hb).below' hbL)
      have X1 := Lib.hid ((X1.out.below' hb).below' hbL)
      clear hb e0 e1 hbx hbL hBL
      have e0 := X0.out.cell
      have e1 := X1.out.cell
      gi_wp2_with (refine wpListIn_store_box rfl 76 _ _ rfl rfl rfl hS ?_)
      clear hS
      (with_reducible refine (callsIn_wide.2 (asked_bad (HAD.out _ HBX.out) H5.out)).mono ?_)
      rintro e w6 ⟨rfl, hb⟩
      have hS := fresh_store w6 (fun _ _ => false) (fun _ _ => false)
      have HBX := Lib.hid ((HBX.out.trans (hb.mono HBX.out.size)).trans ((laid_below w6 (fun _ _ => false) (fun _ _ => false)).mono (HBX.out.trans (hb.mono HBX.out.size)).size))
      clear hb e0 e1
      gi_wp2_with (refine wpListIn_store_box rfl 76 _ _ rfl rfl rfl hS ?_)
      refine ⟨.tuple #[.slice none 0 0, .int .i64 (reachErr c d)], ?_, HBX.out, .inl ⟨HE0.out, rfl⟩⟩
      simp [results, go_sem, HEE.out]
    ·have HEE := Lib.hid (show reachErr c d = askErr c [] by rw [hcE, if_neg (by simpa using h1), if_neg (by simpa using h2), if_neg (by simpa using h3), if_pos h4])
     have HE0 := Lib.hid (show reachErr c d ≠ 0 by rw [HEE.out]; exact h4)
     have H1 := Lib.hid h1
     have H2 := Lib.hid h2
     have H4 := Lib.hid h4
     have hlb : ((c.parts.length : Int) != (d.parts.length : Int)) = false := by simp; omega
     have hzz : (askErr c [] != 0) = true := by simpa using h4
     clear h1 h2 h3 h4 hcE
     refine (callsIn_wide (n := 0)).1 (callsIn_of_wp_marks Tryz.func12 rfl trivial ?_ rfl)
     simp only [Tryz.ntmps12, List.size_toArray, List.length_cons, List.length_nil, Nat.reduceAdd, Nat.reduceSub, Array.replicate_succ, Array.replicate_zero, List.push_toArray, List.append_toArray, List.nil_append, List.cons_append]
     gi_upto_region 1 with fail
     simp only [HW.out]
     have e0 := X0.out.cell
     have e1 := X1.out.cell
     gi_wp2_with fail
     (with_reducible refine (callsIn_wide.2 (opened_good (HOC.out _ HBX.out) H1.out)).mono ?_)
     rintro e w3 ⟨b3, rfl, _, _, hb⟩
     have HBX := Lib.hid (HBX.out.trans (hb.mono HBX.out.size))
     have X0 := Lib.hid (X0.out.below' hb)
     have X1 := Lib.hid (X1.out.below' hb)
     clear hb e0 e1
     have e0 := X0.out.cell
     have e1 := X1.out.cell
     gi_wp2_with fail
     (with_reducible refine (callsIn_wide.2 (opened_good (HOD.out _ HBX.out) H2.out)).mono ?_)
     rintro e w4 ⟨b4, rfl, _, _, hb⟩
     have HBX := Lib.hid (HBX.out.trans (hb.mono HBX.out.size))
     have X0 := Lib.hid (X0.out.below' hb)
     have X1 := Lib.hid (X1.out.below' hb)
     clear hb e0 e1
     have e0 := X0.out.cell
     have e1 := X1.out.cell
     gi_wp2_with fail
     (with_reducible refine (callsIn_wide.2 (asked_bad (HAC.out _ HBX.out) H4.out)).mono ?_)
     rintro e w6 ⟨rfl, hb⟩
     have hS := fresh_store w6 (fun _ _ => false) (fun _ _ => false)
     have HBX := Lib.hid ((HBX.out.trans (hb.mono HBX.out.size)).trans ((laid_below w6 (fun _ _ => false) (fun _ _ => false)).mono (HBX.out.trans (hb.mono HBX.out.size)).size))
     clear hb e0 e1
     gi_wp2_with (refine wpListIn_store_box rfl 76 _ _ rfl rfl rfl hS ?_)
     refine ⟨.tuple #[.slice none 0 0, .int .i64 (reachErr c d)], ?_, HBX.out, .inl ⟨HE0.out, rfl⟩⟩
     simp [results, go_sem, HEE.out]
   ·have HEE := Lib.hid (show reachErr c d = 1 by rw [hcE, if_neg (by simpa using h1), if_neg (by simpa using h2), if_pos h3])
    have HE0 := Lib.hid (show reachErr c d ≠ 0 by rw [HEE.out]; decide)
    have H1 := Lib.hid h1
    have H2 := Lib.hid h2
    have hlb : ((c.parts.length : Int) != (d.parts.length : Int)) = true := by simp; omega
    clear h1 h2 h3 hcE
    refine (callsIn_wide (n := 0)).1 (callsIn_of_wp_marks Tryz.func12 rfl trivial ?_ rfl)
    simp only [Tryz.ntmps12, List.size_toArray, List.length_cons, List.length_nil, Nat.reduceAdd, Nat.reduceSub, Array.replicate_succ, Array.replicate_zero, List.push_toArray, List.append_toArray, List.nil_append, List.cons_append]
    gi_upto_region 1 with fail
    simp only [HW.out]
    have e0 := X0.out.cell
    have e1 := X1.out.cell
    gi_wp2_with fail
    (with_reducible refine (callsIn_wide.2 (opened_good (HOC.out _ HBX.out) H1.out)).mono ?_)
    rintro e w3 ⟨b3, rfl, _, _, hb⟩
    have HBX := Lib.hid (HBX.out.trans (hb.mono HBX.out.size))
    have X0 := Lib.hid (X0.out.below' hb)
    have X1 := Lib.hid (X1.out.below' hb)
    clear hb e0 e1
    have e0 := X0.out.cell
    have e1 := X1.out.cell
    gi_wp2_with fail
    (with_reducible refine (callsIn_wide.2 (opened_good (HOD.out _ HBX.out) H2.out)).mono ?_)
    rintro e w4 ⟨b4, rfl, _, _, hb⟩
    have HBX := Lib.hid (HBX.out.trans (hb.mono HBX.out.size))
    have X0 := Lib.hid (X0.out.below' hb)
    have X1 := Lib.hid (X1.out.below' hb)
    clear hb e0 e1
    have e0 := X0.out.cell
    have e1 := X1.out.cell
    gi_wp2_with fail
    refine ⟨.tuple #[.slice none 0 0, .int .i64 (reachErr c d)], ?_, HBX.out, .inl ⟨HE0.out, rfl⟩⟩
    simp [results, go_sem, HEE.out]
  ·have HEE := Lib.hid (show reachErr c d = checkCase d by rw [hcE, if_neg (by simpa using h1), if_pos h2])
   have HE0 := Lib.hid (show reachErr c d ≠ 0 by rw [HEE.out]; exact h2)
   have H1 := Lib.hid h1
   have H2 := Lib.hid h2
   have hzz : (checkCase d != 0) = true := by simpa using h2
   clear h1 h2 hcE
   refine (callsIn_wide (n := 0)).1 (callsIn_of_wp_marks Tryz.func12 rfl trivial ?_ rfl)
   simp only [Tryz.ntmps12, List.size_toArray, List.length_cons, List.length_nil, Nat.reduceAdd, Nat.reduceSub, Array.replicate_succ, Array.replicate_zero, List.push_toArray, List.append_toArray, List.nil_append, List.cons_append]
   gi_upto_region 1 with fail
   simp only [HW.out]
   have e0 := X0.out.cell
   have e1 := X1.out.cell
   gi_wp2_with fail
   (with_reducible refine (callsIn_wide.2 (opened_good (HOC.out _ HBX.out) H1.out)).mono ?_)
   rintro e w3 ⟨bb, rfl, hbb, hbx, hb⟩
   have HBX := Lib.hid (HBX.out.trans (hb.mono HBX.out.size))
   have X0 := Lib.hid (X0.out.below' hb)
   have X1 := Lib.hid (X1.out.below' hb)
   clear hb e0 e1
   have e0 := X0.out.cell
   have e1 := X1.out.cell
   gi_wp2_with fail
   (with_reducible refine (callsIn_wide.2 (opened_bad (HOD.out _ HBX.out) H2.out)).mono ?_)
   rintro e w4 ⟨rfl, hb⟩
   have HBX := Lib.hid (HBX.out.trans (hb.mono HBX.out.size))
   have X0 := Lib.hid (X0.out.below' hb)
   have X1 := Lib.hid (X1.out.below' hb)
   clear hb e0 e1
   gi_wp2_with fail
   refine ⟨.tuple #[.slice none 0 0, .int .i64 (reachErr c d)], ?_, HBX.out, .inl ⟨HE0.out, rfl⟩⟩
   simp [results, go_sem, HEE.out]
 ·have HEE := Lib.hid (show reachErr c d = checkCase c by rw [hcE, if_pos h1])
  have HE0 := Lib.hid (show reachErr c d ≠ 0 by rw [HEE.out]; exact h1)
  have H1 := Lib.hid h1
  have hzz : (checkCase c != 0) = true := by simpa using h1
  clear h1 hcE
  refine (callsIn_wide (n := 0)).1 (callsIn_of_wp_marks Tryz.func12 rfl trivial ?_ rfl)
  simp only [Tryz.ntmps12, List.size_toArray, List.length_cons, List.length_nil, Nat.reduceAdd, Nat.reduceSub, Array.replicate_succ, Array.replicate_zero, List.push_toArray, List.append_toArray, List.nil_append, List.cons_append]
  gi_upto_region 1 with fail
  simp only [HW.out]
  have e0 := X0.out.cell
  have e1 := X1.out.cell
  gi_wp2_with fail
  (with_reducible refine (callsIn_wide.2 (opened_bad (HOC.out _ HBX.out) H1.out)).mono ?_)
  rintro e w4 ⟨rfl, hb⟩
  have HBX := Lib.hid (HBX.out.trans (hb.mono HBX.out.size))
  have X0 := Lib.hid (X0.out.below' hb)
  have X1 := Lib.hid (X1.out.below' hb)
  clear hb e0 e1
  gi_wp2_with fail
  refine ⟨.tuple #[.slice none 0 0, .int .i64 (reachErr c d)], ?_, HBX.out, .inl ⟨HE0.out, rfl⟩⟩
  simp [results, go_sem, HEE.out]
end Go.Proofs.YtpjcnkajimgagaaGreat
