/- The law's with: rings with a class on a ring. No condition. -/
import Derived.Test.YthpjffhccjlnhaaGreatDoorGRows4
import Derived.Test.YthpjffhccjlnhaaGreatDoorMG15
set_option linter.unusedSimpArgs false
set_option linter.unusedVariables false
namespace Go.Proofs.YthpjffhccjlnhaaGreatDoor
open Go.RowKit
attribute [local go_sem] Oper.semAt_some

def withStep (at_ : Int) (set : ByteArray) (s : List Rng × Bool) (y : Rng) : List Rng × Bool :=
 if y.at_ = at_ then (s.1 ++ [⟨at_, set⟩], true) else if at_ < y.at_ ∧ s.2 = false then (s.1 ++ [⟨at_, set⟩] ++ [y], true) else (s.1 ++ [y], s.2)
def withTo (r : List Rng) (at_ : Int) (set : ByteArray) (k : Nat) : List Rng × Bool := (r.take k).foldl (withStep at_ set) ([], false)
def withR (r : List Rng) (at_ : Int) (set : ByteArray) : List Rng := if (withTo r at_ set r.length).2 then (withTo r at_ set r.length).1 else (withTo r at_ set r.length).1 ++ [⟨at_, set⟩]
theorem withTo_succ {r : List Rng} {at_ : Int} {set : ByteArray} {k : Nat} {y : Rng} (h : r[k]? = some y) : withTo r at_ set (k + 1) = withStep at_ set (withTo r at_ set k) y := by
 unfold withTo
 rw [List.take_add_one, h, List.foldl_append]; rfl
theorem withTo_len (r : List Rng) (at_ : Int) (set : ByteArray) (k : Nat) : (withTo r at_ set k).1.length ≤ 2 * k := by
 induction k with
 | zero => exact Nat.le_refl _
 | succ k ih =>
  rcases hy : r[k]? with _ | y
  ·unfold withTo at ih ⊢
   rw [List.take_add_one, hy]
   simp only [Option.toList_none, List.append_nil]; omega
  ·rw [withTo_succ hy]
   unfold withStep
   split
   ·simp; omega
   ·split
    ·simp; omega
    ·simp; omega
theorem zrng4 : (#[.int .i64 0, .string { data := #[] }] : Array Value) = rngCells ⟨0, ByteArray.empty⟩ := by kernel_rfl
theorem built_rng4 (parts : List (Nat × Value)) : Tryz.prog.built 48 parts = Instr.fill (fun i => (#[(0, 1), (1, 1)] : Array (Nat × Nat))[i]?) (rngCells ⟨0, ByteArray.empty⟩) parts := by
 rw [← zrng4]; kernel_rfl
theorem run_build_rng4 (i : Int) (s : ByteArray) (w : World) : (Instr.build 48 #[(0, .int .i64 i), (1, .string s)]).run Tryz.prog w = .ok (.agg (rngCells ⟨i, s⟩)) w := by
 refine run_build w _ _ _ ?_
 rw [built_rng4]
 unfold rngCells
 rw [fill_fn (off := 0) (m := 1) (g := fun _ => .int .i64 i) rfl rfl (by omega), fill_fn (off := 1) (m := 1) (g := fun _ => .string s) rfl rfl (by omega)]
 refine congrArg some (fnCells_congr fun j hj => ?_)
 have h2 : j = 0 ∨ j = 1 := by omega
 rcases h2 with rfl | rfl <;> rfl
/-- one ring more behind a row -/
theorem ring_app {w : World} {v : Value} {L : List Rng} {W : World} (ho : W.ownsRow w.heap.size 48 2 v L.length (rngRows L)) (hb : Below w.heap.size w W) (hl : L.length ≤ 1000) (y : Rng) :
  ∃ v' U, (Instr.buildSlice 37 1 #[(0, .agg (rngCells y))]).run Tryz.prog W = .ok (.slice (some ⟨W.heap.size, 0, none⟩) 1 1) (W.alloc (.cells (fnCells 2 (rngF y)) 48)) ∧
   (Builtin.append_ #[37, 37] 37 #[v, .slice (some ⟨W.heap.size, 0, none⟩) 1 1]).run Tryz.prog (W.alloc (.cells (fnCells 2 (rngF y)) 48)) = .ok v' U ∧
   U.ownsRow w.heap.size 48 2 v' (L ++ [y]).length (rngRows (L ++ [y])) ∧ Below w.heap.size w U := by
 have hbs := run_bslice (P := Tryz.prog) (T := 37) Tryz.underlying37 info_rng2 (by omega) (by omega) (v := .agg (rngCells y)) (g := rngF y) rfl W
 obtain ⟨v', U, hrun, hown, hbU, -, -⟩ := app_fn (P := Tryz.prog) (TT := 37) Tryz.underlying37 info_rng rfl (by omega) (by omega) ho (by omega) hb.size (rngF y) (fun j _ => rngF_one y j)
 refine ⟨v', U, hbs, hrun, ?_, hb.trans hbU⟩
 rw [List.length_append, rngRows_app7]
 have e : rngRows [y] = (fnCells 2 (rngF y)).toList := by simp [rngRows, rngRow, fnCells, rngF, List.range_succ]
 rw [e]
 exact hown
def WithPost (r : List Rng) (at_ : Int) (set : ByteArray) (w : World) (e : Ending) (w' : World) : Prop :=
 ∃ fa fc, e = .returned (.tuple #[.slice fa (withR r at_ set).length fc, .bool (decide ((withR r at_ set).length ≤ 12))]) ∧ RowOwn w.heap.size w' fa (rngRows (withR r at_ set)) ∧ (withR r at_ set).length ≤ fc ∧ Below w.heap.size w w'
set_option maxRecDepth 100000 in
set_option maxHeartbeats 4000000 in
theorem with_any (ra : Option Addr) (rc : Nat) (r : List Rng) (at_ : Int) (set : ByteArray) (hl : r.length ≤ 15) (w : World) (h : RngsAt w ra r) :
  Calls Tryz.prog 40 #[.slice ra r.length rc, .int .i64 at_, .string set] w (WithPost r at_ set w) := by
 have HR := Lib.hid h
 clear h
 go_enter Tryz.func40, Tryz.ntmps40
 go_wp2_with fail
 go_loopw [8, 9, 10] (fun ov dv iv wr => ∃ (k : Nat) (L : List Rng) (d : Bool), k ≤ r.length ∧ iv = .int .i64 k ∧ dv = .bool d ∧ withTo r at_ set k = (L, d) ∧ wr.ownsRow w.heap.size 48 2 ov L.length (rngRows L) ∧ Below w.heap.size w wr) (fun _ _ iv _ => r.length - (intOf iv).toNat)
 case atStart => exact ⟨0, [], false, Nat.zero_le _, rfl, rfl, rfl, ownsRow_nil _ _ _ _, Below.refl _ _⟩
 case round =>
  obtain ⟨k, L, d, hk, rfl, rfl, hw, ho, hb⟩ := hrel
  have hLl : L.length ≤ 30 := by have := withTo_len r at_ set k; rw [hw] at this; simp only at this; omega
  have HO := Lib.hid ho
  have HB := Lib.hid hb
  have HWT := Lib.hid hw
  have HNEW := Lib.hid (run_build_rng4 at_ set)
  clear ho hb hw
  obtain ⟨v1, U1, hs1, hr1, ho1, hb1⟩ := ring_app HO.out HB.out (by omega) ⟨at_, set⟩
  have HS1 := Lib.hid hs1
  have HR1 := Lib.hid hr1
  have HO1 := Lib.hid ho1
  have HB1 := Lib.hid hb1
  clear hs1 hr1 ho1 hb1
  by_cases hlt : k < r.length
  rotate_left
  ·have hkn : decide ((k : Int) < (r.length : Int)) = false := by simp; omega
   have HW := Lib.hid (show withR r at_ set = if d then L else L ++ [⟨at_, set⟩] by
    unfold withR
    rw [← show k = r.length by omega, HWT.out])
   rcases d with _ | _
   ·obtain ⟨M, hM⟩ : ∃ M, L ++ [(⟨at_, set⟩ : Rng)] = M := ⟨_, rfl⟩
    obtain ⟨N, hN⟩ : ∃ N, M.length = N := ⟨_, rfl⟩
    have hfin := HO1.out
    have hbfin := HB1.out
    rw [hM, hN] at hfin
    have HLN := Lib.hid (show withR r at_ set = M by rw [← hM]; exact HW.out)
    have HNN := Lib.hid hN
    clear hM hN
    obtain ⟨pa, pc, hv, hro, hcap⟩ := ownsRow_own hfin
    subst hv
    have HRO := Lib.hid hro
    have HCP := Lib.hid hcap
    have HBF := Lib.hid hbfin
    clear hro hcap hfin hbfin
    go_wp2_with (first
     | (refine wpList_build rfl (v := .agg (rngCells ⟨at_, set⟩)) 48 _ rfl (by simp only [List.map_toArray, List.map_cons, List.map_nil]; exact HNEW.out _) ?_)
     | (apply wpList_bsl (T := 37) (n := 1) (hr := HS1.out); (· rfl); (· (simp only [List.map_toArray, List.map_cons, List.map_nil]; rfl)))
     | (at_builtin; refine wpList_app rfl _ _ _ rfl rfl rfl HR1.out ?_))
    refine bodyPost_ret (results_tmp_tmp4 rfl) rfl ⟨pa, pc, ?_, by rw [HLN.out]; exact HRO.out, by rw [HLN.out, HNN.out]; exact HCP.out, HBF.out⟩
    rw [HLN.out, HNN.out, show decide (N ≤ 12) = decide ((N : Int) ≤ 12) by rw [Bool.eq_iff_iff, decide_eq_true_eq, decide_eq_true_eq]; omega]; rfl
   ·obtain ⟨N, hN⟩ : ∃ N, L.length = N := ⟨_, rfl⟩
    have hfin := HO.out
    have hbfin := HB.out
    rw [hN] at hfin
    have HLN := Lib.hid (show withR r at_ set = L from HW.out)
    have HNN := Lib.hid hN
    clear hN
    obtain ⟨pa, pc, hv, hro, hcap⟩ := ownsRow_own hfin
    subst hv
    have HRO := Lib.hid hro
    have HCP := Lib.hid hcap
    have HBF := Lib.hid hbfin
    clear hro hcap hfin hbfin
    go_wp2_with fail
    refine bodyPost_ret (results_tmp_tmp4 rfl) rfl ⟨pa, pc, ?_, by rw [HLN.out]; exact HRO.out, by rw [HLN.out, HNN.out]; exact HCP.out, HBF.out⟩
    rw [HLN.out, HNN.out, show decide (N ≤ 12) = decide ((N : Int) ≤ 12) by rw [Bool.eq_iff_iff, decide_eq_true_eq, decide_eq_true_eq]; omega]; rfl
  obtain ⟨y, hy⟩ : ∃ y, r[k]? = some y := ⟨r[k], by simp [hlt]⟩
  obtain ⟨b, o, rfl, hat⟩ := (HR.out.below HB.out) k y hy
  obtain ⟨f1, f2⟩ := hat.fields
  have HST := Lib.hid (show withTo r at_ set (k + 1) = withStep at_ set (L, d) y by rw [withTo_succ hy, HWT.out])
  have hki : (k : Int) < (r.length : Int) := by omega
  have hk0 : (0 : Int) ≤ (k : Int) := by omega
  obtain ⟨v2, U2, hs2, hr2, ho2, hb2⟩ := ring_app HO.out HB.out (by omega) y
  obtain ⟨v3, U3, hs3, hr3, ho3, hb3⟩ := ring_app HO1.out HB1.out (by simp; omega) y
  have hatU := (HR.out.below HB1.out) k y hy
  obtain ⟨b', o', he, hatU⟩ := hatU
  cases he
  have HL := Lib.hid hat.load
  have HLU := Lib.hid hatU.load
  obtain ⟨fu1, fu2⟩ := hatU.fields
  have HS2 := Lib.hid hs2
  have HR2 := Lib.hid hr2
  have HO2 := Lib.hid ho2
  have HB2 := Lib.hid hb2
  have HS3 := Lib.hid hs3
  have HR3 := Lib.hid hr3
  have HO3 := Lib.hid ho3
  have HB3 := Lib.hid hb3
  clear hs2 hr2 ho2 hb2 hs3 hr3 ho3 hb3 hat hatU hy
  rcases q1 : (y.at_ == at_) with _ | _
  rotate_left
  ·have HE := Lib.hid (show withTo r at_ set (k + 1) = (L ++ [⟨at_, set⟩], true) by rw [HST.out]; unfold withStep; rw [if_pos (by simpa using q1)])
   go_wp2_with (first
    | (refine wpList_build rfl (v := .agg (rngCells ⟨at_, set⟩)) 48 _ rfl (by simp only [List.map_toArray, List.map_cons, List.map_nil]; exact HNEW.out _) ?_)
    | (apply wpList_bsl (T := 37) (n := 1) (hr := HS1.out); (· rfl); (· (simp only [List.map_toArray, List.map_cons, List.map_nil]; rfl)))
    | (at_builtin; refine wpList_app rfl _ _ _ rfl rfl rfl HR1.out ?_))
   go_roundw
   case rel => exact ⟨k + 1, _, true, by omega, by go_num, rfl, HE.out, HO1.out, HB1.out⟩
   case measure => simp [intOf]; omega
  have hne : y.at_ ≠ at_ := by simpa using q1
  rcases q2 : decide (at_ < y.at_) with _ | _
  ·have HE := Lib.hid (show withTo r at_ set (k + 1) = (L ++ [y], d) by rw [HST.out]; unfold withStep; rw [if_neg hne, if_neg (fun h => by have := of_decide_eq_false q2; exact this h.1)])
   clear hne
   go_wp2_with (first
    | (refine wpList_load_box rfl 48 _ rfl rfl HL.out ?_)
    | (apply wpList_bsl (T := 37) (n := 1) (hr := HS2.out); (· rfl); (· (simp only [List.map_toArray, List.map_cons, List.map_nil]; rfl)))
    | (at_builtin; refine wpList_app rfl _ _ _ rfl rfl rfl HR2.out ?_))
   go_roundw
   case rel => exact ⟨k + 1, _, d, by omega, by go_num, rfl, HE.out, HO2.out, HB2.out⟩
   case measure => simp [intOf]; omega
  rcases d with _ | _
  ·have HE := Lib.hid (show withTo r at_ set (k + 1) = (L ++ [⟨at_, set⟩] ++ [y], true) by rw [HST.out]; unfold withStep; rw [if_neg hne, if_pos ⟨of_decide_eq_true q2, rfl⟩])
   clear hne
   go_wp2_with (first
    | (refine wpList_build rfl (v := .agg (rngCells ⟨at_, set⟩)) 48 _ rfl (by simp only [List.map_toArray, List.map_cons, List.map_nil]; exact HNEW.out _) ?_)
    | (apply wpList_bsl (T := 37) (n := 1) (hr := HS1.out); (· rfl); (· (simp only [List.map_toArray, List.map_cons, List.map_nil]; rfl)))
    | (at_builtin; refine wpList_app rfl _ _ _ rfl rfl rfl HR1.out ?_)
    | (refine wpList_load_box rfl 48 _ rfl rfl HLU.out ?_)
    | (apply wpList_bsl (T := 37) (n := 1) (hr := HS3.out); (· rfl); (· (simp only [List.map_toArray, List.map_cons, List.map_nil]; rfl)))
    | (at_builtin; refine wpList_app rfl _ _ _ rfl rfl rfl HR3.out ?_))
   go_roundw
   case rel => exact ⟨k + 1, _, true, by omega, by go_num, rfl, HE.out, HO3.out, HB3.out⟩
   case measure => simp [intOf]; omega
  ·have HE := Lib.hid (show withTo r at_ set (k + 1) = (L ++ [y], true) by rw [HST.out]; unfold withStep; rw [if_neg hne, if_neg (fun h => by cases h.2)])
   clear hne
   go_wp2_with (first
    | (refine wpList_load_box rfl 48 _ rfl rfl HL.out ?_)
    | (apply wpList_bsl (T := 37) (n := 1) (hr := HS2.out); (· rfl); (· (simp only [List.map_toArray, List.map_cons, List.map_nil]; rfl)))
    | (at_builtin; refine wpList_app rfl _ _ _ rfl rfl rfl HR2.out ?_))
   go_roundw
   case rel => exact ⟨k + 1, _, true, by omega, by go_num, rfl, HE.out, HO2.out, HB2.out⟩
   case measure => simp [intOf]; omega
end Go.Proofs.YthpjffhccjlnhaaGreatDoor
