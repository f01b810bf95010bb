/- Package profile: Complete, Shifts. No condition. -/
/- Package profile: CheckFit. No condition. -/
import Derived.Test.YthpjffhccjlnhaaGreatDoorMG9
set_option linter.unusedSimpArgs false
set_option linter.unusedVariables false
namespace Go.Proofs.YthpjffhccjlnhaaGreatDoor
open Go.RowKit
attribute [local go_sem] Oper.semAt_some

theorem wanted_good {l : List Typ} {ware : ByteArray} {r : List Rng} (h : wantedErr l ware r = 0) : typesErr l = 0 ∧ ringsErr r = 0 ∧ l.any (wareIs ware) = true := by
 unfold wantedErr at h
 by_cases h1 : typesErr l = 0
 ·rw [if_pos h1] at h
  by_cases h2 : ringsErr r = 0
  ·rw [if_pos h2] at h
   refine ⟨h1, h2, ?_⟩
   rcases hq : l.any (wareIs ware) with _ | _
   ·rw [hq] at h; simp at h
   ·rfl
  ·rw [if_neg h2] at h; exact absurd h h2
 ·rw [if_neg h1] at h; exact absurd h h1
/-- what all functions about rings are handed -/
structure Ask (w : World) (a : Option Addr) (c : Nat) (l : List Typ) (ra : Option Addr) (rc : Nat) (r : List Rng) : Prop where
 ty : TypesAt w a l
 sm : ∀ t, t ∈ l → SmlT t
 tlen : l.length ≤ 1000000
 tcap : l.length ≤ c
 rg : RngsAt w ra r
 rsm : ∀ y, y ∈ r → y.set.size ≤ 1000
 rlen : r.length ≤ 1000000
 rcap : r.length ≤ rc
theorem Ask.below {w w' : World} {a : Option Addr} {c : Nat} {l : List Typ} {ra : Option Addr} {rc : Nat} {r : List Rng} (h : Ask w a c l ra rc r) (hb : Below w.heap.size w w') : Ask w' a c l ra rc r :=
 ⟨h.ty.below hb, h.sm, h.tlen, h.tcap, h.rg.below hb, h.rsm, h.rlen, h.rcap⟩
theorem Ask.wanted {w : World} {a : Option Addr} {c : Nat} {l : List Typ} {ra : Option Addr} {rc : Nat} {r : List Rng} (h : Ask w a c l ra rc r) (ware : ByteArray) :
  Calls Tryz.prog 86 #[.slice a l.length c, .string ware, .slice ra r.length rc] w fun e w' => e = .returned (.int .i64 (wantedErr l ware r)) ∧ Below w.heap.size w w' :=
 wanted_any a c l ware ra rc r w h.ty h.sm h.tlen h.tcap h.rg h.rsm h.rlen h.rcap
theorem Ask.fits {w : World} {a : Option Addr} {c : Nat} {l : List Typ} {ra : Option Addr} {rc : Nat} {r : List Rng} (h : Ask w a c l ra rc r) {ware : ByteArray} (h0 : wantedErr l ware r = 0) :
  Calls Tryz.prog 87 #[.slice a l.length c, .string ware, .slice ra r.length rc] w fun e w' => ∃ fa fc, e = .returned (.slice fa (shiftsT l ware r).length fc) ∧ RowOwn w.heap.size w' fa (ftRows (shiftsT l ware r)) ∧ (shiftsT l ware r).length ≤ fc ∧ Below w.heap.size w w' :=
 fits_any a c l ware ra rc r w (wanted_good h0).1 (wanted_good h0).2.1 h.rcap h.ty h.rg
def ftOf (L : List Ft) : Array Value := match L with | f :: _ => ftCells f.type f.shift (mkB (toS f.word)) | [] => ftCells 0 0 ByteArray.empty
def completeOut (l : List Typ) (ware : ByteArray) (r : List Rng) : Value :=
 if wantedErr l ware r = 0 then .tuple #[.agg (ftOf (shiftsT l ware r)), .bool (!(shiftsT l ware r).isEmpty), .int .i64 0] else .tuple #[.agg (ftCells 0 0 ByteArray.empty), .bool false, .int .i64 (wantedErr l ware r)]
theorem results_cell_tmp2 {P : Program} {fn : Func} {t u v : Tmp} {ty : TypeId} (h : fn.results = #[.cell t ty, .tmp u, .tmp v]) {tmps : Array Value} {w : World} {p : Addr} {x : Value} (hp : tmps.getD t undef = .pointer (some p))
  (hr : (loadVar ty p).run P w = .ok x w) : (results fn tmps).run P w = .ok (.tuple #[x, tmps.getD u undef, tmps.getD v undef]) w := by
 have hp' : tmps[t]?.getD undef = .pointer (some p) := by simpa using hp
 simp [results, h, hp', asAddr, hr]
set_option maxRecDepth 100000 in
set_option maxHeartbeats 1000000 in
theorem complete_any (a : Option Addr) (c : Nat) (l : List Typ) (ware : ByteArray) (ra : Option Addr) (rc : Nat) (r : List Rng) (w : World) (h : Ask w a c l ra rc r) :
  Calls Tryz.prog 30 #[.slice a l.length c, .string ware, .slice ra r.length rc] w fun e w' => e = .returned (completeOut l ware r) ∧ Below w.heap.size w w' := by
 obtain ⟨w1, hw1⟩ : ∃ w1, w.alloc (.cells (ftCells 0 0 ByteArray.empty) 44) = w1 := ⟨_, rfl⟩
 have b0 : Box w1 w.heap.size (ftCells 0 0 ByteArray.empty) 44 := by rw [← hw1]; exact Box.new _ _ _
 have hB : Below w.heap.size w w1 := by rw [← hw1]; go_grown
 have HA := Lib.hid (h.below hB)
 have B0 := Lib.hid b0
 have HB := Lib.hid hB
 have HW := Lib.hid hw1
 clear h b0 hB hw1
 go_enter Tryz.func30, Tryz.ntmps30
 go_upto_region 1 with fail
 simp only [zft, HW.out]
 go_wp2_with fail
 refine (HA.out.wanted ware).mono ?_
 rintro e w2 ⟨rfl, hb2⟩
 have A2 := Lib.hid (HA.out.below hb2)
 have B2 := Lib.hid (B0.out.below' hb2)
 have HB2 := Lib.hid (HB.out.trans (hb2.mono HB.out.size))
 clear hb2 HA B0
 by_cases h0 : wantedErr l ware r = 0
 ·have HE : Hid (completeOut l ware r = .tuple #[.agg (ftOf (shiftsT l ware r)), .bool (!(shiftsT l ware r).isEmpty), .int .i64 0]) := Lib.hid (by unfold completeOut; rw [if_pos h0])
  have HF := Lib.hid (A2.out.fits h0)
  rw [h0]
  clear h0
  go_wp2_with fail
  refine HF.out.mono ?_
  rintro e w3 ⟨fa, fc, rfl, hro, hfc, hb3⟩
  have B3 := Lib.hid (B2.out.below' hb3)
  have HB3 := Lib.hid (HB2.out.trans (hb3.mono HB2.out.size))
  clear HF hb3
  rcases hq : shiftsT l ware r with _ | ⟨f, L⟩
  ·rw [hq] at HE
   obtain ⟨w4, hst, hw4⟩ := run_store_all (P := Tryz.prog) agg_ft B3.out (ftF 0 0 ByteArray.empty) (fun j _ => ftF_one _ _ _ j)
   have HST := Lib.hid hst
   have HW4 := Lib.hid hw4
   clear hq hst hw4 hro hfc
   go_wp2_with fail
   go_loopw [25] (fun iv wr => iv = .int .i64 0 ∧ w3 = wr) (fun _ _ => 0)
   case atStart => exact ⟨rfl, rfl⟩
   case round =>
    obtain ⟨rfl, rfl⟩ := hrel
    go_wp2_with (first
     | (refine wpList_build rfl (v := .agg (ftCells 0 0 ByteArray.empty)) 44 _ rfl (by simp only [List.map_toArray, List.map_nil]; exact run_build_ft0 _) ?_)
     | (refine wpList_store_box rfl 44 _ _ rfl rfl rfl HST.out ?_))
    refine bodyPost_ret (results_cell_tmp2 rfl rfl (loadv_ft HW4.out.box)) rfl ⟨?_, HW4.out.below HB3.out (Nat.le_refl _)⟩
    rw [HE.out]; rfl
  ·rw [hq] at HE hro hfc
   have hg : ∀ j, j < 3 → ∃ b o, fa = some ⟨b, o, none⟩ ∧ w3.cell? ⟨b, o + j, none⟩ = some (ftF f.type f.shift (mkB (toS f.word)) j) := fun j hj => by
    obtain ⟨b, o, ha, _, hc, _⟩ := hro j (ftF f.type f.shift (mkB (toS f.word)) j) (by
     have h3 : j = 0 ∨ j = 1 ∨ j = 2 := by omega
     rcases h3 with rfl | rfl | rfl <;> rfl)
    exact ⟨b, o, ha, hc⟩
   obtain ⟨b, o, rfl, -⟩ := hg 0 (by omega)
   have hld : (Instr.loadAt 44 (.pointer (some ⟨b, o, none⟩))).run Tryz.prog w3 = .ok (.agg (ftCells f.type f.shift (mkB (toS f.word)))) w3 := run_load_fn agg_ft fun j hj => by
    obtain ⟨b', o', e, h⟩ := hg j hj
    cases e; exact h
   have hbl : w3.heap.size = w3.heap.size := rfl
   obtain ⟨w4, hw4⟩ : ∃ w4, w3.alloc (.cells (ftCells 0 0 ByteArray.empty) 44) = w4 := ⟨_, rfl⟩
   have b4 : Box w4 w3.heap.size (ftCells 0 0 ByteArray.empty) 44 := by rw [← hw4]; exact Box.new _ _ _
   have hb4 : Below w3.heap.size w3 w4 := by rw [← hw4]; go_grown
   obtain ⟨w5, hst5, hw5⟩ := run_store_all (P := Tryz.prog) agg_ft b4 (ftF f.type f.shift (mkB (toS f.word))) (fun j _ => ftF_one _ _ _ j)
   have b5 : Box w5 w.heap.size (ftCells 0 0 ByteArray.empty) 44 := hw5.far (B3.out.below' hb4) (by have := B3.out.lt; omega)
   obtain ⟨w6, hst6, hw6⟩ := run_store_all (P := Tryz.prog) agg_ft b5 (ftF f.type f.shift (mkB (toS f.word))) (fun j _ => ftF_one _ _ _ j)
   have HB5 := Lib.hid (HB3.out.trans ((hw5.below hb4 (Nat.le_refl _)).mono HB3.out.size))
   have HL5 := Lib.hid (load_ft hw5.box)
   have HLD := Lib.hid hld
   have HW4 := Lib.hid hw4
   have HST5 := Lib.hid hst5
   have HST6 := Lib.hid hst6
   have HW6 := Lib.hid hw6
   have hfc' : L.length + 1 ≤ fc := by simpa using hfc
   clear hq hro hfc hg hld hw4 b4 hb4 hst5 hw5 b5 hst6 hw6
   go_wp2_with fail
   go_loopw [25] (fun iv wr => iv = .int .i64 0 ∧ w3 = wr) (fun _ _ => 0)
   case atStart => exact ⟨rfl, rfl⟩
   case round =>
    obtain ⟨rfl, rfl⟩ := hrel
    have hpos : (0 : Int) < (L.length : Int) + 1 := by omega
    have hpos2 : 0 < L.length + 1 := by omega
    go_wp2_with (first
     | (refine wpList_load_box rfl 44 _ rfl rfl HLD.out ?_)
     | (refine wpList_load_box rfl 44 _ rfl rfl HL5.out ?_)
     | (simp only [zft, HW4.out]; refine wpList_store_box rfl 44 _ _ rfl rfl rfl HST5.out ?_)
     | (refine wpList_store_box rfl 44 _ _ rfl rfl rfl HST6.out ?_))
    refine bodyPost_ret (results_cell_tmp2 rfl rfl (loadv_ft HW6.out.box)) rfl ⟨?_, HW6.out.below HB5.out (Nat.le_refl _)⟩
    rw [HE.out]; rfl
 ·have HE : Hid (completeOut l ware r = .tuple #[.agg (ftCells 0 0 ByteArray.empty), .bool false, .int .i64 (wantedErr l ware r)]) := Lib.hid (by unfold completeOut; rw [if_neg h0])
  have hne : (wantedErr l ware r == 0) = false := by simpa using h0
  obtain ⟨w4, hst, hw4⟩ := run_store_all (P := Tryz.prog) agg_ft B2.out (ftF 0 0 ByteArray.empty) (fun j _ => ftF_one _ _ _ j)
  have HST := Lib.hid hst
  have HW4 := Lib.hid hw4
  clear hst hw4
  go_wp2_with (first
   | (refine wpList_build rfl (v := .agg (ftCells 0 0 ByteArray.empty)) 44 _ rfl (by simp only [List.map_toArray, List.map_nil]; exact run_build_ft0 _) ?_)
   | (refine wpList_store_box rfl 44 _ _ rfl rfl rfl HST.out ?_))
  refine bodyPost_ret (results_cell_tmp2 rfl rfl (loadv_ft HW4.out.box)) rfl ⟨?_, HW4.out.below HB2.out (Nat.le_refl _)⟩
  rw [HE.out]; rfl
/-- what Shifts gives -/
def shiftsX (l : List Typ) (ware : ByteArray) (r : List Rng) : List Ft := if wantedErr l ware r = 0 then shiftsT l ware r else []
set_option maxRecDepth 100000 in
set_option maxHeartbeats 1000000 in
theorem shiftsX_any (a : Option Addr) (c : Nat) (l : List Typ) (ware : ByteArray) (ra : Option Addr) (rc : Nat) (r : List Rng) (w : World) (h : Ask w a c l ra rc r) :
  Calls Tryz.prog 32 #[.slice a l.length c, .string ware, .slice ra r.length rc] w fun e w' => ∃ fa fc, e = .returned (.tuple #[.slice fa (shiftsX l ware r).length fc, .int .i64 (wantedErr l ware r)]) ∧ RowOwn w.heap.size w' fa (ftRows (shiftsX l ware r)) ∧ (shiftsX l ware r).length ≤ fc ∧ Below w.heap.size w w' := by
 have HA := Lib.hid h
 clear h
 go_enter Tryz.func32, Tryz.ntmps32
 go_wp2_with fail
 refine (HA.out.wanted ware).mono ?_
 rintro e w2 ⟨rfl, hb2⟩
 have A2 := Lib.hid (HA.out.below hb2)
 have HB2 := Lib.hid hb2
 clear hb2 HA
 by_cases h0 : wantedErr l ware r = 0
 ·have HE : Hid (shiftsX l ware r = shiftsT l ware r) := Lib.hid (by unfold shiftsX; rw [if_pos h0])
  have HF := Lib.hid (A2.out.fits h0)
  have H0 := Lib.hid h0
  rw [h0]
  clear h0
  go_wp2_with fail
  refine HF.out.mono ?_
  rintro e w3 ⟨fa, fc, rfl, hro, hfc, hb3⟩
  have HRO := Lib.hid hro
  have HFC := Lib.hid hfc
  have HB3 := Lib.hid (HB2.out.trans (hb3.mono HB2.out.size))
  clear HF hb3 hro hfc
  go_wp2_with fail
  exact bodyPost_ret (results_tmp_tmp4 rfl) rfl ⟨fa, fc, by rw [HE.out]; first | rfl | (rw [H0.out]; rfl), by rw [HE.out]; exact HRO.out.less HB2.out.size, by rw [HE.out]; exact HFC.out, HB3.out⟩
 ·have HE : Hid (shiftsX l ware r = []) := Lib.hid (by unfold shiftsX; rw [if_neg h0])
  have hne : (wantedErr l ware r == 0) = false := by simpa using h0
  go_wp2_with fail
  exact bodyPost_ret (results_tmp_tmp4 rfl) rfl ⟨none, 0, by rw [HE.out]; rfl, by rw [HE.out]; exact RowOwn.nil _ _ _, by rw [HE.out]; exact Nat.le_refl _, HB2.out⟩
end Go.Proofs.YthpjffhccjlnhaaGreatDoor
namespace Go.Proofs.YthpjffhccjlnhaaGreatDoor
open Go.RowKit
attribute [local go_sem] Oper.semAt_some

abbrev BoolBox (w : World) (b : Nat) (x : Bool) : Prop := Box w b #[.bool x] 4
abbrev ErrBox (w : World) (b : Nat) (x : Int) : Prop := Box w b #[.int .i64 x] 25
theorem results_cell2 {P : Program} {fn : Func} {t u : Tmp} {ty tz : TypeId} (h : fn.results = #[.cell t ty, .cell u tz]) {tmps : Array Value} {w : World} {p q : Addr} {x y : Value} (hp : tmps.getD t undef = .pointer (some p)) (hq : tmps.getD u undef = .pointer (some q))
  (hr : (loadVar ty p).run P w = .ok x w) (hs : (loadVar tz q).run P w = .ok y w) : (results fn tmps).run P w = .ok (.tuple #[x, y]) w := by
 have hp' : tmps[t]?.getD undef = .pointer (some p) := by simpa using hp
 have hq' : tmps[u]?.getD undef = .pointer (some q) := by simpa using hq
 simp [results, h, hp', hq', asAddr, hr, hs]
theorem loadv_bool {w : World} {b : Nat} {x : Bool} (h : BoolBox w b x) : (loadVar 4 ⟨b, 0, none⟩).run Tryz.prog w = .ok (.bool x) w := by
 have c := h.cell 0
 simp at c
 go_simp
theorem loadv_err {w : World} {b : Nat} {x : Int} (h : ErrBox w b x) : (loadVar 25 ⟨b, 0, none⟩).run Tryz.prog w = .ok (.int .i64 x) w := by
 have c := h.cell 0
 simp at c
 go_simp
def fitsX (l : List Typ) (r : List Rng) (wd : ByteArray) (x : Nat × Nat) : Bool := match l[x.1]? with | some t => fitB t r x.2 (bl wd) | none => false
/-- something is a fit -/
def checkFitT (l : List Typ) (ware : ByteArray) (r : List Rng) (i s : Int) (wd : ByteArray) : Bool := (triesOf l ware r).any fun x => ((x.1 : Int) == i && (x.2 : Int) == s) && fitsX l r wd x
def checkFitOut (l : List Typ) (ware : ByteArray) (r : List Rng) (i s : Int) (wd : ByteArray) : Value := .tuple #[.bool (wantedErr l ware r == 0 && checkFitT l ware r i s wd), .int .i64 (wantedErr l ware r)]
theorem checkFit_at {l : List Typ} {ware : ByteArray} {r : List Rng} {i s : Nat} {wd : ByteArray} {t : Typ} (ht : l[i]? = some t) (hx : (i, s) ∈ triesOf l ware r) : checkFitT l ware r i s wd = fitB t r s (bl wd) := by
 unfold checkFitT
 rcases hf : fitB t r s (bl wd) with _ | _
 ·rw [List.any_eq_false]
  rintro ⟨j, u⟩ hj
  simp only [Bool.and_eq_true, not_and, Bool.not_eq_true, beq_iff_eq]
  rintro ⟨h1, h2⟩
  have e1 : j = i := by omega
  have e2 : u = s := by omega
  subst e1; subst e2
  simp [fitsX, ht, hf]
 ·rw [List.any_eq_true]
  exact ⟨(i, s), hx, by simp [fitsX, ht, hf]⟩
theorem checkFit_bad {l : List Typ} {ware : ByteArray} {r : List Rng} {i s : Int} {wd : ByteArray} (h : ∀ x, x ∈ triesOf l ware r → ((x.1 : Int) == i && (x.2 : Int) == s) = false) : checkFitT l ware r i s wd = false := by
 unfold checkFitT
 rw [List.any_eq_false]
 intro x hx
 rw [h x hx]; simp
/-- the memory of CheckFit -/
structure CfSt (B : Nat) (i s : Int) (wd : ByteArray) (w W : World) : Prop where
 f : Box W B (ftCells i s wd) 44
 o : BoolBox W (B + 1) false
 e : ErrBox W (B + 2) 0
 b : Below w.heap.size w W
 z : B = w.heap.size
theorem CfSt.below {B : Nat} {i s : Int} {wd : ByteArray} {w W W' : World} (h : CfSt B i s wd w W) (hb : Below W.heap.size W W') : CfSt B i s wd w W' :=
 ⟨h.f.below' hb, h.o.below' hb, h.e.below' hb, h.b.trans (hb.mono h.b.size), h.z⟩
theorem CfSt.cells {B : Nat} {i s : Int} {wd : ByteArray} {w W : World} (h : CfSt B i s wd w W) : W.cell? ⟨B, 0, none⟩ = some (.int .i64 i) ∧ W.cell? ⟨B, 1, none⟩ = some (.int .i64 s) ∧ W.cell? ⟨B, 2, none⟩ = some (.string wd) :=
 ⟨h.f.fn (i := 0) (by omega), h.f.fn (i := 1) (by omega), h.f.fn (i := 2) (by omega)⟩
/-- the memory behind a verdict -/
structure CfEnd (B : Nat) (v : Bool) (er : Int) (w W : World) : Prop where
 o : BoolBox W (B + 1) v
 e : ErrBox W (B + 2) er
 b : Below w.heap.size w W
 z : B = w.heap.size
theorem CfEnd.below {B : Nat} {v : Bool} {er : Int} {w W W' : World} (h : CfEnd B v er w W) (hb : Below W.heap.size W W') : CfEnd B v er w W' := ⟨h.o.below' hb, h.e.below' hb, h.b.trans (hb.mono h.b.size), h.z⟩
theorem CfEnd.put {B : Nat} {v : Bool} {er : Int} {w W : World} (h : CfEnd B v er w W) {k : Nat} (hk : B + 2 < k) (o : Obj) : CfEnd B v er w (W.putObj k o) := by
 have hk2 : Keep (fun j => j ≠ k) W (W.putObj k o) := (Keep.refl _ W).putObj (fun h => h rfl) o
 exact ⟨hk2.heap (by omega) h.o, hk2.heap (by omega) h.e, below_put h.b (by have := h.z; omega) o, h.z⟩
theorem CfEnd.mk' {B : Nat} {i s : Int} {wd : ByteArray} {w W : World} (h : CfSt B i s wd w W) (v : Bool) (er : Int) : CfEnd B v er w ((W.setCell ⟨B + 1, 0, none⟩ (.bool v)).setCell ⟨B + 2, 0, none⟩ (.int .i64 er)) := by
 have hz := h.z
 exact ⟨(h.o.set_ 0 (.bool v)).far (by simp) _, (h.e.far (by simp) _).set_ 0 (.int .i64 er), (h.b.setCell (by simp; omega) _).setCell (by simp; omega) _, h.z⟩
theorem S2_keep {B z : Nat} {W V : World} (hb : Below W.heap.size W V) (h1 : B + 2 < z) (h2 : z + 1 < W.heap.size) (v : Bool) (er : Int) : Keep (fun k => k = z ∨ k = z + 1) W ((V.setCell ⟨B + 1, 0, none⟩ (.bool v)).setCell ⟨B + 2, 0, none⟩ (.int .i64 er)) :=
 ((Keep.of_below' (K := fun k => k = z ∨ k = z + 1) hb).setCell (.inl (by simp; omega)) _).setCell (.inl (by simp; omega)) _
/-- a word up to a place -/
def okTo (t : Typ) (r : List Rng) (s : Nat) (w : List UInt8) (k : Nat) : Bool := profB t.kd t.least t.most w && decide (leastOf4 t r s ≤ (w.length : Int)) && (List.range k).all fun p => cutOf r s p (cl (w[p]?.getD 0))
theorem okTo_all (t : Typ) (r : List Rng) (s : Nat) (w : List UInt8) : okTo t r s w w.length = fitB t r s w := rfl
theorem okTo_zero (t : Typ) (r : List Rng) (s : Nat) (w : List UInt8) : okTo t r s w 0 = (profB t.kd t.least t.most w && decide (leastOf4 t r s ≤ (w.length : Int))) := by simp [okTo]
theorem okTo_succ (t : Typ) (r : List Rng) (s : Nat) (w : List UInt8) (k : Nat) : okTo t r s w (k + 1) = (okTo t r s w k && cutOf r s k (cl (w[k]?.getD 0))) := by
 simp [okTo, List.range_succ, Bool.and_assoc]
theorem okTo_false {t : Typ} {r : List Rng} {s : Nat} {w : List UInt8} {k : Nat} (hk : k ≤ w.length) (h : okTo t r s w k = false) : fitB t r s w = false := by
 rw [Bool.eq_false_iff] at h ⊢
 intro h1
 refine h ?_
 simp only [fitB, okTo, Bool.and_eq_true, List.all_eq_true, List.mem_range] at h1 ⊢
 exact ⟨h1.1, fun p hp => h1.2 p (by omega)⟩
theorem profB_lets {K : Kd} {least most : Int} {w : List UInt8} (h : profB K least most w = true) : w.all letC = true ∧ (w.length : Int) ≤ most := by
 simp only [profB, Bool.and_eq_true, decide_eq_true_eq] at h
 exact ⟨h.1.1.1.2, h.1.1.1.1.2⟩
set_option maxRecDepth 100000 in
set_option maxHeartbeats 1000000 in
theorem checkFit_no (a : Option Addr) (c : Nat) (l : List Typ) (ware : ByteArray) (ra : Option Addr) (rc : Nat) (r : List Rng) (i s : Int) (wd : ByteArray) (w : World) (h : Ask w a c l ra rc r) (h0 : wantedErr l ware r ≠ 0) :
  Calls Tryz.prog 58 #[.slice a l.length c, .string ware, .slice ra r.length rc, .agg (ftCells i s wd)] w fun e w' => e = .returned (checkFitOut l ware r i s wd) ∧ Below w.heap.size w w' := by
 obtain ⟨w1, hw1⟩ : ∃ w1, ((w.alloc (.cells (ftCells i s wd) 44)).alloc (.cells #[.bool false] 4)).alloc (.cells #[.int .i64 0] 25) = w1 := ⟨_, rfl⟩
 have st : CfSt w.heap.size i s wd w w1 := by
  rw [← hw1]
  exact ⟨((Box.new _ _ _).alloc _).alloc _, (Box.new' (by simp)).alloc _, Box.new' (by simp), by go_grown, rfl⟩
 have HA := Lib.hid (h.below st.b)
 have ST := Lib.hid st
 have HW := Lib.hid hw1
 have HE : Hid (checkFitOut l ware r i s wd = .tuple #[.bool false, .int .i64 (wantedErr l ware r)]) := Lib.hid (by unfold checkFitOut; rw [show (wantedErr l ware r == 0) = false by simpa using h0]; rfl)
 have hne : (wantedErr l ware r == 0) = false := by simpa using h0
 clear h st hw1
 go_enter Tryz.func58, Tryz.ntmps58
 go_upto_region 1 with fail
 simp only [HW.out]
 go_wp2_with fail
 refine (HA.out.wanted ware).mono ?_
 rintro e w2 ⟨rfl, hb2⟩
 have ST2 := Lib.hid (ST.out.below hb2)
 obtain ⟨r1, r2⟩ := ST2.out.o.rules
 obtain ⟨r3, r4⟩ := (ST2.out.e).rules
 clear hb2 HA ST
 go_wp2_with fail
 have HC := CfEnd.mk' ST2.out false (wantedErr l ware r)
 refine bodyPost_ret (results_cell2 rfl rfl rfl (loadv_bool HC.o) (loadv_err HC.e)) rfl ⟨by rw [HE.out], HC.b⟩
set_option maxRecDepth 100000 in
set_option maxHeartbeats 4000000 in
theorem checkFit_any (a : Option Addr) (c : Nat) (l : List Typ) (ware : ByteArray) (ra : Option Addr) (rc : Nat) (r : List Rng) (i s : Int) (wd : ByteArray) (hwd : wd.size ≤ 1000000) (w : World) (h : Ask w a c l ra rc r) :
  Calls Tryz.prog 58 #[.slice a l.length c, .string ware, .slice ra r.length rc, .agg (ftCells i s wd)] w fun e w' => e = .returned (checkFitOut l ware r i s wd) ∧ Below w.heap.size w w' := by
 by_cases h0 : wantedErr l ware r = 0
 rotate_left
 ·exact checkFit_no a c l ware ra rc r i s wd w h h0
 have hmf := run_mf Tryz.prog
 obtain ⟨hl, hr, -⟩ := wanted_good h0
 obtain ⟨w1, hw1⟩ : ∃ w1, ((w.alloc (.cells (ftCells i s wd) 44)).alloc (.cells #[.bool false] 4)).alloc (.cells #[.int .i64 0] 25) = w1 := ⟨_, rfl⟩
 have st : CfSt w.heap.size i s wd w w1 := by
  rw [← hw1]
  exact ⟨((Box.new _ _ _).alloc _).alloc _, (Box.new' (by simp)).alloc _, Box.new' (by simp), by go_grown, rfl⟩
 have gs1 : w1.heap.size = w.heap.size + 3 := by rw [← hw1]; simp
 have HA1 := Lib.hid (h.below st.b)
 have hwt := HA1.out.wanted ware
 rw [h0] at hwt
 have HWT := Lib.hid hwt
 have HA := Lib.hid h
 have ST := Lib.hid st
 have HW := Lib.hid hw1
 have GS1 := Lib.hid gs1
 have HE : Hid (checkFitOut l ware r i s wd = .tuple #[.bool (checkFitT l ware r i s wd), .int .i64 0]) := Lib.hid (by unfold checkFitOut; rw [h0]; rfl)
 have HGD := Lib.hid (typesErr_good hl)
 clear h st hw1 gs1 hwt h0
 refine (callsIn_wide (n := 0)).1 (callsIn_of_wp_marks Tryz.func58 rfl trivial ?_ rfl)
 simp only [Tryz.ntmps58, List.size_toArray, List.length_cons, List.length_nil, Nat.reduceAdd, Nat.reduceSub, Array.replicate_succ, Array.replicate_zero, List.push_toArray, List.append_toArray, List.nil_append, List.cons_append]
 gi_upto_region 1 with fail
 simp only [HW.out]
 gi_wp2_with (first
  | (gi_at_call 86; (with_reducible refine (callsIn_wide.2 HWT.out).mono ?_); rintro e w2 ⟨rfl, hb2⟩; have HB2 := Lib.hid hb2; clear hb2)
  | (gi_at_call 96; (with_reducible refine (callsIn_wide.2 (tries_any _ _ _ _ _ _ _ _)).mono ?_); rintro e w' ⟨rfl, rfl⟩))
 have hs2 : w.heap.size + 3 ≤ w2.heap.size := by have := HB2.out.size; have := GS1.out; omega
 obtain ⟨w4, hw4⟩ : ∃ w4, ((w2.alloc (.cells #[.slice a l.length c] 22)).alloc (.cells #[.string ware] 9)).alloc (.cells #[.slice ra r.length rc] 37) = w4 := ⟨_, rfl⟩
 have cap : TrCap a l.length c ware ra r.length rc w2.heap.size (w2.heap.size + 1) (w2.heap.size + 2) w4 := by
  rw [← hw4]
  exact ⟨((Box.new _ _ _).alloc _).alloc _, (Box.new' (by simp)).alloc _, Box.new' (by simp)⟩
 have hb4 : Below w2.heap.size w2 w4 := by rw [← hw4]; go_grown
 have gs4 : w4.heap.size = w2.heap.size + 3 := by rw [← hw4]; simp
 rw [hw4]
 have ST4 := Lib.hid ((ST.out.below HB2.out).below hb4)
 have CAP := Lib.hid cap
 have GS := Lib.hid gs4
 clear cap hb4 gs4 hw4 ST HB2 HW HWT HA1
 refine wpIn_tries (w0 := w) rfl hl hr HA.out.rcap CAP.out HA.out.ty HA.out.rg (fun _ _ => False) (fun pre W => CfSt w.heap.size i s wd w W ∧ ∀ x, x ∈ pre → ((x.1 : Int) == i && (x.2 : Int) == s) = false) (fun c _ W => c = .ret ∧ CfEnd w.heap.size (checkFitT l ware r i s wd) 0 w W) ?hB ?hC1 ?hC2 ?hC3 ?hC4 ?hC5 ?hI ?hI2 ?hIx ?hIx2 ?h0 11 ?assign ?body ?done ?stop
 case hB => exact fun s A h => h.1.b
 case hC1 => exact fun _ _ _ _ _ _ _ h => h
 case hC2 => exact fun _ _ _ _ _ h => h.elim
 case hC3 => exact fun _ _ => rfl
 case hC4 => exact fun _ _ _ => ⟨id, id⟩
 case hC5 => exact fun _ _ _ => ⟨id, id, id⟩
 case hI => exact fun s A B h hb => ⟨h.1.below hb, h.2⟩
 case hI2 =>
  rintro pre A o ⟨h1, h2⟩
  have hk : Keep (fun k => k ≠ w4.heap.size + 1) A (A.putObj (w4.heap.size + 1) o) := (Keep.refl _ A).putObj (fun h => h rfl) o
  have hz := GS.out
  exact ⟨⟨hk.heap (by omega) h1.f, hk.heap (by omega) h1.o, hk.heap (by omega) h1.e, below_put h1.b (by omega) o, h1.z⟩, h2⟩
 case hIx => exact fun c _ A B h hb => ⟨h.1, h.2.below hb⟩
 case hIx2 => exact fun c _ A o h => ⟨h.1, h.2.put (by have := GS.out; omega) o⟩
 case h0 => exact ⟨ST4.out, fun x hx => by cases hx⟩
 case assign =>
  intro lp T W W2 W3 K h1 h2 hk
  have H1 := Lib.hid h1
  have H2 := Lib.hid h2
  have HK := Lib.hid hk
  clear h1 h2 hk
  gi_wp2_with (simp only [ztry, H1.out]; refine wpListIn_store_box rfl 137 _ _ rfl rfl rfl H2.out ?_)
  exact HK.out
 case done =>
  rintro W ⟨hst, hno⟩ hD
  have HN : Hid (checkFitT l ware r i s wd = false) := Lib.hid (checkFit_bad hno)
  have S := Lib.hid hst
  obtain ⟨r1, r2⟩ := hst.o.rules
  obtain ⟨r3, r4⟩ := hst.e.rules
  have HD := Lib.hid hD
  clear hst hno hD
  gi_wp2_with fail
  have HC := CfEnd.mk' S.out false 0
  refine ⟨by simp, .inl ⟨_, _, rfl, run_takeDeferred (by
   have hk : Keep (fun k => k ≠ w.heap.size + 1 ∧ k ≠ w.heap.size + 2) W ((W.setCell ⟨w.heap.size + 1, 0, none⟩ (.bool false)).setCell ⟨w.heap.size + 2, 0, none⟩ (.int .i64 0)) := ((Keep.refl _ W).setCell (.inl (by simp)) _).setCell (.inl (by simp)) _
   exact hk.heap (by have := GS.out; omega) HD.out), ?_⟩⟩
  have HC2 := HC.put (k := w4.heap.size) (by have := GS.out; omega) (.deferred none)
  exact ⟨_, results_cell2 rfl rfl rfl (loadv_bool HC2.o) (loadv_err HC2.e), by rw [HE.out, HN.out], HC2.b⟩
 case stop =>
  rintro c pre W - ⟨rfl, he⟩ hD
  have HD := Lib.hid hD
  have E := Lib.hid he
  clear hD he
  gi_wp2_with fail
  refine ⟨by simp, .inl ⟨_, _, rfl, run_takeDeferred HD.out, ?_⟩⟩
  have HC2 := E.out.put (k := w4.heap.size) (by have := GS.out; omega) (.deferred none)
  exact ⟨_, results_cell2 rfl rfl rfl (loadv_bool HC2.o) (loadv_err HC2.e), by rw [HE.out], HC2.b⟩
 case body =>
  intro lp pre i0 s0 t tb W hi ht hpre hb htb hlt
  simp only [List.setIfInBounds_toArray, List.set_cons_succ, List.set_cons_zero]
  obtain ⟨hst, hno⟩ := hi
  have S := Lib.hid hst
  have NO := Lib.hid hno
  have TB := Lib.hid hb
  have HT := Lib.hid ht
  have HPRE := Lib.hid hpre
  have c1 := TryBox.index_ hb
  have c2 := TryBox.shift_ hb
  simp only [tryOf, kndOf] at c1 c2
  obtain ⟨d1, d2, d3⟩ := hst.cells
  clear hst hno hb ht hpre
  rcases h1 : ((i0 : Int) == i) with _ | _
  ·gi_wp2_with fail
   refine ⟨Keep.refl _ _, fun k h => h.elim, S.out, fun x hx => ?_⟩
   rcases List.mem_append.1 hx with hx | hx
   ·exact NO.out x hx
   ·simp at hx; subst hx; simp [h1]
  ·obtain rfl : (i0 : Int) = i := by simpa using h1
   clear h1
   rcases h2 : ((s0 : Int) == s) with _ | _
   ·gi_wp2_with fail
    refine ⟨Keep.refl _ _, fun k h => h.elim, S.out, fun x hx => ?_⟩
    rcases List.mem_append.1 hx with hx | hx
    ·exact NO.out x hx
    ·simp at hx; subst hx; simp [h2]
   ·obtain rfl : (s0 : Int) = s := by simpa using h2
    clear h2
    have hx : (i0, s0) ∈ triesOf l ware r := HPRE.out.subset (by simp)
    have HFT := Lib.hid (checkFit_at (wd := wd) HT.out hx)
    obtain ⟨hset, hl1, hlm, hm12⟩ := typeB_good (HGD.out.2 i0 t HT.out)
    have HM := Lib.hid hm12
    have HL := Lib.hid (TryBox.knd_ TB.out)
    have hhas : Calls Tryz.prog 101 #[.agg (kndCells (tryOf t i0 r s0).knd), .string wd] W fun e w' => e = .returned (.bool (profB t.kd t.least t.most (bl wd))) ∧ Below W.heap.size W w' := has_any (kndOf t i0) wd hwd hl1 W
    have HH := Lib.hid hhas
    clear hhas hset hl1 hlm hm12 hx
    gi_upto_region 7 with fail
    clear c1 c2
    gi_cut [12] from 99 (fun s12 wx => s12 = .bool (okTo t r s0 (bl wd) 0) ∧ Below W.heap.size W wx)
    case first =>
     have hlw : ((bl wd).length : Int) = (wd.size : Int) := by rw [bl_len]
     rcases hp : profB t.kd t.least t.most (bl wd) with _ | _
     ·have HN : Hid (okTo t r s0 (bl wd) 0 = false) := Lib.hid (by rw [okTo_zero, hp]; rfl)
      rw [hp] at HH
      clear hp hlw
      gi_wp2_with (first
       | (refine wpListIn_load_box rfl 111 _ rfl rfl HL.out ?_)
       | (gi_at_call 101; (with_reducible refine (CallsIn.inRound lp (callsIn_wide.2 HH.out)).mono ?_); rintro e v2 ⟨rfl, hb2⟩; have HB2 := Lib.hid hb2; clear hb2))
      gi_meet
      case rel => exact ⟨by rw [HN.out], HB2.out⟩
     ·rw [hp] at HH
      have hle : (tryOf t i0 r s0).least = leastOf4 t r s0 := rfl
      rcases hq : decide (leastOf4 t r s0 ≤ (wd.size : Int)) with _ | _
      ·have HN : Hid (okTo t r s0 (bl wd) 0 = false) := Lib.hid (by rw [okTo_zero, hlw, hq]; simp)
       clear hp hlw
       gi_wp2_with (first
        | (refine wpListIn_load_box rfl 111 _ rfl rfl HL.out ?_)
        | (gi_at_call 101; (with_reducible refine (CallsIn.inRound lp (callsIn_wide.2 HH.out)).mono ?_); rintro e v2 ⟨rfl, hb2⟩; have HB2 := Lib.hid hb2; have c3 := TryBox.least_ (TB.out.below' hb2); have d3 := (S.out.below hb2).cells.2.2; simp only [hle] at c3; clear hb2))
       gi_meet
       case rel => exact ⟨by rw [HN.out], HB2.out⟩
      ·have HN : Hid (okTo t r s0 (bl wd) 0 = true) := Lib.hid (by rw [okTo_zero, hlw, hq, hp]; rfl)
       clear hp hlw
       gi_wp2_with (first
        | (refine wpListIn_load_box rfl 111 _ rfl rfl HL.out ?_)
        | (gi_at_call 101; (with_reducible refine (CallsIn.inRound lp (callsIn_wide.2 HH.out)).mono ?_); rintro e v2 ⟨rfl, hb2⟩; have HB2 := Lib.hid hb2; have c3 := TryBox.least_ (TB.out.below' hb2); have d3 := (S.out.below hb2).cells.2.2; simp only [hle] at c3; clear hb2))
       gi_meet
       case rel => exact ⟨by rw [HN.out], HB2.out⟩
    case rest =>
     obtain ⟨rfl, hbc⟩ := hcut
     have SC := Lib.hid (S.out.below hbc)
     have TC := Lib.hid (TB.out.below' hbc)
     have HBC := Lib.hid hbc
     clear hbc d1 d2 d3 HL HH S TB
     gi_wp2_with fail
     gi_loopw [12, 13] (fun ov jv wz => ∃ j : Nat, j ≤ wd.size ∧ jv = .int .i64 j ∧ ov = .bool (okTo t r s0 (bl wd) j) ∧ CfSt w.heap.size i0 s0 wd w wz ∧ TryBox wz tb (tryOf t i0 r s0) ∧ Below W.heap.size W wz) (fun _ jv _ => wd.size - (intOf jv).toNat)
     case atStart => exact ⟨0, Nat.zero_le _, rfl, rfl, SC.out, TC.out, HBC.out⟩
     case round =>
      clear SC TC HBC
      obtain ⟨j, hj, rfl, rfl, sj, tj, bj⟩ := hrel
      have d3 := sj.cells.2.2
      have SJ := Lib.hid sj
      have TJ := Lib.hid tj
      have BJ := Lib.hid bj
      clear sj tj bj
      have hjend : (okTo t r s0 (bl wd) j = false ∨ j = wd.size) → okTo t r s0 (bl wd) j = fitB t r s0 (bl wd) := fun h => by
       rcases h with h | h
       ·rw [h, okTo_false (by rw [bl_len]; omega) h]
       ·subst h; rw [← bl_len, okTo_all]
      have HEND := Lib.hid hjend
      clear hjend
      rcases hok : okTo t r s0 (bl wd) j with _ | _
      ·have HF : Hid (checkFitT l ware r i0 s0 wd = false) := Lib.hid (by rw [HFT.out, ← HEND.out (.inl hok), hok])
       obtain ⟨r1, r2⟩ := SJ.out.o.rules
       obtain ⟨r3, r4⟩ := SJ.out.e.rules
       clear hok
       gi_wp2_with fail
       have HC := CfEnd.mk' SJ.out false 0
       refine ⟨?_, rfl, by rw [HF.out]; exact HC⟩
       have := S2_keep BJ.out (show w.heap.size + 2 < w4.heap.size by have := GS.out; omega) hlt false 0
       exact this
      ·by_cases hltj : j < wd.size
       ·have hpro : profB t.kd t.least t.most (bl wd) = true := by
         simp only [okTo, Bool.and_eq_true] at hok; exact hok.1.1
        obtain ⟨hlets, hmost⟩ := profB_lets hpro
        rw [bl_len] at hmost
        have hm12 := HM.out
        have hj12 : j < 12 := by omega
        obtain ⟨x, hx⟩ : ∃ x, wd[j] = x := ⟨_, rfl⟩
        have hlx : letC x = true := by rw [← hx]; exact List.all_eq_true.1 hlets wd[j] (List.mem_of_getElem? (bl_at wd hltj))
        obtain ⟨cc, hc26, hcl, hce, hcw⟩ := byte_class hlx
        have hnx := okTo_succ t r s0 (bl wd) j
        rw [hok, bl_at wd hltj, hx, Option.getD_some, hcl, Bool.true_and] at hnx
        have HNX := Lib.hid hnx
        have hji : (j : Int) < (wd.size : Int) := by omega
        have hj0 : (0 : Int) ≤ (j : Int) := by omega
        have hj1 : (j : Int) < 12 := by omega
        have hci : (cc : Int) < 26 := by omega
        have hc0 : (0 : Int) ≤ (cc : Int) := by omega
        have hcv : IntKind.u8.wrap (cc : Int) = (cc : Int) := by rw [hce] at hcw; exact hcw
        have hg1 : wd[j]? = some x := by rw [← hx]; exact getElem?_pos wd j hltj
        have HOK := Lib.hid hok
        clear hpro hlets hlx hok hnx
        gi_upto_region 11 with fail
        refine wpIn_region_heldB_round 11 [] (by kernel_rfl) (by kernel_rfl) (by kernel_rfl) (by kernel_rfl) (by simp) ?_
        intro S hS
        have k0 : ∀ A, S A → A.cell? ⟨w.heap.size, 2, none⟩ = some (.string wd) ∧ A.cell? ⟨tb, 763 + j * 26 + cc, none⟩ = some (.bool (cutOf r s0 j cc)) := fun A hA =>
         ⟨(SJ.out.below (hS A hA)).cells.2.2, TryBox.cutAt (TJ.out.below' (hS A hA)) hj12 hc26⟩
        have K0 := Lib.hid k0
        have HS := Lib.hid hS
        clear hS k0
        simp only [List.take_succ_cons, List.take_zero, List.drop_succ_cons, List.drop_zero]
        repeat (first
         | (refine held_not rfl (by rfl) ?_; try (dsimp only); try simp only [Act.put, List.setIfInBounds_toArray, List.set_cons_zero, List.set_cons_succ])
         | (refine held_val (v := ?_) rfl (by rfl) ?_ ?_; rotate_left; (· (intro W hW; obtain ⟨q0, q1⟩ := K0.out W hW; go_simp; try with_reducible rfl)); try (dsimp only); try simp only [Act.put, List.setIfInBounds_toArray, List.set_cons_zero, List.set_cons_succ])
         | (refine held_skip rfl (by rfl) ?_ ?_; (· (intro W hW; obtain ⟨q0, q1⟩ := K0.out W hW; go_simp; try with_reducible rfl)); try (dsimp only); try simp only [Act.put, List.setIfInBounds_toArray, List.set_cons_zero, List.set_cons_succ]))
        refine held_nil ?_
        intro τ hτ W4 hW hO
        obtain rfl := laid0 hτ
        have HB4 := Lib.hid (HS.out W4 hW)
        clear hτ hO hW K0 HS
        simp only [overs, List.foldl_nil]
        gi_wp2_with fail
        go_roundw
        case rel => exact ⟨j + 1, by omega, by go_num, by rw [HNX.out], SJ.out.below HB4.out, TJ.out.below' HB4.out, BJ.out.trans (HB4.out.mono BJ.out.size)⟩
        case measure => simp [intOf]; omega
       ·have hjn : decide ((j : Int) < (wd.size : Int)) = false := decide_eq_false (by omega)
        have HF : Hid (checkFitT l ware r i0 s0 wd = true) := Lib.hid (by rw [HFT.out, ← HEND.out (.inr (by omega)), hok])
        obtain ⟨r1, r2⟩ := SJ.out.o.rules
        obtain ⟨r3, r4⟩ := SJ.out.e.rules
        clear hok
        gi_wp2_with fail
        have HC := CfEnd.mk' SJ.out true 0
        refine ⟨?_, rfl, by rw [HF.out]; exact HC⟩
        have := S2_keep BJ.out (show w.heap.size + 2 < w4.heap.size by have := GS.out; omega) hlt true 0
        exact this
end Go.Proofs.YthpjffhccjlnhaaGreatDoor
