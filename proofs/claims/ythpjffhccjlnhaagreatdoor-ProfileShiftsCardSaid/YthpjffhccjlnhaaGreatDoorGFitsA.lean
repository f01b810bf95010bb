/- The reference: Fits: all fits of rings by a ware. Few profiles. -/
import Derived.Test.YthpjffhccjlnhaaGreatDoorGFitsR
import Derived.Test.YthpjffhccjlnhaaGreatDoorGRows4
set_option linter.unusedSimpArgs false
set_option linter.unusedVariables false
namespace Go.Proofs.YthpjffhccjlnhaaGreatDoor
open Go.RowKit
attribute [local go_sem] Oper.semAt_some

def mkFt (i k : Nat) (w : List Nat) : Ft := ⟨i, k, w⟩
def fitsFor (l : List Typ) (r : List Rng) (pre : List (Nat × Nat)) : List Ft := pre.flatMap fun x => (fitsAt l r x).map fun w => ⟨x.1, x.2, w⟩
theorem fitsFor_all (l : List Typ) (ware : ByteArray) (r : List Rng) : fitsFor l r (triesOf l ware r) = fitsT l ware r := (fitsT_eq l ware r).symm
theorem fitsFor_snoc {l : List Typ} {r : List Rng} {pre : List (Nat × Nat)} {i k : Nat} {t : Typ} (ht : l[i]? = some t) : fitsFor l r (pre ++ [(i, k)]) = fitsFor l r pre ++ (fitsOf t r k).map (mkFt i k) := by
 unfold fitsFor
 rw [List.flatMap_append, List.flatMap_singleton]
 congr 1
 simp only [fitsAt, ht]; rfl
/-- types with few profiles -/
def FewL (l : List Typ) : Prop := l.length ≤ 4 ∧ ∀ t, t ∈ l → FewT t
theorem few_m {t : Typ} (h : FewT t) : t.m ≤ 6 := by have := h.most; unfold Typ.m; omega
theorem few_fits {t : Typ} (ht : t.sets = true) (h : FewT t) (r : List Rng) (k : Nat) : (fitsOf t r k).length ≤ 10000 := by
 rw [← wordsR_nil]; exact wordsR_len ht (few_m h) h.after r k []
theorem fitsFor_len {l : List Typ} (hte : typesErr l = 0) (hf : FewL l) (r : List Rng) (pre : List (Nat × Nat)) : (fitsFor l r pre).length ≤ pre.length * 10000 := by
 induction pre with
 | nil => simp [fitsFor]
 | cons x L ih =>
  unfold fitsFor at ih ⊢
  rw [List.flatMap_cons, List.length_append, List.length_map, List.length_cons, Nat.succ_mul]
  have h1 : (fitsAt l r x).length ≤ 10000 := by
   unfold fitsAt
   rcases ht : l[x.1]? with _ | t
   ·simp
   ·exact few_fits (typeB_good (types_at hte ht)).1 (hf.2 t (List.mem_of_getElem? ht)) r x.2
  omega
theorem tries_few {l : List Typ} {ware : ByteArray} {r : List Rng} (hte : typesErr l = 0) (hg : RgOk r) (h4 : l.length ≤ 4) : (triesOf l ware r).length ≤ 52 := by
 have key : ∀ k, k ≤ l.length → (triesTo l ware r k).length ≤ k * 13 := by
  intro k
  induction k with
  | zero => intro _; exact Nat.le_refl _
  | succ k ih =>
   intro hk
   obtain ⟨t, ht⟩ : ∃ t, l[k]? = some t := ⟨l[k], by simp⟩
   obtain ⟨_, _, _, hm⟩ := typeB_good (types_at hte ht)
   have hsh := shifts_le7 (t := t) (r := r) hm hg
   have := ih (by omega)
   by_cases hw : t.ware = ware
   ·rw [triesTo_yes ht hw, List.length_append, List.length_map, List.length_range]; omega
   ·rw [triesTo_no ht hw]; omega
 have := key l.length (Nat.le_refl _)
 rw [triesTo_all] at this; omega
/-- a row of fits that grows -/
structure FtSt (w : World) (v : Value) (L : List Ft) (W : World) : Prop where
 o : W.ownsRow w.heap.size 44 3 v L.length (ftRows L)
 b : Below w.heap.size w W
theorem FtSt.below {w : World} {v : Value} {L : List Ft} {W W' : World} (h : FtSt w v L W) (hb : Below W.heap.size W W') : FtSt w v L W' :=
 ⟨ownsRow_keep h.o (Keep.of_below' (K := fun _ => True) hb) (fun _ _ => trivial), h.b.trans (hb.mono h.b.size)⟩
/-- a row that is not in the one that grows -/
def RwR (W : World) (v : Value) (fa : Option Addr) (F : List Value) : Prop := ∀ (q : Nat) x, F[q]? = some x → ∃ b o, fa = some ⟨b, o, none⟩ ∧ W.cell? ⟨b, o + q, none⟩ = some x ∧ v.ownBlock ≠ some b
theorem FtSt.app {w : World} {v : Value} {L : List Ft} {W : World} (h : FtSt w v L W) (hl : L.length + 1 ≤ 1000000) (f : Ft) {fa : Option Addr} {F : List Value} (hw : RwR W v fa F) :
  ∃ a' c' U, (Instr.buildSlice 51 1 #[(0, .agg (ftCells f.type f.shift (mkB (toS f.word))))]).run Tryz.prog W = .ok (.slice (some ⟨W.heap.size, 0, none⟩) 1 1) (W.alloc (.cells (ftCells f.type f.shift (mkB (toS f.word))) 44)) ∧
   (Builtin.append_ #[51, 51] 51 #[v, .slice (some ⟨W.heap.size, 0, none⟩) 1 1]).run Tryz.prog (W.alloc (.cells (ftCells f.type f.shift (mkB (toS f.word))) 44)) = .ok (.slice a' (L.length + 1) c') U ∧
   FtSt w (.slice a' (L.length + 1) c') (L ++ [f]) U ∧ RwR U (.slice a' (L.length + 1) c') fa F := by
 have hbs := run_bslice (P := Tryz.prog) (T := 51) Tryz.underlying51 info_ft2 (by omega) (by omega) (v := .agg (ftCells f.type f.shift (mkB (toS f.word)))) (g := ftF f.type f.shift (mkB (toS f.word))) rfl W
 obtain ⟨v', U, hrun, hown, hbU, hkU, hoU⟩ := app_fn (P := Tryz.prog) (TT := 51) Tryz.underlying51 info_ft rfl (by omega) (by omega) h.o hl h.b.size (ftF f.type f.shift (mkB (toS f.word))) (fun j _ => ftF_one _ _ _ j)
 obtain ⟨a', c', rfl, -, -⟩ := ownsRow_own hown
 refine ⟨a', c', U, hbs, hrun, ⟨?_, h.b.trans hbU⟩, fun q x hx => ?_⟩
 ·have e : ftRows (L ++ [f]) = ftRows L ++ (fnCells 3 (ftF f.type f.shift (mkB (toS f.word)))).toList := by
   unfold ftRows
   rw [List.flatMap_append, List.flatMap_singleton]; rfl
  rw [e, List.length_append, List.length_singleton]
  exact hown
 ·obtain ⟨b, o, h1, h2, h3⟩ := hw q x hx
  have hb := lt_of_cell h2
  refine ⟨b, o, h1, hkU.cell h3 h2, fun e => ?_⟩
  rcases hoU b e with g | g
  ·exact h3 g
  ·omega
set_option maxRecDepth 100000 in
set_option maxHeartbeats 4000000 in
theorem fitsA_any (a : Option Addr) (c : Nat) (l : List Typ) (ware : ByteArray) (ra : Option Addr) (rc : Nat) (r : List Rng) (w : World) (h : Ask w a c l ra rc r) (h0 : wantedErr l ware r = 0) (hf : FewL l) :
  Calls Tryz.prog 94 #[.slice a l.length c, .string ware, .slice ra r.length rc] w fun e w' => ∃ fa fc, e = .returned (.slice fa (fitsT l ware r).length fc) ∧ RowOwn w.heap.size w' fa (ftRows (fitsT l ware r)) ∧ (fitsT l ware r).length ≤ fc ∧ Below w.heap.size w w' := by
 have HA := Lib.hid h
 have hll := h.tlen
 have ST := Lib.hid (show FtSt w (.slice none 0 0) (fitsFor l r (triesTo l ware r 0)) w from ⟨ownsRow_nil _ _ _ _, Below.refl _ _⟩)
 obtain ⟨hte, hre⟩ := wanted_typ h0
 have HG := Lib.hid (RgOk.of hre)
 have HTE := Lib.hid hte
 have HF := Lib.hid hf
 clear h h0 hte hre hf
 go_enter Tryz.func94, Tryz.ntmps94
 go_wp2_with fail
 go_loopw [7, 8, 9, 10, 11] (fun ov iv _ _ _ wr => ∃ i : Nat, i ≤ l.length ∧ iv = .int .i64 i ∧ FtSt w ov (fitsFor l r (triesTo l ware r i)) wr) (fun _ iv _ _ _ _ => l.length - (intOf iv).toNat)
 case atStart => exact ⟨0, Nat.zero_le _, rfl, ST.out⟩
 case round =>
  clear ST
  obtain ⟨i, hi, rfl, st⟩ := hrel
  have ST := Lib.hid st
  clear st
  by_cases hlt : i < l.length
  rotate_left
  ·have hin : decide ((i : Int) < (l.length : Int)) = false := by simp; omega
   have hin2 : decide (i < l.length) = false := decide_eq_false hlt
   have o1 := ST.out.o
   rw [show triesTo l ware r i = triesOf l ware r by rw [show i = l.length by omega, triesTo_all], fitsFor_all] at o1
   obtain ⟨a', c', rfl, hro, hcap⟩ := ownsRow_own o1
   have HRO := Lib.hid hro
   have HCP := Lib.hid hcap
   clear o1 hro hcap
   go_wp2_with fail
   go_ret
   exact ⟨a', c', rfl, HRO.out, HCP.out, ST.out.b⟩
  obtain ⟨t, ht⟩ : ∃ t, l[i]? = some t := ⟨l[i], by simp [hlt]⟩
  have hki : (i : Int) < (l.length : Int) := by omega
  have hk0 : (0 : Int) ≤ (i : Int) := by omega
  have hsm := HA.out.sm t (List.mem_of_getElem? ht)
  obtain ⟨hts, h1, hlm, hm12⟩ := typeB_good (types_at HTE.out ht)
  have HTY := Lib.hid (show t.sets = true ∧ 1 ≤ t.least ∧ t.least ≤ t.most ∧ t.most ≤ 12 from ⟨hts, h1, hlm, hm12⟩)
  have HT := Lib.hid ht
  have HFW := Lib.hid (HF.out.2 t (List.mem_of_getElem? ht))
  have HSM := Lib.hid hsm
  have hsh := shifts_le7 hm12 HG.out
  have HSH := Lib.hid (fun W (hW : RngsAt W ra r) => shiftsR_any t ra rc r ⟨by omega, hm12⟩ HG.out W hW)
  have HM := Lib.hid (show t.most = (t.m : Int) by unfold Typ.m; omega)
  have ST0 := Lib.hid (show FtSt w _ (fitsFor l r (pre7 l ware r i 0)) wr by rw [preZ7]; exact ST.out)
  clear hts h1 hlm hm12 hsm ht ST
  go_wp2_with fail
  go_loopw [7, 9, 10, 11] (fun ov sv _ _ wr => ∃ k : Nat, k ≤ shiftsOf t r ∧ sv = .int .i64 k ∧ (k = 0 ∨ t.ware = ware) ∧ FtSt w ov (fitsFor l r (pre7 l ware r i k)) wr) (fun _ sv _ _ _ => shiftsOf t r - (intOf sv).toNat)
  case atStart => exact ⟨0, Nat.zero_le _, rfl, .inl rfl, ST0.out⟩
  case round =>
   clear ST0
   obtain ⟨k, hk, rfl, hkw, st⟩ := hrel
   have ST := Lib.hid st
   obtain ⟨tb, tq, rfl, hat⟩ := (HA.out.ty.below st.b) i t HT.out
   have HL := Lib.hid hat.load
   have HKW := Lib.hid hkw
   have hk1 : k ≤ 1000 := by omega
   clear st hkw
   go_wp2_with (refine wpList_load_box rfl 71 _ rfl rfl HL.out ?_)
   clear HL
   refine (HSH.out _ (HA.out.rg.below ST.out.b)).mono ?_
   rintro e w4 ⟨rfl, hb4⟩
   have HAT := Lib.hid (hat.below hb4)
   have ST4 := Lib.hid (ST.out.below hb4)
   clear hb4 ST hat
   have f1 := HAT.out.fields.2.1
   rcases q3 : (t.ware.toList == ware.toList) with _ | _
   ·have hk00 : k = 0 := by
     rcases HKW.out with h | h
     ·exact h
     ·exact absurd h (ware_ne q3)
    have HNX := Lib.hid (show pre7 l ware r i k = triesTo l ware r (i + 1) by rw [triesTo_no HT.out (ware_ne q3), hk00, preZ7])
    clear hk00
    by_cases hks : k < shiftsOf t r
    ·have q4 : decide (k < shiftsOf t r) = true := decide_eq_true hks
     have q5 : decide ((k : Int) < ((shiftsOf t r : Nat) : Int)) = true := decide_eq_true (by omega)
     go_wp2_with fail
     go_roundw
     case rel => exact ⟨i + 1, by omega, by go_num, by rw [← HNX.out]; exact ST4.out⟩
     case measure => simp [intOf]; omega
    ·have q4 : decide (k < shiftsOf t r) = false := decide_eq_false hks
     have q5 : decide ((k : Int) < ((shiftsOf t r : Nat) : Int)) = false := decide_eq_false (by omega)
     go_wp2_with fail
     go_roundw
     case rel => exact ⟨i + 1, by omega, by go_num, by rw [← HNX.out]; exact ST4.out⟩
     case measure => simp [intOf]; omega
   have hwe := ware_eq q3
   by_cases hks : k < shiftsOf t r
   rotate_left
   ·have hkn : decide ((k : Int) < ((shiftsOf t r : Nat) : Int)) = false := by simp; omega
    have hkn2 : decide (k < shiftsOf t r) = false := decide_eq_false hks
    have HNX := Lib.hid (show pre7 l ware r i k = triesTo l ware r (i + 1) by rw [triesTo_yes HT.out hwe, show shiftsOf t r = k by omega]; rfl)
    go_wp2_with fail
    go_roundw
    case rel => exact ⟨i + 1, by omega, by go_num, by rw [← HNX.out]; exact ST4.out⟩
    case measure => simp [intOf]; omega
   have hkl : decide ((k : Int) < ((shiftsOf t r : Nat) : Int)) = true := by simp; omega
   have hkl2 : decide (k < shiftsOf t r) = true := decide_eq_true hks
   have HL := Lib.hid (TypAt.load HAT.out)
   have hlf := fitsR_any t HSM.out HTY.out.1 HTY.out.2.1 HM.out (few_m HFW.out) HFW.out.after ra rc r HG.out k hks hk1 t.m [] (by simp) (by simp) w4 (HA.out.rg.below ST4.out.b)
   unfold FitsRPost at hlf
   obtain ⟨F, hF⟩ : ∃ F, fitsOf t r k = F := ⟨_, rfl⟩
   rw [wordsR_nil, hF] at hlf
   have HLE := Lib.hid (show Calls Tryz.prog 140 #[.agg (typCells t), .slice ra r.length rc, .int .i64 (k : Int), .string ByteArray.empty] w4 _ from hlf)
   have hF1 : F.length ≤ 10000 := by rw [← hF]; exact few_fits HTY.out.1 HFW.out r k
   have hlen : (fitsFor l r (pre7 l ware r i k)).length ≤ 520000 := by
    have h1 := fitsFor_len HTE.out HF.out r (pre7 l ware r i k)
    have h2 := (tries_pre (r := r) HT.out hwe hks).length_le
    have h3 := tries_few (ware := ware) HTE.out HG.out HF.out.1
    unfold pre7 at h1 ⊢
    rw [List.length_append] at h2
    omega
   have HFS := Lib.hid (show fitsFor l r (pre7 l ware r i (k + 1)) = fitsFor l r (pre7 l ware r i k) ++ F.map (mkFt i k) by rw [preS7, fitsFor_snoc HT.out, hF])
   clear hlf hF
   go_wp2_with (refine wpList_load_box rfl 71 _ rfl rfl HL.out ?_)
   clear HL
   refine HLE.out.mono ?_
   rintro e w5 ⟨fa, fc, rfl, hro, hsc, hb5⟩
   clear HLE
   obtain ⟨L, hL⟩ : ∃ L, fitsFor l r (pre7 l ware r i k) = L := ⟨_, rfl⟩
   rw [hL] at ST4 HFS hlen
   have HWE := Lib.hid hwe
   have ST5 := Lib.hid (show FtSt w _ (L ++ (F.take 0).map (mkFt i k)) w5 by rw [List.take_zero, List.map_nil, List.append_nil]; exact ST4.out.below hb5)
   have WD5 := Lib.hid (show RwR w5 _ fa (F.map wordV) from fun q x hx => by
    obtain ⟨b, o, g1, g2, g3, _⟩ := hro q x hx
    exact ⟨b, o, g1, g3, fun e => by have := (ST4.out.o.lt b e).2; omega⟩)
   clear hro hsc hb5 hL hwe ST4
   go_wp2_with fail
   go_loopw [7, 11] (fun ov qv wr => ∃ q : Nat, q ≤ F.length ∧ qv = .int .i64 q ∧ FtSt w ov (L ++ (F.take q).map (mkFt i k)) wr ∧ RwR wr ov fa (F.map wordV)) (fun _ qv _ => F.length - (intOf qv).toNat)
   case atStart => exact ⟨0, Nat.zero_le _, rfl, ST5.out, WD5.out⟩
   case round =>
    clear ST5 WD5 HAT f1
    obtain ⟨q, hq, rfl, st, wd⟩ := hrel
    have ST := Lib.hid st
    have WD := Lib.hid wd
    clear st wd
    by_cases hql : q < F.length
    rotate_left
    ·have hqn : decide ((q : Int) < (F.length : Int)) = false := by simp; omega
     have hqn2 : decide (q < F.length) = false := decide_eq_false hql
     have HN := Lib.hid (show L ++ (F.take q).map (mkFt i k) = fitsFor l r (pre7 l ware r i (k + 1)) by rw [HFS.out, List.take_of_length_le (by omega)])
     go_wp2_with fail
     go_roundw
     case rel => exact ⟨k + 1, by omega, by go_num, .inr HWE.out, by rw [← HN.out]; exact ST.out⟩
     case measure => simp [intOf]; omega
    obtain ⟨x, hx⟩ : ∃ x, F[q]? = some x := ⟨F[q], by simp [hql]⟩
    obtain ⟨wb, wo, rfl, hc1, -⟩ := WD.out q (wordV x) (by rw [List.getElem?_map, hx]; rfl)
    have hc1' : wr.cell? ⟨wb, wo + q, none⟩ = some (.string (mkB (toS x))) := hc1
    have hqi : (q : Int) < (F.length : Int) := by omega
    have hq0 : (0 : Int) ≤ (q : Int) := by omega
    have happ := ST.out.app (by rw [List.length_append, List.length_map, List.length_take]; omega) (mkFt i k x) WD.out
    obtain ⟨nn, hnn⟩ : ∃ nn, (L ++ (F.take q).map (mkFt i k)).length = nn := ⟨_, rfl⟩
    rw [hnn] at happ
    obtain ⟨a', c', U, hbs, hrun, hst, hwd⟩ := happ
    have HBD := Lib.hid (run_build_ft (i : Int) (k : Int) (mkB (toS x)) wr)
    have HBS := Lib.hid (show (Instr.buildSlice 51 1 #[(0, .agg (ftCells (i : Int) (k : Int) (mkB (toS x))))]).run Tryz.prog wr = .ok (.slice (some ⟨wr.heap.size, 0, none⟩) 1 1) (wr.alloc (.cells (ftCells (i : Int) (k : Int) (mkB (toS x))) 44)) from hbs)
    have HRUN := Lib.hid (show (Builtin.append_ #[51, 51] 51 #[_, .slice (some ⟨wr.heap.size, 0, none⟩) 1 1]).run Tryz.prog (wr.alloc (.cells (ftCells (i : Int) (k : Int) (mkB (toS x))) 44)) = .ok (.slice a' (nn + 1) c') U from hrun)
    have STN := Lib.hid (show FtSt w (.slice a' (nn + 1) c') (L ++ (F.take (q + 1)).map (mkFt i k)) U by
     rw [List.take_add_one, hx, List.map_append, ← List.append_assoc]; exact hst)
    have WDN := Lib.hid hwd
    clear hbs hrun hst hwd hc1 hx hnn
    go_wp2_with (first
     | (refine wpList_build rfl (v := .agg (ftCells i k (mkB (toS x)))) 44 _ rfl (by simp only [List.map_toArray, List.map_cons, List.map_nil]; exact HBD.out) ?_)
     | (apply wpList_bsl (T := 51) (n := 1) (hr := HBS.out); (· rfl); (· (simp only [List.map_toArray, List.map_cons, List.map_nil]; rfl)))
     | (at_builtin; refine wpList_app rfl _ _ _ rfl rfl rfl HRUN.out ?_))
    refine ⟨⟨q + 1, by omega, by go_num, STN.out, WDN.out⟩, ?_⟩
    simp [intOf]; omega
end Go.Proofs.YthpjffhccjlnhaaGreatDoor
