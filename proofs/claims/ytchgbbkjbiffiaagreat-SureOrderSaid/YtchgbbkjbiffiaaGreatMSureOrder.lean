/- SureOrder: the answers do not hang on the parts' order: the law returns true for every input, and its arguments read as before. No condition. -/
/- SureOrder: the statement. -/
import Derived.Test.YtchgbbkjbiffiaaGreatMOrder
import Derived.Test.YtchgbbkjbiffiaaGreatMLaw
import Derived.Test.YtchgbbkjbiffiaaGreatMGrid
import Derived.Test.YtchgbbkjbiffiaaGreatMFind
import Derived.Test.YtchgbbkjbiffiaaGreatMHeld
import Derived.ProofKit
import Derived.JoinedCond
set_option linter.unusedSimpArgs false
set_option linter.unusedVariables false
namespace Go.Proofs.YtchgbbkjbiffiaaGreat
open Go.RowKit
attribute [local go_sem] Oper.semAt_some

theorem below_cellB {w w' : World} {B : Nat} (hb : Below B w w') {b o : Nat} {v : Value} (hB : b < B) (h : w.cell? ⟨b, o, none⟩ = some v) : w'.cell? ⟨b, o, none⟩ = some v := (hb.cell (p := ⟨b, o, none⟩) hB).trans h
theorem exec_skip_store {P : Program} {o : Oper} {a : Act} {w w' : World} (ty : TypeId) (x y : Operand) (ho : o.op = .store ty x y) {p v : Value} (hx : a.eval x = p) (hy : a.eval y = v) (hr : (Instr.storeAt ty p v).run P w = .ok () w') : (execOp a.eval o).run P w = .ok .skip w' := exec_store ty x y ho hx hy hr
set_option maxRecDepth 100000 in
set_option maxHeartbeats 4000000 in
theorem sureOrder_any (c : Cs) (hf : c.Fit) (pa : Option Addr) (pc : Nat) (_ : c.parts.length ≤ pc) (na : Option Addr) (l : List Int) (nc : Nat) (hk : l.length ≤ nc) (hm : nc ≤ maxLen) (w : World) (hp : PartsAt w pa c.parts) (hi : Ints w na l) :
    Calls Tryz.prog 7 #[.agg #[.string c.ware, .int .i64 c.limit, .int .i64 c.by_, .slice pa c.parts.length pc], .slice na l.length nc] w fun e w' => e = .returned (.bool true) ∧ Below w.heap.size w w' := by
  have hll : l.length ≤ maxLen := Nat.le_trans hk hm
  unfold maxLen at hll
  obtain ⟨w1, hw1, hB1, b1⟩ := box_case w c pa pc
  have e1 : ∀ i, w1.cell? ⟨w.heap.size, i, none⟩ = (#[.string c.ware, .int .i64 c.limit, .int .i64 c.by_, .slice pa c.parts.length pc] : Array Value)[i]? := b1.cell
  have HFW := Lib.hid (few_any c hf pa pc w1 (hp.below hB1))
  have HP := Lib.hid hp
  have HI := Lib.hid hi
  have HW := Lib.hid hw1
  have HB1 := Lib.hid hB1
  have HX := Lib.hid b1
  have HAL := Lib.hid alive_any
  clear hw1 hB1 b1 hp hi
  rcases hfb : fewB c with _ | _
  · rw [hfb] at HFW
    go_enter Tryz.func7, Tryz.ntmps7
    go_upto_region 1 with fail
    simp only [HW.out]
    go_wp2_with fail
    (with_reducible refine HFW.out.mono ?_)
    rintro e w2 ⟨rfl, hb2⟩
    have HB2 := Lib.hid (HB1.out.trans (hb2.mono HB1.out.size))
    have HX2 := Lib.hid (HX.out.below' hb2)
    clear hb2 e1
    go_wp2_with fail
    (with_reducible refine (HAL.out _).mono ?_)
    rintro e w3 ⟨rfl, hb3⟩
    have HB3 := Lib.hid (HB2.out.trans (hb3.mono HB2.out.size))
    clear hb3
    go_wp2_with fail
    go_ret
    exact ⟨rfl, HB3.out⟩
  rw [hfb] at HFW
  have hsm := few_small hfb
  have h10 : c.parts.length ≤ 10 := hsm.1
  by_cases hln : l.length = c.parts.length
  · have HLN := Lib.hid hln
    have hlb : ((l.length : Int) != (c.parts.length : Int)) = false := by simp [hln]
    clear hln hf
    go_enter Tryz.func7, Tryz.ntmps7
    go_upto_region 1 with fail
    simp only [HW.out]
    go_wp2_with fail
    (with_reducible refine HFW.out.mono ?_)
    rintro e w2 ⟨rfl, hb2⟩
    have HB2 := Lib.hid (HB1.out.trans (hb2.mono HB1.out.size))
    have HX2 := Lib.hid (HX.out.below' hb2)
    clear hb2 e1
    have e1 : ∀ i, w2.cell? ⟨w.heap.size, i, none⟩ = (#[.string c.ware, .int .i64 c.limit, .int .i64 c.by_, .slice pa c.parts.length pc] : Array Value)[i]? := HX2.out.cell
    go_upto_region 5 with fail
    obtain ⟨w3, hw3⟩ : ∃ w3, w2.alloc (.cells #[.string c.ware, .int .i64 c.limit, .int .i64 c.by_, .slice none 0 0] 24) = w3 := ⟨_, rfl⟩
    have g1 : Box w3 w2.heap.size #[.string c.ware, .int .i64 c.limit, .int .i64 c.by_, .slice none 0 0] 24 := by rw [← hw3]; exact Box.new _ _ _
    have gb : Below w2.heap.size w2 w3 := by rw [← hw3]; exact (Below.refl _ w2).alloc (Nat.le_refl _) _
    have gs : w2.heap.size + 1 ≤ w3.heap.size := by rw [← hw3]; simp
    rw [hw3]
    have hgx := HX2.out.below' gb
    have hlx := HX2.out.lt
    generalize w2.heap.size = g at *
    have hw : Below w.heap.size w w3 := HB2.out.trans (gb.mono (by have := HB2.out.size; omega))
    have HG1 := Lib.hid g1
    have HGW := Lib.hid hw
    have HGX := Lib.hid hgx
    clear g1 hw hgx gb HX2 HB2 hw3 e1
    go_wp2_with fail
    go_loopw [34] (fun iv wr => ∃ (i : Nat) (s : List Nat) (ps : List Prt) (v : Value), i ≤ l.length ∧ iv = .int .i64 i ∧ OrdI c l i s ps ∧ OrdSt w (g + 1) wr v ps ∧ Box wr g #[.string c.ware, .int .i64 c.limit, .int .i64 c.by_, v] 24 ∧ Box wr w.heap.size (csCells c pa pc) 24 ∧ Below w.heap.size w wr ∧ g + 1 ≤ wr.heap.size) (fun iv _ => l.length - (intOf iv).toNat)
    case atStart => exact ⟨0, [], [], _, Nat.zero_le _, rfl, OrdI.nil c l, OrdSt.nil _ _ _, HG1.out, HGX.out, HGW.out, gs⟩
    case round =>
      clear HG1 HGX HGW gs
      obtain ⟨i, s, ps, v, hi, rfl, hoi, hos, hbg, hbx, hbw, hgs⟩ := hrel
      have HOI := Lib.hid hoi
      have HOS := Lib.hid hos
      have HBG := Lib.hid hbg
      have HBX := Lib.hid hbx
      have HBW := Lib.hid hbw
      clear hoi hos hbg hbx hbw
      by_cases hil : i < l.length
      · have hili : (i : Int) < (l.length : Int) := by omega
        obtain ⟨x, hx⟩ := get_of_lt l hil
        obtain ⟨ob, oo, hna, hcell⟩ := order_get (HI.out.below HBW.out) hil
        subst hna
        have c1 := hcell i x hx
        have HXX := Lib.hid hx
        clear hcell hx
        by_cases h0 : x < 0
        · go_wp2_with fail
          (with_reducible refine (HAL.out _).mono ?_)
          rintro e w3 ⟨rfl, hb3⟩
          have HB3 := Lib.hid (HBW.out.trans (hb3.mono HBW.out.size))
          clear hb3
          go_wp2_with fail
          go_ret
          exact ⟨rfl, HB3.out⟩
        · by_cases h1 : (l.length : Int) ≤ x
          · go_wp2_with fail
            (with_reducible refine (HAL.out _).mono ?_)
            rintro e w3 ⟨rfl, hb3⟩
            have HB3 := Lib.hid (HBW.out.trans (hb3.mono HBW.out.size))
            clear hb3
            go_wp2_with fail
            go_ret
            exact ⟨rfl, HB3.out⟩
          · obtain ⟨k, rfl⟩ := Int.eq_ofNat_of_zero_le (show 0 ≤ x by omega)
            have hkl : k < l.length := by omega
            have hcn := fun W (hW : Below wr.heap.size wr W) => contains_any (some ⟨ob, oo, none⟩) i (l.take i) (k : Int) W (ints_take ((HI.out.below HBW.out).below hW) i) (by rw [List.length_take]; have := HLN.out; omega)
            rw [show (l.take i).length = i by rw [List.length_take]; omega] at hcn
            rcases hc : (l.take i).contains (k : Int) with _ | _
            · rw [hc] at hcn
              have HCN := Lib.hid hcn
              have HCC := Lib.hid hc
              clear hcn hc
              go_upto_region 10 with (go_at_call 37; (with_reducible refine (HCN.out _ (Below.refl _ _)).mono ?_); rintro e w4 ⟨rfl, hb4⟩; have HB4 := Lib.hid hb4; clear hb4)
              clear c1 HCN
              have hkn : k < c.parts.length := by have := HLN.out; omega
              have hkni : (k : Int) < (c.parts.length : Int) := by omega
              have hW4 : Below w.heap.size w w4 := HBW.out.trans (HB4.out.mono HBW.out.size)
              have hg4 : g + 1 ≤ w4.heap.size := Nat.le_trans hgs HB4.out.size
              obtain ⟨pb, po, p, hpa, hpk, hpt⟩ := (HP.out.below hW4).at_ hkn
              subst hpa
              obtain ⟨sa, sc, ra, rc, p0, p1, p2, p3, p4, p5, p6, p7, ps1, ps2, ps3, ps4⟩ := hpt.open
              obtain ⟨b0, o0, p', hpa', hpk', hpt'⟩ := HP.out.at_ hkn
              have hpb : pb < g := by
                obtain ⟨_, _, _, _, q0, _⟩ := hpt'.open
                have := lt_of_cell q0
                cases hpa'
                omega
              have hpc := HBX.out.below' HB4.out
              have hgc := HBG.out.below' HB4.out
              have c3 : w4.cell? ⟨w.heap.size, 3, none⟩ = some (.slice (some ⟨pb, po, none⟩) c.parts.length pc) := by rw [hpc.cell]; rfl
              have c4 : w4.cell? ⟨g, 3, none⟩ = some v := by rw [hgc.cell]; rfl
              have hpush := ord_push (p := p) (sa := sa) (ra := ra) (sc := sc) (rc := rc) ((HOS.out.keep (K := fun _ => True) (Keep.of_below' HB4.out) (fun _ _ => trivial)).keep (K := fun _ => True) ((Keep.refl (fun _ => True) w4).drew) (fun _ _ => trivial)) (by rw [HOI.out.plen]; have := HLN.out; omega) (show g + 1 ≤ w4.drew.heap.size from hg4)
              obtain ⟨sa2, sc2, ra2, rc2, q0, q1, q2, q3, q4, q5, q6, q7, qs1, qs2, qs3, qs4⟩ := hpt'.open
              cases hpa'
              have hpp : p' = p := by rw [hpk] at hpk'; exact (Option.some.inj hpk').symm
              subst hpp
              have e0 := below_cell hW4 q0
              have e7 := below_cell hW4 q7
              rw [p0] at e0
              rw [p7] at e7
              injection e0 with e0
              injection e7 with e7
              injection e0 with e0 _ e02
              injection e7 with e7 _ e72
              subst e0 e02 e7 e72
              obtain ⟨v', U, hrun, hos2, hbU⟩ := hpush qs1 qs2 qs3 qs4
              have hxl : w.heap.size < g := hlx
              have k0 : ∀ A, Below (g + 1) w4 A → A.cell? ⟨g, 3, none⟩ = some v ∧ A.cell? ⟨w.heap.size, 3, none⟩ = some (.slice (some ⟨pb, po, none⟩) c.parts.length pc) ∧
                  A.cell? ⟨pb, po + k * 8, none⟩ = some (.slice sa p'.sherds.length sc) ∧ A.cell? ⟨pb, po + k * 8 + 1, none⟩ = some (.int .i64 p'.span.low) ∧ A.cell? ⟨pb, po + k * 8 + 2, none⟩ = some (.int .i64 p'.span.high) ∧ A.cell? ⟨pb, po + k * 8 + 3, none⟩ = some (.int .i64 p'.span.lowBy) ∧ A.cell? ⟨pb, po + k * 8 + 4, none⟩ = some (.int .i64 p'.span.highBy) ∧ A.cell? ⟨pb, po + k * 8 + 5, none⟩ = some (.bool p'.foot) ∧ A.cell? ⟨pb, po + k * 8 + 6, none⟩ = some (.int .i64 p'.footBy) ∧ A.cell? ⟨pb, po + k * 8 + 7, none⟩ = some (.slice ra p'.rests.length rc) := fun A hA =>
                ⟨below_cellB hA (by omega) c4, below_cellB hA (by omega) c3, below_cellB hA (by omega) p0, below_cellB hA (by omega) p1, below_cellB hA (by omega) p2, below_cellB hA (by omega) p3, below_cellB hA (by omega) p4, below_cellB hA (by omega) p5, below_cellB hA (by omega) p6, below_cellB hA (by omega) p7⟩
              have K0 := Lib.hid k0
              have HRUN := Lib.hid hrun
              have HOS2 := Lib.hid hos2
              have HBU := Lib.hid hbU
              have HPK := Lib.hid hpk
              have HW4 := Lib.hid hW4
              have HGC := Lib.hid hgc
              have HPC := Lib.hid hpc
              clear k0 hrun hos2 hbU hpk hW4 hgc hpc c3 c4 p0 p1 p2 p3 p4 p5 p6 p7 q0 q1 q2 q3 q4 q5 q6 q7 qs1 qs2 qs3 qs4 ps1 ps2 ps3 ps4 hpk' hpt hpt' hpush
              refine wp_region_L (fun A => Below (g + 1) w4 A) 10 (by kernel_rfl) ?_
              have hSS : Below (g + 1) w4 w4.drew := (Below.refl _ w4).drew
              refine anyL_take (i := 0) (v := ?_) (by kernel_rfl) rfl (by kernel_rfl) (by kernel_rfl) (by kernel_rfl) (by kernel_rfl) (fun _ _ _ h => h) (by rfl) ?_ hSS ?_
              rotate_left
              · (intro W hW; obtain ⟨q0, q1, q2, q3, q4, q5, q6, q7, q8, q9⟩ := K0.out W hW; go_simp; try with_reducible rfl)
              try (dsimp only); try simp only [Act.put, List.setIfInBounds_toArray, List.set_cons_zero, List.set_cons_succ]
              refine anyL_take (i := 1) (v := ?_) (by kernel_rfl) rfl (by kernel_rfl) (by kernel_rfl) (by kernel_rfl) (by kernel_rfl) (fun _ _ _ h => h) (by rfl) ?_ hSS ?_
              rotate_left
              · (intro W hW; obtain ⟨q0, q1, q2, q3, q4, q5, q6, q7, q8, q9⟩ := K0.out W hW; go_simp; try with_reducible rfl)
              try (dsimp only); try simp only [Act.put, List.setIfInBounds_toArray, List.set_cons_zero, List.set_cons_succ]
              refine anyL_take (i := 2) (v := ?_) (by kernel_rfl) rfl (by kernel_rfl) (by kernel_rfl) (by kernel_rfl) (by kernel_rfl) (fun _ _ _ h => h) (by rfl) ?_ hSS ?_
              rotate_left
              · (intro W hW; obtain ⟨q0, q1, q2, q3, q4, q5, q6, q7, q8, q9⟩ := K0.out W hW; go_simp; try with_reducible rfl)
              try (dsimp only); try simp only [Act.put, List.setIfInBounds_toArray, List.set_cons_zero, List.set_cons_succ]
              refine anyL_take (i := 3) (v := ?_) (by kernel_rfl) rfl (by kernel_rfl) (by kernel_rfl) (by kernel_rfl) (by kernel_rfl) (fun _ _ _ h => h) (by rfl) ?_ hSS ?_
              rotate_left
              · (intro W hW; obtain ⟨q0, q1, q2, q3, q4, q5, q6, q7, q8, q9⟩ := K0.out W hW; go_simp; try with_reducible rfl)
              try (dsimp only); try simp only [Act.put, List.setIfInBounds_toArray, List.set_cons_zero, List.set_cons_succ]
              refine anyL_take (i := 4) (v := ?_) (by kernel_rfl) rfl (by kernel_rfl) (by kernel_rfl) (by kernel_rfl) (by kernel_rfl) (fun _ _ _ h => h) (by rfl) ?_ hSS ?_
              rotate_left
              · (intro W hW; obtain ⟨q0, q1, q2, q3, q4, q5, q6, q7, q8, q9⟩ := K0.out W hW; go_simp; try with_reducible rfl)
              try (dsimp only); try simp only [Act.put, List.setIfInBounds_toArray, List.set_cons_zero, List.set_cons_succ]
              refine anyL_take (i := 5) (v := ?_) (by kernel_rfl) rfl (by kernel_rfl) (by kernel_rfl) (by kernel_rfl) (by kernel_rfl) (fun _ _ _ h => h) (by rfl) ?_ hSS ?_
              rotate_left
              · (intro W hW; obtain ⟨q0, q1, q2, q3, q4, q5, q6, q7, q8, q9⟩ := K0.out W hW; go_simp; try with_reducible rfl)
              try (dsimp only); try simp only [Act.put, List.setIfInBounds_toArray, List.set_cons_zero, List.set_cons_succ]
              refine anyL_take (i := 6) (v := ?_) (by kernel_rfl) rfl (by kernel_rfl) (by kernel_rfl) (by kernel_rfl) (by kernel_rfl) (fun _ _ _ h => h) (by rfl) ?_ hSS ?_
              rotate_left
              · (intro W hW; obtain ⟨q0, q1, q2, q3, q4, q5, q6, q7, q8, q9⟩ := K0.out W hW; go_simp; try with_reducible rfl)
              try (dsimp only); try simp only [Act.put, List.setIfInBounds_toArray, List.set_cons_zero, List.set_cons_succ]
              refine anyL_run (i := 7) (v := .slice (some ⟨w4.heap.size, 0, none⟩) 1 1) (w' := w4.drew.alloc (.cells (prtCells p' sa sc ra rc).toArray 61)) rfl (by kernel_rfl) (by rfl) ?_ (.inr (hSS.alloc hg4 _)) ?_
              · go_simp
                rfl
              try (dsimp only); try simp only [Act.put, List.setIfInBounds_toArray, List.set_cons_zero, List.set_cons_succ]
              refine anyL_run (i := 8) (v := v') (w' := U) rfl (by kernel_rfl) (by rfl) ?_ (.inr (hSS.trans HBU.out)) ?_
              · refine exec_app (v := v) (u := .slice (some ⟨w4.heap.size, 0, none⟩) 1 1) _ _ 22 rfl (by rfl) (by rfl) ?_
                exact HRUN.out
              try (dsimp only); try simp only [Act.put, List.setIfInBounds_toArray, List.set_cons_zero, List.set_cons_succ]
              refine anyL_run (i := 9) (v := .pointer (some ⟨g, 3, none⟩)) (w' := U) rfl (by kernel_rfl) (by rfl) ?_ (.inr (hSS.trans HBU.out)) ?_
              · go_simp
                try with_reducible rfl
              try (dsimp only); try simp only [Act.put, List.setIfInBounds_toArray, List.set_cons_zero, List.set_cons_succ]
              have hbU4 : Below (g + 1) w4 U := hSS.trans HBU.out
              have hgU := HGC.out.below hbU4 (by omega)
              have hpU := HPC.out.below hbU4 (by omega)
              have hwU : Below w.heap.size w U := HW4.out.trans (hbU4.mono (by omega))
              obtain ⟨av, cv, hv', hpat, hcv⟩ := ord_parts HOS2.out hwU
              subst hv'
              have hsU := hbU4.size
              obtain ⟨f1, f2⟩ := hgU.rules
              refine anyL_skip (i := 10) (w' := U.setCell ⟨g, 3, none⟩ (.slice av (ps ++ [p']).length cv)) rfl (by kernel_rfl) (by rfl) ?_ (.inl rfl) ?_
              · go_simp
                try with_reducible rfl
              try (dsimp only); try simp only [Act.put, List.setIfInBounds_toArray, List.set_cons_zero, List.set_cons_succ]
              refine anyL_done (by kernel_rfl) ?_ _
              have HGU := Lib.hid (hgU.set_ 3 (.slice av (ps ++ [p']).length cv))
              have HPU := Lib.hid (hpU.far (p := ⟨g, 3, none⟩) (by simp; omega) (.slice av (ps ++ [p']).length cv))
              have HWU := Lib.hid (hwU.setCell (p := ⟨g, 3, none⟩) (by simp; omega) (.slice av (ps ++ [p']).length cv))
              have HOU := Lib.hid (HOS2.out.keep (K := fun k => k ≠ g) ((Keep.refl _ U).setCell (p := ⟨g, 3, none⟩) (.inl (by simp)) (.slice av (ps ++ [p']).length cv)) (fun k hk => by omega))
              have hsz : g + 1 ≤ (U.setCell ⟨g, 3, none⟩ (.slice av (ps ++ [p']).length cv)).heap.size := by simp [World.setCell]; omega
              clear hgU hpU hwU f1 f2 hpat hcv hbU4 hSS K0 HRUN
              generalize U.setCell ⟨g, 3, none⟩ (.slice av (ps ++ [p']).length cv) = w6 at *
              go_wp2_with fail
              go_roundw
              case rel => exact ⟨i + 1, s ++ [k], ps ++ [p'], _, by omega, by go_num, HOI.out.step HXX.out HPK.out HCC.out, HOU.out, HGU.out, HPU.out, HWU.out, hsz⟩
              case measure => simp [intOf]; omega
            · rw [hc] at hcn
              have HCN := Lib.hid hcn
              clear hcn hc
              go_upto_region 9 with (go_at_call 37; (with_reducible refine (HCN.out _ (Below.refl _ _)).mono ?_); rintro e w4 ⟨rfl, hb4⟩; have HBW := Lib.hid (HBW.out.trans (hb4.mono HBW.out.size)); clear hb4)
              clear c1 HCN
              go_wp2_with fail
              (with_reducible refine (HAL.out _).mono ?_)
              rintro e w3 ⟨rfl, hb3⟩
              have HB3 := Lib.hid (HBW.out.trans (hb3.mono HBW.out.size))
              clear hb3
              go_wp2_with fail
              go_ret
              exact ⟨rfl, HB3.out⟩
      · have hie : i = c.parts.length := by have := HLN.out; omega
        subst hie
        have hpl := HOI.out.plen
        obtain ⟨da, dc, hv, hdp, hdc⟩ := ord_parts HOS.out HBW.out
        rw [hpl] at hv hdc
        subst hv
        have R := HOI.out.reord
        have hsd := reord_small R hsm
        have hra := reord_ask R rfl rfl
        have hrk := reord_check R rfl rfl
        have hrc := R.count
        have HOV := Lib.hid (fun (j : Nat) (hj : j < c.parts.length) => HOI.out.val hj)
        have HNL := Lib.hid (fun (j : Nat) (hj : j < c.parts.length) => R.nlt hj)
        have HRA := Lib.hid (fun (a b : Nat) (ha : a < c.parts.length) (hb : b < c.parts.length) => R.ans ha hb)
        have hcn := fun W h => (count_any c hsm pa pc W h).mono (fun (e : Ending) (w' : World) ⟨h1, h2⟩ => (⟨h2, h1⟩ : e = Ending.returned (.tuple #[.int .i64 (if checkCase c = 0 then ((allR c).length : Int) else 0), .int .i64 (checkCase c)]) ∧ Below W.heap.size W w'))
        have hcd := fun W h => (count_any { c with parts := ps } hsd da dc W h).mono (fun (e : Ending) (w' : World) ⟨h1, h2⟩ => (⟨h2, h1⟩ : e = Ending.returned (.tuple #[.int .i64 (if checkCase { c with parts := ps } = 0 then ((allR { c with parts := ps }).length : Int) else 0), .int .i64 (checkCase { c with parts := ps })]) ∧ Below W.heap.size W w'))
        rw [hrk, ← hrc] at hcd
        have han := fun W h => answers_any c hsm pa pc W h
        have had := fun W h => answers_any { c with parts := ps } hsd da dc W h
        rw [hra] at had
        dsimp only at hcd had
        rw [hpl] at hcd had
        have HCN := Lib.hid hcn
        have HCD := Lib.hid hcd
        have HDP := Lib.hid hdp
        clear hcn hcd hra hrk hrc hsd R hdp
        generalize (if checkCase c = 0 then ((allR c).length : Int) else 0) = nn at *
        generalize checkCase c = ee at *
        by_cases hz : askErr c [] = 0
        · have HAN := Lib.hid (fun W h => (han W h).mono (fun (e : Ending) (w' : World) hh => (by
            obtain ⟨hb, ⟨h, _⟩ | ⟨_, v, he, hr⟩⟩ := hh
            · exact absurd hz h
            · obtain ⟨a, cap, rfl, _⟩ := hr.at_
              have hm : (ansRows c).length = c.parts.length := ansRowsTo_len _ _
              rw [hm] at he hr
              exact ⟨a, cap, he, hr, hb⟩ : ∃ (a : Option Addr) (cap : Nat), e = Ending.returned (.tuple #[.slice a c.parts.length cap, .int .i64 0]) ∧ RowsG 65 W.heap.size (fun b => W.heap.size ≤ b) w' (.slice a c.parts.length cap) (ansRows c) ∧ Below W.heap.size W w')))
          have HAD := Lib.hid (fun W h => (had W h).mono (fun (e : Ending) (w' : World) hh => (by
            obtain ⟨hb, ⟨h, _⟩ | ⟨_, v, he, hr⟩⟩ := hh
            · exact absurd hz h
            · obtain ⟨a, cap, rfl, _⟩ := hr.at_
              have hm : (ansRows { c with parts := ps }).length = c.parts.length := (ansRowsTo_len _ _).trans hpl
              rw [hm] at he hr
              exact ⟨a, cap, he, hr, hb⟩ : ∃ (a : Option Addr) (cap : Nat), e = Ending.returned (.tuple #[.slice a c.parts.length cap, .int .i64 0]) ∧ RowsG 65 W.heap.size (fun b => W.heap.size ≤ b) w' (.slice a c.parts.length cap) (ansRows { c with parts := ps }) ∧ Below W.heap.size W w')))
          have HPL := Lib.hid hpl
          clear han had hz hpl
          have e1 : ∀ i, wr.cell? ⟨w.heap.size, i, none⟩ = (#[.string c.ware, .int .i64 c.limit, .int .i64 c.by_, .slice pa c.parts.length pc] : Array Value)[i]? := HBX.out.cell
          go_wp2_with fail
          (with_reducible refine (HAN.out _ (HP.out.below HBW.out)).mono ?_)
          rintro e wr ⟨la, lc, rfl, hr, hbn⟩
          have HL := Lib.hid hr
          clear hr
          have HBX := Lib.hid (HBX.out.below' hbn)
          have HBG := Lib.hid (HBG.out.below' hbn)
          have HDP := Lib.hid (HDP.out.below hbn)
          have HBW := Lib.hid (HBW.out.trans (hbn.mono HBW.out.size))
          clear hbn
          try clear e1
          have e1 : ∀ i, wr.cell? ⟨g, i, none⟩ = (#[.string c.ware, .int .i64 c.limit, .int .i64 c.by_, .slice da c.parts.length dc] : Array Value)[i]? := HBG.out.cell
          go_wp2_with fail
          (with_reducible refine (HAD.out _ HDP.out).mono ?_)
          rintro e wr ⟨ma, mc, rfl, hr, hbn⟩
          have HM := Lib.hid hr
          have HL := Lib.hid (HL.out.below hbn)
          clear hr
          have HBX := Lib.hid (HBX.out.below' hbn)
          have HBG := Lib.hid (HBG.out.below' hbn)
          have HDP := Lib.hid (HDP.out.below hbn)
          have HBW := Lib.hid (HBW.out.trans (hbn.mono HBW.out.size))
          clear hbn
          try clear e1
          have e1 : ∀ i, wr.cell? ⟨w.heap.size, i, none⟩ = (#[.string c.ware, .int .i64 c.limit, .int .i64 c.by_, .slice pa c.parts.length pc] : Array Value)[i]? := HBX.out.cell
          go_wp2_with fail
          (with_reducible refine (HCN.out _ (HP.out.below HBW.out)).mono ?_)
          rintro e wr ⟨rfl, hbn⟩
          have HM := Lib.hid (HM.out.below hbn)
          have HL := Lib.hid (HL.out.below hbn)
          have HBX := Lib.hid (HBX.out.below' hbn)
          have HBG := Lib.hid (HBG.out.below' hbn)
          have HDP := Lib.hid (HDP.out.below hbn)
          have HBW := Lib.hid (HBW.out.trans (hbn.mono HBW.out.size))
          clear hbn
          try clear e1
          have e1 : ∀ i, wr.cell? ⟨g, i, none⟩ = (#[.string c.ware, .int .i64 c.limit, .int .i64 c.by_, .slice da c.parts.length dc] : Array Value)[i]? := HBG.out.cell
          go_wp2_with fail
          (with_reducible refine (HCD.out _ HDP.out).mono ?_)
          rintro e wr ⟨rfl, hbn⟩
          have HM := Lib.hid (HM.out.below hbn)
          have HL := Lib.hid (HL.out.below hbn)
          have HBX := Lib.hid (HBX.out.below' hbn)
          have HBG := Lib.hid (HBG.out.below' hbn)
          have HDP := Lib.hid (HDP.out.below hbn)
          have HBW := Lib.hid (HBW.out.trans (hbn.mono HBW.out.size))
          clear hbn
          try clear e1
          go_wp2_with fail
          obtain ⟨wq, hwq⟩ : ∃ wq : World, wq = wr := ⟨_, rfl⟩
          subst hwq
          go_loopw [109] (fun iv wx => ∃ i : Nat, i ≤ c.parts.length ∧ iv = .int .i64 i ∧ Below wq.heap.size wq wx) (fun iv _ => c.parts.length - (intOf iv).toNat)
          case atStart => exact ⟨0, Nat.zero_le _, rfl, Below.refl _ _⟩
          case round =>
            obtain ⟨i, hi, rfl, hbi⟩ := hrel
            have HBI := Lib.hid hbi
            clear hbi
            by_cases hil : i < c.parts.length
            · have hin : (i : Int) < (c.parts.length : Int) := by omega
              go_wp2_with fail
              go_loopw [114] (fun jv wx => ∃ j : Nat, j ≤ c.parts.length ∧ jv = .int .i64 j ∧ Below wq.heap.size wq wx) (fun jv _ => c.parts.length - (intOf jv).toNat)
              case atStart => exact ⟨0, Nat.zero_le _, rfl, HBI.out⟩
              case round =>
                clear HBI
                obtain ⟨j, hj, rfl, hbj⟩ := hrel
                have HBJ := Lib.hid hbj
                clear hbj
                by_cases hjl : j < c.parts.length
                · have hjn : (j : Int) < (c.parts.length : Int) := by omega
                  have hsi := HNL.out i hil
                  have hsj := HNL.out j hjl
                  have hsin : ((nth s i : Nat) : Int) < (c.parts.length : Int) := by omega
                  have hsjn : ((nth s j : Nat) : Int) < (c.parts.length : Int) := by omega
                  have hbq : Below w.heap.size w wr := HBW.out.trans (HBJ.out.mono HBW.out.size)
                  obtain ⟨ob, oo, hna, hcell⟩ := order_get (HI.out.below hbq) (show i < l.length by have := HLN.out; omega)
                  subst hna
                  have d3 := hcell i _ (HOV.out i hil)
                  have d4 := hcell j _ (HOV.out j hjl)
                  obtain ⟨b, o, b2, o2, rc, hma, d1, d2⟩ := grid_at (c := { c with parts := ps }) (HM.out.below HBJ.out) (i := i) (j := j) (by have := HPL.out; dsimp only; omega) (by have := HPL.out; dsimp only; omega)
                  dsimp only at d1
                  rw [HPL.out] at d1
                  subst hma
                  obtain ⟨b3, o3, b4, o4, rc4, hla, d5, d6⟩ := grid_at (HL.out.below HBJ.out) hsi hsj
                  subst hla
                  rw [← HRA.out i j hil hjl] at d6
                  have hlli : (i : Int) < (l.length : Int) := by have := HLN.out; omega
                  have hllj : (j : Int) < (l.length : Int) := by have := HLN.out; omega
                  have HC := Lib.hid (And.intro d1 (And.intro d2 (And.intro d3 (And.intro d4 (And.intro d5 d6)))))
                  clear d1 d2 d3 d4 d5 d6 hcell hbq
                  generalize nth s i = si at *
                  generalize nth s j = sj at *
                  generalize ansAt { c with parts := ps } i j = av at *
                  have hav : (av != av) = false := by simp
                  go_wp2_with fail
                  refine wp_region_heldB 44 [] (by kernel_rfl) (by kernel_rfl) (by kernel_rfl) (by simp) ?_
                  intro S hS
                  have k0 := fun W (h : S W) => (⟨below_cell (hS W h) HC.out.1, below_cell (hS W h) HC.out.2.1, below_cell (hS W h) HC.out.2.2.1, below_cell (hS W h) HC.out.2.2.2.1, below_cell (hS W h) HC.out.2.2.2.2.1, below_cell (hS W h) HC.out.2.2.2.2.2⟩ : _ ∧ _ ∧ _ ∧ _ ∧ _ ∧ _)
                  have K0 := Lib.hid k0
                  have HSS := Lib.hid hS
                  clear k0 hS
                  simp only [List.take_succ_cons, List.take_zero, List.drop_succ_cons, List.drop_zero]
                  repeat (first
                    | (refine held_not rfl (by rfl) ?_; try (dsimp only); try simp only [Act.put, List.setIfInBounds_toArray, List.set_cons_zero, List.set_cons_succ])
                    | (refine held_val (v := ?_) rfl (by rfl) ?_ ?_; rotate_left; (· (intro W hW; obtain ⟨q0, q1, q2, q3, q4, q5⟩ := K0.out W hW; go_simp; try with_reducible rfl)); try (dsimp only); try simp only [Act.put, List.setIfInBounds_toArray, List.set_cons_zero, List.set_cons_succ])
                    | (refine held_skip rfl (by rfl) ?_ ?_; (· (intro W hW; obtain ⟨q0, q1, q2, q3, q4, q5⟩ := K0.out W hW; go_simp; try with_reducible rfl)); try (dsimp only); try simp only [Act.put, List.setIfInBounds_toArray, List.set_cons_zero, List.set_cons_succ]))
                  refine held_nil ?_
                  intro τ hτ wn hW hO
                  obtain rfl := laid0 hτ
                  have HBN := Lib.hid (HBJ.out.trans ((HSS.out wn hW).mono HBJ.out.size))
                  clear hτ hO hW K0 HSS
                  simp only [overs, List.foldl_nil]
                  go_wp2_with fail
                  go_roundw
                  case rel => exact ⟨j + 1, by omega, by go_num, HBN.out⟩
                  case measure => simp [intOf]; omega
                · go_wp2_with fail
                  go_roundw
                  case rel => exact ⟨i + 1, by omega, by go_num, HBJ.out⟩
                  case measure => simp [intOf]; omega
            · have HBW := Lib.hid (HBW.out.trans (HBI.out.mono HBW.out.size))
              go_wp2_with fail
              (with_reducible refine (HAL.out _).mono ?_)
              rintro e w3 ⟨rfl, hb3⟩
              have HB3 := Lib.hid (HBW.out.trans (hb3.mono HBW.out.size))
              clear hb3
              go_wp2_with fail
              go_ret
              exact ⟨rfl, HB3.out⟩
        · have HAN := Lib.hid (fun W h => (han W h).mono (fun (e : Ending) (w' : World) hh => (by
            obtain ⟨hb, ⟨_, he⟩ | ⟨h, _⟩⟩ := hh
            · exact ⟨he, hb⟩
            · exact absurd h hz : e = Ending.returned (.tuple #[.slice none 0 0, .int .i64 (askErr c [])]) ∧ Below W.heap.size W w')))
          have HAD := Lib.hid (fun W h => (had W h).mono (fun (e : Ending) (w' : World) hh => (by
            obtain ⟨hb, ⟨_, he⟩ | ⟨h, _⟩⟩ := hh
            · exact ⟨he, hb⟩
            · exact absurd h hz : e = Ending.returned (.tuple #[.slice none 0 0, .int .i64 (askErr c [])]) ∧ Below W.heap.size W w')))
          clear han had hz hpl HNL HRA HOV
          generalize askErr c [] = er at *
          have e1 : ∀ i, wr.cell? ⟨w.heap.size, i, none⟩ = (#[.string c.ware, .int .i64 c.limit, .int .i64 c.by_, .slice pa c.parts.length pc] : Array Value)[i]? := HBX.out.cell
          go_wp2_with fail
          (with_reducible refine (HAN.out _ (HP.out.below HBW.out)).mono ?_)
          rintro e wr ⟨rfl, hbn⟩
          have HBX := Lib.hid (HBX.out.below' hbn)
          have HBG := Lib.hid (HBG.out.below' hbn)
          have HDP := Lib.hid (HDP.out.below hbn)
          have HBW := Lib.hid (HBW.out.trans (hbn.mono HBW.out.size))
          clear hbn
          try clear e1
          have e1 : ∀ i, wr.cell? ⟨g, i, none⟩ = (#[.string c.ware, .int .i64 c.limit, .int .i64 c.by_, .slice da c.parts.length dc] : Array Value)[i]? := HBG.out.cell
          go_wp2_with fail
          (with_reducible refine (HAD.out _ HDP.out).mono ?_)
          rintro e wr ⟨rfl, hbn⟩
          have HBX := Lib.hid (HBX.out.below' hbn)
          have HBG := Lib.hid (HBG.out.below' hbn)
          have HDP := Lib.hid (HDP.out.below hbn)
          have HBW := Lib.hid (HBW.out.trans (hbn.mono HBW.out.size))
          clear hbn
          try clear e1
          have e1 : ∀ i, wr.cell? ⟨w.heap.size, i, none⟩ = (#[.string c.ware, .int .i64 c.limit, .int .i64 c.by_, .slice pa c.parts.length pc] : Array Value)[i]? := HBX.out.cell
          go_wp2_with fail
          (with_reducible refine (HCN.out _ (HP.out.below HBW.out)).mono ?_)
          rintro e wr ⟨rfl, hbn⟩
          have HBX := Lib.hid (HBX.out.below' hbn)
          have HBG := Lib.hid (HBG.out.below' hbn)
          have HDP := Lib.hid (HDP.out.below hbn)
          have HBW := Lib.hid (HBW.out.trans (hbn.mono HBW.out.size))
          clear hbn
          try clear e1
          have e1 : ∀ i, wr.cell? ⟨g, i, none⟩ = (#[.string c.ware, .int .i64 c.limit, .int .i64 c.by_, .slice da c.parts.length dc] : Array Value)[i]? := HBG.out.cell
          go_wp2_with fail
          (with_reducible refine (HCD.out _ HDP.out).mono ?_)
          rintro e wr ⟨rfl, hbn⟩
          have HBX := Lib.hid (HBX.out.below' hbn)
          have HBG := Lib.hid (HBG.out.below' hbn)
          have HDP := Lib.hid (HDP.out.below hbn)
          have HBW := Lib.hid (HBW.out.trans (hbn.mono HBW.out.size))
          clear hbn
          try clear e1
          go_wp2_with fail
          obtain ⟨wq, hwq⟩ : ∃ wq : World, wq = wr := ⟨_, rfl⟩
          subst hwq
          go_loopw [109] (fun iv wx => iv = .int .i64 0 ∧ wq = wx) (fun _ _ => 0)
          case atStart => exact ⟨rfl, rfl⟩
          case round =>
            obtain ⟨rfl, rfl⟩ := hrel
            go_wp2_with fail
            (with_reducible refine (HAL.out _).mono ?_)
            rintro e w3 ⟨rfl, hb3⟩
            have HB3 := Lib.hid (HBW.out.trans (hb3.mono HBW.out.size))
            clear hb3
            go_wp2_with fail
            go_ret
            exact ⟨rfl, HB3.out⟩
  · have hlb : ((l.length : Int) != (c.parts.length : Int)) = true := by simp; omega
    clear hln hf
    go_enter Tryz.func7, Tryz.ntmps7
    go_upto_region 1 with fail
    simp only [HW.out]
    go_wp2_with fail
    (with_reducible refine HFW.out.mono ?_)
    rintro e w2 ⟨rfl, hb2⟩
    have HB2 := Lib.hid (HB1.out.trans (hb2.mono HB1.out.size))
    have HX2 := Lib.hid (HX.out.below' hb2)
    clear hb2 e1
    have e1 : ∀ i, w2.cell? ⟨w.heap.size, i, none⟩ = (#[.string c.ware, .int .i64 c.limit, .int .i64 c.by_, .slice pa c.parts.length pc] : Array Value)[i]? := HX2.out.cell
    go_wp2_with fail
    (with_reducible refine (HAL.out _).mono ?_)
    rintro e w3 ⟨rfl, hb3⟩
    have HB3 := Lib.hid (HB2.out.trans (hb3.mono HB2.out.size))
    clear hb3
    go_wp2_with fail
    go_ret
    exact ⟨rfl, HB3.out⟩
end Go.Proofs.YtchgbbkjbiffiaaGreat
namespace Go.Proofs.YtchgbbkjbiffiaaGreat.SureOrderEnd
open Go.ChangeShapes Go.WideShapes Go.ChangeAt Go.RowKit

theorem own : ownKnob Tryz.prog.godebug = none := by kernel_rfl

set_option maxRecDepth 100000 in
theorem lifted (os : Os) (started : os.Started) (H : Type) (enc : TypeId × Value → H) :
    ReturnsInHanded {} Tryz.checked os 7 .any (Rows.sureOrderSpec.pre6 enc Tryz.prog Tryz.f7 Rows.sureOrderRow.domain false) (Rows.sureOrderSpec.post enc Tryz.prog Tryz.f7 false true false false) := by
  refine returnsInHanded_of_change (C := Tryz.checked) own started (by kernel_rfl) Tryz.func7
    (ChangeSpec.witness6 (enc := enc) (C := Tryz.checked) false ⟨#[], #[.agg #[.string ⟨#[]⟩, .int .i64 0, .int .i64 0, .slice none 0 0], .slice none 0 0], []⟩ 8 (by kernel_rfl) (by kernel_rfl) (by kernel_rfl) (by kernel_rfl)) ?_
  intro W base args ds gs before hval0 hW hcnd _
  have hval : ∀ (j : Nat) t v, Tryz.f7.params[j]? = some t → args[j]? = some v → Value.okWide Tryz.prog W .any base t v := hval0
  have hW' := hW
  obtain ⟨p, q, hA0, hV, rfl, hfz, hnd⟩ := hW
  have hA : DataW.TrodAll enc Tryz.prog W 0 (fun _ => true) true Tryz.f7.params.toList args.toList ds p := hA0
  rw [Tryz.params7] at hA hval
  obtain ⟨v0, vs0, d0, ds0, p0, q0, hargs, rfl, rfl, h0, r0⟩ := trodAll_cons hA
  obtain ⟨v1, vs1, d1, ds1, p1, q1, rfl, rfl, rfl, h1, r1⟩ := trodAll_cons r0
  obtain ⟨rfl, rfl, rfl⟩ := trodAll_nil r1
  obtain rfl : args = #[v0, v1] := by cases args; simp_all
  obtain ⟨rfl, rfl⟩ := trodVars_none hV
  obtain ⟨c0, pa0, pc0, rfl, hp0, hpc0, hfit0, hlw0⟩ := case_of (hval 0 _ v0 rfl rfl) h0
  obtain ⟨a1, l1, k1, rfl, hi1, hk1, hm1⟩ := ints_arg (hval 1 _ v1 rfl rfl) h1
  clear hA0 hval0
  refine (sureOrder_any c0 hfit0 pa0 pc0 hpc0 a1 l1 k1 hk1 hm1 W hp0 hi1).mono fun e W' ⟨he, hb⟩ => ?_
  subst he
  exact ⟨_, rfl, law_post rfl rfl (of_decide_eq_true (by kernel_rfl)) hW' rfl rfl rfl hb⟩

theorem over : Rows.sureOrderRow.holds Tryz.pinned (OpenSpec.ofChange Rows.sureOrderSpec) :=
  OpenClaim.holds_of_wide 7 Tryz.f7 rfl rfl rfl rfl rfl rfl rfl ⟨rfl, rfl, rfl, rfl, rfl⟩ rfl rfl rfl rfl rfl (by kernel_rfl) Tryz.func7 (by kernel_rfl)
    (of_decide_eq_true (by kernel_rfl)) (by unfold Func.isWrapper; first | (rw [if_pos (by decide +kernel)]; kernel_rfl) | (rw [if_neg (by decide +kernel)]; exact ⟨rfl, rfl⟩))
    (fun os started H enc _ => lifted os started H enc)

theorem proved : Rows.SureOrderSaid :=
  over
#print axioms proved
end Go.Proofs.YtchgbbkjbiffiaaGreat.SureOrderEnd
