/- The reference: meet: the type whose profiles are those of both of two types. No condition. -/
import Derived.Test.YthpjffhccjlnhaaGreatDoorGRef7
set_option linter.unusedSimpArgs false
set_option linter.unusedVariables false
namespace Go.Proofs.YthpjffhccjlnhaaGreatDoor
open Go.RowKit
attribute [local go_sem] Oper.semAt_some

theorem built_typ (parts : List (Nat × Value)) : Tryz.prog.built 71 parts = Instr.fill (fun i => (#[(0, 1), (1, 1), (2, 1), (3, 1), (4, 1), (5, 1), (6, 26)] : Array (Nat × Nat))[i]?) (typCells typ0) parts := by
 rw [← ztyp]; kernel_rfl
theorem run_build_typ (x y : Int) (s t : ByteArray) (w : World) : (Instr.build 71 #[(2, .int .i64 x), (3, .int .i64 y), (4, .string s), (5, .string t)]).run Tryz.prog w = .ok (.agg (typCells ⟨ByteArray.empty, ByteArray.empty, x, y, s, t, fun _ => ByteArray.empty⟩)) w := by
 refine run_build w _ _ _ ?_
 rw [built_typ]
 unfold typCells
 rw [fill_fn (off := 2) (m := 1) (g := fun _ => .int .i64 x) rfl rfl (by omega), fill_fn (off := 3) (m := 1) (g := fun _ => .int .i64 y) rfl rfl (by omega), fill_fn (off := 4) (m := 1) (g := fun _ => .string s) rfl rfl (by omega), fill_fn (off := 5) (m := 1) (g := fun _ => .string t) rfl rfl (by omega)]
 refine congrArg some (fnCells_congr fun j hj => ?_)
 rcases j with _ | _ | _ | _ | _ | _ | j
 ·rfl
 ·rfl
 ·rfl
 ·rfl
 ·rfl
 ·rfl
 ·rw [if_neg (by omega), if_neg (by omega), if_neg (by omega), if_neg (by omega)]; rfl
def metTo (a b : Typ) (k : Nat) : Typ := ⟨ByteArray.empty, ByteArray.empty, max a.least b.least, min a.most b.most, mkB (bothL (bl a.rim) (bl b.rim)), mkB (bothL (bl a.base) (bl b.base)), fun c => if c < k then mkB (bothL (bl (a.after c)) (bl (b.after c))) else ByteArray.empty⟩
def meetT (a b : Typ) : Typ := ⟨ByteArray.empty, ByteArray.empty, max a.least b.least, min a.most b.most, mkB (bothL (bl a.rim) (bl b.rim)), mkB (bothL (bl a.base) (bl b.base)), fun c => mkB (bothL (bl (a.after c)) (bl (b.after c)))⟩
theorem metTo_all (a b : Typ) : typCells (metTo a b 26) = typCells (meetT a b) := by
 refine fnCells_congr fun j hj => ?_
 rcases j with _ | _ | _ | _ | _ | _ | j
 ·rfl
 ·rfl
 ·rfl
 ·rfl
 ·rfl
 ·rfl
 ·show Value.string (if j < 26 then mkB (bothL (bl (a.after j)) (bl (b.after j))) else ByteArray.empty) = Value.string (mkB (bothL (bl (a.after j)) (bl (b.after j))))
  rw [if_pos (by omega)]
theorem met_step (a b : Typ) {k : Nat} (hk : k < 26) (j : Nat) : (if j = 6 + k then Value.string (mkB (bothL (bl (a.after k)) (bl (b.after k)))) else typF (metTo a b k) j) = typF (metTo a b (k + 1)) j := by
 rcases j with _ | _ | _ | _ | _ | _ | j
 ·rw [if_neg (by omega)]; rfl
 ·rw [if_neg (by omega)]; rfl
 ·rw [if_neg (by omega)]; rfl
 ·rw [if_neg (by omega)]; rfl
 ·rw [if_neg (by omega)]; rfl
 ·rw [if_neg (by omega)]; rfl
 ·show _ = Value.string (if j < k + 1 then mkB (bothL (bl (a.after j)) (bl (b.after j))) else ByteArray.empty)
  by_cases h : j = k
  ·subst h; rw [if_pos (by omega), if_pos (by omega)]
  ·rw [if_neg (by omega)]
   show Value.string (if j < k then mkB (bothL (bl (a.after j)) (bl (b.after j))) else ByteArray.empty) = _
   by_cases h2 : j < k
   ·rw [if_pos h2, if_pos (by omega)]
   ·rw [if_neg h2, if_neg (by omega)]
structure MtSt (B : Nat) (a b : Typ) (k g : Nat) (w W : World) : Prop where
 x : TypAt W B 0 a
 y : TypAt W (B + 1) 0 b
 r : Box W (B + 2) (typCells typ0) 71
 m : Box W g (typCells (metTo a b k)) 71
 b_ : Below B w W
 s : B = w.heap.size
 q : B + 2 < g
theorem MtSt.below {B : Nat} {a b : Typ} {k g : Nat} {w W W' : World} (h : MtSt B a b k g w W) (hb : Below W.heap.size W W') : MtSt B a b k g w W' :=
 ⟨h.x.below hb, h.y.below hb, h.r.below' hb, h.m.below' hb, h.b_.trans (hb.mono (by have := h.b_.size; have := h.s; omega)), h.s, h.q⟩
theorem MtSt.put {B : Nat} {a b : Typ} {k g : Nat} {w W : World} (h : MtSt B a b k g w W) (hk : k < 26) : MtSt B a b (k + 1) g w (W.setCell ⟨g, 6 + k, none⟩ (.string (mkB (bothL (bl (a.after k)) (bl (b.after k)))))) := by
 have hq := h.q
 have hK := (Keep.refl (fun j => j ≠ g) W).setCell (p := ⟨g, 6 + k, none⟩) (.inl (by simp)) (.string (mkB (bothL (bl (a.after k)) (bl (b.after k)))))
 exact ⟨h.x.keep hK (by omega), h.y.keep hK (by omega), h.r.far (by simp; omega) _, (h.m.fset (6 + k) _).cong fun j _ => met_step a b hk j, h.b_.setCell (by show B ≤ g; omega) _, h.s, h.q⟩
set_option maxRecDepth 100000 in
set_option maxHeartbeats 2000000 in
theorem meetR_any (a b : Typ) (ha : SmlT a) (hb : SmlT b) (w : World) : Calls Tryz.prog 82 #[.agg (typCells a), .agg (typCells b)] w fun e w' => e = .returned (.agg (typCells (meetT a b))) ∧ Below w.heap.size w w' := by
 obtain ⟨w1, hw1⟩ : ∃ w1, ((w.alloc (.cells (typCells a) 71)).alloc (.cells (typCells b) 71)).alloc (.cells (typCells typ0) 71) = w1 := ⟨_, rfl⟩
 have b0 : TypAt w1 w.heap.size 0 a := by rw [← hw1]; exact Box.typ (((Box.new _ _ _).alloc _).alloc _)
 have b1 : TypAt w1 (w.heap.size + 1) 0 b := by rw [← hw1]; exact Box.typ ((Box.new' (by simp)).alloc _)
 have b2 : Box w1 (w.heap.size + 2) (typCells typ0) 71 := by rw [← hw1]; exact Box.new' (by simp)
 have hB : Below w.heap.size w w1 := by rw [← hw1]; go_grown
 have B0 := Lib.hid b0
 have B1 := Lib.hid b1
 have B2 := Lib.hid b2
 have HB := Lib.hid hB
 have HW := Lib.hid hw1
 have HA := Lib.hid ha
 have HBB := Lib.hid hb
 clear b0 b1 b2 hB hw1 ha hb
 go_enter Tryz.func82, Tryz.ntmps82
 go_upto_region 1 with fail
 simp only [ztyp, HW.out]
 refine wp_region_heldB 22 [(5, typCells typ0, 71)] (by kernel_rfl) (by kernel_rfl) (by kernel_rfl) (by simp) ?_
 intro S hS
 have k0 : ∀ A, S A → A.cell? ⟨w.heap.size, 2, none⟩ = some (.int .i64 a.least) ∧ A.cell? ⟨w.heap.size + 1, 2, none⟩ = some (.int .i64 b.least) ∧ A.cell? ⟨w.heap.size, 3, none⟩ = some (.int .i64 a.most) ∧ A.cell? ⟨w.heap.size + 1, 3, none⟩ = some (.int .i64 b.most) ∧
   A.cell? ⟨w.heap.size, 4, none⟩ = some (.string a.rim) ∧ A.cell? ⟨w.heap.size + 1, 4, none⟩ = some (.string b.rim) ∧ A.cell? ⟨w.heap.size, 5, none⟩ = some (.string a.base) ∧ A.cell? ⟨w.heap.size + 1, 5, none⟩ = some (.string b.base) := fun A hA => by
  have f := (B0.out.below (hS A hA)).fields
  have g := (B1.out.below (hS A hA)).fields
  simp only [Nat.zero_add] at f g
  exact ⟨f.2.2.1, g.2.2.1, f.2.2.2.1, g.2.2.2.1, f.2.2.2.2.1, g.2.2.2.2.1, f.2.2.2.2.2, g.2.2.2.2.2⟩
 have K0 := Lib.hid k0
 have HS := Lib.hid hS
 clear hS k0
 simp only [List.take_succ_cons, List.take_zero, List.drop_succ_cons, List.drop_zero]
 repeat (first
  | (refine held_build (v := .agg (typCells (metTo a b 0))) 71 _ (by rfl) rfl (fun W => ?_) ?_; (· (simp only [List.map_toArray, List.map_cons, List.map_nil]; exact run_build_typ _ _ _ _ W)); try (dsimp only); try simp only [Act.put, List.setIfInBounds_toArray, List.set_cons_zero, List.set_cons_succ])
  | (refine held_not rfl (by rfl) ?_; try (dsimp only); try simp only [Act.put, List.setIfInBounds_toArray, List.set_cons_zero, List.set_cons_succ])
  | (refine held_val (v := ?_) rfl (by rfl) ?_ ?_; rotate_left; (· (intro W hW; obtain ⟨q0, q1, q2, q3, q4, q5, q6, q7⟩ := K0.out W hW; go_simp; try with_reducible rfl)); try (dsimp only); try simp only [Act.put, List.setIfInBounds_toArray, List.set_cons_zero, List.set_cons_succ])
  | (refine held_skip rfl (by rfl) ?_ ?_; (· (intro W hW; obtain ⟨q0, q1, q2, q3, q4, q5, q6, q7⟩ := K0.out W hW; go_simp; try with_reducible rfl)); try (dsimp only); try simp only [Act.put, List.setIfInBounds_toArray, List.set_cons_zero, List.set_cons_succ])
  | (refine held_call (v := .string (mkB (bothL (bl a.rim) (bl b.rim)))) (f := 84) (args := #[.string a.rim, .string b.rim]) rfl (by rfl) ?_ ?_ ?_; (· (intro W hW; go_simp; done)); (· exact (fun W hW => (both_any a.rim b.rim (by have := HA.out.rim; omega) (by have := HBB.out.rim; omega) W).mono fun e w' h => ⟨h.1, h.2 ▸ Below.refl _ _⟩)); try (dsimp only); try simp only [Act.put, List.setIfInBounds_toArray, List.set_cons_zero, List.set_cons_succ])
  | (refine held_call (v := .string (mkB (bothL (bl a.base) (bl b.base)))) (f := 84) (args := #[.string a.base, .string b.base]) rfl (by rfl) ?_ ?_ ?_; (· (intro W hW; go_simp; done)); (· exact (fun W hW => (both_any a.base b.base (by have := HA.out.base; omega) (by have := HBB.out.base; omega) W).mono fun e w' h => ⟨h.1, h.2 ▸ Below.refl _ _⟩)); try (dsimp only); try simp only [Act.put, List.setIfInBounds_toArray, List.set_cons_zero, List.set_cons_succ]))
 refine held_own (e := (5, typCells typ0, 71)) rfl rfl (by simp) rfl (fun b W => by rw [← ztyp]; go_simp) ?_
 refine held_nil ?_
 intro τ hτ W2 hW hO
 obtain ⟨G, rfl⟩ := laid1 hτ
 obtain ⟨hG, hGN⟩ := hO.one
 have hbW := HS.out W2 hW
 obtain ⟨W3, hst, hw3⟩ := run_store_all (P := Tryz.prog) agg_typ hG (typF (metTo a b 0)) (fun j _ => typF_one _ j)
 have hsz : w.heap.size + 2 < w1.heap.size := by have := B2.out.lt; omega
 have S3 : MtSt w.heap.size a b 0 G w W3 := by
  have h0 := (B0.out.below hbW).lt
  exact ⟨(B0.out.below hbW).keep hw3.keep (by omega), (B1.out.below hbW).keep hw3.keep (by omega), hw3.far (B2.out.below' hbW) (by omega), hw3.box, hw3.below (HB.out.trans (hbW.mono (by omega))) (by omega), rfl, by omega⟩
 have ST := Lib.hid S3
 have HST := Lib.hid hst
 clear hτ hO hG hGN hW K0 HS hbW hst hw3 S3 B0 B1 B2 HB HW
 simp only [overs, List.foldl_cons, List.foldl_nil, Act.put, List.setIfInBounds_toArray, List.set_cons_zero, List.set_cons_succ]
 go_wp2_with (refine wpList_store_box rfl 71 _ _ rfl rfl rfl HST.out ?_)
 clear HST
 go_loopw [6] (fun iv wr => ∃ k : Nat, k ≤ 26 ∧ iv = .int .i64 k ∧ MtSt w.heap.size a b k G w wr) (fun iv _ => 26 - (intOf iv).toNat)
 case atStart => exact ⟨0, Nat.zero_le _, rfl, ST.out⟩
 case round =>
  clear ST
  obtain ⟨k, hk, rfl, st⟩ := hrel
  have ST := Lib.hid st
  clear st
  by_cases hlt : k < 26
  ·have hki : (k : Int) < 26 := by omega
   have hk0 : (0 : Int) ≤ (k : Int) := by omega
   go_upto_region 5 with fail
   refine wp_region_heldB 12 [] (by kernel_rfl) (by kernel_rfl) (by kernel_rfl) (by simp) ?_
   intro S hS
   have k0 : ∀ A, S A → A.cell? ⟨w.heap.size, 6 + k, none⟩ = some (.string (a.after k)) ∧ A.cell? ⟨w.heap.size, k + 6, none⟩ = some (.string (a.after k)) ∧ A.cell? ⟨w.heap.size + 1, 6 + k, none⟩ = some (.string (b.after k)) ∧ A.cell? ⟨w.heap.size + 1, k + 6, none⟩ = some (.string (b.after k)) := fun A hA => by
    have f := (ST.out.x.below (hS A hA)) (6 + k) (by omega)
    have g := (ST.out.y.below (hS A hA)) (6 + k) (by omega)
    rw [show typF a (6 + k) = .string (a.after k) by rw [Nat.add_comm]; rfl, Nat.zero_add] at f
    rw [show typF b (6 + k) = .string (b.after k) by rw [Nat.add_comm]; rfl, Nat.zero_add] at g
    exact ⟨f, by rw [Nat.add_comm]; exact f, g, by rw [Nat.add_comm k 6]; exact g⟩
   have K0 := Lib.hid k0
   have HS := Lib.hid hS
   clear hS k0
   simp only [List.take_succ_cons, List.take_zero, List.drop_succ_cons, List.drop_zero]
   repeat (first
    | (refine held_not rfl (by rfl) ?_; try (dsimp only); try simp only [Act.put, List.setIfInBounds_toArray, List.set_cons_zero, List.set_cons_succ])
    | (refine held_val (v := ?_) rfl (by rfl) ?_ ?_; rotate_left; (· (intro W hW; obtain ⟨q0, q1, q2, q3⟩ := K0.out W hW; go_simp; try with_reducible rfl)); try (dsimp only); try simp only [Act.put, List.setIfInBounds_toArray, List.set_cons_zero, List.set_cons_succ])
    | (refine held_skip rfl (by rfl) ?_ ?_; (· (intro W hW; obtain ⟨q0, q1, q2, q3⟩ := K0.out W hW; go_simp; try with_reducible rfl)); try (dsimp only); try simp only [Act.put, List.setIfInBounds_toArray, List.set_cons_zero, List.set_cons_succ])
    | (refine held_call (v := .string (mkB (bothL (bl (a.after k)) (bl (b.after k))))) (f := 84) (args := #[.string (a.after k), .string (b.after k)]) rfl (by rfl) ?_ ?_ ?_; (· (intro W hW; go_simp; done)); (· exact (fun W hW => (both_any (a.after k) (b.after k) (by have := HA.out.after k hlt; omega) (by have := HBB.out.after k hlt; omega) W).mono fun e w' h => ⟨h.1, h.2 ▸ Below.refl _ _⟩)); try (dsimp only); try simp only [Act.put, List.setIfInBounds_toArray, List.set_cons_zero, List.set_cons_succ]))
   refine held_nil ?_
   intro τ hτ W2 hW hO
   obtain rfl := laid0 hτ
   have ST2 := Lib.hid (ST.out.below (HS.out W2 hW))
   clear hτ hO hW K0 HS ST
   simp only [overs, List.foldl_nil]
   have r1 := ST2.out.m.frozen (6 + k)
   have r2 := ST2.out.m.fn (i := 6 + k) (by omega)
   rw [show typF (metTo a b k) (6 + k) = .string ByteArray.empty by
    rw [Nat.add_comm]
    show Value.string (if k < k then mkB (bothL (bl (a.after k)) (bl (b.after k))) else ByteArray.empty) = _
    rw [if_neg (by omega)]] at r2
   have HN := Lib.hid (ST2.out.put hlt)
   go_wp2_with fail
   go_roundw
   case rel => exact ⟨k + 1, by omega, by go_num, HN.out⟩
   case measure => simp [intOf]; omega
  ·have hkn : decide ((k : Int) < 26) = false := by simp; omega
   have hke : k = 26 := by omega
   subst hke
   have hm : Box wr G (typCells (meetT a b)) 71 := metTo_all a b ▸ ST.out.m
   have HL := Lib.hid (run_load_sub agg_typ hm 0 (typF (meetT a b)) (fun j _ => by rw [Nat.zero_add]) (by omega))
   obtain ⟨w2, hst2, hw2⟩ := run_store_all (P := Tryz.prog) agg_typ ST.out.r (typF (meetT a b)) (fun j _ => typF_one _ j)
   have HST := Lib.hid hst2
   have HW2 := Lib.hid hw2
   clear hm hst2 hw2
   go_wp2_with (first
    | (refine wpList_load_box rfl 71 _ rfl rfl HL.out ?_)
    | (refine wpList_store_box rfl 71 _ _ rfl rfl rfl HST.out ?_))
   refine bodyPost_ret (results_cell rfl rfl (run_loadv_sub agg_typ HW2.out.box 0 (typF (meetT a b)) (fun j _ => by rw [Nat.zero_add]) (by omega))) rfl ⟨rfl, HW2.out.below ST.out.b_ (by omega)⟩
/-! the meeting type -/
theorem has_both (a b : List UInt8) (c : Nat) : hasC (bothL a b) c = (hasC a c && hasC b c) := by
 rw [Bool.eq_iff_iff, Bool.and_eq_true]
 simp only [hasC, bothL, List.any_eq_true, List.mem_filter, List.contains_iff_mem, beq_iff_eq]
 constructor
 ·rintro ⟨x, ⟨h1, h2⟩, h3⟩; exact ⟨⟨x, h1, h3⟩, ⟨x, h2, h3⟩⟩
 ·rintro ⟨⟨x, h1, h2⟩, ⟨y, h3, h4⟩⟩
  have e : x = y := UInt8.toNat_inj.1 (by omega)
  exact ⟨x, ⟨h1, e ▸ h3⟩, h2⟩
theorem meet_kd (a b : Typ) : (meetT a b).kd = meetK a.kd b.kd := by
 unfold Typ.kd meetK meetT
 simp only [bl_mkB, Kd.mk.injEq]
 exact ⟨funext fun c => has_both _ _ c, funext fun c => has_both _ _ c, funext fun c => funext fun d => has_both _ _ d⟩
theorem meet_sets {a b : Typ} (ha : a.sets = true) (hb : b.sets = true) : (meetT a b).sets = true := by
 obtain ⟨a1, a2, a3⟩ := Typ.sets_iff.1 ha
 obtain ⟨b1, b2, b3⟩ := Typ.sets_iff.1 hb
 have key : ∀ x y : ByteArray, isSetB (bl x) = true → isSetB (bl y) = true → isSetB (bl (mkB (bothL (bl x) (bl y)))) = true := fun x y hx hy => by
  rw [bl_mkB, both_set hx hy]; exact set_str _
 exact Typ.sets_iff.2 ⟨key _ _ a1 b1, key _ _ a2 b2, fun c hc => key _ _ (a3 c hc) (b3 c hc)⟩
end Go.Proofs.YthpjffhccjlnhaaGreatDoor
