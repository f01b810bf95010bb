/- The reference: meet: the type whose profiles are those of both of two types. No condition. -/
/- The reference: Overlap. No condition. -/
/- Overlap, the plain law: whichever type is named first; a type with itself. No condition. -/
import Derived.Test.YthpjffhccjlnhaaGreatDoorMG21
import Derived.Test.YthpjffhccjlnhaaGreatDoorGOver
set_option linter.unusedSimpArgs false
set_option linter.unusedVariables false
namespace Go.Proofs.YthpjffhccjlnhaaGreatDoor
open Go.RowKit
attribute [local go_sem] Oper.semAt_some

theorem built_typ (parts : List (Nat × Value)) : Tryz.prog.built 71 parts = Instr.fill (fun i => (#[(0, 1), (1, 1), (2, 1), (3, 1), (4, 1), (5, 1), (6, 26)] : Array (Nat × Nat))[i]?) (typCells typ0) parts := by
 rw [← ztyp]; kernel_rfl
theorem run_build_typ (x y : Int) (s t : ByteArray) (w : World) : (Instr.build 71 #[(2, .int .i64 x), (3, .int .i64 y), (4, .string s), (5, .string t)]).run Tryz.prog w = .ok (.agg (typCells ⟨ByteArray.empty, ByteArray.empty, x, y, s, t, fun _ => ByteArray.empty⟩)) w := by
 refine run_build w _ _ _ ?_
 rw [built_typ]
 unfold typCells
 rw [fill_fn (off := 2) (m := 1) (g := fun _ => .int .i64 x) rfl rfl (by omega), fill_fn (off := 3) (m := 1) (g := fun _ => .int .i64 y) rfl rfl (by omega), fill_fn (off := 4) (m := 1) (g := fun _ => .string s) rfl rfl (by omega), fill_fn (off := 5) (m := 1) (g := fun _ => .string t) rfl rfl (by omega)]
 refine congrArg some (fnCells_congr fun j hj => ?_)
 rcases j with _ | _ | _ | _ | _ | _ | j
 ·rfl
 ·rfl
 ·rfl
 ·rfl
 ·rfl
 ·rfl
 ·rw [if_neg (by omega), if_neg (by omega), if_neg (by omega), if_neg (by omega)]; rfl
def metTo (a b : Typ) (k : Nat) : Typ := ⟨ByteArray.empty, ByteArray.empty, max a.least b.least, min a.most b.most, mkB (bothL (bl a.rim) (bl b.rim)), mkB (bothL (bl a.base) (bl b.base)), fun c => if c < k then mkB (bothL (bl (a.after c)) (bl (b.after c))) else ByteArray.empty⟩
def meetT (a b : Typ) : Typ := ⟨ByteArray.empty, ByteArray.empty, max a.least b.least, min a.most b.most, mkB (bothL (bl a.rim) (bl b.rim)), mkB (bothL (bl a.base) (bl b.base)), fun c => mkB (bothL (bl (a.after c)) (bl (b.after c)))⟩
theorem metTo_all (a b : Typ) : typCells (metTo a b 26) = typCells (meetT a b) := by
 refine fnCells_congr fun j hj => ?_
 rcases j with _ | _ | _ | _ | _ | _ | j
 ·rfl
 ·rfl
 ·rfl
 ·rfl
 ·rfl
 ·rfl
 ·show Value.string (if j < 26 then mkB (bothL (bl (a.after j)) (bl (b.after j))) else ByteArray.empty) = Value.string (mkB (bothL (bl (a.after j)) (bl (b.after j))))
  rw [if_pos (by omega)]
theorem met_step (a b : Typ) {k : Nat} (hk : k < 26) (j : Nat) : (if j = 6 + k then Value.string (mkB (bothL (bl (a.after k)) (bl (b.after k)))) else typF (metTo a b k) j) = typF (metTo a b (k + 1)) j := by
 rcases j with _ | _ | _ | _ | _ | _ | j
 ·rw [if_neg (by omega)]; rfl
 ·rw [if_neg (by omega)]; rfl
 ·rw [if_neg (by omega)]; rfl
 ·rw [if_neg (by omega)]; rfl
 ·rw [if_neg (by omega)]; rfl
 ·rw [if_neg (by omega)]; rfl
 ·show _ = Value.string (if j < k + 1 then mkB (bothL (bl (a.after j)) (bl (b.after j))) else ByteArray.empty)
  by_cases h : j = k
  ·subst h; rw [if_pos (by omega), if_pos (by omega)]
  ·rw [if_neg (by omega)]
   show Value.string (if j < k then mkB (bothL (bl (a.after j)) (bl (b.after j))) else ByteArray.empty) = _
   by_cases h2 : j < k
   ·rw [if_pos h2, if_pos (by omega)]
   ·rw [if_neg h2, if_neg (by omega)]
structure MtSt (B : Nat) (a b : Typ) (k g : Nat) (w W : World) : Prop where
 x : TypAt W B 0 a
 y : TypAt W (B + 1) 0 b
 r : Box W (B + 2) (typCells typ0) 71
 m : Box W g (typCells (metTo a b k)) 71
 b_ : Below B w W
 s : B = w.heap.size
 q : B + 2 < g
theorem MtSt.below {B : Nat} {a b : Typ} {k g : Nat} {w W W' : World} (h : MtSt B a b k g w W) (hb : Below W.heap.size W W') : MtSt B a b k g w W' :=
 ⟨h.x.below hb, h.y.below hb, h.r.below' hb, h.m.below' hb, h.b_.trans (hb.mono (by have := h.b_.size; have := h.s; omega)), h.s, h.q⟩
theorem MtSt.put {B : Nat} {a b : Typ} {k g : Nat} {w W : World} (h : MtSt B a b k g w W) (hk : k < 26) : MtSt B a b (k + 1) g w (W.setCell ⟨g, 6 + k, none⟩ (.string (mkB (bothL (bl (a.after k)) (bl (b.after k)))))) := by
 have hq := h.q
 have hK := (Keep.refl (fun j => j ≠ g) W).setCell (p := ⟨g, 6 + k, none⟩) (.inl (by simp)) (.string (mkB (bothL (bl (a.after k)) (bl (b.after k)))))
 exact ⟨h.x.keep hK (by omega), h.y.keep hK (by omega), h.r.far (by simp; omega) _, (h.m.fset (6 + k) _).cong fun j _ => met_step a b hk j, h.b_.setCell (by show B ≤ g; omega) _, h.s, h.q⟩
set_option maxRecDepth 100000 in
set_option maxHeartbeats 2000000 in
theorem meetR_any (a b : Typ) (ha : SmlT a) (hb : SmlT b) (w : World) : Calls Tryz.prog 82 #[.agg (typCells a), .agg (typCells b)] w fun e w' => e = .returned (.agg (typCells (meetT a b))) ∧ Below w.heap.size w w' := by
 obtain ⟨w1, hw1⟩ : ∃ w1, ((w.alloc (.cells (typCells a) 71)).alloc (.cells (typCells b) 71)).alloc (.cells (typCells typ0) 71) = w1 := ⟨_, rfl⟩
 have b0 : TypAt w1 w.heap.size 0 a := by rw [← hw1]; exact Box.typ (((Box.new _ _ _).alloc _).alloc _)
 have b1 : TypAt w1 (w.heap.size + 1) 0 b := by rw [← hw1]; exact Box.typ ((Box.new' (by simp)).alloc _)
 have b2 : Box w1 (w.heap.size + 2) (typCells typ0) 71 := by rw [← hw1]; exact Box.new' (by simp)
 have hB : Below w.heap.size w w1 := by rw [← hw1]; go_grown
 have B0 := Lib.hid b0
 have B1 := Lib.hid b1
 have B2 := Lib.hid b2
 have HB := Lib.hid hB
 have HW := Lib.hid hw1
 have HA := Lib.hid ha
 have HBB := Lib.hid hb
 clear b0 b1 b2 hB hw1 ha hb
 go_enter Tryz.func82, Tryz.ntmps82
 go_upto_region 1 with fail
 simp only [ztyp, HW.out]
 refine wp_region_heldB 22 [(5, typCells typ0, 71)] (by kernel_rfl) (by kernel_rfl) (by kernel_rfl) (by simp) ?_
 intro S hS
 have k0 : ∀ A, S A → A.cell? ⟨w.heap.size, 2, none⟩ = some (.int .i64 a.least) ∧ A.cell? ⟨w.heap.size + 1, 2, none⟩ = some (.int .i64 b.least) ∧ A.cell? ⟨w.heap.size, 3, none⟩ = some (.int .i64 a.most) ∧ A.cell? ⟨w.heap.size + 1, 3, none⟩ = some (.int .i64 b.most) ∧
   A.cell? ⟨w.heap.size, 4, none⟩ = some (.string a.rim) ∧ A.cell? ⟨w.heap.size + 1, 4, none⟩ = some (.string b.rim) ∧ A.cell? ⟨w.heap.size, 5, none⟩ = some (.string a.base) ∧ A.cell? ⟨w.heap.size + 1, 5, none⟩ = some (.string b.base) := fun A hA => by
  have f := (B0.out.below (hS A hA)).fields
  have g := (B1.out.below (hS A hA)).fields
  simp only [Nat.zero_add] at f g
  exact ⟨f.2.2.1, g.2.2.1, f.2.2.2.1, g.2.2.2.1, f.2.2.2.2.1, g.2.2.2.2.1, f.2.2.2.2.2, g.2.2.2.2.2⟩
 have K0 := Lib.hid k0
 have HS := Lib.hid hS
 clear hS k0
 simp only [List.take_succ_cons, List.take_zero, List.drop_succ_cons, List.drop_zero]
 repeat (first
  | (refine held_build (v := .agg (typCells (metTo a b 0))) 71 _ (by rfl) rfl (fun W => ?_) ?_; (· (simp only [List.map_toArray, List.map_cons, List.map_nil]; exact run_build_typ _ _ _ _ W)); try (dsimp only); try simp only [Act.put, List.setIfInBounds_toArray, List.set_cons_zero, List.set_cons_succ])
  | (refine held_not rfl (by rfl) ?_; try (dsimp only); try simp only [Act.put, List.setIfInBounds_toArray, List.set_cons_zero, List.set_cons_succ])
  | (refine held_val (v := ?_) rfl (by rfl) ?_ ?_; rotate_left; (· (intro W hW; obtain ⟨q0, q1, q2, q3, q4, q5, q6, q7⟩ := K0.out W hW; go_simp; try with_reducible rfl)); try (dsimp only); try simp only [Act.put, List.setIfInBounds_toArray, List.set_cons_zero, List.set_cons_succ])
  | (refine held_skip rfl (by rfl) ?_ ?_; (· (intro W hW; obtain ⟨q0, q1, q2, q3, q4, q5, q6, q7⟩ := K0.out W hW; go_simp; try with_reducible rfl)); try (dsimp only); try simp only [Act.put, List.setIfInBounds_toArray, List.set_cons_zero, List.set_cons_succ])
  | (refine held_call (v := .string (mkB (bothL (bl a.rim) (bl b.rim)))) (f := 84) (args := #[.string a.rim, .string b.rim]) rfl (by rfl) ?_ ?_ ?_; (· (intro W hW; go_simp; done)); (· exact (fun W hW => (both_any a.rim b.rim (by have := HA.out.rim; omega) (by have := HBB.out.rim; omega) W).mono fun e w' h => ⟨h.1, h.2 ▸ Below.refl _ _⟩)); try (dsimp only); try simp only [Act.put, List.setIfInBounds_toArray, List.set_cons_zero, List.set_cons_succ])
  | (refine held_call (v := .string (mkB (bothL (bl a.base) (bl b.base)))) (f := 84) (args := #[.string a.base, .string b.base]) rfl (by rfl) ?_ ?_ ?_; (· (intro W hW; go_simp; done)); (· exact (fun W hW => (both_any a.base b.base (by have := HA.out.base; omega) (by have := HBB.out.base; omega) W).mono fun e w' h => ⟨h.1, h.2 ▸ Below.refl _ _⟩)); try (dsimp only); try simp only [Act.put, List.setIfInBounds_toArray, List.set_cons_zero, List.set_cons_succ]))
 refine held_own (e := (5, typCells typ0, 71)) rfl rfl (by simp) rfl (fun b W => by rw [← ztyp]; go_simp) ?_
 refine held_nil ?_
 intro τ hτ W2 hW hO
 obtain ⟨G, rfl⟩ := laid1 hτ
 obtain ⟨hG, hGN⟩ := hO.one
 have hbW := HS.out W2 hW
 obtain ⟨W3, hst, hw3⟩ := run_store_all (P := Tryz.prog) agg_typ hG (typF (metTo a b 0)) (fun j _ => typF_one _ j)
 have hsz : w.heap.size + 2 < w1.heap.size := by have := B2.out.lt; omega
 have S3 : MtSt w.heap.size a b 0 G w W3 := by
  have h0 := (B0.out.below hbW).lt
  exact ⟨(B0.out.below hbW).keep hw3.keep (by omega), (B1.out.below hbW).keep hw3.keep (by omega), hw3.far (B2.out.below' hbW) (by omega), hw3.box, hw3.below (HB.out.trans (hbW.mono (by omega))) (by omega), rfl, by omega⟩
 have ST := Lib.hid S3
 have HST := Lib.hid hst
 clear hτ hO hG hGN hW K0 HS hbW hst hw3 S3 B0 B1 B2 HB HW
 simp only [overs, List.foldl_cons, List.foldl_nil, Act.put, List.setIfInBounds_toArray, List.set_cons_zero, List.set_cons_succ]
 go_wp2_with (refine wpList_store_box rfl 71 _ _ rfl rfl rfl HST.out ?_)
 clear HST
 go_loopw [6] (fun iv wr => ∃ k : Nat, k ≤ 26 ∧ iv = .int .i64 k ∧ MtSt w.heap.size a b k G w wr) (fun iv _ => 26 - (intOf iv).toNat)
 case atStart => exact ⟨0, Nat.zero_le _, rfl, ST.out⟩
 case round =>
  clear ST
  obtain ⟨k, hk, rfl, st⟩ := hrel
  have ST := Lib.hid st
  clear st
  by_cases hlt : k < 26
  ·have hki : (k : Int) < 26 := by omega
   have hk0 : (0 : Int) ≤ (k : Int) := by omega
   go_upto_region 5 with fail
   refine wp_region_heldB 12 [] (by kernel_rfl) (by kernel_rfl) (by kernel_rfl) (by simp) ?_
   intro S hS
   have k0 : ∀ A, S A → A.cell? ⟨w.heap.size, 6 + k, none⟩ = some (.string (a.after k)) ∧ A.cell? ⟨w.heap.size, k + 6, none⟩ = some (.string (a.after k)) ∧ A.cell? ⟨w.heap.size + 1, 6 + k, none⟩ = some (.string (b.after k)) ∧ A.cell? ⟨w.heap.size + 1, k + 6, none⟩ = some (.string (b.after k)) := fun A hA => by
    have f := (ST.out.x.below (hS A hA)) (6 + k) (by omega)
    have g := (ST.out.y.below (hS A hA)) (6 + k) (by omega)
    rw [show typF a (6 + k) = .string (a.after k) by rw [Nat.add_comm]; rfl, Nat.zero_add] at f
    rw [show typF b (6 + k) = .string (b.after k) by rw [Nat.add_comm]; rfl, Nat.zero_add] at g
    exact ⟨f, by rw [Nat.add_comm]; exact f, g, by rw [Nat.add_comm k 6]; exact g⟩
   have K0 := Lib.hid k0
   have HS := Lib.hid hS
   clear hS k0
   simp only [List.take_succ_cons, List.take_zero, List.drop_succ_cons, List.drop_zero]
   repeat (first
    | (refine held_not rfl (by rfl) ?_; try (dsimp only); try simp only [Act.put, List.setIfInBounds_toArray, List.set_cons_zero, List.set_cons_succ])
    | (refine held_val (v := ?_) rfl (by rfl) ?_ ?_; rotate_left; (· (intro W hW; obtain ⟨q0, q1, q2, q3⟩ := K0.out W hW; go_simp; try with_reducible rfl)); try (dsimp only); try simp only [Act.put, List.setIfInBounds_toArray, List.set_cons_zero, List.set_cons_succ])
    | (refine held_skip rfl (by rfl) ?_ ?_; (· (intro W hW; obtain ⟨q0, q1, q2, q3⟩ := K0.out W hW; go_simp; try with_reducible rfl)); try (dsimp only); try simp only [Act.put, List.setIfInBounds_toArray, List.set_cons_zero, List.set_cons_succ])
    | (refine held_call (v := .string (mkB (bothL (bl (a.after k)) (bl (b.after k))))) (f := 84) (args := #[.string (a.after k), .string (b.after k)]) rfl (by rfl) ?_ ?_ ?_; (· (intro W hW; go_simp; done)); (· exact (fun W hW => (both_any (a.after k) (b.after k) (by have := HA.out.after k hlt; omega) (by have := HBB.out.after k hlt; omega) W).mono fun e w' h => ⟨h.1, h.2 ▸ Below.refl _ _⟩)); try (dsimp only); try simp only [Act.put, List.setIfInBounds_toArray, List.set_cons_zero, List.set_cons_succ]))
   refine held_nil ?_
   intro τ hτ W2 hW hO
   obtain rfl := laid0 hτ
   have ST2 := Lib.hid (ST.out.below (HS.out W2 hW))
   clear hτ hO hW K0 HS ST
   simp only [overs, List.foldl_nil]
   have r1 := ST2.out.m.frozen (6 + k)
   have r2 := ST2.out.m.fn (i := 6 + k) (by omega)
   rw [show typF (metTo a b k) (6 + k) = .string ByteArray.empty by
    rw [Nat.add_comm]
    show Value.string (if k < k then mkB (bothL (bl (a.after k)) (bl (b.after k))) else ByteArray.empty) = _
    rw [if_neg (by omega)]] at r2
   have HN := Lib.hid (ST2.out.put hlt)
   go_wp2_with fail
   go_roundw
   case rel => exact ⟨k + 1, by omega, by go_num, HN.out⟩
   case measure => simp [intOf]; omega
  ·have hkn : decide ((k : Int) < 26) = false := by simp; omega
   have hke : k = 26 := by omega
   subst hke
   have hm : Box wr G (typCells (meetT a b)) 71 := metTo_all a b ▸ ST.out.m
   have HL := Lib.hid (run_load_sub agg_typ hm 0 (typF (meetT a b)) (fun j _ => by rw [Nat.zero_add]) (by omega))
   obtain ⟨w2, hst2, hw2⟩ := run_store_all (P := Tryz.prog) agg_typ ST.out.r (typF (meetT a b)) (fun j _ => typF_one _ j)
   have HST := Lib.hid hst2
   have HW2 := Lib.hid hw2
   clear hm hst2 hw2
   go_wp2_with (first
    | (refine wpList_load_box rfl 71 _ rfl rfl HL.out ?_)
    | (refine wpList_store_box rfl 71 _ _ rfl rfl rfl HST.out ?_))
   refine bodyPost_ret (results_cell rfl rfl (run_loadv_sub agg_typ HW2.out.box 0 (typF (meetT a b)) (fun j _ => by rw [Nat.zero_add]) (by omega))) rfl ⟨rfl, HW2.out.below ST.out.b_ (by omega)⟩
/-! the meeting type -/
theorem has_both (a b : List UInt8) (c : Nat) : hasC (bothL a b) c = (hasC a c && hasC b c) := by
 rw [Bool.eq_iff_iff, Bool.and_eq_true]
 simp only [hasC, bothL, List.any_eq_true, List.mem_filter, List.contains_iff_mem, beq_iff_eq]
 constructor
 ·rintro ⟨x, ⟨h1, h2⟩, h3⟩; exact ⟨⟨x, h1, h3⟩, ⟨x, h2, h3⟩⟩
 ·rintro ⟨⟨x, h1, h2⟩, ⟨y, h3, h4⟩⟩
  have e : x = y := UInt8.toNat_inj.1 (by omega)
  exact ⟨x, ⟨h1, e ▸ h3⟩, h2⟩
theorem meet_kd (a b : Typ) : (meetT a b).kd = meetK a.kd b.kd := by
 unfold Typ.kd meetK meetT
 simp only [bl_mkB, Kd.mk.injEq]
 exact ⟨funext fun c => has_both _ _ c, funext fun c => has_both _ _ c, funext fun c => funext fun d => has_both _ _ d⟩
theorem meet_sets {a b : Typ} (ha : a.sets = true) (hb : b.sets = true) : (meetT a b).sets = true := by
 obtain ⟨a1, a2, a3⟩ := Typ.sets_iff.1 ha
 obtain ⟨b1, b2, b3⟩ := Typ.sets_iff.1 hb
 have key : ∀ x y : ByteArray, isSetB (bl x) = true → isSetB (bl y) = true → isSetB (bl (mkB (bothL (bl x) (bl y)))) = true := fun x y hx hy => by
  rw [bl_mkB, both_set hx hy]; exact set_str _
 exact Typ.sets_iff.2 ⟨key _ _ a1 b1, key _ _ a2 b2, fun c hc => key _ _ (a3 c hc) (b3 c hc)⟩
end Go.Proofs.YthpjffhccjlnhaaGreatDoor
namespace Go.Proofs.YthpjffhccjlnhaaGreatDoor
open Go.RowKit
attribute [local go_sem] Oper.semAt_some

/-- the memory of the greedy loop: a type and its ends -/
structure OvSt (T : Typ) (g e : Nat) (w W : World) : Prop where
 x : TypAt W g 0 T
 y : Box W e (fnCells 12 (goodF T.kd)) 121
 b : Below w.heap.size w W
theorem OvSt.below {T : Typ} {g e : Nat} {w W W' : World} (h : OvSt T g e w W) (hb : Below W.heap.size W W') : OvSt T g e w W' := ⟨h.x.below hb, h.y.below' hb, h.b.trans (hb.mono h.b.size)⟩
/-- the word so far, and what may come next -/
structure GrW (T : Typ) (n p : Nat) (u : List Nat) (X : ByteArray) : Prop where
 len : u.length = p
 set : isSetB (bl X) = true
 size : X.size ≤ 1000
 eq : refWord T.kd n T.kd.rim = u ++ refWord T.kd (n - p) (hasC (bl X))
theorem GrW.stuck {T : Typ} {n p m : Nat} {u : List Nat} {X : ByteArray} (h : GrW T n p u X) (hm : n = p + 1 + m) (hf : firstC (fun d => hasC (bl X) d && goodJ T.kd m d) = none) : refWord T.kd n T.kd.rim = [] := by
 have he := h.eq
 rw [show n - p = m + 1 by omega] at he
 have h0 : refWord T.kd (m + 1) (hasC (bl X)) = [] := by rw [refWord, hf]
 rw [h0, List.append_nil] at he
 rcases refWord_len T.kd n T.kd.rim with h1 | h1
 ·exact h1
 ·rw [he, h.len] at h1; omega
theorem GrW.next {T : Typ} {n p m d : Nat} {u : List Nat} {X : ByteArray} (h : GrW T n p u X) (hm : n = p + 1 + m) (hf : firstC (fun d => hasC (bl X) d && goodJ T.kd m d) = some d) (h1 : isSetB (bl (T.after d)) = true) (h2 : (T.after d).size ≤ 1000) : GrW T n (p + 1) (u ++ [d]) (T.after d) := by
 refine ⟨by simp [h.len], h1, h2, ?_⟩
 rw [h.eq, show n - p = m + 1 by omega, show n - (p + 1) = m by omega, refWord, hf]
 simp; rfl
theorem meet_sml {a b : Typ} (ha : SmlT a) (hb : SmlT b) : SmlT (meetT a b) := by
 have key : ∀ x y : ByteArray, x.size ≤ 1000 → (mkB (bothL (bl x) (bl y))).size ≤ 1000 := fun x y h => by
  have := both_len (bl x) (bl y)
  rw [bl_len] at this
  rw [mkB_size]; omega
 exact ⟨Nat.zero_le _, Nat.zero_le _, key _ _ ha.rim, key _ _ ha.base, fun c hc => key _ _ (ha.after c hc)⟩
theorem meet_lohi {a b : Typ} (ha : typeB a = true) (hb : typeB b = true) : ∃ lo hi : Nat, (meetT a b).least = lo ∧ (meetT a b).most = hi ∧ 1 ≤ lo ∧ lo ≤ 12 ∧ hi ≤ 12 ∧ loOf a b = lo ∧ hiOf a b = hi := by
 obtain ⟨_, a1, a2, a3⟩ := typeB_good ha
 obtain ⟨_, b1, b2, b3⟩ := typeB_good hb
 refine ⟨loOf a b, hiOf a b, ?_, ?_, ?_, ?_, ?_, rfl, rfl⟩
 ·show max a.least b.least = _
  unfold loOf; omega
 ·show min a.most b.most = _
  unfold hiOf; omega
 ·unfold loOf; omega
 ·unfold loOf; omega
 ·unfold hiOf; omega
set_option maxRecDepth 100000 in
set_option maxHeartbeats 4000000 in
theorem overR_any (a : Option Addr) (c : Nat) (l : List Typ) (i j : Int) (w : World) (h : TypesAt w a l) (hs : ∀ t, t ∈ l → SmlT t) (hl : l.length ≤ 1000000) :
  Calls Tryz.prog 25 #[.slice a l.length c, .int .i64 i, .int .i64 j] w fun e w' => e = .returned (overOut l i j) ∧ Below w.heap.size w w' := by
 have HC := Lib.hid (ofR_any a c l i w h hs hl)
 have HT := Lib.hid h
 have HS := Lib.hid hs
 clear h hs
 go_enter Tryz.func25, Tryz.ntmps25
 go_wp2_with (refine HC.out.mono ?_)
 rintro e w1 ⟨rfl, hb1⟩
 have HB1 := Lib.hid hb1
 have HT1 := Lib.hid (HT.out.below hb1)
 clear hb1 HC
 by_cases h0 : askedErr l i = 0
 rotate_left
 ·have HE : Hid (overOut l i j = .tuple #[.string ByteArray.empty, .bool false, .int .i64 (askedErr l i)]) := Lib.hid (by unfold overOut; rw [if_neg h0])
  have hne : (askedErr l i == 0) = false := by simpa using h0
  go_wp2_with fail
  exact bodyPost_ret (results_tmp3 rfl) rfl ⟨by rw [HE.out]; rfl, HB1.out⟩
 have HC := Lib.hid (ofR_any a c l j w1 HT1.out HS.out hl)
 simp only [h0]
 go_wp2_with (refine HC.out.mono ?_)
 rintro e w2 ⟨rfl, hb2⟩
 have HB2 := Lib.hid (HB1.out.trans (hb2.mono HB1.out.size))
 have HT2 := Lib.hid (HT1.out.below hb2)
 clear hb2 HC HB1 HT1 HT
 by_cases h1 : askedErr l j = 0
 rotate_left
 ·have HE : Hid (overOut l i j = .tuple #[.string ByteArray.empty, .bool false, .int .i64 (askedErr l j)]) := Lib.hid (by unfold overOut; rw [if_pos h0, if_neg h1])
  have hne : (askedErr l j == 0) = false := by simpa using h1
  go_wp2_with fail
  exact bodyPost_ret (results_tmp3 rfl) rfl ⟨by rw [HE.out]; rfl, HB2.out⟩
 obtain ⟨n1, t1, rfl, ht1, hk1, hg1, -, -⟩ := asked_good h0
 obtain ⟨n2, t2, rfl, ht2, hk2, hg2, -, -⟩ := asked_good h1
 obtain ⟨F, hF⟩ : ∃ F, overK (askedKnd l n1) (askedKnd l n2) = F := ⟨_, rfl⟩
 have HE : Hid (overOut l n1 n2 = .tuple #[.string (mkB (toS F)), .bool (!F.isEmpty), .int .i64 0]) := Lib.hid (by unfold overOut; rw [if_pos h0, if_pos h1, hF])
 obtain ⟨lo, hi, e1, e2, g1, g2, g3, e3, e4⟩ := meet_lohi hg1 hg2
 obtain ⟨T, hT⟩ : ∃ T, meetT t1 t2 = T := ⟨_, rfl⟩
 have HOV := Lib.hid (show F = firstW T.kd lo (hi + 1 - lo) by
  rw [← hF, hk1, hk2, ← hT, meet_kd, ← e3, ← e4]; rfl)
 have hs1 := HS.out t1 (List.mem_of_getElem? ht1)
 have hs2 := HS.out t2 (List.mem_of_getElem? ht2)
 have hts : T.sets = true := hT ▸ meet_sets (typeB_good hg1).1 (typeB_good hg2).1
 have hsm : SmlT T := hT ▸ meet_sml hs1 hs2
 have HM := Lib.hid (hT ▸ meetR_any t1 t2 hs1 hs2)
 rw [hT] at e1 e2
 obtain ⟨s1, s2, s3⟩ := Typ.sets_iff.1 hts
 have HTR := Lib.hid s1
 have HTS := Lib.hid hsm.rim
 have HTA := Lib.hid (show ∀ d, d < 26 → isSetB (bl (T.after d)) = true ∧ (T.after d).size ≤ 1000 from fun d hd => ⟨s3 d hd, hsm.after d hd⟩)
 have HTT := Lib.hid hts
 have HLO := Lib.hid e1
 have HHI := Lib.hid e2
 have hn1 : (n1 : Int) < (l.length : Int) := by have := (List.getElem?_eq_some_iff.1 ht1).1; omega
 have hn2 : (n2 : Int) < (l.length : Int) := by have := (List.getElem?_eq_some_iff.1 ht2).1; omega
 have hn10 : (0 : Int) ≤ (n1 : Int) := by omega
 have hn20 : (0 : Int) ≤ (n2 : Int) := by omega
 obtain ⟨b, o, rfl, hat1⟩ := HT2.out n1 t1 ht1
 obtain ⟨b', o', hbo, hat2⟩ := HT2.out n2 t2 ht2
 cases hbo
 have HAT1 := Lib.hid hat1
 have HAT2 := Lib.hid hat2
 simp only [h1]
 clear hat1 hat2 hF hk1 hk2 hg1 hg2 e1 e2 e3 e4 hT hs1 hs2 hts hsm s1 s2 s3 HT2 ht1 ht2 h0 h1 HS
 go_upto_region 6 with fail
 refine wp_region_heldB 10 [(10, typCells typ0, 71)] (by kernel_rfl) (by kernel_rfl) (by kernel_rfl) (by simp) ?_
 intro S hS
 have L1 := Lib.hid (fun A hA => TypAt.load (HAT1.out.below (hS A hA)))
 have L2 := Lib.hid (fun A hA => TypAt.load (HAT2.out.below (hS A hA)))
 have K0 := trivial
 have HS := Lib.hid hS
 clear hS
 simp only [List.take_succ_cons, List.take_zero, List.drop_succ_cons, List.drop_zero]
 repeat (first
  | (refine held_load 71 _ (by rfl) rfl rfl L1.out ?_; try (dsimp only); try simp only [Act.put, List.setIfInBounds_toArray, List.set_cons_zero, List.set_cons_succ])
  | (refine held_load 71 _ (by rfl) rfl rfl L2.out ?_; try (dsimp only); try simp only [Act.put, List.setIfInBounds_toArray, List.set_cons_zero, List.set_cons_succ])
  | (refine held_not rfl (by rfl) ?_; try (dsimp only); try simp only [Act.put, List.setIfInBounds_toArray, List.set_cons_zero, List.set_cons_succ])
  | (refine held_val (v := ?_) rfl (by rfl) ?_ ?_; rotate_left; (· (intro W hW; go_simp; try with_reducible rfl)); try (dsimp only); try simp only [Act.put, List.setIfInBounds_toArray, List.set_cons_zero, List.set_cons_succ])
  | (refine held_skip rfl (by rfl) ?_ ?_; (· (intro W hW; go_simp; try with_reducible rfl)); try (dsimp only); try simp only [Act.put, List.setIfInBounds_toArray, List.set_cons_zero, List.set_cons_succ])
  | (refine held_call (v := .agg (typCells T)) (f := 82) (args := #[.agg (typCells t1), .agg (typCells t2)]) rfl (by rfl) ?_ ?_ ?_; (· (intro W hW; go_simp; done)); (· exact (fun W hW => HM.out W)); try (dsimp only); try simp only [Act.put, List.setIfInBounds_toArray, List.set_cons_zero, List.set_cons_succ]))
 refine held_own (e := (10, typCells typ0, 71)) rfl rfl (by simp) rfl (fun b W => by rw [← ztyp]; go_simp) ?_
 refine held_nil ?_
 intro τ hτ W3 hW hO
 obtain ⟨g, rfl⟩ := laid1 hτ
 obtain ⟨hG, hGN⟩ := hO.one
 have hbW := HS.out W3 hW
 obtain ⟨W4, hst, hw4⟩ := run_store_all (P := Tryz.prog) agg_typ hG (typF T) (fun j _ => typF_one _ j)
 have B4 := Lib.hid (hw4.below (HB2.out.trans (hbW.mono HB2.out.size)) (by have := HB2.out.size; omega))
 have X4 := Lib.hid (Box.typ hw4.box)
 have HST := Lib.hid hst
 clear hτ hO hG hGN hW K0 HS hbW hst hw4 L1 L2 HAT1 HAT2 HB2 HM
 simp only [overs, List.foldl_cons, List.foldl_nil, Act.put, List.setIfInBounds_toArray, List.set_cons_zero, List.set_cons_succ]
 go_upto_region 7 with (refine wpList_store_box rfl 71 _ _ rfl rfl rfl HST.out ?_)
 clear HST
 have HL := Lib.hid (TypAt.load X4.out)
 have HGD := Lib.hid (goodR_any T HTT.out (fun d hd => (HTA.out d hd).2) W4)
 go_wp2_with (refine wpList_load_box rfl 71 _ rfl rfl HL.out ?_)
 refine HGD.out.mono ?_
 rintro e9 w5 ⟨rfl, hb5⟩
 obtain ⟨wq, hwq⟩ : ∃ wq, w5.alloc (.cells (fnCells 12 fun _ => .string ByteArray.empty) 121) = wq := ⟨_, rfl⟩
 have bq : Box wq w5.heap.size (fnCells 12 fun _ => .string ByteArray.empty) 121 := by rw [← hwq]; exact Box.new _ _ _
 have hbq : Below w5.heap.size w5 wq := by rw [← hwq]; go_grown
 obtain ⟨w6, hst, hw6⟩ := run_store_all (P := Tryz.prog) agg_ends bq (goodF T.kd) (fun _ _ => rfl)
 have ST := Lib.hid (show OvSt T g w5.heap.size w w6 from ⟨((X4.out.below hb5).below hbq).keep hw6.keep (by have := (X4.out.below hb5).lt; omega), hw6.box, by
  have h5 := B4.out.trans (hb5.mono B4.out.size)
  exact hw6.below (h5.trans (hbq.mono h5.size)) h5.size⟩)
 have HWQ := Lib.hid hwq
 have HST := Lib.hid hst
 clear HL HGD hb5 hwq bq hbq hst hw6
 go_upto_region 8 with (simp only [zends, HWQ.out]; refine wpList_store_box rfl 121 _ _ rfl rfl rfl HST.out ?_)
 obtain ⟨e, he⟩ : ∃ e, w5.heap.size = e := ⟨_, rfl⟩
 rw [he] at ST
 simp only [he]
 clear HST HWQ X4 B4 he wq
 have c2 := ST.out.x.fields.2.2.1
 simp only [Nat.zero_add, HLO.out] at c2
 go_wp2_with fail
 clear c2
 go_loopw [12, 13, 14, 15, 16] (fun iv _ _ _ _ wz => ∃ q : Nat, q ≤ hi + 1 - lo ∧ iv = .int .i64 ((lo + q : Nat) : Int) ∧ (∀ q', q' < q → firstAt T.kd lo q' = []) ∧ OvSt T g e w wz) (fun iv _ _ _ _ _ => hi + 1 - (intOf iv).toNat)
 case atStart => exact ⟨0, Nat.zero_le _, rfl, fun j hj => absurd hj (Nat.not_lt_zero j), ST.out⟩
 case round =>
  clear ST
  obtain ⟨q, hq, rfl, hno, st⟩ := hrel
  have HNO := Lib.hid hno
  have ST := Lib.hid st
  have c3 := st.x.fields.2.2.2.1
  have c4 := st.x.fields.2.2.2.2.1
  simp only [Nat.zero_add, HHI.out] at c3 c4
  clear hno st
  obtain ⟨n', hn'⟩ : ∃ n', lo + q = n' := ⟨_, rfl⟩
  rw [hn']
  by_cases hlt : lo + q ≤ hi
  ·have hle : decide ((n' : Int) ≤ (hi : Int)) = true := decide_eq_true (by omega)
   have hle2 : decide (n' ≤ hi) = true := decide_eq_true (by omega)
   have hn12 : n' ≤ 12 := by omega
   have hn1 : 1 ≤ n' := by omega
   have hn0 : (0 : Int) ≤ (n' : Int) := by omega
   have hfa : firstAt T.kd lo q = refWord T.kd n' T.kd.rim := by unfold firstAt; rw [hn']
   have HFA := Lib.hid hfa
   have G0 := Lib.hid (show GrW T n' 0 [] T.rim from ⟨rfl, HTR.out, HTS.out, rfl⟩)
   clear hfa
   go_wp2_with fail
   clear c3 c4
   go_loopw [13, 14, 15, 16] (fun wv nv pv _ wr => ∃ (p : Nat) (u : List Nat) (X : ByteArray), p ≤ n' ∧ pv = .int .i64 p ∧ wv = .string (mkB (toS u)) ∧ nv = .string X ∧ GrW T n' p u X ∧ OvSt T g e w wr) (fun _ _ pv _ _ => n' - (intOf pv).toNat)
   case atStart => exact ⟨0, [], T.rim, Nat.zero_le _, rfl, rfl, rfl, G0.out, ST.out⟩
   case round =>
    clear ST G0
    obtain ⟨p, u, X, hp, rfl, rfl, rfl, gw, st⟩ := hrel
    have ST := Lib.hid st
    have GW := Lib.hid gw
    clear st gw
    have hul : u.length = p := GW.out.len
    have hus : (mkB (toS u)).size = p := by rw [mkB_size]; unfold toS; rw [List.length_map, hul]
    by_cases hpn : p < n'
    ·obtain ⟨m, hm⟩ : ∃ m, n' = p + 1 + m := ⟨n' - p - 1, by omega⟩
     have hpi : (p : Int) < (n' : Int) := by omega
     have hm0 : (0 : Int) ≤ (m : Int) := by omega
     have hm12 : (m : Int) < 12 := by omega
     have hmw : IntKind.i64.wrap ((n' : Int) - 1) = (n' : Int) - 1 := IntWalk.i64_in _ (by omega)
     have hmv : IntKind.i64.wrap ((n' : Int) - 1 - (p : Int)) = (m : Int) := by rw [IntWalk.i64_in _ (by omega)]; omega
     have hmu : (n' : Int) - 1 - (p : Int) = (m : Int) := by omega
     have hmx : IntKind.i64.wrap (m : Int) = (m : Int) := IntWalk.i64_in _ (by omega)
     have c5 : wr.cell? ⟨e, m, none⟩ = some (.string (gS T.kd m)) := (ST.out.y).fn (i := m) (by omega)
     have hgs : (gS T.kd m).size ≤ 1000 := by rw [gS, mkB_size]; have := str_len (goodJ T.kd m); omega
     have hxs := GW.out.size
     have HMM := Lib.hid hm
     clear hm
     go_wp2_with fail
     clear c5
     refine (both_any X (gS T.kd m) (by omega) (by omega) wr).mono ?_
     rintro e9 w4 ⟨rfl, rfl⟩
     obtain ⟨can, hcan⟩ : ∃ can, mkB (bothL (bl X) (bl (gS T.kd m))) = can := ⟨_, rfl⟩
     have hcb : bl can = str fun d => hasC (bl X) d && goodJ T.kd m d := by
      rw [← hcan, bl_mkB, gS, bl_mkB]
      conv => lhs; rw [← str_has GW.out.set]
      exact both_str _ _
     simp only [hcan]
     clear hcan
     have HCB := Lib.hid hcb
     rcases hf : firstC (fun d => hasC (bl X) d && goodJ T.kd m d) with _ | d
     ·have he1 : can.toList.isEmpty = true := by
       rw [ByteArray.toList_eq]
       show (bl can).isEmpty = true
       rw [hcb, str_nil.2 (firstC_none.1 hf)]; rfl
      have HE0 := Lib.hid (show firstAt T.kd lo q = [] by rw [HFA.out]; exact GW.out.stuck HMM.out hf)
      have he2 : ((p : Int) == (n' : Int)) = false := by rw [beq_eq_false_iff_ne]; omega
      have he3 : (((mkB (toS u)).size : Int) == (n' : Int)) = false := by rw [hus]; exact he2
      clear hf hcb HCB
      go_wp2_with fail
      go_roundw
      case rel =>
       refine ⟨q + 1, by omega, by subst hn'; go_num, fun j' hj' => ?_, ST.out⟩
       rcases Nat.lt_or_ge j' q with h | h
       ·exact HNO.out j' h
       ·have : j' = q := by omega
        subst this; exact HE0.out
      case measure => simp [intOf]; omega
     ·have hd26 := (firstC_some hf).1
      have hcd : (bl can)[0]? = some (chC d) := by
       have := str_head (fun d => hasC (bl X) d && goodJ T.kd m d)
       rw [hf, ← hcb, List.head?_eq_getElem?] at this
       exact this
      have hc0 : 0 < can.size := by have := (List.getElem?_eq_some_iff.1 hcd).1; rwa [bl_len] at this
      have he1 : can.toList.isEmpty = false := by
       rw [ByteArray.toList_eq]
       show (bl can).isEmpty = false
       rcases hb : bl can with _ | ⟨y, z⟩
       ·rw [hb] at hcd; cases hcd
       ·rfl
      obtain ⟨x, hx⟩ : ∃ x, can[0] = x := ⟨_, rfl⟩
      have hxd : x = chC d := by have := bl_at can hc0; rw [hcd, hx] at this; exact (Option.some.inj this).symm
      have hc1 : (can.extract 0 1).size = 1 := size_one (i := 0) (by rw [bl_len]; exact hc0)
      have HCT := Lib.hid (show mkB (toS u) ++ can.extract 0 1 = mkB (toS (u ++ [d])) by
       rw [← mkB_bl (mkB (toS u) ++ can.extract 0 1), bl_app, bl_mkB, bl_one hcd]
       unfold toS; rw [List.map_append]; rfl)
      have haf : ∀ W, Calls Tryz.prog 85 #[.agg (typCells T), .int .u8 x.toNat] W fun e w' => e = .returned (.string (T.after d)) ∧ Below W.heap.size W w' := fun W => by
       have h := afterR_any T x W
       rw [show aftS T x = T.after d by rw [hxd, aftS_c T hd26]] at h
       exact h
      have HAF := Lib.hid haf
      have HGW := Lib.hid (GW.out.next HMM.out hf (HTA.out d hd26).1 (HTA.out d hd26).2)
      have hci : (1 : Int) ≤ (can.size : Int) := by omega
      have hci0 : (0 : Int) < (can.size : Int) := by omega
      clear hf hcb HCB hcd hxd haf
      go_upto_region 19 with (refine wpList_cat rfl _ _ _ rfl rfl rfl (by omega) ?_)
      refine wp_region_heldB 4 [] (by kernel_rfl) (by kernel_rfl) (by kernel_rfl) (by simp) ?_
      intro S hS
      have K0 := trivial
      have L1 := Lib.hid (fun A hA => TypAt.load (ST.out.x.below (hS A hA)))
      have HS := Lib.hid hS
      clear hS
      simp only [List.take_succ_cons, List.take_zero, List.drop_succ_cons, List.drop_zero]
      repeat (first
       | (refine held_load 71 _ (by rfl) rfl rfl L1.out ?_; try (dsimp only); try simp only [Act.put, List.setIfInBounds_toArray, List.set_cons_zero, List.set_cons_succ])
       | (refine held_not rfl (by rfl) ?_; try (dsimp only); try simp only [Act.put, List.setIfInBounds_toArray, List.set_cons_zero, List.set_cons_succ])
       | (refine held_val (v := ?_) rfl (by rfl) ?_ ?_; rotate_left; (· (intro W hW; go_simp; try with_reducible rfl)); try (dsimp only); try simp only [Act.put, List.setIfInBounds_toArray, List.set_cons_zero, List.set_cons_succ])
       | (refine held_skip rfl (by rfl) ?_ ?_; (· (intro W hW; go_simp; try with_reducible rfl)); try (dsimp only); try simp only [Act.put, List.setIfInBounds_toArray, List.set_cons_zero, List.set_cons_succ])
       | (refine held_call (v := .string (T.after d)) (f := 85) (args := #[.agg (typCells T), .int .u8 x.toNat]) rfl (by rfl) ?_ ?_ ?_; (· (intro W hW; go_simp; done)); (· exact (fun W hW => HAF.out W)); try (dsimp only); try simp only [Act.put, List.setIfInBounds_toArray, List.set_cons_zero, List.set_cons_succ]))
      refine held_nil ?_
      intro τ hτ W2 hW hO
      obtain rfl := laid0 hτ
      have ST2 := Lib.hid (ST.out.below (HS.out W2 hW))
      clear hτ hO hW K0 L1 HS ST
      simp only [overs, List.foldl_nil]
      go_wp2_with fail
      go_roundw
      case rel => exact ⟨p + 1, u ++ [d], T.after d, by omega, by go_num, by rw [HCT.out], rfl, HGW.out, ST2.out⟩
      case measure => simp [intOf]; omega
    ·have hpd : decide ((p : Int) < (n' : Int)) = false := decide_eq_false (by omega)
     have he2 : ((p : Int) == (n' : Int)) = true := by rw [beq_iff_eq]; omega
     have he3 : (((mkB (toS u)).size : Int) == (n' : Int)) = true := by rw [hus]; exact he2
     have hW : refWord T.kd n' T.kd.rim = u := by rw [GW.out.eq, show n' - p = 0 by omega]; simp [refWord]
     have hue : u.isEmpty = false := by
      rcases hu : u with _ | ⟨y, z⟩
      ·rw [hu] at hul; simp at hul; omega
      ·rfl
     have HF := Lib.hid (show F = u by
      rw [HOV.out, ← hW, ← HFA.out]
      exact firstW_at (by omega) HNO.out (by rw [HFA.out, hW]; intro h; rw [h] at hue; cases hue))
     have HU := Lib.hid hue
     clear hW hue
     go_wp2_with fail
     exact bodyPost_ret (results_tmp3 rfl) rfl ⟨by rw [HE.out, HF.out, HU.out]; rfl, ST.out.b⟩
  ·have hle : decide ((n' : Int) ≤ (hi : Int)) = false := decide_eq_false (by omega)
   have hle2 : decide (n' ≤ hi) = false := decide_eq_false (by omega)
   have HF := Lib.hid (show F = [] by rw [HOV.out]; exact firstW_no fun j' hj' => HNO.out j' (by omega))
   go_wp2_with fail
   exact bodyPost_ret (results_tmp3 rfl) rfl ⟨by rw [HE.out, HF.out]; rfl, ST.out.b⟩
end Go.Proofs.YthpjffhccjlnhaaGreatDoor
namespace Go.Proofs.YthpjffhccjlnhaaGreatDoor
open Go.RowKit
theorem overK_comm (A B : Knd) : overK A B = overK B A := by
 rw [overK, overK, meet_comm, loOf, loOf, hiOf, hiOf, Int.max_comm, Int.min_comm]
theorem overK_self (A : Knd) : overK A A = firstK A := by
 unfold overK firstK
 rw [meet_self, loOf, hiOf, Int.max_self, Int.min_self]; rfl
theorem asked_bad {l : List Typ} {i j : Int} (h1 : askedErr l i ≠ 0) (h2 : askedErr l j ≠ 0) : askedErr l i = askedErr l j := by
 unfold askedErr at h1 h2 ⊢
 split
 ·rename_i h
  rw [if_pos h] at h1 h2
  split
  ·rename_i g; exact absurd (if_pos g) h1
  ·split
   ·rename_i g; exact absurd (if_pos g) h2
   ·rfl
 ·rfl
theorem overOut_comm (l : List Typ) (i j : Int) : overOut l i j = overOut l j i := by
 unfold overOut
 by_cases h1 : askedErr l i = 0
 ·by_cases h2 : askedErr l j = 0
  ·rw [if_pos h1, if_pos h2, if_pos h2, if_pos h1, overK_comm]
  ·rw [if_pos h1, if_neg h2, if_neg h2]
 ·by_cases h2 : askedErr l j = 0
  ·rw [if_neg h1, if_pos h2, if_neg h1]
  ·rw [if_neg h1, if_neg h2, asked_bad h1 h2]
theorem over_form (l : List Typ) (i j : Int) : ∃ (S : ByteArray) (B : Bool) (E : Int), overOut l i j = .tuple #[.string S, .bool B, .int .i64 E] ∧ (E = 0 → askedErr l i = 0) := by
 unfold overOut
 by_cases h1 : askedErr l i = 0
 ·rw [if_pos h1]
  split
  ·exact ⟨_, _, _, rfl, fun _ => h1⟩
  ·exact ⟨_, _, _, rfl, fun _ => h1⟩
 ·rw [if_neg h1]; exact ⟨_, _, _, rfl, fun h => h⟩
theorem over_self {l : List Typ} {i : Int} (h : askedErr l i = 0) : ∃ (S : ByteArray) (B : Bool), firstOut l i = .tuple #[.string S, .bool B, .int .i64 0] ∧ overOut l i i = .tuple #[.string S, .bool B, .int .i64 0] := by
 unfold overOut firstOut
 rw [if_pos h, if_pos h, if_pos h, overK_self]
 exact ⟨_, _, rfl, rfl⟩
end Go.Proofs.YthpjffhccjlnhaaGreatDoor
