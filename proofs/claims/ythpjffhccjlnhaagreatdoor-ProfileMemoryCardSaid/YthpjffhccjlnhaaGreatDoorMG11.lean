/- Package profile: blank. No condition. -/
/- Package profile: shown. No condition. -/
import Derived.Test.YthpjffhccjlnhaaGreatDoorMG10
set_option linter.unusedSimpArgs false
set_option linter.unusedVariables false
namespace Go.Proofs.YthpjffhccjlnhaaGreatDoor
open Go.RowKit
attribute [local go_sem] Oper.semAt_some

def blkF (i s : Int) (v : Value) : Nat → Value
 | 0 => .int .i64 i
 | 1 => .int .i64 s
 | _ => v
def blkCells (i s : Int) (v : Value) : Array Value := fnCells 3 (blkF i s v)
theorem agg_blk : Agg Tryz.prog 88 3 := ⟨⟨_, Tryz.underlying88, rfl⟩, by kernel_rfl⟩
theorem zblk : (#[.int .i64 0, .int .i64 0, .slice none 0 0] : Array Value) = blkCells 0 0 (.slice none 0 0) := by kernel_rfl
theorem blkF_one (i s : Int) {v : Value} (h : v.oneCell' = true) (j : Nat) : (blkF i s v j).oneCell' = true := by
 rcases j with _ | _ | j <;> first | rfl | exact h
abbrev BlkBox (w : World) (b : Nat) (i s : Int) (v : Value) : Prop := Box w b (blkCells i s v) 88
section
variable {w : World} {b : Nat} {i s : Int} {v : Value}
theorem BlkBox.load (h : BlkBox w b i s v) : (Instr.loadAt 88 (.pointer (some ⟨b, 0, none⟩))).run Tryz.prog w = .ok (.agg (blkCells i s v)) w := run_load_sub agg_blk h 0 (blkF i s v) (fun j _ => by rw [Nat.zero_add]) (by omega)
theorem BlkBox.loadv (h : BlkBox w b i s v) : (loadVar 88 ⟨b, 0, none⟩).run Tryz.prog w = .ok (.agg (blkCells i s v)) w := run_loadv_sub agg_blk h 0 (blkF i s v) (fun j _ => by rw [Nat.zero_add]) (by omega)
theorem BlkBox.cells (h : BlkBox w b i s v) : w.cell? ⟨b, 0, none⟩ = some (.int .i64 i) ∧ w.cell? ⟨b, 1, none⟩ = some (.int .i64 s) ∧ w.cell? ⟨b, 2, none⟩ = some v := ⟨h.fn (i := 0) (by omega), h.fn (i := 1) (by omega), h.fn (i := 2) (by omega)⟩
theorem BlkBox.setv (h : BlkBox w b i s v) (u : Value) : BlkBox (w.setCell ⟨b, 2, none⟩ u) b i s u := (h.fset 2 u).cong fun j hj => by
 have h3 : j = 0 ∨ j = 1 ∨ j = 2 := by omega
 rcases h3 with rfl | rfl | rfl <;> rfl
end
theorem built_blk (parts : List (Nat × Value)) : Tryz.prog.built 88 parts = Instr.fill (fun i => (#[(0, 1), (1, 1), (2, 1)] : Array (Nat × Nat))[i]?) (blkCells 0 0 (.slice none 0 0)) parts := by
 rw [← zblk]; kernel_rfl
theorem run_build_blk (i s : Int) (w : World) : (Instr.build 88 #[(0, .int .i64 i), (1, .int .i64 s)]).run Tryz.prog w = .ok (.agg (blkCells i s (.slice none 0 0))) w := by
 refine run_build w _ _ _ ?_
 rw [built_blk]
 unfold blkCells
 rw [fill_fn (off := 0) (m := 1) (g := fun _ => .int .i64 i) rfl rfl (by omega), fill_fn (off := 1) (m := 1) (g := fun _ => .int .i64 s) rfl rfl (by omega)]
 refine congrArg some (fnCells_congr fun j hj => ?_)
 have h3 : j = 0 ∨ j = 1 ∨ j = 2 := by omega
 rcases h3 with rfl | rfl | rfl <;> rfl
def strV (l : List UInt8) : Value := .string (mkB l)
def nowT (t : Typ) (r : List Rng) (s : Nat) (p : Nat) : CS := nowB t.kd (cutOf r s) 0 t.kd.rim p
theorem nowT_step (t : Typ) (i : Int) (r : List Rng) (s p : Nat) : nowT t r s (p + 1) = nextS (kndOf t i) (blankOf t r s p) := by
 funext d
 unfold nowT nextS blankOf
 rw [nowB]
 simp only [Nat.zero_add]
 rfl
theorem info_str : (Tryz.prog.info? 9).map (fun i => (i.zero, i.size, i.bytes)) = some (some (.string { data := #[] }), 1, 16) := by kernel_rfl
theorem info_str2 : (Tryz.prog.info? 9).map (fun i => (i.zero, i.size)) = some (some (.string { data := #[] }), 1) := by kernel_rfl
/-- the sets of the first places -/
def blankTo (t : Typ) (r : List Rng) (s k : Nat) : List Value := (List.range k).map fun p => strV (str (blankOf t r s p))
theorem blankTo_succ (t : Typ) (r : List Rng) (s k : Nat) : blankTo t r s (k + 1) = blankTo t r s k ++ [strV (str (blankOf t r s k))] := by simp [blankTo, List.range_succ]
theorem blankTo_all (t : Typ) (r : List Rng) (s : Nat) : blankTo t r s t.m = (blankSets t r s).map strV := by simp [blankTo, blankSets]
/-- the memory of blank at its loop -/
structure BlkSt (t : Typ) (i : Int) (r : List Rng) (s p : Nat) (now : CS) (w W : World) : Prop where
 tr : TryBox W w.heap.size ⟨kndOf t i, s, leastOf4 t r s, cutOf r s⟩
 res : BlkBox W (w.heap.size + 1) 0 0 (.slice none 0 0)
 out : ∃ v, BlkBox W (w.heap.size + 2) i s v ∧ W.ownsRow (w.heap.size + 4) 9 1 v p (blankTo t r s p)
 nw : SetBox W (w.heap.size + 3) now
 bel : Below w.heap.size w W
 siz : w.heap.size + 4 ≤ W.heap.size
theorem BlkSt.below {t : Typ} {i : Int} {r : List Rng} {s p : Nat} {now : CS} {w W W' : World} (h : BlkSt t i r s p now w W) (hb : Below W.heap.size W W') : BlkSt t i r s p now w W' := by
 obtain ⟨v, h1, h2⟩ := h.out
 exact ⟨h.tr.below' hb, h.res.below' hb, ⟨v, h1.below' hb, ownsRow_keep h2 (Keep.of_below' (K := fun _ => True) hb) (fun _ _ => trivial)⟩, h.nw.below' hb, h.bel.trans (hb.mono h.bel.size), Nat.le_trans h.siz hb.size⟩
set_option maxRecDepth 100000 in
set_option maxHeartbeats 2000000 in
theorem blank_any (t : Typ) (i : Int) (r : List Rng) (s : Nat) (hm : t.most = (t.m : Int)) (hm12 : t.m ≤ 12) (w : World) :
  Calls Tryz.prog 106 #[.agg (tryCells ⟨kndOf t i, s, leastOf4 t r s, cutOf r s⟩)] w fun e w' => ∃ sa sc, e = .returned (.agg (blkCells i s (.slice sa t.m sc))) ∧ RowOwn w.heap.size w' sa ((blankSets t r s).map strV) ∧ t.m ≤ sc ∧ Below w.heap.size w w' := by
 obtain ⟨T, hT⟩ : ∃ T : Tr, ⟨kndOf t i, s, leastOf4 t r s, cutOf r s⟩ = T := ⟨_, rfl⟩
 obtain ⟨w1, hw1⟩ : ∃ w1, (w.alloc (.cells (tryCells T) 137)).alloc (.cells (blkCells 0 0 (.slice none 0 0)) 88) = w1 := ⟨_, rfl⟩
 have b0 : TryBox w1 w.heap.size T := by rw [← hw1]; exact (Box.new _ _ _).alloc _
 have b1 : BlkBox w1 (w.heap.size + 1) 0 0 (.slice none 0 0) := by rw [← hw1]; exact Box.new' (by simp)
 have hB : Below w.heap.size w w1 := by rw [← hw1]; go_grown
 have gs1 : w1.heap.size = w.heap.size + 2 := by rw [← hw1]; simp
 obtain ⟨w2, hw2⟩ : ∃ w2, w1.alloc (.cells (blkCells 0 0 (.slice none 0 0)) 88) = w2 := ⟨_, rfl⟩
 have b2 : BlkBox w2 (w.heap.size + 2) 0 0 (.slice none 0 0) := by rw [← hw2]; exact Box.new' gs1.symm
 have hB2 : Below w1.heap.size w1 w2 := by rw [← hw2]; go_grown
 have gs2 : w2.heap.size = w.heap.size + 3 := by rw [← hw2]; simp [gs1]
 obtain ⟨w3, hst3, hw3⟩ := run_store_all (P := Tryz.prog) agg_blk b2 (blkF i s (.slice none 0 0)) (fun j _ => blkF_one _ _ rfl j)
 have gs3 : w3.heap.size = w.heap.size + 3 := by rw [hw3.size, gs2]
 obtain ⟨w4, hw4⟩ : ∃ w4, w3.alloc (.cells (setCells fun _ => false) 108) = w4 := ⟨_, rfl⟩
 have b4 : SetBox w4 (w.heap.size + 3) (fun _ => false) := by rw [← hw4]; exact Box.new' gs3.symm
 have hB4 : Below w3.heap.size w3 w4 := by rw [← hw4]; go_grown
 obtain ⟨w5, hst5, hw5⟩ := store_set b4 T.knd.rim
 have k3 : TryBox w3 w.heap.size T := hw3.far (b0.below' hB2) (by omega)
 have ST : Hid (BlkSt t i r s 0 (nowT t r s 0) w w5) := Lib.hid (by
  refine ⟨?_, hw5.far ((hw3.far (b1.below' hB2) (by omega)).below' hB4) (by omega), ⟨.slice none 0 0, hw5.far (hw3.box.below' hB4) (by omega), ownsRow_nil _ _ _ _⟩, ?_, ?_, ?_⟩
  ·rw [hT]; exact hw5.far (k3.below' hB4) (by omega)
  ·have := hw5.box; rw [← hT] at this; exact this
  ·exact hw5.below ((hw3.below (hB.trans (hB2.mono (by omega))) (by omega)).trans (hB4.mono (by omega))) (by omega)
  ·rw [hw5.size, ← hw4]; simp [gs3])
 have c1 := TryBox.index_ b0
 have c2 := TryBox.shift_ b0
 rw [show T.knd.index = i by rw [← hT]; rfl] at c1
 rw [show T.shift = (s : Int) by rw [← hT]] at c2
 have HR := Lib.hid (TryBox.rim_ k3)
 have HW := Lib.hid hw1
 have HW2 := Lib.hid hw2
 have HW4 := Lib.hid hw4
 have HST3 := Lib.hid hst3
 have HST5 := Lib.hid hst5
 have HTT := Lib.hid hT
 have GS1 := Lib.hid gs1
 have GS3 := Lib.hid gs3
 rw [gs1.symm] at HST3
 rw [gs3.symm] at HST5
 rw [hT]
 clear b0 b1 hB hw1 hw2 b2 hB2 hst3 hw3 hw4 b4 hB4 hst5 hw5 k3 hT gs1 gs2 gs3
 go_enter Tryz.func106, Tryz.ntmps106
 go_upto_region 1 with fail
 simp only [zblk, HW.out]
 go_upto_region 3 with (first
  | (refine wpList_build rfl (v := .agg (blkCells i s (.slice none 0 0))) 88 _ rfl (by simp only [List.map_toArray, List.map_cons, List.map_nil]; exact run_build_blk i s _) ?_)
  | (simp only [zblk, HW2.out]; refine wpList_store_box rfl 88 _ _ rfl rfl rfl HST3.out ?_)
  | (refine wpList_load_box rfl 108 _ rfl rfl HR.out ?_)
  | (simp only [zset, HW4.out]; refine wpList_store_box rfl 108 _ _ rfl rfl rfl HST5.out ?_))
 simp only [GS1.out, GS3.out]
 have c3 := TryBox.most_ ST.out.tr
 rw [show (Tr.mk (kndOf t i) s (leastOf4 t r s) (cutOf r s)).knd.typ.most = (t.m : Int) from hm] at c3
 clear c1 c2
 go_wp2_with fail
 clear c3
 go_loopw [19] (fun pv wr => ∃ p : Nat, p ≤ t.m ∧ pv = .int .i64 p ∧ BlkSt t i r s p (nowT t r s p) w wr) (fun pv _ => t.m - (intOf pv).toNat)
 case atStart => exact ⟨0, Nat.zero_le _, rfl, ST.out⟩
 case round =>
  clear ST HW HW2 HW4 HST3 HST5 HR
  obtain ⟨p, hp, rfl, st⟩ := hrel
  have ST := Lib.hid st
  clear st
  by_cases hlt : p < t.m
  ·have hpi : (p : Int) < (t.m : Int) := by omega
   have hp0 : (0 : Int) ≤ (p : Int) := by omega
   have hp12 : (p : Int) < 12 := by omega
   go_upto_region 6 with fail
   refine wp_region_heldB 6 [] (by kernel_rfl) (by kernel_rfl) (by kernel_rfl) (by simp) ?_
   intro S hS
   have L2 := Lib.hid (fun A hA => load_set (ST.out.nw.below' (hS A hA)))
   have L3 := Lib.hid (fun A hA => TryBox.cut_ (ST.out.tr.below' (hS A hA)) (p := p) (by omega))
   have HS := Lib.hid hS
   clear hS
   simp only [List.take_succ_cons, List.take_zero, List.drop_succ_cons, List.drop_zero]
   repeat (first
    | (refine held_load 108 _ (by rfl) rfl rfl L2.out ?_; try (dsimp only); try simp only [Act.put, List.setIfInBounds_toArray, List.set_cons_zero, List.set_cons_succ])
    | (refine held_load 108 _ (by rfl) rfl rfl L3.out ?_; try (dsimp only); try simp only [Act.put, List.setIfInBounds_toArray, List.set_cons_zero, List.set_cons_succ])
    | (refine held_not rfl (by rfl) ?_; try (dsimp only); try simp only [Act.put, List.setIfInBounds_toArray, List.set_cons_zero, List.set_cons_succ])
    | (refine held_val (v := ?_) rfl (by rfl) ?_ ?_; rotate_left; (· (intro W hW; go_simp; try with_reducible rfl)); try (dsimp only); try simp only [Act.put, List.setIfInBounds_toArray, List.set_cons_zero, List.set_cons_succ])
    | (refine held_skip rfl (by rfl) ?_ ?_; (· (intro W hW; go_simp; try with_reducible rfl)); try (dsimp only); try simp only [Act.put, List.setIfInBounds_toArray, List.set_cons_zero, List.set_cons_succ])
    | (refine held_call (v := .agg (setCells (blankOf t r s p))) (f := 77) (args := #[.agg (setCells (nowT t r s p)), .agg (setCells (cutOf r s p))]) rfl (by rfl) ?_ ?_ ?_; (· (intro W hW; go_simp; done)); (· exact (fun W hW => cut_any _ _ W)); try (dsimp only); try simp only [Act.put, List.setIfInBounds_toArray, List.set_cons_zero, List.set_cons_succ]))
   refine held_nil ?_
   intro τ hτ W2 hW hO
   obtain rfl := laid0 hτ
   have hb2 := HS.out W2 hW
   clear hτ hO hW HS L2 L3
   simp only [overs, List.foldl_nil]
   obtain ⟨v, o1, o2⟩ := (ST.out.below hb2).out
   have S2 := ST.out.below hb2
   obtain ⟨W3, hst, hw3⟩ := store_set S2.nw (blankOf t r s p)
   have S3 : BlkSt t i r s p (blankOf t r s p) w W3 := ⟨hw3.far S2.tr (by omega), hw3.far S2.res (by omega), ⟨v, hw3.far o1 (by omega), ownsRow_keep o2 hw3.keep (fun k hk => by omega)⟩, hw3.box, hw3.below S2.bel (by omega), by rw [hw3.size]; exact S2.siz⟩
   have HST := Lib.hid hst
   have ST3 := Lib.hid S3
   clear hst hw3 S2 S3 o1 o2 ST hb2
   go_upto_region 7 with (refine wpList_store_box rfl 108 _ _ rfl rfl rfl HST.out ?_)
   clear HST v
   obtain ⟨v, o1, o2⟩ := ST3.out.out
   have O1 := Lib.hid o1
   have O2 := Lib.hid o2
   clear o1 o2
   have k0 : ∀ A, Keep (fun k => k < w.heap.size + 4) W3 A → A.cell? ⟨w.heap.size + 2, 2, none⟩ = some v := fun A hA => (BlkBox.cells (hA.heap (by omega) O1.out)).2.2
   have K0 := Lib.hid k0
   clear k0
   refine wp_region_L (fun A => Keep (fun k => k < w.heap.size + 4) W3 A) 7 (by kernel_rfl) ?_
   have hbd : Below W3.heap.size W3 W3.drew := (Below.refl _ W3).drew
   have hSS : Keep (fun k => k < w.heap.size + 4) W3 W3.drew := Keep.of_below' hbd
   refine anyL_take (i := 0) (v := ?_) (by kernel_rfl) rfl (by kernel_rfl) (by kernel_rfl) (by kernel_rfl) (by kernel_rfl) (fun _ _ _ h => h) (by rfl) ?_ hSS ?_
   rotate_left
   ·(intro W hW; have q0 := K0.out W hW; go_simp; try with_reducible rfl)
   try (dsimp only); try simp only [Act.put, List.setIfInBounds_toArray, List.set_cons_zero, List.set_cons_succ]
   refine anyL_take (i := 1) (v := ?_) (by kernel_rfl) rfl (by kernel_rfl) (by kernel_rfl) (by kernel_rfl) (by kernel_rfl) (fun _ _ _ h => h) (by rfl) ?_ hSS ?_
   rotate_left
   ·(intro W hW; have q0 := K0.out W hW; go_simp; try with_reducible rfl)
   try (dsimp only); try simp only [Act.put, List.setIfInBounds_toArray, List.set_cons_zero, List.set_cons_succ]
   refine anyL_load (i := 2) (v := .agg (setCells (blankOf t r s p))) 108 _ (by kernel_rfl) rfl (by kernel_rfl) (by kernel_rfl) (by kernel_rfl) (by kernel_rfl) (fun _ _ _ h => h) (by rfl) rfl rfl (fun W hW => load_set (hW.heap (by omega) ST3.out.nw)) hSS ?_
   try (dsimp only); try simp only [Act.put, List.setIfInBounds_toArray, List.set_cons_zero, List.set_cons_succ]
   refine anyL_call (i := 3) (f := 99) (args := #[.agg (setCells (blankOf t r s p))]) rfl (by kernel_rfl) (by rfl) ?_ (text_any _ _) ?_
   ·go_simp
   rintro e W4 ⟨rfl, hb4⟩
   have hb4' : Below W3.heap.size W3 W4 := hbd.trans hb4
   have hz4 := Nat.le_trans ST3.out.siz hb4'.size
   refine .inl ⟨_, rfl, .inr (Keep.of_below' hb4'), ?_⟩
   try (dsimp only); try simp only [Act.put, List.setIfInBounds_toArray, List.set_cons_zero, List.set_cons_succ]
   have hbs := run_bslice (P := Tryz.prog) (T := 85) Tryz.underlying85 info_str2 (by omega) (by omega) (v := strV (str (blankOf t r s p))) (g := fun _ => strV (str (blankOf t r s p))) rfl W4
   obtain ⟨v', U, hrun, hown, hbU, -, -⟩ := app_fn (P := Tryz.prog) (TT := 85) Tryz.underlying85 info_str rfl (by omega) (by omega) (ownsRow_keep O2.out (Keep.of_below' (K := fun _ => True) hb4') (fun _ _ => trivial)) (by omega) hz4 (fun _ => strV (str (blankOf t r s p))) (fun j _ => rfl)
   have hkU : Keep (fun k => k < w.heap.size + 4) W3 U := (Keep.of_below' hb4').trans ⟨hbU.os, hbU.tape, hbU.output, hbU.size, fun k hk _ => hbU.block k hk⟩
   refine anyL_run (i := 4) (v := .slice (some ⟨W4.heap.size, 0, none⟩) 1 1) (w' := W4.alloc (.cells (fnCells 1 fun _ => strV (str (blankOf t r s p))) 9)) rfl (by kernel_rfl) (by rfl) ?_ (.inr ((Keep.of_below' hb4').alloc _)) ?_
   ·refine exec_bslice 85 _ _ rfl ?_
    simp only [List.map_toArray, List.map_cons, List.map_nil]
    exact hbs
   try (dsimp only); try simp only [Act.put, List.setIfInBounds_toArray, List.set_cons_zero, List.set_cons_succ]
   obtain ⟨a', c', rfl, -, -⟩ := ownsRow_own hown
   refine anyL_run (i := 5) (v := .slice a' (p + 1) c') (w' := U) rfl (by kernel_rfl) (by rfl) ?_ (.inr hkU) ?_
   ·refine exec_app (v := v) (u := .slice (some ⟨W4.heap.size, 0, none⟩) 1 1) _ _ 85 rfl (by rfl) (by rfl) ?_
    exact hrun
   try (dsimp only); try simp only [Act.put, List.setIfInBounds_toArray, List.set_cons_zero, List.set_cons_succ]
   refine anyL_run (i := 6) (v := .pointer (some ⟨w.heap.size + 2, 2, none⟩)) (w' := U) rfl (by kernel_rfl) (by rfl) ?_ (.inr hkU) ?_
   ·go_simp
   try (dsimp only); try simp only [Act.put, List.setIfInBounds_toArray, List.set_cons_zero, List.set_cons_succ]
   have bU : BlkBox U (w.heap.size + 2) i s v := hkU.heap (by omega) O1.out
   have r1 := (BlkBox.cells bU).2.2
   have r2 := bU.frozen 2
   refine anyL_skip (i := 7) (w' := U.setCell ⟨w.heap.size + 2, 2, none⟩ (.slice a' (p + 1) c')) rfl (by kernel_rfl) (by rfl) ?_ (.inl rfl) ?_
   ·go_simp
   try (dsimp only); try simp only [Act.put, List.setIfInBounds_toArray, List.set_cons_zero, List.set_cons_succ]
   refine anyL_done (by kernel_rfl) ?_ _
   have hk6 : Keep (fun k => k ≠ w.heap.size + 2) U (U.setCell ⟨w.heap.size + 2, 2, none⟩ (.slice a' (p + 1) c')) := (Keep.refl _ U).setCell (.inl (by simp)) _
   have hbl : Below w.heap.size w (U.setCell ⟨w.heap.size + 2, 2, none⟩ (.slice a' (p + 1) c')) := ((ST3.out.bel.trans (hb4'.mono ST3.out.bel.size)).trans (hbU.mono (by omega))).setCell (by simp) _
   have S6 : BlkSt t i r s (p + 1) (blankOf t r s p) w (U.setCell ⟨w.heap.size + 2, 2, none⟩ (.slice a' (p + 1) c')) := by
    refine ⟨hk6.heap (by omega) (hkU.heap (by omega) ST3.out.tr), hk6.heap (by omega) (hkU.heap (by omega) ST3.out.res), ⟨_, BlkBox.setv bU _, ?_⟩, hk6.heap (by omega) (hkU.heap (by omega) ST3.out.nw), hbl, by have := hkU.size; have := ST3.out.siz; simp; omega⟩
    rw [blankTo_succ]
    exact ownsRow_keep hown hk6 (fun k hk => by omega)
   generalize U.setCell ⟨w.heap.size + 2, 2, none⟩ (.slice a' (p + 1) c') = W6 at *
   have ST6 := Lib.hid S6
   have HL1 := Lib.hid (TryBox.knd_ S6.tr)
   have HL2 := Lib.hid (load_set S6.nw)
   have hnx := next_any (kndOf t i) (blankOf t r s p) W6
   have HNX := Lib.hid hnx
   clear S6 hbl hk6 bU r1 r2 hkU hown hbU hrun hbs hz4 hb4' hb4 hSS hbd K0 O1 O2 ST3 hnx
   go_wp2_with (first
    | (refine wpList_load_box rfl 111 _ rfl rfl HL1.out ?_)
    | (refine wpList_load_box rfl 108 _ rfl rfl HL2.out ?_))
   refine HNX.out.mono ?_
   rintro e W7 ⟨rfl, hb7⟩
   have S7 := ST6.out.below hb7
   obtain ⟨W8, hst8, hw8⟩ := store_set S7.nw (nextS (kndOf t i) (blankOf t r s p))
   have HST8 := Lib.hid hst8
   have ST8 : Hid (BlkSt t i r s (p + 1) (nowT t r s (p + 1)) w W8) := Lib.hid (by
    obtain ⟨v, o1, o2⟩ := S7.out
    refine ⟨hw8.far S7.tr (by omega), hw8.far S7.res (by omega), ⟨v, hw8.far o1 (by omega), ownsRow_keep o2 hw8.keep (fun k hk => by omega)⟩, ?_, hw8.below S7.bel (by omega), by rw [hw8.size]; exact S7.siz⟩
    rw [nowT_step t i]; exact hw8.box)
   clear hst8 hw8 S7 hb7 HNX HL1 HL2 ST6
   go_wp2_with (refine wpList_store_box rfl 108 _ _ rfl rfl rfl HST8.out ?_)
   go_roundw
   case rel => exact ⟨p + 1, by omega, by go_num, ST8.out⟩
   case measure => simp [intOf]; omega
  ·have hpn : decide ((p : Int) < (t.m : Int)) = false := decide_eq_false (by omega)
   obtain rfl : p = t.m := by omega
   obtain ⟨v, o1, o2⟩ := ST.out.out
   rw [blankTo_all] at o2
   obtain ⟨a', c', rfl, hro, hcap⟩ := ownsRow_own o2
   have HL := Lib.hid (BlkBox.load o1)
   obtain ⟨W2, hst, hw2⟩ := run_store_all (P := Tryz.prog) agg_blk ST.out.res (blkF i s (.slice a' t.m c')) (fun j _ => blkF_one _ _ rfl j)
   have HST := Lib.hid hst
   have HW2 := Lib.hid hw2
   have HRO := Lib.hid (hro.keep hw2.keep (fun k hk => by omega))
   have HCP := Lib.hid hcap
   clear o1 o2 hro hcap hst hw2
   go_wp2_with (first
    | (refine wpList_load_box rfl 88 _ rfl rfl HL.out ?_)
    | (refine wpList_store_box rfl 88 _ _ rfl rfl rfl HST.out ?_))
   refine bodyPost_ret (results_cell rfl rfl (BlkBox.loadv HW2.out.box)) rfl ⟨a', c', rfl, HRO.out.less (by omega), HCP.out, HW2.out.below ST.out.bel (by omega)⟩
end Go.Proofs.YthpjffhccjlnhaaGreatDoor
namespace Go.Proofs.YthpjffhccjlnhaaGreatDoor
open Go.RowKit
attribute [local go_sem] Oper.semAt_some

theorem eqS_sub (f g : CS) : eqS (fun c => f c && g c) f = all26 (fun c => !f c || g c) := by
 unfold eqS
 congr 1
 funext c
 cases h1 : f c <;> cases h2 : g c <;> simp [h1, h2]
theorem before_succ (t : Typ) (i : Int) (S : List ByteArray) (p : Nat) : beforeB t.kd S (p + 1) = nextS (kndOf t i) (hasC (setAt4 S p)) := rfl
theorem setAt4_at {S : List ByteArray} {p : Nat} {x : ByteArray} (h : S[p]? = some x) : setAt4 S p = bl x := by simp [setAt4, h]
/-- the memory of shown at its loop -/
structure ShSt (t : Typ) (i : Int) (r : List Rng) (s : Nat) (now : CS) (w W : World) : Prop where
 tr : TryBox W w.heap.size ⟨kndOf t i, s, leastOf4 t r s, cutOf r s⟩
 nw : SetBox W (w.heap.size + 2) now
 bel : Below w.heap.size w W
theorem ShSt.below {t : Typ} {i : Int} {r : List Rng} {s : Nat} {now : CS} {w W W' : World} (h : ShSt t i r s now w W) (hb : Below W.heap.size W W') : ShSt t i r s now w W' := ⟨h.tr.below' hb, h.nw.below' hb, h.bel.trans (hb.mono h.bel.size)⟩
theorem shown_no {t : Typ} {r : List Rng} {s : Nat} {S : List ByteArray} {p : Nat} (hp : p < S.length) (h : shownAt t r s S p = false) : shownB t r s S = false := by
 have : (List.range S.length).all (shownAt t r s S) = false := by
  rw [List.all_eq_false]
  exact ⟨p, by simpa using hp, by simp [h]⟩
 unfold shownB; rw [this]; simp
set_option maxRecDepth 100000 in
set_option maxHeartbeats 4000000 in
theorem shown_any (t : Typ) (i : Int) (r : List Rng) (s : Nat) (hm : t.most = (t.m : Int)) (hm12 : t.m ≤ 12) (bi bs : Int) (S : List ByteArray) (sa : Option Addr) (sc : Nat) (w : World) (hSA : StrsAt w sa S) (hsz : ∀ x, x ∈ S → x.size ≤ 1000) (hsl : S.length ≤ 1000000) :
  Calls Tryz.prog 109 #[.agg (tryCells ⟨kndOf t i, s, leastOf4 t r s, cutOf r s⟩), .agg (blkCells bi bs (.slice sa S.length sc))] w fun e w' => e = .returned (.bool ((bi == i && bs == (s : Int)) && shownB t r s S)) ∧ Below w.heap.size w w' := by
 obtain ⟨T, hT⟩ : ∃ T : Tr, ⟨kndOf t i, s, leastOf4 t r s, cutOf r s⟩ = T := ⟨_, rfl⟩
 obtain ⟨w1, hw1⟩ : ∃ w1, (w.alloc (.cells (tryCells T) 137)).alloc (.cells (blkCells bi bs (.slice sa S.length sc)) 88) = w1 := ⟨_, rfl⟩
 have b0 : TryBox w1 w.heap.size T := by rw [← hw1]; exact (Box.new _ _ _).alloc _
 have b1 : BlkBox w1 (w.heap.size + 1) bi bs (.slice sa S.length sc) := by rw [← hw1]; exact Box.new' (by simp)
 have hB : Below w.heap.size w w1 := by rw [← hw1]; go_grown
 have gs1 : w1.heap.size = w.heap.size + 2 := by rw [← hw1]; simp
 have c1 := TryBox.index_ b0
 have c2 := TryBox.shift_ b0
 have c3 := TryBox.most_ b0
 rw [show T.knd.index = i by rw [← hT]; rfl] at c1
 rw [show T.shift = (s : Int) by rw [← hT]] at c2
 rw [show T.knd.typ.most = (t.m : Int) by rw [← hT]; exact hm] at c3
 obtain ⟨d1, d2, d3⟩ := BlkBox.cells b1
 obtain ⟨w2, hw2⟩ : ∃ w2, w1.alloc (.cells (setCells fun _ => false) 108) = w2 := ⟨_, rfl⟩
 have b2 : SetBox w2 (w.heap.size + 2) (fun _ => false) := by rw [← hw2]; exact Box.new' gs1.symm
 have hB2 : Below w1.heap.size w1 w2 := by rw [← hw2]; go_grown
 obtain ⟨w3, hst, hw3⟩ := store_set b2 T.knd.rim
 have ST : Hid (ShSt t i r s (beforeB t.kd S 0) w w3) := Lib.hid (by
  refine ⟨?_, ?_, hw3.below (hB.trans (hB2.mono (by omega))) (by omega)⟩
  ·rw [hT]; exact hw3.far (b0.below' hB2) (by omega)
  ·have := hw3.box; rw [← hT] at this; exact this)
 have b3 : BlkBox w3 (w.heap.size + 1) bi bs (.slice sa S.length sc) := hw3.far (b1.below' hB2) (by omega)
 have HR := Lib.hid (TryBox.rim_ b0)
 have HW := Lib.hid hw1
 have HW2 := Lib.hid hw2
 rw [gs1.symm] at hst
 have HST := Lib.hid hst
 have GS1 := Lib.hid gs1
 have HB := Lib.hid hB
 have HSA := Lib.hid hSA
 have HSZ := Lib.hid hsz
 have B3 := Lib.hid b3
 rw [hT]
 clear b0 b1 hB hw1 hw2 b2 hB2 hst hw3 b3 hT gs1 hSA hsz
 rcases q1 : bi == i with _ | _
 ·go_enter Tryz.func109, Tryz.ntmps109
  go_upto_region 1 with fail
  simp only [HW.out]
  go_wp2_with fail
  all_goals
   go_ret
   exact ⟨rfl, HB.out⟩
 obtain rfl : bi = i := by simpa using q1
 clear q1
 rcases q2 : bs == (s : Int) with _ | _
 ·go_enter Tryz.func109, Tryz.ntmps109
  go_upto_region 1 with fail
  simp only [HW.out]
  go_wp2_with fail
  all_goals
   go_ret
   exact ⟨rfl, HB.out⟩
 obtain rfl : bs = (s : Int) := by simpa using q2
 clear q2
 rcases q3 : (S.length == t.m) with _ | _
 ·have q4 : ((S.length : Int) == (t.m : Int)) = false := by simp at q3 ⊢; omega
  have HN : Hid (shownB t r s S = false) := Lib.hid (by unfold shownB; rw [q3]; rfl)
  go_enter Tryz.func109, Tryz.ntmps109
  go_upto_region 1 with fail
  simp only [HW.out]
  go_wp2_with fail
  all_goals
   go_ret
   exact ⟨ret_bool (by rw [HN.out]; rfl), HB.out⟩
 have q4 : S.length = t.m := by simpa using q3
 have hlm : S.length ≤ 12 := by omega
 have q5 : ((S.length : Int) == (t.m : Int)) = true := by rw [q4]; simp
 have HLM := Lib.hid q4
 clear q4
 go_enter Tryz.func109, Tryz.ntmps109
 go_upto_region 1 with fail
 simp only [HW.out]
 have d4 := (BlkBox.cells B3.out).2.2
 go_upto_region 4 with (first
  | (refine wpList_load_box rfl 108 _ rfl rfl HR.out ?_)
  | (simp only [zset, HW2.out]; refine wpList_store_box rfl 108 _ _ rfl rfl rfl HST.out ?_))
 simp only [GS1.out]
 go_wp2_with fail
 clear c1 c2 c3 d1 d2 d3 d4
 go_loopw [37] (fun pv wr => ∃ p : Nat, p ≤ S.length ∧ pv = .int .i64 p ∧ (∀ j, j < p → shownAt t r s S j = true) ∧ ShSt t bi r s (beforeB t.kd S p) w wr) (fun pv _ => S.length - (intOf pv).toNat)
 case atStart => exact ⟨0, Nat.zero_le _, rfl, fun j hj => absurd hj (Nat.not_lt_zero j), ST.out⟩
 case round =>
  clear ST HW HW2 HST HR B3 HB
  obtain ⟨p, hp, rfl, hall, st⟩ := hrel
  have ST := Lib.hid st
  have HALL := Lib.hid hall
  clear st hall
  by_cases hlt : p < S.length
  ·obtain ⟨x, hx⟩ : ∃ x, S[p]? = some x := ⟨S[p], by simp [hlt]⟩
   obtain ⟨b, o, rfl, hxc⟩ := HSA.out p x hx
   have hc := below_cell ST.out.bel hxc
   have hx1 := HSZ.out x (List.mem_of_getElem? hx)
   have hx2 : x.size ≤ 1000000 := by omega
   have HXA := Lib.hid (setAt4_at hx)
   have hpi : (p : Int) < (S.length : Int) := by omega
   have hp0 : (0 : Int) ≤ (p : Int) := by omega
   have hp12 : (p : Int) < 12 := by omega
   have hpw : IntKind.i64.wrap ((p : Int) + 1) = (p : Int) + 1 := IntWalk.i64_in _ (by omega)
   clear hx hxc hx1
   obtain ⟨N, hN⟩ : ∃ N : CS, beforeB t.kd S p = N := ⟨_, rfl⟩
   have HN := Lib.hid hN
   rw [hN] at ST
   clear hN
   have hat : shownAt t r s S p = (isSetB (bl x) && all26 (fun c => !(N c && cutOf r s p c) || hasC (bl x) c) && !(decide (leastOf4 t r s ≤ (p : Int) + 1) && any26 fun c => hasC (bl x) c && t.kd.base c)) := by
    unfold shownAt; rw [HXA.out, HN.out]; rfl
   have HAT := Lib.hid hat
   clear hat
   go_upto_region 7 with fail
   rcases h1 : isSetB (bl x) with _ | _
   ·refine wp_region_heldB 38 [] (by kernel_rfl) (by kernel_rfl) (by kernel_rfl) (by simp) ?_
    intro S' hS
    have k0 : ∀ A, S' A → A.cell? ⟨w.heap.size, 762, none⟩ = some (.int .i64 (leastOf4 t r s)) := fun A hA => TryBox.least_ (ST.out.tr.below' (hS A hA))
    have K0 := Lib.hid k0
    have L2 := Lib.hid (fun A hA => load_set (ST.out.nw.below' (hS A hA)))
    have L3 := Lib.hid (fun A hA => TryBox.cut_ (ST.out.tr.below' (hS A hA)) (p := p) (by omega))
    have L4 := Lib.hid (fun A hA => TryBox.base_ (ST.out.tr.below' (hS A hA)))
    have HS := Lib.hid hS
    clear hS k0
    simp only [List.take_succ_cons, List.take_zero, List.drop_succ_cons, List.drop_zero]
    repeat (first
     | (refine held_not rfl (by rfl) ?_; try (dsimp only); try simp only [Act.put, List.setIfInBounds_toArray, List.set_cons_zero, List.set_cons_succ])
     | (refine held_val (v := ?_) rfl (by rfl) ?_ ?_; rotate_left; (· (intro W hW; have q0 := K0.out W hW; go_simp; try with_reducible rfl)); try (dsimp only); try simp only [Act.put, List.setIfInBounds_toArray, List.set_cons_zero, List.set_cons_succ])
     | (refine held_skip rfl (by rfl) ?_ ?_; (· (intro W hW; have q0 := K0.out W hW; go_simp; try with_reducible rfl)); try (dsimp only); try simp only [Act.put, List.setIfInBounds_toArray, List.set_cons_zero, List.set_cons_succ])
     | (refine held_call (v := .bool false) (f := 121) (args := #[.string x]) rfl (by rfl) ?_ ?_ ?_; (· (intro W hW; go_simp; done)); (· exact (fun W hW => by have := isSet_any x W hx2; rwa [h1] at this)); try (dsimp only); try simp only [Act.put, List.setIfInBounds_toArray, List.set_cons_zero, List.set_cons_succ]))
    refine held_nil ?_
    intro τ hτ W2 hW hO
    obtain rfl := laid0 hτ
    have ST2 := Lib.hid (ST.out.below (HS.out W2 hW))
    clear hτ hO hW K0 L2 L3 L4 HS
    simp only [overs, List.foldl_nil]
    have HF : Hid (shownB t r s S = false) := Lib.hid (shown_no hlt (by rw [HAT.out, h1]; rfl))
    clear h1 hc
    go_wp2_with fail
    go_ret
    exact ⟨ret_bool (by rw [HF.out]; rfl), ST2.out.bel⟩
   ·obtain ⟨X, hX⟩ : ∃ X : CS, (fun c => N c && cutOf r s p c) = X := ⟨_, rfl⟩
    have hne1 := run_neq_set (fun c => X c && hasC (bl x) c) X
    rw [eqS_sub] at hne1
    have hq2 : all26 (fun c => !(N c && cutOf r s p c) || hasC (bl x) c) = all26 (fun c => !X c || hasC (bl x) c) := by rw [← hX]
    have HX := Lib.hid hX
    clear hX
    rcases h2 : all26 (fun c => !X c || hasC (bl x) c) with _ | _
    ·rw [h2] at hne1
     simp only [Bool.not_false] at hne1
     refine wp_region_heldB 38 [] (by kernel_rfl) (by kernel_rfl) (by kernel_rfl) (by simp) ?_
     intro S' hS
     have k0 : ∀ A, S' A → A.cell? ⟨w.heap.size, 762, none⟩ = some (.int .i64 (leastOf4 t r s)) := fun A hA => TryBox.least_ (ST.out.tr.below' (hS A hA))
     have K0 := Lib.hid k0
     have L2 := Lib.hid (fun A hA => load_set (ST.out.nw.below' (hS A hA)))
     have L3 := Lib.hid (fun A hA => TryBox.cut_ (ST.out.tr.below' (hS A hA)) (p := p) (by omega))
     have L4 := Lib.hid (fun A hA => TryBox.base_ (ST.out.tr.below' (hS A hA)))
     have HS := Lib.hid hS
     clear hS k0
     simp only [List.take_succ_cons, List.take_zero, List.drop_succ_cons, List.drop_zero]
     repeat (first
      | (refine held_load 108 _ (by rfl) rfl rfl L2.out ?_; try (dsimp only); try simp only [Act.put, List.setIfInBounds_toArray, List.set_cons_zero, List.set_cons_succ])
      | (refine held_load 108 _ (by rfl) rfl rfl L3.out ?_; try (dsimp only); try simp only [Act.put, List.setIfInBounds_toArray, List.set_cons_zero, List.set_cons_succ])
      | (refine held_not rfl (by rfl) ?_; try (dsimp only); try simp only [Act.put, List.setIfInBounds_toArray, List.set_cons_zero, List.set_cons_succ])
      | (refine held_val (v := ?_) rfl (by rfl) ?_ ?_; rotate_left; (· (intro W hW; have q0 := K0.out W hW; go_simp; try with_reducible rfl)); try (dsimp only); try simp only [Act.put, List.setIfInBounds_toArray, List.set_cons_zero, List.set_cons_succ])
      | (refine held_skip rfl (by rfl) ?_ ?_; (· (intro W hW; have q0 := K0.out W hW; go_simp; try with_reducible rfl)); try (dsimp only); try simp only [Act.put, List.setIfInBounds_toArray, List.set_cons_zero, List.set_cons_succ])
      | (refine held_call (v := .bool true) (f := 121) (args := #[.string x]) rfl (by rfl) ?_ ?_ ?_; (· (intro W hW; go_simp; done)); (· exact (fun W hW => by have := isSet_any x W hx2; rwa [h1] at this)); try (dsimp only); try simp only [Act.put, List.setIfInBounds_toArray, List.set_cons_zero, List.set_cons_succ])
      | (refine held_call (v := .agg (setCells X)) (f := 77) (args := #[.agg (setCells N), .agg (setCells (cutOf r s p))]) rfl (by rfl) ?_ ?_ ?_; (· (intro W hW; go_simp; done)); (· exact (fun W hW => by have := cut_any N (cutOf r s p) W; rwa [HX.out] at this)); try (dsimp only); try simp only [Act.put, List.setIfInBounds_toArray, List.set_cons_zero, List.set_cons_succ])
      | (refine held_call (v := .agg (setCells (hasC (bl x)))) (f := 142) (args := #[.string x]) rfl (by rfl) ?_ ?_ ?_; (· (intro W hW; go_simp; done)); (· exact (fun W hW => of_any _ h1 W hx2)); try (dsimp only); try simp only [Act.put, List.setIfInBounds_toArray, List.set_cons_zero, List.set_cons_succ])
      | (refine held_call (v := .agg (setCells fun c => X c && hasC (bl x) c)) (f := 77) (args := #[.agg (setCells X), .agg (setCells (hasC (bl x)))]) rfl (by rfl) ?_ ?_ ?_; (· (intro W hW; go_simp; done)); (· exact (fun W hW => cut_any _ _ W)); try (dsimp only); try simp only [Act.put, List.setIfInBounds_toArray, List.set_cons_zero, List.set_cons_succ]))
     refine held_nil ?_
     intro τ hτ W2 hW hO
     obtain rfl := laid0 hτ
     have ST2 := Lib.hid (ST.out.below (HS.out W2 hW))
     clear hτ hO hW K0 L2 L3 L4 HS
     simp only [overs, List.foldl_nil]
     have HF : Hid (shownB t r s S = false) := Lib.hid (shown_no hlt (by rw [HAT.out, hq2, h2]; simp))
     clear h1 h2 hq2 hc hne1
     go_wp2_with fail
     go_ret
     exact ⟨ret_bool (by rw [HF.out]; rfl), ST2.out.bel⟩
    ·rw [h2] at hne1
     simp only [Bool.not_true] at hne1
     rcases h3 : decide (leastOf4 t r s ≤ (p : Int) + 1) with _ | _
     ·refine wp_region_heldB 38 [] (by kernel_rfl) (by kernel_rfl) (by kernel_rfl) (by simp) ?_
      intro S' hS
      have k0 : ∀ A, S' A → A.cell? ⟨w.heap.size, 762, none⟩ = some (.int .i64 (leastOf4 t r s)) := fun A hA => TryBox.least_ (ST.out.tr.below' (hS A hA))
      have K0 := Lib.hid k0
      have L2 := Lib.hid (fun A hA => load_set (ST.out.nw.below' (hS A hA)))
      have L3 := Lib.hid (fun A hA => TryBox.cut_ (ST.out.tr.below' (hS A hA)) (p := p) (by omega))
      have L4 := Lib.hid (fun A hA => TryBox.base_ (ST.out.tr.below' (hS A hA)))
      have HS := Lib.hid hS
      clear hS k0
      simp only [List.take_succ_cons, List.take_zero, List.drop_succ_cons, List.drop_zero]
      repeat (first
       | (refine held_load 108 _ (by rfl) rfl rfl L2.out ?_; try (dsimp only); try simp only [Act.put, List.setIfInBounds_toArray, List.set_cons_zero, List.set_cons_succ])
       | (refine held_load 108 _ (by rfl) rfl rfl L3.out ?_; try (dsimp only); try simp only [Act.put, List.setIfInBounds_toArray, List.set_cons_zero, List.set_cons_succ])
       | (refine held_not rfl (by rfl) ?_; try (dsimp only); try simp only [Act.put, List.setIfInBounds_toArray, List.set_cons_zero, List.set_cons_succ])
       | (refine held_val (v := ?_) rfl (by rfl) ?_ ?_; rotate_left; (· (intro W hW; have q0 := K0.out W hW; go_simp; try with_reducible rfl)); try (dsimp only); try simp only [Act.put, List.setIfInBounds_toArray, List.set_cons_zero, List.set_cons_succ])
       | (refine held_skip rfl (by rfl) ?_ ?_; (· (intro W hW; have q0 := K0.out W hW; go_simp; try with_reducible rfl)); try (dsimp only); try simp only [Act.put, List.setIfInBounds_toArray, List.set_cons_zero, List.set_cons_succ])
       | (refine held_call (v := .bool true) (f := 121) (args := #[.string x]) rfl (by rfl) ?_ ?_ ?_; (· (intro W hW; go_simp; done)); (· exact (fun W hW => by have := isSet_any x W hx2; rwa [h1] at this)); try (dsimp only); try simp only [Act.put, List.setIfInBounds_toArray, List.set_cons_zero, List.set_cons_succ])
       | (refine held_call (v := .agg (setCells X)) (f := 77) (args := #[.agg (setCells N), .agg (setCells (cutOf r s p))]) rfl (by rfl) ?_ ?_ ?_; (· (intro W hW; go_simp; done)); (· exact (fun W hW => by have := cut_any N (cutOf r s p) W; rwa [HX.out] at this)); try (dsimp only); try simp only [Act.put, List.setIfInBounds_toArray, List.set_cons_zero, List.set_cons_succ])
       | (refine held_call (v := .agg (setCells (hasC (bl x)))) (f := 142) (args := #[.string x]) rfl (by rfl) ?_ ?_ ?_; (· (intro W hW; go_simp; done)); (· exact (fun W hW => of_any _ h1 W hx2)); try (dsimp only); try simp only [Act.put, List.setIfInBounds_toArray, List.set_cons_zero, List.set_cons_succ])
       | (refine held_call (v := .agg (setCells fun c => X c && hasC (bl x) c)) (f := 77) (args := #[.agg (setCells X), .agg (setCells (hasC (bl x)))]) rfl (by rfl) ?_ ?_ ?_; (· (intro W hW; go_simp; done)); (· exact (fun W hW => cut_any _ _ W)); try (dsimp only); try simp only [Act.put, List.setIfInBounds_toArray, List.set_cons_zero, List.set_cons_succ]))
      refine held_nil ?_
      intro τ hτ W2 hW hO
      obtain rfl := laid0 hτ
      have ST2 := Lib.hid (ST.out.below (HS.out W2 hW))
      clear hτ hO hW K0 L2 L3 L4 HS
      simp only [overs, List.foldl_nil]
      have HTR : Hid (shownAt t r s S p = true) := Lib.hid (by rw [HAT.out, h1, hq2, h2, h3]; rfl)
      have H1 := Lib.hid h1
      clear h1 h2 h3 hq2 hc hne1
      go_upto_region 9 with fail
      refine wp_region_heldB 5 [] (by kernel_rfl) (by kernel_rfl) (by kernel_rfl) (by simp) ?_
      intro S' hS
      have L1 := Lib.hid (fun A hA => TryBox.knd_ (ST2.out.tr.below' (hS A hA)))
      have HS := Lib.hid hS
      have K0 := trivial
      clear hS
      simp only [List.take_succ_cons, List.take_zero, List.drop_succ_cons, List.drop_zero]
      repeat (first
       | (refine held_load 111 _ (by rfl) rfl rfl L1.out ?_; try (dsimp only); try simp only [Act.put, List.setIfInBounds_toArray, List.set_cons_zero, List.set_cons_succ])
       | (refine held_not rfl (by rfl) ?_; try (dsimp only); try simp only [Act.put, List.setIfInBounds_toArray, List.set_cons_zero, List.set_cons_succ])
       | (refine held_val (v := ?_) rfl (by rfl) ?_ ?_; rotate_left; (· (intro W hW; go_simp; try with_reducible rfl)); try (dsimp only); try simp only [Act.put, List.setIfInBounds_toArray, List.set_cons_zero, List.set_cons_succ])
       | (refine held_skip rfl (by rfl) ?_ ?_; (· (intro W hW; go_simp; try with_reducible rfl)); try (dsimp only); try simp only [Act.put, List.setIfInBounds_toArray, List.set_cons_zero, List.set_cons_succ])
       | (refine held_call (v := .agg (setCells (hasC (bl x)))) (f := 142) (args := #[.string x]) rfl (by rfl) ?_ ?_ ?_; (· (intro W hW; go_simp; done)); (· exact (fun W hW => of_any _ H1.out W hx2)); try (dsimp only); try simp only [Act.put, List.setIfInBounds_toArray, List.set_cons_zero, List.set_cons_succ])
       | (refine held_call (v := .agg (setCells (nextS (kndOf t bi) (hasC (bl x))))) (f := 143) (args := #[.agg (kndCells (kndOf t bi)), .agg (setCells (hasC (bl x)))]) rfl (by rfl) ?_ ?_ ?_; (· (intro W hW; go_simp; done)); (· exact (fun W hW => next_any _ _ W)); try (dsimp only); try simp only [Act.put, List.setIfInBounds_toArray, List.set_cons_zero, List.set_cons_succ]))
      refine held_nil ?_
      intro τ hτ W3 hW hO
      obtain rfl := laid0 hτ
      have S3 := ST2.out.below (HS.out W3 hW)
      clear hτ hO hW K0 L1 HS
      simp only [overs, List.foldl_nil]
      obtain ⟨W4, hst4, hw4⟩ := store_set S3.nw (nextS (kndOf t bi) (hasC (bl x)))
      have HST4 := Lib.hid hst4
      have ST4 : Hid (ShSt t bi r s (beforeB t.kd S (p + 1)) w W4) := Lib.hid (by
       refine ⟨hw4.far S3.tr (by omega), ?_, hw4.below S3.bel (by omega)⟩
       rw [before_succ t bi, HXA.out]; exact hw4.box)
      clear hst4 hw4 S3 ST2
      go_wp2_with (refine wpList_store_box rfl 108 _ _ rfl rfl rfl HST4.out ?_)
      go_roundw
      case rel =>
       refine ⟨p + 1, by omega, by go_num, fun j hj => ?_, ST4.out⟩
       rcases Nat.lt_or_ge j p with h | h
       ·exact HALL.out j h
       ·have : j = p := by omega
        subst this; exact HTR.out
      case measure => simp [intOf]; omega
     ·have hne2 := run_neq_empty (fun c => hasC (bl x) c && t.kd.base c)
      rcases h4 : any26 (fun c => hasC (bl x) c && t.kd.base c) with _ | _
      all_goals
       rw [h4] at hne2
       refine wp_region_heldB 38 [] (by kernel_rfl) (by kernel_rfl) (by kernel_rfl) (by simp) ?_
       intro S' hS
       have k0 : ∀ A, S' A → A.cell? ⟨w.heap.size, 762, none⟩ = some (.int .i64 (leastOf4 t r s)) := fun A hA => TryBox.least_ (ST.out.tr.below' (hS A hA))
       have K0 := Lib.hid k0
       have L2 := Lib.hid (fun A hA => load_set (ST.out.nw.below' (hS A hA)))
       have L3 := Lib.hid (fun A hA => TryBox.cut_ (ST.out.tr.below' (hS A hA)) (p := p) (by omega))
       have L4 := Lib.hid (fun A hA => TryBox.base_ (ST.out.tr.below' (hS A hA)))
       have HS := Lib.hid hS
       clear hS k0
       simp only [List.take_succ_cons, List.take_zero, List.drop_succ_cons, List.drop_zero]
       repeat (first
        | (refine held_load 108 _ (by rfl) rfl rfl L2.out ?_; try (dsimp only); try simp only [Act.put, List.setIfInBounds_toArray, List.set_cons_zero, List.set_cons_succ])
        | (refine held_load 108 _ (by rfl) rfl rfl L3.out ?_; try (dsimp only); try simp only [Act.put, List.setIfInBounds_toArray, List.set_cons_zero, List.set_cons_succ])
        | (refine held_load 108 _ (by rfl) rfl rfl L4.out ?_; try (dsimp only); try simp only [Act.put, List.setIfInBounds_toArray, List.set_cons_zero, List.set_cons_succ])
        | (refine held_not rfl (by rfl) ?_; try (dsimp only); try simp only [Act.put, List.setIfInBounds_toArray, List.set_cons_zero, List.set_cons_succ])
        | (refine held_val (v := ?_) rfl (by rfl) ?_ ?_; rotate_left; (· (intro W hW; have q0 := K0.out W hW; go_simp; try with_reducible rfl)); try (dsimp only); try simp only [Act.put, List.setIfInBounds_toArray, List.set_cons_zero, List.set_cons_succ])
        | (refine held_skip rfl (by rfl) ?_ ?_; (· (intro W hW; have q0 := K0.out W hW; go_simp; try with_reducible rfl)); try (dsimp only); try simp only [Act.put, List.setIfInBounds_toArray, List.set_cons_zero, List.set_cons_succ])
        | (refine held_call (v := .bool true) (f := 121) (args := #[.string x]) rfl (by rfl) ?_ ?_ ?_; (· (intro W hW; go_simp; done)); (· exact (fun W hW => by have := isSet_any x W hx2; rwa [h1] at this)); try (dsimp only); try simp only [Act.put, List.setIfInBounds_toArray, List.set_cons_zero, List.set_cons_succ])
        | (refine held_call (v := .agg (setCells X)) (f := 77) (args := #[.agg (setCells N), .agg (setCells (cutOf r s p))]) rfl (by rfl) ?_ ?_ ?_; (· (intro W hW; go_simp; done)); (· exact (fun W hW => by have := cut_any N (cutOf r s p) W; rwa [HX.out] at this)); try (dsimp only); try simp only [Act.put, List.setIfInBounds_toArray, List.set_cons_zero, List.set_cons_succ])
        | (refine held_call (v := .agg (setCells (hasC (bl x)))) (f := 142) (args := #[.string x]) rfl (by rfl) ?_ ?_ ?_; (· (intro W hW; go_simp; done)); (· exact (fun W hW => of_any _ h1 W hx2)); try (dsimp only); try simp only [Act.put, List.setIfInBounds_toArray, List.set_cons_zero, List.set_cons_succ])
        | (refine held_call (v := .agg (setCells fun c => X c && hasC (bl x) c)) (f := 77) (args := #[.agg (setCells X), .agg (setCells (hasC (bl x)))]) rfl (by rfl) ?_ ?_ ?_; (· (intro W hW; go_simp; done)); (· exact (fun W hW => cut_any _ _ W)); try (dsimp only); try simp only [Act.put, List.setIfInBounds_toArray, List.set_cons_zero, List.set_cons_succ])
        | (refine held_call (v := .agg (setCells fun c => hasC (bl x) c && t.kd.base c)) (f := 77) (args := #[.agg (setCells (hasC (bl x))), .agg (setCells (kndOf t bi).base)]) rfl (by rfl) ?_ ?_ ?_; (· (intro W hW; go_simp; done)); (· exact (fun W hW => cut_any _ _ W)); try (dsimp only); try simp only [Act.put, List.setIfInBounds_toArray, List.set_cons_zero, List.set_cons_succ]))
       refine held_nil ?_
       intro τ hτ W2 hW hO
       obtain rfl := laid0 hτ
       have ST2 := Lib.hid (ST.out.below (HS.out W2 hW))
       clear hτ hO hW K0 L2 L3 L4 HS
       simp only [overs, List.foldl_nil]
      ·have HTR : Hid (shownAt t r s S p = true) := Lib.hid (by rw [HAT.out, h1, hq2, h2, h3, h4]; rfl)
       have H1 := Lib.hid h1
       clear h1 h2 h3 h4 hq2 hc hne1 hne2
       go_upto_region 9 with fail
       refine wp_region_heldB 5 [] (by kernel_rfl) (by kernel_rfl) (by kernel_rfl) (by simp) ?_
       intro S' hS
       have L1 := Lib.hid (fun A hA => TryBox.knd_ (ST2.out.tr.below' (hS A hA)))
       have HS := Lib.hid hS
       have K0 := trivial
       clear hS
       simp only [List.take_succ_cons, List.take_zero, List.drop_succ_cons, List.drop_zero]
       repeat (first
        | (refine held_load 111 _ (by rfl) rfl rfl L1.out ?_; try (dsimp only); try simp only [Act.put, List.setIfInBounds_toArray, List.set_cons_zero, List.set_cons_succ])
        | (refine held_not rfl (by rfl) ?_; try (dsimp only); try simp only [Act.put, List.setIfInBounds_toArray, List.set_cons_zero, List.set_cons_succ])
        | (refine held_val (v := ?_) rfl (by rfl) ?_ ?_; rotate_left; (· (intro W hW; go_simp; try with_reducible rfl)); try (dsimp only); try simp only [Act.put, List.setIfInBounds_toArray, List.set_cons_zero, List.set_cons_succ])
        | (refine held_skip rfl (by rfl) ?_ ?_; (· (intro W hW; go_simp; try with_reducible rfl)); try (dsimp only); try simp only [Act.put, List.setIfInBounds_toArray, List.set_cons_zero, List.set_cons_succ])
        | (refine held_call (v := .agg (setCells (hasC (bl x)))) (f := 142) (args := #[.string x]) rfl (by rfl) ?_ ?_ ?_; (· (intro W hW; go_simp; done)); (· exact (fun W hW => of_any _ H1.out W hx2)); try (dsimp only); try simp only [Act.put, List.setIfInBounds_toArray, List.set_cons_zero, List.set_cons_succ])
        | (refine held_call (v := .agg (setCells (nextS (kndOf t bi) (hasC (bl x))))) (f := 143) (args := #[.agg (kndCells (kndOf t bi)), .agg (setCells (hasC (bl x)))]) rfl (by rfl) ?_ ?_ ?_; (· (intro W hW; go_simp; done)); (· exact (fun W hW => next_any _ _ W)); try (dsimp only); try simp only [Act.put, List.setIfInBounds_toArray, List.set_cons_zero, List.set_cons_succ]))
       refine held_nil ?_
       intro τ hτ W3 hW hO
       obtain rfl := laid0 hτ
       have S3 := ST2.out.below (HS.out W3 hW)
       clear hτ hO hW K0 L1 HS
       simp only [overs, List.foldl_nil]
       obtain ⟨W4, hst4, hw4⟩ := store_set S3.nw (nextS (kndOf t bi) (hasC (bl x)))
       have HST4 := Lib.hid hst4
       have ST4 : Hid (ShSt t bi r s (beforeB t.kd S (p + 1)) w W4) := Lib.hid (by
        refine ⟨hw4.far S3.tr (by omega), ?_, hw4.below S3.bel (by omega)⟩
        rw [before_succ t bi, HXA.out]; exact hw4.box)
       clear hst4 hw4 S3 ST2
       go_wp2_with (refine wpList_store_box rfl 108 _ _ rfl rfl rfl HST4.out ?_)
       go_roundw
       case rel =>
        refine ⟨p + 1, by omega, by go_num, fun j hj => ?_, ST4.out⟩
        rcases Nat.lt_or_ge j p with h | h
        ·exact HALL.out j h
        ·have : j = p := by omega
         subst this; exact HTR.out
       case measure => simp [intOf]; omega
      ·have HF : Hid (shownB t r s S = false) := Lib.hid (shown_no hlt (by rw [HAT.out, h1, hq2, h2, h3, h4]; rfl))
       clear h1 h2 h3 h4 hq2 hc hne1 hne2
       go_wp2_with fail
       go_ret
       exact ⟨ret_bool (by rw [HF.out]; rfl), ST2.out.bel⟩
  ·have hpn : decide ((p : Int) < (S.length : Int)) = false := decide_eq_false (by omega)
   have HF : Hid (shownB t r s S = true) := Lib.hid (by
    unfold shownB
    rw [q3, Bool.true_and, List.all_eq_true]
    intro j hj
    exact HALL.out j (by simp at hj; omega))
   go_wp2_with fail
   go_ret
   exact ⟨ret_bool (by rw [HF.out]; rfl), ST.out.bel⟩
end Go.Proofs.YthpjffhccjlnhaaGreatDoor
