/- Package profile: living: the classes that stand in words, place by place. No condition. -/
/- Package profile: letters: the classes that stand in a type's words. No condition. -/
/- Package profile: text: what a set's classes spell. No condition. -/
/- Structs built from parts known cell by cell. No condition. -/
/- Package profile: kindOf: a type's sets, read. No condition. -/
import Derived.Test.YthpjffhccjlnhaaGreatDoorMG3
import Derived.Laws.Tables
set_option linter.unusedSimpArgs false
set_option linter.unusedVariables false
namespace Go.Proofs.YthpjffhccjlnhaaGreatDoor
open Go.RowKit
attribute [local go_sem] Oper.semAt_some

def nowP (K : Knd) (m : Nat) (cut : Nat → CS) (least : Int) : Nat → CS := nowG K.kd m cut least m K.rim
def livP (K : Knd) (m : Nat) (cut : Nat → CS) (least : Int) : Nat → CS := livG K.kd m cut least m K.rim
theorem livP_eq (K : Knd) (m : Nat) (cut : Nat → CS) (least : Int) (p c : Nat) : livP K m cut least p c = (nowP K m cut least p c && endsP K m cut least p c) := rfl
theorem livP_out (K : Knd) {m : Nat} (cut : Nat → CS) (least : Int) {p : Nat} (h : m ≤ p) (c : Nat) : livP K m cut least p c = false := by rw [livP_eq, endsP_out K cut least h, Bool.and_false]
theorem nowP_step (K : Knd) (m : Nat) (cut : Nat → CS) (least : Int) (p : Nat) : nowP K m cut least (p + 1) = nextS K (livP K m cut least p) := by
 funext d
 unfold nowP nextS livP livG
 rw [nowG]
 rfl
/-- the memory of living at its loop, p places done -/
structure LivSt (K : Knd) (m : Nat) (cut : Nat → CS) (least : Int) (B e p : Nat) (now : CS) (w W : World) : Prop where
 k : KndBox W B K
 r : CutBox W (B + 2) (fun _ _ => false)
 d : CutBox W e (endsP K m cut least)
 o : CutBox W (e + 1) (fun q c => decide (q < p) && livP K m cut least q c)
 n : SetBox W (e + 2) now
 b : Below B w W
 s : B ≤ w.heap.size
 l : B + 2 < e
theorem LivSt.below {K : Knd} {m : Nat} {cut : Nat → CS} {least : Int} {B e p : Nat} {now : CS} {w W W' : World} (h : LivSt K m cut least B e p now w W) (hb : Below W.heap.size W W') : LivSt K m cut least B e p now w W' :=
 ⟨h.k.below' hb, h.r.below' hb, h.d.below' hb, h.o.below' hb, h.n.below' hb, h.b.trans (hb.mono (Nat.le_trans h.s h.b.size)), h.s, h.l⟩
set_option maxRecDepth 100000 in
set_option maxHeartbeats 1000000 in
theorem living_any (K : Knd) (cut : Nat → CS) (least : Int) (m : Nat) (hm : K.typ.most = m) (hm12 : m ≤ 12) (w : World) :
  Calls Tryz.prog 97 #[.agg (kndCells K), .agg (cutCells cut), .int .i64 least] w fun e w' =>
   e = .returned (.agg (cutCells (livP K m cut least))) ∧ Below w.heap.size w w' := by
 obtain ⟨w1, hw1⟩ : ∃ w1, ((w.alloc (.cells (kndCells K) 111)).alloc (.cells (cutCells cut) 117)).alloc (.cells (cutCells fun _ _ => false) 117) = w1 := ⟨_, rfl⟩
 have b0 : KndBox w1 w.heap.size K := by rw [← hw1]; exact ((Box.new _ _ _).alloc _).alloc _
 have b1 : CutBox w1 (w.heap.size + 1) cut := by rw [← hw1]; exact (Box.new' (by simp)).alloc _
 have b2 : CutBox w1 (w.heap.size + 2) (fun _ _ => false) := by rw [← hw1]; exact Box.new' (by simp)
 have hB : Below w.heap.size w w1 := by rw [← hw1]; go_grown
 have gs1 : w1.heap.size = w.heap.size + 3 := by rw [← hw1]; simp
 have HL0 := Lib.hid (KndBox.load b0)
 have HL1 := Lib.hid (CutBox.load b1)
 have B0 := Lib.hid b0
 have B2 := Lib.hid b2
 have HB := Lib.hid hB
 have HW := Lib.hid hw1
 have HM := Lib.hid hm
 clear b0 b1 b2 hB hw1 hm
 go_enter Tryz.func97, Tryz.ntmps97
 go_upto_region 1 with fail
 simp only [zcut, HW.out]
 go_upto_region 2 with (first
  | (refine wpList_load_box rfl 111 _ rfl rfl HL0.out ?_)
  | (refine wpList_load_box rfl 117 _ rfl rfl HL1.out ?_))
 refine (ends_any K cut least m HM.out hm12 w1).mono ?_
 rintro e w2 ⟨rfl, hb2⟩
 obtain ⟨w3, hw3⟩ : ∃ w3, w2.alloc (.cells (cutCells fun _ _ => false) 117) = w3 := ⟨_, rfl⟩
 have b3 : CutBox w3 w2.heap.size (fun _ _ => false) := by rw [← hw3]; exact Box.new _ _ _
 have hb3 : Below w2.heap.size w2 w3 := by rw [← hw3]; go_grown
 obtain ⟨w4, hst, hw4⟩ := CutBox.store b3 (endsP K m cut least)
 have gs2 := hb2.size
 have gs4 : w4.heap.size = w2.heap.size + 1 := by rw [hw4.size, ← hw3]; simp
 obtain ⟨w5, hw5⟩ : ∃ w5, (w4.alloc (.cells (cutCells fun _ _ => false) 117)).alloc (.cells (setCells fun _ => false) 108) = w5 := ⟨_, rfl⟩
 have hb5 : Below w4.heap.size w4 w5 := by rw [← hw5]; go_grown
 have b5 : SetBox w5 (w4.heap.size + 1) (fun _ => false) := by rw [← hw5]; exact Box.new' (by simp)
 have b6 : CutBox w5 w4.heap.size (fun _ _ => false) := by rw [← hw5]; exact (Box.new _ _ _).alloc _
 have gs5 : w5.heap.size = w4.heap.size + 2 := by rw [← hw5]; simp
 obtain ⟨w6, hst6, hw6⟩ := store_set b5 K.rim
 have hk0 : KndBox w4 w.heap.size K := (hw4.far ((B0.out.below' hb2).below' hb3) (by omega))
 have HL2 := Lib.hid (KndBox.rim_ ((hk0.alloc (.cells (cutCells fun _ _ => false) 117))))
 have ST : Hid (LivSt K m cut least w.heap.size w2.heap.size 0 (nowP K m cut least 0) w w6) := Lib.hid (by
  have e1 : w2.heap.size + 1 = w4.heap.size := gs4.symm
  refine ⟨hw6.far (hk0.below' hb5) (by omega), hw6.far ((hw4.far ((B2.out.below' hb2).below' hb3) (by omega)).below' hb5) (by omega), hw6.far (hw4.box.below' hb5) (by omega), ?_, ?_, ?_, Nat.le_refl _, by omega⟩
  ·rw [e1]; exact CutBox.congr_ (hw6.far b6 (by omega)) fun q c _ _ => by simp
  ·rw [show w2.heap.size + 2 = w4.heap.size + 1 by omega]; exact hw6.box
  ·exact hw6.below ((hw4.below ((HB.out.trans (hb2.mono HB.out.size)).trans (hb3.mono (by omega))) (by omega)).trans (hb5.mono (by omega))) (by omega))
 have HW3 := Lib.hid hw3
 have HST := Lib.hid hst
 have HW5 := Lib.hid hw5
 rw [gs4] at hst6
 have HST6 := Lib.hid hst6
 clear hb2 hw3 b3 hb3 hst hw4 hk0 HL0 HL1 B0 B2 HB HW hst6 hw6 hw5 hb5 b5 b6
 go_upto_region 4 with (first
  | (simp only [zcut, HW3.out]; refine wpList_store_box rfl 117 _ _ rfl rfl rfl HST.out ?_)
  | (simp only [zcut] at HL2 ⊢; refine wpList_load_box rfl 108 _ rfl rfl HL2.out ?_)
  | (simp only [zcut, zset, HW5.out]; refine wpList_store_box rfl 108 _ _ rfl rfl rfl HST6.out ?_))
 have hmost := KndBox.most_ ST.out.k
 rw [HM.out] at hmost
 go_wp2_with fail
 clear hmost
 go_loopw [10, 20] (fun _ iv wr => ∃ p : Nat, p ≤ m ∧ iv = .int .i64 p ∧ LivSt K m cut least w.heap.size w2.heap.size p (nowP K m cut least p) w wr) (fun _ iv _ => m - (intOf iv).toNat)
 case atStart => exact ⟨0, Nat.zero_le _, rfl, ST.out⟩
 case round =>
  clear ST
  obtain ⟨p, hp, rfl, st⟩ := hrel
  have ST := Lib.hid st
  clear st
  by_cases hlt : p < m
  ·have hpi : (p : Int) < (m : Int) := by omega
   have hp0 : (0 : Int) ≤ (p : Int) := by omega
   have hp12 : (p : Int) < 12 := by omega
   go_upto_region 7 with fail
   refine wp_region_heldB 6 [] (by kernel_rfl) (by kernel_rfl) (by kernel_rfl) (by simp) ?_
   intro S hS
   have L2 := Lib.hid (fun A hA => load_set (ST.out.n.below' (hS A hA)))
   have L3 := Lib.hid (fun A hA => CutBox.at_ (ST.out.d.below' (hS A hA)) (p := p) (by omega))
   have HS := Lib.hid hS
   clear hS
   simp only [List.take_succ_cons, List.take_zero, List.drop_succ_cons, List.drop_zero]
   repeat (first
    | (refine held_load 108 _ (by rfl) rfl rfl L2.out ?_; try (dsimp only); try simp only [Act.put, List.setIfInBounds_toArray, List.set_cons_zero, List.set_cons_succ])
    | (refine held_load 108 _ (by rfl) rfl rfl L3.out ?_; try (dsimp only); try simp only [Act.put, List.setIfInBounds_toArray, List.set_cons_zero, List.set_cons_succ])
    | (refine held_not rfl (by rfl) ?_; try (dsimp only); try simp only [Act.put, List.setIfInBounds_toArray, List.set_cons_zero, List.set_cons_succ])
    | (refine held_val (v := ?_) rfl (by rfl) ?_ ?_; rotate_left; (· (intro W hW; go_simp; try with_reducible rfl)); try (dsimp only); try simp only [Act.put, List.setIfInBounds_toArray, List.set_cons_zero, List.set_cons_succ])
    | (refine held_skip rfl (by rfl) ?_ ?_; (· (intro W hW; go_simp; try with_reducible rfl)); try (dsimp only); try simp only [Act.put, List.setIfInBounds_toArray, List.set_cons_zero, List.set_cons_succ])
    | (refine held_call (v := .agg (setCells (livP K m cut least p))) (f := 77) (args := #[.agg (setCells (nowP K m cut least p)), .agg (setCells (endsP K m cut least p))]) rfl (by rfl) ?_ ?_ ?_; (· (intro W hW; go_simp; done)); (· exact (fun W hW => cut_any _ _ W)); try (dsimp only); try simp only [Act.put, List.setIfInBounds_toArray, List.set_cons_zero, List.set_cons_succ]))
   refine held_nil ?_
   intro τ hτ W2 hW hO
   obtain rfl := laid0 hτ
   have HB2 := Lib.hid (HS.out W2 hW)
   clear hτ hO hW HS L2 L3
   simp only [overs, List.foldl_nil]
   have S2 := ST.out.below HB2.out
   obtain ⟨W3, hst, hw3⟩ := CutBox.put S2.o (p := p) (by omega) (livP K m cut least p)
   have hbs := ST.out.b.size
   have hls := ST.out.l
   have hss := ST.out.s
   have S3 : LivSt K m cut least w.heap.size w2.heap.size (p + 1) (nowP K m cut least p) w W3 := by
    refine ⟨hw3.far S2.k (by omega), hw3.far S2.r (by omega), hw3.far S2.d (by omega), ?_, hw3.far S2.n (by omega), hw3.below S2.b (by omega), hss, hls⟩
    refine CutBox.congr_ hw3.box fun q c _ _ => ?_
    by_cases e : q = p
    ·subst e; simp
    ·rw [if_neg e]; congr 1; simp; omega
   have HST := Lib.hid hst
   have ST3 := Lib.hid S3
   clear hst hw3 S2 S3
   go_upto_region 8 with (refine wpList_store_box rfl 108 _ _ rfl rfl rfl HST.out ?_)
   clear HST HB2 ST
   refine wp_region_heldB 5 [] (by kernel_rfl) (by kernel_rfl) (by kernel_rfl) (by simp) ?_
   intro S hS
   have L2 := Lib.hid (fun A hA => KndBox.load (ST3.out.k.below' (hS A hA)))
   have L3 := Lib.hid (fun A hA => CutBox.at_ (CutBox.congr_ (ST3.out.o.below' (hS A hA)) (cut' := fun q c => if q = p then livP K m cut least p c else decide (q < p + 1) && livP K m cut least q c) (fun q d _ _ => by
    by_cases e : q = p
    ·subst e; simp
    ·rw [if_neg e])) (p := p) (by omega))
   simp only [if_true] at L3
   have HS := Lib.hid hS
   clear hS
   simp only [List.take_succ_cons, List.take_zero, List.drop_succ_cons, List.drop_zero]
   repeat (first
    | (refine held_load 111 _ (by rfl) rfl rfl L2.out ?_; try (dsimp only); try simp only [Act.put, List.setIfInBounds_toArray, List.set_cons_zero, List.set_cons_succ])
    | (refine held_load 108 _ (by rfl) rfl rfl L3.out ?_; try (dsimp only); try simp only [Act.put, List.setIfInBounds_toArray, List.set_cons_zero, List.set_cons_succ])
    | (refine held_not rfl (by rfl) ?_; try (dsimp only); try simp only [Act.put, List.setIfInBounds_toArray, List.set_cons_zero, List.set_cons_succ])
    | (refine held_val (v := ?_) rfl (by rfl) ?_ ?_; rotate_left; (· (intro W hW; go_simp; try with_reducible rfl)); try (dsimp only); try simp only [Act.put, List.setIfInBounds_toArray, List.set_cons_zero, List.set_cons_succ])
    | (refine held_skip rfl (by rfl) ?_ ?_; (· (intro W hW; go_simp; try with_reducible rfl)); try (dsimp only); try simp only [Act.put, List.setIfInBounds_toArray, List.set_cons_zero, List.set_cons_succ])
    | (refine held_call (v := .agg (setCells (nextS K (livP K m cut least p)))) (f := 143) (args := #[.agg (kndCells K), .agg (setCells (livP K m cut least p))]) rfl (by rfl) ?_ ?_ ?_; (· (intro W hW; go_simp; done)); (· exact (fun W hW => next_any _ _ W)); try (dsimp only); try simp only [Act.put, List.setIfInBounds_toArray, List.set_cons_zero, List.set_cons_succ]))
   refine held_nil ?_
   intro τ hτ W4 hW hO
   obtain rfl := laid0 hτ
   have HB4 := Lib.hid (HS.out W4 hW)
   clear hτ hO hW HS L2 L3
   simp only [overs, List.foldl_nil]
   have S4 := ST3.out.below HB4.out
   obtain ⟨W5, hst, hw5⟩ := store_set S4.n (nextS K (livP K m cut least p))
   have S5 : LivSt K m cut least w.heap.size w2.heap.size (p + 1) (nowP K m cut least (p + 1)) w W5 := by
    refine ⟨hw5.far S4.k (by omega), hw5.far S4.r (by omega), hw5.far S4.d (by omega), hw5.far S4.o (by omega), ?_, hw5.below S4.b (by omega), hss, hls⟩
    rw [nowP_step]; exact hw5.box
   have HST := Lib.hid hst
   have ST5 := Lib.hid S5
   clear hst hw5 S4 S5
   go_wp2_with (refine wpList_store_box rfl 108 _ _ rfl rfl rfl HST.out ?_)
   go_roundw
   case rel => exact ⟨p + 1, by omega, by go_num, ST5.out⟩
   case measure => simp [intOf]; omega
  ·have hpn : decide ((p : Int) < (m : Int)) = false := by simp; omega
   have hpe : p = m := by omega
   have ho : CutBox wr (w2.heap.size + 1) (livP K m cut least) := CutBox.congr_ ST.out.o fun q c _ _ => by
    by_cases h : q < p
    ·simp [h]
    ·rw [decide_eq_false h, Bool.false_and, livP_out K cut least (by omega)]
   have HL := Lib.hid (CutBox.load ho)
   obtain ⟨W2, hst, hw2⟩ := CutBox.store ST.out.r (livP K m cut least)
   have HST := Lib.hid hst
   have HW2 := Lib.hid hw2
   clear ho hst hw2
   go_wp2_with (first
    | (refine wpList_load_box rfl 117 _ rfl rfl HL.out ?_)
    | (refine wpList_store_box rfl 117 _ _ rfl rfl rfl HST.out ?_))
   refine bodyPost_ret (results_cell rfl rfl (CutBox.loadv HW2.out.box)) rfl ⟨rfl, HW2.out.below ST.out.b (by omega)⟩
end Go.Proofs.YthpjffhccjlnhaaGreatDoor
namespace Go.Proofs.YthpjffhccjlnhaaGreatDoor
open Go.RowKit
attribute [local go_sem] Oper.semAt_some

theorem cut_extract (cut : Nat → CS) {p : Nat} (hp : p < 12) : (cutCells cut).extract (p * 26) (p * 26 + 26) = setCells (cut p) := by
 refine fnCells_ext ?_ fun i hi => ?_
 ·simp only [Array.size_extract, cutCells, fnCells_size]; omega
 ·rw [Array.getElem?_extract_of_lt (by simp only [cutCells, fnCells_size]; omega)]
  have := fnCells_get (n := 312) (f := cutF cut) (i := p * 26 + i) (by omega)
  refine ((Array.getElem?_eq_getElem _).symm.trans this).trans ?_
  unfold cutF setF
  rw [show (p * 26 + i) / 26 = p by omega, show (p * 26 + i) % 26 = i by omega]
theorem run_index_cut (cut : Nat → CS) {p : Nat} (hp : p < 12) (w : World) : (Instr.index 117 (.agg (cutCells cut)) (.int .i64 (p : Int))).run Tryz.prog w = .ok (.agg (setCells (cut p))) w := by
 have hi : (0 : Int) ≤ p ∧ (p : Int) < 12 := by omega
 have hs : (sizeOf 108).run Tryz.prog w = .ok 26 w := by kernel_rfl
 have ha : (isAgg 108).run Tryz.prog w = .ok true w := by kernel_rfl
 have he := cut_extract cut hp
 have hn : ¬ 12 ≤ p := by omega
 simp [hn, hp, Instr.index, run_underlying Tryz.underlying117, asIntOf, hi, hs, ha, part, he]
structure LetSt (K : Knd) (B p : Nat) (liv : Nat → CS) (w W : World) : Prop where
 r : SetBox W (B + 1) (fun _ => false)
 o : SetBox W (B + 2) (fun c => (List.range p).any fun q => liv q c)
 b : Below B w W
 s : B ≤ w.heap.size
set_option maxRecDepth 100000 in
set_option maxHeartbeats 1000000 in
theorem letters_any (K : Knd) (m : Nat) (hm : K.typ.most = m) (hm12 : m ≤ 12) (w : World) :
  Calls Tryz.prog 104 #[.agg (kndCells K)] w fun e w' => e = .returned (.agg (setCells (lettersW K.kd m K.typ.least))) ∧ Below w.heap.size w w' := by
 obtain ⟨w1, hw1⟩ : ∃ w1, ((w.alloc (.cells (kndCells K) 111)).alloc (.cells (setCells fun _ => false) 108)).alloc (.cells (setCells fun _ => false) 108) = w1 := ⟨_, rfl⟩
 have b0 : KndBox w1 w.heap.size K := by rw [← hw1]; exact ((Box.new _ _ _).alloc _).alloc _
 have b1 : SetBox w1 (w.heap.size + 1) (fun _ => false) := by rw [← hw1]; exact (Box.new' (by simp)).alloc _
 have b2 : SetBox w1 (w.heap.size + 2) (fun _ => false) := by rw [← hw1]; exact Box.new' (by simp)
 have hB : Below w.heap.size w w1 := by rw [← hw1]; go_grown
 have ST : Hid (LetSt K w.heap.size 0 (livP K m allC K.typ.least) w w1) := Lib.hid ⟨b1, b2.cong fun i _ => by simp [setF], hB, Nat.le_refl _⟩
 have gs1 : w1.heap.size = w.heap.size + 3 := by rw [← hw1]; simp
 have B0 := Lib.hid b0
 have HW := Lib.hid hw1
 clear b0 b1 b2 hB hw1
 go_enter Tryz.func104, Tryz.ntmps104
 go_upto_region 2 with fail
 simp only [zset, HW.out]
 refine wp_region_heldB 7 [] (by kernel_rfl) (by kernel_rfl) (by kernel_rfl) (by simp) ?_
 intro S hS
 have L2 := Lib.hid (fun A hA => KndBox.load (B0.out.below' (hS A hA)))
 have k0 : ∀ A, S A → A.cell? ⟨w.heap.size, 2, none⟩ = some (.int .i64 K.typ.least) := fun A hA => KndBox.least_ (B0.out.below' (hS A hA))
 have K0 := Lib.hid k0
 have HS := Lib.hid hS
 clear hS k0
 simp only [List.take_succ_cons, List.take_zero, List.drop_succ_cons, List.drop_zero]
 repeat (first
  | (refine held_load 111 _ (by rfl) rfl rfl L2.out ?_; try (dsimp only); try simp only [Act.put, List.setIfInBounds_toArray, List.set_cons_zero, List.set_cons_succ])
  | (refine held_not rfl (by rfl) ?_; try (dsimp only); try simp only [Act.put, List.setIfInBounds_toArray, List.set_cons_zero, List.set_cons_succ])
  | (refine held_val (v := ?_) rfl (by rfl) ?_ ?_; rotate_left; (· (intro W hW; have q0 := K0.out W hW; go_simp; try with_reducible rfl)); try (dsimp only); try simp only [Act.put, List.setIfInBounds_toArray, List.set_cons_zero, List.set_cons_succ])
  | (refine held_skip rfl (by rfl) ?_ ?_; (· (intro W hW; have q0 := K0.out W hW; go_simp; try with_reducible rfl)); try (dsimp only); try simp only [Act.put, List.setIfInBounds_toArray, List.set_cons_zero, List.set_cons_succ])
  | (refine held_call (v := .agg (cutCells allC)) (f := 80) (args := #[]) rfl (by rfl) ?_ ?_ ?_; (· (intro W hW; go_simp; done)); (· exact (fun W hW => free_any W)); try (dsimp only); try simp only [Act.put, List.setIfInBounds_toArray, List.set_cons_zero, List.set_cons_succ])
  | (refine held_call (v := .agg (cutCells (livP K m allC K.typ.least))) (f := 97) (args := #[.agg (kndCells K), .agg (cutCells allC), .int .i64 K.typ.least]) rfl (by rfl) ?_ ?_ ?_; (· (intro W hW; go_simp; done)); (· exact (fun W hW => living_any K allC K.typ.least m hm hm12 W)); try (dsimp only); try simp only [Act.put, List.setIfInBounds_toArray, List.set_cons_zero, List.set_cons_succ]))
 refine held_nil ?_
 intro τ hτ W2 hW hO
 obtain rfl := laid0 hτ
 have HB2 := Lib.hid (HS.out W2 hW)
 clear hτ hO hW HS L2 K0
 simp only [overs, List.foldl_nil]
 have ST2 : Hid (LetSt K w.heap.size 0 (livP K m allC K.typ.least) w W2) := Lib.hid ⟨ST.out.r.below' HB2.out, ST.out.o.below' HB2.out, ST.out.b.trans (HB2.out.mono ST.out.b.size), Nat.le_refl _⟩
 clear ST B0 HB2 HW
 go_wp2_with fail
 go_loopw [5, 12] (fun _ iv wr => ∃ p : Nat, p ≤ 12 ∧ iv = .int .i64 p ∧ LetSt K w.heap.size p (livP K m allC K.typ.least) w wr) (fun _ iv _ => 12 - (intOf iv).toNat)
 case atStart => exact ⟨0, Nat.zero_le _, rfl, ST2.out⟩
 case round =>
  clear ST2
  obtain ⟨p, hp, rfl, st⟩ := hrel
  have ST := Lib.hid st
  clear st
  by_cases hlt : p < 12
  ·have hpi : (p : Int) < 12 := by omega
   have hp0 : (0 : Int) ≤ (p : Int) := by omega
   have hix := run_index_cut (livP K m allC K.typ.least) hlt wr
   obtain ⟨w3, hw3⟩ : ∃ w3, wr.alloc (.cells (setCells fun _ => false) 108) = w3 := ⟨_, rfl⟩
   have b3 : SetBox w3 wr.heap.size (fun _ => false) := by rw [← hw3]; exact Box.new _ _ _
   have hb3 : Below wr.heap.size wr w3 := by rw [← hw3]; go_grown
   have gs3 : w3.heap.size = wr.heap.size + 1 := by rw [← hw3]; simp
   obtain ⟨w4, hst, hw4⟩ := store_set b3 (livP K m allC K.typ.least p)
   have hbs := ST.out.b.size
   have hss := ST.out.s
   have hs4 := hw4.size
   have hrl := ST.out.o.lt
   have hb4 : Below wr.heap.size wr w4 := hw4.below hb3 (Nat.le_refl _)
   have r4 := ST.out.r.below' hb4
   have o4 := ST.out.o.below' hb4
   have HB4 := Lib.hid (ST.out.b.trans (hb4.mono hbs))
   have HL4 := Lib.hid (load_set o4)
   have HL5 := Lib.hid (load_set hw4.box)
   have HW3 := Lib.hid hw3
   have HST := Lib.hid hst
   have R4 := Lib.hid r4
   have O4 := Lib.hid o4
   clear hst hw3 b3 hb3 hw4 hb4 r4 o4
   go_upto_region 5 with (simp only [zset, HW3.out]; refine wpList_store_box rfl 108 _ _ rfl rfl rfl HST.out ?_)
   go_wp2_with (first
    | (refine wpList_load_box rfl 108 _ rfl rfl HL4.out ?_)
    | (refine wpList_load_box rfl 108 _ rfl rfl HL5.out ?_))
   refine (with4_any _ _ w4).mono ?_
   rintro e w5 ⟨rfl, hb5⟩
   obtain ⟨w6, hst6, hw6⟩ := store_set (O4.out.below' hb5) (fun d => ((List.range p).any fun q => livP K m allC K.typ.least q d) || livP K m allC K.typ.least p d)
   have hs5 := hb5.size
   have S6 : LetSt K w.heap.size (p + 1) (livP K m allC K.typ.least) w w6 :=
    ⟨hw6.far (R4.out.below' hb5) (by omega), hw6.box.cong fun i _ => by simp [setF, List.range_succ], hw6.below (HB4.out.trans (hb5.mono (by omega))) (by omega), hss⟩
   have HST6 := Lib.hid hst6
   have ST6 := Lib.hid S6
   clear hst6 hw6 S6 hb5
   go_wp2_with (refine wpList_store_box rfl 108 _ _ rfl rfl rfl HST6.out ?_)
   go_roundw
   case rel => exact ⟨p + 1, by omega, by go_num, ST6.out⟩
   case measure => simp [intOf]; omega
  ·have hpn : decide ((p : Int) < 12) = false := by simp; omega
   have hpe : p = 12 := by omega
   have ho : SetBox wr (w.heap.size + 2) (lettersW K.kd m K.typ.least) := ST.out.o.cong fun c _ => by
    unfold setF lettersW
    congr 1
    rw [Bool.eq_iff_iff]
    simp only [List.any_eq_true, List.mem_range]
    constructor
    ·rintro ⟨q, hq, h⟩
     refine ⟨q, ?_, h⟩
     rcases Nat.lt_or_ge q m with h1 | h1
     ·exact h1
     ·rw [livP_out K allC K.typ.least h1] at h; cases h
    ·rintro ⟨q, hq, h⟩
     exact ⟨q, by omega, h⟩
   have HL := Lib.hid (load_set ho)
   obtain ⟨W2, hst, hw2⟩ := store_set ST.out.r (lettersW K.kd m K.typ.least)
   have HST := Lib.hid hst
   have HW2 := Lib.hid hw2
   clear ho hst hw2
   go_wp2_with (first
    | (refine wpList_load_box rfl 108 _ rfl rfl HL.out ?_)
    | (refine wpList_store_box rfl 108 _ _ rfl rfl rfl HST.out ?_))
   refine bodyPost_ret (results_cell rfl rfl (loadv_set HW2.out.box)) rfl ⟨rfl, HW2.out.below ST.out.b (by omega)⟩
end Go.Proofs.YthpjffhccjlnhaaGreatDoor
namespace Go.Proofs.YthpjffhccjlnhaaGreatDoor
open Go.RowKit
attribute [local go_sem] Oper.semAt_some

/-- as wpIn_each, where a round may lay and change memory of its own -/
theorem wpIn_eachW {g : Operand} {p : Tmp} {assign body : Code} {Q : Exit → Act → World → Prop} {a : Act} {w : World} {s : CS} (hg : a.eval g = .func (.func 103) #[.agg (setCells s)] #[])
  (I : List Nat → World → Prop) (hI : ∀ pre A B, I pre A → Keep (fun k => k ≠ w.heap.size ∧ k ≠ w.heap.size + 1) A B → I pre B) (h0 : I [] w) (q : Tmp)
  (hassign : ∀ (l : Nat) (c : Nat) (W : World) (K : Act → World → Prop), K { tmps := (a.tmps.setIfInBounds p (.int .i64 (c : Int))).setIfInBounds q (.int .i64 (c : Int)), defers := [] } W → assign.wpIn (Fence.wide.inRound l) 0 Tryz.prog (Exit.then K (fun _ _ _ => False)) { tmps := a.tmps.setIfInBounds p (.int .i64 (c : Int)), defers := [] } W)
  (hbody : ∀ (l : Nat) (pre : List Nat) (c : Nat) (W : World), I pre W → w.heap.size + 1 < W.heap.size → c < 26 → (pre ++ [c]) <+: classesOf s →
   body.wpIn (Fence.wide.inRound l) 0 Tryz.prog (roundEndsM (fun k => k = w.heap.size ∨ k = w.heap.size + 1) I (fun _ _ _ => False) (pre ++ [c]) W) { tmps := (a.tmps.setIfInBounds p (.int .i64 (c : Int))).setIfInBounds q (.int .i64 (c : Int)), defers := [] } W)
  (hdone : ∀ (W : World), I (classesOf s) W → W.heap[w.heap.size]? = some (.deferred (some [])) → Q .normal { a with defers := { target := .collected w.heap.size, args := #[] } :: a.defers } W) :
  (Code.rangeFunc g #[p] assign body).wpIn Fence.wide 0 Tryz.prog Q a w := by
 refine wpIn_rangeM (gf := 103) (fs := #[.agg (setCells s)]) (lb := #[]) (Rd := EachRd) (xs := classesOf s) hg (enters_of Tryz.func103 (by kernel_rfl) rfl)
  (fun o1 o2 => each_gives s _) ?ps I (fun _ _ _ => False) ?hI ?hI2 ?hX ?hX2 h0 (fun c _ act _ => act = { tmps := (a.tmps.setIfInBounds p (.int .i64 (c : Int))).setIfInBounds q (.int .i64 (c : Int)), defers := [] }) ?hAs ?assign ?body hdone ?stop
 case ps => rintro x args W rfl; rfl
 case hI => exact fun s A B h hb => hI s A B h (Keep.of_below' hb)
 case hI2 => exact fun s A o h => hI s A _ h ((Keep.refl _ A).putObj (by omega) _)
 case hX => exact fun _ _ _ _ h _ => h.elim
 case hX2 => exact fun _ _ _ _ h => h.elim
 case hAs => exact fun x args act A o h => h
 case assign =>
  rintro l x args W K rfl hlt hk
  have e : (#[p].zip #[Value.int .i64 (x : Int)]).foldl (fun t (q, v) => t.setIfInBounds q v) a.tmps = a.tmps.setIfInBounds p (.int .i64 (x : Int)) := by simp
  rw [e]
  exact hassign l x W K (hk _ _ rfl (Below.refl _ _))
 case body =>
  rintro l pre x args act W hi rfl hpre hlt _ _
  have hx : x ∈ classesOf s := hpre.subset (by simp)
  exact hbody l pre x W hi hlt (by simpa [classesOf, eachTo] using (List.mem_filter.1 hx).1) hpre
 case stop => exact fun _ _ _ _ h => h.elim
theorem str_eq (s : CS) : str s = toS (classesOf s) := rfl
set_option maxRecDepth 100000 in
set_option maxHeartbeats 1000000 in
theorem text_any (s : CS) (w : World) : Calls Tryz.prog 99 #[.agg (setCells s)] w fun e w' => e = .returned (.string (mkB (str s))) ∧ Below w.heap.size w w' := by
 have hmf := run_mf Tryz.prog
 obtain ⟨w2, hw2⟩ : ∃ w2, (w.alloc (.cells (setCells s) 108)).alloc (.cells #[.slice none 0 0] 98) = w2 := ⟨_, rfl⟩
 have b0 : SetBox w2 w.heap.size s := by rw [← hw2]; exact (Box.new _ _ _).alloc _
 have b1 : Box w2 (w.heap.size + 1) #[.slice none 0 0] 98 := by rw [← hw2]; exact Box.new' (by simp)
 have hB : Below w.heap.size w w2 := by rw [← hw2]; go_grown
 have gs : w2.heap.size = w.heap.size + 2 := by rw [← hw2]; simp
 have HL1 := Lib.hid (load_set b0)
 have B1 := Lib.hid b1
 have HB := Lib.hid hB
 have HW := Lib.hid hw2
 have GS := Lib.hid gs
 clear b0 b1 hB hw2 gs
 refine (callsIn_wide (n := 0)).1 (callsIn_of_wp_marks Tryz.func99 rfl trivial ?_ rfl)
 simp only [Tryz.ntmps99, List.size_toArray, List.length_cons, List.length_nil, Nat.reduceAdd, Nat.reduceSub, Array.replicate_succ, Array.replicate_zero, List.push_toArray, List.append_toArray, List.nil_append, List.cons_append]
 gi_wp2_with (simp only [zset, HW.out]; refine wpListIn_load_box rfl 108 _ rfl rfl HL1.out ?_)
 (try simp only [Nat.add_assoc, Nat.reduceAdd])
 clear HL1 HW
 refine wpIn_eachW (s := s) rfl (fun pre W => (∃ v, Box W (w.heap.size + 1) #[v] 98 ∧ W.ownsRow (w.heap.size + 4) 5 1 v pre.length (pre.map letV)) ∧ Below w.heap.size w W) ?hI ?h0 4 ?assign ?body ?done
 case hI =>
  rintro pre A B ⟨⟨v, h1, h2⟩, h3⟩ hk
  rw [GS.out] at hk
  exact ⟨⟨v, hk.heap (by omega) h1, ownsRow_keep h2 hk (fun k hk => by omega)⟩, h3.trans ((hk.mono fun k hk => by omega).below h3.size)⟩
 case h0 => exact ⟨⟨_, B1.out, ownsRow_nil _ _ _ _⟩, HB.out⟩
 case assign =>
  intro l c W Kk hK
  gi_wp2_with fail
  exact hK
 case body =>
  rintro l pre c W ⟨⟨v, h1, h2⟩, h3⟩ hlt hc hpre
  simp only [List.setIfInBounds_toArray, List.set_cons_succ, List.set_cons_zero]
  rw [GS.out] at hlt ⊢
  have hlen : pre.length + 1 ≤ 26 := by
   have := hpre.length_le
   have h2 : (classesOf s).length ≤ 26 := by unfold classesOf eachTo; exact Nat.le_trans (List.length_filter_le _ _) (by simp)
   simp at this; omega
  have hw1 : IntKind.i64.wrap ((97 : Int) + (c : Int)) = (97 : Int) + (c : Int) := IntWalk.i64_in _ (by omega)
  have hw2 : IntKind.u8.wrap ((97 : Int) + (c : Int)) = ((chC c).toNat : Int) := by rw [← hw1]; exact letV_eq hc
  have c1 := h1.cell 0
  obtain ⟨v2, U, hrun, hown, hbU⟩ := app_one (E := 5) (TT := 98) Tryz.underlying98 info_u8 rfl (by omega) h2 (by omega) (by omega) (letV c) rfl
  obtain ⟨ra, rcap, rfl, -, -⟩ := ownsRow_own hown
  have HRN := Lib.hid hrun
  have HOW := Lib.hid hown
  have hb4 : Below (w.heap.size + 4) W U := hbU
  have b1 := h1.below hb4 (by omega)
  have cU := b1.cell 0
  have fU := b1.frozen 0
  have BU := Lib.hid b1
  have HB4 := Lib.hid hb4
  have H3 := Lib.hid h3
  clear hrun hown hbU hb4 h1 h2 h3 b1
  gi_wp2_with (gi_at_builtin; refine wpListIn_app rfl _ _ _ rfl rfl rfl HRN.out ?_)
  have k5 : Keep (fun k => k ≠ w.heap.size + 1) U (U.setCell ⟨w.heap.size + 1, 0, none⟩ (.slice ra (pre.length + 1) rcap)) := (Keep.refl _ U).setCell (.inl (by simp)) _
  have hs4 := HB4.out.size
  refine ⟨(Keep.of_below HB4.out fun k hk _ => by omega).trans (k5.mono fun k hk => by omega), ⟨_, BU.out.set_ 0 _, ?_⟩, H3.out.trans ((((Keep.of_below HB4.out fun k (hk : k < w.heap.size) _ => by omega).trans (k5.mono fun k hk => by omega))).below (by omega))⟩
  have := ownsRow_keep HOW.out k5 fun k hk => by omega
  simpa using this
 case done =>
  rintro W ⟨⟨v, h1, h2⟩, h3⟩ hD
  rw [GS.out] at hD
  have c1 := h1.cell 0
  have hC := run_str_own (w := W) (l := str s) (n := (classesOf s).length) (base := w.heap.size + 4) (v := v) (by rw [show (str s).map (fun b => Value.int .u8 (b.toNat : Int)) = (classesOf s).map letV from by rw [str_eq]; simp [toS, letV]]; exact h2)
  have H3 := Lib.hid h3
  have HD := Lib.hid hD
  clear h1 h2 h3 hD
  gi_wp2_with fail
  simp only [GS.out]
  refine ⟨by simp, .inl ⟨_, _, rfl, run_takeDeferred HD.out, ?_⟩⟩
  exact ⟨_, by simp [results, go_sem], rfl, below_put H3.out (by omega) _⟩
end Go.Proofs.YthpjffhccjlnhaaGreatDoor
namespace Go.Proofs.YthpjffhccjlnhaaGreatDoor
open Go.RowKit
attribute [local go_sem] Oper.semAt_some

theorem fold_fn (n off : Nat) : ∀ (l : List Value) (s : Nat) (f : Nat → Value), (l.zipIdx s).foldl (fun cs (p : Value × Nat) => cs.setIfInBounds (off + p.2) p.1) (fnCells n f) = fnCells n fun x => if off + s ≤ x then l[x - (off + s)]?.getD (f x) else f x := by
 intro l
 induction l with
 | nil => intro s f; simp [fnCells]
 | cons v l ih =>
  intro s f
  rw [List.zipIdx_cons, List.foldl_cons]
  dsimp only
  rw [fnCells_set, ih (s + 1)]
  refine fnCells_congr fun i _ => ?_
  by_cases h : off + s ≤ i
  ·rw [if_pos h]
   by_cases e : i = off + s
   ·subst e; rw [if_neg (by omega), if_pos rfl]; simp
   ·rw [if_pos (show off + (s + 1) ≤ i by omega), if_neg e, show i - (off + s) = (i - (off + (s + 1))) + 1 by omega, List.getElem?_cons_succ]
  ·rw [if_neg h, if_neg (show ¬ off + (s + 1) ≤ i by omega), if_neg (show ¬ i = off + s by omega)]
/-- a part laid into the cells -/
theorem fill_fn {place : Nat → Option (Nat × Nat)} {n i off m : Nat} {f g : Nat → Value} {v : Value} {rest : List (Nat × Value)} (hp : place i = some (off, m)) (hv : v.cells = fnCells m g) (hn : off + m ≤ n) :
  Instr.fill place (fnCells n f) ((i, v) :: rest) = Instr.fill place (fnCells n fun x => if off ≤ x ∧ x < off + m then g (x - off) else f x) rest := by
 rw [Instr.fill, hp]
 simp only [hv, fnCells_size]
 rw [if_neg (by simp; omega)]
 congr 1
 rw [← Array.foldl_toList]
 have := fold_fn n off (fnCells m g).toList 0 f
 simp only [Nat.add_zero] at this
 rw [Array.toList_zipIdx]
 refine this.trans (fnCells_congr fun x _ => ?_)
 have e : (fnCells m g).toList = (List.range m).map g := rfl
 rw [e]
 by_cases h1 : off ≤ x
 ·rw [if_pos h1]
  by_cases h2 : x < off + m
  ·rw [if_pos ⟨h1, h2⟩]; simp [show x - off < m by omega]
  ·rw [if_neg (by omega), List.getElem?_eq_none (by simp; omega)]; rfl
 ·rw [if_neg h1, if_neg (by omega)]
theorem one_cells {v : Value} (h : v.oneCell' = true) : v.cells = fnCells 1 fun _ => v := by
 cases v <;> first | rfl | (simp [Value.oneCell'] at h)
section
variable {P : Program} {md : Region.Mode} {ops : Array Oper} {S : World → Prop} {ks : List OVar} {fin : Act → Prop} {o : Oper} {rest : List Oper} {a : Act}
theorem held_build {v : Value} (t : TypeId) (parts : Array (Nat × Operand)) (hw : Region.wanted o (yielded ops a.tmps) = true) (ho : o.op = .build t parts) (hr : ∀ W, (Instr.build t (parts.map fun (i, x) => (i, a.eval x))).run P W = .ok v W)
  (h : held P ops S ks fin rest (a.put o.dst v)) : held P ops S ks fin (o :: rest) a :=
 held_val (by unfold isAlloc; rw [ho]) hw (fun W _ => by unfold execOp; simp only [ho, Sem.run_bind, hr W, Result.andThen_ok, Sem.run_pure]) h
theorem wpList_build {w : World} {Q : Exit → Act → World → Prop} (hg : o.guard = none) {v : Value} (t : TypeId) (parts : Array (Nat × Operand)) (ho : o.op = .build t parts) (hr : (Instr.build t (parts.map fun (i, x) => (i, a.eval x))).run P w = .ok v w)
  (h : wpList P ops Q rest (a.put o.dst v) w) : wpList P ops Q (o :: rest) a w :=
 wpList_plain hg fun _ hK => by
  unfold Oper.wp execOp
  simp only [ho, Sem.run_bind, hr, Result.andThen_ok, Sem.run_pure]
  exact hK _ _ h
end
/-! a kind -/
def typ0 : Typ := ⟨ByteArray.empty, ByteArray.empty, 0, 0, ByteArray.empty, ByteArray.empty, fun _ => ByteArray.empty⟩
def knd0 : Knd := ⟨typ0, 0, fun _ => false, fun _ => false, fun _ _ => false⟩
theorem zknd : Tryz.zeroCells111 = kndCells knd0 := by kernel_rfl
theorem built_knd (parts : List (Nat × Value)) : Tryz.prog.built 111 parts = Instr.fill (fun i => (#[(0, 32), (32, 1), (33, 26), (59, 26), (85, 676)] : Array (Nat × Nat))[i]?) (kndCells knd0) parts := by
 rw [← zknd]; kernel_rfl
theorem run_build_knd (t : Typ) (i : Int) (r b : CS) (w : World) : (Instr.build 111 #[(0, .agg (typCells t)), (1, .int .i64 i), (2, .agg (setCells r)), (3, .agg (setCells b))]).run Tryz.prog w = .ok (.agg (kndCells ⟨t, i, r, b, fun _ _ => false⟩)) w := by
 refine run_build w _ _ _ ?_
 rw [built_knd]
 unfold kndCells
 rw [fill_fn (off := 0) (m := 32) (g := typF t) rfl rfl (by omega), fill_fn (off := 32) (m := 1) (g := fun _ => .int .i64 i) rfl rfl (by omega), fill_fn (off := 33) (m := 26) (g := setF r) rfl rfl (by omega), fill_fn (off := 59) (m := 26) (g := setF b) rfl rfl (by omega)]
 refine congrArg some (fnCells_congr fun j hj => ?_)
 unfold kndF setF
 dsimp only
 have n1 : ¬ (59 ≤ j ∧ j < 59 + 26) ∨ (59 ≤ j ∧ j < 59 + 26) := by omega
 have n2 : ¬ (33 ≤ j ∧ j < 33 + 26) ∨ (33 ≤ j ∧ j < 33 + 26) := by omega
 have n3 : ¬ (32 ≤ j ∧ j < 32 + 1) ∨ (32 ≤ j ∧ j < 32 + 1) := by omega
 have n4 : ¬ (0 ≤ j ∧ j < 0 + 32) ∨ (0 ≤ j ∧ j < 0 + 32) := by omega
 rcases n1 with n1 | n1
 ·rw [if_neg n1]
  rcases n2 with n2 | n2
  ·rw [if_neg n2]
   rcases n3 with n3 | n3
   ·rw [if_neg n3]
    rcases n4 with n4 | n4
    ·rw [if_neg n4]
     have h1 : ¬ j < 32 := by omega
     have h2 : ¬ j = 32 := by omega
     have h3 : ¬ j < 59 := by omega
     have h4 : ¬ j < 85 := by omega
     rw [if_neg h1, if_neg h2, if_neg h3, if_neg h4, if_neg h1, if_neg h2, if_neg h3, if_neg h4]
     rfl
    ·have h1 : j < 32 := by omega
     rw [if_pos n4, if_pos h1, Nat.sub_zero]
   ·have h1 : ¬ j < 32 := by omega
    have h2 : j = 32 := by omega
    rw [if_pos n3, if_neg h1, if_pos h2]
  ·have h1 : ¬ j < 32 := by omega
   have h2 : ¬ j = 32 := by omega
   have h3 : j < 59 := by omega
   rw [if_pos n2, if_neg h1, if_neg h2, if_pos h3]
 ·have h1 : ¬ j < 32 := by omega
  have h2 : ¬ j = 32 := by omega
  have h3 : ¬ j < 59 := by omega
  have h4 : j < 85 := by omega
  rw [if_pos n1, if_neg h1, if_neg h2, if_neg h3, if_pos h4]
theorem run_build_knd0 (w : World) : (Instr.build 111 #[]).run Tryz.prog w = .ok (.agg (kndCells knd0)) w := by
 refine run_build w _ _ _ ?_
 rw [built_knd]; rfl
end Go.Proofs.YthpjffhccjlnhaaGreatDoor
namespace Go.Proofs.YthpjffhccjlnhaaGreatDoor
open Go.RowKit
attribute [local go_sem] Oper.semAt_some

def kndOf (t : Typ) (i : Int) : Knd := ⟨t, i, t.kd.rim, t.kd.base, t.kd.after⟩
theorem kndOf_kd (t : Typ) (i : Int) : (kndOf t i).kd = t.kd := rfl
theorem set_len {l : List UInt8} (h : isSetB l = true) : l.length ≤ 26 := by
 rw [← str_has h]
 unfold str
 rw [List.length_map]
 exact Nat.le_trans (List.length_filter_le _ _) (by simp)
theorem set_size {s : ByteArray} (h : isSetB (bl s) = true) : s.size ≤ 1000000 := by
 have := set_len h
 rw [bl_len] at this; omega
def kndTo (t : Typ) (i : Int) (k : Nat) : Knd := ⟨t, i, t.kd.rim, t.kd.base, fun c d => decide (c < k) && t.kd.after c d⟩
theorem kndTo_zero (t : Typ) (i : Int) : kndCells (kndTo t i 0) = kndCells ⟨t, i, t.kd.rim, t.kd.base, fun _ _ => false⟩ := by
 refine fnCells_congr fun j _ => ?_
 simp [kndF, kndTo]
theorem kndTo_all (t : Typ) (i : Int) : kndCells (kndTo t i 26) = kndCells (kndOf t i) := by
 refine fnCells_congr fun j hj => ?_
 unfold kndF kndTo kndOf
 dsimp only
 rw [decide_eq_true (show (j - 85) / 26 < 26 by omega), Bool.true_and]
theorem KndBox.put {w : World} {b : Nat} {t : Typ} {i : Int} {k : Nat} (h : KndBox w b (kndTo t i k)) (hk : k < 26) :
  ∃ w', (Instr.storeAt 108 (.pointer (some ⟨b, 85 + k * 26, none⟩)) (.agg (setCells (t.kd.after k)))).run Tryz.prog w = .ok () w' ∧ Wrote w w' b (kndCells (kndTo t i (k + 1))) 111 := by
 obtain ⟨w', hr, hw⟩ := run_store_sub agg_set h (85 + k * 26) (setF (t.kd.after k)) (setF_one _) (by omega)
 refine ⟨w', hr, ⟨hw.box.cong fun j hj => ?_, hw.keep, hw.size⟩⟩
 by_cases h1 : 85 + k * 26 ≤ j ∧ j < 85 + k * 26 + 26
 ·rw [if_pos h1]
  unfold kndF setF
  rw [if_neg (by omega), if_neg (by omega), if_neg (by omega), if_neg (by omega)]
  simp only [kndTo]
  rw [show (j - 85) / 26 = k by omega, show (j - 85) % 26 = j - (85 + k * 26) by omega, decide_eq_true (by omega), Bool.true_and]
 ·rw [if_neg h1]
  unfold kndF
  split; · rfl
  split; · rfl
  split; · rfl
  split; · rfl
  simp only [kndTo]
  have : decide ((j - 85) / 26 < k) = decide ((j - 85) / 26 < k + 1) := by
   rw [Bool.eq_iff_iff]; simp only [decide_eq_true_eq]; omega
  rw [this]
theorem run_index_aft (t : Typ) {k : Nat} (hk : k < 26) (w : World) : (Instr.index 69 (.agg (fnCells 26 (aftF t))) (.int .i64 (k : Int))).run Tryz.prog w = .ok (.string (t.after k)) w := by
 have hi : (0 : Int) ≤ k ∧ (k : Int) < 26 := by omega
 have hs : (sizeOf 9).run Tryz.prog w = .ok 1 w := by kernel_rfl
 have ha : (isAgg 9).run Tryz.prog w = .ok false w := by kernel_rfl
 have hg : (fnCells 26 (aftF t))[k]? = some (.string (t.after k)) := fnCells_get hk
 simp [Instr.index, run_underlying Tryz.underlying69, asIntOf, hi, hs, hk, hg, part, ha, Nat.not_le.2 hk]
structure KdSt (B : Nat) (t : Typ) (i : Int) (k : Nat) (kb : Nat) (w W : World) : Prop where
 r : KndBox W B knd0
 k : KndBox W kb (kndTo t i k)
 b : Below B w W
 s : B < kb
theorem KdSt.below {B : Nat} {t : Typ} {i : Int} {k : Nat} {kb : Nat} {w W W' : World} (h : KdSt B t i k kb w W) (hs : B = w.heap.size) (hb : Below W.heap.size W W') : KdSt B t i k kb w W' :=
 ⟨h.r.below' hb, h.k.below' hb, h.b.trans (hb.mono (by have := h.b.size; omega)), h.s⟩
set_option maxRecDepth 100000 in
set_option maxHeartbeats 1000000 in
theorem kindOf_any (a : Option Addr) (cap : Nat) (l : List Typ) (i : Nat) (t : Typ) (ht : l[i]? = some t) (hok : t.sets = true) (w : World) (h : TypesAt w a l) :
  Calls Tryz.prog 132 #[.slice a l.length cap, .int .i64 (i : Int)] w fun e w' => e = .returned (.agg (kndCells (kndOf t i))) ∧ Below w.heap.size w w' := by
 obtain ⟨b, o, rfl, hat⟩ := h i t ht
 obtain ⟨hs1, hs2, hs3⟩ := Typ.sets_iff.1 hok
 have hil : i < l.length := (List.getElem?_eq_some_iff.1 ht).1
 have hli : (i : Int) < (l.length : Int) := by omega
 have hi0 : (0 : Int) ≤ (i : Int) := by omega
 obtain ⟨w1, hw1⟩ : ∃ w1, w.alloc (.cells (kndCells knd0) 111) = w1 := ⟨_, rfl⟩
 have b0 : KndBox w1 w.heap.size knd0 := by rw [← hw1]; exact Box.new _ _ _
 have hB : Below w.heap.size w w1 := by rw [← hw1]; go_grown
 have B0 := Lib.hid b0
 have HB := Lib.hid hB
 have HW := Lib.hid hw1
 have HT := Lib.hid (hat.below hB)
 have HS3 := Lib.hid hs3
 clear b0 hB hw1 hat h hok ht
 go_enter Tryz.func132, Tryz.ntmps132
 go_upto_region 1 with fail
 simp only [zknd, HW.out]
 refine wp_region_heldB 19 [(5, kndCells knd0, 111)] (by kernel_rfl) (by kernel_rfl) (by kernel_rfl) (by simp) ?_
 intro S hS
 have L1 := Lib.hid (fun A hA => TypAt.load (HT.out.below (hS A hA)))
 have k0 : ∀ A, S A → A.cell? ⟨b, o + i * 32 + 4, none⟩ = some (.string t.rim) ∧ A.cell? ⟨b, o + i * 32 + 5, none⟩ = some (.string t.base) := fun A hA => ⟨(HT.out.below (hS A hA)).fields.2.2.2.2.1, (HT.out.below (hS A hA)).fields.2.2.2.2.2⟩
 have K0 := Lib.hid k0
 have HS := Lib.hid hS
 clear hS k0
 simp only [List.take_succ_cons, List.take_zero, List.drop_succ_cons, List.drop_zero]
 repeat (first
  | (refine held_load 71 _ (by rfl) rfl rfl L1.out ?_; try (dsimp only); try simp only [Act.put, List.setIfInBounds_toArray, List.set_cons_zero, List.set_cons_succ])
  | (refine held_build (v := .agg (kndCells ⟨t, i, t.kd.rim, t.kd.base, fun _ _ => false⟩)) 111 _ (by rfl) rfl (fun W => ?_) ?_; (· (simp only [List.map_toArray, List.map_cons, List.map_nil]; exact run_build_knd t i (hasC (bl t.rim)) (hasC (bl t.base)) W)); try (dsimp only); try simp only [Act.put, List.setIfInBounds_toArray, List.set_cons_zero, List.set_cons_succ])
  | (refine held_not rfl (by rfl) ?_; try (dsimp only); try simp only [Act.put, List.setIfInBounds_toArray, List.set_cons_zero, List.set_cons_succ])
  | (refine held_val (v := ?_) rfl (by rfl) ?_ ?_; rotate_left; (· (intro W hW; obtain ⟨q0, q1⟩ := K0.out W hW; go_simp; try with_reducible rfl)); try (dsimp only); try simp only [Act.put, List.setIfInBounds_toArray, List.set_cons_zero, List.set_cons_succ])
  | (refine held_skip rfl (by rfl) ?_ ?_; (· (intro W hW; obtain ⟨q0, q1⟩ := K0.out W hW; go_simp; try with_reducible rfl)); try (dsimp only); try simp only [Act.put, List.setIfInBounds_toArray, List.set_cons_zero, List.set_cons_succ])
  | (refine held_call (v := .agg (setCells (hasC (bl t.rim)))) (f := 142) (args := #[.string t.rim]) rfl (by rfl) ?_ ?_ ?_; (· (intro W hW; go_simp; done)); (· exact (fun W hW => of_any _ hs1 W (set_size hs1))); try (dsimp only); try simp only [Act.put, List.setIfInBounds_toArray, List.set_cons_zero, List.set_cons_succ])
  | (refine held_call (v := .agg (setCells (hasC (bl t.base)))) (f := 142) (args := #[.string t.base]) rfl (by rfl) ?_ ?_ ?_; (· (intro W hW; go_simp; done)); (· exact (fun W hW => of_any _ hs2 W (set_size hs2))); try (dsimp only); try simp only [Act.put, List.setIfInBounds_toArray, List.set_cons_zero, List.set_cons_succ]))
 refine held_own (e := (5, kndCells knd0, 111)) rfl rfl (by simp) rfl (fun b W => by rw [← zknd]; go_simp) ?_
 refine held_nil ?_
 intro τ hτ W2 hW hO
 obtain ⟨G, rfl⟩ := laid1 hτ
 obtain ⟨hG, hGN⟩ := hO.one
 have hbW := HS.out W2 hW
 have hb0 : KndBox W2 w.heap.size knd0 := B0.out.below' hbW
 obtain ⟨W3, hst, hw3⟩ := run_store_all (P := Tryz.prog) agg_knd hG (kndF ⟨t, i, t.kd.rim, t.kd.base, fun _ _ => false⟩) (fun j _ => kndF_one _ j)
 have hsz : w.heap.size < w1.heap.size := by have := B0.out.lt; omega
 have S3 : KdSt w.heap.size t i 0 G w W3 := by
  refine ⟨hw3.far hb0 (by omega), ?_, hw3.below (HB.out.trans (hbW.mono (by omega))) (by omega), by omega⟩
  have := hw3.box
  unfold KndBox
  rw [kndTo_zero]; exact this
 have HT3 := Lib.hid ((HT.out.below hbW).keep hw3.keep (by have := HT.out.lt; omega))
 have ST3 := Lib.hid S3
 have HST := Lib.hid hst
 clear hτ hO hG hGN hW K0 HS hbW hst hw3 S3 hb0 L1 B0 HB HW HT
 simp only [overs, List.foldl_cons, List.foldl_nil, Act.put, List.setIfInBounds_toArray, List.set_cons_zero, List.set_cons_succ]
 have HL := Lib.hid (TypAt.aft HT3.out)
 go_wp2_with (first
  | (refine wpList_store_box rfl 111 _ _ rfl rfl rfl HST.out ?_)
  | (refine wpList_load_box rfl 69 _ rfl rfl HL.out ?_))
 clear HST HL HT3
 go_loopw [6, 7, 31] (fun _ _ iv wr => ∃ k : Nat, k ≤ 26 ∧ iv = .int .i64 k ∧ KdSt w.heap.size t i k G w wr) (fun _ _ iv _ => 26 - (intOf iv).toNat)
 case atStart => exact ⟨0, Nat.zero_le _, rfl, ST3.out⟩
 case round =>
  clear ST3
  obtain ⟨k, hk, rfl, st⟩ := hrel
  have ST := Lib.hid st
  clear st
  by_cases hlt : k < 26
  ·have hki : (k : Int) < 26 := by omega
   have hk0 : (0 : Int) ≤ (k : Int) := by omega
   have hix := run_index_aft t hlt wr
   go_wp2_with fail
   clear hix
   refine (of_any (t.after k) (HS3.out k hlt) wr (set_size (HS3.out k hlt))).mono ?_
   rintro e w4 ⟨rfl, hb4⟩
   have S4 := ST.out.below rfl hb4
   obtain ⟨w5, hst, hw5⟩ := KndBox.put S4.k hlt
   have S5 : KdSt w.heap.size t i (k + 1) G w w5 := ⟨hw5.far S4.r (by have := S4.s; omega), hw5.box, hw5.below S4.b (by have := S4.s; omega), S4.s⟩
   have HST := Lib.hid hst
   have ST5 := Lib.hid S5
   clear hst hw5 S5 S4 hb4
   go_wp2_with (refine wpList_store_box rfl 108 _ _ rfl rfl rfl HST.out ?_)
   go_roundw
   case rel => exact ⟨k + 1, by omega, by go_num, ST5.out⟩
   case measure => simp [intOf]; omega
  ·have hkn : decide ((k : Int) < 26) = false := by simp; omega
   have hke : k = 26 := by omega
   subst hke
   have hk2 : KndBox wr G (kndOf t i) := by have := ST.out.k; unfold KndBox at this ⊢; rwa [kndTo_all] at this
   have HL := Lib.hid (KndBox.load hk2)
   obtain ⟨w5, hst, hw5⟩ := run_store_all (P := Tryz.prog) agg_knd ST.out.r (kndF (kndOf t i)) (fun j _ => kndF_one _ j)
   have HST := Lib.hid hst
   have HW5 := Lib.hid hw5
   clear hst hw5 hk2
   go_wp2_with (first
    | (refine wpList_load_box rfl 111 _ rfl rfl HL.out ?_)
    | (refine wpList_store_box rfl 111 _ _ rfl rfl rfl HST.out ?_))
   refine bodyPost_ret (results_cell rfl rfl (KndBox.loadv HW5.out.box)) rfl ⟨rfl, HW5.out.below ST.out.b (Nat.le_refl _)⟩
end Go.Proofs.YthpjffhccjlnhaaGreatDoor
