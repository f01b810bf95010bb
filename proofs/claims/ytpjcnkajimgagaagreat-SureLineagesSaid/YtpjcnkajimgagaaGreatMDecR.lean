/- The reference's Decided in memory: one more pair decided; the class of a part. -/
/- The reference's parted, clashing and ids, walked. -/
import Derived.Test.YtpjcnkajimgagaaGreatMDecP
import Derived.Test.YtpjcnkajimgagaaGreatMRefA
import Derived.Test.YtpjcnkajimgagaaGreatMAnswers
import Derived.Test.YtpjcnkajimgagaaGreatMAllR
import Derived.Test.YtpjcnkajimgagaaGreatMHeld
import Derived.Test.YtpjcnkajimgagaaGreatMRefB
import Derived.Test.YtpjcnkajimgagaaGreatMWout
set_option linter.unusedSimpArgs false
set_option linter.unusedVariables false
namespace Go.Proofs.YtpjcnkajimgagaaGreat
open Go.RowKit
attribute [local go_sem] Oper.semAt_some

/-- the cells of what is decided, as the reference keeps it -/
def dciCells (d : Nat → Nat → Nat) : Array Value := ((List.range 64).map fun i => Value.int .i64 (d (i / 8) (i % 8) : Nat)).toArray
theorem dciCells_size (d : Nat → Nat → Nat) : (dciCells d).size = 64 := by simp [dciCells]
theorem dci_at (d : Nat → Nat → Nat) (i : Nat) : (dciCells d)[i]? = if i < 64 then some (.int .i64 (d (i / 8) (i % 8) : Nat)) else none := by
 unfold dciCells
 rw [List.getElem?_toArray, List.getElem?_map]
 split
 ·rw [List.getElem?_range (by omega)]; rfl
 ·rw [List.getElem?_eq_none (by simp; omega)]; rfl
theorem dciCells_at (d : Nat → Nat → Nat) {x y : Nat} (hx : x < 8) (hy : y < 8) : (dciCells d)[x * 8 + y]? = some (.int .i64 (d x y : Nat)) := by
 rw [dci_at, if_pos (by omega)]
 have h1 : (x * 8 + y) / 8 = x := by omega
 have h2 : (x * 8 + y) % 8 = y := by omega
 rw [h1, h2]
theorem dci_set (d : Nat → Nat → Nat) {x y : Nat} (hx : x < 8) (hy : y < 8) (v : Nat) : (dciCells d).setIfInBounds (x * 8 + y) (.int .i64 (v : Nat)) = dciCells (fun a b => if a = x ∧ b = y then v else d a b) := by
 apply Array.ext_getElem?
 intro i
 rw [Array.getElem?_setIfInBounds, dci_at, dci_at, dciCells_size]
 by_cases h : x * 8 + y = i
 ·subst h
  have h1 : (x * 8 + y) / 8 = x := by omega
  have h2 : (x * 8 + y) % 8 = y := by omega
  rw [if_pos rfl, if_pos (by omega), if_pos (by omega)]
  simp [h1, h2]
 ·rw [if_neg h]
  have h3 : ¬ (i / 8 = x ∧ i % 8 = y) := by omega
  simp [h3]
theorem dci_one (d : Nat → Nat → Nat) : (dciCells d).all (·.oneCell') = true := by
 refine Array.all_eq_true_iff_forall_mem.2 fun v hv => ?_
 simp [dciCells] at hv
 obtain ⟨i, _, rfl⟩ := hv
 rfl
theorem dci_info (d : Nat → Nat → Nat) : (Tryz.prog.info? 115).map (·.size) = some (dciCells d).size := by rw [dciCells_size]; kernel_rfl
theorem zero_dci : (#[.int .i64 0, .int .i64 0, .int .i64 0, .int .i64 0, .int .i64 0, .int .i64 0, .int .i64 0, .int .i64 0, .int .i64 0, .int .i64 0, .int .i64 0, .int .i64 0, .int .i64 0, .int .i64 0, .int .i64 0, .int .i64 0, .int .i64 0, .int .i64 0, .int .i64 0, .int .i64 0, .int .i64 0, .int .i64 0, .int .i64 0, .int .i64 0, .int .i64 0, .int .i64 0, .int .i64 0, .int .i64 0, .int .i64 0, .int .i64 0, .int .i64 0, .int .i64 0, .int .i64 0, .int .i64 0, .int .i64 0, .int .i64 0, .int .i64 0, .int .i64 0, .int .i64 0, .int .i64 0, .int .i64 0, .int .i64 0, .int .i64 0, .int .i64 0, .int .i64 0, .int .i64 0, .int .i64 0, .int .i64 0, .int .i64 0, .int .i64 0, .int .i64 0, .int .i64 0, .int .i64 0, .int .i64 0, .int .i64 0, .int .i64 0, .int .i64 0, .int .i64 0, .int .i64 0, .int .i64 0, .int .i64 0, .int .i64 0, .int .i64 0, .int .i64 0] : Array Value) = dciCells (fun _ _ => 0) := by kernel_rfl
theorem bits_ori {a b : Nat} (ha : a ≤ 3) (hb : b ≤ 3) : bits .or .i64 (a : Int) (b : Int) = ((a ||| b : Nat) : Int) := by
 have h1 : a = 0 ∨ a = 1 ∨ a = 2 ∨ a = 3 := by omega
 have h2 : b = 0 ∨ b = 1 ∨ b = 2 ∨ b = 3 := by omega
 rcases h1 with rfl | rfl | rfl | rfl <;> rcases h2 with rfl | rfl | rfl | rfl <;> rfl
theorem bits_andi {a b : Nat} (ha : a ≤ 3) (hb : b ≤ 3) : bits .and .i64 (a : Int) (b : Int) = ((a &&& b : Nat) : Int) := by
 have h1 : a = 0 ∨ a = 1 ∨ a = 2 ∨ a = 3 := by omega
 have h2 : b = 0 ∨ b = 1 ∨ b = 2 ∨ b = 3 := by omega
 rcases h1 with rfl | rfl | rfl | rfl <;> rcases h2 with rfl | rfl | rfl | rfl <;> rfl
/-- the bit is there -/
theorem bit_is {a m : Nat} (ha : a ≤ 3) (hm : m = 1 ∨ m = 2) : (bits .and .i64 (a : Int) (m : Int) == (m : Int)) = decide (a &&& m ≠ 0) := by
 have h1 : a = 0 ∨ a = 1 ∨ a = 2 ∨ a = 3 := by omega
 rcases h1 with rfl | rfl | rfl | rfl <;> rcases hm with rfl | rfl <;> rfl
theorem dci_put {W : World} {B : Nat} {d : Nat → Nat → Nat} {x y v : Nat} (h : Box W B (dciCells d) 115) (hx : x < 8) (hy : y < 8) :
  Box (W.setCell ⟨B, x * 8 + y, none⟩ (.int .i64 (v : Int))) B (dciCells fun a b => if a = x ∧ b = y then v else d a b) 115 := by
 have := h.set_ (x * 8 + y) (.int .i64 (v : Int))
 rw [dci_set d hx hy] at this
 exact this
theorem withR_eq {d : Dec} (hs : SymD d) (x y how : Nat) : (fun a b => if a = y ∧ b = x then decOr d x y how x y else decOr d x y how a b) = decWith d x y how := by
 funext a b
 unfold decWith decOr
 have h1 := hs x y
 by_cases hxy : x = y
 ·subst hxy
  by_cases h : a = x ∧ b = x
  ·simp [h, Nat.or_assoc]
  ·simp [h]
 ·by_cases h : a = y ∧ b = x
  ·have h2 : ¬ (y = x ∧ x = y) := fun e => hxy e.2
   simp [h, h2, h1]
  ·simp [h]
set_option maxRecDepth 100000 in
set_option maxHeartbeats 1000000 in
theorem withR_any (d : Dec) (hs : SymD d) (x y how : Nat) (w : World) (hx : x < 8) (hy : y < 8) (hd : ∀ a b, d a b ≤ 3) (hh : how ≤ 3) :
  Calls Tryz.prog 59 #[.agg (dciCells d), .int .i64 x, .int .i64 y, .int .i64 how] w (fun e w' => e = .returned (.agg (dciCells (decWith d x y how))) ∧ Below w.heap.size w w') := by
 have hx8 : (x : Int) < 8 := by omega
 have hy8 : (y : Int) < 8 := by omega
 obtain ⟨w2, hw2⟩ : ∃ w2, (w.alloc (.cells (dciCells d) 115)).alloc (.cells #[.int .i64 0, .int .i64 0, .int .i64 0, .int .i64 0, .int .i64 0, .int .i64 0, .int .i64 0, .int .i64 0, .int .i64 0, .int .i64 0, .int .i64 0, .int .i64 0, .int .i64 0, .int .i64 0, .int .i64 0, .int .i64 0, .int .i64 0, .int .i64 0, .int .i64 0, .int .i64 0, .int .i64 0, .int .i64 0, .int .i64 0, .int .i64 0, .int .i64 0, .int .i64 0, .int .i64 0, .int .i64 0, .int .i64 0, .int .i64 0, .int .i64 0, .int .i64 0, .int .i64 0, .int .i64 0, .int .i64 0, .int .i64 0, .int .i64 0, .int .i64 0, .int .i64 0, .int .i64 0, .int .i64 0, .int .i64 0, .int .i64 0, .int .i64 0, .int .i64 0, .int .i64 0, .int .i64 0, .int .i64 0, .int .i64 0, .int .i64 0, .int .i64 0, .int .i64 0, .int .i64 0, .int .i64 0, .int .i64 0, .int .i64 0, .int .i64 0, .int .i64 0, .int .i64 0, .int .i64 0, .int .i64 0, .int .i64 0, .int .i64 0, .int .i64 0] 115) = w2 := ⟨_, rfl⟩
 have hB2 : Below w.heap.size w w2 := by rw [← hw2]; go_grown
 have b0 : Box w2 w.heap.size (dciCells d) 115 := by rw [← hw2]; exact (Box.new _ _ _).alloc _
 have b1 : Box w2 (w.heap.size + 1) (dciCells fun _ _ => 0) 115 := by rw [← hw2, zero_dci]; exact Box.new' (by simp)
 have c1 : w2.cell? ⟨w.heap.size, x * 8 + y, none⟩ = some (.int .i64 (d x y : Nat)) := by rw [b0.cell, dciCells_at _ hx hy]
 have HC1 := Lib.hid c1
 have B0 := Lib.hid b0
 have B1 := Lib.hid b1
 have HW := Lib.hid hw2
 have hor := bits_ori (hd x y) hh
 have HE := Lib.hid (withR_eq hs x y how)
 clear b0 b1 hw2 c1 hs
 go_enter Tryz.func59, Tryz.ntmps59
 go_upto_region 1 with fail
 simp only [HW.out]
 refine wp_region_heldB 11 [] (by kernel_rfl) (by kernel_rfl) (by kernel_rfl) (by simp) ?_
 intro S hS
 have k0 : ∀ W, S W → W.cell? ⟨w.heap.size, x * 8 + y, none⟩ = some (.int .i64 (d x y : Nat)) := fun W h => below_cell (hS W h) HC1.out
 have K0 := Lib.hid k0
 have HS := Lib.hid hS
 clear k0 hS
 simp only [List.take_succ_cons, List.take_zero, List.drop_succ_cons, List.drop_zero]
 repeat (first
  | (refine held_not rfl (by rfl) ?_; try (dsimp only); try simp only [Act.put, List.setIfInBounds_toArray, List.set_cons_zero, List.set_cons_succ])
  | (refine held_val (v := ?_) rfl (by rfl) ?_ ?_; rotate_left; (· (intro W hW; have q0 := K0.out W hW; go_simp; try with_reducible rfl)); try (dsimp only); try simp only [Act.put, List.setIfInBounds_toArray, List.set_cons_zero, List.set_cons_succ])
  | (refine held_skip rfl (by rfl) ?_ ?_; (· (intro W hW; have q0 := K0.out W hW; go_simp; try with_reducible rfl)); try (dsimp only); try simp only [Act.put, List.setIfInBounds_toArray, List.set_cons_zero, List.set_cons_succ]))
 refine held_nil ?_
 intro τ hτ w3 hW hO
 obtain rfl := laid0 hτ
 have hb3 := HS.out w3 hW
 have g0 := B0.out.below' hb3
 have g1 := B1.out.below' hb3
 have f1 := g0.frozen
 have c1 : w3.cell? ⟨w.heap.size, x * 8 + y, none⟩ = some (.int .i64 (d x y : Nat)) := below_cell hb3 HC1.out
 have HB3 := Lib.hid (hB2.trans (hb3.mono hB2.size))
 have G0 := Lib.hid g0
 have G1 := Lib.hid g1
 clear hτ hO hW K0 HS hb3 g0 g1 B0 B1 HC1
 simp only [overs, List.foldl_nil]
 go_upto_region 2 with fail
 have g0 := dci_put (v := d x y ||| how) G0.out hx hy
 have g1 := G1.out.far (p := ⟨w.heap.size, x * 8 + y, none⟩) (by simp) (.int .i64 ((d x y ||| how : Nat) : Int))
 have gB := HB3.out.setCell (p := ⟨w.heap.size, x * 8 + y, none⟩) (by simp) (.int .i64 ((d x y ||| how : Nat) : Int))
 have hvd : (fun a b => if a = x ∧ b = y then d x y ||| how else d a b) = decOr d x y how := rfl
 rw [hvd] at g0
 clear HB3 G0 G1 f1 c1 hor
 generalize w3.setCell ⟨w.heap.size, x * 8 + y, none⟩ (.int .i64 ((d x y ||| how : Nat) : Int)) = w4 at *
 have c1 : w4.cell? ⟨w.heap.size, x * 8 + y, none⟩ = some (.int .i64 (decOr d x y how x y : Nat)) := by rw [g0.cell, dciCells_at _ hx hy]
 have HC1 := Lib.hid c1
 have B0 := Lib.hid g0
 have B1 := Lib.hid g1
 clear c1 g0 g1
 refine wp_region_heldB 9 [] (by kernel_rfl) (by kernel_rfl) (by kernel_rfl) (by simp) ?_
 intro S hS
 have k0 : ∀ W, S W → W.cell? ⟨w.heap.size, x * 8 + y, none⟩ = some (.int .i64 (decOr d x y how x y : Nat)) := fun W h => below_cell (hS W h) HC1.out
 have K0 := Lib.hid k0
 have HS := Lib.hid hS
 clear k0 hS
 simp only [List.take_succ_cons, List.take_zero, List.drop_succ_cons, List.drop_zero]
 repeat (first
  | (refine held_not rfl (by rfl) ?_; try (dsimp only); try simp only [Act.put, List.setIfInBounds_toArray, List.set_cons_zero, List.set_cons_succ])
  | (refine held_val (v := ?_) rfl (by rfl) ?_ ?_; rotate_left; (· (intro W hW; have q0 := K0.out W hW; go_simp; try with_reducible rfl)); try (dsimp only); try simp only [Act.put, List.setIfInBounds_toArray, List.set_cons_zero, List.set_cons_succ])
  | (refine held_skip rfl (by rfl) ?_ ?_; (· (intro W hW; have q0 := K0.out W hW; go_simp; try with_reducible rfl)); try (dsimp only); try simp only [Act.put, List.setIfInBounds_toArray, List.set_cons_zero, List.set_cons_succ]))
 refine held_nil ?_
 intro τ hτ w5 hW hO
 obtain rfl := laid0 hτ
 have hb5 := HS.out w5 hW
 have g0 := B0.out.below' hb5
 have g1 := B1.out.below' hb5
 have f1 := g0.frozen
 have c1 : w5.cell? ⟨w.heap.size, y * 8 + x, none⟩ = some (.int .i64 (decOr d x y how y x : Nat)) := by rw [g0.cell, dciCells_at _ hy hx]
 have hB5 := gB.trans (hb5.mono gB.size)
 have G0 := Lib.hid g0
 have G1 := Lib.hid g1
 clear hτ hO hW K0 HS hb5 g0 g1 B0 B1 HC1 gB
 simp only [overs, List.foldl_nil]
 go_upto_region 3 with fail
 have g0 := dci_put (v := decOr d x y how x y) G0.out hy hx
 have g1 := G1.out.far (p := ⟨w.heap.size, y * 8 + x, none⟩) (by simp) (.int .i64 ((decOr d x y how x y : Nat) : Int))
 have gB := hB5.setCell (p := ⟨w.heap.size, y * 8 + x, none⟩) (by simp) (.int .i64 ((decOr d x y how x y : Nat) : Int))
 rw [HE.out] at g0
 clear hB5 G0 G1 f1 c1
 generalize w5.setCell ⟨w.heap.size, y * 8 + x, none⟩ (.int .i64 ((decOr d x y how x y : Nat) : Int)) = w6 at *
 have hL := run_load_row (P := Tryz.prog) g0 Tryz.underlying115 rfl (dci_info _)
 have hS := run_store_row (P := Tryz.prog) (T := dciCells (decWith d x y how)) g1 (dci_info _) (by rw [dciCells_size, dciCells_size]) (dci_one _)
 go_wp2_with (first
  | (refine wpList_load_box rfl 115 _ rfl rfl hL ?_)
  | (refine wpList_store_box rfl 115 _ _ rfl rfl rfl hS ?_))
 refine bodyPost_ret (results_cell rfl rfl (run_loadVar_row _ _ 115 115 _ (0, 0) _ g1.setRow_same Tryz.underlying115 rfl (dci_info _))) rfl ?_
 exact ⟨rfl, below_setRow gB (by omega) _⟩

theorem natInts_contains (l : List Nat) (x : Nat) : (natInts l).contains (x : Int) = l.contains x := by
 rw [Bool.eq_iff_iff, List.contains_iff_mem, List.contains_iff_mem]
 simp only [natInts, List.mem_map]
 constructor
 ·rintro ⟨a, ha, e⟩
  have : a = x := by omega
  exact this ▸ ha
 ·exact fun h => ⟨x, h, rfl⟩
theorem own_has {w : World} {base : Nat} {v : Value} {L : List Nat} (h : w.ownsRow base 3 1 v L.length ((natInts L).map (Value.int .i64))) : ∃ a cap, v = .slice a L.length cap ∧ Ints w a (natInts L) := by
 obtain ⟨a, cap, hv, hr, _⟩ := ownsRow_own h
 exact ⟨a, cap, hv, ints_rowOwn hr⟩
theorem has_nat (a : Option Addr) (c : Nat) (L : List Nat) (x : Nat) (w : World) (h : Ints w a (natInts L)) (hl : L.length ≤ 1000000) :
  Calls Tryz.prog 83 #[.slice a L.length c, .int .i64 x] w fun e w' => e = .returned (.bool (L.contains x)) ∧ Below w.heap.size w w' := by
 have := has_any a c (natInts L) x w h (by simpa [natInts] using hl)
 rw [natInts_contains, natInts_len] at this
 exact this.mono fun e w' ⟨h1, h2⟩ => ⟨h1, by rw [← h2]; exact Below.refl _ _⟩
set_option maxRecDepth 100000 in
set_option maxHeartbeats 2000000 in
theorem classR_any (d : Dec) (hs : SymD d) (hd : ∀ a b, d a b ≤ 3) (a : Nat) (ha : a < 8) (w : World) :
  Calls Tryz.prog 149 #[.agg (dciCells d), .int .i64 a] w fun e w' => ∃ v, e = .returned v ∧ w'.ownsRow w.heap.size 3 1 v (clsR d a).length ((natInts (clsR d a)).map (Value.int .i64)) ∧ Below w.heap.size w w' := by
 obtain ⟨w1, hw1⟩ : ∃ w1, w.alloc (.cells (dciCells d) 115) = w1 := ⟨_, rfl⟩
 have hB1 : Below w.heap.size w w1 := by rw [← hw1]; go_grown
 have b0 : Box w1 w.heap.size (dciCells d) 115 := by rw [← hw1]; exact Box.new _ _ _
 have hs1 : w1.heap.size = w.heap.size + 1 := by rw [← hw1]; simp
 have HW := Lib.hid hw1
 have HS := Lib.hid hs
 have HD := Lib.hid hd
 clear hs hd hw1
 go_enter Tryz.func149, Tryz.ntmps149
 go_upto_region 1 with fail
 simp only [HW.out]
 go_upto_region 2 with fail
 have g0 : Box (w1.alloc (.cells #[.int .i64 a] 3)) w.heap.size (dciCells d) 115 := b0.alloc _
 have gb : Below w.heap.size w (w1.alloc (.cells #[.int .i64 a] 3)) := hB1.alloc (by omega) _
 have go : (w1.alloc (.cells #[.int .i64 a] 3)).ownsRow (w.heap.size + 1) 3 1 (.slice (some ⟨w.heap.size + 1, 0, none⟩) 1 1) 1 [.int .i64 a] := ownsRow_one (Box.new' hs1.symm) (by omega)
 have gs : w.heap.size + 1 ≤ (w1.alloc (.cells #[.int .i64 a] 3)).heap.size := by simp; omega
 generalize w1.alloc (.cells #[.int .i64 a] 3) = w2 at *
 have G0 := Lib.hid g0
 have GB := Lib.hid gb
 have GO := Lib.hid go
 clear g0 gb go b0 hB1 hs1 HW
 go_wp2_with fail
 go_loopw [5, 6] (fun lv iv wr => ∃ (L : List Nat) (i : Nat), i ≤ L.length ∧ iv = .int .i64 i ∧ Bfs d a L i 0 ∧ wr.ownsRow (w.heap.size + 1) 3 1 lv L.length ((natInts L).map (Value.int .i64)) ∧ Box wr w.heap.size (dciCells d) 115 ∧ Below w.heap.size w wr ∧ w.heap.size + 1 ≤ wr.heap.size) (fun _ iv _ => 8 - (intOf iv).toNat)
 case atStart => exact ⟨[a], 0, by simp, rfl, Bfs.start ha, GO.out, G0.out, GB.out, gs⟩
 case round =>
  clear G0 GB GO gs
  obtain ⟨L, i, hil, rfl, hbfs, hown, hbx, hbw, hgs⟩ := hrel
  have HF := Lib.hid hbfs
  have HO := Lib.hid hown
  have HX := Lib.hid hbx
  have HBW := Lib.hid hbw
  clear hbfs hown hbx hbw
  obtain ⟨a5, c5, rfl, hi5⟩ := own_has HO.out
  have hL8 := HF.out.len
  by_cases hlt : i < L.length
  ·have hlti : (i : Int) < (L.length : Int) := by omega
   clear hi5
   go_wp2_with fail
   go_loopw [5, 7] (fun lv jv wx => ∃ (M : List Nat) (b : Nat), b ≤ 8 ∧ jv = .int .i64 b ∧ i < M.length ∧ Bfs d a M i b ∧ wx.ownsRow (w.heap.size + 1) 3 1 lv M.length ((natInts M).map (Value.int .i64)) ∧ Box wx w.heap.size (dciCells d) 115 ∧ Below w.heap.size w wx ∧ w.heap.size + 1 ≤ wx.heap.size) (fun _ jv _ => 8 - (intOf jv).toNat)
   case atStart => exact ⟨L, 0, Nat.zero_le _, rfl, hlt, HF.out, HO.out, HX.out, HBW.out, hgs⟩
   case round =>
    clear HF HO HX HBW hgs hlti hlt hL8 hil
    obtain ⟨M, b, hb8, rfl, hlt, hbfs, hown, hbx, hbw, hgs⟩ := hrel
    have HF := Lib.hid hbfs
    have HO := Lib.hid hown
    have HX := Lib.hid hbx
    have HBW := Lib.hid hbw
    clear hbfs hown hbx hbw
    obtain ⟨a6, c6, rfl, hi6⟩ := own_has HO.out
    have hM8 := HF.out.len
    by_cases hbl : b < 8
    ·have hbi : (b : Int) < 8 := by omega
     obtain ⟨x, hx⟩ := get_of_lt M hlt
     have hx8 := HF.out.lt x (List.mem_of_getElem? hx)
     have hxi : (x : Int) < 8 := by omega
     have hlti : (i : Int) < (M.length : Int) := by omega
     obtain ⟨ba, oa, rfl, hcell⟩ := hi6.base (by simp [natInts]; omega)
     have c1 := hcell i (x : Int) (by simp [natInts, hx])
     have c2 : wr.cell? ⟨w.heap.size, x * 8 + b, none⟩ = some (.int .i64 (d x b : Nat)) := by rw [HX.out.cell, dciCells_at _ hx8 hbl]
     have HC1 := Lib.hid c1
     have HC2 := Lib.hid c2
     have HHAS := Lib.hid (has_nat (some ⟨ba, oa, none⟩) c6 M b wr hi6 (by omega))
     have hbit : (bits .and .i64 (d x b : Int) 1 == 1) = decide (d x b &&& 1 ≠ 0) := bit_is (HD.out x b) (.inl rfl)
     have HXX := Lib.hid hx
     clear c1 c2 hcell hi6 hx
     by_cases he : d x b &&& 1 ≠ 0
     ·rw [decide_eq_true he] at hbit
      have HE := Lib.hid he
      clear he
      rcases hc : M.contains b with _ | _
      ·rw [hc] at HHAS
       have HCC := Lib.hid hc
       clear hc
       go_upto_region 9 with (go_at_call 83; (with_reducible refine HHAS.out.mono ?_); rintro e w3 ⟨rfl, hb3⟩; have c1 := below_cell hb3 HC1.out; have c2 := below_cell hb3 HC2.out; have HB3 := Lib.hid hb3; clear hb3)
       obtain ⟨v7, w7, hrun, hown, hb7⟩ := app_one (E := 3) (TT := 27) Tryz.underlying27 info_int rfl (by omega) (ownsRow_keep HO.out (K := fun _ => True) (Keep.of_below' HB3.out) (fun _ _ => trivial)) (by omega) (Nat.le_trans hgs HB3.out.size) (.int .i64 b) rfl
       have HRN := Lib.hid hrun
       have HOW := Lib.hid hown
       have HK7 := Lib.hid hb7
       clear hrun hown hb7
       go_wp2_with (at_builtin; refine wpList_app rfl _ _ _ rfl rfl rfl HRN.out ?_)
       go_roundw
       case rel =>
        refine ⟨M ++ [b], b + 1, by omega, by go_num, by simp; omega, HF.out.push HS.out HXX.out hbl HE.out (fun h => by rw [List.contains_iff_mem.2 h] at HCC; exact absurd HCC.out (by simp)), ?_, (HX.out.below' HB3.out).below HK7.out (by omega), (HBW.out.trans (HB3.out.mono HBW.out.size)).trans (HK7.out.mono (by omega)), by have := HK7.out.size; have := HB3.out.size; omega⟩
        rw [natInts_snoc, List.map_append, List.length_append, List.length_singleton]
        exact HOW.out
       case measure => simp [intOf]; omega
      ·rw [hc] at HHAS
       have HCC := Lib.hid hc
       clear hc
       go_wp2_with (go_at_call 83; (with_reducible refine HHAS.out.mono ?_); rintro e w3 ⟨rfl, hb3⟩; have c1 := below_cell hb3 HC1.out; have c2 := below_cell hb3 HC2.out; have HB3 := Lib.hid hb3; clear hb3)
       go_roundw
       case rel => exact ⟨M, b + 1, by omega, by go_num, hlt, HF.out.skip HXX.out (.inr (List.contains_iff_mem.1 HCC.out)), ownsRow_keep HO.out (K := fun _ => True) (Keep.of_below' HB3.out) (fun _ _ => trivial), HX.out.below' HB3.out, HBW.out.trans (HB3.out.mono HBW.out.size), Nat.le_trans hgs HB3.out.size⟩
       case measure => simp [intOf]; omega
     ·rw [decide_eq_false he] at hbit
      have HE := Lib.hid (Classical.byContradiction fun h => he h : d x b &&& 1 = 0)
      clear he
      go_wp2_with (go_at_call 83; (with_reducible refine HHAS.out.mono ?_); rintro e w3 ⟨rfl, hb3⟩; have c1 := below_cell hb3 HC1.out; have c2 := below_cell hb3 HC2.out; have HB3 := Lib.hid hb3; clear hb3)
      go_roundw
      case rel => exact ⟨M, b + 1, by omega, by go_num, hlt, HF.out.skip HXX.out (.inl HE.out), ownsRow_keep HO.out (K := fun _ => True) (Keep.of_below' HB3.out) (fun _ _ => trivial), HX.out.below' HB3.out, HBW.out.trans (HB3.out.mono HBW.out.size), Nat.le_trans hgs HB3.out.size⟩
      case measure => simp [intOf]; omega
    ·have hbe : b = 8 := by omega
     subst hbe
     clear hi6
     go_wp2_with fail
     go_roundw
     case rel => exact ⟨M, i + 1, hlt, by go_num, HF.out.next, HO.out, HX.out, HBW.out, hgs⟩
     case measure => simp [intOf]; omega
  ·have hout := HF.out.out HS.out hlt
   have HOUT := Lib.hid hout
   have HI5 := Lib.hid hi5
   clear hout hi5
   go_wp2_with fail
   obtain ⟨wq, hwq⟩ : ∃ wq : World, wq = wr := ⟨_, rfl⟩
   subst hwq
   go_loopw [9, 10] (fun ov kv wx => ∃ k : Nat, k ≤ 8 ∧ kv = .int .i64 k ∧ wx.ownsRow wq.heap.size 3 1 ov (outTo L k).length ((natInts (outTo L k)).map (Value.int .i64)) ∧ Below wq.heap.size wq wx) (fun _ kv _ => 8 - (intOf kv).toNat)
   case atStart => exact ⟨0, Nat.zero_le _, rfl, ownsRow_nil _ _ _ _, Below.refl _ _⟩
   case round =>
    obtain ⟨k, hk, rfl, hown, hbq⟩ := hrel
    have HOQ := Lib.hid hown
    have HBQ := Lib.hid hbq
    have HHAS := Lib.hid (has_nat a5 c5 L k wr (HI5.out.below hbq) (by omega))
    clear hown hbq
    by_cases hk8 : k < 8
    ·have hki : (k : Int) < 8 := by omega
     have hol := outTo_len L k
     rcases hc : L.contains k with _ | _
     ·rw [hc] at HHAS
      go_wp2_with (go_at_call 83; (with_reducible refine HHAS.out.mono ?_); rintro e w3 ⟨rfl, hb3⟩; have HB3 := Lib.hid hb3; clear hb3)
      go_roundw
      case rel =>
       refine ⟨k + 1, by omega, by go_num, ?_, HBQ.out.trans (HB3.out.mono HBQ.out.size)⟩
       rw [outTo_succ, hc]
       simpa using ownsRow_keep HOQ.out (K := fun _ => True) (Keep.of_below' HB3.out) (fun _ _ => trivial)
      case measure => simp [intOf]; omega
     ·rw [hc] at HHAS
      go_upto_region 17 with (go_at_call 83; (with_reducible refine HHAS.out.mono ?_); rintro e w3 ⟨rfl, hb3⟩; have HB3 := Lib.hid hb3; clear hb3)
      obtain ⟨v7, w7, hrun, hown, hb7⟩ := app_one (E := 3) (TT := 27) Tryz.underlying27 info_int rfl (by omega) (ownsRow_keep HOQ.out (K := fun _ => True) (Keep.of_below' HB3.out) (fun _ _ => trivial)) (by omega) (Nat.le_trans HBQ.out.size HB3.out.size) (.int .i64 k) rfl
      have HRN := Lib.hid hrun
      have HOW := Lib.hid hown
      have HK7 := Lib.hid hb7
      clear hrun hown hb7
      go_wp2_with (at_builtin; refine wpList_app rfl _ _ _ rfl rfl rfl HRN.out ?_)
      go_roundw
      case rel =>
       refine ⟨k + 1, by omega, by go_num, ?_, (HBQ.out.trans (HB3.out.mono HBQ.out.size)).trans HK7.out⟩
       rw [outTo_succ, hc]
       simp only [if_true]
       rw [natInts_snoc, List.map_append, List.length_append, List.length_singleton]
       exact HOW.out
      case measure => simp [intOf]; omega
    ·have hke : k = 8 := by omega
     subst hke
     go_wp2_with fail
     go_ret
     have h := HOQ.out
     rw [HOUT.out] at h
     exact ⟨_, rfl, ownsRow_less h HBW.out.size, HBW.out.trans (HBQ.out.mono HBW.out.size)⟩
end Go.Proofs.YtpjcnkajimgagaaGreat
namespace Go.Proofs.YtpjcnkajimgagaaGreat
open Go.RowKit
attribute [local go_sem] Oper.semAt_some

theorem any_upto {α : Type} {l : List α} {p : α → Bool} (h : ∀ (k : Nat) x, l[k]? = some x → p x = false) : l.any p = false := by
 rw [List.any_eq_false]
 intro x hx
 obtain ⟨k, hk⟩ := List.mem_iff_getElem?.1 hx
 simp [h k x hk]
theorem any_here {α : Type} {l : List α} {p : α → Bool} {k : Nat} {x : α} (hx : l[k]? = some x) (hp : p x = true) : l.any p = true := by
 rw [List.any_eq_true]; exact ⟨x, List.mem_of_getElem? hx, hp⟩
theorem below_next {α : Type} {l : List α} {P : α → Prop} {k : Nat} {x : α} (h : ∀ (j : Nat) y, j < k → l[j]? = some y → P y) (hx : l[k]? = some x) (hp : P x) : ∀ (j : Nat) y, j < k + 1 → l[j]? = some y → P y := fun j y hj hy => by
 rcases Nat.lt_or_ge j k with h1 | h1
 ·exact h j y h1 hy
 ·have : j = k := by omega
  subst this
  rw [hx] at hy; cases hy; exact hp
theorem below_end {α : Type} {l : List α} {P : α → Prop} {k : Nat} (h : ∀ (j : Nat) y, j < k → l[j]? = some y → P y) (hk : ¬ k < l.length) : ∀ (j : Nat) y, l[j]? = some y → P y := fun j y hy => h j y (by have := (List.getElem?_eq_some_iff.1 hy).1; omega) hy
theorem nat_cell {w : World} {a : Option Addr} {L : List Nat} (h : Ints w a (natInts L)) {k x : Nat} (hx : L[k]? = some x) : ∃ b o, a = some ⟨b, o, none⟩ ∧ w.cell? ⟨b, o + k, none⟩ = some (.int .i64 (x : Int)) := by
 obtain ⟨b, o, ha, hc⟩ := h k (.int .i64 (x : Int)) (by simp [natInts, hx])
 exact ⟨b, o, ha, hc⟩
set_option maxRecDepth 100000 in
set_option maxHeartbeats 2000000 in
theorem partedR_any (d : Dec) (hd : ∀ a b, d a b ≤ 3) (one two : List Nat) (h1 : ∀ x ∈ one, x < 8) (h2 : ∀ x ∈ two, x < 8) (l1 : one.length ≤ 1000000) (l2 : two.length ≤ 1000000) (a1 a2 : Option Addr) (c1 c2 : Nat) (w : World) (i1 : Ints w a1 (natInts one)) (i2 : Ints w a2 (natInts two)) :
  Calls Tryz.prog 150 #[.agg (dciCells d), .slice a1 one.length c1, .slice a2 two.length c2] w fun e w' => e = .returned (.bool (partedR d one two)) ∧ Below w.heap.size w w' := by
 obtain ⟨w1, hw1⟩ : ∃ w1, w.alloc (.cells (dciCells d) 115) = w1 := ⟨_, rfl⟩
 have hB1 : Below w.heap.size w w1 := by rw [← hw1]; go_grown
 have b0 : Box w1 w.heap.size (dciCells d) 115 := by rw [← hw1]; exact Box.new _ _ _
 have HW := Lib.hid hw1
 have HD := Lib.hid hd
 have H1 := Lib.hid h1
 have H2 := Lib.hid h2
 have I1 := Lib.hid (i1.below hB1)
 have I2 := Lib.hid (i2.below hB1)
 have HX := Lib.hid b0
 have HB := Lib.hid hB1
 clear hd hw1 h1 h2 i1 i2 b0 hB1
 go_enter Tryz.func150, Tryz.ntmps150
 go_upto_region 1 with fail
 simp only [HW.out]
 clear HW
 go_wp2_with fail
 go_loopw [7] (fun iv wr => ∃ i : Nat, i ≤ one.length ∧ iv = .int .i64 i ∧ Hid (∀ (j : Nat) p, j < i → one[j]? = some p → (two.any fun q => decide (d p q &&& 2 ≠ 0)) = false) ∧ Below w1.heap.size w1 wr) (fun iv _ => one.length - (intOf iv).toNat)
 case atStart => exact ⟨0, Nat.zero_le _, rfl, Lib.hid (fun j _ hj => absurd hj (Nat.not_lt_zero j)), Below.refl _ _⟩
 case round =>
  obtain ⟨i, hi, rfl, HA, hbw⟩ := hrel
  have HBW := Lib.hid hbw
  clear hbw
  by_cases hil : i < one.length
  ·have hili : (i : Int) < (one.length : Int) := by omega
   obtain ⟨p, hp⟩ := get_of_lt one hil
   have HP := Lib.hid hp
   clear hp
   go_wp2_with fail
   go_loopw [8] (fun kv wx => ∃ k : Nat, k ≤ two.length ∧ kv = .int .i64 k ∧ Hid (∀ (j : Nat) q, j < k → two[j]? = some q → decide (d p q &&& 2 ≠ 0) = false) ∧ Below w1.heap.size w1 wx) (fun kv _ => two.length - (intOf kv).toNat)
   case atStart => exact ⟨0, Nat.zero_le _, rfl, Lib.hid (fun j _ hj => absurd hj (Nat.not_lt_zero j)), HBW.out⟩
   case round =>
    clear HBW
    obtain ⟨k, hk, rfl, HK, hbw⟩ := hrel
    have HBW := Lib.hid hbw
    clear hbw
    by_cases hkl : k < two.length
    ·have hkli : (k : Int) < (two.length : Int) := by omega
     obtain ⟨q, hq⟩ := get_of_lt two hkl
     obtain ⟨b1, o1, ha1, e1⟩ := nat_cell (I1.out.below HBW.out) HP.out
     obtain ⟨b2, o2, ha2, e2⟩ := nat_cell (I2.out.below HBW.out) hq
     subst ha1
     subst ha2
     have hp8 := H1.out p (List.mem_of_getElem? HP.out)
     have hq8 := H2.out q (List.mem_of_getElem? hq)
     have hpi : (p : Int) < 8 := by omega
     have hqi : (q : Int) < 8 := by omega
     have e3 : wr.cell? ⟨w.heap.size, p * 8 + q, none⟩ = some (.int .i64 (d p q : Nat)) := by rw [(HX.out.below' HBW.out).cell, dciCells_at _ hp8 hq8]
     have hbit : (bits .and .i64 (d p q : Int) 2 == 2) = decide (d p q &&& 2 ≠ 0) := bit_is (HD.out p q) (.inr rfl)
     have HC := Lib.hid (And.intro e1 (And.intro e2 e3))
     have HQ := Lib.hid hq
     clear e1 e2 e3 hq
     rcases hc : decide (d p q &&& 2 ≠ 0) with _ | _
     ·rw [hc] at hbit
      have HCC := Lib.hid hc
      clear hc
      go_wp2_with fail
      refine wp_region_heldB 13 [] (by kernel_rfl) (by kernel_rfl) (by kernel_rfl) (by simp) ?_
      intro S hS
      have k0 := fun W (h : S W) => (⟨below_cell (hS W h) HC.out.1, below_cell (hS W h) HC.out.2.1, below_cell (hS W h) HC.out.2.2⟩ : _ ∧ _ ∧ _)
      have K0 := Lib.hid k0
      have HSS := Lib.hid hS
      clear k0 hS
      simp only [List.take_succ_cons, List.take_zero, List.drop_succ_cons, List.drop_zero]
      repeat (first
       | (refine held_not rfl (by rfl) ?_; try (dsimp only); try simp only [Act.put, List.setIfInBounds_toArray, List.set_cons_zero, List.set_cons_succ])
       | (refine held_val (v := ?_) rfl (by rfl) ?_ ?_; rotate_left; (· (intro W hW; obtain ⟨q0, q1, q2⟩ := K0.out W hW; go_simp; try with_reducible rfl)); try (dsimp only); try simp only [Act.put, List.setIfInBounds_toArray, List.set_cons_zero, List.set_cons_succ])
       | (refine held_skip rfl (by rfl) ?_ ?_; (· (intro W hW; obtain ⟨q0, q1, q2⟩ := K0.out W hW; go_simp; try with_reducible rfl)); try (dsimp only); try simp only [Act.put, List.setIfInBounds_toArray, List.set_cons_zero, List.set_cons_succ]))
      refine held_nil ?_
      intro τ hτ wn hW hO
      obtain rfl := laid0 hτ
      have HBN := Lib.hid (HBW.out.trans ((HSS.out wn hW).mono HBW.out.size))
      clear hτ hO hW K0 HSS
      simp only [overs, List.foldl_nil]
      go_wp2_with fail
      go_roundw
      case rel => exact ⟨k + 1, by omega, by go_num, Lib.hid (below_next HK.out HQ.out HCC.out), HBN.out⟩
      case measure => simp [intOf]; omega
     ·rw [hc] at hbit
      have HCC := Lib.hid hc
      clear hc
      go_wp2_with fail
      refine wp_region_heldB 13 [] (by kernel_rfl) (by kernel_rfl) (by kernel_rfl) (by simp) ?_
      intro S hS
      have k0 := fun W (h : S W) => (⟨below_cell (hS W h) HC.out.1, below_cell (hS W h) HC.out.2.1, below_cell (hS W h) HC.out.2.2⟩ : _ ∧ _ ∧ _)
      have K0 := Lib.hid k0
      have HSS := Lib.hid hS
      clear k0 hS
      simp only [List.take_succ_cons, List.take_zero, List.drop_succ_cons, List.drop_zero]
      repeat (first
       | (refine held_not rfl (by rfl) ?_; try (dsimp only); try simp only [Act.put, List.setIfInBounds_toArray, List.set_cons_zero, List.set_cons_succ])
       | (refine held_val (v := ?_) rfl (by rfl) ?_ ?_; rotate_left; (· (intro W hW; obtain ⟨q0, q1, q2⟩ := K0.out W hW; go_simp; try with_reducible rfl)); try (dsimp only); try simp only [Act.put, List.setIfInBounds_toArray, List.set_cons_zero, List.set_cons_succ])
       | (refine held_skip rfl (by rfl) ?_ ?_; (· (intro W hW; obtain ⟨q0, q1, q2⟩ := K0.out W hW; go_simp; try with_reducible rfl)); try (dsimp only); try simp only [Act.put, List.setIfInBounds_toArray, List.set_cons_zero, List.set_cons_succ]))
      refine held_nil ?_
      intro τ hτ wn hW hO
      obtain rfl := laid0 hτ
      have HBN := Lib.hid (HBW.out.trans ((HSS.out wn hW).mono HBW.out.size))
      clear hτ hO hW K0 HSS
      simp only [overs, List.foldl_nil]
      go_wp2_with fail
      go_ret
      exact ⟨ret_bool (any_here HP.out (any_here HQ.out HCC.out)).symm, HB.out.trans (HBN.out.mono HB.out.size)⟩
    ·have hno : (two.any fun q => decide (d p q &&& 2 ≠ 0)) = false := any_upto (below_end HK.out hkl)
     have HNO := Lib.hid hno
     clear hno
     go_wp2_with fail
     go_roundw
     case rel => exact ⟨i + 1, by omega, by go_num, Lib.hid (below_next HA.out HP.out HNO.out), HBW.out⟩
     case measure => simp [intOf]; omega
  ·have hno : partedR d one two = false := any_upto (below_end HA.out hil)
   have HNO := Lib.hid hno
   clear hno
   go_wp2_with fail
   go_ret
   exact ⟨ret_bool HNO.out.symm, HB.out.trans (HBW.out.mono HB.out.size)⟩

theorem list_at {α : Type} {l : List α} {k : Nat} {x : α} (h : l[k]? = some x) : l = l.take k ++ x :: l.drop (k + 1) := by
 obtain ⟨hk, rfl⟩ := List.getElem?_eq_some_iff.1 h
 rw [← List.drop_eq_getElem_cons hk, List.take_append_drop]
theorem take_all {α : Type} {l : List α} {k : Nat} {P : α → Prop} (h : ∀ (j : Nat) y, j < k → l[j]? = some y → P y) : ∀ y ∈ l.take k, P y := fun y hy => by
 obtain ⟨j, hj⟩ := List.mem_iff_getElem?.1 hy
 have h1 := (List.getElem?_eq_some_iff.1 hj).1
 rw [List.length_take] at h1
 rw [List.getElem?_take_of_lt (by omega)] at hj
 exact h j y (by omega) hj
theorem clashR_none {c : Cs} {one two : List Nat} (h : ∀ p ∈ one, ∀ q ∈ two, clashB c p q = false) : clashR c one two = none := by
 unfold clashR
 rw [List.find?_eq_none]
 rintro ⟨p, q⟩ hz
 obtain ⟨p', hp, hq⟩ := List.mem_flatMap.1 hz
 obtain ⟨q', hq', e⟩ := List.mem_map.1 hq
 cases e
 simp [h p hp q hq']
theorem clashR_some {c : Cs} {one two : List Nat} {i k p q : Nat} (h1 : ∀ (j : Nat) y, j < i → one[j]? = some y → ∀ z ∈ two, clashB c y z = false) (hp : one[i]? = some p) (h2 : ∀ (j : Nat) z, j < k → two[j]? = some z → clashB c p z = false) (hq : two[k]? = some q) (hc : clashB c p q = true) : clashR c one two = some (p, q) := by
 have e1 : clashR c (one.take i) two = none := clashR_none (take_all h1)
 unfold clashR at e1 ⊢
 have e2 := list_at hp
 have e3 := list_at hq
 rw [e2, List.flatMap_append, List.find?_append, e1, Option.none_or, List.flatMap_cons, List.find?_append]
 have e4 : (two.map fun q => (p, q)).find? (fun z => clashB c z.1 z.2) = some (p, q) := by
  rw [e3, List.map_append, List.find?_append]
  have e5 : ((two.take k).map fun q => (p, q)).find? (fun z => clashB c z.1 z.2) = none := by
   rw [List.find?_eq_none]
   intro z hz
   obtain ⟨y, hy, rfl⟩ := List.mem_map.1 hz
   simp [take_all h2 y hy]
  rw [e5, Option.none_or, List.map_cons, List.find?_cons_of_pos (by simpa using hc)]
 rw [e4]
 rfl
/-- what clashing hands back -/
def clashOut (o : Option (Nat × Nat)) : Value := .tuple #[.agg #[.int .i64 ((o.getD (0, 0)).1 : Nat), .int .i64 ((o.getD (0, 0)).2 : Nat)], .bool o.isSome]
theorem pair_size : (Tryz.prog.info? 71).map (·.size) = some 2 := by kernel_rfl
set_option maxRecDepth 100000 in
set_option maxHeartbeats 4000000 in
theorem clashingR_any (c : Cs) (hn : c.parts.length ≤ 10) (pa : Option Addr) (pc : Nat) (one two : List Nat) (h1 : ∀ x ∈ one, x < c.parts.length) (h2 : ∀ x ∈ two, x < c.parts.length) (l1 : one.length ≤ 1000000) (l2 : two.length ≤ 1000000) (a1 a2 : Option Addr) (c1 c2 : Nat) (w : World) (hpa : PartsAt w pa c.parts) (i1 : Ints w a1 (natInts one)) (i2 : Ints w a2 (natInts two)) :
  Calls Tryz.prog 151 #[.agg #[.string c.ware, .int .i64 c.limit, .int .i64 c.by_, .slice pa c.parts.length pc], .slice a1 one.length c1, .slice a2 two.length c2] w fun e w' => e = .returned (clashOut (clashR c one two)) ∧ Below w.heap.size w w' := by
 obtain ⟨w1, hw1⟩ : ∃ w1, (w.alloc (.cells #[.string c.ware, .int .i64 c.limit, .int .i64 c.by_, .slice pa c.parts.length pc] 24)).alloc (.cells #[.int .i64 0, .int .i64 0] 71) = w1 := ⟨_, rfl⟩
 have hB1 : Below w.heap.size w w1 := by rw [← hw1]; go_grown
 have b0 : Box w1 w.heap.size (csCells c pa pc) 24 := by rw [← hw1]; exact (Box.new _ _ _).alloc _
 have b1 : Box w1 (w.heap.size + 1) #[.int .i64 0, .int .i64 0] 71 := by rw [← hw1]; exact Box.new' (by simp)
 have HW := Lib.hid hw1
 have H1 := Lib.hid h1
 have H2 := Lib.hid h2
 have HPA := Lib.hid (hpa.below hB1)
 have I1 := Lib.hid (i1.below hB1)
 have I2 := Lib.hid (i2.below hB1)
 have HX := Lib.hid b0
 have HY := Lib.hid b1
 have HB := Lib.hid hB1
 clear hw1 h1 h2 i1 i2 b0 b1 hB1 hpa
 go_enter Tryz.func151, Tryz.ntmps151
 go_upto_region 1 with fail
 simp only [HW.out]
 clear HW
 go_wp2_with fail
 go_loopw [8] (fun iv wr => ∃ i : Nat, i ≤ one.length ∧ iv = .int .i64 i ∧ Hid (∀ (j : Nat) p, j < i → one[j]? = some p → ∀ q ∈ two, clashB c p q = false) ∧ Below w1.heap.size w1 wr) (fun iv _ => one.length - (intOf iv).toNat)
 case atStart => exact ⟨0, Nat.zero_le _, rfl, Lib.hid (fun j _ hj => absurd hj (Nat.not_lt_zero j)), Below.refl _ _⟩
 case round =>
  obtain ⟨i, hi, rfl, HA, hbw⟩ := hrel
  have HBW := Lib.hid hbw
  clear hbw
  by_cases hil : i < one.length
  ·have hili : (i : Int) < (one.length : Int) := by omega
   obtain ⟨p, hp⟩ := get_of_lt one hil
   have HP := Lib.hid hp
   clear hp
   go_wp2_with fail
   go_loopw [9] (fun kv wx => ∃ k : Nat, k ≤ two.length ∧ kv = .int .i64 k ∧ Hid (∀ (j : Nat) q, j < k → two[j]? = some q → clashB c p q = false) ∧ Below w1.heap.size w1 wx) (fun kv _ => two.length - (intOf kv).toNat)
   case atStart => exact ⟨0, Nat.zero_le _, rfl, Lib.hid (fun j _ hj => absurd hj (Nat.not_lt_zero j)), HBW.out⟩
   case round =>
    clear HBW
    obtain ⟨k, hk, rfl, HK, hbw⟩ := hrel
    have HBW := Lib.hid hbw
    clear hbw
    by_cases hkl : k < two.length
    ·have hkli : (k : Int) < (two.length : Int) := by omega
     obtain ⟨q, hq⟩ := get_of_lt two hkl
     obtain ⟨b1, o1, ha1, e1⟩ := nat_cell (I1.out.below HBW.out) HP.out
     obtain ⟨b2, o2, ha2, e2⟩ := nat_cell (I2.out.below HBW.out) hq
     subst ha1
     subst ha2
     have hp8 := H1.out p (List.mem_of_getElem? HP.out)
     have hq8 := H2.out q (List.mem_of_getElem? hq)
     have HC := Lib.hid (And.intro e1 e2)
     have HQ := Lib.hid hq
     have hcl := fun W (h : Below wr.heap.size wr W) => clash_ref c hn p q pa pc W (HPA.out.below (HBW.out.trans (h.mono HBW.out.size))) hp8 hq8
     clear e1 e2 hq
     rcases hc : clashB c p q with _ | _
     ·rw [hc] at hcl
      have HCL := Lib.hid hcl
      have HCC := Lib.hid hc
      clear hc hcl
      go_wp2_with fail
      obtain ⟨cb, hcb⟩ : ∃ cb : Bool, false = cb := ⟨_, rfl⟩
      rw [hcb] at HCL
      have HCB := Lib.hid hcb
      clear hcb
      refine wp_region_heldB 10 [] (by kernel_rfl) (by kernel_rfl) (by kernel_rfl) (by simp) ?_
      intro S hS
      have k0 := fun W (h : S W) => (⟨below_cell (hS W h) HC.out.1, below_cell (hS W h) HC.out.2, fun i => by rw [(HX.out.below' (HBW.out.trans ((hS W h).mono HBW.out.size))).cell]; rfl⟩ : _ ∧ _ ∧ (∀ i, W.cell? ⟨w.heap.size, i, none⟩ = (#[.string c.ware, .int .i64 c.limit, .int .i64 c.by_, .slice pa c.parts.length pc] : Array Value)[i]?))
      have K0 := Lib.hid k0
      have HSS := Lib.hid hS
      clear k0 hS
      simp only [List.take_succ_cons, List.take_zero, List.drop_succ_cons, List.drop_zero]
      repeat (first
       | (refine held_not rfl (by rfl) ?_; try (dsimp only); try simp only [Act.put, List.setIfInBounds_toArray, List.set_cons_zero, List.set_cons_succ])
       | (refine held_val (v := ?_) rfl (by rfl) ?_ ?_; rotate_left; (· (intro W hW; obtain ⟨q0, q1, q2⟩ := K0.out W hW; go_simp; try with_reducible rfl)); try (dsimp only); try simp only [Act.put, List.setIfInBounds_toArray, List.set_cons_zero, List.set_cons_succ])
       | (refine held_skip rfl (by rfl) ?_ ?_; (· (intro W hW; obtain ⟨q0, q1, q2⟩ := K0.out W hW; go_simp; try with_reducible rfl)); try (dsimp only); try simp only [Act.put, List.setIfInBounds_toArray, List.set_cons_zero, List.set_cons_succ])
       | (refine held_call (v := .bool cb) (f := 130) (args := #[.agg #[.string c.ware, .int .i64 c.limit, .int .i64 c.by_, .slice pa c.parts.length pc], .int .i64 p, .int .i64 q]) rfl (by rfl) ?_ ?_ ?_; (· (intro W hW; go_simp; done)); (· exact (fun W hW => HCL.out W (HSS.out W hW))); try (dsimp only); try simp only [Act.put, List.setIfInBounds_toArray, List.set_cons_zero, List.set_cons_succ]))
      refine held_nil ?_
      intro τ hτ wn hW hO
      obtain rfl := laid0 hτ
      have hbn := HSS.out wn hW
      have HBN := Lib.hid (HBW.out.trans (hbn.mono HBW.out.size))
      have HCN := Lib.hid (And.intro (below_cell hbn HC.out.1) (below_cell hbn HC.out.2))
      clear hτ hO hW K0 HSS hbn
      simp only [overs, List.foldl_nil]
      have hcb := HCB.out
      subst hcb
      clear HCB
      go_wp2_with fail
      go_roundw
      case rel => exact ⟨k + 1, by omega, by go_num, Lib.hid (below_next HK.out HQ.out HCC.out), HBN.out⟩
      case measure => simp [intOf]; omega
     ·rw [hc] at hcl
      have HCL := Lib.hid hcl
      have HOUT := Lib.hid (clashR_some HA.out HP.out HK.out HQ.out hc)
      clear hc hcl
      go_wp2_with fail
      obtain ⟨cb, hcb⟩ : ∃ cb : Bool, true = cb := ⟨_, rfl⟩
      rw [hcb] at HCL
      have HCB := Lib.hid hcb
      clear hcb
      refine wp_region_heldB 10 [] (by kernel_rfl) (by kernel_rfl) (by kernel_rfl) (by simp) ?_
      intro S hS
      have k0 := fun W (h : S W) => (⟨below_cell (hS W h) HC.out.1, below_cell (hS W h) HC.out.2, fun i => by rw [(HX.out.below' (HBW.out.trans ((hS W h).mono HBW.out.size))).cell]; rfl⟩ : _ ∧ _ ∧ (∀ i, W.cell? ⟨w.heap.size, i, none⟩ = (#[.string c.ware, .int .i64 c.limit, .int .i64 c.by_, .slice pa c.parts.length pc] : Array Value)[i]?))
      have K0 := Lib.hid k0
      have HSS := Lib.hid hS
      clear k0 hS
      simp only [List.take_succ_cons, List.take_zero, List.drop_succ_cons, List.drop_zero]
      repeat (first
       | (refine held_not rfl (by rfl) ?_; try (dsimp only); try simp only [Act.put, List.setIfInBounds_toArray, List.set_cons_zero, List.set_cons_succ])
       | (refine held_val (v := ?_) rfl (by rfl) ?_ ?_; rotate_left; (· (intro W hW; obtain ⟨q0, q1, q2⟩ := K0.out W hW; go_simp; try with_reducible rfl)); try (dsimp only); try simp only [Act.put, List.setIfInBounds_toArray, List.set_cons_zero, List.set_cons_succ])
       | (refine held_skip rfl (by rfl) ?_ ?_; (· (intro W hW; obtain ⟨q0, q1, q2⟩ := K0.out W hW; go_simp; try with_reducible rfl)); try (dsimp only); try simp only [Act.put, List.setIfInBounds_toArray, List.set_cons_zero, List.set_cons_succ])
       | (refine held_call (v := .bool cb) (f := 130) (args := #[.agg #[.string c.ware, .int .i64 c.limit, .int .i64 c.by_, .slice pa c.parts.length pc], .int .i64 p, .int .i64 q]) rfl (by rfl) ?_ ?_ ?_; (· (intro W hW; go_simp; done)); (· exact (fun W hW => HCL.out W (HSS.out W hW))); try (dsimp only); try simp only [Act.put, List.setIfInBounds_toArray, List.set_cons_zero, List.set_cons_succ]))
      refine held_nil ?_
      intro τ hτ wn hW hO
      obtain rfl := laid0 hτ
      have hbn := HSS.out wn hW
      have HBN := Lib.hid (HBW.out.trans (hbn.mono HBW.out.size))
      have HCN := Lib.hid (And.intro (below_cell hbn HC.out.1) (below_cell hbn HC.out.2))
      clear hτ hO hW K0 HSS hbn
      simp only [overs, List.foldl_nil]
      have hcb := HCB.out
      subst hcb
      clear HCB
      go_wp2_with fail
      refine wp_region_heldB 9 [] (by kernel_rfl) (by kernel_rfl) (by kernel_rfl) (by simp) ?_
      intro S hS
      have k0 := fun W (h : S W) => (⟨below_cell (hS W h) HCN.out.1, below_cell (hS W h) HCN.out.2⟩ : _ ∧ _)
      have K0 := Lib.hid k0
      have HSS := Lib.hid hS
      clear k0 hS
      simp only [List.take_succ_cons, List.take_zero, List.drop_succ_cons, List.drop_zero]
      repeat (first
       | (refine held_not rfl (by rfl) ?_; try (dsimp only); try simp only [Act.put, List.setIfInBounds_toArray, List.set_cons_zero, List.set_cons_succ])
       | (refine held_val (v := ?_) rfl (by rfl) ?_ ?_; rotate_left; (· (intro W hW; obtain ⟨q0, q1⟩ := K0.out W hW; go_simp; try with_reducible rfl)); try (dsimp only); try simp only [Act.put, List.setIfInBounds_toArray, List.set_cons_zero, List.set_cons_succ])
       | (refine held_skip rfl (by rfl) ?_ ?_; (· (intro W hW; obtain ⟨q0, q1⟩ := K0.out W hW; go_simp; try with_reducible rfl)); try (dsimp only); try simp only [Act.put, List.setIfInBounds_toArray, List.set_cons_zero, List.set_cons_succ]))
      refine held_nil ?_
      intro τ hτ wm hW hO
      obtain rfl := laid0 hτ
      have hbm := HBN.out.trans ((HSS.out wm hW).mono HBN.out.size)
      have g1 := HY.out.below' hbm
      obtain ⟨f1, f2⟩ := g1.rules
      have G1 := Lib.hid g1
      have HBM := Lib.hid (HB.out.trans (hbm.mono HB.out.size))
      clear hτ hO hW K0 HSS hbm g1
      simp only [overs, List.foldl_nil]
      go_wp2_with fail
      refine bodyPost_ret (results_cell_tmp rfl rfl (run_loadVar_row _ _ 71 71 _ (0, 0) _ ((G1.out.set_ 0 _).set_ 1 _) Tryz.underlying71 rfl pair_size)) rfl ?_
      exact ⟨by rw [HOUT.out]; rfl, (HBM.out.setCell (by simp) _).setCell (by simp) _⟩
    ·have hno : ∀ q ∈ two, clashB c p q = false := fun q hq => by
      obtain ⟨j, hj⟩ := List.mem_iff_getElem?.1 hq
      exact below_end HK.out hkl j q hj
     have HNO := Lib.hid hno
     clear hno
     go_wp2_with fail
     go_roundw
     case rel => exact ⟨i + 1, by omega, by go_num, Lib.hid (below_next HA.out HP.out HNO.out), HBW.out⟩
     case measure => simp [intOf]; omega
  ·have hno : clashR c one two = none := clashR_none fun p hp => by
    obtain ⟨j, hj⟩ := List.mem_iff_getElem?.1 hp
    exact below_end HA.out hil j p hj
   have HNO := Lib.hid hno
   have g1 := HY.out.below' HBW.out
   obtain ⟨f1, f2⟩ := g1.rules
   have G1 := Lib.hid g1
   clear hno g1
   go_wp2_with fail
   refine bodyPost_ret (results_cell_tmp rfl rfl (run_loadVar_row _ _ 71 71 _ (0, 0) _ ((G1.out.set_ 0 _).set_ 1 _) Tryz.underlying71 rfl pair_size)) rfl ?_
   exact ⟨by rw [HNO.out]; rfl, ((HB.out.trans (HBW.out.mono HB.out.size)).setCell (by simp) _).setCell (by simp) _⟩

set_option maxRecDepth 100000 in
set_option maxHeartbeats 2000000 in
theorem idsR_any (c : Cs) (hn : c.parts.length ≤ 10) (x y : Nat) (pa : Option Addr) (pc : Nat) (w : World) (hpa : PartsAt w pa c.parts) (hx : x < c.parts.length) (hy : y < c.parts.length) :
  Calls Tryz.prog 152 #[.agg #[.string c.ware, .int .i64 c.limit, .int .i64 c.by_, .slice pa c.parts.length pc], .int .i64 x, .int .i64 y] w fun e w' => ∃ g, e = .returned (.slice (some ⟨g, 0, none⟩) 2 2) ∧ Ints w' (some ⟨g, 0, none⟩) (causeB c x y) ∧ (causeB c x y).length = 2 ∧ Below w.heap.size w w' := by
 obtain ⟨b, o, p, rfl, hp, hP⟩ := hpa.at_ hx
 obtain ⟨b', o', q, hb', hq, hQ⟩ := hpa.at_ hy
 cases hb'
 have HC := Lib.hid (causeB_eq hp hq)
 obtain ⟨w1, hw1⟩ : ∃ w1, w.alloc (.cells #[.string c.ware, .int .i64 c.limit, .int .i64 c.by_, .slice (some ⟨b, o, none⟩) c.parts.length pc] 24) = w1 := ⟨_, rfl⟩
 have hB1 : Below w.heap.size w w1 := by rw [← hw1]; go_grown
 have b1 : Box w1 w.heap.size (csCells c (some ⟨b, o, none⟩) pc) 24 := by rw [← hw1]; exact Box.new _ _ _
 have e1 : w1.cell? ⟨w.heap.size, 3, none⟩ = some (.slice (some ⟨b, o, none⟩) c.parts.length pc) := b1.cell 3
 obtain ⟨sa, sc, ra, rc, p0, p1, p2, p3, p4, p5, p6, p7, _⟩ := (hP.below hB1).open
 have hxi : (x : Int) < (c.parts.length : Int) := by omega
 have hyi : (y : Int) < (c.parts.length : Int) := by omega
 have HW := Lib.hid hw1
 have HB := Lib.hid hB1
 have HQ := Lib.hid (hQ.below hB1)
 have B1 := Lib.hid b1
 clear hw1 hpa hp hq hP hQ b1
 go_enter Tryz.func152, Tryz.ntmps152
 go_upto_region 1 with fail
 simp only [HW.out]
 go_upto_region 2 with fail
 have hB2 : Below w1.heap.size w1 (w1.alloc (.cells #[.slice sa p.sherds.length sc, .int .i64 p.span.low, .int .i64 p.span.high, .int .i64 p.span.lowBy, .int .i64 p.span.highBy, .bool p.foot, .int .i64 p.footBy, .slice ra p.rests.length rc] 52)) := (Below.refl _ _).alloc (Nat.le_refl _) _
 have g1 : Box (w1.alloc (.cells #[.slice sa p.sherds.length sc, .int .i64 p.span.low, .int .i64 p.span.high, .int .i64 p.span.lowBy, .int .i64 p.span.highBy, .bool p.foot, .int .i64 p.footBy, .slice ra p.rests.length rc] 52)) w1.heap.size #[.slice sa p.sherds.length sc, .int .i64 p.span.low, .int .i64 p.span.high, .int .i64 p.span.lowBy, .int .i64 p.span.highBy, .bool p.foot, .int .i64 p.footBy, .slice ra p.rests.length rc] 52 := Box.new _ _ _
 have e2 : (w1.alloc (.cells #[.slice sa p.sherds.length sc, .int .i64 p.span.low, .int .i64 p.span.high, .int .i64 p.span.lowBy, .int .i64 p.span.highBy, .bool p.foot, .int .i64 p.footBy, .slice ra p.rests.length rc] 52)).cell? ⟨w.heap.size, 3, none⟩ = some (.slice (some ⟨b, o, none⟩) c.parts.length pc) := (B1.out.below' hB2).cell 3
 obtain ⟨sa', sc', ra', rc', d0, d1, d2, d3, d4, d5, d6, d7, _⟩ := (HQ.out.below hB2).open
 generalize w1.alloc (.cells #[.slice sa p.sherds.length sc, .int .i64 p.span.low, .int .i64 p.span.high, .int .i64 p.span.lowBy, .int .i64 p.span.highBy, .bool p.foot, .int .i64 p.footBy, .slice ra p.rests.length rc] 52) = w2 at *
 clear p0 p1 p2 p3 p4 p5 p6 p7 e1
 have HB2 := Lib.hid hB2
 have G1 := Lib.hid g1
 clear g1 hB2
 go_upto_region 3 with fail
 have hB3 : Below w2.heap.size w2 (w2.alloc (.cells #[.slice sa' q.sherds.length sc', .int .i64 q.span.low, .int .i64 q.span.high, .int .i64 q.span.lowBy, .int .i64 q.span.highBy, .bool q.foot, .int .i64 q.footBy, .slice ra' q.rests.length rc'] 52)) := (Below.refl _ _).alloc (Nat.le_refl _) _
 have k1 := (G1.out.below' hB3).cell
 have k2 := (Box.new w2 #[.slice sa' q.sherds.length sc', .int .i64 q.span.low, .int .i64 q.span.high, .int .i64 q.span.lowBy, .int .i64 q.span.highBy, .bool q.foot, .int .i64 q.footBy, .slice ra' q.rests.length rc'] 52).cell
 have hB : Below w.heap.size w (w2.alloc (.cells #[.slice sa' q.sherds.length sc', .int .i64 q.span.low, .int .i64 q.span.high, .int .i64 q.span.lowBy, .int .i64 q.span.highBy, .bool q.foot, .int .i64 q.footBy, .slice ra' q.rests.length rc'] 52)) := HB.out.trans ((HB2.out.trans (hB3.mono HB2.out.size)).mono HB.out.size)
 have HBB := Lib.hid hB
 clear hB3 hB d0 d1 d2 d3 d4 d5 d6 d7 e2
 generalize w2.alloc (.cells #[.slice sa' q.sherds.length sc', .int .i64 q.span.low, .int .i64 q.span.high, .int .i64 q.span.lowBy, .int .i64 q.span.highBy, .bool q.foot, .int .i64 q.footBy, .slice ra' q.rests.length rc'] 52) = w3 at *
 rcases hf1 : p.foot with _ | _
 ·rw [hf1] at k1
  by_cases hlt : q.span.low < p.span.low
  ·have HE := Lib.hid (show causeP p q = [p.span.lowBy, q.span.highBy] by simp [causeP, feetB, hf1, hlt])
   clear hf1
   go_wp2_with fail
   go_ret
   exact ⟨_, rfl, by rw [HC.out, HE.out]; exact pair_ints _ _ _ _, by rw [HC.out, HE.out]; rfl, HBB.out.alloc HBB.out.size _⟩
  ·have HE := Lib.hid (show causeP p q = [q.span.lowBy, p.span.highBy] by simp [causeP, feetB, hf1, hlt])
   clear hf1
   go_wp2_with fail
   go_ret
   exact ⟨_, rfl, by rw [HC.out, HE.out]; exact pair_ints _ _ _ _, by rw [HC.out, HE.out]; rfl, HBB.out.alloc HBB.out.size _⟩
 ·rw [hf1] at k1
  rcases hf2 : q.foot with _ | _
  ·rw [hf2] at k2
   by_cases hlt : q.span.low < p.span.low
   ·have HE := Lib.hid (show causeP p q = [p.span.lowBy, q.span.highBy] by simp [causeP, feetB, hf1, hf2, hlt])
    clear hf1 hf2
    go_wp2_with fail
    go_ret
    exact ⟨_, rfl, by rw [HC.out, HE.out]; exact pair_ints _ _ _ _, by rw [HC.out, HE.out]; rfl, HBB.out.alloc HBB.out.size _⟩
   ·have HE := Lib.hid (show causeP p q = [q.span.lowBy, p.span.highBy] by simp [causeP, feetB, hf1, hf2, hlt])
    clear hf1 hf2
    go_wp2_with fail
    go_ret
    exact ⟨_, rfl, by rw [HC.out, HE.out]; exact pair_ints _ _ _ _, by rw [HC.out, HE.out]; rfl, HBB.out.alloc HBB.out.size _⟩
  ·rw [hf2] at k2
   have HE := Lib.hid (show causeP p q = [p.footBy, q.footBy] by simp [causeP, feetB, hf1, hf2])
   clear hf1 hf2
   go_wp2_with fail
   go_ret
   exact ⟨_, rfl, by rw [HC.out, HE.out]; exact pair_ints _ _ _ _, by rw [HC.out, HE.out]; rfl, HBB.out.alloc HBB.out.size _⟩
end Go.Proofs.YtpjcnkajimgagaaGreat
