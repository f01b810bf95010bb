/- Package profile: the reader's lines: after. No condition. -/
/- Package profile: which function reads a line; one line. No condition. -/
/- Package profile: a line read. No condition. -/
import Derived.Test.YthpjffhccjlnhaaGreatDoorMG15
import Derived.Tactics2
import Derived.Defers
import Derived.Recover
import Derived.Laws.Pointers
import Derived.Maps.OwnSet
import Derived.Maps.OwnOps
set_option linter.unusedSimpArgs false
set_option linter.unusedVariables false
namespace Go.Proofs.YthpjffhccjlnhaaGreatDoor
open Go.RowKit
attribute [local go_sem] Oper.semAt_some

def aftT (t : Typ) (c : Nat) (x : ByteArray) : Typ := { t with after := fun d => if d = c then x else t.after d }
theorem typ_set (t : Typ) (c : Nat) (hc : c < 26) (x : ByteArray) : (typCells t).toList.set (6 + c) (.string x) = (typCells (aftT t c x)).toList := by
 refine List.ext_getElem? fun j => ?_
 rw [List.getElem?_set]
 simp only [Array.getElem?_toList, Array.length_toList, typCells, fnCells_size]
 by_cases hj : j < 32
 ·rw [fnCells_get hj, fnCells_get hj]
  by_cases e : 6 + c = j
  ·subst e; rw [if_pos rfl, if_pos (by omega), show 6 + c = c + 6 by omega]; simp [typF, aftT]
  ·rw [if_neg e]
   rcases j with _ | _ | _ | _ | _ | _ | j <;> simp [typF, aftT]
   intro e; omega
 ·rw [Array.getElem?_eq_none (by rw [fnCells_size]; omega), Array.getElem?_eq_none (by rw [fnCells_size]; omega), if_neg (by omega)]
theorem index_one (b : UInt8) (W : World) : (Instr.index 9 (.string (mkB [b])) (.int .i64 0)).run Tryz.prog W = .ok (.int .u8 b.toNat) W := by
 simp [Instr.index, mkB]
 go_simp
 rfl
set_option maxRecDepth 100000 in
set_option maxHeartbeats 4000000 in
theorem after_good (rb sb base last : Nat) (v : Value) (T : List Typ) (t : Typ) (w0 x : List UInt8) (b : UInt8) (w : World) (hr : RdBox w rb v 3 last) (ho : w.ownsRow base 71 32 v (T.length + 1) (typsV (T ++ [t]))) (hw : WordsAt w sb [w0, [b], x])
  (hb : classesB [b] = true) (hlast : last < b.toNat) (hx : classesB x = true) (hxl : x.length ≤ 1000000) (hl : T.length ≤ 100000) (hrb : rb < base) (hsb : v.ownBlock ≠ some sb) (hne : sb ≠ rb) (hbs : base ≤ w.heap.size) :
  Calls Tryz.prog 159 #[.pointer (some ⟨rb, 0, none⟩), .slice (some ⟨sb, 0, none⟩) 3 3] w fun e w' => e = .returned (.tuple #[]) ∧ RdBox w' rb v 3 b.toNat ∧ w'.ownsRow base 71 32 v (T.length + 1) (typsV (T ++ [aftT t (cl b) (mkB x)])) ∧ Keep (fun k => v.ownBlock ≠ some k ∧ k ≠ rb) w w' := by
 obtain ⟨g, cap, rfl⟩ := Go.Joins.ownsRow_form ho (by omega)
 have hg := (ho.lt g rfl).1
 have hrg : rb ≠ g := by omega
 have hsg : sb ≠ g := fun e => hsb (by rw [e]; rfl)
 obtain ⟨n, hn⟩ : ∃ n, T.length + 1 = n := ⟨_, rfl⟩
 rw [hn] at hr ho ⊢
 have c1 := hr.cell 1
 simp only [dueS] at c1
 have HR := Lib.hid hr
 have HO := Lib.hid ho
 have HW := Lib.hid hw
 have HX := Lib.hid hx
 have HB := Lib.hid hb
 have hlet : letC b = true := (asc_of_set (classes_set hb)).2 b (by simp)
 have hc26 := cl_lt hlet
 have hb97 : 97 ≤ b.toNat ∧ b.toNat ≤ 122 := by simpa [letC] using hlet
 have hcl : b.toNat = 97 + cl b := by unfold cl; omega
 have hwr : IntKind.i64.wrap ((n : Int) - 1) = (T.length : Int) := by rw [IntWalk.i64_in _ (by omega)]; omega
 have hlt : (T.length : Int) < (n : Int) := by omega
 have hlt2 : T.length < n := by omega
 have hge : (0 : Int) ≤ (T.length : Int) := by omega
 have hsz1 : (mkB [b]).size = 1 := rfl
 have hsr : sb ≠ rb := hne
 have hli : (last : Int) < (b.toNat : Int) := by omega
 have hli2 : last < ((mkB [b])[0]'(by show 0 < 1; omega)).toNat := hlast
 clear hr ho hw hx hb
 go_enter Tryz.func159, Tryz.ntmps159
 have hf : ∀ A, Below w.heap.size w A → A.cell? ⟨rb, 1, none⟩ = some (.string ⟨#[97, 102, 116, 101, 114]⟩) ∧ A.cell? ⟨rb, 2, none⟩ = some (.int .u8 (last : Int)) ∧ A.cell? ⟨sb, 1, none⟩ = some (.string (mkB [b])) := fun A hA =>
  ⟨(Box.cell (HR.out.below' hA) 1).trans rfl, (Box.cell (HR.out.below' hA) 2).trans rfl, below_cell hA (HW.out 1 _ rfl)⟩
 have K0' := Lib.hid hf
 clear hf c1
 go_upto_region 0 with fail
 refine wp_region_heldB 30 [] (by kernel_rfl) (by kernel_rfl) (by kernel_rfl) (by simp) ?_
 intro S hS
 have k0 : ∀ A, S A → _ := fun A hA => K0'.out A (hS A hA)
 have K0 := Lib.hid k0
 have HS := Lib.hid hS
 clear hS k0
 simp only [List.take_succ_cons, List.take_zero, List.drop_succ_cons, List.drop_zero]
 repeat (first
  | (refine held_val (v := .int .u8 b.toNat) rfl (by rfl) ?_ ?_; (· (intro W hW; refine exec_index 9 _ _ rfl ?_; exact index_one b W)); try (dsimp only); try simp only [Act.put, List.setIfInBounds_toArray, List.set_cons_zero, List.set_cons_succ])
  | (refine held_val (v := .bool true) rfl (by rfl) ?_ ?_; (· (intro W hW; obtain ⟨q0, q1, q2⟩ := K0.out W hW; go_simp; done)); try (dsimp only); try simp only [Act.put, List.setIfInBounds_toArray, List.set_cons_zero, List.set_cons_succ])
  | (refine held_not rfl (by rfl) ?_; try (dsimp only); try simp only [Act.put, List.setIfInBounds_toArray, List.set_cons_zero, List.set_cons_succ])
  | (refine held_val (v := ?_) rfl (by rfl) ?_ ?_; rotate_left; (· (intro W hW; obtain ⟨q0, q1, q2⟩ := K0.out W hW; go_simp; try with_reducible rfl)); try (dsimp only); try simp only [Act.put, List.setIfInBounds_toArray, List.set_cons_zero, List.set_cons_succ])
  | (refine held_skip rfl (by rfl) ?_ ?_; (· (intro W hW; obtain ⟨q0, q1, q2⟩ := K0.out W hW; go_simp; try with_reducible rfl)); try (dsimp only); try simp only [Act.put, List.setIfInBounds_toArray, List.set_cons_zero, List.set_cons_succ])
  | (refine held_call (v := .string (mkB [b])) (f := 181) (args := #[.string (mkB [b])]) rfl (by rfl) ?_ ?_ ?_; (· (intro W hW; go_simp; done)); (· exact (fun W hW => letters_good (mkB [b]) (by rw [bl_mkB]; exact HB.out) (by rw [hsz1]; omega) W)); try (dsimp only); try simp only [Act.put, List.setIfInBounds_toArray, List.set_cons_zero, List.set_cons_succ])
  | (refine held_call (v := .tuple #[]) (f := 128) (args := #[.bool true]) rfl (by rfl) ?_ ?_ ?_; (· (intro W hW; go_simp; done)); (· exact (fun W hW => need_at W)); try (dsimp only); try simp only [Act.put, List.setIfInBounds_toArray, List.set_cons_zero, List.set_cons_succ]))
 refine held_nil ?_
 intro τ hτ W2 hW hO
 obtain rfl := laid0 hτ
 have hb2 : Below w.heap.size w W2 := HS.out W2 hW
 clear hτ hO hW K0 HS K0'
 simp only [overs, List.foldl_nil]
 have hR1 : RdBox W2 rb (.slice (some ⟨g, 0, none⟩) n cap) 3 last := HR.out.below' hb2
 have s1 := HW.out.keep (Keep.of_below' (K := fun _ => True) hb2) trivial 1 _ rfl
 obtain ⟨r1, r2⟩ := hR1.rules
 have hix := index_one b
 go_upto_region 2 with fail
 have hkk : Keep (fun k => k ≠ rb) w (W2.setCell ⟨rb, 2, none⟩ (.int .u8 (97 + (cl b : Int)))) := (Keep.of_below' hb2).setCell (.inl (by simp)) _
 have hR3 : RdBox (W2.setCell ⟨rb, 2, none⟩ (.int .u8 (97 + (cl b : Int)))) rb (.slice (some ⟨g, 0, none⟩) n cap) 3 (97 + cl b) := hR1.set_ 2 _
 have hO3 := ownsRow_keep (K := fun k => base ≤ k) (ownsRow_keep HO.out (Keep.of_below' (K := fun _ => True) hb2) (fun _ _ => trivial)) ((Keep.refl _ W2).setCell (p := ⟨rb, 2, none⟩) (.inl (by simp; omega)) (.int .u8 (97 + (cl b : Int)))) (fun k hk => hk)
 have hW3 : WordsAt (W2.setCell ⟨rb, 2, none⟩ (.int .u8 (97 + (cl b : Int)))) sb [w0, [b], x] := ((HW.out.keep (Keep.of_below' (K := fun _ => True) hb2) trivial).keep (K := fun k => k ≠ rb) ((Keep.refl _ W2).setCell (.inl (by simp)) _) hsr)
 have hz3 : w.heap.size ≤ (W2.setCell ⟨rb, 2, none⟩ (.int .u8 (97 + (cl b : Int)))).heap.size := hkk.size
 generalize (W2.setCell ⟨rb, 2, none⟩ (.int .u8 (97 + (cl b : Int)))) = W3 at hkk hR3 hO3 hW3 hz3 ⊢
 have hf : ∀ A, Keep (fun k => k ≠ g) W3 A → A.cell? ⟨rb, 0, none⟩ = some (.slice (some ⟨g, 0, none⟩) n cap) ∧ A.cell? ⟨rb, 2, none⟩ = some (.int .u8 (97 + (cl b : Int))) ∧ A.cell? ⟨sb, 2, none⟩ = some (.string (mkB x)) := fun A hA =>
  ⟨(Box.cell (hA.heap hrg hR3) 0).trans rfl, (Box.cell (hA.heap hrg hR3) 2).trans rfl, (hW3.keep hA hsg) 2 _ rfl⟩
 have K0 := Lib.hid hf
 have HR3 := Lib.hid hR3
 have HO3 := Lib.hid hO3
 clear hf hR3 hO3 hW3 r1 r2 hR1 s1
 refine wp_region_M (fun A => Keep (fun k => k ≠ g) W3 A) 23 (by kernel_rfl) ?_
 have hbd : Below W3.heap.size W3 W3.drew := (Below.refl _ W3).drew
 have hSS : Keep (fun k => k ≠ g) W3 W3.drew := Keep.of_below' hbd
 have hwc : IntKind.u8.wrap ((97 : Int) + (cl b : Int) - 97) = (cl b : Int) := by rw [show (97 : Int) + (cl b : Int) - 97 = (cl b : Int) by omega]; unfold IntKind.wrap; simp [IntKind.bits, IntKind.signed]; omega
 have hwc2 : IntKind.u8.wrap (cl b : Int) = (cl b : Int) := by unfold IntKind.wrap; simp [IntKind.bits, IntKind.signed]; omega
 refine anyM_take (i := 0) (v := ?_) (by kernel_rfl) rfl (by kernel_rfl) (by kernel_rfl) (by kernel_rfl) (by kernel_rfl) (fun _ _ _ h => h) (by rfl) ?_ hSS ?_
 rotate_left
 ·(intro W hW; obtain ⟨q0, q1, q2⟩ := K0.out W hW; go_simp; try with_reducible rfl)
 try (dsimp only); try simp only [Act.put, List.setIfInBounds_toArray, List.set_cons_zero, List.set_cons_succ]
 refine anyM_take (i := 1) (v := ?_) (by kernel_rfl) rfl (by kernel_rfl) (by kernel_rfl) (by kernel_rfl) (by kernel_rfl) (fun _ _ _ h => h) (by rfl) ?_ hSS ?_
 rotate_left
 ·(intro W hW; obtain ⟨q0, q1, q2⟩ := K0.out W hW; go_simp; try with_reducible rfl)
 try (dsimp only); try simp only [Act.put, List.setIfInBounds_toArray, List.set_cons_zero, List.set_cons_succ]
 refine anyM_take (i := 2) (v := ?_) (by kernel_rfl) rfl (by kernel_rfl) (by kernel_rfl) (by kernel_rfl) (by kernel_rfl) (fun _ _ _ h => h) (by rfl) ?_ hSS ?_
 rotate_left
 ·(intro W hW; obtain ⟨q0, q1, q2⟩ := K0.out W hW; go_simp; try with_reducible rfl)
 try (dsimp only); try simp only [Act.put, List.setIfInBounds_toArray, List.set_cons_zero, List.set_cons_succ]
 refine anyM_take (i := 3) (v := ?_) (by kernel_rfl) rfl (by kernel_rfl) (by kernel_rfl) (by kernel_rfl) (by kernel_rfl) (fun _ _ _ h => h) (by rfl) ?_ hSS ?_
 rotate_left
 ·(intro W hW; obtain ⟨q0, q1, q2⟩ := K0.out W hW; go_simp; try with_reducible rfl)
 try (dsimp only); try simp only [Act.put, List.setIfInBounds_toArray, List.set_cons_zero, List.set_cons_succ]
 refine anyM_take (i := 4) (v := ?_) (by kernel_rfl) rfl (by kernel_rfl) (by kernel_rfl) (by kernel_rfl) (by kernel_rfl) (fun _ _ _ h => h) (by rfl) ?_ hSS ?_
 rotate_left
 ·(intro W hW; obtain ⟨q0, q1, q2⟩ := K0.out W hW; go_simp; try with_reducible rfl)
 try (dsimp only); try simp only [Act.put, List.setIfInBounds_toArray, List.set_cons_zero, List.set_cons_succ]
 refine anyM_take (i := 5) (v := ?_) (by kernel_rfl) rfl (by kernel_rfl) (by kernel_rfl) (by kernel_rfl) (by kernel_rfl) (fun _ _ _ h => h) (by rfl) ?_ hSS ?_
 rotate_left
 ·(intro W hW; obtain ⟨q0, q1, q2⟩ := K0.out W hW; go_simp; try with_reducible rfl)
 try (dsimp only); try simp only [Act.put, List.setIfInBounds_toArray, List.set_cons_zero, List.set_cons_succ]
 refine anyM_take (i := 6) (v := ?_) (by kernel_rfl) rfl (by kernel_rfl) (by kernel_rfl) (by kernel_rfl) (by kernel_rfl) (fun _ _ _ h => h) (by rfl) ?_ hSS ?_
 rotate_left
 ·(intro W hW; obtain ⟨q0, q1, q2⟩ := K0.out W hW; go_simp; try with_reducible rfl)
 try (dsimp only); try simp only [Act.put, List.setIfInBounds_toArray, List.set_cons_zero, List.set_cons_succ]
 refine anyM_take (i := 7) (v := ?_) (by kernel_rfl) rfl (by kernel_rfl) (by kernel_rfl) (by kernel_rfl) (by kernel_rfl) (fun _ _ _ h => h) (by rfl) ?_ hSS ?_
 rotate_left
 ·(intro W hW; obtain ⟨q0, q1, q2⟩ := K0.out W hW; go_simp; try with_reducible rfl)
 try (dsimp only); try simp only [Act.put, List.setIfInBounds_toArray, List.set_cons_zero, List.set_cons_succ]
 refine anyM_take (i := 8) (v := ?_) (by kernel_rfl) rfl (by kernel_rfl) (by kernel_rfl) (by kernel_rfl) (by kernel_rfl) (fun _ _ _ h => h) (by rfl) ?_ hSS ?_
 rotate_left
 ·(intro W hW; obtain ⟨q0, q1, q2⟩ := K0.out W hW; go_simp; try with_reducible rfl)
 try (dsimp only); try simp only [Act.put, List.setIfInBounds_toArray, List.set_cons_zero, List.set_cons_succ]
 refine anyM_take (i := 9) (v := .int .i64 T.length) (by kernel_rfl) rfl (by kernel_rfl) (by kernel_rfl) (by kernel_rfl) (by kernel_rfl) (fun _ _ _ h => h) (by rfl) ?_ hSS ?_
 ·intro W hW; go_simp
 try (dsimp only); try simp only [Act.put, List.setIfInBounds_toArray, List.set_cons_zero, List.set_cons_succ]
 refine anyM_take (i := 10) (v := ?_) (by kernel_rfl) rfl (by kernel_rfl) (by kernel_rfl) (by kernel_rfl) (by kernel_rfl) (fun _ _ _ h => h) (by rfl) ?_ hSS ?_
 rotate_left
 ·(intro W hW; obtain ⟨q0, q1, q2⟩ := K0.out W hW; go_simp; try with_reducible rfl)
 try (dsimp only); try simp only [Act.put, List.setIfInBounds_toArray, List.set_cons_zero, List.set_cons_succ]
 refine anyM_take (i := 11) (v := ?_) (by kernel_rfl) rfl (by kernel_rfl) (by kernel_rfl) (by kernel_rfl) (by kernel_rfl) (fun _ _ _ h => h) (by rfl) ?_ hSS ?_
 rotate_left
 ·(intro W hW; obtain ⟨q0, q1, q2⟩ := K0.out W hW; go_simp; try with_reducible rfl)
 try (dsimp only); try simp only [Act.put, List.setIfInBounds_toArray, List.set_cons_zero, List.set_cons_succ]
 refine anyM_take (i := 12) (v := ?_) (by kernel_rfl) rfl (by kernel_rfl) (by kernel_rfl) (by kernel_rfl) (by kernel_rfl) (fun _ _ _ h => h) (by rfl) ?_ hSS ?_
 rotate_left
 ·(intro W hW; obtain ⟨q0, q1, q2⟩ := K0.out W hW; go_simp; try with_reducible rfl)
 try (dsimp only); try simp only [Act.put, List.setIfInBounds_toArray, List.set_cons_zero, List.set_cons_succ]
 refine anyM_take (i := 13) (v := ?_) (by kernel_rfl) rfl (by kernel_rfl) (by kernel_rfl) (by kernel_rfl) (by kernel_rfl) (fun _ _ _ h => h) (by rfl) ?_ hSS ?_
 rotate_left
 ·(intro W hW; obtain ⟨q0, q1, q2⟩ := K0.out W hW; go_simp; try with_reducible rfl)
 try (dsimp only); try simp only [Act.put, List.setIfInBounds_toArray, List.set_cons_zero, List.set_cons_succ]
 refine anyM_take (i := 14) (v := .int .u8 (cl b)) (by kernel_rfl) rfl (by kernel_rfl) (by kernel_rfl) (by kernel_rfl) (by kernel_rfl) (fun _ _ _ h => h) (by rfl) ?_ hSS ?_
 ·intro W hW; go_simp
 try (dsimp only); try simp only [Act.put, List.setIfInBounds_toArray, List.set_cons_zero, List.set_cons_succ]
 refine anyM_take (i := 15) (v := ?_) (by kernel_rfl) rfl (by kernel_rfl) (by kernel_rfl) (by kernel_rfl) (by kernel_rfl) (fun _ _ _ h => h) (by rfl) ?_ hSS ?_
 rotate_left
 ·(intro W hW; obtain ⟨q0, q1, q2⟩ := K0.out W hW; go_simp; try with_reducible rfl)
 try (dsimp only); try simp only [Act.put, List.setIfInBounds_toArray, List.set_cons_zero, List.set_cons_succ]
 refine anyM_take (i := 16) (v := ?_) (by kernel_rfl) rfl (by kernel_rfl) (by kernel_rfl) (by kernel_rfl) (by kernel_rfl) (fun _ _ _ h => h) (by rfl) ?_ hSS ?_
 rotate_left
 ·(intro W hW; obtain ⟨q0, q1, q2⟩ := K0.out W hW; go_simp; try with_reducible rfl)
 try (dsimp only); try simp only [Act.put, List.setIfInBounds_toArray, List.set_cons_zero, List.set_cons_succ]
 refine anyM_take (i := 17) (v := ?_) (by kernel_rfl) rfl (by kernel_rfl) (by kernel_rfl) (by kernel_rfl) (by kernel_rfl) (fun _ _ _ h => h) (by rfl) ?_ hSS ?_
 rotate_left
 ·(intro W hW; obtain ⟨q0, q1, q2⟩ := K0.out W hW; go_simp; try with_reducible rfl)
 try (dsimp only); try simp only [Act.put, List.setIfInBounds_toArray, List.set_cons_zero, List.set_cons_succ]
 refine anyM_take (i := 19) (v := .pointer (some ⟨g, T.length * 32, none⟩)) (by kernel_rfl) rfl (by kernel_rfl) (by kernel_rfl) (by kernel_rfl) (by kernel_rfl) (fun _ _ _ h => h) (by rfl) ?_ hSS ?_
 ·intro W hW; go_simp
 try (dsimp only); try simp only [Act.put, List.setIfInBounds_toArray, List.set_cons_zero, List.set_cons_succ]
 refine anyM_take (i := 20) (v := .pointer (some ⟨g, T.length * 32 + 6, none⟩)) (by kernel_rfl) rfl (by kernel_rfl) (by kernel_rfl) (by kernel_rfl) (by kernel_rfl) (fun _ _ _ h => h) (by rfl) ?_ hSS ?_
 ·intro W hW; go_simp
 try (dsimp only); try simp only [Act.put, List.setIfInBounds_toArray, List.set_cons_zero, List.set_cons_succ]
 refine anyM_call (i := 18) (f := 181) (args := #[.string (mkB x)]) rfl (by kernel_rfl) (by rfl) ?_ (letters_good (mkB x) (by rw [bl_mkB]; exact HX.out) (by rw [← bl_len, bl_mkB]; exact hxl) _) ?_
 ·go_simp
 rintro e W4 ⟨rfl, hb4⟩
 have hb4' : Below W3.heap.size W3 W4 := hbd.trans hb4
 have hS4 : Keep (fun k => k ≠ g) W3 W4 := Keep.of_below' hb4'
 refine .inl ⟨_, rfl, .inr hS4, ?_⟩
 try (dsimp only); try simp only [Act.put, List.setIfInBounds_toArray, List.set_cons_zero, List.set_cons_succ]
 have hown := ownsRow_keep HO3.out (Keep.of_below' (K := fun _ => True) hb4') (fun _ _ => trivial)
 refine anyM_run (i := 21) (v := .pointer (some ⟨g, T.length * 32 + 6 + cl b, none⟩)) (w' := W4) rfl (by kernel_rfl) (by rfl) ?_ (.inr hS4) ?_
 ·go_simp
  intro h26; omega
 try (dsimp only); try simp only [Act.put, List.setIfInBounds_toArray, List.set_cons_zero, List.set_cons_succ]
 have r1 := hown.cellAt (T.length * 32 + 6 + cl b) (by omega)
 have r2 := hown.frozenAt (T.length * 32 + 6 + cl b)
 obtain ⟨u0, hu0⟩ : ∃ u, (typsV (T ++ [t]))[T.length * 32 + 6 + cl b]? = some u := ⟨_, List.getElem?_eq_getElem (by rw [typsV_len]; simp; omega)⟩
 rw [hu0] at r1
 have r1s : (W4.cell? ⟨g, T.length * 32 + 6 + cl b, none⟩).isSome = true := by rw [r1]; rfl
 have hS5 : Keep (fun k => k ≠ g) W3 (W4.setCell ⟨g, T.length * 32 + 6 + cl b, none⟩ (.string (mkB x))) := hS4.setCell (.inl (by simp)) _
 refine anyM_skip (i := 22) (w' := W4.setCell ⟨g, T.length * 32 + 6 + cl b, none⟩ (.string (mkB x))) rfl (by kernel_rfl) (by rfl) ?_ (.inr hS5) ?_
 ·go_simp
 try (dsimp only); try simp only [Act.put, List.setIfInBounds_toArray, List.set_cons_zero, List.set_cons_succ]
 refine anyM_done (by kernel_rfl) ?_ _
 obtain ⟨hown2, -⟩ := hown.stored (T.length * 32 + 6 + cl b) (.string (mkB x))
 rw [Nat.add_assoc, typsV_set T t (aftT t (cl b) (mkB x)) (6 + cl b) (.string (mkB x)) (typ_set t (cl b) hc26 (mkB x)), ← Nat.add_assoc] at hown2
 go_wp2_with fail
 go_end0
 refine ⟨rfl, ?_, hown2, (hkk.mono fun k hk => hk.2).trans (hS5.mono fun k hk e => hk.1 (by rw [e]; rfl))⟩
 rw [hcl]
 exact hS5.heap hrg HR3.out
end Go.Proofs.YthpjffhccjlnhaaGreatDoor
namespace Go.Proofs.YthpjffhccjlnhaaGreatDoor
open Go.RowKit
attribute [local go_sem] Oper.semAt_some

theorem run_getObj_map {P : Program} {W : World} {b : Nat} {es : Array MapEntry} {clk : Nat} (h : W.heap[b]? = some (.map es clk)) : (getObj b).run P W = .ok (.map es clk) W := by simp [getObj, Sem.run, h]
theorem run_setObj_map {P : Program} {W : World} {b : Nat} {es : Array MapEntry} {clk : Nat} (o' : Obj) (h : W.heap[b]? = some (.map es clk)) : (setObj b o').run P W = .ok () (W.putObj b o') := by simp [setObj, Sem.run, h, World.putObj]
theorem run_checkKey_str {P : Program} {W : World} {kt : TypeId} (hk : P.underlying kt = some .string) (e : Bool) (n : Nat) (v : Value) : (Instr.checkKey e (n + 1) kt v).run P W = .ok () W := by
 unfold Instr.checkKey
 simp only [Sem.run_bind, run_underlying hk, Result.andThen_ok]
 cases v <;> rfl
theorem run_findKey_str {P : Program} {W : World} {kt : TypeId} (hk : P.underlying kt = some .string) {k : Value} {es : List MapEntry} {r : Option (Nat × Value)} (h : Instr.findNow .string k es 0 = some r) : (Instr.findKey kt k es).run P W = .ok r W := by
 unfold Instr.findKey
 simp only [Sem.run_bind, run_underlying hk, Result.andThen_ok, h, Sem.run_pure]
/-- a new key -/
theorem run_mapUpdate_str {P : Program} {W : World} {b : Nat} {es : Array MapEntry} {clk : Nat} {t kt et : TypeId} {k v : Value} (hu : P.underlying t = some (.map kt et)) (hk : P.underlying kt = some .string) (hb : W.heap[b]? = some (.map es clk)) (hf : Instr.findNow .string k es.toList 0 = some none) :
  (Instr.mapUpdate t (.map (some b)) k v).run P W = .ok () (W.putObj b (.map (es.push { key := k, val := v, born := clk }) (clk + 1))) := by
 unfold Instr.mapUpdate
 simp only [Sem.run_bind, run_underlying hu, Result.andThen_ok, run_getObj_map hb, show (10000 : Nat) = 9999 + 1 from rfl, run_checkKey_str hk, run_findKey_str hk hf, run_setObj_map _ hb]
/-- a look-up -/
theorem run_lookup_str {P : Program} {W : World} {b : Nat} {es : Array MapEntry} {clk : Nat} {t kt et : TypeId} {k v : Value} {i : Nat} (hu : P.underlying t = some (.map kt et)) (hk : P.underlying kt = some .string) (hb : W.heap[b]? = some (.map es clk))
  (hf : Instr.findNow .string k es.toList 0 = some (some (i, v))) :
  (Instr.lookup t (.map (some b)) k true).run P W = .ok (.tuple #[v, .bool true]) W := by
 unfold Instr.lookup
 simp only [Sem.run_bind, run_underlying hu, Result.andThen_ok, run_getObj_map hb, show (10000 : Nat) = 9999 + 1 from rfl, run_checkKey_str hk, run_findKey_str hk hf, Sem.run_pure]
 rfl

def lineFn (f : Nat) : Value := .func (.func f) #[] #[]
def lineMap : Array MapEntry := #[{ key := .string ⟨#[116, 121, 112, 101]⟩, val := lineFn 156, born := 0 }, { key := .string ⟨#[114, 105, 109]⟩, val := lineFn 157, born := 1 }, { key := .string ⟨#[98, 97, 115, 101]⟩, val := lineFn 158, born := 2 }, { key := .string ⟨#[97, 102, 116, 101, 114]⟩, val := lineFn 159, born := 3 }]
theorem line_0 : Instr.findNow .string (.string ⟨#[116, 121, 112, 101]⟩) lineMap.toList 0 = some (some (0, lineFn 156)) := by kernel_rfl
theorem line_1 : Instr.findNow .string (.string ⟨#[114, 105, 109]⟩) lineMap.toList 0 = some (some (1, lineFn 157)) := by kernel_rfl
theorem line_2 : Instr.findNow .string (.string ⟨#[98, 97, 115, 101]⟩) lineMap.toList 0 = some (some (2, lineFn 158)) := by kernel_rfl
theorem line_3 : Instr.findNow .string (.string ⟨#[97, 102, 116, 101, 114]⟩) lineMap.toList 0 = some (some (3, lineFn 159)) := by kernel_rfl
def lm (k : Nat) : Array MapEntry := (lineMap.toList.take k).toArray
theorem lines_any (w : World) : Calls Tryz.prog 127 #[] w fun e w' => e = .returned (.map (some w.heap.size)) ∧ w'.heap[w.heap.size]? = some (.map lineMap 4) ∧ Below w.heap.size w w' := by
 have hmm := @run_makeMap Tryz.prog
 have hi := fun (W : World) (b : Nat) (es : Array MapEntry) (clk : Nat) (k v : Value) (hb : W.heap[b]? = some (.map es clk)) (hf : Instr.findNow .string k es.toList 0 = some none) => run_mapUpdate_str (P := Tryz.prog) (v := v) Tryz.underlying165 Tryz.underlying9 hb hf
 obtain ⟨w0, hw0⟩ : ∃ x, w.alloc (.map #[] 0) = x := ⟨_, rfl⟩
 have n0 : w0.heap[w.heap.size]? = some (.map #[] 0) := by rw [← hw0]; exact World.alloc_heap_new w _
 have h1 := hi _ _ _ _ (.string ⟨#[116, 121, 112, 101]⟩) (lineFn 156) n0 (by kernel_rfl)
 obtain ⟨w1, hw1⟩ : ∃ x, w0.putObj w.heap.size (.map (lm 1) 1) = x := ⟨_, rfl⟩
 have n1 : w1.heap[w.heap.size]? = some (.map (lm 1) 1) := by rw [← hw1]; exact World.putObj_heap_same (Array.getElem?_eq_some_iff.1 n0).1
 have h2 := hi _ _ _ _ (.string ⟨#[114, 105, 109]⟩) (lineFn 157) n1 (by kernel_rfl)
 obtain ⟨w2, hw2⟩ : ∃ x, w1.putObj w.heap.size (.map (lm 2) 2) = x := ⟨_, rfl⟩
 have n2 : w2.heap[w.heap.size]? = some (.map (lm 2) 2) := by rw [← hw2]; exact World.putObj_heap_same (Array.getElem?_eq_some_iff.1 n1).1
 have h3 := hi _ _ _ _ (.string ⟨#[98, 97, 115, 101]⟩) (lineFn 158) n2 (by kernel_rfl)
 obtain ⟨w3, hw3⟩ : ∃ x, w2.putObj w.heap.size (.map (lm 3) 3) = x := ⟨_, rfl⟩
 have n3 : w3.heap[w.heap.size]? = some (.map (lm 3) 3) := by rw [← hw3]; exact World.putObj_heap_same (Array.getElem?_eq_some_iff.1 n2).1
 have h4 := hi _ _ _ _ (.string ⟨#[97, 102, 116, 101, 114]⟩) (lineFn 159) n3 (by kernel_rfl)
 obtain ⟨w4, hw4⟩ : ∃ x, w3.putObj w.heap.size (.map lineMap 4) = x := ⟨_, rfl⟩
 have n4 : w4.heap[w.heap.size]? = some (.map lineMap 4) := by rw [← hw4]; exact World.putObj_heap_same (Array.getElem?_eq_some_iff.1 n3).1
 have h1' : (Instr.mapUpdate 165 (.map (some w.heap.size)) (.string ⟨#[116, 121, 112, 101]⟩) (.func (.func 156) #[] #[])).run Tryz.prog w0 = .ok () w1 := h1.trans (by rw [← hw1]; rfl)
 have h2' : (Instr.mapUpdate 165 (.map (some w.heap.size)) (.string ⟨#[114, 105, 109]⟩) (.func (.func 157) #[] #[])).run Tryz.prog w1 = .ok () w2 := h2.trans (by rw [← hw2]; rfl)
 have h3' : (Instr.mapUpdate 165 (.map (some w.heap.size)) (.string ⟨#[98, 97, 115, 101]⟩) (.func (.func 158) #[] #[])).run Tryz.prog w2 = .ok () w3 := h3.trans (by rw [← hw3]; rfl)
 have h4' : (Instr.mapUpdate 165 (.map (some w.heap.size)) (.string ⟨#[97, 102, 116, 101, 114]⟩) (.func (.func 159) #[] #[])).run Tryz.prog w3 = .ok () w4 := h4.trans (by rw [← hw4]; rfl)
 have hB : Below w.heap.size w w4 := by
  rw [← hw4, ← hw3, ← hw2, ← hw1, ← hw0]
  exact below_put (below_put (below_put (below_put ((Below.refl _ w).alloc (Nat.le_refl _) _) (Nat.le_refl _) _) (Nat.le_refl _) _) (Nat.le_refl _) _) (Nat.le_refl _) _
 clear h1 h2 h3 h4 hi n0 n1 n2 n3 hw1 hw2 hw3 hw4
 go_enter Tryz.func127, Tryz.ntmps127
 go_wp2
 go_ret
 exact ⟨rfl, n4, hB⟩
/-! a line, by its first word -/
theorem isW_eq {w : List UInt8} {l : List Nat} (h : isW w l = true) : w = chars l := by
 have : w.map (·.toNat) = l := by simpa [isW] using h
 rw [← this]
 simp [chars, Function.comp_def]
theorem setLast_len (l : List Typ) (f : Typ → Typ) : (setLast l f).length = l.length := by
 unfold setLast
 rcases h : l.getLast? with _ | t
 ·rfl
 ·obtain ⟨ys, rfl⟩ := List.getLast?_eq_some_iff.1 h
  simp
/-- the reader in memory -/
structure RdAt (w : World) (rb base : Nat) (v : Value) (st : RdSt) : Prop where
 box : RdBox w rb v st.due st.last
 row : w.ownsRow base 71 32 v st.types.length (typsV st.types)
 inv : st.due = 0 ∨ st.types ≠ []
def LinePost (rb base : Nat) (v : Value) (st' : RdSt) (w : World) (w' : World) : Prop :=
 ∃ v', RdAt w' rb base v' st' ∧ (∀ k, v'.ownBlock = some k → v.ownBlock = some k ∨ w.heap.size ≤ k) ∧ Keep (fun k => v.ownBlock ≠ some k ∧ k ≠ rb) w w'
theorem readLine_len {st st' : RdSt} {ws : List (List UInt8)} (h : readLine st ws = some st') : st'.types.length ≤ st.types.length + 1 ∧ (st'.due = 0 → False) := by
 unfold readLine at h
 repeat' split at h
 all_goals first | (cases h; done) | (cases h; simp [setLast_len])
theorem do_good (rb base sb : Nat) (v : Value) (st st' : RdSt) (w0 : List UInt8) (rest : List (List UInt8)) (h : readLine st (w0 :: rest) = some st') (hsz : ∀ x, x ∈ rest → x.length ≤ 1000000) (hl : st.types.length ≤ 100000) (hrb : rb < base) (hne : sb ≠ rb) :
  ∃ i F, Instr.findNow .string (.string (mkB w0)) lineMap.toList 0 = some (some (i, lineFn F)) ∧ (∀ args W, (callFunc F args).run Tryz.prog W = .ok (.enter F args) W) ∧
   ∀ w, RdAt w rb base v st → WordsAt w sb (w0 :: rest) → v.ownBlock ≠ some sb → base ≤ w.heap.size → Calls Tryz.prog F #[.pointer (some ⟨rb, 0, none⟩), .slice (some ⟨sb, 0, none⟩) (rest.length + 1) (rest.length + 1)] w fun e w' => e = .returned (.tuple #[]) ∧ LinePost rb base v st' w w' := by
 obtain ⟨T0, due, last⟩ := st
 unfold readLine at h
 simp only at h hl
 split at h
 ·rename_i hw
  obtain rfl := isW_eq hw
  refine ⟨0, 156, line_0, enters_of Tryz.func156 (by kernel_rfl) rfl, fun w hR hW hs hb => ?_⟩
  split at h
  ·split at h
   ·rename_i hd
    split at h
    ·cases h
     simp only [Bool.and_eq_true, Bool.or_eq_true, beq_iff_eq, Bool.not_eq_true', List.isEmpty_eq_false_iff] at hd
     rename_i x1 x2 ha hb2
     refine (kind_good rb sb base due last v T0 _ _ _ _ _ _ _ w hR.box hR.row hW hd.1.1 hd.1.2 hd.2 ha hb2 hl hrb hs hb).mono ?_
     rintro e w' ⟨rfl, v', g1, g2, g3, g4⟩
     exact ⟨rfl, v', ⟨g1, by simp only [List.length_append, List.length_singleton]; exact g2, .inr (by simp)⟩, g3, g4⟩
    ·cases h
   ·cases h
  ·cases h
 split at h
 ·rename_i hw
  obtain rfl := isW_eq hw
  refine ⟨1, 157, line_1, enters_of Tryz.func157 (by kernel_rfl) rfl, fun w hR hW hs hb => ?_⟩
  split at h
  ·split at h
   ·rename_i x hd
    cases h
    simp only [Bool.and_eq_true, beq_iff_eq] at hd
    obtain ⟨rfl, hd⟩ := hd
    have hT : T0 ≠ [] := hR.inv.resolve_left (by simp)
    obtain ⟨T, t, rfl⟩ := List.eq_nil_or_concat T0 |>.resolve_left hT
    rw [List.concat_eq_append] at hR hl ⊢
    have hrow : w.ownsRow base 71 32 v (T.length + 1) (typsV (T ++ [t])) := by simpa using hR.row
    refine (rim_good rb sb base last v T t _ x w hR.box hrow hW hd (hsz x (by simp)) (by simp at hl; omega) hrb hs hb).mono ?_
    rintro e w' ⟨rfl, g1, g2, g4⟩
    exact ⟨rfl, v, ⟨g1, by rw [setLast_snoc]; simpa using g2, .inr (by rw [setLast_snoc]; simp)⟩, fun k hk => .inl hk, g4⟩
   ·cases h
  ·cases h
 split at h
 ·rename_i hw
  obtain rfl := isW_eq hw
  refine ⟨2, 158, line_2, enters_of Tryz.func158 (by kernel_rfl) rfl, fun w hR hW hs hb => ?_⟩
  split at h
  ·split at h
   ·rename_i x hd
    cases h
    simp only [Bool.and_eq_true, beq_iff_eq] at hd
    obtain ⟨rfl, hd⟩ := hd
    have hT : T0 ≠ [] := hR.inv.resolve_left (by simp)
    obtain ⟨T, t, rfl⟩ := List.eq_nil_or_concat T0 |>.resolve_left hT
    rw [List.concat_eq_append] at hR hl ⊢
    have hrow : w.ownsRow base 71 32 v (T.length + 1) (typsV (T ++ [t])) := by simpa using hR.row
    refine (base_good rb sb base last v T t _ x w hR.box hrow hW hd (hsz x (by simp)) (by simp at hl; omega) hrb hs hb).mono ?_
    rintro e w' ⟨rfl, g1, g2, g4⟩
    exact ⟨rfl, v, ⟨g1, by rw [setLast_snoc]; simpa using g2, .inr (by rw [setLast_snoc]; simp)⟩, fun k hk => .inl hk, g4⟩
   ·cases h
  ·cases h
 split at h
 ·rename_i hw
  obtain rfl := isW_eq hw
  refine ⟨3, 159, line_3, enters_of Tryz.func159 (by kernel_rfl) rfl, fun w hR hW hs hb => ?_⟩
  split at h
  ·split at h
   ·rename_i b x hd
    cases h
    simp only [Bool.and_eq_true, beq_iff_eq, decide_eq_true_eq] at hd
    obtain ⟨⟨⟨rfl, hd1⟩, hd2⟩, hd3⟩ := hd
    have hT : T0 ≠ [] := hR.inv.resolve_left (by simp)
    obtain ⟨T, t, rfl⟩ := List.eq_nil_or_concat T0 |>.resolve_left hT
    rw [List.concat_eq_append] at hR hl ⊢
    have hrow : w.ownsRow base 71 32 v (T.length + 1) (typsV (T ++ [t])) := by simpa using hR.row
    refine (after_good rb sb base last v T t _ x b w hR.box hrow hW hd1 hd2 hd3 (hsz x (by simp)) (by simp at hl; omega) hrb hs hne hb).mono ?_
    rintro e w' ⟨rfl, g1, g2, g4⟩
    exact ⟨rfl, v, ⟨g1, by rw [setLast_snoc]; simpa [aftT] using g2, .inr (by rw [setLast_snoc]; simp)⟩, fun k hk => .inl hk, g4⟩
   ·cases h
  ·cases h
 ·cases h
end Go.Proofs.YthpjffhccjlnhaaGreatDoor
namespace Go.Proofs.YthpjffhccjlnhaaGreatDoor
open Go.RowKit
attribute [local go_sem] Oper.semAt_some

theorem splitC_le (c : UInt8) : ∀ (l x : List UInt8), x ∈ splitC c l → x.length ≤ l.length
 | [], x, h => by simp [splitC] at h; simp [h]
 | a :: l, x, h => by
  unfold splitC at h
  split at h
  ·rcases List.mem_cons.1 h with rfl | h
   ·simp
   ·have := splitC_le c l x h; simp; omega
  ·split at h
   ·rename_i he; exact absurd he (splitC_ne c l)
   ·rename_i w ws he
    rcases List.mem_cons.1 h with rfl | h
    ·have := splitC_le c l w (by rw [he]; simp); simp; omega
    ·have := splitC_le c l x (by rw [he]; simp [h]); simp; omega
theorem read1_idle (p : Addr) (w : World) :
  CallsD Tryz.prog 126 #[.pointer (some p)] .returning w fun e u' w' => e = .returned (.tuple #[]) ∧ u' = .returning ∧ w' = w := by
 refine callsD_of_wpS Tryz.func126 rfl fun c₀ cs hu => ?_
 apply wpS_seq
 apply wpS_region
 simp [wpOpsS, go_sem, recoverD, hu, Tryz.ntmps126, Exit.thenS]
 refine wpS_of_wp ?_
 go_wp2
 cases c₀
 simp_all [bodyPostS, results, Tryz.results126]
theorem leaves_put {P : Program} {fn : Func} {R : Ending → World → Prop} {d : Nat} {v : Value} (h : ∀ (tmps : Array Value) (w : World), (results fn (tmps.setIfInBounds d v)).run P w = (results fn tmps).run P w) (tmps : Array Value) :
  ∀ (ds : List Deferred) (u : FrameMode) (w : World), Leaves P fn (tmps.setIfInBounds d v) R ds u w → Leaves P fn tmps R ds u w
 | [], .returning, w, ⟨x, h1, h2⟩ => ⟨x, (h tmps w).symm.trans h1, h2⟩
 | [], .panicking _, _, h1 => h1
 | [], .run, _, h1 => h1
 | dd :: ds, u, w, ⟨h1, fv, cap, f, args, h2, h3, h4⟩ => ⟨h1, fv, cap, f, args, h2, h3, CallsD.mono h4 fun e u' w' h5 => by
   cases e with
   | returned x => exact leaves_put h tmps ds _ w' h5
   | panicked x => exact leaves_put h tmps ds _ w' h5
   | outgrown => exact h5⟩
theorem read_res {d : Nat} {v : Value} (hd : d ≠ 4) (tmps : Array Value) (w : World) : (results Tryz.f68 (tmps.setIfInBounds d v)).run Tryz.prog w = (results Tryz.f68 tmps).run Tryz.prog w := by
 have e : (tmps.setIfInBounds d v)[4]?.getD undef = tmps[4]?.getD undef := by rw [Array.getElem?_setIfInBounds_ne hd]
 simp [results, Tryz.results68, e]
theorem read_put {R : Ending → World → Prop} {d : Nat} {v : Value} (hd : d ≠ 4) (c : List PanicEntry) (a : Act) (w : World) (h : bodyPostD Tryz.prog Tryz.f68 R (.panic c) (a.put (some d) v) w) : bodyPostD Tryz.prog Tryz.f68 R (.panic c) a w :=
 leaves_put (read_res hd) a.tmps a.defers _ w h
set_option maxRecDepth 100000 in
set_option maxHeartbeats 4000000 in
theorem read_good (rb base : Nat) (v : Value) (st st' : RdSt) (line : ByteArray) (h : readLine st (splitC 32 (bl line)) = some st') (hsz : line.size ≤ 1000000) (hl : st.types.length ≤ 100000) (hrb : rb < base) (w : World) (hR : RdAt w rb base v st) (hbs : base ≤ w.heap.size) :
  Calls Tryz.prog 68 #[.pointer (some ⟨rb, 0, none⟩), .string line] w fun e w' => e = .returned (.bool true) ∧ LinePost rb base v st' w w' := by
 obtain ⟨w0, rest, hws⟩ : ∃ w0 rest, splitC 32 (bl line) = w0 :: rest := by
  rcases he : splitC 32 (bl line) with _ | ⟨a, b⟩
  ·exact absurd he (splitC_ne _ _)
  ·exact ⟨a, b, rfl⟩
 rw [hws] at h
 obtain ⟨w1, hw1⟩ : ∃ x, w.alloc (.cells #[.bool false] 4) = x := ⟨_, rfl⟩
 have hz1 : w1.heap.size = w.heap.size + 1 := by rw [← hw1]; simp
 have HS := Lib.hid (split_any line 32 hsz w1)
 rw [hws] at HS
 obtain ⟨w2, hw2⟩ : ∃ x, w1.alloc (.cells ((w0 :: rest).map fun l => Value.string (mkB l)).toArray 9) = x := ⟨_, rfl⟩
 rw [hw2] at HS
 have HW1 := Lib.hid hw1
 obtain ⟨i, F, hfind, hent, hcall⟩ := do_good rb base w1.heap.size v st st' w0 rest h (fun x hx => by have := splitC_le 32 (bl line) x (by rw [hws]; simp [hx]); rw [bl_len] at this; omega) hl hrb (by have := hR.box.lt; omega)
 have HF := Lib.hid hfind
 have HC := Lib.hid hcall
 have HE := Lib.hid hent
 have HR := Lib.hid hR
 clear hcall hfind hent h hR
 go_enter_defers Tryz.func68, Tryz.ntmps68
 go_upto_region 2 with fail
 go_upto_region 3 with (go_at_call 67; refine HS.out.mono ?_; rintro e W ⟨rfl, hW⟩; rw [hW]; clear hW)
 have hB2 : Below w.heap.size w w2 := by rw [← hw2, ← hw1]; go_grown
 have hz2 : w2.heap.size = w.heap.size + 2 := by rw [← hw2]; simp [hz1]
 have hBX1 : Box w1 w.heap.size #[.bool false] 4 := by rw [← hw1]; exact Box.new _ _ _
 have hBX : Box w2 w.heap.size #[.bool false] 4 := by rw [← hw2]; exact hBX1.alloc _
 have hWS : WordsAt w2 w1.heap.size (w0 :: rest) := fun k x hx => by
  rw [← hw2, (Box.new w1 _ _).cell, List.getElem?_toArray, List.getElem?_map, hx]; rfl
 have hlen : (w0 :: rest).length = rest.length + 1 := rfl
 clear hBX1 hw1 hw2 HW1 HS
 have hf : ∀ A, Below w2.heap.size w2 A → A.cell? ⟨w.heap.size + 1, 0, none⟩ = some (.string (mkB w0)) := fun A hA => below_cell hA (by rw [← hz1]; exact hWS 0 _ rfl)
 have K0 := Lib.hid hf
 have HBX := Lib.hid hBX
 have HWS := Lib.hid hWS
 clear hf hBX hWS
 refine wp_region_M (fun A => Below w2.heap.size w2 A) 10 (by kernel_rfl) ?_
 have hbd : Below w2.heap.size w2 w2.drew := (Below.refl _ w2).drew
 have hSS : Below w2.heap.size w2 w2.drew := hbd
 refine anyM_take (i := 1) (v := .slice (some ⟨w.heap.size + 1, 0, none⟩) (rest.length + 1) (rest.length + 1)) (by kernel_rfl) rfl (by kernel_rfl) (by kernel_rfl) (by kernel_rfl) (by kernel_rfl) (fun c a w h => read_put (by decide) c a w h) (by rfl) ?_ hSS ?_
 ·intro W hW; go_simp
 try (dsimp only); try simp only [Act.put, List.setIfInBounds_toArray, List.set_cons_zero, List.set_cons_succ]
 refine anyM_take (i := 2) (v := .pointer (some ⟨w.heap.size + 1, 0, none⟩)) (by kernel_rfl) rfl (by kernel_rfl) (by kernel_rfl) (by kernel_rfl) (by kernel_rfl) (fun c a w h => read_put (by decide) c a w h) (by rfl) ?_ hSS ?_
 ·intro W hW; go_simp
 try (dsimp only); try simp only [Act.put, List.setIfInBounds_toArray, List.set_cons_zero, List.set_cons_succ]
 refine anyM_take (i := 3) (v := .string (mkB w0)) (by kernel_rfl) rfl (by kernel_rfl) (by kernel_rfl) (by kernel_rfl) (by kernel_rfl) (fun c a w h => read_put (by decide) c a w h) (by rfl) ?_ hSS ?_
 ·intro W hW; have q0 := K0.out W hW; go_simp
 try (dsimp only); try simp only [Act.put, List.setIfInBounds_toArray, List.set_cons_zero, List.set_cons_succ]
 refine anyM_call (i := 0) (f := 127) (args := #[]) rfl (by kernel_rfl) (by rfl) ?_ (lines_any _) ?_
 ·go_simp
 rintro e W4 ⟨rfl, hm4, hb4⟩
 have hz2d : w2.drew.heap.size = w.heap.size + 2 := hz2
 rw [hz2d] at hm4
 have hb4' : Below w2.heap.size w2 W4 := hbd.trans hb4
 refine .inl ⟨_, rfl, .inr hb4', ?_⟩
 try (dsimp only); try simp only [Act.put, List.setIfInBounds_toArray, List.set_cons_zero, List.set_cons_succ]
 refine anyM_run (i := 4) (v := .tuple #[lineFn F, .bool true]) (w' := W4) rfl (by kernel_rfl) (by rfl) ?_ (.inr hb4') ?_
 ·have := run_lookup_str (P := Tryz.prog) (k := .string (mkB w0)) Tryz.underlying165 Tryz.underlying9 hm4 HF.out
  go_simp
 try (dsimp only); try simp only [Act.put, List.setIfInBounds_toArray, List.set_cons_zero, List.set_cons_succ]
 refine anyM_run (i := 5) (v := .tuple #[lineFn F, .bool true]) (w' := W4) rfl (by kernel_rfl) (by rfl) ?_ (.inr hb4') ?_
 ·go_simp
 try (dsimp only); try simp only [Act.put, List.setIfInBounds_toArray, List.set_cons_zero, List.set_cons_succ]
 have hSS : Below w2.heap.size w2 W4 := hb4'
 refine anyM_take (i := 6) (v := lineFn F) (by kernel_rfl) rfl (by kernel_rfl) (by kernel_rfl) (by kernel_rfl) (by kernel_rfl) (fun c a w h => read_put (by decide) c a w h) (by rfl) ?_ hSS ?_
 ·intro W hW; go_simp
 try (dsimp only); try simp only [Act.put, List.setIfInBounds_toArray, List.set_cons_zero, List.set_cons_succ]
 refine anyM_take (i := 7) (v := .bool true) (by kernel_rfl) rfl (by kernel_rfl) (by kernel_rfl) (by kernel_rfl) (by kernel_rfl) (fun c a w h => read_put (by decide) c a w h) (by rfl) ?_ hSS ?_
 ·intro W hW; go_simp
 try (dsimp only); try simp only [Act.put, List.setIfInBounds_toArray, List.set_cons_zero, List.set_cons_succ]
 refine anyM_run (i := 8) (v := lineFn F) (w' := W4) rfl (by kernel_rfl) (by rfl) ?_ (.inr hb4') ?_
 ·go_simp
 try (dsimp only); try simp only [Act.put, List.setIfInBounds_toArray, List.set_cons_zero, List.set_cons_succ]
 refine anyM_run (i := 9) (v := .bool true) (w' := W4) rfl (by kernel_rfl) (by rfl) ?_ (.inr hb4') ?_
 ·go_simp
 try (dsimp only); try simp only [Act.put, List.setIfInBounds_toArray, List.set_cons_zero, List.set_cons_succ]
 refine anyM_done (by kernel_rfl) ?_ _
 have hB4 : Below w.heap.size w W4 := hB2.trans (hb4'.mono hB2.size)
 have hBX4 : Box W4 w.heap.size #[.bool false] 4 := HBX.out.below' hb4'
 have hvlt : ∀ k, v.ownBlock = some k → k < w.heap.size := fun k hk => (HR.out.row.lt k hk).2
 have hRA4 : RdAt W4 rb base v st := ⟨HR.out.box.below' hB4, ownsRow_keep HR.out.row (Keep.of_below' (K := fun _ => True) hB4) (fun _ _ => trivial), HR.out.inv⟩
 have hWS4 : WordsAt W4 (w.heap.size + 1) (w0 :: rest) := by rw [← hz1]; exact HWS.out.keep (Keep.of_below' (K := fun _ => True) hb4') trivial
 have hsb4 : v.ownBlock ≠ some (w.heap.size + 1) := fun e => by have := hvlt _ e; omega
 have hc := HC.out W4 hRA4 (by rw [hz1]; exact hWS4) (by rw [hz1]; exact hsb4) (Nat.le_trans hbs hB4.size)
 rw [hz1] at hc
 have HCC := Lib.hid hc
 have hE := HE.out
 unfold lineFn
 clear hc hm4 K0 HWS HC hWS4 hRA4
 go_wp2_with (go_at_call 128; refine (need_good _).mono ?_; rintro e w' ⟨rfl, rfl⟩)
 refine HCC.out.mono ?_
 rintro e W5 ⟨rfl, v', hRA, hvv, hkp⟩
 have hrbs : w.heap.size ≠ rb := by omega
 have hno : v.ownBlock ≠ some w.heap.size := fun e => by have := hvlt _ e; omega
 have hBX5 : Box W5 w.heap.size #[.bool false] 4 := hkp.heap ⟨hno, hrbs⟩ hBX4
 obtain ⟨u1, u2⟩ := hBX5.rules
 go_wp2_with fail
 refine leaves_cons (f := 126) (args := #[.pointer (some ⟨w.heap.size, 0, none⟩)]) (by simp) (by simp [go_sem]) ?_
 refine (read1_idle ⟨w.heap.size, 0, none⟩ _).mono ?_
 rintro e u' w'' ⟨rfl, rfl, rfl⟩
 have m1 := (hBX5.set_ 0 (.bool true)).cell 0
 have m2 : (W5.setCell ⟨w.heap.size, 0, none⟩ (.bool true)).cell? ⟨w.heap.size, 0, none⟩ = some (.bool true) := m1
 have hgr : W5.grownBy (W5.setCell ⟨w.heap.size, 0, none⟩ (.bool true)) (some w.heap.size) := ⟨rfl, rfl, rfl, by simp, fun k _ hk => heap_setCell_other W5 ⟨w.heap.size, 0, none⟩ k _ (fun e => hk (by simp [e]))⟩
 have hz4 := hB4.size
 have hne' : v'.ownBlock ≠ some w.heap.size := fun e => by
  rcases hvv _ e with h | h
  ·exact hno h
  ·have := hb4'.size; omega
 have hR6 : RdAt (W5.setCell ⟨w.heap.size, 0, none⟩ (.bool true)) rb base v' st' := ⟨hRA.box.far (Ne.symm hrbs) _, hRA.row.kept hgr (.inr hne'), hRA.inv⟩
 have hk6 : Keep (fun k => v.ownBlock ≠ some k ∧ k ≠ rb) w (W5.setCell ⟨w.heap.size, 0, none⟩ (.bool true)) := ((Keep.of_below' hB4).trans hkp).setCell (.inr (Nat.le_refl _)) _
 have hL : LinePost rb base v st' w (W5.setCell ⟨w.heap.size, 0, none⟩ (.bool true)) := ⟨v', hR6, fun k hk => (hvv k hk).imp id fun h => by omega, hk6⟩
 generalize W5.setCell ⟨w.heap.size, 0, none⟩ (.bool true) = W6 at *
 simp [Leaves, settle, results, Tryz.results68, go_sem, m2]
 exact hL
end Go.Proofs.YthpjffhccjlnhaaGreatDoor
