/- The reference: SameTypes of two equal lists. No condition. -/
import Derived.Test.YthpjffhccjlnhaaGreatDoorMG21
import Derived.Test.YthpjffhccjlnhaaGreatDoorMG1
set_option linter.unusedSimpArgs false
set_option linter.unusedVariables false
namespace Go.Proofs.YthpjffhccjlnhaaGreatDoor
open Go.RowKit
attribute [local go_sem] Oper.semAt_some

section
variable {P : Program} {w : World}
theorem eqFields_self (d : Nat) (xs : Array Value) : ∀ fs : List Field, (∀ f, f ∈ fs → ∃ v, (part f.type xs f.offset).run P w = .ok v w ∧ (Op.equalIn d f.type v v).run P w = .ok true w) → (Op.eqFields d xs xs fs).run P w = .ok true w
 | [], _ => by simp [Op.eqFields]
 | f :: fs, h => by
  obtain ⟨v, h1, h2⟩ := h f (by simp)
  have ih := eqFields_self d xs fs (fun g hg => h g (by simp [hg]))
  simp only [Op.eqFields, Sem.run_bind, Sem.run_ite]
  split
  ·simp only [h1, h2, Result.andThen_ok, Bool.not_true, Bool.false_eq_true, if_false, ih]
  ·simpa using ih
theorem eqItems_self (d : Nat) (e : TypeId) (c : Nat) (xs : Array Value) : ∀ is : List Nat, (∀ i, i ∈ is → ∃ v, (part e xs (i * c)).run P w = .ok v w ∧ (Op.equalIn d e v v).run P w = .ok true w) → (Op.eqItems d e c xs xs is).run P w = .ok true w
 | [], _ => by simp [Op.eqItems]
 | i :: is, h => by
  obtain ⟨v, h1, h2⟩ := h i (by simp)
  have ih := eqItems_self d e c xs is (fun g hg => h g (by simp [hg]))
  simp only [Op.eqItems, Sem.run_bind, h1, h2, Result.andThen_ok, Bool.not_true, Bool.false_eq_true, if_false, ih]
end
theorem str_plain : Tryz.prog.plainKey 9 = true := by kernel_rfl
theorem int_plain : Tryz.prog.plainKey 3 = true := by kernel_rfl
theorem str_cells7 : Tryz.prog.cellsOf 9 = 1 := by kernel_rfl
theorem str_self (d : Nat) (s : ByteArray) (w : World) : (Op.equalIn (d + 1) 9 (.string s) (.string s)).run Tryz.prog w = .ok true w := by
 rw [run_equalIn_string w d 9 s s (by kernel_rfl)]; simp
theorem int_self (d : Nat) (x : Int) (w : World) : (Op.equalIn (d + 1) 3 (.int .i64 x) (.int .i64 x)).run Tryz.prog w = .ok true w := by
 rw [run_equalIn_int w d 3 .i64 .i64 x x (by kernel_rfl)]; simp
theorem aft_self (t : Typ) (w : World) : (Op.equalIn 9999 69 (.agg (fnCells 26 (aftF t))) (.agg (fnCells 26 (aftF t)))).run Tryz.prog w = .ok true w := by
 obtain ⟨i, hi⟩ : ∃ i, Tryz.prog.info? 9 = some i := info_of_underlying (d := .string) (by kernel_rfl)
 rw [show 9999 = 9998 + 1 from rfl, run_equalIn_array (P := Tryz.prog) w 9998 (t := 69) (e := 9) (n := 26) _ _ Tryz.underlying69 hi]
 refine eqItems_self _ _ _ _ _ fun j hj => ⟨.string (t.after j), run_part_plain w str_plain ?_, str_self _ _ _⟩
 rw [str_cells7, Nat.mul_one]
 exact fnCells_get (by simpa using hj)
theorem typ_fields : ((Tryz.prog.fieldsOf 71).toList.map fun f => (f.offset, f.type)) = [(0, 9), (1, 9), (2, 3), (3, 3), (4, 9), (5, 9), (6, 69)] := by kernel_rfl
theorem part_aft (t : Typ) (w : World) : (part 69 (typCells t) 6).run Tryz.prog w = .ok (.agg (fnCells 26 (aftF t))) w := by
 have ha : (isAgg 69).run Tryz.prog w = .ok true w := by kernel_rfl
 have hs : (sizeOf 69).run Tryz.prog w = .ok 26 w := by kernel_rfl
 have hx : (typCells t).extract 6 (6 + 26) = fnCells 26 (aftF t) := by
  refine fnCells_ext (by simp [typCells, fnCells_size]) fun i hi => ?_
  have hsz : (typCells t).size = 32 := fnCells_size 32 (typF t)
  rw [Array.getElem?_extract, if_pos (by rw [hsz]; omega)]
  rw [show (typCells t)[6 + i]? = some (typF t (6 + i)) from fnCells_get (by omega), Nat.add_comm 6 i]; rfl
 simp [part, ha, hs, hx]
theorem typ_self (t : Typ) (w : World) : (Op.equalIn 10000 71 (.agg (typCells t)) (.agg (typCells t))).run Tryz.prog w = .ok true w := by
 rw [show 10000 = 9999 + 1 from rfl, run_equalIn_struct w 9999 71 _ _ (by kernel_rfl) (by kernel_rfl)]
 refine eqFields_self _ _ _ fun f hf => ?_
 have hm : (f.offset, f.type) ∈ ((Tryz.prog.fieldsOf 71).toList.map fun f => (f.offset, f.type)) := List.mem_map.2 ⟨f, hf, rfl⟩
 rw [typ_fields] at hm
 simp only [List.mem_cons, Prod.mk.injEq, List.not_mem_nil, or_false] at hm
 rcases hm with ⟨h1, h2⟩ | ⟨h1, h2⟩ | ⟨h1, h2⟩ | ⟨h1, h2⟩ | ⟨h1, h2⟩ | ⟨h1, h2⟩ | ⟨h1, h2⟩
 ·rw [h1, h2]; exact ⟨.string t.name, run_part_plain w str_plain (fnCells_get (i := 0) (by omega)), str_self _ _ _⟩
 ·rw [h1, h2]; exact ⟨.string t.ware, run_part_plain w str_plain (fnCells_get (i := 1) (by omega)), str_self _ _ _⟩
 ·rw [h1, h2]; exact ⟨.int .i64 t.least, run_part_plain w int_plain (fnCells_get (i := 2) (by omega)), int_self _ _ _⟩
 ·rw [h1, h2]; exact ⟨.int .i64 t.most, run_part_plain w int_plain (fnCells_get (i := 3) (by omega)), int_self _ _ _⟩
 ·rw [h1, h2]; exact ⟨.string t.rim, run_part_plain w str_plain (fnCells_get (i := 4) (by omega)), str_self _ _ _⟩
 ·rw [h1, h2]; exact ⟨.string t.base, run_part_plain w str_plain (fnCells_get (i := 5) (by omega)), str_self _ _ _⟩
 ·rw [h1, h2]; exact ⟨.agg (fnCells 26 (aftF t)), part_aft t w, aft_self t w⟩
theorem run_neq_typ (t : Typ) (w : World) : (binOp .neq 71 (.agg (typCells t)) (.agg (typCells t))).run Tryz.prog w = .ok (.bool false) w := by
 rw [run_neq_struct, typ_self]; rfl
theorem exec_neq_typ {o : Oper} {a : Act} {t : Typ} (x y : Operand) (ho : o.op = .binOp .neq 71 x y 71) (hx : a.eval x = .agg (typCells t)) (hy : a.eval y = .agg (typCells t)) (W : World) : (execOp a.eval o).run Tryz.prog W = .ok (.value (.bool false)) W := by
 have hg := run_eqGuard_agg (P := Tryz.prog) W .neq 71 x y (typCells t) (typCells t) (by kernel_rfl)
 simp [execOp, ho, hx, hy, hg, run_neq_typ]
set_option maxRecDepth 100000 in
set_option maxHeartbeats 2000000 in
theorem sameTypes_any (xa ya : Option Addr) (xc yc : Nat) (l : List Typ) (hl : l.length ≤ 1000000) (w : World) (hx : TypesAt w xa l) (hy : TypesAt w ya l) :
  Calls Tryz.prog 22 #[.slice xa l.length xc, .slice ya l.length yc] w fun e w' => e = .returned (.bool true) ∧ Below w.heap.size w w' := by
 have HX := Lib.hid hx
 have HY := Lib.hid hy
 clear hx hy
 go_enter Tryz.func22, Tryz.ntmps22
 go_wp2_with fail
 go_loopw [5] (fun iv wr => ∃ i : Nat, i ≤ l.length ∧ iv = .int .i64 i ∧ Below w.heap.size w wr) (fun iv _ => l.length - (intOf iv).toNat)
 case atStart => exact ⟨0, Nat.zero_le _, rfl, Below.refl _ _⟩
 case round =>
  obtain ⟨i, hi, rfl, hb⟩ := hrel
  have HB := Lib.hid hb
  clear hb
  by_cases hlt : i < l.length
  ·obtain ⟨t, ht⟩ : ∃ t, l[i]? = some t := ⟨l[i], by simp [hlt]⟩
   obtain ⟨b, o, rfl, h1⟩ := (HX.out.below HB.out) i t ht
   obtain ⟨b', o', rfl, h2⟩ := (HY.out.below HB.out) i t ht
   have H1 := Lib.hid h1
   have H2 := Lib.hid h2
   have hki : (i : Int) < (l.length : Int) := by omega
   have hk0 : (0 : Int) ≤ (i : Int) := by omega
   clear ht h1 h2
   go_upto_region 6 with fail
   refine wp_region_heldB 9 [] (by kernel_rfl) (by kernel_rfl) (by kernel_rfl) (by simp) ?_
   intro S hS
   have L1 := Lib.hid (fun A hA => TypAt.load (H1.out.below (hS A hA)))
   have L2 := Lib.hid (fun A hA => TypAt.load (H2.out.below (hS A hA)))
   have K0 := trivial
   have HS := Lib.hid hS
   clear hS
   simp only [List.take_succ_cons, List.take_zero, List.drop_succ_cons, List.drop_zero]
   repeat (first
    | (refine held_val (v := .bool false) rfl (by rfl) ?_ ?_; (· (intro W hW; exact exec_neq_typ _ _ rfl (by rfl) (by rfl) W)); try (dsimp only); try simp only [Act.put, List.setIfInBounds_toArray, List.set_cons_zero, List.set_cons_succ])
    | (refine held_load 71 _ (by rfl) rfl rfl L1.out ?_; try (dsimp only); try simp only [Act.put, List.setIfInBounds_toArray, List.set_cons_zero, List.set_cons_succ])
    | (refine held_load 71 _ (by rfl) rfl rfl L2.out ?_; try (dsimp only); try simp only [Act.put, List.setIfInBounds_toArray, List.set_cons_zero, List.set_cons_succ])
    | (refine held_not rfl (by rfl) ?_; try (dsimp only); try simp only [Act.put, List.setIfInBounds_toArray, List.set_cons_zero, List.set_cons_succ])
    | (refine held_val (v := ?_) rfl (by rfl) ?_ ?_; rotate_left; (· (intro W hW; go_simp; try with_reducible rfl)); try (dsimp only); try simp only [Act.put, List.setIfInBounds_toArray, List.set_cons_zero, List.set_cons_succ])
    | (refine held_skip rfl (by rfl) ?_ ?_; (· (intro W hW; go_simp; try with_reducible rfl)); try (dsimp only); try simp only [Act.put, List.setIfInBounds_toArray, List.set_cons_zero, List.set_cons_succ]))
   refine held_nil ?_
   intro τ hτ W2 hW hO
   obtain rfl := laid0 hτ
   have HB2 := Lib.hid (HB.out.trans ((HS.out W2 hW).mono HB.out.size))
   clear hτ hO hW K0 HS
   simp only [overs, List.foldl_nil]
   go_wp2_with fail
   go_roundw
   case rel => exact ⟨i + 1, by omega, by go_num, HB2.out⟩
   case measure => simp [intOf]; omega
  ·have hkn : decide ((i : Int) < (l.length : Int)) = false := by simp; omega
   go_wp2_with fail
   go_ret
   exact ⟨rfl, HB.out⟩
end Go.Proofs.YthpjffhccjlnhaaGreatDoor
