/- Package profile: PrintTypes. No condition. -/
import Derived.Test.YthpjffhccjlnhaaGreatDoorMG14
import Derived.Test.YthpjffhccjlnhaaGreatDoorGParse
import Derived.Shelf.Strings.BuilderK
import Derived.Lib.SmallJoins
set_option linter.unusedSimpArgs false
set_option linter.unusedVariables false
namespace Go.Proofs
open Go.Shelf Go.RowKit
theorem Tryz.builder_WriteString_k (B b : Nat) (bs : List Value) (s : ByteArray) (w : World) (h : Lib.IsBuilderF 100 5 B b bs w) (hlen : bs.length + s.size ≤ 140737488355328) (hBw : B ≤ w.heap.size) :
  Calls Tryz.prog 72 #[.pointer (some ⟨b, 0, none⟩), .string s] w fun e w' => e = .returned (.tuple #[.int .i64 s.size, .nilIface]) ∧ (Lib.BuilderAtF 100 5 B b (.pointer (some ⟨b, 0, none⟩)) (bs ++ Lib.strCells s) w' ∧ Below B w w' ∧ Lib.OthersKept 5 (some b) w w') := Any.Builder_WriteString_k Tryz.laysWriteString Tryz.bExtraW B b bs s w h hlen hBw
theorem Tryz.builder_String_k (B b : Nat) (l : List UInt8) (w : World) (h : Lib.IsBuilderF 100 5 B b (Lib.byteCells l) w) (hBw : B ≤ w.heap.size) :
  Calls Tryz.prog 74 #[.pointer (some ⟨b, 0, none⟩)] w fun e w' => e = .returned (.string ⟨l.toArray⟩) ∧ Below B w w' := (Any.Builder_String_any_k Tryz.laysBString Tryz.bExtraS B b l w h hBw).mono fun e w' h => ⟨h.1, h.2.2.1⟩
namespace YthpjffhccjlnhaaGreatDoor
attribute [local go_sem] Oper.semAt_some
theorem exec_cat {P : Program} {o : Oper} {a : Act} {W : World} {s u : ByteArray} (t : TypeId) (x y : Operand) (ho : o.op = .binOp .add t x y t) (hx : a.eval x = .string s) (hy : a.eval y = .string u) (hs : s.size + u.size ≤ 1000000) : (execOp a.eval o).run P W = .ok (.value (.string (s ++ u))) W := by
 have h : ¬ (((s.size + u.size : Nat) : Int) > IntKind.i64.max) := by
  have : IntKind.i64.max = 9223372036854775807 := by decide
  rw [this]; omega
 unfold execOp
 simp only [ho, hx, hy, Sem.run_bind]
 simp [binOp_string_add, Op.stringOp, if_neg h, eqGuard]
 omega
theorem held_cat {P : Program} {ops : Array Oper} {S : World → Prop} {ks : List OVar} {fin : Act → Prop} {o : Oper} {rest : List Oper} {a : Act} {s u : ByteArray} (t : TypeId) (x y : Operand) (hna : isAlloc o = false) (hw : Region.wanted o (yielded ops a.tmps) = true) (ho : o.op = .binOp .add t x y t) (hx : a.eval x = .string s) (hy : a.eval y = .string u) (hs : s.size + u.size ≤ 1000000)
  (h : held P ops S ks fin rest (a.put o.dst (.string (s ++ u)))) : held P ops S ks fin (o :: rest) a :=
 held_val hna hw (fun _ _ => exec_cat t x y ho hx hy hs) h
theorem wpList_cat {P : Program} {ops : Array Oper} {Q : Exit → Act → World → Prop} {o : Oper} {rest : List Oper} {a : Act} {w : World} {s u : ByteArray} (hg : o.guard = none) (t : TypeId) (x y : Operand) (ho : o.op = .binOp .add t x y t) (hx : a.eval x = .string s) (hy : a.eval y = .string u) (hs : s.size + u.size ≤ 1000000)
  (h : wpList P ops Q rest (a.put o.dst (.string (s ++ u))) w) : wpList P ops Q (o :: rest) a w :=
 wpList_plain hg fun _ hK => by
  unfold Oper.wp
  rw [exec_cat t x y ho hx hy hs]
  exact hK _ _ h
theorem enc_cls : ∀ c, c < 26 → Utf8.encode ((97 : Int) + ((c : Nat) : Int)) = ⟨#[chC c]⟩ := by decide +kernel
theorem size_lit (a : Array UInt8) : (ByteArray.mk a).size = a.size := rfl
theorem bAt_below {T e : TypeId} {B b : Nat} {p : Value} {bs : List Value} {W W' : World} (h : Lib.BuilderAtF T e B b p bs W) (hb : Below W.heap.size W W') : Lib.BuilderAtF T e B b p bs W' := by
 have hlt := h.lt
 obtain ⟨hB, v, hv, hown, hne⟩ := h
 exact ⟨hB, v, (hb.block b hlt).trans hv, hown.kept (row := none) ⟨hb.os, hb.tape, hb.output, hb.size, fun k hk _ => hb.block k hk⟩ (Classical.em _), hne⟩
theorem isB_below {T e : TypeId} {B b : Nat} {bs : List Value} {W W' : World} (h : Lib.IsBuilderF T e B b bs W) (hb : Below W.heap.size W W') : Lib.IsBuilderF T e B b bs W' :=
 h.elim (fun x => .inl (bAt_below x hb)) (fun x => .inr (bAt_below x hb))
/-- what is written of a type ahead of its lines of after -/
def chunk1 (t : Typ) : List UInt8 := typeLine t ++ [10] ++ (rimLine t ++ [10]) ++ (baseLine t ++ [10])
def chunk2 (t : Typ) (k : Nat) : List UInt8 := (afterLines t k).flatMap (· ++ [10])
def printTo (l : List Typ) (k : Nat) : List UInt8 := printOf (l.take k)
theorem linesOf_chunk (t : Typ) : (linesOf t).flatMap (· ++ [10]) = chunk1 t ++ chunk2 t 26 := by
 simp [linesOf, chunk1, chunk2]
theorem printTo_succ {l : List Typ} {k : Nat} {t : Typ} (h : l[k]? = some t) : printTo l (k + 1) = printTo l k ++ (chunk1 t ++ chunk2 t 26) := by
 unfold printTo printOf
 rw [List.take_add_one, h]
 simp [linesOf_chunk]
theorem chunk2_zero (t : Typ) : chunk2 t 0 = [] := by simp [chunk2, afterLines]
theorem chunk2_none {t : Typ} {k : Nat} (h : bl (t.after k) = []) : chunk2 t (k + 1) = chunk2 t k := by
 unfold chunk2; rw [afterLines_succ, if_pos h, List.append_nil]
theorem chunk2_some {t : Typ} {k : Nat} (h : bl (t.after k) ≠ []) : chunk2 t (k + 1) = chunk2 t k ++ (afterLine k (t.after k) ++ [10]) := by
 unfold chunk2; rw [afterLines_succ, if_neg h]; simp
theorem dec_digits : ∀ n, n < 100 → Lib.decDigits n = decS (n : Int) := by decide +kernel
theorem bl_app (a b : ByteArray) : bl (a ++ b) = bl a ++ bl b := by simp [bl]
theorem decS_len (n : Int) : (decS n).length ≤ 2 := by unfold decS; split <;> simp
theorem chunk1_len {t : Typ} (h : SmlT t) : (chunk1 t).length ≤ 10000 := by
 have h1 := h.name; have h2 := h.ware; have h3 := h.rim; have h4 := h.base
 have h5 := decS_len t.least; have h6 := decS_len t.most
 rw [← bl_len] at h1 h2 h3 h4
 simp only [chunk1, typeLine, rimLine, baseLine, chars, wType, wRim, wBase, List.length_append, List.length_cons, List.length_map, List.length_nil]
 omega
theorem line_len {s : ByteArray} (h : s.size ≤ 1000) (c : Nat) : (afterLine c s ++ [10]).length ≤ 5000 := by
 rw [← bl_len] at h
 simp only [afterLine, chars, wAfter, List.length_append, List.length_cons, List.length_map, List.length_nil]
 omega
structure PrSt (B : Nat) (bs : List UInt8) (w W : World) : Prop where
 bld : Lib.IsBuilderF 100 5 B B (Lib.byteCells bs) W
 bel : Below B w W
 siz : B < W.heap.size
def printOut (l : List Typ) : ByteArray := if typesErr l = 0 then mkB (printOf l) else ByteArray.empty
set_option maxRecDepth 100000 in
set_option maxHeartbeats 4000000 in
theorem print_any (a : Option Addr) (c : Nat) (l : List Typ) (w : World) (h : TypesAt w a l) (hs : ∀ t, t ∈ l → SmlT t) (hl : l.length ≤ 1000000) (hlc : l.length ≤ c) :
  Calls Tryz.prog 21 #[.slice a l.length c] w fun e w' => e = .returned (.string (printOut l)) ∧ Below w.heap.size w w' := by
 have HC := Lib.hid (checkTypes_any a c l w h hs hl hlc)
 have HT := Lib.hid h
 have HSM := Lib.hid hs
 clear h hs
 go_enter Tryz.func21, Tryz.ntmps21
 go_wp2_with fail
 refine HC.out.mono ?_
 rintro e w1 ⟨rfl, hb1⟩
 have HT1 := Lib.hid (HT.out.below hb1)
 have HB1 := Lib.hid hb1
 clear hb1 HC HT
 by_cases h0 : typesErr l = 0
 rotate_left
 ·have HE : Hid (printOut l = ByteArray.empty) := Lib.hid (by unfold printOut; rw [if_neg h0])
  have hne : (typesErr l == 0) = false := by simpa using h0
  go_wp2_with fail
  go_ret
  exact ⟨by rw [HE.out]; rfl, HB1.out⟩
 have HG := Lib.hid ((typesErr_good h0).2)
 have hl12 := (typesErr_good h0).1
 have HE : Hid (printOut l = mkB (printOf l)) := Lib.hid (by unfold printOut; rw [if_pos h0])
 rw [h0]
 clear h0
 obtain ⟨w2, hw2⟩ : ∃ x, w1.alloc (.cells #[.pointer none, .slice none 0 0] 100) = x := ⟨_, rfl⟩
 have hP0 : PrSt w1.heap.size (printTo l 0) w1 w2 := by
  rw [← hw2]
  exact ⟨Lib.IsBuilderF.of (Lib.fresh_isBuilder _ _ _), by go_grown, by simp⟩
 have HP0 := Lib.hid hP0
 have HT2 := Lib.hid HT1.out
 clear hP0 HT1
 go_wp2_with fail
 clear hw2
 go_loopw [13] (fun iv wr => ∃ k : Nat, k ≤ l.length ∧ iv = .int .i64 k ∧ (printTo l k).length ≤ k * 200000 ∧ PrSt w1.heap.size (printTo l k) w1 wr) (fun iv _ => l.length - (intOf iv).toNat)
 case atStart => exact ⟨0, Nat.zero_le _, rfl, by simp [printTo, printOf], HP0.out⟩
 case round =>
  obtain ⟨k, hk, rfl, hbl, hst⟩ := hrel
  clear HP0
  have ST := Lib.hid hst
  clear hst
  by_cases hlt : k < l.length
  ·obtain ⟨x, hx⟩ : ∃ x, l[k]? = some x := ⟨l[k], by simp [hlt]⟩
   obtain ⟨b, o, rfl, hc⟩ := (HT2.out.keep' (K := fun _ => True) (by exact ⟨ST.out.bel.os, ST.out.bel.tape, ST.out.bel.output, ST.out.bel.size, fun j _ hj => ST.out.bel.block j hj⟩) (fun _ _ _ => trivial)) k x hx
   have hki : (k : Int) < (l.length : Int) := by omega
   have hk0 : (0 : Int) ≤ (k : Int) := by omega
   have hkw : IntKind.i64.wrap ((k : Int) + 1) = (k : Int) + 1 := IntWalk.i64_in _ (by omega)
   have HX := Lib.hid hx
   have HSX := Lib.hid (HSM.out x (List.mem_of_getElem? hx))
   have hty := HG.out k x hx
   obtain ⟨li, mo, hli, hmo, hl100, hm100⟩ : ∃ li mo : Nat, x.least = li ∧ x.most = mo ∧ li < 100 ∧ mo < 100 := by
    simp only [typeB, Bool.and_eq_true, inB, decide_eq_true_eq] at hty
    exact ⟨x.least.toNat, x.most.toNat, by omega, by omega, by omega, by omega⟩
   have HL := Lib.hid hc.load
   obtain ⟨w3, hw3⟩ : ∃ w3, wr.alloc (.cells (typCells typ0) 71) = w3 := ⟨_, rfl⟩
   have b3 : Box w3 wr.heap.size (typCells typ0) 71 := by rw [← hw3]; exact Box.new _ _ _
   have hb3 : Below wr.heap.size wr w3 := by rw [← hw3]; go_grown
   obtain ⟨w4, hst4, hw4⟩ := run_store_all (P := Tryz.prog) agg_typ b3 (typF x) (fun j _ => typF_one x j)
   have hb4 : Below wr.heap.size wr w4 := hw4.below hb3 (Nat.le_refl _)
   have HP4 := Lib.hid (show PrSt w1.heap.size (printTo l k) w1 w4 from ⟨isB_below ST.out.bld hb4, ST.out.bel.trans (hb4.mono ST.out.bel.size), Nat.lt_of_lt_of_le ST.out.siz hb4.size⟩)
   have HB4 := Lib.hid hw4.box
   have HX4 := Lib.hid hw4.box.typ
   have HST := Lib.hid hst4
   have HW3 := Lib.hid hw3
   have hxb : w1.heap.size < wr.heap.size := ST.out.siz
   clear hx hc hst4 hw4 hw3 b3 hb3 hb4 hty
   go_upto_region 7 with (first
    | (refine wpList_load_box rfl 71 _ rfl rfl HL.out ?_)
    | (simp only [ztyp, HW3.out]; refine wpList_store_box rfl 71 _ _ rfl rfl rfl HST.out ?_))
   refine wp_region_heldB 26 [] (by kernel_rfl) (by kernel_rfl) (by kernel_rfl) (by simp) ?_
   intro S hS
   obtain ⟨f1, f2, f3, f4, f5, f6⟩ := TypAt.fields HX4.out
   simp only [Nat.zero_add, hli, hmo] at f1 f2 f3 f4 f5 f6
   have k0 : ∀ A, S A → A.cell? ⟨wr.heap.size, 0, none⟩ = some (.string x.name) ∧ A.cell? ⟨wr.heap.size, 1, none⟩ = some (.string x.ware) ∧ A.cell? ⟨wr.heap.size, 2, none⟩ = some (.int .i64 li) ∧ A.cell? ⟨wr.heap.size, 3, none⟩ = some (.int .i64 mo) ∧ A.cell? ⟨wr.heap.size, 4, none⟩ = some (.string x.rim) ∧ A.cell? ⟨wr.heap.size, 5, none⟩ = some (.string x.base) := fun A hA =>
    ⟨below_cell (hS A hA) f1, below_cell (hS A hA) f2, below_cell (hS A hA) f3, below_cell (hS A hA) f4, below_cell (hS A hA) f5, below_cell (hS A hA) f6⟩
   have K0 := Lib.hid k0
   have HS := Lib.hid hS
   clear hS k0 f1 f2 f3 f4 f5 f6
   obtain ⟨D1, hD1, hD1s, hD1b⟩ : ∃ D : ByteArray, (⟨(Lib.decDigits li).toArray⟩ : ByteArray) = D ∧ D.size ≤ 2 ∧ bl D = decS li := ⟨_, rfl, by rw [size_lit, List.size_toArray, dec_digits li hl100]; exact decS_len _, by rw [← dec_digits li hl100]⟩
   obtain ⟨D2, hD2, hD2s, hD2b⟩ : ∃ D : ByteArray, (⟨(Lib.decDigits mo).toArray⟩ : ByteArray) = D ∧ D.size ≤ 2 ∧ bl D = decS mo := ⟨_, rfl, by rw [size_lit, List.size_toArray, dec_digits mo hm100]; exact decS_len _, by rw [← dec_digits mo hm100]⟩
   have n1 := HSX.out.name
   have n2 := HSX.out.ware
   have n3 := HSX.out.rim
   have n4 := HSX.out.base
   simp only [List.take_succ_cons, List.take_zero, List.drop_succ_cons, List.drop_zero]
   repeat (first
    | (refine held_cat _ _ _ rfl (by rfl) rfl rfl rfl (by simp only [ByteArray.size_append, size_lit, List.size_toArray, List.length_cons, List.length_nil]; omega) ?_; try (dsimp only); try simp only [Act.put, List.setIfInBounds_toArray, List.set_cons_zero, List.set_cons_succ])
    | (refine held_not rfl (by rfl) ?_; try (dsimp only); try simp only [Act.put, List.setIfInBounds_toArray, List.set_cons_zero, List.set_cons_succ])
    | (refine held_val (v := ?_) rfl (by rfl) ?_ ?_; rotate_left; (· (intro W hW; obtain ⟨q0, q1, q2, q3, q4, q5⟩ := K0.out W hW; go_simp; try with_reducible rfl)); try (dsimp only); try simp only [Act.put, List.setIfInBounds_toArray, List.set_cons_zero, List.set_cons_succ])
    | (refine held_skip rfl (by rfl) ?_ ?_; (· (intro W hW; obtain ⟨q0, q1, q2, q3, q4, q5⟩ := K0.out W hW; go_simp; try with_reducible rfl)); try (dsimp only); try simp only [Act.put, List.setIfInBounds_toArray, List.set_cons_zero, List.set_cons_succ])
    | (refine held_call (v := .string D1) (f := 73) (args := #[.int .i64 li]) rfl (by rfl) ?_ ?_ ?_; (· (intro W hW; go_simp; done)); (· exact (fun W hW => (Tryz.strconv_Itoa li hl100 W).mono fun e w' h => ⟨hD1 ▸ h.1, h.2 ▸ Below.refl _ _⟩)); try (dsimp only); try simp only [Act.put, List.setIfInBounds_toArray, List.set_cons_zero, List.set_cons_succ])
    | (refine held_call (v := .string D2) (f := 73) (args := #[.int .i64 mo]) rfl (by rfl) ?_ ?_ ?_; (· (intro W hW; go_simp; done)); (· exact (fun W hW => (Tryz.strconv_Itoa mo hm100 W).mono fun e w' h => ⟨hD2 ▸ h.1, h.2 ▸ Below.refl _ _⟩)); try (dsimp only); try simp only [Act.put, List.setIfInBounds_toArray, List.set_cons_zero, List.set_cons_succ]))
   refine held_nil ?_
   intro τ hτ W5 hW hO
   obtain rfl := laid0 hτ
   have hb5 : Below w4.heap.size w4 W5 := HS.out W5 hW
   have HP5 := Lib.hid (show PrSt w1.heap.size (printTo l k) w1 W5 from ⟨isB_below HP4.out.bld hb5, HP4.out.bel.trans (hb5.mono HP4.out.bel.size), Nat.lt_of_lt_of_le HP4.out.siz hb5.size⟩)
   have HB5 := Lib.hid (HB4.out.below' hb5)
   have HT5 := Lib.hid (HX4.out.below hb5)
   clear hτ hO hW K0 HS HST HP4 HB4 HX4 HL HW3
   simp only [overs, List.foldl_nil]
   have hbyt : (Lib.byteCells (printTo l k)).length = (printTo l k).length := Lib.byteCells_length _
   have hlen1 := chunk1_len HSX.out
   go_wp2_with (go_at_call 72; refine (Tryz.builder_WriteString_k w1.heap.size w1.heap.size (Lib.byteCells (printTo l k)) _ W5 HP5.out.bld ?hlen (Nat.le_of_lt HP5.out.siz)).mono ?_)
   case hlen =>
    simp only [ByteArray.size_append, size_lit, List.size_toArray, List.length_cons, List.length_nil]; omega
   rintro e W6 ⟨rfl, hbu, hb6, ho6⟩
   have hch : ∀ s : ByteArray, bl s = chunk1 x → Lib.BuilderAtF 100 5 w1.heap.size w1.heap.size (.pointer (some ⟨w1.heap.size, 0, none⟩)) (Lib.byteCells (printTo l k) ++ Lib.strCells s) W6 → PrSt w1.heap.size (printTo l k ++ chunk1 x ++ chunk2 x 0) w1 W6 := fun s e h => by
    refine ⟨.inr ?_, HP5.out.bel.trans hb6, Nat.lt_of_lt_of_le HP5.out.siz hb6.size⟩
    rw [Lib.strCells_eq, ← Lib.byteCells_append] at h
    rw [chunk2_zero, List.append_nil, ← e]; exact h
   have HP6 := Lib.hid (hch _ (by simp [chunk1, typeLine, rimLine, baseLine, chars, wType, wRim, wBase, hli, hmo, hD1b, hD2b, bl_app]) hbu)
   have hbx6 : Box W6 wr.heap.size (typCells x) 71 := ho6 wr.heap.size _ HB5.out (by simp; omega) (fun cc fz e => by injection e with _ e2 _; exact absurd e2 (by decide))
   have HL6 := Lib.hid (TypAt.aft (Box.typ hbx6))
   clear hbu hb6 ho6 hch hbx6 HP5 HB5 HT5
   simp only [Nat.zero_add] at HL6
   go_wp2_with (refine wpList_load_box rfl 69 _ rfl rfl HL6.out ?_)
   clear HL6
   go_loopw [46] (fun iv wr => ∃ c : Nat, c ≤ 26 ∧ iv = .int .i64 c ∧ (printTo l k ++ chunk1 x ++ chunk2 x c).length ≤ k * 200000 + 10000 + c * 5000 ∧ PrSt w1.heap.size (printTo l k ++ chunk1 x ++ chunk2 x c) w1 wr) (fun iv _ => 26 - (intOf iv).toNat)
   case atStart => exact ⟨0, Nat.zero_le _, rfl, by rw [chunk2_zero, List.append_nil, List.length_append]; omega, HP6.out⟩
   case round =>
    obtain ⟨c2, hc2, rfl, hbl2, hst2⟩ := hrel
    clear HP6
    have ST2 := Lib.hid hst2
    clear hst2
    by_cases hlt2 : c2 < 26
    ·have hci : (c2 : Int) < 26 := by omega
     have hc0 : (0 : Int) ≤ (c2 : Int) := by omega
     have hix := run_index_aft x hlt2
     have hcw : IntKind.i64.wrap ((c2 : Int) + 1) = (c2 : Int) + 1 := IntWalk.i64_in _ (by omega)
     have hcw2 : IntKind.i64.wrap ((97 : Int) + (c2 : Int)) = (97 : Int) + (c2 : Int) := IntWalk.i64_in _ (by omega)
     have hcw3 : IntKind.i32.wrap ((97 : Int) + (c2 : Int)) = (97 : Int) + (c2 : Int) := by unfold IntKind.wrap; simp [IntKind.bits, IntKind.signed]; omega
     have henc := enc_cls c2 hlt2
     have hsa := HSX.out.after c2 hlt2
     by_cases hn : bl (x.after c2) = []
     ·have e1 : (x.after c2).toList.isEmpty = true := by rw [ByteArray.toList_eq]; simpa using hn
      have HREL := Lib.hid (show ∃ c : Nat, c ≤ 26 ∧ Value.int .i64 ((c2 : Int) + 1) = .int .i64 c ∧ (printTo l k ++ chunk1 x ++ chunk2 x c).length ≤ k * 200000 + 10000 + c * 5000 ∧ PrSt w1.heap.size (printTo l k ++ chunk1 x ++ chunk2 x c) w1 wr from ⟨c2 + 1, by omega, rfl, by rw [chunk2_none hn]; omega, by rw [chunk2_none hn]; exact ST2.out⟩)
      go_wp2_with fail
      exact ⟨HREL.out, by simp [intOf]; omega⟩
     ·have e1 : (x.after c2).toList.isEmpty = false := by rw [ByteArray.toList_eq]; simpa using hn
      have hbyt2 : (Lib.byteCells (printTo l k ++ chunk1 x ++ chunk2 x c2)).length = (printTo l k ++ chunk1 x ++ chunk2 x c2).length := Lib.byteCells_length _
      go_wp2_with (first
       | (refine wpList_cat rfl _ _ _ rfl rfl rfl (by simp only [ByteArray.size_append, size_lit, List.size_toArray, List.length_cons, List.length_nil]; omega) ?_)
       | (go_at_call 72; refine (Tryz.builder_WriteString_k w1.heap.size w1.heap.size (Lib.byteCells (printTo l k ++ chunk1 x ++ chunk2 x c2)) _ wr ST2.out.bld ?hlen (Nat.le_of_lt ST2.out.siz)).mono ?_))
      case hlen =>
       simp only [ByteArray.size_append, size_lit, List.size_toArray, List.length_cons, List.length_nil]; omega
      rintro e W7 ⟨rfl, hbu, hb7, -⟩
      have hch : ∀ s : ByteArray, bl s = afterLine c2 (x.after c2) ++ [10] → Lib.BuilderAtF 100 5 w1.heap.size w1.heap.size (.pointer (some ⟨w1.heap.size, 0, none⟩)) (Lib.byteCells (printTo l k ++ chunk1 x ++ chunk2 x c2) ++ Lib.strCells s) W7 → PrSt w1.heap.size (printTo l k ++ chunk1 x ++ chunk2 x (c2 + 1)) w1 W7 := fun s e h => by
       refine ⟨.inr ?_, ST2.out.bel.trans hb7, Nat.lt_of_lt_of_le ST2.out.siz hb7.size⟩
       rw [Lib.strCells_eq, ← Lib.byteCells_append] at h
       rw [chunk2_some hn, ← e, ← List.append_assoc]; exact h
      have hP7 := hch _ (by simp [afterLine, chars, wAfter, bl_app]) hbu
      have hll := line_len hsa c2
      have HREL := Lib.hid (show ∃ c : Nat, c ≤ 26 ∧ Value.int .i64 ((c2 : Int) + 1) = .int .i64 c ∧ (printTo l k ++ chunk1 x ++ chunk2 x c).length ≤ k * 200000 + 10000 + c * 5000 ∧ PrSt w1.heap.size (printTo l k ++ chunk1 x ++ chunk2 x c) w1 W7 from ⟨c2 + 1, by omega, rfl, by rw [chunk2_some hn, ← List.append_assoc, List.length_append]; omega, hP7⟩)
      clear hbu hch hP7
      go_wp2_with fail
      exact ⟨HREL.out, by simp [intOf]; omega⟩
    ·have hkn : decide ((c2 : Int) < 26) = false := by simp; omega
     have hke : c2 = 26 := by omega
     subst hke
     have HREL := Lib.hid (show ∃ j : Nat, j ≤ l.length ∧ Value.int .i64 ((k : Int) + 1) = .int .i64 j ∧ (printTo l j).length ≤ j * 200000 ∧ PrSt w1.heap.size (printTo l j) w1 wr from ⟨k + 1, by omega, rfl, by rw [printTo_succ HX.out, ← List.append_assoc]; omega, by rw [printTo_succ HX.out, ← List.append_assoc]; exact ST2.out⟩)
     go_wp2_with fail
     exact ⟨HREL.out, by simp [intOf]; omega⟩
  ·have hkn : decide ((k : Int) < (l.length : Int)) = false := by simp; omega
   have hke : k = l.length := by omega
   subst hke
   have hfull : printTo l l.length = printOf l := by unfold printTo; rw [List.take_length]
   rw [hfull] at ST
   have HSTR := Lib.hid (Tryz.builder_String_k w1.heap.size w1.heap.size (printOf l) wr ST.out.bld (Nat.le_of_lt ST.out.siz))
   go_wp2_with fail
   refine HSTR.out.mono ?_
   rintro e W8 ⟨rfl, hb8⟩
   have hB8 : Below w.heap.size w W8 := HB1.out.trans ((ST.out.bel.trans hb8).mono HB1.out.size)
   clear HSTR
   go_wp2_with fail
   go_ret
   exact ⟨by rw [HE.out]; rfl, hB8⟩
end YthpjffhccjlnhaaGreatDoor
end Go.Proofs
