/- The reference: Wares. No condition. -/
import Derived.Test.YthpjffhccjlnhaaGreatDoorGWares
import Derived.Test.YthpjffhccjlnhaaGreatDoorMG19
set_option linter.unusedSimpArgs false
set_option linter.unusedVariables false
namespace Go.Proofs.YthpjffhccjlnhaaGreatDoor
open Go.RowKit
attribute [local go_sem] Oper.semAt_some

/-- the wares so far, in order -/
structure WsOk (l : List Typ) (k : Nat) (O : List ByteArray) : Prop where
 asc : AscS (O.map bl)
 mem : ∀ x : BL, x ∈ O.map bl ↔ x ∈ (l.take k).map fun t => bl t.ware
structure WrSt (w : World) (ov : Value) (O : List ByteArray) (W : World) : Prop where
 o : ∃ b0, w.heap.size ≤ b0 ∧ W.ownsRow b0 9 1 ov O.length (O.map Value.string)
 b : Below w.heap.size w W
theorem WrSt.below {w : World} {ov : Value} {O : List ByteArray} {W W' : World} (h : WrSt w ov O W) (hb : Below W.heap.size W W') : WrSt w ov O W' := by
 obtain ⟨b0, h0, h1⟩ := h.o
 exact ⟨⟨b0, h0, ownsRow_keep h1 (Keep.of_below' (K := fun _ => True) hb) (fun _ _ => trivial)⟩, h.b.trans (hb.mono h.b.size)⟩
theorem str_one5 (A : List ByteArray) : ∀ u ∈ A.map Value.string, u.oneCell' = true := fun u hu => by
 obtain ⟨k, _, rfl⟩ := List.mem_map.1 hu; rfl
/-- a string put into a row, built anew -/
theorem ins_row {W : World} {b0 : Nat} {ov : Value} {O : List ByteArray} {j : Nat} {x : ByteArray} {oa : Option Addr} {oc : Nat} (hv : ov = .slice oa O.length oc) (ho : W.ownsRow b0 9 1 ov O.length (O.map Value.string)) (hj : j ≤ O.length) (hn : O.length ≤ 1000) (ad : Option Addr)
  (hB : Row W ad ((O.drop j).map Value.string)) :
  ∃ v1 U1 v2 U2 v3 U3, (Builtin.append_ #[85, 85] 85 #[.slice (some ⟨W.heap.size, 0, none⟩) 0 0, .slice oa j oc]).run Tryz.prog (W.alloc (.cells #[] 9)) = .ok v1 U1 ∧ Below W.heap.size W U1 ∧
   (Instr.buildSlice 85 1 #[(0, .string x)]).run Tryz.prog U1 = .ok (.slice (some ⟨U1.heap.size, 0, none⟩) 1 1) (U1.alloc (.cells (fnCells 1 fun _ => .string x) 9)) ∧
   (Builtin.append_ #[85, 85] 85 #[v1, .slice (some ⟨U1.heap.size, 0, none⟩) 1 1]).run Tryz.prog (U1.alloc (.cells (fnCells 1 fun _ => .string x) 9)) = .ok v2 U2 ∧
   (Builtin.append_ #[85, 85] 85 #[v2, .slice ad (O.length - j) (oc - j)]).run Tryz.prog U2 = .ok v3 U3 ∧ Below W.heap.size W U3 ∧ U3.ownsRow W.heap.size 9 1 v3 (O.take j ++ x :: O.drop j).length ((O.take j ++ x :: O.drop j).map Value.string) := by
 obtain ⟨a', c', e, hro, _⟩ := ownsRow_own ho
 rw [hv] at e
 cases e
 have hrow : Row W oa (O.map Value.string) := fun k v hk => by
  obtain ⟨g, o, ha, _, hc, _⟩ := hro k v hk
  exact ⟨g, o, ha, hc⟩
 have hA : Row W oa ((O.take j).map Value.string) := fun k v hk => hrow k v (by
  rw [List.map_take, List.getElem?_take] at hk
  split at hk
  ·exact hk
  ·cases hk)
 have hbe : Below W.heap.size W (W.alloc (.cells #[] 9)) := (Below.refl _ W).alloc (Nat.le_refl _) _
 have hoe := ownsRow_empty W W.heap.size 9 1 (Nat.le_refl _)
 obtain ⟨v1, U1, hr1, ho1, hg1, -⟩ := run_append_row (P := Tryz.prog) (W.alloc (.cells #[] 9)) W.heap.size 85 85 9 _ 1 16 Tryz.underlying85 info_str rfl (by omega)
  _ 0 [] hoe oa j oc ((O.take j).map Value.string) (by rw [List.length_map, List.length_take]; omega) (hA.below hbe) (str_one5 _) (by omega) (by omega) hbe.size
 have hb1 : Below W.heap.size W U1 := hbe.grown hg1 hbe.size (fun j hj => (hoe.lt j hj).1)
 have hbs := run_bslice (P := Tryz.prog) (T := 85) Tryz.underlying85 info_str2 (by omega) (by omega) (v := .string x) (g := fun _ => .string x) rfl U1
 obtain ⟨v2, U2, hr2, ho2, hb2, -, -⟩ := app_fn (P := Tryz.prog) (TT := 85) Tryz.underlying85 info_str rfl (by omega) (by omega) ho1 (by omega) hb1.size (fun _ => .string x) (fun j _ => rfl)
 have hb2' : Below W.heap.size W U2 := hb1.trans hb2
 obtain ⟨v3, U3, hr3, ho3, hg3, -⟩ := run_append_row (P := Tryz.prog) U2 W.heap.size 85 85 9 _ 1 16 Tryz.underlying85 info_str rfl (by omega)
  _ _ _ ho2 ad (O.length - j) (oc - j) ((O.drop j).map Value.string) (by rw [List.length_map, List.length_drop]; omega) (hB.below hb2') (str_one5 _) (by omega) (by omega) hb2'.size
 have hb3 : Below W.heap.size W U3 := hb2'.grown hg3 hb2'.size (fun j hj => (ho2.lt j hj).1)
 refine ⟨v1, U1, v2, U2, v3, U3, hr1, hb1, hbs, hr2, hr3, hb3, ?_⟩
 have hlen : 0 + j + 1 + (O.length - j) = (O.take j ++ x :: O.drop j).length := by
  rw [List.length_append, List.length_cons, List.length_take, List.length_drop]; omega
 rw [← hlen]
 have hval : [] ++ (O.take j).map Value.string ++ (fnCells 1 fun _ => Value.string x).toList ++ (O.drop j).map Value.string = (O.take j ++ x :: O.drop j).map Value.string := by
  rw [List.map_append, List.map_cons, List.nil_append, List.append_assoc]; rfl
 rw [← hval]
 exact ho3
theorem WsOk.done {l : List Typ} {O : List ByteArray} (h : WsOk l l.length O) : waresT l = O := by
 have := waresL_eq (l := l.map fun t => bl t.ware) h.asc (by
  intro x
  have := h.mem x
  rwa [List.take_length] at this)
 unfold waresT
 rw [this, List.map_map]
 conv => rhs; rw [← List.map_id O]
 exact List.map_congr_left fun x _ => mkB_bl x
theorem WsOk.skip {l : List Typ} {k : Nat} {O : List ByteArray} {t : Typ} (h : WsOk l k O) (ht : l[k]? = some t) (hm : bl t.ware ∈ O.map bl) : WsOk l (k + 1) O := by
 refine ⟨h.asc, fun x => ?_⟩
 rw [h.mem, List.take_add_one, ht, List.map_append, List.mem_append]
 constructor
 ·exact .inl
 ·rintro (h1 | h1)
  ·exact h1
  ·have e : x = bl t.ware := by simpa using h1
   subst e
   exact (h.mem _).1 hm
theorem WsOk.ins {l : List Typ} {k j : Nat} {O : List ByteArray} {t : Typ} (h : WsOk l k O) (ht : l[k]? = some t) (ha : ∀ y, j ≠ 0 → O[j - 1]? = some y → bl y < bl t.ware) (hj : j ≤ O.length) (hb : ∀ y, O[j]? = some y → bl t.ware < bl y) : WsOk l (k + 1) (O.take j ++ t.ware :: O.drop j) := by
 refine ⟨?_, fun x => ?_⟩
 ·rw [List.map_append, List.map_cons]
  have hsplit : O.map bl = (O.take j).map bl ++ (O.drop j).map bl := by rw [← List.map_append, List.take_append_drop]
  refine insert_asc (hsplit ▸ h.asc) (fun y hy => ?_) (fun y hy => ?_)
  ·rw [List.getLast?_eq_getElem?, List.getElem?_map, List.length_map, List.length_take, Nat.min_eq_left hj] at hy
   obtain ⟨z, hz, rfl⟩ := Option.map_eq_some_iff.1 hy
   rw [List.getElem?_take] at hz
   split at hz
   ·exact ha z (by omega) hz
   ·cases hz
  ·rw [List.head?_map, List.head?_drop] at hy
   obtain ⟨z, hz, rfl⟩ := Option.map_eq_some_iff.1 hy
   exact hb z hz
 ·have h1 := h.mem x
  have e1 : ((l.take (k + 1)).map fun t => bl t.ware) = ((l.take k).map fun t => bl t.ware) ++ [bl t.ware] := by rw [List.take_add_one, ht, List.map_append]; rfl
  have hsplit : x ∈ O.map bl ↔ x ∈ (O.take j).map bl ∨ x ∈ (O.drop j).map bl := by rw [← List.mem_append, ← List.map_append, List.take_append_drop]
  rw [e1, List.mem_append, List.mem_singleton, ← h1, hsplit, List.map_append, List.map_cons, List.mem_append, List.mem_cons]
  constructor
  ·rintro (h | h | h)
   ·exact .inl (.inl h)
   ·exact .inr h
   ·exact .inl (.inr h)
  ·rintro ((h | h) | h)
   ·exact .inl h
   ·exact .inr (.inr h)
   ·exact .inr (.inl h)
theorem less_bl (x y : ByteArray) : Op.bytesLess x.toList y.toList = decide (bl x < bl y) := by
 rw [ByteArray.toList_eq, ByteArray.toList_eq, Bool.eq_iff_iff, less_iff, decide_eq_true_eq]
theorem eq_bl (x y : ByteArray) : (x.toList == y.toList) = decide (bl x = bl y) := by
 rw [ByteArray.toList_eq, ByteArray.toList_eq, Bool.eq_iff_iff, beq_iff_eq, decide_eq_true_eq]
theorem drop_row {W : World} {b0 g cap j : Nat} {O : List ByteArray} (ho : W.ownsRow b0 9 1 (.slice (some ⟨g, 0, none⟩) O.length cap) O.length (O.map Value.string)) (hc : O.length ≤ cap) (hj : j ≤ O.length) : Row W (if cap = j then some ⟨g, 0, none⟩ else some ⟨g, j, none⟩) ((O.drop j).map Value.string) := by
 split
 ·have : O.drop j = [] := List.drop_eq_nil_of_le (by omega)
  rw [this]; exact Row.nil _ _
 ·intro k v hk
  rw [List.map_drop, List.getElem?_drop] at hk
  have hlt := (List.getElem?_eq_some_iff.1 hk).1
  rw [List.length_map] at hlt
  exact ⟨g, j, rfl, by rw [ho.cellAt (j + k) (by omega)]; exact hk⟩
structure WiSt (w : World) (b0 : Nat) (ov : Value) (O : List ByteArray) (tb tq k : Nat) (t : Typ) (W : World) : Prop where
 o : W.ownsRow b0 9 1 ov O.length (O.map Value.string)
 b : Below w.heap.size w W
 c : TypAt W tb (tq + k * 32) t
theorem WiSt.below {w : World} {b0 : Nat} {ov : Value} {O : List ByteArray} {tb tq k : Nat} {t : Typ} {W W' : World} (h : WiSt w b0 ov O tb tq k t W) (hb : Below W.heap.size W W') : WiSt w b0 ov O tb tq k t W' :=
 ⟨ownsRow_keep h.o (Keep.of_below' (K := fun _ => True) hb) (fun _ _ => trivial), h.b.trans (hb.mono h.b.size), h.c.below hb⟩
theorem WiSt.drewN {w : World} {b0 : Nat} {ov : Value} {O : List ByteArray} {tb tq k : Nat} {t : Typ} {W : World} (h : WiSt w b0 ov O tb tq k t W) (n : Nat) : WiSt w b0 ov O tb tq k t (W.drewN n) := h.below (below_drewN (Below.refl _ W) n)
set_option maxRecDepth 100000 in
set_option maxHeartbeats 4000000 in
theorem waresR_any (a : Option Addr) (c : Nat) (l : List Typ) (w : World) (h : TypesAt w a l) (hl : l.length ≤ 1000) :
  Calls Tryz.prog 66 #[.slice a l.length c] w (WaresPost l w) := by
 have HM := Lib.hid h
 clear h
 go_enter Tryz.func66, Tryz.ntmps66
 go_wp2_with fail
 go_loopw [3, 4, 5, 6] (fun ov iv _ _ wr => ∃ (k : Nat) (O : List ByteArray), k ≤ l.length ∧ iv = .int .i64 k ∧ (WsOk l k O ∧ O.length ≤ k) ∧ WrSt w ov O wr) (fun _ iv _ _ _ => l.length - (intOf iv).toNat)
 case atStart => exact ⟨0, [], Nat.zero_le _, rfl, ⟨⟨List.Pairwise.nil, fun _ => Iff.rfl⟩, Nat.le_refl _⟩, ⟨⟨w.heap.size, Nat.le_refl _, ownsRow_nil _ _ _ _⟩, Below.refl _ _⟩⟩
 case round =>
  obtain ⟨k, O, hk, rfl, ⟨hok, hOk⟩, st⟩ := hrel
  have HOK := Lib.hid hok
  have ST := Lib.hid st
  clear hok st
  by_cases hlt : k < l.length
  rotate_left
  ·have hkn : decide ((k : Int) < (l.length : Int)) = false := by simp; omega
   have HE := Lib.hid (show waresT l = O from WsOk.done (by have h := HOK.out; rwa [show k = l.length by omega] at h))
   obtain ⟨b0, hb0, o1⟩ := ST.out.o
   obtain ⟨pa, pc, hv, hro, hcap⟩ := ownsRow_own o1
   subst hv
   have HRO := Lib.hid (hro.less hb0)
   clear o1 hro hcap
   go_wp2_with fail
   go_ret
   exact ⟨pa, pc, by rw [HE.out]; rfl, by rw [HE.out]; exact HRO.out, ST.out.b⟩
  obtain ⟨t, ht⟩ : ∃ t, l[k]? = some t := ⟨l[k], by simp [hlt]⟩
  obtain ⟨b, o, rfl, hat⟩ := (HM.out.below ST.out.b) k t ht
  have c1 := hat.fields.2.1
  have HT := Lib.hid ht
  have HAT := Lib.hid hat
  have hki : (k : Int) < (l.length : Int) := by omega
  have hk0 : (0 : Int) ≤ (k : Int) := by omega
  obtain ⟨b0, hb0, o1⟩ := ST.out.o
  have HOk := Lib.hid hOk
  have hO12 : O.length ≤ 1000 := by omega
  rcases Go.Joins.ownsRow_forms o1 with ⟨hv, hn⟩ | ⟨g, cap, hv⟩
  ·subst hv
   have hOn : O = [] := List.length_eq_zero_iff.1 hn
   subst hOn
   have STI := Lib.hid (show WiSt w b0 (.slice none 0 0) [] b o k t wr from ⟨o1, ST.out.b, hat⟩)
   have HI := Lib.hid (WsOk.ins (j := 0) HOK.out HT.out (fun _ h => absurd rfl h) (Nat.le_refl _) (fun y hy => by cases hy))
   clear hat ht o1 hn HAT
   go_wp2_with fail
   go_loopw [5] (fun jv wr' => jv = .int .i64 0 ∧ WiSt w b0 (.slice none 0 0) [] b o k t wr') (fun jv _ => (intOf jv).toNat)
   case atStart => exact ⟨rfl, STI.out⟩
   case round =>
    clear STI
    obtain ⟨rfl, sti⟩ := hrel
    have STI := Lib.hid sti
    have c1 := sti.c.fields.2.1
    clear sti
    go_wp2_with fail
    go_quiet (fail)
    go_wp2_with fail
    go_quiet (fail)
    go_upto_region 9 with fail
    refine (show ∀ W, WiSt w b0 (.slice none 0 0) [] b o k t W → Code.wp _ _ _ _ W from ?_) _ ((STI.out.drewN _).drewN _)
    clear c1 STI
    intro W st
    have STW := Lib.hid st
    have hb := st.b.size
    clear st
    have hir := ins_row (x := t.ware) (oa := none) (oc := 0) (j := 0) rfl STW.out.o (Nat.le_refl _) (by simp) none (Row.nil _ _)
    simp only [List.length_nil, Nat.sub_zero, Nat.sub_self] at hir
    obtain ⟨v1, U1, v2, U2, v3, U3, hr1, hb1, hbs, hr2, hr3, hb3, ho3⟩ := hir
    have HR1 := Lib.hid hr1
    have HR2 := Lib.hid hr2
    have HR3 := Lib.hid hr3
    have HBS := Lib.hid hbs
    have c9 := (STW.out.c.below (hb1.mono (Nat.le_refl _))).fields.2.1
    have SN := Lib.hid (show WrSt w v3 ((([] : List ByteArray)).take (0) ++ t.ware :: (([] : List ByteArray)).drop (0)) U3 from ⟨⟨W.heap.size, hb, ho3⟩, STW.out.b.trans (hb3.mono hb)⟩)
    obtain ⟨v4, hv4⟩ : ∃ x, W.alloc (.cells #[] 9) = x := ⟨_, rfl⟩
    rw [hv4] at HR1
    have HV4 := Lib.hid hv4
    have HLEN := Lib.hid (show ((([] : List ByteArray)).take (0) ++ t.ware :: (([] : List ByteArray)).drop (0)).length ≤ k + 1 by
     simp)
    clear hv4 hr1 hb1 hbs hr2 hr3 hb3 ho3
    go_wp2_with (first
     | (at_builtin; simp only [HV4.out]; refine wpList_app rfl _ _ _ rfl rfl rfl HR1.out ?_)
     | (apply wpList_bsl (T := 85) (n := 1) (hr := HBS.out); (· rfl); (· (simp only [List.map_toArray, List.map_cons, List.map_nil]; rfl)))
     | (at_builtin; refine wpList_app rfl _ _ _ rfl rfl rfl HR2.out ?_)
     | (at_builtin; refine wpList_app rfl _ _ _ rfl rfl rfl HR3.out ?_))
    go_roundw
    case rel => exact ⟨k + 1, _, by omega, by go_num, ⟨HI.out, HLEN.out⟩, SN.out⟩
    case measure => simp [intOf]; omega
  subst hv
  obtain ⟨_, _, e, hro, hcap⟩ := ownsRow_own o1
  cases e
  have HCAP := Lib.hid hcap
  have STI := Lib.hid (show WiSt w b0 (.slice (some ⟨g, 0, none⟩) O.length cap) O b o k t wr from ⟨o1, ST.out.b, hat⟩)
  clear hat ht o1 hro HAT
  go_wp2_with fail
  go_loopw [5] (fun jv wr' => ∃ j : Nat, j ≤ O.length ∧ jv = .int .i64 j ∧ (∀ (i : Nat) y, j ≤ i → O[i]? = some y → bl t.ware < bl y) ∧ WiSt w b0 (.slice (some ⟨g, 0, none⟩) O.length cap) O b o k t wr') (fun jv _ => (intOf jv).toNat)
  case atStart => exact ⟨O.length, Nat.le_refl _, rfl, fun i y hi hy => absurd (List.getElem?_eq_some_iff.1 hy).1 (by omega), STI.out⟩
  case round =>
   clear STI
   obtain ⟨j, hj, rfl, hall, sti⟩ := hrel
   have HA := Lib.hid hall
   have STI := Lib.hid sti
   have c1 := sti.c.fields.2.1
   clear hall sti
   rcases j with _ | m
   ·have HI := Lib.hid (WsOk.ins (j := 0) HOK.out HT.out (fun _ h => absurd rfl h) (Nat.zero_le _) (fun y hy => HA.out 0 y (Nat.le_refl _) hy))
    go_wp2_with fail
    go_quiet (fail)
    go_wp2_with fail
    go_quiet (fail)
    go_upto_region 9 with fail
    refine (show ∀ W, WiSt w b0 (.slice (some ⟨g, 0, none⟩) O.length cap) O b o k t W → Code.wp _ _ _ _ W from ?_) _ ((STI.out.drewN _).drewN _)
    clear c1 STI
    intro W st
    have STW := Lib.hid st
    have hb := st.b.size
    clear st
    have hc0 : (0 : Int) ≤ (cap : Int) := by omega
    have hc1 : (O.length : Int) ≤ (cap : Int) := by omega
    have hir := ins_row (x := t.ware) (oa := some ⟨g, 0, none⟩) (oc := cap) (j := 0) rfl STW.out.o (Nat.zero_le _) hO12 (some ⟨g, 0, none⟩) (by have h := drop_row STW.out.o HCAP.out (Nat.zero_le _); rwa [ite_self] at h)
    simp only [Nat.sub_zero] at hir
    obtain ⟨v1, U1, v2, U2, v3, U3, hr1, hb1, hbs, hr2, hr3, hb3, ho3⟩ := hir
    have HR1 := Lib.hid hr1
    have HR2 := Lib.hid hr2
    have HR3 := Lib.hid hr3
    have HBS := Lib.hid hbs
    have c9 := (STW.out.c.below (hb1.mono (Nat.le_refl _))).fields.2.1
    have SN := Lib.hid (show WrSt w v3 (O.take (0) ++ t.ware :: O.drop (0)) U3 from ⟨⟨W.heap.size, hb, ho3⟩, STW.out.b.trans (hb3.mono hb)⟩)
    obtain ⟨v4, hv4⟩ : ∃ x, W.alloc (.cells #[] 9) = x := ⟨_, rfl⟩
    rw [hv4] at HR1
    have HV4 := Lib.hid hv4
    have HLEN := Lib.hid (show (O.take (0) ++ t.ware :: O.drop (0)).length ≤ k + 1 by
     rw [List.length_append, List.length_cons, List.length_take, List.length_drop]; have := HOk.out; omega)
    clear hv4 hr1 hb1 hbs hr2 hr3 hb3 ho3
    go_wp2_with (first
     | (at_builtin; simp only [HV4.out]; refine wpList_app rfl _ _ _ rfl rfl rfl HR1.out ?_)
     | (apply wpList_bsl (T := 85) (n := 1) (hr := HBS.out); (· rfl); (· (simp only [List.map_toArray, List.map_cons, List.map_nil]; rfl)))
     | (at_builtin; refine wpList_app rfl _ _ _ rfl rfl rfl HR2.out ?_)
     | (at_builtin; refine wpList_app rfl _ _ _ rfl rfl rfl HR3.out ?_))
    go_roundw
    case rel => exact ⟨k + 1, _, by omega, by go_num, ⟨HI.out, HLEN.out⟩, SN.out⟩
    case measure => simp [intOf]; omega
   ·obtain ⟨y, hy⟩ : ∃ y, O[m]? = some y := ⟨O[m]'(by omega), by simp [show m < O.length by omega]⟩
    have hyc : wr.cell? ⟨g, m, none⟩ = some (.string y) := by
     rw [STI.out.o.cellAt m (by omega), List.getElem?_map, hy]; rfl
    have HY := Lib.hid hy
    have HYM := Lib.hid (List.mem_map.2 ⟨y, List.mem_of_getElem? hy, rfl⟩ : bl y ∈ O.map bl)
    have hl1 := less_bl y t.ware
    have he1 := eq_bl y t.ware
    have hjp : (0 : Int) < (m : Int) + 1 := by omega
    have hml : (m : Int) < (O.length : Int) := by omega
    have hm0 : (0 : Int) ≤ (m : Int) := by omega
    have hmw : IntKind.i64.wrap (m : Int) = (m : Int) := IntWalk.i64_in _ (by omega)
    have hmw1 : IntKind.i64.wrap ((m : Int) + 1 - 1) = (m : Int) := by rw [IntWalk.i64_in _ (by omega)]; omega
    clear hy
    rcases hE : (y.toList == t.ware.toList) with _ | _
    ·rw [hE] at he1
     have hne : bl y ≠ bl t.ware := by simpa using he1.symm
     rcases hL : Op.bytesLess y.toList t.ware.toList with _ | _
     ·rw [hL] at hl1
      have hnl : ¬ bl y < bl t.ware := by simpa using hl1.symm
      have HGT := Lib.hid (show bl t.ware < bl y from by
       rcases Classical.em (bl t.ware < bl y) with h | h
       ·exact h
       ·exact absurd (List.le_antisymm h hnl) hne)
      clear he1 hl1 hnl hne
      go_wp2_with fail
      go_quiet (fail)
      go_wp2_with fail
      go_roundw
      case rel => exact ⟨m, by omega, by go_num, fun i z hi hz => by
       rcases Nat.eq_or_lt_of_le hi with h | h
       ·subst h
        rw [HY.out] at hz; cases hz; exact HGT.out
       ·exact HA.out i z h hz, STI.out.drewN _⟩
      case measure => first | (simp [intOf]; done) | (simp [intOf]; omega)
     ·rw [hL] at hl1
      have hlt2 : bl y < bl t.ware := by simpa using hl1.symm
      have HI := Lib.hid (WsOk.ins (j := m + 1) HOK.out HT.out (fun z _ hz => by rw [Nat.add_sub_cancel, HY.out] at hz; cases hz; exact hlt2) hj (fun z hz => HA.out (m + 1) z (Nat.le_refl _) hz))
      clear he1 hl1 hlt2 hne
      go_wp2_with fail
      go_quiet (fail)
      go_wp2_with fail
      go_quiet (fail)
      go_upto_region 9 with fail
      refine (show ∀ W, WiSt w b0 (.slice (some ⟨g, 0, none⟩) O.length cap) O b o k t W → Code.wp _ _ _ _ W from ?_) _ ((STI.out.drewN _).drewN _)
      clear c1 STI hyc
      intro W st
      have STW := Lib.hid st
      have hb := st.b.size
      clear st
      have hc0 : (m : Int) + 1 ≤ (cap : Int) := by omega
      have hc1 : (O.length : Int) ≤ (cap : Int) := by omega
      have hc2 : (m : Int) + 1 ≤ (O.length : Int) := by omega
      have hc3 : (0 : Int) ≤ (m : Int) + 1 := by omega
      by_cases hq : cap = m + 1
      ·have hite : ∀ X Y : Option Addr, (if cap = m + 1 then X else Y) = X := fun _ _ => if_pos hq
       have hir := ins_row (x := t.ware) (oa := some ⟨g, 0, none⟩) (oc := cap) (j := m + 1) rfl STW.out.o hj hO12 (some ⟨g, 0, none⟩) (by have h := drop_row STW.out.o HCAP.out hj; rwa [if_pos hq] at h)
       clear hq
       obtain ⟨v1, U1, v2, U2, v3, U3, hr1, hb1, hbs, hr2, hr3, hb3, ho3⟩ := hir
       have HR1 := Lib.hid hr1
       have HR2 := Lib.hid hr2
       have HR3 := Lib.hid hr3
       have HBS := Lib.hid hbs
       have c9 := (STW.out.c.below (hb1.mono (Nat.le_refl _))).fields.2.1
       have SN := Lib.hid (show WrSt w v3 (O.take (m + 1) ++ t.ware :: O.drop (m + 1)) U3 from ⟨⟨W.heap.size, hb, ho3⟩, STW.out.b.trans (hb3.mono hb)⟩)
       obtain ⟨v4, hv4⟩ : ∃ x, W.alloc (.cells #[] 9) = x := ⟨_, rfl⟩
       rw [hv4] at HR1
       have HV4 := Lib.hid hv4
       have HLEN := Lib.hid (show (O.take (m + 1) ++ t.ware :: O.drop (m + 1)).length ≤ k + 1 by
        rw [List.length_append, List.length_cons, List.length_take, List.length_drop]; have := HOk.out; omega)
       clear hv4 hr1 hb1 hbs hr2 hr3 hb3 ho3
       go_wp2_with (first
        | (at_builtin; simp only [HV4.out]; refine wpList_app rfl _ _ _ rfl rfl rfl HR1.out ?_)
        | (apply wpList_bsl (T := 85) (n := 1) (hr := HBS.out); (· rfl); (· (simp only [List.map_toArray, List.map_cons, List.map_nil]; rfl)))
        | (at_builtin; refine wpList_app rfl _ _ _ rfl rfl rfl HR2.out ?_)
        | (at_builtin; refine wpList_app rfl _ _ _ rfl rfl rfl HR3.out ?_))
       go_roundw
       case rel => exact ⟨k + 1, _, by omega, by go_num, ⟨HI.out, HLEN.out⟩, SN.out⟩
       case measure => simp [intOf]; omega
      ·have hir := ins_row (x := t.ware) (oa := some ⟨g, 0, none⟩) (oc := cap) (j := m + 1) rfl STW.out.o hj hO12 (some ⟨g, m + 1, none⟩) (by have h := drop_row STW.out.o HCAP.out hj; rwa [if_neg hq] at h)
       obtain ⟨v1, U1, v2, U2, v3, U3, hr1, hb1, hbs, hr2, hr3, hb3, ho3⟩ := hir
       have HR1 := Lib.hid hr1
       have HR2 := Lib.hid hr2
       have HR3 := Lib.hid hr3
       have HBS := Lib.hid hbs
       have c9 := (STW.out.c.below (hb1.mono (Nat.le_refl _))).fields.2.1
       have SN := Lib.hid (show WrSt w v3 (O.take (m + 1) ++ t.ware :: O.drop (m + 1)) U3 from ⟨⟨W.heap.size, hb, ho3⟩, STW.out.b.trans (hb3.mono hb)⟩)
       obtain ⟨v4, hv4⟩ : ∃ x, W.alloc (.cells #[] 9) = x := ⟨_, rfl⟩
       rw [hv4] at HR1
       have HV4 := Lib.hid hv4
       have HLEN := Lib.hid (show (O.take (m + 1) ++ t.ware :: O.drop (m + 1)).length ≤ k + 1 by
        rw [List.length_append, List.length_cons, List.length_take, List.length_drop]; have := HOk.out; omega)
       clear hv4 hr1 hb1 hbs hr2 hr3 hb3 ho3
       go_wp2_with (first
        | (at_builtin; simp only [HV4.out]; refine wpList_app rfl _ _ _ rfl rfl rfl HR1.out ?_)
        | (apply wpList_bsl (T := 85) (n := 1) (hr := HBS.out); (· rfl); (· (simp only [List.map_toArray, List.map_cons, List.map_nil]; rfl)))
        | (at_builtin; refine wpList_app rfl _ _ _ rfl rfl rfl HR2.out ?_)
        | (at_builtin; refine wpList_app rfl _ _ _ rfl rfl rfl HR3.out ?_))
       go_roundw
       case rel => exact ⟨k + 1, _, by omega, by go_num, ⟨HI.out, HLEN.out⟩, SN.out⟩
       case measure => simp [intOf]; omega
    ·rw [hE] at he1
     have HEQ := Lib.hid (show bl y = bl t.ware by simpa using he1.symm)
     have HN := Lib.hid (show WsOk l (k + 1) O from WsOk.skip HOK.out HT.out (by rw [← HEQ.out]; exact HYM.out))
     clear he1 hl1
     rcases hL : Op.bytesLess y.toList t.ware.toList with _ | _
     all_goals
      go_wp2_with fail
      go_quiet (fail)
      go_wp2_with fail
      go_quiet (fail)
      go_wp2_with fail
      go_roundw
      case rel => exact ⟨k + 1, O, by omega, by go_num, ⟨HN.out, by have := HOk.out; omega⟩, ⟨⟨b0, hb0, (STI.out.drewN _).o⟩, (STI.out.drewN _).b⟩⟩
      case measure => simp [intOf]; omega
end Go.Proofs.YthpjffhccjlnhaaGreatDoor
