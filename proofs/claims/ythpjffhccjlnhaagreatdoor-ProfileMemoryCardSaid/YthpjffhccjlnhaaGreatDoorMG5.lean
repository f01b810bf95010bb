/- slices.IndexFunc and slices.ContainsFunc over strings and over types, by a function. Printed by mk_gfind.py. No condition. -/
/- Package profile: isType. No condition. -/
/- Package profile: first[Type], CheckTypes. No condition. -/
/- Package profile: CheckTypes. No condition. -/
import Derived.Test.YthpjffhccjlnhaaGreatDoorMG4
set_option linter.unusedSimpArgs false
set_option linter.unusedVariables false
namespace Go.Proofs.YthpjffhccjlnhaaGreatDoor
open Go.RowKit
attribute [local go_sem] Oper.semAt_some

/-- a slice of strings -/
def StrsAt (w : World) (a : Option Addr) (l : List ByteArray) : Prop := ∀ k s, l[k]? = some s → ∃ b o, a = some ⟨b, o, none⟩ ∧ w.cell? ⟨b, o + k, none⟩ = some (.string s)
theorem StrsAt.below {w w' : World} {a : Option Addr} {l : List ByteArray} (h : StrsAt w a l) (hb : Below w.heap.size w w') : StrsAt w' a l := fun k s hs => by
 obtain ⟨b, o, ha, h1⟩ := h k s hs; exact ⟨b, o, ha, below_cell hb h1⟩
set_option maxRecDepth 100000 in
set_option maxHeartbeats 1000000 in
theorem indexS_any (K : Nat) (caps : Array Value) (p : ByteArray → Bool) (hent : ∀ args W, (callFunc K args).run Tryz.prog W = .ok (.enter K args) W) (a : Option Addr) (c : Nat) (l : List ByteArray) (w : World)
  (hf : ∀ x, x ∈ l → ∀ W, Below w.heap.size w W → Calls Tryz.prog K (#[.string x] ++ caps) W fun e W' => e = .returned (.bool (p x)) ∧ Below W.heap.size W W') (h : StrsAt w a l) (hl : l.length ≤ 1000000) :
  Calls Tryz.prog 164 #[.slice a l.length c, .func (.func K) #[] caps] w (IdxPost p l w) := by
 have HF := Lib.hid hf
 have HBY := Lib.hid h
 clear hf h
 go_enter Tryz.func164, Tryz.ntmps164
 go_wp2_with fail
 go_loopw [5, 8] (fun _ i wr => ∃ k : Nat, k ≤ l.length ∧ i = .int .i64 k ∧ (∀ (j : Nat) x, j < k → l[j]? = some x → p x = false) ∧ Below w.heap.size w wr) (fun _ i _ => l.length - (intOf i).toNat)
 case atStart => exact ⟨0, Nat.zero_le _, rfl, fun j _ hj => absurd hj (Nat.not_lt_zero j), Below.refl _ _⟩
 case round =>
  obtain ⟨k, hk, rfl, hall, hbw⟩ := hrel
  have HA := Lib.hid hall
  have HW := Lib.hid hbw
  clear hall hbw
  by_cases hlt : k < l.length
  ·obtain ⟨x, hx⟩ : ∃ x, l[k]? = some x := ⟨l[k], by simp [hlt]⟩
   obtain ⟨b, o, rfl, hc⟩ := (HBY.out.below HW.out) k x hx
   have hki : (k : Int) < (l.length : Int) := by omega
   have hk0 : (0 : Int) ≤ (k : Int) := by omega
   have HX := Lib.hid hx
   have HM := Lib.hid (List.mem_of_getElem? hx)
   clear hx
   go_wp2_with fail
   refine (HF.out x HM.out _ HW.out).mono ?_
   rintro e w1 ⟨rfl, hb1⟩
   have HB1 := Lib.hid (HW.out.trans (hb1.mono HW.out.size))
   clear hb1
   rcases hp : p x with _ | _
   ·have HP := Lib.hid hp
    clear hp
    go_wp2_with fail
    go_roundw
    case rel =>
     refine ⟨k + 1, by omega, by go_num, fun j y hj hy => ?_, HB1.out⟩
     rcases Nat.lt_or_ge j k with h1 | h1
     ·exact HA.out j y h1 hy
     ·have : j = k := by omega
      subst this
      rw [HX.out] at hy; cases hy
      exact HP.out
    case measure => simp [intOf]; omega
   ·have HP := Lib.hid hp
    clear hp
    go_wp2_with fail
    go_ret
    refine ⟨?_, HB1.out⟩
    rw [if_pos (any_yes HX.out HP.out)]
    exact ⟨k, rfl⟩
  ·have hkn : decide ((k : Int) < (l.length : Int)) = false := by simp; omega
   go_wp2_with fail
   go_ret
   refine ⟨?_, HW.out⟩
   rw [if_neg (any_no fun j x hj hx => HA.out j x (by omega) hx)]
   rfl

set_option maxRecDepth 100000 in
set_option maxHeartbeats 1000000 in
theorem containsS_any (K : Nat) (caps : Array Value) (p : ByteArray → Bool) (hent : ∀ args W, (callFunc K args).run Tryz.prog W = .ok (.enter K args) W) (a : Option Addr) (c : Nat) (l : List ByteArray) (w : World)
  (hf : ∀ x, x ∈ l → ∀ W, Below w.heap.size w W → Calls Tryz.prog K (#[.string x] ++ caps) W fun e W' => e = .returned (.bool (p x)) ∧ Below W.heap.size W W') (h : StrsAt w a l) (hl : l.length ≤ 1000000) :
  Calls Tryz.prog 147 #[.slice a l.length c, .func (.func K) #[] caps] w fun e w' => e = .returned (.bool (l.any p)) ∧ Below w.heap.size w w' := by
 have hi := indexS_any K caps p hent a c l w hf h hl
 unfold IdxPost at hi
 clear hent hf
 by_cases ha : l.any p = true
 ·simp only [ha, if_true] at hi
  have HI := Lib.hid hi
  have HB := Lib.hid ha
  clear hi ha
  go_enter Tryz.func147, Tryz.ntmps147
  go_wp2_with fail
  refine HI.out.mono ?_
  rintro e w' ⟨⟨k, rfl⟩, hb⟩
  have HW := Lib.hid hb
  clear hb
  go_wp2_with fail
  go_ret
  exact ⟨ret_bool (by simp [HB.out]), HW.out⟩
 ·simp only [ha] at hi
  have HI := Lib.hid hi
  have HB := Lib.hid ha
  clear hi ha
  go_enter Tryz.func147, Tryz.ntmps147
  go_wp2_with fail
  refine HI.out.mono ?_
  rintro e w' ⟨he, hb⟩
  obtain rfl := (show e = .returned (.int .i64 (-1)) by simpa using he)
  have HW := Lib.hid hb
  clear hb he
  go_wp2_with fail
  go_ret
  exact ⟨ret_bool (by simpa using HB.out), HW.out⟩
set_option maxRecDepth 100000 in
set_option maxHeartbeats 1000000 in
theorem indexT_any (K : Nat) (caps : Array Value) (p : Typ → Bool) (hent : ∀ args W, (callFunc K args).run Tryz.prog W = .ok (.enter K args) W) (a : Option Addr) (c : Nat) (l : List Typ) (w : World)
  (hf : ∀ x, x ∈ l → ∀ W, Below w.heap.size w W → Calls Tryz.prog K (#[.agg (typCells x)] ++ caps) W fun e W' => e = .returned (.bool (p x)) ∧ Below W.heap.size W W') (h : TypesAt w a l) (hl : l.length ≤ 1000000) :
  Calls Tryz.prog 149 #[.slice a l.length c, .func (.func K) #[] caps] w (IdxPost p l w) := by
 have HF := Lib.hid hf
 have HBY := Lib.hid h
 clear hf h
 go_enter Tryz.func149, Tryz.ntmps149
 go_wp2_with fail
 go_loopw [5, 8] (fun _ i wr => ∃ k : Nat, k ≤ l.length ∧ i = .int .i64 k ∧ (∀ (j : Nat) x, j < k → l[j]? = some x → p x = false) ∧ Below w.heap.size w wr) (fun _ i _ => l.length - (intOf i).toNat)
 case atStart => exact ⟨0, Nat.zero_le _, rfl, fun j _ hj => absurd hj (Nat.not_lt_zero j), Below.refl _ _⟩
 case round =>
  obtain ⟨k, hk, rfl, hall, hbw⟩ := hrel
  have HA := Lib.hid hall
  have HW := Lib.hid hbw
  clear hall hbw
  by_cases hlt : k < l.length
  ·obtain ⟨x, hx⟩ : ∃ x, l[k]? = some x := ⟨l[k], by simp [hlt]⟩
   obtain ⟨b, o, rfl, hc⟩ := (HBY.out.below HW.out) k x hx
   have hki : (k : Int) < (l.length : Int) := by omega
   have hk0 : (0 : Int) ≤ (k : Int) := by omega
   have HX := Lib.hid hx
   have HM := Lib.hid (List.mem_of_getElem? hx)
   clear hx
   have HL := Lib.hid hc.load
   go_wp2_with (refine wpList_load_box rfl 71 _ rfl rfl HL.out ?_)
   refine (HF.out x HM.out _ HW.out).mono ?_
   rintro e w1 ⟨rfl, hb1⟩
   have HB1 := Lib.hid (HW.out.trans (hb1.mono HW.out.size))
   clear hb1
   rcases hp : p x with _ | _
   ·have HP := Lib.hid hp
    clear hp
    go_wp2_with fail
    go_roundw
    case rel =>
     refine ⟨k + 1, by omega, by go_num, fun j y hj hy => ?_, HB1.out⟩
     rcases Nat.lt_or_ge j k with h1 | h1
     ·exact HA.out j y h1 hy
     ·have : j = k := by omega
      subst this
      rw [HX.out] at hy; cases hy
      exact HP.out
    case measure => simp [intOf]; omega
   ·have HP := Lib.hid hp
    clear hp
    go_wp2_with fail
    go_ret
    refine ⟨?_, HB1.out⟩
    rw [if_pos (any_yes HX.out HP.out)]
    exact ⟨k, rfl⟩
  ·have hkn : decide ((k : Int) < (l.length : Int)) = false := by simp; omega
   go_wp2_with fail
   go_ret
   refine ⟨?_, HW.out⟩
   rw [if_neg (any_no fun j x hj hx => HA.out j x (by omega) hx)]
   rfl

set_option maxRecDepth 100000 in
set_option maxHeartbeats 1000000 in
theorem containsT_any (K : Nat) (caps : Array Value) (p : Typ → Bool) (hent : ∀ args W, (callFunc K args).run Tryz.prog W = .ok (.enter K args) W) (a : Option Addr) (c : Nat) (l : List Typ) (w : World)
  (hf : ∀ x, x ∈ l → ∀ W, Below w.heap.size w W → Calls Tryz.prog K (#[.agg (typCells x)] ++ caps) W fun e W' => e = .returned (.bool (p x)) ∧ Below W.heap.size W W') (h : TypesAt w a l) (hl : l.length ≤ 1000000) :
  Calls Tryz.prog 116 #[.slice a l.length c, .func (.func K) #[] caps] w fun e w' => e = .returned (.bool (l.any p)) ∧ Below w.heap.size w w' := by
 have hi := indexT_any K caps p hent a c l w hf h hl
 unfold IdxPost at hi
 clear hent hf
 by_cases ha : l.any p = true
 ·simp only [ha, if_true] at hi
  have HI := Lib.hid hi
  have HB := Lib.hid ha
  clear hi ha
  go_enter Tryz.func116, Tryz.ntmps116
  go_wp2_with fail
  refine HI.out.mono ?_
  rintro e w' ⟨⟨k, rfl⟩, hb⟩
  have HW := Lib.hid hb
  clear hb
  go_wp2_with fail
  go_ret
  exact ⟨ret_bool (by simp [HB.out]), HW.out⟩
 ·simp only [ha] at hi
  have HI := Lib.hid hi
  have HB := Lib.hid ha
  clear hi ha
  go_enter Tryz.func116, Tryz.ntmps116
  go_wp2_with fail
  refine HI.out.mono ?_
  rintro e w' ⟨he, hb⟩
  obtain rfl := (show e = .returned (.int .i64 (-1)) by simpa using he)
  have HW := Lib.hid hb
  clear hb he
  go_wp2_with fail
  go_ret
  exact ⟨ret_bool (by simpa using HB.out), HW.out⟩
end Go.Proofs.YthpjffhccjlnhaaGreatDoor
namespace Go.Proofs.YthpjffhccjlnhaaGreatDoor
open Go.RowKit
attribute [local go_sem] Oper.semAt_some

/-- a type whose strings are short -/
structure SmlT (t : Typ) : Prop where
 name : t.name.size ≤ 1000
 ware : t.ware.size ≤ 1000
 rim : t.rim.size ≤ 1000
 base : t.base.size ≤ 1000
 after : ∀ c, c < 26 → (t.after c).size ≤ 1000
def typeB (t : Typ) : Bool := isNameB t.name && isNameB t.ware && inB t.least 1 t.most && decide (t.most ≤ 12) && !t.rim.toList.isEmpty && !t.base.toList.isEmpty && isSetB (bl t.rim) && isSetB (bl t.base) && !((List.range 26).map t.after).any fun s => !isSetB (bl s)
theorem zaft : (#[.string { data := #[] }, .string { data := #[] }, .string { data := #[] }, .string { data := #[] }, .string { data := #[] }, .string { data := #[] }, .string { data := #[] }, .string { data := #[] }, .string { data := #[] }, .string { data := #[] }, .string { data := #[] }, .string { data := #[] }, .string { data := #[] }, .string { data := #[] }, .string { data := #[] }, .string { data := #[] }, .string { data := #[] }, .string { data := #[] }, .string { data := #[] }, .string { data := #[] }, .string { data := #[] }, .string { data := #[] }, .string { data := #[] }, .string { data := #[] }, .string { data := #[] }, .string { data := #[] }] : Array Value) = fnCells 26 (fun _ => .string ByteArray.empty) := by kernel_rfl
set_option maxHeartbeats 400000 in
theorem notSet_any (s : ByteArray) (hs : s.size ≤ 1000000) (w : World) : Calls Tryz.prog 148 #[.string s] w fun e w' => e = .returned (.bool (!isSetB (bl s))) ∧ Below w.heap.size w w' := by
 go_enter Tryz.func148, Tryz.ntmps148
 go_wp2_with fail
 refine (isSet_any s w hs).mono ?_
 rintro e w1 ⟨rfl, hb⟩
 have HB := Lib.hid hb
 clear hb
 rcases hq : isSetB (bl s) with _ | _
 all_goals
  have HQ := Lib.hid hq
  clear hq
  go_wp2_with fail
  go_ret
  exact ⟨ret_bool (by rw [HQ.out]; rfl), HB.out⟩
structure ItSt (B : Nat) (t : Typ) (w W : World) : Prop where
 x : TypAt W B 0 t
 a : Box W (B + 1) (fnCells 26 (aftF t)) 69
 b : Below B w W
 s : B = w.heap.size
theorem ItSt.below {B : Nat} {t : Typ} {w W W' : World} (h : ItSt B t w W) (hb : Below W.heap.size W W') : ItSt B t w W' :=
 ⟨h.x.below hb, h.a.below' hb, h.b.trans (hb.mono (by have := h.b.size; have := h.s; omega)), h.s⟩
set_option maxRecDepth 100000 in
set_option maxHeartbeats 1000000 in
theorem isType_any (t : Typ) (ht : SmlT t) (w : World) : Calls Tryz.prog 115 #[.agg (typCells t)] w fun e w' => e = .returned (.bool (typeB t)) ∧ Below w.heap.size w w' := by
 obtain ⟨w1, hw1⟩ : ∃ w1, w.alloc (.cells (typCells t) 71) = w1 := ⟨_, rfl⟩
 have b0 : Box w1 w.heap.size (typCells t) 71 := by rw [← hw1]; exact Box.new _ _ _
 have hB : Below w.heap.size w w1 := by rw [← hw1]; go_grown
 have gs1 : w1.heap.size = w.heap.size + 1 := by rw [← hw1]; simp
 obtain ⟨w2, hw2⟩ : ∃ w2, w1.alloc (.cells (fnCells 26 fun _ => .string ByteArray.empty) 69) = w2 := ⟨_, rfl⟩
 have b2 : Box w2 (w.heap.size + 1) (fnCells 26 fun _ => .string ByteArray.empty) 69 := by rw [← hw2, ← gs1]; exact Box.new _ _ _
 have hB2 : Below w1.heap.size w1 w2 := by rw [← hw2]; go_grown
 obtain ⟨w3, hst, hw3⟩ := run_store_all (P := Tryz.prog) agg_aft b2 (aftF t) (fun _ _ => rfl)
 have S3 : ItSt w.heap.size t w w3 := ⟨(hw3.far (b0.below' hB2) (by omega)).typ, hw3.box, hw3.below (hB.trans (hB2.mono (by omega))) (by omega), rfl⟩
 have HL := Lib.hid (TypAt.aft b0.typ)
 have ST := Lib.hid S3
 have HW := Lib.hid hw1
 have HW2 := Lib.hid hw2
 have HST := Lib.hid hst
 have HT := Lib.hid ht
 clear b0 hB b2 hB2 hst hw3 S3 hw1 hw2 ht
 go_enter Tryz.func115, Tryz.ntmps115
 go_upto_region 1 with fail
 simp only [HW.out]
 rw [Nat.zero_add] at HL
 go_upto_region 2 with (first
  | (refine wpList_load_box rfl 69 _ rfl rfl HL.out ?_)
  | (simp only [zaft, HW2.out]; refine wpList_store_box rfl 69 _ _ rfl rfl rfl HST.out ?_))
 obtain ⟨f1, f2, f3, f4, f5, f6⟩ := TypAt.fields ST.out.x
 simp only [Nat.zero_add] at f2 f3 f4 f5 f6
 go_wp2_with fail
 clear f1 f2 f3 f4 f5 f6
 refine (isName_any t.name w3 HT.out.name).mono ?_
 rintro e w4 ⟨rfl, hb⟩
 have ST4 := Lib.hid (ST.out.below hb)
 clear hb ST HST
 obtain ⟨f1, f2, f3, f4, f5, f6⟩ := TypAt.fields ST4.out.x
 simp only [Nat.zero_add] at f2 f3 f4 f5 f6
 rcases h1 : isNameB t.name with _ | _
 ·have HN : Hid (typeB t = false) := Lib.hid (by simp [typeB, h1])
  go_wp2_with fail
  go_ret
  exact ⟨ret_bool HN.out.symm, ST4.out.b⟩
 go_wp2_with fail
 clear f1 f2 f3 f4 f5 f6
 refine (isName_any t.ware w4 HT.out.ware).mono ?_
 rintro e w5 ⟨rfl, hb⟩
 have ST5 := Lib.hid (ST4.out.below hb)
 clear hb ST4
 obtain ⟨f1, f2, f3, f4, f5, f6⟩ := TypAt.fields ST5.out.x
 simp only [Nat.zero_add] at f2 f3 f4 f5 f6
 rcases h2 : isNameB t.ware with _ | _
 ·have HN : Hid (typeB t = false) := Lib.hid (by simp [typeB, h2])
  go_wp2_with fail
  go_ret
  exact ⟨ret_bool HN.out.symm, ST5.out.b⟩
 go_wp2_with fail
 refine (in_any t.least 1 t.most w5).mono ?_
 rintro e w6 ⟨rfl, rfl⟩
 rcases h3 : inB t.least 1 t.most with _ | _
 ·have HN : Hid (typeB t = false) := Lib.hid (by simp [typeB, h3])
  go_wp2_with fail
  go_ret
  exact ⟨ret_bool HN.out.symm, ST5.out.b⟩
 rcases h4 : decide (t.most ≤ 12) with _ | _
 ·have HN : Hid (typeB t = false) := Lib.hid (by simp only [typeB, h4, Bool.and_false, Bool.false_and])
  go_wp2_with fail
  go_ret
  exact ⟨ret_bool HN.out.symm, ST5.out.b⟩
 rcases h5 : !t.rim.toList.isEmpty with _ | _
 ·have HN : Hid (typeB t = false) := Lib.hid (by simp only [typeB, h5, Bool.and_false, Bool.false_and])
  have h5' : t.rim.toList.isEmpty = true := by simpa using h5
  go_wp2_with fail
  go_ret
  exact ⟨ret_bool HN.out.symm, ST5.out.b⟩
 have h5' : t.rim.toList.isEmpty = false := by simpa using h5
 rcases h6 : !t.base.toList.isEmpty with _ | _
 ·have HN : Hid (typeB t = false) := Lib.hid (by simp only [typeB, h6, Bool.and_false, Bool.false_and])
  have h6' : t.base.toList.isEmpty = true := by simpa using h6
  go_wp2_with fail
  go_ret
  exact ⟨ret_bool HN.out.symm, ST5.out.b⟩
 have h6' : t.base.toList.isEmpty = false := by simpa using h6
 go_wp2_with fail
 clear f1 f2 f3 f4 f5 f6
 refine (isSet_any t.rim w5 (by have := HT.out.rim; omega)).mono ?_
 rintro e w7 ⟨rfl, hb⟩
 have ST7 := Lib.hid (ST5.out.below hb)
 clear hb ST5
 obtain ⟨f1, f2, f3, f4, f5, f6⟩ := TypAt.fields ST7.out.x
 simp only [Nat.zero_add] at f2 f3 f4 f5 f6
 rcases h7 : isSetB (bl t.rim) with _ | _
 ·have HN : Hid (typeB t = false) := Lib.hid (by simp only [typeB, h7, Bool.and_false, Bool.false_and])
  go_wp2_with fail
  go_ret
  exact ⟨ret_bool HN.out.symm, ST7.out.b⟩
 go_wp2_with fail
 clear f1 f2 f3 f4 f5 f6
 refine (isSet_any t.base w7 (by have := HT.out.base; omega)).mono ?_
 rintro e w8 ⟨rfl, hb⟩
 have ST8 := Lib.hid (ST7.out.below hb)
 clear hb ST7
 rcases h8 : isSetB (bl t.base) with _ | _
 ·have HN : Hid (typeB t = false) := Lib.hid (by simp only [typeB, h8, Bool.and_false, Bool.false_and])
  go_wp2_with fail
  go_ret
  exact ⟨ret_bool HN.out.symm, ST8.out.b⟩
 go_wp2_with fail
 have hent : ∀ args W, (callFunc 148 args).run Tryz.prog W = .ok (.enter 148 args) W := enters_of Tryz.func148 (by kernel_rfl) rfl
 have hc := containsS_any 148 #[] (fun s => !isSetB (bl s)) hent (some ⟨w.heap.size + 1, 0, none⟩) 26 ((List.range 26).map t.after) w8
  (fun x hx W _ => notSet_any x (by
   obtain ⟨c, hc, rfl⟩ := List.mem_map.1 hx
   have := HT.out.after c (by simpa using hc)
   omega) W)
  (fun k s hs => ⟨_, _, rfl, by
   have hk : k < 26 := by have := (List.getElem?_eq_some_iff.1 hs).1; simpa using this
   rw [Nat.zero_add, ST8.out.a.fn hk]
   simp [hk] at hs
   rw [← hs]; rfl⟩) (by simp)
 simp only [List.length_map, List.length_range] at hc
 obtain ⟨q, hq⟩ : ∃ q, (((List.range 26).map t.after).any fun s => !isSetB (bl s)) = q := ⟨_, rfl⟩
 rw [hq] at hc
 have HQ := Lib.hid hq
 clear hq
 refine hc.mono ?_
 rintro e w9 ⟨rfl, hb⟩
 have ST9 := Lib.hid (ST8.out.below hb)
 clear hb ST8 hc
 have HN : Hid (typeB t = !q) := Lib.hid (by rw [← HQ.out]; simp only [typeB, h1, h2, h3, h4, h5, h6, h7, h8, Bool.true_and])
 go_wp2_with fail
 go_ret
 exact ⟨ret_bool HN.out.symm, ST9.out.b⟩
end Go.Proofs.YthpjffhccjlnhaaGreatDoor
namespace Go.Proofs.YthpjffhccjlnhaaGreatDoor
open Go.RowKit
attribute [local go_sem] Oper.semAt_some

theorem ztyp : (#[.string { data := #[] }, .string { data := #[] }, .int .i64 0, .int .i64 0, .string { data := #[] }, .string { data := #[] }, .string { data := #[] }, .string { data := #[] }, .string { data := #[] }, .string { data := #[] }, .string { data := #[] }, .string { data := #[] }, .string { data := #[] }, .string { data := #[] }, .string { data := #[] }, .string { data := #[] }, .string { data := #[] }, .string { data := #[] }, .string { data := #[] }, .string { data := #[] }, .string { data := #[] }, .string { data := #[] }, .string { data := #[] }, .string { data := #[] }, .string { data := #[] }, .string { data := #[] }, .string { data := #[] }, .string { data := #[] }, .string { data := #[] }, .string { data := #[] }, .string { data := #[] }, .string { data := #[] }] : Array Value) = typCells typ0 := by kernel_rfl
/-- the first error of n places -/
def firstE (er : Nat → Int) (n : Nat) : Int := match (List.range n).find? fun i => er i != 0 with | some i => er i | none => 0
theorem firstE_none {er : Nat → Int} {n : Nat} (h : ∀ j, j < n → er j = 0) : firstE er n = 0 := by
 unfold firstE
 rw [List.find?_eq_none.2 fun i hi => by simp [h i (by simpa using hi)]]
theorem firstE_at {er : Nat → Int} {n i : Nat} (hi : i < n) (h0 : er i ≠ 0) (h : ∀ j, j < i → er j = 0) : firstE er n = er i := by
 unfold firstE
 have : (List.range n).find? (fun i => er i != 0) = some i := by
  rw [show n = i + (1 + (n - i - 1)) by omega, List.range_add, List.find?_append, List.find?_eq_none.2 fun j hj => by simp [h j (by simpa using hj)]]
  simp [List.range_add, h0]
 rw [this]
set_option maxRecDepth 100000 in
set_option maxHeartbeats 1000000 in
theorem firstT_any (K : Nat) (caps : Array Value) (er : Nat → Int) (hent : ∀ args W, (callFunc K args).run Tryz.prog W = .ok (.enter K args) W) (a : Option Addr) (c : Nat) (l : List Typ) (w : World)
  (hf : ∀ i x, l[i]? = some x → ∀ W, Below w.heap.size w W → Calls Tryz.prog K (#[.slice a i i, .agg (typCells x)] ++ caps) W fun e W' => e = .returned (.int .i64 (er i)) ∧ Below W.heap.size W W') (h : TypesAt w a l) (hl : l.length ≤ 1000000) (hlc : l.length ≤ c) :
  Calls Tryz.prog 113 #[.slice a l.length c, .func (.func K) #[] caps] w fun e w' => e = .returned (.int .i64 (firstE er l.length)) ∧ Below w.heap.size w w' := by
 have HF := Lib.hid hf
 have HT := Lib.hid h
 clear hf h
 go_enter Tryz.func113, Tryz.ntmps113
 go_wp2_with fail
 go_loopw [10] (fun iv wr => ∃ k : Nat, k ≤ l.length ∧ iv = .int .i64 k ∧ (∀ j, j < k → er j = 0) ∧ Below w.heap.size w wr) (fun iv _ => l.length - (intOf iv).toNat)
 case atStart => exact ⟨0, Nat.zero_le _, rfl, fun j hj => absurd hj (Nat.not_lt_zero j), Below.refl _ _⟩
 case round =>
  obtain ⟨k, hk, rfl, hall, hbw⟩ := hrel
  have HA := Lib.hid hall
  have HW := Lib.hid hbw
  clear hall hbw
  by_cases hlt : k < l.length
  ·obtain ⟨x, hx⟩ : ∃ x, l[k]? = some x := ⟨l[k], by simp [hlt]⟩
   obtain ⟨b, o, rfl, hc⟩ := (HT.out.below HW.out) k x hx
   have hki : (k : Int) < (l.length : Int) := by omega
   have hk0 : (0 : Int) ≤ (k : Int) := by omega
   have hkc : (k : Int) ≤ (c : Int) := by omega
   have HX := Lib.hid hx
   have HL := Lib.hid hc.load
   obtain ⟨w2, hw2⟩ : ∃ w2, wr.alloc (.cells (typCells typ0) 71) = w2 := ⟨_, rfl⟩
   have b2 : Box w2 wr.heap.size (typCells typ0) 71 := by rw [← hw2]; exact Box.new _ _ _
   have hb2 : Below wr.heap.size wr w2 := by rw [← hw2]; go_grown
   obtain ⟨w3, hst, hw3⟩ := run_store_all (P := Tryz.prog) agg_typ b2 (typF x) (fun j _ => typF_one x j)
   have HB3 := Lib.hid (HW.out.trans ((hw3.below hb2 (Nat.le_refl _)).mono HW.out.size))
   have HX3 := Lib.hid hw3.box.typ
   have HW2 := Lib.hid hw2
   have HST := Lib.hid hst
   clear hx hc hw2 b2 hb2 hst hw3
   go_upto_region 4 with (first
    | (refine wpList_load_box rfl 71 _ rfl rfl HL.out ?_)
    | (simp only [ztyp, HW2.out]; refine wpList_store_box rfl 71 _ _ rfl rfl rfl HST.out ?_))
   refine wp_region_heldB 7 [] (by kernel_rfl) (by kernel_rfl) (by kernel_rfl) (by simp) ?_
   intro S hS
   have L2 := Lib.hid (fun A hA => TypAt.load (HX3.out.below (hS A hA)))
   have HS := Lib.hid hS
   clear hS
   simp only [List.take_succ_cons, List.take_zero, List.drop_succ_cons, List.drop_zero]
   repeat (first
    | (refine held_load 71 _ (by rfl) rfl rfl L2.out ?_; try (dsimp only); try simp only [Act.put, List.setIfInBounds_toArray, List.set_cons_zero, List.set_cons_succ])
    | (refine held_not rfl (by rfl) ?_; try (dsimp only); try simp only [Act.put, List.setIfInBounds_toArray, List.set_cons_zero, List.set_cons_succ])
    | (refine held_val (v := ?_) rfl (by rfl) ?_ ?_; rotate_left; (· (intro W hW; go_simp; try with_reducible rfl)); try (dsimp only); try simp only [Act.put, List.setIfInBounds_toArray, List.set_cons_zero, List.set_cons_succ])
    | (refine held_skip rfl (by rfl) ?_ ?_; (· (intro W hW; go_simp; try with_reducible rfl)); try (dsimp only); try simp only [Act.put, List.setIfInBounds_toArray, List.set_cons_zero, List.set_cons_succ])
    | (refine held_call (v := .int .i64 (er k)) (f := K) (args := #[.slice (some ⟨b, o, none⟩) k k, .agg (typCells x)] ++ caps) rfl (by rfl) ?_ ?_ ?_; (· (intro W hW; go_simp; done)); (· exact (fun W hW => HF.out k x HX.out W (HB3.out.trans ((HS.out W hW).mono HB3.out.size)))); try (dsimp only); try simp only [Act.put, List.setIfInBounds_toArray, List.set_cons_zero, List.set_cons_succ]))
   refine held_nil ?_
   intro τ hτ W4 hW hO
   obtain rfl := laid0 hτ
   have HB4 := Lib.hid (HB3.out.trans ((HS.out W4 hW).mono HB3.out.size))
   clear hτ hO hW HS L2 HST HW2 HL
   simp only [overs, List.foldl_nil]
   by_cases he : er k = 0
   ·have HE := Lib.hid he
    rw [he]
    clear he
    go_wp2_with fail
    go_roundw
    case rel =>
     refine ⟨k + 1, by omega, by go_num, fun j hj => ?_, HB4.out⟩
     rcases Nat.lt_or_ge j k with h1 | h1
     ·exact HA.out j h1
     ·have : j = k := by omega
      subst this; exact HE.out
    case measure => simp [intOf]; omega
   ·have HE := Lib.hid (firstE_at hlt he HA.out)
    have hne : (er k == 0) = false := by simpa using he
    go_wp2_with fail
    go_ret
    exact ⟨ret_int HE.out.symm, HB4.out⟩
  ·have hkn : decide ((k : Int) < (l.length : Int)) = false := by simp; omega
   have HE := Lib.hid (firstE_none (er := er) (n := l.length) fun j hj => HA.out j (by omega))
   go_wp2_with fail
   go_ret
   exact ⟨ret_int HE.out.symm, HW.out⟩
end Go.Proofs.YthpjffhccjlnhaaGreatDoor
namespace Go.Proofs.YthpjffhccjlnhaaGreatDoor
open Go.RowKit
attribute [local go_sem] Oper.semAt_some

def sameName (x y : Typ) : Bool := y.name.toList == x.name.toList
/-- what is wrong with the type at a place -/
def typErr (l : List Typ) (i : Nat) : Int := match l[i]? with
 | some x => if typeB x then (if (l.take i).any (sameName x) then 6 else 0) else 1
 | none => 0
def typesErr (l : List Typ) : Int := if 12 < l.length then 2 else firstE (typErr l) l.length
set_option maxRecDepth 100000 in
set_option maxHeartbeats 1000000 in
theorem same_any (x y : Typ) (g : Nat) (w : World) (hg : TypAt w g 0 x) : Calls Tryz.prog 117 #[.agg (typCells y), .pointer (some ⟨g, 0, none⟩)] w fun e w' => e = .returned (.bool (sameName x y)) ∧ Below w.heap.size w w' := by
 obtain ⟨w1, hw1⟩ : ∃ w1, w.alloc (.cells (typCells y) 71) = w1 := ⟨_, rfl⟩
 have b0 : Box w1 w.heap.size (typCells y) 71 := by rw [← hw1]; exact Box.new _ _ _
 have hB : Below w.heap.size w w1 := by rw [← hw1]; go_grown
 have c1 := (Box.typ b0).fields.1
 have c2 := (hg.below hB).fields.1
 have HB := Lib.hid hB
 have HW := Lib.hid hw1
 clear b0 hB hg hw1
 go_enter Tryz.func117, Tryz.ntmps117
 go_upto_region 1 with fail
 simp only [HW.out]
 go_wp2_with fail
 go_ret
 exact ⟨rfl, HB.out⟩
set_option maxRecDepth 100000 in
set_option maxHeartbeats 1000000 in
theorem typErr_any (l : List Typ) (i : Nat) (x : Typ) (a : Option Addr) (hx : l[i]? = some x) (ht : SmlT x) (w : World) (h : TypesAt w a l) (hl : l.length ≤ 1000000) :
  Calls Tryz.prog 114 #[.slice a i i, .agg (typCells x)] w fun e w' => e = .returned (.int .i64 (typErr l i)) ∧ Below w.heap.size w w' := by
 have hil : i < l.length := (List.getElem?_eq_some_iff.1 hx).1
 have hmf := run_mf Tryz.prog
 obtain ⟨w1, hw1⟩ : ∃ w1, w.alloc (.cells (typCells x) 71) = w1 := ⟨_, rfl⟩
 have b0 : Box w1 w.heap.size (typCells x) 71 := by rw [← hw1]; exact Box.new _ _ _
 have hB : Below w.heap.size w w1 := by rw [← hw1]; go_grown
 have HL := Lib.hid (TypAt.load (Box.typ b0))
 have HX := Lib.hid (Box.typ b0)
 have HT := Lib.hid (h.below hB)
 have HB := Lib.hid hB
 have HW := Lib.hid hw1
 have HE : Hid (typErr l i = if typeB x then (if (l.take i).any (sameName x) then 6 else 0) else 1) := Lib.hid (by unfold typErr; rw [hx])
 have HS := Lib.hid ht
 clear b0 hB h hw1 ht hx
 go_enter Tryz.func114, Tryz.ntmps114
 go_upto_region 1 with fail
 simp only [HW.out]
 go_wp2_with (refine wpList_load_box rfl 71 _ rfl rfl HL.out ?_)
 refine (isType_any x HS.out w1).mono ?_
 rintro e w2 ⟨rfl, hb2⟩
 rcases ht : typeB x with _ | _
 ·rw [ht] at HE
  have HB2 := Lib.hid (HB.out.trans (hb2.mono HB.out.size))
  clear hb2 ht
  go_wp2_with fail
  go_ret
  exact ⟨ret_int (by rw [HE.out]; rfl), HB2.out⟩
 ·rw [ht, if_pos rfl] at HE
  have hent : ∀ args W, (callFunc 117 args).run Tryz.prog W = .ok (.enter 117 args) W := enters_of Tryz.func117 (by kernel_rfl) rfl
  have hc := containsT_any 117 #[.pointer (some ⟨w.heap.size, 0, none⟩)] (sameName x) hent a i (l.take i) w2
   (fun y _ W hW => same_any x y w.heap.size W ((HX.out.below hb2).below hW))
   (fun k t hk => by
    have h1 : l[k]? = some t := by
     rw [List.getElem?_take] at hk
     split at hk
     ·exact hk
     ·cases hk
    exact (HT.out.below hb2) k t h1) (by rw [List.length_take]; omega)
  rw [List.length_take, Nat.min_eq_left (by omega)] at hc
  have HC := Lib.hid hc
  have HB2 := Lib.hid (HB.out.trans (hb2.mono HB.out.size))
  clear hb2 ht hc
  go_wp2_with fail
  refine HC.out.mono ?_
  rintro e w3 ⟨rfl, hb3⟩
  have HB3 := Lib.hid (HB2.out.trans (hb3.mono HB2.out.size))
  clear hb3
  rcases hq : (l.take i).any (sameName x) with _ | _
  all_goals
   rw [hq] at HE
   clear hq
   go_wp2_with fail
   go_ret
   exact ⟨ret_int (by rw [HE.out]; rfl), HB3.out⟩
set_option maxHeartbeats 1000000 in
theorem checkTypes_any (a : Option Addr) (c : Nat) (l : List Typ) (w : World) (h : TypesAt w a l) (hs : ∀ t, t ∈ l → SmlT t) (hl : l.length ≤ 1000000) (hlc : l.length ≤ c) :
  Calls Tryz.prog 60 #[.slice a l.length c] w fun e w' => e = .returned (.int .i64 (typesErr l)) ∧ Below w.heap.size w w' := by
 have hent : ∀ args W, (callFunc 114 args).run Tryz.prog W = .ok (.enter 114 args) W := enters_of Tryz.func114 (by kernel_rfl) rfl
 have HC := Lib.hid (firstT_any 114 #[] (typErr l) hent a c l w (fun i x hx W hW => typErr_any l i x a hx (hs x (List.mem_of_getElem? hx)) W (h.below hW) hl) h hl hlc)
 clear h hs hent
 by_cases h12 : 12 < l.length
 ·have h12i : (12 : Int) < (l.length : Int) := by omega
  have HE : Hid (typesErr l = 2) := Lib.hid (by unfold typesErr; rw [if_pos h12])
  go_enter Tryz.func60, Tryz.ntmps60
  go_wp2_with fail
  go_ret
  exact ⟨ret_int HE.out.symm, Below.refl _ _⟩
 ·have h12i : decide ((12 : Int) < (l.length : Int)) = false := by simp; omega
  have HE : Hid (typesErr l = firstE (typErr l) l.length) := Lib.hid (by unfold typesErr; rw [if_neg h12])
  go_enter Tryz.func60, Tryz.ntmps60
  go_wp2_with fail
  refine HC.out.mono ?_
  rintro e w1 ⟨rfl, hb⟩
  have HB := Lib.hid hb
  clear hb
  go_wp2_with fail
  go_ret
  exact ⟨ret_int HE.out.symm, HB.out⟩
end Go.Proofs.YthpjffhccjlnhaaGreatDoor
