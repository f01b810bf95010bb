/- Package profile: each: the classes of a set, one after the other. No condition. -/
/- Package profile: types and kinds in memory; a range over a set's classes. No condition. -/
/- Package profile: next: what can come below one of some classes. No condition. -/
/- Package profile: every, free; cuts in memory. No condition. -/
/- A function that ranges over functions in a loop: the marks among its deferred calls; loops whose frame's deferred calls grow. No condition. -/
import Derived.Test.YthpjffhccjlnhaaGreatDoorMG1
import Derived.Sort.LoopGhostIn
set_option linter.unusedSimpArgs false
set_option linter.unusedVariables false
namespace Go.Proofs.YthpjffhccjlnhaaGreatDoor
open Go.RowKit
attribute [local go_sem] Oper.semAt_some

theorem run_index_set (s : CS) {k : Nat} (hk : k < 26) (w : World) : (Instr.index 108 (.agg (setCells s)) (.int .i64 (k : Int))).run Tryz.prog w = .ok (.bool (s k)) w := by
 have h1 : (part 4 (setCells s) (k * 1)).run Tryz.prog w = .ok (.bool (s k)) w := run_part_plain w bool_plain (by rw [Nat.mul_one]; exact fnCells_get hk)
 have hi : (0 : Int) ≤ k ∧ (k : Int) < 26 := by omega
 have hs : (sizeOf 4).run Tryz.prog w = .ok 1 w := by kernel_rfl
 have hg : (setCells s)[k]? = some (.bool (s k)) := fnCells_get hk
 clear h1
 simp [Instr.index, run_underlying Tryz.underlying108, asIntOf, hi, hs, hk, hg, go_sem]
def eachTo (s : CS) (k : Nat) : List Nat := (List.range k).filter s
def classesOf (s : CS) : List Nat := eachTo s 26
theorem eachTo_yes {s : CS} {k : Nat} (h : s k = true) : eachTo s (k + 1) = eachTo s k ++ [k] := by simp [eachTo, List.range_succ, h]
theorem eachTo_no {s : CS} {k : Nat} (h : s k = false) : eachTo s (k + 1) = eachTo s k := by simp [eachTo, List.range_succ, h]
theorem eachTo_le (s : CS) {k m : Nat} (h : k ≤ m) : eachTo s k <+: eachTo s m := by
 obtain ⟨d, rfl⟩ := Nat.exists_eq_add_of_le h
 induction d with
 | zero => exact List.prefix_rfl
 | succ d ih =>
  refine (ih (by omega)).trans ?_
  rw [← Nat.add_assoc]
  cases hs : s (k + d)
  ·rw [eachTo_no hs]; exact List.prefix_rfl
  ·rw [eachTo_yes hs]; exact List.prefix_append _ _
def EachRd (c : Nat) (args : Array Value) (_ : World) : Prop := args = #[.int .i64 (c : Int)]
set_option maxRecDepth 100000 in
set_option maxHeartbeats 4000000 in
theorem each_gives (s : CS) (W : World) : GivesM Tryz.prog 103 #[.agg (setCells s)] #[] EachRd (classesOf s) W := by
 intro l J Jx hJ hJx hY h0
 have HJ := Lib.hid hJ
 have HY := Lib.hid hY
 have H0 := Lib.hid (hJ _ _ _ h0 ((Below.refl _ W).alloc (Nat.le_refl _) (.cells (setCells s) 108)))
 have hb : SetBox (W.alloc (.cells (setCells s) 108)) W.heap.size s := Box.new _ _ _
 have HL := Lib.hid (load_set hb)
 clear hY hJ hJx h0 hb
 refine callsIn_of_wp Tryz.func103 rfl trivial ?_
 simp only [Tryz.ntmps103, List.size_toArray, List.length_cons, List.length_nil, Nat.reduceAdd, Nat.reduceSub, Array.replicate_succ, Array.replicate_zero, List.push_toArray, List.append_toArray, List.nil_append, List.cons_append]
 gi_wp2_with (refine wpListIn_load_box rfl 108 _ rfl rfl HL.out ?_)
 gi_loopw [4, 5, 7] (fun _ _ iv wr => ∃ k : Nat, k ≤ 26 ∧ iv = .int .i64 k ∧ J (eachTo s k) wr) (fun _ _ iv _ => 26 - (intOf iv).toNat)
 case atStart => exact ⟨0, Nat.zero_le _, rfl, H0.out⟩
 case round =>
  clear H0 HL
  obtain ⟨k, hk, rfl, hj⟩ := hrel
  by_cases hlt : k < 26
  ·have hix := run_index_set s hlt wr
   have hki : (k : Int) < 26 := by omega
   rcases hs : s k with _ | _
   ·rw [hs] at hix
    have HS := Lib.hid (eachTo_no hs)
    have HJJ := Lib.hid hj
    clear hs hj
    gi_wp2_with fail
    go_roundw
    case rel => exact ⟨k + 1, by omega, by go_num, by rw [HS.out]; exact HJJ.out⟩
    case measure => simp [intOf]; omega
   ·rw [hs] at hix
    have hpre : (eachTo s k ++ [k]) <+: classesOf s := by rw [← eachTo_yes hs]; exact eachTo_le s (by omega)
    obtain ⟨fn, tmps, assign, body, hy, hR⟩ := HY.out _ k #[.int .i64 (k : Int)] _ hj rfl hpre
    have HR := Lib.hid hR
    have HS := Lib.hid (eachTo_yes hs)
    have HPRE := Lib.hid hpre
    clear hs hj hR hpre
    gi_wp2_with fail
    refine HR.out.mono ?_
    rintro e w2 (⟨rfl, hj2⟩ | ⟨rfl, hx⟩)
    ·have HJ2 := Lib.hid hj2
     clear hj2 hy hix
     gi_wp2_with fail
     go_roundw
     case rel => exact ⟨k + 1, by omega, by go_num, by rw [HS.out]; exact HJ2.out⟩
     case measure => simp [intOf]; omega
    ·have HX := Lib.hid hx
     clear hx hy hix
     gi_wp2_with fail
     refine bodyPost_ret (results_none rfl _ _ _) rfl ?_
     exact ⟨⟨_, rfl⟩, .inr ⟨_, HPRE.out, HX.out⟩⟩
  ·have hkn : decide ((k : Int) < 26) = false := by simp; omega
   obtain rfl : k = 26 := by omega
   have HJJ := Lib.hid hj
   clear hj
   gi_wp2_with fail
   go_end0
   exact ⟨⟨_, rfl⟩, .inl HJJ.out⟩
end Go.Proofs.YthpjffhccjlnhaaGreatDoor
namespace Go.Proofs.YthpjffhccjlnhaaGreatDoor
open Go.RowKit
attribute [local go_sem] Oper.semAt_some

theorem run_mf (P : Program) (fn : Fn) (first cap : Array Value) (w : World) : (Instr.makeFunc fn first cap).run P w = .ok (.func fn first cap) w := rfl
theorem below_put {B : Nat} {w W : World} (h : Below B w W) {k : Nat} (hk : B ≤ k) (o : Obj) : Below B w (W.putObj k o) :=
 ⟨h.os, h.tape, h.output, by simpa using h.size, fun i hi => (World.putObj_heap_other (by omega)).trans (h.block i hi)⟩
/-! a type's cells -/
def typF (t : Typ) : Nat → Value
 | 0 => .string t.name
 | 1 => .string t.ware
 | 2 => .int .i64 t.least
 | 3 => .int .i64 t.most
 | 4 => .string t.rim
 | 5 => .string t.base
 | j + 6 => .string (t.after j)
def typCells (t : Typ) : Array Value := fnCells 32 (typF t)
def aftF (t : Typ) : Nat → Value := fun j => .string (t.after j)
theorem agg_typ : Agg Tryz.prog 71 32 := ⟨⟨_, Tryz.underlying71, rfl⟩, by kernel_rfl⟩
theorem agg_aft : Agg Tryz.prog 69 26 := ⟨⟨_, Tryz.underlying69, rfl⟩, by kernel_rfl⟩
theorem typF_one (t : Typ) (j : Nat) : (typF t j).oneCell' = true := by
 rcases j with _ | _ | _ | _ | _ | _ | j <;> rfl
/-- a type at a place -/
def TypAt (w : World) (b o : Nat) (t : Typ) : Prop := ∀ j, j < 32 → w.cell? ⟨b, o + j, none⟩ = some (typF t j)
theorem TypAt.below {w w' : World} {b o : Nat} {t : Typ} (h : TypAt w b o t) (hb : Below w.heap.size w w') : TypAt w' b o t := fun j hj => below_cell hb (h j hj)
theorem TypAt.keep {K : Nat → Prop} {w w' : World} {b o : Nat} {t : Typ} (h : TypAt w b o t) (hk : Keep K w w') (hK : K b) : TypAt w' b o t := fun j hj => hk.cell hK (h j hj)
theorem TypAt.load {w : World} {b o : Nat} {t : Typ} (h : TypAt w b o t) : (Instr.loadAt 71 (.pointer (some ⟨b, o, none⟩))).run Tryz.prog w = .ok (.agg (typCells t)) w := run_load_fn agg_typ h
theorem TypAt.aft {w : World} {b o : Nat} {t : Typ} (h : TypAt w b o t) : (Instr.loadAt 69 (.pointer (some ⟨b, o + 6, none⟩))).run Tryz.prog w = .ok (.agg (fnCells 26 (aftF t))) w :=
 run_load_fn agg_aft fun j hj => by rw [Nat.add_assoc, h (6 + j) (by omega), Nat.add_comm 6 j]; rfl
theorem TypAt.fields {w : World} {b o : Nat} {t : Typ} (h : TypAt w b o t) :
  w.cell? ⟨b, o, none⟩ = some (.string t.name) ∧ w.cell? ⟨b, o + 1, none⟩ = some (.string t.ware) ∧ w.cell? ⟨b, o + 2, none⟩ = some (.int .i64 t.least) ∧ w.cell? ⟨b, o + 3, none⟩ = some (.int .i64 t.most) ∧
   w.cell? ⟨b, o + 4, none⟩ = some (.string t.rim) ∧ w.cell? ⟨b, o + 5, none⟩ = some (.string t.base) := ⟨h 0 (by omega), h 1 (by omega), h 2 (by omega), h 3 (by omega), h 4 (by omega), h 5 (by omega)⟩
theorem TypAt.lt {w : World} {b o : Nat} {t : Typ} (h : TypAt w b o t) : b < w.heap.size := lt_of_cell (h 0 (by omega))
theorem Box.typ {w : World} {b : Nat} {t : Typ} {ty : TypeId} (h : Box w b (typCells t) ty) : TypAt w b 0 t := fun j hj => by rw [Nat.zero_add]; exact h.fn hj
/-- a slice of types -/
def TypesAt (w : World) (a : Option Addr) (l : List Typ) : Prop := ∀ k t, l[k]? = some t → ∃ b o, a = some ⟨b, o, none⟩ ∧ TypAt w b (o + k * 32) t
theorem TypesAt.below {w w' : World} {a : Option Addr} {l : List Typ} (h : TypesAt w a l) (hb : Below w.heap.size w w') : TypesAt w' a l := fun k t ht => by
 obtain ⟨b, o, ha, h1⟩ := h k t ht; exact ⟨b, o, ha, h1.below hb⟩
theorem TypesAt.at_ {w : World} {a : Option Addr} {l : List Typ} (h : TypesAt w a l) {k : Nat} {t : Typ} (ht : l[k]? = some t) : ∃ b o, a = some ⟨b, o, none⟩ ∧ TypAt w b (o + k * 32) t := h k t ht

/-! a kind's cells -/
structure Knd where
 typ : Typ
 index : Int
 rim : CS
 base : CS
 after : Nat → CS
def Knd.kd (k : Knd) : Kd := ⟨k.rim, k.base, k.after⟩
def kndF (k : Knd) (j : Nat) : Value := if j < 32 then typF k.typ j else if j = 32 then .int .i64 k.index else if j < 59 then .bool (k.rim (j - 33)) else if j < 85 then .bool (k.base (j - 59)) else .bool (k.after ((j - 85) / 26) ((j - 85) % 26))
def kndCells (k : Knd) : Array Value := fnCells 761 (kndF k)
theorem agg_knd : Agg Tryz.prog 111 761 := ⟨⟨_, Tryz.underlying111, rfl⟩, by kernel_rfl⟩
theorem kndF_one (k : Knd) (j : Nat) : (kndF k j).oneCell' = true := by
 unfold kndF
 split
 ·exact typF_one _ _
 ·split; · rfl
  ·split; · rfl
   ·split <;> rfl
theorem kndF_typ (k : Knd) {j : Nat} (h : j < 32) : kndF k j = typF k.typ j := by unfold kndF; rw [if_pos h]
theorem kndF_rim (k : Knd) {j : Nat} (h : j < 26) : kndF k (33 + j) = setF k.rim j := by
 unfold kndF setF; rw [if_neg (by omega), if_neg (by omega), if_pos (by omega), show 33 + j - 33 = j by omega]
theorem kndF_base (k : Knd) {j : Nat} (h : j < 26) : kndF k (59 + j) = setF k.base j := by
 unfold kndF setF; rw [if_neg (by omega), if_neg (by omega), if_neg (by omega), if_pos (by omega), show 59 + j - 59 = j by omega]
theorem kndF_after (k : Knd) (c : Nat) {j : Nat} (h : j < 26) : kndF k (85 + c * 26 + j) = setF (k.after c) j := by
 unfold kndF setF
 rw [if_neg (by omega), if_neg (by omega), if_neg (by omega), if_neg (by omega), show (85 + c * 26 + j - 85) / 26 = c by omega, show (85 + c * 26 + j - 85) % 26 = j by omega]
abbrev KndBox (w : World) (b : Nat) (k : Knd) : Prop := Box w b (kndCells k) 111
section
variable {w : World} {b : Nat} {k : Knd}
theorem KndBox.load (h : KndBox w b k) : (Instr.loadAt 111 (.pointer (some ⟨b, 0, none⟩))).run Tryz.prog w = .ok (.agg (kndCells k)) w := run_load_sub agg_knd h 0 (kndF k) (fun j _ => by rw [Nat.zero_add]) (by omega)
theorem KndBox.loadv (h : KndBox w b k) : (loadVar 111 ⟨b, 0, none⟩).run Tryz.prog w = .ok (.agg (kndCells k)) w := run_loadv_sub agg_knd h 0 (kndF k) (fun j _ => by rw [Nat.zero_add]) (by omega)
theorem KndBox.rim_ (h : KndBox w b k) : (Instr.loadAt 108 (.pointer (some ⟨b, 33, none⟩))).run Tryz.prog w = .ok (.agg (setCells k.rim)) w := run_load_sub agg_set h 33 (setF k.rim) (fun j hj => kndF_rim k hj) (by omega)
theorem KndBox.base_ (h : KndBox w b k) : (Instr.loadAt 108 (.pointer (some ⟨b, 59, none⟩))).run Tryz.prog w = .ok (.agg (setCells k.base)) w := run_load_sub agg_set h 59 (setF k.base) (fun j hj => kndF_base k hj) (by omega)
theorem KndBox.after_ (h : KndBox w b k) {c : Nat} (hc : c < 26) : (Instr.loadAt 108 (.pointer (some ⟨b, 85 + c * 26, none⟩))).run Tryz.prog w = .ok (.agg (setCells (k.after c))) w := run_load_sub agg_set h (85 + c * 26) (setF (k.after c)) (fun j hj => kndF_after k c hj) (by omega)
theorem KndBox.baseAt (h : KndBox w b k) {c : Nat} (hc : c < 26) : w.cell? ⟨b, 59 + c, none⟩ = some (.bool (k.base c)) := by rw [h.fn (by omega), kndF_base k hc]; rfl
theorem KndBox.least_ (h : KndBox w b k) : w.cell? ⟨b, 2, none⟩ = some (.int .i64 k.typ.least) := by rw [h.fn (by omega), kndF_typ k (by omega)]; rfl
theorem KndBox.most_ (h : KndBox w b k) : w.cell? ⟨b, 3, none⟩ = some (.int .i64 k.typ.most) := by rw [h.fn (by omega), kndF_typ k (by omega)]; rfl
theorem KndBox.index_ (h : KndBox w b k) : w.cell? ⟨b, 32, none⟩ = some (.int .i64 k.index) := by rw [h.fn (by omega)]; rfl
theorem KndBox.typ_ (h : KndBox w b k) : TypAt w b 0 k.typ := fun j hj => by rw [Nat.zero_add, h.fn (by omega), kndF_typ k hj]
end

/-- A RANGE OVER A SET's CLASSES whose body goes on to the end; I speaks of what lay before the loop -/
theorem wpIn_each {g : Operand} {p : Tmp} {assign body : Code} {Q : Exit → Act → World → Prop} {a : Act} {w : World} {s : CS} (hg : a.eval g = .func (.func 103) #[.agg (setCells s)] #[])
  (I : List Nat → World → Prop) (hI : ∀ pre A B, I pre A → Keep (fun k => k < w.heap.size) A B → I pre B) (h0 : I [] w) (q : Tmp)
  (hassign : ∀ (l : Nat) (c : Nat) (W : World) (K : Act → World → Prop), K { tmps := (a.tmps.setIfInBounds p (.int .i64 (c : Int))).setIfInBounds q (.int .i64 (c : Int)), defers := [] } W → assign.wpIn (Fence.wide.inRound l) 0 Tryz.prog (Exit.then K (fun _ _ _ => False)) { tmps := a.tmps.setIfInBounds p (.int .i64 (c : Int)), defers := [] } W)
  (hbody : ∀ (l : Nat) (pre : List Nat) (c : Nat) (W : World), I pre W → w.heap.size + 1 < W.heap.size → c < 26 → (pre ++ [c]) <+: classesOf s →
   body.wpIn (Fence.wide.inRound l) 0 Tryz.prog (roundEndsM (fun k => k = w.heap.size ∨ k = w.heap.size + 1) I (fun _ _ _ => False) (pre ++ [c]) W) { tmps := (a.tmps.setIfInBounds p (.int .i64 (c : Int))).setIfInBounds q (.int .i64 (c : Int)), defers := [] } W)
  (hdone : ∀ (W : World), I (classesOf s) W → W.heap[w.heap.size]? = some (.deferred (some [])) → Q .normal { a with defers := { target := .collected w.heap.size, args := #[] } :: a.defers } W) :
  (Code.rangeFunc g #[p] assign body).wpIn Fence.wide 0 Tryz.prog Q a w := by
 refine wpIn_rangeM (gf := 103) (fs := #[.agg (setCells s)]) (lb := #[]) (Rd := EachRd) (xs := classesOf s) hg (enters_of Tryz.func103 (by kernel_rfl) rfl)
  (fun o1 o2 => each_gives s _) ?ps I (fun _ _ _ => False) ?hI ?hI2 ?hX ?hX2 h0 (fun c _ act _ => act = { tmps := (a.tmps.setIfInBounds p (.int .i64 (c : Int))).setIfInBounds q (.int .i64 (c : Int)), defers := [] }) ?hAs ?assign ?body hdone ?stop
 case ps => rintro x args W rfl; rfl
 case hI => exact fun s A B h hb => hI s A B h (Keep.of_below' hb)
 case hI2 => exact fun s A o h => hI s A _ h ((Keep.refl _ A).putObj (by omega) _)
 case hX => exact fun _ _ _ _ h _ => h.elim
 case hX2 => exact fun _ _ _ _ h => h.elim
 case hAs => exact fun x args act A o h => h
 case assign =>
  rintro l x args W K rfl hlt hk
  have e : (#[p].zip #[Value.int .i64 (x : Int)]).foldl (fun t (q, v) => t.setIfInBounds q v) a.tmps = a.tmps.setIfInBounds p (.int .i64 (x : Int)) := by simp
  rw [e]
  exact hassign l x W K (hk _ _ rfl (Below.refl _ _))
 case body =>
  rintro l pre x args act W hi rfl hpre hlt _ _
  have hx : x ∈ classesOf s := hpre.subset (by simp)
  exact hbody l pre x W hi hlt (by simpa [classesOf, eachTo] using (List.mem_filter.1 hx).1) hpre
 case stop => exact fun _ _ _ _ h => h.elim
theorem mem_classes {s : CS} {c : Nat} : c ∈ classesOf s ↔ c < 26 ∧ s c = true := by simp [classesOf, eachTo]
theorem any_classes (s p : CS) : (classesOf s).any p = any26 fun c => s c && p c := by
 rw [Bool.eq_iff_iff, any26_iff]
 simp only [List.any_eq_true, mem_classes, Bool.and_eq_true, and_assoc]
end Go.Proofs.YthpjffhccjlnhaaGreatDoor
namespace Go.Proofs.YthpjffhccjlnhaaGreatDoor
open Go.RowKit
attribute [local go_sem] Oper.semAt_some

def nextS (K : Knd) (s : CS) : CS := fun d => any26 fun c => s c && K.after c d
theorem size_of_below {w W : World} (h : Below w.heap.size w W) : w.heap.size ≤ W.heap.size := h.size
set_option maxRecDepth 100000 in
set_option maxHeartbeats 4000000 in
theorem next_any (K : Knd) (s : CS) (w : World) :
  Calls Tryz.prog 143 #[.agg (kndCells K), .agg (setCells s)] w fun e w' => e = .returned (.agg (setCells (nextS K s))) ∧ Below w.heap.size w w' := by
 have hmf := run_mf Tryz.prog
 obtain ⟨w4, hw4⟩ : ∃ w4, (((w.alloc (.cells (kndCells K) 111)).alloc (.cells (setCells s) 108)).alloc (.cells (setCells fun _ => false) 108)).alloc (.cells (setCells fun _ => false) 108) = w4 := ⟨_, rfl⟩
 have b0 : KndBox w4 w.heap.size K := by rw [← hw4]; exact (((Box.new _ _ _).alloc _).alloc _).alloc _
 have b1 : SetBox w4 (w.heap.size + 1) s := by rw [← hw4]; exact ((Box.new' (by simp)).alloc _).alloc _
 have b2 : SetBox w4 (w.heap.size + 2) (fun _ => false) := by rw [← hw4]; exact (Box.new' (by simp)).alloc _
 have b3 : SetBox w4 (w.heap.size + 3) (fun _ => false) := by rw [← hw4]; exact Box.new' (by simp)
 have hB : Below w.heap.size w w4 := by rw [← hw4]; go_grown
 have gs : w4.heap.size = w.heap.size + 4 := by rw [← hw4]; simp
 have HL1 := Lib.hid (load_set b1)
 have B0 := Lib.hid b0
 have B2 := Lib.hid b2
 have B3 := Lib.hid b3
 have HB := Lib.hid hB
 have HW := Lib.hid hw4
 have GS := Lib.hid gs
 clear b0 b1 b2 b3 hB hw4 gs
 refine (callsIn_wide (n := 0)).1 (callsIn_of_wp_marks Tryz.func143 rfl trivial ?_ rfl)
 simp only [Tryz.ntmps143, List.size_toArray, List.length_cons, List.length_nil, Nat.reduceAdd, Nat.reduceSub, Array.replicate_succ, Array.replicate_zero, List.push_toArray, List.append_toArray, List.nil_append, List.cons_append]
 gi_wp2_with (simp only [zset, HW.out]; refine wpListIn_load_box rfl 108 _ rfl rfl HL1.out ?_)
 simp only [Nat.add_assoc, Nat.reduceAdd]
 clear HL1 HW
 refine wpIn_each (s := s) rfl (fun pre W => SetBox W (w.heap.size + 3) (fun d => pre.any fun c => K.after c d) ∧ KndBox W w.heap.size K ∧ SetBox W (w.heap.size + 2) (fun _ => false) ∧ Below w.heap.size w W) ?hI ?h0 6 ?assign ?body ?done
 case hI =>
  rintro pre A B ⟨h1, h2, h3, h4⟩ hk
  rw [GS.out] at hk
  exact ⟨hk.heap (by omega) h1, hk.heap (by omega) h2, hk.heap (by omega) h3, h4.trans ((hk.mono fun k hk => by omega).below h4.size)⟩
 case h0 => exact ⟨B3.out, B0.out, B2.out, HB.out⟩
 case assign =>
  intro l c W Kk hK
  gi_wp2_with fail
  exact hK
 case body =>
  rintro l pre c W ⟨h1, h2, h3, h4⟩ hlt hc hpre
  simp only [List.setIfInBounds_toArray, List.set_cons_succ, List.set_cons_zero]
  rw [GS.out] at hlt ⊢
  have hci : (c : Int) < 26 := by omega
  have hc0 : (0 : Int) ≤ (c : Int) := by omega
  have H1 := Lib.hid h1
  have H2 := Lib.hid h2
  have H3 := Lib.hid h3
  have H4 := Lib.hid h4
  clear h1 h2 h3 h4
  gi_wp2_with fail
  refine wpIn_region_heldB_round 6 [] (by kernel_rfl) (by kernel_rfl) (by kernel_rfl) (by kernel_rfl) (by simp) ?_
  intro S hS
  have L1 := Lib.hid (fun A hA => load_set (H1.out.below' (hS A hA)))
  have L2 := Lib.hid (fun A hA => KndBox.after_ (H2.out.below' (hS A hA)) hc)
  have HS := Lib.hid hS
  clear hS
  simp only [List.take_succ_cons, List.take_zero, List.drop_succ_cons, List.drop_zero]
  repeat (first
   | (refine held_load 108 _ (by rfl) rfl rfl L1.out ?_; try (dsimp only); try simp only [Act.put, List.setIfInBounds_toArray, List.set_cons_zero, List.set_cons_succ])
   | (refine held_load 108 _ (by rfl) rfl rfl L2.out ?_; try (dsimp only); try simp only [Act.put, List.setIfInBounds_toArray, List.set_cons_zero, List.set_cons_succ])
   | (refine held_not rfl (by rfl) ?_; try (dsimp only); try simp only [Act.put, List.setIfInBounds_toArray, List.set_cons_zero, List.set_cons_succ])
   | (refine held_val (v := ?_) rfl (by rfl) ?_ ?_; rotate_left; (· (intro W hW; go_simp; try with_reducible rfl)); try (dsimp only); try simp only [Act.put, List.setIfInBounds_toArray, List.set_cons_zero, List.set_cons_succ])
   | (refine held_skip rfl (by rfl) ?_ ?_; (· (intro W hW; go_simp; try with_reducible rfl)); try (dsimp only); try simp only [Act.put, List.setIfInBounds_toArray, List.set_cons_zero, List.set_cons_succ])
   | (refine held_call (v := .agg (setCells fun d => ((pre.any fun c => K.after c d) || K.after c d))) (f := 98) (args := #[.agg (setCells fun d => pre.any fun c => K.after c d), .agg (setCells (K.after c))]) rfl (by rfl) ?_ ?_ ?_; (· (intro W hW; go_simp; done)); (· exact (fun W hW => with4_any _ _ W)); try (dsimp only); try simp only [Act.put, List.setIfInBounds_toArray, List.set_cons_zero, List.set_cons_succ]))
  refine held_nil ?_
  intro τ hτ W2 hW hO
  obtain rfl := laid0 hτ
  have HB2 := Lib.hid (HS.out W2 hW)
  clear hτ hO hW HS L1 L2
  simp only [overs, List.foldl_nil]
  obtain ⟨W3, hst, hw3⟩ := store_set (H1.out.below' HB2.out) (fun d => (pre.any fun c => K.after c d) || K.after c d)
  have HST := Lib.hid hst
  have HW3 := Lib.hid hw3
  clear hst hw3
  gi_wp2_with (refine wpListIn_store_box rfl 108 _ _ rfl rfl rfl HST.out ?_)
  have hk := HW3.out.keep
  refine ⟨(Keep.of_below' HB2.out).trans (hk.mono fun k hk => by omega), HW3.out.box.cong (fun i hi => by simp [setF]), hk.heap (by omega) (H2.out.below' HB2.out), hk.heap (by omega) (H3.out.below' HB2.out), HW3.out.below (H4.out.trans (HB2.out.mono H4.out.size)) (by omega)⟩
 case done =>
  rintro W ⟨h1, h2, h3, h4⟩ hD
  rw [GS.out] at hD
  have h1' : SetBox W (w.heap.size + 3) (nextS K s) := h1.cong (fun i hi => by simp only [setF]; rw [any_classes s (fun c => K.after c i)]; rfl)
  have HL := Lib.hid (load_set h1')
  obtain ⟨W2, hst, hw2⟩ := store_set h3 (nextS K s)
  have HST := Lib.hid hst
  have HW2 := Lib.hid hw2
  have H4 := Lib.hid h4
  have HD := Lib.hid hD
  clear h1 h1' h2 h3 h4 hst hw2 hD
  gi_wp2_with (first
   | (refine wpListIn_load_box rfl 108 _ rfl rfl HL.out ?_)
   | (refine wpListIn_store_box rfl 108 _ _ rfl rfl rfl HST.out ?_))
  have hd2 : W2.heap[w.heap.size + 4]? = some (.deferred (some [])) := HW2.out.keep.heap (by omega) HD.out
  simp only [GS.out]
  refine ⟨by simp, .inl ⟨_, _, rfl, run_takeDeferred hd2, ?_⟩⟩
  have k5 : Keep (fun k => k ≠ w.heap.size + 4) W2 (W2.putObj (w.heap.size + 4) (.deferred none)) := (Keep.refl _ W2).putObj (fun h => h rfl) _
  exact ⟨_, results_cell rfl rfl (loadv_set (k5.heap (by omega) HW2.out.box)), rfl, below_put (HW2.out.below H4.out (by omega)) (by omega) _⟩
end Go.Proofs.YthpjffhccjlnhaaGreatDoor
namespace Go.Proofs.YthpjffhccjlnhaaGreatDoor
open Go.RowKit

set_option maxRecDepth 100000 in
set_option maxHeartbeats 2000000 in
theorem every_any (w : World) : Calls Tryz.prog 135 #[] w fun e w' => e = .returned (.agg (setCells fun _ => true)) ∧ Below w.heap.size w w' := by
 obtain ⟨w1, hw1⟩ : ∃ w1, (w.alloc (.cells (setCells fun _ => false) 108)).alloc (.cells (setCells fun _ => false) 108) = w1 := ⟨_, rfl⟩
 have b0 : SetBox w1 w.heap.size (fun _ => false) := by rw [← hw1]; exact (Box.new _ _ _).alloc _
 have b1 : SetBox w1 (w.heap.size + 1) (fun _ => false) := by rw [← hw1]; exact Box.new' (by simp)
 have hB : Below w.heap.size w w1 := by rw [← hw1]; go_grown
 have B0 := Lib.hid b0
 have B1 := Lib.hid b1
 have HB := Lib.hid hB
 have HW := Lib.hid hw1
 clear b0 b1 hB hw1
 go_enter Tryz.func135, Tryz.ntmps135
 go_upto_region 2 with fail
 simp only [zset, HW.out]
 go_wp2_with fail
 go_loopw [2, 3, 4] (fun _ iv _ wr => ∃ k : Nat, k ≤ 26 ∧ iv = .int .i64 k ∧ SetBox wr w.heap.size (fun _ => false) ∧ SetBox wr (w.heap.size + 1) (fun d => decide (d < k)) ∧ Below w.heap.size w wr) (fun _ iv _ _ => 26 - (intOf iv).toNat)
 case atStart => exact ⟨0, Nat.zero_le _, rfl, B0.out, B1.out.cong (fun i _ => by simp [setF]), HB.out⟩
 case round =>
  clear B0 B1 HB
  obtain ⟨k, hk, rfl, b0, b1, hB⟩ := hrel
  have B0 := Lib.hid b0
  have B1 := Lib.hid b1
  have HB := Lib.hid hB
  by_cases hlt : k < 26
  ·have hki : (k : Int) < 26 := by omega
   have hc0 := b1.cell_ hlt
   have hf0 := b1.frozen k
   clear b0 b1 hB
   go_wp2_with fail
   go_roundw
   case rel =>
    refine ⟨k + 1, by omega, by go_num, B0.out.far (by simp) _, B1.out.put k true _ fun d hd => ?_, HB.out.setCell (by simp) _⟩
    by_cases e : d = k
    ·subst e; simp
    ·rw [if_neg e]; congr 1; simp; omega
   case measure => simp [intOf]; omega
  ·have hkn : decide ((k : Int) < 26) = false := by simp; omega
   have b1' : SetBox wr (w.heap.size + 1) (fun _ => true) := b1.cong (fun i hi => by simp only [setF]; congr 1; simp; omega)
   have HL := Lib.hid (load_set b1')
   obtain ⟨w2, hst, hw2⟩ := store_set b0 (fun _ => true)
   have HST := Lib.hid hst
   have HW2 := Lib.hid hw2
   clear b0 b1 b1' hB hst hw2
   go_wp2_with (first
    | (refine wpList_load_box rfl 108 _ rfl rfl HL.out ?_)
    | (refine wpList_store_box rfl 108 _ _ rfl rfl rfl HST.out ?_))
   refine bodyPost_ret (results_cell rfl rfl (loadv_set HW2.out.box)) rfl ⟨rfl, HW2.out.below HB.out (Nat.le_refl _)⟩

/-! cuts in memory -/
def cutF (cut : Nat → CS) : Nat → Value := fun j => .bool (cut (j / 26) (j % 26))
def cutCells (cut : Nat → CS) : Array Value := fnCells 312 (cutF cut)
theorem agg_cut : Agg Tryz.prog 117 312 := ⟨⟨_, Tryz.underlying117, rfl⟩, by kernel_rfl⟩
theorem zcut : Tryz.zeroCells117 = cutCells (fun _ _ => false) := by kernel_rfl
theorem cutF_one (cut : Nat → CS) : ∀ j, j < 312 → (cutF cut j).oneCell' = true := fun _ _ => rfl
theorem cutF_at (cut : Nat → CS) (p : Nat) {j : Nat} (h : j < 26) : cutF cut (p * 26 + j) = setF (cut p) j := by
 unfold cutF setF
 rw [show (p * 26 + j) / 26 = p by omega, show (p * 26 + j) % 26 = j by omega]
abbrev CutBox (w : World) (b : Nat) (cut : Nat → CS) : Prop := Box w b (cutCells cut) 117
section
variable {w : World} {b : Nat} {cut : Nat → CS}
theorem CutBox.load (h : CutBox w b cut) : (Instr.loadAt 117 (.pointer (some ⟨b, 0, none⟩))).run Tryz.prog w = .ok (.agg (cutCells cut)) w := run_load_sub agg_cut h 0 (cutF cut) (fun j _ => by rw [Nat.zero_add]) (by omega)
theorem CutBox.loadv (h : CutBox w b cut) : (loadVar 117 ⟨b, 0, none⟩).run Tryz.prog w = .ok (.agg (cutCells cut)) w := run_loadv_sub agg_cut h 0 (cutF cut) (fun j _ => by rw [Nat.zero_add]) (by omega)
theorem CutBox.at_ (h : CutBox w b cut) {p : Nat} (hp : p < 12) : (Instr.loadAt 108 (.pointer (some ⟨b, p * 26, none⟩))).run Tryz.prog w = .ok (.agg (setCells (cut p))) w := run_load_sub agg_set h (p * 26) (setF (cut p)) (fun j hj => cutF_at cut p hj) (by omega)
theorem CutBox.store (h : CutBox w b cut) (t : Nat → CS) : ∃ w', (Instr.storeAt 117 (.pointer (some ⟨b, 0, none⟩)) (.agg (cutCells t))).run Tryz.prog w = .ok () w' ∧ Wrote w w' b (cutCells t) 117 := run_store_all agg_cut h (cutF t) (cutF_one _)
theorem CutBox.put (h : CutBox w b cut) {p : Nat} (hp : p < 12) (s : CS) : ∃ w', (Instr.storeAt 108 (.pointer (some ⟨b, p * 26, none⟩)) (.agg (setCells s))).run Tryz.prog w = .ok () w' ∧ Wrote w w' b (cutCells fun q => if q = p then s else cut q) 117 := by
 obtain ⟨w', hr, hw⟩ := run_store_sub agg_set h (p * 26) (setF s) (setF_one _) (by omega)
 refine ⟨w', hr, ⟨hw.box.cong fun i hi => ?_, hw.keep, hw.size⟩⟩
 unfold cutF setF
 dsimp only
 by_cases e : p * 26 ≤ i ∧ i < p * 26 + 26
 ·rw [if_pos e, if_pos (show i / 26 = p by omega), show i % 26 = i - p * 26 by omega]
 ·rw [if_neg e, if_neg (show ¬ i / 26 = p by omega)]
theorem CutBox.cell_ (h : CutBox w b cut) {p c : Nat} (hp : p < 12) (hc : c < 26) : w.cell? ⟨b, p * 26 + c, none⟩ = some (.bool (cut p c)) := by rw [h.fn (by omega), cutF_at cut p hc]; rfl
theorem CutBox.one (h : CutBox w b cut) {p c : Nat} (hc : c < 26) (v : Bool) : CutBox (w.setCell ⟨b, p * 26 + c, none⟩ (.bool v)) b (fun q d => if q = p ∧ d = c then v else cut q d) :=
 (h.fset (p * 26 + c) (.bool v)).cong fun i hi => by
  unfold cutF
  dsimp only
  by_cases e : i = p * 26 + c
  ·rw [if_pos e, if_pos (show i / 26 = p ∧ i % 26 = c by omega)]
  ·rw [if_neg e, if_neg (show ¬ (i / 26 = p ∧ i % 26 = c) by omega)]
theorem CutBox.congr_ {cut' : Nat → CS} (h : CutBox w b cut) (e : ∀ p c, p < 12 → c < 26 → cut p c = cut' p c) : CutBox w b cut' := h.cong fun i hi => by unfold cutF; rw [e _ _ (by omega) (by omega)]
end
theorem cutCells_congr {s t : Nat → CS} (h : ∀ p c, p < 12 → c < 26 → s p c = t p c) : cutCells s = cutCells t := fnCells_congr fun i hi => by unfold cutF; rw [h _ _ (by omega) (by omega)]

set_option maxRecDepth 100000 in
set_option maxHeartbeats 2000000 in
theorem free_any (w : World) : Calls Tryz.prog 80 #[] w fun e w' => e = .returned (.agg (cutCells allC)) ∧ Below w.heap.size w w' := by
 obtain ⟨w1, hw1⟩ : ∃ w1, (w.alloc (.cells (cutCells fun _ _ => false) 117)).alloc (.cells (cutCells fun _ _ => false) 117) = w1 := ⟨_, rfl⟩
 have b0 : CutBox w1 w.heap.size (fun _ _ => false) := by rw [← hw1]; exact (Box.new _ _ _).alloc _
 have b1 : CutBox w1 (w.heap.size + 1) (fun _ _ => false) := by rw [← hw1]; exact Box.new' (by simp)
 have hB : Below w.heap.size w w1 := by rw [← hw1]; go_grown
 have B0 := Lib.hid b0
 have B1 := Lib.hid b1
 have HB := Lib.hid hB
 have HW := Lib.hid hw1
 clear b0 b1 hB hw1
 go_enter Tryz.func80, Tryz.ntmps80
 go_upto_region 2 with fail
 simp only [zcut, HW.out]
 go_wp2_with fail
 go_loopw [2, 3, 4] (fun _ iv _ wr => ∃ k : Nat, k ≤ 12 ∧ iv = .int .i64 k ∧ CutBox wr w.heap.size (fun _ _ => false) ∧ CutBox wr (w.heap.size + 1) (fun p _ => decide (p < k)) ∧ Below w.heap.size w wr) (fun _ iv _ _ => 12 - (intOf iv).toNat)
 case atStart => exact ⟨0, Nat.zero_le _, rfl, B0.out, B1.out.congr_ (fun p c _ _ => by simp), HB.out⟩
 case round =>
  clear B0 B1 HB
  obtain ⟨k, hk, rfl, b0, b1, hB⟩ := hrel
  have B0 := Lib.hid b0
  have B1 := Lib.hid b1
  have HB := Lib.hid hB
  by_cases hlt : k < 12
  ·have hki : (k : Int) < 12 := by omega
   have hk0 : (0 : Int) ≤ (k : Int) := by omega
   clear b0 b1 hB
   go_wp2_with fail
   refine (every_any _).mono ?_
   rintro e w2 ⟨rfl, hb2⟩
   obtain ⟨w3, hst, hw3⟩ := CutBox.put (B1.out.below' hb2) hlt (fun _ => true)
   have HB2 := Lib.hid hb2
   have HST := Lib.hid hst
   have HW3 := Lib.hid hw3
   clear hb2 hst hw3
   go_wp2_with (refine wpList_store_box rfl 108 _ _ rfl rfl rfl HST.out ?_)
   go_roundw
   case rel =>
    refine ⟨k + 1, by omega, by go_num, HW3.out.far (B0.out.below' HB2.out) (by omega), CutBox.congr_ HW3.out.box (fun p c _ _ => ?_), HW3.out.below (HB.out.trans (HB2.out.mono HB.out.size)) (by omega)⟩
    by_cases e : p = k
    ·subst e; simp
    ·rw [if_neg e]; congr 1; simp; omega
   case measure => simp [intOf]; omega
  ·have hkn : decide ((k : Int) < 12) = false := by simp; omega
   have b1' : CutBox wr (w.heap.size + 1) allC := b1.congr_ (fun p c hp _ => by simp [allC]; omega)
   have HL := Lib.hid (CutBox.load b1')
   obtain ⟨w2, hst, hw2⟩ := CutBox.store b0 allC
   have HST := Lib.hid hst
   have HW2 := Lib.hid hw2
   clear b0 b1 b1' hB hst hw2
   go_wp2_with (first
    | (refine wpList_load_box rfl 117 _ rfl rfl HL.out ?_)
    | (refine wpList_store_box rfl 117 _ _ rfl rfl rfl HST.out ?_))
   refine bodyPost_ret (results_cell rfl rfl (CutBox.loadv HW2.out.box)) rfl ⟨rfl, HW2.out.below HB.out (Nat.le_refl _)⟩
end Go.Proofs.YthpjffhccjlnhaaGreatDoor
namespace Go.Proofs.YthpjffhccjlnhaaGreatDoor
open Go.RowKit

theorem load_int {w : World} {p : Addr} {x : Int} (h : w.cell? p = some (.int .i64 x)) : (Instr.loadAt 3 (.pointer (some p))).run Tryz.prog w = .ok (.int .i64 x) w := by go_simp
def markOf (r : Nat) : Deferred := { target := .collected r, args := #[] }
/-- blocks of deferred calls, each empty -/
def Marks (rs : List Nat) (W : World) : Prop := rs.Nodup ∧ ∀ r ∈ rs, W.heap[r]? = some (.deferred (some []))
theorem Marks.keep {rs : List Nat} {W W' : World} {K : Nat → Prop} (h : Marks rs W) (hk : Keep K W W') (hK : ∀ r ∈ rs, K r) : Marks rs W' := ⟨h.1, fun r hr => hk.heap (hK r hr) (h.2 r hr)⟩
theorem Marks.below {rs : List Nat} {W W' : World} (h : Marks rs W) (hb : Below W.heap.size W W') : Marks rs W' := h.keep (Keep.of_below' (K := fun _ => True) hb) fun _ _ => trivial
theorem Marks.lt {rs : List Nat} {W : World} (h : Marks rs W) : ∀ r ∈ rs, r < W.heap.size := fun r hr => (Array.getElem?_eq_some_iff.1 (h.2 r hr)).1
theorem Marks.ne_box {rs : List Nat} {W : World} (h : Marks rs W) {b : Nat} {cs : Array Value} {t : TypeId} (hb : Box W b cs t) : b ∉ rs := fun hm => by
 have := h.2 b hm
 unfold Box at hb
 rw [hb] at this; cases this
theorem Marks.nil (W : World) : Marks [] W := ⟨List.nodup_nil, fun _ h => by cases h⟩
theorem Marks.cons {rs : List Nat} {W : World} (h : Marks rs W) {r : Nat} (hr : r ∉ rs) (hd : W.heap[r]? = some (.deferred (some []))) : Marks (r :: rs) W :=
 ⟨List.nodup_cons.2 ⟨hr, h.1⟩, fun x hx => by
  rcases List.mem_cons.1 hx with rfl | hx
  ·exact hd
  ·exact h.2 x hx⟩
theorem leaves_marks {F : Fence} {n : Nat} {P : Program} {fn : Func} {tmps : Array Value} {R : Ending → World → Prop} : ∀ (rs : List Nat) (W : World), Marks rs W → (∀ W', Keep (fun k => k ∉ rs) W W' → LeavesIn F n P fn tmps R [] .returning W') →
  LeavesInM F n P fn tmps R (rs.map markOf) .returning W
 | [], W, _, hfin => hfin W (Keep.refl _ W)
 | r :: rs, W, h, hfin => by
  obtain ⟨hn1, hn2⟩ := List.nodup_cons.1 h.1
  have hr := h.2 r (by simp)
  refine ⟨by simp, .inl ⟨r, _, rfl, run_takeDeferred hr, ?_⟩⟩
  have hk : Keep (fun k => k ≠ r) W (W.putObj r (.deferred none)) := (Keep.refl _ W).putObj (fun h => h rfl) _
  refine leaves_marks rs _ ⟨hn2, fun x hx => hk.heap (fun e => hn1 (e ▸ hx)) (h.2 x (by simp [hx]))⟩ fun W' hk' => hfin W' ?_
  exact (hk.mono fun k hk => fun e => hk (by simp [e])).trans (hk'.mono fun k hk => fun e => hk (by simp [e]))
/-- a loop whose relation bears a number and speaks of the whole frame -/
theorem wpIn_loopN {F : Fence} {rm : Nat} {P : Program} {Q : Exit → Act → World → Prop} {a : Act} {w : World} {c : Code} (I : Nat → Act → World → Prop) (n₀ : Nat) (h₀ : I n₀ a w)
  (round : ∀ n a w, I n a w → ∀ K : Act → World → Prop, (∀ n' a' w', n' < n → I n' a' w' → K a' w') → c.wpIn F rm P (Exit.then K Q) a w) : (Code.loop c).wpIn F rm P Q a w :=
 wpIn_loop_ghost I n₀ h₀ fun n a w h => round n a w h _ fun n' _ _ hn hI => ⟨n', hn, hI⟩
end Go.Proofs.YthpjffhccjlnhaaGreatDoor
