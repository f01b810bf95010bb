/- Package profile: a try in memory; tries; the iterator over the tries. No condition. -/
/- Package profile: what the iterator over the tries gives. No condition. -/
import Derived.Test.YthpjffhccjlnhaaGreatDoorMG7
import Derived.Test.YthpjffhccjlnhaaGreatDoorMP4
import Derived.Test.YthpjffhccjlnhaaGreatDoorMRange
import Derived.Sort.CutIn
set_option linter.unusedSimpArgs false
set_option linter.unusedVariables false
namespace Go.Proofs.YthpjffhccjlnhaaGreatDoor
open Go.RowKit
attribute [local go_sem] Oper.semAt_some

/-- a try: a type, a shift, the least length, what may stand at the places -/
structure Tr where
 knd : Knd
 shift : Int
 least : Int
 cut : Nat → CS
def tryF (T : Tr) (j : Nat) : Value := if j < 761 then kndF T.knd j else if j = 761 then .int .i64 T.shift else if j = 762 then .int .i64 T.least else cutF T.cut (j - 763)
def tryCells (T : Tr) : Array Value := fnCells 1075 (tryF T)
def try0 : Tr := ⟨knd0, 0, 0, fun _ _ => false⟩
theorem agg_try : Agg Tryz.prog 137 1075 := ⟨⟨_, Tryz.underlying137, rfl⟩, by kernel_rfl⟩
theorem ztry : Tryz.zeroCells137 = tryCells try0 := by kernel_rfl
theorem tryF_one (T : Tr) (j : Nat) : (tryF T j).oneCell' = true := by
 unfold tryF
 split
 ·exact kndF_one _ _
 ·split; · rfl
  ·split <;> rfl
theorem tryF_knd (T : Tr) {j : Nat} (h : j < 761) : tryF T j = kndF T.knd j := by unfold tryF; rw [if_pos h]
theorem tryF_cut (T : Tr) (p : Nat) {j : Nat} (hj : j < 26) : tryF T (763 + p * 26 + j) = setF (T.cut p) j := by
 unfold tryF
 rw [if_neg (by omega), if_neg (by omega), if_neg (by omega), show 763 + p * 26 + j - 763 = p * 26 + j by omega]
 exact cutF_at T.cut p hj
abbrev TryBox (w : World) (b : Nat) (T : Tr) : Prop := Box w b (tryCells T) 137
section
variable {w : World} {b : Nat} {T : Tr}
theorem TryBox.load (h : TryBox w b T) : (Instr.loadAt 137 (.pointer (some ⟨b, 0, none⟩))).run Tryz.prog w = .ok (.agg (tryCells T)) w := run_load_sub agg_try h 0 (tryF T) (fun j _ => by rw [Nat.zero_add]) (by omega)
theorem TryBox.knd_ (h : TryBox w b T) : (Instr.loadAt 111 (.pointer (some ⟨b, 0, none⟩))).run Tryz.prog w = .ok (.agg (kndCells T.knd)) w := run_load_sub agg_knd h 0 (kndF T.knd) (fun j hj => by rw [Nat.zero_add]; exact tryF_knd T hj) (by omega)
theorem TryBox.cuts_ (h : TryBox w b T) : (Instr.loadAt 117 (.pointer (some ⟨b, 763, none⟩))).run Tryz.prog w = .ok (.agg (cutCells T.cut)) w := run_load_sub agg_cut h 763 (cutF T.cut) (fun j hj => by unfold tryF; rw [if_neg (by omega), if_neg (by omega), if_neg (by omega), Nat.add_sub_cancel_left]) (by omega)
theorem TryBox.cut_ (h : TryBox w b T) {p : Nat} (hp : p < 12) : (Instr.loadAt 108 (.pointer (some ⟨b, 763 + p * 26, none⟩))).run Tryz.prog w = .ok (.agg (setCells (T.cut p))) w := run_load_sub agg_set h (763 + p * 26) (setF (T.cut p)) (fun j hj => tryF_cut T p hj) (by omega)
theorem TryBox.cutAt (h : TryBox w b T) {p c : Nat} (hp : p < 12) (hc : c < 26) : w.cell? ⟨b, 763 + p * 26 + c, none⟩ = some (.bool (T.cut p c)) := by rw [h.fn (by omega), tryF_cut T p hc]; rfl
theorem TryBox.rim_ (h : TryBox w b T) : (Instr.loadAt 108 (.pointer (some ⟨b, 33, none⟩))).run Tryz.prog w = .ok (.agg (setCells T.knd.rim)) w := run_load_sub agg_set h 33 (setF T.knd.rim) (fun j hj => by rw [tryF_knd T (by omega), kndF_rim _ hj]) (by omega)
theorem TryBox.base_ (h : TryBox w b T) : (Instr.loadAt 108 (.pointer (some ⟨b, 59, none⟩))).run Tryz.prog w = .ok (.agg (setCells T.knd.base)) w := run_load_sub agg_set h 59 (setF T.knd.base) (fun j hj => by rw [tryF_knd T (by omega), kndF_base _ hj]) (by omega)
theorem TryBox.index_ (h : TryBox w b T) : w.cell? ⟨b, 32, none⟩ = some (.int .i64 T.knd.index) := by rw [h.fn (by omega)]; rfl
theorem TryBox.most_ (h : TryBox w b T) : w.cell? ⟨b, 3, none⟩ = some (.int .i64 T.knd.typ.most) := by rw [h.fn (by omega), tryF_knd T (by omega), kndF_typ _ (by omega)]; rfl
theorem TryBox.shift_ (h : TryBox w b T) : w.cell? ⟨b, 761, none⟩ = some (.int .i64 T.shift) := by rw [h.fn (by omega)]; rfl
theorem TryBox.least_ (h : TryBox w b T) : w.cell? ⟨b, 762, none⟩ = some (.int .i64 T.least) := by rw [h.fn (by omega)]; rfl
theorem TryBox.setLeast (h : TryBox w b T) (n : Int) : TryBox (w.setCell ⟨b, 762, none⟩ (.int .i64 n)) b { T with least := n } :=
 (h.fset 762 (.int .i64 n)).cong fun i _ => by
  by_cases e : i = 762
  ·subst e; rfl
  ·rw [if_neg e]
   unfold tryF
   dsimp only
   split; · rfl
   split; · rfl
   first | rfl | rw [if_neg e]
theorem TryBox.put (h : TryBox w b T) {p : Nat} (hp : p < 12) (s : CS) : ∃ w', (Instr.storeAt 108 (.pointer (some ⟨b, 763 + p * 26, none⟩)) (.agg (setCells s))).run Tryz.prog w = .ok () w' ∧ Wrote w w' b (tryCells { T with cut := fun q => if q = p then s else T.cut q }) 137 := by
 obtain ⟨w', hr, hw⟩ := run_store_sub agg_set h (763 + p * 26) (setF s) (setF_one _) (by omega)
 refine ⟨w', hr, ⟨hw.box.cong fun i hi => ?_, hw.keep, hw.size⟩⟩
 unfold tryF cutF setF
 dsimp only
 by_cases e : 763 + p * 26 ≤ i ∧ i < 763 + p * 26 + 26
 ·rw [if_pos e, if_neg (by omega), if_neg (by omega), if_neg (by omega), if_pos (show (i - 763) / 26 = p by omega), show (i - 763) % 26 = i - (763 + p * 26) by omega]
 ·rw [if_neg e]
  split; · rfl
  split; · rfl
  split; · rfl
  rw [if_neg (show ¬ (i - 763) / 26 = p by omega)]
theorem TryBox.congr_ {T' : Tr} (h : TryBox w b T) (e1 : T.knd = T'.knd) (e2 : T.shift = T'.shift) (e3 : T.least = T'.least) (e : ∀ p c, p < 12 → c < 26 → T.cut p c = T'.cut p c) : TryBox w b T' := h.cong fun i hi => by
 unfold tryF cutF
 rw [e1, e2, e3]
 split; · rfl
 split; · rfl
 split; · rfl
 rw [e _ _ (by omega) (by omega)]
end
theorem tryCells_congr {T T' : Tr} (e1 : T.knd = T'.knd) (e2 : T.shift = T'.shift) (e3 : T.least = T'.least) (e : ∀ p c, p < 12 → c < 26 → T.cut p c = T'.cut p c) : tryCells T = tryCells T' := fnCells_congr fun i hi => by
 unfold tryF cutF
 rw [e1, e2, e3]
 split; · rfl
 split; · rfl
 split; · rfl
 rw [e _ _ (by omega) (by omega)]
theorem built_try (parts : List (Nat × Value)) : Tryz.prog.built 137 parts = Instr.fill (fun i => (#[(0, 761), (761, 1), (762, 1), (763, 312)] : Array (Nat × Nat))[i]?) (tryCells try0) parts := by
 rw [← ztry]; kernel_rfl
set_option maxRecDepth 100000 in
theorem run_build_try (K : Knd) (s : Int) (cut : Nat → CS) (w : World) : (Instr.build 137 #[(0, .agg (kndCells K)), (1, .int .i64 s), (3, .agg (cutCells cut))]).run Tryz.prog w = .ok (.agg (tryCells ⟨K, s, 0, cut⟩)) w := by
 refine run_build w _ _ _ ?_
 rw [built_try]
 unfold tryCells
 rw [fill_fn (off := 0) (m := 761) (g := kndF K) rfl rfl (by omega), fill_fn (off := 761) (m := 1) (g := fun _ => .int .i64 s) rfl rfl (by omega), fill_fn (off := 763) (m := 312) (g := cutF cut) rfl rfl (by omega)]
 refine congrArg some (fnCells_congr fun j hj => ?_)
 unfold tryF
 dsimp only
 by_cases h1 : j < 761
 ·rw [if_neg (by omega), if_neg (by omega), if_pos (show 0 ≤ j ∧ j < 0 + 761 by omega), if_pos h1, Nat.sub_zero]
 ·by_cases h2 : j = 761
  ·rw [if_neg (by omega), if_pos (by omega), if_neg h1, if_pos h2]
  ·by_cases h3 : j = 762
   ·rw [if_neg (by omega), if_neg (by omega), if_neg (by omega), if_neg h1, if_neg h2, if_pos h3, if_neg h1, if_neg h2, if_pos h3]; rfl
   ·rw [if_pos (by omega), if_neg h1, if_neg h2, if_neg h3]
theorem wpListIn_build {P : Program} {F : Fence} {n : Nat} {ops : Array Oper} {rest : List Oper} {o : Oper} {a : Act} {w : World} {Q : Exit → Act → World → Prop} (hg : o.guard = none) {v : Value} (t : TypeId) (parts : Array (Nat × Operand)) (ho : o.op = .build t parts) (hr : (Instr.build t (parts.map fun (i, x) => (i, a.eval x))).run P w = .ok v w)
  (h : wpListIn F n P ops Q rest (a.put o.dst v) w) : wpListIn F n P ops Q (o :: rest) a w :=
 wpListIn_plain hg fun K hK => by
  unfold Oper.wpIn
  refine ⟨by simp [Oper.about, ho], ?_⟩
  rw [Oper.semAt_plain F _ _ (by rw [ho]; intro c hc; cases hc)]
  unfold execOp
  simp only [ho, Sem.run_bind, hr, Result.andThen_ok, Sem.run_pure]
  exact hK _ _ h

theorem bytes_eq {a b : ByteArray} (h : a.toList = b.toList) : a = b := by
 rw [ByteArray.toList_eq, ByteArray.toList_eq] at h
 cases a; cases b
 simp at h
 subst h; rfl
/-- the try of a type and a shift -/
def tryOf (t : Typ) (i : Nat) (r : List Rng) (s : Nat) : Tr := ⟨kndOf t i, s, leastOf4 t r s, cutOf r s⟩
/-- the tries of the first k types -/
def triesTo (l : List Typ) (ware : ByteArray) (r : List Rng) (k : Nat) : List (Nat × Nat) :=
 (List.range k).flatMap fun i => match l[i]? with
  | some t => if t.ware = ware then (List.range (shiftsOf t r)).map fun s => (i, s) else []
  | none => []
theorem triesTo_all (l : List Typ) (ware : ByteArray) (r : List Rng) : triesTo l ware r l.length = triesOf l ware r := rfl
theorem triesTo_no {l : List Typ} {ware : ByteArray} {r : List Rng} {k : Nat} {t : Typ} (ht : l[k]? = some t) (h : t.ware ≠ ware) : triesTo l ware r (k + 1) = triesTo l ware r k := by
 simp [triesTo, List.range_succ, List.flatMap_append, ht, h]
theorem triesTo_yes {l : List Typ} {ware : ByteArray} {r : List Rng} {k : Nat} {t : Typ} (ht : l[k]? = some t) (h : t.ware = ware) : triesTo l ware r (k + 1) = triesTo l ware r k ++ (List.range (shiftsOf t r)).map fun s => (k, s) := by
 simp [triesTo, List.range_succ, List.flatMap_append, ht, h]
theorem triesTo_le (l : List Typ) (ware : ByteArray) (r : List Rng) {i j : Nat} (h : i ≤ j) : triesTo l ware r i <+: triesTo l ware r j := by
 obtain ⟨d, rfl⟩ := Nat.exists_eq_add_of_le h
 unfold triesTo
 rw [List.range_add, List.flatMap_append]
 exact List.prefix_append _ _
theorem map_snoc (k s : Nat) : (List.range (s + 1)).map (fun x => (k, x)) = (List.range s).map (fun x => (k, x)) ++ [(k, s)] := by simp [List.range_succ]
theorem tries_pre {l : List Typ} {ware : ByteArray} {r : List Rng} {k s : Nat} {t : Typ} (ht : l[k]? = some t) (h : t.ware = ware) (hs : s < shiftsOf t r) :
  (triesTo l ware r k ++ (List.range s).map (fun x => (k, x)) ++ [(k, s)]) <+: triesOf l ware r := by
 have hk : k < l.length := (List.getElem?_eq_some_iff.1 ht).1
 refine List.IsPrefix.trans ?_ (triesTo_le l ware r (show k + 1 ≤ l.length by omega))
 rw [triesTo_yes ht h, List.append_assoc, ← map_snoc]
 refine List.prefix_append_right_inj _ |>.2 ?_
 obtain ⟨d, hd⟩ := Nat.exists_eq_add_of_le (show s + 1 ≤ shiftsOf t r by omega)
 rw [hd, List.range_add (n := s + 1), List.map_append]
 exact List.prefix_append _ _
/-- the classes that may stand, k rings being laid -/
def cutK (r : List Rng) (s k : Nat) : Nat → CS := cutOf (r.take k) s
theorem cutK_zero (r : List Rng) (s : Nat) : cutK r s 0 = allC := rfl
theorem cutK_all (r : List Rng) (s : Nat) : cutK r s r.length = cutOf r s := by unfold cutK; rw [List.take_length]
theorem cutK_succ {r : List Rng} (h : AscR r) {s k n : Nat} {y : Rng} (hy : r[k]? = some y) (hn : y.at_ = n) (p : Nat) : cutK r s (k + 1) p = if p = s + n then hasC (bl y.set) else cutK r s k p := by
 have hk : k < r.length := (List.getElem?_eq_some_iff.1 hy).1
 have e : r.take (k + 1) = r.take k ++ [y] := by rw [List.take_add_one, hy]; rfl
 funext c
 unfold cutK cutOf
 rw [e, List.find?_append]
 by_cases hp : p = s + n
 ·subst hp
  rw [if_pos rfl]
  have hno : (r.take k).find? (fun y => decide ((s : Int) + y.at_ = ((s + n : Nat) : Int))) = none := by
   rw [List.find?_eq_none]
   intro z hz
   obtain ⟨j, hj, hz⟩ := List.getElem_of_mem hz
   have hjk : j < k := by simp at hj; omega
   have hzr : r[j]? = some z := by rw [← hz, List.getElem_take]; exact List.getElem?_eq_getElem (by omega)
   have := List.pairwise_iff_getElem.1 h.1 j k (by omega) hk hjk
   rw [(List.getElem?_eq_some_iff.1 hzr).2, (List.getElem?_eq_some_iff.1 hy).2] at this
   simp; omega
  rw [hno]
  simp [hn]
 ·rw [if_neg hp]
  have : ([y] : List Rng).find? (fun y => decide ((s : Int) + y.at_ = (p : Int))) = none := by
   simp [hn]; omega
  rw [this]
  cases (r.take k).find? (fun y => decide ((s : Int) + y.at_ = (p : Int))) <;> rfl

/-! rings as said -/
theorem ringsErr_good {r : List Rng} (h : ringsErr r = 0) : r.length ≤ 12 ∧ ∀ (i : Nat) y, r[i]? = some y → inB y.at_ 0 11 = true ∧ y.set.toList.isEmpty = false ∧ isSetB (bl y.set) = true ∧ prevB r y i = false := by
 unfold ringsErr at h
 split at h
 ·cases h
 ·refine ⟨by omega, fun i y hy => ?_⟩
  have := firstE_zero h i (List.getElem?_eq_some_iff.1 hy).1
  unfold rngErr at this
  rw [hy] at this
  rcases hb : (!inB y.at_ 0 11 || y.set.toList.isEmpty || !isSetB (bl y.set) || prevB r y i) with _ | _
  ·simpa [Bool.or_eq_false_iff, and_assoc] using hb
  ·simp [hb] at this
theorem asc_of_next {l : List Rng} (h : ∀ i y z, l[i]? = some y → l[i + 1]? = some z → y.at_ < z.at_) : l.Pairwise fun a b => a.at_ < b.at_ := by
 rw [List.pairwise_iff_getElem]
 intro i j hi hj hij
 obtain ⟨d, rfl⟩ := Nat.exists_eq_add_of_lt hij
 clear hij
 induction d with
 | zero => exact h i _ _ (List.getElem?_eq_getElem hi) (List.getElem?_eq_getElem hj)
 | succ d ih =>
  have h1 := ih (by omega)
  have h2 := h (i + d + 1) _ _ (List.getElem?_eq_getElem (by omega)) (List.getElem?_eq_getElem (show i + d + 1 + 1 < l.length by omega))
  exact Int.lt_trans h1 h2
theorem rings_asc {r : List Rng} (h : ringsErr r = 0) : AscR r ∧ ∀ y ∈ r, y.at_ ≤ 11 ∧ isSetB (bl y.set) = true := by
 obtain ⟨_, hg⟩ := ringsErr_good h
 refine ⟨⟨asc_of_next fun i y z hy hz => ?_, fun y hy => ?_⟩, fun y hy => ?_⟩
 ·have := (hg (i + 1) z hz).2.2.2
  simp only [prevB, hy] at this
  simpa using this
 ·obtain ⟨i, hi⟩ := List.getElem?_of_mem hy
  have := (hg i y hi).1
  simp [inB] at this; exact this.1
 ·obtain ⟨i, hi⟩ := List.getElem?_of_mem hy
  have := (hg i y hi).1
  simp [inB] at this; exact ⟨this.2, (hg i y hi).2.2.1⟩

/-! the iterator -/
theorem tries_any (a : Option Addr) (n c : Nat) (ware : ByteArray) (ra : Option Addr) (m rc : Nat) (w : World) :
  Calls Tryz.prog 96 #[.slice a n c, .string ware, .slice ra m rc] w fun e w' => e = .returned (.func (.func 141) #[] #[.pointer (some ⟨w.heap.size, 0, none⟩), .pointer (some ⟨w.heap.size + 1, 0, none⟩), .pointer (some ⟨w.heap.size + 2, 0, none⟩)]) ∧
   ((w.alloc (.cells #[.slice a n c] 22)).alloc (.cells #[.string ware] 9)).alloc (.cells #[.slice ra m rc] 37) = w' := by
 have hmf := run_mf Tryz.prog
 go_enter Tryz.func96, Tryz.ntmps96
 go_wp2
 go_ret
 exact ⟨rfl, rfl⟩
structure TrCap (a : Option Addr) (n c : Nat) (ware : ByteArray) (ra : Option Addr) (m rc g0 g1 g2 : Nat) (W : World) : Prop where
 b0 : Box W g0 #[.slice a n c] 22
 b1 : Box W g1 #[.string ware] 9
 b2 : Box W g2 #[.slice ra m rc] 37
theorem TrCap.keep {K : Nat → Prop} {a : Option Addr} {n c : Nat} {ware : ByteArray} {ra : Option Addr} {m rc g0 g1 g2 : Nat} {W W' : World} (h : TrCap a n c ware ra m rc g0 g1 g2 W) (hk : Keep K W W') (k0 : K g0) (k1 : K g1) (k2 : K g2) : TrCap a n c ware ra m rc g0 g1 g2 W' :=
 ⟨hk.heap k0 h.b0, hk.heap k1 h.b1, hk.heap k2 h.b2⟩
theorem TrCap.below {a : Option Addr} {n c : Nat} {ware : ByteArray} {ra : Option Addr} {m rc g0 g1 g2 : Nat} {W W' : World} (h : TrCap a n c ware ra m rc g0 g1 g2 W) (hb : Below W.heap.size W W') : TrCap a n c ware ra m rc g0 g1 g2 W' :=
 ⟨h.b0.below' hb, h.b1.below' hb, h.b2.below' hb⟩
def TryRd (l : List Typ) (r : List Rng) (x : Nat × Nat) (args : Array Value) (_ : World) : Prop := ∃ t, l[x.1]? = some t ∧ args = #[.agg (tryCells (tryOf t x.1 r x.2))]
def moOf (t : Typ) (r : List Rng) : Int := if r = [] then 0 else t.most
def tstB (s : Nat) (mo : Int) : Bool := s == 0 || decide ((s : Int) < mo)
end Go.Proofs.YthpjffhccjlnhaaGreatDoor
namespace Go.Proofs.YthpjffhccjlnhaaGreatDoor
open Go.RowKit
attribute [local go_sem] Oper.semAt_some

theorem shiftsOf_zero {t : Typ} {r : List Rng} (h : AscR r) (h1 : 1 ≤ t.most) : (r = [] → shiftsOf t r = 1 ∧ lastAt r = -1 ∧ moOf t r = 0) ∧ (r ≠ [] → shiftsOf t r = (t.most - lastAt r).toNat ∧ 0 ≤ lastAt r ∧ moOf t r = t.most) := by
 refine ⟨fun e => ?_, fun e => ?_⟩
 ·subst e; exact ⟨rfl, rfl, rfl⟩
 ·refine ⟨by unfold shiftsOf; rw [if_neg e], (lastAt_ge h).2 e, by unfold moOf; rw [if_neg e]⟩
theorem tst_go {t : Typ} {r : List Rng} (h : AscR r) (h1 : 1 ≤ t.most) {s : Nat} (hs : s < shiftsOf t r) : tstB s (moOf t r) = true ∧ (s : Int) + lastAt r < t.most := by
 obtain ⟨h2, h3⟩ := shiftsOf_zero h h1
 by_cases e : r = []
 ·obtain ⟨e1, e2, e3⟩ := h2 e
  have : s = 0 := by omega
  subst this
  exact ⟨rfl, by omega⟩
 ·obtain ⟨e1, e2, e3⟩ := h3 e
  refine ⟨by simp [tstB]; omega, by omega⟩
theorem tst_stop {t : Typ} {r : List Rng} (h : AscR r) (h1 : 1 ≤ t.most) {s : Nat} (hs : s = shiftsOf t r) (ht : tstB s (moOf t r) = true) : t.most ≤ (s : Int) + lastAt r := by
 obtain ⟨h2, h3⟩ := shiftsOf_zero h h1
 by_cases e : r = []
 ·obtain ⟨e1, e2, e3⟩ := h2 e
  simp [tstB, e3] at ht; omega
 ·obtain ⟨e1, e2, e3⟩ := h3 e
  simp [tstB] at ht; omega
/-- the memory within a round: the captured boxes, the type -/
structure TrSt (C : World → Nat → Prop) (a : Option Addr) (n c : Nat) (ware : ByteArray) (ra : Option Addr) (m rc g0 g1 g2 : Nat) (t : Typ) (xb z : Nat) (W : World) : Prop where
 cap : TrCap a n c ware ra m rc g0 g1 g2 W
 x : TypAt W xb 0 t
 nx : ¬ C W xb
 s : z ≤ W.heap.size
set_option maxRecDepth 100000 in
set_option maxHeartbeats 4000000 in
theorem tries1_gives (a : Option Addr) (c : Nat) (l : List Typ) (ware : ByteArray) (ra : Option Addr) (rc : Nat) (r : List Rng) (hl : typesErr l = 0) (hr : ringsErr r = 0) (hrc : r.length ≤ rc) (g0 g1 g2 : Nat) (W : World) (hcap : TrCap a l.length c ware ra r.length rc g0 g1 g2 W) :
  GivesC Tryz.prog 141 #[.pointer (some ⟨g0, 0, none⟩), .pointer (some ⟨g1, 0, none⟩), .pointer (some ⟨g2, 0, none⟩)] (TryRd l r) (triesOf l ware r)
   (fun C J => ∀ pre A, J pre A → TypesAt A a l ∧ RngsAt A ra r ∧ ¬ C A g0 ∧ ¬ C A g1 ∧ ¬ C A g2) W := by
 intro lp C J Jx hJ hJx hC1 hC2 hOk hY h0
 have hmf := run_mf Tryz.prog
 have HOK := Lib.hid hOk
 have HY := Lib.hid hY
 have HJ := Lib.hid hJ
 have HC1 := Lib.hid hC1
 have HC2 := Lib.hid hC2
 have H0 := Lib.hid h0
 have HCAP := Lib.hid hcap
 have c0 := hcap.b0.cell 0
 have ASC := Lib.hid (rings_asc hr)
 have GL := Lib.hid (typesErr_good hl)
 have hl12 : l.length ≤ 12 := (typesErr_good hl).1
 have hr12 : r.length ≤ 12 := (ringsErr_good hr).1
 clear hY hJ hJx hC1 hC2 hOk h0 hcap hl hr
 refine callsIn_of_wp Tryz.func141 rfl trivial ?_
 simp only [Tryz.ntmps141, List.size_toArray, List.length_cons, List.length_nil, Nat.reduceAdd, Nat.reduceSub, Array.replicate_succ, Array.replicate_zero, List.push_toArray, List.append_toArray, List.nil_append, List.cons_append]
 gi_wp2_with fail
 refine wpIn_scope (wpIn_seq (wpIn_label ?_))
 gi_wp2_with fail
 clear c0
 gi_loopw [15] (fun iv wr => ∃ k : Nat, k ≤ l.length ∧ iv = .int .i64 k ∧ J (triesTo l ware r k) wr ∧ TrCap a l.length c ware ra r.length rc g0 g1 g2 wr ∧ W.heap.size ≤ wr.heap.size) (fun iv _ => l.length - (intOf iv).toNat)
 case atStart => exact ⟨0, Nat.zero_le _, rfl, H0.out, HCAP.out, Nat.le_refl _⟩
 case round =>
  clear H0 HCAP
  obtain ⟨k, hk, rfl, hj, hcap, hsz⟩ := hrel
  by_cases hlt : k < l.length
  ·obtain ⟨t, ht⟩ : ∃ t, l[k]? = some t := ⟨l[k], by simp [hlt]⟩
   obtain ⟨hT, hR, n0, n1, n2⟩ := HOK.out _ _ hj
   obtain ⟨b, o, rfl, hat⟩ := hT k t ht
   have hki : (k : Int) < (l.length : Int) := by omega
   have hk0 : (0 : Int) ≤ (k : Int) := by omega
   have HL := Lib.hid hat.load
   obtain ⟨w2, hw2⟩ : ∃ w2, wr.alloc (.cells (typCells typ0) 71) = w2 := ⟨_, rfl⟩
   have b2 : Box w2 wr.heap.size (typCells typ0) 71 := by rw [← hw2]; exact Box.new _ _ _
   have hb2 : Below wr.heap.size wr w2 := by rw [← hw2]; go_grown
   obtain ⟨w3, hst, hw3⟩ := run_store_all (P := Tryz.prog) agg_typ b2 (typF t) (fun j _ => typF_one t j)
   have hb3 : Below wr.heap.size wr w3 := hw3.below hb2 (Nat.le_refl _)
   have hs3 : w3.heap.size = wr.heap.size + 1 := by rw [hw3.size, ← hw2]; simp
   have C3 := Lib.hid (show ∀ k', C w3 k' → C wr k' from fun k' h => HC1.out _ _ _ _ hj hsz hb3 h)
   have C3s := Lib.hid (show ∀ k', C w3 k' → k' < wr.heap.size from fun k' h => HC2.out _ _ _ hj hsz (HC1.out _ _ _ _ hj hsz hb3 h))
   have cap3 := hcap.below hb3
   have x3 : TypAt w3 wr.heap.size 0 t := hw3.box.typ
   obtain ⟨f1, f2, f3, f4, f5, f6⟩ := TypAt.fields x3
   simp only [Nat.zero_add] at f2 f3 f4
   have e1 := cap3.b1.cell 0
   have e2 := cap3.b2.cell 0
   have ST3 : Hid (TrSt C (some ⟨b, o, none⟩) l.length c ware ra r.length rc g0 g1 g2 t wr.heap.size (W.heap.size) w3) := Lib.hid ⟨cap3, x3, fun h => absurd (C3s.out _ h) (by omega), by omega⟩
   have HJ3 := Lib.hid (HJ.out _ _ _ hj hb3)
   have HR3 := Lib.hid (hR.below hb3)
   have HT := Lib.hid ht
   have HW2 := Lib.hid hw2
   have HST := Lib.hid hst
   obtain ⟨hg1, hg2⟩ := GL.out
   have hgood := hg2 k t ht
   have HGD := Lib.hid hgood
   obtain ⟨hsets, hl1, hlm, hm12⟩ := typeB_good hgood
   have hm1 : 1 ≤ t.most := by omega
   have HM1 := Lib.hid hm1
   have HSETS := Lib.hid hsets
   have H12 := Lib.hid hm12
   have HL1 := Lib.hid hl1
   clear hat hT hR ht hw2 b2 hb2 hst hw3 cap3 x3 hcap hj hgood hsets hg1 hg2 f1 f5 f6
   gi_upto_if 23 with (first
    | (refine wpListIn_load_box rfl 71 _ rfl rfl HL.out ?_)
    | (simp only [ztyp, HW2.out]; refine wpListIn_store_box rfl 71 _ _ rfl rfl rfl HST.out ?_))
   obtain ⟨wo, hwo⟩ : ∃ wo, wo = wr := ⟨_, rfl⟩
   subst hwo
   rcases hwq : (t.ware.toList == ware.toList) with _ | _
   ·have hne : t.ware ≠ ware := fun e => by rw [e] at hwq; simp at hwq
    have HNX := Lib.hid (triesTo_no (r := r) HT.out hne)
    clear hne f2 f3 f4 e1 e2
    gi_wp2_with fail
    go_roundw
    case rel => exact ⟨k + 1, by omega, by go_num, by rw [HNX.out]; exact HJ3.out, ST3.out.cap, ST3.out.s⟩
    case measure => simp [intOf]; omega
   ·have hwe : t.ware = ware := bytes_eq (by simpa using hwq)
    have HWE := Lib.hid hwe
    clear hwe
    gi_upto_if 26 with fail
    gi_cut [7, 8] from 86 (fun s7 s8 wx => s7 = .int .i64 (lastAt r) ∧ s8 = .int .i64 (moOf t r) ∧ Below w3.heap.size w3 wx)
    case first =>
     by_cases hr0 : r.length = 0
     ·have hz1 : decide (0 < r.length) = false := decide_eq_false (by omega)
      have hz2 : decide ((0 : Int) < (r.length : Int)) = false := decide_eq_false (by omega)
      have hz3 : ¬ 0 < r.length := by omega
      have hrn : r = [] := List.eq_nil_of_length_eq_zero hr0
      have HRN : Hid (lastAt r = -1 ∧ moOf t r = 0) := Lib.hid (by rw [hrn]; exact ⟨rfl, rfl⟩)
      clear hr0 hrn
      gi_wp2_with fail
      gi_meet
      case rel => exact ⟨by rw [HRN.out.1], by rw [HRN.out.2], Below.refl _ _⟩
     ·obtain ⟨m, hm⟩ : ∃ m, r.length = m + 1 := ⟨r.length - 1, by omega⟩
      obtain ⟨y, hy⟩ : ∃ y, r[m]? = some y := ⟨r[m]'(by omega), by simp [show m < r.length by omega]⟩
      have hz1 : decide (0 < r.length) = true := decide_eq_true (by omega)
      have hz2 : decide ((0 : Int) < (r.length : Int)) = true := decide_eq_true (by omega)
      have hw1 : IntKind.i64.wrap ((r.length : Int) - 1) = (m : Int) := by rw [IntWalk.i64_in _ (by omega)]; omega
      have hm0 : (0 : Int) ≤ (m : Int) := by omega
      have hm1 : (m : Int) < (r.length : Int) := by omega
      obtain ⟨rb, ro, rfl, hyc⟩ := HR3.out m y hy
      have HYC := Lib.hid hyc
      have HRN : Hid (lastAt r = y.at_ ∧ moOf t r = t.most) := Lib.hid (by
       have hrn : r ≠ [] := fun e => by rw [e] at hm; cases hm
       refine ⟨?_, by unfold moOf; rw [if_neg hrn]⟩
       unfold lastAt
       rw [List.getLast?_eq_getElem?, show r.length - 1 = m by omega, hy])
      clear hr0 hy hyc hm
      gi_wp2_with fail
      refine wpIn_region_heldB 11 [] (by kernel_rfl) (by kernel_rfl) (by kernel_rfl) (by kernel_rfl) (by simp) ?_
      intro S hS
      have k0 : ∀ A, S A → A.cell? ⟨g2, 0, none⟩ = some (.slice (some ⟨rb, ro, none⟩) r.length rc) ∧ A.cell? ⟨rb, ro + m * 2, none⟩ = some (.int .i64 y.at_) ∧ A.cell? ⟨wo.heap.size, 3, none⟩ = some (.int .i64 t.most) := fun A hA =>
       ⟨below_cell (hS A hA) (ST3.out.cap.b2.cell 0), (HYC.out.below (hS A hA)).fields.1, by have := (ST3.out.x.below (hS A hA)).fields.2.2.2.1; simpa using this⟩
      have K0 := Lib.hid k0
      have HS := Lib.hid hS
      clear hS k0
      simp only [List.take_succ_cons, List.take_zero, List.drop_succ_cons, List.drop_zero]
      repeat (first
       | (refine held_not rfl (by rfl) ?_; try (dsimp only); try simp only [Act.put, List.setIfInBounds_toArray, List.set_cons_zero, List.set_cons_succ])
       | (refine held_val (v := ?_) rfl (by rfl) ?_ ?_; rotate_left; (· (intro W hW; obtain ⟨q0, q1, q2⟩ := K0.out W hW; go_simp; try with_reducible rfl)); try (dsimp only); try simp only [Act.put, List.setIfInBounds_toArray, List.set_cons_zero, List.set_cons_succ])
       | (refine held_skip rfl (by rfl) ?_ ?_; (· (intro W hW; obtain ⟨q0, q1, q2⟩ := K0.out W hW; go_simp; try with_reducible rfl)); try (dsimp only); try simp only [Act.put, List.setIfInBounds_toArray, List.set_cons_zero, List.set_cons_succ]))
      refine held_nil ?_
      intro τ hτ W4 hW hO
      obtain rfl := laid0 hτ
      have HB4 := Lib.hid (HS.out W4 hW)
      clear hτ hO hW K0 HS
      simp only [overs, List.foldl_nil]
      gi_wp2_with fail
      gi_meet
      case rel => exact ⟨by rw [HRN.out.1], by rw [HRN.out.2], HB4.out⟩
    case rest =>
     obtain ⟨rfl, rfl, hbx⟩ := hcut
     have STc : Hid (TrSt C (some ⟨b, o, none⟩) l.length c ware ra r.length rc g0 g1 g2 t wo.heap.size W.heap.size wc) :=
      Lib.hid ⟨ST3.out.cap.below hbx, ST3.out.x.below hbx, fun h => ST3.out.nx (HC1.out _ _ _ _ HJ3.out ST3.out.s hbx h), Nat.le_trans ST3.out.s hbx.size⟩
     have HJc := Lib.hid (HJ.out _ _ _ HJ3.out hbx)
     have TST := Lib.hid (fun (s : Nat) (hs : s < shiftsOf t r) => tst_go ASC.out.1 HM1.out hs)
     have TSP := Lib.hid (fun (s : Nat) (hs : s = shiftsOf t r) => tst_stop ASC.out.1 HM1.out hs)
     have LG := Lib.hid (lastAt_ge ASC.out.1)
     have SHL : Hid (shiftsOf t r ≤ 12) := Lib.hid (by
      unfold shiftsOf
      split
      ·omega
      ·rename_i hrn
       have := LG.out.2 hrn
       have := H12.out
       omega)
     have LHI : Hid (lastAt r ≤ 11) := Lib.hid (by
      by_cases hrn : r = []
      ·subst hrn; decide
      ·obtain ⟨y, hy, e⟩ := lastAt_mem hrn
       rw [e]; exact (ASC.out.2 y hy).1)
     clear hbx ST3 HJ3 HR3 f2 f3 f4 e1 e2
     gi_wp2_with fail
     (try simp only [Bool.not_true])
     gi_loopw [9] (fun sv wq => ∃ s : Nat, s ≤ shiftsOf t r ∧ sv = .int .i64 s ∧ J (triesTo l ware r k ++ (List.range s).map (fun x => (k, x))) wq ∧ TrSt C (some ⟨b, o, none⟩) l.length c ware ra r.length rc g0 g1 g2 t wo.heap.size W.heap.size wq) (fun sv _ => shiftsOf t r - (intOf sv).toNat)
     case atStart => exact ⟨0, Nat.zero_le _, rfl, by simpa using HJc.out, STc.out⟩
     case round =>
      clear HJc STc
      obtain ⟨s, hs, rfl, hj, st⟩ := hrel
      obtain ⟨wq, hwq'⟩ : ∃ wq, wq = wr := ⟨_, rfl⟩
      subst hwq'
      have HJ4 := Lib.hid hj
      have ST4 := Lib.hid st
      clear hj st
      have hs12 : s ≤ 12 := by have := SHL.out; omega
      gi_upto_region 8 with fail
      gi_cut [42] from 86 (fun s42 wx => s42 = .bool (tstB s (moOf t r)) ∧ wq = wx)
      case first =>
       rcases h1 : ((s : Int) == 0) with _ | _
       ·rcases h2 : decide ((s : Int) < moOf t r) with _ | _
        ·have HT : Hid (tstB s (moOf t r) = false) := Lib.hid (by
          have a1 : s ≠ 0 := fun e => by subst e; simp at h1
          have a2 := of_decide_eq_false h2
          simp [tstB, a1]; omega)
         gi_wp2_with fail
         gi_meet
         case rel => exact ⟨by rw [HT.out], rfl⟩
        ·have HT : Hid (tstB s (moOf t r) = true) := Lib.hid (by
          have a2 := of_decide_eq_true h2
          simp [tstB]; omega)
         gi_wp2_with fail
         gi_meet
         case rel => exact ⟨by rw [HT.out], rfl⟩
       ·have HT : Hid (tstB s (moOf t r) = true) := Lib.hid (by
         have a1 : s = 0 := by simpa using h1
         simp [tstB, a1])
        gi_wp2_with fail
        gi_meet
        case rel => exact ⟨by rw [HT.out], rfl⟩
      case rest =>
       obtain ⟨rfl, rfl⟩ := hcut
       rcases htst : tstB s (moOf t r) with _ | _
       ·have hsx : s = shiftsOf t r := by
         rcases Nat.lt_or_ge s (shiftsOf t r) with h | h
         ·have := (TST.out s h).1; rw [htst] at this; cases this
         ·omega
        have HNX : Hid (triesTo l ware r k ++ (List.range s).map (fun x => (k, x)) = triesTo l ware r (k + 1)) := Lib.hid (by rw [triesTo_yes HT.out HWE.out, hsx])
        clear htst hsx
        gi_wp2_with fail
        go_roundw
        case rel => exact ⟨k + 1, by omega, by go_num, by rw [← HNX.out]; exact HJ4.out, ST4.out.cap, ST4.out.s⟩
        case measure => simp [intOf]; omega
       ·by_cases hlts : s < shiftsOf t r
        ·have hgo := (TST.out s hlts).2
         obtain ⟨hT4, hR4, n40, n41, n42⟩ := HOK.out _ _ HJ4.out
         have hl1' := LG.out.1
         have hl2' := LHI.out
         have hwa : IntKind.i64.wrap ((s : Int) + lastAt r) = (s : Int) + lastAt r := IntWalk.i64_in _ (by omega)
         have hwb : IntKind.i64.wrap ((s : Int) + lastAt r + 1) = (s : Int) + lastAt r + 1 := IntWalk.i64_in _ (by omega)
         have HK := Lib.hid (kindOf_any (some ⟨b, o, none⟩) c l k t HT.out HSETS.out wq hT4)
         have e0 := ST4.out.cap.b0.cell 0
         obtain ⟨f1, f2, f3, f4, f5, f6⟩ := TypAt.fields ST4.out.x
         simp only [Nat.zero_add] at f2 f3 f4
         clear f1 f2 f3 f5 f6 htst
         have N4 := Lib.hid (And.intro n40 (And.intro n41 n42))
         have R4 := Lib.hid hR4
         clear hT4 hR4 n40 n41 n42
         gi_upto_region 12 with (first
          | (gi_at_call 132; (with_reducible refine (callsIn_wide.2 HK.out).mono ?_); rintro e w5 ⟨rfl, hb5⟩
             have HB5 := Lib.hid hb5; clear hb5 e0 f4)
          | (gi_at_call 80; (with_reducible refine (callsIn_wide.2 (free_any w5)).mono ?_); rintro e w6 ⟨rfl, hb6⟩
             obtain ⟨w7, hw7⟩ : ∃ w7, w6.alloc (.cells (tryCells try0) 137) = w7 := ⟨_, rfl⟩
             have b7 : TryBox w7 w6.heap.size try0 := by rw [← hw7]; exact Box.new _ _ _
             have hb7 : Below w6.heap.size w6 w7 := by rw [← hw7]; go_grown
             obtain ⟨w8, hst8, hw8⟩ := run_store_all (P := Tryz.prog) agg_try b7 (tryF ⟨kndOf t k, s, 0, allC⟩) (fun j _ => tryF_one _ j)
             have HB8 := Lib.hid (show Below wq.heap.size wq w8 from (HB5.out.trans (hb6.mono HB5.out.size)).trans ((hw8.below hb7 (Nat.le_refl _)).mono (Nat.le_trans HB5.out.size hb6.size)))
             have B8 := Lib.hid hw8.box
             have G6 := Lib.hid (show wq.heap.size ≤ w6.heap.size from Nat.le_trans HB5.out.size hb6.size)
             have HST8 := Lib.hid hst8
             have HW7 := Lib.hid hw7
             clear hb6 hw7 b7 hb7 hst8 hw8)
          | (refine wpListIn_build rfl (v := .agg (tryCells ⟨kndOf t k, s, 0, allC⟩)) 137 _ rfl (by simp only [List.map_toArray, List.map_cons, List.map_nil]; exact run_build_try (kndOf t k) s allC _) ?_)
          | (simp only [ztry, HW7.out]; refine wpListIn_store_box rfl 137 _ _ rfl rfl rfl HST8.out ?_))
         obtain ⟨tb, htb⟩ : ∃ tb, w6.heap.size = tb := ⟨_, rfl⟩
         have htq : wq.heap.size ≤ tb := by rw [← htb]; exact G6.out
         simp only [htb] at B8 ⊢
         have X8 := Lib.hid (ST4.out.x.below HB8.out)
         obtain ⟨f1, f2, f3, f4, f5, f6⟩ := TypAt.fields X8.out
         simp only [Nat.zero_add] at f3
         have d1 := B8.out.fn (i := 762) (by omega)
         have d2 := B8.out.frozen 762
         clear f1 f2 f4 f5 f6 HW7 HST8 htb G6 HK HB5
         simp only [Act.put]
         gi_cut [] from 86 (fun wx => w8.setCell ⟨tb, 762, none⟩ (.int .i64 (leastOf4 t r s)) = wx)
         case first =>
          by_cases h1 : t.least < (s : Int) + lastAt r + 1
          ·have HLE : Hid (leastOf4 t r s = (s : Int) + lastAt r + 1) := Lib.hid (by unfold leastOf4; omega)
           gi_wp2_with fail
           gi_meet
           case rel => rw [HLE.out]
          ·have h1 : (s : Int) + lastAt r + 1 ≤ t.least := by omega
           have HLE : Hid (leastOf4 t r s = t.least) := Lib.hid (by unfold leastOf4; omega)
           gi_wp2_with fail
           gi_meet
           case rel => rw [HLE.out]
         case rest =>
          have HB9 := Lib.hid (show Below wq.heap.size wq wc from by rw [← hcut]; exact HB8.out.setCell (by simpa using htq) _)
          have B9 : Hid (TryBox wc tb ⟨kndOf t k, s, leastOf4 t r s, cutK r s 0⟩) := Lib.hid (by rw [← hcut]; exact TryBox.setLeast B8.out _)
          clear hcut d1 d2 f3 X8 B8 HB8
          have e2 := (ST4.out.cap.below HB9.out).b2.cell 0
          gi_wp2_with fail
          gi_loopw [67] (fun jv wz => ∃ j : Nat, j ≤ r.length ∧ jv = .int .i64 j ∧ TryBox wz tb ⟨kndOf t k, s, leastOf4 t r s, cutK r s j⟩ ∧ Below wq.heap.size wq wz) (fun jv _ => r.length - (intOf jv).toNat)
          case atStart => exact ⟨0, Nat.zero_le _, rfl, B9.out, HB9.out⟩
          case round =>
           clear HB9 B9 e2
           obtain ⟨j, hj, rfl, hbj, hwj⟩ := hrel
           obtain ⟨wz, hwz⟩ : ∃ wz, wz = wr := ⟨_, rfl⟩
           subst hwz
           have BJ := Lib.hid hbj
           have WJ := Lib.hid hwj
           clear hbj hwj
           by_cases hltj : j < r.length
           ·obtain ⟨y, hy⟩ : ∃ y, r[j]? = some y := ⟨r[j], by simp [hltj]⟩
            have hym := List.mem_of_getElem? hy
            obtain ⟨rb, ro, rfl, hyc⟩ := (R4.out.below WJ.out) j y hy
            have hji : (j : Int) < (r.length : Int) := by omega
            have hj0 : (0 : Int) ≤ (j : Int) := by omega
            have hy0 := ASC.out.1.2 y hym
            have hyl := le_lastAt ASC.out.1 hym
            have hm12 := H12.out
            obtain ⟨n, hn⟩ : ∃ n : Nat, y.at_ = n := ⟨y.at_.toNat, by omega⟩
            obtain ⟨q, hq⟩ : ∃ q : Nat, s + n = q := ⟨_, rfl⟩
            have hq12 : q < 12 := by omega
            have hqw : IntKind.i64.wrap ((s : Int) + y.at_) = (q : Int) := by rw [hn, ← hq, IntWalk.i64_in _ (by omega)]; omega
            have hq0 : (0 : Int) ≤ (q : Int) := by omega
            have hqi : (q : Int) < 12 := by omega
            have HCK := Lib.hid (fun p => cutK_succ ASC.out.1 (s := s) hy hn p)
            have HSQ := Lib.hid hq
            have HSET := Lib.hid (ASC.out.2 y hym).2
            have HLR := Lib.hid hyc.load
            obtain ⟨v2, hv2⟩ : ∃ v2, wz.alloc (.cells (rngCells rng0) 48) = v2 := ⟨_, rfl⟩
            have b2 : Box v2 wz.heap.size (rngCells rng0) 48 := by rw [← hv2]; exact Box.new _ _ _
            have hb2' : Below wz.heap.size wz v2 := by rw [← hv2]; go_grown
            obtain ⟨v3, hst3, hw3'⟩ := run_store_all (P := Tryz.prog) agg_rng b2 (rngF y) (fun j _ => rngF_one y j)
            have hb3' : Below wz.heap.size wz v3 := hw3'.below hb2' (Nat.le_refl _)
            have V3 := Lib.hid hb3'
            have Y3 := Lib.hid hw3'.box.rng
            have HV2 := Lib.hid hv2
            have HS3 := Lib.hid hst3
            have htl := BJ.out.lt
            clear hy hym hyc hy0 hyl hn hq b2 hb2' hst3 hw3' hb3' hv2
            gi_upto_region 16 with (first
             | (refine wpListIn_load_box rfl 48 _ rfl rfl HLR.out ?_)
             | (simp only [zrng, HV2.out]; refine wpListIn_store_box rfl 48 _ _ rfl rfl rfl HS3.out ?_))
            clear HLR HV2 HS3
            refine wpIn_region_heldB 8 [] (by kernel_rfl) (by kernel_rfl) (by kernel_rfl) (by kernel_rfl) (by simp) ?_
            intro S hS
            have k0 : ∀ A, S A → A.cell? ⟨wz.heap.size, 0, none⟩ = some (.int .i64 y.at_) ∧ A.cell? ⟨wz.heap.size, 1, none⟩ = some (.string y.set) := fun A hA =>
             ⟨by have := (Y3.out.below (hS A hA)).fields.1; simpa using this, by have := (Y3.out.below (hS A hA)).fields.2; simpa using this⟩
            have K0 := Lib.hid k0
            have HS := Lib.hid hS
            clear hS k0
            simp only [List.take_succ_cons, List.take_zero, List.drop_succ_cons, List.drop_zero]
            repeat (first
             | (refine held_not rfl (by rfl) ?_; try (dsimp only); try simp only [Act.put, List.setIfInBounds_toArray, List.set_cons_zero, List.set_cons_succ])
             | (refine held_val (v := ?_) rfl (by rfl) ?_ ?_; rotate_left; (· (intro W hW; obtain ⟨q0, q1⟩ := K0.out W hW; go_simp; try with_reducible rfl)); try (dsimp only); try simp only [Act.put, List.setIfInBounds_toArray, List.set_cons_zero, List.set_cons_succ])
             | (refine held_skip rfl (by rfl) ?_ ?_; (· (intro W hW; obtain ⟨q0, q1⟩ := K0.out W hW; go_simp; try with_reducible rfl)); try (dsimp only); try simp only [Act.put, List.setIfInBounds_toArray, List.set_cons_zero, List.set_cons_succ])
             | (refine held_call (v := .agg (setCells (hasC (bl y.set)))) (f := 142) (args := #[.string y.set]) rfl (by rfl) ?_ ?_ ?_; (· (intro W hW; go_simp; done)); (· exact (fun W hW => of_any _ HSET.out W (set_size HSET.out))); try (dsimp only); try simp only [Act.put, List.setIfInBounds_toArray, List.set_cons_zero, List.set_cons_succ]))
            refine held_nil ?_
            intro τ hτ W4 hW hO
            obtain rfl := laid0 hτ
            have HB4 := Lib.hid (V3.out.trans ((HS.out W4 hW).mono V3.out.size))
            clear hτ hO hW K0 HS
            simp only [overs, List.foldl_nil]
            obtain ⟨W5, hst5, hw5⟩ := TryBox.put (BJ.out.below' HB4.out) hq12 (hasC (bl y.set))
            have HS5 := Lib.hid hst5
            have HW5 := Lib.hid hw5
            clear hst5 hw5
            gi_wp2_with (refine wpListIn_store_box rfl 108 _ _ rfl rfl rfl HS5.out ?_)
            go_roundw
            case rel =>
             refine ⟨j + 1, by omega, by go_num, TryBox.congr_ HW5.out.box rfl rfl rfl (fun p d _ _ => ?_), HW5.out.below (WJ.out.trans (HB4.out.mono WJ.out.size)) htq⟩
             show (if p = q then hasC (bl y.set) else cutK r s j p) d = cutK r s (j + 1) p d
             rw [HCK.out p, HSQ.out]
            case measure => simp [intOf]; omega
           ·have hjn : decide ((j : Int) < (r.length : Int)) = false := decide_eq_false (by omega)
            obtain rfl : j = r.length := by omega
            have BT : Hid (TryBox wz tb (tryOf t k r s)) := Lib.hid (by have := BJ.out; rw [cutK_all] at this; exact this)
            have HLT := Lib.hid (TryBox.load BT.out)
            have hjz := HJ.out _ _ _ HJ4.out WJ.out
            obtain ⟨fn, tmps, assign, body, hy1, hR1⟩ := HY.out _ (k, s) #[.agg (tryCells (tryOf t k r s))] wz hjz ⟨t, HT.out, rfl⟩ (tries_pre HT.out HWE.out hlts)
            have HR1 := Lib.hid hR1
            have HPRE := Lib.hid (tries_pre (r := r) HT.out HWE.out hlts)
            have HNX : Hid (triesTo l ware r k ++ (List.range s).map (fun x => (k, x)) ++ [(k, s)] = triesTo l ware r k ++ (List.range (s + 1)).map (fun x => (k, x))) := Lib.hid (by rw [map_snoc, List.append_assoc])
            have CZ := Lib.hid (fun k' h => HC1.out _ _ _ k' HJ4.out ST4.out.s WJ.out h)
            clear hR1 hjz hj hltj
            gi_wp2_with (refine wpListIn_load_box rfl 137 _ rfl rfl HLT.out ?_)
            refine HR1.out.mono ?_
            rintro e w2 (⟨rfl, hj2, hk2, hg2⟩ | ⟨rfl, hx2⟩)
            rotate_left
            ·have HX2 := Lib.hid hx2
             clear hx2 HR1 hy1
             gi_wp2_with fail
             (try simp only [Exit.noGoto_normal])
             go_end0
             exact ⟨⟨_, rfl⟩, .inr ⟨_, HPRE.out, HX2.out⟩⟩
            rw [HNX.out] at hj2
            have HJ5 := Lib.hid hj2
            have cp := ST4.out.cap.below WJ.out
            have ST5 : Hid (TrSt C (some ⟨b, o, none⟩) l.length c ware ra r.length rc g0 g1 g2 t wo.heap.size W.heap.size w2) := Lib.hid ⟨cp.keep hk2 (fun h => N4.out.1 (CZ.out _ h)) (fun h => N4.out.2.1 (CZ.out _ h)) (fun h => N4.out.2.2 (CZ.out _ h)),
             (ST4.out.x.below WJ.out).keep hk2 (fun h => ST4.out.nx (CZ.out _ h)),
             fun h => (hg2 _ h).elim (fun h => ST4.out.nx (CZ.out _ h)) (fun h => by have := ST4.out.x.lt; have := WJ.out.size; omega),
             Nat.le_trans ST4.out.s (Nat.le_trans WJ.out.size hk2.size)⟩
            clear hj2 hk2 hg2 HR1 hy1 cp
            gi_wp2_with fail
            go_roundw
            case rel => exact ⟨s + 1, by omega, by go_num, HJ5.out, ST5.out⟩
            case measure => simp [intOf]; omega
        ·have hsx : s = shiftsOf t r := by omega
         have hle := TSP.out s hsx htst
         have HNX : Hid (triesTo l ware r k ++ (List.range s).map (fun x => (k, x)) = triesTo l ware r (k + 1)) := Lib.hid (by rw [triesTo_yes HT.out HWE.out, hsx])
         have hl1' := LG.out.1
         have hl2' := LHI.out
         have hwa : IntKind.i64.wrap ((s : Int) + lastAt r) = (s : Int) + lastAt r := IntWalk.i64_in _ (by omega)
         obtain ⟨f1, f2, f3, f4, f5, f6⟩ := TypAt.fields ST4.out.x
         simp only [Nat.zero_add] at f2 f3 f4
         clear f1 f2 f3 f5 f6 htst hsx hlts
         gi_wp2_with fail
         go_roundw
         case rel => exact ⟨k + 1, by omega, by go_num, by rw [← HNX.out]; exact HJ4.out, ST4.out.cap, ST4.out.s⟩
         case measure => simp [intOf]; omega
  ·have hkn : decide ((k : Int) < (l.length : Int)) = false := by simp; omega
   obtain rfl : k = l.length := by omega
   have HJJ := Lib.hid hj
   clear hj
   gi_wp2_with fail
   (try simp only [Exit.noGoto_normal])
   go_end0
   exact ⟨⟨_, rfl⟩, .inl HJJ.out⟩
end Go.Proofs.YthpjffhccjlnhaaGreatDoor
