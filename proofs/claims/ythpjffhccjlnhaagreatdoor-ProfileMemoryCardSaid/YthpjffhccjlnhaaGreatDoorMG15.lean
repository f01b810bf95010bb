/- As XAnyL, where a tail of operations, each of which waits for all the others ahead of the tail, need not keep S. No condition. -/
/- Package profile: the reader's lines: type. No condition. -/
/- Package profile: the reader's lines: rim, base. No condition. -/
import Derived.Test.YthpjffhccjlnhaaGreatDoorMHeld
import Derived.Test.YthpjffhccjlnhaaGreatDoorMG14
import Derived.Test.YthpjffhccjlnhaaGreatDoorMG9
set_option linter.unusedSimpArgs false
set_option linter.unusedVariables false
namespace Go.Proofs.YthpjffhccjlnhaaGreatDoor
open Go.RowKit

section
variable {P : Program} {md : Region.Mode} {ops : Array Oper} {Q : Exit → Act → World → Prop} {S : World → Prop} {m : Nat}

/-- whatever order is picked from here on, and S holds behind every operation but the last one -/
def wpAnyM (P : Program) (md : Region.Mode) (ops : Array Oper) (Q : Exit → Act → World → Prop) (S : World → Prop) (m : Nat) : Nat → Array Bool → Act → World → Prop
 | 0, listed, a, w => Region.ready md ops listed = [] ∧ Q .normal a w
 | fuel + 1, listed, a, w =>
  (Region.ready md ops listed = [] → Q .normal a w) ∧
  ∀ i ∈ Region.ready md ops listed, wpOp P ops Q i (fun a' w' => (m ≤ i ∨ S w') ∧ wpAnyM P md ops Q S m fuel (listed.setIfInBounds i true) a' w') a w

theorem wpAny_of_M : ∀ (fuel : Nat) (listed : Array Bool) (a : Act) (w : World), wpAnyM P md ops Q S m fuel listed a w → wpAny P md ops Q fuel listed a w
 | 0, _, _, _, h => h
 | fuel + 1, _, _, _, h => ⟨h.1, fun i hi => wpOp_mono (fun a' w' h' => wpAny_of_M fuel _ a' w' h'.2) (h.2 i hi)⟩

/-- the numbers from m on wait for all ahead of m -/
def sinkM (md : Region.Mode) (ops : Array Oper) (m : Nat) : Bool := (List.range ops.size).all fun k => decide (k < m) || match ops[k]? with
 | none => true
 | some o => (List.range m).all fun i => o.after.any fun e => Region.binds md e && e.on == i
theorem sinkM_spec (hs : sinkM md ops m = true) {listed : Array Bool} {i : Nat} (hi : i ∈ Region.ready md ops listed) (him : i < m) {k : Nat} (hmk : m ≤ k) : k ∉ Region.ready md ops listed := fun hm => by
 obtain ⟨_, om, hom, hall⟩ := mem_ready.1 hm
 obtain ⟨hun, oi, hoi, _⟩ := mem_ready.1 hi
 unfold sinkM at hs
 have h0 := List.all_eq_true.1 hs k (List.mem_range.2 (Array.getElem?_eq_some_iff.1 hom).1)
 simp only [hom, Bool.or_eq_true, decide_eq_true_eq, List.all_eq_true, List.mem_range] at h0
 have h1 := h0.resolve_left (by omega) i him
 obtain ⟨k, hk, hb, hon⟩ : ∃ (k : Nat) (hk : k < om.after.size), Region.binds md om.after[k] = true ∧ om.after[k].on = i := by simpa using h1
 have h3 := hall om.after[k] (Array.getElem_mem hk) hb
 rw [hon] at h3
 rcases Nat.lt_or_ge i listed.size with h' | h'
 ·simp [h'] at hun h3; rw [hun] at h3; cases h3
 ·simp [Array.getElem?_eq_none h'] at h3

theorem wpAnyM_first {i : Nat} {oi : Oper} {v : Value} (hsk : sinkM md ops m = true) (him : i < m) (hi : ops[i]? = some oi) (hsel : ∀ (j : Nat) (o : Oper) cs b, ops[j]? = some o → o.op ≠ .select cs b)
  (hQ : ∀ c a w, Q (.panic c) (a.put oi.dst v) w → Q (.panic c) a w) :
  ∀ (fuel : Nat) (listed : Array Bool) (a : Act) (w : World),
   (∀ j oj, ops[j]? = some oj → j ≠ i → listed.getD j true = false → (∀ e ∈ oj.after, Region.binds md e = true → e.on ≠ i) → oi.apart ops oj = true) →
   i ∈ Region.ready md ops listed → YieldsIf P ops S oi v a → S w →
   wpAnyM P md ops Q S m fuel (listed.setIfInBounds i true) (a.put oi.dst v) w → wpAnyM P md ops Q S m (fuel + 1) listed a w := by
 intro fuel
 induction fuel with
 | zero =>
  intro listed a w _ hr hy hS H
  refine ⟨fun h => (by rw [h] at hr; cases hr), fun j hj => ?_⟩
  by_cases hji : j = i
  ·subst hji; exact hy.wpOp hi hS ⟨.inr hS, H⟩
  ·have := ready_mono hj hji
   rw [H.1] at this
   cases this
 | succ fuel ih =>
  intro listed a w hfree hr hy hS H
  refine ⟨fun h => (by rw [h] at hr; cases hr), fun j hj => ?_⟩
  by_cases hji : j = i
  ·subst hji; exact hy.wpOp hi hS ⟨.inr hS, H⟩
  ·have h1 := H.2 j (ready_mono hj hji)
   have hjm : ¬ m ≤ j := fun h => sinkM_spec hsk hr him h hj
   obtain ⟨hjun, oj, hoj, hall⟩ := mem_ready.1 hj
   have hnot : ∀ e ∈ oj.after, Region.binds md e = true → e.on ≠ i := fun e he hb heq => by
    have h1 := hall e he hb
    have h0 := (mem_ready.1 hr).1
    rw [heq] at h1
    rcases Nat.lt_or_ge i listed.size with h' | h'
    ·simp [h'] at h0 h1; rw [h0] at h1; cases h1
    ·simp [Array.getElem?_eq_none h'] at h1
   have h2 := wpOp_putIf hoj (hfree j oj hoj hji hjun hnot) (fun cs b => hsel i oi cs b hi) (fun cs b => hsel j oj cs b hoj) hQ hy h1
   have hfree' : ∀ k ok, ops[k]? = some ok → k ≠ i → (listed.setIfInBounds j true).getD k true = false →
     (∀ e ∈ ok.after, Region.binds md e = true → e.on ≠ i) → oi.apart ops ok = true := fun k ok hk hki hun hno => by
    refine hfree k ok hk hki ?_ hno
    by_cases hjk : j = k
    ·subst hjk; exact hjun
    ·rw [getD_set_ne true hjk] at hun; exact hun
   refine wpOp_mono (fun a' w' h3 => ?_) h2
   have hSw : S w' := h3.2.1.resolve_left hjm
   refine ⟨.inr hSw, ih (listed.setIfInBounds j true) a' w' hfree' (ready_mono hr (Ne.symm hji)) h3.1 hSw ?_⟩
   rw [Array.setIfInBounds_comm _ _ hji]
   exact h3.2.2

/-- a read, taken first -/
theorem anyM_take {i : Nat} {oi : Oper} {v : Value} {fuel : Nat} {listed : Array Bool} {a : Act} {w : World} (hsk : sinkM md ops m = true) (hi : ops.toList[i]? = some oi) (him : decide (i < m) = true)
  (hs : Region.noSelect ops = true) (hf : Region.free md ops listed i = true) (hr : (Region.ready md ops listed).contains i = true)
  (hQ : ∀ c a w, Q (.panic c) (a.put oi.dst v) w → Q (.panic c) a w) (hw : Region.wanted oi (yielded ops a.tmps) = true) (hy : ∀ W, S W → (execOp a.eval oi).run P W = .ok (.value v) W) (hS : S w)
  (h : wpAnyM P md ops Q S m fuel (listed.setIfInBounds i true) (a.put oi.dst v) w) : wpAnyM P md ops Q S m (fuel + 1) listed a w :=
 wpAnyM_first hsk (by simpa using him) (at_list hi) (Region.noSelect_spec hs) hQ fuel listed a w (Region.free_spec (at_list hi) hf) (by simpa using hr) (.inl ⟨hw, hy⟩) hS h
theorem anyM_load {i : Nat} {oi : Oper} {v p : Value} (ty : TypeId) (x : Operand) {fuel : Nat} {listed : Array Bool} {a : Act} {w : World} (hsk : sinkM md ops m = true) (hi : ops.toList[i]? = some oi) (him : decide (i < m) = true)
  (hs : Region.noSelect ops = true) (hf : Region.free md ops listed i = true) (hr : (Region.ready md ops listed).contains i = true)
  (hQ : ∀ c a w, Q (.panic c) (a.put oi.dst v) w → Q (.panic c) a w) (hw : Region.wanted oi (yielded ops a.tmps) = true) (ho : oi.op = .load ty x) (hx : a.eval x = p) (hy : ∀ W, S W → (Instr.loadAt ty p).run P W = .ok v W) (hS : S w)
  (h : wpAnyM P md ops Q S m fuel (listed.setIfInBounds i true) (a.put oi.dst v) w) : wpAnyM P md ops Q S m (fuel + 1) listed a w :=
 anyM_take hsk hi him hs hf hr hQ hw (fun W hS => by unfold execOp; simp only [ho, hx, Sem.run_bind, hy W hS, Result.andThen_ok, Sem.run_pure]) hS h
/-- one that is passed over -/
theorem anyM_not {i : Nat} {oi : Oper} {fuel : Nat} {listed : Array Bool} {a : Act} {w : World} (hsk : sinkM md ops m = true) (hi : ops.toList[i]? = some oi) (him : decide (i < m) = true)
  (hs : Region.noSelect ops = true) (hf : Region.free md ops listed i = true) (hr : (Region.ready md ops listed).contains i = true)
  (hQ : ∀ c a w, Q (.panic c) (a.put oi.dst undef) w → Q (.panic c) a w) (hw : Region.wanted oi (yielded ops a.tmps) = false) (hS : S w)
  (h : wpAnyM P md ops Q S m fuel (listed.setIfInBounds i true) (a.put oi.dst undef) w) : wpAnyM P md ops Q S m (fuel + 1) listed a w :=
 wpAnyM_first hsk (by simpa using him) (at_list hi) (Region.noSelect_spec hs) hQ fuel listed a w (Region.free_spec (at_list hi) hf) (by simpa using hr) (.inr ⟨hw, rfl⟩) hS h
theorem anyM_done {listed : Array Bool} {a : Act} {w : World} (hr : Region.ready md ops listed = []) (h : Q .normal a w) :
  ∀ fuel, wpAnyM P md ops Q S m fuel listed a w
 | 0 => ⟨hr, h⟩
 | _ + 1 => ⟨fun _ => h, by rw [hr]; simp⟩
/-- an operation alone at the door, its run known -/
theorem anyM_run {i : Nat} {oi : Oper} {v : Value} {fuel : Nat} {listed : Array Bool} {a : Act} {w w' : World} (hi : ops.toList[i]? = some oi) (hr : Region.ready md ops listed = [i]) (hw : Region.wanted oi (yielded ops a.tmps) = true)
  (he : (execOp a.eval oi).run P w = .ok (.value v) w') (hS : m ≤ i ∨ S w') (h : wpAnyM P md ops Q S m fuel (listed.setIfInBounds i true) (a.put oi.dst v) w') : wpAnyM P md ops Q S m (fuel + 1) listed a w := by
 replace hi := at_list hi
 refine ⟨fun h0 => absurd (hr ▸ h0) (by simp), fun j hj => ?_⟩
 rw [hr] at hj
 obtain rfl : j = i := by simpa using hj
 unfold wpOp
 simp only [hi, hw, if_true]
 exact .inl (by unfold Oper.wp; rw [he]; exact ⟨hS, h⟩)
/-- .. that yields nothing -/
theorem anyM_skip {i : Nat} {oi : Oper} {fuel : Nat} {listed : Array Bool} {a : Act} {w w' : World} (hi : ops.toList[i]? = some oi) (hr : Region.ready md ops listed = [i]) (hw : Region.wanted oi (yielded ops a.tmps) = true)
  (he : (execOp a.eval oi).run P w = .ok .skip w') (hS : m ≤ i ∨ S w') (h : wpAnyM P md ops Q S m fuel (listed.setIfInBounds i true) (a.put oi.dst undef) w') : wpAnyM P md ops Q S m (fuel + 1) listed a w := by
 replace hi := at_list hi
 refine ⟨fun h0 => absurd (hr ▸ h0) (by simp), fun j hj => ?_⟩
 rw [hr] at hj
 obtain rfl : j = i := by simpa using hj
 unfold wpOp
 simp only [hi, hw, if_true]
 exact .inl (by unfold Oper.wp; rw [he]; exact ⟨hS, h⟩)
/-- .. a call of a function -/
theorem anyM_call {i : Nat} {oi : Oper} {f : FuncId} {args : Array Value} {fuel : Nat} {listed : Array Bool} {a : Act} {w : World} {R : Ending → World → Prop} (hi : ops.toList[i]? = some oi) (hr : Region.ready md ops listed = [i]) (hw : Region.wanted oi (yielded ops a.tmps) = true)
  (he : (execOp a.eval oi).run P w = .ok (.enter f args) w) (hc : Calls P f args w R)
  (h : ∀ e w', R e w' → (∃ v, e = .returned v ∧ (m ≤ i ∨ S w') ∧ wpAnyM P md ops Q S m fuel (listed.setIfInBounds i true) (a.put oi.dst v) w') ∨ (∃ c, e = .panicked c ∧ Q (.panic c) a w')) : wpAnyM P md ops Q S m (fuel + 1) listed a w := by
 replace hi := at_list hi
 refine ⟨fun h0 => absurd (hr ▸ h0) (by simp), fun j hj => ?_⟩
 rw [hr] at hj
 obtain rfl : j = i := by simpa using hj
 unfold wpOp
 simp only [hi, hw, if_true]
 refine .inl ?_
 unfold Oper.wp
 rw [he]
 refine Calls.mono hc fun e w' hR => ?_
 rcases h e w' hR with ⟨v, rfl, h1, h2⟩ | ⟨c, rfl, h1⟩
 ·exact ⟨h1, h2⟩
 ·exact h1
/-- THE BEGINNING -/
theorem wp_region_M {id : Nat} {a : Act} {w : World} (S : World → Prop) (m : Nat) (hm : P.follows .mixedOrders = true) (h : wpAnyM P .any ops Q S m ops.size (Array.replicate ops.size false) a w.drew) : (Code.region id ops true).wp P Q a w :=
 wp_region_any hm (wpAny_of_M _ _ _ _ h)
end
end Go.Proofs.YthpjffhccjlnhaaGreatDoor
namespace Go.Proofs.YthpjffhccjlnhaaGreatDoor
open Go.RowKit
attribute [local go_sem] Oper.semAt_some

def dueS : Nat → ByteArray
 | 0 => ⟨#[116, 121, 112, 101]⟩
 | 1 => ⟨#[114, 105, 109]⟩
 | 2 => ⟨#[98, 97, 115, 101]⟩
 | _ => ⟨#[97, 102, 116, 101, 114]⟩
abbrev RdBox (w : World) (rb : Nat) (v : Value) (due last : Nat) : Prop := Box w rb #[v, .string (dueS due), .int .u8 (last : Int)] 91
def typsV (l : List Typ) : List Value := l.flatMap fun t => (typCells t).toList
theorem typsV_app (l : List Typ) (t : Typ) : typsV (l ++ [t]) = typsV l ++ (typCells t).toList := by simp [typsV]
/-- words in a block of strings -/
def WordsAt (w : World) (sb : Nat) (ws : List (List UInt8)) : Prop := ∀ k x, ws[k]? = some x → w.cell? ⟨sb, k, none⟩ = some (.string (mkB x))
theorem WordsAt.keep {K : Nat → Prop} {w w' : World} {sb : Nat} {ws : List (List UInt8)} (h : WordsAt w sb ws) (hk : Keep K w w') (hs : K sb) : WordsAt w' sb ws := fun k x hx => hk.cell hs (h k x hx)
theorem mkB_ne {x : List UInt8} (h : x ≠ []) : (mkB x).toList.isEmpty = false := by
 rw [ByteArray.toList_eq]; simp [mkB, h]
def newT (n v : List UInt8) (x y : Int) : Typ := ⟨mkB n, mkB v, x, y, ByteArray.empty, ByteArray.empty, noAfter⟩
theorem newT_cells (n m : List UInt8) (x y : Int) : typCells (newT n m x y) = #[.string (mkB n), .string (mkB m), .int .i64 x, .int .i64 y, .string { data := #[] }, .string { data := #[] }, .string { data := #[] }, .string { data := #[] }, .string { data := #[] }, .string { data := #[] }, .string { data := #[] }, .string { data := #[] }, .string { data := #[] }, .string { data := #[] }, .string { data := #[] }, .string { data := #[] }, .string { data := #[] }, .string { data := #[] }, .string { data := #[] }, .string { data := #[] }, .string { data := #[] }, .string { data := #[] }, .string { data := #[] }, .string { data := #[] }, .string { data := #[] }, .string { data := #[] }, .string { data := #[] }, .string { data := #[] }, .string { data := #[] }, .string { data := #[] }, .string { data := #[] }, .string { data := #[] }] := by rfl
theorem info_typ : (Tryz.prog.info? 71).map (fun i => (i.zero, i.size, i.bytes)) = some (some (.agg #[.string { data := #[] }, .string { data := #[] }, .int .i64 0, .int .i64 0, .string { data := #[] }, .string { data := #[] }, .string { data := #[] }, .string { data := #[] }, .string { data := #[] }, .string { data := #[] }, .string { data := #[] }, .string { data := #[] }, .string { data := #[] }, .string { data := #[] }, .string { data := #[] }, .string { data := #[] }, .string { data := #[] }, .string { data := #[] }, .string { data := #[] }, .string { data := #[] }, .string { data := #[] }, .string { data := #[] }, .string { data := #[] }, .string { data := #[] }, .string { data := #[] }, .string { data := #[] }, .string { data := #[] }, .string { data := #[] }, .string { data := #[] }, .string { data := #[] }, .string { data := #[] }, .string { data := #[] }]), 32, 496) := by kernel_rfl
theorem info_typ2 : (Tryz.prog.info? 71).map (fun i => (i.zero, i.size)) = some (some (.agg #[.string { data := #[] }, .string { data := #[] }, .int .i64 0, .int .i64 0, .string { data := #[] }, .string { data := #[] }, .string { data := #[] }, .string { data := #[] }, .string { data := #[] }, .string { data := #[] }, .string { data := #[] }, .string { data := #[] }, .string { data := #[] }, .string { data := #[] }, .string { data := #[] }, .string { data := #[] }, .string { data := #[] }, .string { data := #[] }, .string { data := #[] }, .string { data := #[] }, .string { data := #[] }, .string { data := #[] }, .string { data := #[] }, .string { data := #[] }, .string { data := #[] }, .string { data := #[] }, .string { data := #[] }, .string { data := #[] }, .string { data := #[] }, .string { data := #[] }, .string { data := #[] }, .string { data := #[] }]), 32) := by kernel_rfl
set_option maxRecDepth 100000 in
set_option maxHeartbeats 4000000 in
theorem kind_good (rb sb base due last : Nat) (v : Value) (l : List Typ) (w0 n m a b : List UInt8) (x y : Int) (w : World) (hr : RdBox w rb v due last) (ho : w.ownsRow base 71 32 v l.length (typsV l)) (hw : WordsAt w sb [w0, n, m, a, b])
  (hd : due = 0 ∨ due = 3) (hn : n ≠ []) (hm : m ≠ []) (ha : numS a = some x) (hb : numS b = some y) (hl : l.length ≤ 100000) (hrb : rb < base) (hsb : v.ownBlock ≠ some sb) (hbs : base ≤ w.heap.size) :
  Calls Tryz.prog 156 #[.pointer (some ⟨rb, 0, none⟩), .slice (some ⟨sb, 0, none⟩) 5 5] w fun e w' => e = .returned (.tuple #[]) ∧ ∃ v', RdBox w' rb v' 1 last ∧ w'.ownsRow base 71 32 v' (l.length + 1) (typsV (l ++ [newT n m x y])) ∧ (∀ k, v'.ownBlock = some k → v.ownBlock = some k ∨ w.heap.size ≤ k) ∧ Keep (fun k => v.ownBlock ≠ some k ∧ k ≠ rb) w w' := by
 have hro : v.ownBlock ≠ some rb := fun e => by have := (ho.lt rb e).1; omega
 have c0 := hr.cell 0
 have c1 := hr.cell 1
 have w1 := hw 1 _ rfl
 have w2 := hw 2 _ rfl
 have n1 := mkB_ne hn
 have n2 := mkB_ne hm
 have HR := Lib.hid hr
 have HO := Lib.hid ho
 have HW := Lib.hid hw
 have HA := Lib.hid ha
 have HB := Lib.hid hb
 clear hr ho hw ha hb hn hm
 go_enter Tryz.func156, Tryz.ntmps156
 have e1 : ((⟨#[97, 102, 116, 101, 114]⟩ : ByteArray).toList == (⟨#[116, 121, 112, 101]⟩ : ByteArray).toList) = false := by decide +kernel
 rcases hd with rfl | rfl
 ·simp only [dueS] at c1
  go_upto_region 1 with (go_at_call 128; refine (need_good _).mono ?_; rintro e w' ⟨rfl, rfl⟩)
  obtain ⟨DD, hDD⟩ : ∃ d, d = 0 := ⟨_, rfl⟩
  rw [← hDD] at HR
  have hf : ∀ A, Keep (fun k => v.ownBlock ≠ some k) w A → A.cell? ⟨rb, 0, none⟩ = some v ∧ A.cell? ⟨sb, 1, none⟩ = some (.string (mkB n)) ∧ A.cell? ⟨sb, 2, none⟩ = some (.string (mkB m)) ∧ A.cell? ⟨sb, 3, none⟩ = some (.string (mkB a)) ∧ A.cell? ⟨sb, 4, none⟩ = some (.string (mkB b)) := fun A hA =>
   ⟨(Box.cell (hA.heap hro HR.out) 0).trans rfl, (HW.out.keep hA hsb) 1 _ rfl, (HW.out.keep hA hsb) 2 _ rfl, (HW.out.keep hA hsb) 3 _ rfl, (HW.out.keep hA hsb) 4 _ rfl⟩
  have K0 := Lib.hid hf
  clear hf c0 c1 w1 w2 n1 n2 e1
  refine wp_region_M (fun A => Keep (fun k => v.ownBlock ≠ some k) w A) 22 (by kernel_rfl) ?_
  have hbd : Below w.heap.size w w.drew := (Below.refl _ w).drew
  have hSS : Keep (fun k => v.ownBlock ≠ some k) w w.drew := Keep.of_below' hbd
  refine anyM_take (i := 0) (v := ?_) (by kernel_rfl) rfl (by kernel_rfl) (by kernel_rfl) (by kernel_rfl) (by kernel_rfl) (fun _ _ _ h => h) (by rfl) ?_ hSS ?_
  rotate_left
  ·(intro W hW; obtain ⟨q0, q1, q2, q3, q4⟩ := K0.out W hW; go_simp; try with_reducible rfl)
  try (dsimp only); try simp only [Act.put, List.setIfInBounds_toArray, List.set_cons_zero, List.set_cons_succ]
  refine anyM_take (i := 1) (v := ?_) (by kernel_rfl) rfl (by kernel_rfl) (by kernel_rfl) (by kernel_rfl) (by kernel_rfl) (fun _ _ _ h => h) (by rfl) ?_ hSS ?_
  rotate_left
  ·(intro W hW; obtain ⟨q0, q1, q2, q3, q4⟩ := K0.out W hW; go_simp; try with_reducible rfl)
  try (dsimp only); try simp only [Act.put, List.setIfInBounds_toArray, List.set_cons_zero, List.set_cons_succ]
  refine anyM_take (i := 2) (v := ?_) (by kernel_rfl) rfl (by kernel_rfl) (by kernel_rfl) (by kernel_rfl) (by kernel_rfl) (fun _ _ _ h => h) (by rfl) ?_ hSS ?_
  rotate_left
  ·(intro W hW; obtain ⟨q0, q1, q2, q3, q4⟩ := K0.out W hW; go_simp; try with_reducible rfl)
  try (dsimp only); try simp only [Act.put, List.setIfInBounds_toArray, List.set_cons_zero, List.set_cons_succ]
  refine anyM_take (i := 3) (v := ?_) (by kernel_rfl) rfl (by kernel_rfl) (by kernel_rfl) (by kernel_rfl) (by kernel_rfl) (fun _ _ _ h => h) (by rfl) ?_ hSS ?_
  rotate_left
  ·(intro W hW; obtain ⟨q0, q1, q2, q3, q4⟩ := K0.out W hW; go_simp; try with_reducible rfl)
  try (dsimp only); try simp only [Act.put, List.setIfInBounds_toArray, List.set_cons_zero, List.set_cons_succ]
  refine anyM_take (i := 4) (v := ?_) (by kernel_rfl) rfl (by kernel_rfl) (by kernel_rfl) (by kernel_rfl) (by kernel_rfl) (fun _ _ _ h => h) (by rfl) ?_ hSS ?_
  rotate_left
  ·(intro W hW; obtain ⟨q0, q1, q2, q3, q4⟩ := K0.out W hW; go_simp; try with_reducible rfl)
  try (dsimp only); try simp only [Act.put, List.setIfInBounds_toArray, List.set_cons_zero, List.set_cons_succ]
  refine anyM_take (i := 5) (v := ?_) (by kernel_rfl) rfl (by kernel_rfl) (by kernel_rfl) (by kernel_rfl) (by kernel_rfl) (fun _ _ _ h => h) (by rfl) ?_ hSS ?_
  rotate_left
  ·(intro W hW; obtain ⟨q0, q1, q2, q3, q4⟩ := K0.out W hW; go_simp; try with_reducible rfl)
  try (dsimp only); try simp only [Act.put, List.setIfInBounds_toArray, List.set_cons_zero, List.set_cons_succ]
  refine anyM_take (i := 6) (v := ?_) (by kernel_rfl) rfl (by kernel_rfl) (by kernel_rfl) (by kernel_rfl) (by kernel_rfl) (fun _ _ _ h => h) (by rfl) ?_ hSS ?_
  rotate_left
  ·(intro W hW; obtain ⟨q0, q1, q2, q3, q4⟩ := K0.out W hW; go_simp; try with_reducible rfl)
  try (dsimp only); try simp only [Act.put, List.setIfInBounds_toArray, List.set_cons_zero, List.set_cons_succ]
  refine anyM_take (i := 7) (v := ?_) (by kernel_rfl) rfl (by kernel_rfl) (by kernel_rfl) (by kernel_rfl) (by kernel_rfl) (fun _ _ _ h => h) (by rfl) ?_ hSS ?_
  rotate_left
  ·(intro W hW; obtain ⟨q0, q1, q2, q3, q4⟩ := K0.out W hW; go_simp; try with_reducible rfl)
  try (dsimp only); try simp only [Act.put, List.setIfInBounds_toArray, List.set_cons_zero, List.set_cons_succ]
  refine anyM_take (i := 8) (v := ?_) (by kernel_rfl) rfl (by kernel_rfl) (by kernel_rfl) (by kernel_rfl) (by kernel_rfl) (fun _ _ _ h => h) (by rfl) ?_ hSS ?_
  rotate_left
  ·(intro W hW; obtain ⟨q0, q1, q2, q3, q4⟩ := K0.out W hW; go_simp; try with_reducible rfl)
  try (dsimp only); try simp only [Act.put, List.setIfInBounds_toArray, List.set_cons_zero, List.set_cons_succ]
  refine anyM_take (i := 9) (v := ?_) (by kernel_rfl) rfl (by kernel_rfl) (by kernel_rfl) (by kernel_rfl) (by kernel_rfl) (fun _ _ _ h => h) (by rfl) ?_ hSS ?_
  rotate_left
  ·(intro W hW; obtain ⟨q0, q1, q2, q3, q4⟩ := K0.out W hW; go_simp; try with_reducible rfl)
  try (dsimp only); try simp only [Act.put, List.setIfInBounds_toArray, List.set_cons_zero, List.set_cons_succ]
  refine anyM_take (i := 10) (v := ?_) (by kernel_rfl) rfl (by kernel_rfl) (by kernel_rfl) (by kernel_rfl) (by kernel_rfl) (fun _ _ _ h => h) (by rfl) ?_ hSS ?_
  rotate_left
  ·(intro W hW; obtain ⟨q0, q1, q2, q3, q4⟩ := K0.out W hW; go_simp; try with_reducible rfl)
  try (dsimp only); try simp only [Act.put, List.setIfInBounds_toArray, List.set_cons_zero, List.set_cons_succ]
  refine anyM_take (i := 11) (v := ?_) (by kernel_rfl) rfl (by kernel_rfl) (by kernel_rfl) (by kernel_rfl) (by kernel_rfl) (fun _ _ _ h => h) (by rfl) ?_ hSS ?_
  rotate_left
  ·(intro W hW; obtain ⟨q0, q1, q2, q3, q4⟩ := K0.out W hW; go_simp; try with_reducible rfl)
  try (dsimp only); try simp only [Act.put, List.setIfInBounds_toArray, List.set_cons_zero, List.set_cons_succ]
  refine anyM_take (i := 12) (v := ?_) (by kernel_rfl) rfl (by kernel_rfl) (by kernel_rfl) (by kernel_rfl) (by kernel_rfl) (fun _ _ _ h => h) (by rfl) ?_ hSS ?_
  rotate_left
  ·(intro W hW; obtain ⟨q0, q1, q2, q3, q4⟩ := K0.out W hW; go_simp; try with_reducible rfl)
  try (dsimp only); try simp only [Act.put, List.setIfInBounds_toArray, List.set_cons_zero, List.set_cons_succ]
  refine anyM_take (i := 13) (v := ?_) (by kernel_rfl) rfl (by kernel_rfl) (by kernel_rfl) (by kernel_rfl) (by kernel_rfl) (fun _ _ _ h => h) (by rfl) ?_ hSS ?_
  rotate_left
  ·(intro W hW; obtain ⟨q0, q1, q2, q3, q4⟩ := K0.out W hW; go_simp; try with_reducible rfl)
  try (dsimp only); try simp only [Act.put, List.setIfInBounds_toArray, List.set_cons_zero, List.set_cons_succ]
  refine anyM_take (i := 15) (v := ?_) (by kernel_rfl) rfl (by kernel_rfl) (by kernel_rfl) (by kernel_rfl) (by kernel_rfl) (fun _ _ _ h => h) (by rfl) ?_ hSS ?_
  rotate_left
  ·(intro W hW; obtain ⟨q0, q1, q2, q3, q4⟩ := K0.out W hW; go_simp; try with_reducible rfl)
  try (dsimp only); try simp only [Act.put, List.setIfInBounds_toArray, List.set_cons_zero, List.set_cons_succ]
  refine anyM_take (i := 16) (v := ?_) (by kernel_rfl) rfl (by kernel_rfl) (by kernel_rfl) (by kernel_rfl) (by kernel_rfl) (fun _ _ _ h => h) (by rfl) ?_ hSS ?_
  rotate_left
  ·(intro W hW; obtain ⟨q0, q1, q2, q3, q4⟩ := K0.out W hW; go_simp; try with_reducible rfl)
  try (dsimp only); try simp only [Act.put, List.setIfInBounds_toArray, List.set_cons_zero, List.set_cons_succ]
  refine anyM_take (i := 17) (v := ?_) (by kernel_rfl) rfl (by kernel_rfl) (by kernel_rfl) (by kernel_rfl) (by kernel_rfl) (fun _ _ _ h => h) (by rfl) ?_ hSS ?_
  rotate_left
  ·(intro W hW; obtain ⟨q0, q1, q2, q3, q4⟩ := K0.out W hW; go_simp; try with_reducible rfl)
  try (dsimp only); try simp only [Act.put, List.setIfInBounds_toArray, List.set_cons_zero, List.set_cons_succ]
  refine anyM_call (i := 14) (f := 180) (args := #[.string (mkB a)]) rfl (by kernel_rfl) (by rfl) ?_ (number_good (mkB a) x (by rw [bl_mkB]; exact HA.out) _) ?_
  ·go_simp
  rintro e W1 ⟨rfl, hb1⟩
  have hb1' : Below w.heap.size w W1 := hbd.trans hb1
  refine .inl ⟨_, rfl, .inr (Keep.of_below' hb1'), ?_⟩
  try (dsimp only); try simp only [Act.put, List.setIfInBounds_toArray, List.set_cons_zero, List.set_cons_succ]
  refine anyM_call (i := 18) (f := 180) (args := #[.string (mkB b)]) rfl (by kernel_rfl) (by rfl) ?_ (number_good (mkB b) y (by rw [bl_mkB]; exact HB.out) _) ?_
  ·go_simp
  rintro e W2 ⟨rfl, hb2⟩
  have hb2' : Below w.heap.size w W2 := hb1'.trans (hb2.mono hb1'.size)
  have hz2 : base ≤ W2.heap.size := Nat.le_trans hbs hb2'.size
  refine .inl ⟨_, rfl, .inr (Keep.of_below' hb2'), ?_⟩
  try (dsimp only); try simp only [Act.put, List.setIfInBounds_toArray, List.set_cons_zero, List.set_cons_succ]
  refine anyM_run (i := 19) (v := .agg (typCells (newT n m x y))) (w' := W2) rfl (by kernel_rfl) (by rfl) ?_ (.inr (Keep.of_below' hb2')) ?_
  ·rw [newT_cells]; go_simp
  try (dsimp only); try simp only [Act.put, List.setIfInBounds_toArray, List.set_cons_zero, List.set_cons_succ]
  have hbs2 := run_bslice (P := Tryz.prog) (T := 22) Tryz.underlying22 info_typ2 (by omega) (by omega) (v := .agg (typCells (newT n m x y))) (g := typF (newT n m x y)) rfl W2
  obtain ⟨v', U, hrun, hown, hbU, hkU, hvb⟩ := app_fn (P := Tryz.prog) (TT := 22) Tryz.underlying22 info_typ rfl (by omega) (by omega) (ownsRow_keep HO.out (Keep.of_below' (K := fun _ => True) hb2') (fun _ _ => trivial)) (by omega) hz2 (typF (newT n m x y)) (fun j _ => typF_one _ _)
  have hkB : Keep (fun k => v.ownBlock ≠ some k) w U := (Keep.of_below' hb2').trans hkU
  refine anyM_run (i := 20) (v := .slice (some ⟨W2.heap.size, 0, none⟩) 1 1) (w' := W2.alloc (.cells (typCells (newT n m x y)) 71)) rfl (by kernel_rfl) (by rfl) ?_ (.inr ((Keep.of_below' hb2').alloc _)) ?_
  ·refine exec_bslice 22 _ _ rfl ?_
   simp only [List.map_toArray, List.map_cons, List.map_nil]
   exact hbs2
  try (dsimp only); try simp only [Act.put, List.setIfInBounds_toArray, List.set_cons_zero, List.set_cons_succ]
  refine anyM_run (i := 21) (v := v') (w' := U) rfl (by kernel_rfl) (by rfl) ?_ (.inr hkB) ?_
  ·refine exec_app (v := v) (u := .slice (some ⟨W2.heap.size, 0, none⟩) 1 1) _ _ 22 rfl (by rfl) (by rfl) ?_
   exact hrun
  try (dsimp only); try simp only [Act.put, List.setIfInBounds_toArray, List.set_cons_zero, List.set_cons_succ]
  refine anyM_run (i := 22) (v := .pointer (some ⟨rb, 0, none⟩)) (w' := U) rfl (by kernel_rfl) (by rfl) ?_ (.inr hkB) ?_
  ·go_simp
  try (dsimp only); try simp only [Act.put, List.setIfInBounds_toArray, List.set_cons_zero, List.set_cons_succ]
  refine anyM_run (i := 23) (v := .pointer (some ⟨rb, 0, none⟩)) (w' := U) rfl (by kernel_rfl) (by rfl) ?_ (.inr hkB) ?_
  ·go_simp
  try (dsimp only); try simp only [Act.put, List.setIfInBounds_toArray, List.set_cons_zero, List.set_cons_succ]
  have hRU : RdBox U rb v DD last := hkB.heap hro HR.out
  obtain ⟨r1, r2⟩ := hRU.rules
  obtain ⟨a', c', rfl, -, -⟩ := ownsRow_own hown
  refine anyM_skip (i := 24) (w' := U.setCell ⟨rb, 0, none⟩ (.slice a' (l.length + 1) c')) rfl (by kernel_rfl) (by rfl) ?_ (.inl (by decide)) ?_
  ·go_simp
  try (dsimp only); try simp only [Act.put, List.setIfInBounds_toArray, List.set_cons_zero, List.set_cons_succ]
  refine anyM_done (by kernel_rfl) ?_ _
  have hR2 : RdBox (U.setCell ⟨rb, 0, none⟩ (.slice a' (l.length + 1) c')) rb (.slice a' (l.length + 1) c') DD last := hRU.set_ 0 _
  obtain ⟨r3, r4⟩ := hR2.rules
  go_wp2_with fail
  go_end0
  have hR3 : RdBox _ rb _ 1 last := hR2.set_ 1 (.string (dueS 1))
  have hkA : ∀ A, Keep (fun k => base ≤ k) A ((A.setCell ⟨rb, 0, none⟩ (.slice a' (l.length + 1) c')).setCell ⟨rb, 1, none⟩ (.string (dueS 1))) := fun A => ((Keep.refl _ A).setCell (.inl (by simp; omega)) _).setCell (.inl (by simp; omega)) _
  refine ⟨rfl, _, hR3, ?_, fun k hk => (hvb k hk).imp id fun h => Nat.le_trans hb2'.size h, ?_⟩
  ·rw [typsV_app]
   exact ownsRow_keep hown (hkA U) fun k hk => hk
  ·exact ((hkB.mono fun k hk => hk.1).setCell (.inl (by simp)) _).setCell (.inl (by simp)) _
 ·simp only [dueS] at c1
  go_upto_region 1 with (go_at_call 128; refine (need_good _).mono ?_; rintro e w' ⟨rfl, rfl⟩)
  obtain ⟨DD, hDD⟩ : ∃ d, d = 3 := ⟨_, rfl⟩
  rw [← hDD] at HR
  have hf : ∀ A, Keep (fun k => v.ownBlock ≠ some k) w A → A.cell? ⟨rb, 0, none⟩ = some v ∧ A.cell? ⟨sb, 1, none⟩ = some (.string (mkB n)) ∧ A.cell? ⟨sb, 2, none⟩ = some (.string (mkB m)) ∧ A.cell? ⟨sb, 3, none⟩ = some (.string (mkB a)) ∧ A.cell? ⟨sb, 4, none⟩ = some (.string (mkB b)) := fun A hA =>
   ⟨(Box.cell (hA.heap hro HR.out) 0).trans rfl, (HW.out.keep hA hsb) 1 _ rfl, (HW.out.keep hA hsb) 2 _ rfl, (HW.out.keep hA hsb) 3 _ rfl, (HW.out.keep hA hsb) 4 _ rfl⟩
  have K0 := Lib.hid hf
  clear hf c0 c1 w1 w2 n1 n2 e1
  refine wp_region_M (fun A => Keep (fun k => v.ownBlock ≠ some k) w A) 22 (by kernel_rfl) ?_
  have hbd : Below w.heap.size w w.drew := (Below.refl _ w).drew
  have hSS : Keep (fun k => v.ownBlock ≠ some k) w w.drew := Keep.of_below' hbd
  refine anyM_take (i := 0) (v := ?_) (by kernel_rfl) rfl (by kernel_rfl) (by kernel_rfl) (by kernel_rfl) (by kernel_rfl) (fun _ _ _ h => h) (by rfl) ?_ hSS ?_
  rotate_left
  ·(intro W hW; obtain ⟨q0, q1, q2, q3, q4⟩ := K0.out W hW; go_simp; try with_reducible rfl)
  try (dsimp only); try simp only [Act.put, List.setIfInBounds_toArray, List.set_cons_zero, List.set_cons_succ]
  refine anyM_take (i := 1) (v := ?_) (by kernel_rfl) rfl (by kernel_rfl) (by kernel_rfl) (by kernel_rfl) (by kernel_rfl) (fun _ _ _ h => h) (by rfl) ?_ hSS ?_
  rotate_left
  ·(intro W hW; obtain ⟨q0, q1, q2, q3, q4⟩ := K0.out W hW; go_simp; try with_reducible rfl)
  try (dsimp only); try simp only [Act.put, List.setIfInBounds_toArray, List.set_cons_zero, List.set_cons_succ]
  refine anyM_take (i := 2) (v := ?_) (by kernel_rfl) rfl (by kernel_rfl) (by kernel_rfl) (by kernel_rfl) (by kernel_rfl) (fun _ _ _ h => h) (by rfl) ?_ hSS ?_
  rotate_left
  ·(intro W hW; obtain ⟨q0, q1, q2, q3, q4⟩ := K0.out W hW; go_simp; try with_reducible rfl)
  try (dsimp only); try simp only [Act.put, List.setIfInBounds_toArray, List.set_cons_zero, List.set_cons_succ]
  refine anyM_take (i := 3) (v := ?_) (by kernel_rfl) rfl (by kernel_rfl) (by kernel_rfl) (by kernel_rfl) (by kernel_rfl) (fun _ _ _ h => h) (by rfl) ?_ hSS ?_
  rotate_left
  ·(intro W hW; obtain ⟨q0, q1, q2, q3, q4⟩ := K0.out W hW; go_simp; try with_reducible rfl)
  try (dsimp only); try simp only [Act.put, List.setIfInBounds_toArray, List.set_cons_zero, List.set_cons_succ]
  refine anyM_take (i := 4) (v := ?_) (by kernel_rfl) rfl (by kernel_rfl) (by kernel_rfl) (by kernel_rfl) (by kernel_rfl) (fun _ _ _ h => h) (by rfl) ?_ hSS ?_
  rotate_left
  ·(intro W hW; obtain ⟨q0, q1, q2, q3, q4⟩ := K0.out W hW; go_simp; try with_reducible rfl)
  try (dsimp only); try simp only [Act.put, List.setIfInBounds_toArray, List.set_cons_zero, List.set_cons_succ]
  refine anyM_take (i := 5) (v := ?_) (by kernel_rfl) rfl (by kernel_rfl) (by kernel_rfl) (by kernel_rfl) (by kernel_rfl) (fun _ _ _ h => h) (by rfl) ?_ hSS ?_
  rotate_left
  ·(intro W hW; obtain ⟨q0, q1, q2, q3, q4⟩ := K0.out W hW; go_simp; try with_reducible rfl)
  try (dsimp only); try simp only [Act.put, List.setIfInBounds_toArray, List.set_cons_zero, List.set_cons_succ]
  refine anyM_take (i := 6) (v := ?_) (by kernel_rfl) rfl (by kernel_rfl) (by kernel_rfl) (by kernel_rfl) (by kernel_rfl) (fun _ _ _ h => h) (by rfl) ?_ hSS ?_
  rotate_left
  ·(intro W hW; obtain ⟨q0, q1, q2, q3, q4⟩ := K0.out W hW; go_simp; try with_reducible rfl)
  try (dsimp only); try simp only [Act.put, List.setIfInBounds_toArray, List.set_cons_zero, List.set_cons_succ]
  refine anyM_take (i := 7) (v := ?_) (by kernel_rfl) rfl (by kernel_rfl) (by kernel_rfl) (by kernel_rfl) (by kernel_rfl) (fun _ _ _ h => h) (by rfl) ?_ hSS ?_
  rotate_left
  ·(intro W hW; obtain ⟨q0, q1, q2, q3, q4⟩ := K0.out W hW; go_simp; try with_reducible rfl)
  try (dsimp only); try simp only [Act.put, List.setIfInBounds_toArray, List.set_cons_zero, List.set_cons_succ]
  refine anyM_take (i := 8) (v := ?_) (by kernel_rfl) rfl (by kernel_rfl) (by kernel_rfl) (by kernel_rfl) (by kernel_rfl) (fun _ _ _ h => h) (by rfl) ?_ hSS ?_
  rotate_left
  ·(intro W hW; obtain ⟨q0, q1, q2, q3, q4⟩ := K0.out W hW; go_simp; try with_reducible rfl)
  try (dsimp only); try simp only [Act.put, List.setIfInBounds_toArray, List.set_cons_zero, List.set_cons_succ]
  refine anyM_take (i := 9) (v := ?_) (by kernel_rfl) rfl (by kernel_rfl) (by kernel_rfl) (by kernel_rfl) (by kernel_rfl) (fun _ _ _ h => h) (by rfl) ?_ hSS ?_
  rotate_left
  ·(intro W hW; obtain ⟨q0, q1, q2, q3, q4⟩ := K0.out W hW; go_simp; try with_reducible rfl)
  try (dsimp only); try simp only [Act.put, List.setIfInBounds_toArray, List.set_cons_zero, List.set_cons_succ]
  refine anyM_take (i := 10) (v := ?_) (by kernel_rfl) rfl (by kernel_rfl) (by kernel_rfl) (by kernel_rfl) (by kernel_rfl) (fun _ _ _ h => h) (by rfl) ?_ hSS ?_
  rotate_left
  ·(intro W hW; obtain ⟨q0, q1, q2, q3, q4⟩ := K0.out W hW; go_simp; try with_reducible rfl)
  try (dsimp only); try simp only [Act.put, List.setIfInBounds_toArray, List.set_cons_zero, List.set_cons_succ]
  refine anyM_take (i := 11) (v := ?_) (by kernel_rfl) rfl (by kernel_rfl) (by kernel_rfl) (by kernel_rfl) (by kernel_rfl) (fun _ _ _ h => h) (by rfl) ?_ hSS ?_
  rotate_left
  ·(intro W hW; obtain ⟨q0, q1, q2, q3, q4⟩ := K0.out W hW; go_simp; try with_reducible rfl)
  try (dsimp only); try simp only [Act.put, List.setIfInBounds_toArray, List.set_cons_zero, List.set_cons_succ]
  refine anyM_take (i := 12) (v := ?_) (by kernel_rfl) rfl (by kernel_rfl) (by kernel_rfl) (by kernel_rfl) (by kernel_rfl) (fun _ _ _ h => h) (by rfl) ?_ hSS ?_
  rotate_left
  ·(intro W hW; obtain ⟨q0, q1, q2, q3, q4⟩ := K0.out W hW; go_simp; try with_reducible rfl)
  try (dsimp only); try simp only [Act.put, List.setIfInBounds_toArray, List.set_cons_zero, List.set_cons_succ]
  refine anyM_take (i := 13) (v := ?_) (by kernel_rfl) rfl (by kernel_rfl) (by kernel_rfl) (by kernel_rfl) (by kernel_rfl) (fun _ _ _ h => h) (by rfl) ?_ hSS ?_
  rotate_left
  ·(intro W hW; obtain ⟨q0, q1, q2, q3, q4⟩ := K0.out W hW; go_simp; try with_reducible rfl)
  try (dsimp only); try simp only [Act.put, List.setIfInBounds_toArray, List.set_cons_zero, List.set_cons_succ]
  refine anyM_take (i := 15) (v := ?_) (by kernel_rfl) rfl (by kernel_rfl) (by kernel_rfl) (by kernel_rfl) (by kernel_rfl) (fun _ _ _ h => h) (by rfl) ?_ hSS ?_
  rotate_left
  ·(intro W hW; obtain ⟨q0, q1, q2, q3, q4⟩ := K0.out W hW; go_simp; try with_reducible rfl)
  try (dsimp only); try simp only [Act.put, List.setIfInBounds_toArray, List.set_cons_zero, List.set_cons_succ]
  refine anyM_take (i := 16) (v := ?_) (by kernel_rfl) rfl (by kernel_rfl) (by kernel_rfl) (by kernel_rfl) (by kernel_rfl) (fun _ _ _ h => h) (by rfl) ?_ hSS ?_
  rotate_left
  ·(intro W hW; obtain ⟨q0, q1, q2, q3, q4⟩ := K0.out W hW; go_simp; try with_reducible rfl)
  try (dsimp only); try simp only [Act.put, List.setIfInBounds_toArray, List.set_cons_zero, List.set_cons_succ]
  refine anyM_take (i := 17) (v := ?_) (by kernel_rfl) rfl (by kernel_rfl) (by kernel_rfl) (by kernel_rfl) (by kernel_rfl) (fun _ _ _ h => h) (by rfl) ?_ hSS ?_
  rotate_left
  ·(intro W hW; obtain ⟨q0, q1, q2, q3, q4⟩ := K0.out W hW; go_simp; try with_reducible rfl)
  try (dsimp only); try simp only [Act.put, List.setIfInBounds_toArray, List.set_cons_zero, List.set_cons_succ]
  refine anyM_call (i := 14) (f := 180) (args := #[.string (mkB a)]) rfl (by kernel_rfl) (by rfl) ?_ (number_good (mkB a) x (by rw [bl_mkB]; exact HA.out) _) ?_
  ·go_simp
  rintro e W1 ⟨rfl, hb1⟩
  have hb1' : Below w.heap.size w W1 := hbd.trans hb1
  refine .inl ⟨_, rfl, .inr (Keep.of_below' hb1'), ?_⟩
  try (dsimp only); try simp only [Act.put, List.setIfInBounds_toArray, List.set_cons_zero, List.set_cons_succ]
  refine anyM_call (i := 18) (f := 180) (args := #[.string (mkB b)]) rfl (by kernel_rfl) (by rfl) ?_ (number_good (mkB b) y (by rw [bl_mkB]; exact HB.out) _) ?_
  ·go_simp
  rintro e W2 ⟨rfl, hb2⟩
  have hb2' : Below w.heap.size w W2 := hb1'.trans (hb2.mono hb1'.size)
  have hz2 : base ≤ W2.heap.size := Nat.le_trans hbs hb2'.size
  refine .inl ⟨_, rfl, .inr (Keep.of_below' hb2'), ?_⟩
  try (dsimp only); try simp only [Act.put, List.setIfInBounds_toArray, List.set_cons_zero, List.set_cons_succ]
  refine anyM_run (i := 19) (v := .agg (typCells (newT n m x y))) (w' := W2) rfl (by kernel_rfl) (by rfl) ?_ (.inr (Keep.of_below' hb2')) ?_
  ·rw [newT_cells]; go_simp
  try (dsimp only); try simp only [Act.put, List.setIfInBounds_toArray, List.set_cons_zero, List.set_cons_succ]
  have hbs2 := run_bslice (P := Tryz.prog) (T := 22) Tryz.underlying22 info_typ2 (by omega) (by omega) (v := .agg (typCells (newT n m x y))) (g := typF (newT n m x y)) rfl W2
  obtain ⟨v', U, hrun, hown, hbU, hkU, hvb⟩ := app_fn (P := Tryz.prog) (TT := 22) Tryz.underlying22 info_typ rfl (by omega) (by omega) (ownsRow_keep HO.out (Keep.of_below' (K := fun _ => True) hb2') (fun _ _ => trivial)) (by omega) hz2 (typF (newT n m x y)) (fun j _ => typF_one _ _)
  have hkB : Keep (fun k => v.ownBlock ≠ some k) w U := (Keep.of_below' hb2').trans hkU
  refine anyM_run (i := 20) (v := .slice (some ⟨W2.heap.size, 0, none⟩) 1 1) (w' := W2.alloc (.cells (typCells (newT n m x y)) 71)) rfl (by kernel_rfl) (by rfl) ?_ (.inr ((Keep.of_below' hb2').alloc _)) ?_
  ·refine exec_bslice 22 _ _ rfl ?_
   simp only [List.map_toArray, List.map_cons, List.map_nil]
   exact hbs2
  try (dsimp only); try simp only [Act.put, List.setIfInBounds_toArray, List.set_cons_zero, List.set_cons_succ]
  refine anyM_run (i := 21) (v := v') (w' := U) rfl (by kernel_rfl) (by rfl) ?_ (.inr hkB) ?_
  ·refine exec_app (v := v) (u := .slice (some ⟨W2.heap.size, 0, none⟩) 1 1) _ _ 22 rfl (by rfl) (by rfl) ?_
   exact hrun
  try (dsimp only); try simp only [Act.put, List.setIfInBounds_toArray, List.set_cons_zero, List.set_cons_succ]
  refine anyM_run (i := 22) (v := .pointer (some ⟨rb, 0, none⟩)) (w' := U) rfl (by kernel_rfl) (by rfl) ?_ (.inr hkB) ?_
  ·go_simp
  try (dsimp only); try simp only [Act.put, List.setIfInBounds_toArray, List.set_cons_zero, List.set_cons_succ]
  refine anyM_run (i := 23) (v := .pointer (some ⟨rb, 0, none⟩)) (w' := U) rfl (by kernel_rfl) (by rfl) ?_ (.inr hkB) ?_
  ·go_simp
  try (dsimp only); try simp only [Act.put, List.setIfInBounds_toArray, List.set_cons_zero, List.set_cons_succ]
  have hRU : RdBox U rb v DD last := hkB.heap hro HR.out
  obtain ⟨r1, r2⟩ := hRU.rules
  obtain ⟨a', c', rfl, -, -⟩ := ownsRow_own hown
  refine anyM_skip (i := 24) (w' := U.setCell ⟨rb, 0, none⟩ (.slice a' (l.length + 1) c')) rfl (by kernel_rfl) (by rfl) ?_ (.inl (by decide)) ?_
  ·go_simp
  try (dsimp only); try simp only [Act.put, List.setIfInBounds_toArray, List.set_cons_zero, List.set_cons_succ]
  refine anyM_done (by kernel_rfl) ?_ _
  have hR2 : RdBox (U.setCell ⟨rb, 0, none⟩ (.slice a' (l.length + 1) c')) rb (.slice a' (l.length + 1) c') DD last := hRU.set_ 0 _
  obtain ⟨r3, r4⟩ := hR2.rules
  go_wp2_with fail
  go_end0
  have hR3 : RdBox _ rb _ 1 last := hR2.set_ 1 (.string (dueS 1))
  have hkA : ∀ A, Keep (fun k => base ≤ k) A ((A.setCell ⟨rb, 0, none⟩ (.slice a' (l.length + 1) c')).setCell ⟨rb, 1, none⟩ (.string (dueS 1))) := fun A => ((Keep.refl _ A).setCell (.inl (by simp; omega)) _).setCell (.inl (by simp; omega)) _
  refine ⟨rfl, _, hR3, ?_, fun k hk => (hvb k hk).imp id fun h => Nat.le_trans hb2'.size h, ?_⟩
  ·rw [typsV_app]
   exact ownsRow_keep hown (hkA U) fun k hk => hk
  ·exact ((hkB.mono fun k hk => hk.1).setCell (.inl (by simp)) _).setCell (.inl (by simp)) _
end Go.Proofs.YthpjffhccjlnhaaGreatDoor
namespace Go.Proofs.YthpjffhccjlnhaaGreatDoor
open Go.RowKit
attribute [local go_sem] Oper.semAt_some

theorem typsV_len (T : List Typ) : (typsV T).length = T.length * 32 := by
 induction T with
 | nil => rfl
 | cons t T ih =>
  have : typsV (t :: T) = (typCells t).toList ++ typsV T := rfl
  rw [this, List.length_append, ih, List.length_cons, Array.length_toList, typCells, fnCells_size]; omega
theorem typsV_set (T : List Typ) (t t' : Typ) (j : Nat) (u : Value) (h : (typCells t).toList.set j u = (typCells t').toList) : (typsV (T ++ [t])).set (T.length * 32 + j) u = typsV (T ++ [t']) := by
 rw [typsV_app, typsV_app, List.set_append_right _ _ (by rw [typsV_len]; omega), typsV_len, Nat.add_sub_cancel_left, h]
theorem need_at (W : World) : Calls Tryz.prog 128 #[.bool true] W fun e w' => e = .returned (.tuple #[]) ∧ Below W.heap.size W w' :=
 (need_good W).mono fun e w' h => ⟨h.1, h.2 ▸ Below.refl _ _⟩
set_option maxRecDepth 100000 in
set_option maxHeartbeats 4000000 in
theorem rim_good (rb sb base last : Nat) (v : Value) (T : List Typ) (t : Typ) (w0 x : List UInt8) (w : World) (hr : RdBox w rb v 1 last) (ho : w.ownsRow base 71 32 v (T.length + 1) (typsV (T ++ [t]))) (hw : WordsAt w sb [w0, x])
  (hx : classesB x = true) (hxl : x.length ≤ 1000000) (hl : T.length ≤ 100000) (hrb : rb < base) (hsb : v.ownBlock ≠ some sb) (hbs : base ≤ w.heap.size) :
  Calls Tryz.prog 157 #[.pointer (some ⟨rb, 0, none⟩), .slice (some ⟨sb, 0, none⟩) 2 2] w fun e w' => e = .returned (.tuple #[]) ∧ RdBox w' rb v 2 last ∧ w'.ownsRow base 71 32 v (T.length + 1) (typsV (T ++ [{ t with rim := mkB x }])) ∧ Keep (fun k => v.ownBlock ≠ some k ∧ k ≠ rb) w w' := by
 obtain ⟨g, cap, rfl⟩ := Go.Joins.ownsRow_form ho (by omega)
 have hg := (ho.lt g rfl).1
 have hrg : rb ≠ g := by omega
 have hsg : sb ≠ g := fun e => hsb (by rw [e]; rfl)
 obtain ⟨n, hn⟩ : ∃ n, T.length + 1 = n := ⟨_, rfl⟩
 rw [hn] at hr ho ⊢
 have c0 := hr.cell 0
 have c1 := hr.cell 1
 simp only [dueS] at c1
 have HR := Lib.hid hr
 have HO := Lib.hid ho
 have HW := Lib.hid hw
 have HX := Lib.hid hx
 have hwr : IntKind.i64.wrap ((n : Int) - 1) = (T.length : Int) := by rw [IntWalk.i64_in _ (by omega)]; omega
 have hlt : (T.length : Int) < (n : Int) := by omega
 have hlt2 : T.length < n := by omega
 have hge : (0 : Int) ≤ (T.length : Int) := by omega
 clear hr ho hw hx
 go_enter Tryz.func157, Tryz.ntmps157
 go_upto_region 1 with (go_at_call 128; refine (need_good _).mono ?_; rintro e w' ⟨rfl, rfl⟩)
 have hf : ∀ A, Keep (fun k => k ≠ g) w A → A.cell? ⟨rb, 0, none⟩ = some (.slice (some ⟨g, 0, none⟩) n cap) ∧ A.cell? ⟨sb, 1, none⟩ = some (.string (mkB x)) := fun A hA =>
  ⟨(Box.cell (hA.heap hrg HR.out) 0).trans rfl, (HW.out.keep hA hsg) 1 _ rfl⟩
 have K0 := Lib.hid hf
 clear hf c0 c1
 refine wp_region_M (fun A => Keep (fun k => k ≠ g) w A) 14 (by kernel_rfl) ?_
 have hbd : Below w.heap.size w w.drew := (Below.refl _ w).drew
 have hSS : Keep (fun k => k ≠ g) w w.drew := Keep.of_below' hbd
 refine anyM_take (i := 0) (v := ?_) (by kernel_rfl) rfl (by kernel_rfl) (by kernel_rfl) (by kernel_rfl) (by kernel_rfl) (fun _ _ _ h => h) (by rfl) ?_ hSS ?_
 rotate_left
 ·(intro W hW; obtain ⟨q0, q1⟩ := K0.out W hW; go_simp; try with_reducible rfl)
 try (dsimp only); try simp only [Act.put, List.setIfInBounds_toArray, List.set_cons_zero, List.set_cons_succ]
 refine anyM_take (i := 1) (v := ?_) (by kernel_rfl) rfl (by kernel_rfl) (by kernel_rfl) (by kernel_rfl) (by kernel_rfl) (fun _ _ _ h => h) (by rfl) ?_ hSS ?_
 rotate_left
 ·(intro W hW; obtain ⟨q0, q1⟩ := K0.out W hW; go_simp; try with_reducible rfl)
 try (dsimp only); try simp only [Act.put, List.setIfInBounds_toArray, List.set_cons_zero, List.set_cons_succ]
 refine anyM_take (i := 2) (v := ?_) (by kernel_rfl) rfl (by kernel_rfl) (by kernel_rfl) (by kernel_rfl) (by kernel_rfl) (fun _ _ _ h => h) (by rfl) ?_ hSS ?_
 rotate_left
 ·(intro W hW; obtain ⟨q0, q1⟩ := K0.out W hW; go_simp; try with_reducible rfl)
 try (dsimp only); try simp only [Act.put, List.setIfInBounds_toArray, List.set_cons_zero, List.set_cons_succ]
 refine anyM_take (i := 3) (v := ?_) (by kernel_rfl) rfl (by kernel_rfl) (by kernel_rfl) (by kernel_rfl) (by kernel_rfl) (fun _ _ _ h => h) (by rfl) ?_ hSS ?_
 rotate_left
 ·(intro W hW; obtain ⟨q0, q1⟩ := K0.out W hW; go_simp; try with_reducible rfl)
 try (dsimp only); try simp only [Act.put, List.setIfInBounds_toArray, List.set_cons_zero, List.set_cons_succ]
 refine anyM_take (i := 4) (v := ?_) (by kernel_rfl) rfl (by kernel_rfl) (by kernel_rfl) (by kernel_rfl) (by kernel_rfl) (fun _ _ _ h => h) (by rfl) ?_ hSS ?_
 rotate_left
 ·(intro W hW; obtain ⟨q0, q1⟩ := K0.out W hW; go_simp; try with_reducible rfl)
 try (dsimp only); try simp only [Act.put, List.setIfInBounds_toArray, List.set_cons_zero, List.set_cons_succ]
 refine anyM_take (i := 5) (v := ?_) (by kernel_rfl) rfl (by kernel_rfl) (by kernel_rfl) (by kernel_rfl) (by kernel_rfl) (fun _ _ _ h => h) (by rfl) ?_ hSS ?_
 rotate_left
 ·(intro W hW; obtain ⟨q0, q1⟩ := K0.out W hW; go_simp; try with_reducible rfl)
 try (dsimp only); try simp only [Act.put, List.setIfInBounds_toArray, List.set_cons_zero, List.set_cons_succ]
 refine anyM_take (i := 6) (v := ?_) (by kernel_rfl) rfl (by kernel_rfl) (by kernel_rfl) (by kernel_rfl) (by kernel_rfl) (fun _ _ _ h => h) (by rfl) ?_ hSS ?_
 rotate_left
 ·(intro W hW; obtain ⟨q0, q1⟩ := K0.out W hW; go_simp; try with_reducible rfl)
 try (dsimp only); try simp only [Act.put, List.setIfInBounds_toArray, List.set_cons_zero, List.set_cons_succ]
 refine anyM_take (i := 7) (v := ?_) (by kernel_rfl) rfl (by kernel_rfl) (by kernel_rfl) (by kernel_rfl) (by kernel_rfl) (fun _ _ _ h => h) (by rfl) ?_ hSS ?_
 rotate_left
 ·(intro W hW; obtain ⟨q0, q1⟩ := K0.out W hW; go_simp; try with_reducible rfl)
 try (dsimp only); try simp only [Act.put, List.setIfInBounds_toArray, List.set_cons_zero, List.set_cons_succ]
 refine anyM_take (i := 8) (v := ?_) (by kernel_rfl) rfl (by kernel_rfl) (by kernel_rfl) (by kernel_rfl) (by kernel_rfl) (fun _ _ _ h => h) (by rfl) ?_ hSS ?_
 rotate_left
 ·(intro W hW; obtain ⟨q0, q1⟩ := K0.out W hW; go_simp; try with_reducible rfl)
 try (dsimp only); try simp only [Act.put, List.setIfInBounds_toArray, List.set_cons_zero, List.set_cons_succ]
 refine anyM_take (i := 9) (v := .int .i64 T.length) (by kernel_rfl) rfl (by kernel_rfl) (by kernel_rfl) (by kernel_rfl) (by kernel_rfl) (fun _ _ _ h => h) (by rfl) ?_ hSS ?_
 ·intro W hW; go_simp
 try (dsimp only); try simp only [Act.put, List.setIfInBounds_toArray, List.set_cons_zero, List.set_cons_succ]
 refine anyM_take (i := 10) (v := ?_) (by kernel_rfl) rfl (by kernel_rfl) (by kernel_rfl) (by kernel_rfl) (by kernel_rfl) (fun _ _ _ h => h) (by rfl) ?_ hSS ?_
 rotate_left
 ·(intro W hW; obtain ⟨q0, q1⟩ := K0.out W hW; go_simp; try with_reducible rfl)
 try (dsimp only); try simp only [Act.put, List.setIfInBounds_toArray, List.set_cons_zero, List.set_cons_succ]
 refine anyM_take (i := 11) (v := ?_) (by kernel_rfl) rfl (by kernel_rfl) (by kernel_rfl) (by kernel_rfl) (by kernel_rfl) (fun _ _ _ h => h) (by rfl) ?_ hSS ?_
 rotate_left
 ·(intro W hW; obtain ⟨q0, q1⟩ := K0.out W hW; go_simp; try with_reducible rfl)
 try (dsimp only); try simp only [Act.put, List.setIfInBounds_toArray, List.set_cons_zero, List.set_cons_succ]
 refine anyM_take (i := 12) (v := ?_) (by kernel_rfl) rfl (by kernel_rfl) (by kernel_rfl) (by kernel_rfl) (by kernel_rfl) (fun _ _ _ h => h) (by rfl) ?_ hSS ?_
 rotate_left
 ·(intro W hW; obtain ⟨q0, q1⟩ := K0.out W hW; go_simp; try with_reducible rfl)
 try (dsimp only); try simp only [Act.put, List.setIfInBounds_toArray, List.set_cons_zero, List.set_cons_succ]
 refine anyM_call (i := 13) (f := 181) (args := #[.string (mkB x)]) rfl (by kernel_rfl) (by rfl) ?_ (letters_good (mkB x) (by rw [bl_mkB]; exact HX.out) (by rw [← bl_len, bl_mkB]; exact hxl) _) ?_
 ·go_simp
 rintro e W1 ⟨rfl, hb1⟩
 have hb1' : Below w.heap.size w W1 := hbd.trans hb1
 have hS1 : Keep (fun k => k ≠ g) w W1 := Keep.of_below' hb1'
 refine .inl ⟨_, rfl, .inr hS1, ?_⟩
 try (dsimp only); try simp only [Act.put, List.setIfInBounds_toArray, List.set_cons_zero, List.set_cons_succ]
 have hown := ownsRow_keep HO.out (Keep.of_below' (K := fun _ => True) hb1') (fun _ _ => trivial)
 refine anyM_run (i := 14) (v := .pointer (some ⟨g, T.length * 32, none⟩)) (w' := W1) rfl (by kernel_rfl) (by rfl) ?_ (.inr hS1) ?_
 ·go_simp
 try (dsimp only); try simp only [Act.put, List.setIfInBounds_toArray, List.set_cons_zero, List.set_cons_succ]
 refine anyM_run (i := 15) (v := .pointer (some ⟨g, T.length * 32 + 4, none⟩)) (w' := W1) rfl (by kernel_rfl) (by rfl) ?_ (.inr hS1) ?_
 ·go_simp
 try (dsimp only); try simp only [Act.put, List.setIfInBounds_toArray, List.set_cons_zero, List.set_cons_succ]
 have r1 := hown.cellAt (T.length * 32 + 4) (by omega)
 have r2 := hown.frozenAt (T.length * 32 + 4)
 obtain ⟨u0, hu0⟩ : ∃ u, (typsV (T ++ [t]))[T.length * 32 + 4]? = some u := ⟨_, List.getElem?_eq_getElem (by rw [typsV_len]; simp; omega)⟩
 rw [hu0] at r1
 have r1s : (W1.cell? ⟨g, T.length * 32 + 4, none⟩).isSome = true := by rw [r1]; rfl
 refine anyM_skip (i := 16) (w' := W1.setCell ⟨g, T.length * 32 + 4, none⟩ (.string (mkB x))) rfl (by kernel_rfl) (by rfl) ?_ (.inl (by decide)) ?_
 ·go_simp
 try (dsimp only); try simp only [Act.put, List.setIfInBounds_toArray, List.set_cons_zero, List.set_cons_succ]
 refine anyM_done (by kernel_rfl) ?_ _
 obtain ⟨hown2, -⟩ := hown.stored (T.length * 32 + 4) (.string (mkB x))
 have hS2 : Keep (fun k => k ≠ g) w (W1.setCell ⟨g, T.length * 32 + 4, none⟩ (.string (mkB x))) := hS1.setCell (.inl (by simp)) _
 have hR2 : RdBox (W1.setCell ⟨g, T.length * 32 + 4, none⟩ (.string (mkB x))) rb (.slice (some ⟨g, 0, none⟩) n cap) 1 last := hS2.heap hrg HR.out
 obtain ⟨r3, r4⟩ := hR2.rules
 go_wp2_with fail
 go_end0
 have hR3 : RdBox _ rb _ 2 last := hR2.set_ 1 (.string (dueS 2))
 have hkA : ∀ A, Keep (fun k => base ≤ k) A (A.setCell ⟨rb, 1, none⟩ (.string (dueS 2))) := fun A => (Keep.refl _ A).setCell (.inl (by simp; omega)) _
 refine ⟨rfl, hR3, ?_, (hS2.mono fun k hk e => hk.1 (by rw [e]; rfl)).setCell (.inl (by simp)) _⟩
 ·rw [typsV_set T t { t with rim := mkB x } 4 (.string (mkB x)) rfl] at hown2
  exact ownsRow_keep hown2 (hkA _) fun k hk => hk
set_option maxRecDepth 100000 in
set_option maxHeartbeats 4000000 in
theorem base_good (rb sb base last : Nat) (v : Value) (T : List Typ) (t : Typ) (w0 x : List UInt8) (w : World) (hr : RdBox w rb v 2 last) (ho : w.ownsRow base 71 32 v (T.length + 1) (typsV (T ++ [t]))) (hw : WordsAt w sb [w0, x])
  (hx : classesB x = true) (hxl : x.length ≤ 1000000) (hl : T.length ≤ 100000) (hrb : rb < base) (hsb : v.ownBlock ≠ some sb) (hbs : base ≤ w.heap.size) :
  Calls Tryz.prog 158 #[.pointer (some ⟨rb, 0, none⟩), .slice (some ⟨sb, 0, none⟩) 2 2] w fun e w' => e = .returned (.tuple #[]) ∧ RdBox w' rb v 3 0 ∧ w'.ownsRow base 71 32 v (T.length + 1) (typsV (T ++ [{ t with base := mkB x }])) ∧ Keep (fun k => v.ownBlock ≠ some k ∧ k ≠ rb) w w' := by
 obtain ⟨g, cap, rfl⟩ := Go.Joins.ownsRow_form ho (by omega)
 have hg := (ho.lt g rfl).1
 have hrg : rb ≠ g := by omega
 have hsg : sb ≠ g := fun e => hsb (by rw [e]; rfl)
 obtain ⟨n, hn⟩ : ∃ n, T.length + 1 = n := ⟨_, rfl⟩
 rw [hn] at hr ho ⊢
 have c0 := hr.cell 0
 have c1 := hr.cell 1
 simp only [dueS] at c1
 have HR := Lib.hid hr
 have HO := Lib.hid ho
 have HW := Lib.hid hw
 have HX := Lib.hid hx
 have hwr : IntKind.i64.wrap ((n : Int) - 1) = (T.length : Int) := by rw [IntWalk.i64_in _ (by omega)]; omega
 have hlt : (T.length : Int) < (n : Int) := by omega
 have hlt2 : T.length < n := by omega
 have hge : (0 : Int) ≤ (T.length : Int) := by omega
 clear hr ho hw hx
 go_enter Tryz.func158, Tryz.ntmps158
 go_upto_region 1 with (go_at_call 128; refine (need_good _).mono ?_; rintro e w' ⟨rfl, rfl⟩)
 have hf : ∀ A, Keep (fun k => k ≠ g) w A → A.cell? ⟨rb, 0, none⟩ = some (.slice (some ⟨g, 0, none⟩) n cap) ∧ A.cell? ⟨sb, 1, none⟩ = some (.string (mkB x)) := fun A hA =>
  ⟨(Box.cell (hA.heap hrg HR.out) 0).trans rfl, (HW.out.keep hA hsg) 1 _ rfl⟩
 have K0 := Lib.hid hf
 clear hf c0 c1
 refine wp_region_M (fun A => Keep (fun k => k ≠ g) w A) 14 (by kernel_rfl) ?_
 have hbd : Below w.heap.size w w.drew := (Below.refl _ w).drew
 have hSS : Keep (fun k => k ≠ g) w w.drew := Keep.of_below' hbd
 refine anyM_take (i := 0) (v := ?_) (by kernel_rfl) rfl (by kernel_rfl) (by kernel_rfl) (by kernel_rfl) (by kernel_rfl) (fun _ _ _ h => h) (by rfl) ?_ hSS ?_
 rotate_left
 ·(intro W hW; obtain ⟨q0, q1⟩ := K0.out W hW; go_simp; try with_reducible rfl)
 try (dsimp only); try simp only [Act.put, List.setIfInBounds_toArray, List.set_cons_zero, List.set_cons_succ]
 refine anyM_take (i := 1) (v := ?_) (by kernel_rfl) rfl (by kernel_rfl) (by kernel_rfl) (by kernel_rfl) (by kernel_rfl) (fun _ _ _ h => h) (by rfl) ?_ hSS ?_
 rotate_left
 ·(intro W hW; obtain ⟨q0, q1⟩ := K0.out W hW; go_simp; try with_reducible rfl)
 try (dsimp only); try simp only [Act.put, List.setIfInBounds_toArray, List.set_cons_zero, List.set_cons_succ]
 refine anyM_take (i := 2) (v := ?_) (by kernel_rfl) rfl (by kernel_rfl) (by kernel_rfl) (by kernel_rfl) (by kernel_rfl) (fun _ _ _ h => h) (by rfl) ?_ hSS ?_
 rotate_left
 ·(intro W hW; obtain ⟨q0, q1⟩ := K0.out W hW; go_simp; try with_reducible rfl)
 try (dsimp only); try simp only [Act.put, List.setIfInBounds_toArray, List.set_cons_zero, List.set_cons_succ]
 refine anyM_take (i := 3) (v := ?_) (by kernel_rfl) rfl (by kernel_rfl) (by kernel_rfl) (by kernel_rfl) (by kernel_rfl) (fun _ _ _ h => h) (by rfl) ?_ hSS ?_
 rotate_left
 ·(intro W hW; obtain ⟨q0, q1⟩ := K0.out W hW; go_simp; try with_reducible rfl)
 try (dsimp only); try simp only [Act.put, List.setIfInBounds_toArray, List.set_cons_zero, List.set_cons_succ]
 refine anyM_take (i := 4) (v := ?_) (by kernel_rfl) rfl (by kernel_rfl) (by kernel_rfl) (by kernel_rfl) (by kernel_rfl) (fun _ _ _ h => h) (by rfl) ?_ hSS ?_
 rotate_left
 ·(intro W hW; obtain ⟨q0, q1⟩ := K0.out W hW; go_simp; try with_reducible rfl)
 try (dsimp only); try simp only [Act.put, List.setIfInBounds_toArray, List.set_cons_zero, List.set_cons_succ]
 refine anyM_take (i := 5) (v := ?_) (by kernel_rfl) rfl (by kernel_rfl) (by kernel_rfl) (by kernel_rfl) (by kernel_rfl) (fun _ _ _ h => h) (by rfl) ?_ hSS ?_
 rotate_left
 ·(intro W hW; obtain ⟨q0, q1⟩ := K0.out W hW; go_simp; try with_reducible rfl)
 try (dsimp only); try simp only [Act.put, List.setIfInBounds_toArray, List.set_cons_zero, List.set_cons_succ]
 refine anyM_take (i := 6) (v := ?_) (by kernel_rfl) rfl (by kernel_rfl) (by kernel_rfl) (by kernel_rfl) (by kernel_rfl) (fun _ _ _ h => h) (by rfl) ?_ hSS ?_
 rotate_left
 ·(intro W hW; obtain ⟨q0, q1⟩ := K0.out W hW; go_simp; try with_reducible rfl)
 try (dsimp only); try simp only [Act.put, List.setIfInBounds_toArray, List.set_cons_zero, List.set_cons_succ]
 refine anyM_take (i := 7) (v := ?_) (by kernel_rfl) rfl (by kernel_rfl) (by kernel_rfl) (by kernel_rfl) (by kernel_rfl) (fun _ _ _ h => h) (by rfl) ?_ hSS ?_
 rotate_left
 ·(intro W hW; obtain ⟨q0, q1⟩ := K0.out W hW; go_simp; try with_reducible rfl)
 try (dsimp only); try simp only [Act.put, List.setIfInBounds_toArray, List.set_cons_zero, List.set_cons_succ]
 refine anyM_take (i := 8) (v := ?_) (by kernel_rfl) rfl (by kernel_rfl) (by kernel_rfl) (by kernel_rfl) (by kernel_rfl) (fun _ _ _ h => h) (by rfl) ?_ hSS ?_
 rotate_left
 ·(intro W hW; obtain ⟨q0, q1⟩ := K0.out W hW; go_simp; try with_reducible rfl)
 try (dsimp only); try simp only [Act.put, List.setIfInBounds_toArray, List.set_cons_zero, List.set_cons_succ]
 refine anyM_take (i := 9) (v := .int .i64 T.length) (by kernel_rfl) rfl (by kernel_rfl) (by kernel_rfl) (by kernel_rfl) (by kernel_rfl) (fun _ _ _ h => h) (by rfl) ?_ hSS ?_
 ·intro W hW; go_simp
 try (dsimp only); try simp only [Act.put, List.setIfInBounds_toArray, List.set_cons_zero, List.set_cons_succ]
 refine anyM_take (i := 10) (v := ?_) (by kernel_rfl) rfl (by kernel_rfl) (by kernel_rfl) (by kernel_rfl) (by kernel_rfl) (fun _ _ _ h => h) (by rfl) ?_ hSS ?_
 rotate_left
 ·(intro W hW; obtain ⟨q0, q1⟩ := K0.out W hW; go_simp; try with_reducible rfl)
 try (dsimp only); try simp only [Act.put, List.setIfInBounds_toArray, List.set_cons_zero, List.set_cons_succ]
 refine anyM_take (i := 11) (v := ?_) (by kernel_rfl) rfl (by kernel_rfl) (by kernel_rfl) (by kernel_rfl) (by kernel_rfl) (fun _ _ _ h => h) (by rfl) ?_ hSS ?_
 rotate_left
 ·(intro W hW; obtain ⟨q0, q1⟩ := K0.out W hW; go_simp; try with_reducible rfl)
 try (dsimp only); try simp only [Act.put, List.setIfInBounds_toArray, List.set_cons_zero, List.set_cons_succ]
 refine anyM_take (i := 12) (v := ?_) (by kernel_rfl) rfl (by kernel_rfl) (by kernel_rfl) (by kernel_rfl) (by kernel_rfl) (fun _ _ _ h => h) (by rfl) ?_ hSS ?_
 rotate_left
 ·(intro W hW; obtain ⟨q0, q1⟩ := K0.out W hW; go_simp; try with_reducible rfl)
 try (dsimp only); try simp only [Act.put, List.setIfInBounds_toArray, List.set_cons_zero, List.set_cons_succ]
 refine anyM_call (i := 13) (f := 181) (args := #[.string (mkB x)]) rfl (by kernel_rfl) (by rfl) ?_ (letters_good (mkB x) (by rw [bl_mkB]; exact HX.out) (by rw [← bl_len, bl_mkB]; exact hxl) _) ?_
 ·go_simp
 rintro e W1 ⟨rfl, hb1⟩
 have hb1' : Below w.heap.size w W1 := hbd.trans hb1
 have hS1 : Keep (fun k => k ≠ g) w W1 := Keep.of_below' hb1'
 refine .inl ⟨_, rfl, .inr hS1, ?_⟩
 try (dsimp only); try simp only [Act.put, List.setIfInBounds_toArray, List.set_cons_zero, List.set_cons_succ]
 have hown := ownsRow_keep HO.out (Keep.of_below' (K := fun _ => True) hb1') (fun _ _ => trivial)
 refine anyM_run (i := 14) (v := .pointer (some ⟨g, T.length * 32, none⟩)) (w' := W1) rfl (by kernel_rfl) (by rfl) ?_ (.inr hS1) ?_
 ·go_simp
 try (dsimp only); try simp only [Act.put, List.setIfInBounds_toArray, List.set_cons_zero, List.set_cons_succ]
 refine anyM_run (i := 15) (v := .pointer (some ⟨g, T.length * 32 + 5, none⟩)) (w' := W1) rfl (by kernel_rfl) (by rfl) ?_ (.inr hS1) ?_
 ·go_simp
 try (dsimp only); try simp only [Act.put, List.setIfInBounds_toArray, List.set_cons_zero, List.set_cons_succ]
 have r1 := hown.cellAt (T.length * 32 + 5) (by omega)
 have r2 := hown.frozenAt (T.length * 32 + 5)
 obtain ⟨u0, hu0⟩ : ∃ u, (typsV (T ++ [t]))[T.length * 32 + 5]? = some u := ⟨_, List.getElem?_eq_getElem (by rw [typsV_len]; simp; omega)⟩
 rw [hu0] at r1
 have r1s : (W1.cell? ⟨g, T.length * 32 + 5, none⟩).isSome = true := by rw [r1]; rfl
 refine anyM_skip (i := 16) (w' := W1.setCell ⟨g, T.length * 32 + 5, none⟩ (.string (mkB x))) rfl (by kernel_rfl) (by rfl) ?_ (.inl (by decide)) ?_
 ·go_simp
 try (dsimp only); try simp only [Act.put, List.setIfInBounds_toArray, List.set_cons_zero, List.set_cons_succ]
 refine anyM_done (by kernel_rfl) ?_ _
 obtain ⟨hown2, -⟩ := hown.stored (T.length * 32 + 5) (.string (mkB x))
 have hS2 : Keep (fun k => k ≠ g) w (W1.setCell ⟨g, T.length * 32 + 5, none⟩ (.string (mkB x))) := hS1.setCell (.inl (by simp)) _
 have hR2 : RdBox (W1.setCell ⟨g, T.length * 32 + 5, none⟩ (.string (mkB x))) rb (.slice (some ⟨g, 0, none⟩) n cap) 2 last := hS2.heap hrg HR.out
 obtain ⟨r3, r4⟩ := hR2.rules
 go_wp2_with fail
 go_end0
 have hR3 : RdBox _ rb _ 3 last := hR2.set_ 1 (.string (dueS 3))
 have hR4 : RdBox _ rb _ 3 0 := hR3.set_ 2 (.int .u8 (0 : Nat))
 have hkA : ∀ A, Keep (fun k => base ≤ k) A ((A.setCell ⟨rb, 1, none⟩ (.string (dueS 3))).setCell ⟨rb, 2, none⟩ (.int .u8 (0 : Nat))) := fun A => ((Keep.refl _ A).setCell (.inl (by simp; omega)) _).setCell (.inl (by simp; omega)) _
 refine ⟨rfl, hR4, ?_, ((hS2.mono fun k hk e => hk.1 (by rw [e]; rfl)).setCell (.inl (by simp)) _).setCell (.inl (by simp)) _⟩
 ·rw [typsV_set T t { t with base := mkB x } 5 (.string (mkB x)) rfl] at hown2
  exact ownsRow_keep hown2 (hkA _) fun k hk => hk
end Go.Proofs.YthpjffhccjlnhaaGreatDoor
