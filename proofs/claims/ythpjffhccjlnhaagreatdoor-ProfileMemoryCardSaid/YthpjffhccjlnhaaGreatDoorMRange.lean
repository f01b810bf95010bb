/- A range over a function, for iterators that keep memory of their own: what the iterator promises, what a round owes, the law of the statement. No condition. -/
/- The law of the range over a function, where a round lays its variables anew. No condition. -/
/- The law of the range over a function, where the body is told of its record; the law within a round of another loop. No condition. -/
/- The law of the range over a function, for iterators that write nothing of what lies; what a round may write hangs on the world. No condition. -/
import Derived.RangeFuncNested
import Derived.RangeFuncBound
import Derived.RangeFuncCalls
import Derived.RangeFuncLeaves
import Derived.RangeFuncRecord
import Derived.WalkKit
import Derived.OwnWalkIn
import Derived.TacticsInMore
import Derived.LoopNIn
import Derived.LoopIn
import Derived.Scope
import Derived.WalkMore
set_option linter.unusedSimpArgs false
set_option linter.unusedVariables false
namespace Go.Proofs.YthpjffhccjlnhaaGreatDoor
open Go.RowKit

/-- the blocks of K are as they were; the streams are as they were; no block has gone -/
structure Keep (K : Nat → Prop) (W W' : World) : Prop where
 os : W'.os = W.os
 tape : W'.tape = W.tape
 output : W'.output = W.output
 size : W.heap.size ≤ W'.heap.size
 block : ∀ k, K k → k < W.heap.size → W'.heap[k]? = W.heap[k]?

theorem Keep.refl (K : Nat → Prop) (W : World) : Keep K W W := ⟨rfl, rfl, rfl, Nat.le_refl _, fun _ _ _ => rfl⟩
theorem Keep.trans {K : Nat → Prop} {A B C : World} (h : Keep K A B) (k : Keep K B C) : Keep K A C :=
 ⟨k.os.trans h.os, k.tape.trans h.tape, k.output.trans h.output, Nat.le_trans h.size k.size, fun i hi hl => (k.block i hi (Nat.lt_of_lt_of_le hl h.size)).trans (h.block i hi hl)⟩
theorem Keep.mono {K K' : Nat → Prop} {A B : World} (h : Keep K A B) (hk : ∀ i, K' i → K i) : Keep K' A B := ⟨h.os, h.tape, h.output, h.size, fun i hi hl => h.block i (hk i hi) hl⟩
theorem Keep.of_below {K : Nat → Prop} {B : Nat} {A C : World} (h : Below B A C) (hk : ∀ i, K i → i < A.heap.size → i < B) : Keep K A C := ⟨h.os, h.tape, h.output, h.size, fun i hi hl => h.block i (hk i hi hl)⟩
theorem Keep.of_below' {K : Nat → Prop} {A C : World} (h : Below A.heap.size A C) : Keep K A C := Keep.of_below h fun _ _ hl => hl
theorem Keep.below {B : Nat} {A C : World} (h : Keep (fun k => k < B) A C) (hB : B ≤ A.heap.size) : Below B A C := ⟨h.os, h.tape, h.output, h.size, fun k hk => h.block k hk (by omega)⟩
theorem Keep.alloc {K : Nat → Prop} {A B : World} (h : Keep K A B) (o : Obj) : Keep K A (B.alloc o) := h.trans (Keep.of_below' ((Below.refl _ B).alloc (Nat.le_refl _) o))
theorem Keep.drew {K : Nat → Prop} {A B : World} (h : Keep K A B) : Keep K A B.drew := ⟨h.os, h.tape, h.output, h.size, h.block⟩
theorem Keep.setCell {K : Nat → Prop} {A B : World} (h : Keep K A B) {p : Addr} (hp : ¬ K p.block ∨ A.heap.size ≤ p.block) (u : Value) : Keep K A (B.setCell p u) :=
 ⟨h.os, h.tape, h.output, by simpa [World.setCell] using h.size, fun k hk hl => (Below.heap_setCell B p u k (fun e => by subst e; rcases hp with hp | hp; exact hp hk; omega)).trans (h.block k hk hl)⟩
theorem Keep.grown {K : Nat → Prop} {A B C : World} {row : Option Nat} (h : Keep K A B) (hg : B.grownBy C row) (hr : ∀ k, row = some k → ¬ K k ∨ A.heap.size ≤ k) : Keep K A C :=
 ⟨hg.os.trans h.os, hg.tape.trans h.tape, hg.output.trans h.output, Nat.le_trans h.size hg.size, fun k hk hl =>
  (hg.block k (Nat.lt_of_lt_of_le hl h.size) (fun e => by rcases hr k e.symm with h1 | h1; exact h1 hk; omega)).trans (h.block k hk hl)⟩
theorem Keep.putObj {K : Nat → Prop} {A B : World} (h : Keep K A B) {r : Nat} (hr : ¬ K r) (o : Obj) : Keep K A (B.putObj r o) :=
 ⟨h.os, h.tape, h.output, by simpa using h.size, fun k hk hl => (World.putObj_heap_other (fun e => by subst e; exact hr hk)).trans (h.block k hk hl)⟩
theorem Keep.cell {K : Nat → Prop} {A B : World} (h : Keep K A B) {b o : Nat} {v : Value} (hK : K b) (hc : A.cell? ⟨b, o, none⟩ = some v) : B.cell? ⟨b, o, none⟩ = some v := by
 have hl : b < A.heap.size := by
  rcases Nat.lt_or_ge b A.heap.size with h0 | h0
  ·exact h0
  ·simp [World.cell?, Array.getElem?_eq_none h0] at hc
 exact (World.cell?_of_block (w := A) (a := ⟨b, o, none⟩) (h.block b hK hl)).trans hc
theorem Keep.heap {K : Nat → Prop} {A B : World} (h : Keep K A B) {b : Nat} {o : Obj} (hK : K b) (hc : A.heap[b]? = some o) : B.heap[b]? = some o := (h.block b hK (Array.getElem?_eq_some_iff.1 hc).1).trans hc

@[go_sem] theorem wide_depth : Fence.wide.depth = none := rfl
@[go_sem] theorem wide_fn (f : Nat) : Fence.wide.fn f = True := rfl
/-! a scope without a goto, inside a fence -/
theorem stepR_scope {P : Program} {b : Frame} {a : Act} {k : List Item} {cs : List Frame} {w : World} {c : Code} : step P (lone (b.atR a (.code (.scope c) :: k)) cs w) = .next (lone (b.atR a (.code c :: .inScope c :: k)) cs w) :=
 step_lone_go (by simp [stepG, stepG.exec, Frame.atR])
theorem stepR_inScope {P : Program} {b : Frame} {a : Act} {k : List Item} {cs : List Frame} {w : World} {c : Code} : step P (lone (b.atR a (.inScope c :: k)) cs w) = .next (lone (b.atR a k) cs w) :=
 step_lone_go (by simp [stepG, stepG.exec, Frame.atR])
theorem wpIn_scope {P : Program} {F : Fence} {n : Nat} {Q : Exit → Act → World → Prop} {a : Act} {w : World} {c : Code} (h : c.wpIn F n P (Exit.noGoto Q) a w) : (Code.scope c).wpIn F n P Q a w := by
 intro b k cs hro hb hr
 have h0 : (lone (b.atR a (.code (.scope c) :: k)) cs w).fenced P F := fenced_calm hb hr rfl
 obtain ⟨e, a₁, w₁, hq, harr⟩ := h b (.inScope c :: k) cs hro hb hr
 cases e with
 | normal => exact ⟨.normal, a₁, w₁, hq, .head h0 stepR_scope (StepsIn.trans harr (.one (fenced_calm hb hr rfl) stepR_inScope))⟩
 | exit id =>
  have hx : exitTo id (.inScope c :: k) = exitTo id k := by simp [exitTo]
  exact ⟨.exit id, a₁, w₁, hq, fun k' hk => .head h0 stepR_scope (harr.1 k' (by rw [hx]; exact hk)),
   fun hr' hk => let ⟨k₁, h1, h2⟩ := harr.2 hr' (by rw [hx]; exact hk); ⟨k₁, h1, .head h0 stepR_scope h2⟩⟩
 | goto l => exact hq.elim
 | ret => exact ⟨_, a₁, w₁, hq, .of_steps (.one h0 stepR_scope) harr⟩
 | panic ch => exact ⟨_, a₁, w₁, hq, .of_steps (.one h0 stepR_scope) harr⟩
 | outgrown => exact ⟨_, a₁, w₁, hq, .of_steps (.one h0 stepR_scope) harr⟩

variable {P : Program}

/-- WHAT AN ITERATOR GIVES: xs, one after the other; its own blocks are those of Z; a round that goes on keeps them and what lay below n0. -/
def Gives {α : Type} (P : Program) (gf : Nat) (lb : Array Value) (Z : Nat → Prop) (n0 : Nat) (Rd : α → Array Value → World → Prop) (xs : List α) (W : World) : Prop :=
 ∀ (l : Nat) (J Jx : List α → World → Prop), (∀ s A B, J s A → Keep (fun k => ¬ Z k) A B → J s B) → (∀ s A B, Jx s A → Keep (fun k => ¬ Z k) A B → Jx s B) →
  (∀ pre x args W1, J pre W1 → Rd x args W1 → (pre ++ [x]) <+: xs → YieldAt Fence.wide 0 P l args W1 fun e W' =>
   (e = .returned (.bool true) ∧ J (pre ++ [x]) W' ∧ Keep (fun k => k < n0 ∨ Z k) W1 W') ∨ (e = .returned (.bool false) ∧ Jx (pre ++ [x]) W')) →
  J [] W →
  CallsIn Fence.wide 0 P gf (#[.func (.yield l) #[] #[]] ++ lb) W fun e W' => (∃ v, e = .returned v) ∧ (J xs W' ∨ ∃ pre, pre <+: xs ∧ Jx pre W')

/-- how a round's body may be left -/
def roundEnds {α : Type} (K : Nat → Prop) (I : List α → World → Prop) (Ix : Code → List α → World → Prop) (xs : List α) (W : World) : Exit → Act → World → Prop
 | .normal, _, W' => Keep K W W' ∧ I xs W'
 | .ret, _, W' => Keep K W W' ∧ Ix .ret xs W'
 | .exit id, _, W' => Keep K W W' ∧ Ix (.exit id) xs W'
 | .goto t, _, W' => Keep K W W' ∧ Ix (.goto t) xs W'
 | .panic _, _, _ => False
 | .outgrown, _, _ => False

/-- THE LAW, at an outermost loop. -/
theorem wpIn_range {α : Type} {g : Operand} {ps : Array Tmp} {assign body : Code} {Q : Exit → Act → World → Prop} {a : Act} {w : World}
  {gf : Nat} {lb : Array Value} (hg : a.eval g = .func (.func gf) #[] lb) (eg : ∀ args w, (callFunc gf args).run P w = .ok (.enter gf args) w)
  {Z : Nat → Prop} {n0 : Nat} {Rd : α → Array Value → World → Prop} {xs : List α} (hgives : ∀ o1 o2 : Obj, Gives P gf lb Z n0 Rd xs ((w.alloc o1).alloc o2))
  (hZ : ∀ k, Z k → k ≠ w.heap.size ∧ k ≠ w.heap.size + 1) (hn0 : n0 ≤ w.heap.size)
  (hps : ∀ x args W, Rd x args W → args.size = ps.size) (hRd : ∀ x args A B, Rd x args A → Keep (fun k => k ≠ w.heap.size ∧ k ≠ w.heap.size + 1) A B → Rd x args B)
  (I : List α → World → Prop) (Ix : Code → List α → World → Prop)
  (hI : ∀ s A B, I s A → Keep (fun k => ¬ Z k ∧ k ≠ w.heap.size ∧ k ≠ w.heap.size + 1) A B → I s B)
  (hIx : ∀ c s A B, Ix c s A → Keep (fun k => ¬ Z k ∧ k ≠ w.heap.size ∧ k ≠ w.heap.size + 1) A B → Ix c s B)
  (h0 : I [] w) (a₁ : Array Value → Act)
  (hassign : ∀ (l : Nat) (x : α) (args : Array Value) (W : World) (K : Act → World → Prop), Rd x args W → K (a₁ args) W →
   assign.wpIn (Fence.wide.inRound l) 0 P (Exit.then K (fun _ _ _ => False)) { tmps := (ps.zip args).foldl (fun t (p, v) => t.setIfInBounds p v) a.tmps, defers := [] } W)
  (hbody : ∀ (l : Nat) (pre : List α) (x : α) (args : Array Value) (W : World), I pre W → Rd x args W → (pre ++ [x]) <+: xs → w.heap.size + 1 < W.heap.size →
   body.wpIn (Fence.wide.inRound l) 0 P (roundEnds (fun k => k < n0 ∨ Z k ∨ k = w.heap.size ∨ k = w.heap.size + 1) I Ix (pre ++ [x]) W) (a₁ args) W)
  (hdone : ∀ (W : World), I xs W → W.heap[w.heap.size]? = some (.deferred (some [])) → Q .normal { a with defers := { target := .collected w.heap.size, args := #[] } :: a.defers } W)
  (hstop : ∀ (c : Code) (pre : List α) (W : World), pre <+: xs → Ix c pre W → W.heap[w.heap.size]? = some (.deferred (some [])) → c.wpIn Fence.wide 0 P Q { a with defers := { target := .collected w.heap.size, args := #[] } :: a.defers } W) :
  (Code.rangeFunc g ps assign body).wpIn Fence.wide 0 P Q a w := by
 refine wpIn_rangeFunc ?_
 intro fn hfn
 obtain ⟨rec, hrec⟩ : ∃ rec : LoopState → Option Code → Loop, rec = fun st pe => { state := st, pending := pe, fn, tmps := a.tmps, params := ps, assign, body, defers := w.heap.size } := ⟨_, rfl⟩
 obtain ⟨W1, hW1⟩ : ∃ W1, (w.alloc (.deferred (some []))).alloc (.loop (rec .ready none)) = W1 := ⟨_, rfl⟩
 have hgv := hgives (.deferred (some [])) (.loop (rec .ready none))
 rw [hW1] at hgv
 have hL1 : W1.heap[w.heap.size + 1]? = some (.loop (rec .ready none)) := by
  rw [← hW1]; have := World.alloc_heap_new (w.alloc (.deferred (some []))) (.loop (rec .ready none)); rwa [World.size_alloc] at this
 have hK1 : W1.heap[w.heap.size]? = some (.deferred (some [])) := by
  rw [← hW1]; exact (Below.heap_alloc _ _ _ (by simp)).trans (World.alloc_heap_new w _)
 have hI1 : I [] W1 := by
  rw [← hW1]
  exact hI [] w _ h0 (((Keep.refl _ w).alloc _).alloc _)
 refine ⟨w.heap.size + 1, [{ target := .collected w.heap.size, args := #[] }], W1, { target := .fn (.func gf) lb, args := #[.func (.yield (w.heap.size + 1)) #[] #[]] }, W1, gf,
  #[.func (.yield (w.heap.size + 1)) #[] #[]] ++ lb, W1, ?_, ?_, ?_, ?_, ?_, ?_⟩
 ·rw [← hW1, hrec]; exact run_enterLoop_outer _ _ _ _ _
 ·simp only [resolve, hg]
  simp [go_sem]
 ·intro f' _; trivial
 ·simp [invoke, go_sem, eg]
 ·simp [Fence.wide]
 ·refine (hgv (w.heap.size + 1)
   (fun pre W => I pre W ∧ W.heap[w.heap.size + 1]? = some (.loop (rec .ready none)) ∧ W.heap[w.heap.size]? = some (.deferred (some [])))
   (fun pre W => ∃ c, Ix c pre W ∧ W.heap[w.heap.size + 1]? = some (.loop (rec .done (some c))) ∧ W.heap[w.heap.size]? = some (.deferred (some [])))
   (fun s A B hs hk => ⟨hI s A B hs.1 (hk.mono fun i hi => hi.1), hk.heap (fun hz => (hZ _ hz).2 rfl) hs.2.1, hk.heap (fun hz => (hZ _ hz).1 rfl) hs.2.2⟩)
   (fun s A B hs hk => by
    obtain ⟨c, hc, hl, hd⟩ := hs
    exact ⟨c, hIx c s A B hc (hk.mono fun i hi => hi.1), hk.heap (fun hz => (hZ _ hz).2 rfl) hl, hk.heap (fun hz => (hZ _ hz).1 rfl) hd⟩)
   ?_ ⟨hI1, hL1, hK1⟩).mono ?_
  ·-- one round
   rintro pre x args W ⟨hi, hl, hk⟩ hrd hpre
   have hlt : w.heap.size + 1 < W.heap.size := (Array.getElem?_eq_some_iff.1 hl).1
   have hy := run_yield (P := P) (args := args) hl (by rw [hrec]; exact hps x args W hrd)
   rw [hrec] at hy
   refine ⟨fn, _, assign, body, hy, roundIn_of_wpIn hfn (hassign _ x args W _ hrd ⟨_, run_beginRound hl (by rw [hrec]), ?_⟩)⟩
   have hl2 : (W.putObj (w.heap.size + 1) (.loop { rec .ready none with state := .busy })).heap[w.heap.size + 1]? = some (.loop { rec .ready none with state := .busy }) := World.putObj_heap_same hlt
   have hk2 : (W.putObj (w.heap.size + 1) (.loop { rec .ready none with state := .busy })).heap[w.heap.size]? = some (.deferred (some [])) := (World.putObj_heap_other (by omega)).trans hk
   have hI2 : I pre (W.putObj (w.heap.size + 1) (.loop { rec .ready none with state := .busy })) := hI _ _ _ hi ((Keep.refl _ W).putObj (fun h => h.2.2 rfl) _)
   have hR2 : Rd x args (W.putObj (w.heap.size + 1) (.loop { rec .ready none with state := .busy })) := hRd _ _ _ _ hrd ((Keep.refl _ W).putObj (fun h => h.2 rfl) _)
   refine wpIn_mono (hbody _ pre x args _ hI2 hR2 hpre (by simpa using hlt)) ?_
   -- the record behind the body, and behind endRound
   have fin : ∀ (jump : Option Code) (W3 : World), Keep (fun k => k < n0 ∨ Z k ∨ k = w.heap.size ∨ k = w.heap.size + 1) (W.putObj (w.heap.size + 1) (.loop { rec .ready none with state := .busy })) W3 →
     (Instr.endRound (w.heap.size + 1) jump).run P W3 = .ok (.bool jump.isNone) (W3.putObj (w.heap.size + 1) (.loop (rec (if jump.isNone then .ready else .done) jump))) ∧
     (W3.putObj (w.heap.size + 1) (.loop (rec (if jump.isNone then .ready else .done) jump))).heap[w.heap.size + 1]? = some (.loop (rec (if jump.isNone then .ready else .done) jump)) ∧
     (W3.putObj (w.heap.size + 1) (.loop (rec (if jump.isNone then .ready else .done) jump))).heap[w.heap.size]? = some (.deferred (some [])) := fun jump W3 hk3 => by
    have hl3 := hk3.heap (.inr (.inr (.inr rfl))) hl2
    have := run_endRound (P := P) jump hl3
    rw [hrec] at this ⊢
    exact ⟨this, World.putObj_heap_same (Array.getElem?_eq_some_iff.1 hl3).1, (World.putObj_heap_other (by omega)).trans (hk3.heap (.inr (.inr (.inl rfl))) hk2)⟩
   have put3 : ∀ (W3 : World) (o : Obj) (s : List α), I s W3 → I s (W3.putObj (w.heap.size + 1) o) := fun W3 o s hi3 => hI _ _ _ hi3 ((Keep.refl _ W3).putObj (fun h => h.2.2 rfl) _)
   have put4 : ∀ (c : Code) (W3 : World) (o : Obj) (s : List α), Ix c s W3 → Ix c s (W3.putObj (w.heap.size + 1) o) := fun c W3 o s hi3 => hIx _ _ _ _ hi3 ((Keep.refl _ W3).putObj (fun h => h.2.2 rfl) _)
   rintro e a3 W3 hp
   cases e with
   | normal =>
    obtain ⟨hk3, hi3⟩ := hp
    obtain ⟨hr, hl4, hk4⟩ := fin none W3 hk3
    refine ⟨_, _, hr, .inl ⟨rfl, ⟨put3 _ _ _ hi3, hl4, hk4⟩, ?_⟩⟩
    -- what the iterator relies on: everything but the record lies as it lay; n0 is below the record, Z does not hold it
    have h1 : Keep (fun k => k < n0 ∨ Z k) W (W.putObj (w.heap.size + 1) (.loop { rec .ready none with state := .busy })) := (Keep.refl _ W).putObj (fun h => by rcases h with h | h; omega; exact (hZ _ h).2 rfl) _
    exact (h1.trans (hk3.mono fun i hi => hi.elim .inl (fun h => .inr (.inl h)))).putObj (fun h => by rcases h with h | h; omega; exact (hZ _ h).2 rfl) _
   | ret =>
    obtain ⟨hk3, hi3⟩ := hp
    obtain ⟨hr, hl4, hk4⟩ := fin (some .ret) W3 hk3
    exact ⟨_, _, hr, .inr ⟨rfl, .ret, put4 _ _ _ _ hi3, hl4, hk4⟩⟩
   | exit id =>
    obtain ⟨hk3, hi3⟩ := hp
    obtain ⟨hr, hl4, hk4⟩ := fin (some (.exit id)) W3 hk3
    exact ⟨_, _, hr, .inr ⟨rfl, .exit id, put4 _ _ _ _ hi3, hl4, hk4⟩⟩
   | goto t =>
    obtain ⟨hk3, hi3⟩ := hp
    obtain ⟨hr, hl4, hk4⟩ := fin (some (.goto t)) W3 hk3
    exact ⟨_, _, hr, .inr ⟨rfl, .goto t, put4 _ _ _ _ hi3, hl4, hk4⟩⟩
   | panic ch => exact hp.elim
   | outgrown => exact hp.elim
  ·-- behind the iterator
   rintro e W2 ⟨⟨v, rfl⟩, (⟨hi, hl, hk⟩ | ⟨pre, hpre, c, hi, hl, hk⟩)⟩
   ·exact ⟨none, _, by have := run_endLoop (P := P) hl (by rw [hrec]; simp); rw [hrec] at this; exact this, hdone _ (hI _ _ _ hi ((Keep.refl _ W2).putObj (fun h => h.2.2 rfl) _)) ((World.putObj_heap_other (by omega)).trans hk)⟩
   ·exact ⟨some c, _, by have := run_endLoop (P := P) hl (by rw [hrec]; simp); rw [hrec] at this; exact this, hstop c pre _ hpre (hIx _ _ _ _ hi ((Keep.refl _ W2).putObj (fun h => h.2.2 rfl) _)) ((World.putObj_heap_other (by omega)).trans hk)⟩

end Go.Proofs.YthpjffhccjlnhaaGreatDoor
namespace Go.Proofs.YthpjffhccjlnhaaGreatDoor
open Go.RowKit
variable {P : Program}

/-- THE LAW, where the variables of a round are laid anew each time. -/
theorem wpIn_range2 {α : Type} {g : Operand} {ps : Array Tmp} {assign body : Code} {Q : Exit → Act → World → Prop} {a : Act} {w : World}
  {gf : Nat} {lb : Array Value} (hg : a.eval g = .func (.func gf) #[] lb) (eg : ∀ args w, (callFunc gf args).run P w = .ok (.enter gf args) w)
  {Z : Nat → Prop} {n0 : Nat} {Rd : α → Array Value → World → Prop} {xs : List α} (hgives : ∀ o1 o2 : Obj, Gives P gf lb Z n0 Rd xs ((w.alloc o1).alloc o2))
  (hZ : ∀ k, Z k → k ≠ w.heap.size ∧ k ≠ w.heap.size + 1) (hn0 : n0 ≤ w.heap.size)
  (hps : ∀ x args W, Rd x args W → args.size = ps.size)
  (I : List α → World → Prop) (Ix : Code → List α → World → Prop)
  (hI : ∀ s A B, I s A → Keep (fun k => ¬ Z k ∧ k ≠ w.heap.size ∧ k ≠ w.heap.size + 1) A B → I s B)
  (hIx : ∀ c s A B, Ix c s A → Keep (fun k => ¬ Z k ∧ k ≠ w.heap.size ∧ k ≠ w.heap.size + 1) A B → Ix c s B)
  (h0 : I [] w) (As : α → Array Value → Act → World → Prop)
  (hAs : ∀ x args act A B, As x args act A → Keep (fun k => k ≠ w.heap.size ∧ k ≠ w.heap.size + 1) A B → As x args act B)
  (hassign : ∀ (l : Nat) (x : α) (args : Array Value) (W : World) (K : Act → World → Prop), Rd x args W → w.heap.size + 1 < W.heap.size → (∀ act W', As x args act W' → Below W.heap.size W W' → K act W') →
   assign.wpIn (Fence.wide.inRound l) 0 P (Exit.then K (fun _ _ _ => False)) { tmps := (ps.zip args).foldl (fun t (p, v) => t.setIfInBounds p v) a.tmps, defers := [] } W)
  (hbody : ∀ (l : Nat) (pre : List α) (x : α) (args : Array Value) (act : Act) (W : World), I pre W → As x args act W → (pre ++ [x]) <+: xs → w.heap.size + 1 < W.heap.size →
   body.wpIn (Fence.wide.inRound l) 0 P (roundEnds (fun k => k < n0 ∨ Z k ∨ k = w.heap.size ∨ k = w.heap.size + 1) I Ix (pre ++ [x]) W) act W)
  (hdone : ∀ (W : World), I xs W → W.heap[w.heap.size]? = some (.deferred (some [])) → Q .normal { a with defers := { target := .collected w.heap.size, args := #[] } :: a.defers } W)
  (hstop : ∀ (c : Code) (pre : List α) (W : World), pre <+: xs → Ix c pre W → W.heap[w.heap.size]? = some (.deferred (some [])) → c.wpIn Fence.wide 0 P Q { a with defers := { target := .collected w.heap.size, args := #[] } :: a.defers } W) :
  (Code.rangeFunc g ps assign body).wpIn Fence.wide 0 P Q a w := by
 refine wpIn_rangeFunc ?_
 intro fn hfn
 obtain ⟨rec, hrec⟩ : ∃ rec : LoopState → Option Code → Loop, rec = fun st pe => { state := st, pending := pe, fn, tmps := a.tmps, params := ps, assign, body, defers := w.heap.size } := ⟨_, rfl⟩
 obtain ⟨W1, hW1⟩ : ∃ W1, (w.alloc (.deferred (some []))).alloc (.loop (rec .ready none)) = W1 := ⟨_, rfl⟩
 have hgv := hgives (.deferred (some [])) (.loop (rec .ready none))
 rw [hW1] at hgv
 have hL1 : W1.heap[w.heap.size + 1]? = some (.loop (rec .ready none)) := by
  rw [← hW1]; have := World.alloc_heap_new (w.alloc (.deferred (some []))) (.loop (rec .ready none)); rwa [World.size_alloc] at this
 have hK1 : W1.heap[w.heap.size]? = some (.deferred (some [])) := by
  rw [← hW1]; exact (Below.heap_alloc _ _ _ (by simp)).trans (World.alloc_heap_new w _)
 have hI1 : I [] W1 := by
  rw [← hW1]
  exact hI [] w _ h0 (((Keep.refl _ w).alloc _).alloc _)
 refine ⟨w.heap.size + 1, [{ target := .collected w.heap.size, args := #[] }], W1, { target := .fn (.func gf) lb, args := #[.func (.yield (w.heap.size + 1)) #[] #[]] }, W1, gf,
  #[.func (.yield (w.heap.size + 1)) #[] #[]] ++ lb, W1, ?_, ?_, ?_, ?_, ?_, ?_⟩
 ·rw [← hW1, hrec]; exact run_enterLoop_outer _ _ _ _ _
 ·simp only [resolve, hg]
  simp [go_sem]
 ·intro f' _; trivial
 ·simp [invoke, go_sem, eg]
 ·simp [Fence.wide]
 ·refine (hgv (w.heap.size + 1)
   (fun pre W => I pre W ∧ W.heap[w.heap.size + 1]? = some (.loop (rec .ready none)) ∧ W.heap[w.heap.size]? = some (.deferred (some [])))
   (fun pre W => ∃ c, Ix c pre W ∧ W.heap[w.heap.size + 1]? = some (.loop (rec .done (some c))) ∧ W.heap[w.heap.size]? = some (.deferred (some [])))
   (fun s A B hs hk => ⟨hI s A B hs.1 (hk.mono fun i hi => hi.1), hk.heap (fun hz => (hZ _ hz).2 rfl) hs.2.1, hk.heap (fun hz => (hZ _ hz).1 rfl) hs.2.2⟩)
   (fun s A B hs hk => by
    obtain ⟨c, hc, hl, hd⟩ := hs
    exact ⟨c, hIx c s A B hc (hk.mono fun i hi => hi.1), hk.heap (fun hz => (hZ _ hz).2 rfl) hl, hk.heap (fun hz => (hZ _ hz).1 rfl) hd⟩)
   ?_ ⟨hI1, hL1, hK1⟩).mono ?_
  ·-- one round
   rintro pre x args W ⟨hi, hl, hk⟩ hrd hpre
   have hlt : w.heap.size + 1 < W.heap.size := (Array.getElem?_eq_some_iff.1 hl).1
   have hy := run_yield (P := P) (args := args) hl (by rw [hrec]; exact hps x args W hrd)
   rw [hrec] at hy
   refine ⟨fn, _, assign, body, hy, roundIn_of_wpIn hfn (hassign _ x args W _ hrd hlt fun act V hact hWV => ?_)⟩
   have hlV : V.heap[w.heap.size + 1]? = some (.loop (rec .ready none)) := (hWV.block _ hlt).trans hl
   have hkV : V.heap[w.heap.size]? = some (.deferred (some [])) := (hWV.block _ (by omega)).trans hk
   have hltV : w.heap.size + 1 < V.heap.size := Nat.lt_of_lt_of_le hlt hWV.size
   refine ⟨_, run_beginRound hlV (by rw [hrec]), ?_⟩
   have hl2 : (V.putObj (w.heap.size + 1) (.loop { rec .ready none with state := .busy })).heap[w.heap.size + 1]? = some (.loop { rec .ready none with state := .busy }) := World.putObj_heap_same hltV
   have hk2 : (V.putObj (w.heap.size + 1) (.loop { rec .ready none with state := .busy })).heap[w.heap.size]? = some (.deferred (some [])) := (World.putObj_heap_other (by omega)).trans hkV
   have hI2 : I pre (V.putObj (w.heap.size + 1) (.loop { rec .ready none with state := .busy })) := hI _ _ _ hi ((Keep.of_below' hWV).putObj (fun h => h.2.2 rfl) _)
   have hR2 : As x args act (V.putObj (w.heap.size + 1) (.loop { rec .ready none with state := .busy })) := hAs _ _ _ _ _ hact ((Keep.refl _ V).putObj (fun h => h.2 rfl) _)
   refine wpIn_mono (hbody _ pre x args act _ hI2 hR2 hpre (by simpa using hltV)) ?_
   -- the record behind the body, and behind endRound
   have fin : ∀ (jump : Option Code) (W3 : World), Keep (fun k => k < n0 ∨ Z k ∨ k = w.heap.size ∨ k = w.heap.size + 1) (V.putObj (w.heap.size + 1) (.loop { rec .ready none with state := .busy })) W3 →
     (Instr.endRound (w.heap.size + 1) jump).run P W3 = .ok (.bool jump.isNone) (W3.putObj (w.heap.size + 1) (.loop (rec (if jump.isNone then .ready else .done) jump))) ∧
     (W3.putObj (w.heap.size + 1) (.loop (rec (if jump.isNone then .ready else .done) jump))).heap[w.heap.size + 1]? = some (.loop (rec (if jump.isNone then .ready else .done) jump)) ∧
     (W3.putObj (w.heap.size + 1) (.loop (rec (if jump.isNone then .ready else .done) jump))).heap[w.heap.size]? = some (.deferred (some [])) := fun jump W3 hk3 => by
    have hl3 := hk3.heap (.inr (.inr (.inr rfl))) hl2
    have := run_endRound (P := P) jump hl3
    rw [hrec] at this ⊢
    exact ⟨this, World.putObj_heap_same (Array.getElem?_eq_some_iff.1 hl3).1, (World.putObj_heap_other (by omega)).trans (hk3.heap (.inr (.inr (.inl rfl))) hk2)⟩
   have put3 : ∀ (W3 : World) (o : Obj) (s : List α), I s W3 → I s (W3.putObj (w.heap.size + 1) o) := fun W3 o s hi3 => hI _ _ _ hi3 ((Keep.refl _ W3).putObj (fun h => h.2.2 rfl) _)
   have put4 : ∀ (c : Code) (W3 : World) (o : Obj) (s : List α), Ix c s W3 → Ix c s (W3.putObj (w.heap.size + 1) o) := fun c W3 o s hi3 => hIx _ _ _ _ hi3 ((Keep.refl _ W3).putObj (fun h => h.2.2 rfl) _)
   rintro e a3 W3 hp
   cases e with
   | normal =>
    obtain ⟨hk3, hi3⟩ := hp
    obtain ⟨hr, hl4, hk4⟩ := fin none W3 hk3
    refine ⟨_, _, hr, .inl ⟨rfl, ⟨put3 _ _ _ hi3, hl4, hk4⟩, ?_⟩⟩
    -- what the iterator relies on: everything but the record lies as it lay; n0 is below the record, Z does not hold it
    have h1 : Keep (fun k => k < n0 ∨ Z k) W (V.putObj (w.heap.size + 1) (.loop { rec .ready none with state := .busy })) := (Keep.of_below' hWV).putObj (fun h => by rcases h with h | h; omega; exact (hZ _ h).2 rfl) _
    exact (h1.trans (hk3.mono fun i hi => hi.elim .inl (fun h => .inr (.inl h)))).putObj (fun h => by rcases h with h | h; omega; exact (hZ _ h).2 rfl) _
   | ret =>
    obtain ⟨hk3, hi3⟩ := hp
    obtain ⟨hr, hl4, hk4⟩ := fin (some .ret) W3 hk3
    exact ⟨_, _, hr, .inr ⟨rfl, .ret, put4 _ _ _ _ hi3, hl4, hk4⟩⟩
   | exit id =>
    obtain ⟨hk3, hi3⟩ := hp
    obtain ⟨hr, hl4, hk4⟩ := fin (some (.exit id)) W3 hk3
    exact ⟨_, _, hr, .inr ⟨rfl, .exit id, put4 _ _ _ _ hi3, hl4, hk4⟩⟩
   | goto t =>
    obtain ⟨hk3, hi3⟩ := hp
    obtain ⟨hr, hl4, hk4⟩ := fin (some (.goto t)) W3 hk3
    exact ⟨_, _, hr, .inr ⟨rfl, .goto t, put4 _ _ _ _ hi3, hl4, hk4⟩⟩
   | panic ch => exact hp.elim
   | outgrown => exact hp.elim
  ·-- behind the iterator
   rintro e W2 ⟨⟨v, rfl⟩, (⟨hi, hl, hk⟩ | ⟨pre, hpre, c, hi, hl, hk⟩)⟩
   ·exact ⟨none, _, by have := run_endLoop (P := P) hl (by rw [hrec]; simp); rw [hrec] at this; exact this, hdone _ (hI _ _ _ hi ((Keep.refl _ W2).putObj (fun h => h.2.2 rfl) _)) ((World.putObj_heap_other (by omega)).trans hk)⟩
   ·exact ⟨some c, _, by have := run_endLoop (P := P) hl (by rw [hrec]; simp); rw [hrec] at this; exact this, hstop c pre _ hpre (hIx _ _ _ _ hi ((Keep.refl _ W2).putObj (fun h => h.2.2 rfl) _)) ((World.putObj_heap_other (by omega)).trans hk)⟩

end Go.Proofs.YthpjffhccjlnhaaGreatDoor
namespace Go.Proofs.YthpjffhccjlnhaaGreatDoor
open Go.RowKit
variable {P : Program}

/-- THE LAW, where the body is told of its loop's record. -/
theorem wpIn_range3 {α : Type} {g : Operand} {ps : Array Tmp} {assign body : Code} {Q : Exit → Act → World → Prop} {a : Act} {w : World}
  {gf : Nat} {lb : Array Value} (hg : a.eval g = .func (.func gf) #[] lb) (eg : ∀ args w, (callFunc gf args).run P w = .ok (.enter gf args) w)
  {Z : Nat → Prop} {n0 : Nat} {Rd : α → Array Value → World → Prop} {xs : List α} (hgives : ∀ o1 o2 : Obj, Gives P gf lb Z n0 Rd xs ((w.alloc o1).alloc o2))
  (hZ : ∀ k, Z k → k ≠ w.heap.size ∧ k ≠ w.heap.size + 1) (hn0 : n0 ≤ w.heap.size)
  (hps : ∀ x args W, Rd x args W → args.size = ps.size)
  (I : List α → World → Prop) (Ix : Code → List α → World → Prop)
  (hI : ∀ s A B, I s A → Keep (fun k => ¬ Z k ∧ k ≠ w.heap.size ∧ k ≠ w.heap.size + 1) A B → I s B)
  (hIx : ∀ c s A B, Ix c s A → Keep (fun k => ¬ Z k ∧ k ≠ w.heap.size ∧ k ≠ w.heap.size + 1) A B → Ix c s B)
  (h0 : I [] w) (As : α → Array Value → Act → World → Prop)
  (hAs : ∀ x args act A B, As x args act A → Keep (fun k => k ≠ w.heap.size ∧ k ≠ w.heap.size + 1) A B → As x args act B)
  (hassign : ∀ (l : Nat) (x : α) (args : Array Value) (W : World) (K : Act → World → Prop), Rd x args W → w.heap.size + 1 < W.heap.size → (∀ act W', As x args act W' → Below W.heap.size W W' → K act W') →
   assign.wpIn (Fence.wide.inRound l) 0 P (Exit.then K (fun _ _ _ => False)) { tmps := (ps.zip args).foldl (fun t (p, v) => t.setIfInBounds p v) a.tmps, defers := [] } W)
  (hbody : ∀ (l : Nat) (pre : List α) (x : α) (args : Array Value) (act : Act) (W : World), I pre W → As x args act W → (pre ++ [x]) <+: xs → w.heap.size + 1 < W.heap.size → l = w.heap.size + 1 → (∃ r, W.heap[l]? = some (.loop r)) →
   body.wpIn (Fence.wide.inRound l) 0 P (roundEnds (fun k => k < n0 ∨ Z k ∨ k = w.heap.size ∨ k = w.heap.size + 1) I Ix (pre ++ [x]) W) act W)
  (hdone : ∀ (W : World), I xs W → W.heap[w.heap.size]? = some (.deferred (some [])) → Q .normal { a with defers := { target := .collected w.heap.size, args := #[] } :: a.defers } W)
  (hstop : ∀ (c : Code) (pre : List α) (W : World), pre <+: xs → Ix c pre W → W.heap[w.heap.size]? = some (.deferred (some [])) → c.wpIn Fence.wide 0 P Q { a with defers := { target := .collected w.heap.size, args := #[] } :: a.defers } W) :
  (Code.rangeFunc g ps assign body).wpIn Fence.wide 0 P Q a w := by
 refine wpIn_rangeFunc ?_
 intro fn hfn
 obtain ⟨rec, hrec⟩ : ∃ rec : LoopState → Option Code → Loop, rec = fun st pe => { state := st, pending := pe, fn, tmps := a.tmps, params := ps, assign, body, defers := w.heap.size } := ⟨_, rfl⟩
 obtain ⟨W1, hW1⟩ : ∃ W1, (w.alloc (.deferred (some []))).alloc (.loop (rec .ready none)) = W1 := ⟨_, rfl⟩
 have hgv := hgives (.deferred (some [])) (.loop (rec .ready none))
 rw [hW1] at hgv
 have hL1 : W1.heap[w.heap.size + 1]? = some (.loop (rec .ready none)) := by
  rw [← hW1]; have := World.alloc_heap_new (w.alloc (.deferred (some []))) (.loop (rec .ready none)); rwa [World.size_alloc] at this
 have hK1 : W1.heap[w.heap.size]? = some (.deferred (some [])) := by
  rw [← hW1]; exact (Below.heap_alloc _ _ _ (by simp)).trans (World.alloc_heap_new w _)
 have hI1 : I [] W1 := by
  rw [← hW1]
  exact hI [] w _ h0 (((Keep.refl _ w).alloc _).alloc _)
 refine ⟨w.heap.size + 1, [{ target := .collected w.heap.size, args := #[] }], W1, { target := .fn (.func gf) lb, args := #[.func (.yield (w.heap.size + 1)) #[] #[]] }, W1, gf,
  #[.func (.yield (w.heap.size + 1)) #[] #[]] ++ lb, W1, ?_, ?_, ?_, ?_, ?_, ?_⟩
 ·rw [← hW1, hrec]; exact run_enterLoop_outer _ _ _ _ _
 ·simp only [resolve, hg]
  simp [go_sem]
 ·intro f' _; trivial
 ·simp [invoke, go_sem, eg]
 ·simp [Fence.wide]
 ·refine (hgv (w.heap.size + 1)
   (fun pre W => I pre W ∧ W.heap[w.heap.size + 1]? = some (.loop (rec .ready none)) ∧ W.heap[w.heap.size]? = some (.deferred (some [])))
   (fun pre W => ∃ c, Ix c pre W ∧ W.heap[w.heap.size + 1]? = some (.loop (rec .done (some c))) ∧ W.heap[w.heap.size]? = some (.deferred (some [])))
   (fun s A B hs hk => ⟨hI s A B hs.1 (hk.mono fun i hi => hi.1), hk.heap (fun hz => (hZ _ hz).2 rfl) hs.2.1, hk.heap (fun hz => (hZ _ hz).1 rfl) hs.2.2⟩)
   (fun s A B hs hk => by
    obtain ⟨c, hc, hl, hd⟩ := hs
    exact ⟨c, hIx c s A B hc (hk.mono fun i hi => hi.1), hk.heap (fun hz => (hZ _ hz).2 rfl) hl, hk.heap (fun hz => (hZ _ hz).1 rfl) hd⟩)
   ?_ ⟨hI1, hL1, hK1⟩).mono ?_
  ·-- one round
   rintro pre x args W ⟨hi, hl, hk⟩ hrd hpre
   have hlt : w.heap.size + 1 < W.heap.size := (Array.getElem?_eq_some_iff.1 hl).1
   have hy := run_yield (P := P) (args := args) hl (by rw [hrec]; exact hps x args W hrd)
   rw [hrec] at hy
   refine ⟨fn, _, assign, body, hy, roundIn_of_wpIn hfn (hassign _ x args W _ hrd hlt fun act V hact hWV => ?_)⟩
   have hlV : V.heap[w.heap.size + 1]? = some (.loop (rec .ready none)) := (hWV.block _ hlt).trans hl
   have hkV : V.heap[w.heap.size]? = some (.deferred (some [])) := (hWV.block _ (by omega)).trans hk
   have hltV : w.heap.size + 1 < V.heap.size := Nat.lt_of_lt_of_le hlt hWV.size
   refine ⟨_, run_beginRound hlV (by rw [hrec]), ?_⟩
   have hl2 : (V.putObj (w.heap.size + 1) (.loop { rec .ready none with state := .busy })).heap[w.heap.size + 1]? = some (.loop { rec .ready none with state := .busy }) := World.putObj_heap_same hltV
   have hk2 : (V.putObj (w.heap.size + 1) (.loop { rec .ready none with state := .busy })).heap[w.heap.size]? = some (.deferred (some [])) := (World.putObj_heap_other (by omega)).trans hkV
   have hI2 : I pre (V.putObj (w.heap.size + 1) (.loop { rec .ready none with state := .busy })) := hI _ _ _ hi ((Keep.of_below' hWV).putObj (fun h => h.2.2 rfl) _)
   have hR2 : As x args act (V.putObj (w.heap.size + 1) (.loop { rec .ready none with state := .busy })) := hAs _ _ _ _ _ hact ((Keep.refl _ V).putObj (fun h => h.2 rfl) _)
   refine wpIn_mono (hbody _ pre x args act _ hI2 hR2 hpre (by simpa using hltV) rfl ⟨_, hl2⟩) ?_
   -- the record behind the body, and behind endRound
   have fin : ∀ (jump : Option Code) (W3 : World), Keep (fun k => k < n0 ∨ Z k ∨ k = w.heap.size ∨ k = w.heap.size + 1) (V.putObj (w.heap.size + 1) (.loop { rec .ready none with state := .busy })) W3 →
     (Instr.endRound (w.heap.size + 1) jump).run P W3 = .ok (.bool jump.isNone) (W3.putObj (w.heap.size + 1) (.loop (rec (if jump.isNone then .ready else .done) jump))) ∧
     (W3.putObj (w.heap.size + 1) (.loop (rec (if jump.isNone then .ready else .done) jump))).heap[w.heap.size + 1]? = some (.loop (rec (if jump.isNone then .ready else .done) jump)) ∧
     (W3.putObj (w.heap.size + 1) (.loop (rec (if jump.isNone then .ready else .done) jump))).heap[w.heap.size]? = some (.deferred (some [])) := fun jump W3 hk3 => by
    have hl3 := hk3.heap (.inr (.inr (.inr rfl))) hl2
    have := run_endRound (P := P) jump hl3
    rw [hrec] at this ⊢
    exact ⟨this, World.putObj_heap_same (Array.getElem?_eq_some_iff.1 hl3).1, (World.putObj_heap_other (by omega)).trans (hk3.heap (.inr (.inr (.inl rfl))) hk2)⟩
   have put3 : ∀ (W3 : World) (o : Obj) (s : List α), I s W3 → I s (W3.putObj (w.heap.size + 1) o) := fun W3 o s hi3 => hI _ _ _ hi3 ((Keep.refl _ W3).putObj (fun h => h.2.2 rfl) _)
   have put4 : ∀ (c : Code) (W3 : World) (o : Obj) (s : List α), Ix c s W3 → Ix c s (W3.putObj (w.heap.size + 1) o) := fun c W3 o s hi3 => hIx _ _ _ _ hi3 ((Keep.refl _ W3).putObj (fun h => h.2.2 rfl) _)
   rintro e a3 W3 hp
   cases e with
   | normal =>
    obtain ⟨hk3, hi3⟩ := hp
    obtain ⟨hr, hl4, hk4⟩ := fin none W3 hk3
    refine ⟨_, _, hr, .inl ⟨rfl, ⟨put3 _ _ _ hi3, hl4, hk4⟩, ?_⟩⟩
    -- what the iterator relies on: everything but the record lies as it lay; n0 is below the record, Z does not hold it
    have h1 : Keep (fun k => k < n0 ∨ Z k) W (V.putObj (w.heap.size + 1) (.loop { rec .ready none with state := .busy })) := (Keep.of_below' hWV).putObj (fun h => by rcases h with h | h; omega; exact (hZ _ h).2 rfl) _
    exact (h1.trans (hk3.mono fun i hi => hi.elim .inl (fun h => .inr (.inl h)))).putObj (fun h => by rcases h with h | h; omega; exact (hZ _ h).2 rfl) _
   | ret =>
    obtain ⟨hk3, hi3⟩ := hp
    obtain ⟨hr, hl4, hk4⟩ := fin (some .ret) W3 hk3
    exact ⟨_, _, hr, .inr ⟨rfl, .ret, put4 _ _ _ _ hi3, hl4, hk4⟩⟩
   | exit id =>
    obtain ⟨hk3, hi3⟩ := hp
    obtain ⟨hr, hl4, hk4⟩ := fin (some (.exit id)) W3 hk3
    exact ⟨_, _, hr, .inr ⟨rfl, .exit id, put4 _ _ _ _ hi3, hl4, hk4⟩⟩
   | goto t =>
    obtain ⟨hk3, hi3⟩ := hp
    obtain ⟨hr, hl4, hk4⟩ := fin (some (.goto t)) W3 hk3
    exact ⟨_, _, hr, .inr ⟨rfl, .goto t, put4 _ _ _ _ hi3, hl4, hk4⟩⟩
   | panic ch => exact hp.elim
   | outgrown => exact hp.elim
  ·-- behind the iterator
   rintro e W2 ⟨⟨v, rfl⟩, (⟨hi, hl, hk⟩ | ⟨pre, hpre, c, hi, hl, hk⟩)⟩
   ·exact ⟨none, _, by have := run_endLoop (P := P) hl (by rw [hrec]; simp); rw [hrec] at this; exact this, hdone _ (hI _ _ _ hi ((Keep.refl _ W2).putObj (fun h => h.2.2 rfl) _)) ((World.putObj_heap_other (by omega)).trans hk)⟩
   ·exact ⟨some c, _, by have := run_endLoop (P := P) hl (by rw [hrec]; simp); rw [hrec] at this; exact this, hstop c pre _ hpre (hIx _ _ _ _ hi ((Keep.refl _ W2).putObj (fun h => h.2.2 rfl) _)) ((World.putObj_heap_other (by omega)).trans hk)⟩

/-- THE LAW, within a round of another loop. -/
theorem wpIn_rangeN {α : Type} {g : Operand} {ps : Array Tmp} {assign body : Code} {Q : Exit → Act → World → Prop} {a : Act} {w : World}
  {l₀ : Nat} (hl₀ : ∃ r, w.heap[l₀]? = some (.loop r)) {gf : Nat} {lb : Array Value} (hg : a.eval g = .func (.func gf) #[] lb) (eg : ∀ args w, (callFunc gf args).run P w = .ok (.enter gf args) w)
  {Z : Nat → Prop} {n0 : Nat} {Rd : α → Array Value → World → Prop} {xs : List α} (hgives : ∀ o1 : Obj, Gives P gf lb Z n0 Rd xs (w.alloc o1))
  (hZ : ∀ k, Z k → k ≠ w.heap.size) (hn0 : n0 ≤ w.heap.size)
  (hps : ∀ x args W, Rd x args W → args.size = ps.size)
  (I : List α → World → Prop) (Ix : Code → List α → World → Prop)
  (hI : ∀ s A B, I s A → Keep (fun k => ¬ Z k ∧ k ≠ w.heap.size) A B → I s B)
  (hIx : ∀ c s A B, Ix c s A → Keep (fun k => ¬ Z k ∧ k ≠ w.heap.size) A B → Ix c s B)
  (h0 : I [] w) (As : α → Array Value → Act → World → Prop)
  (hAs : ∀ x args act A B, As x args act A → Keep (fun k => k ≠ w.heap.size) A B → As x args act B)
  (hassign : ∀ (l : Nat) (x : α) (args : Array Value) (W : World) (K : Act → World → Prop), Rd x args W → w.heap.size < W.heap.size → (∀ act W', As x args act W' → Below W.heap.size W W' → K act W') →
   assign.wpIn (Fence.wide.inRound l) 0 P (Exit.then K (fun _ _ _ => False)) { tmps := (ps.zip args).foldl (fun t (p, v) => t.setIfInBounds p v) a.tmps, defers := [] } W)
  (hbody : ∀ (l : Nat) (pre : List α) (x : α) (args : Array Value) (act : Act) (W : World), I pre W → As x args act W → (pre ++ [x]) <+: xs → w.heap.size < W.heap.size →
   body.wpIn (Fence.wide.inRound l) 0 P (roundEnds (fun k => k < n0 ∨ Z k ∨ k = w.heap.size) I Ix (pre ++ [x]) W) act W)
  (hdone : ∀ (W : World), I xs W → Q .normal a W)
  (hstop : ∀ (c : Code) (pre : List α) (W : World), pre <+: xs → Ix c pre W → c.wpIn (Fence.wide.inRound l₀) 0 P Q a W) :
  (Code.rangeFunc g ps assign body).wpIn (Fence.wide.inRound l₀) 0 P Q a w := by
 obtain ⟨r₀, hr₀⟩ := hl₀
 refine wpIn_rangeFunc ?_
 intro fn hfn
 obtain ⟨rec, hrec⟩ : ∃ rec : LoopState → Option Code → Loop, rec = fun st pe => { state := st, pending := pe, fn, tmps := a.tmps, params := ps, assign, body, defers := r₀.defers } := ⟨_, rfl⟩
 obtain ⟨W1, hW1⟩ : ∃ W1, w.alloc (.loop (rec .ready none)) = W1 := ⟨_, rfl⟩
 have hgv := hgives (.loop (rec .ready none))
 rw [hW1] at hgv
 have hL1 : W1.heap[w.heap.size]? = some (.loop (rec .ready none)) := by rw [← hW1]; exact World.alloc_heap_new w _
 have hI1 : I [] W1 := by
  rw [← hW1]
  exact hI [] w _ h0 ((Keep.refl _ w).alloc _)
 refine ⟨w.heap.size, [], W1, { target := .fn (.func gf) lb, args := #[.func (.yield w.heap.size) #[] #[]] }, W1, gf,
  #[.func (.yield w.heap.size) #[] #[]] ++ lb, W1, ?_, ?_, ?_, ?_, ?_, ?_⟩
 ·rw [← hW1, hrec]; exact run_enterLoop_inner hr₀ _ _ _ _ _
 ·simp only [resolve, hg]
  simp [go_sem]
 ·intro f' _; trivial
 ·simp [invoke, go_sem, eg]
 ·simp [Fence.wide]
 ·refine (CallsIn.inRound l₀ (hgv w.heap.size
   (fun pre W => I pre W ∧ W.heap[w.heap.size]? = some (.loop (rec .ready none)))
   (fun pre W => ∃ c, Ix c pre W ∧ W.heap[w.heap.size]? = some (.loop (rec .done (some c))))
   (fun s A B hs hk => ⟨hI s A B hs.1 (hk.mono fun i hi => hi.1), hk.heap (fun hz => hZ _ hz rfl) hs.2⟩)
   (fun s A B hs hk => by
    obtain ⟨c, hc, hl⟩ := hs
    exact ⟨c, hIx c s A B hc (hk.mono fun i hi => hi.1), hk.heap (fun hz => hZ _ hz rfl) hl⟩)
   ?_ ⟨hI1, hL1⟩)).mono ?_
  ·-- one round
   rintro pre x args W ⟨hi, hl⟩ hrd hpre
   have hlt : w.heap.size < W.heap.size := (Array.getElem?_eq_some_iff.1 hl).1
   have hy := run_yield (P := P) (args := args) hl (by rw [hrec]; exact hps x args W hrd)
   rw [hrec] at hy
   refine ⟨fn, _, assign, body, hy, roundIn_of_wpIn hfn (hassign _ x args W _ hrd hlt fun act V hact hWV => ?_)⟩
   have hlV : V.heap[w.heap.size]? = some (.loop (rec .ready none)) := (hWV.block _ hlt).trans hl
   have hltV : w.heap.size < V.heap.size := Nat.lt_of_lt_of_le hlt hWV.size
   refine ⟨_, run_beginRound hlV (by rw [hrec]), ?_⟩
   have hl2 : (V.putObj w.heap.size (.loop { rec .ready none with state := .busy })).heap[w.heap.size]? = some (.loop { rec .ready none with state := .busy }) := World.putObj_heap_same hltV
   have hI2 : I pre (V.putObj w.heap.size (.loop { rec .ready none with state := .busy })) := hI _ _ _ hi ((Keep.of_below' hWV).putObj (fun h => h.2 rfl) _)
   have hR2 : As x args act (V.putObj w.heap.size (.loop { rec .ready none with state := .busy })) := hAs _ _ _ _ _ hact ((Keep.refl _ V).putObj (fun h => h rfl) _)
   refine wpIn_mono (hbody _ pre x args act _ hI2 hR2 hpre (by simpa using hltV)) ?_
   have fin : ∀ (jump : Option Code) (W3 : World), Keep (fun k => k < n0 ∨ Z k ∨ k = w.heap.size) (V.putObj w.heap.size (.loop { rec .ready none with state := .busy })) W3 →
     (Instr.endRound w.heap.size jump).run P W3 = .ok (.bool jump.isNone) (W3.putObj w.heap.size (.loop (rec (if jump.isNone then .ready else .done) jump))) ∧
     (W3.putObj w.heap.size (.loop (rec (if jump.isNone then .ready else .done) jump))).heap[w.heap.size]? = some (.loop (rec (if jump.isNone then .ready else .done) jump)) := fun jump W3 hk3 => by
    have hl3 := hk3.heap (.inr (.inr rfl)) hl2
    have := run_endRound (P := P) jump hl3
    rw [hrec] at this ⊢
    exact ⟨this, World.putObj_heap_same (Array.getElem?_eq_some_iff.1 hl3).1⟩
   have put3 : ∀ (W3 : World) (o : Obj) (s : List α), I s W3 → I s (W3.putObj w.heap.size o) := fun W3 o s hi3 => hI _ _ _ hi3 ((Keep.refl _ W3).putObj (fun h => h.2 rfl) _)
   have put4 : ∀ (c : Code) (W3 : World) (o : Obj) (s : List α), Ix c s W3 → Ix c s (W3.putObj w.heap.size o) := fun c W3 o s hi3 => hIx _ _ _ _ hi3 ((Keep.refl _ W3).putObj (fun h => h.2 rfl) _)
   rintro e a3 W3 hp
   cases e with
   | normal =>
    obtain ⟨hk3, hi3⟩ := hp
    obtain ⟨hr, hl4⟩ := fin none W3 hk3
    refine ⟨_, _, hr, .inl ⟨rfl, ⟨put3 _ _ _ hi3, hl4⟩, ?_⟩⟩
    have h1 : Keep (fun k => k < n0 ∨ Z k) W (V.putObj w.heap.size (.loop { rec .ready none with state := .busy })) := (Keep.of_below' hWV).putObj (fun h => by rcases h with h | h; omega; exact hZ _ h rfl) _
    exact (h1.trans (hk3.mono fun i hi => hi.elim .inl (fun h => .inr (.inl h)))).putObj (fun h => by rcases h with h | h; omega; exact hZ _ h rfl) _
   | ret =>
    obtain ⟨hk3, hi3⟩ := hp
    obtain ⟨hr, hl4⟩ := fin (some .ret) W3 hk3
    exact ⟨_, _, hr, .inr ⟨rfl, .ret, put4 _ _ _ _ hi3, hl4⟩⟩
   | exit id =>
    obtain ⟨hk3, hi3⟩ := hp
    obtain ⟨hr, hl4⟩ := fin (some (.exit id)) W3 hk3
    exact ⟨_, _, hr, .inr ⟨rfl, .exit id, put4 _ _ _ _ hi3, hl4⟩⟩
   | goto t =>
    obtain ⟨hk3, hi3⟩ := hp
    obtain ⟨hr, hl4⟩ := fin (some (.goto t)) W3 hk3
    exact ⟨_, _, hr, .inr ⟨rfl, .goto t, put4 _ _ _ _ hi3, hl4⟩⟩
   | panic ch => exact hp.elim
   | outgrown => exact hp.elim
  ·-- behind the iterator
   rintro e W2 ⟨⟨v, rfl⟩, (⟨hi, hl⟩ | ⟨pre, hpre, c, hi, hl⟩)⟩
   ·exact ⟨none, _, by have := run_endLoop (P := P) hl (by rw [hrec]; simp); rw [hrec] at this; exact this, hdone _ (hI _ _ _ hi ((Keep.refl _ W2).putObj (fun h => h.2 rfl) _))⟩
   ·exact ⟨some c, _, by have := run_endLoop (P := P) hl (by rw [hrec]; simp); rw [hrec] at this; exact this, hstop c pre _ hpre (hIx _ _ _ _ hi ((Keep.refl _ W2).putObj (fun h => h.2 rfl) _))⟩

end Go.Proofs.YthpjffhccjlnhaaGreatDoor
namespace Go.Proofs.YthpjffhccjlnhaaGreatDoor
open Go.RowKit
variable {P : Program}

/-- WHAT AN ITERATOR GIVES, one that only lays new blocks: xs, one after the other; a round that goes on writes no block but those of C. -/
def GivesC {α : Type} (P : Program) (gf : Nat) (lb : Array Value) (Rd : α → Array Value → World → Prop) (xs : List α) (Ok : (World → Nat → Prop) → (List α → World → Prop) → Prop) (W : World) : Prop :=
 ∀ (l : Nat) (C : World → Nat → Prop) (J Jx : List α → World → Prop), (∀ s A B, J s A → Below A.heap.size A B → J s B) → (∀ s A B, Jx s A → Below A.heap.size A B → Jx s B) →
  (∀ s A B k, J s A → W.heap.size ≤ A.heap.size → Below A.heap.size A B → C B k → C A k) → (∀ s A k, J s A → W.heap.size ≤ A.heap.size → C A k → k < A.heap.size) → Ok C J →
  (∀ pre x args W1, J pre W1 → Rd x args W1 → (pre ++ [x]) <+: xs → YieldAt Fence.wide 0 P l args W1 fun e W' =>
   (e = .returned (.bool true) ∧ J (pre ++ [x]) W' ∧ Keep (fun k => ¬ C W1 k) W1 W' ∧ ∀ k, C W' k → C W1 k ∨ W1.heap.size ≤ k) ∨ (e = .returned (.bool false) ∧ Jx (pre ++ [x]) W')) →
  J [] W →
  CallsIn Fence.wide 0 P gf (#[.func (.yield l) #[] #[]] ++ lb) W fun e W' => (∃ v, e = .returned v) ∧ (J xs W' ∨ ∃ pre, pre <+: xs ∧ Jx pre W')

/-- how a round's body may be left -/
def roundEndsC {α : Type} (C : World → Nat → Prop) (R : Nat → Prop) (I : List α → World → Prop) (Ix : Code → List α → World → Prop) (xs : List α) (W : World) : Exit → Act → World → Prop
 | .normal, _, W' => Keep (fun k => ¬ C W k) W W' ∧ (∀ k, C W' k → C W k ∨ W.heap.size ≤ k) ∧ I xs W'
 | .ret, _, W' => Keep R W W' ∧ Ix .ret xs W'
 | .exit id, _, W' => Keep R W W' ∧ Ix (.exit id) xs W'
 | .goto t, _, W' => Keep R W W' ∧ Ix (.goto t) xs W'
 | .panic _, _, _ => False
 | .outgrown, _, _ => False

/-- THE LAW -/
theorem wpIn_rangeC {α : Type} {g : Operand} {ps : Array Tmp} {assign body : Code} {Q : Exit → Act → World → Prop} {a : Act} {w : World}
  {gf : Nat} {lb : Array Value} (hg : a.eval g = .func (.func gf) #[] lb) (eg : ∀ args w, (callFunc gf args).run P w = .ok (.enter gf args) w)
  {Rd : α → Array Value → World → Prop} {xs : List α} {Ok : (World → Nat → Prop) → (List α → World → Prop) → Prop} (hgives : ∀ o1 o2 : Obj, GivesC P gf lb Rd xs Ok ((w.alloc o1).alloc o2))
  (hps : ∀ x args W, Rd x args W → args.size = ps.size)
  (C : World → Nat → Prop) (I : List α → World → Prop) (Ix : Code → List α → World → Prop) (hC1 : ∀ s A B k, I s A → w.heap.size ≤ A.heap.size → Below A.heap.size A B → C B k → C A k) (hC2 : ∀ s A k, I s A → w.heap.size ≤ A.heap.size → C A k → k < A.heap.size) (hC3 : ∀ A o, C (A.putObj (w.heap.size + 1) o) = C A) (hC4 : ∀ s A, I s A → w.heap.size + 1 < A.heap.size → ¬ C A w.heap.size ∧ ¬ C A (w.heap.size + 1))
  (hOk : ∀ rec : Nat → World → Prop, Ok (fun A k => C A k ∨ k = w.heap.size + 1) (fun pre A => I pre A ∧ rec w.heap.size A))
  (hI : ∀ s A B, I s A → Below A.heap.size A B → I s B) (hI2 : ∀ s A o, I s A → I s (A.putObj (w.heap.size + 1) o))
  (hIx : ∀ c s A B, Ix c s A → Below A.heap.size A B → Ix c s B) (hIx2 : ∀ c s A o, Ix c s A → Ix c s (A.putObj (w.heap.size + 1) o))
  (h0 : I [] w) (As : α → Array Value → Act → World → Prop)
  (hAs : ∀ x args act A o, As x args act A → As x args act (A.putObj (w.heap.size + 1) o))
  (hassign : ∀ (l : Nat) (x : α) (args : Array Value) (W : World) (K : Act → World → Prop), Rd x args W → w.heap.size + 1 < W.heap.size → (∀ act W', As x args act W' → Below W.heap.size W W' → K act W') →
   assign.wpIn (Fence.wide.inRound l) 0 P (Exit.then K (fun _ _ _ => False)) { tmps := (ps.zip args).foldl (fun t (p, v) => t.setIfInBounds p v) a.tmps, defers := [] } W)
  (hbody : ∀ (l : Nat) (pre : List α) (x : α) (args : Array Value) (act : Act) (W : World), I pre W → As x args act W → (pre ++ [x]) <+: xs → w.heap.size + 1 < W.heap.size → l = w.heap.size + 1 → (∃ r, W.heap[l]? = some (.loop r)) →
   body.wpIn (Fence.wide.inRound l) 0 P (roundEndsC C (fun k => k = w.heap.size ∨ k = w.heap.size + 1) I Ix (pre ++ [x]) W) act W)
  (hdone : ∀ (W : World), I xs W → W.heap[w.heap.size]? = some (.deferred (some [])) → Q .normal { a with defers := { target := .collected w.heap.size, args := #[] } :: a.defers } W)
  (hstop : ∀ (c : Code) (pre : List α) (W : World), pre <+: xs → Ix c pre W → W.heap[w.heap.size]? = some (.deferred (some [])) → c.wpIn Fence.wide 0 P Q { a with defers := { target := .collected w.heap.size, args := #[] } :: a.defers } W) :
  (Code.rangeFunc g ps assign body).wpIn Fence.wide 0 P Q a w := by
 refine wpIn_rangeFunc ?_
 intro fn hfn
 obtain ⟨rec, hrec⟩ : ∃ rec : LoopState → Option Code → Loop, rec = fun st pe => { state := st, pending := pe, fn, tmps := a.tmps, params := ps, assign, body, defers := w.heap.size } := ⟨_, rfl⟩
 obtain ⟨W1, hW1⟩ : ∃ W1, (w.alloc (.deferred (some []))).alloc (.loop (rec .ready none)) = W1 := ⟨_, rfl⟩
 have hgv := hgives (.deferred (some [])) (.loop (rec .ready none))
 rw [hW1] at hgv
 have hBW : Below w.heap.size w W1 := by rw [← hW1]; exact ((Below.refl _ w).alloc (Nat.le_refl _) _).alloc (by simp) _
 have hL1 : W1.heap[w.heap.size + 1]? = some (.loop (rec .ready none)) := by
  rw [← hW1]; have := World.alloc_heap_new (w.alloc (.deferred (some []))) (.loop (rec .ready none)); rwa [World.size_alloc] at this
 have hK1 : W1.heap[w.heap.size]? = some (.deferred (some [])) := by
  rw [← hW1]; exact (Below.heap_alloc _ _ _ (by simp)).trans (World.alloc_heap_new w _)
 have hI1 : I [] W1 := hI [] w _ h0 hBW
 have bl : ∀ {A B : World} {k : Nat} {o : Obj}, Below A.heap.size A B → A.heap[k]? = some o → B.heap[k]? = some o := fun hb h => (hb.block _ (Array.getElem?_eq_some_iff.1 h).1).trans h
 refine ⟨w.heap.size + 1, [{ target := .collected w.heap.size, args := #[] }], W1, { target := .fn (.func gf) lb, args := #[.func (.yield (w.heap.size + 1)) #[] #[]] }, W1, gf,
  #[.func (.yield (w.heap.size + 1)) #[] #[]] ++ lb, W1, ?_, ?_, ?_, ?_, ?_, ?_⟩
 ·rw [← hW1, hrec]; exact run_enterLoop_outer _ _ _ _ _
 ·simp only [resolve, hg]
  simp [go_sem]
 ·intro f' _; trivial
 ·simp [invoke, go_sem, eg]
 ·simp [Fence.wide]
 ·refine (hgv (w.heap.size + 1) (fun A k => C A k ∨ k = w.heap.size + 1)
   (fun pre W => I pre W ∧ (W.heap[w.heap.size + 1]? = some (.loop (rec .ready none)) ∧ W.heap[w.heap.size]? = some (.deferred (some []))))
   (fun pre W => ∃ c, Ix c pre W ∧ W.heap[w.heap.size + 1]? = some (.loop (rec .done (some c))) ∧ W.heap[w.heap.size]? = some (.deferred (some [])))
   (fun s A B hs hb => ⟨hI s A B hs.1 hb, bl hb hs.2.1, bl hb hs.2.2⟩)
   (fun s A B hs hb => by
    obtain ⟨c, hc, hl, hd⟩ := hs
    exact ⟨c, hIx c s A B hc hb, bl hb hl, bl hb hd⟩)
   (fun s A B k hJ hA hb hk => hk.imp (hC1 s A B k hJ.1 (Nat.le_trans hBW.size hA) hb) id)
   (fun s A k hJ hA hk => hk.elim (hC2 s A k hJ.1 (Nat.le_trans hBW.size hA)) (fun h => by have := (Array.getElem?_eq_some_iff.1 hL1).1; omega))
   (hOk (fun h A => A.heap[h + 1]? = some (.loop (rec .ready none)) ∧ A.heap[h]? = some (.deferred (some []))))
   ?_ ⟨hI1, hL1, hK1⟩).mono ?_
  ·-- one round
   rintro pre x args W ⟨hi, hl, hk⟩ hrd hpre
   have hlt : w.heap.size + 1 < W.heap.size := (Array.getElem?_eq_some_iff.1 hl).1
   have hy := run_yield (P := P) (args := args) hl (by rw [hrec]; exact hps x args W hrd)
   rw [hrec] at hy
   refine ⟨fn, _, assign, body, hy, roundIn_of_wpIn hfn (hassign _ x args W _ hrd hlt fun act V hact hWV => ?_)⟩
   have hlV := bl hWV hl
   have hkV := bl hWV hk
   have hltV : w.heap.size + 1 < V.heap.size := Nat.lt_of_lt_of_le hlt hWV.size
   refine ⟨_, run_beginRound hlV (by rw [hrec]), ?_⟩
   have hl2 : (V.putObj (w.heap.size + 1) (.loop { rec .ready none with state := .busy })).heap[w.heap.size + 1]? = some (.loop { rec .ready none with state := .busy }) := World.putObj_heap_same hltV
   have hk2 : (V.putObj (w.heap.size + 1) (.loop { rec .ready none with state := .busy })).heap[w.heap.size]? = some (.deferred (some [])) := (World.putObj_heap_other (by omega)).trans hkV
   have hI3 : I pre (V.putObj (w.heap.size + 1) (.loop { rec .ready none with state := .busy })) := hI2 _ _ _ (hI _ _ _ hi hWV)
   have hR2 : As x args act (V.putObj (w.heap.size + 1) (.loop { rec .ready none with state := .busy })) := hAs _ _ _ _ _ hact
   refine wpIn_mono (hbody _ pre x args act _ hI3 hR2 hpre (by simpa using hltV) rfl ⟨_, hl2⟩) ?_
   have fin : ∀ (jump : Option Code) (W3 : World), W3.heap[w.heap.size + 1]? = (V.putObj (w.heap.size + 1) (.loop { rec .ready none with state := .busy })).heap[w.heap.size + 1]? → W3.heap[w.heap.size]? = (V.putObj (w.heap.size + 1) (.loop { rec .ready none with state := .busy })).heap[w.heap.size]? →
     (Instr.endRound (w.heap.size + 1) jump).run P W3 = .ok (.bool jump.isNone) (W3.putObj (w.heap.size + 1) (.loop (rec (if jump.isNone then .ready else .done) jump))) ∧
     (W3.putObj (w.heap.size + 1) (.loop (rec (if jump.isNone then .ready else .done) jump))).heap[w.heap.size + 1]? = some (.loop (rec (if jump.isNone then .ready else .done) jump)) ∧
     (W3.putObj (w.heap.size + 1) (.loop (rec (if jump.isNone then .ready else .done) jump))).heap[w.heap.size]? = some (.deferred (some [])) := fun jump W3 e1 e2 => by
    have hl3 := e1.trans hl2
    have := run_endRound (P := P) jump hl3
    rw [hrec] at this ⊢
    exact ⟨this, World.putObj_heap_same (Array.getElem?_eq_some_iff.1 hl3).1, (World.putObj_heap_other (by omega)).trans (e2.trans hk2)⟩
   have szV : (V.putObj (w.heap.size + 1) (.loop { rec .ready none with state := .busy })).heap.size = V.heap.size := by simp
   rintro e a3 W3 hp
   cases e with
   | normal =>
    obtain ⟨hk3, hc3, hi3⟩ := hp
    have hn := hC4 pre (V.putObj (w.heap.size + 1) (.loop { rec .ready none with state := .busy })) hI3 (by rw [szV]; exact hltV)
    obtain ⟨hr, hl4, hk4⟩ := fin none W3 (hk3.block _ hn.2 (by rw [szV]; omega)) (hk3.block _ hn.1 (by rw [szV]; omega))
    refine ⟨_, _, hr, .inl ⟨rfl, ⟨hI2 _ _ _ hi3, hl4, hk4⟩, ?_, ?_⟩⟩
    ·rw [hC3] at hk3
     have h1 : Keep (fun k => ¬ (C W k ∨ k = w.heap.size + 1)) W (V.putObj (w.heap.size + 1) (.loop { rec .ready none with state := .busy })) := (Keep.of_below' hWV).putObj (fun h => h (.inr rfl)) _
     refine Keep.putObj ⟨hk3.os.trans h1.os, hk3.tape.trans h1.tape, hk3.output.trans h1.output, Nat.le_trans h1.size hk3.size, fun k hk hl => ?_⟩ (fun h => h (.inr rfl)) _
     have hkl : k < V.heap.size := Nat.lt_of_lt_of_le hl hWV.size
     have hcv : ¬ C V k := fun h => hk (.inl (hC1 pre W V k hi (by omega) hWV h))
     exact (hk3.block k hcv (by rw [szV]; exact hkl)).trans (h1.block k hk hl)
    ·intro k hk
     rw [hC3] at hk
     rcases hk with hk | hk
     ·rw [hC3] at hc3
      rcases hc3 k hk with h | h
      ·exact .inl (.inl (hC1 pre W V k hi (by omega) hWV h))
      ·exact .inr (Nat.le_trans hWV.size (by rw [szV] at h; exact h))
     ·exact .inl (.inr hk)
   | ret =>
    obtain ⟨hk3, hi3⟩ := hp
    obtain ⟨hr, hl4, hk4⟩ := fin (some .ret) W3 (hk3.block _ (.inr rfl) (by rw [szV]; omega)) (hk3.block _ (.inl rfl) (by rw [szV]; omega))
    exact ⟨_, _, hr, .inr ⟨rfl, .ret, hIx2 _ _ _ _ hi3, hl4, hk4⟩⟩
   | exit id =>
    obtain ⟨hk3, hi3⟩ := hp
    obtain ⟨hr, hl4, hk4⟩ := fin (some (.exit id)) W3 (hk3.block _ (.inr rfl) (by rw [szV]; omega)) (hk3.block _ (.inl rfl) (by rw [szV]; omega))
    exact ⟨_, _, hr, .inr ⟨rfl, .exit id, hIx2 _ _ _ _ hi3, hl4, hk4⟩⟩
   | goto t =>
    obtain ⟨hk3, hi3⟩ := hp
    obtain ⟨hr, hl4, hk4⟩ := fin (some (.goto t)) W3 (hk3.block _ (.inr rfl) (by rw [szV]; omega)) (hk3.block _ (.inl rfl) (by rw [szV]; omega))
    exact ⟨_, _, hr, .inr ⟨rfl, .goto t, hIx2 _ _ _ _ hi3, hl4, hk4⟩⟩
   | panic ch => exact hp.elim
   | outgrown => exact hp.elim
  ·-- behind the iterator
   rintro e W2 ⟨⟨v, rfl⟩, (⟨hi, hl, hk⟩ | ⟨pre, hpre, c, hi, hl, hk⟩)⟩
   ·exact ⟨none, _, by have := run_endLoop (P := P) hl (by rw [hrec]; simp); rw [hrec] at this; exact this, hdone _ (hI2 _ _ _ hi) ((World.putObj_heap_other (by omega)).trans hk)⟩
   ·exact ⟨some c, _, by have := run_endLoop (P := P) hl (by rw [hrec]; simp); rw [hrec] at this; exact this, hstop c pre _ hpre (hIx2 _ _ _ _ hi) ((World.putObj_heap_other (by omega)).trans hk)⟩
end Go.Proofs.YthpjffhccjlnhaaGreatDoor
