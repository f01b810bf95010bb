/- RangeC's law where the iterator is a method value: its receiver comes ahead of yield. No condition. -/
import Derived.Test.YthpjffhccjlnhaaGreatDoorMRange
set_option linter.unusedSimpArgs false
set_option linter.unusedVariables false
namespace Go.Proofs.YthpjffhccjlnhaaGreatDoor
open Go.RowKit
variable {P : Program}

/-- WHAT AN ITERATOR GIVES, one that only lays new blocks: xs, one after the other; a round that goes on writes no block but those of C. -/
def GivesF {α : Type} (P : Program) (gf : Nat) (fs lb : Array Value) (Rd : α → Array Value → World → Prop) (xs : List α) (Ok : (World → Nat → Prop) → (List α → World → Prop) → Prop) (W : World) : Prop :=
 ∀ (l : Nat) (C : World → Nat → Prop) (J Jx : List α → World → Prop), (∀ s A B, J s A → Below A.heap.size A B → J s B) → (∀ s A B, Jx s A → Below A.heap.size A B → Jx s B) →
  (∀ s A B k, J s A → W.heap.size ≤ A.heap.size → Below A.heap.size A B → C B k → C A k) → (∀ s A k, J s A → W.heap.size ≤ A.heap.size → C A k → k < A.heap.size) → Ok C J →
  (∀ pre x args W1, J pre W1 → Rd x args W1 → (pre ++ [x]) <+: xs → YieldAt Fence.wide 0 P l args W1 fun e W' =>
   (e = .returned (.bool true) ∧ J (pre ++ [x]) W' ∧ Keep (fun k => ¬ C W1 k) W1 W' ∧ ∀ k, C W' k → C W1 k ∨ W1.heap.size ≤ k) ∨ (e = .returned (.bool false) ∧ Jx (pre ++ [x]) W')) →
  J [] W →
  CallsIn Fence.wide 0 P gf (fs ++ #[.func (.yield l) #[] #[]] ++ lb) W fun e W' => (∃ v, e = .returned v) ∧ (J xs W' ∨ ∃ pre, pre <+: xs ∧ Jx pre W')

/-- THE LAW -/
theorem wpIn_rangeF {α : Type} {g : Operand} {ps : Array Tmp} {assign body : Code} {Q : Exit → Act → World → Prop} {a : Act} {w : World}
  {gf : Nat} {fs lb : Array Value} (hg : a.eval g = .func (.func gf) fs lb) (eg : ∀ args w, (callFunc gf args).run P w = .ok (.enter gf args) w)
  {Rd : α → Array Value → World → Prop} {xs : List α} {Ok : (World → Nat → Prop) → (List α → World → Prop) → Prop} (hgives : ∀ o1 o2 : Obj, GivesF P gf fs lb Rd xs Ok ((w.alloc o1).alloc o2))
  (hps : ∀ x args W, Rd x args W → args.size = ps.size)
  (C : World → Nat → Prop) (I : List α → World → Prop) (Ix : Code → List α → World → Prop) (hC1 : ∀ s A B k, I s A → w.heap.size ≤ A.heap.size → Below A.heap.size A B → C B k → C A k) (hC2 : ∀ s A k, I s A → w.heap.size ≤ A.heap.size → C A k → k < A.heap.size) (hC3 : ∀ A o, C (A.putObj (w.heap.size + 1) o) = C A) (hC4 : ∀ s A, I s A → w.heap.size + 1 < A.heap.size → ¬ C A w.heap.size ∧ ¬ C A (w.heap.size + 1))
  (hOk : ∀ rec : Nat → World → Prop, Ok (fun A k => C A k ∨ k = w.heap.size + 1) (fun pre A => I pre A ∧ rec w.heap.size A))
  (hI : ∀ s A B, I s A → Below A.heap.size A B → I s B) (hI2 : ∀ s A o, I s A → I s (A.putObj (w.heap.size + 1) o))
  (hIx : ∀ c s A B, Ix c s A → Below A.heap.size A B → Ix c s B) (hIx2 : ∀ c s A o, Ix c s A → Ix c s (A.putObj (w.heap.size + 1) o))
  (h0 : I [] w) (As : α → Array Value → Act → World → Prop)
  (hAs : ∀ x args act A o, As x args act A → As x args act (A.putObj (w.heap.size + 1) o))
  (hassign : ∀ (l : Nat) (x : α) (args : Array Value) (W : World) (K : Act → World → Prop), Rd x args W → w.heap.size + 1 < W.heap.size → (∀ act W', As x args act W' → Below W.heap.size W W' → K act W') →
   assign.wpIn (Fence.wide.inRound l) 0 P (Exit.then K (fun _ _ _ => False)) { tmps := (ps.zip args).foldl (fun t (p, v) => t.setIfInBounds p v) a.tmps, defers := [] } W)
  (hbody : ∀ (l : Nat) (pre : List α) (x : α) (args : Array Value) (act : Act) (W : World), I pre W → As x args act W → (pre ++ [x]) <+: xs → w.heap.size + 1 < W.heap.size → l = w.heap.size + 1 → (∃ r, W.heap[l]? = some (.loop r)) →
   body.wpIn (Fence.wide.inRound l) 0 P (roundEndsC C (fun k => k = w.heap.size ∨ k = w.heap.size + 1) I Ix (pre ++ [x]) W) act W)
  (hdone : ∀ (W : World), I xs W → W.heap[w.heap.size]? = some (.deferred (some [])) → Q .normal { a with defers := { target := .collected w.heap.size, args := #[] } :: a.defers } W)
  (hstop : ∀ (c : Code) (pre : List α) (W : World), pre <+: xs → Ix c pre W → W.heap[w.heap.size]? = some (.deferred (some [])) → c.wpIn Fence.wide 0 P Q { a with defers := { target := .collected w.heap.size, args := #[] } :: a.defers } W) :
  (Code.rangeFunc g ps assign body).wpIn Fence.wide 0 P Q a w := by
 refine wpIn_rangeFunc ?_
 intro fn hfn
 obtain ⟨rec, hrec⟩ : ∃ rec : LoopState → Option Code → Loop, rec = fun st pe => { state := st, pending := pe, fn, tmps := a.tmps, params := ps, assign, body, defers := w.heap.size } := ⟨_, rfl⟩
 obtain ⟨W1, hW1⟩ : ∃ W1, (w.alloc (.deferred (some []))).alloc (.loop (rec .ready none)) = W1 := ⟨_, rfl⟩
 have hgv := hgives (.deferred (some [])) (.loop (rec .ready none))
 rw [hW1] at hgv
 have hBW : Below w.heap.size w W1 := by rw [← hW1]; exact ((Below.refl _ w).alloc (Nat.le_refl _) _).alloc (by simp) _
 have hL1 : W1.heap[w.heap.size + 1]? = some (.loop (rec .ready none)) := by
  rw [← hW1]; have := World.alloc_heap_new (w.alloc (.deferred (some []))) (.loop (rec .ready none)); rwa [World.size_alloc] at this
 have hK1 : W1.heap[w.heap.size]? = some (.deferred (some [])) := by
  rw [← hW1]; exact (Below.heap_alloc _ _ _ (by simp)).trans (World.alloc_heap_new w _)
 have hI1 : I [] W1 := hI [] w _ h0 hBW
 have bl : ∀ {A B : World} {k : Nat} {o : Obj}, Below A.heap.size A B → A.heap[k]? = some o → B.heap[k]? = some o := fun hb h => (hb.block _ (Array.getElem?_eq_some_iff.1 h).1).trans h
 refine ⟨w.heap.size + 1, [{ target := .collected w.heap.size, args := #[] }], W1, { target := .fn (.func gf) lb, args := fs ++ #[.func (.yield (w.heap.size + 1)) #[] #[]] }, W1, gf,
  fs ++ #[.func (.yield (w.heap.size + 1)) #[] #[]] ++ lb, W1, ?_, ?_, ?_, ?_, ?_, ?_⟩
 ·rw [← hW1, hrec]; exact run_enterLoop_outer _ _ _ _ _
 ·simp only [resolve, hg]
  simp [go_sem]
 ·intro f' _; trivial
 ·simp [invoke, go_sem, eg]
 ·simp [Fence.wide]
 ·refine (hgv (w.heap.size + 1) (fun A k => C A k ∨ k = w.heap.size + 1)
   (fun pre W => I pre W ∧ (W.heap[w.heap.size + 1]? = some (.loop (rec .ready none)) ∧ W.heap[w.heap.size]? = some (.deferred (some []))))
   (fun pre W => ∃ c, Ix c pre W ∧ W.heap[w.heap.size + 1]? = some (.loop (rec .done (some c))) ∧ W.heap[w.heap.size]? = some (.deferred (some [])))
   (fun s A B hs hb => ⟨hI s A B hs.1 hb, bl hb hs.2.1, bl hb hs.2.2⟩)
   (fun s A B hs hb => by
    obtain ⟨c, hc, hl, hd⟩ := hs
    exact ⟨c, hIx c s A B hc hb, bl hb hl, bl hb hd⟩)
   (fun s A B k hJ hA hb hk => hk.imp (hC1 s A B k hJ.1 (Nat.le_trans hBW.size hA) hb) id)
   (fun s A k hJ hA hk => hk.elim (hC2 s A k hJ.1 (Nat.le_trans hBW.size hA)) (fun h => by have := (Array.getElem?_eq_some_iff.1 hL1).1; omega))
   (hOk (fun h A => A.heap[h + 1]? = some (.loop (rec .ready none)) ∧ A.heap[h]? = some (.deferred (some []))))
   ?_ ⟨hI1, hL1, hK1⟩).mono ?_
  ·-- one round
   rintro pre x args W ⟨hi, hl, hk⟩ hrd hpre
   have hlt : w.heap.size + 1 < W.heap.size := (Array.getElem?_eq_some_iff.1 hl).1
   have hy := run_yield (P := P) (args := args) hl (by rw [hrec]; exact hps x args W hrd)
   rw [hrec] at hy
   refine ⟨fn, _, assign, body, hy, roundIn_of_wpIn hfn (hassign _ x args W _ hrd hlt fun act V hact hWV => ?_)⟩
   have hlV := bl hWV hl
   have hkV := bl hWV hk
   have hltV : w.heap.size + 1 < V.heap.size := Nat.lt_of_lt_of_le hlt hWV.size
   refine ⟨_, run_beginRound hlV (by rw [hrec]), ?_⟩
   have hl2 : (V.putObj (w.heap.size + 1) (.loop { rec .ready none with state := .busy })).heap[w.heap.size + 1]? = some (.loop { rec .ready none with state := .busy }) := World.putObj_heap_same hltV
   have hk2 : (V.putObj (w.heap.size + 1) (.loop { rec .ready none with state := .busy })).heap[w.heap.size]? = some (.deferred (some [])) := (World.putObj_heap_other (by omega)).trans hkV
   have hI3 : I pre (V.putObj (w.heap.size + 1) (.loop { rec .ready none with state := .busy })) := hI2 _ _ _ (hI _ _ _ hi hWV)
   have hR2 : As x args act (V.putObj (w.heap.size + 1) (.loop { rec .ready none with state := .busy })) := hAs _ _ _ _ _ hact
   refine wpIn_mono (hbody _ pre x args act _ hI3 hR2 hpre (by simpa using hltV) rfl ⟨_, hl2⟩) ?_
   have fin : ∀ (jump : Option Code) (W3 : World), W3.heap[w.heap.size + 1]? = (V.putObj (w.heap.size + 1) (.loop { rec .ready none with state := .busy })).heap[w.heap.size + 1]? → W3.heap[w.heap.size]? = (V.putObj (w.heap.size + 1) (.loop { rec .ready none with state := .busy })).heap[w.heap.size]? →
     (Instr.endRound (w.heap.size + 1) jump).run P W3 = .ok (.bool jump.isNone) (W3.putObj (w.heap.size + 1) (.loop (rec (if jump.isNone then .ready else .done) jump))) ∧
     (W3.putObj (w.heap.size + 1) (.loop (rec (if jump.isNone then .ready else .done) jump))).heap[w.heap.size + 1]? = some (.loop (rec (if jump.isNone then .ready else .done) jump)) ∧
     (W3.putObj (w.heap.size + 1) (.loop (rec (if jump.isNone then .ready else .done) jump))).heap[w.heap.size]? = some (.deferred (some [])) := fun jump W3 e1 e2 => by
    have hl3 := e1.trans hl2
    have := run_endRound (P := P) jump hl3
    rw [hrec] at this ⊢
    exact ⟨this, World.putObj_heap_same (Array.getElem?_eq_some_iff.1 hl3).1, (World.putObj_heap_other (by omega)).trans (e2.trans hk2)⟩
   have szV : (V.putObj (w.heap.size + 1) (.loop { rec .ready none with state := .busy })).heap.size = V.heap.size := by simp
   rintro e a3 W3 hp
   cases e with
   | normal =>
    obtain ⟨hk3, hc3, hi3⟩ := hp
    have hn := hC4 pre (V.putObj (w.heap.size + 1) (.loop { rec .ready none with state := .busy })) hI3 (by rw [szV]; exact hltV)
    obtain ⟨hr, hl4, hk4⟩ := fin none W3 (hk3.block _ hn.2 (by rw [szV]; omega)) (hk3.block _ hn.1 (by rw [szV]; omega))
    refine ⟨_, _, hr, .inl ⟨rfl, ⟨hI2 _ _ _ hi3, hl4, hk4⟩, ?_, ?_⟩⟩
    ·rw [hC3] at hk3
     have h1 : Keep (fun k => ¬ (C W k ∨ k = w.heap.size + 1)) W (V.putObj (w.heap.size + 1) (.loop { rec .ready none with state := .busy })) := (Keep.of_below' hWV).putObj (fun h => h (.inr rfl)) _
     refine Keep.putObj ⟨hk3.os.trans h1.os, hk3.tape.trans h1.tape, hk3.output.trans h1.output, Nat.le_trans h1.size hk3.size, fun k hk hl => ?_⟩ (fun h => h (.inr rfl)) _
     have hkl : k < V.heap.size := Nat.lt_of_lt_of_le hl hWV.size
     have hcv : ¬ C V k := fun h => hk (.inl (hC1 pre W V k hi (by omega) hWV h))
     exact (hk3.block k hcv (by rw [szV]; exact hkl)).trans (h1.block k hk hl)
    ·intro k hk
     rw [hC3] at hk
     rcases hk with hk | hk
     ·rw [hC3] at hc3
      rcases hc3 k hk with h | h
      ·exact .inl (.inl (hC1 pre W V k hi (by omega) hWV h))
      ·exact .inr (Nat.le_trans hWV.size (by rw [szV] at h; exact h))
     ·exact .inl (.inr hk)
   | ret =>
    obtain ⟨hk3, hi3⟩ := hp
    obtain ⟨hr, hl4, hk4⟩ := fin (some .ret) W3 (hk3.block _ (.inr rfl) (by rw [szV]; omega)) (hk3.block _ (.inl rfl) (by rw [szV]; omega))
    exact ⟨_, _, hr, .inr ⟨rfl, .ret, hIx2 _ _ _ _ hi3, hl4, hk4⟩⟩
   | exit id =>
    obtain ⟨hk3, hi3⟩ := hp
    obtain ⟨hr, hl4, hk4⟩ := fin (some (.exit id)) W3 (hk3.block _ (.inr rfl) (by rw [szV]; omega)) (hk3.block _ (.inl rfl) (by rw [szV]; omega))
    exact ⟨_, _, hr, .inr ⟨rfl, .exit id, hIx2 _ _ _ _ hi3, hl4, hk4⟩⟩
   | goto t =>
    obtain ⟨hk3, hi3⟩ := hp
    obtain ⟨hr, hl4, hk4⟩ := fin (some (.goto t)) W3 (hk3.block _ (.inr rfl) (by rw [szV]; omega)) (hk3.block _ (.inl rfl) (by rw [szV]; omega))
    exact ⟨_, _, hr, .inr ⟨rfl, .goto t, hIx2 _ _ _ _ hi3, hl4, hk4⟩⟩
   | panic ch => exact hp.elim
   | outgrown => exact hp.elim
  ·-- behind the iterator
   rintro e W2 ⟨⟨v, rfl⟩, (⟨hi, hl, hk⟩ | ⟨pre, hpre, c, hi, hl, hk⟩)⟩
   ·exact ⟨none, _, by have := run_endLoop (P := P) hl (by rw [hrec]; simp); rw [hrec] at this; exact this, hdone _ (hI2 _ _ _ hi) ((World.putObj_heap_other (by omega)).trans hk)⟩
   ·exact ⟨some c, _, by have := run_endLoop (P := P) hl (by rw [hrec]; simp); rw [hrec] at this; exact this, hstop c pre _ hpre (hIx2 _ _ _ _ hi) ((World.putObj_heap_other (by omega)).trans hk)⟩
end Go.Proofs.YthpjffhccjlnhaaGreatDoor
