/- A region that draws its order, within a round of a range over a function. -/
/- A region that draws its order, reads first and does one thing then, inside a fence. -/
/- A region that draws its order: reads, calls that make memory, own variables, in whatever order; then one thing after the other. No condition. -/
/- A region that draws its order: what reads is taken first; then one thing after the other, the last of which may write what was read. No condition. -/
import Derived.Test.YthpjffhccjlnhaaGreatDoorMRange
import Derived.Deep.Quiet
import Derived.Deep.QuietTactic
import Derived.OrdersIn
import Derived.StillTail
import Derived.StillTailTactics
import Derived.Test.YthpjffhccjlnhaaGreatDoorMWords
import Derived.OrdersHeld
import Derived.Deep.RegionHeld
set_option linter.unusedSimpArgs false
set_option linter.unusedVariables false
namespace Go.Proofs.YthpjffhccjlnhaaGreatDoor
open Go.RowKit

/-- only the normal exit -/
def onlyNormal (K : Act → World → Prop) : Exit → Act → World → Prop
 | .normal, a, w => K a w
 | _, _, _ => False
theorem onlyNormal_out (K : Act → World → Prop) : ¬ LetsOut (onlyNormal K) := by rintro ⟨a, w, h⟩; exact h
def noDefer (ops : Array Oper) : Bool := ops.toList.all fun o => match o.op with | .defer _ => false | _ => true
theorem noDefer_at {ops : Array Oper} (h : noDefer ops = true) {i : Nat} {o : Oper} (hi : ops[i]? = some o) : ∀ c, o.op ≠ .defer c := by
 intro c hc
 have := List.all_eq_true.1 h o (by simpa using Array.mem_of_getElem? hi)
 rw [hc] at this
 cases this

section
variable {P : Program} {n : Nat} {l : Nat} {md : Region.Mode} {ops : Array Oper} {K : Act → World → Prop}
theorem wpOpIn_round (hd : noDefer ops = true) {i : Nat} {N N' : Act → World → Prop} (hN : ∀ a w, N a w → N' a w) {a : Act} {w : World} (h : wpOp P ops (onlyNormal K) i N a w) : wpOpIn (Fence.wide.inRound l) n P ops (onlyNormal K) i N' a w := by
 unfold wpOp at h
 unfold wpOpIn
 split
 ·simp_all
 ·rename_i o ho
  simp only [ho] at h
  split
  ·rename_i hw
   simp only [hw, if_true] at h
   rcases h with h | ⟨_, h⟩
   ·unfold Oper.wp at h
    unfold Oper.wpIn
    refine ⟨fun f _ => trivial, ?_⟩
    rw [Oper.semAt_plain _ _ _ (noDefer_at hd ho)]
    generalize (execOp a.eval o).run P w = r at *
    cases r with
    | ok x w' =>
     cases x <;> simp only [Oper.upon, Oper.uponIn] at h ⊢
     case value u => exact hN _ _ h
     case skip => exact hN _ _ h
     case defer d => exact hN _ _ h
     case enter f args =>
      refine ⟨(fun hh => by cases hh), CallsIn.inRound l (callsIn_wide.2 (h.mono fun e w'' he => ?_))⟩
      cases e with
      | returned u => exact hN _ _ he
      | panicked c => exact he
      | outgrown => exact he
     case row row args =>
      refine ⟨(fun hh => by cases hh), fun c cs _ => ?_⟩
      obtain ⟨v, w', r, s⟩ := h c cs
      exact ⟨v, w', hN _ _ r, stepsIn_wide.2 s⟩
    | halt x w' => cases x <;> simp only [Oper.upon, Oper.uponIn] at h ⊢ <;> exact h
   ·exact absurd h (onlyNormal_out K)
  ·rename_i hw
   simp only [hw] at h
   exact ⟨fun f _ => trivial, hN _ _ (by simpa using h)⟩
theorem wpAnyIn_round (hd : noDefer ops = true) : ∀ (fuel : Nat) (listed : Array Bool) (a : Act) (w : World), wpAny P md ops (onlyNormal K) fuel listed a w → wpAnyIn (Fence.wide.inRound l) n P md ops (onlyNormal K) fuel listed a w := by
 intro fuel
 induction fuel with
 | zero => intro listed a w h; exact h
 | succ fuel ih =>
  intro listed a w h
  exact ⟨h.1, fun i hi => wpOpIn_round hd (fun a w => ih _ a w) (h.2 i hi)⟩
/-- THE LAW -/
theorem wpIn_region_round {id : Nat} {Q : Exit → Act → World → Prop} {a : Act} {w : World} (hm : P.follows .mixedOrders = true) (hd : noDefer ops = true)
  (h : wpAny P .any ops (onlyNormal (Q .normal)) ops.size (Array.replicate ops.size false) a w.drew) : (Code.region id ops true).wpIn (Fence.wide.inRound l) n P Q a w := by
 refine wpIn_mono (wpIn_region_any hm (wpAnyIn_round hd _ _ _ _ h)) ?_
 intro e a w h
 cases e <;> first | exact h | exact h.elim
/-- .. whose operations only read -/
theorem wpIn_region_quiet_round {id : Nat} {Q : Exit → Act → World → Prop} {a : Act} {w : World} {os : List Oper} (hm : P.follows .mixedOrders = true) (hd : noDefer os.toArray = true) (hB : Region.lexB .any os.toArray = true)
  (h : wpQuiet P os.toArray (fun w' => ∃ n, w' = w.drewN n) (fun a' => ∀ w', (∃ n, w' = w.drewN n) → Q .normal a' w') os a) : (Code.region id os.toArray true).wpIn (Fence.wide.inRound l) n P Q a w := by
 simp only [Region.lexB, Bool.and_eq_true] at hB
 refine wpIn_region_round hm hd (wpAny_of_quiet (C := fun w' => ∃ n, w' = w.drewN n) (Q := fun a' => ∀ w', (∃ n, w' = w.drewN n) → Q .normal a' w') (Q' := onlyNormal (Q .normal)) (fun _ w' hw' h => h w' hw') _ _ _ _ ⟨1, rfl⟩ ?_)
 have := wpAnyQ_lex (C := fun w' => ∃ n, w' = w.drewN n) (md := .any) hB.1 os 0 (Array.replicate os.toArray.size false) a (by simp) (by simpa using hB.2) h
 simpa using this
end

end Go.Proofs.YthpjffhccjlnhaaGreatDoor
namespace Go.Proofs.YthpjffhccjlnhaaGreatDoor
open Go.RowKit

section
variable {F : Fence} {n : Nat} {P : Program} {md : Region.Mode} {ops : Array Oper} {w : World}

theorem wpOpIn_of_stOp (hF : ∀ f, F.fn f) (hdep : F.depth = none) (hC : ∀ {f args w R}, Calls P f args w R → CallsIn F (n - 1) P f args w R) (hd : noDefer ops = true) {i : Nat} {a : Act} {K : Act → Prop} {K' : Act → World → Prop} {Q' : Exit → Act → World → Prop} (h : ∀ a, K a → K' a w) (hh : stOp P ops w i K a) : wpOpIn F n P ops Q' i K' a w := by
 unfold stOp at hh
 unfold wpOpIn
 split
 ·rename_i ho; simp only [ho] at hh; exact h _ hh
 ·rename_i o ho
  simp only [ho] at hh
  split
  ·rename_i hw
   simp only [hw, if_true] at hh
   unfold Oper.wpIn
   refine ⟨fun f _ => hF f, ?_⟩
   rw [Oper.semAt_plain _ _ _ (noDefer_at hd ho)]
   unfold Oper.still at hh
   generalize (execOp a.eval o).run P w = r at *
   cases r with
   | ok x w' =>
    cases x <;> simp only [Oper.stillUpon, Oper.uponIn] at hh ⊢
    case value u => obtain ⟨rfl, h2⟩ := hh; exact h _ h2
    case skip => obtain ⟨rfl, h2⟩ := hh; exact h _ h2
    case enter f args =>
     obtain ⟨rfl, v, hc, hn⟩ := hh
     refine ⟨fun hx => (by rw [hdep] at hx; cases hx), hC (hc.mono fun e w'' ⟨he, hw⟩ => ?_)⟩
     subst he; subst hw; exact h _ hn
   | halt x w' => simp only [Oper.stillUpon] at hh
  ·rename_i hw
   simp only [hw] at hh
   exact ⟨fun f _ => hF f, h _ (by simpa using hh)⟩

theorem wpAnyIn_of_head (hF : ∀ f, F.fn f) (hdep : F.depth = none) (hC : ∀ {f args w R}, Calls P f args w R → CallsIn F (n - 1) P f args w R) (hd : noDefer ops = true) {m g : Nat} {L : Array Bool → Act → Prop} {Q' : Exit → Act → World → Prop} (hL : ∀ listed a, L listed a → wpAnyIn F n P md ops Q' g listed a w) :
  ∀ (f : Nat) (listed : Array Bool) (a : Act), wpAnyL P md ops w m L f listed a → wpAnyIn F n P md ops Q' (f + g) listed a w
 | 0, listed, a, h => by rw [Nat.zero_add]; exact hL _ _ h
 | f + 1, listed, a, h => by
  rw [show f + 1 + g = (f + g) + 1 by omega]
  exact ⟨fun h0 => absurd h0 h.1, fun i hi => wpOpIn_of_stOp hF hdep hC hd (fun a' h' => wpAnyIn_of_head hF hdep hC hd hL f _ a' h') (h.2 i hi).2⟩

theorem wpAnyIn_of_seq {Q' : Exit → Act → World → Prop} : ∀ (l : List Oper) (k : Nat) (listed : Array Bool) (a : Act) (w : World), (∀ j, l[j]? = ops[k + j]?) →
  Region.seqB md ops l.length k listed = true → wpListIn F n P ops Q' l a w → wpAnyIn F n P md ops Q' l.length listed a w
 | [], _, _, _, _, _, hB, h => ⟨by simpa [Region.seqB] using hB, h⟩
 | o :: l, k, listed, a, w, hl, hB, h => by
  have h0 : ops[k]? = some o := by simpa using (hl 0).symm
  simp only [List.length_cons, Region.seqB, Bool.and_eq_true, decide_eq_true_eq] at hB
  refine ⟨fun h1 => (by rw [hB.1] at h1; cases h1), fun i hi => ?_⟩
  rw [hB.1] at hi
  have hik : i = k := by simpa using hi
  subst hik
  have hw : wpOpIn F n P ops Q' i (wpListIn F n P ops Q' l) a w := by unfold wpOpIn; simp only [h0]; exact h
  exact wpOpIn_mono (fun a' w' h' => wpAnyIn_of_seq l (i + 1) _ a' w' (fun j => by have := hl (j + 1); simpa [Nat.add_assoc, Nat.add_comm 1 j] using this) hB.2 h') hw

theorem wpIn_region_still_tail (hF : ∀ f, F.fn f) (hdep : F.depth = none) (hC : ∀ {f args w R}, Calls P f args w R → CallsIn F (n - 1) P f args w R) {id : Nat} {Q : Exit → Act → World → Prop} {a : Act} {w : World} {l : List Oper} (m : Nat) (hm : P.follows .mixedOrders = true) (hd : noDefer l.toArray = true) (hB : Region.lexTailB .any l.toArray m = true)
  (h : wpStill P l.toArray { w with drawn := w.drawn + 1 } (fun a' => wpListIn F n P l.toArray Q (l.drop m) a' { w with drawn := w.drawn + 1 }) (l.take m) a) : (Code.region id l.toArray true).wpIn F n P Q a w := by
 simp only [Region.lexTailB, Bool.and_eq_true, decide_eq_true_eq] at hB
 obtain ⟨⟨⟨⟨hsel, hn⟩, hs⟩, hc⟩, hlex⟩ := hB
 have hn' : m < l.length := by simpa using hn
 have htl : (l.take m).length = m := by simp; omega
 have hdl : (l.drop m).length = l.toArray.size - m := by simp
 have inv0 : HeadInv .any l.toArray m (Array.replicate l.toArray.size false) :=
  ⟨by simp, fun j oj _ hl => (by rw [getD_replicate_false] at hl; cases hl), fun t _ ht => getD_in (by simpa using ht) (getD_replicate_false _ _)⟩
 have H := wpAnyL_lex (md := .any) (g := l.toArray.size - m) hsel hs hc hn (l.take m) 0 _ a (fun j hj => by
  have hj' : j < m := by rw [htl] at hj; exact hj
  simp [hj']) (by simpa using htl) inv0 (by rw [htl]; exact hlex) h
 refine wpIn_region_any hm ?_
 have := wpAnyIn_of_head (F := F) (n := n) hF hdep hC hd (Q' := Q) (g := l.toArray.size - m) (fun listed a' hL => by
  have := wpAnyIn_of_seq (F := F) (n := n) (md := .any) (Q' := Q) (l.drop m) m listed a' { w with drawn := w.drawn + 1 } (fun j => by simp [List.getElem?_drop]) (by rw [hdl]; exact hL.1) hL.2
  rwa [hdl] at this) _ _ _ H
 rw [htl, show m + (l.toArray.size - m) = l.toArray.size by omega] at this
 exact this
/-- outside a round -/
theorem wpIn_region_tail {id : Nat} {Q : Exit → Act → World → Prop} {a : Act} {w : World} {l : List Oper} (m : Nat) (hm : P.follows .mixedOrders = true) (hd : noDefer l.toArray = true) (hB : Region.lexTailB .any l.toArray m = true)
  (h : wpStill P l.toArray w.drew (fun a' => wpListIn Fence.wide 0 P l.toArray Q (l.drop m) a' w.drew) (l.take m) a) : (Code.region id l.toArray true).wpIn Fence.wide 0 P Q a w :=
 wpIn_region_still_tail (fun _ => trivial) rfl (fun h => callsIn_wide.2 h) m hm hd hB h
/-- within one -/
theorem wpIn_region_tail_round {l0 : Nat} {id : Nat} {Q : Exit → Act → World → Prop} {a : Act} {w : World} {l : List Oper} (m : Nat) (hm : P.follows .mixedOrders = true) (hd : noDefer l.toArray = true) (hB : Region.lexTailB .any l.toArray m = true)
  (h : wpStill P l.toArray w.drew (fun a' => wpListIn (Fence.wide.inRound l0) 0 P l.toArray Q (l.drop m) a' w.drew) (l.take m) a) : (Code.region id l.toArray true).wpIn (Fence.wide.inRound l0) 0 P Q a w :=
 wpIn_region_still_tail (fun _ => trivial) rfl (fun h => CallsIn.inRound l0 (callsIn_wide.2 h)) m hm hd hB h
end

/-- a load of many cells at once, wherever they lie -/
theorem run_load_at {P : Program} {w : World} {b o : Nat} {xs : Array Value} {ty : TypeId} {d : TypeDesc} (hb : ∀ j v, xs[j]? = some v → w.cell? ⟨b, o + j, none⟩ = some v) (hu : P.underlying ty = some d) (hd : (match d with | .struct _ | .array _ _ => true | _ => false) = true) (hi : (P.info? ty).map (·.size) = some xs.size) :
  (Instr.loadAt ty (.pointer (some ⟨b, o, none⟩))).run P w = .ok (.agg xs) w := by
 have hl : (loadCells ⟨b, o, none⟩ xs.toList.length).run P w = .ok xs.toList.toArray w :=
  run_loadCells_list (P := P) w ⟨b, o, none⟩ xs.toList (fun j v hv => by
   have hadd : (⟨b, o, none⟩ : Addr).add j = ⟨b, o + j, none⟩ := by unfold Addr.add; split <;> simp_all
   rw [hadd]
   exact hb j v (by simpa using hv))
 cases hq : P.info? ty with
 | none => simp [hq] at hi
 | some i =>
  have hs : i.size = xs.size := by simpa [hq] using hi
  have hagg : (isAgg ty).run P w = .ok true w := by
   unfold isAgg
   rw [Sem.run_bind, run_underlying hu w]
   cases d <;> simp_all
  simp only [Array.length_toList, Array.toArray_toList] at hl
  simp [Instr.loadAt, Instr.sureAddr, loadVar, Sem.run_bind, hagg, sizeOf, typeInfo, hq, hs, hl]

end Go.Proofs.YthpjffhccjlnhaaGreatDoor
namespace Go.Proofs.YthpjffhccjlnhaaGreatDoor
open Go.RowKit

section
variable {P : Program} {ops : Array Oper} {md : Region.Mode} {S : World → Prop}

def isAlloc (o : Oper) : Bool := match o.op with | .alloc _ => true | _ => false
def hdst (o : Oper) : Option Tmp := if isAlloc o then none else o.dst
/-- an own variable: its temporary, its cells, its type -/
abbrev OVar := Tmp × Array Value × TypeId

def HeldRes (P : Program) (W : World) (v : Value) : Result Next → Prop
 | .ok (.value u) W' => u = v ∧ W' = W
 | .ok .skip W' => v = undef ∧ W' = W
 | .ok (.enter f args) W' => W' = W ∧ Calls P f args W (fun e W'' => e = .returned v ∧ Below W.heap.size W W'')
 | _ => False

def YD (P : Program) (ops : Array Oper) (S : World → Prop) (ks : List OVar) (o : Oper) (v : Value) (a : Act) : Prop :=
 (isAlloc o = true ∧ v = undef ∧ o.guard = none ∧ ∃ e ∈ ks, o.dst = some e.1 ∧ ∀ (b : Act) (W : World), (execOp b.eval o).run P W = .ok (.value (.pointer (some ⟨W.heap.size, 0, none⟩))) (W.alloc (.cells e.2.1 e.2.2))) ∨
 (isAlloc o = false ∧ Region.wanted o (yielded ops a.tmps) = true ∧ ∀ W, S W → HeldRes P W v ((execOp a.eval o).run P W)) ∨
 (isAlloc o = false ∧ Region.wanted o (yielded ops a.tmps) = false ∧ v = undef)

theorem YD_put {ks : List OVar} {o : Oper} {v : Value} {a : Act} {t : Option Tmp} {u : Value} (hs : ∀ cs b, o.op ≠ .select cs b) (h : ∀ d, t = some d → d ∉ o.looksAt ops) : YD P ops S ks o v (a.put t u) ↔ YD P ops S ks o v a := by
 unfold YD
 rw [execOp_put o hs a t u h, wanted_put o a t u h]

theorem hdst_some {o : Oper} {d : Tmp} (h : hdst o = some d) : o.dst = some d := by
 unfold hdst at h; split at h
 ·cases h
 ·exact h

def dOp (P : Program) (ops : Array Oper) (S : World → Prop) (ks : List OVar) (i : Nat) (K : Act → Prop) (a : Act) : Prop :=
 match ops[i]? with
 | none => K a
 | some o => ∃ v, YD P ops S ks o v a ∧ K (a.put (hdst o) v)

variable {ks : List OVar}
theorem dOp_of {i : Nat} {o : Oper} {v : Value} {a : Act} {K : Act → Prop} (hi : ops[i]? = some o) (hy : YD P ops S ks o v a) (h : K (a.put (hdst o) v)) : dOp P ops S ks i K a := by
 unfold dOp; simp only [hi]; exact ⟨v, hy, h⟩
theorem dOp_mono {i : Nat} {a : Act} {K K' : Act → Prop} (h : ∀ a, K a → K' a) (hh : dOp P ops S ks i K a) : dOp P ops S ks i K' a := by
 unfold dOp at *
 split
 ·exact h _ (by simpa [*] using hh)
 ·rename_i o ho
  simp only [ho] at hh
  obtain ⟨v, h1, h2⟩ := hh
  exact ⟨v, h1, h _ h2⟩
theorem dOp_put {j : Nat} {oi oj : Oper} {v : Value} (hj : ops[j]? = some oj) (hap : oi.apart ops oj = true)
  (hsi : ∀ cs b, oi.op ≠ .select cs b) (hsj : ∀ cs b, oj.op ≠ .select cs b) {K : Act → Prop} {a : Act}
  (hy : YD P ops S ks oi v a) (h : dOp P ops S ks j K (a.put (hdst oi) v)) :
  dOp P ops S ks j (fun a' => YD P ops S ks oi v a' ∧ K (a'.put (hdst oi) v)) a := by
 obtain ⟨h1, h2, h3⟩ := Oper.apart_spec hap
 unfold dOp at *
 simp only [hj] at *
 obtain ⟨u, hu, hK⟩ := h
 refine ⟨u, (YD_put hsj (fun d hd => h1 d (hdst_some hd))).1 hu, (YD_put hsi (fun d hd => h3 d (hdst_some hd))).2 hy, ?_⟩
 rw [← Act.put_comm a v u (fun d hd he => h2 d (hdst_some hd) (hdst_some he))]
 exact hK

def wpD (P : Program) (md : Region.Mode) (ops : Array Oper) (S : World → Prop) (ks : List OVar) (m : Nat) (L : Array Bool → Act → Prop) : Nat → Array Bool → Act → Prop
 | 0, listed, a => L listed a
 | f + 1, listed, a =>
  Region.ready md ops listed ≠ [] ∧ ∀ i ∈ Region.ready md ops listed, i < m ∧ dOp P ops S ks i (wpD P md ops S ks m L f (listed.setIfInBounds i true)) a

/-- the tail waits for the head -/
def tailOk (md : Region.Mode) (ops : Array Oper) (m : Nat) : Bool := m == ops.size || (decide (m < ops.size) && Region.sinkB md ops m && Region.chainB md ops m)
theorem tail_lt {m : Nat} {listed : Array Bool} (ht : tailOk md ops m = true) (inv : HeadInv md ops m listed) {i : Nat} (hi : i < m) (hun : listed.getD i true = false) {j : Nat} (hj : j ∈ Region.ready md ops listed) : j < m := by
 simp only [tailOk, Bool.or_eq_true, beq_iff_eq, Bool.and_eq_true, decide_eq_true_eq] at ht
 rcases ht with h | ⟨⟨hn, hs⟩, hc⟩
 ·obtain ⟨_, o, ho, _⟩ := mem_ready.1 hj
  rw [h]; exact (Array.getElem?_eq_some_iff.1 ho).1
 ·rcases Nat.lt_or_ge j m with h | h
  ·exact h
  ·exact absurd hj (tail_waits hs hc hn inv _ i rfl hi hun j h)

theorem wpD_first {m i : Nat} {oi : Oper} {v : Value} {L : Array Bool → Act → Prop} (hi : ops[i]? = some oi) (hsel : ∀ (j : Nat) (o : Oper) cs b, ops[j]? = some o → o.op ≠ .select cs b)
  (ht : tailOk md ops m = true) (hin : i < m)
  (hdone : ∀ listed a, L listed a → ∀ j ∈ Region.ready md ops listed, m ≤ j) :
  ∀ (f : Nat) (listed : Array Bool) (a : Act), HeadInv md ops m listed →
   (∀ j oj, ops[j]? = some oj → j ≠ i → listed.getD j true = false → (∀ e ∈ oj.after, Region.binds md e = true → e.on ≠ i) → oi.apart ops oj = true) →
   i ∈ Region.ready md ops listed → YD P ops S ks oi v a →
   wpD P md ops S ks m L f (listed.setIfInBounds i true) (a.put (hdst oi) v) → wpD P md ops S ks m L (f + 1) listed a := by
 intro f
 induction f with
 | zero =>
  intro listed a inv _ hr hy H
  have hun := (mem_ready.1 hr).1
  refine ⟨fun h => (by rw [h] at hr; cases hr), fun j hj => ?_⟩
  have hjn : j < m := tail_lt ht inv hin hun hj
  refine ⟨hjn, ?_⟩
  by_cases hji : j = i
  ·subst hji; exact dOp_of hi hy H
  ·have := hdone _ _ H j (ready_mono hj hji)
   omega
 | succ f ih =>
  intro listed a inv hfree hr hy H
  have hun := (mem_ready.1 hr).1
  refine ⟨fun h => (by rw [h] at hr; cases hr), fun j hj => ?_⟩
  have hjn : j < m := tail_lt ht inv hin hun hj
  refine ⟨hjn, ?_⟩
  by_cases hji : j = i
  ·subst hji; exact dOp_of hi hy H
  ·have h1 := (H.2 j (ready_mono hj hji)).2
   obtain ⟨hjun, oj, hoj, hall⟩ := mem_ready.1 hj
   have hnot : ∀ e ∈ oj.after, Region.binds md e = true → e.on ≠ i := fun e he hb heq => by
    have h1 := hall e he hb
    rw [heq, getD_both hun] at h1
    cases h1
   have h2 := dOp_put hoj (hfree j oj hoj hji hjun hnot) (fun cs b => hsel i oi cs b hi) (fun cs b => hsel j oj cs b hoj) hy h1
   have hfree' : ∀ k ok, ops[k]? = some ok → k ≠ i → (listed.setIfInBounds j true).getD k true = false →
     (∀ e ∈ ok.after, Region.binds md e = true → e.on ≠ i) → oi.apart ops ok = true := fun k ok hk hki hun hno => by
    refine hfree k ok hk hki ?_ hno
    by_cases hjk : j = k
    ·subst hjk; exact hjun
    ·rw [getD_set_ne true hjk] at hun; exact hun
   refine dOp_mono (fun a' h3 => ih (listed.setIfInBounds j true) a' (inv.set hj hjn) hfree' (ready_mono hr (Ne.symm hji)) h3.1 ?_) h2
   rw [Array.setIfInBounds_comm _ _ hji]
   exact h3.2

/-- THE WALK of the head, in the text's order -/
def held (P : Program) (ops : Array Oper) (S : World → Prop) (ks : List OVar) (fin : Act → Prop) : List Oper → Act → Prop
 | [], a => fin a
 | o :: rest, a => ∃ v, YD P ops S ks o v a ∧ held P ops S ks fin rest (a.put (hdst o) v)

theorem wpD_lex {m g : Nat} {fin : Act → Prop} (hsel : Region.noSelect ops = true) (ht : tailOk md ops m = true) :
  ∀ (l : List Oper) (k : Nat) (listed : Array Bool) (a : Act), (∀ j, j < l.length → l[j]? = ops[k + j]?) → k + l.length = m → HeadInv md ops m listed → (∀ i, i < k → i < ops.size → listed.getD i false = true) →
  Region.lexHead md ops g l.length k listed = true → held P ops S ks fin l a →
  wpD P md ops S ks m (fun listed' a' => Region.seqB md ops g m listed' = true ∧ (∀ i, i < m → i < ops.size → listed'.getD i false = true) ∧ fin a') l.length listed a
 | [], k, listed, a, _, hk, _, hl, hB, h => by
  have : k = m := by simpa using hk
  subst this
  exact ⟨by simpa [Region.lexHead] using hB, hl, h⟩
 | o :: l, k, listed, a, hl, hk, inv, hls, hB, h => by
  have h0 : ops[k]? = some o := by simpa using (hl 0 (by simp)).symm
  simp only [List.length_cons, Region.lexHead, Bool.and_eq_true] at hB
  obtain ⟨⟨hr, hf⟩, hB'⟩ := hB
  have hkn : k < m := by simp only [List.length_cons] at hk; omega
  have hr' : k ∈ Region.ready md ops listed := by simpa using hr
  obtain ⟨v, hy, hK⟩ := h
  refine wpD_first h0 (Region.noSelect_spec hsel) ht hkn (fun listed' a' hL => seqB_ready hL.1) l.length listed a inv (Region.free_spec h0 hf) hr' hy
   (wpD_lex hsel ht l (k + 1) _ _ (fun j hj => by have := hl (j + 1) (by simp; omega); simpa [Nat.add_assoc, Nat.add_comm 1 j] using this) (by simp only [List.length_cons] at hk; omega) (inv.set hr' hkn) (fun i hi his => ?_) hB' hK)
  by_cases hik : k = i
  ·subst hik
   have hlt : k < listed.size := by rw [inv.size]; exact his
   simp [hlt]
  ·exact getD_set_true (hls i (by omega) his)

/-! what has been laid -/
def overs (a : Act) (σ : List (OVar × Nat)) : Act := σ.foldl (fun a e => a.put (some e.1.1) (.pointer (some ⟨e.2, 0, none⟩))) a
theorem overs_snoc (a : Act) (σ : List (OVar × Nat)) (e : OVar × Nat) : overs a (σ ++ [e]) = (overs a σ).put (some e.1.1) (.pointer (some ⟨e.2, 0, none⟩)) := by simp [overs, List.foldl_append]
theorem overs_put : ∀ (σ : List (OVar × Nat)) (a : Act) (t : Option Tmp) (v : Value), (∀ e ∈ σ, t ≠ some e.1.1) → overs (a.put t v) σ = (overs a σ).put t v
 | [], _, _, _, _ => rfl
 | e :: σ, a, t, v, h => by
  show overs ((a.put t v).put (some e.1.1) _) σ = (overs (a.put (some e.1.1) _) σ).put t v
  rw [Act.put_comm a v _ (fun d hd he => h e (by simp) (by rw [hd, he])), overs_put σ _ t v (fun e' he' => h e' (by simp [he']))]
theorem overs_perm {σ τ : List (OVar × Nat)} (h : σ.Perm τ) : (σ.map (·.1.1)).Nodup → ∀ a, overs a σ = overs a τ := by
 induction h with
 | nil => intro _ a; rfl
 | cons x _ ih => intro hn a; exact ih (by simp at hn; exact hn.2) _
 | swap x y l =>
  intro hn a
  simp at hn
  show overs ((a.put _ _).put _ _) l = overs ((a.put _ _).put _ _) l
  rw [Act.put_comm a _ _ (fun d hd he => hn.1.1 (by cases hd; exact Option.some.inj he.symm))]
 | trans h1 _ ih1 ih2 => intro hn a; rw [ih1 hn, ih2 ((h1.map (·.1.1)).nodup_iff.1 hn)]

def OkO (N : Nat) (σ : List (OVar × Nat)) (W : World) : Prop := ∀ e ∈ σ, Box W e.2 e.1.2.1 e.1.2.2 ∧ N ≤ e.2
theorem OkO.below {N : Nat} {σ : List (OVar × Nat)} {W W' : World} (h : OkO N σ W) (hb : Below W.heap.size W W') : OkO N σ W' := fun e he => ⟨(h e he).1.below' hb, (h e he).2⟩

/-- no operation of the head looks at an own variable or writes where it stands -/
def cleanB (ops : Array Oper) (m : Nat) : Bool := (List.range m).all fun k => match ops[k]? with
 | some ok => !isAlloc ok || (List.range m).all fun i => i == k || match ops[i]? with
  | some oi => ok.apart ops oi
  | none => true
 | none => true
theorem clean_spec {m : Nat} (h : cleanB ops m = true) {k i : Nat} {ok oi : Oper} (hk : k < m) (hi : i < m) (hok : ops[k]? = some ok) (hoi : ops[i]? = some oi) (ha : isAlloc ok = true) (hne : i ≠ k) : ok.apart ops oi = true := by
 have h1 := List.all_eq_true.1 h k (List.mem_range.2 hk)
 simp only [hok, ha, Bool.not_true, Bool.false_or] at h1
 have h2 := List.all_eq_true.1 h1 i (List.mem_range.2 hi)
 simpa [hoi, hne] using h2

structure Laid (ops : Array Oper) (ks : List OVar) (m : Nat) (listed : Array Bool) (σ : List (OVar × Nat)) : Prop where
 nodup : (σ.map (·.1.1)).Nodup
 mem : ∀ t, t ∈ σ.map (·.1.1) ↔ ∃ k o, k < m ∧ ops[k]? = some o ∧ isAlloc o = true ∧ listed.getD k false = true ∧ o.dst = some t
 inks : ∀ e ∈ σ, e.1 ∈ ks

/-- how a region's operations are stepped through -/
structure Stepper (P : Program) (md : Region.Mode) (ops : Array Oper) where
 step : Nat → (Act → World → Prop) → Act → World → Prop
 all : Nat → Array Bool → Act → World → Prop
 value : ∀ {i o a W v W' K}, ops[i]? = some o → Region.wanted o (yielded ops a.tmps) = true → (execOp a.eval o).run P W = .ok (.value v) W' → K (a.put o.dst v) W' → step i K a W
 skip : ∀ {i o a W W' K}, ops[i]? = some o → Region.wanted o (yielded ops a.tmps) = true → (execOp a.eval o).run P W = .ok .skip W' → K (a.put o.dst undef) W' → step i K a W
 enter : ∀ {i o a W f args W' v} {R : World → Prop} {K}, ops[i]? = some o → Region.wanted o (yielded ops a.tmps) = true → (execOp a.eval o).run P W = .ok (.enter f args) W' → Calls P f args W' (fun e W'' => e = .returned v ∧ R W'') → (∀ W'', R W'' → K (a.put o.dst v) W'') → step i K a W
 unwanted : ∀ {i o a W K}, ops[i]? = some o → Region.wanted o (yielded ops a.tmps) = false → K (a.put o.dst undef) W → step i K a W
 next : ∀ {f listed a W}, Region.ready md ops listed ≠ [] → (∀ i ∈ Region.ready md ops listed, step i (all f (listed.setIfInBounds i true)) a W) → all (f + 1) listed a W

theorem overs_exec {o : Oper} (hs : ∀ cs b, o.op ≠ .select cs b) : ∀ (σ : List (OVar × Nat)) (a : Act), (∀ e ∈ σ, e.1.1 ∉ o.looksAt ops) → execOp (overs a σ).eval o = execOp a.eval o ∧ Region.wanted o (yielded ops (overs a σ).tmps) = Region.wanted o (yielded ops a.tmps)
 | [], _, _ => ⟨rfl, rfl⟩
 | e :: σ, a, h => by
  obtain ⟨h1, h2⟩ := overs_exec hs σ (a.put (some e.1.1) (.pointer (some ⟨e.2, 0, none⟩))) (fun e' he' => h e' (by simp [he']))
  have h3 : ∀ d, some e.1.1 = some d → d ∉ o.looksAt ops := fun d hd => by cases hd; exact h e (by simp)
  exact ⟨h1.trans (execOp_put o hs a _ _ h3), h2.trans (wanted_put o a _ _ h3)⟩

theorem held_sound (T : Stepper P md ops) {m g N : Nat} (hsel : Region.noSelect ops = true) (hclean : cleanB ops m = true) (hSc : ∀ W W', S W → Below W.heap.size W W' → S W') (hSN : ∀ W, S W → N ≤ W.heap.size)
  {L : Array Bool → Act → Prop} (hL : ∀ listed a σ W, L listed a → S W → OkO N σ W → Laid ops ks m listed σ → T.all g listed (overs a σ) W) :
  ∀ (f : Nat) (listed : Array Bool) (a : Act) (σ : List (OVar × Nat)) (W : World), listed.size = ops.size → wpD P md ops S ks m L f listed a → S W → OkO N σ W → Laid ops ks m listed σ → T.all (f + g) listed (overs a σ) W
 | 0, listed, a, σ, W, _, h, hS, hO, hσ => by rw [Nat.zero_add]; exact hL _ _ _ _ h hS hO hσ
 | f + 1, listed, a, σ, W, hsz, h, hS, hO, hσ => by
  rw [show f + 1 + g = (f + g) + 1 by omega]
  refine T.next h.1 fun i hi => ?_
  obtain ⟨him, hd⟩ := h.2 i hi
  obtain ⟨hun, o, ho, _⟩ := mem_ready.1 hi
  have hs := fun cs b => Region.noSelect_spec hsel i o cs b ho
  have hil : i < ops.size := (Array.getElem?_eq_some_iff.1 ho).1
  unfold dOp at hd
  simp only [ho] at hd
  obtain ⟨v, hy, hK⟩ := hd
  have hapart : ∀ e ∈ σ, ∃ ok : Oper, ok.apart ops o = true ∧ ok.dst = some e.1.1 := fun e he => by
   obtain ⟨k, ok, hk, hok, ha, hl, hdst⟩ := (hσ.mem e.1.1).1 (List.mem_map_of_mem he)
   have hne : i ≠ k := fun e' => by subst e'; rw [getD_both hun] at hl; cases hl
   exact ⟨ok, clean_spec hclean hk him hok ho ha hne, hdst⟩
  have hlook : ∀ e ∈ σ, e.1.1 ∉ o.looksAt ops := fun e he => by
   obtain ⟨ok, hap, hdst⟩ := hapart e he
   exact (Oper.apart_spec hap).1 _ hdst
  have hdne : ∀ e ∈ σ, o.dst ≠ some e.1.1 := fun e he => by
   obtain ⟨ok, hap, hdst⟩ := hapart e he
   exact (Oper.apart_spec hap).2.1 _ hdst
  obtain ⟨hex, hwa⟩ := overs_exec hs σ a hlook
  have hset : ∀ k, (listed.setIfInBounds i true).getD k false = true ↔ k = i ∨ listed.getD k false = true := fun k => by
   by_cases hki : i = k
   ·subst hki
    have : i < listed.size := by omega
    simp [this]
   ·rw [getD_set_ne false hki]
    exact ⟨.inr, fun h => h.resolve_left (fun e => hki e.symm)⟩
  rcases hy with ⟨ha, rfl, hg, e, he, hde, hrun⟩ | ⟨ha, hw, hrun⟩ | ⟨ha, hw, hvu⟩
  ·-- an own variable
   have hput : a.put (hdst o) undef = a := by unfold hdst; rw [if_pos ha]; rfl
   rw [hput] at hK
   have hw : Region.wanted o (yielded ops (overs a σ).tmps) = true := by unfold Region.wanted; rw [hg]
   refine T.value ho hw (hrun _ _) ?_
   have h1 : (overs a σ).put o.dst (.pointer (some ⟨W.heap.size, 0, none⟩)) = overs a (σ ++ [(e, W.heap.size)]) := by rw [overs_snoc, hde]
   rw [h1]
   have hB : Below W.heap.size W (W.alloc (.cells e.2.1 e.2.2)) := (Below.refl _ W).alloc (Nat.le_refl _) _
   refine held_sound T hsel hclean hSc hSN hL f _ a _ _ (by simp [hsz]) hK (hSc _ _ hS hB) ?_ ⟨?_, fun t => ?_, ?_⟩
   ·intro e' he'
    rcases List.mem_append.1 he' with h2 | h2
    ·exact hO.below hB e' h2
    ·simp at h2; subst h2; exact ⟨Box.new _ _ _, hSN _ hS⟩
   ·rw [List.map_append, List.nodup_append]
    refine ⟨hσ.nodup, by simp, fun t ht u hu heq => ?_⟩
    simp at hu
    subst heq
    obtain ⟨e', he', hte⟩ := List.mem_map.1 ht
    exact hdne e' he' (by rw [hde, hte, hu])
   ·rw [List.map_append, List.mem_append, hσ.mem]
    constructor
    ·rintro (⟨k, ok, h1, h2, h3, h4, h5⟩ | h2)
     ·exact ⟨k, ok, h1, h2, h3, (hset k).2 (.inr h4), h5⟩
     ·simp at h2; subst h2; exact ⟨i, o, him, ho, ha, (hset i).2 (.inl rfl), hde⟩
    ·rintro ⟨k, ok, h1, h2, h3, h4, h5⟩
     rcases (hset k).1 h4 with rfl | h4
     ·rw [ho] at h2; cases h2; rw [hde] at h5; cases h5; exact .inr (by simp)
     ·exact .inl ⟨k, ok, h1, h2, h3, h4, h5⟩
   ·intro e' he'
    rcases List.mem_append.1 he' with h2 | h2
    ·exact hσ.inks e' h2
    ·simp at h2; subst h2; exact he
  all_goals
   have hput : a.put (hdst o) v = a.put o.dst v := by unfold hdst; rw [if_neg (by simp [ha])]
   have hσ' : Laid ops ks m (listed.setIfInBounds i true) σ := ⟨hσ.nodup, fun t => by
    rw [hσ.mem]
    constructor
    ·rintro ⟨k, ok, h1, h2, h3, h4, h5⟩; exact ⟨k, ok, h1, h2, h3, (hset k).2 (.inr h4), h5⟩
    ·rintro ⟨k, ok, h1, h2, h3, h4, h5⟩
     rcases (hset k).1 h4 with rfl | h4
     ·rw [ho] at h2; cases h2; rw [ha] at h3; cases h3
     ·exact ⟨k, ok, h1, h2, h3, h4, h5⟩, hσ.inks⟩
   rw [hput] at hK
   have hgo : ∀ W', S W' → OkO N σ W' → T.all (f + g) (listed.setIfInBounds i true) ((overs a σ).put o.dst v) W' := fun W' hS' hO' => by
    rw [← overs_put σ a o.dst v hdne]
    exact held_sound T hsel hclean hSc hSN hL f _ _ σ W' (by simp [hsz]) hK hS' hO' hσ'
  ·have hr := hrun W hS
   rw [← hex] at hr
   rw [← hwa] at hw
   generalize hq : (execOp (overs a σ).eval o).run P W = r at hr
   cases r with
   | ok x W' =>
    cases x <;> simp only [HeldRes] at hr
    case value u => obtain ⟨rfl, rfl⟩ := hr; exact T.value ho hw hq (hgo _ hS hO)
    case skip => obtain ⟨rfl, rfl⟩ := hr; exact T.skip ho hw hq (hgo _ hS hO)
    case enter f' args => obtain ⟨rfl, hc⟩ := hr; exact T.enter ho hw hq hc (fun W'' hb => hgo W'' (hSc _ _ hS hb) (hO.below hb))
   | halt x W' => simp only [HeldRes] at hr
  ·rw [← hwa] at hw
   rw [hvu] at hgo
   exact T.unwanted ho hw (hgo _ hS hO)

/-- the own variables that the head lays, in the text's order -/
def allocDsts (ops : Array Oper) (m : Nat) : List Tmp := (List.range m).filterMap fun k => match ops[k]? with
 | some o => if isAlloc o then o.dst else none
 | none => none
theorem key_inj : ∀ (ks : List OVar), (ks.map (·.1)).Nodup → ∀ e ∈ ks, ∀ e' ∈ ks, e.1 = e'.1 → e = e'
 | [], _, _, he, _, _, _ => by cases he
 | x :: l, hn, e, he, e', he', heq => by
  simp only [List.map_cons, List.nodup_cons] at hn
  rcases List.mem_cons.1 he with h1 | h1
  ·rcases List.mem_cons.1 he' with h2 | h2
   ·rw [h1, h2]
   ·exact absurd (h1 ▸ heq ▸ List.mem_map_of_mem (f := (·.1)) h2) hn.1
  ·rcases List.mem_cons.1 he' with h2 | h2
   ·exact absurd (h2 ▸ heq ▸ List.mem_map_of_mem (f := (·.1)) h1) hn.1
   ·exact key_inj l hn.2 e h1 e' h2 heq
theorem perm_lift {α β : Type} {f : α → β} {l ks : List β} (h : l.Perm ks) : ∀ σ : List α, σ.map f = l → ∃ τ, σ.Perm τ ∧ τ.map f = ks := by
 induction h with
 | nil => intro σ h; exact ⟨σ, .refl _, h⟩
 | cons x _ ih =>
  intro σ h
  cases σ with
  | nil => cases h
  | cons a σ =>
   simp only [List.map_cons, List.cons.injEq] at h
   obtain ⟨τ, h1, h2⟩ := ih σ h.2
   exact ⟨a :: τ, h1.cons a, by simp [h.1, h2]⟩
 | swap x y l =>
  intro σ h
  match σ, h with
  | a :: b :: σ, h =>
   simp only [List.map_cons, List.cons.injEq] at h
   exact ⟨b :: a :: σ, .swap b a σ, by simp [h]⟩
 | trans _ _ ih1 ih2 =>
  intro σ h
  obtain ⟨τ, h1, h2⟩ := ih1 σ h
  obtain ⟨ρ, h3, h4⟩ := ih2 τ h2
  exact ⟨ρ, h1.trans h3, h4⟩
theorem nodup_of_map {α β : Type} (f : α → β) : ∀ l : List α, (l.map f).Nodup → l.Nodup
 | [], _ => List.nodup_nil
 | x :: l, h => by
  simp only [List.map_cons, List.nodup_cons] at h ⊢
  exact ⟨fun hx => h.1 (List.mem_map_of_mem hx), nodup_of_map f l h.2⟩
theorem laid_all {m : Nat} {listed : Array Bool} {σ : List (OVar × Nat)} (h : Laid ops ks m listed σ) (hl : ∀ i, i < m → i < ops.size → listed.getD i false = true) (hk : allocDsts ops m = ks.map (·.1)) (hn : (ks.map (·.1)).Nodup) :
  ∃ τ, σ.Perm τ ∧ τ.map (·.1) = ks := by
 have hmem : ∀ t, t ∈ σ.map (·.1.1) ↔ t ∈ ks.map (·.1) := fun t => by
  rw [h.mem, ← hk, allocDsts, List.mem_filterMap]
  constructor
  ·rintro ⟨k, o, h1, h2, h3, _, h5⟩
   exact ⟨k, List.mem_range.2 h1, by simp [h2, h3, h5]⟩
  ·rintro ⟨k, h1, h2⟩
   have h1 := List.mem_range.1 h1
   cases ho : ops[k]? with
   | none => simp [ho] at h2
   | some o =>
    simp only [ho] at h2
    split at h2
    ·rename_i ha
     exact ⟨k, o, h1, ho, ha, hl k h1 (Array.getElem?_eq_some_iff.1 ho).1, h2⟩
    ·cases h2
 have hn1 : (σ.map (·.1)).Nodup := nodup_of_map (·.1) _ (by rw [List.map_map]; exact h.nodup)
 refine perm_lift ((List.perm_ext_iff_of_nodup hn1 (nodup_of_map (·.1) _ hn)).2 fun e => ⟨fun he => ?_, fun he => ?_⟩) σ rfl
 ·obtain ⟨x, hx, rfl⟩ := List.mem_map.1 he
  exact h.inks x hx
 ·obtain ⟨x, hx, hxe⟩ := List.mem_map.1 ((hmem e.1).2 (List.mem_map_of_mem he))
  rw [← key_inj ks hn _ (h.inks x hx) _ he hxe]
  exact List.mem_map_of_mem hx
theorem overs_laid {m : Nat} {listed : Array Bool} {σ : List (OVar × Nat)} {N : Nat} {W : World} {fin : Act → World → Prop} {a : Act} (h : Laid ops ks m listed σ) (hl : ∀ i, i < m → i < ops.size → listed.getD i false = true) (hk : allocDsts ops m = ks.map (·.1)) (hn : (ks.map (·.1)).Nodup)
  (hO : OkO N σ W) (hf : ∀ τ : List (OVar × Nat), τ.map (·.1) = ks → OkO N τ W → fin (overs a τ) W) : fin (overs a σ) W := by
 obtain ⟨τ, h1, h2⟩ := laid_all h hl hk hn
 rw [overs_perm h1 h.nodup a]
 exact hf τ h2 fun e he => hO e (h1.mem_iff.2 he)

/-- the two ways to step -/
def stepper : Stepper P md ops → Stepper P md ops := id
def plainStepper (P : Program) (md : Region.Mode) (ops : Array Oper) (Q : Exit → Act → World → Prop) : Stepper P md ops where
 step := wpOp P ops Q
 all := wpAny P md ops Q
 value := fun {i o a W v W' K} ho hw hr hk => by unfold wpOp; simp only [ho, hw, if_true]; exact .inl (by unfold Oper.wp; rw [hr]; exact hk)
 skip := fun {i o a W W' K} ho hw hr hk => by unfold wpOp; simp only [ho, hw, if_true]; exact .inl (by unfold Oper.wp; rw [hr]; exact hk)
 enter := fun {i o a W f args W' v R K} ho hw hr hc hk => by
  unfold wpOp; simp only [ho, hw, if_true]
  exact .inl (by unfold Oper.wp; rw [hr]; exact hc.mono fun e w'' ⟨he, hw⟩ => by subst he; exact hk _ hw)
 unwanted := fun {i o a W K} ho hw hk => by unfold wpOp; simp only [ho, hw]; exact hk
 next := fun {f listed a W} h0 h => ⟨fun h1 => absurd h1 h0, h⟩
def fenceStepper (F : Fence) (n : Nat) (hF : ∀ f, F.fn f) (hdep : F.depth = none) (hC : ∀ {f args w R}, Calls P f args w R → CallsIn F (n - 1) P f args w R) (hd : noDefer ops = true) (md : Region.Mode) (Q : Exit → Act → World → Prop) : Stepper P md ops where
 step := wpOpIn F n P ops Q
 all := wpAnyIn F n P md ops Q
 value := fun {i o a W v W' K} ho hw hr hk => by
  unfold wpOpIn; simp only [ho, hw, if_true]
  exact ⟨fun f _ => hF f, by rw [Oper.semAt_plain _ _ _ (noDefer_at hd ho), hr]; exact hk⟩
 skip := fun {i o a W W' K} ho hw hr hk => by
  unfold wpOpIn; simp only [ho, hw, if_true]
  exact ⟨fun f _ => hF f, by rw [Oper.semAt_plain _ _ _ (noDefer_at hd ho), hr]; exact hk⟩
 enter := fun {i o a W f args W' v R K} ho hw hr hc hk => by
  unfold wpOpIn; simp only [ho, hw, if_true]
  refine ⟨fun f _ => hF f, ?_⟩
  rw [Oper.semAt_plain _ _ _ (noDefer_at hd ho), hr]
  exact ⟨fun hx => (by rw [hdep] at hx; cases hx), hC (hc.mono fun e w'' ⟨he, hw⟩ => by subst he; exact hk _ hw)⟩
 unwanted := fun {i o a W K} ho hw hk => by unfold wpOpIn; simp only [ho, hw]; exact ⟨fun f _ => hF f, hk⟩
 next := fun {f listed a W} h0 h => ⟨fun h1 => absurd h1 h0, h⟩

/-- what is asked of a region's form: the first m operations come in whatever order, the others one behind the other -/
def heldOk (md : Region.Mode) (ops : Array Oper) (m : Nat) : Bool :=
 Region.noSelect ops && decide (m ≤ ops.size) && tailOk md ops m && cleanB ops m && Region.lexHead md ops (ops.size - m) m 0 (Array.replicate ops.size false)

theorem held_all (T : Stepper P md ops) {l : List Oper} (hl : ops = l.toArray) {m N : Nat} {tail : Act → World → Prop} (hB : heldOk md ops m = true) (hk : allocDsts ops m = ks.map (·.1)) (hn : (ks.map (·.1)).Nodup)
  (hSc : ∀ W W', S W → Below W.heap.size W W' → S W') (hSN : ∀ W, S W → N ≤ W.heap.size)
  (hT : ∀ listed a W, Region.seqB md ops (ops.size - m) m listed = true → tail a W → T.all (ops.size - m) listed a W) {a : Act} {W : World} (hS : S W)
  (h : held P ops S ks (fun a' => ∀ τ : List (OVar × Nat), τ.map (·.1) = ks → ∀ W, S W → OkO N τ W → tail (overs a' τ) W) (l.take m) a) : T.all ops.size (Array.replicate ops.size false) a W := by
 simp only [heldOk, Bool.and_eq_true, decide_eq_true_eq] at hB
 obtain ⟨⟨⟨⟨hsel, hm⟩, ht⟩, hc⟩, hlex⟩ := hB
 have hml : m ≤ l.length := by rw [hl] at hm; simpa using hm
 have htl : (l.take m).length = m := by simp; omega
 have inv0 : HeadInv md ops m (Array.replicate ops.size false) :=
  ⟨by simp, fun j oj _ hl => (by rw [getD_replicate_false] at hl; cases hl), fun t _ ht => getD_in (by simpa using ht) (getD_replicate_false _ _)⟩
 have H := wpD_lex (md := md) (g := ops.size - m) hsel ht (l.take m) 0 _ a (fun j hj => by
  have hj' : j < m := by rw [htl] at hj; exact hj
  rw [hl]; simp [hj']) (by simpa using htl) inv0 (fun i hi => absurd hi (Nat.not_lt_zero i)) (by rw [htl]; exact hlex) h
 have := held_sound T (g := ops.size - m) hsel hc hSc hSN (fun listed a σ W hL hS hO hσ => hT listed _ W hL.1 (overs_laid (fin := tail) hσ hL.2.1 hk hn hO (fun τ h1 h2 => hL.2.2 τ h1 W hS h2))) _ _ a [] W (by simp) H hS (fun e he => by cases he)
  ⟨by simp, fun t => ⟨fun h => by simp at h, fun ⟨k, o, _, _, _, h4, _⟩ => by rw [getD_replicate_false] at h4; cases h4⟩, fun e he => by cases he⟩
 rw [htl, show m + (ops.size - m) = ops.size by omega] at this
 exact this
end

section
variable {P : Program} {S : World → Prop}
/-- THE LAW -/
theorem wp_region_held {id : Nat} {Q : Exit → Act → World → Prop} {a : Act} {w : World} {l : List Oper} (m : Nat) (ks : List OVar) (N : Nat) (S : World → Prop) (hm : P.follows .mixedOrders = true) (hB : heldOk .any l.toArray m = true) (hk : allocDsts l.toArray m = ks.map (·.1)) (hn : (ks.map (·.1)).Nodup)
  (hSc : ∀ W W', S W → Below W.heap.size W W' → S W') (hSN : ∀ W, S W → N ≤ W.heap.size) (hS : S w.drew)
  (h : held P l.toArray S ks (fun a' => ∀ τ : List (OVar × Nat), τ.map (·.1) = ks → ∀ W, S W → OkO N τ W → wpList P l.toArray Q (l.drop m) (overs a' τ) W) (l.take m) a) : (Code.region id l.toArray true).wp P Q a w := by
 have hml : m ≤ l.length := by
  simp only [heldOk, Bool.and_eq_true, decide_eq_true_eq] at hB; simpa using hB.1.1.1.2
 have hdl : (l.drop m).length = l.toArray.size - m := by simp
 refine wp_region_any hm (held_all (plainStepper P .any l.toArray Q) rfl hB hk hn hSc hSN (tail := fun a W => wpList P l.toArray Q (l.drop m) a W) (fun listed a' W hL ht => ?_) hS h)
 have := wpAny_of_seq (md := .any) (Q' := Q) (l.drop m) m listed a' W (fun j => by simp [List.getElem?_drop]) (by rw [hdl]; exact hL) ht
 rwa [hdl] at this
theorem wpIn_region_heldF (F : Fence) (n : Nat) (hF : ∀ f, F.fn f) (hdep : F.depth = none) (hC : ∀ {f args w R}, Calls P f args w R → CallsIn F (n - 1) P f args w R) {id : Nat} {Q : Exit → Act → World → Prop} {a : Act} {w : World} {l : List Oper} (m : Nat) (ks : List OVar) (N : Nat) (S : World → Prop) (hm : P.follows .mixedOrders = true) (hd : noDefer l.toArray = true) (hB : heldOk .any l.toArray m = true) (hk : allocDsts l.toArray m = ks.map (·.1)) (hn : (ks.map (·.1)).Nodup)
  (hSc : ∀ W W', S W → Below W.heap.size W W' → S W') (hSN : ∀ W, S W → N ≤ W.heap.size) (hS : S w.drew)
  (h : held P l.toArray S ks (fun a' => ∀ τ : List (OVar × Nat), τ.map (·.1) = ks → ∀ W, S W → OkO N τ W → wpListIn F n P l.toArray Q (l.drop m) (overs a' τ) W) (l.take m) a) : (Code.region id l.toArray true).wpIn F n P Q a w := by
 have hml : m ≤ l.length := by
  simp only [heldOk, Bool.and_eq_true, decide_eq_true_eq] at hB; simpa using hB.1.1.1.2
 have hdl : (l.drop m).length = l.toArray.size - m := by simp
 refine wpIn_region_any hm (held_all (fenceStepper F n hF hdep hC hd .any Q) rfl hB hk hn hSc hSN (tail := fun a W => wpListIn F n P l.toArray Q (l.drop m) a W) (fun listed a' W hL ht => ?_) hS h)
 have := wpAnyIn_of_seq (F := F) (n := n) (md := .any) (Q' := Q) (l.drop m) m listed a' W (fun j => by simp [List.getElem?_drop]) (by rw [hdl]; exact hL) ht
 rwa [hdl] at this
/-- outside a round -/
theorem wpIn_region_held {id : Nat} {Q : Exit → Act → World → Prop} {a : Act} {w : World} {l : List Oper} (m : Nat) (ks : List OVar) (N : Nat) (S : World → Prop) (hm : P.follows .mixedOrders = true) (hd : noDefer l.toArray = true) (hB : heldOk .any l.toArray m = true) (hk : allocDsts l.toArray m = ks.map (·.1)) (hn : (ks.map (·.1)).Nodup)
  (hSc : ∀ W W', S W → Below W.heap.size W W' → S W') (hSN : ∀ W, S W → N ≤ W.heap.size) (hS : S w.drew)
  (h : held P l.toArray S ks (fun a' => ∀ τ : List (OVar × Nat), τ.map (·.1) = ks → ∀ W, S W → OkO N τ W → wpListIn Fence.wide 0 P l.toArray Q (l.drop m) (overs a' τ) W) (l.take m) a) : (Code.region id l.toArray true).wpIn Fence.wide 0 P Q a w :=
 wpIn_region_heldF Fence.wide 0 (fun _ => trivial) rfl (fun h => callsIn_wide.2 h) m ks N S hm hd hB hk hn hSc hSN hS h
/-- within one -/
theorem wpIn_region_held_round {l0 : Nat} {id : Nat} {Q : Exit → Act → World → Prop} {a : Act} {w : World} {l : List Oper} (m : Nat) (ks : List OVar) (N : Nat) (S : World → Prop) (hm : P.follows .mixedOrders = true) (hd : noDefer l.toArray = true) (hB : heldOk .any l.toArray m = true) (hk : allocDsts l.toArray m = ks.map (·.1)) (hn : (ks.map (·.1)).Nodup)
  (hSc : ∀ W W', S W → Below W.heap.size W W' → S W') (hSN : ∀ W, S W → N ≤ W.heap.size) (hS : S w.drew)
  (h : held P l.toArray S ks (fun a' => ∀ τ : List (OVar × Nat), τ.map (·.1) = ks → ∀ W, S W → OkO N τ W → wpListIn (Fence.wide.inRound l0) 0 P l.toArray Q (l.drop m) (overs a' τ) W) (l.take m) a) : (Code.region id l.toArray true).wpIn (Fence.wide.inRound l0) 0 P Q a w :=
 wpIn_region_heldF (Fence.wide.inRound l0) 0 (fun _ => trivial) rfl (fun h => CallsIn.inRound l0 (callsIn_wide.2 h)) m ks N S hm hd hB hk hn hSc hSN hS h

/-- .. where all that is asked is that memory below stays -/
theorem wp_region_heldB {id : Nat} {Q : Exit → Act → World → Prop} {a : Act} {w : World} {l : List Oper} (m : Nat) (ks : List OVar) (hm : P.follows .mixedOrders = true) (hB : heldOk .any l.toArray m = true) (hk : allocDsts l.toArray m = ks.map (·.1)) (hn : (ks.map (·.1)).Nodup)
  (h : ∀ S : World → Prop, (∀ W, S W → Below w.heap.size w W) → held P l.toArray S ks (fun a' => ∀ τ : List (OVar × Nat), τ.map (·.1) = ks → ∀ W, S W → OkO w.heap.size τ W → wpList P l.toArray Q (l.drop m) (overs a' τ) W) (l.take m) a) : (Code.region id l.toArray true).wp P Q a w :=
 wp_region_held m ks w.heap.size (fun W => Below w.heap.size w W) hm hB hk hn (fun _ _ h hb => h.trans (hb.mono h.size)) (fun _ h => h.size) (Below.refl _ _).drew (h _ fun _ h => h)
theorem wpIn_region_heldB {id : Nat} {Q : Exit → Act → World → Prop} {a : Act} {w : World} {l : List Oper} (m : Nat) (ks : List OVar) (hm : P.follows .mixedOrders = true) (hd : noDefer l.toArray = true) (hB : heldOk .any l.toArray m = true) (hk : allocDsts l.toArray m = ks.map (·.1)) (hn : (ks.map (·.1)).Nodup)
  (h : ∀ S : World → Prop, (∀ W, S W → Below w.heap.size w W) → held P l.toArray S ks (fun a' => ∀ τ : List (OVar × Nat), τ.map (·.1) = ks → ∀ W, S W → OkO w.heap.size τ W → wpListIn Fence.wide 0 P l.toArray Q (l.drop m) (overs a' τ) W) (l.take m) a) : (Code.region id l.toArray true).wpIn Fence.wide 0 P Q a w :=
 wpIn_region_held m ks w.heap.size (fun W => Below w.heap.size w W) hm hd hB hk hn (fun _ _ h hb => h.trans (hb.mono h.size)) (fun _ h => h.size) (Below.refl _ _).drew (h _ fun _ h => h)
theorem wpIn_region_heldB_round {l0 : Nat} {id : Nat} {Q : Exit → Act → World → Prop} {a : Act} {w : World} {l : List Oper} (m : Nat) (ks : List OVar) (hm : P.follows .mixedOrders = true) (hd : noDefer l.toArray = true) (hB : heldOk .any l.toArray m = true) (hk : allocDsts l.toArray m = ks.map (·.1)) (hn : (ks.map (·.1)).Nodup)
  (h : ∀ S : World → Prop, (∀ W, S W → Below w.heap.size w W) → held P l.toArray S ks (fun a' => ∀ τ : List (OVar × Nat), τ.map (·.1) = ks → ∀ W, S W → OkO w.heap.size τ W → wpListIn (Fence.wide.inRound l0) 0 P l.toArray Q (l.drop m) (overs a' τ) W) (l.take m) a) : (Code.region id l.toArray true).wpIn (Fence.wide.inRound l0) 0 P Q a w :=
 wpIn_region_held_round m ks w.heap.size (fun W => Below w.heap.size w W) hm hd hB hk hn (fun _ _ h hb => h.trans (hb.mono h.size)) (fun _ h => h.size) (Below.refl _ _).drew (h _ fun _ h => h)

/-! its steps -/
variable {ops : Array Oper} {ks : List OVar} {fin : Act → Prop} {o : Oper} {rest : List Oper} {a : Act}
theorem held_val {v : Value} (hna : isAlloc o = false) (hw : Region.wanted o (yielded ops a.tmps) = true) (hr : ∀ W, S W → (execOp a.eval o).run P W = .ok (.value v) W) (h : held P ops S ks fin rest (a.put o.dst v)) : held P ops S ks fin (o :: rest) a :=
 ⟨v, .inr (.inl ⟨hna, hw, fun W hS => by rw [hr W hS]; exact ⟨rfl, rfl⟩⟩), by unfold hdst; rw [if_neg (by simp [hna])]; exact h⟩
theorem held_skip (hna : isAlloc o = false) (hw : Region.wanted o (yielded ops a.tmps) = true) (hr : ∀ W, S W → (execOp a.eval o).run P W = .ok .skip W) (h : held P ops S ks fin rest (a.put o.dst undef)) : held P ops S ks fin (o :: rest) a :=
 ⟨undef, .inr (.inl ⟨hna, hw, fun W hS => by rw [hr W hS]; exact ⟨rfl, rfl⟩⟩), by unfold hdst; rw [if_neg (by simp [hna])]; exact h⟩
theorem held_call {v : Value} {f : FuncId} {args : Array Value} (hna : isAlloc o = false) (hw : Region.wanted o (yielded ops a.tmps) = true) (hr : ∀ W, S W → (execOp a.eval o).run P W = .ok (.enter f args) W)
  (hc : ∀ W, S W → Calls P f args W fun e W' => e = .returned v ∧ Below W.heap.size W W') (h : held P ops S ks fin rest (a.put o.dst v)) : held P ops S ks fin (o :: rest) a :=
 ⟨v, .inr (.inl ⟨hna, hw, fun W hS => by rw [hr W hS]; exact ⟨rfl, hc W hS⟩⟩), by unfold hdst; rw [if_neg (by simp [hna])]; exact h⟩
theorem held_not (hna : isAlloc o = false) (hw : Region.wanted o (yielded ops a.tmps) = false) (h : held P ops S ks fin rest (a.put o.dst undef)) : held P ops S ks fin (o :: rest) a :=
 ⟨undef, .inr (.inr ⟨hna, hw, rfl⟩), by unfold hdst; rw [if_neg (by simp [hna])]; exact h⟩
theorem held_own {e : OVar} (ha : isAlloc o = true) (hg : o.guard = none) (he : e ∈ ks) (hd : o.dst = some e.1) (hr : ∀ (b : Act) (W : World), (execOp b.eval o).run P W = .ok (.value (.pointer (some ⟨W.heap.size, 0, none⟩))) (W.alloc (.cells e.2.1 e.2.2)))
  (h : held P ops S ks fin rest a) : held P ops S ks fin (o :: rest) a :=
 ⟨undef, .inl ⟨ha, rfl, hg, e, he, hd, hr⟩, by unfold hdst; rw [if_pos ha]; exact h⟩
theorem held_load {v p : Value} (ty : TypeId) (x : Operand) (hw : Region.wanted o (yielded ops a.tmps) = true) (ho : o.op = .load ty x) (hx : a.eval x = p) (hr : ∀ W, S W → (Instr.loadAt ty p).run P W = .ok v W) (h : held P ops S ks fin rest (a.put o.dst v)) : held P ops S ks fin (o :: rest) a :=
 held_val (by unfold isAlloc; rw [ho]) hw (fun W hS => by unfold execOp; simp only [ho, hx, Sem.run_bind, hr W hS, Result.andThen_ok, Sem.run_pure]) h
theorem laid0 {τ : List (OVar × Nat)} (h : τ.map (·.1) = []) : τ = [] := by simpa using h
theorem laid1 {τ : List (OVar × Nat)} {e : OVar} (h : τ.map (·.1) = [e]) : ∃ g, τ = [(e, g)] := by
 match τ, h with
 | [x], h => simp at h; subst h; exact ⟨x.2, rfl⟩
theorem laid2 {τ : List (OVar × Nat)} {e e' : OVar} (h : τ.map (·.1) = [e, e']) : ∃ g g', τ = [(e, g), (e', g')] := by
 match τ, h with
 | [x, y], h => simp at h; obtain ⟨rfl, rfl⟩ := h; exact ⟨x.2, y.2, rfl⟩
theorem OkO.one {N : Nat} {e : OVar} {g : Nat} {W : World} (h : OkO N [(e, g)] W) : Box W g e.2.1 e.2.2 ∧ N ≤ g := h (e, g) (by simp)
theorem OkO.two {N : Nat} {e e' : OVar} {g g' : Nat} {W : World} (h : OkO N [(e, g), (e', g')] W) : (Box W g e.2.1 e.2.2 ∧ N ≤ g) ∧ Box W g' e'.2.1 e'.2.2 ∧ N ≤ g' := ⟨h (e, g) (by simp), h (e', g') (by simp)⟩
theorem held_nil (h : fin a) : held P ops S ks fin [] a := h
end
end Go.Proofs.YthpjffhccjlnhaaGreatDoor
namespace Go.Proofs.YthpjffhccjlnhaaGreatDoor
open Go.RowKit

section
variable {P : Program} {md : Region.Mode} {ops : Array Oper} {Q : Exit → Act → World → Prop} {S : World → Prop} {m : Nat}

/-- whatever order is picked from here on, and S holds behind every operation but the last one -/
def wpAnyL (P : Program) (md : Region.Mode) (ops : Array Oper) (Q : Exit → Act → World → Prop) (S : World → Prop) (m : Nat) : Nat → Array Bool → Act → World → Prop
 | 0, listed, a, w => Region.ready md ops listed = [] ∧ Q .normal a w
 | fuel + 1, listed, a, w =>
  (Region.ready md ops listed = [] → Q .normal a w) ∧
  ∀ i ∈ Region.ready md ops listed, wpOp P ops Q i (fun a' w' => (i = m ∨ S w') ∧ wpAnyL P md ops Q S m fuel (listed.setIfInBounds i true) a' w') a w

theorem wpAny_of_L : ∀ (fuel : Nat) (listed : Array Bool) (a : Act) (w : World), wpAnyL P md ops Q S m fuel listed a w → wpAny P md ops Q fuel listed a w
 | 0, _, _, _, h => h
 | fuel + 1, _, _, _, h => ⟨h.1, fun i hi => wpOp_mono (fun a' w' h' => wpAny_of_L fuel _ a' w' h'.2) (h.2 i hi)⟩

/-- number m waits for all the others -/
def sinkL (md : Region.Mode) (ops : Array Oper) (m : Nat) : Bool := match ops[m]? with
 | none => true
 | some o => (List.range ops.size).all fun i => i == m || o.after.any fun e => Region.binds md e && e.on == i
theorem sinkL_spec (hs : sinkL md ops m = true) {listed : Array Bool} {i : Nat} (hi : i ∈ Region.ready md ops listed) (him : i ≠ m) : m ∉ Region.ready md ops listed := fun hm => by
 obtain ⟨_, om, hom, hall⟩ := mem_ready.1 hm
 obtain ⟨hun, oi, hoi, _⟩ := mem_ready.1 hi
 unfold sinkL at hs
 simp only [hom, List.all_eq_true, List.mem_range] at hs
 have h1 := hs i (Array.getElem?_eq_some_iff.1 hoi).1
 simp only [Bool.or_eq_true, beq_iff_eq, him, false_or] at h1
 obtain ⟨k, hk, hb, hon⟩ : ∃ (k : Nat) (hk : k < om.after.size), Region.binds md om.after[k] = true ∧ om.after[k].on = i := by simpa using h1
 have h3 := hall om.after[k] (Array.getElem_mem hk) hb
 rw [hon] at h3
 rcases Nat.lt_or_ge i listed.size with h' | h'
 ·simp [h'] at hun h3; rw [hun] at h3; cases h3
 ·simp [Array.getElem?_eq_none h'] at h3

theorem wpAnyL_first {i : Nat} {oi : Oper} {v : Value} (hsk : sinkL md ops m = true) (him : i ≠ m) (hi : ops[i]? = some oi) (hsel : ∀ (j : Nat) (o : Oper) cs b, ops[j]? = some o → o.op ≠ .select cs b)
  (hQ : ∀ c a w, Q (.panic c) (a.put oi.dst v) w → Q (.panic c) a w) :
  ∀ (fuel : Nat) (listed : Array Bool) (a : Act) (w : World),
   (∀ j oj, ops[j]? = some oj → j ≠ i → listed.getD j true = false → (∀ e ∈ oj.after, Region.binds md e = true → e.on ≠ i) → oi.apart ops oj = true) →
   i ∈ Region.ready md ops listed → YieldsIf P ops S oi v a → S w →
   wpAnyL P md ops Q S m fuel (listed.setIfInBounds i true) (a.put oi.dst v) w → wpAnyL P md ops Q S m (fuel + 1) listed a w := by
 intro fuel
 induction fuel with
 | zero =>
  intro listed a w _ hr hy hS H
  refine ⟨fun h => (by rw [h] at hr; cases hr), fun j hj => ?_⟩
  by_cases hji : j = i
  ·subst hji; exact hy.wpOp hi hS ⟨.inr hS, H⟩
  ·have := ready_mono hj hji
   rw [H.1] at this
   cases this
 | succ fuel ih =>
  intro listed a w hfree hr hy hS H
  refine ⟨fun h => (by rw [h] at hr; cases hr), fun j hj => ?_⟩
  by_cases hji : j = i
  ·subst hji; exact hy.wpOp hi hS ⟨.inr hS, H⟩
  ·have h1 := H.2 j (ready_mono hj hji)
   have hjm : j ≠ m := fun h => sinkL_spec hsk hr him (h ▸ hj)
   obtain ⟨hjun, oj, hoj, hall⟩ := mem_ready.1 hj
   have hnot : ∀ e ∈ oj.after, Region.binds md e = true → e.on ≠ i := fun e he hb heq => by
    have h1 := hall e he hb
    have h0 := (mem_ready.1 hr).1
    rw [heq] at h1
    rcases Nat.lt_or_ge i listed.size with h' | h'
    ·simp [h'] at h0 h1; rw [h0] at h1; cases h1
    ·simp [Array.getElem?_eq_none h'] at h1
   have h2 := wpOp_putIf hoj (hfree j oj hoj hji hjun hnot) (fun cs b => hsel i oi cs b hi) (fun cs b => hsel j oj cs b hoj) hQ hy h1
   have hfree' : ∀ k ok, ops[k]? = some ok → k ≠ i → (listed.setIfInBounds j true).getD k true = false →
     (∀ e ∈ ok.after, Region.binds md e = true → e.on ≠ i) → oi.apart ops ok = true := fun k ok hk hki hun hno => by
    refine hfree k ok hk hki ?_ hno
    by_cases hjk : j = k
    ·subst hjk; exact hjun
    ·rw [getD_set_ne true hjk] at hun; exact hun
   refine wpOp_mono (fun a' w' h3 => ?_) h2
   have hSw : S w' := h3.2.1.resolve_left hjm
   refine ⟨.inr hSw, ih (listed.setIfInBounds j true) a' w' hfree' (ready_mono hr (Ne.symm hji)) h3.1 hSw ?_⟩
   rw [Array.setIfInBounds_comm _ _ hji]
   exact h3.2.2

theorem at_list {i : Nat} {o : Oper} (h : ops.toList[i]? = some o) : ops[i]? = some o := by simpa using h
/-- a read, taken first -/
theorem anyL_take {i : Nat} {oi : Oper} {v : Value} {fuel : Nat} {listed : Array Bool} {a : Act} {w : World} (hsk : sinkL md ops m = true) (hi : ops.toList[i]? = some oi) (him : (i != m) = true)
  (hs : Region.noSelect ops = true) (hf : Region.free md ops listed i = true) (hr : (Region.ready md ops listed).contains i = true)
  (hQ : ∀ c a w, Q (.panic c) (a.put oi.dst v) w → Q (.panic c) a w) (hw : Region.wanted oi (yielded ops a.tmps) = true) (hy : ∀ W, S W → (execOp a.eval oi).run P W = .ok (.value v) W) (hS : S w)
  (h : wpAnyL P md ops Q S m fuel (listed.setIfInBounds i true) (a.put oi.dst v) w) : wpAnyL P md ops Q S m (fuel + 1) listed a w :=
 wpAnyL_first hsk (by simpa using him) (at_list hi) (Region.noSelect_spec hs) hQ fuel listed a w (Region.free_spec (at_list hi) hf) (by simpa using hr) (.inl ⟨hw, hy⟩) hS h
theorem anyL_load {i : Nat} {oi : Oper} {v p : Value} (ty : TypeId) (x : Operand) {fuel : Nat} {listed : Array Bool} {a : Act} {w : World} (hsk : sinkL md ops m = true) (hi : ops.toList[i]? = some oi) (him : (i != m) = true)
  (hs : Region.noSelect ops = true) (hf : Region.free md ops listed i = true) (hr : (Region.ready md ops listed).contains i = true)
  (hQ : ∀ c a w, Q (.panic c) (a.put oi.dst v) w → Q (.panic c) a w) (hw : Region.wanted oi (yielded ops a.tmps) = true) (ho : oi.op = .load ty x) (hx : a.eval x = p) (hy : ∀ W, S W → (Instr.loadAt ty p).run P W = .ok v W) (hS : S w)
  (h : wpAnyL P md ops Q S m fuel (listed.setIfInBounds i true) (a.put oi.dst v) w) : wpAnyL P md ops Q S m (fuel + 1) listed a w :=
 anyL_take hsk hi him hs hf hr hQ hw (fun W hS => by unfold execOp; simp only [ho, hx, Sem.run_bind, hy W hS, Result.andThen_ok, Sem.run_pure]) hS h
/-- one that is passed over -/
theorem anyL_not {i : Nat} {oi : Oper} {fuel : Nat} {listed : Array Bool} {a : Act} {w : World} (hsk : sinkL md ops m = true) (hi : ops.toList[i]? = some oi) (him : (i != m) = true)
  (hs : Region.noSelect ops = true) (hf : Region.free md ops listed i = true) (hr : (Region.ready md ops listed).contains i = true)
  (hQ : ∀ c a w, Q (.panic c) (a.put oi.dst undef) w → Q (.panic c) a w) (hw : Region.wanted oi (yielded ops a.tmps) = false) (hS : S w)
  (h : wpAnyL P md ops Q S m fuel (listed.setIfInBounds i true) (a.put oi.dst undef) w) : wpAnyL P md ops Q S m (fuel + 1) listed a w :=
 wpAnyL_first hsk (by simpa using him) (at_list hi) (Region.noSelect_spec hs) hQ fuel listed a w (Region.free_spec (at_list hi) hf) (by simpa using hr) (.inr ⟨hw, rfl⟩) hS h
theorem anyL_done {listed : Array Bool} {a : Act} {w : World} (hr : Region.ready md ops listed = []) (h : Q .normal a w) :
  ∀ fuel, wpAnyL P md ops Q S m fuel listed a w
 | 0 => ⟨hr, h⟩
 | _ + 1 => ⟨fun _ => h, by rw [hr]; simp⟩
/-- an operation alone at the door, its run known -/
theorem anyL_run {i : Nat} {oi : Oper} {v : Value} {fuel : Nat} {listed : Array Bool} {a : Act} {w w' : World} (hi : ops.toList[i]? = some oi) (hr : Region.ready md ops listed = [i]) (hw : Region.wanted oi (yielded ops a.tmps) = true)
  (he : (execOp a.eval oi).run P w = .ok (.value v) w') (hS : i = m ∨ S w') (h : wpAnyL P md ops Q S m fuel (listed.setIfInBounds i true) (a.put oi.dst v) w') : wpAnyL P md ops Q S m (fuel + 1) listed a w := by
 replace hi := at_list hi
 refine ⟨fun h0 => absurd (hr ▸ h0) (by simp), fun j hj => ?_⟩
 rw [hr] at hj
 obtain rfl : j = i := by simpa using hj
 unfold wpOp
 simp only [hi, hw, if_true]
 exact .inl (by unfold Oper.wp; rw [he]; exact ⟨hS, h⟩)
/-- .. that yields nothing -/
theorem anyL_skip {i : Nat} {oi : Oper} {fuel : Nat} {listed : Array Bool} {a : Act} {w w' : World} (hi : ops.toList[i]? = some oi) (hr : Region.ready md ops listed = [i]) (hw : Region.wanted oi (yielded ops a.tmps) = true)
  (he : (execOp a.eval oi).run P w = .ok .skip w') (hS : i = m ∨ S w') (h : wpAnyL P md ops Q S m fuel (listed.setIfInBounds i true) (a.put oi.dst undef) w') : wpAnyL P md ops Q S m (fuel + 1) listed a w := by
 replace hi := at_list hi
 refine ⟨fun h0 => absurd (hr ▸ h0) (by simp), fun j hj => ?_⟩
 rw [hr] at hj
 obtain rfl : j = i := by simpa using hj
 unfold wpOp
 simp only [hi, hw, if_true]
 exact .inl (by unfold Oper.wp; rw [he]; exact ⟨hS, h⟩)
/-- .. a call of a function -/
theorem anyL_call {i : Nat} {oi : Oper} {f : FuncId} {args : Array Value} {fuel : Nat} {listed : Array Bool} {a : Act} {w : World} {R : Ending → World → Prop} (hi : ops.toList[i]? = some oi) (hr : Region.ready md ops listed = [i]) (hw : Region.wanted oi (yielded ops a.tmps) = true)
  (he : (execOp a.eval oi).run P w = .ok (.enter f args) w) (hc : Calls P f args w R)
  (h : ∀ e w', R e w' → (∃ v, e = .returned v ∧ (i = m ∨ S w') ∧ wpAnyL P md ops Q S m fuel (listed.setIfInBounds i true) (a.put oi.dst v) w') ∨ (∃ c, e = .panicked c ∧ Q (.panic c) a w')) : wpAnyL P md ops Q S m (fuel + 1) listed a w := by
 replace hi := at_list hi
 refine ⟨fun h0 => absurd (hr ▸ h0) (by simp), fun j hj => ?_⟩
 rw [hr] at hj
 obtain rfl : j = i := by simpa using hj
 unfold wpOp
 simp only [hi, hw, if_true]
 refine .inl ?_
 unfold Oper.wp
 rw [he]
 refine Calls.mono hc fun e w' hR => ?_
 rcases h e w' hR with ⟨v, rfl, h1, h2⟩ | ⟨c, rfl, h1⟩
 ·exact ⟨h1, h2⟩
 ·exact h1
/-- two at the door -/
theorem anyL_two {i j : Nat} {fuel : Nat} {listed : Array Bool} {a : Act} {w : World} (hr : Region.ready md ops listed = [i, j])
  (h1 : wpOp P ops Q i (fun a' w' => (i = m ∨ S w') ∧ wpAnyL P md ops Q S m fuel (listed.setIfInBounds i true) a' w') a w)
  (h2 : wpOp P ops Q j (fun a' w' => (j = m ∨ S w') ∧ wpAnyL P md ops Q S m fuel (listed.setIfInBounds j true) a' w') a w) : wpAnyL P md ops Q S m (fuel + 1) listed a w := by
 refine ⟨fun h0 => absurd (hr ▸ h0) (by simp), fun k hk => ?_⟩
 rw [hr] at hk
 simp only [List.mem_cons, List.not_mem_nil, or_false] at hk
 rcases hk with rfl | rfl
 ·exact h1
 ·exact h2
theorem wpOp_run {i : Nat} {oi : Oper} {v : Value} {a : Act} {w w' : World} {K : Act → World → Prop} (hi : ops.toList[i]? = some oi) (hw : Region.wanted oi (yielded ops a.tmps) = true)
  (he : (execOp a.eval oi).run P w = .ok (.value v) w') (h : K (a.put oi.dst v) w') : wpOp P ops Q i K a w := by
 replace hi := at_list hi
 unfold wpOp
 simp only [hi, hw, if_true]
 exact .inl (by unfold Oper.wp; rw [he]; exact h)
theorem wpOp_call {i : Nat} {oi : Oper} {f : FuncId} {args : Array Value} {a : Act} {w : World} {R : Ending → World → Prop} {K : Act → World → Prop} (hi : ops.toList[i]? = some oi) (hw : Region.wanted oi (yielded ops a.tmps) = true)
  (he : (execOp a.eval oi).run P w = .ok (.enter f args) w) (hc : Calls P f args w R) (h : ∀ e w', R e w' → ∃ v, e = .returned v ∧ K (a.put oi.dst v) w') : wpOp P ops Q i K a w := by
 replace hi := at_list hi
 unfold wpOp
 simp only [hi, hw, if_true]
 refine .inl ?_
 unfold Oper.wp
 rw [he]
 refine Calls.mono hc fun e w' hR => ?_
 obtain ⟨v, rfl, h1⟩ := h e w' hR
 exact h1
/-- the run of an append, of a store -/
theorem exec_app {o : Oper} {a : Act} {w w' : World} (s x : Operand) (t : TypeId) (hop : o.op = .call { callee := .builtin .append, args := #[s, x], argTypes := #[t, t] }) {v u v' : Value} (hs : a.eval s = v) (hx : a.eval x = u)
  (hrun : (Builtin.append_ #[t, t] o.type #[v, u]).run P w = .ok v' w') : (execOp a.eval o).run P w = .ok (.value v') w' := by
 unfold execOp
 simp only [hop, resolve, invoke, builtin, Sem.run_bind, Sem.run_pure, Result.andThen_ok, List.map_toArray, List.map_cons, List.map_nil, hs, hx, hrun]
theorem exec_store {o : Oper} {a : Act} {w w' : World} (ty : TypeId) (x y : Operand) (ho : o.op = .store ty x y) {p v : Value} (hx : a.eval x = p) (hy : a.eval y = v) (hr : (Instr.storeAt ty p v).run P w = .ok () w') :
  (execOp a.eval o).run P w = .ok .skip w' := by
 unfold execOp
 simp only [ho, hx, hy, Sem.run_bind, hr, Result.andThen_ok, Sem.run_pure]

/-- THE BEGINNING -/
theorem wp_region_L {id : Nat} {a : Act} {w : World} (S : World → Prop) (m : Nat) (hm : P.follows .mixedOrders = true) (h : wpAnyL P .any ops Q S m ops.size (Array.replicate ops.size false) a w.drew) : (Code.region id ops true).wp P Q a w :=
 wp_region_any hm (wpAny_of_L _ _ _ _ h)
theorem wpIn_region_L_round {l n : Nat} {id : Nat} {a : Act} {w : World} (S : World → Prop) (m : Nat) (hm : P.follows .mixedOrders = true) (hd : noDefer ops = true) (h : wpAnyL P .any ops (onlyNormal (Q .normal)) S m ops.size (Array.replicate ops.size false) a w.drew) : (Code.region id ops true).wpIn (Fence.wide.inRound l) n P Q a w :=
 wpIn_region_round hm hd (wpAny_of_L _ _ _ _ h)
end
end Go.Proofs.YthpjffhccjlnhaaGreatDoor
