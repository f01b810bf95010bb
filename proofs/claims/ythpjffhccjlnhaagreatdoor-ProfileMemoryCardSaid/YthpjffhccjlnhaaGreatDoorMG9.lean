/- Package profile: a range over the tries. No condition. -/
/- Package profile: fit. No condition. -/
/- Rows of structs that grow: a new element laid, the append. No condition. -/
/- Package profile: fits: the first fits of all types and shifts. No condition. -/
import Derived.Test.YthpjffhccjlnhaaGreatDoorMG8
set_option linter.unusedSimpArgs false
set_option linter.unusedVariables false
namespace Go.Proofs.YthpjffhccjlnhaaGreatDoor
open Go.RowKit
attribute [local go_sem] Oper.semAt_some

/-- A RANGE OVER THE TRIES: w0 is the world in which the arguments were handed -/
theorem wpIn_tries {g : Operand} {p : Tmp} {assign body : Code} {Q : Exit → Act → World → Prop} {a : Act} {w w0 : World} {ta : Option Addr} {c : Nat} {l : List Typ} {ware : ByteArray} {ra : Option Addr} {rc : Nat} {r : List Rng} {g0 g1 g2 : Nat}
  (hg : a.eval g = .func (.func 141) #[] #[.pointer (some ⟨g0, 0, none⟩), .pointer (some ⟨g1, 0, none⟩), .pointer (some ⟨g2, 0, none⟩)])
  (hl : typesErr l = 0) (hr : ringsErr r = 0) (hrc : r.length ≤ rc) (hcap : TrCap ta l.length c ware ra r.length rc g0 g1 g2 w) (hT : TypesAt w0 ta l) (hR : RngsAt w0 ra r)
  (C : World → Nat → Prop) (I : List (Nat × Nat) → World → Prop) (Ix : Code → List (Nat × Nat) → World → Prop) (hB : ∀ s A, I s A → Below w0.heap.size w0 A)
  (hC1 : ∀ s A B k, I s A → w.heap.size ≤ A.heap.size → Below A.heap.size A B → C B k → C A k) (hC2 : ∀ s A k, I s A → w.heap.size ≤ A.heap.size → C A k → k < A.heap.size) (hC3 : ∀ A o, C (A.putObj (w.heap.size + 1) o) = C A) (hC4 : ∀ s A, I s A → ¬ C A w.heap.size ∧ ¬ C A (w.heap.size + 1))
  (hC5 : ∀ s A, I s A → ¬ C A g0 ∧ ¬ C A g1 ∧ ¬ C A g2)
  (hI : ∀ s A B, I s A → Below A.heap.size A B → I s B) (hI2 : ∀ s A o, I s A → I s (A.putObj (w.heap.size + 1) o))
  (hIx : ∀ c s A B, Ix c s A → Below A.heap.size A B → Ix c s B) (hIx2 : ∀ c s A o, Ix c s A → Ix c s (A.putObj (w.heap.size + 1) o))
  (h0 : I [] w) (q : Tmp)
  (hassign : ∀ (lp : Nat) (T : Tr) (W W2 W3 : World) (K : Act → World → Prop), W.alloc (.cells (tryCells try0) 137) = W2 → (Instr.storeAt 137 (.pointer (some ⟨W.heap.size, 0, none⟩)) (.agg (tryCells T))).run Tryz.prog W2 = .ok () W3 →
   K { tmps := (a.tmps.setIfInBounds p (.agg (tryCells T))).setIfInBounds q (.pointer (some ⟨W.heap.size, 0, none⟩)), defers := [] } W3 →
   assign.wpIn (Fence.wide.inRound lp) 0 Tryz.prog (Exit.then K (fun _ _ _ => False)) { tmps := a.tmps.setIfInBounds p (.agg (tryCells T)), defers := [] } W)
  (hbody : ∀ (lp : Nat) (pre : List (Nat × Nat)) (i s : Nat) (t : Typ) (tb : Nat) (W : World), I pre W → l[i]? = some t → (pre ++ [(i, s)]) <+: triesOf l ware r → TryBox W tb (tryOf t i r s) → w.heap.size + 1 < tb → w.heap.size + 1 < W.heap.size →
   body.wpIn (Fence.wide.inRound lp) 0 Tryz.prog (roundEndsC C (fun k => k = w.heap.size ∨ k = w.heap.size + 1) I Ix (pre ++ [(i, s)]) W) { tmps := (a.tmps.setIfInBounds p (.agg (tryCells (tryOf t i r s)))).setIfInBounds q (.pointer (some ⟨tb, 0, none⟩)), defers := [] } W)
  (hdone : ∀ (W : World), I (triesOf l ware r) W → W.heap[w.heap.size]? = some (.deferred (some [])) → Q .normal { a with defers := { target := .collected w.heap.size, args := #[] } :: a.defers } W)
  (hstop : ∀ (c : Code) (pre : List (Nat × Nat)) (W : World), pre <+: triesOf l ware r → Ix c pre W → W.heap[w.heap.size]? = some (.deferred (some [])) → c.wpIn Fence.wide 0 Tryz.prog Q { a with defers := { target := .collected w.heap.size, args := #[] } :: a.defers } W) :
  (Code.rangeFunc g #[p] assign body).wpIn Fence.wide 0 Tryz.prog Q a w := by
 have l0 := hcap.b0.lt
 have l1 := hcap.b1.lt
 have l2 := hcap.b2.lt
 refine wpIn_rangeC (gf := 141) (lb := #[.pointer (some ⟨g0, 0, none⟩), .pointer (some ⟨g1, 0, none⟩), .pointer (some ⟨g2, 0, none⟩)]) (Rd := TryRd l r) (xs := triesOf l ware r) hg (enters_of Tryz.func141 (by kernel_rfl) rfl)
  (fun o1 o2 => tries1_gives ta c l ware ra rc r hl hr hrc g0 g1 g2 _ (hcap.below ((Below.refl _ _).alloc (Nat.le_refl _) _ |>.alloc (by simp) _))) ?ps C I Ix hC1 hC2 hC3 (fun s A h _ => hC4 s A h) ?ok hI hI2 hIx hIx2 h0
  (fun x args act A => ∃ t tb, l[x.1]? = some t ∧ act = { tmps := (a.tmps.setIfInBounds p (.agg (tryCells (tryOf t x.1 r x.2)))).setIfInBounds q (.pointer (some ⟨tb, 0, none⟩)), defers := [] } ∧ TryBox A tb (tryOf t x.1 r x.2) ∧ w.heap.size + 1 < tb) ?hAs ?assign ?body hdone hstop
 case ps => rintro x args W ⟨t, _, rfl⟩; rfl
 case ok =>
  rintro rec pre A ⟨hi, _⟩
  have hb := hB _ _ hi
  obtain ⟨n0, n1, n2⟩ := hC5 _ _ hi
  exact ⟨fun k t ht => by
   obtain ⟨b, o, e, h⟩ := hT k t ht
   exact ⟨b, o, e, fun j hj => below_cell hb (h j hj)⟩, fun k y hy => by
   obtain ⟨b, o, e, h⟩ := hR k y hy
   exact ⟨b, o, e, fun j hj => below_cell hb (h j hj)⟩, fun h => h.elim n0 (by omega), fun h => h.elim n1 (by omega), fun h => h.elim n2 (by omega)⟩
 case hAs =>
  rintro x args act A o ⟨t, tb, ht, e, hb, hlt⟩
  exact ⟨t, tb, ht, e, ((Keep.refl (fun k => k ≠ w.heap.size + 1) A).putObj (fun h => h rfl) o).heap (by omega) hb, hlt⟩
 case assign =>
  rintro lp x args W K ⟨t, ht, rfl⟩ hlt hk
  have e : (#[p].zip #[Value.agg (tryCells (tryOf t x.1 r x.2))]).foldl (fun t (q, v) => t.setIfInBounds q v) a.tmps = a.tmps.setIfInBounds p (.agg (tryCells (tryOf t x.1 r x.2))) := by simp
  rw [e]
  have b2 : TryBox (W.alloc (.cells (tryCells try0) 137)) W.heap.size try0 := Box.new _ _ _
  obtain ⟨w3, hst, hw3⟩ := run_store_all (P := Tryz.prog) agg_try b2 (tryF (tryOf t x.1 r x.2)) (fun j _ => tryF_one _ j)
  exact hassign lp _ W _ w3 K rfl hst (hk _ _ ⟨t, _, ht, rfl, hw3.box, by omega⟩ (hw3.below ((Below.refl _ _).alloc (Nat.le_refl _) _) (Nat.le_refl _)))
 case body =>
  rintro lp pre x args act W hi ⟨t, tb, ht, rfl, hb, htb⟩ hpre hlt _ _
  exact hbody lp pre x.1 x.2 t tb W hi ht hpre hb htb hlt
/-! a row that grows behind a cell -/
def GrowC (g : Nat) (W : World) (k : Nat) : Prop := k = g ∨ ∃ v, W.cell? ⟨g, 0, none⟩ = some v ∧ v.ownBlock = some k
structure GrowI (base g : Nat) (ty e : TypeId) (size n : Nat) (xs : List Value) (W : World) : Prop where
 own : ∃ v, Box W g #[v] ty ∧ W.ownsRow base e size v n xs
theorem GrowI.below {base g : Nat} {ty e : TypeId} {size n : Nat} {xs : List Value} {A B : World} (h : GrowI base g ty e size n xs A) (hb : Below A.heap.size A B) : GrowI base g ty e size n xs B := by
 obtain ⟨v, h1, h2⟩ := h.own
 exact ⟨v, h1.below' hb, ownsRow_keep h2 (Keep.of_below' (K := fun _ => True) hb) (fun _ _ => trivial)⟩
theorem GrowI.put {base g k0 : Nat} {ty e : TypeId} {size n : Nat} {xs : List Value} {A : World} (h : GrowI base g ty e size n xs A) (h1 : g ≠ k0) (h2 : k0 < base) (o : Obj) : GrowI base g ty e size n xs (A.putObj k0 o) := by
 obtain ⟨v, h3, h4⟩ := h.own
 have hk : Keep (fun k => k ≠ k0) A (A.putObj k0 o) := (Keep.refl _ A).putObj (fun h => h rfl) o
 exact ⟨v, hk.heap h1 h3, ownsRow_keep h4 hk (fun k hk => by omega)⟩
theorem GrowI.at_ {base g : Nat} {ty e : TypeId} {size n : Nat} {xs : List Value} {A : World} (h : GrowI base g ty e size n xs A) {k : Nat} (hk : GrowC g A k) : k = g ∨ (base ≤ k ∧ k < A.heap.size) := by
 obtain ⟨v, h1, h2⟩ := h.own
 rcases hk with rfl | ⟨u, hu, hk⟩
 ·exact .inl rfl
 ·have : u = v := by have := h1.cell 0; rw [hu] at this; simpa using this
  subst this
  exact .inr (h2.lt k hk)
theorem GrowI.c1 {base g : Nat} {ty e : TypeId} {size n : Nat} {xs : List Value} {A B : World} (h : GrowI base g ty e size n xs A) (hb : Below A.heap.size A B) {k : Nat} (hk : GrowC g B k) : GrowC g A k := by
 obtain ⟨v, h1, h2⟩ := h.own
 rcases hk with rfl | ⟨u, hu, hk⟩
 ·exact .inl rfl
 ·have h3 : B.cell? ⟨g, 0, none⟩ = some v := (h1.below' hb).cell 0
  rw [h3] at hu; cases hu
  exact .inr ⟨v, h1.cell 0, hk⟩
theorem GrowI.c2 {base g : Nat} {ty e : TypeId} {size n : Nat} {xs : List Value} {A : World} (h : GrowI base g ty e size n xs A) {k : Nat} (hk : GrowC g A k) : k < A.heap.size := by
 rcases h.at_ hk with rfl | ⟨_, h2⟩
 ·obtain ⟨v, h1, _⟩ := h.own; exact h1.lt
 ·exact h2
theorem growC_put {g k0 : Nat} (h : g ≠ k0) (A : World) (o : Obj) : GrowC g (A.putObj k0 o) = GrowC g A := by
 funext k
 have e : (A.putObj k0 o).cell? ⟨g, 0, none⟩ = A.cell? ⟨g, 0, none⟩ := by
  unfold World.cell?
  rw [World.putObj_heap_other (by omega)]
 unfold GrowC
 rw [e]
end Go.Proofs.YthpjffhccjlnhaaGreatDoor
namespace Go.Proofs.YthpjffhccjlnhaaGreatDoor
open Go.RowKit
attribute [local go_sem] Oper.semAt_some

def ftF (i s : Int) (w : ByteArray) : Nat → Value
 | 0 => .int .i64 i
 | 1 => .int .i64 s
 | _ => .string w
def ftCells (i s : Int) (w : ByteArray) : Array Value := fnCells 3 (ftF i s w)
theorem agg_ft : Agg Tryz.prog 44 3 := ⟨⟨_, Tryz.underlying44, rfl⟩, by kernel_rfl⟩
theorem zft : (#[.int .i64 0, .int .i64 0, .string { data := #[] }] : Array Value) = ftCells 0 0 ByteArray.empty := by kernel_rfl
theorem ftF_one (i s : Int) (w : ByteArray) (j : Nat) : (ftF i s w j).oneCell' = true := by
 rcases j with _ | _ | j <;> rfl
theorem loadv_ft {w : World} {b : Nat} {i s : Int} {v : ByteArray} (h : Box w b (ftCells i s v) 44) : (loadVar 44 ⟨b, 0, none⟩).run Tryz.prog w = .ok (.agg (ftCells i s v)) w := run_loadv_sub agg_ft h 0 (ftF i s v) (fun j _ => by rw [Nat.zero_add]) (by omega)
theorem load_ft {w : World} {b : Nat} {i s : Int} {v : ByteArray} (h : Box w b (ftCells i s v) 44) : (Instr.loadAt 44 (.pointer (some ⟨b, 0, none⟩))).run Tryz.prog w = .ok (.agg (ftCells i s v)) w := run_load_sub agg_ft h 0 (ftF i s v) (fun j _ => by rw [Nat.zero_add]) (by omega)
theorem built_ft (parts : List (Nat × Value)) : Tryz.prog.built 44 parts = Instr.fill (fun i => (#[(0, 1), (1, 1), (2, 1)] : Array (Nat × Nat))[i]?) (ftCells 0 0 ByteArray.empty) parts := by
 rw [← zft]; kernel_rfl
theorem run_build_ft (i s : Int) (v : ByteArray) (w : World) : (Instr.build 44 #[(0, .int .i64 i), (1, .int .i64 s), (2, .string v)]).run Tryz.prog w = .ok (.agg (ftCells i s v)) w := by
 refine run_build w _ _ _ ?_
 rw [built_ft]
 unfold ftCells
 rw [fill_fn (off := 0) (m := 1) (g := fun _ => .int .i64 i) rfl rfl (by omega), fill_fn (off := 1) (m := 1) (g := fun _ => .int .i64 s) rfl rfl (by omega), fill_fn (off := 2) (m := 1) (g := fun _ => .string v) rfl rfl (by omega)]
 refine congrArg some (fnCells_congr fun j hj => ?_)
 have h3 : j = 0 ∨ j = 1 ∨ j = 2 := by omega
 rcases h3 with rfl | rfl | rfl <;> rfl
theorem run_build_ft0 (w : World) : (Instr.build 44 #[]).run Tryz.prog w = .ok (.agg (ftCells 0 0 ByteArray.empty)) w := by
 refine run_build w _ _ _ ?_
 rw [built_ft]; rfl
def fitV (t : Typ) (i : Int) (r : List Rng) (s : Nat) : Array Value := match fitOne t r s with | some v => ftCells i s (mkB (toS v)) | none => ftCells 0 0 ByteArray.empty
theorem fit_word (t : Typ) (i : Int) (r : List Rng) (s : Nat) :
  wordP (kndOf t i) t.m (cutOf r s) (leastOf4 t r s) 0 (fun c => (kndOf t i).rim c && endsP (kndOf t i) t.m (cutOf r s) (leastOf4 t r s) 0 c) = (fitOne t r s).getD [] := by
 have h := fitL_head (K := t.kd) (m := t.m) (cut := cutOf r s) (least := leastOf4 t r s) t.m t.kd.rim
 unfold fitOne fitsOf
 rw [h]
 show wordR t.kd t.m (cutOf r s) (leastOf4 t r s) (t.m - 0) (fun c => t.kd.rim c && endsR t.kd t.m (cutOf r s) (leastOf4 t r s) (t.m - 0) c) = _
 rw [Nat.sub_zero]
 cases wordR t.kd t.m (cutOf r s) (leastOf4 t r s) t.m (fun d => t.kd.rim d && endsR t.kd t.m (cutOf r s) (leastOf4 t r s) t.m d) <;> rfl
theorem fit_ne {t : Typ} {r : List Rng} {s : Nat} {v : List Nat} (h : fitOne t r s = some v) : v ≠ [] := fitL_ne (List.mem_of_head? h)
theorem fit_empty (t : Typ) (r : List Rng) (s : Nat) : ((fitOne t r s).getD []).isEmpty = !(fitOne t r s).isSome := by
 rcases h : fitOne t r s with _ | v
 ·rfl
 ·have := fit_ne h
  cases v with
  | nil => exact absurd rfl this
  | cons x y => rfl
set_option maxRecDepth 100000 in
set_option maxHeartbeats 1000000 in
theorem fit_any (t : Typ) (i : Int) (r : List Rng) (s : Nat) (hm : t.most = (t.m : Int)) (hm12 : t.m ≤ 12) (w : World) :
  Calls Tryz.prog 137 #[.agg (tryCells ⟨kndOf t i, s, leastOf4 t r s, cutOf r s⟩)] w fun e w' => e = .returned (.tuple #[.agg (fitV t i r s), .bool (fitOne t r s).isSome]) ∧ Below w.heap.size w w' := by
 obtain ⟨T, hT⟩ : ∃ T : Tr, ⟨kndOf t i, s, leastOf4 t r s, cutOf r s⟩ = T := ⟨_, rfl⟩
 obtain ⟨w1, hw1⟩ : ∃ w1, (w.alloc (.cells (tryCells T) 137)).alloc (.cells (ftCells 0 0 ByteArray.empty) 44) = w1 := ⟨_, rfl⟩
 have b0 : TryBox w1 w.heap.size T := by rw [← hw1]; exact (Box.new _ _ _).alloc _
 have b1 : Box w1 (w.heap.size + 1) (ftCells 0 0 ByteArray.empty) 44 := by rw [← hw1]; exact Box.new' (by simp)
 have hB : Below w.heap.size w w1 := by rw [← hw1]; go_grown
 have gs1 : w1.heap.size = w.heap.size + 2 := by rw [← hw1]; simp
 have HL0 := Lib.hid (TryBox.knd_ b0)
 have HL1 := Lib.hid (TryBox.cuts_ b0)
 have c3 := TryBox.least_ b0
 have hwd := word_any T.knd T.cut T.least t.m (by rw [← hT]; exact hm) hm12 w1
 rw [show wordP T.knd t.m T.cut T.least 0 (fun c => T.knd.rim c && endsP T.knd t.m T.cut T.least 0 c) = (fitOne t r s).getD [] by rw [← hT]; exact fit_word t i r s] at hwd
 have HWD := Lib.hid hwd
 have B0 := Lib.hid b0
 have B1 := Lib.hid b1
 have HB := Lib.hid hB
 have HW := Lib.hid hw1
 have HTT := Lib.hid hT
 have GS := Lib.hid gs1
 rw [hT]
 clear b0 b1 hB hw1 hwd hT hm gs1
 go_enter Tryz.func137, Tryz.ntmps137
 go_upto_region 1 with fail
 simp only [zft, HW.out]
 go_upto_region 2 with (first
  | (refine wpList_load_box rfl 111 _ rfl rfl HL0.out ?_)
  | (refine wpList_load_box rfl 117 _ rfl rfl HL1.out ?_)
  | (go_at_call 79; (with_reducible refine HWD.out.mono ?_); rintro e w2 ⟨rfl, hb2⟩))
 have HB2 := Lib.hid hb2
 have B1' := Lib.hid (B1.out.below' hb2)
 have B0' := Lib.hid (B0.out.below' hb2)
 have gs2 := hb2.size
 have GS2 := Lib.hid gs2
 have HBB := Lib.hid (HB.out.trans (hb2.mono HB.out.size))
 clear c3 hb2 gs2
 have hme := mk_empty ((fitOne t r s).getD [])
 rw [fit_empty] at hme
 rcases hq : fitOne t r s with _ | v
 ·have HV : Hid (fitV t i r s = ftCells 0 0 ByteArray.empty ∧ (fitOne t r s).isSome = false) := Lib.hid (by unfold fitV; rw [hq]; exact ⟨rfl, rfl⟩)
  rw [hq] at hme
  obtain ⟨w3, hst, hw3⟩ := run_store_all (P := Tryz.prog) agg_ft B1'.out (ftF 0 0 ByteArray.empty) (fun j _ => ftF_one _ _ _ j)
  have HST := Lib.hid hst
  have HW3 := Lib.hid hw3
  clear hq hst hw3
  simp only [Option.isSome_none, Bool.not_false, Option.getD_none] at hme ⊢
  go_wp2_with (first
   | (refine wpList_build rfl (v := .agg (ftCells 0 0 ByteArray.empty)) 44 _ rfl (by simp only [List.map_toArray, List.map_nil]; exact run_build_ft0 _) ?_)
   | (refine wpList_store_box rfl 44 _ _ rfl rfl rfl HST.out ?_))
  refine bodyPost_ret (results_cell_tmp4 rfl rfl (loadv_ft HW3.out.box)) rfl ⟨?_, HW3.out.below HBB.out (by omega)⟩
  rw [HV.out.1, HV.out.2]; rfl
 ·have HV : Hid (fitV t i r s = ftCells i s (mkB (toS v)) ∧ (fitOne t r s).isSome = true) := Lib.hid (by unfold fitV; rw [hq]; exact ⟨rfl, rfl⟩)
  rw [hq] at hme
  have c1 := TryBox.index_ B0'.out
  have c2 := TryBox.shift_ B0'.out
  rw [show T.knd.index = i by rw [← HTT.out]; rfl] at c1
  rw [show T.shift = (s : Int) by rw [← HTT.out]] at c2
  obtain ⟨w3, hst, hw3⟩ := run_store_all (P := Tryz.prog) agg_ft B1'.out (ftF i s (mkB (toS v))) (fun j _ => ftF_one _ _ _ j)
  have HST := Lib.hid hst
  have HW3 := Lib.hid hw3
  clear hq hst hw3
  simp only [Option.isSome_some, Bool.not_true, Option.getD_some] at hme ⊢
  go_wp2_with (first
   | (refine wpList_build rfl (v := .agg (ftCells i s (mkB (toS v)))) 44 _ rfl (by simp only [List.map_toArray, List.map_cons, List.map_nil]; exact run_build_ft i s (mkB (toS v)) _) ?_)
   | (refine wpList_store_box rfl 44 _ _ rfl rfl rfl HST.out ?_))
  refine bodyPost_ret (results_cell_tmp4 rfl rfl (loadv_ft HW3.out.box)) rfl ⟨?_, HW3.out.below HBB.out (by omega)⟩
  rw [HV.out.1, HV.out.2]; rfl
end Go.Proofs.YthpjffhccjlnhaaGreatDoor
namespace Go.Proofs.YthpjffhccjlnhaaGreatDoor
open Go.RowKit
attribute [local go_sem] Oper.semAt_some

theorem RowOwn.keep {K : Nat → Prop} {B : Nat} {w w' : World} {a : Option Addr} {xs : List Value} (h : RowOwn B w a xs) (hk : Keep K w w') (hK : ∀ k, B ≤ k → K k) : RowOwn B w' a xs := fun k v hv => by
 obtain ⟨b, o, ha, hb, hc, hf⟩ := h k v hv
 have hlt := lt_of_cell hc
 have e : w'.frozen? ⟨b, o + k, none⟩ = w.frozen? ⟨b, o + k, none⟩ := by simp only [World.frozen?, hk.block b (hK b hb) hlt]
 exact ⟨b, o, ha, hb, hk.cell (hK b hb) hc, e.trans hf⟩
section
variable {P : Program}
theorem range_fn (n : Nat) (f : Nat → Value) : (Array.range n).map f = fnCells n f := by
 refine fnCells_ext (by simp) fun i hi => ?_
 simp [hi]
theorem run_bslice {T E : TypeId} {m : Nat} {Z : Value} (hu : P.underlying T = some (.slice E)) (hi : (P.info? E).map (fun i => (i.zero, i.size)) = some (some Z, m)) (h0 : 0 < m) (hm : m ≤ 10000) {v : Value} {g : Nat → Value} (hv : v.cells = fnCells m g) (w : World) :
  (Instr.buildSlice T 1 #[(0, v)]).run P w = .ok (.slice (some ⟨w.heap.size, 0, none⟩) 1 1) (w.alloc (.cells (fnCells m g) E)) := by
 obtain ⟨i, hie, hzz⟩ := Option.map_eq_some_iff.1 hi
 simp only [Prod.mk.injEq] at hzz
 obtain ⟨hz, hs⟩ := hzz
 have hf : Instr.fill (fun i => some (i * m, m)) ((Array.range (1 * m)).map (Z.cells[· % Z.cells.size]!)) [(0, v)] = some (fnCells m g) := by
  rw [range_fn, Nat.one_mul, fill_fn (off := 0) (m := m) (g := g) (by simp) hv (by omega)]
  refine congrArg some (fnCells_congr fun j hj => ?_)
  rw [if_pos (by omega), Nat.sub_zero]
 have h2 : ¬ 1 * m > 2 ^ 24 := by omega
 have h3 : ¬ 1 * m = 0 := by omega
 simp [Instr.buildSlice, run_underlying hu, sizeOf, typeInfo, zeroValue, hie, hz, hs, newRow]
 rw [if_neg (by omega), if_neg (by omega)]
 simp only [Nat.one_mul] at hf
 simp [hf, newRow]
/-- an element of m cells goes onto a row of the call's own -/
theorem app_fn {E TT : TypeId} {Z : Value} {m bytes : Nat} (ht : P.underlying TT = some (.slice E)) (hi : (P.info? E).map (fun i => (i.zero, i.size, i.bytes)) = some (some Z, m, bytes)) (hz : Z.cells.size = m) (h0 : 0 < m) (hby : bytes ≤ 10000) {base : Nat} {W : World} {v : Value} {j : Nat} {xs : List Value} (h : W.ownsRow base E m v j xs) (hj : j + 1 ≤ 1000000) (hB : base ≤ W.heap.size) (g : Nat → Value) (hg : ∀ i, i < m → (g i).oneCell' = true) :
  ∃ v' U, (Builtin.append_ #[TT, TT] TT #[v, .slice (some ⟨W.heap.size, 0, none⟩) 1 1]).run P (W.alloc (.cells (fnCells m g) E)) = .ok v' U ∧ U.ownsRow base E m v' (j + 1) (xs ++ (fnCells m g).toList) ∧ Below base W U ∧ Keep (fun k => v.ownBlock ≠ some k) W U ∧ ∀ k, v'.ownBlock = some k → v.ownBlock = some k ∨ W.heap.size ≤ k := by
 obtain ⟨v', U, hrun, hown, hgr, hb⟩ := run_append_row (P := P) (W.alloc (.cells (fnCells m g) E)) base TT TT E Z m bytes ht hi hz h0
  _ _ _ (ownsRow_keep h ((Keep.refl (fun _ => True) W).alloc (.cells (fnCells m g) E)) (fun _ _ => trivial)) (some ⟨W.heap.size, 0, none⟩) 1 1 (fnCells m g).toList (by simp [fnCells_size]) (fun j u hu => ⟨W.heap.size, 0, rfl, by rw [(Box.new W _ _).cell, Nat.zero_add]; simpa using hu⟩) (fun u hu => by
   simp only [fnCells, List.mem_map, List.mem_range] at hu
   obtain ⟨i, hi, rfl⟩ := hu
   exact hg i hi) (by omega) (by omega) (by simp; omega)
 refine ⟨v', U, hrun, hown, ((Below.refl _ W).alloc hB (.cells (fnCells m g) E)).grown hgr (by simp; omega) (fun k hk => (h.lt k hk).1), ((Keep.refl _ W).alloc _).grown hgr (fun k hk => .inl fun h => h hk), fun k hk => ?_⟩
 rcases hb with hb | hb
 ·rw [hb] at hk; exact .inl hk
 ·rw [hb] at hk
  simp at hk
  exact .inr (by omega)
variable {ops : Array Oper} {rest : List Oper} {o : Oper} {a : Act} {w w' : World} {Q : Exit → Act → World → Prop}
theorem exec_bslice {v : Value} (T : TypeId) (n : Nat) (parts : Array (Nat × Operand)) (ho : o.op = .buildSlice T n parts) (hr : (Instr.buildSlice T n (parts.map fun (i, x) => (i, a.eval x))).run P w = .ok v w') : (execOp a.eval o).run P w = .ok (.value v) w' := by
 unfold execOp
 simp only [ho, Sem.run_bind, hr, Result.andThen_ok, Sem.run_pure]
theorem wpList_bslice (hg : o.guard = none) {v : Value} (T : TypeId) (n : Nat) (parts : Array (Nat × Operand)) (ho : o.op = .buildSlice T n parts) (hr : (Instr.buildSlice T n (parts.map fun (i, x) => (i, a.eval x))).run P w = .ok v w')
  (h : wpList P ops Q rest (a.put o.dst v) w') : wpList P ops Q (o :: rest) a w :=
 wpList_plain hg fun _ hK => by
  unfold Oper.wp
  rw [exec_bslice T n parts ho hr]
  exact hK _ _ h
theorem wpListIn_bslice {F : Fence} {n0 : Nat} (hg : o.guard = none) {v : Value} (T : TypeId) (n : Nat) (parts : Array (Nat × Operand)) (ho : o.op = .buildSlice T n parts) (hr : (Instr.buildSlice T n (parts.map fun (i, x) => (i, a.eval x))).run P w = .ok v w')
  (h : wpListIn F n0 P ops Q rest (a.put o.dst v) w') : wpListIn F n0 P ops Q (o :: rest) a w :=
 wpListIn_plain hg fun K hK => by
  unfold Oper.wpIn
  refine ⟨by simp [Oper.about, ho], ?_⟩
  rw [Oper.semAt_plain F _ _ (by rw [ho]; intro c hc; cases hc), exec_bslice T n parts ho hr]
  exact hK _ _ h
end
end Go.Proofs.YthpjffhccjlnhaaGreatDoor
namespace Go.Proofs.YthpjffhccjlnhaaGreatDoor
open Go.RowKit
attribute [local go_sem] Oper.semAt_some

def ftRow (f : Ft) : List Value := [.int .i64 (f.type : Int), .int .i64 (f.shift : Int), .string (mkB (toS f.word))]
def ftRows (L : List Ft) : List Value := L.flatMap ftRow
theorem ftRows_len (L : List Ft) : (ftRows L).length = L.length * 3 := by
 induction L with
 | nil => rfl
 | cons x L ih => simp only [ftRows, List.flatMap_cons, List.length_append, List.length_cons] at ih ⊢; rw [ih]; simp [ftRow]; omega
theorem ftCells_list (f : Ft) : (ftCells f.type f.shift (mkB (toS f.word))).toList = ftRow f := rfl
/-- the first fits of some tries -/
def firstsOf (l : List Typ) (r : List Rng) (xs : List (Nat × Nat)) : List Ft := xs.filterMap fun x => match l[x.1]? with | some t => (fitOne t r x.2).map fun w => ⟨x.1, x.2, w⟩ | none => none
theorem firstsOf_all (l : List Typ) (ware : ByteArray) (r : List Rng) : firstsOf l r (triesOf l ware r) = shiftsT l ware r := rfl
theorem firsts_yes {l : List Typ} {r : List Rng} {xs : List (Nat × Nat)} {i s : Nat} {t : Typ} {v : List Nat} (ht : l[i]? = some t) (h : fitOne t r s = some v) : firstsOf l r (xs ++ [(i, s)]) = firstsOf l r xs ++ [⟨i, s, v⟩] := by
 simp [firstsOf, List.filterMap_append, ht, h]
theorem firsts_no {l : List Typ} {r : List Rng} {xs : List (Nat × Nat)} {i s : Nat} {t : Typ} (ht : l[i]? = some t) (h : fitOne t r s = none) : firstsOf l r (xs ++ [(i, s)]) = firstsOf l r xs := by
 simp [firstsOf, List.filterMap_append, ht, h]
theorem shiftsOf_le {t : Typ} {r : List Rng} (h : AscR r) (h12 : t.most ≤ 12) : shiftsOf t r ≤ 12 := by
 unfold shiftsOf
 split
 ·omega
 ·rename_i hr
  have := (lastAt_ge h).2 hr
  omega
theorem triesTo_len {l : List Typ} {ware : ByteArray} {r : List Rng} (h : AscR r) (hl : ∀ (i : Nat) t, l[i]? = some t → t.most ≤ 12) (k : Nat) : (triesTo l ware r k).length ≤ k * 12 := by
 induction k with
 | zero => simp [triesTo]
 | succ k ih =>
  rcases ht : l[k]? with _ | t
  ·have : triesTo l ware r (k + 1) = triesTo l ware r k := by simp [triesTo, List.range_succ, List.flatMap_append, ht]
   rw [this]; omega
  ·by_cases hw : t.ware = ware
   ·rw [triesTo_yes ht hw, List.length_append, List.length_map, List.length_range]
    have := shiftsOf_le (t := t) h (hl k t ht)
    omega
   ·rw [triesTo_no ht hw]; omega
theorem tries_len {l : List Typ} {ware : ByteArray} {r : List Rng} (hl : typesErr l = 0) (hr : ringsErr r = 0) : (triesOf l ware r).length ≤ 144 := by
 have h1 := (typesErr_good hl)
 have := triesTo_len (l := l) (ware := ware) (rings_asc hr).1 (fun i t ht => (typeB_good (h1.2 i t ht)).2.2.2) l.length
 rw [triesTo_all] at this
 omega
theorem firsts_len (l : List Typ) (r : List Rng) (xs : List (Nat × Nat)) : (firstsOf l r xs).length ≤ xs.length := List.length_filterMap_le _ _
theorem info_ft : (Tryz.prog.info? 44).map (fun i => (i.zero, i.size, i.bytes)) = some (some (.agg #[.int .i64 0, .int .i64 0, .string { data := #[] }]), 3, 32) := by kernel_rfl
theorem info_ft2 : (Tryz.prog.info? 44).map (fun i => (i.zero, i.size)) = some (some (.agg #[.int .i64 0, .int .i64 0, .string { data := #[] }]), 3) := by kernel_rfl
/-- the memory of fits at its range -/
structure FitsI (l : List Typ) (r : List Rng) (base g : Nat) (w0 : World) (pre : List (Nat × Nat)) (W : World) : Prop where
 o : GrowI base g 51 44 3 (firstsOf l r pre).length (ftRows (firstsOf l r pre)) W
 b : Below w0.heap.size w0 W
 s : base ≤ W.heap.size ∨ pre = []
set_option maxRecDepth 100000 in
set_option maxHeartbeats 4000000 in
theorem fits_any (a : Option Addr) (c : Nat) (l : List Typ) (ware : ByteArray) (ra : Option Addr) (rc : Nat) (r : List Rng) (w : World) (hl : typesErr l = 0) (hr : ringsErr r = 0) (hrc : r.length ≤ rc) (hT : TypesAt w a l) (hR : RngsAt w ra r) :
  Calls Tryz.prog 87 #[.slice a l.length c, .string ware, .slice ra r.length rc] w fun e w' => ∃ fa fc, e = .returned (.slice fa (shiftsT l ware r).length fc) ∧ RowOwn w.heap.size w' fa (ftRows (shiftsT l ware r)) ∧ (shiftsT l ware r).length ≤ fc ∧ Below w.heap.size w w' := by
 have hmf := run_mf Tryz.prog
 have hgood := typesErr_good hl
 have HGD := Lib.hid hgood
 have TL := Lib.hid (tries_len (ware := ware) hl hr)
 clear hgood
 refine (callsIn_wide (n := 0)).1 (callsIn_of_wp_marks Tryz.func87 rfl trivial ?_ rfl)
 simp only [Tryz.ntmps87, List.size_toArray, List.length_cons, List.length_nil, Nat.reduceAdd, Nat.reduceSub, Array.replicate_succ, Array.replicate_zero, List.push_toArray, List.append_toArray, List.nil_append, List.cons_append]
 gi_wp2_with (gi_at_call 96; (with_reducible refine (callsIn_wide.2 (tries_any _ _ _ _ _ _ _ _)).mono ?_); rintro e w' ⟨rfl, rfl⟩)
 simp only [World.size_alloc, Nat.add_assoc, Nat.reduceAdd]
 obtain ⟨w4, hw4⟩ : ∃ w4, (((w.alloc (.cells #[.slice none 0 0] 51)).alloc (.cells #[.slice a l.length c] 22)).alloc (.cells #[.string ware] 9)).alloc (.cells #[.slice ra r.length rc] 37) = w4 := ⟨_, rfl⟩
 have b0 : Box w4 w.heap.size #[.slice none 0 0] 51 := by rw [← hw4]; exact (((Box.new _ _ _).alloc _).alloc _).alloc _
 have cap : TrCap a l.length c ware ra r.length rc (w.heap.size + 1) (w.heap.size + 2) (w.heap.size + 3) w4 := by
  rw [← hw4]
  exact ⟨((Box.new' (by simp)).alloc _).alloc _, (Box.new' (by simp)).alloc _, Box.new' (by simp)⟩
 have hB : Below w.heap.size w w4 := by rw [← hw4]; go_grown
 have gs4 : w4.heap.size = w.heap.size + 4 := by rw [← hw4]; simp
 rw [hw4]
 have HB := Lib.hid hB
 have B0 := Lib.hid b0
 have CAP := Lib.hid cap
 have GS := Lib.hid gs4
 clear b0 cap hB gs4 hw4
 refine wpIn_tries rfl hl hr hrc CAP.out hT hR (GrowC w.heap.size) (FitsI l r (w.heap.size + 6) w.heap.size w) (fun _ _ _ => False) ?hB ?hC1 ?hC2 ?hC3 ?hC4 ?hC5 ?hI ?hI2 ?hIx ?hIx2 ?h0 8 ?assign ?body ?done ?stop
 case hB => exact fun s A h => h.b
 case hC1 => exact fun s A B k h _ hb hk => h.o.c1 hb hk
 case hC2 => exact fun s A k h _ hk => h.o.c2 hk
 case hC3 => exact fun A o => growC_put (by rw [GS.out]; omega) A o
 case hC4 =>
  intro s A h
  rw [GS.out]
  exact ⟨fun hk => by rcases h.o.at_ hk with h | h <;> omega, fun hk => by rcases h.o.at_ hk with h | h <;> omega⟩
 case hC5 =>
  intro s A h
  exact ⟨fun hk => by rcases h.o.at_ hk with h | h <;> omega, fun hk => by rcases h.o.at_ hk with h | h <;> omega, fun hk => by rcases h.o.at_ hk with h | h <;> omega⟩
 case hI => exact fun s A B h hb => ⟨h.o.below hb, h.b.trans (hb.mono h.b.size), h.s.imp (fun h => Nat.le_trans h hb.size) id⟩
 case hI2 => exact fun s A o h => ⟨h.o.put (by rw [GS.out]; omega) (by rw [GS.out]; omega) o, below_put h.b (by rw [GS.out]; omega) o, h.s.imp (fun h => by simpa using h) id⟩
 case hIx => exact fun _ _ _ _ h _ => h.elim
 case hIx2 => exact fun _ _ _ _ h => h.elim
 case h0 => exact ⟨⟨_, B0.out, ownsRow_nil _ _ _ _⟩, HB.out, .inr rfl⟩
 case stop => exact fun _ _ _ _ h => h.elim
 case assign =>
  intro lp T W W2 W3 K h1 h2 hk
  have H1 := Lib.hid h1
  have H2 := Lib.hid h2
  have HK := Lib.hid hk
  clear h1 h2 hk
  gi_wp2_with (simp only [ztry, H1.out]; refine wpListIn_store_box rfl 137 _ _ rfl rfl rfl H2.out ?_)
  exact HK.out
 case body =>
  intro lp pre i s t tb W hi ht hpre hb htb hlt
  simp only [List.setIfInBounds_toArray, List.set_cons_succ, List.set_cons_zero]
  rw [GS.out] at htb hlt ⊢
  obtain ⟨v, i1, i2⟩ := hi.o.own
  obtain ⟨hset, hl1, hlm, hm12⟩ := typeB_good (HGD.out.2 i t ht)
  have hf : Calls Tryz.prog 137 #[.agg (tryCells (tryOf t i r s))] W fun e w' => e = .returned (.tuple #[.agg (fitV t i r s), .bool (fitOne t r s).isSome]) ∧ Below W.heap.size W w' := fit_any t i r s (show t.most = (t.m : Int) by unfold Typ.m; omega) (by unfold Typ.m; omega) W
  have HF := Lib.hid hf
  have HLT := Lib.hid (TryBox.load hb)
  have HI := Lib.hid hi
  have HT := Lib.hid ht
  have HPRE := Lib.hid hpre
  have I1 := Lib.hid i1
  have I2 := Lib.hid i2
  clear hf hi i1 i2 hb ht hpre hset hl1 hlm hm12
  rcases hq : fitOne t r s with _ | x
  ·have HV : Hid (fitV t i r s = ftCells 0 0 ByteArray.empty) := Lib.hid (by unfold fitV; rw [hq])
   rw [HV.out, hq] at HF
   have HNO := Lib.hid (firsts_no (xs := pre) HT.out hq)
   clear hq
   simp only [Option.isSome_none] at HF
   gi_wp2_with (first
    | (refine wpListIn_load_box rfl 137 _ rfl rfl HLT.out ?_)
    | (gi_at_call 137; (with_reducible refine (CallsIn.inRound lp (callsIn_wide.2 HF.out)).mono ?_); rintro e w2 ⟨rfl, hb2⟩
       obtain ⟨w3, hw3⟩ : ∃ w3, w2.alloc (.cells (ftCells 0 0 ByteArray.empty) 44) = w3 := ⟨_, rfl⟩
       have b3 : Box w3 w2.heap.size (ftCells 0 0 ByteArray.empty) 44 := by rw [← hw3]; exact Box.new _ _ _
       have hb3 : Below w2.heap.size w2 w3 := by rw [← hw3]; go_grown
       obtain ⟨w4, hst, hw4⟩ := run_store_all (P := Tryz.prog) agg_ft b3 (ftF 0 0 ByteArray.empty) (fun j _ => ftF_one _ _ _ j)
       have HB4 := Lib.hid (show Below W.heap.size W w4 from hb2.trans ((hw4.below hb3 (Nat.le_refl _)).mono hb2.size))
       have HW3 := Lib.hid hw3
       have HST := Lib.hid hst
       clear hb2 hw3 b3 hb3 hst hw4)
    | (simp only [zft, HW3.out]; refine wpListIn_store_box rfl 44 _ _ rfl rfl rfl HST.out ?_))
   refine ⟨(Keep.of_below' (K := fun _ => True) HB4.out).mono (fun _ _ => trivial), fun k hk => .inl (HI.out.o.c1 HB4.out hk), ?_⟩
   have h1 := HI.out.o.below HB4.out
   exact ⟨by rw [HNO.out]; exact h1, HI.out.b.trans (HB4.out.mono HI.out.b.size), .inl (by have := HB4.out.size; omega)⟩
  ·have HV : Hid (fitV t i r s = ftCells i s (mkB (toS x))) := Lib.hid (by unfold fitV; rw [hq])
   rw [HV.out, hq] at HF
   have HNO := Lib.hid (firsts_yes (xs := pre) HT.out hq)
   have hlen : (firstsOf l r pre).length + 1 ≤ 1000000 := by
    have h1 := firsts_len l r pre
    have h2 := HPRE.out.length_le
    have h3 := TL.out
    simp at h2; omega
   clear hq
   simp only [Option.isSome_some] at HF
   gi_upto_region 6 with (first
    | (refine wpListIn_load_box rfl 137 _ rfl rfl HLT.out ?_)
    | (gi_at_call 137; (with_reducible refine (CallsIn.inRound lp (callsIn_wide.2 HF.out)).mono ?_); rintro e w2 ⟨rfl, hb2⟩
       obtain ⟨w3, hw3⟩ : ∃ w3, w2.alloc (.cells (ftCells 0 0 ByteArray.empty) 44) = w3 := ⟨_, rfl⟩
       have b3 : Box w3 w2.heap.size (ftCells 0 0 ByteArray.empty) 44 := by rw [← hw3]; exact Box.new _ _ _
       have hb3 : Below w2.heap.size w2 w3 := by rw [← hw3]; go_grown
       obtain ⟨w4, hst, hw4⟩ := run_store_all (P := Tryz.prog) agg_ft b3 (ftF i s (mkB (toS x))) (fun j _ => ftF_one _ _ _ j)
       have HB4 := Lib.hid (show Below W.heap.size W w4 from hb2.trans ((hw4.below hb3 (Nat.le_refl _)).mono hb2.size))
       have HL4 := Lib.hid (load_ft hw4.box)
       have HW3 := Lib.hid hw3
       have HST := Lib.hid hst
       clear hb2 hw3 b3 hb3 hst hw4)
    | (simp only [zft, HW3.out]; refine wpListIn_store_box rfl 44 _ _ rfl rfl rfl HST.out ?_))
   have c1 := (I1.out.below' HB4.out).cell 0
   have hbs := run_bslice (P := Tryz.prog) (T := 51) Tryz.underlying51 info_ft2 (by omega) (by omega) (v := .agg (ftCells i s (mkB (toS x)))) (g := ftF i s (mkB (toS x))) rfl w4
   obtain ⟨v', U, hrun, hown, hbU, hkU, hoU⟩ := app_fn (P := Tryz.prog) (TT := 51) Tryz.underlying51 info_ft rfl (by omega) (by omega) (ownsRow_keep I2.out (Keep.of_below' (K := fun _ => True) HB4.out) (fun _ _ => trivial)) hlen (by have := HB4.out.size; omega) (ftF i s (mkB (toS x))) (fun j _ => ftF_one _ _ _ j)
   have BU := Lib.hid ((I1.out.below' HB4.out).below hbU (by omega))
   obtain ⟨r1, r2⟩ := BU.out.rules
   have HBS := Lib.hid hbs
   have HRUN := Lib.hid hrun
   have HOWN := Lib.hid hown
   have HBU := Lib.hid hbU
   have HKU := Lib.hid hkU
   have HOU := Lib.hid hoU
   obtain ⟨a', c', rfl, -, -⟩ := ownsRow_own hown
   clear hbs hrun hown hbU hkU hoU
   gi_wp2_with (first
    | (refine wpListIn_load_box rfl 44 _ rfl rfl HL4.out ?_)
    | (refine wpListIn_bslice rfl 51 _ _ rfl (by simp only [List.map_toArray, List.map_cons, List.map_nil]; exact HBS.out) ?_)
    | (gi_at_builtin; refine wpListIn_app rfl _ _ _ rfl rfl rfl HRUN.out ?_))
   have hk6 : Keep (fun k => k ≠ w.heap.size) U (U.setCell ⟨w.heap.size, 0, none⟩ (.slice a' ((firstsOf l r pre).length + 1) c')) := (Keep.refl _ U).setCell (.inl (by simp)) _
   have hgb : BU.out.lt = BU.out.lt := rfl
   refine ⟨?_, fun k hk => ?_, ?_⟩
   ·refine ((Keep.of_below' (K := fun k => ¬ GrowC w.heap.size W k) HB4.out).trans (HKU.out.mono fun k hk h => hk (.inr ⟨v, I1.out.cell 0, h⟩))).trans (hk6.mono fun k hk h => hk (.inl h))
   ·rcases hk with rfl | ⟨u, hu, hk⟩
    ·exact .inl (.inl rfl)
    ·have : u = .slice a' ((firstsOf l r pre).length + 1) c' := by
      have := (BU.out.set_ 0 (.slice a' ((firstsOf l r pre).length + 1) c')).cell 0
      rw [hu] at this; simpa using this
     subst this
     rcases HOU.out k hk with h | h
     ·exact .inl (.inr ⟨v, I1.out.cell 0, h⟩)
     ·exact .inr (Nat.le_trans HB4.out.size h)
   ·refine ⟨⟨_, BU.out.set_ 0 _, ?_⟩, ?_, ?_⟩
    ·rw [HNO.out, List.length_append, List.length_singleton]
     have := ownsRow_keep HOWN.out hk6 (fun k hk => by omega)
     simp only [ftRows, List.flatMap_append, List.flatMap_cons, List.flatMap_nil, List.append_nil]
     exact this
    ·exact ((HI.out.b.trans (HB4.out.mono HI.out.b.size)).trans (HBU.out.mono (by omega))).setCell (by simp) _
    ·have h1 := HB4.out.size
     have h2 := HKU.out.size
     exact .inl (by simp; omega)
 case done =>
  intro W hi hD
  obtain ⟨v, i1, i2⟩ := hi.o.own
  rw [firstsOf_all] at i2
  obtain ⟨a', c', rfl, hro, hcap⟩ := ownsRow_own i2
  obtain ⟨u11, u12⟩ := i1.rules
  have I2 := Lib.hid hro
  have IB := Lib.hid hi.b
  have HD := Lib.hid hD
  have HCP := Lib.hid hcap
  clear i1 i2 hro hi hD hcap
  gi_wp2_with fail
  refine ⟨by simp, .inl ⟨_, _, rfl, run_takeDeferred HD.out, ?_⟩⟩
  refine ⟨.slice a' (shiftsT l ware r).length c', ?_, ?_⟩
  ·simp [results, go_sem]
  ·have k5 : Keep (fun k => k ≠ w4.heap.size) W (W.putObj w4.heap.size (.deferred none)) := (Keep.refl _ W).putObj (fun h => h rfl) _
   refine ⟨a', c', rfl, (I2.out.keep k5 (fun k hk => by rw [GS.out]; omega)).less (by omega), HCP.out, below_put IB.out (by rw [GS.out]; omega) _⟩
end Go.Proofs.YthpjffhccjlnhaaGreatDoor
