/- Package profile: Ruled. No condition. -/
import Derived.Test.YthpjffhccjlnhaaGreatDoorMG13
import Derived.Laws.EntriesVeiled
set_option linter.unusedSimpArgs false
set_option linter.unusedVariables false
namespace Go.Proofs.YthpjffhccjlnhaaGreatDoor
open Go.RowKit
attribute [local go_sem] Oper.semAt_some

/-- some places of rings have no fit -/
def noFit (l : List Typ) (ware : ByteArray) (r : List Rng) (A : List Nat) : Bool := (shiftsT l ware (ringsAt r A)).isEmpty
def ruledX (l : List Typ) (ware : ByteArray) (r : List Rng) : List Nat := if wantedErr l ware r = 0 ∧ shiftsT l ware r = [] then ruledT (noFit l ware r) r.length else []
def RuledPost (l : List Typ) (ware : ByteArray) (r : List Rng) (w : World) (e : Ending) (w' : World) : Prop :=
 ∃ fa fc, e = .returned (.tuple #[.slice fa (ruledX l ware r).length fc, .bool (blanksIs l ware r), .int .i64 (wantedErr l ware r)]) ∧ Ints w' fa (intsOf (ruledX l ware r)) ∧ (ruledX l ware r).length ≤ fc ∧ Below w.heap.size w w'
theorem rings_sub_err {r : List Rng} (h : ringsErr r = 0) {r' : List Rng} (hs : r'.Sublist r) : ringsErr r' = 0 := by
 obtain ⟨h12, hg⟩ := ringsErr_good h
 have ha := (rings_asc h).1.sub hs
 unfold ringsErr
 rw [if_neg (by have := hs.length_le; omega)]
 refine firstE_none fun i hi => ?_
 obtain ⟨y, hy⟩ : ∃ y, r'[i]? = some y := ⟨r'[i], by simp [hi]⟩
 have hm := hs.subset (List.mem_of_getElem? hy)
 obtain ⟨j, hj⟩ := List.getElem?_of_mem hm
 obtain ⟨g1, g2, g3, _⟩ := hg j y hj
 have g4 : prevB r' y i = false := by
  rcases i with _ | i
  ·rfl
  ·show (match r'[i]? with | some z => decide (y.at_ ≤ z.at_) | none => false) = false
   rcases hz : r'[i]? with _ | z
   ·rfl
   ·have hi1 := (List.getElem?_eq_some_iff.1 hz)
    have hi2 := (List.getElem?_eq_some_iff.1 hy)
    have := List.pairwise_iff_getElem.1 ha.1 i (i + 1) hi1.1 hi2.1 (by omega)
    rw [hi1.2, hi2.2] at this
    exact decide_eq_false (by omega)
 unfold rngErr
 rw [hy]
 simp only [g1, g2, g3, g4]; rfl
theorem ringsAt_all (r : List Rng) : ringsAt r (List.range r.length) = r := by
 refine List.ext_getElem? fun k => ?_
 have hl := ringsAt_len (r := r) (A := List.range r.length) (fun x hx => by simpa using hx)
 rw [List.length_range] at hl
 have : ∀ n, n ≤ r.length → ringsAt r (List.range n) = r.take n := by
  intro n
  induction n with
  | zero => intro _; rfl
  | succ n ih =>
   intro hn
   have hy : r[n]? = some r[n] := by simp [show n < r.length by omega]
   rw [List.range_succ, ringsAt_snoc hy, ih (by omega), List.take_add_one, hy]; rfl
 rw [this _ (Nat.le_refl _), List.take_length]
theorem ringsAt_sub {r : List Rng} {A B : List Nat} (h : A.Sublist B) : (ringsAt r A).Sublist (ringsAt r B) := h.filterMap _
theorem notN_ints (id : Nat) (A : List Nat) : notN (id : Int) (intsOf A) = intsOf (A.filter fun k => !(k == id)) := by
 induction A with
 | nil => rfl
 | cons k A ih =>
  unfold notN intsOf at ih ⊢
  rw [List.map_cons, List.filter_cons, List.filter_cons, ih]
  by_cases e : k = id
  ·subst e; simp
  ·have : ¬ (k : Int) = (id : Int) := by omega
   simp [e, this]
theorem intsOf_len (A : List Nat) : (intsOf A).length = A.length := by simp [intsOf]
/-- what is left behind some of the backward rounds -/
def ruledTo (nofit : List Nat → Bool) (n k : Nat) : List Nat := ((List.range n).reverse.take k).foldl (ruledStep nofit) (List.range n)
theorem ruledTo_all (nofit : List Nat → Bool) (n : Nat) : ruledTo nofit n n = ruledT nofit n := by
 unfold ruledTo ruledT ruledGo
 rw [List.take_of_length_le (by simp)]
theorem ruledTo_succ (nofit : List Nat → Bool) {n k : Nat} (hk : k < n) : ruledTo nofit n (k + 1) = ruledStep nofit (ruledTo nofit n k) (n - 1 - k) := by
 unfold ruledTo
 have h : (List.range n).reverse[k]? = some (n - 1 - k) := by
  rw [List.getElem?_reverse (by simpa using hk), List.length_range]
  exact List.getElem?_range (by omega)
 rw [List.take_add_one, h, Option.toList_some, List.foldl_append]; rfl
theorem ruledTo_sub (nofit : List Nat → Bool) (n k : Nat) : (ruledTo nofit n k).Sublist (List.range n) := fold_sub _ _
theorem bk_at (n k : Nat) (hk : k < n) : bkItem (intsOf (List.range n)) k = (n - 1 - k, ((n - 1 - k : Nat) : Int)) := by
 unfold bkItem
 rw [intsOf_len, List.length_range]
 have : (intsOf (List.range n)).getD (n - 1 - k) 0 = ((n - 1 - k : Nat) : Int) := by
  unfold intsOf
  simp [List.getD_eq_getElem?_getD, show n - 1 - k < n by omega]
 rw [this]
theorem rings_of_sub {r : List Rng} {A : List Nat} (h : A.Sublist (List.range r.length)) : ∀ k ∈ A, k < r.length := fun k hk => by simpa using h.subset hk
set_option maxRecDepth 100000 in
set_option maxHeartbeats 1000000 in
theorem ruled_no (a : Option Addr) (c : Nat) (l : List Typ) (ware : ByteArray) (ra : Option Addr) (rc : Nat) (r : List Rng) (w : World) (h : Ask w a c l ra rc r) (hno : ¬ (wantedErr l ware r = 0 ∧ shiftsT l ware r = [])) :
  Calls Tryz.prog 27 #[.slice a l.length c, .string ware, .slice ra r.length rc] w (RuledPost l ware r w) := by
 obtain ⟨w1, hw1⟩ : ∃ w1, ((w.alloc (.cells #[.slice a l.length c] 22)).alloc (.cells #[.string ware] 9)).alloc (.cells #[.slice ra r.length rc] 37) = w1 := ⟨_, rfl⟩
 have cap : TrCap a l.length c ware ra r.length rc w.heap.size (w.heap.size + 1) (w.heap.size + 2) w1 := by
  rw [← hw1]
  exact ⟨((Box.new _ _ _).alloc _).alloc _, (Box.new' (by simp)).alloc _, Box.new' (by simp)⟩
 have hB : Below w.heap.size w w1 := by rw [← hw1]; go_grown
 have HX : Hid (ruledX l ware r = []) := Lib.hid (by unfold ruledX; rw [if_neg hno])
 have HA := Lib.hid (h.below hB)
 have CAP := Lib.hid cap
 have HB := Lib.hid hB
 have HW := Lib.hid hw1
 have c0 := cap.b0.cell 0
 have c1 := cap.b1.cell 0
 have c2 := cap.b2.cell 0
 clear h cap hB hw1
 go_enter Tryz.func27, Tryz.ntmps27
 go_upto_region 1 with fail
 simp only [HW.out]
 go_wp2_with fail
 clear c0 c1 c2
 refine (HA.out.wanted ware).mono ?_
 rintro e w2 ⟨rfl, hb2⟩
 have A2 := Lib.hid (HA.out.below hb2)
 have cap2 := CAP.out.below hb2
 have c0 := cap2.b0.cell 0
 have c1 := cap2.b1.cell 0
 have c2 := cap2.b2.cell 0
 have HB2 := Lib.hid (HB.out.trans (hb2.mono HB.out.size))
 clear hb2 HA cap2
 by_cases h0 : wantedErr l ware r = 0
 ·have H0 := Lib.hid h0
  have HF := Lib.hid (A2.out.fits h0)
  have HIS : Hid (blanksIs l ware r = false) := Lib.hid (by
   rcases hq : shiftsT l ware r with _ | ⟨f, L⟩
   ·exact absurd ⟨h0, hq⟩ hno
   ·unfold blanksIs; rw [hq]; simp)
  have hpos : 0 < (shiftsT l ware r).length := by
   rcases hq : shiftsT l ware r with _ | ⟨f, L⟩
   ·exact absurd ⟨h0, hq⟩ hno
   ·simp
  rw [h0]
  clear h0 hno
  go_wp2_with fail
  refine HF.out.mono ?_
  rintro e w3 ⟨fa, fc, rfl, hro, hfc, hb3⟩
  have HB3 := Lib.hid (HB2.out.trans (hb3.mono HB2.out.size))
  have hpi : (0 : Int) < ((shiftsT l ware r).length : Int) := by omega
  clear HF hb3 hro hfc
  go_wp2_with fail
  exact bodyPost_ret (results_tmp3 rfl) rfl ⟨none, 0, by rw [HX.out, HIS.out, H0.out]; rfl, by rw [HX.out]; exact Ints.nil _ _, by rw [HX.out]; exact Nat.le_refl _, HB3.out⟩
 ·have hne : (wantedErr l ware r == 0) = false := by simpa using h0
  have HIS : Hid (blanksIs l ware r = false) := Lib.hid (by unfold blanksIs; rw [hne]; rfl)
  go_wp2_with fail
  exact bodyPost_ret (results_tmp3 rfl) rfl ⟨none, 0, by rw [HX.out, HIS.out]; rfl, by rw [HX.out]; exact Ints.nil _ _, by rw [HX.out]; exact Nat.le_refl _, HB2.out⟩
/-- a row whose block is of A -/
def RowAv (A : Nat → Prop) (W : World) (a : Option Addr) (xs : List Value) : Prop := ∀ (k : Nat) v, xs[k]? = some v → ∃ b o, a = some ⟨b, o, none⟩ ∧ A b ∧ W.cell? ⟨b, o + k, none⟩ = some v
theorem RowAv.keep {A K : Nat → Prop} {W W' : World} {a : Option Addr} {xs : List Value} (h : RowAv A W a xs) (hk : Keep K W W') (hK : ∀ b, A b → K b) : RowAv A W' a xs := fun k v hv => by
 obtain ⟨b, o, ha, hb, hc⟩ := h k v hv
 exact ⟨b, o, ha, hb, hk.cell (hK b hb) hc⟩
theorem RowAv.ints {A : Nat → Prop} {W : World} {a : Option Addr} {l : List Int} (h : RowAv A W a (l.map (Value.int .i64))) : Ints W a l := fun k v hv => by
 obtain ⟨b, o, ha, _, hc⟩ := h k v hv
 exact ⟨b, o, ha, hc⟩
theorem RowOwn.av {A : Nat → Prop} {B : Nat} {W : World} {a : Option Addr} {xs : List Value} (h : RowOwn B W a xs) (hA : ∀ b, B ≤ b → b < W.heap.size → A b) : RowAv A W a xs := fun k v hv => by
 obtain ⟨b, o, ha, hb, hc, _⟩ := h k v hv
 exact ⟨b, o, ha, hA b hb (lt_of_cell hc), hc⟩
def avB (g R b : Nat) : Prop := b ≠ g ∧ b ≠ R ∧ b ≠ R + 1
/-- the memory of Ruled: the boxes, out behind its cell g, the function behind its cell g2, the row c0 that is ranged over; R is the range's block -/
structure RuSt (a : Option Addr) (n c : Nat) (ware : ByteArray) (ra : Option Addr) (m rc g g2 R : Nat) (A : List Nat) (c0 : Option Addr) (w W : World) : Prop where
 cap : TrCap a n c ware ra m rc w.heap.size (w.heap.size + 1) (w.heap.size + 2) W
 out : ∃ oa oc, Box W g #[.slice oa (intsOf A).length oc] 38 ∧ RowAv (avB g R) W oa ((intsOf A).map (Value.int .i64)) ∧ (intsOf A).length ≤ oc
 fn : Box W g2 #[.func (.func 88) #[] #[.pointer (some ⟨w.heap.size + 2, 0, none⟩)]] 126
 row : RowAv (avB g R) W c0 ((intsOf (List.range m)).map (Value.int .i64))
 bel : Below w.heap.size w W
 gz : w.heap.size + 2 < g
 gg : g < g2
 gr : g2 < R
theorem RuSt.below {a : Option Addr} {n c : Nat} {ware : ByteArray} {ra : Option Addr} {m rc g g2 R : Nat} {A : List Nat} {c0 : Option Addr} {w W W' : World} (h : RuSt a n c ware ra m rc g g2 R A c0 w W) (hb : Below W.heap.size W W') : RuSt a n c ware ra m rc g g2 R A c0 w W' := by
 obtain ⟨oa, oc, o1, o2, o3⟩ := h.out
 have hk := Keep.of_below' (K := fun _ => True) hb
 exact ⟨h.cap.below hb, ⟨oa, oc, o1.below' hb, o2.keep hk (fun _ _ => trivial), o3⟩, h.fn.below' hb, h.row.keep hk (fun _ _ => trivial), h.bel.trans (hb.mono h.bel.size), h.gz, h.gg, h.gr⟩
theorem RuSt.put {a : Option Addr} {n c : Nat} {ware : ByteArray} {ra : Option Addr} {m rc g g2 R : Nat} {A : List Nat} {c0 : Option Addr} {w W : World} (h : RuSt a n c ware ra m rc g g2 R A c0 w W) {k0 : Nat} (hk0 : k0 = R ∨ k0 = R + 1) (o : Obj) : RuSt a n c ware ra m rc g g2 R A c0 w (W.putObj k0 o) := by
 obtain ⟨oa, oc, o1, o2, o3⟩ := h.out
 have hk : Keep (fun k => k ≠ k0) W (W.putObj k0 o) := (Keep.refl _ W).putObj (fun h => h rfl) o
 have z1 := h.gz
 have z2 := h.gg
 have z3 := h.gr
 have hA : ∀ b, avB g R b → b ≠ k0 := fun b hb => by
  obtain ⟨h1, h2, h3⟩ := hb
  rcases hk0 with rfl | rfl
  ·exact h2
  ·exact h3
 exact ⟨h.cap.keep hk (by omega) (by omega) (by omega), ⟨oa, oc, hk.heap (by omega) o1, o2.keep hk hA, o3⟩, hk.heap (by omega) h.fn, h.row.keep hk hA, below_put h.bel (by omega) o, z1, z2, z3⟩
/-- a range over a list from behind, whose rounds write one cell -/
theorem wpIn_bk {og : Operand} {p1 p2 : Tmp} {assign body : Code} {Q : Exit → Act → World → Prop} {a : Act} {w : World} {ca : Option Addr} {cc : Nat} {L : List Int} {gb : Nat}
  (hg : a.eval og = .func (.func 138) #[] #[.pointer (some ⟨gb, 0, none⟩)]) (hl : L.length ≤ 1000000) (hb : Box w gb #[.slice ca L.length cc] 38) (c0 : Nat) (I : List (Nat × Int) → World → Prop)
  (hC4 : c0 < w.heap.size) (hgb : gb ≠ c0) (hi : ∀ s A, I s A → Ints A ca L) (hI : ∀ s A B, I s A → Below A.heap.size A B → I s B) (hI2 : ∀ s A o, I s A → I s (A.putObj (w.heap.size + 1) o)) (h0 : I [] w) (q : Tmp)
  (hassign : ∀ (lp : Nat) (x : Nat × Int) (W W2 : World) (K : Act → World → Prop), W.alloc (.cells #[.int .i64 x.2] 3) = W2 →
   K { tmps := ((a.tmps.setIfInBounds p1 (.int .i64 x.1)).setIfInBounds p2 (.int .i64 x.2)).setIfInBounds q (.pointer (some ⟨W.heap.size, 0, none⟩)), defers := [] } W2 →
   assign.wpIn (Fence.wide.inRound lp) 0 Tryz.prog (Exit.then K (fun _ _ _ => False)) { tmps := (a.tmps.setIfInBounds p1 (.int .i64 x.1)).setIfInBounds p2 (.int .i64 x.2), defers := [] } W)
  (hbody : ∀ (lp : Nat) (pre : List (Nat × Int)) (x : Nat × Int) (ib : Nat) (W : World), I pre W → (pre ++ [x]) <+: bk L L.length → IntBox W ib x.2 → w.heap.size + 1 < ib → w.heap.size + 1 < W.heap.size →
   body.wpIn (Fence.wide.inRound lp) 0 Tryz.prog (roundEndsC (fun _ k => k = c0) (fun k => k = w.heap.size ∨ k = w.heap.size + 1) I (fun _ _ _ => False) (pre ++ [x]) W) { tmps := ((a.tmps.setIfInBounds p1 (.int .i64 x.1)).setIfInBounds p2 (.int .i64 x.2)).setIfInBounds q (.pointer (some ⟨ib, 0, none⟩)), defers := [] } W)
  (hdone : ∀ (W : World), I (bk L L.length) W → W.heap[w.heap.size]? = some (.deferred (some [])) → Q .normal { a with defers := { target := .collected w.heap.size, args := #[] } :: a.defers } W) :
  (Code.rangeFunc og #[p1, p2] assign body).wpIn Fence.wide 0 Tryz.prog Q a w := by
 have hlt := hb.lt
 refine wpIn_rangeC (gf := 138) (lb := #[.pointer (some ⟨gb, 0, none⟩)]) (Rd := BkRd) (xs := bk L L.length) hg (enters_of Tryz.func138 (by kernel_rfl) rfl)
  (fun o1 o2 => backward1_gives ca L hl cc gb _ (hb.below' (((Below.refl _ _).alloc (Nat.le_refl _) _).alloc (by simp) _))) ?ps (fun _ k => k = c0) I (fun _ _ _ => False) ?hC1 ?hC2 ?hC3 ?hC4 ?ok hI hI2 ?hIx ?hIx2 h0
  (fun x args act A => ∃ ib, act = { tmps := ((a.tmps.setIfInBounds p1 (.int .i64 x.1)).setIfInBounds p2 (.int .i64 x.2)).setIfInBounds q (.pointer (some ⟨ib, 0, none⟩)), defers := [] } ∧ IntBox A ib x.2 ∧ w.heap.size + 1 < ib) ?hAs ?assign ?body hdone ?stop
 case ps => rintro x args W rfl; rfl
 case hC1 => exact fun _ _ _ _ _ _ _ h => h
 case hC2 => exact fun _ A k _ hA e => by omega
 case hC3 => exact fun _ _ => rfl
 case hC4 => exact fun _ _ _ _ => ⟨by omega, by omega⟩
 case ok => exact fun rec pre A h => ⟨hi _ _ h.1, fun h => by omega⟩
 case hIx => exact fun _ _ _ _ h _ => h.elim
 case hIx2 => exact fun _ _ _ _ h => h.elim
 case stop => exact fun _ _ _ _ h => h.elim
 case hAs =>
  rintro x args act A o ⟨ib, e, h1, h2⟩
  exact ⟨ib, e, ((Keep.refl (fun k => k ≠ w.heap.size + 1) A).putObj (fun h => h rfl) o).heap (by omega) h1, h2⟩
 case assign =>
  rintro lp x args W K rfl hlt hk
  have e : (#[p1, p2].zip #[Value.int .i64 (x.1 : Int), Value.int .i64 x.2]).foldl (fun t (q, v) => t.setIfInBounds q v) a.tmps = (a.tmps.setIfInBounds p1 (.int .i64 (x.1 : Int))).setIfInBounds p2 (.int .i64 x.2) := by simp
  rw [e]
  exact hassign lp x W _ K rfl (hk _ _ ⟨_, rfl, Box.new _ _ _, by omega⟩ ((Below.refl _ _).alloc (Nat.le_refl _) _))
 case body =>
  rintro lp pre x args act W hi' ⟨ib, rfl, h1, h2⟩ hpre hlt _ _
  exact hbody lp pre x ib W hi' hpre h1 h2 hlt
theorem bk_pre {n : Nat} {pre : List (Nat × Int)} {x : Nat × Int} (h : (pre ++ [x]) <+: bk (intsOf (List.range n)) n) : pre.length < n ∧ x = (n - 1 - pre.length, ((n - 1 - pre.length : Nat) : Int)) := by
 have h1 := pre_at h
 have h2 : pre.length < n := by have := h.length_le; simp [bk] at this; omega
 refine ⟨h2, ?_⟩
 rw [← bk_at n pre.length h2]
 simp [bk, h2] at h1
 exact h1.symm
set_option maxRecDepth 100000 in
set_option maxHeartbeats 4000000 in
theorem ruled_any (a : Option Addr) (c : Nat) (l : List Typ) (ware : ByteArray) (ra : Option Addr) (rc : Nat) (r : List Rng) (w : World) (h : Ask w a c l ra rc r) :
  Calls Tryz.prog 27 #[.slice a l.length c, .string ware, .slice ra r.length rc] w (RuledPost l ware r w) := by
 by_cases hno : wantedErr l ware r = 0 ∧ shiftsT l ware r = []
 rotate_left
 ·exact ruled_no a c l ware ra rc r w h hno
 obtain ⟨h0, hsh⟩ := hno
 have hmf := run_mf Tryz.prog
 obtain ⟨hl, hr, -⟩ := wanted_good h0
 have hr12 := (ringsErr_good hr).1
 obtain ⟨w1, hw1⟩ : ∃ w1, ((w.alloc (.cells #[.slice a l.length c] 22)).alloc (.cells #[.string ware] 9)).alloc (.cells #[.slice ra r.length rc] 37) = w1 := ⟨_, rfl⟩
 have cap : TrCap a l.length c ware ra r.length rc w.heap.size (w.heap.size + 1) (w.heap.size + 2) w1 := by
  rw [← hw1]
  exact ⟨((Box.new _ _ _).alloc _).alloc _, (Box.new' (by simp)).alloc _, Box.new' (by simp)⟩
 have hB : Below w.heap.size w w1 := by rw [← hw1]; go_grown
 have gs1 : w1.heap.size = w.heap.size + 3 := by rw [← hw1]; simp
 have hwt := (h.below hB).wanted ware
 rw [h0] at hwt
 have hft := fun w' (hb : Below w.heap.size w w') => (h.below hb).fits h0
 rw [hsh] at hft
 have HWT := Lib.hid hwt
 have HFT := Lib.hid hft
 have HA := Lib.hid h
 have HE : Hid (ruledX l ware r = ruledT (noFit l ware r) r.length ∧ blanksIs l ware r = true ∧ wantedErr l ware r = 0) := Lib.hid ⟨by unfold ruledX; rw [if_pos ⟨h0, hsh⟩], by unfold blanksIs; rw [h0, hsh]; rfl, h0⟩
 have CAP := Lib.hid cap
 have HB := Lib.hid hB
 have HW := Lib.hid hw1
 have GS1 := Lib.hid gs1
 have HL0 := Lib.hid hl
 have HR0 := Lib.hid hr
 have c0 := cap.b0.cell 0
 have c1 := cap.b1.cell 0
 have c2 := cap.b2.cell 0
 clear h hwt hft h0 hsh cap hB hw1 gs1 hl hr
 refine (callsIn_wide (n := 0)).1 (callsIn_of_wp_marks Tryz.func27 rfl trivial ?_ rfl)
 simp only [Tryz.ntmps27, List.size_toArray, List.length_cons, List.length_nil, Nat.reduceAdd, Nat.reduceSub, Array.replicate_succ, Array.replicate_zero, List.push_toArray, List.append_toArray, List.nil_append, List.cons_append]
 gi_upto_region 1 with fail
 simp only [HW.out]
 gi_upto_region 6 with (first
  | (gi_at_call 86; (with_reducible refine (callsIn_wide.2 HWT.out).mono ?_); rintro e w2 ⟨rfl, hb2⟩; clear c0 c1 c2; have cap2 := CAP.out.below hb2; have c0 := cap2.b0.cell 0; have c1 := cap2.b1.cell 0; have c2 := cap2.b2.cell 0; have CAP2 := Lib.hid cap2; have HB2 := Lib.hid (HB.out.trans (hb2.mono HB.out.size)); clear hb2 cap2)
  | (gi_at_call 87; (with_reducible refine (callsIn_wide.2 (HFT.out w2 HB2.out)).mono ?_); rintro e w3 ⟨fa, fc, rfl, -, -, hb3⟩; clear c0 c1 c2; have cap3 := CAP2.out.below hb3; have c0 := cap3.b0.cell 0; have c1 := cap3.b1.cell 0; have c2 := cap3.b2.cell 0; have CAP3 := Lib.hid cap3; have HB3 := Lib.hid (HB2.out.trans (hb3.mono HB2.out.size)); have HS3 := Lib.hid (Nat.le_trans HB2.out.size hb3.size); have HS2 := Lib.hid hb3.size; clear hb3 cap3))
 clear c0 c1 c2
 obtain ⟨w4, hw4⟩ : ∃ w4, w3.alloc (.cells #[.slice none 0 0] 38) = w4 := ⟨_, rfl⟩
 obtain ⟨g, hg⟩ : ∃ g, w3.heap.size = g := ⟨_, rfl⟩
 have o4 : GrowI (g + 1) g 38 3 1 0 [] w4 := ⟨_, by rw [← hw4, ← hg]; exact Box.new _ _ _, ownsRow_nil _ _ _ _⟩
 have cap4 : TrCap a l.length c ware ra r.length rc w.heap.size (w.heap.size + 1) (w.heap.size + 2) w4 := by rw [← hw4]; exact CAP3.out.below ((Below.refl _ _).alloc (Nat.le_refl _) _)
 have hb4 : Below w.heap.size w w4 := by rw [← hw4]; exact HB3.out.alloc HS3.out _
 have gs4 : w4.heap.size = g + 1 := by rw [← hw4, ← hg]; simp
 have hgz : w.heap.size + 2 < g := by rw [← hg]; exact CAP3.out.b2.lt
 gi_upto_region 7 with fail
 (try simp only [hw4, hg])
 have O4 := Lib.hid o4
 have CAP4 := Lib.hid cap4
 have HB4 := Lib.hid hb4
 have GS4 := Lib.hid gs4
 have c2 := cap4.b2.cell 0
 clear o4 cap4 hb4 gs4 hw4 hg CAP CAP2 CAP3 HB HB2 HB3 HS2 HS3 HW HWT HFT GS1
 gi_wp2_with fail
 clear c2
 gi_loopw [31] (fun iv wr => ∃ k : Nat, k ≤ r.length ∧ iv = .int .i64 k ∧ GrowI (g + 1) g 38 3 1 k ((intsOf (List.range k)).map (Value.int .i64)) wr ∧ TrCap a l.length c ware ra r.length rc w.heap.size (w.heap.size + 1) (w.heap.size + 2) wr ∧ Below w.heap.size w wr ∧ g + 1 ≤ wr.heap.size) (fun iv _ => r.length - (intOf iv).toNat)
 case atStart => exact ⟨0, Nat.zero_le _, rfl, O4.out, CAP4.out, HB4.out, by rw [GS4.out]; exact Nat.le_refl _⟩
 case round =>
  clear O4 CAP4 HB4 GS4
  obtain ⟨k, hk, rfl, ho, hcap, hb, hz⟩ := hrel
  by_cases hlt : k < r.length
  ·have hki : (k : Int) < (r.length : Int) := by omega
   obtain ⟨v, o1, o2⟩ := ho.own
   obtain ⟨v', U, hrun, hown, hbU⟩ := app_one (E := 3) (TT := 38) Tryz.underlying38 info_int rfl (by omega) o2 (by omega) hz (.int .i64 (k : Int)) rfl
   obtain ⟨a', c', rfl, -, -⟩ := ownsRow_own hown
   have c1 := o1.cell 0
   have oU := o1.below hbU (by omega)
   obtain ⟨r1, r2⟩ := oU.rules
   have HRUN := Lib.hid hrun
   have hk6 : Keep (fun j => j ≠ g) U (U.setCell ⟨g, 0, none⟩ (.slice a' (k + 1) c')) := (Keep.refl _ U).setCell (.inl (by simp)) _
   have NXT : Hid (GrowI (g + 1) g 38 3 1 (k + 1) ((intsOf (List.range (k + 1))).map (Value.int .i64)) (U.setCell ⟨g, 0, none⟩ (.slice a' (k + 1) c')) ∧ TrCap a l.length c ware ra r.length rc w.heap.size (w.heap.size + 1) (w.heap.size + 2) (U.setCell ⟨g, 0, none⟩ (.slice a' (k + 1) c')) ∧ Below w.heap.size w (U.setCell ⟨g, 0, none⟩ (.slice a' (k + 1) c')) ∧ g + 1 ≤ (U.setCell ⟨g, 0, none⟩ (.slice a' (k + 1) c')).heap.size) := Lib.hid (by
    refine ⟨⟨_, oU.set_ 0 _, ?_⟩, ?_, (hb.trans (hbU.mono (by omega))).setCell (by simp; omega) _, by have := hbU.size; simp; omega⟩
    ·rw [List.range_succ]
     simp only [intsOf, List.map_append, List.map_cons, List.map_nil]
     exact ownsRow_keep hown hk6 (fun j hj => by omega)
    ·have hbg : Keep (fun j => j < g + 1) _ U := ⟨hbU.os, hbU.tape, hbU.output, hbU.size, fun j hj _ => hbU.block j hj⟩
     exact (hcap.keep hbg (by omega) (by omega) (by omega)).keep hk6 (by omega) (by omega) (by omega))
   clear ho hcap hb o1 o2 hrun hown hbU oU hk6
   gi_wp2_with (gi_at_builtin; refine wpListIn_app rfl _ _ _ rfl rfl rfl HRUN.out ?_)
   go_roundw
   case rel => exact ⟨k + 1, by omega, by go_num, NXT.out.1, NXT.out.2.1, NXT.out.2.2.1, NXT.out.2.2.2⟩
   case measure => simp [intOf]; omega
  ·have hkn : decide ((k : Int) < (r.length : Int)) = false := decide_eq_false (by omega)
   obtain rfl : k = r.length := by omega
   obtain ⟨L, hL⟩ : ∃ L, intsOf (List.range r.length) = L := ⟨_, rfl⟩
   have hLl : L.length = r.length := by rw [← hL, intsOf_len, List.length_range]
   obtain ⟨v, o1, o2⟩ := ho.own
   obtain ⟨oa, oc, rfl, hro, hcp⟩ := ownsRow_own o2
   rw [hL] at hro
   obtain ⟨g2, hg2⟩ : ∃ g2, wr.heap.size = g2 := ⟨_, rfl⟩
   obtain ⟨w5, hw5⟩ : ∃ w5, wr.alloc (.cells #[.func (.func 88) #[] #[.pointer (some ⟨w.heap.size + 2, 0, none⟩)]] 126) = w5 := ⟨_, rfl⟩
   have f5 : Box w5 g2 #[.func (.func 88) #[] #[.pointer (some ⟨w.heap.size + 2, 0, none⟩)]] 126 := by rw [← hw5, ← hg2]; exact Box.new _ _ _
   have hb5 : Below wr.heap.size wr w5 := by rw [← hw5]; exact (Below.refl _ _).alloc (Nat.le_refl _) _
   have gs5 : w5.heap.size = g2 + 1 := by rw [← hw5, ← hg2]; simp
   have hcl := clone2_any oa oc L w5 (hro.row.below hb5) (by omega)
   rw [hLl] at hcl
   have c5 := (o1.below' hb5).cell 0
   have HCL := Lib.hid hcl
   have HRO := Lib.hid (hro.below hb5)
   have O1 := Lib.hid (o1.below' hb5)
   have CP5 := Lib.hid (hcap.below hb5)
   have HB5 := Lib.hid (hb.trans (hb5.mono hb.size))
   have F5 := Lib.hid f5
   have GS5 := Lib.hid gs5
   have HCP := Lib.hid hcp
   have HL := Lib.hid hL
   have HLL := Lib.hid hLl
   have HW5 := Lib.hid hw5
   have HG2 := Lib.hid hg2
   have hgg : g < g2 := by omega
   clear ho hcap hb o1 o2 hro hcp hL hLl hw5 f5 hb5 gs5 hcl hg2 hz
   gi_upto_region 13 with fail
   simp only [HW5.out, HG2.out]
   gi_wp2_with (first
    | (gi_at_call 90; (with_reducible refine (callsIn_wide.2 HCL.out).mono ?_); rintro e w6 ⟨ca, cc, rfl, hrc, hcc, hb6⟩; have HRC := Lib.hid hrc; have HCC := Lib.hid hcc; have HB6 := Lib.hid hb6; clear hrc hcc hb6)
    | (gi_at_call 89; (with_reducible refine (callsIn_wide.2 (backward_any ca L cc w6)).mono ?_); rintro e w' ⟨rfl, rfl⟩))
   obtain ⟨gb, hgb⟩ : ∃ gb, w6.heap.size = gb := ⟨_, rfl⟩
   obtain ⟨w7, hw7⟩ : ∃ w7, w6.alloc (.cells #[.slice ca L.length cc] 38) = w7 := ⟨_, rfl⟩
   have b7 : Box w7 gb #[.slice ca L.length cc] 38 := by rw [← hw7, ← hgb]; exact Box.new _ _ _
   have gs7 : w7.heap.size = gb + 1 := by rw [← hw7, ← hgb]; simp
   have hb67 : Below w6.heap.size w6 w7 := by rw [← hw7]; exact (Below.refl _ _).alloc (Nat.le_refl _) _
   have hb57 := HB6.out.trans (hb67.mono HB6.out.size)
   have hgb5 : g2 + 1 ≤ gb := by have := HB6.out.size; have := GS5.out; omega
   simp only [hw7, hgb]
   have hLr := HL.out
   have hll := HLL.out
   have ST7 : Hid (RuSt a l.length c ware ra r.length rc g g2 w7.heap.size (ruledTo (noFit l ware r) r.length 0) ca w w7) := Lib.hid (by
    have hA : ∀ b, g + 1 ≤ b → b < w7.heap.size → avB g w7.heap.size b := fun b h1 h2 => ⟨by omega, by omega, by omega⟩
    refine ⟨CP5.out.below hb57, ⟨oa, oc, ?_, ?_, ?_⟩, F5.out.below' hb57, ?_, HB5.out.trans (hb57.mono HB5.out.size), by omega, hgg, by omega⟩
    ·show Box w7 g #[.slice oa (intsOf (List.range r.length)).length oc] 38
     rw [intsOf_len, List.length_range]; exact O1.out.below' hb57
    ·show RowAv _ _ _ ((intsOf (List.range r.length)).map (Value.int .i64))
     rw [hLr]; exact (HRO.out.below hb57).av hA
    ·show (intsOf (List.range r.length)).length ≤ oc
     rw [intsOf_len, List.length_range]; exact HCP.out
    ·rw [hLr]
     exact (HRC.out.below hb67).av fun b h1 h2 => hA b (by have := GS5.out; omega) h2)
   have B7 := Lib.hid b7
   have GS7 := Lib.hid gs7
   clear b7 gs7 hb67 hb57 hw7 hgb hLr hll HCL HRO O1 CP5 HB5 F5 GS5 HCP HRC HB6 HW5 HG2
   refine wpIn_bk (cc := cc) rfl (by rw [HLL.out]; omega) B7.out g (fun pre W => RuSt a l.length c ware ra r.length rc g g2 w7.heap.size (ruledTo (noFit l ware r) r.length pre.length) ca w W) ?hC4 ?hgb ?hi ?hI ?hI2 ?h0 14 ?assign ?body ?done
   case hC4 => rw [GS7.out]; omega
   case hgb => omega
   case hi => exact fun s A h => by rw [← HL.out]; exact h.row.ints
   case hI => exact fun s A B h hb => h.below hb
   case hI2 => exact fun s A o h => h.put (.inr rfl) o
   case h0 => exact ST7.out
   case assign =>
    intro lp x W W2 K h1 hk
    have H1 := Lib.hid h1
    have HK := Lib.hid hk
    clear h1 hk
    gi_wp2_with fail
    rw [H1.out]
    exact HK.out
   case done =>
    rintro W hst hD
    obtain ⟨oa, oc, o1, o2, o3⟩ := hst.out
    have e : (bk L L.length).length = r.length := by rw [← HLL.out]; simp [bk]
    rw [e, ruledTo_all] at o1 o2 o3
    have c1 := o1.cell 0
    have S := Lib.hid hst.bel
    have O2 := Lib.hid o2
    have O3 := Lib.hid o3
    have HD := Lib.hid hD
    clear hst o1 o2 o3 hD e
    gi_wp2_with fail
    refine ⟨by simp, .inl ⟨_, _, rfl, run_takeDeferred HD.out, ?_⟩⟩
    refine ⟨.tuple #[.slice oa (intsOf (ruledT (noFit l ware r) r.length)).length oc, .bool true, .int .i64 0], ?_, ?_⟩
    ·simp [results, go_sem]
    ·have k5 : Keep (fun k => k ≠ w7.heap.size) W (W.putObj w7.heap.size (.deferred none)) := (Keep.refl _ W).putObj (fun h => h rfl) _
     refine ⟨oa, oc, by rw [HE.out.1, HE.out.2.1, HE.out.2.2, intsOf_len], ?_, by rw [HE.out.1, ← intsOf_len]; exact O3.out, below_put S.out (by have := GS7.out; omega) _⟩
     rw [HE.out.1]
     exact (O2.out.keep k5 (fun b hb => hb.2.1)).ints
   case body =>
    intro lp pre x ib W hst hpre hib hib1 hlt2
    simp only [List.setIfInBounds_toArray, List.set_cons_succ, List.set_cons_zero]
    rw [← HL.out, intsOf_len, List.length_range] at hpre
    obtain ⟨hpl, rfl⟩ := bk_pre hpre
    obtain ⟨id, hid⟩ : ∃ id : Nat, r.length - 1 - pre.length = id := ⟨_, rfl⟩
    obtain ⟨A, hA⟩ : ∃ A, ruledTo (noFit l ware r) r.length pre.length = A := ⟨_, rfl⟩
    have hAs : A.Sublist (List.range r.length) := by rw [← hA]; exact ruledTo_sub _ _ _
    have hNX : ∀ z, ruledTo (noFit l ware r) r.length (pre ++ [z]).length = ruledStep (noFit l ware r) A id := fun z => by
     rw [List.length_append, List.length_singleton, ruledTo_succ _ hpl, hA, hid]
    simp only [hid] at hib ⊢
    rw [hA] at hst
    obtain ⟨A', hA'⟩ : ∃ A' : List Nat, (A.filter fun k => !(k == id)) = A' := ⟨_, rfl⟩
    have hAs' : A'.Sublist (List.range r.length) := by rw [← hA']; exact (List.filter_sublist).trans hAs
    have hAl : (intsOf A).length ≤ 12 := by rw [intsOf_len]; have := hAs.length_le; simp at this; omega
    have hAl' : A'.length ≤ 12 := by have := hAs'.length_le; simp at this; omega
    obtain ⟨oa, oc, o1, o2, o3⟩ := hst.out
    have S := Lib.hid hst
    have hib2 := hib.lt
    have hcl := clone2_any oa oc (intsOf A) W o2.ints (by omega)
    have hdl := fun (W2 : World) (hb2 : Below W.heap.size W W2) (ra' : Option Addr) (rc' : Nat) (h1 : RowOwn W.heap.size W2 ra' ((intsOf A).map (Value.int .i64))) (h2 : (intsOf A).length ≤ rc') =>
     deleteFunc_any (id : Int) ib W.heap.size hib2 ra' rc' (intsOf A) W2 ((hib.below' hb2).cell 0) h1 h2 (by omega)
    simp only [notN_ints, hA'] at hdl
    have HCL := Lib.hid hcl
    have HDL := Lib.hid hdl
    have HAS := Lib.hid hAs'
    have HNX := Lib.hid hNX
    have HA1 := Lib.hid hA'
    have c1 := o1.cell 0
    clear hst o1 o2 o3 hcl hdl hpre hA hAs hNX hA' hid hib
    gi_upto_region 16 with (first
     | (gi_at_call 90; (with_reducible refine (CallsIn.inRound lp (callsIn_wide.2 HCL.out)).mono ?_); rintro e v2 ⟨ra', rc', rfl, hra, hrc', hb2⟩; have HR2 := Lib.hid hra; have HC2 := Lib.hid hrc'; have HB2 := Lib.hid hb2; clear hra hrc' hb2)
     | (gi_at_call 91; (with_reducible refine (CallsIn.inRound lp (callsIn_wide.2 (HDL.out v2 HB2.out ra' rc' HR2.out HC2.out))).mono ?_); rintro e v3 ⟨rfl, hr3, hb3⟩; have HR3 := Lib.hid hr3; have HB3 := Lib.hid (HB2.out.trans hb3); clear hr3 hb3))
    rename_i KK hKK
    have S3 := S.out.below HB3.out
    have hft := fun (W' : World) (hb : Below v3.heap.size v3 W') (xa : Option Addr) (xc : Nat) (h1 : RngsAt W' xa (ringsAt r A')) (h2 : (ringsAt r A').length ≤ xc) =>
     fits_any a c l ware xa xc (ringsAt r A') W' HL0.out (rings_sub_err HR0.out (by have := ringsAt_sub (r := r) HAS.out; rwa [ringsAt_all] at this)) h2 (((HA.out.below S3.bel).below hb).ty) h1
    have hsm := fun (W' : World) (hb : Below v3.heap.size v3 W') => some_any ra' rc' A' ra rc r (w.heap.size + 2) W' ((ints_rowOwn HR3.out).below hb) (rings_of_sub HAS.out) (by omega) (S3.cap.b2.below' hb) ((HA.out.below S3.bel).rg.below hb)
    simp only [← intsOf_len A'] at hsm
    have k0 : ∀ B, Below v3.heap.size v3 B → B.cell? ⟨w.heap.size, 0, none⟩ = some (.slice a l.length c) ∧ B.cell? ⟨w.heap.size + 1, 0, none⟩ = some (.string ware) ∧ B.cell? ⟨g2, 0, none⟩ = some (.func (.func 88) #[] #[.pointer (some ⟨w.heap.size + 2, 0, none⟩)]) := fun B hB => ⟨(S3.cap.b0.below' hB).cell 0, (S3.cap.b1.below' hB).cell 0, (S3.fn.below' hB).cell 0⟩
    have K0 := Lib.hid k0
    have HFT := Lib.hid hft
    have HSM := Lib.hid hsm
    clear k0 hft hsm S3 c1
    refine wpIn_region_L_round (fun B => Below v3.heap.size v3 B) 8 (by kernel_rfl) (by kernel_rfl) ?_
    have hSS : Below v3.heap.size v3 v3.drew := (Below.refl _ v3).drew
    refine anyL_take (i := 0) (v := ?_) (by kernel_rfl) rfl (by kernel_rfl) (by kernel_rfl) (by kernel_rfl) (by kernel_rfl) (fun _ _ _ h => h) (by rfl) ?_ hSS ?_
    rotate_left
    ·(intro W hW; obtain ⟨q0, q1, q2⟩ := K0.out W hW; go_simp; try with_reducible rfl)
    try (dsimp only); try simp only [Act.put, List.setIfInBounds_toArray, List.set_cons_zero, List.set_cons_succ]
    refine anyL_take (i := 1) (v := ?_) (by kernel_rfl) rfl (by kernel_rfl) (by kernel_rfl) (by kernel_rfl) (by kernel_rfl) (fun _ _ _ h => h) (by rfl) ?_ hSS ?_
    rotate_left
    ·(intro W hW; obtain ⟨q0, q1, q2⟩ := K0.out W hW; go_simp; try with_reducible rfl)
    try (dsimp only); try simp only [Act.put, List.setIfInBounds_toArray, List.set_cons_zero, List.set_cons_succ]
    refine anyL_take (i := 2) (v := ?_) (by kernel_rfl) rfl (by kernel_rfl) (by kernel_rfl) (by kernel_rfl) (by kernel_rfl) (fun _ _ _ h => h) (by rfl) ?_ hSS ?_
    rotate_left
    ·(intro W hW; obtain ⟨q0, q1, q2⟩ := K0.out W hW; go_simp; try with_reducible rfl)
    try (dsimp only); try simp only [Act.put, List.setIfInBounds_toArray, List.set_cons_zero, List.set_cons_succ]
    refine anyL_take (i := 3) (v := ?_) (by kernel_rfl) rfl (by kernel_rfl) (by kernel_rfl) (by kernel_rfl) (by kernel_rfl) (fun _ _ _ h => h) (by rfl) ?_ hSS ?_
    rotate_left
    ·(intro W hW; obtain ⟨q0, q1, q2⟩ := K0.out W hW; go_simp; try with_reducible rfl)
    try (dsimp only); try simp only [Act.put, List.setIfInBounds_toArray, List.set_cons_zero, List.set_cons_succ]
    refine anyL_call (i := 4) (f := 88) (args := #[.slice ra' (intsOf A').length rc', .pointer (some ⟨w.heap.size + 2, 0, none⟩)]) rfl (by kernel_rfl) (by rfl) ?_ (HSM.out _ hSS) ?_
    ·go_simp
    rintro e v4 ⟨xa, xc, rfl, hx1, hx2, hb4⟩
    have hb4' : Below v3.heap.size v3 v4 := hSS.trans hb4
    refine .inl ⟨_, rfl, .inr hb4', ?_⟩
    try (dsimp only); try simp only [Act.put, List.setIfInBounds_toArray, List.set_cons_zero, List.set_cons_succ]
    refine anyL_call (i := 5) (f := 87) (args := #[.slice a l.length c, .string ware, .slice xa (ringsAt r A').length xc]) rfl (by kernel_rfl) (by rfl) ?_ (HFT.out _ hb4' _ _ hx1 hx2) ?_
    ·go_simp
    rintro e v5 ⟨fa, fc, rfl, -, -, hb5⟩
    have hb5' : Below v3.heap.size v3 v5 := hb4'.trans (hb5.mono hb4'.size)
    refine .inl ⟨_, rfl, .inr hb5', ?_⟩
    try (dsimp only); try simp only [Act.put, List.setIfInBounds_toArray, List.set_cons_zero, List.set_cons_succ]
    obtain ⟨n, hn⟩ : ∃ n, (shiftsT l ware (ringsAt r A')).length = n := ⟨_, rfl⟩
    simp only [hn]
    refine anyL_run (i := 6) (v := .int .i64 (n : Int)) (w' := v5) rfl (by kernel_rfl) (by rfl) ?_ (.inr hb5') ?_
    ·go_simp
    try (dsimp only); try simp only [Act.put, List.setIfInBounds_toArray, List.set_cons_zero, List.set_cons_succ]
    obtain ⟨q, hq⟩ : ∃ q, ((n : Int) == 0) = q := ⟨_, rfl⟩
    refine anyL_run (i := 7) (v := .bool q) (w' := v5) rfl (by kernel_rfl) (by rfl) ?_ (.inr hb5') ?_
    ·go_simp
    try (dsimp only); try simp only [Act.put, List.setIfInBounds_toArray, List.set_cons_zero, List.set_cons_succ]
    refine anyL_done (by kernel_rfl) ?_ _
    have hqn : noFit l ware r A' = q := by
     rw [← hq]
     unfold noFit
     rcases hs : shiftsT l ware (ringsAt r A') with _ | ⟨f, F⟩
     ·rw [hs] at hn; subst hn; rfl
     ·rw [hs] at hn; simp at hn; subst hn
      simp; omega
    have HBV := Lib.hid (HB3.out.trans (hb5'.mono HB3.out.size))
    have S5 := Lib.hid (S.out.below HBV.out)
    have HR5 := Lib.hid (HR3.out.below hb5')
    have HQ := Lib.hid hqn
    have HRL : Hid ((intsOf A').length ≤ rc') := Lib.hid (by
     have h1 := HC2.out
     rw [intsOf_len] at h1 ⊢
     have h2 : A'.length ≤ A.length := by rw [← HA1.out]; exact List.length_filter_le _ _
     omega)
    clear hqn hq hn hb5' hb5 hb4' hb4 hx1 hx2 hSS K0 HFT HSM HCL HDL
    show KK _ _
    refine hKK _ _ ?_
    clear hKK
    rcases q with _ | _
    ·have HST : Hid (ruledStep (noFit l ware r) A id = A) := Lib.hid (by unfold ruledStep; rw [HA1.out, HQ.out]; rfl)
     gi_wp2_with fail
     refine ⟨(Keep.of_below' (K := fun _ => True) HBV.out).mono (fun _ _ => trivial), fun k hk => .inl hk, ?_⟩
     dsimp only
     rw [HNX.out, HST.out]
     exact S5.out
    ·have HST : Hid (ruledStep (noFit l ware r) A id = A') := Lib.hid (by unfold ruledStep; rw [HA1.out, HQ.out]; rfl)
     obtain ⟨ob, od, o1, -, -⟩ := S5.out.out
     obtain ⟨r1, r2⟩ := o1.rules
     have O1 := Lib.hid o1
     clear o1
     gi_wp2_with fail
     have hk6 : Keep (fun k => k ≠ g) v5 (v5.setCell ⟨g, 0, none⟩ (.slice ra' (intsOf A').length rc')) := (Keep.refl _ v5).setCell (.inl (by simp)) _
     refine ⟨(Keep.of_below' (K := fun k => ¬ k = g) HBV.out).trans (hk6.mono fun k hk => hk), fun k hk => .inl hk, ?_⟩
     dsimp only
     rw [HNX.out, HST.out]
     have s5 := S5.out
     have z1 := s5.gz
     have z2 := s5.gg
     have z3 := s5.gr
     refine ⟨s5.cap.keep hk6 (by omega) (by omega) (by omega), ⟨ra', rc', O1.out.set_ 0 _, ?_, HRL.out⟩, hk6.heap (by omega) s5.fn, s5.row.keep hk6 (fun b hb => hb.1), s5.bel.setCell (by simp; omega) _, z1, z2, s5.gr⟩
     exact (HR5.out.av (A := avB g w7.heap.size) fun b h1 h2 => ⟨by omega, by omega, by omega⟩).keep hk6 (fun b hb => hb.1)
end Go.Proofs.YthpjffhccjlnhaaGreatDoor
