/- Package profile: Blanks. No condition. -/
/- Package profile: CheckBlanks. No condition. -/
import Derived.Test.YthpjffhccjlnhaaGreatDoorMG11
set_option linter.unusedSimpArgs false
set_option linter.unusedVariables false
namespace Go.Proofs.YthpjffhccjlnhaaGreatDoor
open Go.RowKit
attribute [local go_sem] Oper.semAt_some

/-- a blank in a row: its sets lie in a block of their own, not of A -/
def BlkRow (B : Nat) (A : Nat → Prop) (W : World) (b : Bl4) (u : List Value) : Prop :=
 ∃ sa sc, u = [.int .i64 b.type, .int .i64 b.shift, .slice sa b.sets.length sc] ∧ b.sets.length ≤ sc ∧ RowOwn B W sa (b.sets.map Value.string) ∧ ∀ ad, sa = some ad → ¬ A ad.block ∧ ad.block < W.heap.size
theorem BlkRow.keep {B : Nat} {A A' K : Nat → Prop} {W W' : World} {b : Bl4} {u : List Value} (h : BlkRow B A W b u) (hk : Keep K W W') (hK : ∀ k, B ≤ k → ¬ A k → K k) (hA : ∀ k, A' k → A k ∨ W.heap.size ≤ k) : BlkRow B A' W' b u := by
 obtain ⟨sa, sc, h1, h2, h3, h4⟩ := h
 refine ⟨sa, sc, h1, h2, fun k v hv => ?_, fun ad had => ⟨fun h => ?_, Nat.lt_of_lt_of_le (h4 ad had).2 hk.size⟩⟩
 ·obtain ⟨g, o, ha, hb, hc, hf⟩ := h3 k v hv
  have hg := hK g hb (h4 _ ha).1
  have e : W'.frozen? ⟨g, o + k, none⟩ = W.frozen? ⟨g, o + k, none⟩ := by simp only [World.frozen?, hk.block g hg (lt_of_cell hc)]
  exact ⟨g, o, ha, hb, hk.cell hg hc, e.trans hf⟩
 ·rcases hA _ h with h | h
  ·exact (h4 ad had).1 h
  ·have := (h4 ad had).2; omega
theorem BlkRow.less {B B' : Nat} {A : Nat → Prop} {W : World} {b : Bl4} {u : List Value} (h : BlkRow B A W b u) (hB : B' ≤ B) : BlkRow B' A W b u := by
 obtain ⟨sa, sc, h1, h2, h3, h4⟩ := h
 exact ⟨sa, sc, h1, h2, h3.less hB, h4⟩
def BlkRows (B : Nat) (A : Nat → Prop) (W : World) (L : List Bl4) (us : List (List Value)) : Prop := us.length = L.length ∧ ∀ (k : Nat) b u, L[k]? = some b → us[k]? = some u → BlkRow B A W b u
theorem BlkRows.keep {B : Nat} {A A' K : Nat → Prop} {W W' : World} {L : List Bl4} {us : List (List Value)} (h : BlkRows B A W L us) (hk : Keep K W W') (hK : ∀ k, B ≤ k → ¬ A k → K k) (hA : ∀ k, A' k → A k ∨ W.heap.size ≤ k) : BlkRows B A' W' L us :=
 ⟨h.1, fun k b u hb hu => (h.2 k b u hb hu).keep hk hK hA⟩
theorem BlkRows.snoc {B : Nat} {A : Nat → Prop} {W : World} {L : List Bl4} {us : List (List Value)} {b : Bl4} {u : List Value} (h : BlkRows B A W L us) (hu : BlkRow B A W b u) : BlkRows B A W (L ++ [b]) (us ++ [u]) := by
 refine ⟨by simp [h.1], fun k x y hx hy => ?_⟩
 rcases Nat.lt_or_ge k L.length with hk | hk
 ·rw [List.getElem?_append_left hk] at hx
  rw [List.getElem?_append_left (by rw [h.1]; exact hk)] at hy
  exact h.2 k x y hx hy
 ·rw [List.getElem?_append_right hk] at hx
  rw [List.getElem?_append_right (by rw [h.1]; exact hk)] at hy
  rcases hz : k - L.length with _ | z
  ·rw [hz] at hx; rw [h.1, hz] at hy
   simp at hx hy; subst hx; subst hy; exact hu
  ·rw [hz] at hx; simp at hx
theorem BlkRows.nil (B : Nat) (A : Nat → Prop) (W : World) : BlkRows B A W [] [] := ⟨rfl, fun k b u hb => by simp at hb⟩
/-- the blanks of some tries -/
def blankAt (t : Typ) (i : Nat) (r : List Rng) (s : Nat) : Bl4 := ⟨i, s, (blankSets t r s).map mkB⟩
def blanksOf (l : List Typ) (r : List Rng) (xs : List (Nat × Nat)) : List Bl4 := xs.filterMap fun x => match l[x.1]? with | some t => some ⟨x.1, x.2, (blankSets t r x.2).map mkB⟩ | none => none
theorem blanksOf_all (l : List Typ) (ware : ByteArray) (r : List Rng) : blanksOf l r (triesOf l ware r) = blanksT l ware r := rfl
theorem blanksOf_snoc {l : List Typ} {r : List Rng} {xs : List (Nat × Nat)} {i s : Nat} {t : Typ} (ht : l[i]? = some t) : blanksOf l r (xs ++ [(i, s)]) = blanksOf l r xs ++ [blankAt t i r s] := by
 simp [blanksOf, List.filterMap_append, ht, blankAt]
theorem blanksOf_len (l : List Typ) (r : List Rng) (xs : List (Nat × Nat)) : (blanksOf l r xs).length ≤ xs.length := List.length_filterMap_le _ _
theorem blankAt_len (t : Typ) (i : Nat) (r : List Rng) (s : Nat) : (blankAt t i r s).sets.length = t.m := by simp [blankAt, blankSets]
theorem blankAt_strs (t : Typ) (i : Nat) (r : List Rng) (s : Nat) : (blankAt t i r s).sets.map Value.string = (blankSets t r s).map strV := by simp [blankAt, strV, Function.comp_def]
/-- a block of another type is not a row's own -/
theorem own_ne_box {W : World} {base : Nat} {e : TypeId} {size n : Nat} {v : Value} {xs : List Value} (h : W.ownsRow base e size v n xs) {b : Nat} {cs : Array Value} {t : TypeId} (hb : Box W b cs t) (hne : t ≠ e) : v.ownBlock ≠ some b := by
 rcases h.2 with ⟨rfl, _⟩ | ⟨g, cap, cur, rfl, _, hh, _⟩
 ·intro e; cases e
 ·intro e
  have : g = b := by simpa [Value.ownBlock] using e
  subst this
  unfold Box at hb
  rw [hb] at hh
  injection hh with hh
  injection hh with _ h2
  exact hne h2
theorem info_blk : (Tryz.prog.info? 88).map (fun i => (i.zero, i.size, i.bytes)) = some (some (.agg #[.int .i64 0, .int .i64 0, .slice none 0 0]), 3, 40) := by kernel_rfl
theorem info_blk2 : (Tryz.prog.info? 88).map (fun i => (i.zero, i.size)) = some (some (.agg #[.int .i64 0, .int .i64 0, .slice none 0 0]), 3) := by kernel_rfl
/-- the memory of Blanks at its range -/
structure BlksI (l : List Typ) (r : List Rng) (base g : Nat) (w0 : World) (pre : List (Nat × Nat)) (W : World) : Prop where
 o : ∃ us, GrowI base g 72 88 3 (blanksOf l r pre).length us.flatten W ∧ BlkRows base (GrowC g W) W (blanksOf l r pre) us
 b : Below w0.heap.size w0 W
 s : base ≤ W.heap.size ∨ pre = []
theorem BlksI.below {l : List Typ} {r : List Rng} {base g : Nat} {w0 : World} {pre : List (Nat × Nat)} {A B : World} (h : BlksI l r base g w0 pre A) (hb : Below A.heap.size A B) : BlksI l r base g w0 pre B := by
 obtain ⟨us, h1, h2⟩ := h.o
 exact ⟨⟨us, h1.below hb, h2.keep (Keep.of_below' (K := fun _ => True) hb) (fun _ _ _ => trivial) (fun k hk => .inl (h1.c1 hb hk))⟩, h.b.trans (hb.mono h.b.size), h.s.imp (fun h => Nat.le_trans h hb.size) id⟩
def blanksX (l : List Typ) (ware : ByteArray) (r : List Rng) : List Bl4 := if wantedErr l ware r = 0 ∧ shiftsT l ware r = [] then blanksT l ware r else []
def blanksIs (l : List Typ) (ware : ByteArray) (r : List Rng) : Bool := wantedErr l ware r == 0 && (shiftsT l ware r).isEmpty
/-- what Blanks gives -/
def BlanksPost (l : List Typ) (ware : ByteArray) (r : List Rng) (w : World) (e : Ending) (w' : World) : Prop :=
 ∃ fa fc us, e = .returned (.tuple #[.slice fa (blanksX l ware r).length fc, .bool (blanksIs l ware r), .int .i64 (wantedErr l ware r)]) ∧ RowOwn w.heap.size w' fa us.flatten ∧ BlkRows w.heap.size (fun k => ∃ ad, fa = some ad ∧ ad.block = k) w' (blanksX l ware r) us ∧ (blanksX l ware r).length ≤ fc ∧ Below w.heap.size w w'
set_option maxRecDepth 100000 in
set_option maxHeartbeats 1000000 in
theorem blanks_no (a : Option Addr) (c : Nat) (l : List Typ) (ware : ByteArray) (ra : Option Addr) (rc : Nat) (r : List Rng) (w : World) (h : Ask w a c l ra rc r) (hno : ¬ (wantedErr l ware r = 0 ∧ shiftsT l ware r = [])) :
  Calls Tryz.prog 52 #[.slice a l.length c, .string ware, .slice ra r.length rc] w (BlanksPost l ware r w) := by
 have HX : Hid (blanksX l ware r = []) := Lib.hid (by unfold blanksX; rw [if_neg hno])
 have HA := Lib.hid h
 clear h
 go_enter Tryz.func52, Tryz.ntmps52
 go_wp2_with fail
 refine (HA.out.wanted ware).mono ?_
 rintro e w2 ⟨rfl, hb2⟩
 have A2 := Lib.hid (HA.out.below hb2)
 have HB2 := Lib.hid hb2
 clear hb2 HA
 by_cases h0 : wantedErr l ware r = 0
 ·have H0 := Lib.hid h0
  have HF := Lib.hid (A2.out.fits h0)
  have HIS : Hid (blanksIs l ware r = false) := Lib.hid (by
   rcases hq : shiftsT l ware r with _ | ⟨f, L⟩
   ·exact absurd ⟨h0, hq⟩ hno
   ·unfold blanksIs; rw [hq]; simp)
  have hpos : 0 < (shiftsT l ware r).length := by
   rcases hq : shiftsT l ware r with _ | ⟨f, L⟩
   ·exact absurd ⟨h0, hq⟩ hno
   ·simp
  rw [h0]
  clear h0 hno
  go_wp2_with fail
  refine HF.out.mono ?_
  rintro e w3 ⟨fa, fc, rfl, hro, hfc, hb3⟩
  have HB3 := Lib.hid (HB2.out.trans (hb3.mono HB2.out.size))
  have hpi : (0 : Int) < ((shiftsT l ware r).length : Int) := by omega
  clear HF hb3 hro hfc
  go_wp2_with fail
  exact bodyPost_ret (results_tmp3 rfl) rfl ⟨none, 0, [], by rw [HX.out, HIS.out, H0.out]; rfl, RowOwn.nil _ _ _, by rw [HX.out]; exact BlkRows.nil _ _ _, by rw [HX.out]; exact Nat.le_refl _, HB3.out⟩
 ·have hne : (wantedErr l ware r == 0) = false := by simpa using h0
  have HIS : Hid (blanksIs l ware r = false) := Lib.hid (by unfold blanksIs; rw [hne]; rfl)
  go_wp2_with fail
  exact bodyPost_ret (results_tmp3 rfl) rfl ⟨none, 0, [], by rw [HX.out, HIS.out]; rfl, RowOwn.nil _ _ _, by rw [HX.out]; exact BlkRows.nil _ _ _, by rw [HX.out]; exact Nat.le_refl _, HB2.out⟩
set_option maxRecDepth 100000 in
set_option maxHeartbeats 4000000 in
theorem blanks_any (a : Option Addr) (c : Nat) (l : List Typ) (ware : ByteArray) (ra : Option Addr) (rc : Nat) (r : List Rng) (w : World) (h : Ask w a c l ra rc r) :
  Calls Tryz.prog 52 #[.slice a l.length c, .string ware, .slice ra r.length rc] w (BlanksPost l ware r w) := by
 by_cases hno : wantedErr l ware r = 0 ∧ shiftsT l ware r = []
 rotate_left
 ·exact blanks_no a c l ware ra rc r w h hno
 obtain ⟨h0, hsh⟩ := hno
 have hmf := run_mf Tryz.prog
 obtain ⟨hl, hr, -⟩ := wanted_good h0
 have hwt := h.wanted ware
 rw [h0] at hwt
 have hft := fun w' (hb : Below w.heap.size w w') => (h.below hb).fits h0
 rw [hsh] at hft
 have HWT := Lib.hid hwt
 have HFT := Lib.hid hft
 have HA := Lib.hid h
 have HE : Hid (blanksX l ware r = blanksT l ware r ∧ blanksIs l ware r = true ∧ wantedErr l ware r = 0) := Lib.hid ⟨by unfold blanksX; rw [if_pos ⟨h0, hsh⟩], by unfold blanksIs; rw [h0, hsh]; rfl, h0⟩
 have HGD := Lib.hid (typesErr_good hl)
 have TL := Lib.hid (tries_len (ware := ware) hl hr)
 clear h hwt hft h0 hsh
 refine (callsIn_wide (n := 0)).1 (callsIn_of_wp_marks Tryz.func52 rfl trivial ?_ rfl)
 simp only [Tryz.ntmps52, List.size_toArray, List.length_cons, List.length_nil, Nat.reduceAdd, Nat.reduceSub, Array.replicate_succ, Array.replicate_zero, List.push_toArray, List.append_toArray, List.nil_append, List.cons_append]
 gi_wp2_with (first
  | (gi_at_call 86; (with_reducible refine (callsIn_wide.2 HWT.out).mono ?_); rintro e w2 ⟨rfl, hb2⟩; have HB2 := Lib.hid hb2; clear hb2)
  | (gi_at_call 87; (with_reducible refine (callsIn_wide.2 (HFT.out w2 HB2.out)).mono ?_); rintro e w3 ⟨fa, fc, rfl, -, -, hb3⟩; have HB3 := Lib.hid (HB2.out.trans (hb3.mono HB2.out.size)); clear hb3)
  | (gi_at_call 96; (with_reducible refine (callsIn_wide.2 (tries_any _ _ _ _ _ _ _ _)).mono ?_); rintro e w' ⟨rfl, rfl⟩))
 simp only [World.size_alloc, Nat.add_assoc, Nat.reduceAdd]
 obtain ⟨w4, hw4⟩ : ∃ w4, (((w3.alloc (.cells #[.slice none 0 0] 72)).alloc (.cells #[.slice a l.length c] 22)).alloc (.cells #[.string ware] 9)).alloc (.cells #[.slice ra r.length rc] 37) = w4 := ⟨_, rfl⟩
 have b0 : Box w4 w3.heap.size #[.slice none 0 0] 72 := by rw [← hw4]; exact (((Box.new _ _ _).alloc _).alloc _).alloc _
 have cap : TrCap a l.length c ware ra r.length rc (w3.heap.size + 1) (w3.heap.size + 2) (w3.heap.size + 3) w4 := by
  rw [← hw4]
  exact ⟨((Box.new' (by simp)).alloc _).alloc _, (Box.new' (by simp)).alloc _, Box.new' (by simp)⟩
 have hb4 : Below w3.heap.size w3 w4 := by rw [← hw4]; go_grown
 have gs4 : w4.heap.size = w3.heap.size + 4 := by rw [← hw4]; simp
 have hs3 : w.heap.size ≤ w3.heap.size := HB3.out.size
 rw [hw4]
 have HB := Lib.hid (HB3.out.trans (hb4.mono hs3))
 have B0 := Lib.hid b0
 have CAP := Lib.hid cap
 have GS := Lib.hid gs4
 clear b0 cap hb4 gs4 hw4 HWT HFT HB2 HB3
 refine wpIn_tries (w0 := w) rfl hl hr HA.out.rcap CAP.out HA.out.ty HA.out.rg (GrowC w3.heap.size) (BlksI l r (w3.heap.size + 6) w3.heap.size w) (fun _ _ _ => False) ?hB ?hC1 ?hC2 ?hC3 ?hC4 ?hC5 ?hI ?hI2 ?hIx ?hIx2 ?h0 11 ?assign ?body ?done ?stop
 case hB => exact fun s A h => h.b
 case hC1 =>
  intro s A B k h _ hb hk
  obtain ⟨us, h1, _⟩ := h.o
  exact h1.c1 hb hk
 case hC2 =>
  intro s A k h _ hk
  obtain ⟨us, h1, _⟩ := h.o
  exact h1.c2 hk
 case hC3 => exact fun A o => growC_put (by rw [GS.out]; omega) A o
 case hC4 =>
  intro s A h
  obtain ⟨us, h1, _⟩ := h.o
  rw [GS.out]
  exact ⟨fun hk => by rcases h1.at_ hk with h | h <;> omega, fun hk => by rcases h1.at_ hk with h | h <;> omega⟩
 case hC5 =>
  intro s A h
  obtain ⟨us, h1, _⟩ := h.o
  exact ⟨fun hk => by rcases h1.at_ hk with h | h <;> omega, fun hk => by rcases h1.at_ hk with h | h <;> omega, fun hk => by rcases h1.at_ hk with h | h <;> omega⟩
 case hI => exact fun s A B h hb => h.below hb
 case hI2 =>
  intro s A o h
  obtain ⟨us, h1, h2⟩ := h.o
  have hz := GS.out
  refine ⟨⟨us, h1.put (by omega) (by omega) o, ?_⟩, below_put h.b (by omega) o, h.s.imp (fun h => by simpa using h) id⟩
  have hk : Keep (fun k => k ≠ w4.heap.size + 1) A (A.putObj (w4.heap.size + 1) o) := (Keep.refl _ A).putObj (fun h => h rfl) o
  rw [growC_put (by omega)]
  exact h2.keep hk (fun k hk _ => by omega) (fun k hk => .inl hk)
 case hIx => exact fun _ _ _ _ h _ => h.elim
 case hIx2 => exact fun _ _ _ _ h => h.elim
 case h0 => exact ⟨⟨[], ⟨_, B0.out, ownsRow_nil _ _ _ _⟩, BlkRows.nil _ _ _⟩, HB.out, .inr rfl⟩
 case stop => exact fun _ _ _ _ h => h.elim
 case assign =>
  intro lp T W W2 W3 K h1 h2 hk
  have H1 := Lib.hid h1
  have H2 := Lib.hid h2
  have HK := Lib.hid hk
  clear h1 h2 hk
  gi_wp2_with (simp only [ztry, H1.out]; refine wpListIn_store_box rfl 137 _ _ rfl rfl rfl H2.out ?_)
  exact HK.out
 case done =>
  intro W hi hD
  obtain ⟨us, ⟨v, i1, i2⟩, i3⟩ := hi.o
  rw [blanksOf_all] at i2 i3
  obtain ⟨a', c', rfl, hro, hcap⟩ := ownsRow_own i2
  obtain ⟨u11, u12⟩ := i1.rules
  have I1 := Lib.hid i1
  have I2 := Lib.hid hro
  have I3 := Lib.hid i3
  have IB := Lib.hid hi.b
  have HD := Lib.hid hD
  have HCP := Lib.hid hcap
  clear i1 i2 i3 hro hi hD hcap
  gi_wp2_with fail
  refine ⟨by simp, .inl ⟨_, _, rfl, run_takeDeferred HD.out, ?_⟩⟩
  refine ⟨.tuple #[.slice a' (blanksT l ware r).length c', .bool true, .int .i64 0], ?_, ?_⟩
  ·simp [results, go_sem]
  ·have hz := GS.out
   have k5 : Keep (fun k => k ≠ w4.heap.size) W (W.putObj w4.heap.size (.deferred none)) := (Keep.refl _ W).putObj (fun h => h rfl) _
   refine ⟨a', c', us, by rw [HE.out.1, HE.out.2.1, HE.out.2.2], (I2.out.keep k5 (fun k hk => by omega)).less (by omega), ?_, by rw [HE.out.1]; exact HCP.out, below_put IB.out (by omega) _⟩
   rw [HE.out.1]
   have h3 := I3.out.keep (A' := fun k => ∃ ad, a' = some ad ∧ ad.block = k) k5 (fun k hk _ => by omega) (fun k hk => by
    obtain ⟨ad, had, e⟩ := hk
    subst e; subst had
    exact .inl (.inr ⟨_, I1.out.cell 0, rfl⟩))
   exact ⟨h3.1, fun k b u hb hu => (h3.2 k b u hb hu).less (by omega)⟩
 case body =>
  intro lp pre i s t tb W hi ht hpre hb htb hlt
  simp only [List.setIfInBounds_toArray, List.set_cons_succ, List.set_cons_zero]
  rw [GS.out] at htb hlt ⊢
  obtain ⟨us, ⟨v, i1, i2⟩, i3⟩ := hi.o
  obtain ⟨hset, hl1, hlm, hm12⟩ := typeB_good (HGD.out.2 i t ht)
  have htm : t.most = (t.m : Int) := by unfold Typ.m; omega
  have hm1 : 1 ≤ t.m := by omega
  have hbk : Calls Tryz.prog 106 #[.agg (tryCells (tryOf t i r s))] W.drew fun e w' => ∃ sa sc, e = .returned (.agg (blkCells i s (.slice sa t.m sc))) ∧ RowOwn W.drew.heap.size w' sa ((blankSets t r s).map strV) ∧ t.m ≤ sc ∧ Below W.drew.heap.size W.drew w' := blank_any t i r s htm (by unfold Typ.m; omega) W.drew
  have HBK := Lib.hid hbk
  have HI := Lib.hid hi
  have HT := Lib.hid ht
  have HPRE := Lib.hid hpre
  have TB := Lib.hid hb
  have I1 := Lib.hid i1
  have I2 := Lib.hid i2
  have I3 := Lib.hid i3
  have HM1 := Lib.hid hm1
  have hlen : (blanksOf l r pre).length + 1 ≤ 1000000 := by
   have h1 := blanksOf_len l r pre
   have h2 := hpre.length_le
   have h3 := TL.out
   simp at h2; omega
  clear hbk hi i1 i2 i3 hb ht hpre hset hl1 hlm hm12 htm hm1
  have hbd : Below W.heap.size W W.drew := (Below.refl _ W).drew
  have k0 : ∀ A, (A.cell? ⟨w3.heap.size, 0, none⟩ = some v ∧ TryBox A tb (tryOf t i r s)) → A.cell? ⟨w3.heap.size, 0, none⟩ = some v := fun A hA => hA.1
  have K0 := Lib.hid k0
  clear k0
  gi_upto_region 9 with fail
  refine wpIn_region_L_round (fun A => A.cell? ⟨w3.heap.size, 0, none⟩ = some v ∧ TryBox A tb (tryOf t i r s)) 5 (by kernel_rfl) (by kernel_rfl) ?_
  have sBelow : ∀ A, Below W.heap.size W A → A.cell? ⟨w3.heap.size, 0, none⟩ = some v ∧ TryBox A tb (tryOf t i r s) := fun A hA => ⟨(I1.out.below' hA).cell 0, TB.out.below' hA⟩
  have hSS := sBelow _ hbd
  refine anyL_take (i := 0) (v := ?_) (by kernel_rfl) rfl (by kernel_rfl) (by kernel_rfl) (by kernel_rfl) (by kernel_rfl) (fun _ _ _ h => h) (by rfl) ?_ hSS ?_
  rotate_left
  ·(intro W hW; have q0 := K0.out W hW; go_simp; try with_reducible rfl)
  try (dsimp only); try simp only [Act.put, List.setIfInBounds_toArray, List.set_cons_zero, List.set_cons_succ]
  refine anyL_load (i := 1) (v := .agg (tryCells (tryOf t i r s))) 137 _ (by kernel_rfl) rfl (by kernel_rfl) (by kernel_rfl) (by kernel_rfl) (by kernel_rfl) (fun _ _ _ h => h) (by rfl) rfl rfl (fun W hW => TryBox.load hW.2) hSS ?_
  try (dsimp only); try simp only [Act.put, List.setIfInBounds_toArray, List.set_cons_zero, List.set_cons_succ]
  refine anyL_call (i := 2) (f := 106) (args := #[.agg (tryCells (tryOf t i r s))]) rfl (by kernel_rfl) (by rfl) ?_ HBK.out ?_
  ·go_simp
  rintro e W4 ⟨sa, sc, rfl, hro, hsc, hb4⟩
  have hb4' : Below W.heap.size W W4 := hbd.trans hb4
  have hz4 : w3.heap.size + 6 ≤ W4.heap.size := by have := hb4'.size; omega
  refine .inl ⟨_, rfl, .inr (sBelow _ hb4'), ?_⟩
  try (dsimp only); try simp only [Act.put, List.setIfInBounds_toArray, List.set_cons_zero, List.set_cons_succ]
  have hbs := run_bslice (P := Tryz.prog) (T := 72) Tryz.underlying72 info_blk2 (by omega) (by omega) (v := .agg (blkCells i s (.slice sa t.m sc))) (g := blkF i s (.slice sa t.m sc)) rfl W4
  obtain ⟨v', U, hrun, hown, hbU, hkU, hoU⟩ := app_fn (P := Tryz.prog) (TT := 72) Tryz.underlying72 info_blk rfl (by omega) (by omega) (ownsRow_keep I2.out (Keep.of_below' (K := fun _ => True) hb4') (fun _ _ => trivial)) hlen hz4 (blkF i s (.slice sa t.m sc)) (fun j _ => blkF_one _ _ rfl j)
  refine anyL_run (i := 3) (v := .slice (some ⟨W4.heap.size, 0, none⟩) 1 1) (w' := W4.alloc (.cells (blkCells i s (.slice sa t.m sc)) 88)) rfl (by kernel_rfl) (by rfl) ?_ (.inr (sBelow _ (hb4'.alloc hb4'.size _))) ?_
  ·refine exec_bslice 72 _ _ rfl ?_
   simp only [List.map_toArray, List.map_cons, List.map_nil]
   exact hbs
  try (dsimp only); try simp only [Act.put, List.setIfInBounds_toArray, List.set_cons_zero, List.set_cons_succ]
  obtain ⟨a', c', rfl, -, -⟩ := ownsRow_own hown
  have hgne : v.ownBlock ≠ some w3.heap.size := fun h => by have := (I2.out.lt _ h).1; omega
  have hU1 : Box U w3.heap.size #[v] 72 := hkU.heap hgne (I1.out.below' hb4')
  refine anyL_run (i := 4) (v := .slice a' ((blanksOf l r pre).length + 1) c') (w' := U) rfl (by kernel_rfl) (by rfl) ?_ (.inr ⟨hU1.cell 0, hkU.heap (own_ne_box I2.out TB.out (by decide)) (TB.out.below' hb4')⟩) ?_
  ·refine exec_app (v := v) (u := .slice (some ⟨W4.heap.size, 0, none⟩) 1 1) _ _ 72 rfl (by rfl) (by rfl) ?_
   exact hrun
  try (dsimp only); try simp only [Act.put, List.setIfInBounds_toArray, List.set_cons_zero, List.set_cons_succ]
  obtain ⟨r1, r2⟩ := hU1.rules
  refine anyL_skip (i := 5) (w' := U.setCell ⟨w3.heap.size, 0, none⟩ (.slice a' ((blanksOf l r pre).length + 1) c')) rfl (by kernel_rfl) (by rfl) ?_ (.inl rfl) ?_
  ·go_simp
  try (dsimp only); try simp only [Act.put, List.setIfInBounds_toArray, List.set_cons_zero, List.set_cons_succ]
  refine anyL_done (by kernel_rfl) ?_ _
  have hk6 : Keep (fun k => k ≠ w3.heap.size) U (U.setCell ⟨w3.heap.size, 0, none⟩ (.slice a' ((blanksOf l r pre).length + 1) c')) := (Keep.refl _ U).setCell (.inl (by simp)) _
  have hkAll : Keep (fun k => ¬ GrowC w3.heap.size W k) W (U.setCell ⟨w3.heap.size, 0, none⟩ (.slice a' ((blanksOf l r pre).length + 1) c')) :=
   ((Keep.of_below' (K := fun k => ¬ GrowC w3.heap.size W k) hb4').trans (hkU.mono fun k hk h => hk (.inr ⟨v, I1.out.cell 0, h⟩))).trans (hk6.mono fun k hk h => hk (.inl h))
  have hC : ∀ k, GrowC w3.heap.size (U.setCell ⟨w3.heap.size, 0, none⟩ (.slice a' ((blanksOf l r pre).length + 1) c')) k → GrowC w3.heap.size W k ∨ W4.heap.size ≤ k := fun k hk => by
   rcases hk with rfl | ⟨u, hu, hk⟩
   ·exact .inl (.inl rfl)
   ·have : u = .slice a' ((blanksOf l r pre).length + 1) c' := by
     have := (hU1.set_ 0 (.slice a' ((blanksOf l r pre).length + 1) c')).cell 0
     rw [hu] at this; simpa using this
    subst this
    rcases hoU k hk with h | h
    ·exact .inl (.inr ⟨v, I1.out.cell 0, h⟩)
    ·exact .inr h
  refine ⟨hkAll, fun k hk => (hC k hk).imp id (fun h => Nat.le_trans hb4'.size h), ?_⟩
  have hsl : 0 < ((blankSets t r s).map strV).length := by simp [blankSets]; exact HM1.out
  obtain ⟨gb, go_, rfl, hgb, hgc, -⟩ := hro 0 _ (List.getElem?_eq_getElem hsl)
  have hgl := lt_of_cell hgc
  have hgW : W.heap.size ≤ gb := by simpa using hgb
  have hsz6 : U.heap.size = (U.setCell ⟨w3.heap.size, 0, none⟩ (.slice a' ((blanksOf l r pre).length + 1) c')).heap.size := by simp
  have hW4U := hkU.size
  have hrow : BlkRow (w3.heap.size + 6) (GrowC w3.heap.size (U.setCell ⟨w3.heap.size, 0, none⟩ (.slice a' ((blanksOf l r pre).length + 1) c'))) (U.setCell ⟨w3.heap.size, 0, none⟩ (.slice a' ((blanksOf l r pre).length + 1) c')) (blankAt t i r s) [.int .i64 (i : Int), .int .i64 (s : Int), .slice (some ⟨gb, go_, none⟩) t.m sc] := by
   refine ⟨some ⟨gb, go_, none⟩, sc, by rw [blankAt_len]; rfl, by rw [blankAt_len]; exact hsc, ?_, fun ad had => ?_⟩
   ·rw [blankAt_strs]
    have h1 := hro.keep (K := fun k => W.heap.size ≤ k) ((hkU.mono fun k (hk : W.heap.size ≤ k) h => by have := (I2.out.lt _ h).2; omega).trans (hk6.mono fun k (hk : W.heap.size ≤ k) => by omega)) (fun k hk => by simpa using hk)
    exact h1.less (by simp; omega)
   ·cases had
    refine ⟨fun h => ?_, by simp only at hgl ⊢; omega⟩
    rcases hC _ h with h | h
    ·have := GrowI.c2 (HI.out.o.choose_spec.1) h; simp only at this; omega
    ·simp only at h; omega
  refine ⟨⟨us ++ [[.int .i64 (i : Int), .int .i64 (s : Int), .slice (some ⟨gb, go_, none⟩) t.m sc]], ⟨_, hU1.set_ 0 _, ?_⟩, ?_⟩, ?_, ?_⟩
  ·rw [blanksOf_snoc HT.out, List.length_append, List.length_singleton, List.flatten_append, List.flatten_singleton]
   exact ownsRow_keep hown hk6 (fun k hk => by omega)
  ·rw [blanksOf_snoc HT.out]
   exact (I3.out.keep hkAll (fun _ _ h => h) (fun k hk => (hC k hk).imp id (fun h => Nat.le_trans hb4'.size h))).snoc hrow
  ·have hs3b := HI.out.b.size
   exact ((HI.out.b.trans (hb4'.mono HI.out.b.size)).trans (hbU.mono (by omega))).setCell (by simpa using hs3) _
  ·exact .inl (by have := hb4'.size; simp; omega)
end Go.Proofs.YthpjffhccjlnhaaGreatDoor
namespace Go.Proofs.YthpjffhccjlnhaaGreatDoor
open Go.RowKit
attribute [local go_sem] Oper.semAt_some

/-- a slice of blanks -/
def BlksIn (w : World) (ba : Option Addr) (L : List Bl4) : Prop := ∀ (k : Nat) b, L[k]? = some b → ∃ g o, ba = some ⟨g, o, none⟩ ∧ ∃ sa sc, (∀ j, j < 3 → w.cell? ⟨g, o + k * 3 + j, none⟩ = some (blkF b.type b.shift (.slice sa b.sets.length sc) j)) ∧ StrsAt w sa b.sets ∧ b.sets.length ≤ sc
theorem BlksIn.below {w w' : World} {ba : Option Addr} {L : List Bl4} (h : BlksIn w ba L) (hb : Below w.heap.size w w') : BlksIn w' ba L := fun k b hk => by
 obtain ⟨g, o, ha, sa, sc, h1, h2, h3⟩ := h k b hk
 exact ⟨g, o, ha, sa, sc, fun j hj => below_cell hb (h1 j hj), h2.below hb, h3⟩
/-- the blanks are short -/
structure SmlB (b : Bl4) : Prop where
 len : b.sets.length ≤ 1000000
 str : ∀ x, x ∈ b.sets → x.size ≤ 1000
def okX (l : List Typ) (r : List Rng) (x : Nat × Nat) (y : Bl4) : Bool := match l[x.1]? with | some t => (y.type == x.1) && (y.shift == x.2) && shownB t r x.2 y.sets | none => false
theorem checkB_eq (l : List Typ) (ware : ByteArray) (r : List Rng) (b : List Bl4) : checkBlanksT l ware r b = ((b.length == (triesOf l ware r).length) && ((triesOf l ware r).zip b).all fun x => okX l r x.1 x.2) := rfl
theorem checkB_all {l : List Typ} {ware : ByteArray} {r : List Rng} {b : List Bl4} (h : ∀ (k : Nat) x y, (triesOf l ware r)[k]? = some x → b[k]? = some y → okX l r x y = true) : checkBlanksT l ware r b = ((triesOf l ware r).length == b.length) := by
 rw [checkB_eq]
 have : ((triesOf l ware r).zip b).all (fun x => okX l r x.1 x.2) = true := by
  rw [List.all_eq_true]
  intro x hx
  obtain ⟨k, hk⟩ := List.getElem?_of_mem hx
  have h2 := List.getElem?_zip_eq_some.1 hk
  exact h k x.1 x.2 h2.1 h2.2
 rw [this, Bool.and_true]
 rw [Bool.eq_iff_iff]; simp; omega
theorem checkB_short {l : List Typ} {ware : ByteArray} {r : List Rng} {b : List Bl4} (h : b.length < (triesOf l ware r).length) : checkBlanksT l ware r b = false := by
 rw [checkB_eq, show (b.length == (triesOf l ware r).length) = false by simp; omega]; rfl
theorem checkB_bad {l : List Typ} {ware : ByteArray} {r : List Rng} {b : List Bl4} {k : Nat} {x : Nat × Nat} {y : Bl4} (hx : (triesOf l ware r)[k]? = some x) (hy : b[k]? = some y) (h : okX l r x y = false) : checkBlanksT l ware r b = false := by
 rw [checkB_eq]
 have : ((triesOf l ware r).zip b).all (fun x => okX l r x.1 x.2) = false := by
  rw [List.all_eq_false]
  exact ⟨(x, y), List.mem_of_getElem? (List.getElem?_zip_eq_some.2 ⟨hx, hy⟩), by simp [h]⟩
 rw [this, Bool.and_false]
theorem pre_at {α : Type} {pre xs : List α} {x : α} (h : (pre ++ [x]) <+: xs) : xs[pre.length]? = some x := by
 obtain ⟨ys, rfl⟩ := h
 simp
/-- the memory of CheckBlanks -/
structure CbSt (B : Nat) (ba : Option Addr) (n bc g : Nat) (m : Nat) (w W : World) : Prop where
 f : Box W B #[.slice ba n bc] 72
 o : BoolBox W (B + 1) false
 e : ErrBox W (B + 2) 0
 i : IntBox W g (m : Int)
 b : Below w.heap.size w W
 z : B = w.heap.size
 gz : B + 2 < g
theorem CbSt.below {B : Nat} {ba : Option Addr} {n bc g m : Nat} {w W W' : World} (h : CbSt B ba n bc g m w W) (hb : Below W.heap.size W W') : CbSt B ba n bc g m w W' :=
 ⟨h.f.below' hb, h.o.below' hb, h.e.below' hb, h.i.below' hb, h.b.trans (hb.mono h.b.size), h.z, h.gz⟩
def checkBlanksOut (l : List Typ) (ware : ByteArray) (r : List Rng) (b : List Bl4) : Value := .tuple #[.bool (wantedErr l ware r == 0 && checkBlanksT l ware r b), .int .i64 (wantedErr l ware r)]
theorem CbSt.end_ {B : Nat} {ba : Option Addr} {n bc g m : Nat} {w W : World} (h : CbSt B ba n bc g m w W) (v : Bool) (er : Int) : CfEnd B v er w ((W.setCell ⟨B + 1, 0, none⟩ (.bool v)).setCell ⟨B + 2, 0, none⟩ (.int .i64 er)) := by
 have hz := h.z
 exact ⟨(h.o.set_ 0 (.bool v)).far (by simp) _, (h.e.far (by simp) _).set_ 0 (.int .i64 er), (h.b.setCell (by simp; omega) _).setCell (by simp; omega) _, h.z⟩
set_option maxRecDepth 100000 in
set_option maxHeartbeats 1000000 in
theorem checkBlanks_no (a : Option Addr) (c : Nat) (l : List Typ) (ware : ByteArray) (ra : Option Addr) (rc : Nat) (r : List Rng) (ba : Option Addr) (bc : Nat) (b : List Bl4) (w : World) (h : Ask w a c l ra rc r) (h0 : wantedErr l ware r ≠ 0) :
  Calls Tryz.prog 54 #[.slice a l.length c, .string ware, .slice ra r.length rc, .slice ba b.length bc] w fun e w' => e = .returned (checkBlanksOut l ware r b) ∧ Below w.heap.size w w' := by
 obtain ⟨w1, hw1⟩ : ∃ w1, ((w.alloc (.cells #[.slice ba b.length bc] 72)).alloc (.cells #[.bool false] 4)).alloc (.cells #[.int .i64 0] 25) = w1 := ⟨_, rfl⟩
 have o1 : BoolBox w1 (w.heap.size + 1) false := by rw [← hw1]; exact (Box.new' (by simp)).alloc _
 have e1 : ErrBox w1 (w.heap.size + 2) 0 := by rw [← hw1]; exact Box.new' (by simp)
 have hB : Below w.heap.size w w1 := by rw [← hw1]; go_grown
 have HA := Lib.hid (h.below hB)
 have O1 := Lib.hid o1
 have E1 := Lib.hid e1
 have HB := Lib.hid hB
 have HW := Lib.hid hw1
 have HE : Hid (checkBlanksOut l ware r b = .tuple #[.bool false, .int .i64 (wantedErr l ware r)]) := Lib.hid (by unfold checkBlanksOut; rw [show (wantedErr l ware r == 0) = false by simpa using h0]; rfl)
 have hne : (wantedErr l ware r == 0) = false := by simpa using h0
 clear h hB hw1 o1 e1
 go_enter Tryz.func54, Tryz.ntmps54
 go_upto_region 1 with fail
 simp only [HW.out]
 go_wp2_with fail
 refine (HA.out.wanted ware).mono ?_
 rintro e w2 ⟨rfl, hb2⟩
 have O2 := Lib.hid (O1.out.below' hb2)
 have E2 := Lib.hid (E1.out.below' hb2)
 have HB2 := Lib.hid (HB.out.trans (hb2.mono HB.out.size))
 obtain ⟨r1, r2⟩ := O2.out.rules
 obtain ⟨r3, r4⟩ := E2.out.rules
 clear hb2 HA
 go_wp2_with fail
 refine bodyPost_ret (results_cell2 rfl rfl rfl (loadv_bool ((O2.out.set_ 0 (.bool false)).far (by simp) _)) (loadv_err ((E2.out.far (by simp) _).set_ 0 (.int .i64 (wantedErr l ware r))))) rfl ⟨by rw [HE.out], (HB2.out.setCell (by simp) _).setCell (by first | (simp; done) | (simp; omega)) _⟩
set_option maxRecDepth 100000 in
set_option maxHeartbeats 4000000 in
theorem checkBlanks_any (a : Option Addr) (c : Nat) (l : List Typ) (ware : ByteArray) (ra : Option Addr) (rc : Nat) (r : List Rng) (ba : Option Addr) (bc : Nat) (b : List Bl4) (w : World) (h : Ask w a c l ra rc r) (hb : BlksIn w ba b) (hbs : ∀ y, y ∈ b → SmlB y) (hbl : b.length ≤ 1000000) (hbc : b.length ≤ bc) :
  Calls Tryz.prog 54 #[.slice a l.length c, .string ware, .slice ra r.length rc, .slice ba b.length bc] w fun e w' => e = .returned (checkBlanksOut l ware r b) ∧ Below w.heap.size w w' := by
 by_cases h0 : wantedErr l ware r = 0
 rotate_left
 ·exact checkBlanks_no a c l ware ra rc r ba bc b w h h0
 have hmf := run_mf Tryz.prog
 obtain ⟨hl, hr, -⟩ := wanted_good h0
 obtain ⟨w1, hw1⟩ : ∃ w1, ((w.alloc (.cells #[.slice ba b.length bc] 72)).alloc (.cells #[.bool false] 4)).alloc (.cells #[.int .i64 0] 25) = w1 := ⟨_, rfl⟩
 have f1 : Box w1 w.heap.size #[.slice ba b.length bc] 72 := by rw [← hw1]; exact ((Box.new _ _ _).alloc _).alloc _
 have o1 : BoolBox w1 (w.heap.size + 1) false := by rw [← hw1]; exact (Box.new' (by simp)).alloc _
 have e1 : ErrBox w1 (w.heap.size + 2) 0 := by rw [← hw1]; exact Box.new' (by simp)
 have hB : Below w.heap.size w w1 := by rw [← hw1]; go_grown
 have gs1 : w1.heap.size = w.heap.size + 3 := by rw [← hw1]; simp
 have HA1 := Lib.hid (h.below hB)
 have hwt := HA1.out.wanted ware
 rw [h0] at hwt
 have HWT := Lib.hid hwt
 have HA := Lib.hid h
 have F1 := Lib.hid f1
 have O1 := Lib.hid o1
 have E1 := Lib.hid e1
 have HB := Lib.hid hB
 have HW := Lib.hid hw1
 have GS1 := Lib.hid gs1
 have HBI := Lib.hid hb
 have HBS := Lib.hid hbs
 have HE : Hid (checkBlanksOut l ware r b = .tuple #[.bool (checkBlanksT l ware r b), .int .i64 0]) := Lib.hid (by unfold checkBlanksOut; rw [h0]; rfl)
 have HGD := Lib.hid (typesErr_good hl)
 clear h hB hw1 gs1 hwt h0 f1 o1 e1 hb hbs
 refine (callsIn_wide (n := 0)).1 (callsIn_of_wp_marks Tryz.func54 rfl trivial ?_ rfl)
 simp only [Tryz.ntmps54, List.size_toArray, List.length_cons, List.length_nil, Nat.reduceAdd, Nat.reduceSub, Array.replicate_succ, Array.replicate_zero, List.push_toArray, List.append_toArray, List.nil_append, List.cons_append]
 gi_upto_region 1 with fail
 simp only [HW.out]
 gi_wp2_with (first
  | (gi_at_call 86; (with_reducible refine (callsIn_wide.2 HWT.out).mono ?_); rintro e w2 ⟨rfl, hb2⟩; have HB2 := Lib.hid hb2; clear hb2)
  | (gi_at_call 96; (with_reducible refine (callsIn_wide.2 (tries_any _ _ _ _ _ _ _ _)).mono ?_); rintro e w' ⟨rfl, rfl⟩))
 have hs2 : w.heap.size + 3 ≤ w2.heap.size := by have := HB2.out.size; have := GS1.out; omega
 simp only [World.size_alloc, Nat.add_assoc, Nat.reduceAdd]
 obtain ⟨w4, hw4⟩ : ∃ w4, (((w2.alloc (.cells #[.int .i64 0] 3)).alloc (.cells #[.slice a l.length c] 22)).alloc (.cells #[.string ware] 9)).alloc (.cells #[.slice ra r.length rc] 37) = w4 := ⟨_, rfl⟩
 have i4 : IntBox w4 w2.heap.size ((0 : Nat) : Int) := by rw [← hw4]; exact (((Box.new _ _ _).alloc _).alloc _).alloc _
 have cap : TrCap a l.length c ware ra r.length rc (w2.heap.size + 1) (w2.heap.size + 2) (w2.heap.size + 3) w4 := by
  rw [← hw4]
  exact ⟨((Box.new' (by simp)).alloc _).alloc _, (Box.new' (by simp)).alloc _, Box.new' (by simp)⟩
 have hb4 : Below w2.heap.size w2 w4 := by rw [← hw4]; go_grown
 have gs4 : w4.heap.size = w2.heap.size + 4 := by rw [← hw4]; simp
 rw [hw4]
 have hb14 := HB2.out.trans (hb4.mono HB2.out.size)
 have ST4 : Hid (CbSt w.heap.size ba b.length bc w2.heap.size 0 w w4) := Lib.hid ⟨F1.out.below' hb14, O1.out.below' hb14, E1.out.below' hb14, i4, HB.out.trans (hb14.mono HB.out.size), rfl, by omega⟩
 have CAP := Lib.hid cap
 have GS := Lib.hid gs4
 clear cap hb4 gs4 hw4 i4 hb14 HB2 HW HWT HA1 F1 O1 E1 HB
 refine wpIn_tries (w0 := w) rfl hl hr HA.out.rcap CAP.out HA.out.ty HA.out.rg (fun _ k => k = w2.heap.size) (fun pre W => CbSt w.heap.size ba b.length bc w2.heap.size pre.length w W ∧ pre.length ≤ b.length ∧ ∀ (k : Nat) x y, pre[k]? = some x → b[k]? = some y → okX l r x y = true) (fun c _ W => c = .ret ∧ CfEnd w.heap.size (checkBlanksT l ware r b) 0 w W) ?hB ?hC1 ?hC2 ?hC3 ?hC4 ?hC5 ?hI ?hI2 ?hIx ?hIx2 ?h0 12 ?assign ?body ?done ?stop
 case hB => exact fun s A h => h.1.b
 case hC1 => exact fun _ _ _ _ _ _ _ h => h
 case hC2 => exact fun _ A k h _ e => by subst e; exact h.1.i.lt
 case hC3 => exact fun _ _ => rfl
 case hC4 => exact fun _ _ _ => by rw [GS.out]; exact ⟨by omega, by omega⟩
 case hC5 => exact fun _ _ _ => ⟨by omega, by omega, by omega⟩
 case hI => exact fun s A B h hb => ⟨h.1.below hb, h.2⟩
 case hI2 =>
  rintro pre A o ⟨h1, h2⟩
  have hk : Keep (fun k => k ≠ w4.heap.size + 1) A (A.putObj (w4.heap.size + 1) o) := (Keep.refl _ A).putObj (fun h => h rfl) o
  have hz := GS.out
  exact ⟨⟨hk.heap (by omega) h1.f, hk.heap (by omega) h1.o, hk.heap (by omega) h1.e, hk.heap (by omega) h1.i, below_put h1.b (by omega) o, h1.z, h1.gz⟩, h2⟩
 case hIx => exact fun c _ A B h hb => ⟨h.1, h.2.below hb⟩
 case hIx2 => exact fun c _ A o h => ⟨h.1, h.2.put (by have := GS.out; omega) o⟩
 case h0 => exact ⟨ST4.out, Nat.zero_le _, fun k x y hx => by simp at hx⟩
 case assign =>
  intro lp T W W2 W3 K h1 h2 hk
  have H1 := Lib.hid h1
  have H2 := Lib.hid h2
  have HK := Lib.hid hk
  clear h1 h2 hk
  gi_wp2_with (simp only [ztry, H1.out]; refine wpListIn_store_box rfl 137 _ _ rfl rfl rfl H2.out ?_)
  exact HK.out
 case done =>
  rintro W ⟨hst, hle, hall⟩ hD
  have HN := Lib.hid (checkB_all hall)
  have S := Lib.hid hst
  obtain ⟨r1, r2⟩ := hst.o.rules
  obtain ⟨r3, r4⟩ := hst.e.rules
  have c1 := hst.i.cell 0
  have c2 := hst.f.cell 0
  have HD := Lib.hid hD
  clear hst hle hall hD
  obtain ⟨q, hq⟩ : ∃ q, ((triesOf l ware r).length == b.length) = q := ⟨_, rfl⟩
  have hq2 : (((triesOf l ware r).length : Int) == (b.length : Int)) = q := by rw [← hq, Bool.eq_iff_iff]; simp; omega
  rw [hq] at HN
  clear hq
  gi_wp2_with fail
  have HC := S.out.end_ q 0
  refine ⟨by simp, .inl ⟨_, _, rfl, run_takeDeferred (by
   have hk : Keep (fun k => k ≠ w.heap.size + 1 ∧ k ≠ w.heap.size + 2) W ((W.setCell ⟨w.heap.size + 1, 0, none⟩ (.bool q)).setCell ⟨w.heap.size + 2, 0, none⟩ (.int .i64 0)) := ((Keep.refl _ W).setCell (.inl (by simp)) _).setCell (.inl (by simp)) _
   exact hk.heap (by have := GS.out; omega) HD.out), ?_⟩⟩
  have HC2 := HC.put (k := w4.heap.size) (by have := GS.out; omega) (.deferred none)
  exact ⟨_, results_cell2 rfl rfl rfl (loadv_bool HC2.o) (loadv_err HC2.e), by rw [HE.out, HN.out], HC2.b⟩
 case stop =>
  rintro c pre W - ⟨rfl, he⟩ hD
  have HD := Lib.hid hD
  have E := Lib.hid he
  clear hD he
  gi_wp2_with fail
  refine ⟨by simp, .inl ⟨_, _, rfl, run_takeDeferred HD.out, ?_⟩⟩
  have HC2 := E.out.put (k := w4.heap.size) (by have := GS.out; omega) (.deferred none)
  exact ⟨_, results_cell2 rfl rfl rfl (loadv_bool HC2.o) (loadv_err HC2.e), by rw [HE.out], HC2.b⟩
 case body =>
  intro lp pre i0 s0 t tb W hi ht hpre hb htb hlt
  simp only [List.setIfInBounds_toArray, List.set_cons_succ, List.set_cons_zero]
  obtain ⟨hst, hle, hall⟩ := hi
  have S := Lib.hid hst
  have ALL := Lib.hid hall
  have TB := Lib.hid hb
  have HT := Lib.hid ht
  have HX := Lib.hid (pre_at hpre)
  have hge4 := GS.out
  clear hst hall hb ht hpre
  gi_upto_region 7 with fail
  rcases Nat.lt_or_ge pre.length b.length with hlt2 | hge
  rotate_left
  ·have HF : Hid (checkBlanksT l ware r b = false) := Lib.hid (checkB_short (by have := (List.getElem?_eq_some_iff.1 HX.out).1; omega))
   have hgi : decide ((b.length : Int) ≤ (pre.length : Int)) = true := decide_eq_true (by omega)
   have hgi2 : decide (b.length ≤ pre.length) = true := decide_eq_true (by omega)
   refine wpIn_region_heldB_round 13 [] (by kernel_rfl) (by kernel_rfl) (by kernel_rfl) (by kernel_rfl) (by simp) ?_
   intro S' hS
   have k0 : ∀ A, S' A → A.cell? ⟨w2.heap.size, 0, none⟩ = some (.int .i64 (pre.length : Int)) ∧ A.cell? ⟨w.heap.size, 0, none⟩ = some (.slice ba b.length bc) := fun A hA => ⟨(S.out.i.below' (hS A hA)).cell 0, (S.out.f.below' (hS A hA)).cell 0⟩
   have K0 := Lib.hid k0
   have HS := Lib.hid hS
   clear hS k0
   simp only [List.take_succ_cons, List.take_zero, List.drop_succ_cons, List.drop_zero]
   repeat (first
    | (refine held_not rfl (by rfl) ?_; try (dsimp only); try simp only [Act.put, List.setIfInBounds_toArray, List.set_cons_zero, List.set_cons_succ])
    | (refine held_val (v := ?_) rfl (by rfl) ?_ ?_; rotate_left; (· (intro W hW; obtain ⟨q0, q1⟩ := K0.out W hW; go_simp; try with_reducible rfl)); try (dsimp only); try simp only [Act.put, List.setIfInBounds_toArray, List.set_cons_zero, List.set_cons_succ])
    | (refine held_skip rfl (by rfl) ?_ ?_; (· (intro W hW; obtain ⟨q0, q1⟩ := K0.out W hW; go_simp; try with_reducible rfl)); try (dsimp only); try simp only [Act.put, List.setIfInBounds_toArray, List.set_cons_zero, List.set_cons_succ]))
   refine held_nil ?_
   intro τ hτ W2 hW hO
   obtain rfl := laid0 hτ
   have HB2 := Lib.hid (HS.out W2 hW)
   clear hτ hO hW K0 HS
   simp only [overs, List.foldl_nil]
   have S2 := Lib.hid (S.out.below HB2.out)
   obtain ⟨r1, r2⟩ := S2.out.o.rules
   obtain ⟨r3, r4⟩ := S2.out.e.rules
   gi_wp2_with fail
   have HC := S2.out.end_ false 0
   refine ⟨?_, rfl, by rw [HF.out]; exact HC⟩
   exact S2_keep HB2.out (show w.heap.size + 2 < w4.heap.size by omega) hlt false 0
  ·obtain ⟨y, hy⟩ : ∃ y, b[pre.length]? = some y := ⟨b[pre.length], by simp [hlt2]⟩
   obtain ⟨g, o, hba, sa, sc, hy1, hy2, hy3⟩ := HBI.out _ y hy
   subst hba
   obtain ⟨hsl1, hsl2⟩ := HBS.out y (List.mem_of_getElem? hy)
   obtain ⟨hset, hl1, hlm, hm12⟩ := typeB_good (HGD.out.2 i0 t HT.out)
   have hli : (pre.length : Int) < (b.length : Int) := by omega
   have hl0 : (0 : Int) ≤ (pre.length : Int) := by omega
   have hng : decide ((b.length : Int) ≤ (pre.length : Int)) = false := decide_eq_false (by omega)
   have hng2 : decide (b.length ≤ pre.length) = false := decide_eq_false (by omega)
   have hw1 : IntKind.i64.wrap ((pre.length : Int) + 1) = (pre.length : Int) + 1 := IntWalk.i64_in _ (by omega)
   have hyw : ∀ j, j < 3 → W.cell? ⟨g, o + pre.length * 3 + j, none⟩ = some (blkF y.type y.shift (.slice sa y.sets.length sc) j) := fun j hj => below_cell S.out.b (hy1 j hj)
   have HYW := Lib.hid hyw
   have HYS := Lib.hid (hy2.below S.out.b)
   have HSH := Lib.hid (fun W' (hb' : Below W.heap.size W W') => shown_any t i0 r s0 (show t.most = (t.m : Int) by unfold Typ.m; omega) (by unfold Typ.m; omega) y.type y.shift y.sets sa sc W' ((hy2.below S.out.b).below hb') hsl2 hsl1)
   have HY := Lib.hid hy
   have HOKX : Hid (okX l r (i0, s0) y = ((y.type == (i0 : Int) && y.shift == (s0 : Int)) && shownB t r s0 y.sets)) := Lib.hid (by unfold okX; rw [HT.out])
   clear hy hy1 hy2 hsl1 hsl2 hyw hset hl1 hlm hm12 hge4
   obtain ⟨q, hq⟩ : ∃ q, ((y.type == (i0 : Int) && y.shift == (s0 : Int)) && shownB t r s0 y.sets) = q := ⟨_, rfl⟩
   rw [hq] at HSH HOKX
   clear hq
   refine wpIn_region_heldB_round 13 [] (by kernel_rfl) (by kernel_rfl) (by kernel_rfl) (by kernel_rfl) (by simp) ?_
   intro S' hS
   have k0 : ∀ A, S' A → A.cell? ⟨w2.heap.size, 0, none⟩ = some (.int .i64 (pre.length : Int)) ∧ A.cell? ⟨w.heap.size, 0, none⟩ = some (.slice (some ⟨g, o, none⟩) b.length bc) := fun A hA => ⟨(S.out.i.below' (hS A hA)).cell 0, (S.out.f.below' (hS A hA)).cell 0⟩
   have K0 := Lib.hid k0
   have L1 := Lib.hid (fun A hA => TryBox.load (TB.out.below' (hS A hA)))
   have L2 : Hid (∀ A, S' A → (Instr.loadAt 88 (.pointer (some ⟨g, o + pre.length * 3, none⟩))).run Tryz.prog A = .ok (.agg (blkCells y.type y.shift (.slice sa y.sets.length sc))) A) := Lib.hid (fun A hA => run_load_fn agg_blk fun j hj => below_cell (hS A hA) (HYW.out j hj))
   have HS := Lib.hid hS
   clear hS k0
   simp only [List.take_succ_cons, List.take_zero, List.drop_succ_cons, List.drop_zero]
   repeat (first
    | (refine held_load 137 _ (by rfl) rfl rfl L1.out ?_; try (dsimp only); try simp only [Act.put, List.setIfInBounds_toArray, List.set_cons_zero, List.set_cons_succ])
    | (refine held_load 88 _ (by rfl) rfl rfl L2.out ?_; try (dsimp only); try simp only [Act.put, List.setIfInBounds_toArray, List.set_cons_zero, List.set_cons_succ])
    | (refine held_not rfl (by rfl) ?_; try (dsimp only); try simp only [Act.put, List.setIfInBounds_toArray, List.set_cons_zero, List.set_cons_succ])
    | (refine held_val (v := ?_) rfl (by rfl) ?_ ?_; rotate_left; (· (intro W hW; obtain ⟨q0, q1⟩ := K0.out W hW; go_simp; try with_reducible rfl)); try (dsimp only); try simp only [Act.put, List.setIfInBounds_toArray, List.set_cons_zero, List.set_cons_succ])
    | (refine held_skip rfl (by rfl) ?_ ?_; (· (intro W hW; obtain ⟨q0, q1⟩ := K0.out W hW; go_simp; try with_reducible rfl)); try (dsimp only); try simp only [Act.put, List.setIfInBounds_toArray, List.set_cons_zero, List.set_cons_succ])
    | (refine held_call (v := .bool q) (f := 109) (args := #[.agg (tryCells (tryOf t i0 r s0)), .agg (blkCells y.type y.shift (.slice sa y.sets.length sc))]) rfl (by rfl) ?_ ?_ ?_; (· (intro W hW; go_simp; done)); (· exact (fun W hW => HSH.out W (HS.out W hW))); try (dsimp only); try simp only [Act.put, List.setIfInBounds_toArray, List.set_cons_zero, List.set_cons_succ]))
   refine held_nil ?_
   intro τ hτ W2 hW hO
   obtain rfl := laid0 hτ
   have HB2 := Lib.hid (HS.out W2 hW)
   clear hτ hO hW K0 HS L1 L2
   simp only [overs, List.foldl_nil]
   have S2 := Lib.hid (S.out.below HB2.out)
   rcases q with _ | _
   ·have HF : Hid (checkBlanksT l ware r b = false) := Lib.hid (checkB_bad HX.out HY.out HOKX.out)
    obtain ⟨r1, r2⟩ := S2.out.o.rules
    obtain ⟨r3, r4⟩ := S2.out.e.rules
    gi_wp2_with fail
    have HC := S2.out.end_ false 0
    refine ⟨?_, rfl, by rw [HF.out]; exact HC⟩
    exact S2_keep HB2.out (show w.heap.size + 2 < w4.heap.size by have := GS.out; omega) hlt false 0
   ·obtain ⟨r1, r2⟩ := S2.out.i.rules
    gi_wp2_with fail
    have hz := GS.out
    have hgz := S2.out.gz
    have hk6 : Keep (fun k => k ≠ w2.heap.size) W2 (W2.setCell ⟨w2.heap.size, 0, none⟩ (.int .i64 ((pre.length : Int) + 1))) := (Keep.refl _ W2).setCell (.inl (by simp)) _
    refine ⟨(Keep.of_below' (K := fun k => ¬ k = w2.heap.size) HB2.out).trans (hk6.mono fun k hk => hk), fun k hk => .inl hk, ⟨hk6.heap (by omega) S2.out.f, hk6.heap (by omega) S2.out.o, hk6.heap (by omega) S2.out.e, ?_, S2.out.b.setCell (by simp; omega) _, rfl, hgz⟩, by simp; omega, fun k x z hx hz' => ?_⟩
    ·have := S2.out.i.set_ 0 (.int .i64 ((pre.length : Int) + 1))
     rw [List.length_append, List.length_singleton]
     exact this
    ·rcases Nat.lt_or_ge k pre.length with hk | hk
     ·rw [List.getElem?_append_left hk] at hx
      exact ALL.out k x z hx hz'
     ·have hkl : k = pre.length := by
       have := (List.getElem?_eq_some_iff.1 hx).1
       simp at this; omega
      subst hkl
      rw [List.getElem?_append_right (Nat.le_refl _), Nat.sub_self] at hx
      simp at hx; subst hx
      rw [HY.out] at hz'; cases hz'
      exact HOKX.out
end Go.Proofs.YthpjffhccjlnhaaGreatDoor
