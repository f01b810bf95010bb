/- idsOf, walked. (In progress.) -/
/- without, walked. -/
import Derived.Test.YtpjcnkajimgagaaGreatMUniq
import Derived.Test.YtpjcnkajimgagaaGreatMHeld
set_option linter.unusedSimpArgs false
set_option linter.unusedVariables false
namespace Go.Proofs.YtpjcnkajimgagaaGreat
open Go.RowKit
attribute [local go_sem] Oper.semAt_some

/-- what stands between the rounds: out's variable at H + 1, its backing from H + 5 on -/
def IdsI (c : Cs) (pa : Option Addr) (pc : Nat) (w : World) (pre : List (Nat × Nat)) (A : World) : Prop :=
 ∃ v, Box A (w.heap.size + 1) #[v] 27 ∧ A.ownsRow (w.heap.size + 5) 3 1 v pre.length ((pre.map (byVal c)).map (Value.int .i64)) ∧
  Box A w.heap.size #[.string c.ware, .int .i64 c.limit, .int .i64 c.by_, .slice pa c.parts.length pc] 24 ∧ Below w.heap.size w A
/-- what a round may write -/
def IdsC (w : World) (A : World) (k : Nat) : Prop := k = w.heap.size + 1 ∨ ∃ v, Box A (w.heap.size + 1) #[v] 27 ∧ v.ownBlock = some k
def IdsAs (c : Cs) (pa : Option Addr) (pc PB PO : Nat) (w : World) (x : Nat × Nat) (_ : Array Value) (act : Act) (_ : World) : Prop :=
 ∃ fv, act = { tmps := #[.agg #[.string c.ware, .int .i64 c.limit, .int .i64 c.by_, .slice pa c.parts.length pc], .pointer (some ⟨w.heap.size, 0, none⟩), .slice none 0 0, .pointer (some ⟨w.heap.size + 1, 0, none⟩), .pointer (some (byAddr PB PO w.heap.size x)), .func (.func 112) #[] #[.pointer (some ⟨w.heap.size + 1 + 1, 0, none⟩)], .pointer (some (byAddr PB PO w.heap.size x)), fv, undef, undef, undef, undef, undef, undef, undef, undef], defers := [] }
theorem bysTo_len : ∀ n, (bysTo n).length = 3 * n
 | 0 => by simp [bysTo]
 | n + 1 => by rw [bysTo_succ, List.length_append, bysTo_len n]; simp [partItems]; omega
theorem bysList_len (n : Nat) : (bysList n).length = 3 * n + 1 := by simp [bysList, bysTo_len]
theorem keep_byAddr {K : Nat → Prop} {A B : World} (h : Keep K A B) {PB PO cb : Nat} {x : Nat × Nat} {v : Value} (hK : K (byAddr PB PO cb x).block) (hc : A.cell? (byAddr PB PO cb x) = some v) : B.cell? (byAddr PB PO cb x) = some v := by
 unfold byAddr at *
 split
 ·rename_i h3; rw [if_pos h3] at hK hc; exact h.cell hK hc
 ·rename_i h3; rw [if_neg h3] at hK hc; exact h.cell hK hc
theorem byAddr_lt {PB PO cb n N : Nat} {x : Nat × Nat} (hx : x ∈ bysList n) (h : (0 < n → PB < N) ∧ cb < N) : (byAddr PB PO cb x).block < N := by
 rcases bysList_mem hx with rfl | ⟨i, hi, rfl | rfl | rfl⟩
 ·simpa [byAddr] using h.2
 all_goals simpa [byAddr] using h.1 (by omega)
theorem box_one {A : World} {b : Nat} {v u : Value} {t : TypeId} (h : Box A b #[v] t) (h' : Box A b #[u] t) : v = u := by
 unfold Box at h h'
 rw [h] at h'
 simpa using h'
set_option maxRecDepth 100000 in
set_option maxHeartbeats 4000000 in
theorem idsOf_any (c : Cs) (hsm : c.Small) (pa : Option Addr) (pc : Nat) (w : World) (hp : PartsAt w pa c.parts) :
  Calls Tryz.prog 39 #[.agg #[.string c.ware, .int .i64 c.limit, .int .i64 c.by_, .slice pa c.parts.length pc]] w (UniqPost (wordIds c) w) := by
 have hmf := run_mf Tryz.prog
 have hl10 := hsm.1
 refine (callsIn_wide (n := 0)).1 (callsIn_of_wp_marks Tryz.func39 rfl trivial ?_ rfl)
 simp only [Tryz.ntmps39, List.size_toArray, List.length_cons, List.length_nil, Nat.reduceAdd, Nat.reduceSub, Array.replicate_succ, Array.replicate_zero, List.push_toArray, List.append_toArray, List.nil_append, List.cons_append]
 gi_wp2_with (gi_at_call 81; (with_reducible refine (callsIn_wide.2 (bys_any _ _)).mono ?_); rintro e w' ⟨rfl, rfl⟩)
 obtain ⟨PB, PO, hpa, hpb⟩ : ∃ PB PO, (0 < c.parts.length → pa = some ⟨PB, PO, none⟩) ∧ (0 < c.parts.length → PB < w.heap.size) := by
  rcases Nat.eq_zero_or_pos c.parts.length with h0 | h0
  ·exact ⟨0, 0, fun h => by omega, fun h => by omega⟩
  ·obtain ⟨p, hpi⟩ := get_of_lt c.parts h0
   obtain ⟨b, o, he, sa, sc, ra, rc, h1, _⟩ := hp 0 p hpi
   exact ⟨b, o, fun _ => he, fun _ => lt_of_cell (h1 0 _ rfl)⟩
 have HPBB : Hid ((0 < c.parts.length → PB < w.heap.size + 5) ∧ w.heap.size < w.heap.size + 5) := Lib.hid ⟨fun h => by have := hpb h; omega, by omega⟩
 clear hpb
 have g0 : Box (((w.alloc (.cells #[.string c.ware, .int .i64 c.limit, .int .i64 c.by_, .slice pa c.parts.length pc] 24)).alloc (.cells #[.slice none 0 0] 27)).alloc (.cells #[.pointer (some ⟨w.heap.size, 0, none⟩)] 137)) w.heap.size #[.string c.ware, .int .i64 c.limit, .int .i64 c.by_, .slice pa c.parts.length pc] 24 := ((Box.new _ _ _).alloc _).alloc _
 have g1 : Box (((w.alloc (.cells #[.string c.ware, .int .i64 c.limit, .int .i64 c.by_, .slice pa c.parts.length pc] 24)).alloc (.cells #[.slice none 0 0] 27)).alloc (.cells #[.pointer (some ⟨w.heap.size, 0, none⟩)] 137)) (w.heap.size + 1) #[.slice none 0 0] 27 := (Box.new' (by simp)).alloc _
 have g2 : Box (((w.alloc (.cells #[.string c.ware, .int .i64 c.limit, .int .i64 c.by_, .slice pa c.parts.length pc] 24)).alloc (.cells #[.slice none 0 0] 27)).alloc (.cells #[.pointer (some ⟨w.heap.size, 0, none⟩)] 137)) (w.heap.size + 2) #[.pointer (some ⟨w.heap.size, 0, none⟩)] 137 := Box.new' (by simp)
 have gB : Below w.heap.size w (((w.alloc (.cells #[.string c.ware, .int .i64 c.limit, .int .i64 c.by_, .slice pa c.parts.length pc] 24)).alloc (.cells #[.slice none 0 0] 27)).alloc (.cells #[.pointer (some ⟨w.heap.size, 0, none⟩)] 137)) := by go_grown
 have gs : (((w.alloc (.cells #[.string c.ware, .int .i64 c.limit, .int .i64 c.by_, .slice pa c.parts.length pc] 24)).alloc (.cells #[.slice none 0 0] 27)).alloc (.cells #[.pointer (some ⟨w.heap.size, 0, none⟩)] 137)).heap.size = w.heap.size + 3 := by simp
 generalize (((w.alloc (.cells #[.string c.ware, .int .i64 c.limit, .int .i64 c.by_, .slice pa c.parts.length pc] 24)).alloc (.cells #[.slice none 0 0] 27)).alloc (.cells #[.pointer (some ⟨w.heap.size, 0, none⟩)] 137)) = w4 at *
 refine wpIn_rangeC (gf := 112) (lb := #[.pointer (some ⟨w.heap.size + 2, 0, none⟩)]) (Rd := ByRd PB PO w.heap.size fun _ => True) (xs := bysList c.parts.length) rfl (enters_of Tryz.func112 (by kernel_rfl) rfl)
  (fun o1 o2 => bys1_gives c.parts.length hl10 PB PO pc w.heap.size (w.heap.size + 2) pa hpa _ ((g2.alloc _).alloc _) _ trivial (fun _ _ => trivial)) ?ps
  (IdsC w) (IdsI c pa pc w) (fun _ _ _ => False) ?hC1 ?hC2 ?hC3 ?hC4 ?hOk ?hI ?hI2 ?hX ?hX2 ?h0 (IdsAs c pa pc PB PO w) ?hAs ?assign ?body ?done ?stop
 case ps => rintro x args W ⟨g, rfl, _, _⟩; rfl
 case hC1 =>
  rintro s A B k ⟨v, h1, _, _, _⟩ _ hb (h | ⟨v', h', hk⟩)
  ·exact .inl h
  ·rw [box_one (h1.below' hb) h'] at *; exact .inr ⟨v', h1, hk⟩
 case hC2 =>
  rintro s A k ⟨v, h1, h2, _, _⟩ _ (rfl | ⟨v', h', hk⟩)
  ·exact h1.lt
  ·rw [← box_one h1 h'] at hk; exact (h2.lt k hk).2
 case hC4 =>
  rintro s A ⟨v, h1, h2, _, _⟩ _
  rw [gs]
  refine ⟨?_, ?_⟩ <;> rintro (h | ⟨v', h', hk⟩)
  ·omega
  ·rw [← box_one h1 h'] at hk; have := (h2.lt _ hk).1; omega
  ·omega
  ·rw [← box_one h1 h'] at hk; have := (h2.lt _ hk).1; omega
 case hX => intro _ _ _ _ h; exact h.elim
 case hX2 => intro _ _ _ _ h; exact h.elim
 case stop => intro _ _ _ _ h; exact h.elim
 case hC3 =>
  intro A o
  funext k
  have e : ∀ v, Box (A.putObj (w4.heap.size + 1) o) (w.heap.size + 1) #[v] 27 = Box A (w.heap.size + 1) #[v] 27 := fun v => by
   unfold Box; rw [World.putObj_heap_other (by rw [gs]; omega)]
  simp only [IdsC, e]
 case hI =>
  rintro s A B ⟨v, h1, h2, h3, h4⟩ hb
  exact ⟨v, h1.below' hb, ownsRow_keep h2 (Keep.of_below' (K := fun _ => True) hb) (fun _ _ => trivial), h3.below' hb, h4.trans (hb.mono h4.size)⟩
 case hI2 =>
  rintro s A o ⟨v, h1, h2, h3, h4⟩
  have hk : Keep (fun k => k ≠ w4.heap.size + 1) A (A.putObj (w4.heap.size + 1) o) := (Keep.refl _ A).putObj (fun h => h rfl) _
  exact ⟨v, hk.heap (by rw [gs]; omega) h1, ownsRow_keep h2 hk (fun k hk => by rw [gs]; omega), hk.heap (by rw [gs]; omega) h3, below_put h4 (by rw [gs]; omega) _⟩
 case h0 => exact ⟨_, g1, ownsRow_nil _ _ _ _, g0, gB⟩
 case hOk =>
  rintro rec pre A ⟨⟨v, h1, h2, h3, h4⟩, _⟩
  refine ⟨h3.cell 3, ?_⟩
  rw [gs]
  rintro ((h | ⟨v', h', hk⟩) | h)
  ·omega
  ·rw [← box_one h1 h'] at hk; have := (h2.lt _ hk).1; omega
  ·omega
 case done =>
  rintro W ⟨v, i1, i2, i3, i4⟩ hD
  obtain ⟨a', c', rfl, hro, hcap⟩ := ownsRow_own i2
  obtain ⟨u11, u12⟩ := i1.rules
  have hlen : (bysList c.parts.length).length = (wordIds c).length := by simp [wordIds]
  have hun := unique_any a' c' (wordIds c) W hro.row (by rw [← hlen, bysList_len]; omega)
  have HU := Lib.hid hun
  have H4 := Lib.hid i4
  have HD := Lib.hid hD
  clear i1 i2 hro i3 i4 hun hD
  gi_wp2_with (gi_at_call 56; (with_reducible refine (callsIn_wide.2 HU.out).mono ?_); rintro e W2 ⟨g, c2, rfl, hg, hgs, hr, hc2, hb⟩; have HR := Lib.hid hr; have HB2 := Lib.hid hb; clear hr hb)
  have hd1 : W.heap[w.heap.size + 3]? = some (.deferred (some [])) := by have := HD.out; rwa [gs] at this
  have hlt := (Array.getElem?_eq_some_iff.1 hd1).1
  have hd2 : W2.heap[w.heap.size + 3]? = some (.deferred (some [])) := (HB2.out.block _ hlt).trans hd1
  refine ⟨by simp, .inl ⟨_, _, rfl, run_takeDeferred hd2, ?_⟩⟩
  refine ⟨.slice (some ⟨g, 0, none⟩) (uniqL (wordIds c)).length c2, ?_, ?_⟩
  ·simp [results, go_sem]
  ·have k5 : Keep (fun k => k ≠ w.heap.size + 3) W2 (W2.putObj (w.heap.size + 3) (.deferred none)) := (Keep.refl _ W2).putObj (fun h => h rfl) _
   exact ⟨g, c2, rfl, by omega, by simpa using hgs, (HR.out.keep k5 (fun k hk => by omega)).less (by omega), hc2, below_put (H4.out.trans (HB2.out.mono H4.out.size)) (by omega) _⟩
 case hAs => intro x args act A o h; exact h
 case assign =>
  rintro l x args W Kk ⟨g, rfl, _, _⟩ hlt hk
  gi_wp2_with fail
  exact hk _ _ ⟨_, rfl⟩ (Below.refl _ _)
 case body =>
  rintro l pre x args act W ⟨v, i1, i2, i3, i4⟩ ⟨fv, rfl⟩ hpre hlt rfl hlp
  have hx := hpre.subset (by simp : x ∈ pre ++ [x])
  have hpre' := hpre
  have hby := by_cell i3 (hp.below i4) hpa hx
  have e1 := i1.cell
  have I1 := Lib.hid i1
  have I2 := Lib.hid i2
  have I3 := Lib.hid i3
  have I4 := Lib.hid i4
  have HPRE := Lib.hid hpre
  clear i1 i2 i3 i4 hpre
  gi_wp2_with fail
  have hsz : w.heap.size + 5 ≤ W.heap.size := by omega
  refine wpIn_region_L_round (fun A => Keep (fun k => k < w.heap.size + 5) W A) 6 (by kernel_rfl) (by kernel_rfl) ?_
  have hSS : Keep (fun k => k < w.heap.size + 5) W W.drew := (Keep.refl _ W).drew
  have k0 : ∀ A, Keep (fun k => k < w.heap.size + 5) W A → A.cell? ⟨w.heap.size + 1, 0, none⟩ = some v ∧ A.cell? (byAddr PB PO w.heap.size x) = some (.int .i64 (byVal c x)) := fun A hA =>
   ⟨hA.cell (by omega) (by rw [I1.out.cell]; rfl), keep_byAddr hA (byAddr_lt hx HPBB.out) hby⟩
  have K0 := Lib.hid k0
  clear k0 hby e1
  refine anyL_take (i := 0) (v := ?_) (by kernel_rfl) rfl (by kernel_rfl) (by kernel_rfl) (by kernel_rfl) (by kernel_rfl) (fun _ _ _ h => h) (by rfl) ?_ hSS ?_
  rotate_left
  ·(intro W hW; obtain ⟨q0, q1⟩ := K0.out W hW; go_simp; try with_reducible rfl)
  try (dsimp only); try simp only [Act.put, List.setIfInBounds_toArray, List.set_cons_zero, List.set_cons_succ]
  refine anyL_take (i := 1) (v := ?_) (by kernel_rfl) rfl (by kernel_rfl) (by kernel_rfl) (by kernel_rfl) (by kernel_rfl) (fun _ _ _ h => h) (by rfl) ?_ hSS ?_
  rotate_left
  ·(intro W hW; obtain ⟨q0, q1⟩ := K0.out W hW; go_simp; try with_reducible rfl)
  try (dsimp only); try simp only [Act.put, List.setIfInBounds_toArray, List.set_cons_zero, List.set_cons_succ]
  refine anyL_take (i := 2) (v := ?_) (by kernel_rfl) rfl (by kernel_rfl) (by kernel_rfl) (by kernel_rfl) (by kernel_rfl) (fun _ _ _ h => h) (by rfl) ?_ hSS ?_
  rotate_left
  ·(intro W hW; obtain ⟨q0, q1⟩ := K0.out W hW; go_simp; try with_reducible rfl)
  try (dsimp only); try simp only [Act.put, List.setIfInBounds_toArray, List.set_cons_zero, List.set_cons_succ]
  refine anyL_take (i := 3) (v := ?_) (by kernel_rfl) rfl (by kernel_rfl) (by kernel_rfl) (by kernel_rfl) (by kernel_rfl) (fun _ _ _ h => h) (by rfl) ?_ hSS ?_
  rotate_left
  ·(intro W hW; obtain ⟨q0, q1⟩ := K0.out W hW; go_simp; try with_reducible rfl)
  try (dsimp only); try simp only [Act.put, List.setIfInBounds_toArray, List.set_cons_zero, List.set_cons_succ]
  have hlen : pre.length + 1 ≤ 1000000 := by
   have h1 := hpre'.length_le
   rw [bysList_len, List.length_append, List.length_singleton] at h1
   omega
  refine anyL_run (i := 4) (v := .slice (some ⟨W.heap.size, 0, none⟩) 1 1) (w' := W.drew.alloc (.cells #[.int .i64 (byVal c x)] 3)) rfl (by kernel_rfl) (by rfl) ?_ (.inr (hSS.alloc _)) ?_
  ·go_simp
   try with_reducible rfl
  try simp only [Act.put, List.setIfInBounds_toArray, List.set_cons_zero, List.set_cons_succ]
  have kA : Keep (fun _ => True) W (W.drew.alloc (.cells #[.int .i64 (byVal c x)] 3)) := ((Keep.refl _ W).drew).alloc _
  have hg0 : Box (W.drew.alloc (.cells #[.int .i64 (byVal c x)] 3)) W.heap.size #[.int .i64 (byVal c x)] 3 := Box.new W.drew _ _
  obtain ⟨v', U, hrun, hown, hg, hvb⟩ := run_append_row (P := Tryz.prog) (W.drew.alloc (.cells #[.int .i64 (byVal c x)] 3)) (w.heap.size + 5) 27 27 3 (.int .i64 0) 1 8 Tryz.underlying27 info_int rfl (by omega)
   v _ _ (ownsRow_keep I2.out kA (fun _ _ => trivial)) (some ⟨W.heap.size, 0, none⟩) 1 1 [.int .i64 (byVal c x)] rfl (fun k u hu => ⟨W.heap.size, 0, rfl, by rw [hg0.cell, Nat.zero_add]; simpa using hu⟩) (by simp [Value.oneCell']) hlen (by omega) (by simp; omega)
  obtain ⟨av, cv, rfl, _⟩ := ownsRow_own hown
  have hbv : Box U (w.heap.size + 1) #[v] 27 := ((I1.out.drew).alloc _).grown hg (fun he => by have := (I2.out.lt _ he.symm).1; omega)
  have kU : Keep (fun k => v.ownBlock ≠ some k) W U := (kA.mono fun _ _ => trivial).grown hg (fun k hk => .inl (fun h => h hk))
  have hblt : ∀ k, v.ownBlock = some k → w.heap.size + 5 ≤ k := fun k hk => (I2.out.lt k hk).1
  refine anyL_run (i := 5) (v := .slice av (pre.length + 1) cv) (w' := U) rfl (by kernel_rfl) (by rfl) ?_ (.inr (kU.mono fun k (hk : k < w.heap.size + 5) h => by have := hblt k h; omega)) ?_
  ·refine exec_app (v := v) (u := .slice (some ⟨W.heap.size, 0, none⟩) 1 1) _ _ 27 rfl (by rfl) (by rfl) ?_
   exact hrun
  try simp only [Act.put, List.setIfInBounds_toArray, List.set_cons_zero, List.set_cons_succ]
  obtain ⟨z1, z2⟩ := hbv.rules
  refine anyL_skip (i := 6) (w' := U.setCell ⟨w.heap.size + 1, 0, none⟩ (.slice av (pre.length + 1) cv)) rfl (by kernel_rfl) (by rfl) ?_ (.inl rfl) ?_
  ·go_simp
   try with_reducible rfl
  refine anyL_done (by kernel_rfl) ?_ _
  have kS : Keep (fun k => k ≠ w.heap.size + 1) U (U.setCell ⟨w.heap.size + 1, 0, none⟩ (.slice av (pre.length + 1) cv)) := (Keep.refl _ U).setCell (.inl (by simp)) _
  have hu := hbv.set_ 0 (.slice av (pre.length + 1) cv)
  refine ⟨?_, ?_, _, hu, ?_, ?_, ?_⟩
  ·exact (kU.mono fun k (hk : ¬ IdsC w W k) he => hk (.inr ⟨v, I1.out, he⟩)).trans (kS.mono fun k (hk : ¬ IdsC w W k) he => hk (.inl he))
  ·rintro k (h | ⟨u, h1, h2⟩)
   ·exact .inl (.inl h)
   ·rw [box_one h1 hu] at h2
    rcases hvb with h3 | h3
    ·exact .inl (.inr ⟨v, I1.out, h3 ▸ h2⟩)
    ·rw [h3] at h2; cases h2; exact .inr (by simp)
  ·have := ownsRow_keep hown kS (fun k hk => by omega)
   simpa using this
  ·exact kS.heap (by omega) (kU.heap (fun h => by have := hblt _ h; omega) I3.out)
  ·have k6 : Keep (fun k => k < w.heap.size) W (U.setCell ⟨w.heap.size + 1, 0, none⟩ (.slice av (pre.length + 1) cv)) := (kU.mono fun k (hk : k < w.heap.size) h => by have := hblt k h; omega).trans (kS.mono fun k hk => by omega)
   exact I4.out.trans (k6.below I4.out.size)
end Go.Proofs.YtpjcnkajimgagaaGreat
namespace Go.Proofs.YtpjcnkajimgagaaGreat
open Go.RowKit
attribute [local go_sem] Oper.semAt_some

/-- what stands between the rounds -/
def WoI (gone : Int → Bool) (c : Cs) (H B M PB pc : Nat) (gv : Value) (w : World) (pre : List (Nat × Nat)) (A : World) : Prop :=
 CaseSt B M H PB pc c.parts.length (foldC gone c pre) A ∧ Box A (H + 1) #[gv] 85 ∧ Box A (H + 2) #[.string ⟨#[]⟩, .int .i64 0, .int .i64 0, .slice none 0 0] 24 ∧ Below w.heap.size w A
def WoC (H PB : Nat) (_ : World) (k : Nat) : Prop := k = H ∨ k = PB
def WoAs (c : Cs) (pa : Option Addr) (pc pc' H PB HI L K : Nat) (caps : Array Value) (x : Nat × Nat) (_ : Array Value) (act : Act) (A : World) : Prop :=
 ∃ g, act = { tmps := #[.agg #[.string c.ware, .int .i64 c.limit, .int .i64 c.by_, .slice pa c.parts.length pc], .func (.func K) #[] caps, .pointer (some ⟨H, 0, none⟩), .pointer (some ⟨H + 1, 0, none⟩), .pointer (some ⟨H + 1 + 1, 0, none⟩), .pointer (some (byAddr PB 0 H x)), .func (.func (byFn x)) #[] #[.pointer (some ⟨g, 0, none⟩)], .agg #[.string c.ware, .int .i64 c.limit, .int .i64 c.by_, .slice pa c.parts.length pc], .agg #[.string c.ware, .int .i64 c.limit, .int .i64 c.by_, .slice (some ⟨PB, 0, none⟩) c.parts.length pc'], .func (.func 112) #[] #[.pointer (some ⟨HI, 0, none⟩)], .pointer (some (byAddr PB 0 H x)), .func (.func (byFn x)) #[] #[.pointer (some ⟨g, 0, none⟩)], undef, undef, undef, undef, undef, undef, undef, undef, undef, undef, undef, undef, undef, undef], defers := [] } ∧
  Box A g #[.pointer (some (byBase PB 0 H x))] (byTy x) ∧ g ≠ L ∧ g ≠ H ∧ g ≠ PB
set_option maxRecDepth 100000 in
set_option maxHeartbeats 800000 in
theorem without_any (c : Cs) (hsm : c.Small) (pa : Option Addr) (pc : Nat) (w : World) (hp : PartsAt w pa c.parts) (K : Nat) (caps : Array Value) (gone : Int → Bool) (hgf : GoneFn K caps gone w) :
  Calls Tryz.prog 40 #[.agg #[.string c.ware, .int .i64 c.limit, .int .i64 c.by_, .slice pa c.parts.length pc], .func (.func K) #[] caps] w (WoutPost (woutC gone c) w) := by
 have hmf := run_mf Tryz.prog
 have hl10 := hsm.1
 obtain ⟨w3, hw3⟩ : ∃ w3, ((w.alloc (.cells #[.string c.ware, .int .i64 c.limit, .int .i64 c.by_, .slice pa c.parts.length pc] 24)).alloc (.cells #[.func (.func K) #[] caps] 85)).alloc (.cells #[.string ⟨#[]⟩, .int .i64 0, .int .i64 0, .slice none 0 0] 24) = w3 := ⟨_, rfl⟩
 have hB3 : Below w.heap.size w w3 := by rw [← hw3]; go_grown
 have hs3 : w3.heap.size = w.heap.size + 3 := by rw [← hw3]; simp
 have b0 : Box w3 w.heap.size #[.string c.ware, .int .i64 c.limit, .int .i64 c.by_, .slice pa c.parts.length pc] 24 := by rw [← hw3]; exact ((Box.new _ _ _).alloc _).alloc _
 have b1 : Box w3 (w.heap.size + 1) #[.func (.func K) #[] caps] 85 := by rw [← hw3]; exact (Box.new' (by simp)).alloc _
 have b2 : Box w3 (w.heap.size + 2) #[.string ⟨#[]⟩, .int .i64 0, .int .i64 0, .slice none 0 0] 24 := by rw [← hw3]; exact Box.new' (by simp)
 have e0 := b0.cell
 have HRM := Lib.hid (remade_any c hsm pa pc w3 (hp.below hB3))
 have HW := Lib.hid hw3
 have HB3 := Lib.hid hB3
 have HB0 := Lib.hid b0
 have HB1 := Lib.hid b1
 have HB2 := Lib.hid b2
 have HGF := Lib.hid hgf.2
 have hent := hgf.1
 clear b0 b1 b2 hB3 hgf hp hw3
 refine (callsIn_wide (n := 0)).1 (callsIn_of_wp_marks Tryz.func40 rfl trivial ?_ rfl)
 simp only [Tryz.ntmps40, List.size_toArray, List.length_cons, List.length_nil, Nat.reduceAdd, Nat.reduceSub, Array.replicate_succ, Array.replicate_zero, List.push_toArray, List.append_toArray, List.nil_append, List.cons_append]
 gi_upto_region 1 with fail
 simp only [HW.out]
 gi_upto_region 2 with (gi_at_call 67; (with_reducible refine (callsIn_wide.2 HRM.out).mono ?_); rintro e w4 ⟨PB, pc', cells, rfl, hpc, hpo, hb4⟩; have u0 := (HB0.out.below' hb4).rules; obtain ⟨u01, u02⟩ := u0; have HPO := Lib.hid hpo; have HB4 := Lib.hid hb4; have HPC := Lib.hid hpc; clear hpo hb4 hpc)
 have hw4 : w.heap.size + 3 ≤ w4.heap.size := by have := HB4.out.size; omega
 have hPB := HPO.out.far
 have hPBl := HPO.out.box.lt
 have c5 : Box ((((w4.setCell ⟨w.heap.size, 0, none⟩ (.string c.ware)).setCell ⟨w.heap.size, 1, none⟩ (.int .i64 c.limit)).setCell ⟨w.heap.size, 2, none⟩ (.int .i64 c.by_)).setCell ⟨w.heap.size, 3, none⟩ (.slice (some ⟨PB, 0, none⟩) c.parts.length pc')) w.heap.size #[.string c.ware, .int .i64 c.limit, .int .i64 c.by_, .slice (some ⟨PB, 0, none⟩) c.parts.length pc'] 24 := by
  have := ((((HB0.out.below' HB4.out).set_ 0 (.string c.ware)).set_ 1 (.int .i64 c.limit)).set_ 2 (.int .i64 c.by_)).set_ 3 (.slice (some ⟨PB, 0, none⟩) c.parts.length pc')
  simpa using this
 have k5 : Keep (fun k => k ≠ w.heap.size) w4 ((((w4.setCell ⟨w.heap.size, 0, none⟩ (.string c.ware)).setCell ⟨w.heap.size, 1, none⟩ (.int .i64 c.limit)).setCell ⟨w.heap.size, 2, none⟩ (.int .i64 c.by_)).setCell ⟨w.heap.size, 3, none⟩ (.slice (some ⟨PB, 0, none⟩) c.parts.length pc')) :=
  ((((Keep.refl _ w4).setCell (.inl (by simp)) _).setCell (.inl (by simp)) _).setCell (.inl (by simp)) _).setCell (.inl (by simp)) _
 have b5 : Below w.heap.size w ((((w4.setCell ⟨w.heap.size, 0, none⟩ (.string c.ware)).setCell ⟨w.heap.size, 1, none⟩ (.int .i64 c.limit)).setCell ⟨w.heap.size, 2, none⟩ (.int .i64 c.by_)).setCell ⟨w.heap.size, 3, none⟩ (.slice (some ⟨PB, 0, none⟩) c.parts.length pc')) :=
  (HB3.out.trans (HB4.out.mono (by omega))).trans ((k5.mono (fun k (hk : k < w.heap.size) => by omega)).below (by omega))
 have s5 : ((((w4.setCell ⟨w.heap.size, 0, none⟩ (.string c.ware)).setCell ⟨w.heap.size, 1, none⟩ (.int .i64 c.limit)).setCell ⟨w.heap.size, 2, none⟩ (.int .i64 c.by_)).setCell ⟨w.heap.size, 3, none⟩ (.slice (some ⟨PB, 0, none⟩) c.parts.length pc')).heap.size = w4.heap.size := by simp [World.setCell]
 have g1 := k5.heap (by omega) (HB1.out.below' HB4.out)
 have g2 := k5.heap (by omega) (HB2.out.below' HB4.out)
 have p5 := (HPO.out.toB rfl).keep k5 (by omega) (fun b hb _ => by omega)
 generalize ((((w4.setCell ⟨w.heap.size, 0, none⟩ (.string c.ware)).setCell ⟨w.heap.size, 1, none⟩ (.int .i64 c.limit)).setCell ⟨w.heap.size, 2, none⟩ (.int .i64 c.by_)).setCell ⟨w.heap.size, 3, none⟩ (.slice (some ⟨PB, 0, none⟩) c.parts.length pc')) = w5 at *
 clear u01 u02 k5
 have I5 : Hid (WoI gone c w.heap.size (w.heap.size + 3) w4.heap.size PB pc' (.func (.func K) #[] caps) w [] w5) := Lib.hid ⟨⟨rfl, c5, cells, by rw [← hs3]; exact p5⟩, g1, g2, b5⟩
 clear c5 g1 g2 b5 p5
 gi_wp2_with (gi_at_call 81; (with_reducible refine (callsIn_wide.2 (bys_any _ _)).mono ?_); rintro e w' ⟨rfl, rfl⟩)
 have hbl : Below w5.heap.size w5 (w5.alloc (.cells #[.pointer (some ⟨w.heap.size, 0, none⟩)] 137)) := (Below.refl _ _).alloc (Nat.le_refl _) _
 have gI : Box (w5.alloc (.cells #[.pointer (some ⟨w.heap.size, 0, none⟩)] 137)) w5.heap.size #[.pointer (some ⟨w.heap.size, 0, none⟩)] 137 := Box.new _ _ _
 have gs : (w5.alloc (.cells #[.pointer (some ⟨w.heap.size, 0, none⟩)] 137)).heap.size = w5.heap.size + 1 := by simp
 have hIb : ∀ s A A', WoI gone c w.heap.size (w.heap.size + 3) w4.heap.size PB pc' (.func (.func K) #[] caps) w s A → Below A.heap.size A A' → WoI gone c w.heap.size (w.heap.size + 3) w4.heap.size PB pc' (.func (.func K) #[] caps) w s A' := by
  rintro s A A' ⟨⟨h1, h2, cl, h3⟩, h4, h5, h6⟩ hb
  exact ⟨⟨h1, h2.below' hb, cl, h3.below hb⟩, h4.below' hb, h5.below' hb, h6.trans (hb.mono h6.size)⟩
 have h6 := hIb _ _ _ I5.out hbl
 have HHI := Lib.hid hIb
 have H6 := Lib.hid h6
 clear hIb h6 I5 hbl
 rw [s5] at gI gs
 generalize (w5.alloc (.cells #[.pointer (some ⟨w.heap.size, 0, none⟩)] 137)) = w6 at *
 refine wpIn_rangeC (gf := 112) (lb := #[.pointer (some ⟨w4.heap.size, 0, none⟩)]) (Rd := ByRd PB 0 w.heap.size fun g => g = w4.heap.size ∨ w6.heap.size + 2 ≤ g) (xs := bysList c.parts.length) rfl (enters_of Tryz.func112 (by kernel_rfl) rfl)
  (fun o1 o2 => bys1_gives c.parts.length hl10 PB 0 pc' w.heap.size w4.heap.size (some ⟨PB, 0, none⟩) (fun _ => rfl) _ ((gI.alloc _).alloc _) _ (.inl rfl) (fun k hk => .inr (by simpa using hk))) ?ps
  (WoC w.heap.size PB) (WoI gone c w.heap.size (w.heap.size + 3) w4.heap.size PB pc' (.func (.func K) #[] caps) w) (fun _ _ _ => False) ?hC1 ?hC2 ?hC3 ?hC4 ?hOk ?hI ?hI2 ?hX ?hX2 ?h0 (WoAs c pa pc pc' w.heap.size PB w4.heap.size (w6.heap.size + 1) K caps) ?hAs ?assign ?body ?done ?stop
 case ps => rintro x args W ⟨g, rfl, _, _⟩; rfl
 case hC1 => intro s A B k _ _ _ h; exact h
 case hC2 =>
  rintro s A k ⟨⟨_, h1, cl, h2⟩, _⟩ _ (rfl | rfl)
  ·exact h1.lt
  ·exact h2.box.lt
 case hC3 => intro A o; rfl
 case hC4 =>
  intro s A _ _
  refine ⟨?_, ?_⟩ <;> rintro (h | h) <;> omega
 case hX => intro _ _ _ _ h; exact h.elim
 case hX2 => intro _ _ _ _ h; exact h.elim
 case stop => intro _ _ _ _ h; exact h.elim
 case hI => exact HHI.out
 case hI2 =>
  rintro s A o ⟨⟨h1, h2, cl, h3⟩, h4, h5, h6⟩
  have hk : Keep (fun k => k ≠ w6.heap.size + 1) A (A.putObj (w6.heap.size + 1) o) := (Keep.refl _ A).putObj (fun h => h rfl) _
  exact ⟨⟨h1, hk.heap (by omega) h2, cl, h3.keep hk (by omega) (fun b h1 h2 => by omega)⟩, hk.heap (by omega) h4, hk.heap (by omega) h5, below_put h6 (by omega) _⟩
 case h0 => exact H6.out
 case hOk =>
  rintro rec pre A ⟨⟨⟨h1, h2, cl, h3⟩, _⟩, _⟩
  refine ⟨h2.cell 3, ?_⟩
  rintro ((h | h) | h) <;> omega
 case hAs =>
  rintro x args act A o ⟨g, h1, h2, h3, h4⟩
  exact ⟨g, h1, ((Keep.refl (fun k => k ≠ w6.heap.size + 1) A).putObj (fun h => h rfl) o).heap h3 h2, h3, h4⟩
 case assign =>
  rintro l x args W Kk ⟨g, rfl, hb, hg⟩ hlt hk
  gi_wp2_with fail
  refine hk _ _ ⟨g, rfl, hb, ?_, ?_, ?_⟩ (Below.refl _ _) <;> omega
 case done =>
  rintro W hi hD
  obtain ⟨⟨h1, h2, cl, h3⟩, h4, h5, h6⟩ := hi
  obtain ⟨e1, f1⟩ := h2.rules
  obtain ⟨e5, f5⟩ := h5.rules
  have H2 := Lib.hid h2
  have H3 := Lib.hid h3
  have H5 := Lib.hid h5
  have H6 := Lib.hid h6
  have HL := Lib.hid h1
  have HD := Lib.hid hD
  clear h1 h2 h3 h4 h5 h6 hD
  gi_wp2_with fail
  have k8 : Keep (fun k => k ≠ w.heap.size + 2) W ((((W.setCell ⟨w.heap.size + 1 + 1, 0, none⟩ (.string (foldC gone c (bysList c.parts.length)).ware)).setCell ⟨w.heap.size + 1 + 1, 1, none⟩ (.int .i64 (foldC gone c (bysList c.parts.length)).limit)).setCell ⟨w.heap.size + 1 + 1, 2, none⟩ (.int .i64 (foldC gone c (bysList c.parts.length)).by_)).setCell ⟨w.heap.size + 1 + 1, 3, none⟩ (.slice (some ⟨PB, 0, none⟩) c.parts.length pc')) :=
   ((((Keep.refl _ W).setCell (.inl (by simp)) _).setCell (.inl (by simp)) _).setCell (.inl (by simp)) _).setCell (.inl (by simp)) _
  have b8 : Box ((((W.setCell ⟨w.heap.size + 1 + 1, 0, none⟩ (.string (foldC gone c (bysList c.parts.length)).ware)).setCell ⟨w.heap.size + 1 + 1, 1, none⟩ (.int .i64 (foldC gone c (bysList c.parts.length)).limit)).setCell ⟨w.heap.size + 1 + 1, 2, none⟩ (.int .i64 (foldC gone c (bysList c.parts.length)).by_)).setCell ⟨w.heap.size + 1 + 1, 3, none⟩ (.slice (some ⟨PB, 0, none⟩) c.parts.length pc')) (w.heap.size + 1 + 1)
    #[.string (foldC gone c (bysList c.parts.length)).ware, .int .i64 (foldC gone c (bysList c.parts.length)).limit, .int .i64 (foldC gone c (bysList c.parts.length)).by_, .slice (some ⟨PB, 0, none⟩) c.parts.length pc'] 24 := by
   have := (((H5.out.set_ 0 (.string (foldC gone c (bysList c.parts.length)).ware)).set_ 1 (.int .i64 (foldC gone c (bysList c.parts.length)).limit)).set_ 2 (.int .i64 (foldC gone c (bysList c.parts.length)).by_)).set_ 3 (.slice (some ⟨PB, 0, none⟩) c.parts.length pc')
   simpa using this
  clear e1 f1 e5 f5
  generalize ((((W.setCell ⟨w.heap.size + 1 + 1, 0, none⟩ (.string (foldC gone c (bysList c.parts.length)).ware)).setCell ⟨w.heap.size + 1 + 1, 1, none⟩ (.int .i64 (foldC gone c (bysList c.parts.length)).limit)).setCell ⟨w.heap.size + 1 + 1, 2, none⟩ (.int .i64 (foldC gone c (bysList c.parts.length)).by_)).setCell ⟨w.heap.size + 1 + 1, 3, none⟩ (.slice (some ⟨PB, 0, none⟩) c.parts.length pc')) = W8 at *
  have k9 : Keep (fun k => k ≠ w6.heap.size) W8 (W8.putObj w6.heap.size (.deferred none)) := (Keep.refl _ W8).putObj (fun h => h rfl) _
  refine ⟨by simp, .inl ⟨_, _, rfl, run_takeDeferred (k8.heap (by omega) HD.out), ?_⟩⟩
  refine ⟨_, results_cell rfl rfl (run_loadVar_row _ _ 24 24 _ (0, 0) _ (k9.heap (by omega) b8) Tryz.underlying24 rfl case_size), ?_⟩
  have hlen : (woutC gone c).parts.length = c.parts.length := HL.out
  refine ⟨PB, pc', cl, by rw [hlen]; rfl, by rw [hlen]; exact HPC.out, ?_, ?_⟩
  ·refine ((H3.out.keep k8 (by omega) (fun b h1 h2 => by omega)).keep k9 (by omega) (fun b h1 h2 => by omega)).toOwn rfl (by omega)
  ·have k10 := (k8.mono fun k (hk : k < w.heap.size) => by omega).trans (k9.mono fun k (hk : k < w.heap.size) => by omega)
   exact H6.out.trans (k10.below H6.out.size)
 case body =>
  rintro l pre x args act W hi ⟨g, rfl, hgb, hg1, hg2, hg3⟩ hpre hlt rfl hlp
  have hx := hpre.subset (by simp : x ∈ pre ++ [x])
  obtain ⟨v, hv⟩ : ∃ v, byVal (foldC gone c pre) x = v := ⟨_, rfl⟩
  have hby : W.cell? (byAddr PB 0 w.heap.size x) = some (.int .i64 v) := by rw [← hv]; exact by_cell_st hx hi.1
  have hgv : W.cell? ⟨w.heap.size + 1, 0, none⟩ = some (.func (.func K) #[] caps) := hi.2.1.cell 0
  have hfn : ∀ A, Below W.heap.size W A → Calls Tryz.prog K (#[.int .i64 v] ++ caps) A fun e A' => e = .returned (.bool (gone v)) ∧ Below A.heap.size A A' := fun A hA => HGF.out v A (hi.2.2.2.trans (hA.mono hi.2.2.2.size))
  have HI := Lib.hid hi
  have HV := Lib.hid hv
  have HPRE := Lib.hid hpre
  have HFN := Lib.hid hfn
  have HGB := Lib.hid hgb
  clear hi hv hpre hfn hgb
  gi_wp2_with fail
  rcases hz : (v != 0) with _ | _
  ·refine wpIn_region_heldB_round 11 [] (by kernel_rfl) (by kernel_rfl) (by kernel_rfl) (by kernel_rfl) (by simp) ?_
   intro S hS
   have k0 : ∀ A, S A → A.cell? (byAddr PB 0 w.heap.size x) = some (.int .i64 v) ∧ A.cell? ⟨w.heap.size + 1, 0, none⟩ = some (.func (.func K) #[] caps) := fun A h => ⟨keep_byAddr (K := fun _ => True) (Keep.of_below' (hS A h)) trivial hby, below_cell (hS A h) hgv⟩
   have K0 := Lib.hid k0
   have HS := Lib.hid hS
   clear k0 hS hby hgv
   simp only [List.take_succ_cons, List.take_zero, List.drop_succ_cons, List.drop_zero]
   repeat (first
    | (refine held_not rfl (by rfl) ?_; try (dsimp only); try simp only [Act.put, List.setIfInBounds_toArray, List.set_cons_zero, List.set_cons_succ])
    | (refine held_val (v := ?_) rfl (by rfl) ?_ ?_; rotate_left; (· (intro W hW; obtain ⟨q0, q1⟩ := K0.out W hW; go_simp; try with_reducible rfl)); try (dsimp only); try simp only [Act.put, List.setIfInBounds_toArray, List.set_cons_zero, List.set_cons_succ])
    | (refine held_skip rfl (by rfl) ?_ ?_; (· (intro W hW; obtain ⟨q0, q1⟩ := K0.out W hW; go_simp; try with_reducible rfl)); try (dsimp only); try simp only [Act.put, List.setIfInBounds_toArray, List.set_cons_zero, List.set_cons_succ]))
   refine held_nil ?_
   intro τ hτ w7 hW hO
   obtain rfl := laid0 hτ
   have HB7 := Lib.hid (HS.out w7 hW)
   clear hτ hO hW K0 HS
   simp only [overs, List.foldl_nil]
   gi_wp2_with fail
   refine ⟨Keep.of_below' HB7.out, fun k hk => .inl hk, ?_⟩
   have e : foldC gone c (pre ++ [x]) = foldC gone c pre := by
    rw [foldC_snoc, stepC, HV.out, if_neg (by simp [hitB, hz])]
   show WoI gone c w.heap.size (w.heap.size + 3) w4.heap.size PB pc' _ w (pre ++ [x]) w7
   unfold WoI
   rw [e]
   exact HHI.out _ _ _ HI.out HB7.out
  ·rcases hgo : gone v with _ | _
   ·rw [hgo] at HFN
    refine wpIn_region_heldB_round 11 [] (by kernel_rfl) (by kernel_rfl) (by kernel_rfl) (by kernel_rfl) (by simp) ?_
    intro S hS
    have k0 : ∀ A, S A → A.cell? (byAddr PB 0 w.heap.size x) = some (.int .i64 v) ∧ A.cell? ⟨w.heap.size + 1, 0, none⟩ = some (.func (.func K) #[] caps) := fun A h => ⟨keep_byAddr (K := fun _ => True) (Keep.of_below' (hS A h)) trivial hby, below_cell (hS A h) hgv⟩
    have K0 := Lib.hid k0
    have HS := Lib.hid hS
    clear k0 hS hby hgv
    simp only [List.take_succ_cons, List.take_zero, List.drop_succ_cons, List.drop_zero]
    repeat (first
     | (refine held_not rfl (by rfl) ?_; try (dsimp only); try simp only [Act.put, List.setIfInBounds_toArray, List.set_cons_zero, List.set_cons_succ])
     | (refine held_val (v := ?_) rfl (by rfl) ?_ ?_; rotate_left; (· (intro W hW; obtain ⟨q0, q1⟩ := K0.out W hW; go_simp; try with_reducible rfl)); try (dsimp only); try simp only [Act.put, List.setIfInBounds_toArray, List.set_cons_zero, List.set_cons_succ])
     | (refine held_skip rfl (by rfl) ?_ ?_; (· (intro W hW; obtain ⟨q0, q1⟩ := K0.out W hW; go_simp; try with_reducible rfl)); try (dsimp only); try simp only [Act.put, List.setIfInBounds_toArray, List.set_cons_zero, List.set_cons_succ])
     | (refine held_call (v := .bool false) (f := K) (args := #[.int .i64 v] ++ caps) rfl (by rfl) ?_ ?_ ?_; (· (intro W hW; go_simp; done)); (· exact (fun A hA => HFN.out A (HS.out A hA))); try (dsimp only); try simp only [Act.put, List.setIfInBounds_toArray, List.set_cons_zero, List.set_cons_succ]))
    refine held_nil ?_
    intro τ hτ w7 hW hO
    obtain rfl := laid0 hτ
    have HB7 := Lib.hid (HS.out w7 hW)
    clear hτ hO hW K0 HS
    simp only [overs, List.foldl_nil]
    gi_wp2_with fail
    refine ⟨Keep.of_below' HB7.out, fun k hk => .inl hk, ?_⟩
    have e : foldC gone c (pre ++ [x]) = foldC gone c pre := by
     rw [foldC_snoc, stepC, HV.out, if_neg (by simp [hitB, hgo])]
    show WoI gone c w.heap.size (w.heap.size + 3) w4.heap.size PB pc' _ w (pre ++ [x]) w7
    unfold WoI
    rw [e]
    exact HHI.out _ _ _ HI.out HB7.out
   ·rw [hgo] at HFN
    refine wpIn_region_heldB_round 11 [] (by kernel_rfl) (by kernel_rfl) (by kernel_rfl) (by kernel_rfl) (by simp) ?_
    intro S hS
    have k0 : ∀ A, S A → A.cell? (byAddr PB 0 w.heap.size x) = some (.int .i64 v) ∧ A.cell? ⟨w.heap.size + 1, 0, none⟩ = some (.func (.func K) #[] caps) := fun A h => ⟨keep_byAddr (K := fun _ => True) (Keep.of_below' (hS A h)) trivial hby, below_cell (hS A h) hgv⟩
    have K0 := Lib.hid k0
    have HS := Lib.hid hS
    clear k0 hS hby hgv
    simp only [List.take_succ_cons, List.take_zero, List.drop_succ_cons, List.drop_zero]
    repeat (first
     | (refine held_not rfl (by rfl) ?_; try (dsimp only); try simp only [Act.put, List.setIfInBounds_toArray, List.set_cons_zero, List.set_cons_succ])
     | (refine held_val (v := ?_) rfl (by rfl) ?_ ?_; rotate_left; (· (intro W hW; obtain ⟨q0, q1⟩ := K0.out W hW; go_simp; try with_reducible rfl)); try (dsimp only); try simp only [Act.put, List.setIfInBounds_toArray, List.set_cons_zero, List.set_cons_succ])
     | (refine held_skip rfl (by rfl) ?_ ?_; (· (intro W hW; obtain ⟨q0, q1⟩ := K0.out W hW; go_simp; try with_reducible rfl)); try (dsimp only); try simp only [Act.put, List.setIfInBounds_toArray, List.set_cons_zero, List.set_cons_succ])
     | (refine held_call (v := .bool true) (f := K) (args := #[.int .i64 v] ++ caps) rfl (by rfl) ?_ ?_ ?_; (· (intro W hW; go_simp; done)); (· exact (fun A hA => HFN.out A (HS.out A hA))); try (dsimp only); try simp only [Act.put, List.setIfInBounds_toArray, List.set_cons_zero, List.set_cons_succ]))
    refine held_nil ?_
    intro τ hτ w7 hW hO
    obtain rfl := laid0 hτ
    have HB7 := Lib.hid (HS.out w7 hW)
    clear hτ hO hW K0 HS
    simp only [overs, List.foldl_nil]
    have hfe := byFn_enters x
    gi_wp2_with fail
    have h7 := HHI.out _ _ _ HI.out HB7.out
    have hcl := clear_state (g := g) hx (by omega : w.heap.size < w.heap.size + 3) h7.1 (HGB.out.below' HB7.out) ⟨hg2, hg3⟩
    refine (CallsIn.inRound _ (callsIn_wide.2 hcl)).mono ?_
    rintro e w8 ⟨rfl, hst8, hk8⟩
    have H7 := Lib.hid h7
    have HS8 := Lib.hid hst8
    have HK8 := Lib.hid hk8
    clear h7 hcl hst8 hk8
    gi_wp2_with fail
    refine ⟨(Keep.of_below' HB7.out).trans (HK8.out.mono fun k hk => ⟨fun h => hk (.inl h), fun h => hk (.inr h)⟩), fun k hk => .inl hk, ?_⟩
    have e : foldC gone c (pre ++ [x]) = clearC (foldC gone c pre) x := by
     rw [foldC_snoc, stepC, HV.out, if_pos (by simp only [hitB, hz, hgo]; rfl)]
    show WoI gone c w.heap.size (w.heap.size + 3) w4.heap.size PB pc' _ w (pre ++ [x]) w8
    unfold WoI
    rw [e]
    refine ⟨HS8.out, HK8.out.heap (by omega) H7.out.2.1, HK8.out.heap (by omega) H7.out.2.2.1, H7.out.2.2.2.trans ((HK8.out.mono fun k (hk : k < w.heap.size) => by omega).below H7.out.2.2.2.size)⟩
end Go.Proofs.YtpjcnkajimgagaaGreat
