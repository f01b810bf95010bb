/- The reference's walk, refuted, CheckRefute, CheckNone, walked. -/
/- The reference's refuted, CheckRefute, CheckNone, walked. -/
import Derived.Test.YtpjcnkajimgagaaGreatMLeafR
import Derived.Test.YtpjcnkajimgagaaGreatMRefC
import Derived.Test.YtpjcnkajimgagaaGreatMWalk
set_option linter.unusedSimpArgs false
set_option linter.unusedVariables false
namespace Go.Proofs.YtpjcnkajimgagaaGreat
open Go.RowKit
attribute [local go_sem] Oper.semAt_some

theorem leafR_any (c : Cs) (n : Nat) (hn : c.parts.length = n) (hn8 : n ≤ 8) (hlim : 0 ≤ c.limit ∧ c.limit ≤ 40) (pa : Option Addr) (pc : Nat) (d : Dec) (hs : SymD d) (hp : Supp d n) (hd : ∀ a b, d a b ≤ 3) (x : Br) (ma : Option Addr) (mc : Nat) (w : World) (hparts : PartsAt w pa c.parts) (hi : Ints w ma x.many) (hmc : x.many.length ≤ mc) (hml : x.many.length ≤ 1000000) :
  Calls Tryz.prog 129 #[.agg #[.string c.ware, .int .i64 c.limit, .int .i64 c.by_, .slice pa c.parts.length pc], .agg (dciCells d), .agg #[.int .u8 x.kind, .int .i64 x.a, .int .i64 x.b, .slice ma x.many.length mc]] w (LeafPost (leafB c d n x) (leafIds c d x) w) := by
 by_cases hk : x.kind = 4
 ·obtain ⟨kd, xa, xb, xm⟩ := x
  dsimp only at hk
  subst hk
  rcases hh : manyHead c xa xb xm with _ | _
  ·exact leafR_head c n hn hn8 hlim pa pc d ⟨4, xa, xb, xm⟩ ma mc w hml hh
  ·exact leafR_good c n hn hn8 hlim pa pc d hs hp hd ⟨4, xa, xb, xm⟩ ma mc w hparts hi hmc hml hh
 ·exact leafR_two c n hn hn8 pa pc d hs hp hd x hk ma mc w hparts hml
/-- the Ids of leaves -/
def evIds (c : Cs) (ev : List (Dec × Br)) : List Int := ev.flatMap fun z => leafIds c z.1 z.2
theorem evIds_app (c : Cs) (e f : List (Dec × Br)) : evIds c (e ++ f) = evIds c e ++ evIds c f := by simp [evIds, List.flatMap_append]
theorem walkM_ev {c : Cs} {n : Nat} : ∀ (k : Nat) (d : Dec) (l : List Br) {r : List Br} {e : List (Dec × Br)}, walkM c n k d l = some (r, e) → 2 * e.length + r.length = l.length + 1 ∧ ∀ z ∈ e, leafB c z.1 n z.2 = true
 | 0, _, _, _, _, h => by simp [walkM] at h
 | _ + 1, _, [], _, _, h => by simp [walkM] at h
 | k + 1, d, x :: l, r, e, h => by
  by_cases hk : x.kind = 1
  ·rcases hs : splitB n x with _ | _
   ·rw [walkM_no hk hs] at h; cases h
   ·rcases h1 : walkM c n k (decWith d x.a.toNat x.b.toNat 1) l with _ | ⟨l1, e1⟩
    ·rw [walkM_one hk hs h1] at h; cases h
    ·rcases h2 : walkM c n k (decWith d x.a.toNat x.b.toNat 2) l1 with _ | ⟨l2, e2⟩
     ·rw [walkM_two hk hs h1 h2] at h; cases h
     ·rw [walkM_yes hk hs h1 h2] at h
      cases h
      obtain ⟨a1, b1⟩ := walkM_ev k _ _ h1
      obtain ⟨a2, b2⟩ := walkM_ev k _ _ h2
      refine ⟨by rw [List.length_append, List.length_cons]; omega, fun z hz => ?_⟩
      rcases List.mem_append.1 hz with hz | hz
      ·exact b1 z hz
      ·exact b2 z hz
  ·rw [walkM_leaf hk] at h
   split at h
   ·rename_i hl
    cases h
    exact ⟨by simp; omega, fun z hz => by rw [List.mem_singleton.1 hz]; exact hl⟩
   ·cases h
theorem evIds_len {c : Cs} {n : Nat} (hn : n ≤ 8) : ∀ {e : List (Dec × Br)}, (∀ z ∈ e, leafB c z.1 n z.2 = true) → (evIds c e).length ≤ 57 * e.length
 | [], _ => by simp [evIds]
 | z :: e, h => by
  have h1 := evIds_len (c := c) hn (e := e) (fun y hy => h y (by simp [hy]))
  have h2 := leafIds_len hn (h z (by simp))
  have h3 : evIds c (z :: e) = leafIds c z.1 z.2 ++ evIds c e := rfl
  rw [h3, List.length_append, List.length_cons]
  omega
/-- what walk hands back for N branches -/
def WalkRPost (c : Cs) (N : Nat) (o : Option (List Br × List (Dec × Br))) (w : World) (e : Ending) (w' : World) : Prop :=
 Below w.heap.size w w' ∧ ((o = none ∧ ∃ a1 n1 c1 a2 c2, ∃ L : List Int, e = .returned (.tuple #[.slice a1 n1 c1, .slice a2 L.length c2, .bool false]) ∧ Ints w' a2 L ∧ 2 * L.length ≤ 57 * (N + 1)) ∨
  ∃ r ev, o = some (r, ev) ∧ ∃ ra rc a cap, e = .returned (.tuple #[.slice ra r.length rc, .slice a (evIds c ev).length cap, .bool true]) ∧ BrsAt w' ra r ∧ r.length ≤ rc ∧ Ints w' a (evIds c ev) ∧ (evIds c ev).length ≤ cap)
theorem walkRPost_no {c : Cs} {N : Nat} {o : Option (List Br × List (Dec × Br))} {w w' : World} {a1 a2 : Option Addr} {n1 c1 c2 : Nat} (ho : o = none) (h : Below w.heap.size w w') : WalkRPost c N o w (.returned (.tuple #[.slice a1 n1 c1, .slice a2 0 c2, .bool false])) w' := ⟨h, .inl ⟨ho, _, _, _, _, _, [], rfl, Ints.nil _ _, by simp⟩⟩
/-- two own variables: the case, what is decided -/
structure WalkSt (c : Cs) (pa : Option Addr) (pc : Nat) (d : Dec) (w W : World) : Prop where
 cs : Box W w.heap.size (csCells c pa pc) 24
 dc : Box W (w.heap.size + 1) (dciCells d) 115
 old : Below w.heap.size w W
theorem WalkSt.below {c : Cs} {pa : Option Addr} {pc : Nat} {d : Dec} {w W W' : World} (h : WalkSt c pa pc d w W) (hb : Below W.heap.size W W') : WalkSt c pa pc d w W' :=
 ⟨h.cs.below' hb, h.dc.below' hb, h.old.trans (hb.mono h.old.size)⟩
theorem WalkSt.cells {c : Cs} {pa : Option Addr} {pc : Nat} {d : Dec} {w W : World} (h : WalkSt c pa pc d w W) : ∀ i, W.cell? ⟨w.heap.size, i, none⟩ = (#[.string c.ware, .int .i64 c.limit, .int .i64 c.by_, .slice pa c.parts.length pc] : Array Value)[i]? := h.cs.cell
theorem supp_with {d : Dec} {n x y w : Nat} (h : Supp d n) (hs : SymD d) (hx : x < n) (hy : y < n) : Supp (decWith d x y w) n := fun a b hab => by
 rw [decWith_eq hs] at hab
 split at hab
 ·rename_i he
  rcases he with ⟨rfl, rfl⟩ | ⟨rfl, rfl⟩
  ·exact ⟨hx, hy⟩
  ·exact ⟨hy, hx⟩
 ·exact h a b hab
set_option maxRecDepth 100000 in
set_option maxHeartbeats 8000000 in
theorem walkR_any (c : Cs) (n : Nat) (hn : c.parts.length = n) (hn8 : n ≤ 8) (hlim : 0 ≤ c.limit ∧ c.limit ≤ 40) (pa : Option Addr) (pc : Nat) :
  ∀ (k : Nat) (d : Dec) (l : List Br) (ra : Option Addr) (rc : Nat) (w : World), l.length < k → l.length ≤ 20000 → SymD d → Supp d n → (∀ a b, d a b ≤ 3) → (∀ z ∈ l, z.Small) → l.length ≤ rc → PartsAt w pa c.parts → BrsAt w ra l →
  Calls Tryz.prog 102 #[.agg #[.string c.ware, .int .i64 c.limit, .int .i64 c.by_, .slice pa c.parts.length pc], .agg (dciCells d), .slice ra l.length rc] w (WalkRPost c l.length (walkM c n k d l) w)
 | 0, _, _, _, _, _, h, _, _, _, _, _, _, _, _ => absurd h (Nat.not_lt_zero _)
 | k + 1, d, [], ra, rc, w, _, _, _, _, _, _, _, _, _ => by
  subst hn
  obtain ⟨w1, hw1⟩ : ∃ w1, (w.alloc (.cells #[.string c.ware, .int .i64 c.limit, .int .i64 c.by_, .slice pa c.parts.length pc] 24)).alloc (.cells (dciCells d) 115) = w1 := ⟨_, rfl⟩
  have hS : WalkSt c pa pc d w w1 := by
   rw [← hw1]
   exact ⟨(Box.new _ _ _).alloc _, Box.new' (by simp), by go_grown⟩
  have hs1 : w1.heap.size = w.heap.size + 2 := by rw [← hw1]; simp
  have HW := Lib.hid hw1
  have HS := Lib.hid hS
  clear hw1 hS
  go_enter Tryz.func102, Tryz.ntmps102
  go_upto_region 1 with fail
  simp only [HW.out]
  go_wp2_with fail
  go_ret3
  exact walkRPost_no rfl HS.out.old
 | k + 1, d, x :: l, ra, rc, w, hlk, hll, hs, hp, hd, hsm, hrc, hparts, hbr => by
  have ih := walkR_any c n hn hn8 hlim pa pc k
  subst hn
  obtain ⟨b, o, rfl, hx⟩ := hbr 0 x rfl
  obtain ⟨ma, mc, y1, y2, y3, y4, x5, x6⟩ := hx
  simp only [Nat.zero_mul, Nat.add_zero, List.length_cons] at y1 y2 y3 y4 hrc hll hlk
  simp only [List.length_cons]
  obtain ⟨hx256, hxml⟩ := hsm x (by simp)
  obtain ⟨w1, hw1⟩ : ∃ w1, (w.alloc (.cells #[.string c.ware, .int .i64 c.limit, .int .i64 c.by_, .slice pa c.parts.length pc] 24)).alloc (.cells (dciCells d) 115) = w1 := ⟨_, rfl⟩
  have hS : WalkSt c pa pc d w w1 := by
   rw [← hw1]
   exact ⟨(Box.new _ _ _).alloc _, Box.new' (by simp), by go_grown⟩
  have hs1 : w1.heap.size = w.heap.size + 2 := by rw [← hw1]; simp
  have HW := Lib.hid hw1
  have HS := Lib.hid hS
  clear hw1 hS
  have x1 := below_cell HS.out.old y1
  have x2 := below_cell HS.out.old y2
  have x3 := below_cell HS.out.old y3
  have x4 := below_cell HS.out.old y4
  obtain ⟨a2, ha2⟩ : ∃ a2, (if rc = 1 then some (⟨b, o, none⟩ : Addr) else some ⟨b, o + 4, none⟩) = a2 := ⟨_, rfl⟩
  have hbr2 : BrsAt w a2 l := by
   rw [← ha2]
   split
   ·have : l = [] := List.length_eq_zero_iff.1 (by omega)
    rw [this]; intro j y hy; simp at hy
   ·exact hbr.tail
  have HA2 := Lib.hid ha2
  have HBR2 := Lib.hid hbr2
  have HSM := Lib.hid (fun z (hz : z ∈ l) => hsm z (by simp [hz]))
  have HP := Lib.hid hparts
  have HSY := Lib.hid hs
  have HSU := Lib.hid hp
  have HD := Lib.hid hd
  have HIH := Lib.hid ih
  have X5 := Lib.hid x5
  have hz0 : (((l.length : Int) + 1) == 0) = false := by rw [beq_eq_false_iff_ne]; omega
  have h1l : (1 : Int) ≤ (l.length : Int) + 1 := by omega
  have hwn : IntKind.i64.wrap ((c.parts.length : Int) - 1) = (c.parts.length : Int) - 1 := IntWalk.i64_in _ (by omega)
  clear ha2 hbr2 hsm hparts hs hp hd ih x5 hbr y1 y2 y3 y4
  go_enter Tryz.func102, Tryz.ntmps102
  go_upto_region 1 with fail
  simp only [HW.out, Nat.add_assoc, Nat.reduceAdd]
  go_upto_region 4 with fail
  have g3 : Box (w1.alloc (.cells #[.int .u8 x.kind, .int .i64 x.a, .int .i64 x.b, .slice ma x.many.length mc] 69)) (w.heap.size + 2) #[.int .u8 x.kind, .int .i64 x.a, .int .i64 x.b, .slice ma x.many.length mc] 69 := Box.new' hs1.symm
  have gS := HS.out.below ((Below.refl _ w1).alloc (Nat.le_refl _) (.cells #[.int .u8 x.kind, .int .i64 x.a, .int .i64 x.b, .slice ma x.many.length mc] 69))
  generalize w1.alloc (.cells #[.int .u8 x.kind, .int .i64 x.a, .int .i64 x.b, .slice ma x.many.length mc] 69) = w2 at *
  have HS := Lib.hid gS
  have HBX := Lib.hid g3
  have e1 := HS.out.cells
  have e3 : ∀ i, w2.cell? ⟨w.heap.size + 2, i, none⟩ = (#[.int .u8 x.kind, .int .i64 x.a, .int .i64 x.b, .slice ma x.many.length mc] : Array Value)[i]? := g3.cell
  clear g3 gS x1 x2 x3 x4 HW hs1
  by_cases hk1 : x.kind = 1
  ·have hk1b : (((x.kind : Nat) : Int) != 1) = false := by simp [hk1]
   rcases ha : inB x.a 0 ((c.parts.length : Int) - 1) with _ | _
   ·have HSP := Lib.hid (show splitB c.parts.length x = false by simp [splitB, ha])
    have HIN := Lib.hid (within_held ha)
    have HIN2 := HIN
    clear ha
    go_wp2_with (go_at_call 68; (first | (with_reducible refine (HIN.out _).mono ?_) | (with_reducible refine (HIN2.out _).mono ?_)); rintro e w3 ⟨rfl, hb3⟩; have HS := Lib.hid (HS.out.below hb3); have HBX := Lib.hid (HBX.out.below' hb3); have e1 := HS.out.cells; have e3 : ∀ i, w3.cell? ⟨w.heap.size + 2, i, none⟩ = (#[.int .u8 x.kind, .int .i64 x.a, .int .i64 x.b, .slice ma x.many.length mc] : Array Value)[i]? := HBX.out.cell; clear hb3)
    go_ret3
    exact walkRPost_no (walkM_no hk1 HSP.out) HS.out.old
   rcases hb : inB x.b 0 ((c.parts.length : Int) - 1) with _ | _
   ·have HSP := Lib.hid (show splitB c.parts.length x = false by simp [splitB, hb])
    have HIN := Lib.hid (within_held ha)
    have HIN2 := Lib.hid (within_held hb)
    clear ha hb
    go_wp2_with (go_at_call 68; (first | (with_reducible refine (HIN.out _).mono ?_) | (with_reducible refine (HIN2.out _).mono ?_)); rintro e w3 ⟨rfl, hb3⟩; have HS := Lib.hid (HS.out.below hb3); have HBX := Lib.hid (HBX.out.below' hb3); have e1 := HS.out.cells; have e3 : ∀ i, w3.cell? ⟨w.heap.size + 2, i, none⟩ = (#[.int .u8 x.kind, .int .i64 x.a, .int .i64 x.b, .slice ma x.many.length mc] : Array Value)[i]? := HBX.out.cell; clear hb3)
    go_ret3
    exact walkRPost_no (walkM_no hk1 HSP.out) HS.out.old
   by_cases hab : x.a = x.b
   ·have HSP := Lib.hid (show splitB c.parts.length x = false by simp [splitB, hab])
    have HIN := Lib.hid (within_held ha)
    have HIN2 := Lib.hid (within_held hb)
    have habb : (x.a == x.b) = true := by simpa using hab
    clear ha hb hab
    go_wp2_with (go_at_call 68; (first | (with_reducible refine (HIN.out _).mono ?_) | (with_reducible refine (HIN2.out _).mono ?_)); rintro e w3 ⟨rfl, hb3⟩; have HS := Lib.hid (HS.out.below hb3); have HBX := Lib.hid (HBX.out.below' hb3); have e1 := HS.out.cells; have e3 : ∀ i, w3.cell? ⟨w.heap.size + 2, i, none⟩ = (#[.int .u8 x.kind, .int .i64 x.a, .int .i64 x.b, .slice ma x.many.length mc] : Array Value)[i]? := HBX.out.cell; clear hb3)
    go_ret3
    exact walkRPost_no (walkM_no hk1 HSP.out) HS.out.old
   have habb : (x.a == x.b) = false := by simpa using hab
   by_cases hm0 : x.many.length = 0
   ·have hsp : splitB c.parts.length x = true := by
     have : ((x.many.length : Int) == 0) = true := by rw [beq_iff_eq]; omega
     have h2 : (x.a != x.b) = true := by simpa using hab
     simp only [splitB, this, ha, hb, h2, Bool.and_true]
    obtain ⟨a, b', hxa, hxb, hal, hbl⟩ : ∃ a b' : Nat, x.a = a ∧ x.b = b' ∧ a < c.parts.length ∧ b' < c.parts.length := by
     obtain ⟨⟨a, h1, h2⟩, b', h3, h4⟩ := split_in hsp
     exact ⟨a, b', h1, h3, h2, h4⟩
    have HIN := Lib.hid (within_held ha)
    have HIN2 := Lib.hid (within_held hb)
    have hpos : ¬ ((0 : Int) < (x.many.length : Int)) := by omega
    have HWY := Lib.hid (fun (l1 l2 : List Br) (f1 f2 : List (Dec × Br)) (h3 : walkM c c.parts.length k (decWith d a b' 1) l = some (l1, f1)) (h4 : walkM c c.parts.length k (decWith d a b' 2) l1 = some (l2, f2)) => @walkM_yes c c.parts.length k d x l l1 l2 f1 f2 hk1 hsp (by rw [hxa, hxb]; exact h3) (by rw [hxa, hxb]; exact h4))
    have HWO := Lib.hid (fun (h3 : walkM c c.parts.length k (decWith d a b' 1) l = none) => @walkM_one c c.parts.length k d x l hk1 hsp (by rw [hxa, hxb]; exact h3))
    have HWT := Lib.hid (fun (l1 : List Br) (f1 : List (Dec × Br)) (h3 : walkM c c.parts.length k (decWith d a b' 1) l = some (l1, f1)) (h4 : walkM c c.parts.length k (decWith d a b' 2) l1 = none) => @walkM_two c c.parts.length k d x l l1 f1 hk1 hsp (by rw [hxa, hxb]; exact h3) (by rw [hxa, hxb]; exact h4))
    have HXA := Lib.hid hxa
    have HXB := Lib.hid hxb
    clear ha hb hab hm0 hsp hxa hxb
    go_upto_region 9 with (go_at_call 68; (first | (with_reducible refine (HIN.out _).mono ?_) | (with_reducible refine (HIN2.out _).mono ?_)); rintro e w3 ⟨rfl, hb3⟩; have HS := Lib.hid (HS.out.below hb3); have HBX := Lib.hid (HBX.out.below' hb3); have e1 := HS.out.cells; have e3 : ∀ i, w3.cell? ⟨w.heap.size + 2, i, none⟩ = (#[.int .u8 x.kind, .int .i64 x.a, .int .i64 x.b, .slice ma x.many.length mc] : Array Value)[i]? := HBX.out.cell; clear hb3)
    clear e1 e3
    have k0 : ∀ A, Below w3.heap.size w3 A → (∀ i, A.cell? ⟨w.heap.size, i, none⟩ = (#[.string c.ware, .int .i64 c.limit, .int .i64 c.by_, .slice pa c.parts.length pc] : Array Value)[i]?) ∧ A.cell? ⟨w.heap.size + 2, 1, none⟩ = some (.int .i64 (a : Int)) ∧ A.cell? ⟨w.heap.size + 2, 2, none⟩ = some (.int .i64 (b' : Int)) := fun A hA => by
     have h1 := (HBX.out.below' hA).cell 1
     have h2 := (HBX.out.below' hA).cell 2
     rw [HXA.out] at h1
     rw [HXB.out] at h2
     exact ⟨(HS.out.below hA).cells, h1, h2⟩
    have kd : ∀ A, Below w3.heap.size w3 A → (Instr.loadAt 115 (.pointer (some ⟨w.heap.size + 1, 0, none⟩))).run Tryz.prog A = .ok (.agg (dciCells d)) A := fun A hA => run_dci (HS.out.below hA).dc
    have K0 := Lib.hid k0
    have KD := Lib.hid kd
    clear k0 kd
    refine wp_region_L (fun A => Below w3.heap.size w3 A) 16 (by kernel_rfl) ?_
    have hSS : Below w3.heap.size w3 w3.drew := (Below.refl _ w3).drew
    refine anyL_take (i := 0) (v := ?_) (by kernel_rfl) rfl (by kernel_rfl) (by kernel_rfl) (by kernel_rfl) (by kernel_rfl) (fun _ _ _ h => h) (by rfl) ?_ hSS ?_
    rotate_left
    ·(intro W hW; obtain ⟨q0, q1, q2⟩ := K0.out W hW; go_simp; try with_reducible rfl)
    try (dsimp only); try simp only [Act.put, List.setIfInBounds_toArray, List.set_cons_zero, List.set_cons_succ]
    refine anyL_load (i := 1) 115 _ (by kernel_rfl) rfl (by kernel_rfl) (by kernel_rfl) (by kernel_rfl) (by kernel_rfl) (fun _ _ _ h => h) (by rfl) rfl rfl KD.out hSS ?_
    try (dsimp only); try simp only [Act.put, List.setIfInBounds_toArray, List.set_cons_zero, List.set_cons_succ]
    refine anyL_take (i := 2) (v := ?_) (by kernel_rfl) rfl (by kernel_rfl) (by kernel_rfl) (by kernel_rfl) (by kernel_rfl) (fun _ _ _ h => h) (by rfl) ?_ hSS ?_
    rotate_left
    ·(intro W hW; obtain ⟨q0, q1, q2⟩ := K0.out W hW; go_simp; try with_reducible rfl)
    try (dsimp only); try simp only [Act.put, List.setIfInBounds_toArray, List.set_cons_zero, List.set_cons_succ]
    refine anyL_take (i := 3) (v := ?_) (by kernel_rfl) rfl (by kernel_rfl) (by kernel_rfl) (by kernel_rfl) (by kernel_rfl) (fun _ _ _ h => h) (by rfl) ?_ hSS ?_
    rotate_left
    ·(intro W hW; obtain ⟨q0, q1, q2⟩ := K0.out W hW; go_simp; try with_reducible rfl)
    try (dsimp only); try simp only [Act.put, List.setIfInBounds_toArray, List.set_cons_zero, List.set_cons_succ]
    refine anyL_take (i := 4) (v := ?_) (by kernel_rfl) rfl (by kernel_rfl) (by kernel_rfl) (by kernel_rfl) (by kernel_rfl) (fun _ _ _ h => h) (by rfl) ?_ hSS ?_
    rotate_left
    ·(intro W hW; obtain ⟨q0, q1, q2⟩ := K0.out W hW; go_simp; try with_reducible rfl)
    try (dsimp only); try simp only [Act.put, List.setIfInBounds_toArray, List.set_cons_zero, List.set_cons_succ]
    refine anyL_take (i := 5) (v := ?_) (by kernel_rfl) rfl (by kernel_rfl) (by kernel_rfl) (by kernel_rfl) (by kernel_rfl) (fun _ _ _ h => h) (by rfl) ?_ hSS ?_
    rotate_left
    ·(intro W hW; obtain ⟨q0, q1, q2⟩ := K0.out W hW; go_simp; try with_reducible rfl)
    try (dsimp only); try simp only [Act.put, List.setIfInBounds_toArray, List.set_cons_zero, List.set_cons_succ]
    refine anyL_take (i := 7) (v := ?_) (by kernel_rfl) rfl (by kernel_rfl) (by kernel_rfl) (by kernel_rfl) (by kernel_rfl) (fun _ _ _ h => h) (by rfl) ?_ hSS ?_
    rotate_left
    ·(intro W hW; obtain ⟨q0, q1, q2⟩ := K0.out W hW; go_simp; try with_reducible rfl)
    try (dsimp only); try simp only [Act.put, List.setIfInBounds_toArray, List.set_cons_zero, List.set_cons_succ]
    refine anyL_take (i := 8) (v := ?_) (by kernel_rfl) rfl (by kernel_rfl) (by kernel_rfl) (by kernel_rfl) (by kernel_rfl) (fun _ _ _ h => h) (by rfl) ?_ hSS ?_
    rotate_left
    ·(intro W hW; obtain ⟨q0, q1, q2⟩ := K0.out W hW; go_simp; try with_reducible rfl)
    try (dsimp only); try simp only [Act.put, List.setIfInBounds_toArray, List.set_cons_zero, List.set_cons_succ]
    simp only [HA2.out]
    refine anyL_call (i := 6) (f := 59) (args := #[.agg (dciCells d), .int .i64 (a : Int), .int .i64 (b' : Int), .int .i64 1]) rfl (by kernel_rfl) (by rfl) ?_ (withR_any d HSY.out a b' 1 _ (by omega) (by omega) HD.out (by omega)) ?_
    ·go_simp
    rintro e w4 ⟨rfl, hb4⟩
    have hb5 : Below w3.heap.size w3 w4 := hSS.trans hb4
    refine .inl ⟨_, rfl, .inr hb5, ?_⟩
    try (dsimp only); try simp only [Act.put, List.setIfInBounds_toArray, List.set_cons_zero, List.set_cons_succ]
    have hold4 := HS.out.old.trans (hb5.mono HS.out.old.size)
    have hih := HIH.out (decWith d a b' 1) l a2 (rc - 1) w4 (by omega) (by omega) (decWith_sym HSY.out _ _ _) (supp_with HSU.out HSY.out hal hbl) (decWith_le HD.out (by omega)) HSM.out (by omega) (HP.out.below hold4) (HBR2.out.below hold4)
    refine anyL_call (i := 9) (f := 102) (args := #[.agg #[.string c.ware, .int .i64 c.limit, .int .i64 c.by_, .slice pa c.parts.length pc], .agg (dciCells (decWith d a b' 1)), .slice a2 l.length (rc - 1)]) rfl (by kernel_rfl) (by rfl) ?_ hih ?_
    ·go_simp
    rintro e w5 ⟨hb6', ⟨hno, q1, q2, q3, q4, q5, L5, rfl, hi5, hl5⟩ | ⟨r, ev, hyes, ra3, rc3, a3, cap3, rfl, hbr3, hrc3, hi3, hc3⟩⟩
    ·have hb6 : Below w3.heap.size w3 w5 := hb5.trans (hb6'.mono hb5.size)
     refine .inl ⟨_, rfl, .inr hb6, ?_⟩
     try (dsimp only); try simp only [Act.put, List.setIfInBounds_toArray, List.set_cons_zero, List.set_cons_succ]
     have hSS := hb6
     refine anyL_run (i := 10) (v := ?_) (w' := w5) rfl (by kernel_rfl) (by rfl) (by (go_simp; try with_reducible rfl)) (.inr hb6) ?_
     try (dsimp only); try simp only [Act.put, List.setIfInBounds_toArray, List.set_cons_zero, List.set_cons_succ]
     refine anyL_take (i := 11) (v := ?_) (by kernel_rfl) rfl (by kernel_rfl) (by kernel_rfl) (by kernel_rfl) (by kernel_rfl) (fun _ _ _ h => h) (by rfl) ?_ hSS ?_
     rotate_left
     ·(intro W hW; obtain ⟨q0, q1, q2⟩ := K0.out W hW; go_simp; try with_reducible rfl)
     try (dsimp only); try simp only [Act.put, List.setIfInBounds_toArray, List.set_cons_zero, List.set_cons_succ]
     refine anyL_take (i := 12) (v := ?_) (by kernel_rfl) rfl (by kernel_rfl) (by kernel_rfl) (by kernel_rfl) (by kernel_rfl) (fun _ _ _ h => h) (by rfl) ?_ hSS ?_
     rotate_left
     ·(intro W hW; obtain ⟨q0, q1, q2⟩ := K0.out W hW; go_simp; try with_reducible rfl)
     try (dsimp only); try simp only [Act.put, List.setIfInBounds_toArray, List.set_cons_zero, List.set_cons_succ]
     refine anyL_take (i := 13) (v := ?_) (by kernel_rfl) rfl (by kernel_rfl) (by kernel_rfl) (by kernel_rfl) (by kernel_rfl) (fun _ _ _ h => h) (by rfl) ?_ hSS ?_
     rotate_left
     ·(intro W hW; obtain ⟨q0, q1, q2⟩ := K0.out W hW; go_simp; try with_reducible rfl)
     try (dsimp only); try simp only [Act.put, List.setIfInBounds_toArray, List.set_cons_zero, List.set_cons_succ]
     refine anyL_run (i := 14) (v := ?_) (w' := w5) rfl (by kernel_rfl) (by rfl) (by (go_simp; try with_reducible rfl)) (.inr hb6) ?_
     try (dsimp only); try simp only [Act.put, List.setIfInBounds_toArray, List.set_cons_zero, List.set_cons_succ]
     refine anyL_run (i := 15) (v := ?_) (w' := w5) rfl (by kernel_rfl) (by rfl) (by (go_simp; try with_reducible rfl)) (.inr hb6) ?_
     try (dsimp only); try simp only [Act.put, List.setIfInBounds_toArray, List.set_cons_zero, List.set_cons_succ]
     refine anyL_run (i := 16) (v := ?_) (w' := w5) rfl (by kernel_rfl) (by rfl) (by (go_simp; try with_reducible rfl)) (.inl rfl) ?_
     try (dsimp only); try simp only [Act.put, List.setIfInBounds_toArray, List.set_cons_zero, List.set_cons_succ]
     refine anyL_done (by kernel_rfl) ?_ _
     have HS := Lib.hid (HS.out.below hb6)
     have HNO := Lib.hid (HWO.out hno)
     clear hb6 hb6' hb5 hb4 hSS hold4 hih hno K0 KD
     go_wp2_with fail
     go_ret3
     exact walkRPost_no HNO.out HS.out.old
    ·have hb6 : Below w3.heap.size w3 w5 := hb5.trans (hb6'.mono hb5.size)
     refine .inl ⟨_, rfl, .inr hb6, ?_⟩
     try (dsimp only); try simp only [Act.put, List.setIfInBounds_toArray, List.set_cons_zero, List.set_cons_succ]
     have hSS := hb6
     refine anyL_run (i := 10) (v := ?_) (w' := w5) rfl (by kernel_rfl) (by rfl) (by (go_simp; try with_reducible rfl)) (.inr hb6) ?_
     try (dsimp only); try simp only [Act.put, List.setIfInBounds_toArray, List.set_cons_zero, List.set_cons_succ]
     refine anyL_take (i := 11) (v := ?_) (by kernel_rfl) rfl (by kernel_rfl) (by kernel_rfl) (by kernel_rfl) (by kernel_rfl) (fun _ _ _ h => h) (by rfl) ?_ hSS ?_
     rotate_left
     ·(intro W hW; obtain ⟨q0, q1, q2⟩ := K0.out W hW; go_simp; try with_reducible rfl)
     try (dsimp only); try simp only [Act.put, List.setIfInBounds_toArray, List.set_cons_zero, List.set_cons_succ]
     refine anyL_take (i := 12) (v := ?_) (by kernel_rfl) rfl (by kernel_rfl) (by kernel_rfl) (by kernel_rfl) (by kernel_rfl) (fun _ _ _ h => h) (by rfl) ?_ hSS ?_
     rotate_left
     ·(intro W hW; obtain ⟨q0, q1, q2⟩ := K0.out W hW; go_simp; try with_reducible rfl)
     try (dsimp only); try simp only [Act.put, List.setIfInBounds_toArray, List.set_cons_zero, List.set_cons_succ]
     refine anyL_take (i := 13) (v := ?_) (by kernel_rfl) rfl (by kernel_rfl) (by kernel_rfl) (by kernel_rfl) (by kernel_rfl) (fun _ _ _ h => h) (by rfl) ?_ hSS ?_
     rotate_left
     ·(intro W hW; obtain ⟨q0, q1, q2⟩ := K0.out W hW; go_simp; try with_reducible rfl)
     try (dsimp only); try simp only [Act.put, List.setIfInBounds_toArray, List.set_cons_zero, List.set_cons_succ]
     refine anyL_run (i := 14) (v := ?_) (w' := w5) rfl (by kernel_rfl) (by rfl) (by (go_simp; try with_reducible rfl)) (.inr hb6) ?_
     try (dsimp only); try simp only [Act.put, List.setIfInBounds_toArray, List.set_cons_zero, List.set_cons_succ]
     refine anyL_run (i := 15) (v := ?_) (w' := w5) rfl (by kernel_rfl) (by rfl) (by (go_simp; try with_reducible rfl)) (.inr hb6) ?_
     try (dsimp only); try simp only [Act.put, List.setIfInBounds_toArray, List.set_cons_zero, List.set_cons_succ]
     refine anyL_run (i := 16) (v := ?_) (w' := w5) rfl (by kernel_rfl) (by rfl) (by (go_simp; try with_reducible rfl)) (.inl rfl) ?_
     try (dsimp only); try simp only [Act.put, List.setIfInBounds_toArray, List.set_cons_zero, List.set_cons_succ]
     refine anyL_done (by kernel_rfl) ?_ _
     have HS := Lib.hid (HS.out.below hb6)
     have HBX := Lib.hid (HBX.out.below' hb6)
     have HEV := Lib.hid (walkM_ev _ _ _ hyes)
     have HRL := Lib.hid (walkM_len _ _ _ hyes)
     have HRS := Lib.hid (walkM_small _ _ _ HSM.out hyes)
     have HY := Lib.hid hyes
     have HBR3 := Lib.hid hbr3
     have HI3 := Lib.hid hi3
     clear hb6 hb6' hb5 hb4 hSS hold4 hih hyes hbr3 hi3 K0 KD
     go_upto_region 12 with fail
     have k0 : ∀ A, Below w5.heap.size w5 A → (∀ i, A.cell? ⟨w.heap.size, i, none⟩ = (#[.string c.ware, .int .i64 c.limit, .int .i64 c.by_, .slice pa c.parts.length pc] : Array Value)[i]?) ∧ A.cell? ⟨w.heap.size + 2, 1, none⟩ = some (.int .i64 (a : Int)) ∧ A.cell? ⟨w.heap.size + 2, 2, none⟩ = some (.int .i64 (b' : Int)) := fun A hA => by
      have h1 := (HBX.out.below' hA).cell 1
      have h2 := (HBX.out.below' hA).cell 2
      rw [HXA.out] at h1
      rw [HXB.out] at h2
      exact ⟨(HS.out.below hA).cells, h1, h2⟩
     have kd : ∀ A, Below w5.heap.size w5 A → (Instr.loadAt 115 (.pointer (some ⟨w.heap.size + 1, 0, none⟩))).run Tryz.prog A = .ok (.agg (dciCells d)) A := fun A hA => run_dci (HS.out.below hA).dc
     have K0 := Lib.hid k0
     have KD := Lib.hid kd
     clear k0 kd
     refine wp_region_L (fun A => Below w5.heap.size w5 A) 15 (by kernel_rfl) ?_
     have hSS : Below w5.heap.size w5 w5.drew := (Below.refl _ w5).drew
     refine anyL_take (i := 0) (v := ?_) (by kernel_rfl) rfl (by kernel_rfl) (by kernel_rfl) (by kernel_rfl) (by kernel_rfl) (fun _ _ _ h => h) (by rfl) ?_ hSS ?_
     rotate_left
     ·(intro W hW; obtain ⟨q0, q1, q2⟩ := K0.out W hW; go_simp; try with_reducible rfl)
     try (dsimp only); try simp only [Act.put, List.setIfInBounds_toArray, List.set_cons_zero, List.set_cons_succ]
     refine anyL_load (i := 1) 115 _ (by kernel_rfl) rfl (by kernel_rfl) (by kernel_rfl) (by kernel_rfl) (by kernel_rfl) (fun _ _ _ h => h) (by rfl) rfl rfl KD.out hSS ?_
     try (dsimp only); try simp only [Act.put, List.setIfInBounds_toArray, List.set_cons_zero, List.set_cons_succ]
     refine anyL_take (i := 2) (v := ?_) (by kernel_rfl) rfl (by kernel_rfl) (by kernel_rfl) (by kernel_rfl) (by kernel_rfl) (fun _ _ _ h => h) (by rfl) ?_ hSS ?_
     rotate_left
     ·(intro W hW; obtain ⟨q0, q1, q2⟩ := K0.out W hW; go_simp; try with_reducible rfl)
     try (dsimp only); try simp only [Act.put, List.setIfInBounds_toArray, List.set_cons_zero, List.set_cons_succ]
     refine anyL_take (i := 3) (v := ?_) (by kernel_rfl) rfl (by kernel_rfl) (by kernel_rfl) (by kernel_rfl) (by kernel_rfl) (fun _ _ _ h => h) (by rfl) ?_ hSS ?_
     rotate_left
     ·(intro W hW; obtain ⟨q0, q1, q2⟩ := K0.out W hW; go_simp; try with_reducible rfl)
     try (dsimp only); try simp only [Act.put, List.setIfInBounds_toArray, List.set_cons_zero, List.set_cons_succ]
     refine anyL_take (i := 4) (v := ?_) (by kernel_rfl) rfl (by kernel_rfl) (by kernel_rfl) (by kernel_rfl) (by kernel_rfl) (fun _ _ _ h => h) (by rfl) ?_ hSS ?_
     rotate_left
     ·(intro W hW; obtain ⟨q0, q1, q2⟩ := K0.out W hW; go_simp; try with_reducible rfl)
     try (dsimp only); try simp only [Act.put, List.setIfInBounds_toArray, List.set_cons_zero, List.set_cons_succ]
     refine anyL_take (i := 5) (v := ?_) (by kernel_rfl) rfl (by kernel_rfl) (by kernel_rfl) (by kernel_rfl) (by kernel_rfl) (fun _ _ _ h => h) (by rfl) ?_ hSS ?_
     rotate_left
     ·(intro W hW; obtain ⟨q0, q1, q2⟩ := K0.out W hW; go_simp; try with_reducible rfl)
     try (dsimp only); try simp only [Act.put, List.setIfInBounds_toArray, List.set_cons_zero, List.set_cons_succ]
     refine anyL_take (i := 7) (v := ?_) (by kernel_rfl) rfl (by kernel_rfl) (by kernel_rfl) (by kernel_rfl) (by kernel_rfl) (fun _ _ _ h => h) (by rfl) ?_ hSS ?_
     rotate_left
     ·(intro W hW; obtain ⟨q0, q1, q2⟩ := K0.out W hW; go_simp; try with_reducible rfl)
     try (dsimp only); try simp only [Act.put, List.setIfInBounds_toArray, List.set_cons_zero, List.set_cons_succ]
     refine anyL_call (i := 6) (f := 59) (args := #[.agg (dciCells d), .int .i64 (a : Int), .int .i64 (b' : Int), .int .i64 2]) rfl (by kernel_rfl) (by rfl) ?_ (withR_any d HSY.out a b' 2 _ (by omega) (by omega) HD.out (by omega)) ?_
     ·go_simp
     rintro e w6 ⟨rfl, hb7⟩
     have hb8 : Below w5.heap.size w5 w6 := hSS.trans hb7
     refine .inl ⟨_, rfl, .inr hb8, ?_⟩
     try (dsimp only); try simp only [Act.put, List.setIfInBounds_toArray, List.set_cons_zero, List.set_cons_succ]
     have hold6 := HS.out.old.trans (hb8.mono HS.out.old.size)
     have hih := HIH.out (decWith d a b' 2) r ra3 rc3 w6 (by have := HRL.out; omega) (by have := HRL.out; omega) (decWith_sym HSY.out _ _ _) (supp_with HSU.out HSY.out hal hbl) (decWith_le HD.out (by omega)) HRS.out hrc3 (HP.out.below hold6) (HBR3.out.below hb8)
     refine anyL_call (i := 8) (f := 102) (args := #[.agg #[.string c.ware, .int .i64 c.limit, .int .i64 c.by_, .slice pa c.parts.length pc], .agg (dciCells (decWith d a b' 2)), .slice ra3 r.length rc3]) rfl (by kernel_rfl) (by rfl) ?_ hih ?_
     ·go_simp
     rintro e w7 ⟨hb9', ⟨hno, q1, q2, q3, q4, q5, L5, rfl, hi5, hl5⟩ | ⟨r2, ev2, hyes, ra4, rc4, a4, cap4, rfl, hbr4, hrc4, hi4, hc4⟩⟩
     ·have hb9 : Below w5.heap.size w5 w7 := hb8.trans (hb9'.mono hb8.size)
      refine .inl ⟨_, rfl, .inr hb9, ?_⟩
      try (dsimp only); try simp only [Act.put, List.setIfInBounds_toArray, List.set_cons_zero, List.set_cons_succ]
      have hSS := hb9
      refine anyL_run (i := 9) (v := ?_) (w' := w7) rfl (by kernel_rfl) (by rfl) (by (go_simp; try with_reducible rfl)) (.inr hb9) ?_
      try (dsimp only); try simp only [Act.put, List.setIfInBounds_toArray, List.set_cons_zero, List.set_cons_succ]
      refine anyL_take (i := 10) (v := ?_) (by kernel_rfl) rfl (by kernel_rfl) (by kernel_rfl) (by kernel_rfl) (by kernel_rfl) (fun _ _ _ h => h) (by rfl) ?_ hSS ?_
      rotate_left
      ·(intro W hW; obtain ⟨q0, q1, q2⟩ := K0.out W hW; go_simp; try with_reducible rfl)
      try (dsimp only); try simp only [Act.put, List.setIfInBounds_toArray, List.set_cons_zero, List.set_cons_succ]
      refine anyL_take (i := 11) (v := ?_) (by kernel_rfl) rfl (by kernel_rfl) (by kernel_rfl) (by kernel_rfl) (by kernel_rfl) (fun _ _ _ h => h) (by rfl) ?_ hSS ?_
      rotate_left
      ·(intro W hW; obtain ⟨q0, q1, q2⟩ := K0.out W hW; go_simp; try with_reducible rfl)
      try (dsimp only); try simp only [Act.put, List.setIfInBounds_toArray, List.set_cons_zero, List.set_cons_succ]
      refine anyL_take (i := 12) (v := ?_) (by kernel_rfl) rfl (by kernel_rfl) (by kernel_rfl) (by kernel_rfl) (by kernel_rfl) (fun _ _ _ h => h) (by rfl) ?_ hSS ?_
      rotate_left
      ·(intro W hW; obtain ⟨q0, q1, q2⟩ := K0.out W hW; go_simp; try with_reducible rfl)
      try (dsimp only); try simp only [Act.put, List.setIfInBounds_toArray, List.set_cons_zero, List.set_cons_succ]
      refine anyL_run (i := 13) (v := ?_) (w' := w7) rfl (by kernel_rfl) (by rfl) (by (go_simp; try with_reducible rfl)) (.inr hb9) ?_
      try (dsimp only); try simp only [Act.put, List.setIfInBounds_toArray, List.set_cons_zero, List.set_cons_succ]
      refine anyL_run (i := 14) (v := ?_) (w' := w7) rfl (by kernel_rfl) (by rfl) (by (go_simp; try with_reducible rfl)) (.inr hb9) ?_
      try (dsimp only); try simp only [Act.put, List.setIfInBounds_toArray, List.set_cons_zero, List.set_cons_succ]
      refine anyL_run (i := 15) (v := ?_) (w' := w7) rfl (by kernel_rfl) (by rfl) (by (go_simp; try with_reducible rfl)) (.inl rfl) ?_
      try (dsimp only); try simp only [Act.put, List.setIfInBounds_toArray, List.set_cons_zero, List.set_cons_succ]
      refine anyL_done (by kernel_rfl) ?_ _
      have HS := Lib.hid (HS.out.below hb9)
      have HI3 := Lib.hid (HI3.out.below hb9)
      have HNO := Lib.hid (HWT.out _ _ HY.out hno)
      clear hb9 hb9' hb8 hb7 hSS hold6 hih hno K0 KD
      have hold := HS.out.old
      have hev := HEV.out.1
      have hel := evIds_len (c := c) hn8 HEV.out.2
      have hle : (evIds c ev).length ≤ 600000 := by omega
      obtain ⟨v8, w8, hrun, hown, hb10⟩ := app_ints (ownsRow_empty w7 w7.heap.size 3 1 (Nat.le_refl _)) (a := a3) (cap := cap3) rfl (HI3.out.below ((Below.refl _ w7).alloc (Nat.le_refl _) (.cells #[] 3))) (by omega) (by simp)
      have hb7a : Below w7.heap.size w7 (w7.alloc (.cells #[] 3)) := (Below.refl _ w7).alloc (Nat.le_refl _) _
      have hb78 : Below w7.heap.size w7 w8 := hb7a.trans hb10
      obtain ⟨v9, w9, hrun9, hown9, hb11⟩ := app_ints hown (a := q4) (cap := q5) rfl (hi5.below hb78) (by omega) hb78.size
      obtain ⟨a9, c9, hv9, hro9, hc9⟩ := ownsRow_own hown9
      subst hv9
      have HRN := Lib.hid hrun
      have HRN9 := Lib.hid hrun9
      have HRO := Lib.hid hro9
      have HEND := Lib.hid (hold.trans ((hb78.trans hb11).mono hold.size))
      have HLE := Lib.hid (show 2 * ((evIds c ev) ++ L5).length ≤ 57 * (l.length + 1 + 1) by rw [List.length_append]; omega)
      clear hrun hrun9 hro9 hown hown9 hb10 hb11 hb7a hb78 hold hev hel hle hi5 hl5
      go_wp2_with (at_builtin; first | (refine wpList_app rfl _ _ _ rfl rfl rfl HRN.out ?_) | (refine wpList_app rfl _ _ _ rfl rfl rfl HRN9.out ?_))
      go_ret3
      refine ⟨HEND.out, .inl ⟨HNO.out, q1, q2, q3, a9, c9, evIds c ev ++ L5, ?_, ?_, HLE.out⟩⟩
      ·rw [List.length_append]; rfl
      ·have h := HRO.out
       rw [List.nil_append, ← List.map_append] at h
       exact ints_rowOwn h
     ·have hb9 : Below w5.heap.size w5 w7 := hb8.trans (hb9'.mono hb8.size)
      refine .inl ⟨_, rfl, .inr hb9, ?_⟩
      try (dsimp only); try simp only [Act.put, List.setIfInBounds_toArray, List.set_cons_zero, List.set_cons_succ]
      have hSS := hb9
      refine anyL_run (i := 9) (v := ?_) (w' := w7) rfl (by kernel_rfl) (by rfl) (by (go_simp; try with_reducible rfl)) (.inr hb9) ?_
      try (dsimp only); try simp only [Act.put, List.setIfInBounds_toArray, List.set_cons_zero, List.set_cons_succ]
      refine anyL_take (i := 10) (v := ?_) (by kernel_rfl) rfl (by kernel_rfl) (by kernel_rfl) (by kernel_rfl) (by kernel_rfl) (fun _ _ _ h => h) (by rfl) ?_ hSS ?_
      rotate_left
      ·(intro W hW; obtain ⟨q0, q1, q2⟩ := K0.out W hW; go_simp; try with_reducible rfl)
      try (dsimp only); try simp only [Act.put, List.setIfInBounds_toArray, List.set_cons_zero, List.set_cons_succ]
      refine anyL_take (i := 11) (v := ?_) (by kernel_rfl) rfl (by kernel_rfl) (by kernel_rfl) (by kernel_rfl) (by kernel_rfl) (fun _ _ _ h => h) (by rfl) ?_ hSS ?_
      rotate_left
      ·(intro W hW; obtain ⟨q0, q1, q2⟩ := K0.out W hW; go_simp; try with_reducible rfl)
      try (dsimp only); try simp only [Act.put, List.setIfInBounds_toArray, List.set_cons_zero, List.set_cons_succ]
      refine anyL_take (i := 12) (v := ?_) (by kernel_rfl) rfl (by kernel_rfl) (by kernel_rfl) (by kernel_rfl) (by kernel_rfl) (fun _ _ _ h => h) (by rfl) ?_ hSS ?_
      rotate_left
      ·(intro W hW; obtain ⟨q0, q1, q2⟩ := K0.out W hW; go_simp; try with_reducible rfl)
      try (dsimp only); try simp only [Act.put, List.setIfInBounds_toArray, List.set_cons_zero, List.set_cons_succ]
      refine anyL_run (i := 13) (v := ?_) (w' := w7) rfl (by kernel_rfl) (by rfl) (by (go_simp; try with_reducible rfl)) (.inr hb9) ?_
      try (dsimp only); try simp only [Act.put, List.setIfInBounds_toArray, List.set_cons_zero, List.set_cons_succ]
      refine anyL_run (i := 14) (v := ?_) (w' := w7) rfl (by kernel_rfl) (by rfl) (by (go_simp; try with_reducible rfl)) (.inr hb9) ?_
      try (dsimp only); try simp only [Act.put, List.setIfInBounds_toArray, List.set_cons_zero, List.set_cons_succ]
      refine anyL_run (i := 15) (v := ?_) (w' := w7) rfl (by kernel_rfl) (by rfl) (by (go_simp; try with_reducible rfl)) (.inl rfl) ?_
      try (dsimp only); try simp only [Act.put, List.setIfInBounds_toArray, List.set_cons_zero, List.set_cons_succ]
      refine anyL_done (by kernel_rfl) ?_ _
      have HS := Lib.hid (HS.out.below hb9)
      have HI3 := Lib.hid (HI3.out.below hb9)
      have HYS := Lib.hid (HWY.out _ _ _ _ HY.out hyes)
      have HEV2 := Lib.hid (walkM_ev _ _ _ hyes)
      have HBR4 := Lib.hid hbr4
      clear hb9 hb9' hb8 hb7 hSS hold6 hih hyes hbr4 K0 KD
      have hold := HS.out.old
      have hev := HEV.out.1
      have hel := evIds_len (c := c) hn8 HEV.out.2
      have hle : (evIds c ev).length ≤ 600000 := by omega
      obtain ⟨v8, w8, hrun, hown, hb10⟩ := app_ints (ownsRow_empty w7 w7.heap.size 3 1 (Nat.le_refl _)) (a := a3) (cap := cap3) rfl (HI3.out.below ((Below.refl _ w7).alloc (Nat.le_refl _) (.cells #[] 3))) (by omega) (by simp)
      have hb7a : Below w7.heap.size w7 (w7.alloc (.cells #[] 3)) := (Below.refl _ w7).alloc (Nat.le_refl _) _
      have hb78 : Below w7.heap.size w7 w8 := hb7a.trans hb10
      have hev2 := HEV2.out.1
      have hel2 := evIds_len (c := c) hn8 HEV2.out.2
      have hle2 : (evIds c ev).length + (evIds c ev2).length ≤ 600000 := by omega
      obtain ⟨v9, w9, hrun9, hown9, hb11⟩ := app_ints hown (a := a4) (cap := cap4) rfl (hi4.below hb78) (by omega) hb78.size
      obtain ⟨a9, c9, hv9, hro9, hc9⟩ := ownsRow_own hown9
      subst hv9
      have HRN := Lib.hid hrun
      have HRN9 := Lib.hid hrun9
      have HRO := Lib.hid hro9
      have HC9 := Lib.hid hc9
      have HEND := Lib.hid (hold.trans ((hb78.trans hb11).mono hold.size))
      have HBE := Lib.hid (HBR4.out.below (hb78.trans hb11))
      clear hrun hrun9 hro9 hown hown9 hb10 hb11 hb7a hb78 hold hev hel hle hev2 hel2 hle2 hi4 hc9
      go_wp2_with (at_builtin; first | (refine wpList_app rfl _ _ _ rfl rfl rfl HRN.out ?_) | (refine wpList_app rfl _ _ _ rfl rfl rfl HRN9.out ?_))
      go_ret3
      refine ⟨HEND.out, .inr ⟨r2, ev ++ ev2, HYS.out, ra4, rc4, a9, c9, ?_, HBE.out, hrc4, ?_, ?_⟩⟩
      ·rw [evIds_app, List.length_append]; rfl
      ·have h := HRO.out
       rw [List.nil_append, ← List.map_append, ← evIds_app] at h
       exact ints_rowOwn h
      ·rw [evIds_app, List.length_append]; have := HC9.out; omega
   ·have HSP := Lib.hid (show splitB c.parts.length x = false by
     have : ((x.many.length : Int) == 0) = false := by rw [beq_eq_false_iff_ne]; omega
     simp only [splitB, this, Bool.and_false])
    have HIN := Lib.hid (within_held ha)
    have HIN2 := Lib.hid (within_held hb)
    have hpos : (0 : Int) < (x.many.length : Int) := by omega
    clear ha hb hab hm0
    go_wp2_with (go_at_call 68; (first | (with_reducible refine (HIN.out _).mono ?_) | (with_reducible refine (HIN2.out _).mono ?_)); rintro e w3 ⟨rfl, hb3⟩; have HS := Lib.hid (HS.out.below hb3); have HBX := Lib.hid (HBX.out.below' hb3); have e1 := HS.out.cells; have e3 : ∀ i, w3.cell? ⟨w.heap.size + 2, i, none⟩ = (#[.int .u8 x.kind, .int .i64 x.a, .int .i64 x.b, .slice ma x.many.length mc] : Array Value)[i]? := HBX.out.cell; clear hb3)
    go_ret3
    exact walkRPost_no (walkM_no hk1 HSP.out) HS.out.old
  ·have hk1b : (((x.kind : Nat) : Int) != 1) = true := by simp; omega
   have hL := run_dci HS.out.dc
   have hlf := leafR_any c c.parts.length rfl hn8 hlim pa pc d HSY.out HSU.out HD.out x ma mc w2 (HP.out.below HS.out.old) (X5.out.below HS.out.old) x6 hxml
   have HLF := Lib.hid (hlf.mono (fun (e : Ending) (w' : World) hh => (by
    obtain ⟨hb, a, k, cap, he, h, h0⟩ := hh
    exact ⟨a, k, cap, he, h, hb, h0⟩ : ∃ (a : Option Addr) (k cap : Nat), e = Ending.returned (.tuple #[.slice a k cap, .bool (leafB c d c.parts.length x)]) ∧ (leafB c d c.parts.length x = true → k = (leafIds c d x).length ∧ Ints w' a (leafIds c d x) ∧ (leafIds c d x).length ≤ cap) ∧ Below w2.heap.size w2 w' ∧ (leafB c d c.parts.length x = false → k = 0))))
   have HWL := Lib.hid (walkM_leaf (c := c) (n := c.parts.length) (k := k) (d := d) (l := l) hk1)
   clear hlf hk1
   go_wp2_with (first
    | (refine wpList_load_box rfl 115 _ rfl rfl hL ?_)
    | (go_at_call 129; (with_reducible refine HLF.out.mono ?_); rintro e w3 ⟨la, lk, lc, rfl, hi3, hb3, h03⟩; have HI3 := Lib.hid hi3; have HB3 := Lib.hid hb3; have H03 := Lib.hid h03; clear hb3 hi3 h03))
   all_goals
    have ha2 := HA2.out
    simp only [*] at ha2
    go_ret3
    have hold := HS.out.old.trans (HB3.out.mono HS.out.old.size)
    rcases hlb : leafB c d c.parts.length x with _ | _
    ·obtain rfl := H03.out hlb
     exact walkRPost_no (by rw [HWL.out, hlb]; rfl) hold
    ·obtain ⟨rfl, hi4, hc4⟩ := HI3.out hlb
     have he : evIds c [(d, x)] = leafIds c d x := by simp [evIds]
     refine ⟨hold, .inr ⟨l, [(d, x)], by rw [HWL.out, hlb]; rfl, a2, _, la, lc, by rw [he, ← ha2]; rfl, HBR2.out.below hold, by omega, by rw [he]; exact hi4, by rw [he]; exact hc4⟩⟩
end Go.Proofs.YtpjcnkajimgagaaGreat
namespace Go.Proofs.YtpjcnkajimgagaaGreat
open Go.RowKit
attribute [local go_sem] Oper.semAt_some

/-- what refuted hands back -/
def RefutedPost (c : Cs) (o : Option (List (Dec × Br))) (w : World) (e : Ending) (w' : World) : Prop :=
 Below w.heap.size w w' ∧ ∃ a k cap, e = .returned (.tuple #[.slice a k cap, .bool o.isSome]) ∧ ∀ ev, o = some ev → k = (evIds c ev).length ∧ Ints w' a (evIds c ev) ∧ (evIds c ev).length ≤ cap ∧ (evIds c ev).length ≤ 600000
theorem refutedB_no {c : Cs} {n : Nat} {d : Dec} {l : List Br} (h : walkM c n (l.length + 1) d l = none) : refutedB c n d l = none := by simp [refutedB, h]
theorem refutedB_yes {c : Cs} {n : Nat} {d : Dec} {l : List Br} {ev : List (Dec × Br)} (h20 : ¬ 20000 < l.length) (h : walkM c n (l.length + 1) d l = some ([], ev)) : refutedB c n d l = some ev := by simp [refutedB, h, h20]
theorem refutedB_rest {c : Cs} {n : Nat} {d : Dec} {l r : List Br} {z : Br} {ev : List (Dec × Br)} (h : walkM c n (l.length + 1) d l = some (z :: r, ev)) : refutedB c n d l = none := by simp [refutedB, h]
set_option maxRecDepth 100000 in
set_option maxHeartbeats 2000000 in
theorem refutedR_any (c : Cs) (n : Nat) (hn : c.parts.length = n) (hn8 : n ≤ 8) (hlim : 0 ≤ c.limit ∧ c.limit ≤ 40) (pa : Option Addr) (pc : Nat) (d : Dec) (l : List Br) (ra : Option Addr) (rc : Nat) (w : World) (hll : l.length ≤ 1000000) (hs : SymD d) (hp : Supp d n) (hd : ∀ a b, d a b ≤ 3) (hsm : ∀ z ∈ l, z.Small) (hrc : l.length ≤ rc) (hparts : PartsAt w pa c.parts) (hbr : BrsAt w ra l) :
  Calls Tryz.prog 58 #[.agg #[.string c.ware, .int .i64 c.limit, .int .i64 c.by_, .slice pa c.parts.length pc], .agg (dciCells d), .slice ra l.length rc] w (RefutedPost c (refutedB c n d l) w) := by
 subst hn
 obtain ⟨w1, hw1⟩ : ∃ w1, (w.alloc (.cells #[.string c.ware, .int .i64 c.limit, .int .i64 c.by_, .slice pa c.parts.length pc] 24)).alloc (.cells (dciCells d) 115) = w1 := ⟨_, rfl⟩
 have hS : WalkSt c pa pc d w w1 := by
  rw [← hw1]
  exact ⟨(Box.new _ _ _).alloc _, Box.new' (by simp), by go_grown⟩
 have e1 := hS.cells
 have hL := run_dci hS.dc
 by_cases h20 : 20000 < l.length
 ·have HR := Lib.hid (refuted_long (c := c) (n := c.parts.length) (d := d) h20)
  have HO := Lib.hid hS.old
  have HW := Lib.hid hw1
  clear hS hw1 hbr
  go_enter Tryz.func58, Tryz.ntmps58
  go_upto_region 1 with fail
  simp only [HW.out]
  go_wp2_with fail
  go_ret2
  rw [HR.out]
  exact ⟨HO.out, _, _, _, rfl, fun ev h => by cases h⟩
 ·have hwk := walkR_any c c.parts.length rfl hn8 hlim pa pc (l.length + 1) d l ra rc w1 (by omega) (by omega) hs hp hd hsm hrc (hparts.below hS.old) (hbr.below hS.old)
  have HWK := Lib.hid hwk
  have HO := Lib.hid hS.old
  have HW := Lib.hid hw1
  clear hS hw1 hbr hwk
  go_enter Tryz.func58, Tryz.ntmps58
  go_upto_region 1 with fail
  simp only [HW.out]
  go_upto_region 3 with fail
  go_upto_region 4 with (first
   | (refine wpList_load_box rfl 115 _ rfl rfl hL ?_)
   | (go_at_call 102; (with_reducible refine HWK.out.mono ?_); rintro e w2 ⟨hb2, ⟨hno, a1, n1, c1, a2, c2, L, rfl, hi2, hl2⟩ | ⟨r, ev, hyes, ra3, rc3, a3, cap3, rfl, hbr3, hrc3, hi3, hc3⟩⟩))
  ·have HE := Lib.hid (show refutedB c c.parts.length d l = none from refutedB_no hno)
   have HB2 := Lib.hid hb2
   clear hno hi2 hl2 hb2
   go_wp2_with fail
   go_ret2
   rw [HE.out]
   exact ⟨HO.out.trans (HB2.out.mono HO.out.size), _, _, _, rfl, fun ev h => by cases h⟩
  ·have HB2 := Lib.hid hb2
   have HI3 := Lib.hid hi3
   have HEV := Lib.hid (walkM_ev _ _ _ hyes)
   rcases r with _ | ⟨z, r⟩
   ·have HE := Lib.hid (show refutedB c c.parts.length d l = some ev from refutedB_yes h20 hyes)
    clear hb2 hi3 hyes hbr3
    go_wp2_with fail
    go_ret2
    rw [HE.out]
    refine ⟨HO.out.trans (HB2.out.mono HO.out.size), _, _, _, rfl, fun ev' h => ?_⟩
    cases h
    have h1 := HEV.out.1
    have h2 := evIds_len (c := c) hn8 HEV.out.2
    exact ⟨rfl, HI3.out, hc3, by simp at h1; omega⟩
   ·have HE := Lib.hid (show refutedB c c.parts.length d l = none from refutedB_rest hyes)
    have hne : (((r.length + 1 : Nat) : Int) == 0) = false := by rw [beq_eq_false_iff_ne]; omega
    clear hb2 hi3 hyes hbr3
    simp only [List.length_cons] at *
    go_wp2_with fail
    go_ret2
    rw [HE.out]
    exact ⟨HO.out.trans (HB2.out.mono HO.out.size), _, _, _, rfl, fun ev h => by cases h⟩

theorem zero_supp (n : Nat) : Supp (fun _ _ => 0) n := fun _ _ h => absurd rfl h
theorem zero_le3 : ∀ a b : Nat, (fun _ _ => 0 : Dec) a b ≤ 3 := fun _ _ => Nat.zero_le _
end Go.Proofs.YtpjcnkajimgagaaGreat
