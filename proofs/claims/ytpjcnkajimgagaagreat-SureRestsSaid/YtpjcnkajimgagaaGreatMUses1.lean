/- Uses: at each leaf its Ids are put behind the list. -/
import Derived.Test.YtpjcnkajimgagaaGreatMUsesP
import Derived.Test.YtpjcnkajimgagaaGreatMUsesS
import Derived.Test.YtpjcnkajimgagaaGreatMVisitU
import Derived.Test.YtpjcnkajimgagaaGreatMHeld
import Derived.Test.YtpjcnkajimgagaaGreatMTry
import Derived.Test.YtpjcnkajimgagaaGreatMWithP
set_option linter.unusedSimpArgs false
set_option linter.unusedVariables false
namespace Go.Proofs.YtpjcnkajimgagaaGreat
open Go.RowKit
attribute [local go_sem] Oper.semAt_some

/-- the list's variable is at ob -/
def EvV (B ob : Nat) (W : World) (v : Value) (l : List Int) : Prop := Box W ob #[v] 27 ∧ W.ownsRow B 3 1 v l.length (l.map (Value.int .i64))
def EvBlk (ob : Nat) (W : World) (k : Nat) : Prop := k = ob ∨ ∃ v, Box W ob #[v] 27 ∧ v.ownBlock = some k
def EvKeep (ob : Nat) (W W' : World) : Prop := Keep (fun k => ¬ EvBlk ob W k) W W' ∧ ∀ k, EvBlk ob W' k → EvBlk ob W k ∨ W.heap.size ≤ k
theorem EvKeep.trans {ob : Nat} {A B C : World} (h : EvKeep ob A B) (k : EvKeep ob B C) : EvKeep ob A C := by
 refine ⟨⟨k.1.os.trans h.1.os, k.1.tape.trans h.1.tape, k.1.output.trans h.1.output, Nat.le_trans h.1.size k.1.size, fun i hi hl => ?_⟩, fun i hi => ?_⟩
 ·rw [k.1.block i (fun hz => ?_) (Nat.lt_of_lt_of_le hl h.1.size), h.1.block i hi hl]
  rcases h.2 i hz with h1 | h1
  ·exact hi h1
  ·omega
 ·rcases k.2 i hi with h1 | h1
  ·exact h.2 i h1
  ·exact .inr (Nat.le_trans h.1.size h1)
theorem EvKeep.of_below {ob : Nat} {W W' : World} {v : Value} (hv : Box W ob #[v] 27) (h : Below W.heap.size W W') : EvKeep ob W W' :=
 ⟨Keep.of_below' h, fun k hk => .inl (hk.imp id fun ⟨u, hu, he⟩ => ⟨u, by rw [box_eq hu (hv.below' h)]; exact hv, he⟩)⟩
theorem EvV.below {B ob : Nat} {W W' : World} {v : Value} {l : List Int} (h : EvV B ob W v l) (hb : Below W.heap.size W W') : EvV B ob W' v l := ⟨h.1.below' hb, ownsRow_keep (K := fun _ => True) h.2 (Keep.of_below' hb) (fun _ _ => trivial)⟩
theorem EvV.not {B ob : Nat} {W : World} {v : Value} {l : List Int} (h : EvV B ob W v l) {b : Nat} {cs : Array Value} {t : TypeId} (hb : Box W b cs t) (h1 : t ≠ 3) (h2 : t ≠ 27) : ¬ EvBlk ob W b := by
 rintro (rfl | ⟨u, hu, he⟩)
 ·have := h.1
  unfold Box at this hb
  rw [hb] at this
  simp only [Option.some.injEq, Obj.cells.injEq] at this
  exact h2 this.2.1
 ·rw [box_eq hu h.1] at he
  obtain ⟨_, ⟨rfl, _⟩ | ⟨g, cap, cur, rfl, _, hg, _⟩⟩ := h.2
  ·cases he
  ·simp only [Value.ownBlock, Option.some.injEq] at he
   subst he
   unfold Box at hb
   rw [hb] at hg
   simp only [Option.some.injEq, Obj.cells.injEq] at hg
   exact h1 hg.2.1
theorem EvV.blk {B ob : Nat} {W : World} {v : Value} {l : List Int} (h : EvV B ob W v l) {k : Nat} (hk : EvBlk ob W k) : (k = ob ∨ B ≤ k) ∧ k < W.heap.size := by
 rcases hk with rfl | ⟨u, hu, he⟩
 ·exact ⟨.inl rfl, h.1.lt⟩
 ·rw [box_eq hu h.1] at he
  have := h.2.lt k he
  exact ⟨.inr this.1, this.2⟩
theorem EvV.own {B ob : Nat} {W : World} {v : Value} {l : List Int} (h : EvV B ob W v l) {k : Nat} (hk : ¬ EvBlk ob W k) : v.ownBlock ≠ some k := fun e => hk (.inr ⟨v, h.1, e⟩)
/-- numbers are put behind the list -/
theorem ev_push {B ob k cap : Nat} {W : World} {v : Value} {l m : List Int} (h : EvV B ob W v l) (hob : ob < B) (hB : B ≤ W.heap.size) {a : Option Addr} (hm : m.length = k) (hi : Ints W a m) (hl : l.length + k ≤ 1000000) :
  ∃ v' U, (Builtin.append_ #[27, 27] 27 #[v, .slice a k cap]).run Tryz.prog W = .ok v' U ∧ Box U ob #[v] 27 ∧ EvV B ob (U.setCell ⟨ob, 0, none⟩ v') v' (l ++ m) ∧ EvKeep ob W (U.setCell ⟨ob, 0, none⟩ v') ∧ Keep (fun k => v.ownBlock ≠ some k) W U := by
 obtain ⟨v', U, hrun, hown, hgr, hvb⟩ := run_append_row (P := Tryz.prog) W B 27 27 3 (.int .i64 0) 1 8 Tryz.underlying27 info_int rfl (by omega) v _ _ h.2 a k cap (m.map (Value.int .i64)) (by simpa using hm) hi (ints_one m) hl (by omega) hB
 have kU : Keep (fun k => v.ownBlock ≠ some k) W U := (Keep.refl _ W).grown hgr (fun k hk => .inl (fun h => h hk))
 have hbU : Box U ob #[v] 27 := kU.heap (fun hk => by have := (h.2.lt ob hk).1; omega) h.1
 have kS : Keep (fun k => k ≠ ob) U (U.setCell ⟨ob, 0, none⟩ v') := (Keep.refl _ U).setCell (.inl (by simp)) _
 refine ⟨v', U, hrun, hbU, ⟨hbU.set_ 0 v', ?_⟩, ⟨?_, fun i hi => ?_⟩, kU⟩
 ·have := ownsRow_keep hown kS (fun k hk => by omega)
  rw [List.length_append, hm, List.map_append]
  exact this
 ·exact (kU.mono fun k (hk : ¬ EvBlk ob W k) he => hk (.inr ⟨v, h.1, he⟩)).trans (kS.mono fun k hk => fun e => hk (.inl e))
 ·rcases hi with rfl | ⟨u, hu, he⟩
  ·exact .inl (.inl rfl)
  ·rw [box_eq hu (hbU.set_ 0 v')] at he
   rcases hvb with h1 | h1
   ·exact .inl (.inr ⟨v, h.1, h1 ▸ he⟩)
   ·rw [h1] at he; cases he; exact .inr (Nat.le_refl _)

theorem ints_single {W : World} {g : Nat} {n : Int} {t : TypeId} (h : Box W g #[.int .i64 n] t) : Ints W (some ⟨g, 0, none⟩) [n] := by
 intro k v hv
 rcases k with _ | k
 ·simp at hv; subst hv
  exact ⟨g, 0, rfl, h.cell 0⟩
 ·simp at hv
/-- what stands while the Ids of a leaf are put behind the list -/
structure UseSt (c : Cs) (pa : Option Addr) (pc : Nat) (d : Dec) (bb nb : Nat) (w0 : World) (N ob : Nat) (x : Br) (ma : Option Addr) (mc : Nat) (W : World) (l : List Int) (A : World) : Prop where
 ev : ∃ v, EvV N ob A v l
 node : NodeAt c pa pc d bb nb A
 br : Box A W.heap.size #[.int .u8 x.kind, .int .i64 x.a, .int .i64 x.b, .slice ma x.many.length mc] 69
 old : Below w0.heap.size w0 A
 kept : EvKeep ob W A
section
variable {c : Cs} {pa : Option Addr} {pc : Nat} {d : Dec} {bb nb : Nat} {w0 : World} {N ob : Nat} {x : Br} {ma : Option Addr} {mc : Nat} {W A A' : World} {l m : List Int}
theorem UseSt.below (h : UseSt c pa pc d bb nb w0 N ob x ma mc W l A) (hb : Below A.heap.size A A') : UseSt c pa pc d bb nb w0 N ob x ma mc W l A' := by
 obtain ⟨v, hv⟩ := h.ev
 exact ⟨⟨v, hv.below hb⟩, h.node.below hb, h.br.below' hb, h.old.trans (hb.mono h.old.size), h.kept.trans (EvKeep.of_below hv.1 hb)⟩
theorem UseSt.push (h : UseSt c pa pc d bb nb w0 N ob x ma mc W l A) (hw : w0.heap.size ≤ ob ∧ ob < N) (hp : PartsAt w0 pa c.parts) {v v' : Value} (hv : EvV N ob A v l) {A' : World} (hv' : EvV N ob A' v' (l ++ m)) (hk : EvKeep ob A A') : UseSt c pa pc d bb nb w0 N ob x ma mc W (l ++ m) A' := by
 have ho : Below w0.heap.size w0 A' := h.old.trans ((hk.1.mono fun i (hi : i < w0.heap.size) hb => by have := (hv.blk hb).1; omega).below h.old.size)
 exact ⟨⟨v', hv'⟩, ⟨hk.1.heap (hv.not h.node.ben (by decide) (by decide)) h.node.ben, hk.1.heap (hv.not h.node.node (by decide) (by decide)) h.node.node, hp.below ho⟩, hk.1.heap (hv.not h.br (by decide) (by decide)) h.br, ho, h.kept.trans hk⟩
theorem UseSt.cells (h : UseSt c pa pc d bb nb w0 N ob x ma mc W l A) : ∀ i, A.cell? ⟨W.heap.size, i, none⟩ = (#[.int .u8 x.kind, .int .i64 x.a, .int .i64 x.b, .slice ma x.many.length mc] : Array Value)[i]? := h.br.cell
end
/-- what stands in the list's variable after some leaves -/
def UJ (c : Cs) (n ob N : Nat) (ev : List (Dec × Br)) (W : World) : Prop := (∃ v, EvV N ob W v (evS c n ev)) ∧ (∀ z ∈ ev, leafB c z.1 n z.2 = true) ∧ N ≤ W.heap.size
set_option maxRecDepth 100000 in
set_option maxHeartbeats 4000000 in
theorem uses1_at (c : Cs) (n : Nat) (hn : c.parts.length = n) (hn8 : n ≤ 8) (hlim : 0 ≤ c.limit ∧ c.limit ≤ 40) (pa : Option Addr) (pc : Nat) (bb : Nat) (w0 : World) (hparts : PartsAt w0 pa c.parts) (ob N M : Nat) (hob : w0.heap.size ≤ ob ∧ ob < N) (hM : M ≤ 10000) :
  U.AtFn c n pa pc bb w0 53 #[.pointer (some ⟨ob, 0, none⟩)] (EvBlk ob) (UJ c n ob N) M := by
 refine ⟨enters_of Tryz.func53 (by kernel_rfl) rfl, fun ev d x nb ma mc W hd hold hN hI hmc hlf hev ⟨⟨v, hv⟩, hall, hNW⟩ => ?_⟩
 have hle := evS_len hn hn8 hall
 obtain ⟨w1, hw1⟩ : ∃ w1, W.alloc (.cells #[.int .u8 x.kind, .int .i64 x.a, .int .i64 x.b, .slice ma x.many.length mc] 69) = w1 := ⟨_, rfl⟩
 have hB1 : Below W.heap.size W w1 := by rw [← hw1]; exact (Below.refl _ _).alloc (Nat.le_refl _) _
 have hs1 : UseSt c pa pc d bb nb w0 N ob x ma mc W (evS c n ev) w1 := ⟨⟨v, hv.below hB1⟩, hN.below hB1, by rw [← hw1]; exact Box.new _ _ _, hold.trans (hB1.mono hold.size), EvKeep.of_below hv.1 hB1⟩
 have hall2 : ∀ z ∈ ev ++ [(d, x)], leafB c z.1 n z.2 = true := fun z hz => by
  rcases List.mem_append.1 hz with hz | hz
  ·exact hall z hz
  ·rw [List.mem_singleton.1 hz]; exact hlf
 have fin : ∀ w', UseSt c pa pc d bb nb w0 N ob x ma mc W (evS c n ev ++ idsS c d n x) w' → UJ c n ob N (ev ++ [(d, x)]) w' ∧ EvKeep ob W w' := fun w' h =>
  ⟨⟨by rw [evS_snoc]; exact h.ev, hall2, by have := h.kept.1.size; omega⟩, h.kept⟩
 have HFIN := Lib.hid fin
 have HS := Lib.hid hs1
 have HW := Lib.hid hw1
 have HD := Lib.hid hd
 have HI := Lib.hid hI
 have HLF := Lib.hid hlf
 have HLE := Lib.hid hle
 have HP := Lib.hid hparts
 have hs8 : w1.heap.size = W.heap.size + 1 := by rw [← hw1]; simp
 have HSZ := Lib.hid hs8
 clear hs1 hw1 hd hI hlf hle hv hN hB1 hs8 fin hall hall2 hold
 simp only [List.append_toArray, List.nil_append, List.cons_append]
 by_cases hk2 : x.kind = 2
 ·have hcl : clashesB c d n x.a x.b x.many = true := by
   have := HLF.out
   unfold leafB at this
   rwa [if_pos hk2] at this
  simp only [clashesB, Bool.and_eq_true] at hcl
  obtain ⟨⟨p, hp, hpn⟩, ⟨q, hq, hqn⟩, -⟩ := same_in hcl.1
  have hids : idsS c d n x = causeS c p q := by simp only [idsS, if_pos hk2, hp, hq, Int.toNat_natCast]
  rw [hids] at HFIN
  have hkb : (((x.kind : Nat) : Int) == 2) = true := by simp [hk2]
  have e0 := HS.out.cells
  rw [hp, hq] at e0
  clear hk2 hp hq hcl
  go_enter Tryz.func53, Tryz.ntmps53
  go_upto_region 1 with fail
  simp only [HW.out]
  go_upto_region 3 with fail
  obtain ⟨v, hv⟩ := HS.out.ev
  have HV := Lib.hid hv
  have hnn := hv.own (hv.not HS.out.node.node (by decide) (by decide))
  have hnx := hv.own (hv.not HS.out.br (by decide) (by decide))
  have hno : v.ownBlock ≠ some ob := fun e => by have := (hv.2.lt ob e).1; omega
  refine wp_region_L (fun A => Keep (fun k => k < w1.heap.size ∧ v.ownBlock ≠ some k) w1 A) 11 (by kernel_rfl) ?_
  have hSS : Keep (fun k => k < w1.heap.size ∧ v.ownBlock ≠ some k) w1 w1.drew := (Keep.refl _ w1).drew
  have k0 : ∀ A, Keep (fun k => k < w1.heap.size ∧ v.ownBlock ≠ some k) w1 A → A.cell? ⟨ob, 0, none⟩ = some v ∧ A.cell? ⟨nb, 0, none⟩ = some (.pointer (some ⟨bb, 0, none⟩)) ∧ A.cell? ⟨W.heap.size, 1, none⟩ = some (.int .i64 (p : Int)) ∧ A.cell? ⟨W.heap.size, 2, none⟩ = some (.int .i64 (q : Int)) := fun A hA =>
   ⟨hA.cell ⟨HV.out.1.lt, hno⟩ (HV.out.1.cell 0), hA.cell ⟨HS.out.node.node.lt, hnn⟩ (node_ptr HS.out.node.node), hA.cell ⟨HS.out.br.lt, hnx⟩ (e0 1), hA.cell ⟨HS.out.br.lt, hnx⟩ (e0 2)⟩
  have K0 := Lib.hid k0
  clear k0 hv e0
  refine anyL_take (i := 0) (v := ?_) (by kernel_rfl) rfl (by kernel_rfl) (by kernel_rfl) (by kernel_rfl) (by kernel_rfl) (fun _ _ _ h => h) (by rfl) ?_ hSS ?_
  rotate_left
  ·(intro W hW; obtain ⟨q0, q1, q2, q3⟩ := K0.out W hW; go_simp; try with_reducible rfl)
  try (dsimp only); try simp only [Act.put, List.setIfInBounds_toArray, List.set_cons_zero, List.set_cons_succ]
  refine anyL_take (i := 1) (v := ?_) (by kernel_rfl) rfl (by kernel_rfl) (by kernel_rfl) (by kernel_rfl) (by kernel_rfl) (fun _ _ _ h => h) (by rfl) ?_ hSS ?_
  rotate_left
  ·(intro W hW; obtain ⟨q0, q1, q2, q3⟩ := K0.out W hW; go_simp; try with_reducible rfl)
  try (dsimp only); try simp only [Act.put, List.setIfInBounds_toArray, List.set_cons_zero, List.set_cons_succ]
  refine anyL_take (i := 2) (v := ?_) (by kernel_rfl) rfl (by kernel_rfl) (by kernel_rfl) (by kernel_rfl) (by kernel_rfl) (fun _ _ _ h => h) (by rfl) ?_ hSS ?_
  rotate_left
  ·(intro W hW; obtain ⟨q0, q1, q2, q3⟩ := K0.out W hW; go_simp; try with_reducible rfl)
  try (dsimp only); try simp only [Act.put, List.setIfInBounds_toArray, List.set_cons_zero, List.set_cons_succ]
  refine anyL_take (i := 3) (v := ?_) (by kernel_rfl) rfl (by kernel_rfl) (by kernel_rfl) (by kernel_rfl) (by kernel_rfl) (fun _ _ _ h => h) (by rfl) ?_ hSS ?_
  rotate_left
  ·(intro W hW; obtain ⟨q0, q1, q2, q3⟩ := K0.out W hW; go_simp; try with_reducible rfl)
  try (dsimp only); try simp only [Act.put, List.setIfInBounds_toArray, List.set_cons_zero, List.set_cons_succ]
  refine anyL_take (i := 4) (v := ?_) (by kernel_rfl) rfl (by kernel_rfl) (by kernel_rfl) (by kernel_rfl) (by kernel_rfl) (fun _ _ _ h => h) (by rfl) ?_ hSS ?_
  rotate_left
  ·(intro W hW; obtain ⟨q0, q1, q2, q3⟩ := K0.out W hW; go_simp; try with_reducible rfl)
  try (dsimp only); try simp only [Act.put, List.setIfInBounds_toArray, List.set_cons_zero, List.set_cons_succ]
  refine anyL_take (i := 5) (v := ?_) (by kernel_rfl) rfl (by kernel_rfl) (by kernel_rfl) (by kernel_rfl) (by kernel_rfl) (fun _ _ _ h => h) (by rfl) ?_ hSS ?_
  rotate_left
  ·(intro W hW; obtain ⟨q0, q1, q2, q3⟩ := K0.out W hW; go_simp; try with_reducible rfl)
  try (dsimp only); try simp only [Act.put, List.setIfInBounds_toArray, List.set_cons_zero, List.set_cons_succ]
  refine anyL_take (i := 6) (v := ?_) (by kernel_rfl) rfl (by kernel_rfl) (by kernel_rfl) (by kernel_rfl) (by kernel_rfl) (fun _ _ _ h => h) (by rfl) ?_ hSS ?_
  rotate_left
  ·(intro W hW; obtain ⟨q0, q1, q2, q3⟩ := K0.out W hW; go_simp; try with_reducible rfl)
  try (dsimp only); try simp only [Act.put, List.setIfInBounds_toArray, List.set_cons_zero, List.set_cons_succ]
  refine anyL_take (i := 7) (v := ?_) (by kernel_rfl) rfl (by kernel_rfl) (by kernel_rfl) (by kernel_rfl) (by kernel_rfl) (fun _ _ _ h => h) (by rfl) ?_ hSS ?_
  rotate_left
  ·(intro W hW; obtain ⟨q0, q1, q2, q3⟩ := K0.out W hW; go_simp; try with_reducible rfl)
  try (dsimp only); try simp only [Act.put, List.setIfInBounds_toArray, List.set_cons_zero, List.set_cons_succ]
  refine anyL_take (i := 8) (v := ?_) (by kernel_rfl) rfl (by kernel_rfl) (by kernel_rfl) (by kernel_rfl) (by kernel_rfl) (fun _ _ _ h => h) (by rfl) ?_ hSS ?_
  rotate_left
  ·(intro W hW; obtain ⟨q0, q1, q2, q3⟩ := K0.out W hW; go_simp; try with_reducible rfl)
  try (dsimp only); try simp only [Act.put, List.setIfInBounds_toArray, List.set_cons_zero, List.set_cons_succ]
  have hcs := causes_any c (by omega) bb p q pa pc w1.drew (HS.out.node.ben) HS.out.node.parts (by omega) (by omega)
  refine anyL_call (i := 9) (f := 54) (args := #[.pointer (some ⟨bb, 0, none⟩), .int .i64 (p : Int), .int .i64 (q : Int)]) rfl (by kernel_rfl) (by rfl) (by go_simp) hcs ?_
  rintro e w3 ⟨g, rfl, hi, hm, hb3⟩
  replace hb3 : Below w1.heap.size w1 w3 := (Below.refl _ w1).drew.trans hb3
  refine .inl ⟨_, rfl, .inr (Keep.of_below' hb3), ?_⟩
  try (dsimp only); try simp only [Act.put, List.setIfInBounds_toArray, List.set_cons_zero, List.set_cons_succ]
  have hlen : (evS c n ev).length + 2 ≤ 1000000 := by have := HLE.out; omega
  obtain ⟨cap, hcap⟩ : ∃ cap : Nat, 2 = cap := ⟨_, rfl⟩
  have hv3 := HV.out.below hb3
  obtain ⟨v', U, hrun, hbU, hvU, hkU, hKU⟩ := ev_push (cap := cap) hv3 (by omega) (by have := hb3.size; have := HSZ.out; omega) hm hi hlen
  have HST := Lib.hid ((HS.out.below hb3).push (by omega) HP.out hv3 hvU hkU)
  obtain ⟨z1, z2⟩ := hbU.rules
  obtain ⟨av, cv, hv', _, _⟩ := ownsRow_own hvU.2
  clear hv3 hvU hkU
  subst hv'
  simp only [List.length_append] at hrun HST
  subst hcap
  refine anyL_run (i := 10) (v := .slice av ((evS c n ev).length + (causeS c p q).length) cv) (w' := U) rfl (by kernel_rfl) (by rfl) ?_ (.inr ((Keep.of_below' hb3).trans (hKU.mono fun k hk => hk.2))) ?_
  ·refine exec_app (v := v) (u := .slice (some ⟨g, 0, none⟩) 2 2) _ _ 27 rfl (by rfl) (by rfl) ?_
   exact hrun
  try (dsimp only); try simp only [Act.put, List.setIfInBounds_toArray, List.set_cons_zero, List.set_cons_succ]
  refine anyL_skip (i := 11) (w' := U.setCell ⟨ob, 0, none⟩ (.slice av ((evS c n ev).length + (causeS c p q).length) cv)) rfl (by kernel_rfl) (by rfl) ?_ (.inl rfl) ?_
  ·go_simp
   try with_reducible rfl
  refine anyL_done (by kernel_rfl) ?_ _
  try (dsimp only); try simp only [Act.put, List.setIfInBounds_toArray, List.set_cons_zero, List.set_cons_succ]
  generalize U.setCell ⟨ob, 0, none⟩ (.slice av ((evS c n ev).length + (causeS c p q).length) cv) = w5 at *
  clear hrun hbU z1 z2 hi hb3 hKU hSS K0
  go_wp2_with fail
  go_end0
  obtain ⟨h1, h2⟩ := HFIN.out _ HST.out
  exact ⟨rfl, h1, h2.1, h2.2⟩
 have hkb2 : (((x.kind : Nat) : Int) == 2) = false := by simp; omega
 by_cases hk4 : x.kind = 4
 ·obtain ⟨hmb, hr⟩ := leaf_rise hk4 HLF.out
  have hm8 := rise_len hr
  have hkb4 : (((x.kind : Nat) : Int) == 4) = true := by simp [hk4]
  have hids : idsS c d n x = c.by_ :: manyS c d n (x.many.map Int.toNat) x.many.length := by simp only [idsS, if_neg hk2, if_pos hk4]
  rw [hids] at HFIN
  have HR := Lib.hid hr
  have e0 := HS.out.cells
  have eb : w1.cell? ⟨bb, 2, none⟩ = some (.int .i64 c.by_) := by rw [HS.out.node.ben.cell]; rfl
  clear hids hmb hr hk4
  go_enter Tryz.func53, Tryz.ntmps53
  go_upto_region 1 with fail
  simp only [HW.out]
  go_upto_region 5 with fail
  obtain ⟨v, hv⟩ := HS.out.ev
  have HV := Lib.hid hv
  have hnn := hv.own (hv.not HS.out.node.node (by decide) (by decide))
  have hnb := hv.own (hv.not HS.out.node.ben (by decide) (by decide))
  have hno : v.ownBlock ≠ some ob := fun e => by have := (hv.2.lt ob e).1; omega
  refine wp_region_L (fun A => Keep (fun k => k < w1.heap.size ∧ v.ownBlock ≠ some k) w1 A) 11 (by kernel_rfl) ?_
  have hSS : Keep (fun k => k < w1.heap.size ∧ v.ownBlock ≠ some k) w1 w1.drew := (Keep.refl _ w1).drew
  have k0 : ∀ A, Keep (fun k => k < w1.heap.size ∧ v.ownBlock ≠ some k) w1 A → A.cell? ⟨ob, 0, none⟩ = some v ∧ A.cell? ⟨nb, 0, none⟩ = some (.pointer (some ⟨bb, 0, none⟩)) ∧ A.cell? ⟨bb, 2, none⟩ = some (.int .i64 c.by_) := fun A hA =>
   ⟨hA.cell ⟨HV.out.1.lt, hno⟩ (HV.out.1.cell 0), hA.cell ⟨HS.out.node.node.lt, hnn⟩ (node_ptr HS.out.node.node), hA.cell ⟨HS.out.node.ben.lt, hnb⟩ eb⟩
  have K0 := Lib.hid k0
  clear k0 hv e0 eb
  refine anyL_take (i := 0) (v := ?_) (by kernel_rfl) rfl (by kernel_rfl) (by kernel_rfl) (by kernel_rfl) (by kernel_rfl) (fun _ _ _ h => h) (by rfl) ?_ hSS ?_
  rotate_left
  ·(intro W hW; obtain ⟨q0, q1, q2⟩ := K0.out W hW; go_simp; try with_reducible rfl)
  try (dsimp only); try simp only [Act.put, List.setIfInBounds_toArray, List.set_cons_zero, List.set_cons_succ]
  refine anyL_take (i := 1) (v := ?_) (by kernel_rfl) rfl (by kernel_rfl) (by kernel_rfl) (by kernel_rfl) (by kernel_rfl) (fun _ _ _ h => h) (by rfl) ?_ hSS ?_
  rotate_left
  ·(intro W hW; obtain ⟨q0, q1, q2⟩ := K0.out W hW; go_simp; try with_reducible rfl)
  try (dsimp only); try simp only [Act.put, List.setIfInBounds_toArray, List.set_cons_zero, List.set_cons_succ]
  refine anyL_take (i := 2) (v := ?_) (by kernel_rfl) rfl (by kernel_rfl) (by kernel_rfl) (by kernel_rfl) (by kernel_rfl) (fun _ _ _ h => h) (by rfl) ?_ hSS ?_
  rotate_left
  ·(intro W hW; obtain ⟨q0, q1, q2⟩ := K0.out W hW; go_simp; try with_reducible rfl)
  try (dsimp only); try simp only [Act.put, List.setIfInBounds_toArray, List.set_cons_zero, List.set_cons_succ]
  refine anyL_take (i := 3) (v := ?_) (by kernel_rfl) rfl (by kernel_rfl) (by kernel_rfl) (by kernel_rfl) (by kernel_rfl) (fun _ _ _ h => h) (by rfl) ?_ hSS ?_
  rotate_left
  ·(intro W hW; obtain ⟨q0, q1, q2⟩ := K0.out W hW; go_simp; try with_reducible rfl)
  try (dsimp only); try simp only [Act.put, List.setIfInBounds_toArray, List.set_cons_zero, List.set_cons_succ]
  refine anyL_take (i := 4) (v := ?_) (by kernel_rfl) rfl (by kernel_rfl) (by kernel_rfl) (by kernel_rfl) (by kernel_rfl) (fun _ _ _ h => h) (by rfl) ?_ hSS ?_
  rotate_left
  ·(intro W hW; obtain ⟨q0, q1, q2⟩ := K0.out W hW; go_simp; try with_reducible rfl)
  try (dsimp only); try simp only [Act.put, List.setIfInBounds_toArray, List.set_cons_zero, List.set_cons_succ]
  refine anyL_take (i := 5) (v := ?_) (by kernel_rfl) rfl (by kernel_rfl) (by kernel_rfl) (by kernel_rfl) (by kernel_rfl) (fun _ _ _ h => h) (by rfl) ?_ hSS ?_
  rotate_left
  ·(intro W hW; obtain ⟨q0, q1, q2⟩ := K0.out W hW; go_simp; try with_reducible rfl)
  try (dsimp only); try simp only [Act.put, List.setIfInBounds_toArray, List.set_cons_zero, List.set_cons_succ]
  refine anyL_take (i := 6) (v := ?_) (by kernel_rfl) rfl (by kernel_rfl) (by kernel_rfl) (by kernel_rfl) (by kernel_rfl) (fun _ _ _ h => h) (by rfl) ?_ hSS ?_
  rotate_left
  ·(intro W hW; obtain ⟨q0, q1, q2⟩ := K0.out W hW; go_simp; try with_reducible rfl)
  try (dsimp only); try simp only [Act.put, List.setIfInBounds_toArray, List.set_cons_zero, List.set_cons_succ]
  refine anyL_take (i := 7) (v := ?_) (by kernel_rfl) rfl (by kernel_rfl) (by kernel_rfl) (by kernel_rfl) (by kernel_rfl) (fun _ _ _ h => h) (by rfl) ?_ hSS ?_
  rotate_left
  ·(intro W hW; obtain ⟨q0, q1, q2⟩ := K0.out W hW; go_simp; try with_reducible rfl)
  try (dsimp only); try simp only [Act.put, List.setIfInBounds_toArray, List.set_cons_zero, List.set_cons_succ]
  refine anyL_take (i := 8) (v := ?_) (by kernel_rfl) rfl (by kernel_rfl) (by kernel_rfl) (by kernel_rfl) (by kernel_rfl) (fun _ _ _ h => h) (by rfl) ?_ hSS ?_
  rotate_left
  ·(intro W hW; obtain ⟨q0, q1, q2⟩ := K0.out W hW; go_simp; try with_reducible rfl)
  try (dsimp only); try simp only [Act.put, List.setIfInBounds_toArray, List.set_cons_zero, List.set_cons_succ]
  have hb3 : Below w1.heap.size w1 (w1.drew.alloc (.cells #[.int .i64 c.by_] 3)) := (Below.refl _ w1).drew.alloc (Nat.le_refl _) _
  have hi : Ints (w1.drew.alloc (.cells #[.int .i64 c.by_] 3)) (some ⟨w1.heap.size, 0, none⟩) [c.by_] := ints_single (Box.new w1.drew _ _)
  refine anyL_run (i := 9) (v := .slice (some ⟨w1.heap.size, 0, none⟩) 1 1) (w' := w1.drew.alloc (.cells #[.int .i64 c.by_] 3)) rfl (by kernel_rfl) (by rfl) ?_ (.inr (Keep.of_below' hb3)) ?_
  ·go_simp
   try with_reducible rfl
  try (dsimp only); try simp only [Act.put, List.setIfInBounds_toArray, List.set_cons_zero, List.set_cons_succ]
  generalize w1.drew.alloc (.cells #[.int .i64 c.by_] 3) = w3 at *
  have hlen : (evS c n ev).length + 1 ≤ 1000000 := by have := HLE.out; omega
  have hm : [c.by_].length = 1 := rfl
  obtain ⟨cap, hcap⟩ : ∃ cap : Nat, 1 = cap := ⟨_, rfl⟩
  have hv3 := HV.out.below hb3
  obtain ⟨v', U, hrun, hbU, hvU, hkU, hKU⟩ := ev_push (cap := cap) hv3 (by omega) (by have := hb3.size; have := HSZ.out; omega) hm hi hlen
  have HST := Lib.hid ((HS.out.below hb3).push (by omega) HP.out hv3 hvU hkU)
  obtain ⟨z1, z2⟩ := hbU.rules
  obtain ⟨av, cv, hv', _, _⟩ := ownsRow_own hvU.2
  clear hv3 hvU hkU
  subst hv'
  simp only [List.length_append] at hrun HST
  subst hcap
  refine anyL_run (i := 10) (v := .slice av ((evS c n ev).length + [c.by_].length) cv) (w' := U) rfl (by kernel_rfl) (by rfl) ?_ (.inr ((Keep.of_below' hb3).trans (hKU.mono fun k hk => hk.2))) ?_
  ·refine exec_app (v := v) (u := .slice (some ⟨w1.heap.size, 0, none⟩) 1 1) _ _ 27 rfl (by rfl) (by rfl) ?_
   exact hrun
  try (dsimp only); try simp only [Act.put, List.setIfInBounds_toArray, List.set_cons_zero, List.set_cons_succ]
  refine anyL_skip (i := 11) (w' := U.setCell ⟨ob, 0, none⟩ (.slice av ((evS c n ev).length + [c.by_].length) cv)) rfl (by kernel_rfl) (by rfl) ?_ (.inl rfl) ?_
  ·go_simp
   try with_reducible rfl
  refine anyL_done (by kernel_rfl) ?_ _
  try (dsimp only); try simp only [Act.put, List.setIfInBounds_toArray, List.set_cons_zero, List.set_cons_succ]
  generalize U.setCell ⟨ob, 0, none⟩ (.slice av ((evS c n ev).length + [c.by_].length) cv) = w5 at *
  clear hrun hbU z1 z2 hi hb3 hKU hSS K0 HV HS HW hnn hnb hno hm hlen
  have e0 := HST.out.cells
  go_wp2_with fail
  go_loopw [40] (fun iv wr => ∃ i : Nat, i ≤ x.many.length ∧ iv = .int .i64 i ∧ UseSt c pa pc d bb nb w0 N ob x ma mc W (evS c n ev ++ (c.by_ :: manyS c d n (x.many.map Int.toNat) i)) wr) (fun iv _ => x.many.length - (intOf iv).toNat)
  case atStart => exact ⟨0, Nat.zero_le _, rfl, HST.out⟩
  case round =>
   clear HST e0
   obtain ⟨i, hi, rfl, hst⟩ := hrel
   have HS := Lib.hid hst
   have e0 := hst.cells
   by_cases hil : i < x.many.length
   ·obtain ⟨mb, mo, hma, hc⟩ := (HI.out.below hst.old).base (by omega)
    subst hma
    obtain ⟨hq, hqn⟩ := rise_val HR.out hil hil
    have q1 := hc _ _ hq
    have hmi : (i : Int) ≤ (mc : Int) := by omega
    have hin : (i : Int) < (x.many.length : Int) := by omega
    obtain ⟨q, hqq⟩ : ∃ q, nth (x.many.map Int.toNat) i = q := ⟨_, rfl⟩
    rw [hqq] at hqn q1
    have HQ := Lib.hid hqq
    clear hst hc hq hqq
    go_wp2_with fail
    clear e0 q1
    go_loopw [50] (fun jv wr => ∃ j : Nat, j ≤ i ∧ jv = .int .i64 j ∧ UseSt c pa pc d bb nb w0 N ob x (some ⟨mb, mo, none⟩) mc W (evS c n ev ++ (c.by_ :: (manyS c d n (x.many.map Int.toNat) i ++ rowS c d n (x.many.map Int.toNat) i j))) wr) (fun jv _ => i - (intOf jv).toNat)
    case atStart => exact ⟨0, Nat.zero_le _, rfl, by simpa [rowS] using HS.out⟩
    case round =>
     clear HS
     obtain ⟨j, hj, rfl, hst⟩ := hrel
     have HS := Lib.hid hst
     by_cases hjl : j < i
     ·obtain ⟨mb', mo', hme, hc⟩ := (HI.out.below hst.old).base (by omega)
      cases hme
      obtain ⟨hp, hpn⟩ := rise_val HR.out (show j < x.many.length by omega) (by omega)
      have q1 := hc _ _ hp
      have hjn : (j : Int) < (i : Int) := by omega
      obtain ⟨p, hpp⟩ : ∃ p, nth (x.many.map Int.toNat) j = p := ⟨_, rfl⟩
      rw [hpp] at hpn q1
      have hro : rowS c d n (x.many.map Int.toNat) i (j + 1) = rowS c d n (x.many.map Int.toNat) i j ++ betS c d n p q := by rw [rowS_succ, hpp, HQ.out]
      have hbl := bet_len (c := c) (d := d) hn (by omega) p q
      have hml := manyS_len (c := c) (d := d) hn (by omega) (x.many.map Int.toNat) i
      have hrl := rowS_len (c := c) (d := d) hn (by omega) (x.many.map Int.toNat) i j
      have hii : i * i ≤ 8 * 8 := Nat.mul_le_mul (by omega) (by omega)
      have HBT := Lib.hid (fun W hN => between_any c n hn hn8 pa pc d HD.out bb nb p q hpn hqn W hN)
      have HRO := Lib.hid hro
      obtain ⟨xs, hxs⟩ : ∃ xs, evS c n ev ++ (c.by_ :: (manyS c d n (x.many.map Int.toNat) i ++ rowS c d n (x.many.map Int.toNat) i j)) = xs := ⟨_, rfl⟩
      have hxl : xs.length + (betS c d n p q).length ≤ 1000000 := by
       rw [← hxs]; simp only [List.length_append, List.length_cons]; have := HLE.out; omega
      rw [hxs] at HS
      have HXS := Lib.hid hxs
      have HXL := Lib.hid hxl
      clear hst hc hp hpp hro hbl hml hrl hii hxs hxl
      go_upto_region 12 with fail
      clear q1
      obtain ⟨v, hv⟩ := HS.out.ev
      have HV := Lib.hid hv
      have hno : v.ownBlock ≠ some ob := fun e => by have := (hv.2.lt ob e).1; omega
      refine wp_region_L (fun A => Keep (fun k => k < wr.heap.size ∧ v.ownBlock ≠ some k) wr A) 6 (by kernel_rfl) ?_
      have hSS : Keep (fun k => k < wr.heap.size ∧ v.ownBlock ≠ some k) wr wr.drew := (Keep.refl _ wr).drew
      have k0 : ∀ A, Keep (fun k => k < wr.heap.size ∧ v.ownBlock ≠ some k) wr A → A.cell? ⟨ob, 0, none⟩ = some v := fun A hA => hA.cell ⟨HV.out.1.lt, hno⟩ (HV.out.1.cell 0)
      have K0 := Lib.hid k0
      clear k0 hv
      refine anyL_take (i := 0) (v := ?_) (by kernel_rfl) rfl (by kernel_rfl) (by kernel_rfl) (by kernel_rfl) (by kernel_rfl) (fun _ _ _ h => h) (by rfl) ?_ hSS ?_
      rotate_left
      ·(intro W hW; have q0 := K0.out W hW; go_simp; try with_reducible rfl)
      try (dsimp only); try simp only [Act.put, List.setIfInBounds_toArray, List.set_cons_zero, List.set_cons_succ]
      refine anyL_take (i := 1) (v := ?_) (by kernel_rfl) rfl (by kernel_rfl) (by kernel_rfl) (by kernel_rfl) (by kernel_rfl) (fun _ _ _ h => h) (by rfl) ?_ hSS ?_
      rotate_left
      ·(intro W hW; have q0 := K0.out W hW; go_simp; try with_reducible rfl)
      try (dsimp only); try simp only [Act.put, List.setIfInBounds_toArray, List.set_cons_zero, List.set_cons_succ]
      refine anyL_take (i := 2) (v := ?_) (by kernel_rfl) rfl (by kernel_rfl) (by kernel_rfl) (by kernel_rfl) (by kernel_rfl) (fun _ _ _ h => h) (by rfl) ?_ hSS ?_
      rotate_left
      ·(intro W hW; have q0 := K0.out W hW; go_simp; try with_reducible rfl)
      try (dsimp only); try simp only [Act.put, List.setIfInBounds_toArray, List.set_cons_zero, List.set_cons_succ]
      refine anyL_take (i := 3) (v := ?_) (by kernel_rfl) rfl (by kernel_rfl) (by kernel_rfl) (by kernel_rfl) (by kernel_rfl) (fun _ _ _ h => h) (by rfl) ?_ hSS ?_
      rotate_left
      ·(intro W hW; have q0 := K0.out W hW; go_simp; try with_reducible rfl)
      try (dsimp only); try simp only [Act.put, List.setIfInBounds_toArray, List.set_cons_zero, List.set_cons_succ]
      have hcs := HBT.out wr.drew (HS.out.node.below (Below.refl _ wr).drew)
      refine anyL_call (i := 4) (f := 55) (args := #[.pointer (some ⟨nb, 0, none⟩), .int .i64 (p : Int), .int .i64 (q : Int)]) rfl (by kernel_rfl) (by rfl) (by go_simp) hcs ?_
      rintro e w3 ⟨g, cap, rfl, hi2, hb3⟩
      replace hb3 : Below wr.heap.size wr w3 := (Below.refl _ wr).drew.trans hb3
      refine .inl ⟨_, rfl, .inr (Keep.of_below' hb3), ?_⟩
      try (dsimp only); try simp only [Act.put, List.setIfInBounds_toArray, List.set_cons_zero, List.set_cons_succ]
      obtain ⟨m, hmm⟩ : ∃ m, betS c d n p q = m := ⟨_, rfl⟩
      have hv3 := HV.out.below hb3
      have hxl := HXL.out
      rw [hmm] at hi2 hxl HRO
      simp only [hmm]
      obtain ⟨v', U, hrun, hbU, hvU, hkU, hKU⟩ := ev_push (cap := cap) hv3 (by omega) (by have := hb3.size; have := HS.out.kept.1.size; omega) rfl hi2 hxl
      have HST := Lib.hid ((HS.out.below hb3).push (by omega) HP.out hv3 hvU hkU)
      obtain ⟨z1, z2⟩ := hbU.rules
      obtain ⟨av, cv, hv', _, _⟩ := ownsRow_own hvU.2
      clear hv3 hvU hkU
      subst hv'
      rw [List.length_append] at hrun HST
      refine anyL_run (i := 5) (v := .slice av (xs.length + m.length) cv) (w' := U) rfl (by kernel_rfl) (by rfl) ?_ (.inr ((Keep.of_below' hb3).trans (hKU.mono fun k hk => hk.2))) ?_
      ·refine exec_app (v := v) (u := .slice g m.length cap) _ _ 27 rfl (by rfl) (by rfl) ?_
       exact hrun
      try (dsimp only); try simp only [Act.put, List.setIfInBounds_toArray, List.set_cons_zero, List.set_cons_succ]
      refine anyL_skip (i := 6) (w' := U.setCell ⟨ob, 0, none⟩ (.slice av (xs.length + m.length) cv)) rfl (by kernel_rfl) (by rfl) ?_ (.inl rfl) ?_
      ·go_simp
       try with_reducible rfl
      refine anyL_done (by kernel_rfl) ?_ _
      try (dsimp only); try simp only [Act.put, List.setIfInBounds_toArray, List.set_cons_zero, List.set_cons_succ]
      generalize U.setCell ⟨ob, 0, none⟩ (.slice av (xs.length + m.length) cv) = w5 at *
      clear hrun hbU z1 z2 hi2 hb3 hKU hSS K0 HV HS hno hmm hxl HBT
      go_wp2_with fail
      go_roundw
      case rel => exact ⟨j + 1, by omega, by go_num, by rw [HRO.out]; have := HST.out; rw [← HXS.out] at this; simpa using this⟩
      case measure => simp [intOf]; omega
     ·have hje : j = i := by omega
      subst hje
      have HMS := Lib.hid (manyS_succ (c := c) (d := d) (n := n) (x.many.map Int.toNat) j)
      clear hst
      go_wp2_with fail
      go_roundw
      case rel => exact ⟨j + 1, by omega, by go_num, by rw [HMS.out]; exact HS.out⟩
      case measure => simp [intOf]; omega
   ·have hie : i = x.many.length := by omega
    subst hie
    clear hst
    go_wp2_with fail
    go_end0
    obtain ⟨h1, h2⟩ := HFIN.out _ HS.out
    exact ⟨rfl, h1, h2.1, h2.2⟩
 ·have hkb4 : (((x.kind : Nat) : Int) == 4) = false := by simp; omega
  have hids : idsS c d n x = [] := by simp only [idsS, if_neg hk2, if_neg hk4]
  rw [hids, List.append_nil] at HFIN
  have e0 := HS.out.cells
  go_enter Tryz.func53, Tryz.ntmps53
  go_upto_region 1 with fail
  simp only [HW.out]
  go_wp2_with fail
  go_end0
  obtain ⟨h1, h2⟩ := HFIN.out _ HS.out
  exact ⟨rfl, h1, h2.1, h2.2⟩
end Go.Proofs.YtpjcnkajimgagaaGreat
