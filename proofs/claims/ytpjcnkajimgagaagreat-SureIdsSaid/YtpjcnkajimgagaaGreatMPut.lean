/- refute$1$1, whole. -/
/- refute$1: the parts are put to classes. -/
import Derived.Test.YtpjcnkajimgagaaGreatMTry
set_option linter.unusedSimpArgs false
set_option linter.unusedVariables false
namespace Go.Proofs.YtpjcnkajimgagaaGreat
open Go.RowKit
attribute [local go_sem] Oper.semAt_some

section
variable {c : Cs} {pa : Option Addr} {pc bb N : Nat} {oa : Option Addr} {oc : Nat} {order : List Nat} {w0 : World} {l l' : List Br} {W W' : World}
theorem RfSt.next (h : RfSt c pa pc bb N oa oc order w0 l W) (hk : RfKeep (N + 3) W W') {v : Value} (ho : OutV (N + 5) (N + 3) W' v l') (hN : w0.heap.size = N) (hbb : bb < N) : RfSt c pa pc bb N oa oc order w0 l' W' := by
 obtain ⟨u, hu⟩ := h.out
 refine ⟨h.old.trans ((hk.1.mono fun k (hlt : k < w0.heap.size) => ⟨by omega, fun hb => by have := (hu.blk hb).1; omega⟩).below h.old.size), ((h.stay h.ben (by omega) (by omega)).keep hk).1, ((h.stay h.bx (by omega) (by omega)).keep hk).1, ((h.stay h.ord (by omega) (by omega)).keep hk).1, ((h.stay h.put (by omega) (by omega)).keep hk).1, v, ho⟩
end
theorem tryM_opp {c : Cs} {n : Nat} {f : Dec → List Nat → Option (List Br)} {p q : Nat} {reps left : List Nat} {d : Dec} (h : oppB c d n q p = true) : tryM c n f p reps (q :: left) d = tryM c n f p reps left d := by simp [tryM, h]
theorem tryM_no {c : Cs} {n : Nat} {f : Dec → List Nat → Option (List Br)} {p q : Nat} {reps left : List Nat} {d : Dec} (h : oppB c d n q p = false) (h1 : f (decWith d q p 1) reps = none) : tryM c n f p reps (q :: left) d = none := by simp [tryM, h, h1]
theorem tryM_no2 {c : Cs} {n : Nat} {f : Dec → List Nat → Option (List Br)} {p q : Nat} {reps left : List Nat} {d : Dec} {a : List Br} (h : oppB c d n q p = false) (h1 : f (decWith d q p 1) reps = some a) (h2 : tryM c n f p reps left (decWith d q p 2) = none) : tryM c n f p reps (q :: left) d = none := by simp [tryM, h, h1, h2]
theorem tryM_yes {c : Cs} {n : Nat} {f : Dec → List Nat → Option (List Br)} {p q : Nat} {reps left : List Nat} {d : Dec} {a b : List Br} (h : oppB c d n q p = false) (h1 : f (decWith d q p 1) reps = some a) (h2 : tryM c n f p reps left (decWith d q p 2) = some b) : tryM c n f p reps (q :: left) d = some (brSplit q p :: (a ++ b)) := by simp [tryM, h, h1, h2]

set_option maxRecDepth 100000 in
set_option maxHeartbeats 2000000 in
theorem try_any {c : Cs} {pa : Option Addr} {pc bb N : Nat} {oa : Option Addr} {oc : Nat} {order : List Nat} {w0 : World} {rest reps : List Nat} {rb pvb kb tb p k : Nat} {ra : Option Addr} {rc : Nat} (hn8 : c.parts.length ≤ 8) (hparts : PartsAt w0 pa c.parts) (hN : w0.heap.size = N) (hbb : bb < N)
  (ih : PutOk c pa pc bb N oa oc order w0 rest) (hdrop : order.drop (k + 1) = rest) (hk : k + 1 ≤ order.length) (ho8 : order.length ≤ 8) (hreps : ∀ x ∈ reps, x < c.parts.length) (hp : p < c.parts.length) (hrl : reps.length + 1 + rest.length ≤ 8) (hrc : reps.length ≤ rc) :
  ∀ (left : List Nat) (d : Dec) (l : List Br) (la : Option Addr) (lc : Nat) (W : World), (∀ a b, d a b ≤ 3) → (∀ x ∈ left, x < c.parts.length) → left.length ≤ 8 → left.length ≤ lc → l.length + (left.length * (1 + bnd rest.length reps.length) + bnd rest.length (reps.length + 1)) ≤ 100000 →
  RfSt c pa pc bb N oa oc order w0 l W → TryEnv N rb pvb kb tb reps p k ra rc W → StayInts (N + 3) W la (natInts left) →
  Calls Tryz.prog 107 (#[.agg (decCells d), .slice la left.length lc] ++ tryCaps N rb pvb kb tb) W (RfPost c pa pc bb N oa oc order w0 (tryM c c.parts.length (putM c c.parts.length rest) p reps left d) l W)
 | [], d, l, la, lc, W, hd, _, _, _, hl, hst, henv, _ => try_nil hn8 hparts ih hdrop hk ho8 hreps hp hrl hrc d l la lc W hd (by simpa using hl) hst henv
 | q :: left, d, l, la, lc, W, hd, hlx, hl8, hlc, hl, hst, henv, hli => by
  obtain ⟨lb, lo, hla, _⟩ := hli.1 0 (.int .i64 q) rfl
  subst hla
  have hq : q < c.parts.length := hlx q (by simp)
  rw [List.length_cons, Nat.succ_mul] at hl
  simp only [List.length_cons] at hl8 hlc ⊢
  obtain ⟨w1, hw1⟩ : ∃ w1, W.alloc (.cells (decCells d) 104) = w1 := ⟨_, rfl⟩
  have hB1 : Below W.heap.size W w1 := by rw [← hw1]; exact (Below.refl _ _).alloc (Nat.le_refl _) _
  have hD1 : Box w1 W.heap.size (decCells d) 104 := by rw [← hw1]; exact Box.new _ _ _
  have hst1 := hst.below hB1
  have hL := run_load_row (P := Tryz.prog) hD1 Tryz.underlying104 rfl (dec_info _)
  have hds := decCells_size d
  have e1 := hst1.bx.cell
  have hB2 : Below w1.heap.size w1 (w1.alloc (.cells (nodeCells bb d) 109)) := (Below.refl _ _).alloc (Nat.le_refl _) _
  have hbd : Box (w1.alloc (.cells (nodeCells bb d) 109)) W.heap.size (decCells d) 104 := hD1.below' hB2
  have hst2 := hst1.below hB2
  have hnode : NodeAt c pa pc d bb w1.heap.size (w1.alloc (.cells (nodeCells bb d) 109)) := ⟨hst2.ben, Box.new _ _ _, hparts.below hst2.old⟩
  have hB12 := hB1.trans (hB2.mono hB1.size)
  have hdb := hst.newBox hB12 hbd (Nat.le_refl _)
  have kp := hst.kept hB12
  have hen2 := henv.keep kp
  have hli2 := hli.keep kp
  have HW := Lib.hid hw1
  have HIH := Lib.hid ih
  have HKP := Lib.hid kp
  have HLE := Lib.hid hl
  have HDR := Lib.hid hdrop
  have HD := Lib.hid hd
  have HDB := Lib.hid hdb
  have HND := Lib.hid hnode
  have HLX := Lib.hid hlx
  have h1l : (1 : Int) ≤ (left.length : Int) + 1 := by omega
  have hz0 : ((((left.length + 1 : Nat) : Int)) == 0) = false := by simp; omega
  clear hw1 hB1 hD1 hst hst1 henv ih kp hl hdrop hd hB2 hdb hnode hbd hB12 hli hlx
  simp only [tryCaps, List.append_toArray, List.nil_append, List.cons_append]
  go_enter Tryz.func107, Tryz.ntmps107
  go_upto_region 1 with fail
  simp only [HW.out]
  go_upto_region 2 with (refine wpList_load_box rfl 104 _ rfl rfl hL ?_)
  simp only [node_built]
  clear hL e1
  generalize w1.alloc (.cells (nodeCells bb d) 109) = w2 at *
  go_upto_region 4 with fail
  clear hz0
  have q1 : w2.cell? ⟨lb, lo, none⟩ = some (.int .i64 q) := by
   obtain ⟨b', o', h1, h2⟩ := hli2.1 0 (.int .i64 q) rfl
   cases h1; exact h2
  have q2 : w2.cell? ⟨pvb, 0, none⟩ = some (.int .i64 p) := hen2.part.1.cell 0
  have HS2 := Lib.hid hst2
  have HEN := Lib.hid hen2
  have HLI := Lib.hid hli2
  clear hst2 hen2 hli2
  rcases hop : oppB c d c.parts.length q p with _ | _
  ·have hcall : ∀ A, Below w2.heap.size w2 A → Calls Tryz.prog 108 #[.pointer (some ⟨w1.heap.size, 0, none⟩), .int .i64 q, .int .i64 p] A fun e A' => e = .returned (.bool false) ∧ Below A.heap.size A A' := fun A hA => by
    have := opposed_any c c.parts.length rfl hn8 pa pc d HD.out bb w1.heap.size q p hq hp A (HND.out.below hA)
    rwa [hop] at this
   have HCL := Lib.hid hcall
   have HOP := Lib.hid hop
   clear hcall hop
   refine wp_region_heldB 6 [] (by kernel_rfl) (by kernel_rfl) (by kernel_rfl) (by simp) ?_
   intro S hS
   have k0 : ∀ A, S A → A.cell? ⟨lb, lo, none⟩ = some (.int .i64 q) ∧ A.cell? ⟨pvb, 0, none⟩ = some (.int .i64 p) := fun A h => ⟨below_cell (hS A h) q1, below_cell (hS A h) q2⟩
   have K0 := Lib.hid k0
   have HS := Lib.hid hS
   clear k0 hS q1 q2
   simp only [List.take_succ_cons, List.take_zero, List.drop_succ_cons, List.drop_zero]
   repeat (first
    | (refine held_not rfl (by rfl) ?_; try (dsimp only); try simp only [Act.put, List.setIfInBounds_toArray, List.set_cons_zero, List.set_cons_succ])
    | (refine held_val (v := ?_) rfl (by rfl) ?_ ?_; rotate_left; (· (intro W hW; obtain ⟨q0, q1⟩ := K0.out W hW; go_simp; try with_reducible rfl)); try (dsimp only); try simp only [Act.put, List.setIfInBounds_toArray, List.set_cons_zero, List.set_cons_succ])
    | (refine held_skip rfl (by rfl) ?_ ?_; (· (intro W hW; obtain ⟨q0, q1⟩ := K0.out W hW; go_simp; try with_reducible rfl)); try (dsimp only); try simp only [Act.put, List.setIfInBounds_toArray, List.set_cons_zero, List.set_cons_succ])
    | (refine held_call (v := .bool false) (f := 108) (args := #[.pointer (some ⟨w1.heap.size, 0, none⟩), .int .i64 q, .int .i64 p]) rfl (by rfl) ?_ ?_ ?_; (· (intro W hW; go_simp; done)); (· exact (fun W hW => HCL.out W (HS.out W hW))); try (dsimp only); try simp only [Act.put, List.setIfInBounds_toArray, List.set_cons_zero, List.set_cons_succ]))
   refine held_nil ?_
   intro τ hτ w3 hW hO
   obtain rfl := laid0 hτ
   have hB3 := HS.out w3 hW
   clear hτ hO hW K0 HS
   simp only [overs, List.foldl_nil]
   have hs3 := HS2.out.below hB3
   have hk3 := HS2.out.kept hB3
   have he3 := HEN.out.keep hk3
   have hli3 := HLI.out.keep hk3
   have HDB3 := Lib.hid (HDB.out.keep hk3)
   have HK3 := Lib.hid (HKP.out.trans hk3)
   clear hB3
   go_upto_region 6 with fail
   -- the branch is put behind the list
   obtain ⟨vo, hvo⟩ := hs3.out
   have hsz3 : N + 5 ≤ w3.heap.size := hs3.sizeN
   refine wp_region_L (fun A => Keep (fun k => k < w3.heap.size ∧ vo.ownBlock ≠ some k) w3 A) 8 (by kernel_rfl) ?_
   have hSS : Keep (fun k => k < w3.heap.size ∧ vo.ownBlock ≠ some k) w3 w3.drew := (Keep.refl _ w3).drew
   have hnb : ∀ b, ¬ OutBlk (N + 3) w3 b → vo.ownBlock ≠ some b := fun b hb h => hb ⟨vo, hvo.box, h⟩
   have k0 : ∀ A, Keep (fun k => k < w3.heap.size ∧ vo.ownBlock ≠ some k) w3 A → A.cell? ⟨N + 3, 0, none⟩ = some vo ∧ A.cell? ⟨lb, lo, none⟩ = some (.int .i64 q) ∧ A.cell? ⟨pvb, 0, none⟩ = some (.int .i64 p) := fun A hA => by
    obtain ⟨b', o', h1, h2⟩ := hli3.1 0 (.int .i64 q) rfl
    cases h1
    refine ⟨hA.cell ⟨hvo.box.lt, fun h => by have := (hvo.blk ⟨vo, hvo.box, h⟩).1; omega⟩ (hvo.box.cell 0), hA.cell ⟨lt_of_cell h2, hnb _ (hli3.2 lb lo rfl (by simp [natInts])).2⟩ h2, hA.cell ⟨he3.part.1.lt, hnb _ he3.part.2.2⟩ (he3.part.1.cell 0)⟩
   have K0 := Lib.hid k0
   have HVO := Lib.hid hvo
   have HS3 := Lib.hid hs3
   have HE3 := Lib.hid he3
   have HLI3 := Lib.hid hli3
   clear k0 hvo hs3 he3 hk3 hli3 hnb
   refine anyL_take (i := 0) (v := ?_) (by kernel_rfl) rfl (by kernel_rfl) (by kernel_rfl) (by kernel_rfl) (by kernel_rfl) (fun _ _ _ h => h) (by rfl) ?_ hSS ?_
   rotate_left
   ·(intro W hW; obtain ⟨q0, q1, q2⟩ := K0.out W hW; go_simp; try with_reducible rfl)
   try (dsimp only); try simp only [Act.put, List.setIfInBounds_toArray, List.set_cons_zero, List.set_cons_succ]
   refine anyL_take (i := 1) (v := ?_) (by kernel_rfl) rfl (by kernel_rfl) (by kernel_rfl) (by kernel_rfl) (by kernel_rfl) (fun _ _ _ h => h) (by rfl) ?_ hSS ?_
   rotate_left
   ·(intro W hW; obtain ⟨q0, q1, q2⟩ := K0.out W hW; go_simp; try with_reducible rfl)
   try (dsimp only); try simp only [Act.put, List.setIfInBounds_toArray, List.set_cons_zero, List.set_cons_succ]
   refine anyL_take (i := 2) (v := ?_) (by kernel_rfl) rfl (by kernel_rfl) (by kernel_rfl) (by kernel_rfl) (by kernel_rfl) (fun _ _ _ h => h) (by rfl) ?_ hSS ?_
   rotate_left
   ·(intro W hW; obtain ⟨q0, q1, q2⟩ := K0.out W hW; go_simp; try with_reducible rfl)
   try (dsimp only); try simp only [Act.put, List.setIfInBounds_toArray, List.set_cons_zero, List.set_cons_succ]
   refine anyL_take (i := 3) (v := ?_) (by kernel_rfl) rfl (by kernel_rfl) (by kernel_rfl) (by kernel_rfl) (by kernel_rfl) (fun _ _ _ h => h) (by rfl) ?_ hSS ?_
   rotate_left
   ·(intro W hW; obtain ⟨q0, q1, q2⟩ := K0.out W hW; go_simp; try with_reducible rfl)
   try (dsimp only); try simp only [Act.put, List.setIfInBounds_toArray, List.set_cons_zero, List.set_cons_succ]
   refine anyL_take (i := 4) (v := ?_) (by kernel_rfl) rfl (by kernel_rfl) (by kernel_rfl) (by kernel_rfl) (by kernel_rfl) (fun _ _ _ h => h) (by rfl) ?_ hSS ?_
   rotate_left
   ·(intro W hW; obtain ⟨q0, q1, q2⟩ := K0.out W hW; go_simp; try with_reducible rfl)
   try (dsimp only); try simp only [Act.put, List.setIfInBounds_toArray, List.set_cons_zero, List.set_cons_succ]
   refine anyL_take (i := 5) (v := ?_) (by kernel_rfl) rfl (by kernel_rfl) (by kernel_rfl) (by kernel_rfl) (by kernel_rfl) (fun _ _ _ h => h) (by rfl) ?_ hSS ?_
   rotate_left
   ·(intro W hW; obtain ⟨q0, q1, q2⟩ := K0.out W hW; go_simp; try with_reducible rfl)
   try (dsimp only); try simp only [Act.put, List.setIfInBounds_toArray, List.set_cons_zero, List.set_cons_succ]
   have hb4 : Below w3.heap.size w3 (w3.drew.alloc (.cells #[.int .u8 1, .int .i64 q, .int .i64 p, .slice none 0 0] 69)) := (Below.refl _ w3).drew.alloc (Nat.le_refl _) _
   have hg4 : Box (w3.drew.alloc (.cells #[.int .u8 1, .int .i64 q, .int .i64 p, .slice none 0 0] 69)) w3.heap.size (brRow (brSplit q p, none, 0)).toArray 69 := Box.new w3.drew _ _
   refine anyL_run (i := 6) (v := .slice (some ⟨w3.heap.size, 0, none⟩) 1 1) (w' := w3.drew.alloc (.cells #[.int .u8 1, .int .i64 q, .int .i64 p, .slice none 0 0] 69)) rfl (by kernel_rfl) (by rfl) ?_ (.inr (Keep.of_below' hb4)) ?_
   ·go_simp
    try with_reducible rfl
   try (dsimp only); try simp only [Act.put, List.setIfInBounds_toArray, List.set_cons_zero, List.set_cons_succ]
   generalize w3.drew.alloc (.cells #[.int .u8 1, .int .i64 q, .int .i64 p, .slice none 0 0] 69) = w4 at *
   obtain ⟨v', U, hrun, hbU, hoU, hkU, hKU⟩ := out_push (z := (brSplit q p, none, 0)) (HVO.out.below hb4) (by omega) hg4 (by have := HLE.out; omega) (by have := hb4.size; omega) ⟨Ints.nil _ _, Nat.zero_le _, fun b o ha => by cases ha⟩
   have hoU' := hoU
   obtain ⟨zs, _, _, zown, _⟩ := hoU'
   obtain ⟨av, cv, hv', _, _⟩ := ownsRow_own zown
   clear zown
   subst hv'
   simp only [List.length_append, List.length_singleton] at hrun hoU hkU
   refine anyL_run (i := 7) (v := .slice av (l.length + 1) cv) (w' := U) rfl (by kernel_rfl) (by rfl) ?_ (.inr ((Keep.of_below' hb4).trans (hKU.mono fun k hk => hk.2))) ?_
   ·refine exec_app (v := vo) (u := .slice (some ⟨w3.heap.size, 0, none⟩) 1 1) _ _ 37 rfl (by rfl) (by rfl) ?_
    exact hrun
   try (dsimp only); try simp only [Act.put, List.setIfInBounds_toArray, List.set_cons_zero, List.set_cons_succ]
   obtain ⟨z1, z2⟩ := hbU.rules
   refine anyL_skip (i := 8) (w' := U.setCell ⟨N + 3, 0, none⟩ (.slice av (l.length + 1) cv)) rfl (by kernel_rfl) (by rfl) ?_ (.inl rfl) ?_
   ·go_simp
    try with_reducible rfl
   refine anyL_done (by kernel_rfl) ?_ _
   try (dsimp only); try simp only [Act.put, List.setIfInBounds_toArray, List.set_cons_zero, List.set_cons_succ]
   have hk5 := (HS3.out.kept hb4).trans hkU
   have hs5 := HS3.out.next hk5 hoU hN hbb
   have HE5 := Lib.hid (HE3.out.keep hk5)
   have HDB5 := Lib.hid (HDB3.out.keep hk5)
   have HLI5 := Lib.hid (HLI3.out.keep hk5)
   have HK5 := Lib.hid (HK3.out.trans hk5)
   have HS5 := Lib.hid hs5
   clear hk5 hs5 hoU hkU hKU hrun hbU z1 z2 hg4 hb4 hSS K0 HVO HS3 HE3 HLI3 HDB3 HK3
   generalize U.setCell ⟨N + 3, 0, none⟩ (.slice av (l.length + 1) cv) = w5 at *
   go_upto_region 7 with fail
   -- the pair is decided as one
   have t1 : w5.cell? ⟨N + 4, 0, none⟩ = some (.func (.func 106) #[] #[.pointer (some ⟨N, 0, none⟩), .pointer (some ⟨N + 3, 0, none⟩), .pointer (some ⟨N + 2, 0, none⟩), .pointer (some ⟨N + 4, 0, none⟩)]) := HS5.out.put.cell 0
   have t2 : w5.cell? ⟨lb, lo, none⟩ = some (.int .i64 q) := by
    obtain ⟨b', o', h1, h2⟩ := HLI5.out.1 0 (.int .i64 q) rfl
    cases h1; exact h2
   have t3 : w5.cell? ⟨pvb, 0, none⟩ = some (.int .i64 p) := HE5.out.part.1.cell 0
   have t4 : w5.cell? ⟨rb, 0, none⟩ = some (.slice ra reps.length rc) := HE5.out.rep.1.cell 0
   have t5 : w5.cell? ⟨kb, 0, none⟩ = some (.int .i64 k) := HE5.out.num.1.cell 0
   have hwk : IntKind.i64.wrap ((k : Int) + 1) = (k : Int) + 1 := IntWalk.i64_in _ (by omega)
   refine wp_region_heldB 10 [] (by kernel_rfl) (by kernel_rfl) (by kernel_rfl) (by simp) ?_
   intro S hS
   have k0 : ∀ A, S A → A.cell? ⟨N + 4, 0, none⟩ = some (.func (.func 106) #[] #[.pointer (some ⟨N, 0, none⟩), .pointer (some ⟨N + 3, 0, none⟩), .pointer (some ⟨N + 2, 0, none⟩), .pointer (some ⟨N + 4, 0, none⟩)]) ∧ A.cell? ⟨lb, lo, none⟩ = some (.int .i64 q) ∧ A.cell? ⟨pvb, 0, none⟩ = some (.int .i64 p) ∧ A.cell? ⟨rb, 0, none⟩ = some (.slice ra reps.length rc) ∧ A.cell? ⟨kb, 0, none⟩ = some (.int .i64 k) :=
    fun A h => ⟨below_cell (hS A h) t1, below_cell (hS A h) t2, below_cell (hS A h) t3, below_cell (hS A h) t4, below_cell (hS A h) t5⟩
   have kd : ∀ A, S A → (Instr.loadAt 104 (.pointer (some ⟨W.heap.size, 0, none⟩))).run Tryz.prog A = .ok (.agg (decCells d)) A := fun A h => run_load_row (HDB5.out.1.below' (hS A h)) Tryz.underlying104 rfl (dec_info _)
   have K0 := Lib.hid k0
   have KD := Lib.hid kd
   have HS := Lib.hid hS
   clear k0 kd hS t1 t2 t3 t4 t5
   simp only [List.take_succ_cons, List.take_zero, List.drop_succ_cons, List.drop_zero]
   repeat (first
    | (refine held_load 104 _ (by rfl) rfl rfl KD.out ?_; try (dsimp only); try simp only [Act.put, List.setIfInBounds_toArray, List.set_cons_zero, List.set_cons_succ])
    | (refine held_not rfl (by rfl) ?_; try (dsimp only); try simp only [Act.put, List.setIfInBounds_toArray, List.set_cons_zero, List.set_cons_succ])
    | (refine held_val (v := ?_) rfl (by rfl) ?_ ?_; rotate_left; (· (intro W hW; obtain ⟨q0, q1, q2, q3, q4⟩ := K0.out W hW; go_simp; try with_reducible rfl)); try (dsimp only); try simp only [Act.put, List.setIfInBounds_toArray, List.set_cons_zero, List.set_cons_succ])
    | (refine held_skip rfl (by rfl) ?_ ?_; (· (intro W hW; obtain ⟨q0, q1, q2, q3, q4⟩ := K0.out W hW; go_simp; try with_reducible rfl)); try (dsimp only); try simp only [Act.put, List.setIfInBounds_toArray, List.set_cons_zero, List.set_cons_succ])
    | (refine held_call (v := .agg (decCells (decWith d q p 1))) (f := 91) (args := #[.agg (decCells d), .int .i64 (q : Nat), .int .i64 (p : Nat), .int .u8 1]) rfl (by rfl) ?_ ?_ ?_; (· (intro W hW; go_simp; done)); (· exact (fun W hW => decWith_any d q p 1 W (by omega) (by omega) HD.out (by omega))); try (dsimp only); try simp only [Act.put, List.setIfInBounds_toArray, List.set_cons_zero, List.set_cons_succ]))
   refine held_nil ?_
   intro τ hτ w6 hW hO
   obtain rfl := laid0 hτ
   have hB6 := HS.out w6 hW
   have hk6 := HS5.out.kept hB6
   have hll : (l ++ [brSplit q p]).length = l.length + 1 := by simp
   have ih1 := HIH.out (decWith d q p 1) reps (k + 1) (l ++ [brSplit q p]) ra rc w6 HDR.out hk (decWith_le HD.out (by omega)) hreps (by omega) (by rw [hll]; have := HLE.out; omega) hrc (HS5.out.below hB6) (HE5.out.keep hk6).ints
   rw [show ((k + 1 : Nat) : Int) = (k : Int) + 1 by omega] at ih1
   simp only [putCaps, List.append_toArray, List.nil_append, List.cons_append] at ih1
   have IH1 := Lib.hid ih1
   have HE6 := Lib.hid (HE5.out.keep hk6)
   have HDB6 := Lib.hid (HDB5.out.keep hk6)
   have HLI6 := Lib.hid (HLI5.out.keep hk6)
   have HK6 := Lib.hid (HK5.out.trans hk6)
   clear hτ hO hW K0 KD HS hB6 hk6 ih1 HE5 HDB5 HLI5 HK5 HS5 hwk
   simp only [overs, List.foldl_nil]
   rcases hm1 : putM c c.parts.length rest (decWith d q p 1) reps with _ | x1
   ·have HM1 := Lib.hid hm1
    clear hm1
    go_wp2_with (go_at_call 106; (with_reducible refine IH1.out.mono ?_); rintro e w7 ⟨hk7, hm⟩; rw [HM1.out] at hm; subst hm; have HK7 := Lib.hid hk7; clear hk7)
    exact ⟨rfl, HK6.out.trans HK7.out, by rw [tryM_no HOP.out HM1.out]⟩
   ·have hx1 := putM_len _ _ _ _ hm1
    have HM1 := Lib.hid hm1
    clear hm1
    go_upto_region 8 with (go_at_call 106; (with_reducible refine IH1.out.mono ?_); rintro e w7 ⟨hk7, hm⟩; rw [HM1.out] at hm; obtain ⟨rfl, hs7⟩ := hm; have HK7 := Lib.hid (HK6.out.trans hk7); have HE7 := Lib.hid (HE6.out.keep hk7); have HDB7 := Lib.hid (HDB6.out.keep hk7); have HLI7 := Lib.hid (HLI6.out.keep hk7); have HS7 := Lib.hid hs7; clear hk7 hs7 HK6 HE6 HDB6 HLI6 IH1)
    -- the pair is decided as two
    obtain ⟨a2, ha2⟩ : ∃ a2, (if lc = 1 then some (⟨lb, lo, none⟩ : Addr) else some ⟨lb, lo + 1, none⟩) = a2 := ⟨_, rfl⟩
    have hli8 : StayInts (N + 3) w7 a2 (natInts left) := by
     rw [← ha2]
     split
     ·have : left = [] := List.length_eq_zero_iff.1 (by omega)
      rw [this]; exact StayInts.nil _ _ _
     ·exact HLI7.out.tail
    have t1 : w7.cell? ⟨tb, 0, none⟩ = some (.func (.func 107) #[] #[.pointer (some ⟨N, 0, none⟩), .pointer (some ⟨N + 4, 0, none⟩), .pointer (some ⟨rb, 0, none⟩), .pointer (some ⟨pvb, 0, none⟩), .pointer (some ⟨kb, 0, none⟩), .pointer (some ⟨tb, 0, none⟩), .pointer (some ⟨N + 3, 0, none⟩)]) := HE7.out.try_.1.cell 0
    have t2 : w7.cell? ⟨lb, lo, none⟩ = some (.int .i64 q) := by
     obtain ⟨b', o', h1, h2⟩ := HLI7.out.1 0 (.int .i64 q) rfl
     cases h1; exact h2
    have t3 : w7.cell? ⟨pvb, 0, none⟩ = some (.int .i64 p) := HE7.out.part.1.cell 0
    have HA2 := Lib.hid ha2
    have HL8 := Lib.hid hli8
    clear ha2 hli8
    refine wp_region_heldB 9 [] (by kernel_rfl) (by kernel_rfl) (by kernel_rfl) (by simp) ?_
    intro S hS
    have k0 : ∀ A, S A → A.cell? ⟨tb, 0, none⟩ = some (.func (.func 107) #[] #[.pointer (some ⟨N, 0, none⟩), .pointer (some ⟨N + 4, 0, none⟩), .pointer (some ⟨rb, 0, none⟩), .pointer (some ⟨pvb, 0, none⟩), .pointer (some ⟨kb, 0, none⟩), .pointer (some ⟨tb, 0, none⟩), .pointer (some ⟨N + 3, 0, none⟩)]) ∧ A.cell? ⟨lb, lo, none⟩ = some (.int .i64 q) ∧ A.cell? ⟨pvb, 0, none⟩ = some (.int .i64 p) :=
     fun A h => ⟨below_cell (hS A h) t1, below_cell (hS A h) t2, below_cell (hS A h) t3⟩
    have kd : ∀ A, S A → (Instr.loadAt 104 (.pointer (some ⟨W.heap.size, 0, none⟩))).run Tryz.prog A = .ok (.agg (decCells d)) A := fun A h => run_load_row (HDB7.out.1.below' (hS A h)) Tryz.underlying104 rfl (dec_info _)
    have K0 := Lib.hid k0
    have KD := Lib.hid kd
    have HS := Lib.hid hS
    clear k0 kd hS t1 t2 t3
    simp only [List.take_succ_cons, List.take_zero, List.drop_succ_cons, List.drop_zero]
    repeat (first
     | (refine held_load 104 _ (by rfl) rfl rfl KD.out ?_; try (dsimp only); try simp only [Act.put, List.setIfInBounds_toArray, List.set_cons_zero, List.set_cons_succ])
     | (refine held_not rfl (by rfl) ?_; try (dsimp only); try simp only [Act.put, List.setIfInBounds_toArray, List.set_cons_zero, List.set_cons_succ])
     | (refine held_val (v := ?_) rfl (by rfl) ?_ ?_; rotate_left; (· (intro W hW; obtain ⟨q0, q1, q2⟩ := K0.out W hW; go_simp; try with_reducible rfl)); try (dsimp only); try simp only [Act.put, List.setIfInBounds_toArray, List.set_cons_zero, List.set_cons_succ])
     | (refine held_skip rfl (by rfl) ?_ ?_; (· (intro W hW; obtain ⟨q0, q1, q2⟩ := K0.out W hW; go_simp; try with_reducible rfl)); try (dsimp only); try simp only [Act.put, List.setIfInBounds_toArray, List.set_cons_zero, List.set_cons_succ])
     | (refine held_call (v := .agg (decCells (decWith d q p 2))) (f := 91) (args := #[.agg (decCells d), .int .i64 (q : Nat), .int .i64 (p : Nat), .int .u8 2]) rfl (by rfl) ?_ ?_ ?_; (· (intro W hW; go_simp; done)); (· exact (fun W hW => decWith_any d q p 2 W (by omega) (by omega) HD.out (by omega))); try (dsimp only); try simp only [Act.put, List.setIfInBounds_toArray, List.set_cons_zero, List.set_cons_succ]))
    refine held_nil ?_
    intro τ hτ w8 hW hO
    obtain rfl := laid0 hτ
    have hB8 := HS.out w8 hW
    have hk8 := HS7.out.kept hB8
    have hl2 : (l ++ [brSplit q p] ++ x1).length = l.length + 1 + x1.length := by simp; omega
    have ih2 := try_any hn8 hparts hN hbb HIH.out HDR.out hk ho8 hreps hp hrl hrc left (decWith d q p 2) (l ++ [brSplit q p] ++ x1) a2 (lc - 1) w8 (decWith_le HD.out (by omega)) (fun x hx => HLX.out x (by simp [hx])) (by omega) (by omega) (by rw [hl2]; have := HLE.out; omega) (HS7.out.below hB8) (HE7.out.keep hk8) (HL8.out.keep hk8)
    simp only [tryCaps, List.append_toArray, List.nil_append, List.cons_append] at ih2
    have IH2 := Lib.hid ih2
    have HK8 := Lib.hid (HK7.out.trans hk8)
    clear hτ hO hW K0 KD HS hB8 hk8 ih2 HE7 HDB7 HLI7 HS7
    simp only [overs, List.foldl_nil]
    simp only [HA2.out]
    rcases hm2 : tryM c c.parts.length (putM c c.parts.length rest) p reps left (decWith d q p 2) with _ | x2
    ·have HM2 := Lib.hid hm2
     clear hm2
     go_wp2_with (go_at_call 107; (with_reducible refine IH2.out.mono ?_); rintro e w9 ⟨hk9, hm⟩; rw [HM2.out] at hm; subst hm; have HK9 := Lib.hid hk9; clear hk9)
     exact ⟨rfl, HK8.out.trans HK9.out, by rw [tryM_no2 HOP.out HM1.out HM2.out]⟩
    ·have HM2 := Lib.hid hm2
     clear hm2
     go_wp2_with (go_at_call 107; (with_reducible refine IH2.out.mono ?_); rintro e w9 ⟨hk9, hm⟩; rw [HM2.out] at hm; obtain ⟨rfl, hs9⟩ := hm; have HK9 := Lib.hid hk9; have HS9 := Lib.hid hs9; clear hk9 hs9)
     refine bodyPost_ret (results_none rfl _ _ _) rfl ⟨HK8.out.trans HK9.out, ?_⟩
     rw [tryM_yes HOP.out HM1.out HM2.out]
     refine ⟨rfl, ?_⟩
     have e : l ++ brSplit q p :: (x1 ++ x2) = l ++ [brSplit q p] ++ x1 ++ x2 := by simp
     rw [e]
     exact HS9.out
  ·have hcall : ∀ A, Below w2.heap.size w2 A → Calls Tryz.prog 108 #[.pointer (some ⟨w1.heap.size, 0, none⟩), .int .i64 q, .int .i64 p] A fun e A' => e = .returned (.bool true) ∧ Below A.heap.size A A' := fun A hA => by
    have := opposed_any c c.parts.length rfl hn8 pa pc d HD.out bb w1.heap.size q p hq hp A (HND.out.below hA)
    rwa [hop] at this
   have HCL := Lib.hid hcall
   have HOP := Lib.hid hop
   clear hcall hop
   refine wp_region_heldB 6 [] (by kernel_rfl) (by kernel_rfl) (by kernel_rfl) (by simp) ?_
   intro S hS
   have k0 : ∀ A, S A → A.cell? ⟨lb, lo, none⟩ = some (.int .i64 q) ∧ A.cell? ⟨pvb, 0, none⟩ = some (.int .i64 p) := fun A h => ⟨below_cell (hS A h) q1, below_cell (hS A h) q2⟩
   have K0 := Lib.hid k0
   have HS := Lib.hid hS
   clear k0 hS q1 q2
   simp only [List.take_succ_cons, List.take_zero, List.drop_succ_cons, List.drop_zero]
   repeat (first
    | (refine held_not rfl (by rfl) ?_; try (dsimp only); try simp only [Act.put, List.setIfInBounds_toArray, List.set_cons_zero, List.set_cons_succ])
    | (refine held_val (v := ?_) rfl (by rfl) ?_ ?_; rotate_left; (· (intro W hW; obtain ⟨q0, q1⟩ := K0.out W hW; go_simp; try with_reducible rfl)); try (dsimp only); try simp only [Act.put, List.setIfInBounds_toArray, List.set_cons_zero, List.set_cons_succ])
    | (refine held_skip rfl (by rfl) ?_ ?_; (· (intro W hW; obtain ⟨q0, q1⟩ := K0.out W hW; go_simp; try with_reducible rfl)); try (dsimp only); try simp only [Act.put, List.setIfInBounds_toArray, List.set_cons_zero, List.set_cons_succ])
    | (refine held_call (v := .bool true) (f := 108) (args := #[.pointer (some ⟨w1.heap.size, 0, none⟩), .int .i64 q, .int .i64 p]) rfl (by rfl) ?_ ?_ ?_; (· (intro W hW; go_simp; done)); (· exact (fun W hW => HCL.out W (HS.out W hW))); try (dsimp only); try simp only [Act.put, List.setIfInBounds_toArray, List.set_cons_zero, List.set_cons_succ]))
   refine held_nil ?_
   intro τ hτ w3 hW hO
   obtain rfl := laid0 hτ
   have hB3 := HS.out w3 hW
   have hs3 := HS2.out.below hB3
   have hk3 := HS2.out.kept hB3
   have he3 := HEN.out.keep hk3
   have HDB3 := Lib.hid (HDB.out.keep hk3)
   have HLI3 := Lib.hid (HLI.out.keep hk3)
   have HS3 := Lib.hid hs3
   have HK3 := Lib.hid (HKP.out.trans hk3)
   have HE3 := Lib.hid he3
   clear hτ hO hW K0 HS hB3 hs3 hk3 he3
   simp only [overs, List.foldl_nil]
   go_upto_region 5 with fail
   obtain ⟨a2, ha2⟩ : ∃ a2, (if lc = 1 then some (⟨lb, lo, none⟩ : Addr) else some ⟨lb, lo + 1, none⟩) = a2 := ⟨_, rfl⟩
   have hli4 : StayInts (N + 3) w3 a2 (natInts left) := by
    rw [← ha2]
    split
    ·have : left = [] := List.length_eq_zero_iff.1 (by omega)
     rw [this]; exact StayInts.nil _ _ _
    ·exact HLI3.out.tail
   have t1 : w3.cell? ⟨tb, 0, none⟩ = some (.func (.func 107) #[] #[.pointer (some ⟨N, 0, none⟩), .pointer (some ⟨N + 4, 0, none⟩), .pointer (some ⟨rb, 0, none⟩), .pointer (some ⟨pvb, 0, none⟩), .pointer (some ⟨kb, 0, none⟩), .pointer (some ⟨tb, 0, none⟩), .pointer (some ⟨N + 3, 0, none⟩)]) := HE3.out.try_.1.cell 0
   have HA2 := Lib.hid ha2
   have HL4 := Lib.hid hli4
   clear ha2 hli4
   refine wp_region_heldB 4 [] (by kernel_rfl) (by kernel_rfl) (by kernel_rfl) (by simp) ?_
   intro S hS
   have k0 : ∀ A, S A → A.cell? ⟨tb, 0, none⟩ = some (.func (.func 107) #[] #[.pointer (some ⟨N, 0, none⟩), .pointer (some ⟨N + 4, 0, none⟩), .pointer (some ⟨rb, 0, none⟩), .pointer (some ⟨pvb, 0, none⟩), .pointer (some ⟨kb, 0, none⟩), .pointer (some ⟨tb, 0, none⟩), .pointer (some ⟨N + 3, 0, none⟩)]) := fun A h => below_cell (hS A h) t1
   have kd : ∀ A, S A → (Instr.loadAt 104 (.pointer (some ⟨W.heap.size, 0, none⟩))).run Tryz.prog A = .ok (.agg (decCells d)) A := fun A h => run_load_row (HDB3.out.1.below' (hS A h)) Tryz.underlying104 rfl (dec_info _)
   have K0 := Lib.hid k0
   have KD := Lib.hid kd
   have HS := Lib.hid hS
   clear k0 kd hS t1
   simp only [List.take_succ_cons, List.take_zero, List.drop_succ_cons, List.drop_zero]
   repeat (first
    | (refine held_load 104 _ (by rfl) rfl rfl KD.out ?_; try (dsimp only); try simp only [Act.put, List.setIfInBounds_toArray, List.set_cons_zero, List.set_cons_succ])
    | (refine held_not rfl (by rfl) ?_; try (dsimp only); try simp only [Act.put, List.setIfInBounds_toArray, List.set_cons_zero, List.set_cons_succ])
    | (refine held_val (v := ?_) rfl (by rfl) ?_ ?_; rotate_left; (· (intro W hW; have q0 := K0.out W hW; go_simp; try with_reducible rfl)); try (dsimp only); try simp only [Act.put, List.setIfInBounds_toArray, List.set_cons_zero, List.set_cons_succ])
    | (refine held_skip rfl (by rfl) ?_ ?_; (· (intro W hW; have q0 := K0.out W hW; go_simp; try with_reducible rfl)); try (dsimp only); try simp only [Act.put, List.setIfInBounds_toArray, List.set_cons_zero, List.set_cons_succ]))
   refine held_nil ?_
   intro τ hτ w4 hW hO
   obtain rfl := laid0 hτ
   have hB4 := HS.out w4 hW
   have hk4 := HS3.out.kept hB4
   have ih2 := try_any hn8 hparts hN hbb HIH.out HDR.out hk ho8 hreps hp hrl hrc left d l a2 (lc - 1) w4 HD.out (fun x hx => HLX.out x (by simp [hx])) (by omega) (by omega) (by have := HLE.out; omega) (HS3.out.below hB4) (HE3.out.keep hk4) (HL4.out.keep hk4)
   simp only [tryCaps, List.append_toArray, List.nil_append, List.cons_append] at ih2
   have IH2 := Lib.hid ih2
   have HK4 := Lib.hid (HK3.out.trans hk4)
   clear hτ hO hW K0 KD HS hB4 hk4 ih2
   simp only [overs, List.foldl_nil]
   simp only [HA2.out]
   rcases hm1 : tryM c c.parts.length (putM c c.parts.length rest) p reps left d with _ | x
   ·have HM1 := Lib.hid hm1
    clear hm1
    go_wp2_with (go_at_call 107; (with_reducible refine IH2.out.mono ?_); rintro e w5 ⟨hk5, hm⟩; rw [HM1.out] at hm; subst hm; have HK5 := Lib.hid hk5; clear hk5)
    exact ⟨rfl, HK4.out.trans HK5.out, by rw [tryM_opp HOP.out, HM1.out]⟩
   ·have HM1 := Lib.hid hm1
    clear hm1
    go_wp2_with (go_at_call 107; (with_reducible refine IH2.out.mono ?_); rintro e w5 ⟨hk5, hm⟩; rw [HM1.out] at hm; obtain ⟨rfl, hs5⟩ := hm; have HK5 := Lib.hid hk5; have HS5 := Lib.hid hs5; clear hk5 hs5)
    refine bodyPost_ret (results_none rfl _ _ _) rfl ⟨HK4.out.trans HK5.out, ?_⟩
    rw [tryM_opp HOP.out, HM1.out]
    exact ⟨rfl, HS5.out⟩
end Go.Proofs.YtpjcnkajimgagaaGreat
namespace Go.Proofs.YtpjcnkajimgagaaGreat
open Go.RowKit
attribute [local go_sem] Oper.semAt_some

set_option maxRecDepth 100000 in
set_option maxHeartbeats 2000000 in
theorem put_nil {c : Cs} {pa : Option Addr} {pc bb N : Nat} {oa : Option Addr} {oc : Nat} {order : List Nat} {w0 : World} (hn8 : c.parts.length ≤ 8) (hparts : PartsAt w0 pa c.parts) (hN : w0.heap.size = N) (hbb : bb < N)
  (ho8 : order.length ≤ 8) (hlim : 0 ≤ c.limit ∧ c.limit ≤ 40) (hoi : Ints w0 oa (natInts order)) (hoc : order.length ≤ oc) (rest : List Nat)
  (htry : ∀ p rest', rest = p :: rest' → p < c.parts.length ∧ PutOk c pa pc bb N oa oc order w0 rest') : PutOk c pa pc bb N oa oc order w0 rest := by
 intro d reps k l ra rc W hdrop hk hd hreps hrl hl hrc hst hints
 obtain ⟨m, hm⟩ : ∃ m : Nat, c.limit = (m : Int) := ⟨c.limit.toNat, by omega⟩
 obtain ⟨w1, hw1⟩ : ∃ w1, ((W.alloc (.cells (decCells d) 104)).alloc (.cells #[.slice ra reps.length rc] 27)).alloc (.cells #[.int .i64 k] 3) = w1 := ⟨_, rfl⟩
 have hB1 : Below W.heap.size W w1 := by rw [← hw1]; go_grown
 have hs1 : w1.heap.size = W.heap.size + 3 := by rw [← hw1]; simp
 have b0 : Box w1 W.heap.size (decCells d) 104 := by rw [← hw1]; exact ((Box.new _ _ _).alloc _).alloc _
 have b1 : Box w1 (W.heap.size + 1) #[.slice ra reps.length rc] 27 := by rw [← hw1]; exact (Box.new' (by simp)).alloc _
 have b2 : Box w1 (W.heap.size + 2) #[.int .i64 k] 3 := by rw [← hw1]; exact Box.new' (by simp)
 have hst1 := hst.below hB1
 have hk1 := hst.kept hB1
 have t1 : w1.cell? ⟨N, 0, none⟩ = some (.pointer (some ⟨bb, 0, none⟩)) := hst1.bx.cell 0
 have t2 : w1.cell? ⟨bb, 1, none⟩ = some (.int .i64 (m : Int)) := by rw [hst1.ben.cell, ← hm]; rfl
 have t3 : w1.cell? ⟨W.heap.size + 1, 0, none⟩ = some (.slice ra reps.length rc) := b1.cell 0
 have HW := Lib.hid hw1
 have HST := Lib.hid hst
 have HS1 := Lib.hid hst1
 have HK1 := Lib.hid hk1
 have HI1 := Lib.hid (hints.keep hk1)
 have HDB := Lib.hid (hst.newBox hB1 b0 (Nat.le_refl _))
 have HRB := Lib.hid (hst.newBox hB1 b1 (by omega))
 have HKB := Lib.hid (hst.newBox hB1 b2 (by omega))
 have HD := Lib.hid hd
 have HM := Lib.hid hm
 have HDR := Lib.hid hdrop
 have HL := Lib.hid hl
 have HTRY := Lib.hid htry
 have HOI := Lib.hid hoi
 clear hw1 hst hst1 hk1 b0 b1 b2 hints hd hm hdrop hl htry hoi
 simp only [putCaps, List.append_toArray, List.nil_append, List.cons_append]
 go_enter Tryz.func106, Tryz.ntmps106
 go_upto_region 1 with fail
 simp only [HW.out]
 by_cases hbig : 0 < m ∧ m < reps.length
 ·obtain ⟨h0, hlt⟩ := hbig
  have HBG := Lib.hid (show bigB c reps = true by simp only [bigB, HM.out]; simp; omega)
  refine wp_region_heldB 16 [] (by kernel_rfl) (by kernel_rfl) (by kernel_rfl) (by simp) ?_
  intro S hS
  have k0 : ∀ A, S A → A.cell? ⟨N, 0, none⟩ = some (.pointer (some ⟨bb, 0, none⟩)) ∧ A.cell? ⟨bb, 1, none⟩ = some (.int .i64 (m : Int)) ∧ A.cell? ⟨W.heap.size + 1, 0, none⟩ = some (.slice ra reps.length rc) := fun A h => ⟨below_cell (hS A h) t1, below_cell (hS A h) t2, below_cell (hS A h) t3⟩
  have K0 := Lib.hid k0
  have HS := Lib.hid hS
  clear k0 hS t1 t2 t3
  simp only [List.take_succ_cons, List.take_zero, List.drop_succ_cons, List.drop_zero]
  repeat (first
   | (refine held_not rfl (by rfl) ?_; try (dsimp only); try simp only [Act.put, List.setIfInBounds_toArray, List.set_cons_zero, List.set_cons_succ])
   | (refine held_val (v := ?_) rfl (by rfl) ?_ ?_; rotate_left; (· (intro W hW; obtain ⟨q0, q1, q2⟩ := K0.out W hW; go_simp; try with_reducible rfl)); try (dsimp only); try simp only [Act.put, List.setIfInBounds_toArray, List.set_cons_zero, List.set_cons_succ])
   | (refine held_skip rfl (by rfl) ?_ ?_; (· (intro W hW; obtain ⟨q0, q1, q2⟩ := K0.out W hW; go_simp; try with_reducible rfl)); try (dsimp only); try simp only [Act.put, List.setIfInBounds_toArray, List.set_cons_zero, List.set_cons_succ]))
  refine held_nil ?_
  intro τ hτ w2 hW hO
  obtain rfl := laid0 hτ
  have HB2 := Lib.hid (HS.out w2 hW)
  clear hτ hO hW K0 HS
  simp only [overs, List.foldl_nil]
  go_upto_region 2 with fail
  have hs2 := HS1.out.below HB2.out
  have hk2 := HS1.out.kept HB2.out
  have t1 : w2.cell? ⟨N, 0, none⟩ = some (.pointer (some ⟨bb, 0, none⟩)) := hs2.bx.cell 0
  have t2 : w2.cell? ⟨bb, 1, none⟩ = some (.int .i64 (m : Int)) := by rw [hs2.ben.cell, ← HM.out]; rfl
  have t3 : w2.cell? ⟨W.heap.size + 1, 0, none⟩ = some (.slice ra reps.length rc) := (HRB.out.keep hk2).1.cell 0
  have hi2 := (HI1.out.keep hk2).1
  have HS2 := Lib.hid hs2
  have HK2 := Lib.hid (HK1.out.trans hk2)
  have HI2 := Lib.hid hi2
  have hwm : IntKind.i64.wrap ((m : Int) + 1) = (m : Int) + 1 := IntWalk.i64_in _ (by omega)
  have hto : ((m : Int) + 1).toNat = m + 1 := by omega
  have hm0 : (0 : Int) ≤ (m : Int) + 1 := by omega
  have hmr : (m : Int) + 1 ≤ (rc : Int) := by omega
  clear hs2 hk2 hi2
  refine wp_region_heldB 8 [] (by kernel_rfl) (by kernel_rfl) (by kernel_rfl) (by simp) ?_
  intro S hS
  have k0 : ∀ A, S A → A.cell? ⟨N, 0, none⟩ = some (.pointer (some ⟨bb, 0, none⟩)) ∧ A.cell? ⟨bb, 1, none⟩ = some (.int .i64 (m : Int)) ∧ A.cell? ⟨W.heap.size + 1, 0, none⟩ = some (.slice ra reps.length rc) := fun A h => ⟨below_cell (hS A h) t1, below_cell (hS A h) t2, below_cell (hS A h) t3⟩
  have K0 := Lib.hid k0
  have HS := Lib.hid hS
  clear k0 hS t1 t2 t3
  simp only [List.take_succ_cons, List.take_zero, List.drop_succ_cons, List.drop_zero]
  repeat (first
   | (refine held_not rfl (by rfl) ?_; try (dsimp only); try simp only [Act.put, List.setIfInBounds_toArray, List.set_cons_zero, List.set_cons_succ])
   | (refine held_val (v := ?_) rfl (by rfl) ?_ ?_; rotate_left; (· (intro W hW; obtain ⟨q0, q1, q2⟩ := K0.out W hW; go_simp; try with_reducible rfl)); try (dsimp only); try simp only [Act.put, List.setIfInBounds_toArray, List.set_cons_zero, List.set_cons_succ])
   | (refine held_skip rfl (by rfl) ?_ ?_; (· (intro W hW; obtain ⟨q0, q1, q2⟩ := K0.out W hW; go_simp; try with_reducible rfl)); try (dsimp only); try simp only [Act.put, List.setIfInBounds_toArray, List.set_cons_zero, List.set_cons_succ]))
  refine held_nil ?_
  intro τ hτ w3 hW hO
  obtain rfl := laid0 hτ
  have hB3 := HS.out w3 hW
  have htl : (natInts (reps.take (m + 1))).length = m + 1 := by simp [natInts]; omega
  have hint : Ints w3 ra (natInts (reps.take (m + 1))) := fun j u hu => by
   refine (HI2.out.below hB3) j u ?_
   simp only [natInts, List.map_take, List.getElem?_take] at hu ⊢
   split at hu
   ·exact hu
   ·cases hu
  have hcp := copied3_any ra rc (natInts (reps.take (m + 1))) w3 hint (by omega)
  rw [htl] at hcp
  have HCP := Lib.hid hcp
  have HB3 := Lib.hid hB3
  have HTL := Lib.hid htl
  clear hτ hO hW K0 HS hB3 hcp hint htl
  simp only [overs, List.foldl_nil]
  go_upto_region 3 with (go_at_call 98; (with_reducible refine HCP.out.mono ?_); rintro e w4 ⟨g, c4, he, hgB, hgs, hr, hc4, hb4⟩; rw [HTL.out] at he hc4; subst he; have HR4 := Lib.hid hr; have HB4 := Lib.hid hb4; clear hr hb4)
  have hso := sort_own (B := g) (cap := c4) (l := natInts (reps.take (m + 1))) (w := w4) (fun j u hu => by
   obtain ⟨b', o', ha, _, h2⟩ := HR4.out j u hu
   cases ha; exact ⟨g, 0, rfl, Nat.le_refl _, h2⟩) (Nat.le_refl _) hgs (by rw [HTL.out]; omega)
  rw [HTL.out] at hso
  have HSO := Lib.hid hso
  clear hso
  go_upto_region 4 with (go_at_call 100; (with_reducible refine HSO.out.mono ?_); rintro e w5 ⟨rfl, hr5, hgs5, hb5⟩; have HR5 := Lib.hid hr5; have HB5 := Lib.hid hb5; clear hr5 hb5)
  obtain ⟨vo, hvo⟩ := HS2.out.out
  have hb35 : Below w3.heap.size w3 w5 := HB4.out.trans (HB5.out.mono hgB)
  have hb25 : Below w2.heap.size w2 w5 := HB3.out.trans (hb35.mono HB3.out.size)
  have hB6 : Below w5.heap.size w5 (w5.alloc (.cells #[.int .u8 4, .int .i64 0, .int .i64 0, .slice (some ⟨g, 0, none⟩) (m + 1) c4] 69)) := (Below.refl _ _).alloc (Nat.le_refl _) _
  have hsl : (sortL (natInts (reps.take (m + 1)))).length = m + 1 := by rw [sortL_len, HTL.out]
  have hrow : (brRow (brMany (reps.take (m + 1)), some ⟨g, 0, none⟩, c4)).toArray = #[.int .u8 4, .int .i64 0, .int .i64 0, .slice (some ⟨g, 0, none⟩) (m + 1) c4] := by
   simp only [brRow, brMany, hsl]; rfl
  have hg6 : Box (w5.alloc (.cells #[.int .u8 4, .int .i64 0, .int .i64 0, .slice (some ⟨g, 0, none⟩) (m + 1) c4] 69)) w5.heap.size (brRow (brMany (reps.take (m + 1)), some ⟨g, 0, none⟩, c4)).toArray 69 := by rw [hrow]; exact Box.new _ _ _
  have hl1 : l.length + 1 ≤ 1000000 := by have := HL.out; omega
  have hz3 := HB3.out.size
  have hz2 := HS2.out.sizeN
  obtain ⟨v', U, hrun, hbU, hoU, hkU, hKU⟩ := out_push (z := (brMany (reps.take (m + 1)), some ⟨g, 0, none⟩, c4)) (hvo.below (hb25.trans (hB6.mono hb25.size))) (by omega) hg6 hl1 (by have := hB6.size; have := hb25.size; omega)
   ⟨(ints_rowOwn HR5.out).below hB6, by show (sortL (natInts (reps.take (m + 1)))).length ≤ c4; omega, fun b o ha _ => by
     cases ha
     exact ⟨by omega, fun h => by have := (hvo.blk ⟨vo, hvo.box, h⟩).2; omega⟩⟩
  have hoU' := hoU
  obtain ⟨zs, _, _, zown, _⟩ := hoU'
  obtain ⟨av, cv, hv', _, _⟩ := ownsRow_own zown
  clear zown
  subst hv'
  simp only [List.length_append, List.length_singleton] at hrun hoU hkU
  have t1 : w5.cell? ⟨N + 3, 0, none⟩ = some vo := (hvo.box.below' hb25).cell 0
  obtain ⟨z1, z2⟩ := hbU.rules
  have HRN := Lib.hid hrun
  have HO := Lib.hid hoU
  have HKU := Lib.hid (((HK2.out.trans (HS2.out.kept hb25)).trans ((HS2.out.below hb25).kept hB6)).trans hkU)
  have HS5 := Lib.hid (HS2.out.next (((HS2.out.kept hb25)).trans (((HS2.out.below hb25).kept hB6).trans hkU)) hoU hN hbb)
  clear hrun hoU hkU hKU hbU hg6 hrow hB6 hb25 hb35 hvo
  go_wp2_with (at_builtin; refine wpList_app rfl _ _ _ rfl rfl rfl HRN.out ?_)
  refine bodyPost_ret (results_none rfl _ _ _) rfl ⟨HKU.out, ?_⟩
  rw [putM_big HBG.out, show c.limit.toNat = m by have := HM.out; omega]
  exact ⟨rfl, HS5.out⟩
 ·have HBG := Lib.hid (show bigB c reps = false by simp only [bigB, HM.out]; simp; omega)
  by_cases h0 : 0 < m
  ·have hlt : ¬ m < reps.length := by omega
   clear hbig
   refine wp_region_heldB 16 [] (by kernel_rfl) (by kernel_rfl) (by kernel_rfl) (by simp) ?_
   intro S hS
   have k0 : ∀ A, S A → A.cell? ⟨N, 0, none⟩ = some (.pointer (some ⟨bb, 0, none⟩)) ∧ A.cell? ⟨bb, 1, none⟩ = some (.int .i64 (m : Int)) ∧ A.cell? ⟨W.heap.size + 1, 0, none⟩ = some (.slice ra reps.length rc) := fun A h => ⟨below_cell (hS A h) t1, below_cell (hS A h) t2, below_cell (hS A h) t3⟩
   have K0 := Lib.hid k0
   have HS := Lib.hid hS
   clear k0 hS t1 t2 t3
   simp only [List.take_succ_cons, List.take_zero, List.drop_succ_cons, List.drop_zero]
   repeat (first
    | (refine held_not rfl (by rfl) ?_; try (dsimp only); try simp only [Act.put, List.setIfInBounds_toArray, List.set_cons_zero, List.set_cons_succ])
    | (refine held_val (v := ?_) rfl (by rfl) ?_ ?_; rotate_left; (· (intro W hW; obtain ⟨q0, q1, q2⟩ := K0.out W hW; go_simp; try with_reducible rfl)); try (dsimp only); try simp only [Act.put, List.setIfInBounds_toArray, List.set_cons_zero, List.set_cons_succ])
    | (refine held_skip rfl (by rfl) ?_ ?_; (· (intro W hW; obtain ⟨q0, q1, q2⟩ := K0.out W hW; go_simp; try with_reducible rfl)); try (dsimp only); try simp only [Act.put, List.setIfInBounds_toArray, List.set_cons_zero, List.set_cons_succ]))
   refine held_nil ?_
   intro τ hτ w2 hW hO
   obtain rfl := laid0 hτ
   have HB2 := Lib.hid (HS.out w2 hW)
   clear hτ hO hW K0 HS
   simp only [overs, List.foldl_nil]
   go_upto_region 5 with fail
   have hs2 := HS1.out.below HB2.out
   have hk2 := HS1.out.kept HB2.out
   have u1 : w2.cell? ⟨W.heap.size + 2, 0, none⟩ = some (.int .i64 k) := (HKB.out.keep hk2).1.cell 0
   have u2 : w2.cell? ⟨N + 2, 0, none⟩ = some (.slice oa order.length oc) := hs2.ord.cell 0
   have HS2 := Lib.hid hs2
   have HK2 := Lib.hid hk2
   clear hs2 hk2
   rcases rest with _ | ⟨p, rest'⟩
   ·have hkn : ¬ k < order.length := by
     have := List.drop_eq_nil_iff.1 HDR.out; omega
    have hkd : decide (k < order.length) = false := by simpa using hkn
    go_wp2_with (go_at_call 90; (with_reducible refine (need_no _).mono ?_); rintro e w' ⟨rfl, rfl⟩)
    exact ⟨rfl, HK1.out.trans HK2.out, by rw [putM_nil HBG.out]⟩
   ·have hkl : k < order.length := by
     rcases Nat.lt_or_ge k order.length with h | h
     ·exact h
     ·have := List.drop_eq_nil_iff.2 h; rw [HDR.out] at this; cases this
    have hpk : order[k]? = some p := by
     have := congrArg (fun l : List Nat => l[0]?) HDR.out
     simpa using this
    have hdr' : order.drop (k + 1) = rest' := by
     have := congrArg List.tail HDR.out
     simpa using this
    obtain ⟨hp, ih⟩ := HTRY.out p rest' rfl
    obtain ⟨ob', oo, hoa, hcell⟩ := HOI.out.base (by rw [natInts_len]; omega)
    subst hoa
    have u3 : w2.cell? ⟨ob', oo + k, none⟩ = some (.int .i64 p) := below_cell HS2.out.old (hcell k p (by simp [natInts, hpk]))
    have hkd : decide (k < order.length) = true := by simpa using hkl
    have HIH := Lib.hid ih
    have HDR' := Lib.hid hdr'
    clear ih hcell hpk hdr'
    go_upto_region 9 with (go_at_call 90; (with_reducible refine (need_ok _).mono ?_); rintro e w' ⟨rfl, rfl⟩)
    have hB5 : Below w2.heap.size w2 ((w2.alloc (.cells #[.int .i64 p] 3)).alloc (.cells #[.func (.func 107) #[] #[.pointer (some ⟨N, 0, none⟩), .pointer (some ⟨N + 4, 0, none⟩), .pointer (some ⟨W.heap.size + 1, 0, none⟩), .pointer (some ⟨w2.heap.size, 0, none⟩), .pointer (some ⟨W.heap.size + 1 + 1, 0, none⟩), .pointer (some ⟨w2.heap.size + 1, 0, none⟩), .pointer (some ⟨N + 3, 0, none⟩)]] 161)) := ((Below.refl _ _).alloc (Nat.le_refl _) _).alloc (by simp) _
    have g1 : Box ((w2.alloc (.cells #[.int .i64 p] 3)).alloc (.cells #[.func (.func 107) #[] #[.pointer (some ⟨N, 0, none⟩), .pointer (some ⟨N + 4, 0, none⟩), .pointer (some ⟨W.heap.size + 1, 0, none⟩), .pointer (some ⟨w2.heap.size, 0, none⟩), .pointer (some ⟨W.heap.size + 1 + 1, 0, none⟩), .pointer (some ⟨w2.heap.size + 1, 0, none⟩), .pointer (some ⟨N + 3, 0, none⟩)]] 161)) w2.heap.size #[.int .i64 p] 3 := (Box.new _ _ _).alloc _
    have g2 : Box ((w2.alloc (.cells #[.int .i64 p] 3)).alloc (.cells #[.func (.func 107) #[] #[.pointer (some ⟨N, 0, none⟩), .pointer (some ⟨N + 4, 0, none⟩), .pointer (some ⟨W.heap.size + 1, 0, none⟩), .pointer (some ⟨w2.heap.size, 0, none⟩), .pointer (some ⟨W.heap.size + 1 + 1, 0, none⟩), .pointer (some ⟨w2.heap.size + 1, 0, none⟩), .pointer (some ⟨N + 3, 0, none⟩)]] 161)) (w2.heap.size + 1) #[.func (.func 107) #[] #[.pointer (some ⟨N, 0, none⟩), .pointer (some ⟨N + 4, 0, none⟩), .pointer (some ⟨W.heap.size + 1, 0, none⟩), .pointer (some ⟨w2.heap.size, 0, none⟩), .pointer (some ⟨W.heap.size + 1 + 1, 0, none⟩), .pointer (some ⟨w2.heap.size + 1, 0, none⟩), .pointer (some ⟨N + 3, 0, none⟩)]] 161 := Box.new' (by simp)
    generalize (w2.alloc (.cells #[.int .i64 p] 3)).alloc (.cells #[.func (.func 107) #[] #[.pointer (some ⟨N, 0, none⟩), .pointer (some ⟨N + 4, 0, none⟩), .pointer (some ⟨W.heap.size + 1, 0, none⟩), .pointer (some ⟨w2.heap.size, 0, none⟩), .pointer (some ⟨W.heap.size + 1 + 1, 0, none⟩), .pointer (some ⟨w2.heap.size + 1, 0, none⟩), .pointer (some ⟨N + 3, 0, none⟩)]] 161) = w5 at *
    clear u1 u2 u3
    have hk5 := HS2.out.kept hB5
    have hk25 := HK2.out.trans hk5
    have henv : TryEnv N (W.heap.size + 1) w2.heap.size (W.heap.size + 1 + 1) (w2.heap.size + 1) reps p k ra rc w5 := ⟨HRB.out.keep hk25, HI1.out.keep hk25, HS2.out.newBox hB5 g1 (Nat.le_refl _), HKB.out.keep hk25, HS2.out.newBox hB5 g2 (by omega)⟩
    have hdb5 := HDB.out.keep hk25
    simp only [List.length_cons] at hrl
    have iht := try_any hn8 hparts hN hbb HIH.out HDR'.out (by omega) ho8 hreps hp (by omega) hrc reps d l ra rc w5 HD.out hreps (by omega) hrc HL.out (HS2.out.below hB5) henv (HI1.out.keep hk25)
    simp only [tryCaps, List.append_toArray, List.nil_append, List.cons_append] at iht
    have IHT := Lib.hid iht
    have u1 : w5.cell? ⟨w2.heap.size + 1, 0, none⟩ = some (.func (.func 107) #[] #[.pointer (some ⟨N, 0, none⟩), .pointer (some ⟨N + 4, 0, none⟩), .pointer (some ⟨W.heap.size + 1, 0, none⟩), .pointer (some ⟨w2.heap.size, 0, none⟩), .pointer (some ⟨W.heap.size + 1 + 1, 0, none⟩), .pointer (some ⟨w2.heap.size + 1, 0, none⟩), .pointer (some ⟨N + 3, 0, none⟩)]) := g2.cell 0
    have u2 : w5.cell? ⟨W.heap.size + 1, 0, none⟩ = some (.slice ra reps.length rc) := henv.rep.1.cell 0
    have hL := run_load_row (P := Tryz.prog) hdb5.1 Tryz.underlying104 rfl (dec_info _)
    have HK5 := Lib.hid (HK1.out.trans hk25)
    clear iht henv hk25 hk5 hdb5 g1 g2 hB5
    rcases hm1 : tryM c c.parts.length (putM c c.parts.length rest') p reps reps d with _ | x
    ·have HM1 := Lib.hid hm1
     clear hm1
     go_wp2_with (first
      | (refine wpList_load_box rfl 104 _ rfl rfl hL ?_)
      | (go_at_call 107; (with_reducible refine IHT.out.mono ?_); rintro e w6 ⟨hk6, hm⟩; rw [HM1.out] at hm; subst hm; have HK6 := Lib.hid hk6; clear hk6))
     exact ⟨rfl, HK5.out.trans HK6.out, by rw [putM_cons HBG.out, HM1.out]⟩
    ·have HM1 := Lib.hid hm1
     clear hm1
     go_wp2_with (first
      | (refine wpList_load_box rfl 104 _ rfl rfl hL ?_)
      | (go_at_call 107; (with_reducible refine IHT.out.mono ?_); rintro e w6 ⟨hk6, hm⟩; rw [HM1.out] at hm; obtain ⟨rfl, hs6⟩ := hm; have HK6 := Lib.hid hk6; have HS6 := Lib.hid hs6; clear hk6 hs6))
     go_end0
     refine ⟨HK5.out.trans HK6.out, ?_⟩
     rw [putM_cons HBG.out, HM1.out]
     exact ⟨rfl, HS6.out⟩
  ·clear hbig
   refine wp_region_heldB 16 [] (by kernel_rfl) (by kernel_rfl) (by kernel_rfl) (by simp) ?_
   intro S hS
   have k0 : ∀ A, S A → A.cell? ⟨N, 0, none⟩ = some (.pointer (some ⟨bb, 0, none⟩)) ∧ A.cell? ⟨bb, 1, none⟩ = some (.int .i64 (m : Int)) ∧ A.cell? ⟨W.heap.size + 1, 0, none⟩ = some (.slice ra reps.length rc) := fun A h => ⟨below_cell (hS A h) t1, below_cell (hS A h) t2, below_cell (hS A h) t3⟩
   have K0 := Lib.hid k0
   have HS := Lib.hid hS
   clear k0 hS t1 t2 t3
   simp only [List.take_succ_cons, List.take_zero, List.drop_succ_cons, List.drop_zero]
   repeat (first
    | (refine held_not rfl (by rfl) ?_; try (dsimp only); try simp only [Act.put, List.setIfInBounds_toArray, List.set_cons_zero, List.set_cons_succ])
    | (refine held_val (v := ?_) rfl (by rfl) ?_ ?_; rotate_left; (· (intro W hW; obtain ⟨q0, q1, q2⟩ := K0.out W hW; go_simp; try with_reducible rfl)); try (dsimp only); try simp only [Act.put, List.setIfInBounds_toArray, List.set_cons_zero, List.set_cons_succ])
    | (refine held_skip rfl (by rfl) ?_ ?_; (· (intro W hW; obtain ⟨q0, q1, q2⟩ := K0.out W hW; go_simp; try with_reducible rfl)); try (dsimp only); try simp only [Act.put, List.setIfInBounds_toArray, List.set_cons_zero, List.set_cons_succ]))
   refine held_nil ?_
   intro τ hτ w2 hW hO
   obtain rfl := laid0 hτ
   have HB2 := Lib.hid (HS.out w2 hW)
   clear hτ hO hW K0 HS
   simp only [overs, List.foldl_nil]
   go_upto_region 5 with fail
   have hs2 := HS1.out.below HB2.out
   have hk2 := HS1.out.kept HB2.out
   have u1 : w2.cell? ⟨W.heap.size + 2, 0, none⟩ = some (.int .i64 k) := (HKB.out.keep hk2).1.cell 0
   have u2 : w2.cell? ⟨N + 2, 0, none⟩ = some (.slice oa order.length oc) := hs2.ord.cell 0
   have HS2 := Lib.hid hs2
   have HK2 := Lib.hid hk2
   clear hs2 hk2
   rcases rest with _ | ⟨p, rest'⟩
   ·have hkn : ¬ k < order.length := by
     have := List.drop_eq_nil_iff.1 HDR.out; omega
    have hkd : decide (k < order.length) = false := by simpa using hkn
    go_wp2_with (go_at_call 90; (with_reducible refine (need_no _).mono ?_); rintro e w' ⟨rfl, rfl⟩)
    exact ⟨rfl, HK1.out.trans HK2.out, by rw [putM_nil HBG.out]⟩
   ·have hkl : k < order.length := by
     rcases Nat.lt_or_ge k order.length with h | h
     ·exact h
     ·have := List.drop_eq_nil_iff.2 h; rw [HDR.out] at this; cases this
    have hpk : order[k]? = some p := by
     have := congrArg (fun l : List Nat => l[0]?) HDR.out
     simpa using this
    have hdr' : order.drop (k + 1) = rest' := by
     have := congrArg List.tail HDR.out
     simpa using this
    obtain ⟨hp, ih⟩ := HTRY.out p rest' rfl
    obtain ⟨ob', oo, hoa, hcell⟩ := HOI.out.base (by rw [natInts_len]; omega)
    subst hoa
    have u3 : w2.cell? ⟨ob', oo + k, none⟩ = some (.int .i64 p) := below_cell HS2.out.old (hcell k p (by simp [natInts, hpk]))
    have hkd : decide (k < order.length) = true := by simpa using hkl
    have HIH := Lib.hid ih
    have HDR' := Lib.hid hdr'
    clear ih hcell hpk hdr'
    go_upto_region 9 with (go_at_call 90; (with_reducible refine (need_ok _).mono ?_); rintro e w' ⟨rfl, rfl⟩)
    have hB5 : Below w2.heap.size w2 ((w2.alloc (.cells #[.int .i64 p] 3)).alloc (.cells #[.func (.func 107) #[] #[.pointer (some ⟨N, 0, none⟩), .pointer (some ⟨N + 4, 0, none⟩), .pointer (some ⟨W.heap.size + 1, 0, none⟩), .pointer (some ⟨w2.heap.size, 0, none⟩), .pointer (some ⟨W.heap.size + 1 + 1, 0, none⟩), .pointer (some ⟨w2.heap.size + 1, 0, none⟩), .pointer (some ⟨N + 3, 0, none⟩)]] 161)) := ((Below.refl _ _).alloc (Nat.le_refl _) _).alloc (by simp) _
    have g1 : Box ((w2.alloc (.cells #[.int .i64 p] 3)).alloc (.cells #[.func (.func 107) #[] #[.pointer (some ⟨N, 0, none⟩), .pointer (some ⟨N + 4, 0, none⟩), .pointer (some ⟨W.heap.size + 1, 0, none⟩), .pointer (some ⟨w2.heap.size, 0, none⟩), .pointer (some ⟨W.heap.size + 1 + 1, 0, none⟩), .pointer (some ⟨w2.heap.size + 1, 0, none⟩), .pointer (some ⟨N + 3, 0, none⟩)]] 161)) w2.heap.size #[.int .i64 p] 3 := (Box.new _ _ _).alloc _
    have g2 : Box ((w2.alloc (.cells #[.int .i64 p] 3)).alloc (.cells #[.func (.func 107) #[] #[.pointer (some ⟨N, 0, none⟩), .pointer (some ⟨N + 4, 0, none⟩), .pointer (some ⟨W.heap.size + 1, 0, none⟩), .pointer (some ⟨w2.heap.size, 0, none⟩), .pointer (some ⟨W.heap.size + 1 + 1, 0, none⟩), .pointer (some ⟨w2.heap.size + 1, 0, none⟩), .pointer (some ⟨N + 3, 0, none⟩)]] 161)) (w2.heap.size + 1) #[.func (.func 107) #[] #[.pointer (some ⟨N, 0, none⟩), .pointer (some ⟨N + 4, 0, none⟩), .pointer (some ⟨W.heap.size + 1, 0, none⟩), .pointer (some ⟨w2.heap.size, 0, none⟩), .pointer (some ⟨W.heap.size + 1 + 1, 0, none⟩), .pointer (some ⟨w2.heap.size + 1, 0, none⟩), .pointer (some ⟨N + 3, 0, none⟩)]] 161 := Box.new' (by simp)
    generalize (w2.alloc (.cells #[.int .i64 p] 3)).alloc (.cells #[.func (.func 107) #[] #[.pointer (some ⟨N, 0, none⟩), .pointer (some ⟨N + 4, 0, none⟩), .pointer (some ⟨W.heap.size + 1, 0, none⟩), .pointer (some ⟨w2.heap.size, 0, none⟩), .pointer (some ⟨W.heap.size + 1 + 1, 0, none⟩), .pointer (some ⟨w2.heap.size + 1, 0, none⟩), .pointer (some ⟨N + 3, 0, none⟩)]] 161) = w5 at *
    clear u1 u2 u3
    have hk5 := HS2.out.kept hB5
    have hk25 := HK2.out.trans hk5
    have henv : TryEnv N (W.heap.size + 1) w2.heap.size (W.heap.size + 1 + 1) (w2.heap.size + 1) reps p k ra rc w5 := ⟨HRB.out.keep hk25, HI1.out.keep hk25, HS2.out.newBox hB5 g1 (Nat.le_refl _), HKB.out.keep hk25, HS2.out.newBox hB5 g2 (by omega)⟩
    have hdb5 := HDB.out.keep hk25
    simp only [List.length_cons] at hrl
    have iht := try_any hn8 hparts hN hbb HIH.out HDR'.out (by omega) ho8 hreps hp (by omega) hrc reps d l ra rc w5 HD.out hreps (by omega) hrc HL.out (HS2.out.below hB5) henv (HI1.out.keep hk25)
    simp only [tryCaps, List.append_toArray, List.nil_append, List.cons_append] at iht
    have IHT := Lib.hid iht
    have u1 : w5.cell? ⟨w2.heap.size + 1, 0, none⟩ = some (.func (.func 107) #[] #[.pointer (some ⟨N, 0, none⟩), .pointer (some ⟨N + 4, 0, none⟩), .pointer (some ⟨W.heap.size + 1, 0, none⟩), .pointer (some ⟨w2.heap.size, 0, none⟩), .pointer (some ⟨W.heap.size + 1 + 1, 0, none⟩), .pointer (some ⟨w2.heap.size + 1, 0, none⟩), .pointer (some ⟨N + 3, 0, none⟩)]) := g2.cell 0
    have u2 : w5.cell? ⟨W.heap.size + 1, 0, none⟩ = some (.slice ra reps.length rc) := henv.rep.1.cell 0
    have hL := run_load_row (P := Tryz.prog) hdb5.1 Tryz.underlying104 rfl (dec_info _)
    have HK5 := Lib.hid (HK1.out.trans hk25)
    clear iht henv hk25 hk5 hdb5 g1 g2 hB5
    rcases hm1 : tryM c c.parts.length (putM c c.parts.length rest') p reps reps d with _ | x
    ·have HM1 := Lib.hid hm1
     clear hm1
     go_wp2_with (first
      | (refine wpList_load_box rfl 104 _ rfl rfl hL ?_)
      | (go_at_call 107; (with_reducible refine IHT.out.mono ?_); rintro e w6 ⟨hk6, hm⟩; rw [HM1.out] at hm; subst hm; have HK6 := Lib.hid hk6; clear hk6))
     exact ⟨rfl, HK5.out.trans HK6.out, by rw [putM_cons HBG.out, HM1.out]⟩
    ·have HM1 := Lib.hid hm1
     clear hm1
     go_wp2_with (first
      | (refine wpList_load_box rfl 104 _ rfl rfl hL ?_)
      | (go_at_call 107; (with_reducible refine IHT.out.mono ?_); rintro e w6 ⟨hk6, hm⟩; rw [HM1.out] at hm; obtain ⟨rfl, hs6⟩ := hm; have HK6 := Lib.hid hk6; have HS6 := Lib.hid hs6; clear hk6 hs6))
     go_end0
     refine ⟨HK5.out.trans HK6.out, ?_⟩
     rw [putM_cons HBG.out, HM1.out]
     exact ⟨rfl, HS6.out⟩
theorem put_any {c : Cs} {pa : Option Addr} {pc bb N : Nat} {oa : Option Addr} {oc : Nat} {order : List Nat} {w0 : World} (hn8 : c.parts.length ≤ 8) (hparts : PartsAt w0 pa c.parts) (hN : w0.heap.size = N) (hbb : bb < N)
  (ho8 : order.length ≤ 8) (hord : ∀ x ∈ order, x < c.parts.length) (hlim : 0 ≤ c.limit ∧ c.limit ≤ 40) (hoi : Ints w0 oa (natInts order)) (hoc : order.length ≤ oc) : ∀ rest : List Nat, (∀ x ∈ rest, x < c.parts.length) → PutOk c pa pc bb N oa oc order w0 rest
 | [], _ => put_nil hn8 hparts hN hbb ho8 hlim hoi hoc [] (fun p r h => by cases h)
 | p :: rest, h => put_nil hn8 hparts hN hbb ho8 hlim hoi hoc (p :: rest) (fun p' r he => by
   cases he
   exact ⟨h p (by simp), put_any hn8 hparts hN hbb ho8 hord hlim hoi hoc rest (fun x hx => h x (by simp [hx]))⟩)
end Go.Proofs.YtpjcnkajimgagaaGreat
