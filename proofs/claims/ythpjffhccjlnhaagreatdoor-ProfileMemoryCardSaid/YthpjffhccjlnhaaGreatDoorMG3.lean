/- Package profile: ends: the classes from which a profile can still be ended. No condition. -/
/- Package profile: the first class of a set; what a set's classes spell. No condition. -/
/- Append onto a row of the call's own (as in Own), for the chapter's seat. No condition. -/
/- Package profile: word: the first word that fits. No condition. -/
import Derived.Test.YthpjffhccjlnhaaGreatDoorMG2
import Derived.Maps.AppendAt
import Derived.OwnWalk
import Derived.OwnWalkIn
import Derived.Laws.IdiomStrings
import Derived.Laws.BytesArg
set_option linter.unusedSimpArgs false
set_option linter.unusedVariables false
namespace Go.Proofs.YthpjffhccjlnhaaGreatDoor
open Go.RowKit
attribute [local go_sem] Oper.semAt_some

def endsP (K : Knd) (m : Nat) (cut : Nat → CS) (least : Int) : Nat → CS := fun p => endsR K.kd m cut least (m - p)
def valE (K : Knd) (m : Nat) (cut : Nat → CS) (least : Int) (p : Nat) : CS := fun c => (decide (least ≤ ((p + 1 : Nat) : Int)) && K.base c) || any26 fun d => K.after c d && endsP K m cut least (p + 1) d
theorem endsP_step (K : Knd) {m : Nat} (cut : Nat → CS) (least : Int) {p : Nat} (hp : p < m) (c : Nat) : endsP K m cut least p c = (cut p c && valE K m cut least p c) := by
 unfold endsP valE
 rw [show m - p = m - (p + 1) + 1 by omega, endsR]
 rw [show m - (m - (p + 1) + 1) = p by omega]
 simp only [stopB, show m - (m - (p + 1)) = p + 1 by omega]
 rfl
theorem endsP_out (K : Knd) {m : Nat} (cut : Nat → CS) (least : Int) {p : Nat} (hp : m ≤ p) (c : Nat) : endsP K m cut least p c = false := by
 unfold endsP
 rw [show m - p = 0 by omega]; rfl
/-- what is known when the places from n on are done -/
def outN (K : Knd) (m : Nat) (cut : Nat → CS) (least : Int) (n : Nat) : Nat → CS := fun p c => decide (n ≤ p) && endsP K m cut least p c
theorem outN_step (K : Knd) {m : Nat} (cut : Nat → CS) (least : Int) {q : Nat} (hq : q < m) (p c : Nat) : outN K m cut least q p c = if p = q then (cut q c && valE K m cut least q c) else outN K m cut least (q + 1) p c := by
 unfold outN
 by_cases e : p = q
 ·subst e; rw [if_pos rfl, endsP_step K cut least hq]; simp
 ·rw [if_neg e]
  by_cases h : q ≤ p
  ·rw [decide_eq_true h, decide_eq_true (show q + 1 ≤ p by omega)]
  ·rw [decide_eq_false h, decide_eq_false (show ¬ q + 1 ≤ p by omega)]
abbrev IntBox (w : World) (b : Nat) (x : Int) : Prop := Box w b #[.int .i64 x] 3
/-- the memory of ends: its arguments' boxes, its result's, what it fills -/
structure EndsSt (K : Knd) (m : Nat) (cut : Nat → CS) (least : Int) (w W : World) (out : Nat → CS) : Prop where
 k : KndBox W w.heap.size K
 c : CutBox W (w.heap.size + 1) cut
 l : IntBox W (w.heap.size + 2) least
 r : CutBox W (w.heap.size + 3) (fun _ _ => false)
 o : CutBox W (w.heap.size + 4) out
 b : Below w.heap.size w W
theorem EndsSt.keep {K : Knd} {m : Nat} {cut : Nat → CS} {least : Int} {w W W' : World} {out : Nat → CS} (h : EndsSt K m cut least w W out) (hk : Keep (fun k => k < w.heap.size + 5) W W') : EndsSt K m cut least w W' out :=
 ⟨hk.heap (by omega) h.k, hk.heap (by omega) h.c, hk.heap (by omega) h.l, hk.heap (by omega) h.r, hk.heap (by omega) h.o, h.b.trans ((hk.mono fun k hk => by omega).below h.b.size)⟩
theorem EndsSt.below {K : Knd} {m : Nat} {cut : Nat → CS} {least : Int} {w W W' : World} {out : Nat → CS} (h : EndsSt K m cut least w W out) (hb : Below W.heap.size W W') : EndsSt K m cut least w W' out := h.keep (Keep.of_below' hb)
theorem EndsSt.set_ {K : Knd} {m : Nat} {cut : Nat → CS} {least : Int} {w W W' : World} {out out' : Nat → CS} (h : EndsSt K m cut least w W out) (hk : Keep (fun k => k ≠ w.heap.size + 4) W W') (ho : CutBox W' (w.heap.size + 4) out') : EndsSt K m cut least w W' out' :=
 ⟨hk.heap (by omega) h.k, hk.heap (by omega) h.c, hk.heap (by omega) h.l, hk.heap (by omega) h.r, ho, h.b.trans ((hk.mono fun k hk => by omega).below h.b.size)⟩
/-- the frame of ends at its loop -/
def endsFr (K : Knd) (m : Nat) (cut : Nat → CS) (least : Int) (w : World) (pb : Nat) (u15 u16 u17 u18 u19 u20 u21 u22 u58 : Value) : Array Value :=
 #[.agg (kndCells K), .agg (cutCells cut), .int .i64 least, .pointer (some ⟨w.heap.size, 0, none⟩), .pointer (some ⟨w.heap.size + 1, 0, none⟩), .pointer (some ⟨w.heap.size + 2, 0, none⟩), .pointer (some ⟨w.heap.size + 3, 0, none⟩), .pointer (some ⟨w.heap.size + 4, 0, none⟩), .pointer (some ⟨pb, 0, none⟩), undef, undef, .pointer (some ⟨w.heap.size, 0, none⟩), .pointer (some ⟨w.heap.size, 3, none⟩), .int .i64 (m : Int), .int .i64 ((m : Int) - 1), u15, u16, u17, u18, u19, u20, u21, u22, undef, undef, undef, undef, undef, undef, undef, undef, undef, undef, undef, undef, undef, undef, undef, undef, undef, undef, undef, undef, undef, undef, undef, undef, undef, undef, undef, undef, undef, undef, undef, undef, undef, undef, undef, u58, undef]
def EndsI (K : Knd) (m : Nat) (cut : Nat → CS) (least : Int) (w : World) (n : Nat) (a : Act) (W : World) : Prop :=
 ∃ (pb : Nat) (rs : List Nat) (u15 u16 u17 u18 u19 u20 u21 u22 u58 : Value), a = { tmps := endsFr K m cut least w pb u15 u16 u17 u18 u19 u20 u21 u22 u58, defers := rs.map markOf } ∧ n ≤ m ∧ IntBox W pb ((n : Int) - 1) ∧ w.heap.size + 5 ≤ pb ∧
  EndsSt K m cut least w W (outN K m cut least n) ∧ Marks rs W ∧ ∀ r ∈ rs, w.heap.size + 5 ≤ r
set_option maxRecDepth 100000 in
set_option maxHeartbeats 4000000 in
theorem ends_any (K : Knd) (cut : Nat → CS) (least : Int) (m : Nat) (hm : K.typ.most = m) (hm12 : m ≤ 12) (w : World) :
  Calls Tryz.prog 133 #[.agg (kndCells K), .agg (cutCells cut), .int .i64 least] w fun e w' => e = .returned (.agg (cutCells (endsP K m cut least))) ∧ Below w.heap.size w w' := by
 have hmf := run_mf Tryz.prog
 obtain ⟨w5, hw5⟩ : ∃ w5, ((((w.alloc (.cells (kndCells K) 111)).alloc (.cells (cutCells cut) 117)).alloc (.cells #[.int .i64 least] 3)).alloc (.cells (cutCells fun _ _ => false) 117)).alloc (.cells (cutCells fun _ _ => false) 117) = w5 := ⟨_, rfl⟩
 have st : EndsSt K m cut least w w5 (outN K m cut least m) := by
  rw [← hw5]
  refine ⟨((((Box.new _ _ _).alloc _).alloc _).alloc _).alloc _, (((Box.new' (by simp)).alloc _).alloc _).alloc _, ((Box.new' (by simp)).alloc _).alloc _, (Box.new' (by simp)).alloc _, CutBox.congr_ (Box.new' (by simp)) fun p c _ _ => ?_, by go_grown⟩
  unfold outN
  by_cases h : m ≤ p
  ·rw [endsP_out K cut least h]; simp
  ·simp [h]
 have gs : w5.heap.size = w.heap.size + 5 := by rw [← hw5]; simp
 have hmost := KndBox.most_ st.k
 rw [hm] at hmost
 have HL0 := Lib.hid (load_int hmost)
 have ST := Lib.hid st
 have HW := Lib.hid hw5
 have GS := Lib.hid gs
 have HM := Lib.hid hm
 clear st hw5 gs hm
 refine (callsIn_wide (n := 0)).1 (callsIn_of_wp_marks Tryz.func133 rfl trivial ?_ rfl)
 simp only [Tryz.ntmps133, List.size_toArray, List.length_cons, List.length_nil, Nat.reduceAdd, Nat.reduceSub, Array.replicate_succ, Array.replicate_zero, List.push_toArray, List.append_toArray, List.nil_append, List.cons_append]
 gi_wp2_with (simp only [zcut, HW.out]; refine wpListIn_load_box rfl 3 _ rfl rfl HL0.out ?_)
 simp only [Nat.add_assoc, Nat.reduceAdd, GS.out]
 refine wpIn_loopN (EndsI K m cut least w) m ?h0 ?round
 case h0 => exact ⟨w.heap.size + 5, [], _, _, _, _, _, _, _, _, _, rfl, Nat.le_refl _, Box.new' (by rw [GS.out]), by omega, ST.out.below ((Below.refl _ _).alloc (Nat.le_refl _) _), Marks.nil _, fun _ h => by cases h⟩
 case round =>
  clear HL0 HW ST GS hmost
  rintro n a W ⟨pb, rs, u15, u16, u17, u18, u19, u20, u21, u22, u58, rfl, hn, hpb, hpl, st, hmk, hrs⟩ Kk hKk
  have ST := Lib.hid st
  have PB := Lib.hid hpb
  have MK := Lib.hid hmk
  have RS := Lib.hid hrs
  have HK := Lib.hid hKk
  have c1 := hpb.cell 0
  clear hmk hrs hKk st
  unfold endsFr
  rcases n with _ | q
  ·have ho : CutBox W (w.heap.size + 4) (endsP K m cut least) := CutBox.congr_ ST.out.o fun p c _ _ => by simp [outN]
   have HL := Lib.hid (CutBox.load ho)
   obtain ⟨W2, hst, hw2⟩ := CutBox.store ST.out.r (endsP K m cut least)
   have HST := Lib.hid hst
   have HW2 := Lib.hid hw2
   clear ho hst hw2
   gi_wp2_with (first
    | (refine wpListIn_load_box rfl 117 _ rfl rfl HL.out ?_)
    | (refine wpListIn_store_box rfl 117 _ _ rfl rfl rfl HST.out ?_))
   refine leaves_marks rs _ (MK.out.keep HW2.out.keep fun r hr => by have := RS.out r hr; omega) fun W' hk => ?_
   have hno : w.heap.size + 3 ∉ rs := fun hr => by have := RS.out _ hr; omega
   refine ⟨_, results_cell rfl rfl (CutBox.loadv (hk.heap hno HW2.out.box)), rfl, ?_⟩
   exact (HW2.out.below ST.out.b (by omega)).trans ((hk.mono fun k hk => fun hr => by have := RS.out k hr; have := HW2.out.size; have := ST.out.b.size; omega).below (by rw [HW2.out.size]; exact ST.out.b.size))
  ·have hq0 : (0 : Int) ≤ (q : Int) := by omega
   have hq12 : (q : Int) < 12 := by omega
   have e1 : ((q + 1 : Nat) : Int) - 1 = (q : Int) := by omega
   rw [e1] at c1
   have HLC := Lib.hid (CutBox.at_ ST.out.c (p := q) (by omega))
   gi_wp2_with (refine wpListIn_load_box rfl 108 _ rfl rfl HLC.out ?_)
   have hpbl := PB.out.lt
   have hml := MK.out.lt
   have HML := Lib.hid hml
   clear HLC c1 hml
   refine wpIn_each (s := cut q) rfl (fun pre W' => EndsSt K m cut least w W' (fun p c => if p = q then (pre.contains c && valE K m cut least q c) else outN K m cut least (q + 1) p c) ∧ IntBox W' pb (q : Int) ∧ Marks rs W') ?hI ?h0 9 ?assign ?body ?done
   case hI =>
    rintro pre A B ⟨h1, h2, h3⟩ hk
    exact ⟨h1.keep (hk.mono fun k hk => by omega), hk.heap hpbl h2, h3.keep hk HML.out⟩
   case h0 =>
    refine ⟨⟨ST.out.k, ST.out.c, ST.out.l, ST.out.r, ST.out.o.congr_ fun p c _ _ => ?_, ST.out.b⟩, by have := PB.out; rwa [e1] at this, MK.out⟩
    by_cases e : p = q
    ·subst e; rw [if_pos rfl]; simp [outN]; omega
    ·rw [if_neg e]
   case assign =>
    intro l c W' Kc hK
    gi_wp2_with fail
    exact hK
   case body =>
    clear HK
    rintro l pre c W' ⟨st, hpb', hmk'⟩ hlt hc hpre
    simp only [List.setIfInBounds_toArray, List.set_cons_succ, List.set_cons_zero]
    have hci : (c : Int) < 26 := by omega
    have hc0 : (0 : Int) ≤ (c : Int) := by omega
    have c1 := hpb'.cell 0
    have c2 := st.l.cell 0
    have c3 := KndBox.baseAt st.k hc
    have S1 := Lib.hid st
    have S2 := Lib.hid hpb'
    have S3 := Lib.hid hmk'
    have HPRE := Lib.hid hpre
    clear st hpb' hmk' hpre
    have hV : valE K m cut least q c = ((decide (least ≤ (q : Int) + 1) && K.base c) || any26 fun d => K.after c d && endsP K m cut least (q + 1) d) := by unfold valE; congr 2
    have HV := Lib.hid hV
    clear hV
    rcases hb1 : decide (least ≤ (q : Int) + 1) with _ | _
    all_goals
     have HB1 := Lib.hid hb1
     gi_wp2_with fail
     clear hb1 c1 c2 c3
     by_cases hqm : q + 1 < m
     ·have hqi : (q : Int) + 1 < (m : Int) := by omega
      have hq1 : (0 : Int) ≤ (q : Int) + 1 := by omega
      have hq2 : (q : Int) + 1 < 12 := by omega
      have hw1 : IntKind.i64.wrap ((q : Int) + 1) = (q : Int) + 1 := IntWalk.i64_in _ (by omega)
      have hw2 : ((q : Int) + 1).toNat = q + 1 := by omega
      have hqd : decide ((q : Int) + 1 < (m : Int)) = true := decide_eq_true hqi
      refine wpIn_region_heldB_round 19 [] (by kernel_rfl) (by kernel_rfl) (by kernel_rfl) (by kernel_rfl) (by simp) ?_
      intro S hS
      have k0 : ∀ A, S A → A.cell? ⟨pb, 0, none⟩ = some (.int .i64 (q : Int)) ∧ A.cell? ⟨w.heap.size, 3, none⟩ = some (.int .i64 (m : Int)) := fun A hA =>
       ⟨(S2.out.below' (hS A hA)).cell 0, by rw [KndBox.most_ (S1.out.k.below' (hS A hA)), HM.out]⟩
      have K0 := Lib.hid k0
      have L2 := Lib.hid (fun A hA => KndBox.after_ (S1.out.k.below' (hS A hA)) hc)
      have L3 := Lib.hid (fun A hA => CutBox.at_ (CutBox.congr_ (S1.out.o.below' (hS A hA)) (cut' := fun p d => if p = q + 1 then endsP K m cut least (q + 1) d else (if p = q then (pre.contains d && valE K m cut least q d) else outN K m cut least (q + 1) p d)) (fun p d _ _ => by
       by_cases e : p = q + 1
       ·subst e; rw [if_pos rfl, if_neg (by omega)]; simp [outN]
       ·rw [if_neg e])) (p := q + 1) (by omega))
      simp only [if_true] at L3
      have hne := run_neq_empty (fun d => K.after c d && endsP K m cut least (q + 1) d)
      have HS := Lib.hid hS
      clear hS k0
      simp only [List.take_succ_cons, List.take_zero, List.drop_succ_cons, List.drop_zero]
      repeat (first
       | (refine held_load 108 _ (by rfl) rfl rfl L2.out ?_; try (dsimp only); try simp only [Act.put, List.setIfInBounds_toArray, List.set_cons_zero, List.set_cons_succ])
       | (refine held_load 108 _ (by rfl) rfl rfl L3.out ?_; try (dsimp only); try simp only [Act.put, List.setIfInBounds_toArray, List.set_cons_zero, List.set_cons_succ])
       | (refine held_not rfl (by rfl) ?_; try (dsimp only); try simp only [Act.put, List.setIfInBounds_toArray, List.set_cons_zero, List.set_cons_succ])
       | (refine held_val (v := ?_) rfl (by rfl) ?_ ?_; rotate_left; (· (intro W hW; obtain ⟨q0, q1⟩ := K0.out W hW; go_simp; try with_reducible rfl)); try (dsimp only); try simp only [Act.put, List.setIfInBounds_toArray, List.set_cons_zero, List.set_cons_succ])
       | (refine held_skip rfl (by rfl) ?_ ?_; (· (intro W hW; obtain ⟨q0, q1⟩ := K0.out W hW; go_simp; try with_reducible rfl)); try (dsimp only); try simp only [Act.put, List.setIfInBounds_toArray, List.set_cons_zero, List.set_cons_succ])
       | (refine held_call (v := .agg (setCells fun d => (K.after c d && endsP K m cut least (q + 1) d))) (f := 77) (args := #[.agg (setCells (K.after c)), .agg (setCells (endsP K m cut least (q + 1)))]) rfl (by rfl) ?_ ?_ ?_; (· (intro W hW; go_simp; done)); (· exact (fun W hW => cut_any _ _ W)); try (dsimp only); try simp only [Act.put, List.setIfInBounds_toArray, List.set_cons_zero, List.set_cons_succ]))
      refine held_nil ?_
      intro τ hτ W2 hW hO
      obtain rfl := laid0 hτ
      have HB2 := Lib.hid (HS.out W2 hW)
      clear hτ hO hW HS L2 L3 K0
      simp only [overs, List.foldl_nil]
      have S4 := Lib.hid (S1.out.below HB2.out)
      have d1 := (S2.out.below' HB2.out).cell 0
      have d2 := CutBox.cell_ S4.out.o (p := q) (by omega) hc
      have d3 := S4.out.o.frozen (q * 26 + c)
      rcases hany : any26 (fun d => K.after c d && endsP K m cut least (q + 1) d) with _ | _
      all_goals
       have HA : Hid (_ = _) := hany
       (try simp only [hany])
       clear hany hne
       gi_wp2_with fail
       have hk : ∀ u, Keep (fun k => k ≠ w.heap.size + 4) W2 (W2.setCell ⟨w.heap.size + 4, q * 26 + c, none⟩ u) := fun u => (Keep.refl _ W2).setCell (.inl (by simp)) _
       refine ⟨((Keep.of_below' HB2.out).trans ((hk _).mono fun k hk => by omega)), S4.out.set_ (hk _) (CutBox.congr_ (CutBox.one S4.out.o hc _) fun p d _ _ => ?_), (hk _).heap (by omega) (S2.out.below' HB2.out), (S3.out.below HB2.out).keep (hk _) fun r hr => by have := RS.out r hr; omega⟩
       by_cases e : p = q
       ·subst e
        by_cases e2 : d = c
        ·subst e2; rw [if_pos ⟨rfl, rfl⟩, if_pos rfl, HV.out, HB1.out, HA.out]; simp
        ·rw [if_neg (fun h => e2 h.2), if_pos rfl, if_pos rfl]; simp [e2]
       ·rw [if_neg (fun h => e h.1), if_neg e, if_neg e]
     ·have hqi : ¬ (q : Int) + 1 < (m : Int) := by omega
      have hw1 : IntKind.i64.wrap ((q : Int) + 1) = (q : Int) + 1 := IntWalk.i64_in _ (by omega)
      have hqd : decide ((q : Int) + 1 < (m : Int)) = false := decide_eq_false hqi
      refine wpIn_region_heldB_round 19 [] (by kernel_rfl) (by kernel_rfl) (by kernel_rfl) (by kernel_rfl) (by simp) ?_
      intro S hS
      have k0 : ∀ A, S A → A.cell? ⟨pb, 0, none⟩ = some (.int .i64 (q : Int)) ∧ A.cell? ⟨w.heap.size, 3, none⟩ = some (.int .i64 (m : Int)) := fun A hA =>
       ⟨(S2.out.below' (hS A hA)).cell 0, by rw [KndBox.most_ (S1.out.k.below' (hS A hA)), HM.out]⟩
      have K0 := Lib.hid k0
      have HS := Lib.hid hS
      clear hS k0
      simp only [List.take_succ_cons, List.take_zero, List.drop_succ_cons, List.drop_zero]
      repeat (first
       | (refine held_not rfl (by rfl) ?_; try (dsimp only); try simp only [Act.put, List.setIfInBounds_toArray, List.set_cons_zero, List.set_cons_succ])
       | (refine held_val (v := ?_) rfl (by rfl) ?_ ?_; rotate_left; (· (intro W hW; obtain ⟨q0, q1⟩ := K0.out W hW; go_simp; try with_reducible rfl)); try (dsimp only); try simp only [Act.put, List.setIfInBounds_toArray, List.set_cons_zero, List.set_cons_succ])
       | (refine held_skip rfl (by rfl) ?_ ?_; (· (intro W hW; obtain ⟨q0, q1⟩ := K0.out W hW; go_simp; try with_reducible rfl)); try (dsimp only); try simp only [Act.put, List.setIfInBounds_toArray, List.set_cons_zero, List.set_cons_succ]))
      have L2 := trivial
      have L3 := trivial
      refine held_nil ?_
      intro τ hτ W2 hW hO
      obtain rfl := laid0 hτ
      have HB2 := Lib.hid (HS.out W2 hW)
      clear hτ hO hW HS L2 L3 K0
      simp only [overs, List.foldl_nil]
      have S4 := Lib.hid (S1.out.below HB2.out)
      have d1 := (S2.out.below' HB2.out).cell 0
      have d2 := CutBox.cell_ S4.out.o (p := q) (by omega) hc
      have d3 := S4.out.o.frozen (q * 26 + c)
      gi_wp2_with fail
      have HA : Hid ((any26 fun d => K.after c d && endsP K m cut least (q + 1) d) = false) := any26_false.2 fun d _ => by rw [endsP_out K cut least (by omega)]; simp
      have hk : ∀ u, Keep (fun k => k ≠ w.heap.size + 4) W2 (W2.setCell ⟨w.heap.size + 4, q * 26 + c, none⟩ u) := fun u => (Keep.refl _ W2).setCell (.inl (by simp)) _
      refine ⟨((Keep.of_below' HB2.out).trans ((hk _).mono fun k hk => by omega)), S4.out.set_ (hk _) (CutBox.congr_ (CutBox.one S4.out.o hc _) fun p d _ _ => ?_), (hk _).heap (by omega) (S2.out.below' HB2.out), (S3.out.below HB2.out).keep (hk _) fun r hr => by have := RS.out r hr; omega⟩
      by_cases e : p = q
      ·subst e
       by_cases e2 : d = c
       ·subst e2; rw [if_pos ⟨rfl, rfl⟩, if_pos rfl, HV.out, HB1.out, HA.out]; simp
       ·rw [if_neg (fun h => e2 h.2), if_pos rfl, if_pos rfl]; simp [e2]
      ·rw [if_neg (fun h => e h.1), if_neg e, if_neg e]
   case done =>
    rintro W2 ⟨st, hpb', hmk'⟩ hD
    have c1 := hpb'.cell 0
    have S1 := Lib.hid st
    have S3 := Lib.hid hmk'
    have HD := Lib.hid hD
    clear st hpb' hmk' hD
    gi_wp2_with fail
    have hb3 : Below W2.heap.size W2 (W2.alloc (.cells #[.int .i64 ((q : Int) - 1)] 3)) := (Below.refl _ _).alloc (Nat.le_refl _) _
    have hW : w.heap.size + 5 ≤ W.heap.size := by omega
    refine HK.out q _ _ (by omega) ⟨W2.heap.size, W.heap.size :: rs, _, _, _, _, _, _, _, _, _, rfl, by omega, Box.new _ _ _, by have := (Array.getElem?_eq_some_iff.1 HD.out).1; omega, ?_, ((S3.out.cons (fun hr => by have := HML.out _ hr; omega) HD.out).below hb3), fun r hr => ?_⟩
    ·have s2 := S1.out.below hb3
     exact ⟨s2.k, s2.c, s2.l, s2.r, s2.o.congr_ fun p c hp hc => by
      refine Eq.trans ?_ (outN_step K cut least (show q < m by omega) p c).symm
      by_cases e : p = q
      ·subst e
       rw [if_pos rfl, if_pos rfl]
       congr 1
       rw [Bool.eq_iff_iff, List.contains_iff_mem, mem_classes]
       exact ⟨fun h => h.2, fun h => ⟨hc, h⟩⟩
      ·rw [if_neg e, if_neg e], s2.b⟩
    ·rcases List.mem_cons.1 hr with rfl | hr
     ·exact hW
     ·exact RS.out r hr
end Go.Proofs.YthpjffhccjlnhaaGreatDoor
namespace Go.Proofs.YthpjffhccjlnhaaGreatDoor
open Go.RowKit
attribute [local go_sem] Oper.semAt_some

def firstI (s : CS) : Int := match firstC s with | some c => c | none => -1
theorem firstI_at {s : CS} {k : Nat} (hk : k < 26) (h : s k = true) (hn : ∀ j, j < k → s j = false) : firstI s = k := by
 have : firstC s = some k := by
  rcases hf : firstC s with _ | c
  ·have := firstC_none.1 hf k hk; rw [h] at this; cases this
  ·obtain ⟨h1, h2, h3⟩ := firstC_some hf
   rcases Nat.lt_trichotomy c k with hlt | heq | hgt
   ·rw [hn c hlt] at h2; cases h2
   ·rw [heq]
   ·rw [h3 k hgt] at h; cases h
 simp [firstI, this]
theorem firstI_none {s : CS} (h : ∀ j, j < 26 → s j = false) : firstI s = -1 := by simp [firstI, firstC_none.2 h]
set_option maxRecDepth 100000 in
set_option maxHeartbeats 1000000 in
theorem index_any (s : CS) (g : Nat) (w : World) (h : SetBox w g s) :
  Calls Tryz.prog 134 #[.slice (some ⟨g, 0, none⟩) 26 26, .bool true] w fun e w' => e = .returned (.int .i64 (firstI s)) ∧ w = w' := by
 have HB := Lib.hid h
 clear h
 go_enter Tryz.func134, Tryz.ntmps134
 go_wp2_with fail
 go_loop [5, 8] (fun _ i => ∃ k : Nat, k ≤ 26 ∧ i = .int .i64 k ∧ ∀ j, j < k → s j = false) (fun _ i => 26 - (intOf i).toNat)
 case atStart => exact ⟨0, Nat.zero_le _, rfl, fun j hj => absurd hj (Nat.not_lt_zero j)⟩
 case round =>
  obtain ⟨k, hk, rfl, hall⟩ := hrel
  have HA := Lib.hid hall
  clear hall
  by_cases hlt : k < 26
  ·have hki : (k : Int) < 26 := by omega
   have hk0 : (0 : Int) ≤ (k : Int) := by omega
   have hc := HB.out.cell_ hlt
   rcases hs : s k with _ | _
   ·rw [hs] at hc
    have HS := Lib.hid hs
    clear hs
    go_wp2_with fail
    go_round
    case rel =>
     refine ⟨k + 1, by omega, by go_num, fun j hj => ?_⟩
     rcases Nat.lt_or_ge j k with h1 | h1
     ·exact HA.out j h1
     ·have : j = k := by omega
      subst this; exact HS.out
    case measure => simp [intOf]; omega
   ·rw [hs] at hc
    have HF := Lib.hid (firstI_at hlt hs HA.out)
    clear hs
    go_wp2_with fail
    go_ret
    exact ⟨ret_int HF.out.symm, rfl⟩
  ·have hkn : decide ((k : Int) < 26) = false := by simp; omega
   have HF := Lib.hid (firstI_none fun j hj => HA.out j (by omega))
   go_wp2_with fail
   go_ret
   exact ⟨ret_int HF.out.symm, rfl⟩
end Go.Proofs.YthpjffhccjlnhaaGreatDoor
namespace Go.Proofs.YthpjffhccjlnhaaGreatDoor
open Go.RowKit

/-- .. in memory of the call's own, from block B on, that may be written -/
def RowOwn (B : Nat) (w : World) (a : Option Addr) (xs : List Value) : Prop :=
 ∀ k v, xs[k]? = some v → ∃ b o, a = some ⟨b, o, none⟩ ∧ B ≤ b ∧ w.cell? ⟨b, o + k, none⟩ = some v ∧ w.frozen? ⟨b, o + k, none⟩ = false
theorem RowOwn.row {B : Nat} {w : World} {a : Option Addr} {xs : List Value} (h : RowOwn B w a xs) : Row w a xs := fun k v hv => by
 obtain ⟨b, o, h1, _, h2, _⟩ := h k v hv
 exact ⟨b, o, h1, h2⟩
theorem RowOwn.below {B : Nat} {w w' : World} {a : Option Addr} {xs : List Value} (h : RowOwn B w a xs) (hb : Below w.heap.size w w') : RowOwn B w' a xs := fun k v hv => by
 obtain ⟨b, o, h1, h2, h3, h4⟩ := h k v hv
 exact ⟨b, o, h1, h2, below_cell hb h3, (hb.frozen (p := ⟨b, o + k, none⟩) (lt_of_cell h3)).trans h4⟩
theorem RowOwn.less {B B' : Nat} {w : World} {a : Option Addr} {xs : List Value} (h : RowOwn B w a xs) (hB : B' ≤ B) : RowOwn B' w a xs := fun k v hv => by
 obtain ⟨b, o, h1, h2, h3⟩ := h k v hv
 exact ⟨b, o, h1, Nat.le_trans hB h2, h3⟩
theorem RowOwn.nil (B : Nat) (w : World) (a : Option Addr) : RowOwn B w a [] := fun k v hv => by simp at hv

theorem add_none (b o j : Nat) : (⟨b, o, none⟩ : Addr).add j = ⟨b, o + j, none⟩ := by
 unfold Addr.add
 split
 ·rename_i h; subst h; rfl
 ·rfl

theorem ownsRow_own {w : World} {base : Nat} {e : TypeId} {size n : Nat} {v : Value} {xs : List Value} (h : w.ownsRow base e size v n xs) : ∃ a cap, v = .slice a n cap ∧ RowOwn base w a xs ∧ n ≤ cap := by
 rcases h.2 with ⟨rfl, rfl⟩ | ⟨g, cap, cur, rfl, hg, hh, hc1, hc2, hcs, hcur⟩
 ·refine ⟨none, 0, rfl, ?_, Nat.le_refl _⟩
  have : xs = [] := List.eq_nil_of_length_eq_zero (by simpa using h.1)
  subst this
  exact RowOwn.nil _ _ _
 ·refine ⟨some ⟨g, 0, none⟩, cap, rfl, fun k u hu => ⟨g, 0, rfl, hg, ?_, ?_⟩, hc1⟩
  ·have := h.cells (g := g) rfl k u hu
   rwa [add_none] at this
  ·simp [World.frozen?, hh]

/-- an empty row that has just been laid -/
theorem ownsRow_empty (w : World) (base : Nat) (e : TypeId) (size : Nat) (hb : base ≤ w.heap.size) : (w.alloc (.cells #[] e)).ownsRow base e size (.slice (some ⟨w.heap.size, 0, none⟩) 0 0) 0 [] := by
 refine ⟨by simp, .inr ⟨w.heap.size, 0, #[], rfl, hb, World.alloc_heap_new _ _, Nat.le_refl _, Nat.zero_le _, by simp, by simp⟩⟩

section
variable {P : Program} (w : World)
theorem run_append_none (base : Nat) (t ty e : TypeId) (i : TypeInfo) (size : Nat) (ht : P.underlying t = some (.slice e)) (hi : P.info? e = some i)
  (v : Value) (n : Nat) (xs : List Value) (hown : w.ownsRow base e size v n xs) (c : Nat) : (Builtin.append_ #[t, t] ty #[v, .slice none 0 c]).run P w = .ok v w := by
 rcases hown.2 with ⟨rfl, rfl⟩ | ⟨g, cap, cur, rfl, _, _, hnc, _⟩
 ·simp [Builtin.append_, run_underlying ht, sizeOf, typeInfo, hi, Builtin.lenOf, Builtin.firstCells]
 ·simp [Builtin.append_, run_underlying ht, sizeOf, typeInfo, hi, Builtin.lenOf, Builtin.firstCells, hnc, storeCells]

/-- 'append(out, xs...)', xs whatever slice that shows news -/
theorem run_append_row (base : Nat) (t ty e : TypeId) (z : Value) (size bytes : Nat) (ht : P.underlying t = some (.slice e)) (hinfo : (P.info? e).map (fun i => (i.zero, i.size, i.bytes)) = some (some z, size, bytes))
  (hzs : z.cells.size = size) (hsz : 0 < size) (v : Value) (n : Nat) (xs : List Value) (hown : w.ownsRow base e size v n xs)
  (a : Option Addr) (m c : Nat) (news : List Value) (hl : news.length = m * size) (hr : Row w a news) (h1 : ∀ u ∈ news, u.oneCell' = true)
  (hlen : n + m ≤ 1000000) (hbytes : bytes ≤ 10000) (hbase : base ≤ w.heap.size) :
  ∃ v' w', (Builtin.append_ #[t, t] ty #[v, .slice a m c]).run P w = .ok v' w' ∧ w'.ownsRow base e size v' (n + m) (xs ++ news) ∧ w.grownBy w' v.ownBlock ∧ (v'.ownBlock = v.ownBlock ∨ v'.ownBlock = some w.heap.size) := by
 obtain ⟨i, hi, hzz⟩ := Option.map_eq_some_iff.1 hinfo
 simp only [Prod.mk.injEq] at hzz
 obtain ⟨hz, hs, hb⟩ := hzz
 have hb2 : (n + m) * bytes ≤ 140737488355328 := Nat.le_trans (Nat.mul_le_mul hlen hbytes) (by decide)
 rcases a with _ | ad
 ·have hn : news = [] := by
   cases news with
   | nil => rfl
   | cons u r =>
    obtain ⟨b, o, h, _⟩ := hr 0 u rfl
    cases h
  subst hn
  have hm : m = 0 := by
   rcases Nat.eq_zero_or_pos m with h | h
   ·exact h
   ·have := Nat.mul_pos h hsz
    simp at hl
    omega
  subst hm
  exact ⟨v, w, run_append_none w base t ty e i size ht hi v n xs hown c, by simpa using hown, World.grownBy.refl w _, .inl rfl⟩
 ·obtain ⟨v', w', h1, h2, h3, _, h5⟩ := run_append_own_at (P := P) w base t ty e i z size bytes ht hi hz hs hb hzs hsz v n xs hown ad m c news hl
   (fun j u hu => by
    obtain ⟨b, o, h, hc⟩ := hr j u hu
    cases h
    rw [add_none]; exact hc) h1 (by simp only [maxLen]; omega) hb2 hbase
  exact ⟨v', w', h1, h2, h3, h5⟩
end

theorem grown_below {w w' : World} {base B : Nat} {e : TypeId} {size n : Nat} {v : Value} {xs : List Value} (hown : w.ownsRow base e size v n xs) (hg : w.grownBy w' v.ownBlock) (hB : B ≤ base) (hs : B ≤ w.heap.size) : Below B w w' :=
 (Below.refl B w).grown hg hs (fun k hk => by have := (hown.lt k hk).1; omega)

/-- an append whose run is known, at the operation -/
theorem wpList_app {P : Program} {w : World} {ops : Array Oper} {rest : List Oper} {o : Oper} {a : Act} {Q : Exit → Act → World → Prop} (hg : o.guard = none) (s x : Operand) (t : TypeId)
  (hop : o.op = .call { callee := .builtin .append, args := #[s, x], argTypes := #[t, t] }) {v u v' : Value} {w' : World} (hs : a.eval s = v) (hx : a.eval x = u)
  (hrun : (Builtin.append_ #[t, t] o.type #[v, u]).run P w = .ok v' w') (hK : wpList P ops Q rest (a.put o.dst v') w') : wpList P ops Q (o :: rest) a w :=
 wpList_plain hg fun K hK' => by
  unfold Oper.wp execOp
  simp only [hop, resolve, invoke, builtin, Sem.run_bind, Sem.run_pure, Result.andThen_ok, List.map_toArray, List.map_cons, List.map_nil, hs, hx, hrun]
  exact hK' _ _ hK
theorem wpListIn_app {F : Fence} {n : Nat} {P : Program} {w : World} {ops : Array Oper} {rest : List Oper} {o : Oper} {a : Act} {Q : Exit → Act → World → Prop} (hg : o.guard = none) (s x : Operand) (t : TypeId)
  (hop : o.op = .call { callee := .builtin .append, args := #[s, x], argTypes := #[t, t] }) {v u v' : Value} {w' : World} (hs : a.eval s = v) (hx : a.eval x = u)
  (hrun : (Builtin.append_ #[t, t] o.type #[v, u]).run P w = .ok v' w') (hK : wpListIn F n P ops Q rest (a.put o.dst v') w') : wpListIn F n P ops Q (o :: rest) a w :=
 wpListIn_plain hg fun K hK' => by
  unfold Oper.wpIn
  refine ⟨?_, ?_⟩
  ·simp [Oper.about, hop, resolve, Target.leads, Sem.run_pure]
  ·rw [Oper.semAt_plain F _ _ (by rw [hop]; intro c hc'; cases hc')]
   simp [execOp, hop, resolve, invoke, builtin, hs, hx, hrun, Result.andThen]
   exact hK' _ _ hK

theorem ownsRow_keep {K : Nat → Prop} {A B : World} {base : Nat} {e : TypeId} {size n : Nat} {v : Value} {xs : List Value} (h : A.ownsRow base e size v n xs) (hk : Keep K A B) (hK : ∀ k, base ≤ k → K k) : B.ownsRow base e size v n xs := by
 refine ⟨h.1, ?_⟩
 rcases h.2 with ⟨h1, h2⟩ | ⟨g, cap, cur, h1, hg, hh, h3⟩
 ·exact .inl ⟨h1, h2⟩
 ·exact .inr ⟨g, cap, cur, h1, hg, hk.heap (hK g hg) hh, h3⟩
theorem ownsRow_nil (W : World) (base : Nat) (e : TypeId) (size : Nat) : W.ownsRow base e size (.slice none 0 0) 0 [] := ⟨by simp, .inl ⟨rfl, rfl⟩⟩
theorem info_u8 : (Tryz.prog.info? 5).map (fun i => (i.zero, i.size, i.bytes)) = some (some (.int .u8 0), 1, 1) := by kernel_rfl
theorem app_one {E TT : TypeId} {z : Value} {bytes : Nat} (ht : Tryz.prog.underlying TT = some (.slice E)) (hi : (Tryz.prog.info? E).map (fun i => (i.zero, i.size, i.bytes)) = some (some z, 1, bytes)) (hz : z.cells.size = 1) (hby : bytes ≤ 10000) {base : Nat} {W : World} {v : Value} {j : Nat} {xs : List Value} (h : W.ownsRow base E 1 v j xs) (hj : j + 1 ≤ 1000000) (hB : base ≤ W.heap.size) (u : Value) (hu : u.oneCell' = true) :
  ∃ v' U, (Builtin.append_ #[TT, TT] TT #[v, .slice (some ⟨W.heap.size, 0, none⟩) 1 1]).run Tryz.prog (W.alloc (.cells #[u] E)) = .ok v' U ∧ U.ownsRow base E 1 v' (j + 1) (xs ++ [u]) ∧ Below base W U := by
 obtain ⟨v', U, hrun, hown, hg, _⟩ := run_append_row (P := Tryz.prog) (W.alloc (.cells #[u] E)) base TT TT E z 1 bytes ht hi hz (by omega)
  _ _ _ (ownsRow_keep h ((Keep.refl (fun _ => True) W).alloc (.cells #[u] E)) (fun _ _ => trivial)) (some ⟨W.heap.size, 0, none⟩) 1 1 [u] rfl (fun j u hu => ⟨W.heap.size, 0, rfl, by rw [(Box.new W _ _).cell, Nat.zero_add]; simpa using hu⟩) (by simpa using hu) (by omega) (by omega) (by simp; omega)
 exact ⟨v', U, hrun, hown, ((Below.refl _ W).alloc hB (.cells #[u] E)).grown hg (by simp; omega) (fun k hk => (h.lt k hk).1)⟩
end Go.Proofs.YthpjffhccjlnhaaGreatDoor
namespace Go.Proofs.YthpjffhccjlnhaaGreatDoor
open Go.RowKit
attribute [local go_sem] Oper.semAt_some

def wordP (K : Knd) (m : Nat) (cut : Nat → CS) (least : Int) (p : Nat) (now : CS) : List Nat := wordR K.kd m cut least (m - p) now
theorem wordP_none (K : Knd) (m : Nat) (cut : Nat → CS) (least : Int) (p : Nat) {now : CS} (h : any26 now = false) : wordP K m cut least p now = [] := by
 unfold wordP
 cases m - p with
 | zero => rfl
 | succ r => rw [wordR, firstC_none.2 fun c hc => any26_false.1 h c hc]
theorem wordP_step (K : Knd) {m : Nat} (cut : Nat → CS) (least : Int) {p c : Nat} {now : CS} (hp : p < m) (hf : firstC now = some c) :
  wordP K m cut least p now = c :: if decide (least ≤ (p : Int) + 1) && K.base c then [] else wordP K m cut least (p + 1) (fun d => K.after c d && endsP K m cut least (p + 1) d) := by
 unfold wordP
 rw [show m - p = m - (p + 1) + 1 by omega, wordR, hf]
 simp only [stopB, show m - (m - (p + 1)) = p + 1 by omega]
 rfl
theorem firstI_of {s : CS} {c : Nat} (h : firstC s = some c) : firstI s = c := by simp [firstI, h]
theorem first_any {s : CS} (h : any26 s = true) : ∃ c, firstC s = some c ∧ c < 26 ∧ s c = true := by
 rcases hf : firstC s with _ | c
 ·obtain ⟨c, hc, h1⟩ := any26_iff.1 h
  rw [firstC_none.1 hf c hc] at h1; cases h1
 ·exact ⟨c, rfl, (firstC_some hf).1, (firstC_some hf).2.1⟩
/-- a row of bytes of one's own, made a string -/
theorem run_str_own {w : World} {base : Nat} {v : Value} {n : Nat} {l : List UInt8} (h : w.ownsRow base 5 1 v n (l.map fun b => .int .u8 (b.toNat : Int))) :
  (convert 98 9 v).run Tryz.prog w = .ok (.string (mkB l)) w := by
 have hl := h.1
 simp only [List.length_map, Nat.mul_one] at hl
 subst hl
 obtain ⟨a, cap, rfl, hr, _⟩ := ownsRow_own h
 rcases l with _ | ⟨b, l⟩
 ·rcases a with _ | a
  ·exact run_convert_bytes_nil w _ 5 Tryz.underlying98 Tryz.underlying5 0 cap _ Tryz.underlying9
  ·exact run_convert_bytes_back w _ _ 5 a cap [] Tryz.underlying98 Tryz.underlying5 Tryz.underlying9 (fun j hj => by simp at hj)
 ·obtain ⟨g, o, ha, _⟩ := hr 0 _ rfl
  subst ha
  refine run_convert_bytes_back w _ _ 5 ⟨g, o, none⟩ cap (b :: l) Tryz.underlying98 Tryz.underlying5 Tryz.underlying9 (fun j hj => ?_)
  obtain ⟨g', o', ha', _, hc, _⟩ := hr j (.int .u8 (((b :: l)[j]'hj).toNat : Int)) (by rw [List.getElem?_map, List.getElem?_eq_getElem hj]; rfl)
  cases ha'
  rw [add_none]; exact hc
def letV (c : Nat) : Value := .int .u8 ((chC c).toNat : Int)
theorem letV_eq {c : Nat} (h : c < 26) : IntKind.u8.wrap (IntKind.i64.wrap (97 + (c : Int))) = ((chC c).toNat : Int) := by
 rw [chC_nat h, IntWalk.i64_in _ (by omega)]
 unfold IntKind.wrap; simp [IntKind.bits, IntKind.signed]; omega
/-- the memory of word at its loop -/
structure WordSt (K : Knd) (m : Nat) (cut : Nat → CS) (least : Int) (B e n : Nat) (w W : World) (now : CS) : Prop where
 k : KndBox W B K
 e : CutBox W e (endsP K m cut least)
 n : SetBox W n now
 b : Below B w W
 s : B ≤ w.heap.size
theorem WordSt.below {K : Knd} {m : Nat} {cut : Nat → CS} {least : Int} {B e n : Nat} {w W W' : World} {now : CS} (h : WordSt K m cut least B e n w W now) (hb : Below W.heap.size W W') : WordSt K m cut least B e n w W' now :=
 ⟨h.k.below' hb, h.e.below' hb, h.n.below' hb, h.b.trans (hb.mono (Nat.le_trans h.s h.b.size)), h.s⟩
theorem WordSt.keep {K : Knd} {m : Nat} {cut : Nat → CS} {least : Int} {B e n z : Nat} {w W W' : World} {now : CS} (h : WordSt K m cut least B e n w W now) (hb : Below z W W') (h1 : B < z) (h2 : e < z) (h3 : n < z) : WordSt K m cut least B e n w W' now :=
 ⟨h.k.below hb h1, h.e.below hb h2, h.n.below hb h3, h.b.trans (hb.mono (by omega)), h.s⟩
set_option maxRecDepth 100000 in
set_option maxHeartbeats 1000000 in
theorem word_any (K : Knd) (cut : Nat → CS) (least : Int) (m : Nat) (hm : K.typ.most = m) (hm12 : m ≤ 12) (w : World) :
  Calls Tryz.prog 79 #[.agg (kndCells K), .agg (cutCells cut), .int .i64 least] w fun e w' =>
   e = .returned (.string (mkB (toS (wordP K m cut least 0 fun c => K.rim c && endsP K m cut least 0 c)))) ∧ Below w.heap.size w w' := by
 obtain ⟨w1, hw1⟩ : ∃ w1, (w.alloc (.cells (kndCells K) 111)).alloc (.cells (cutCells cut) 117) = w1 := ⟨_, rfl⟩
 have b0 : KndBox w1 w.heap.size K := by rw [← hw1]; exact (Box.new _ _ _).alloc _
 have b1 : CutBox w1 (w.heap.size + 1) cut := by rw [← hw1]; exact Box.new' (by simp)
 have hB : Below w.heap.size w w1 := by rw [← hw1]; go_grown
 have HL0 := Lib.hid (KndBox.load b0)
 have HL1 := Lib.hid (CutBox.load b1)
 have B0 := Lib.hid b0
 have HB := Lib.hid hB
 have HW := Lib.hid hw1
 have HM := Lib.hid hm
 clear b0 b1 hB hw1 hm
 go_enter Tryz.func79, Tryz.ntmps79
 go_upto_region 1 with fail
 simp only [HW.out]
 go_upto_region 2 with (first
  | (refine wpList_load_box rfl 111 _ rfl rfl HL0.out ?_)
  | (refine wpList_load_box rfl 117 _ rfl rfl HL1.out ?_))
 refine (ends_any K cut least m HM.out hm12 w1).mono ?_
 rintro e w2 ⟨rfl, hb2⟩
 obtain ⟨w3, hw3⟩ : ∃ w3, w2.alloc (.cells (cutCells fun _ _ => false) 117) = w3 := ⟨_, rfl⟩
 have b3 : CutBox w3 w2.heap.size (fun _ _ => false) := by rw [← hw3]; exact Box.new _ _ _
 have hb3 : Below w2.heap.size w2 w3 := by rw [← hw3]; go_grown
 obtain ⟨w4, hst, hw4⟩ := CutBox.store b3 (endsP K m cut least)
 have gs1 : w1.heap.size = w.heap.size + 2 := by rw [← HW.out]; simp
 have gs2 := hb2.size
 have gs4 : w4.heap.size = w2.heap.size + 1 := by rw [hw4.size, ← hw3]; simp
 have hk0 : KndBox w4 w.heap.size K := (hw4.far ((B0.out.below' hb2).below' hb3) (by omega))
 have HE4 := Lib.hid hw4.box
 have HB4 := Lib.hid (hw4.below ((HB.out.trans (hb2.mono HB.out.size)).trans (hb3.mono (by omega))) (by omega))
 have HL2 := Lib.hid (KndBox.rim_ hk0)
 have HL3 := Lib.hid (CutBox.at_ hw4.box (p := 0) (by omega))
 have HK4 := Lib.hid hk0
 have HW3 := Lib.hid hw3
 have HST := Lib.hid hst
 clear hb2 hw3 b3 hb3 hst hw4 hk0 HL0 HL1 B0 HB HW
 go_upto_region 3 with (simp only [zcut, HW3.out]; refine wpList_store_box rfl 117 _ _ rfl rfl rfl HST.out ?_)
 go_upto_region 4 with (first
  | (refine wpList_load_box rfl 108 _ rfl rfl HL2.out ?_)
  | (simp only [Nat.zero_mul, Nat.zero_add] at HL3; refine wpList_load_box rfl 108 _ rfl rfl HL3.out ?_))
 refine (cut_any K.rim (endsP K m cut least 0) w4).mono ?_
 rintro e w5 ⟨rfl, hb5⟩
 obtain ⟨w6, hw6⟩ : ∃ w6, w5.alloc (.cells (setCells fun _ => false) 108) = w6 := ⟨_, rfl⟩
 have b6 : SetBox w6 w5.heap.size (fun _ => false) := by rw [← hw6]; exact Box.new _ _ _
 have hb6 : Below w5.heap.size w5 w6 := by rw [← hw6]; go_grown
 obtain ⟨w7, hst, hw7⟩ := store_set b6 (fun d => K.rim d && endsP K m cut least 0 d)
 have gs5 := hb5.size
 have gs7 : w7.heap.size = w5.heap.size + 1 := by rw [hw7.size, ← hw6]; simp
 have S7 : WordSt K m cut least w.heap.size w2.heap.size w5.heap.size w w7 (fun d => K.rim d && endsP K m cut least 0 d) :=
  ⟨hw7.far ((HK4.out.below' hb5).below' hb6) (by omega), hw7.far ((HE4.out.below' hb5).below' hb6) (by omega), hw7.box, hw7.below ((HB4.out.trans (hb5.mono (by omega))).trans (hb6.mono (by omega))) (by omega), Nat.le_refl _⟩
 have ST := Lib.hid S7
 have HW6 := Lib.hid hw6
 have HST := Lib.hid hst
 clear hb5 hw6 b6 hb6 hst hw7 S7 HL2 HL3 HE4 HB4 HK4
 go_wp2_with (simp only [zset, HW6.out]; refine wpList_store_box rfl 108 _ _ rfl rfl rfl HST.out ?_)
 clear HST HW6
 obtain ⟨W0, hW0⟩ : ∃ W0, wordP K m cut least 0 (fun c => K.rim c && endsP K m cut least 0 c) = W0 := ⟨_, rfl⟩
 have HW0 := Lib.hid hW0
 clear hW0
 go_loopw [8, 10] (fun ov iv wr => ∃ (p : Nat) (pre : List Nat) (now : CS), p ≤ m ∧ iv = .int .i64 p ∧ wr.ownsRow w7.heap.size 5 1 ov p (pre.map letV) ∧ pre ++ wordP K m cut least p now = W0 ∧ (∀ c, c < 26 → now c = true → endsP K m cut least p c = true) ∧ w7.heap.size ≤ wr.heap.size ∧ WordSt K m cut least w.heap.size w2.heap.size w5.heap.size w wr now) (fun _ iv _ => m - (intOf iv).toNat)
 case atStart => exact ⟨0, [], _, Nat.zero_le _, rfl, ownsRow_nil _ _ _ _, HW0.out, fun c _ h => by simp only [Bool.and_eq_true] at h; exact h.2, Nat.le_refl _, ST.out⟩
 case round =>
  clear ST
  obtain ⟨p, pre, now, hp, rfl, hrow, hpre, hnow, hsz, st⟩ := hrel
  have HR := Lib.hid hrow
  have HP := Lib.hid hpre
  have HN := Lib.hid hnow
  have ST := Lib.hid st
  clear hrow hpre hnow st
  have HL := Lib.hid (load_set ST.out.n)
  have hne := run_neq_empty now
  rcases ha : any26 now with _ | _
  ·rw [ha] at hne
   have HA := Lib.hid ha
   clear ha
   have HC := Lib.hid (run_str_own (w := wr) (l := toS pre) (n := p) (base := w7.heap.size) (v := u8) (by rw [show (toS pre).map (fun b => Value.int .u8 (b.toNat : Int)) = pre.map letV from by simp [toS, letV]]; exact HR.out))
   have HE := Lib.hid (show pre = wordP K m cut least 0 fun c => K.rim c && endsP K m cut least 0 c by rw [HW0.out, ← HP.out, wordP_none K m cut least p HA.out, List.append_nil])
   have hC := HC.out
   go_wp2_with (refine wpList_load_box rfl 108 _ rfl rfl HL.out ?_)
   go_ret
   exact ⟨by rw [HE.out]; rfl, ST.out.b⟩
  ·rw [ha] at hne
   obtain ⟨c, hc1, hc, hc2⟩ := first_any ha
   have hpm : p < m := by
    rcases Nat.lt_or_ge p m with h | h
    ·exact h
    ·have := HN.out c hc hc2
     rw [endsP_out K cut least h] at this; cases this
   have hci : (c : Int) < 26 := by omega
   have hc0 : (0 : Int) ≤ (c : Int) := by omega
   have hw1 : IntKind.i64.wrap ((97 : Int) + (c : Int)) = (97 : Int) + (c : Int) := IntWalk.i64_in _ (by omega)
   have hw2 : IntKind.u8.wrap ((97 : Int) + (c : Int)) = ((chC c).toNat : Int) := by rw [← hw1]; exact letV_eq hc
   have hw3 : IntKind.i64.wrap ((p : Int) + 1) = (p : Int) + 1 := IntWalk.i64_in _ (by omega)
   have hba := ST.out.k.baseAt hc
   obtain ⟨v2, U, hrun, hown, hbU⟩ := app_one (E := 5) (TT := 98) Tryz.underlying98 info_u8 rfl (by omega) HR.out (by omega) hsz (letV c) rfl
   have HRN := Lib.hid hrun
   have HOW := Lib.hid hown
   have HBU := Lib.hid hbU
   have STU := Lib.hid (ST.out.keep hbU (by have := ST.out.k.lt; have := ST.out.s; omega) (by omega) (by omega))
   have HF := Lib.hid hc1
   have HI := Lib.hid (index_any now w5.heap.size wr ST.out.n)
   have HCI := Lib.hid (firstI_of hc1)
   have HCN := Lib.hid hc2
   clear ha hrun hown hbU hc1 hc2
   go_upto_region 9 with (first
    | (refine wpList_load_box rfl 108 _ rfl rfl HL.out ?_)
    | (go_at_call 134; (with_reducible refine HI.out.mono ?_); rintro e w8 ⟨rfl, rfl⟩; simp only [HCI.out])
    | (at_builtin; refine wpList_app rfl _ _ _ rfl rfl rfl HRN.out ?_))
   have hstep := wordP_step K cut least hpm HF.out
   have hend := HN.out c hc HCN.out
   rw [endsP_step K cut least hpm] at hend
   simp only [Bool.and_eq_true] at hend
   have hval := hend.2
   clear hend
   have HP2 := Lib.hid HP.out
   have hbU := STU.out.k.baseAt hc
   rcases hb1 : decide (least ≤ (p : Int) + 1) with _ | _
   ·have hstop : (decide (least ≤ (p : Int) + 1) && K.base c) = false := by simp [hb1]
    go_upto_region 10 with fail
    have hany : any26 (fun d => K.after c d && endsP K m cut least (p + 1) d) = true := by
     unfold valE at hval
     have e : ((p + 1 : Nat) : Int) = (p : Int) + 1 := by omega
     rw [e, hstop, Bool.false_or] at hval
     exact hval
    have hp1 : p + 1 < m := by
     rcases Nat.lt_or_ge (p + 1) m with h | h
     ·exact h
     ·obtain ⟨d, hd, h1⟩ := any26_iff.1 hany
      rw [endsP_out K cut least h] at h1; simp at h1
    have hq1 : (0 : Int) ≤ (p : Int) + 1 := by omega
    have hq2 : (p : Int) + 1 < 12 := by omega
    have hq3 : ((p : Int) + 1).toNat = p + 1 := by omega
    rw [hstop] at hstep
    have HSTEP := Lib.hid hstep
    clear hstep hval hany hstop hb1 hbU hne
    refine wp_region_heldB 9 [] (by kernel_rfl) (by kernel_rfl) (by kernel_rfl) (by simp) ?_
    intro S hS
    have L2 := Lib.hid (fun A hA => KndBox.after_ (STU.out.k.below' (hS A hA)) hc)
    have L3 := Lib.hid (fun A hA => CutBox.at_ (STU.out.e.below' (hS A hA)) (p := p + 1) (by omega))
    have HS := Lib.hid hS
    clear hS
    simp only [List.take_succ_cons, List.take_zero, List.drop_succ_cons, List.drop_zero]
    repeat (first
     | (refine held_load 108 _ (by rfl) rfl rfl L2.out ?_; try (dsimp only); try simp only [Act.put, List.setIfInBounds_toArray, List.set_cons_zero, List.set_cons_succ])
     | (refine held_load 108 _ (by rfl) rfl rfl L3.out ?_; try (dsimp only); try simp only [Act.put, List.setIfInBounds_toArray, List.set_cons_zero, List.set_cons_succ])
     | (refine held_not rfl (by rfl) ?_; try (dsimp only); try simp only [Act.put, List.setIfInBounds_toArray, List.set_cons_zero, List.set_cons_succ])
     | (refine held_val (v := ?_) rfl (by rfl) ?_ ?_; rotate_left; (· (intro W hW; go_simp; try with_reducible rfl)); try (dsimp only); try simp only [Act.put, List.setIfInBounds_toArray, List.set_cons_zero, List.set_cons_succ])
     | (refine held_skip rfl (by rfl) ?_ ?_; (· (intro W hW; go_simp; try with_reducible rfl)); try (dsimp only); try simp only [Act.put, List.setIfInBounds_toArray, List.set_cons_zero, List.set_cons_succ])
     | (refine held_call (v := .agg (setCells fun d => (K.after c d && endsP K m cut least (p + 1) d))) (f := 77) (args := #[.agg (setCells (K.after c)), .agg (setCells (endsP K m cut least (p + 1)))]) rfl (by rfl) ?_ ?_ ?_; (· (intro W hW; go_simp; done)); (· exact (fun W hW => cut_any _ _ W)); try (dsimp only); try simp only [Act.put, List.setIfInBounds_toArray, List.set_cons_zero, List.set_cons_succ]))
    refine held_nil ?_
    intro τ hτ W2 hW hO
    obtain rfl := laid0 hτ
    have HB2 := Lib.hid (HS.out W2 hW)
    clear hτ hO hW HS L2 L3
    simp only [overs, List.foldl_nil]
    have S2 := STU.out.below HB2.out
    obtain ⟨W3, hst, hw3⟩ := store_set S2.n (fun d => K.after c d && endsP K m cut least (p + 1) d)
    have HST := Lib.hid hst
    have HW3' := Lib.hid hw3
    have hUs : w7.heap.size ≤ U.heap.size := Nat.le_trans hsz HBU.out.size
    have hW2s := HB2.out.size
    have ST2 := Lib.hid S2
    clear hst hw3 S2
    go_wp2_with (refine wpList_store_box rfl 108 _ _ rfl rfl rfl HST.out ?_)
    go_roundw
    case rel =>
     have hns := STU.out.s
     have hkl := STU.out.k.lt
     refine ⟨p + 1, pre ++ [c], _, by omega, by go_num, ?_, by rw [← HP2.out, HSTEP.out]; simp, fun d hd h => by simp only [Bool.and_eq_true] at h; exact h.2, by have := HW3'.out.size; omega, ⟨HW3'.out.far ST2.out.k (by omega), HW3'.out.far ST2.out.e (by omega), HW3'.out.box, HW3'.out.below ST2.out.b (by omega), hns⟩⟩
     have hk := (Keep.of_below' (K := fun _ => True) HB2.out).mono (K' := fun k => k ≠ w5.heap.size) (fun _ _ => trivial)
     have := ownsRow_keep HOW.out (hk.trans HW3'.out.keep) fun k hk => by omega
     simpa using this
    case measure => simp [intOf]; omega
   ·rcases hb2 : K.base c with _ | _
    ·have hstop : (decide (least ≤ (p : Int) + 1) && K.base c) = false := by simp [hb1, hb2]
     rw [hb2] at hbU
     go_upto_region 10 with fail
     have hany : any26 (fun d => K.after c d && endsP K m cut least (p + 1) d) = true := by
      unfold valE at hval
      have e : ((p + 1 : Nat) : Int) = (p : Int) + 1 := by omega
      rw [e, hstop, Bool.false_or] at hval
      exact hval
     have hp1 : p + 1 < m := by
      rcases Nat.lt_or_ge (p + 1) m with h | h
      ·exact h
      ·obtain ⟨d, hd, h1⟩ := any26_iff.1 hany
       rw [endsP_out K cut least h] at h1; simp at h1
     have hq1 : (0 : Int) ≤ (p : Int) + 1 := by omega
     have hq2 : (p : Int) + 1 < 12 := by omega
     have hq3 : ((p : Int) + 1).toNat = p + 1 := by omega
     rw [hstop] at hstep
     have HSTEP := Lib.hid hstep
     clear hstep hval hany hstop hb1 hbU hne
     refine wp_region_heldB 9 [] (by kernel_rfl) (by kernel_rfl) (by kernel_rfl) (by simp) ?_
     intro S hS
     have L2 := Lib.hid (fun A hA => KndBox.after_ (STU.out.k.below' (hS A hA)) hc)
     have L3 := Lib.hid (fun A hA => CutBox.at_ (STU.out.e.below' (hS A hA)) (p := p + 1) (by omega))
     have HS := Lib.hid hS
     clear hS
     simp only [List.take_succ_cons, List.take_zero, List.drop_succ_cons, List.drop_zero]
     repeat (first
      | (refine held_load 108 _ (by rfl) rfl rfl L2.out ?_; try (dsimp only); try simp only [Act.put, List.setIfInBounds_toArray, List.set_cons_zero, List.set_cons_succ])
      | (refine held_load 108 _ (by rfl) rfl rfl L3.out ?_; try (dsimp only); try simp only [Act.put, List.setIfInBounds_toArray, List.set_cons_zero, List.set_cons_succ])
      | (refine held_not rfl (by rfl) ?_; try (dsimp only); try simp only [Act.put, List.setIfInBounds_toArray, List.set_cons_zero, List.set_cons_succ])
      | (refine held_val (v := ?_) rfl (by rfl) ?_ ?_; rotate_left; (· (intro W hW; go_simp; try with_reducible rfl)); try (dsimp only); try simp only [Act.put, List.setIfInBounds_toArray, List.set_cons_zero, List.set_cons_succ])
      | (refine held_skip rfl (by rfl) ?_ ?_; (· (intro W hW; go_simp; try with_reducible rfl)); try (dsimp only); try simp only [Act.put, List.setIfInBounds_toArray, List.set_cons_zero, List.set_cons_succ])
      | (refine held_call (v := .agg (setCells fun d => (K.after c d && endsP K m cut least (p + 1) d))) (f := 77) (args := #[.agg (setCells (K.after c)), .agg (setCells (endsP K m cut least (p + 1)))]) rfl (by rfl) ?_ ?_ ?_; (· (intro W hW; go_simp; done)); (· exact (fun W hW => cut_any _ _ W)); try (dsimp only); try simp only [Act.put, List.setIfInBounds_toArray, List.set_cons_zero, List.set_cons_succ]))
     refine held_nil ?_
     intro τ hτ W2 hW hO
     obtain rfl := laid0 hτ
     have HB2 := Lib.hid (HS.out W2 hW)
     clear hτ hO hW HS L2 L3
     simp only [overs, List.foldl_nil]
     have S2 := STU.out.below HB2.out
     obtain ⟨W3, hst, hw3⟩ := store_set S2.n (fun d => K.after c d && endsP K m cut least (p + 1) d)
     have HST := Lib.hid hst
     have HW3' := Lib.hid hw3
     have hUs : w7.heap.size ≤ U.heap.size := Nat.le_trans hsz HBU.out.size
     have hW2s := HB2.out.size
     have ST2 := Lib.hid S2
     clear hst hw3 S2
     go_wp2_with (refine wpList_store_box rfl 108 _ _ rfl rfl rfl HST.out ?_)
     go_roundw
     case rel =>
      have hns := STU.out.s
      have hkl := STU.out.k.lt
      refine ⟨p + 1, pre ++ [c], _, by omega, by go_num, ?_, by rw [← HP2.out, HSTEP.out]; simp, fun d hd h => by simp only [Bool.and_eq_true] at h; exact h.2, by have := HW3'.out.size; omega, ⟨HW3'.out.far ST2.out.k (by omega), HW3'.out.far ST2.out.e (by omega), HW3'.out.box, HW3'.out.below ST2.out.b (by omega), hns⟩⟩
      have hk := (Keep.of_below' (K := fun _ => True) HB2.out).mono (K' := fun k => k ≠ w5.heap.size) (fun _ _ => trivial)
      have := ownsRow_keep HOW.out (hk.trans HW3'.out.keep) fun k hk => by omega
      simpa using this
     case measure => simp [intOf]; omega
    ·have hstop : (decide (least ≤ (p : Int) + 1) && K.base c) = true := by simp [hb1, hb2]
     rw [hb2] at hbU
     have HC := Lib.hid (run_str_own (w := U) (l := toS (pre ++ [c])) (n := p + 1) (base := w7.heap.size) (v := v2) (by rw [show (toS (pre ++ [c])).map (fun b => Value.int .u8 (b.toNat : Int)) = pre.map letV ++ [letV c] from by simp [toS, letV]]; exact HOW.out))
     have HE := Lib.hid (show pre ++ [c] = wordP K m cut least 0 fun c => K.rim c && endsP K m cut least 0 c by rw [HW0.out, ← HP2.out, hstep, hstop]; rfl)
     have hC := HC.out
     go_wp2_with fail
     go_ret
     exact ⟨by rw [HE.out]; rfl, STU.out.b⟩
end Go.Proofs.YthpjffhccjlnhaaGreatDoor
