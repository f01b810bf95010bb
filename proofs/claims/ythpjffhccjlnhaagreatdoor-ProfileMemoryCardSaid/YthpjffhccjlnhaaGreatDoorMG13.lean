/- Package profile: Choices. No condition. -/
/- slices.Clone, IndexFunc, DeleteFunc, Backward at []int, for the chapter's seat: what is deleted is one number. No condition. -/
/- Package profile: the rings of some places. No condition. -/
import Derived.Test.YthpjffhccjlnhaaGreatDoorMG12
import Derived.Lib.SliceRun
set_option linter.unusedSimpArgs false
set_option linter.unusedVariables false
namespace Go.Proofs.YthpjffhccjlnhaaGreatDoor
open Go.RowKit
attribute [local go_sem] Oper.semAt_some

def liveX (l : List Typ) (r : List Rng) (n : Nat) (x : Nat × Nat) : CS := match l[x.1]? with | some t => livOf t r x.2 (x.2 + n) | none => fun _ => false
/-- the classes that some of the tries have at a place -/
def choTo (l : List Typ) (r : List Rng) (n : Nat) (xs : List (Nat × Nat)) : CS := fun c => xs.any fun x => liveX l r n x c
theorem choTo_snoc (l : List Typ) (r : List Rng) (n : Nat) (xs : List (Nat × Nat)) (x : Nat × Nat) (c : Nat) : choTo l r n (xs ++ [x]) c = (choTo l r n xs c || liveX l r n x c) := by simp [choTo]
theorem choTo_all (l : List Typ) (ware : ByteArray) (r : List Rng) (n : Nat) {c : Nat} (hc : c < 26) : choTo l r n (triesOf l ware r) c = choicesT l ware r n c := by
 rw [Bool.eq_iff_iff, choices_iff l ware r n hc]
 unfold choTo
 rw [List.any_eq_true]
 constructor
 ·rintro ⟨⟨i, s⟩, hx, h⟩
  rcases ht : l[i]? with _ | t
  ·simp [liveX, ht] at h
  ·exact ⟨i, s, t, hx, ht, by simpa [liveX, ht] using h⟩
 ·rintro ⟨i, s, t, hx, ht, h⟩
  exact ⟨(i, s), hx, by simpa [liveX, ht] using h⟩
theorem liv_eq (t : Typ) (i : Int) (r : List Rng) (s p : Nat) : livP (kndOf t i) t.m (cutOf r s) (leastOf4 t r s) p = livOf t r s p := rfl
def choicesOut (l : List Typ) (ware : ByteArray) (r : List Rng) (n : Int) : Value :=
 if wantedErr l ware r = 0 then (if inB n 0 11 then .tuple #[.string (mkB (str (choicesT l ware r n.toNat))), .int .i64 0] else .tuple #[.string ByteArray.empty, .int .i64 1]) else .tuple #[.string ByteArray.empty, .int .i64 (wantedErr l ware r)]
/-- the memory of Choices -/
structure ChSt (n : Int) (g : Nat) (f : CS) (w W : World) : Prop where
 n : IntBox W w.heap.size n
 o : SetBox W g f
 b : Below w.heap.size w W
 gz : w.heap.size < g
theorem ChSt.below {n : Int} {g : Nat} {f : CS} {w W W' : World} (h : ChSt n g f w W) (hb : Below W.heap.size W W') : ChSt n g f w W' := ⟨h.n.below' hb, h.o.below' hb, h.b.trans (hb.mono h.b.size), h.gz⟩
set_option maxRecDepth 100000 in
set_option maxHeartbeats 1000000 in
theorem choices_no (a : Option Addr) (c : Nat) (l : List Typ) (ware : ByteArray) (ra : Option Addr) (rc : Nat) (r : List Rng) (n : Int) (w : World) (h : Ask w a c l ra rc r) (hno : ¬ (wantedErr l ware r = 0 ∧ inB n 0 11 = true)) :
  Calls Tryz.prog 34 #[.slice a l.length c, .string ware, .slice ra r.length rc, .int .i64 n] w fun e w' => e = .returned (choicesOut l ware r n) ∧ Below w.heap.size w w' := by
 obtain ⟨w1, hw1⟩ : ∃ w1, w.alloc (.cells #[.int .i64 n] 3) = w1 := ⟨_, rfl⟩
 have b0 : IntBox w1 w.heap.size n := by rw [← hw1]; exact Box.new _ _ _
 have hB : Below w.heap.size w w1 := by rw [← hw1]; go_grown
 have HA := Lib.hid (h.below hB)
 have B0 := Lib.hid b0
 have HB := Lib.hid hB
 have HW := Lib.hid hw1
 clear h b0 hB hw1
 go_enter Tryz.func34, Tryz.ntmps34
 go_upto_region 1 with fail
 simp only [HW.out]
 go_wp2_with fail
 refine (HA.out.wanted ware).mono ?_
 rintro e w2 ⟨rfl, hb2⟩
 have B2 := (B0.out.below' hb2).cell 0
 have HB2 := Lib.hid (HB.out.trans (hb2.mono HB.out.size))
 clear hb2 HA
 by_cases h0 : wantedErr l ware r = 0
 ·have hin : inB n 0 11 = false := by
   rcases hq : inB n 0 11 with _ | _
   ·rfl
   ·exact absurd ⟨h0, hq⟩ hno
  have HE : Hid (choicesOut l ware r n = .tuple #[.string ByteArray.empty, .int .i64 1]) := Lib.hid (by unfold choicesOut; rw [if_pos h0, hin]; rfl)
  rw [h0]
  clear h0 hno
  go_wp2_with fail
  have hi := in_any n 0 11 w2
  rw [hin] at hi
  refine hi.mono ?_
  rintro e w3 ⟨rfl, rfl⟩
  clear hi hin
  go_wp2_with fail
  exact bodyPost_ret (results_tmp_tmp4 rfl) rfl ⟨by rw [HE.out]; rfl, HB2.out⟩
 ·have HE : Hid (choicesOut l ware r n = .tuple #[.string ByteArray.empty, .int .i64 (wantedErr l ware r)]) := Lib.hid (by unfold choicesOut; rw [if_neg h0])
  have hne : (wantedErr l ware r == 0) = false := by simpa using h0
  go_wp2_with fail
  exact bodyPost_ret (results_tmp_tmp4 rfl) rfl ⟨by rw [HE.out]; rfl, HB2.out⟩
set_option maxRecDepth 100000 in
set_option maxHeartbeats 4000000 in
theorem choices_any (a : Option Addr) (c : Nat) (l : List Typ) (ware : ByteArray) (ra : Option Addr) (rc : Nat) (r : List Rng) (n : Int) (w : World) (h : Ask w a c l ra rc r) :
  Calls Tryz.prog 34 #[.slice a l.length c, .string ware, .slice ra r.length rc, .int .i64 n] w fun e w' => e = .returned (choicesOut l ware r n) ∧ Below w.heap.size w w' := by
 by_cases hno : wantedErr l ware r = 0 ∧ inB n 0 11 = true
 rotate_left
 ·exact choices_no a c l ware ra rc r n w h hno
 obtain ⟨h0, hin⟩ := hno
 have hmf := run_mf Tryz.prog
 obtain ⟨hl, hr, -⟩ := wanted_good h0
 obtain ⟨k, rfl⟩ : ∃ k : Nat, n = k := ⟨n.toNat, by simp [inB] at hin; omega⟩
 have hk11 : k ≤ 11 := by simp [inB] at hin; omega
 obtain ⟨w1, hw1⟩ : ∃ w1, w.alloc (.cells #[.int .i64 (k : Int)] 3) = w1 := ⟨_, rfl⟩
 have b0 : IntBox w1 w.heap.size k := by rw [← hw1]; exact Box.new _ _ _
 have hB : Below w.heap.size w w1 := by rw [← hw1]; go_grown
 have gs1 : w1.heap.size = w.heap.size + 1 := by rw [← hw1]; simp
 have hwt := (h.below hB).wanted ware
 rw [h0] at hwt
 have hi := fun W => in_any (k : Int) 0 11 W
 rw [hin] at hi
 have HIN := Lib.hid hi
 have HWT := Lib.hid hwt
 have HA := Lib.hid h
 have B0 := Lib.hid b0
 have HB := Lib.hid hB
 have HW := Lib.hid hw1
 have GS1 := Lib.hid gs1
 have HE : Hid (choicesOut l ware r k = .tuple #[.string (mkB (str (choicesT l ware r k))), .int .i64 0]) := Lib.hid (by unfold choicesOut; rw [if_pos h0, hin]; rfl)
 have HGD := Lib.hid (typesErr_good hl)
 have HSL := Lib.hid (fun (t : Typ) (h12 : t.most ≤ 12) => shiftsOf_le (rings_asc hr).1 h12)
 clear h hB hw1 gs1 hwt h0 b0 hi hin
 refine (callsIn_wide (n := 0)).1 (callsIn_of_wp_marks Tryz.func34 rfl trivial ?_ rfl)
 simp only [Tryz.ntmps34, List.size_toArray, List.length_cons, List.length_nil, Nat.reduceAdd, Nat.reduceSub, Array.replicate_succ, Array.replicate_zero, List.push_toArray, List.append_toArray, List.nil_append, List.cons_append]
 gi_upto_region 1 with fail
 simp only [HW.out]
 gi_wp2_with (first
  | (gi_at_call 86; (with_reducible refine (callsIn_wide.2 HWT.out).mono ?_); rintro e w2 ⟨rfl, hb2⟩; have c0 := (B0.out.below' hb2).cell 0; have HB2 := Lib.hid hb2; clear hb2)
  | (gi_at_call 95; (with_reducible refine (callsIn_wide.2 (HIN.out w2)).mono ?_); rintro e w3 ⟨rfl, rfl⟩)
  | (gi_at_call 96; (with_reducible refine (callsIn_wide.2 (tries_any _ _ _ _ _ _ _ _)).mono ?_); rintro e w' ⟨rfl, rfl⟩))
 have hs2 : w.heap.size + 1 ≤ w2.heap.size := by have := HB2.out.size; have := GS1.out; omega
 simp only [World.size_alloc, Nat.add_assoc, Nat.reduceAdd, zset]
 obtain ⟨w4, hw4⟩ : ∃ w4, (((w2.alloc (.cells (setCells fun _ => false) 108)).alloc (.cells #[.slice a l.length c] 22)).alloc (.cells #[.string ware] 9)).alloc (.cells #[.slice ra r.length rc] 37) = w4 := ⟨_, rfl⟩
 have o4 : SetBox w4 w2.heap.size (fun _ => false) := by rw [← hw4]; exact (((Box.new _ _ _).alloc _).alloc _).alloc _
 have cap : TrCap a l.length c ware ra r.length rc (w2.heap.size + 1) (w2.heap.size + 2) (w2.heap.size + 3) w4 := by
  rw [← hw4]
  exact ⟨((Box.new' (by simp)).alloc _).alloc _, (Box.new' (by simp)).alloc _, Box.new' (by simp)⟩
 have hb4 : Below w2.heap.size w2 w4 := by rw [← hw4]; go_grown
 have gs4 : w4.heap.size = w2.heap.size + 4 := by rw [← hw4]; simp
 rw [hw4]
 have hb14 := HB2.out.trans (hb4.mono HB2.out.size)
 have ST4 : Hid (ChSt k w2.heap.size (choTo l r k []) w w4) := Lib.hid ⟨B0.out.below' hb14, o4, HB.out.trans (hb14.mono HB.out.size), by omega⟩
 have CAP := Lib.hid cap
 have GS := Lib.hid gs4
 clear cap hb4 gs4 hw4 o4 hb14 HB2 HW HWT B0 HB c0
 refine wpIn_tries (w0 := w) rfl hl hr HA.out.rcap CAP.out HA.out.ty HA.out.rg (fun _ k => k = w2.heap.size) (fun pre W => ChSt k w2.heap.size (choTo l r k pre) w W) (fun _ _ _ => False) ?hB ?hC1 ?hC2 ?hC3 ?hC4 ?hC5 ?hI ?hI2 ?hIx ?hIx2 ?h0 12 ?assign ?body ?done ?stop
 case hB => exact fun s A h => h.b
 case hC1 => exact fun _ _ _ _ _ _ _ h => h
 case hC2 => exact fun _ A k h _ e => by subst e; exact h.o.lt
 case hC3 => exact fun _ _ => rfl
 case hC4 => exact fun _ _ _ => by rw [GS.out]; exact ⟨by omega, by omega⟩
 case hC5 => exact fun _ _ _ => ⟨by omega, by omega, by omega⟩
 case hI => exact fun s A B h hb => h.below hb
 case hI2 =>
  intro pre A o h1
  have hk : Keep (fun k => k ≠ w4.heap.size + 1) A (A.putObj (w4.heap.size + 1) o) := (Keep.refl _ A).putObj (fun h => h rfl) o
  have hz := GS.out
  exact ⟨hk.heap (by omega) h1.n, hk.heap (by omega) h1.o, below_put h1.b (by omega) o, h1.gz⟩
 case hIx => exact fun _ _ _ _ h _ => h.elim
 case hIx2 => exact fun _ _ _ _ h => h.elim
 case h0 => exact ST4.out
 case stop => exact fun _ _ _ _ h => h.elim
 case assign =>
  intro lp T W W2 W3 K h1 h2 hk
  have H1 := Lib.hid h1
  have H2 := Lib.hid h2
  have HK := Lib.hid hk
  clear h1 h2 hk
  gi_wp2_with (simp only [ztry, H1.out]; refine wpListIn_store_box rfl 137 _ _ rfl rfl rfl H2.out ?_)
  exact HK.out
 case done =>
  rintro W hst hD
  have HL := Lib.hid (load_set hst.o)
  have HT := Lib.hid (text_any (choTo l r k (triesOf l ware r)) W)
  have S := Lib.hid hst
  have HD := Lib.hid hD
  have HQ : Hid (str (choTo l r k (triesOf l ware r)) = str (choicesT l ware r k)) := Lib.hid (str_congr fun d hd => choTo_all l ware r k hd)
  clear hst hD
  gi_wp2_with (first
   | (refine wpListIn_load_box rfl 108 _ rfl rfl HL.out ?_)
   | (gi_at_call 99; (with_reducible refine (callsIn_wide.2 HT.out).mono ?_); rintro e W2 ⟨rfl, hb2⟩))
  have hd2 : W2.heap[w4.heap.size]? = some (.deferred (some [])) := (hb2.block _ (Array.getElem?_eq_some_iff.1 HD.out).1).trans HD.out
  refine ⟨by simp, .inl ⟨_, _, rfl, run_takeDeferred hd2, ?_⟩⟩
  refine ⟨.tuple #[.string (mkB (str (choicesT l ware r k))), .int .i64 0], ?_, by rw [HE.out], below_put (S.out.b.trans (hb2.mono S.out.b.size)) (by have := GS.out; omega) _⟩
  simp [results, go_sem, HQ.out]
 case body =>
  intro lp pre i0 s0 t tb W hst ht hpre hb htb hlt
  simp only [List.setIfInBounds_toArray, List.set_cons_succ, List.set_cons_zero]
  obtain ⟨hset, hl1, hlm, hm12⟩ := typeB_good (HGD.out.2 i0 t ht)
  have hs12 : s0 < 12 := by
   have h1 := HSL.out t hm12
   obtain ⟨t', ht', _, h2⟩ := mem_tries.1 (hpre.subset (by simp : (i0, s0) ∈ pre ++ [(i0, s0)]))
   rw [ht] at ht'; cases ht'
   omega
  have htm : t.most = (t.m : Int) := by unfold Typ.m; omega
  have htm12 : t.m ≤ 12 := by omega
  have S := Lib.hid hst
  have TB := Lib.hid hb
  have HL := Lib.hid (TryBox.knd_ hb)
  have c1 := TryBox.shift_ hb
  have c2 := TryBox.most_ hb
  simp only [tryOf, kndOf] at c1 c2
  rw [htm] at c2
  have c3 := hst.n.cell 0
  have hwp : IntKind.i64.wrap ((s0 : Int) + (k : Int)) = (s0 : Int) + (k : Int) := IntWalk.i64_in _ (by omega)
  have HLX : Hid (∀ d, liveX l r k (i0, s0) d = livOf t r s0 (s0 + k) d) := Lib.hid fun d => by unfold liveX; simp only [ht]
  clear hst hb hset hl1 hlm hpre ht
  by_cases hlp : s0 + k < t.m
  ·have hpi : (s0 : Int) + (k : Int) < (t.m : Int) := by omega
   obtain ⟨LV, hLV⟩ : ∃ LV : Nat → CS, livP (kndOf t i0) t.m (cutOf r s0) (leastOf4 t r s0) = LV := ⟨_, rfl⟩
   have hlv := fun W => living_any (kndOf t i0) (cutOf r s0) (leastOf4 t r s0) t.m htm htm12 W
   rw [hLV] at hlv
   have hix : ∀ W, (Instr.index 117 (.agg (cutCells LV)) (.int .i64 ((s0 : Int) + (k : Int)))).run Tryz.prog W = .ok (.agg (setCells (LV (s0 + k)))) W := fun W => by
    have := run_index_cut LV (p := s0 + k) (by omega) W
    rwa [show ((s0 + k : Nat) : Int) = (s0 : Int) + (k : Int) by omega] at this
   have HLV := Lib.hid hlv
   have HLE := Lib.hid hLV
   clear hlv hLV
   gi_upto_region 12 with (refine wpListIn_load_box rfl 111 _ rfl rfl HL.out ?_)
   clear c1 c2 c3
   refine wpIn_region_heldB_round 10 [] (by kernel_rfl) (by kernel_rfl) (by kernel_rfl) (by kernel_rfl) (by simp) ?_
   intro S' hS
   have k0 : ∀ A, S' A → A.cell? ⟨tb, 762, none⟩ = some (.int .i64 (leastOf4 t r s0)) := fun A hA => TryBox.least_ (TB.out.below' (hS A hA))
   have K0 := Lib.hid k0
   have L1 := Lib.hid (fun A hA => load_set (S.out.o.below' (hS A hA)))
   have L2 := Lib.hid (fun A hA => TryBox.cuts_ (TB.out.below' (hS A hA)))
   have HS := Lib.hid hS
   clear hS k0
   simp only [List.take_succ_cons, List.take_zero, List.drop_succ_cons, List.drop_zero]
   repeat (first
    | (refine held_load 108 _ (by rfl) rfl rfl L1.out ?_; try (dsimp only); try simp only [Act.put, List.setIfInBounds_toArray, List.set_cons_zero, List.set_cons_succ])
    | (refine held_load 117 _ (by rfl) rfl rfl L2.out ?_; try (dsimp only); try simp only [Act.put, List.setIfInBounds_toArray, List.set_cons_zero, List.set_cons_succ])
    | (refine held_not rfl (by rfl) ?_; try (dsimp only); try simp only [Act.put, List.setIfInBounds_toArray, List.set_cons_zero, List.set_cons_succ])
    | (refine held_val (v := ?_) rfl (by rfl) ?_ ?_; rotate_left; (· (intro W hW; have q0 := K0.out W hW; go_simp; try with_reducible rfl)); try (dsimp only); try simp only [Act.put, List.setIfInBounds_toArray, List.set_cons_zero, List.set_cons_succ])
    | (refine held_skip rfl (by rfl) ?_ ?_; (· (intro W hW; have q0 := K0.out W hW; go_simp; try with_reducible rfl)); try (dsimp only); try simp only [Act.put, List.setIfInBounds_toArray, List.set_cons_zero, List.set_cons_succ])
    | (refine held_call (v := .agg (cutCells LV)) (f := 97) (args := #[.agg (kndCells (tryOf t i0 r s0).knd), .agg (cutCells (tryOf t i0 r s0).cut), .int .i64 (leastOf4 t r s0)]) rfl (by rfl) ?_ ?_ ?_; (· (intro W hW; go_simp; done)); (· exact (fun W hW => HLV.out W)); try (dsimp only); try simp only [Act.put, List.setIfInBounds_toArray, List.set_cons_zero, List.set_cons_succ])
    | (refine held_call (v := .agg (setCells fun d => (choTo l r k pre d || LV (s0 + k) d))) (f := 98) (args := #[.agg (setCells (choTo l r k pre)), .agg (setCells (LV (s0 + k)))]) rfl (by rfl) ?_ ?_ ?_; (· (intro W hW; go_simp; done)); (· exact (fun W hW => with4_any _ _ W)); try (dsimp only); try simp only [Act.put, List.setIfInBounds_toArray, List.set_cons_zero, List.set_cons_succ]))
   refine held_nil ?_
   intro τ hτ W2 hW hO
   obtain rfl := laid0 hτ
   have HB2 := Lib.hid (HS.out W2 hW)
   clear hτ hO hW K0 HS L1 L2
   simp only [overs, List.foldl_nil]
   have S2 := Lib.hid (S.out.below HB2.out)
   obtain ⟨W3, hst, hw3⟩ := store_set S2.out.o (fun d => choTo l r k pre d || LV (s0 + k) d)
   have HST := Lib.hid hst
   have HW3 := Lib.hid hw3
   clear hst hw3
   gi_wp2_with (refine wpListIn_store_box rfl 108 _ _ rfl rfl rfl HST.out ?_)
   have hgz := S2.out.gz
   refine ⟨(Keep.of_below' (K := fun k => ¬ k = w2.heap.size) HB2.out).trans (HW3.out.keep.mono fun k hk => hk), fun k hk => .inl hk, HW3.out.far S2.out.n (by omega), HW3.out.box.cong (fun d hd => ?_), HW3.out.below S2.out.b (by omega), hgz⟩
   unfold setF
   rw [choTo_snoc, HLX.out, ← liv_eq t i0, HLE.out]
  ·have hpi : decide ((s0 : Int) + (k : Int) < (t.m : Int)) = false := decide_eq_false (by omega)
   gi_wp2_with (refine wpListIn_load_box rfl 111 _ rfl rfl HL.out ?_)
   refine ⟨Keep.refl _ _, fun k h => .inl h, S.out.n, S.out.o.cong (fun d hd => ?_), S.out.b, S.out.gz⟩
   unfold setF
   rw [choTo_snoc, HLX.out, ← liv_eq t 0, livP_out _ _ _ (by omega), Bool.or_false]
end Go.Proofs.YthpjffhccjlnhaaGreatDoor
namespace Go.Proofs.YthpjffhccjlnhaaGreatDoor
open Go.RowKit
attribute [local go_sem] Oper.semAt_some

theorem info_int : (Tryz.prog.info? 3).map (fun i => (i.zero, i.size, i.bytes)) = some (some (.int .i64 0), 1, 8) := by kernel_rfl
theorem ints_one (l : List Int) : ∀ u ∈ l.map (Value.int .i64), u.oneCell' = true := by
 intro u hu
 obtain ⟨x, _, rfl⟩ := List.mem_map.1 hu
 rfl
theorem ints_rowOwn {B : Nat} {w : World} {a : Option Addr} {l : List Int} (h : RowOwn B w a (l.map (Value.int .i64))) : Ints w a l := h.row
def Copy2Post (B : Nat) (l : List Int) (w : World) (e : Ending) (w' : World) : Prop := ∃ a c, e = .returned (.slice a l.length c) ∧ RowOwn B w' a (l.map (Value.int .i64)) ∧ l.length ≤ c ∧ Below w.heap.size w w'
set_option maxRecDepth 100000 in
set_option maxHeartbeats 1000000 in
theorem clone2_any (a : Option Addr) (c : Nat) (l : List Int) (w : World) (h : Ints w a l) (hl : l.length ≤ 100000) :
  Calls Tryz.prog 90 #[.slice a l.length c] w (Copy2Post w.heap.size l w) := by
 rcases a with _ | ad
 ·have hn : l = [] := by
   cases l with
   | nil => rfl
   | cons u r => obtain ⟨b, o, h, _⟩ := h 0 (.int .i64 u) rfl; cases h
  subst hn
  have hnil : ∀ w : World, (binOp .eql 38 (.slice none 0 c) (.slice none 0 0)).run Tryz.prog w = .ok (.bool true) w := fun w => by kernel_rfl
  go_enter Tryz.func90, Tryz.ntmps90
  go_wp2_with fail
  go_ret
  exact ⟨none, 0, rfl, fun k v hv => by simp at hv, by simp, Below.refl _ _⟩
 obtain ⟨v', w', hrun, hown, hg, _⟩ := run_append_row (P := Tryz.prog) (w.alloc (.cells #[] 3)) w.heap.size 38 38 3 (.int .i64 0) 1 8 Tryz.underlying38 info_int rfl (by omega)
  (.slice (some ⟨w.heap.size, 0, none⟩) 0 0) 0 [] (ownsRow_empty w _ _ _ (Nat.le_refl _)) (some ad) l.length c (l.map (.int .i64)) (by simp) (h.below ((Below.refl _ w).alloc (Nat.le_refl _) _)) (ints_one l) (by omega) (by omega) (by simp)
 have hnil : ∀ w : World, (binOp .eql 38 (.slice (some ad) l.length c) (.slice none 0 0)).run Tryz.prog w = .ok (.bool false) w := fun w => by kernel_rfl
 have HO := Lib.hid hown
 have HG := Lib.hid hg
 have HR := Lib.hid hrun
 clear hown hg hrun
 go_enter Tryz.func90, Tryz.ntmps90
 go_wp2_with (at_builtin; refine wpList_app rfl _ _ _ rfl rfl rfl HR.out ?_)
 go_ret
 obtain ⟨a', c', rfl, hr, hcap⟩ := ownsRow_own HO.out
 refine ⟨a', c', by simp, by simpa using hr, by simpa using hcap, ?_⟩
 exact ((Below.refl _ w).alloc (Nat.le_refl _) _).trans ((grown_below (ownsRow_empty w w.heap.size _ 1 (Nat.le_refl _)) HG.out (Nat.le_refl _) (by simp)))
theorem ruled2_any (n id : Int) (g : Nat) (w : World) (hg : w.cell? ⟨g, 0, none⟩ = some (.int .i64 id)) : Calls Tryz.prog 92 #[.int .i64 n, .pointer (some ⟨g, 0, none⟩)] w fun e w' => e = .returned (.bool (decide (n = id))) ∧ w' = w := by
 go_enter Tryz.func92, Tryz.ntmps92
 go_wp2
 go_ret
 exact ⟨by first | rfl | simp, rfl⟩
section
variable (id : Int)
/-- where the first nought stands, or -1 -/
def nought (l : List Int) (r : Int) : Prop := (r = -1 ∧ ∀ x ∈ l, x ≠ id) ∨ ∃ k : Nat, r = k ∧ l[k]? = some id ∧ ∀ x ∈ l.take k, x ≠ id
set_option maxHeartbeats 1000000 in
theorem indexFunc_any (g : Nat) (a : Option Addr) (c : Nat) (l : List Int) (w : World) (hg : w.cell? ⟨g, 0, none⟩ = some (.int .i64 id)) (h : Ints w a l) (hl : l.length ≤ 1000000) :
  Calls Tryz.prog 139 #[.slice a l.length c, .func (.func 92) #[] #[.pointer (some ⟨g, 0, none⟩)]] w fun e w' => ∃ r, e = .returned (.int .i64 r) ∧ nought id l r ∧ w' = w := by
 go_enter Tryz.func139, Tryz.ntmps139
 go_wp2
 go_loopw [8] (fun i wr => ∃ k : Nat, k ≤ l.length ∧ i = .int .i64 k ∧ (∀ x ∈ l.take k, x ≠ id) ∧ wr = w) (fun i _ => l.length - (intOf i).toNat)
 case atStart => exact ⟨0, Nat.zero_le _, rfl, by simp, rfl⟩
 case round =>
  obtain ⟨k, hk, rfl, hall, rfl⟩ := hrel
  have HA := Lib.hid hall
  clear hall
  by_cases hlt : k < l.length
  ·obtain ⟨b, o, rfl, hb⟩ := h.base (by omega)
   obtain ⟨x, hx⟩ := get_of_lt l hlt
   have c1 := hb _ _ hx
   have HX := Lib.hid hx
   clear hx hb
   by_cases hx0 : x = id
   ·have hd : decide (x = id) = true := by simp [hx0]
    have H0 := Lib.hid hx0
    clear hx0
    go_wp2_with (go_at_call 92; refine (ruled2_any x id g _ hg).mono ?_; rintro e w' ⟨rfl, rfl⟩)
    go_ret
    exact ⟨k, rfl, .inr ⟨k, rfl, by rw [HX.out, H0.out], HA.out⟩, rfl⟩
   ·have hd : decide (x = id) = false := by simp [hx0]
    have H0 := Lib.hid hx0
    clear hx0
    go_wp2_with (go_at_call 92; refine (ruled2_any x id g _ hg).mono ?_; rintro e w' ⟨rfl, rfl⟩)
    go_roundw
    case rel =>
     refine ⟨k + 1, by omega, by go_num, fun y hy => ?_, by first | rfl | trivial⟩
     rw [List.take_add_one, HX.out] at hy
     simp at hy
     rcases hy with hy | rfl
     ·exact HA.out y hy
     ·exact H0.out
    case measure => simp [intOf]; omega
  ·go_wp2_with fail
   go_ret
   exact ⟨-1, rfl, .inl ⟨rfl, fun x hx => HA.out x (by rw [List.take_of_length_le (by omega)]; exact hx)⟩, rfl⟩

theorem RowOwn.set {B : Nat} {w : World} {b o : Nat} {xs : List Value} (h : RowOwn B w (some ⟨b, o, none⟩) xs) {i : Nat} (v : Value) : RowOwn B (w.setCell ⟨b, o + i, none⟩ v) (some ⟨b, o, none⟩) (xs.set i v) := fun k u hu => by
 rw [List.getElem?_set] at hu
 split at hu
 ·rename_i hik
  subst hik
  split at hu
  ·rename_i hlt
   cases hu
   obtain ⟨b', o', ha, h1, h2, h3⟩ := h i _ (List.getElem?_eq_getElem hlt)
   cases ha
   exact ⟨b, o, rfl, h1, World.cell?_setCell_same' w _ v (by rw [h2]; rfl), by rw [World.frozen?_setCell]; exact h3⟩
  ·cases hu
 ·rename_i hik
  obtain ⟨b', o', ha, h1, h2, h3⟩ := h k u hu
  cases ha
  refine ⟨b, o, rfl, h1, ?_, by rw [World.frozen?_setCell]; exact h3⟩
  rw [World.cell?_setCell_other _ _ _ _ (fun e => by injection e with _ e; exact hik (Nat.add_left_cancel e))]
  exact h2
theorem below_setCells {B b : Nat} (hb : B ≤ b) : ∀ (vs : List Value) (o : Nat) {a w : World}, Below B a w → Below B a (w.setCells b o vs)
 | [], _, _, _, h => h
 | v :: vs, o, _, _, h => below_setCells hb vs (o + 1) (h.setCell (by simpa using hb) v)
theorem RowOwn.cut {B : Nat} {w : World} {b o : Nat} {xs : List Value} (h : RowOwn B w (some ⟨b, o, none⟩) xs) {p : Nat} (vs : List Value) : RowOwn B (w.setCells b (o + p) vs) (some ⟨b, o, none⟩) (xs.take p) := fun k u hu => by
 rw [List.getElem?_take] at hu
 split at hu
 ·rename_i hk
  obtain ⟨b', o', ha, h1, h2, h3⟩ := h k u hu
  cases ha
  refine ⟨b, o, rfl, h1, ?_, by rw [World.frozen?_setCells]; exact h3⟩
  rw [World.cell?_setCells_out _ _ _ _ _ (fun _ _ => .inl (by show o + k < o + p; omega))]
  exact h2
 ·cases hu
def notN (l : List Int) : List Int := l.filter fun x => decide (x ≠ id)
theorem notN_all {l : List Int} (h : ∀ x ∈ l, x ≠ id) : notN id l = l := by
 unfold notN
 rw [List.filter_eq_self]
 intro x hx; simpa using h x hx
theorem notN_snoc {l : List Int} {q : Nat} {x : Int} (h : l[q]? = some x) : notN id (l.take (q + 1)) = notN id (l.take q) ++ if x = id then [] else [x] := by
 unfold notN
 rw [List.take_add_one, h, List.filter_append]
 by_cases hx : x = id <;> simp [hx]
structure Moved (l cur : List Int) (p q : Nat) : Prop where
 lt : p < q
 le : q ≤ l.length
 len : cur.length = l.length
 done : cur.take p = notN id (l.take q)
 rest : cur.drop q = l.drop q
theorem Moved.at_ {l cur : List Int} {p q : Nat} (h : Moved id l cur p q) {x : Int} (hx : l[q]? = some x) : cur[q]? = some x := by
 have h1 : (cur.drop q)[0]? = (l.drop q)[0]? := by rw [h.rest]
 simpa [List.getElem?_drop, hx] using h1
theorem Moved.pass {l cur : List Int} {p q : Nat} (h : Moved id l cur p q) (hx : l[q]? = some id) : Moved id l cur p (q + 1) := by
 have hq : q < l.length := (List.getElem?_eq_some_iff.1 hx).1
 refine ⟨Nat.lt_succ_of_lt h.lt, hq, h.len, by rw [notN_snoc id hx, h.done]; simp, ?_⟩
 have := congrArg (List.drop 1) h.rest
 simpa [List.drop_drop, Nat.add_comm] using this
theorem Moved.put {l cur : List Int} {p q : Nat} (h : Moved id l cur p q) {x : Int} (hx : l[q]? = some x) (h0 : x ≠ id) : Moved id l (cur.set p x) (p + 1) (q + 1) := by
 have hq : q < l.length := (List.getElem?_eq_some_iff.1 hx).1
 have hp := h.lt
 have hlen := h.len
 refine ⟨by omega, hq, by simpa using hlen, ?_, ?_⟩
 ·rw [notN_snoc id hx, ← h.done, if_neg h0, List.take_add_one]
  rw [List.take_set_of_le (Nat.le_refl _), List.getElem?_set_self (by omega)]
  rfl
 ·rw [List.drop_set_of_lt (by omega)]
  have := congrArg (List.drop 1) h.rest
  simpa [List.drop_drop, Nat.add_comm] using this
theorem Moved.start {l : List Int} {k : Nat} (hk : l[k]? = some id) (h : ∀ x ∈ l.take k, x ≠ id) : Moved id l l k (k + 1) :=
 ⟨Nat.lt_succ_self _, (List.getElem?_eq_some_iff.1 hk).1, rfl, by rw [notN_snoc id hk, notN_all id h]; simp, rfl⟩
theorem Moved.end_ {l cur : List Int} {p : Nat} (h : Moved id l cur p l.length) : cur.take p = notN id l := by
 have := h.done; rwa [List.take_length] at this
theorem Moved.plen {l cur : List Int} {p : Nat} (h : Moved id l cur p l.length) : (notN id l).length = p := by
 rw [← h.end_, List.length_take, h.len]; have := h.lt; omega

theorem nought_or : ∀ l : List Int, (∀ x ∈ l, x ≠ id) ∨ ∃ k, l[k]? = some id ∧ ∀ x ∈ l.take k, x ≠ id
 | [] => .inl (by simp)
 | y :: l => by
  by_cases hy : y = id
  ·exact .inr ⟨0, by simp [hy], by simp⟩
  ·rcases nought_or l with h | ⟨k, h1, h2⟩
   ·exact .inl (by simpa [hy] using h)
   ·exact .inr ⟨k + 1, by simpa using h1, by simpa [hy] using h2⟩
theorem nought_no {l : List Int} {r : Int} (h : nought id l r) (hall : ∀ x ∈ l, x ≠ id) : r = -1 := by
 rcases h with ⟨h, _⟩ | ⟨k, _, hk, _⟩
 ·exact h
 ·exact absurd rfl (hall id (List.mem_of_getElem? hk))
theorem nought_at {l : List Int} {r : Int} {k : Nat} (h : nought id l r) (hk : l[k]? = some id) (hall : ∀ x ∈ l.take k, x ≠ id) : r = k := by
 rcases h with ⟨_, h⟩ | ⟨k', h1, hk', h'⟩
 ·exact absurd rfl (h id (List.mem_of_getElem? hk))
 ·rcases Nat.lt_trichotomy k k' with hlt | rfl | hlt
  ·exact absurd rfl (h' id (List.mem_of_getElem? (i := k) (by rw [List.getElem?_take, if_pos hlt]; exact hk)))
  ·exact h1
  ·exact absurd rfl (hall id (List.mem_of_getElem? (i := k') (by rw [List.getElem?_take, if_pos hlt]; exact hk')))
theorem zero_int : ∀ w, (zeroValue 3).run Tryz.prog w = .ok (.int .i64 0) w := fun w => by go_simp
set_option maxRecDepth 100000 in
set_option maxHeartbeats 2000000 in
theorem deleteFunc_any (g : Nat) (B : Nat) (hgB : g < B) (a : Option Addr) (c : Nat) (l : List Int) (w : World) (hg : w.cell? ⟨g, 0, none⟩ = some (.int .i64 id)) (h : RowOwn B w a (l.map (Value.int .i64))) (hc : l.length ≤ c) (hl : l.length ≤ 1000000) :
  Calls Tryz.prog 91 #[.slice a l.length c, .func (.func 92) #[] #[.pointer (some ⟨g, 0, none⟩)]] w fun e w' => e = .returned (.slice a (notN id l).length c) ∧ RowOwn B w' a ((notN id l).map (Value.int .i64)) ∧ Below B w w' := by
 have HC := indexFunc_any id g a c l w hg h.row hl
 have H := Lib.hid h
 rcases nought_or id l with hall | ⟨k, hk, hall⟩
 ·have HC1 : Hid (Calls Tryz.prog 139 #[.slice a l.length c, .func (.func 92) #[] #[.pointer (some ⟨g, 0, none⟩)]] w fun e w' => e = .returned (.int .i64 (-1)) ∧ w' = w) :=
   Lib.hid (HC.mono fun e w' ⟨r, h1, h2, h3⟩ => ⟨by rw [h1, nought_no id h2 hall], h3⟩)
  have HA := Lib.hid hall
  clear HC h hall
  go_enter Tryz.func91, Tryz.ntmps91
  go_wp2_with (go_at_call 139; refine HC1.out.mono ?_; rintro e w' ⟨rfl, rfl⟩)
  go_ret
  rw [notN_all id HA.out]
  exact ⟨rfl, H.out, Below.refl _ _⟩
 ·have HC1 : Hid (Calls Tryz.prog 139 #[.slice a l.length c, .func (.func 92) #[] #[.pointer (some ⟨g, 0, none⟩)]] w fun e w' => e = .returned (.int .i64 k) ∧ w' = w) :=
   Lib.hid (HC.mono fun e w' ⟨r, h1, h2, h3⟩ => ⟨by rw [h1, nought_at id h2 hk hall], h3⟩)
  have hkl : k < l.length := (List.getElem?_eq_some_iff.1 hk).1
  obtain ⟨b, o, rfl, hbB, _⟩ := h k (.int .i64 id) (by simp [hk])
  have HM := Lib.hid (Moved.start id hk hall)
  have hk1 : ((k : Int) == -1) = false := by simp
  have hkw : IntKind.i64.wrap ((k : Int) + 1) = (k : Int) + 1 := IntWalk.i64_in _ (by omega)
  clear HC h hall hk
  go_enter Tryz.func91, Tryz.ntmps91
  go_wp2_with (go_at_call 139; refine HC1.out.mono ?_; rintro e w ⟨rfl, rfl⟩)
  go_loopw [5, 6] (fun i j wr => ∃ (p q : Nat) (cur : List Int), i = .int .i64 p ∧ j = .int .i64 q ∧ Moved id l cur p q ∧ RowOwn B wr (some ⟨b, o, none⟩) (cur.map (Value.int .i64)) ∧ Below B w wr) (fun _ j _ => l.length - (intOf j).toNat)
  case atStart => exact ⟨k, k + 1, l, rfl, by first | rfl | go_num, HM.out, H.out, Below.refl _ _⟩
  case round =>
   obtain ⟨p, q, cur, rfl, rfl, hM, hR, hB⟩ := hrel
   have hpq := hM.lt
   have hlen := hM.len
   have hle := hM.le
   have hgc := (hB.cell (p := ⟨g, 0, none⟩) hgB).trans hg
   have MM := Lib.hid hM
   have RR := Lib.hid hR
   have BB := Lib.hid hB
   clear hM hR hB
   by_cases hlt : q < l.length
   ·obtain ⟨x, hx⟩ := get_of_lt l hlt
    have hcx := MM.out.at_ id hx
    obtain ⟨b1, o1, e1, _, c1, f1⟩ := RR.out q (.int .i64 x) (by simp [hcx])
    cases e1
    obtain ⟨y, hy⟩ := get_of_lt cur (k := p) (by omega)
    obtain ⟨b1, o1, e1, _, c2, f2⟩ := RR.out p (.int .i64 y) (by simp [hy])
    cases e1
    have HX := Lib.hid hx
    clear hx hcx hy
    by_cases hx0 : x = id
    ·have hd : decide (x = id) = true := by simp [hx0]
     have H0 := Lib.hid hx0
     clear hx0
     go_wp2_with (go_at_call 92; refine (ruled2_any x id g _ hgc).mono ?_; rintro e w' ⟨rfl, rfl⟩)
     go_roundw
     case rel => exact ⟨p, q + 1, cur, by go_num, by go_num, MM.out.pass id (by rw [HX.out, H0.out]), RR.out, BB.out⟩
     case measure => simp [intOf]; omega
    ·have hd : decide (x = id) = false := by simp [hx0]
     have H0 := Lib.hid hx0
     clear hx0
     go_wp2_with (go_at_call 92; refine (ruled2_any x id g _ hgc).mono ?_; rintro e w' ⟨rfl, rfl⟩)
     go_roundw
     case rel =>
      refine ⟨p + 1, q + 1, cur.set p x, by go_num, by go_num, MM.out.put id HX.out H0.out, ?_, BB.out.setCell (by simpa using hbB) _⟩
      rw [List.map_set]
      exact RR.out.set _
     case measure => simp [intOf]; omega
   ·have hq : q = l.length := by omega
    subst hq
    have hcl : ∀ ty, (Builtin.clear_ #[38] ty #[.slice (some ⟨b, o + p, none⟩) (l.length - p) (c - p)]).run Tryz.prog wr = .ok (.tuple #[]) (wr.setCells b (o + p) (List.replicate (l.length - p) (.int .i64 0))) :=
     fun ty => Lib.run_clear_slice wr _ _ ty _ Tryz.underlying38 zero_int rfl rfl b (o + p) _ _ (by omega)
      (fun j hj => by
       obtain ⟨y, hy⟩ := get_of_lt cur (k := p + j) (by omega)
       obtain ⟨b1, o1, e1, _, c2, f2⟩ := RR.out (p + j) (.int .i64 y) (by simp [hy])
       cases e1; rw [Nat.add_assoc, c2]; rfl)
      (fun j hj => by
       obtain ⟨y, hy⟩ := get_of_lt cur (k := p + j) (by omega)
       obtain ⟨b1, o1, e1, _, c2, f2⟩ := RR.out (p + j) (.int .i64 y) (by simp [hy])
       cases e1; rw [Nat.add_assoc, f2])
    go_wp2_with fail
    go_ret
    refine ⟨by rw [MM.out.plen id]; rfl, ?_, below_setCells hbB _ _ BB.out⟩
    rw [← MM.out.end_ id, List.map_take]
    exact RR.out.cut _
end
def bkItem (l : List Int) (k : Nat) : Nat × Int := (l.length - 1 - k, l.getD (l.length - 1 - k) 0)
def bk (l : List Int) (k : Nat) : List (Nat × Int) := (List.range k).map (bkItem l)
theorem bk_succ (l : List Int) (k : Nat) : bk l (k + 1) = bk l k ++ [bkItem l k] := by simp [bk, List.range_succ]
theorem bk_le {l : List Int} {i j : Nat} (h : i ≤ j) : bk l i <+: bk l j := by
 obtain ⟨d, rfl⟩ := Nat.exists_eq_add_of_le h
 induction d with
 | zero => exact List.prefix_rfl
 | succ d ih => exact (ih (by omega)).trans (by rw [← Nat.add_assoc, bk_succ]; exact List.prefix_append _ _)
def BkRd (x : Nat × Int) (args : Array Value) (_ : World) : Prop := args = #[.int .i64 x.1, .int .i64 x.2]

theorem backward_any (a : Option Addr) (l : List Int) (c : Nat) (w : World) :
  Calls Tryz.prog 89 #[.slice a l.length c] w fun e w' => e = .returned (.func (.func 138) #[] #[.pointer (some ⟨w.heap.size, 0, none⟩)]) ∧ w.alloc (.cells #[.slice a l.length c] 38) = w' := by
 have hmf := run_mf Tryz.prog
 go_enter Tryz.func89, Tryz.ntmps89
 go_wp2
 go_ret
 exact ⟨rfl, rfl⟩

set_option maxRecDepth 100000 in
set_option maxHeartbeats 4000000 in
theorem backward1_gives (a : Option Addr) (l : List Int) (hl : l.length ≤ 1000000) (c g : Nat) (W : World) (hH : Box W g #[.slice a l.length c] 38) :
  GivesC Tryz.prog 138 #[.pointer (some ⟨g, 0, none⟩)] BkRd (bk l l.length) (fun C J => ∀ pre A, J pre A → Ints A a l ∧ ¬ C A g) W := by
 intro lp C J Jx hJ hJx hC1 hC2 hOk hY h0
 have hmf := run_mf Tryz.prog
 have HOK := Lib.hid hOk
 have HY := Lib.hid hY
 have H0 := Lib.hid h0
 have HH := Lib.hid hH
 have e1 := hH.cell
 clear hY hJ hJx hC1 hC2 hOk h0 hH
 have hw0 : IntKind.i64.wrap ((l.length : Int) - 1) = (l.length : Int) - 1 := IntWalk.i64_in _ (by omega)
 refine callsIn_of_wp Tryz.func138 rfl trivial ?_
 simp only [Tryz.ntmps138, List.size_toArray, List.length_cons, List.length_nil, Nat.reduceAdd, Nat.reduceSub, Array.replicate_succ, Array.replicate_zero, List.push_toArray, List.append_toArray, List.nil_append, List.cons_append]
 gi_wp2_with fail
 clear e1
 gi_loopw [3] (fun iv wr => ∃ k : Nat, k ≤ l.length ∧ iv = .int .i64 ((l.length : Int) - 1 - k) ∧ Box wr g #[.slice a l.length c] 38 ∧ J (bk l k) wr ∧ W.heap.size ≤ wr.heap.size) (fun iv _ => ((match iv with | .int _ i => i | _ => 0) + 1).toNat)
 case atStart => exact ⟨0, Nat.zero_le _, by simp, HH.out, H0.out, Nat.le_refl _⟩
 case round =>
  clear HH H0
  obtain ⟨k, hk, rfl, hH, hj, hsz⟩ := hrel
  by_cases hlt : k < l.length
  ·have hge : (0 : Int) ≤ (l.length : Int) - 1 - k := by omega
   have hlo : (l.length : Int) - 1 - k < (l.length : Int) := by omega
   have hnn : ¬ ((l.length : Int) - 1 - k < 0) := by omega
   have hto : ((l.length : Int) - 1 - k).toNat = l.length - 1 - k := by omega
   have hwr : IntKind.i64.wrap ((l.length : Int) - 1 - k - 1) = (l.length : Int) - 1 - k - 1 := IntWalk.i64_in _ (by omega)
   obtain ⟨hints, hnc⟩ := HOK.out _ _ hj
   obtain ⟨x, hx⟩ := get_of_lt l (k := l.length - 1 - k) (by omega)
   obtain ⟨b, o, rfl, hb⟩ := hints.base (by omega)
   have c1 := hb _ _ hx
   have e1 := hH.cell
   have hit : bkItem l k = (l.length - 1 - k, x) := by simp [bkItem, hx]
   have hpre : (bk l k ++ [(l.length - 1 - k, x)]) <+: bk l l.length := by rw [← hit, ← bk_succ]; exact bk_le hlt
   have hcast : ((l.length - 1 - k : Nat) : Int) = (l.length : Int) - 1 - k := by omega
   obtain ⟨fn, tmps, assign, body, hy1, hR1⟩ := HY.out _ (l.length - 1 - k, x) _ _ hj rfl hpre
   simp only [hcast] at hy1
   have HR1 := Lib.hid hR1
   have HH1 := Lib.hid hH
   have HNC := Lib.hid hnc
   have HPRE := Lib.hid hpre
   have HIT := Lib.hid hit
   clear hR1 hH hj hnc hpre hit hints hb hx
   gi_wp2_with fail
   refine HR1.out.mono ?_
   rintro e w2 (⟨rfl, hj2, hk2, hg2⟩ | ⟨rfl, hx2⟩)
   rotate_left
   ·clear HR1 hy1 e1 c1
    gi_wp2_with fail
    refine bodyPost_ret (results_none rfl _ _ _) rfl ?_
    exact ⟨⟨_, rfl⟩, .inr ⟨_, HPRE.out, hx2⟩⟩
   have hH2 := hk2.heap HNC.out HH1.out
   have hsz2 : W.heap.size ≤ w2.heap.size := Nat.le_trans hsz hk2.size
   have HH2 := Lib.hid (show Box w2 g #[.slice (some ⟨b, o, none⟩) l.length c] 38 from hH2)
   rw [← HIT.out, ← bk_succ] at hj2
   have HJ2 := Lib.hid hj2
   clear HR1 hy1 e1 c1 hj2 hk2 hg2 hH2
   gi_wp2_with fail
   refine ⟨⟨k + 1, by omega, by congr 1; omega, HH2.out, HJ2.out, hsz2⟩, ?_⟩
   show ((l.length : Int) - 1 - k - 1 + 1).toNat < ((l.length : Int) - 1 - k + 1).toNat
   omega
  ·have hneg : (l.length : Int) - 1 - k < 0 := by omega
   gi_wp2_with fail
   refine ⟨rfl, _, results_none rfl _ _ _, ?_⟩
   have hkn : k = l.length := by omega
   subst hkn
   exact ⟨⟨_, rfl⟩, .inl hj⟩
end Go.Proofs.YthpjffhccjlnhaaGreatDoor
namespace Go.Proofs.YthpjffhccjlnhaaGreatDoor
open Go.RowKit
attribute [local go_sem] Oper.semAt_some

theorem wpList_bsl {P : Program} {ops : Array Oper} {rest : List Oper} {o : Oper} {a : Act} {w w' : World} {Q : Exit → Act → World → Prop} (hg : o.guard = none) {v : Value} (T : TypeId) (n : Nat) (parts : Array (Nat × Operand)) (ho : o.op = .buildSlice T n parts) {ps : Array (Nat × Value)} (hps : (parts.map fun (i, x) => (i, a.eval x)) = ps) (hr : (Instr.buildSlice T n ps).run P w = .ok v w')
  (h : wpList P ops Q rest (a.put o.dst v) w') : wpList P ops Q (o :: rest) a w := wpList_bslice hg T n parts ho (by rw [hps]; exact hr) h
theorem wpListIn_bsl {P : Program} {F : Fence} {n0 : Nat} {ops : Array Oper} {rest : List Oper} {o : Oper} {a : Act} {w w' : World} {Q : Exit → Act → World → Prop} (hg : o.guard = none) {v : Value} (T : TypeId) (n : Nat) (parts : Array (Nat × Operand)) (ho : o.op = .buildSlice T n parts) {ps : Array (Nat × Value)} (hps : (parts.map fun (i, x) => (i, a.eval x)) = ps) (hr : (Instr.buildSlice T n ps).run P w = .ok v w')
  (h : wpListIn F n0 P ops Q rest (a.put o.dst v) w') : wpListIn F n0 P ops Q (o :: rest) a w := wpListIn_bslice hg T n parts ho (by rw [hps]; exact hr) h
/-- the rings of some places -/
def ringsAt (r : List Rng) (A : List Nat) : List Rng := A.filterMap fun k => r[k]?
theorem ringsAt_snoc {r : List Rng} {A : List Nat} {k : Nat} {y : Rng} (h : r[k]? = some y) : ringsAt r (A ++ [k]) = ringsAt r A ++ [y] := by simp [ringsAt, List.filterMap_append, h]
theorem ringsAt_len {r : List Rng} {A : List Nat} (h : ∀ k ∈ A, k < r.length) : (ringsAt r A).length = A.length := by
 induction A with
 | nil => rfl
 | cons k A ih =>
  obtain ⟨y, hy⟩ : ∃ y, r[k]? = some y := ⟨r[k]'(h k (by simp)), by simp [h k (by simp)]⟩
  have : ringsAt r (k :: A) = y :: ringsAt r A := by simp [ringsAt, hy]
  rw [this, List.length_cons, List.length_cons, ih fun x hx => h x (by simp [hx])]
def intsOf (A : List Nat) : List Int := A.map fun k : Nat => (k : Int)
theorem info_rng : (Tryz.prog.info? 48).map (fun i => (i.zero, i.size, i.bytes)) = some (some (.agg #[.int .i64 0, .string { data := #[] }]), 2, 24) := by kernel_rfl
theorem info_rng2 : (Tryz.prog.info? 48).map (fun i => (i.zero, i.size)) = some (some (.agg #[.int .i64 0, .string { data := #[] }]), 2) := by kernel_rfl
def rngRow (y : Rng) : List Value := [.int .i64 y.at_, .string y.set]
def rngRows (L : List Rng) : List Value := L.flatMap rngRow
theorem rngRows_at : ∀ {L : List Rng} {k : Nat} {y : Rng}, L[k]? = some y → ∀ j, j < 2 → (rngRows L)[k * 2 + j]? = some (rngF y j)
 | x :: L, 0, y, h, j, hj => by
  simp at h; subst h
  have h2 : j = 0 ∨ j = 1 := by omega
  rcases h2 with rfl | rfl <;> rfl
 | x :: L, k + 1, y, h, j, hj => by
  have := rngRows_at (L := L) (k := k) (by simpa using h) j hj
  rw [show (k + 1) * 2 + j = (k * 2 + j) + 1 + 1 by omega]
  exact this
theorem rngs_of_own {B : Nat} {W : World} {a : Option Addr} {L : List Rng} (h : RowOwn B W a (rngRows L)) : RngsAt W a L := fun k y hy => by
 obtain ⟨b, o, ha, -, hc, -⟩ := h _ _ (rngRows_at hy 0 (by omega))
 refine ⟨b, o, ha, fun j hj => ?_⟩
 obtain ⟨b', o', ha', -, hc', -⟩ := h _ _ (rngRows_at hy j hj)
 rw [ha] at ha'; cases ha'
 rw [Nat.add_assoc]; exact hc'
set_option maxRecDepth 100000 in
set_option maxHeartbeats 1000000 in
theorem some_any (la : Option Addr) (lc : Nat) (A : List Nat) (ra : Option Addr) (rc : Nat) (r : List Rng) (g : Nat) (w : World) (hA : Ints w la (intsOf A)) (hAr : ∀ k ∈ A, k < r.length) (hAl : A.length ≤ 1000) (hg : Box w g #[.slice ra r.length rc] 37) (hr : RngsAt w ra r) :
  Calls Tryz.prog 88 #[.slice la A.length lc, .pointer (some ⟨g, 0, none⟩)] w fun e w' => ∃ a' c', e = .returned (.slice a' (ringsAt r A).length c') ∧ RngsAt w' a' (ringsAt r A) ∧ (ringsAt r A).length ≤ c' ∧ Below w.heap.size w w' := by
 have HA := Lib.hid hA
 have HAR := Lib.hid hAr
 have HG := Lib.hid hg
 have HR := Lib.hid hr
 clear hA hAr hg hr
 go_enter Tryz.func88, Tryz.ntmps88
 go_wp2_with fail
 go_loopw [4, 9] (fun ov iv wr => ∃ k : Nat, k ≤ A.length ∧ iv = .int .i64 k ∧ wr.ownsRow w.heap.size 48 2 ov (ringsAt r (A.take k)).length (rngRows (ringsAt r (A.take k))) ∧ Below w.heap.size w wr) (fun _ iv _ => A.length - (intOf iv).toNat)
 case atStart => exact ⟨0, Nat.zero_le _, rfl, ownsRow_nil _ _ _ _, Below.refl _ _⟩
 case round =>
  obtain ⟨k, hk, rfl, ho, hb⟩ := hrel
  have HO := Lib.hid ho
  have HB := Lib.hid hb
  by_cases hlt : k < A.length
  ·obtain ⟨n, hn⟩ : ∃ n, A[k]? = some n := ⟨A[k], by simp [hlt]⟩
   have hnr := HAR.out n (List.mem_of_getElem? hn)
   obtain ⟨y, hy⟩ : ∃ y, r[n]? = some y := ⟨r[n], by simp [hnr]⟩
   obtain ⟨b, o, rfl, hc1⟩ := (HA.out.below hb) k (.int .i64 (n : Int)) (by simp [intsOf, hn])
   obtain ⟨rb, ro, rfl, hyc⟩ := (HR.out.below hb) n y hy
   have HL := Lib.hid hyc.load
   have c2 := (HG.out.below' hb).cell 0
   have hki : (k : Int) < (A.length : Int) := by omega
   have hk0 : (0 : Int) ≤ (k : Int) := by omega
   have hni : (n : Int) < (r.length : Int) := by omega
   have hn0 : (0 : Int) ≤ (n : Int) := by omega
   have hlen : (ringsAt r (A.take k)).length + 1 ≤ 1000000 := by
    rw [ringsAt_len fun x hx => HAR.out x (List.mem_of_mem_take hx)]
    simp; omega
   have HNX : Hid (ringsAt r (A.take (k + 1)) = ringsAt r (A.take k) ++ [y]) := Lib.hid (by rw [List.take_add_one, hn]; exact ringsAt_snoc hy)
   have hbs := run_bslice (P := Tryz.prog) (T := 37) Tryz.underlying37 info_rng2 (by omega) (by omega) (v := .agg (rngCells y)) (g := rngF y) rfl wr
   obtain ⟨v', U, hrun, hown, hbU, -, -⟩ := app_fn (P := Tryz.prog) (TT := 37) Tryz.underlying37 info_rng rfl (by omega) (by omega) ho hlen hb.size (rngF y) (fun j _ => rngF_one y j)
   obtain ⟨a', c', rfl, -, -⟩ := ownsRow_own hown
   have HBS := Lib.hid hbs
   have HRUN := Lib.hid hrun
   have HOWN := Lib.hid hown
   have HBU := Lib.hid (hb.trans hbU)
   clear ho hb hn hy hyc hbs hrun hown hbU hnr
   go_wp2_with (first
    | (refine wpList_load_box rfl 48 _ rfl rfl HL.out ?_)
    | (apply wpList_bsl (T := 37) (n := 1) (hr := HBS.out); (· rfl); (· rfl); (· (simp only [List.map_toArray, List.map_cons, List.map_nil]; rfl)))
    | (at_builtin; refine wpList_app rfl _ _ _ rfl rfl rfl HRUN.out ?_))
   go_roundw
   case rel =>
    refine ⟨k + 1, by omega, by go_num, ?_, HBU.out⟩
    rw [HNX.out, List.length_append, List.length_singleton]
    have := HOWN.out
    simp only [rngRows, List.flatMap_append, List.flatMap_cons, List.flatMap_nil, List.append_nil]
    exact this
   case measure => simp [intOf]; omega
  ·have hkn : decide ((k : Int) < (A.length : Int)) = false := decide_eq_false (by omega)
   have e : A.take k = A := List.take_of_length_le (by omega)
   rw [e] at ho
   obtain ⟨a', c', rfl, hro, hcap⟩ := ownsRow_own ho
   have HRO := Lib.hid hro
   have HC := Lib.hid hcap
   clear ho hb hro hcap e
   go_wp2_with fail
   go_ret
   exact ⟨a', c', rfl, rngs_of_own HRO.out, HC.out, HB.out⟩
end Go.Proofs.YthpjffhccjlnhaaGreatDoor
