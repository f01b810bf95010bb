/- The reference: ends: the classes from which just so many further ones lead to the base. No condition. -/
import Derived.Test.YthpjffhccjlnhaaGreatDoorGRef6
set_option linter.unusedSimpArgs false
set_option linter.unusedVariables false
namespace Go.Proofs.YthpjffhccjlnhaaGreatDoor
open Go.RowKit
attribute [local go_sem] Oper.semAt_some

/-! one byte, as a string -/
theorem run_byte (x : Int) (w : World) : (Instr.buildSlice 98 1 #[(0, .int .u8 x)]).run Tryz.prog w = .ok (.slice (some ⟨w.heap.size, 0, none⟩) 1 1) (w.alloc (.cells #[.int .u8 x] 5)) :=
 run_bslice (P := Tryz.prog) (m := 1) (Z := .int .u8 0) (g := fun _ => .int .u8 x) Tryz.underlying98 (by kernel_rfl) (by omega) (by omega) rfl w
theorem run_conv1 (w : World) (b : UInt8) (x : Int) (hx : x = (b.toNat : Int)) : (convert 98 9 (.slice (some ⟨w.heap.size, 0, none⟩) 1 1)).run Tryz.prog (w.alloc (.cells #[.int .u8 x] 5)) = .ok (.string (mkB [b])) (w.alloc (.cells #[.int .u8 x] 5)) := by
 subst hx
 exact run_convert_bytes_back _ _ _ 5 ⟨w.heap.size, 0, none⟩ 1 [b] Tryz.underlying98 Tryz.underlying5 Tryz.underlying9 (fun j hj => by
  have : j = 0 := by simp at hj; omega
  subst this
  exact (Box.new w _ _).cell 0)
theorem mkB_app (a b : List UInt8) : mkB a ++ mkB b = mkB (a ++ b) := by rw [← mkB_bl (mkB a ++ mkB b), bl_app, bl_mkB, bl_mkB]
theorem mkB_size (a : List UInt8) : (mkB a).size = a.length := by rw [← bl_len, bl_mkB]
/-- the first classes of a set -/
def strTo (s : CS) (c : Nat) : List UInt8 := ((List.range c).filter s).map chC
theorem strTo_succ (s : CS) (c : Nat) : strTo s (c + 1) = strTo s c ++ if s c then [chC c] else [] := by
 unfold strTo
 rw [List.range_succ, List.filter_append, List.map_append]
 by_cases h : s c <;> simp [h]
theorem strTo_all (s : CS) : strTo s 26 = str s := rfl
theorem strTo_len (s : CS) (c : Nat) : (strTo s c).length ≤ c := by
 unfold strTo; rw [List.length_map]; exact Nat.le_trans (List.length_filter_le _ _) (by simp)
theorem str_len (s : CS) : (str s).length ≤ 26 := strTo_len s 26
theorem any_take {α : Type} {l : List α} {k : Nat} {x : α} (p : α → Bool) (h : l[k]? = some x) : (l.take (k + 1)).any p = ((l.take k).any p || p x) := by
 rw [List.take_add_one, h, List.any_append]; simp
/-- a class leads on -/
theorem leads_eq {l : List UInt8} (s : CS) : l.any (inL (str s)) = any26 fun d => hasC l d && s d := by
 rw [Bool.eq_iff_iff, List.any_eq_true, any26_iff]
 constructor
 ·rintro ⟨x, hx, hs⟩
  have hm : x ∈ str s := by simpa [inL] using hs
  obtain ⟨h1, h2⟩ := mem_str.1 hm
  simp [letC] at h1
  refine ⟨x.toNat - 97, by omega, ?_⟩
  rw [Bool.and_eq_true]
  refine ⟨(hasC_iff (by omega)).2 ?_, h2⟩
  rwa [chC, show 97 + (x.toNat - 97) = x.toNat by omega, UInt8.ofNat_toNat]
 ·rintro ⟨d, hd, h⟩
  rw [Bool.and_eq_true] at h
  refine ⟨chC d, (hasC_iff hd).1 h.1, ?_⟩
  simp only [inL, List.contains_iff_mem]
  exact mem_str.2 ⟨by simp [letC, chC_nat hd]; omega, by rw [chC_nat hd, show 97 + d - 97 = d by omega]; exact h.2⟩
theorem aftS_c (t : Typ) {c : Nat} (hc : c < 26) : aftS t (chC c) = t.after c := by
 unfold aftS; rw [chC_nat hc, if_pos (by omega)]; congr 1; omega

/-! the twelve strings -/
def gS (K : Kd) (j : Nat) : ByteArray := mkB (str (goodJ K j))
def endF (K : Kd) (k c : Nat) : Nat → Value := fun j => .string (if j < k then gS K j else if j = k then mkB (strTo (goodJ K k) c) else ByteArray.empty)
abbrev EndBox (w : World) (b : Nat) (K : Kd) (k c : Nat) : Prop := Box w b (fnCells 12 (endF K k c)) 121
theorem endF_next (K : Kd) (k : Nat) : endF K k 26 = endF K (k + 1) 0 := by
 funext j
 unfold endF
 congr 1
 by_cases h1 : j < k
 ·rw [if_pos h1, if_pos (by omega)]
 ·rw [if_neg h1]
  by_cases h2 : j = k
  ·subst h2; rw [if_pos rfl, if_pos (by omega)]; rfl
  ·rw [if_neg h2, if_neg (by omega)]
   split <;> rfl
theorem endF_zero (K : Kd) (j : Nat) : endF K 0 0 j = .string ByteArray.empty := by
 unfold endF
 congr 1
 rw [if_neg (by omega)]
 split <;> rfl
theorem endF_step (K : Kd) (k c : Nat) (j : Nat) : (if j = k then Value.string (mkB (strTo (goodJ K k) c ++ if goodJ K k c then [chC c] else [])) else endF K k c j) = endF K k (c + 1) j := by
 unfold endF
 by_cases h1 : j < k
 ·rw [if_neg (by omega), if_pos h1, if_pos h1]
 ·by_cases h2 : j = k
  ·subst h2
   rw [if_pos rfl, if_neg h1, if_pos rfl, strTo_succ]
  ·rw [if_neg h2, if_neg h1, if_neg h2, if_neg h1, if_neg h2]
theorem endF_stay (K : Kd) (k c : Nat) (h : goodJ K k c = false) : endF K k (c + 1) = endF K k c := by
 funext j
 rw [← endF_step, h]
 by_cases h2 : j = k
 ·subst h2; simp [endF]
 ·rw [if_neg h2]
def goodF (K : Kd) : Nat → Value := fun j => .string (gS K j)
theorem endF_all (K : Kd) : fnCells 12 (endF K 12 0) = fnCells 12 (goodF K) := fnCells_congr fun j hj => by unfold endF goodF; rw [if_pos hj]
theorem agg_ends : Agg Tryz.prog 121 12 := ⟨⟨_, Tryz.underlying121, rfl⟩, by kernel_rfl⟩
theorem zends : (#[.string { data := #[] }, .string { data := #[] }, .string { data := #[] }, .string { data := #[] }, .string { data := #[] }, .string { data := #[] }, .string { data := #[] }, .string { data := #[] }, .string { data := #[] }, .string { data := #[] }, .string { data := #[] }, .string { data := #[] }] : Array Value) = fnCells 12 (fun _ => .string ByteArray.empty) := by kernel_rfl
structure EnSt (B : Nat) (t : Typ) (k c : Nat) (w W : World) : Prop where
 x : TypAt W B 0 t
 z : Box W (B + 1) (fnCells 12 fun _ => .string ByteArray.empty) 121
 e : EndBox W (B + 2) t.kd k c
 b : Below B w W
 s : B = w.heap.size
theorem EnSt.below {B : Nat} {t : Typ} {k c : Nat} {w W W' : World} (h : EnSt B t k c w W) (hb : Below W.heap.size W W') : EnSt B t k c w W' :=
 ⟨h.x.below hb, h.z.below' hb, h.e.below' hb, h.b.trans (hb.mono (by have := h.b.size; have := h.s; omega)), h.s⟩
theorem EnSt.set_ {B : Nat} {t : Typ} {k c k' c' : Nat} {w W : World} (h : EnSt B t k c w W) (i : Nat) (v : Value) (he : ∀ j, j < 12 → (if j = i then v else endF t.kd k c j) = endF t.kd k' c' j) : EnSt B t k' c' w (W.setCell ⟨B + 2, i, none⟩ v) :=
 ⟨h.x.keep ((Keep.refl (fun k => k ≠ B + 2) W).setCell (.inl (by simp)) _) (by omega), h.z.far (by simp) _, (h.e.fset i v).cong he, h.b.setCell (by have := h.s; show B ≤ B + 2; omega) _, h.s⟩
theorem EnSt.cast {B : Nat} {t : Typ} {k c k' c' : Nat} {w W : World} (h : EnSt B t k c w W) (he : endF t.kd k c = endF t.kd k' c') : EnSt B t k' c' w W := ⟨h.x, h.z, by have := h.e; unfold EndBox at this ⊢; rw [← he]; exact this, h.b, h.s⟩
set_option maxRecDepth 100000 in
set_option maxHeartbeats 4000000 in
theorem goodR_any (t : Typ) (ht : t.sets = true) (hz : ∀ c, c < 26 → (t.after c).size ≤ 1000) (w : World) : Calls Tryz.prog 83 #[.agg (typCells t)] w fun e w' => e = .returned (.agg (fnCells 12 (goodF t.kd))) ∧ Below w.heap.size w w' := by
 obtain ⟨w3, hw3⟩ : ∃ w3, ((w.alloc (.cells (typCells t) 71)).alloc (.cells (fnCells 12 fun _ => .string ByteArray.empty) 121)).alloc (.cells (fnCells 12 fun _ => .string ByteArray.empty) 121) = w3 := ⟨_, rfl⟩
 have b0 : TypAt w3 w.heap.size 0 t := by rw [← hw3]; exact Box.typ (((Box.new _ _ _).alloc _).alloc _)
 have b1 : Box w3 (w.heap.size + 1) (fnCells 12 fun _ => .string ByteArray.empty) 121 := by rw [← hw3]; exact (Box.new' (by simp)).alloc _
 have b2 : Box w3 (w.heap.size + 2) (fnCells 12 fun _ => .string ByteArray.empty) 121 := by rw [← hw3]; exact Box.new' (by simp)
 have hB : Below w.heap.size w w3 := by rw [← hw3]; go_grown
 have ST := Lib.hid (show EnSt w.heap.size t 0 0 w w3 from ⟨b0, b1, b2.cong fun j _ => (endF_zero t.kd j).symm, hB, rfl⟩)
 obtain ⟨s1, s2, s3⟩ := Typ.sets_iff.1 ht
 have HG0 := Lib.hid (show t.base = gS t.kd 0 by show _ = mkB (str (hasC (bl t.base))); rw [str_has s2, mkB_bl])
 have HZ := Lib.hid hz
 have HW := Lib.hid hw3
 have f6 := (TypAt.fields b0).2.2.2.2.2
 have r2 := b2.frozen 0
 have c2 := b2.cell 0
 clear b0 b1 b2 hB hw3 s1 s2 s3 ht hz
 simp only [Nat.zero_add] at f6
 go_enter Tryz.func83, Tryz.ntmps83
 go_upto_region 2 with fail
 simp only [zends, HW.out]
 go_upto_region 3 with fail
 clear f6 r2 c2
 have ST1 := Lib.hid (show EnSt w.heap.size t 1 0 w (w3.setCell ⟨w.heap.size + 2, 0, none⟩ (.string t.base)) from ST.out.set_ 0 _ fun j hj => by
  unfold endF
  by_cases h0 : j = 0
  ·subst h0; rw [if_pos rfl, if_pos (by omega), HG0.out]
  ·rw [if_neg h0, if_neg (by omega), if_neg h0, if_neg (by omega)]
   split <;> rfl)
 obtain ⟨w4, hw4⟩ : ∃ w4, w3.setCell ⟨w.heap.size + 2, 0, none⟩ (.string t.base) = w4 := ⟨_, rfl⟩
 rw [hw4] at ST1
 simp only [hw4]
 clear hw4 ST HW HG0 w3
 go_wp2_with fail
 go_loopw [4, 5, 6, 7] (fun iv _ _ _ wr => ∃ m : Nat, m ≤ 11 ∧ iv = .int .i64 ((m : Int) + 1) ∧ EnSt w.heap.size t (m + 1) 0 w wr) (fun iv _ _ _ _ => 12 - (intOf iv).toNat)
 case atStart => exact ⟨0, by omega, rfl, ST1.out⟩
 case round =>
  clear ST1 w4
  obtain ⟨m, hm, rfl, hst⟩ := hrel
  have ST := Lib.hid hst
  clear hst
  by_cases hlt : m < 11
  ·have hki : (m : Int) + 1 < 12 := by omega
   have hk0 : (0 : Int) ≤ (m : Int) + 1 := by omega
   have hm0 : (0 : Int) ≤ (m : Int) := by omega
   have hm12 : (m : Int) < 12 := by omega
   have hmw : IntKind.i64.wrap (m : Int) = (m : Int) := IntWalk.i64_in _ (by omega)
   have hmw1 : IntKind.i64.wrap ((m : Int) + 1 - 1) = (m : Int) := by rw [IntWalk.i64_in _ (by omega)]; omega
   go_wp2_with fail
   go_loopw [5, 6, 7] (fun cv _ _ wr => ∃ c : Nat, c ≤ 26 ∧ cv = .int .u8 (97 + (c : Int)) ∧ EnSt w.heap.size t (m + 1) c w wr) (fun cv _ _ _ => 123 - (intOf cv).toNat)
   case atStart => exact ⟨0, by omega, rfl, ST.out⟩
   case round =>
    clear ST
    obtain ⟨c, hc, rfl, hst⟩ := hrel
    have ST := Lib.hid hst
    clear hst
    by_cases hc26 : c < 26
    ·have hci : (97 : Int) + (c : Int) ≤ 122 := by omega
     have hcw : IntKind.u8.wrap ((97 : Int) + (c : Int) + 1) = (97 : Int) + ((c + 1 : Nat) : Int) := by
      show ((97 : Int) + (c : Int) + 1) % 256 = _; omega
     have haf : ∀ W, Calls Tryz.prog 85 #[.agg (typCells t), .int .u8 (97 + (c : Int))] W fun e w' => e = .returned (.string (t.after c)) ∧ Below W.heap.size W w' := fun W => by
      have := afterR_any t (chC c) W
      rw [aftS_c t hc26, chC_nat hc26] at this
      exact this
     have HAF := Lib.hid haf
     have hsz := HZ.out c hc26
     have hG : ((bl (t.after c)).any (inL (bl (gS t.kd m)))) = goodJ t.kd (m + 1) c := by rw [gS, bl_mkB, leads_eq]; rfl
     have HG := Lib.hid hG
     have hgs : (gS t.kd m).size ≤ 1000000 := by rw [gS, mkB_size]; have := str_len (goodJ t.kd m); omega
     have HGS := Lib.hid hgs
     clear haf hG hgs
     go_wp2_with fail
     go_loopw [6, 7] (fun lv qv wr => ∃ q : Nat, q ≤ (t.after c).size ∧ qv = .int .i64 q ∧ lv = .bool (((bl (t.after c)).take q).any (inL (bl (gS t.kd m)))) ∧ EnSt w.heap.size t (m + 1) c w wr) (fun _ qv _ => (t.after c).size - (intOf qv).toNat)
     case atStart => exact ⟨0, by omega, rfl, rfl, ST.out⟩
     case round =>
      clear ST
      obtain ⟨q, hq, rfl, rfl, hst⟩ := hrel
      have ST := Lib.hid hst
      have HL := Lib.hid (TypAt.load hst.x)
      clear hst
      obtain ⟨lv, hlv⟩ : ∃ lv, ((bl (t.after c)).take q).any (inL (bl (gS t.kd m))) = lv := ⟨_, rfl⟩
      rw [hlv]
      have HLV := Lib.hid hlv
      clear hlv
      go_wp2_with (refine wpList_load_box rfl 71 _ rfl rfl HL.out ?_)
      refine (HAF.out _).mono ?_
      rintro e w5 ⟨rfl, hb⟩
      have ST5 := Lib.hid (ST.out.below hb)
      clear hb ST HL
      by_cases hql : q < (t.after c).size
      ·obtain ⟨x, hx⟩ : ∃ x, (t.after c)[q] = x := ⟨_, rfl⟩
       have hbx : (bl (t.after c))[q]? = some x := by rw [bl_at _ hql, hx]
       have HT := Lib.hid (any_take (inL (bl (gS t.kd m))) hbx)
       have hqi : (q : Int) < ((t.after c).size : Int) := by omega
       have hq0 : (0 : Int) ≤ (q : Int) := by omega
       clear hbx
       rcases lv with _ | _
       ·go_wp2_with fail
        refine wp_region_heldB 14 [] (by kernel_rfl) (by kernel_rfl) (by kernel_rfl) (by simp) ?_
        intro S hS
        have k0 : ∀ A, S A → A.cell? ⟨w.heap.size + 2, m, none⟩ = some (.string (gS t.kd m)) := fun A hA => by
         have := (ST5.out.e.below' (hS A hA)).fn (i := m) (by omega)
         rw [this]; unfold endF; rw [if_pos (by omega)]
        have K0 := Lib.hid k0
        have L2 := Lib.hid (fun A hA => TypAt.load (ST5.out.x.below (hS A hA)))
        have HS := Lib.hid hS
        clear hS k0
        simp only [List.take_succ_cons, List.take_zero, List.drop_succ_cons, List.drop_zero]
        repeat (first
         | (refine held_load 71 _ (by rfl) rfl rfl L2.out ?_; try (dsimp only); try simp only [Act.put, List.setIfInBounds_toArray, List.set_cons_zero, List.set_cons_succ])
         | (refine held_not rfl (by rfl) ?_; try (dsimp only); try simp only [Act.put, List.setIfInBounds_toArray, List.set_cons_zero, List.set_cons_succ])
         | (refine held_val (v := ?_) rfl (by rfl) ?_ ?_; rotate_left; (· (intro W hW; have q0 := K0.out W hW; go_simp; try with_reducible rfl)); try (dsimp only); try simp only [Act.put, List.setIfInBounds_toArray, List.set_cons_zero, List.set_cons_succ])
         | (refine held_skip rfl (by rfl) ?_ ?_; (· (intro W hW; have q0 := K0.out W hW; go_simp; try with_reducible rfl)); try (dsimp only); try simp only [Act.put, List.setIfInBounds_toArray, List.set_cons_zero, List.set_cons_succ])
         | (refine held_call (v := .string (t.after c)) (f := 85) (args := #[.agg (typCells t), .int .u8 (97 + (c : Int))]) rfl (by rfl) ?_ ?_ ?_; (· (intro W hW; go_simp; done)); (· exact (fun W hW => HAF.out W)); try (dsimp only); try simp only [Act.put, List.setIfInBounds_toArray, List.set_cons_zero, List.set_cons_succ])
         | (refine held_call (v := .bool (inL (bl (gS t.kd m)) x)) (f := 37) (args := #[.string (gS t.kd m), .int .u8 x.toNat]) rfl (by rfl) ?_ ?_ ?_; (· (intro W hW; go_simp; done)); (· exact (fun W hW => (inR_any (gS t.kd m) x HGS.out W).mono fun e w' h => ⟨h.1, h.2 ▸ Below.refl _ _⟩)); try (dsimp only); try simp only [Act.put, List.setIfInBounds_toArray, List.set_cons_zero, List.set_cons_succ]))
        refine held_nil ?_
        intro τ hτ W2 hW hO
        obtain rfl := laid0 hτ
        have ST6 := Lib.hid (ST5.out.below (HS.out W2 hW))
        clear hτ hO hW K0 L2 HS
        simp only [overs, List.foldl_nil]
        go_wp2_with fail
        go_roundw
        case rel => exact ⟨q + 1, by omega, by go_num, by rw [HT.out, HLV.out]; rfl, ST6.out⟩
        case measure => simp [intOf]; omega
       ·go_wp2_with fail
        refine wp_region_heldB 14 [] (by kernel_rfl) (by kernel_rfl) (by kernel_rfl) (by simp) ?_
        intro S hS
        have K0 := trivial
        have HS := Lib.hid hS
        clear hS
        simp only [List.take_succ_cons, List.take_zero, List.drop_succ_cons, List.drop_zero]
        repeat (first
         | (refine held_not rfl (by rfl) ?_; try (dsimp only); try simp only [Act.put, List.setIfInBounds_toArray, List.set_cons_zero, List.set_cons_succ])
         | (refine held_val (v := ?_) rfl (by rfl) ?_ ?_; rotate_left; (· (intro W hW; go_simp; try with_reducible rfl)); try (dsimp only); try simp only [Act.put, List.setIfInBounds_toArray, List.set_cons_zero, List.set_cons_succ])
         | (refine held_skip rfl (by rfl) ?_ ?_; (· (intro W hW; go_simp; try with_reducible rfl)); try (dsimp only); try simp only [Act.put, List.setIfInBounds_toArray, List.set_cons_zero, List.set_cons_succ]))
        refine held_nil ?_
        intro τ hτ W2 hW hO
        obtain rfl := laid0 hτ
        have ST6 := Lib.hid (ST5.out.below (HS.out W2 hW))
        clear hτ hO hW K0 HS
        simp only [overs, List.foldl_nil]
        go_wp2_with fail
        go_roundw
        case rel => exact ⟨q + 1, by omega, by go_num, by rw [HT.out, HLV.out]; rfl, ST6.out⟩
        case measure => simp [intOf]; omega
      ·have hqn : decide ((q : Int) < ((t.after c).size : Int)) = false := by simp; omega
       have HV := Lib.hid (show goodJ t.kd (m + 1) c = lv by rw [← HG.out, ← HLV.out, List.take_of_length_le (by rw [bl_len]; omega)])
       rcases lv with _ | _
       ·have HN := Lib.hid (ST5.out.cast (k' := m + 1) (c' := c + 1) (endF_stay t.kd (m + 1) c HV.out).symm)
        go_wp2_with fail
        go_roundw
        case rel => exact ⟨c + 1, by omega, by go_num, HN.out⟩
        case measure => simp [intOf]; omega
       ·have hzs : (mkB (strTo (goodJ t.kd (m + 1)) c)).size ≤ 1000 := by rw [mkB_size]; have := strTo_len (goodJ t.kd (m + 1)) c; omega
        have hm11 : (m : Int) + 1 < 12 := by omega
        go_wp2_with fail
        refine wp_region_M (fun A => Below w5.heap.size w5 A) 9 (by kernel_rfl) ?_
        have hbd : Below w5.heap.size w5 w5.drew := (Below.refl _ w5).drew
        have hSS : Below w5.heap.size w5 w5.drew := hbd
        have hf : ∀ A, Below w5.heap.size w5 A → A.cell? ⟨w.heap.size + 2, m + 1, none⟩ = some (.string (mkB (strTo (goodJ t.kd (m + 1)) c))) := fun A hA => by
         have := (ST5.out.e.below' hA).fn (i := m + 1) (by omega)
         rw [this]; unfold endF; rw [if_neg (by omega), if_pos rfl]
        have K0 := Lib.hid hf
        clear hf
        refine anyM_take (i := 0) (v := ?_) (by kernel_rfl) rfl (by kernel_rfl) (by kernel_rfl) (by kernel_rfl) (by kernel_rfl) (fun _ _ _ h => h) (by rfl) ?_ hSS ?_
        rotate_left
        ·(intro W hW; have q0 := K0.out W hW; go_simp; try with_reducible rfl)
        try (dsimp only); try simp only [Act.put, List.setIfInBounds_toArray, List.set_cons_zero, List.set_cons_succ]
        refine anyM_take (i := 1) (v := ?_) (by kernel_rfl) rfl (by kernel_rfl) (by kernel_rfl) (by kernel_rfl) (by kernel_rfl) (fun _ _ _ h => h) (by rfl) ?_ hSS ?_
        rotate_left
        ·(intro W hW; have q0 := K0.out W hW; go_simp; try with_reducible rfl)
        try (dsimp only); try simp only [Act.put, List.setIfInBounds_toArray, List.set_cons_zero, List.set_cons_succ]
        refine anyM_take (i := 2) (v := ?_) (by kernel_rfl) rfl (by kernel_rfl) (by kernel_rfl) (by kernel_rfl) (by kernel_rfl) (fun _ _ _ h => h) (by rfl) ?_ hSS ?_
        rotate_left
        ·(intro W hW; have q0 := K0.out W hW; go_simp; try with_reducible rfl)
        try (dsimp only); try simp only [Act.put, List.setIfInBounds_toArray, List.set_cons_zero, List.set_cons_succ]
        refine anyM_take (i := 3) (v := ?_) (by kernel_rfl) rfl (by kernel_rfl) (by kernel_rfl) (by kernel_rfl) (by kernel_rfl) (fun _ _ _ h => h) (by rfl) ?_ hSS ?_
        rotate_left
        ·(intro W hW; have q0 := K0.out W hW; go_simp; try with_reducible rfl)
        try (dsimp only); try simp only [Act.put, List.setIfInBounds_toArray, List.set_cons_zero, List.set_cons_succ]
        refine anyM_take (i := 4) (v := ?_) (by kernel_rfl) rfl (by kernel_rfl) (by kernel_rfl) (by kernel_rfl) (by kernel_rfl) (fun _ _ _ h => h) (by rfl) ?_ hSS ?_
        rotate_left
        ·(intro W hW; have q0 := K0.out W hW; go_simp; try with_reducible rfl)
        try (dsimp only); try simp only [Act.put, List.setIfInBounds_toArray, List.set_cons_zero, List.set_cons_succ]
        obtain ⟨w6, hw6⟩ : ∃ w6, w5.drew.alloc (.cells #[.int .u8 (97 + (c : Int))] 5) = w6 := ⟨_, rfl⟩
        have hb1 : Below w5.heap.size w5 w6 := by rw [← hw6]; exact hbd.alloc (Nat.le_refl _) _
        have hr5 := run_byte (97 + (c : Int)) w5.drew
        have hC := run_conv1 w5.drew (chC c) (97 + (c : Int)) (by rw [chC_nat hc26]; rfl)
        rw [hw6] at hr5 hC
        obtain ⟨g6, hg6⟩ : ∃ g, w5.drew.heap.size = g := ⟨_, rfl⟩
        rw [hg6] at hr5 hC
        clear hw6 hg6
        refine anyM_run (i := 5) (v := .slice (some ⟨g6, 0, none⟩) 1 1) (w' := w6) rfl (by kernel_rfl) (by rfl) ?_ (.inr hb1) ?_
        ·refine exec_bslice 98 _ _ rfl ?_
         simp only [List.map_toArray, List.map_cons, List.map_nil]
         exact hr5
        try (dsimp only); try simp only [Act.put, List.setIfInBounds_toArray, List.set_cons_zero, List.set_cons_succ]
        refine anyM_run (i := 6) (v := .string (mkB [chC c])) (w' := w6) rfl (by kernel_rfl) (by rfl) ?_ (.inr hb1) ?_
        ·go_simp
        try (dsimp only); try simp only [Act.put, List.setIfInBounds_toArray, List.set_cons_zero, List.set_cons_succ]
        refine anyM_run (i := 7) (v := .string (mkB (strTo (goodJ t.kd (m + 1)) c) ++ mkB [chC c])) (w' := w6) rfl (by kernel_rfl) (by rfl) ?_ (.inr hb1) ?_
        ·exact exec_cat _ _ _ rfl (by rfl) (by rfl) (by rw [mkB_size [chC c]]; simp; omega)
        try (dsimp only); try simp only [Act.put, List.setIfInBounds_toArray, List.set_cons_zero, List.set_cons_succ]
        refine anyM_run (i := 8) (v := .pointer (some ⟨w.heap.size + 2, m + 1, none⟩)) (w' := w6) rfl (by kernel_rfl) (by rfl) ?_ (.inr hb1) ?_
        ·go_simp
        try (dsimp only); try simp only [Act.put, List.setIfInBounds_toArray, List.set_cons_zero, List.set_cons_succ]
        have ST6 := Lib.hid (ST5.out.below hb1)
        have r1 := ST6.out.e.frozen (m + 1)
        have r2 := K0.out _ hb1
        have r1s : (w6.cell? ⟨w.heap.size + 2, m + 1, none⟩).isSome = true := by rw [r2]; rfl
        refine anyM_skip (i := 9) (w' := w6.setCell ⟨w.heap.size + 2, m + 1, none⟩ (.string (mkB (strTo (goodJ t.kd (m + 1)) c) ++ mkB [chC c]))) rfl (by kernel_rfl) (by rfl) ?_ (.inl (by decide)) ?_
        ·go_simp
        try (dsimp only); try simp only [Act.put, List.setIfInBounds_toArray, List.set_cons_zero, List.set_cons_succ]
        refine anyM_done (by kernel_rfl) ?_ _
        have HN := Lib.hid (ST6.out.set_ (k' := m + 1) (c' := c + 1) (m + 1) (.string (mkB (strTo (goodJ t.kd (m + 1)) c) ++ mkB [chC c])) fun j _ => by
         rw [← endF_step, HV.out, mkB_app]; rfl)
        obtain ⟨w7, hw7⟩ : ∃ w7, w6.setCell ⟨w.heap.size + 2, m + 1, none⟩ (.string (mkB (strTo (goodJ t.kd (m + 1)) c) ++ mkB [chC c])) = w7 := ⟨_, rfl⟩
        rw [hw7] at HN
        rw [hw7]
        clear hw7 r1 r2 r1s hC hr5 ST6 hb1 hSS hbd K0
        go_wp2_with fail
        go_roundw
        case rel => exact ⟨c + 1, by omega, by go_num, HN.out⟩
        case measure => simp [intOf]; omega
    ·have hcn : decide ((97 : Int) + (c : Int) ≤ 122) = false := by simp; omega
     have h26 : c = 26 := by omega
     have HN := Lib.hid (ST.out.cast (k' := m + 1 + 1) (c' := 0) (by rw [h26]; exact endF_next t.kd (m + 1)))
     go_wp2_with fail
     go_roundw
     case rel => exact ⟨m + 1, by omega, by go_num, HN.out⟩
     case measure => simp [intOf]; omega
  ·have hkn : decide ((m : Int) + 1 < 12) = false := by simp; omega
   have hk12 : m = 11 := by omega
   subst hk12
   have e12 : EndBox wr (w.heap.size + 2) t.kd 12 0 := ST.out.e
   unfold EndBox at e12
   rw [endF_all] at e12
   have HL := Lib.hid (run_load_sub agg_ends e12 0 (goodF t.kd) (fun j _ => by rw [Nat.zero_add]) (by omega))
   obtain ⟨w2, hst2, hw2⟩ := run_store_all (P := Tryz.prog) agg_ends ST.out.z (goodF t.kd) (fun _ _ => rfl)
   have HST := Lib.hid hst2
   have HW2 := Lib.hid hw2
   clear e12 hst2 hw2
   go_wp2_with (first
    | (refine wpList_load_box rfl 121 _ rfl rfl HL.out ?_)
    | (refine wpList_store_box rfl 121 _ _ rfl rfl rfl HST.out ?_))
   refine bodyPost_ret (results_cell rfl rfl (run_loadv_sub agg_ends HW2.out.box 0 (goodF t.kd) (fun j _ => by rw [Nat.zero_add]) (by omega))) rfl ⟨rfl, HW2.out.below ST.out.b (by omega)⟩
end Go.Proofs.YthpjffhccjlnhaaGreatDoor
