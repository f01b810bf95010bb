/- The reference: Many. No condition. -/
/- The reference: First. No condition. -/
import Derived.Test.YthpjffhccjlnhaaGreatDoorGMany
import Derived.Test.YthpjffhccjlnhaaGreatDoorMG22
import Derived.Test.YthpjffhccjlnhaaGreatDoorMG21
import Derived.Test.YthpjffhccjlnhaaGreatDoorMG25
set_option linter.unusedSimpArgs false
set_option linter.unusedVariables false
namespace Go.Proofs.YthpjffhccjlnhaaGreatDoor
open Go.RowKit
attribute [local go_sem] Oper.semAt_some

/-- the memory: a type and the numbers at hand -/
structure MnSt (T : Typ) (g e : Nat) (f : Nat → Nat) (w W : World) : Prop where
 x : TypAt W g 0 T
 y : CntBox W e f
 b : Below w.heap.size w W
 s : w.heap.size ≤ e
 ne : g ≠ e
theorem MnSt.below {T : Typ} {g e : Nat} {f : Nat → Nat} {w W W' : World} (h : MnSt T g e f w W) (hb : Below W.heap.size W W') : MnSt T g e f w W' := ⟨h.x.below hb, h.y.below' hb, h.b.trans (hb.mono h.b.size), h.s, h.ne⟩
theorem MnSt.put {T : Typ} {g e : Nat} {f f' : Nat → Nat} {w W : World} (h : MnSt T g e f w W) (d n : Nat) (hf : ∀ c, c < 26 → (if c = d then n else f c) = f' c) : MnSt T g e f' w (W.setCell ⟨e, d, none⟩ (.int .i64 (n : Int))) :=
 ⟨h.x.keep (K := fun k => k ≠ e) ((Keep.refl _ W).setCell (.inl (by simp)) _) h.ne, (CntBox.put h.y d n).congr_ hf, h.b.setCell (p := ⟨e, d, none⟩) h.s _, h.s, h.ne⟩
/-- .. and the numbers to come -/
structure MmSt (T : Typ) (g e nb : Nat) (f f2 : Nat → Nat) (w W : World) : Prop where
 o : MnSt T g e f w W
 z : CntBox W nb f2
 lt : e < nb
 ne : g ≠ nb
theorem MmSt.below {T : Typ} {g e nb : Nat} {f f2 : Nat → Nat} {w W W' : World} (h : MmSt T g e nb f f2 w W) (hb : Below W.heap.size W W') : MmSt T g e nb f f2 w W' := ⟨h.o.below hb, h.z.below' hb, h.lt, h.ne⟩
theorem MmSt.put {T : Typ} {g e nb : Nat} {f f2 f' : Nat → Nat} {w W : World} (h : MmSt T g e nb f f2 w W) (d n : Nat) (hf : ∀ c, c < 26 → (if c = d then n else f2 c) = f' c) : MmSt T g e nb f f' w (W.setCell ⟨nb, d, none⟩ (.int .i64 (n : Int))) := by
 have hk : Keep (fun k => k ≠ nb) W (W.setCell ⟨nb, d, none⟩ (.int .i64 (n : Int))) := (Keep.refl _ W).setCell (.inl (by simp)) _
 have h1 := h.lt
 have h2 := h.o.s
 exact ⟨⟨h.o.x.keep hk h.ne, hk.heap (by omega) h.o.y, h.o.b.setCell (p := ⟨nb, d, none⟩) (show w.heap.size ≤ nb by omega) _, h.o.s, h.o.ne⟩, (CntBox.put h.z d n).congr_ hf, h.lt, h.ne⟩
theorem MmSt.cast {T : Typ} {g e nb : Nat} {f f2 f' : Nat → Nat} {w W : World} (h : MmSt T g e nb f f2 w W) (hf : ∀ c, c < 26 → f2 c = f' c) : MmSt T g e nb f f' w W := ⟨h.o, h.z.congr_ hf, h.lt, h.ne⟩
theorem MnSt.cast {T : Typ} {g e : Nat} {f f' : Nat → Nat} {w W : World} (h : MnSt T g e f w W) (hf : ∀ c, c < 26 → f c = f' c) : MnSt T g e f' w W := ⟨h.x, h.y.congr_ hf, h.b, h.s, h.ne⟩
theorem has_take {l : List UInt8} {k d : Nat} (h : l[k]? = some (chC d)) (hd : d < 26) (e : Nat) (he : e < 26) : hasC (l.take (k + 1)) e = (hasC (l.take k) e || e == d) := by
 unfold hasC
 have h2 : ((some (chC d)).toList.any fun b => b.toNat == 97 + e) = (e == d) := by
  rw [Bool.eq_iff_iff]
  simp [chC_nat hd]; omega
 rw [List.take_add_one, h, List.any_append, h2]
theorem has_not {l : List UInt8} (hs : isSetB l = true) {k d : Nat} (h : l[k]? = some (chC d)) (hd : d < 26) : hasC (l.take k) d = false := by
 rw [Bool.eq_false_iff]
 intro hc
 have hm := (hasC_iff hd).1 hc
 obtain ⟨j, hj⟩ := List.getElem?_of_mem hm
 rw [List.getElem?_take] at hj
 split at hj
 ·rename_i hjk
  have g1 := List.getElem?_eq_some_iff.1 hj
  have g2 := List.getElem?_eq_some_iff.1 h
  have := List.pairwise_iff_getElem.1 (asc_of_set hs).1 j k g1.1 g2.1 hjk
  rw [g1.2, g2.2] at this; omega
 ·cases hj
def rimF (T : Typ) (k : Nat) : Nat → Nat := fun c => ind (hasC ((bl T.rim).take k) c)
def curK (T : Typ) (j c k : Nat) : Nat → Nat := fun d => if hasC ((bl (T.after c)).take k) d then min (curM T.kd j c d + atM T.kd j c) satM else curM T.kd j c d
theorem curK_zero (T : Typ) (j c : Nat) : curK T j c 0 = curM T.kd j c := by funext d; simp [curK, hasC]
theorem curK_all (T : Typ) (j c : Nat) {k : Nat} (hk : (bl (T.after c)).length ≤ k) : curK T j c k = curM T.kd j (c + 1) := by
 funext d
 unfold curK
 rw [List.take_of_length_le hk, curM, curM, satF_succ]; rfl
/-- a byte of a set -/
theorem set_byte {s : ByteArray} (hs : isSetB (bl s) = true) {k : Nat} (hk : k < s.size) : ∃ d, d < 26 ∧ s[k] = chC d ∧ (bl s)[k]? = some (chC d) ∧ IntKind.u8.wrap ((s[k].toNat : Int) - 97) = (d : Int) := by
 have h1 := bl_at s hk
 have hl := (asc_of_set hs).2 _ (List.mem_of_getElem? h1)
 have h2 := hl
 simp [letC] at h2
 refine ⟨cl s[k], cl_lt hl, (ch_cl hl).symm, by rw [h1, ch_cl hl], ?_⟩
 show ((s[k].toNat : Int) - 97) % 256 = _
 unfold cl; omega
set_option maxRecDepth 100000 in
set_option maxHeartbeats 8000000 in
theorem manyR_any (a : Option Addr) (c : Nat) (l : List Typ) (i : Int) (w : World) (h : TypesAt w a l) (hs : ∀ t, t ∈ l → SmlT t) (hl : l.length ≤ 1000000) :
  Calls Tryz.prog 45 #[.slice a l.length c, .int .i64 i] w fun e w' => e = .returned (manyOut l i) ∧ Below w.heap.size w w' := by
 have HC := Lib.hid (ofR_any a c l i w h hs hl)
 have HT := Lib.hid h
 have HS := Lib.hid hs
 clear h hs
 go_enter Tryz.func45, Tryz.ntmps45
 go_wp2_with (refine HC.out.mono ?_)
 rintro e w1 ⟨rfl, hb1⟩
 have HB1 := Lib.hid hb1
 have HT1 := Lib.hid (HT.out.below hb1)
 clear hb1 HC HT
 by_cases h0 : askedErr l i = 0
 rotate_left
 ·have HE : Hid (manyOut l i = .tuple #[.int .i64 0, .int .i64 (askedErr l i)]) := Lib.hid (by unfold manyOut; rw [if_neg h0])
  have hne : (askedErr l i == 0) = false := by simpa using h0
  go_wp2_with fail
  exact bodyPost_ret (results_tmp_tmp4 rfl) rfl ⟨by rw [HE.out]; rfl, HB1.out⟩
 obtain ⟨n1, T, rfl, ht1, hk1, hg1, hm1, hm12⟩ := asked_good h0
 have HE : Hid (manyOut l n1 = .tuple #[.int .i64 (manyM T.kd T.least T.m : Nat), .int .i64 0]) := Lib.hid (by unfold manyOut; rw [if_pos h0, hk1]; rfl)
 have hsm := HS.out T (List.mem_of_getElem? ht1)
 obtain ⟨hts, g1', g2', g3'⟩ := typeB_good hg1
 obtain ⟨s1, s2, s3⟩ := Typ.sets_iff.1 hts
 have HRS := Lib.hid s1
 have HAF := Lib.hid s3
 have HBZ := Lib.hid hsm.base
 have hrz := hsm.rim
 have HAZ := Lib.hid hsm.after
 obtain ⟨m, hm⟩ : ∃ m, T.m = m := ⟨_, rfl⟩
 rw [hm] at HE
 have HMM := Lib.hid (show T.most = (m : Int) by rw [← hm]; unfold Typ.m; omega)
 have hm12' : m ≤ 12 := by rw [← hm]; unfold Typ.m; omega
 have hn1 : (n1 : Int) < (l.length : Int) := by have := (List.getElem?_eq_some_iff.1 ht1).1; omega
 have hn10 : (0 : Int) ≤ (n1 : Int) := by omega
 obtain ⟨b, o, rfl, hat1⟩ := HT1.out n1 T ht1
 obtain ⟨wp, hwp⟩ : ∃ wp, w1.alloc (.cells (typCells typ0) 71) = wp := ⟨_, rfl⟩
 have bp : Box wp w1.heap.size (typCells typ0) 71 := by rw [← hwp]; exact Box.new _ _ _
 have hbp : Below w1.heap.size w1 wp := by rw [← hwp]; go_grown
 have hsz : wp.heap.size = w1.heap.size + 1 := by rw [← hwp]; simp
 obtain ⟨W4, hst, hw4⟩ := run_store_all (P := Tryz.prog) agg_typ bp (typF T) (fun j _ => typF_one _ j)
 obtain ⟨W5, hW5⟩ : ∃ x, W4.alloc (.cells (cntCells fun _ => 0) 140) = x := ⟨_, rfl⟩
 have b4 := hw4.below (HB1.out.trans (hbp.mono HB1.out.size)) HB1.out.size
 have hb5 : Below W4.heap.size W4 W5 := by rw [← hW5]; go_grown
 have hs4 : W4.heap.size = w1.heap.size + 1 := by rw [hw4.size, hsz]
 have ST := Lib.hid (show MnSt T w1.heap.size (w1.heap.size + 1) (rimF T 0) w W5 from ⟨(Box.typ hw4.box).below hb5, (show CntBox W5 (w1.heap.size + 1) (fun _ => 0) by rw [← hW5]; exact Box.new' hs4.symm).congr_ fun c _ => by simp [rimF, hasC, ind], b4.trans (hb5.mono b4.size), by have := HB1.out.size; omega, by omega⟩)
 have HST := Lib.hid hst
 have HWP := Lib.hid hwp
 have HW5 := Lib.hid hW5
 have HS4 := Lib.hid hs4
 have HL1 := Lib.hid (TypAt.load hat1)
 simp only [h0]
 clear hat1 hk1 hg1 hm1 hm12 hts hsm s1 s2 s3 HT1 ht1 h0 HS hwp bp hbp hst hw4 g1' g2' g3' hm hsz hW5 b4 hb5 hs4
 go_upto_region 6 with (first
  | (refine wpList_load_box rfl 71 _ rfl rfl HL1.out ?_)
  | (simp only [ztyp, HWP.out]; refine wpList_store_box rfl 71 _ _ rfl rfl rfl HST.out ?_))
 simp only [zcnt, HW5.out, HS4.out]
 obtain ⟨g, hg⟩ : ∃ g, w1.heap.size = g := ⟨_, rfl⟩
 obtain ⟨e, he⟩ : ∃ e, g + 1 = e := ⟨_, rfl⟩
 rw [hg, he] at ST
 simp only [hg, he]
 clear HST HWP HL1 HB1 hg he HW5 HS4
 go_wp2_with fail
 go_loopw [9] (fun iv wr => ∃ k : Nat, k ≤ T.rim.size ∧ iv = .int .i64 k ∧ MnSt T g e (rimF T k) w wr) (fun iv _ => T.rim.size - (intOf iv).toNat)
 case atStart => exact ⟨0, Nat.zero_le _, rfl, ST.out⟩
 case round =>
  clear ST
  obtain ⟨k, hk, rfl, st⟩ := hrel
  have ST := Lib.hid st
  have c4 := st.x.fields.2.2.2.2.1
  simp only [Nat.zero_add] at c4
  clear st
  by_cases hlt : k < T.rim.size
  ·obtain ⟨d, hd26, hzd, hbl, hdw⟩ := set_byte HRS.out hlt
   obtain ⟨z, hz⟩ : ∃ z, T.rim[k] = z := ⟨_, rfl⟩
   rw [hz] at hdw
   have hki : (k : Int) < (T.rim.size : Int) := by omega
   have hk0 : (0 : Int) ≤ (k : Int) := by omega
   have hdi : (d : Int) < 26 := by omega
   have hd0 : (0 : Int) ≤ (d : Int) := by omega
   have d2 := ST.out.y.cell_ hd26
   have d3 := ST.out.y.frozen d
   have HN := Lib.hid (show MnSt T g e (rimF T (k + 1)) w (wr.setCell ⟨e, d, none⟩ (.int .i64 ((1 : Nat) : Int))) from ST.out.put d 1 fun c hc => by
    unfold rimF
    rw [has_take hbl hd26 c hc]
    by_cases h : c = d
    ·subst h
     rw [if_pos rfl]; simp [ind]
    ·rw [if_neg h, show (c == d) = false by simpa using h, Bool.or_false])
   clear hzd hbl
   go_wp2_with fail
   go_roundw
   case rel => exact ⟨k + 1, by omega, by go_num, HN.out⟩
   case measure => simp [intOf]; omega
  have hkn : decide ((k : Int) < (T.rim.size : Int)) = false := by simp; omega
  have ST0 := Lib.hid (show MnSt T g e (atM T.kd 0) w wr from ST.out.cast fun c _ => by unfold rimF; rw [List.take_of_length_le (by rw [bl_len]; omega)]; rfl)
  clear ST
  go_wp2_with fail
  clear c4
  go_loopw [10, 11, 12, 13, 14, 15] (fun sv nv _ _ _ _ wn => ∃ j : Nat, j ≤ m ∧ nv = .int .i64 ((j : Int) + 1) ∧ sv = .int .i64 (manyM T.kd T.least j : Nat) ∧ MnSt T g e (atM T.kd j) w wn) (fun _ nv _ _ _ _ _ => m + 1 - (intOf nv).toNat)
  case atStart => exact ⟨0, Nat.zero_le _, rfl, rfl, ST0.out⟩
  case round =>
   clear ST0
   obtain ⟨j, hj, rfl, rfl, st⟩ := hrel
   obtain ⟨wn, rfl⟩ : ∃ x, x = wr := ⟨_, rfl⟩
   have ST := Lib.hid st
   have c3 := st.x.fields.2.2.2.1
   simp only [Nat.zero_add, HMM.out] at c3
   clear st
   by_cases hlt : j < m
   rotate_left
   ·have hjn : decide ((j : Int) + 1 ≤ (m : Int)) = false := decide_eq_false (by omega)
    have HJM := Lib.hid (show j = m by omega)
    go_wp2_with fail
    exact bodyPost_ret (results_tmp_tmp4 rfl) rfl ⟨by rw [HE.out, HJM.out]; rfl, ST.out.b⟩
   have hjn : decide ((j : Int) + 1 ≤ (m : Int)) = true := decide_eq_true (by omega)
   obtain ⟨W1, hW1⟩ : ∃ W1, wn.alloc (.cells (cntCells fun _ => 0) 140) = W1 := ⟨_, rfl⟩
   obtain ⟨nb, hnb⟩ : ∃ nb, wn.heap.size = nb := ⟨_, rfl⟩
   have ST1 := Lib.hid (show MmSt T g e nb (atM T.kd j) (curM T.kd j 0) w W1 from ⟨ST.out.below (by rw [← hW1]; go_grown), (show CntBox W1 nb (fun _ => 0) by rw [← hW1]; exact Box.new' hnb.symm).congr_ fun _ _ => rfl, by have := ST.out.y.lt; omega, by have := ST.out.x.lt; omega⟩)
   go_upto_region 15 with fail
   simp only [zcnt, hW1, hnb]
   clear c3 hW1 hnb ST
   go_wp2_with fail
   go_loopw [10, 13, 14, 15] (fun sv cv _ _ wc => ∃ c : Nat, c ≤ 26 ∧ cv = .int .i64 c ∧ sv = .int .i64 (sumM T.kd T.least j c : Nat) ∧ MmSt T g e nb (atM T.kd j) (curM T.kd j c) w wc) (fun _ cv _ _ _ => 26 - (intOf cv).toNat)
   case atStart => exact ⟨0, Nat.zero_le _, rfl, rfl, ST1.out⟩
   case round =>
    clear ST1 W1
    obtain ⟨c, hc, rfl, rfl, st⟩ := hrel
    obtain ⟨wc, rfl⟩ : ∃ x, x = wr := ⟨_, rfl⟩
    have ST := Lib.hid st
    have c2 := st.o.x.fields.2.2.1
    have c5 := st.o.x.fields.2.2.2.2.2
    simp only [Nat.zero_add] at c2 c5
    clear st
    by_cases hc26 : c < 26
    rotate_left
    ·have hcn : decide ((c : Int) < 26) = false := by simp; omega
     have hce : c = 26 := by omega
     have z26 := ST.out.z
     rw [hce, curM_all] at z26
     have HL := Lib.hid (CntBox.load z26)
     obtain ⟨W2, hst, hw2⟩ := CntBox.store ST.out.o.y (atM T.kd (j + 1))
     have HST := Lib.hid hst
     have HN := Lib.hid (show MnSt T g e (atM T.kd (j + 1)) w W2 from ⟨ST.out.o.x.keep hw2.keep ST.out.o.ne, hw2.box, hw2.below ST.out.o.b ST.out.o.s, ST.out.o.s, ST.out.o.ne⟩)
     have HSM := Lib.hid (show sumM T.kd T.least j c = manyM T.kd T.least (j + 1) by rw [hce]; rfl)
     have hjw : IntKind.i64.wrap ((j : Int) + 1 + 1) = ((j + 1 : Nat) : Int) + 1 := by rw [IntWalk.i64_in _ (by omega)]; omega
     clear hce z26 hst hw2 c2 c5
     go_wp2_with (first
      | (refine wpList_load_box rfl 140 _ rfl rfl HL.out ?_)
      | (refine wpList_store_box rfl 140 _ _ rfl rfl rfl HST.out ?_))
     go_roundw
     case rel => exact ⟨j + 1, by omega, by first | rfl | go_num, by rw [HSM.out], HN.out⟩
     case measure => first | (simp [intOf]; done) | (simp [intOf]; omega)
    have hci : (c : Int) < 26 := by omega
    have hc0 : (0 : Int) ≤ (c : Int) := by omega
    have hqn : ¬ (26 : Int) ≤ (c : Int) := by omega
    have hcw : IntKind.i64.wrap ((97 : Int) + (c : Int)) = (97 : Int) + (c : Int) := IntWalk.i64_in _ (by omega)
    have hcw2 : IntKind.u8.wrap ((97 : Int) + (c : Int)) = ((chC c).toNat : Int) := by
     rw [chC_nat hc26]
     show ((97 : Int) + (c : Int)) % 256 = _; omega
    have HSS := Lib.hid (show sumM T.kd T.least j (c + 1) = if (decide (T.least ≤ ((j + 1 : Nat) : Int)) && T.kd.base c) then min (sumM T.kd T.least j c + atM T.kd j c) satM else sumM T.kd T.least j c by unfold sumM; rw [satF_succ])
    by_cases hle : T.least ≤ (j : Int) + 1
    rotate_left
    ·have HSM := Lib.hid (show sumM T.kd T.least j (c + 1) = sumM T.kd T.least j c by rw [HSS.out, show decide (T.least ≤ ((j + 1 : Nat) : Int)) = false from decide_eq_false (by omega)]; rfl)
     clear HSS
     go_wp2_with fail
     go_loopw [14, 15] (fun kv _ wq => ∃ k : Nat, k ≤ (T.after c).size ∧ kv = .int .i64 k ∧ MmSt T g e nb (atM T.kd j) (curK T j c k) w wq) (fun kv _ _ => (T.after c).size - (intOf kv).toNat)
     case atStart => exact ⟨0, Nat.zero_le _, rfl, by rw [curK_zero]; exact ST.out⟩
     case round =>
      clear ST
      obtain ⟨k, hk, rfl, st⟩ := hrel
      obtain ⟨wq, rfl⟩ : ∃ x, x = wr := ⟨_, rfl⟩
      have ST := Lib.hid st
      have f7 : wq.cell? ⟨g, 6 + c, none⟩ = some (.string (T.after c)) := by
       have := st.o.x (6 + c) (by omega)
       rw [Nat.zero_add] at this
       rw [this]; exact congrArg some (by rw [Nat.add_comm 6 c]; rfl)
      clear st
      by_cases hlt2 : k < (T.after c).size
      rotate_left
      ·have hkn : decide ((k : Int) < ((T.after c).size : Int)) = false := by simp; omega
       have HN := Lib.hid (show MmSt T g e nb (atM T.kd j) (curM T.kd j (c + 1)) w wq from ST.out.cast fun d _ => by rw [curK_all T j c (by rw [bl_len]; omega)])
       go_wp2_with fail
       go_roundw
       case rel => exact ⟨c + 1, by omega, by go_num, by rw [HSM.out], HN.out⟩
       case measure => simp [intOf]; omega
      have haz := HAZ.out c hc26
      obtain ⟨d, hd26, hzd, hbl, hdw⟩ := set_byte (HAF.out c hc26) hlt2
      obtain ⟨z, hz⟩ : ∃ z, (T.after c)[k] = z := ⟨_, rfl⟩
      rw [hz] at hdw
      have HBL := Lib.hid hbl
      have hki : (k : Int) < ((T.after c).size : Int) := by omega
      have hk0 : (0 : Int) ≤ (k : Int) := by omega
      have hdi : (d : Int) < 26 := by omega
      have hd0 : (0 : Int) ≤ (d : Int) := by omega
      obtain ⟨x, hx⟩ : ∃ x, curM T.kd j c d = x := ⟨_, rfl⟩
      obtain ⟨y, hy⟩ : ∃ y, atM T.kd j c = y := ⟨_, rfl⟩
      have hf1 : x ≤ satM := hx ▸ curM_le T.kd j c d
      have hf2 : y ≤ satM := hy ▸ atM_le T.kd j c
      have hw1 : IntKind.i64.wrap ((x : Int) + (y : Int)) = (x : Int) + (y : Int) := IntWalk.i64_in _ (by simp only [satM] at hf1 hf2; omega)
      obtain ⟨q0, hq0⟩ : ∃ q, min (x + y) satM = q := ⟨_, rfl⟩
      have hmn : min (1000000000 : Int) ((x : Int) + (y : Int)) = (q0 : Int) := by rw [← hq0]; simp only [satM]; omega
      have HQ0 := Lib.hid hq0
      clear hq0
      have HXY := Lib.hid (And.intro hx hy)
      have k0 : ∀ A, Below wq.heap.size wq A → A.cell? ⟨nb, d, none⟩ = some (.int .i64 (x : Int)) ∧ A.cell? ⟨e, c, none⟩ = some (.int .i64 (y : Int)) := fun A hA => by
       have z1 : CntBox A nb _ := ST.out.z.below' hA
       have y1 : CntBox A e _ := ST.out.o.y.below' hA
       have h1 := z1.cell_ hd26
       have h2 := y1.cell_ hc26
       rw [show curK T j c k d = x by unfold curK; rw [has_not (HAF.out c hc26) HBL.out hd26, ← hx]; rfl] at h1
       rw [hy] at h2
       exact ⟨h1, h2⟩
      have K1 := Lib.hid k0
      clear hzd hbl hx hy k0
      go_upto_region 24 with fail
      refine wp_region_heldB 10 [] (by kernel_rfl) (by kernel_rfl) (by kernel_rfl) (by simp) ?_
      intro S hS
      have K0 := Lib.hid (fun A hA => K1.out A (hS A hA))
      have HS := Lib.hid hS
      clear hS
      simp only [List.take_succ_cons, List.take_zero, List.drop_succ_cons, List.drop_zero]
      repeat (first
       | (refine held_not rfl (by rfl) ?_; try (dsimp only); try simp only [Act.put, List.setIfInBounds_toArray, List.set_cons_zero, List.set_cons_succ])
       | (refine held_val (v := ?_) rfl (by rfl) ?_ ?_; rotate_left; (· (intro W hW; obtain ⟨q0, q1⟩ := K0.out W hW; go_simp; try with_reducible rfl)); try (dsimp only); try simp only [Act.put, List.setIfInBounds_toArray, List.set_cons_zero, List.set_cons_succ])
       | (refine held_skip rfl (by rfl) ?_ ?_; (· (intro W hW; obtain ⟨q0, q1⟩ := K0.out W hW; go_simp; try with_reducible rfl)); try (dsimp only); try simp only [Act.put, List.setIfInBounds_toArray, List.set_cons_zero, List.set_cons_succ]))
      refine held_nil ?_
      intro τ hτ W3 hW hO
      obtain rfl := laid0 hτ
      have HB := Lib.hid (HS.out W3 hW)
      clear hτ hO hW HS K0
      simp only [overs, List.foldl_nil]
      have ST4 := Lib.hid (ST.out.below HB.out)
      obtain ⟨d2, -⟩ := K1.out W3 HB.out
      have d3 := ST4.out.z.frozen d
      have HN := Lib.hid (show MmSt T g e nb (atM T.kd j) (curK T j c (k + 1)) w (W3.setCell ⟨nb, d, none⟩ (.int .i64 (q0 : Int))) from ST4.out.put d _ fun e2 he2 => by
       rw [← HQ0.out]
       unfold curK
       rw [has_take HBL.out hd26 e2 he2]
       by_cases h : e2 = d
       ·subst h
        rw [if_pos rfl, if_pos (by simp), HXY.out.1, HXY.out.2]
       ·rw [if_neg h, show (e2 == d) = false by simpa using h, Bool.or_false])
      clear K1 ST4 f7
      go_wp2_with fail
      (try simp only [hmn])
      go_roundw
      case rel => exact ⟨k + 1, by omega, by go_num, HN.out⟩
      case measure => simp [intOf]; omega
    have HIN := Lib.hid (inR_any T.base (chC c) (by have := HBZ.out; omega) wc)
    rw [inL_ch hc26] at HIN
    rcases hbc : hasC (bl T.base) c with _ | _
    ·rw [hbc] at HIN
     have HSM := Lib.hid (show sumM T.kd T.least j (c + 1) = sumM T.kd T.least j c by rw [HSS.out, show T.kd.base c = false from hbc, Bool.and_false]; rfl)
     clear HSS hbc
     go_wp2_with (refine HIN.out.mono ?_)
     clear HIN
     go_wp2_with fail
     go_loopw [14, 15] (fun kv _ wq => ∃ k : Nat, k ≤ (T.after c).size ∧ kv = .int .i64 k ∧ MmSt T g e nb (atM T.kd j) (curK T j c k) w wq) (fun kv _ _ => (T.after c).size - (intOf kv).toNat)
     case atStart => exact ⟨0, Nat.zero_le _, rfl, by rw [curK_zero]; exact ST.out⟩
     case round =>
      clear ST
      obtain ⟨k, hk, rfl, st⟩ := hrel
      obtain ⟨wq, rfl⟩ : ∃ x, x = wr := ⟨_, rfl⟩
      have ST := Lib.hid st
      have f7 : wq.cell? ⟨g, 6 + c, none⟩ = some (.string (T.after c)) := by
       have := st.o.x (6 + c) (by omega)
       rw [Nat.zero_add] at this
       rw [this]; exact congrArg some (by rw [Nat.add_comm 6 c]; rfl)
      clear st
      by_cases hlt2 : k < (T.after c).size
      rotate_left
      ·have hkn : decide ((k : Int) < ((T.after c).size : Int)) = false := by simp; omega
       have HN := Lib.hid (show MmSt T g e nb (atM T.kd j) (curM T.kd j (c + 1)) w wq from ST.out.cast fun d _ => by rw [curK_all T j c (by rw [bl_len]; omega)])
       go_wp2_with fail
       go_roundw
       case rel => exact ⟨c + 1, by omega, by go_num, by rw [HSM.out], HN.out⟩
       case measure => simp [intOf]; omega
      have haz := HAZ.out c hc26
      obtain ⟨d, hd26, hzd, hbl, hdw⟩ := set_byte (HAF.out c hc26) hlt2
      obtain ⟨z, hz⟩ : ∃ z, (T.after c)[k] = z := ⟨_, rfl⟩
      rw [hz] at hdw
      have HBL := Lib.hid hbl
      have hki : (k : Int) < ((T.after c).size : Int) := by omega
      have hk0 : (0 : Int) ≤ (k : Int) := by omega
      have hdi : (d : Int) < 26 := by omega
      have hd0 : (0 : Int) ≤ (d : Int) := by omega
      obtain ⟨x, hx⟩ : ∃ x, curM T.kd j c d = x := ⟨_, rfl⟩
      obtain ⟨y, hy⟩ : ∃ y, atM T.kd j c = y := ⟨_, rfl⟩
      have hf1 : x ≤ satM := hx ▸ curM_le T.kd j c d
      have hf2 : y ≤ satM := hy ▸ atM_le T.kd j c
      have hw1 : IntKind.i64.wrap ((x : Int) + (y : Int)) = (x : Int) + (y : Int) := IntWalk.i64_in _ (by simp only [satM] at hf1 hf2; omega)
      obtain ⟨q0, hq0⟩ : ∃ q, min (x + y) satM = q := ⟨_, rfl⟩
      have hmn : min (1000000000 : Int) ((x : Int) + (y : Int)) = (q0 : Int) := by rw [← hq0]; simp only [satM]; omega
      have HQ0 := Lib.hid hq0
      clear hq0
      have HXY := Lib.hid (And.intro hx hy)
      have k0 : ∀ A, Below wq.heap.size wq A → A.cell? ⟨nb, d, none⟩ = some (.int .i64 (x : Int)) ∧ A.cell? ⟨e, c, none⟩ = some (.int .i64 (y : Int)) := fun A hA => by
       have z1 : CntBox A nb _ := ST.out.z.below' hA
       have y1 : CntBox A e _ := ST.out.o.y.below' hA
       have h1 := z1.cell_ hd26
       have h2 := y1.cell_ hc26
       rw [show curK T j c k d = x by unfold curK; rw [has_not (HAF.out c hc26) HBL.out hd26, ← hx]; rfl] at h1
       rw [hy] at h2
       exact ⟨h1, h2⟩
      have K1 := Lib.hid k0
      clear hzd hbl hx hy k0
      go_upto_region 24 with fail
      refine wp_region_heldB 10 [] (by kernel_rfl) (by kernel_rfl) (by kernel_rfl) (by simp) ?_
      intro S hS
      have K0 := Lib.hid (fun A hA => K1.out A (hS A hA))
      have HS := Lib.hid hS
      clear hS
      simp only [List.take_succ_cons, List.take_zero, List.drop_succ_cons, List.drop_zero]
      repeat (first
       | (refine held_not rfl (by rfl) ?_; try (dsimp only); try simp only [Act.put, List.setIfInBounds_toArray, List.set_cons_zero, List.set_cons_succ])
       | (refine held_val (v := ?_) rfl (by rfl) ?_ ?_; rotate_left; (· (intro W hW; obtain ⟨q0, q1⟩ := K0.out W hW; go_simp; try with_reducible rfl)); try (dsimp only); try simp only [Act.put, List.setIfInBounds_toArray, List.set_cons_zero, List.set_cons_succ])
       | (refine held_skip rfl (by rfl) ?_ ?_; (· (intro W hW; obtain ⟨q0, q1⟩ := K0.out W hW; go_simp; try with_reducible rfl)); try (dsimp only); try simp only [Act.put, List.setIfInBounds_toArray, List.set_cons_zero, List.set_cons_succ]))
      refine held_nil ?_
      intro τ hτ W3 hW hO
      obtain rfl := laid0 hτ
      have HB := Lib.hid (HS.out W3 hW)
      clear hτ hO hW HS K0
      simp only [overs, List.foldl_nil]
      have ST4 := Lib.hid (ST.out.below HB.out)
      obtain ⟨d2, -⟩ := K1.out W3 HB.out
      have d3 := ST4.out.z.frozen d
      have HN := Lib.hid (show MmSt T g e nb (atM T.kd j) (curK T j c (k + 1)) w (W3.setCell ⟨nb, d, none⟩ (.int .i64 (q0 : Int))) from ST4.out.put d _ fun e2 he2 => by
       rw [← HQ0.out]
       unfold curK
       rw [has_take HBL.out hd26 e2 he2]
       by_cases h : e2 = d
       ·subst h
        rw [if_pos rfl, if_pos (by simp), HXY.out.1, HXY.out.2]
       ·rw [if_neg h, show (e2 == d) = false by simpa using h, Bool.or_false])
      clear K1 ST4 f7
      go_wp2_with fail
      (try simp only [hmn])
      go_roundw
      case rel => exact ⟨k + 1, by omega, by go_num, HN.out⟩
      case measure => simp [intOf]; omega
    ·rw [hbc] at HIN
     obtain ⟨x0, hx0⟩ : ∃ x, sumM T.kd T.least j c = x := ⟨_, rfl⟩
     obtain ⟨y0, hy0⟩ : ∃ y, atM T.kd j c = y := ⟨_, rfl⟩
     have hf1 : x0 ≤ satM := hx0 ▸ sumM_le T.kd T.least j c
     have hf2 : y0 ≤ satM := hy0 ▸ atM_le T.kd j c
     have HSM := Lib.hid (show sumM T.kd T.least j (c + 1) = min (x0 + y0) satM by rw [HSS.out, show T.kd.base c = true from hbc, show decide (T.least ≤ ((j + 1 : Nat) : Int)) = true from decide_eq_true (by omega), hx0, hy0]; rfl)
     have hw0 : IntKind.i64.wrap ((x0 : Int) + (y0 : Int)) = (x0 : Int) + (y0 : Int) := IntWalk.i64_in _ (by simp only [satM] at hf1 hf2; omega)
     obtain ⟨s0, hs0⟩ : ∃ q, min (x0 + y0) satM = q := ⟨_, rfl⟩
     rw [hs0] at HSM
     have hmn0 : min (1000000000 : Int) ((x0 : Int) + (y0 : Int)) = (s0 : Int) := by rw [← hs0]; simp only [satM]; omega
     have d5 := ST.out.o.y.cell_ hc26
     rw [hy0] at d5
     simp only [hx0]
     clear HSS hbc hx0 hy0 hs0
     go_upto_region 20 with (refine HIN.out.mono ?_)
     clear HIN
     (try simp only [hmn0])
     clear d5
     go_wp2_with fail
     go_loopw [14, 15] (fun kv _ wq => ∃ k : Nat, k ≤ (T.after c).size ∧ kv = .int .i64 k ∧ MmSt T g e nb (atM T.kd j) (curK T j c k) w wq) (fun kv _ _ => (T.after c).size - (intOf kv).toNat)
     case atStart => exact ⟨0, Nat.zero_le _, rfl, by rw [curK_zero]; exact ST.out⟩
     case round =>
      clear ST
      obtain ⟨k, hk, rfl, st⟩ := hrel
      obtain ⟨wq, rfl⟩ : ∃ x, x = wr := ⟨_, rfl⟩
      have ST := Lib.hid st
      have f7 : wq.cell? ⟨g, 6 + c, none⟩ = some (.string (T.after c)) := by
       have := st.o.x (6 + c) (by omega)
       rw [Nat.zero_add] at this
       rw [this]; exact congrArg some (by rw [Nat.add_comm 6 c]; rfl)
      clear st
      by_cases hlt2 : k < (T.after c).size
      rotate_left
      ·have hkn : decide ((k : Int) < ((T.after c).size : Int)) = false := by simp; omega
       have HN := Lib.hid (show MmSt T g e nb (atM T.kd j) (curM T.kd j (c + 1)) w wq from ST.out.cast fun d _ => by rw [curK_all T j c (by rw [bl_len]; omega)])
       go_wp2_with fail
       go_roundw
       case rel => exact ⟨c + 1, by omega, by go_num, by rw [HSM.out], HN.out⟩
       case measure => simp [intOf]; omega
      have haz := HAZ.out c hc26
      obtain ⟨d, hd26, hzd, hbl, hdw⟩ := set_byte (HAF.out c hc26) hlt2
      obtain ⟨z, hz⟩ : ∃ z, (T.after c)[k] = z := ⟨_, rfl⟩
      rw [hz] at hdw
      have HBL := Lib.hid hbl
      have hki : (k : Int) < ((T.after c).size : Int) := by omega
      have hk0 : (0 : Int) ≤ (k : Int) := by omega
      have hdi : (d : Int) < 26 := by omega
      have hd0 : (0 : Int) ≤ (d : Int) := by omega
      obtain ⟨x, hx⟩ : ∃ x, curM T.kd j c d = x := ⟨_, rfl⟩
      obtain ⟨y, hy⟩ : ∃ y, atM T.kd j c = y := ⟨_, rfl⟩
      have hf1 : x ≤ satM := hx ▸ curM_le T.kd j c d
      have hf2 : y ≤ satM := hy ▸ atM_le T.kd j c
      have hw1 : IntKind.i64.wrap ((x : Int) + (y : Int)) = (x : Int) + (y : Int) := IntWalk.i64_in _ (by simp only [satM] at hf1 hf2; omega)
      obtain ⟨q0, hq0⟩ : ∃ q, min (x + y) satM = q := ⟨_, rfl⟩
      have hmn : min (1000000000 : Int) ((x : Int) + (y : Int)) = (q0 : Int) := by rw [← hq0]; simp only [satM]; omega
      have HQ0 := Lib.hid hq0
      clear hq0
      have HXY := Lib.hid (And.intro hx hy)
      have k0 : ∀ A, Below wq.heap.size wq A → A.cell? ⟨nb, d, none⟩ = some (.int .i64 (x : Int)) ∧ A.cell? ⟨e, c, none⟩ = some (.int .i64 (y : Int)) := fun A hA => by
       have z1 : CntBox A nb _ := ST.out.z.below' hA
       have y1 : CntBox A e _ := ST.out.o.y.below' hA
       have h1 := z1.cell_ hd26
       have h2 := y1.cell_ hc26
       rw [show curK T j c k d = x by unfold curK; rw [has_not (HAF.out c hc26) HBL.out hd26, ← hx]; rfl] at h1
       rw [hy] at h2
       exact ⟨h1, h2⟩
      have K1 := Lib.hid k0
      clear hzd hbl hx hy k0
      go_upto_region 24 with fail
      refine wp_region_heldB 10 [] (by kernel_rfl) (by kernel_rfl) (by kernel_rfl) (by simp) ?_
      intro S hS
      have K0 := Lib.hid (fun A hA => K1.out A (hS A hA))
      have HS := Lib.hid hS
      clear hS
      simp only [List.take_succ_cons, List.take_zero, List.drop_succ_cons, List.drop_zero]
      repeat (first
       | (refine held_not rfl (by rfl) ?_; try (dsimp only); try simp only [Act.put, List.setIfInBounds_toArray, List.set_cons_zero, List.set_cons_succ])
       | (refine held_val (v := ?_) rfl (by rfl) ?_ ?_; rotate_left; (· (intro W hW; obtain ⟨q0, q1⟩ := K0.out W hW; go_simp; try with_reducible rfl)); try (dsimp only); try simp only [Act.put, List.setIfInBounds_toArray, List.set_cons_zero, List.set_cons_succ])
       | (refine held_skip rfl (by rfl) ?_ ?_; (· (intro W hW; obtain ⟨q0, q1⟩ := K0.out W hW; go_simp; try with_reducible rfl)); try (dsimp only); try simp only [Act.put, List.setIfInBounds_toArray, List.set_cons_zero, List.set_cons_succ]))
      refine held_nil ?_
      intro τ hτ W3 hW hO
      obtain rfl := laid0 hτ
      have HB := Lib.hid (HS.out W3 hW)
      clear hτ hO hW HS K0
      simp only [overs, List.foldl_nil]
      have ST4 := Lib.hid (ST.out.below HB.out)
      obtain ⟨d2, -⟩ := K1.out W3 HB.out
      have d3 := ST4.out.z.frozen d
      have HN := Lib.hid (show MmSt T g e nb (atM T.kd j) (curK T j c (k + 1)) w (W3.setCell ⟨nb, d, none⟩ (.int .i64 (q0 : Int))) from ST4.out.put d _ fun e2 he2 => by
       rw [← HQ0.out]
       unfold curK
       rw [has_take HBL.out hd26 e2 he2]
       by_cases h : e2 = d
       ·subst h
        rw [if_pos rfl, if_pos (by simp), HXY.out.1, HXY.out.2]
       ·rw [if_neg h, show (e2 == d) = false by simpa using h, Bool.or_false])
      clear K1 ST4 f7
      go_wp2_with fail
      (try simp only [hmn])
      go_roundw
      case rel => exact ⟨k + 1, by omega, by go_num, HN.out⟩
      case measure => simp [intOf]; omega
end Go.Proofs.YthpjffhccjlnhaaGreatDoor
namespace Go.Proofs.YthpjffhccjlnhaaGreatDoor
open Go.RowKit
attribute [local go_sem] Oper.semAt_some
set_option maxRecDepth 100000 in
set_option maxHeartbeats 4000000 in
theorem firstXR_any (a : Option Addr) (c : Nat) (l : List Typ) (i : Int) (w : World) (h : TypesAt w a l) (hs : ∀ t, t ∈ l → SmlT t) (hl : l.length ≤ 1000000) :
  Calls Tryz.prog 43 #[.slice a l.length c, .int .i64 i] w fun e w' => e = .returned (firstOut l i) ∧ Below w.heap.size w w' := by
 have HC := Lib.hid (ofR_any a c l i w h hs hl)
 have HT := Lib.hid h
 have HS := Lib.hid hs
 clear h hs
 go_enter Tryz.func43, Tryz.ntmps43
 go_wp2_with (refine HC.out.mono ?_)
 rintro e w1 ⟨rfl, hb1⟩
 have HB1 := Lib.hid hb1
 have HT1 := Lib.hid (HT.out.below hb1)
 clear hb1 HC HT
 by_cases h0 : askedErr l i = 0
 rotate_left
 ·have HE : Hid (firstOut l i = .tuple #[.string ByteArray.empty, .bool false, .int .i64 (askedErr l i)]) := Lib.hid (by unfold firstOut; rw [if_neg h0])
  have hne : (askedErr l i == 0) = false := by simpa using h0
  go_wp2_with fail
  exact bodyPost_ret (results_tmp3 rfl) rfl ⟨by rw [HE.out]; rfl, HB1.out⟩
 obtain ⟨n1, T, rfl, ht1, hk1, hg1, hm1, hm12⟩ := asked_good h0
 obtain ⟨F, hF⟩ : ∃ F, firstK (askedKnd l n1) = F := ⟨_, rfl⟩
 have HE : Hid (firstOut l n1 = .tuple #[.string (mkB (toS F)), .bool (!F.isEmpty), .int .i64 0]) := Lib.hid (by unfold firstOut; rw [if_pos h0, hF])
 have hsm := HS.out T (List.mem_of_getElem? ht1)
 obtain ⟨hts, g1', g2', g3'⟩ := typeB_good hg1
 obtain ⟨lo, e1⟩ : ∃ lo : Nat, T.least = (lo : Int) := ⟨T.least.toNat, by omega⟩
 obtain ⟨hi, e2⟩ : ∃ hi : Nat, T.most = (hi : Int) := ⟨T.most.toNat, by omega⟩
 have g1 : 1 ≤ lo := by omega
 have g2 : lo ≤ 12 := by omega
 have g3 : hi ≤ 12 := by omega
 have HOV := Lib.hid (show F = firstW T.kd lo (hi + 1 - lo) by
  rw [← hF, hk1]
  show firstW T.kd T.least.toNat (T.most.toNat + 1 - T.least.toNat) = _
  rw [e1, e2]; rfl)
 obtain ⟨s1, s2, s3⟩ := Typ.sets_iff.1 hts
 have HTR := Lib.hid s1
 have HTS := Lib.hid hsm.rim
 have HTA := Lib.hid (show ∀ d, d < 26 → isSetB (bl (T.after d)) = true ∧ (T.after d).size ≤ 1000 from fun d hd => ⟨s3 d hd, hsm.after d hd⟩)
 have HTT := Lib.hid hts
 have HLO := Lib.hid e1
 have HHI := Lib.hid e2
 have hn1 : (n1 : Int) < (l.length : Int) := by have := (List.getElem?_eq_some_iff.1 ht1).1; omega
 have hn10 : (0 : Int) ≤ (n1 : Int) := by omega
 obtain ⟨b, o, rfl, hat1⟩ := HT1.out n1 T ht1
 obtain ⟨wp, hwp⟩ : ∃ wp, w1.alloc (.cells (typCells typ0) 71) = wp := ⟨_, rfl⟩
 have bp : Box wp w1.heap.size (typCells typ0) 71 := by rw [← hwp]; exact Box.new _ _ _
 have hbp : Below w1.heap.size w1 wp := by rw [← hwp]; go_grown
 obtain ⟨W4, hst, hw4⟩ := run_store_all (P := Tryz.prog) agg_typ bp (typF T) (fun j _ => typF_one _ j)
 have B4 := Lib.hid (hw4.below (HB1.out.trans (hbp.mono HB1.out.size)) HB1.out.size)
 have X4 := Lib.hid (Box.typ hw4.box)
 have HST := Lib.hid hst
 have HWP := Lib.hid hwp
 have HL1 := Lib.hid (TypAt.load hat1)
 simp only [h0]
 clear hat1 hF hk1 hg1 hm1 hm12 hts hsm s1 s2 s3 HT1 ht1 h0 HS hwp bp hbp hst hw4 e1 e2 g1' g2' g3'
 go_upto_region 5 with (first
  | (refine wpList_load_box rfl 71 _ rfl rfl HL1.out ?_)
  | (simp only [ztyp, HWP.out]; refine wpList_store_box rfl 71 _ _ rfl rfl rfl HST.out ?_))
 obtain ⟨g, hg⟩ : ∃ g, w1.heap.size = g := ⟨_, rfl⟩
 rw [hg] at X4
 simp only [hg]
 clear HST HWP HL1 HB1 hg wp w1
 have HL := Lib.hid (TypAt.load X4.out)
 have HGD := Lib.hid (goodR_any T HTT.out (fun d hd => (HTA.out d hd).2) W4)
 go_wp2_with (refine wpList_load_box rfl 71 _ rfl rfl HL.out ?_)
 refine HGD.out.mono ?_
 rintro e9 w5 ⟨rfl, hb5⟩
 obtain ⟨wq, hwq⟩ : ∃ wq, w5.alloc (.cells (fnCells 12 fun _ => .string ByteArray.empty) 121) = wq := ⟨_, rfl⟩
 have bq : Box wq w5.heap.size (fnCells 12 fun _ => .string ByteArray.empty) 121 := by rw [← hwq]; exact Box.new _ _ _
 have hbq : Below w5.heap.size w5 wq := by rw [← hwq]; go_grown
 obtain ⟨w6, hst, hw6⟩ := run_store_all (P := Tryz.prog) agg_ends bq (goodF T.kd) (fun _ _ => rfl)
 have ST := Lib.hid (show OvSt T g w5.heap.size w w6 from ⟨((X4.out.below hb5).below hbq).keep hw6.keep (by have := (X4.out.below hb5).lt; omega), hw6.box, by
  have h5 := B4.out.trans (hb5.mono B4.out.size)
  exact hw6.below (h5.trans (hbq.mono h5.size)) h5.size⟩)
 have HWQ := Lib.hid hwq
 have HST := Lib.hid hst
 clear HL HGD hb5 hwq bq hbq hst hw6
 go_upto_region 6 with (simp only [zends, HWQ.out]; refine wpList_store_box rfl 121 _ _ rfl rfl rfl HST.out ?_)
 obtain ⟨e, he⟩ : ∃ e, w5.heap.size = e := ⟨_, rfl⟩
 rw [he] at ST
 simp only [he]
 clear HST HWQ X4 B4 he wq
 have c2 := ST.out.x.fields.2.2.1
 simp only [Nat.zero_add, HLO.out] at c2
 go_wp2_with fail
 clear c2
 go_loopw [10, 11, 12, 13, 14] (fun iv _ _ _ _ wz => ∃ q : Nat, q ≤ hi + 1 - lo ∧ iv = .int .i64 ((lo + q : Nat) : Int) ∧ (∀ q', q' < q → firstAt T.kd lo q' = []) ∧ OvSt T g e w wz) (fun iv _ _ _ _ _ => hi + 1 - (intOf iv).toNat)
 case atStart => exact ⟨0, Nat.zero_le _, rfl, fun j hj => absurd hj (Nat.not_lt_zero j), ST.out⟩
 case round =>
  clear ST
  obtain ⟨q, hq, rfl, hno, st⟩ := hrel
  have HNO := Lib.hid hno
  have ST := Lib.hid st
  have c3 := st.x.fields.2.2.2.1
  have c4 := st.x.fields.2.2.2.2.1
  simp only [Nat.zero_add, HHI.out] at c3 c4
  clear hno st
  obtain ⟨n', hn'⟩ : ∃ n', lo + q = n' := ⟨_, rfl⟩
  rw [hn']
  by_cases hlt : lo + q ≤ hi
  ·have hle : decide ((n' : Int) ≤ (hi : Int)) = true := decide_eq_true (by omega)
   have hle2 : decide (n' ≤ hi) = true := decide_eq_true (by omega)
   have hn12 : n' ≤ 12 := by omega
   have hn1 : 1 ≤ n' := by omega
   have hn0 : (0 : Int) ≤ (n' : Int) := by omega
   have hfa : firstAt T.kd lo q = refWord T.kd n' T.kd.rim := by unfold firstAt; rw [hn']
   have HFA := Lib.hid hfa
   have G0 := Lib.hid (show GrW T n' 0 [] T.rim from ⟨rfl, HTR.out, HTS.out, rfl⟩)
   clear hfa
   go_wp2_with fail
   clear c3 c4
   go_loopw [11, 12, 13, 14] (fun wv nv pv _ wr => ∃ (p : Nat) (u : List Nat) (X : ByteArray), p ≤ n' ∧ pv = .int .i64 p ∧ wv = .string (mkB (toS u)) ∧ nv = .string X ∧ GrW T n' p u X ∧ OvSt T g e w wr) (fun _ _ pv _ _ => n' - (intOf pv).toNat)
   case atStart => exact ⟨0, [], T.rim, Nat.zero_le _, rfl, rfl, rfl, G0.out, ST.out⟩
   case round =>
    clear ST G0
    obtain ⟨p, u, X, hp, rfl, rfl, rfl, gw, st⟩ := hrel
    have ST := Lib.hid st
    have GW := Lib.hid gw
    clear st gw
    have hul : u.length = p := GW.out.len
    have hus : (mkB (toS u)).size = p := by rw [mkB_size]; unfold toS; rw [List.length_map, hul]
    by_cases hpn : p < n'
    ·obtain ⟨m, hm⟩ : ∃ m, n' = p + 1 + m := ⟨n' - p - 1, by omega⟩
     have hpi : (p : Int) < (n' : Int) := by omega
     have hm0 : (0 : Int) ≤ (m : Int) := by omega
     have hm12 : (m : Int) < 12 := by omega
     have hmw : IntKind.i64.wrap ((n' : Int) - 1) = (n' : Int) - 1 := IntWalk.i64_in _ (by omega)
     have hmv : IntKind.i64.wrap ((n' : Int) - 1 - (p : Int)) = (m : Int) := by rw [IntWalk.i64_in _ (by omega)]; omega
     have hmu : (n' : Int) - 1 - (p : Int) = (m : Int) := by omega
     have hmx : IntKind.i64.wrap (m : Int) = (m : Int) := IntWalk.i64_in _ (by omega)
     have c5 : wr.cell? ⟨e, m, none⟩ = some (.string (gS T.kd m)) := (ST.out.y).fn (i := m) (by omega)
     have hgs : (gS T.kd m).size ≤ 1000 := by rw [gS, mkB_size]; have := str_len (goodJ T.kd m); omega
     have hxs := GW.out.size
     have HMM := Lib.hid hm
     clear hm
     go_wp2_with fail
     clear c5
     refine (both_any X (gS T.kd m) (by omega) (by omega) wr).mono ?_
     rintro e9 w4 ⟨rfl, rfl⟩
     obtain ⟨can, hcan⟩ : ∃ can, mkB (bothL (bl X) (bl (gS T.kd m))) = can := ⟨_, rfl⟩
     have hcb : bl can = str fun d => hasC (bl X) d && goodJ T.kd m d := by
      rw [← hcan, bl_mkB, gS, bl_mkB]
      conv => lhs; rw [← str_has GW.out.set]
      exact both_str _ _
     simp only [hcan]
     clear hcan
     have HCB := Lib.hid hcb
     rcases hf : firstC (fun d => hasC (bl X) d && goodJ T.kd m d) with _ | d
     ·have he1 : can.toList.isEmpty = true := by
       rw [ByteArray.toList_eq]
       show (bl can).isEmpty = true
       rw [hcb, str_nil.2 (firstC_none.1 hf)]; rfl
      have HE0 := Lib.hid (show firstAt T.kd lo q = [] by rw [HFA.out]; exact GW.out.stuck HMM.out hf)
      have he2 : ((p : Int) == (n' : Int)) = false := by rw [beq_eq_false_iff_ne]; omega
      have he3 : (((mkB (toS u)).size : Int) == (n' : Int)) = false := by rw [hus]; exact he2
      clear hf hcb HCB
      go_wp2_with fail
      go_roundw
      case rel =>
       refine ⟨q + 1, by omega, by subst hn'; go_num, fun j' hj' => ?_, ST.out⟩
       rcases Nat.lt_or_ge j' q with h | h
       ·exact HNO.out j' h
       ·have : j' = q := by omega
        subst this; exact HE0.out
      case measure => simp [intOf]; omega
     ·have hd26 := (firstC_some hf).1
      have hcd : (bl can)[0]? = some (chC d) := by
       have := str_head (fun d => hasC (bl X) d && goodJ T.kd m d)
       rw [hf, ← hcb, List.head?_eq_getElem?] at this
       exact this
      have hc0 : 0 < can.size := by have := (List.getElem?_eq_some_iff.1 hcd).1; rwa [bl_len] at this
      have he1 : can.toList.isEmpty = false := by
       rw [ByteArray.toList_eq]
       show (bl can).isEmpty = false
       rcases hb : bl can with _ | ⟨y, z⟩
       ·rw [hb] at hcd; cases hcd
       ·rfl
      obtain ⟨x, hx⟩ : ∃ x, can[0] = x := ⟨_, rfl⟩
      have hxd : x = chC d := by have := bl_at can hc0; rw [hcd, hx] at this; exact (Option.some.inj this).symm
      have hc1 : (can.extract 0 1).size = 1 := size_one (i := 0) (by rw [bl_len]; exact hc0)
      have HCT := Lib.hid (show mkB (toS u) ++ can.extract 0 1 = mkB (toS (u ++ [d])) by
       rw [← mkB_bl (mkB (toS u) ++ can.extract 0 1), bl_app, bl_mkB, bl_one hcd]
       unfold toS; rw [List.map_append]; rfl)
      have haf : ∀ W, Calls Tryz.prog 85 #[.agg (typCells T), .int .u8 x.toNat] W fun e w' => e = .returned (.string (T.after d)) ∧ Below W.heap.size W w' := fun W => by
       have h := afterR_any T x W
       rw [show aftS T x = T.after d by rw [hxd, aftS_c T hd26]] at h
       exact h
      have HAF := Lib.hid haf
      have HGW := Lib.hid (GW.out.next HMM.out hf (HTA.out d hd26).1 (HTA.out d hd26).2)
      have hci : (1 : Int) ≤ (can.size : Int) := by omega
      have hci0 : (0 : Int) < (can.size : Int) := by omega
      clear hf hcb HCB hcd hxd haf
      go_upto_region 17 with (refine wpList_cat rfl _ _ _ rfl rfl rfl (by omega) ?_)
      refine wp_region_heldB 4 [] (by kernel_rfl) (by kernel_rfl) (by kernel_rfl) (by simp) ?_
      intro S hS
      have K0 := trivial
      have L1 := Lib.hid (fun A hA => TypAt.load (ST.out.x.below (hS A hA)))
      have HS := Lib.hid hS
      clear hS
      simp only [List.take_succ_cons, List.take_zero, List.drop_succ_cons, List.drop_zero]
      repeat (first
       | (refine held_load 71 _ (by rfl) rfl rfl L1.out ?_; try (dsimp only); try simp only [Act.put, List.setIfInBounds_toArray, List.set_cons_zero, List.set_cons_succ])
       | (refine held_not rfl (by rfl) ?_; try (dsimp only); try simp only [Act.put, List.setIfInBounds_toArray, List.set_cons_zero, List.set_cons_succ])
       | (refine held_val (v := ?_) rfl (by rfl) ?_ ?_; rotate_left; (· (intro W hW; go_simp; try with_reducible rfl)); try (dsimp only); try simp only [Act.put, List.setIfInBounds_toArray, List.set_cons_zero, List.set_cons_succ])
       | (refine held_skip rfl (by rfl) ?_ ?_; (· (intro W hW; go_simp; try with_reducible rfl)); try (dsimp only); try simp only [Act.put, List.setIfInBounds_toArray, List.set_cons_zero, List.set_cons_succ])
       | (refine held_call (v := .string (T.after d)) (f := 85) (args := #[.agg (typCells T), .int .u8 x.toNat]) rfl (by rfl) ?_ ?_ ?_; (· (intro W hW; go_simp; done)); (· exact (fun W hW => HAF.out W)); try (dsimp only); try simp only [Act.put, List.setIfInBounds_toArray, List.set_cons_zero, List.set_cons_succ]))
      refine held_nil ?_
      intro τ hτ W2 hW hO
      obtain rfl := laid0 hτ
      have ST2 := Lib.hid (ST.out.below (HS.out W2 hW))
      clear hτ hO hW K0 L1 HS ST
      simp only [overs, List.foldl_nil]
      go_wp2_with fail
      go_roundw
      case rel => exact ⟨p + 1, u ++ [d], T.after d, by omega, by go_num, by rw [HCT.out], rfl, HGW.out, ST2.out⟩
      case measure => simp [intOf]; omega
    ·have hpd : decide ((p : Int) < (n' : Int)) = false := decide_eq_false (by omega)
     have he2 : ((p : Int) == (n' : Int)) = true := by rw [beq_iff_eq]; omega
     have he3 : (((mkB (toS u)).size : Int) == (n' : Int)) = true := by rw [hus]; exact he2
     have hW : refWord T.kd n' T.kd.rim = u := by rw [GW.out.eq, show n' - p = 0 by omega]; simp [refWord]
     have hue : u.isEmpty = false := by
      rcases hu : u with _ | ⟨y, z⟩
      ·rw [hu] at hul; simp at hul; omega
      ·rfl
     have HF := Lib.hid (show F = u by
      rw [HOV.out, ← hW, ← HFA.out]
      exact firstW_at (by omega) HNO.out (by rw [HFA.out, hW]; intro h; rw [h] at hue; cases hue))
     have HU := Lib.hid hue
     clear hW hue
     go_wp2_with fail
     exact bodyPost_ret (results_tmp3 rfl) rfl ⟨by rw [HE.out, HF.out, HU.out]; rfl, ST.out.b⟩
  ·have hle : decide ((n' : Int) ≤ (hi : Int)) = false := decide_eq_false (by omega)
   have hle2 : decide (n' ≤ hi) = false := decide_eq_false (by omega)
   have HF := Lib.hid (show F = [] by rw [HOV.out]; exact firstW_no fun j' hj' => HNO.out j' (by omega))
   go_wp2_with fail
   exact bodyPost_ret (results_tmp3 rfl) rfl ⟨by rw [HE.out, HF.out]; rfl, ST.out.b⟩
end Go.Proofs.YthpjffhccjlnhaaGreatDoor
