/- ProfileDead: for all inputs the law returns true and makes new memory alone. No condition. -/
import Derived.Test.YthpjffhccjlnhaaGreatDoorGDeadP
import Derived.Test.YthpjffhccjlnhaaGreatDoorGMany
import Derived.Test.YthpjffhccjlnhaaGreatDoorMG7
import Derived.Test.YthpjffhccjlnhaaGreatDoorMG16
set_option linter.unusedSimpArgs false
set_option linter.unusedVariables false
namespace Go.Proofs.YthpjffhccjlnhaaGreatDoor
open Go.RowKit
attribute [local go_sem] Oper.semAt_some

theorem row_types {w : World} {a : Option Addr} {l : List Typ} (h : TypesAt w a l) : Row w a (typsV l) := fun j v hv => by
 have hj := (List.getElem?_eq_some_iff.1 hv).1
 rw [typsV_len] at hj
 have hk : j / 32 < l.length := by omega
 have hi : j % 32 < 32 := Nat.mod_lt _ (by omega)
 have he := typsV_at l (j / 32) l[j / 32] (List.getElem?_eq_getElem hk) (j % 32) hi
 rw [show j / 32 * 32 + j % 32 = j by omega] at he
 rw [he] at hv; cases hv
 obtain ⟨b, o, ha, h1⟩ := h (j / 32) l[j / 32] (List.getElem?_eq_getElem hk)
 refine ⟨b, o, ha, ?_⟩
 have := h1 (j % 32) hi
 rw [show o + j / 32 * 32 + j % 32 = o + j by omega] at this
 exact this
theorem typsV_one (l : List Typ) : ∀ u ∈ typsV l, u.oneCell' = true := fun u hu => by
 obtain ⟨t, _, ht⟩ := List.mem_flatMap.1 hu
 simp only [typCells, fnCells, List.mem_map, List.mem_range] at ht
 obtain ⟨j, _, rfl⟩ := ht
 exact typF_one t j
theorem typsV_setAt {l : List Typ} {n : Nat} {t : Typ} (ht : l[n]? = some t) (t' : Typ) (j : Nat) (u : Value) (hj : j < 32) (h : (typCells t).toList.set j u = (typCells t').toList) : (typsV l).set (n * 32 + j) u = typsV (l.set n t') := by
 obtain ⟨hn, e⟩ := List.getElem?_eq_some_iff.1 ht
 have e1 : l = l.take n ++ (t :: l.drop (n + 1)) := by rw [← e, List.getElem_cons_drop hn, List.take_append_drop]
 have e2 : l.set n t' = l.take n ++ (t' :: l.drop (n + 1)) := by rw [List.set_eq_take_append_cons_drop, if_pos hn]
 have e3 : ∀ x, typsV (l.take n ++ (x :: l.drop (n + 1))) = typsV (l.take n) ++ ((typCells x).toList ++ typsV (l.drop (n + 1))) := fun x => by simp [typsV]
 have e4 : (typsV (l.take n)).length = n * 32 := by rw [typsV_len, List.length_take]; congr 1; omega
 have e5 : (typCells t).toList.length = 32 := by rw [Array.length_toList, typCells, fnCells_size]
 rw [e2, e3]
 conv => lhs; rw [e1, e3]
 rw [List.set_append_right _ _ (by omega), e4, Nat.add_sub_cancel_left, List.set_append_left _ _ (by omega), h]
theorem own_set {W : World} {base g cap n : Nat} {l : List Typ} {T : Typ} (h : W.ownsRow base 71 32 (.slice (some ⟨g, 0, none⟩) l.length cap) l.length (typsV (l.set n T))) (hn : n < l.length) (j : Nat) (hj : j < 32) :
  W.cell? ⟨g, n * 32 + j, none⟩ = some (typF T j) ∧ W.frozen? ⟨g, n * 32 + j, none⟩ = false ∧ ∀ T' u, (typCells T).toList.set j u = (typCells T').toList → (W.setCell ⟨g, n * 32 + j, none⟩ u).ownsRow base 71 32 (.slice (some ⟨g, 0, none⟩) l.length cap) l.length (typsV (l.set n T')) := by
 have hl : (l.set n T)[n]? = some T := by simp [hn]
 refine ⟨?_, h.frozenAt _, fun T' u hc => ?_⟩
 ·rw [h.cellAt _ (by omega)]; exact typsV_at _ n T hl j hj
 ·have := (h.stored (n * 32 + j) u).1
  rw [typsV_setAt hl T' j u hj hc, List.set_set] at this
  exact this
def deadTo (t : Typ) (D : CS) (c : Nat) : Typ := { t with rim := mkB (woutL (bl t.rim) (str D)), base := mkB (woutL (bl t.base) (str D)), after := fun e => if e < c then (if D e then ByteArray.empty else mkB (woutL (bl (t.after e)) (str D))) else t.after e }
theorem deadTo_all (t : Typ) (D : CS) : typCells (deadTo t D 26) = typCells (deadT t D) := fnCells_congr fun j hj => by
 rcases j with _ | _ | _ | _ | _ | _ | j <;> try rfl
 simp only [typF, deadTo, deadT, show j < 26 by omega, if_true]
theorem deadTo_after (t : Typ) (D : CS) (c : Nat) : (deadTo t D c).after c = t.after c := by simp [deadTo]
theorem deadTo_succ (t : Typ) (D : CS) (c : Nat) : deadTo t D (c + 1) = aftT (deadTo t D c) c (if D c then ByteArray.empty else mkB (woutL (bl (t.after c)) (str D))) := by
 unfold deadTo aftT
 congr 1
 funext e
 by_cases h : e = c
 ·subst h; simp
 ·by_cases h2 : e < c
  ·simp [h, h2, show e < c + 1 by omega]
  ·simp [h, h2, show ¬ e < c + 1 by omega]
theorem aft_twice (t : Typ) (c : Nat) (x y : ByteArray) : aftT (aftT t c x) c y = aftT t c y := by
 unfold aftT
 congr 1
 funext e
 by_cases h : e = c <;> simp [h]
theorem inL_str (D : CS) {c : Nat} (hc : c < 26) : inL (str D) (chC c) = D c := by
 rw [Bool.eq_iff_iff]
 simp only [inL, List.contains_iff_mem, mem_str, chC_nat hc, let_ch hc, true_and]
 rw [show 97 + c - 97 = c by omega]
theorem str_len (D : CS) : (mkB (str D)).size ≤ 26 := by
 rw [← bl_len, bl_mkB]
 unfold str
 rw [List.length_map]
 exact Nat.le_trans (List.length_filter_le _ _) (by simp)
theorem set_err {l : List Typ} {n : Nat} {t T : Typ} (h : typesErr l = 0) (ht : l[n]? = some t) (hT : typeB T = true) (hn : T.name = t.name) : typesErr (l.set n T) = 0 := by
 have h12 := (typesErr_good h).1
 have hz : ∀ i, i < l.length → typErr l i = 0 := by
  unfold typesErr at h
  rw [if_neg (by omega)] at h
  exact firstE_zero h
 unfold typesErr
 rw [List.length_set, if_neg (by omega)]
 refine firstE_none fun i hi => ?_
 have h0 := hz i hi
 have hname : ∀ x k, k < l.length → (l.set n T)[k]? = some x → ∃ y, l[k]? = some y ∧ x.name = y.name := fun x k hk hx => by
  by_cases hkn : k = n
  ·subst hkn; rw [List.getElem?_set_self hk] at hx; cases hx; exact ⟨t, ht, hn⟩
  ·rw [List.getElem?_set_ne (Ne.symm hkn)] at hx; exact ⟨x, hx, rfl⟩
 obtain ⟨x, hx⟩ : ∃ x, (l.set n T)[i]? = some x := ⟨(l.set n T)[i]'(by rw [List.length_set]; exact hi), List.getElem?_eq_getElem _⟩
 obtain ⟨y, hy, hxy⟩ := hname x i hi hx
 have hxB : typeB x = true := by
  by_cases hin : i = n
  ·subst hin; rw [List.getElem?_set_self hi] at hx; cases hx; exact hT
  ·rw [List.getElem?_set_ne (Ne.symm hin)] at hx; exact (typesErr_good h).2 i x hx
 have hany : ((l.set n T).take i).any (sameName x) = (l.take i).any (sameName y) := by
  rw [Bool.eq_iff_iff, List.any_eq_true, List.any_eq_true]
  constructor
  ·rintro ⟨u, hu, hs⟩
   obtain ⟨k, hk⟩ := List.getElem?_of_mem hu
   rw [List.getElem?_take] at hk
   split at hk
   ·obtain ⟨v, hv, huv⟩ := hname u k (by omega) hk
    refine ⟨v, List.mem_of_getElem? (i := k) (by rw [List.getElem?_take, if_pos (by assumption)]; exact hv), ?_⟩
    unfold sameName at hs ⊢
    rw [← huv, ← hxy]; exact hs
   ·cases hk
  ·rintro ⟨v, hv, hs⟩
   obtain ⟨k, hk⟩ := List.getElem?_of_mem hv
   rw [List.getElem?_take] at hk
   split at hk
   ·obtain ⟨u, hu⟩ : ∃ u, (l.set n T)[k]? = some u := ⟨(l.set n T)[k]'(by rw [List.length_set]; omega), List.getElem?_eq_getElem _⟩
    obtain ⟨v', hv', huv⟩ := hname u k (by omega) hu
    rw [hk] at hv'; cases hv'
    refine ⟨u, List.mem_of_getElem? (i := k) (by rw [List.getElem?_take, if_pos (by assumption)]; exact hu), ?_⟩
    unfold sameName at hs ⊢
    rw [huv, hxy]; exact hs
   ·cases hk
 unfold typErr at h0 ⊢
 rw [hy] at h0
 rw [hx]
 simp only [(typesErr_good h).2 i y hy, hxB, hany] at h0 ⊢
 exact h0
theorem dead_facts {t : Typ} (hb : typeB t = true) (hm : t.most = (t.m : Int)) (i : Int) {F : List Nat} {M : Nat} {Ls : List UInt8} (hF : firstK (kndOf t i) = F) (hM : manyM t.kd t.least t.m = M) (hL : str (lettersW t.kd t.m t.least) = Ls) :
  (M = 0 ↔ F = []) ∧ (Ls = [] ↔ F = []) ∧ (F ≠ [] → ∃ w, w ∈ wordsOf t.kd t.m t.least) := by
 simp only [typeB, Bool.and_eq_true, inB, decide_eq_true_eq] at hb
 have h1 : 1 ≤ t.least ∧ t.least ≤ t.most := by omega
 have hle : t.least = ((t.least.toNat : Nat) : Int) := by omega
 have hF' : firstW t.kd t.least.toNat (t.m + 1 - t.least.toNat) = F := hF
 have h2 := many_zero (K := t.kd) (m := t.m) (lo := t.least.toNat) (by omega)
 rw [← hle, hM, hF'] at h2
 have h3 := first_none (K := t.kd) (lo := t.least.toNat) (m := t.m)
 rw [← hle, hF'] at h3
 refine ⟨h2, ?_, fun hne => ?_⟩
 ·rw [← hL, str_nil, h3]
  constructor
  ·intro hh
   refine List.eq_nil_iff_forall_not_mem.2 fun w hw => ?_
   obtain ⟨hch, _, _⟩ := mem_words.1 hw
   obtain ⟨g0, g1, _⟩ := chain_iff.1 hch
   obtain ⟨c, hc⟩ := List.exists_mem_of_ne_nil w g0
   have := hh c (g1 c hc)
   rw [(letters_iff (g1 c hc)).2 ⟨w, hw, hc⟩] at this; cases this
  ·intro hh c hc
   rw [Bool.eq_false_iff]; intro hl
   obtain ⟨w, hw, _⟩ := (letters_iff hc).1 hl
   rw [hh] at hw; cases hw
 ·exact List.exists_mem_of_ne_nil _ fun h => hne (h3.2 h)
set_option maxRecDepth 100000 in
set_option maxHeartbeats 8000000 in
theorem profileDead_any (a : Option Addr) (l : List Typ) (c : Nat) (hlc : l.length ≤ c) (i : Int) (s : ByteArray) (w : World) (hT : TypesAt w a l) :
  Calls Tryz.prog 10 #[.slice a l.length c, .int .i64 i, .string s] w fun e w' => e = .returned (.bool true) ∧ Below w.heap.size w w' := by
 have HT := Lib.hid hT
 have HSH := Lib.hid (short_any a c l none 0 [] w hT (fun k y hy => by simp at hy))
 clear hT
 have htu := fun W => turned_law W
 have HTU := Lib.hid htu
 clear htu
 go_enter Tryz.func10, Tryz.ntmps10
 go_wp2_with (refine HSH.out.mono ?_)
 rintro e w' ⟨b, rfl, hok, rfl⟩
 clear HSH
 rcases b with _ | _
 ·go_wp2_with (refine (HTU.out _).mono ?_)
  rintro e w1 ⟨rfl, hb⟩
  have HB := Lib.hid hb
  clear hb
  go_wp2_with fail
  go_ret
  exact ⟨rfl, HB.out⟩
 by_cases hsz : 20 < s.size
 ·have hszi : (20 : Int) < (s.size : Int) := by omega
  go_wp2_with (refine (HTU.out _).mono ?_)
  rintro e w1 ⟨rfl, hb⟩
  have HB := Lib.hid hb
  clear hb
  go_wp2_with fail
  go_ret
  exact ⟨rfl, HB.out⟩
 have hszi : ¬ (20 : Int) < (s.size : Int) := by omega
 have HOK := Lib.hid (hok rfl)
 clear hok
 have hl15 := HOK.out.tl
 have HD := Lib.hid (deadX_any a c l i w' HT.out HOK.out.sml (by omega) hlc)
 go_wp2_with (refine HD.out.mono ?_)
 rintro e w1 ⟨rfl, hb1⟩
 have HB1 := Lib.hid hb1
 have HT1 := Lib.hid (HT.out.below hb1)
 clear hb1 HD HT
 by_cases h0 : askedErr l i = 0
 rotate_left
 ·have hpo : deadOut l i = .tuple #[.string ByteArray.empty, .int .i64 (askedErr l i)] := by unfold deadOut; rw [if_neg h0]
  have hne : (askedErr l i == 0) = false := by simpa using h0
  have he1 : ByteArray.empty.toList.isEmpty = true := by rw [ByteArray.toList_eq]; rfl
  rw [hpo]
  clear hpo
  go_wp2_with (refine (HTU.out _).mono ?_)
  rintro e w2 ⟨rfl, hb⟩
  have HB := Lib.hid (HB1.out.trans (hb.mono HB1.out.size))
  clear hb
  go_wp2_with fail
  go_ret
  exact ⟨rfl, HB.out⟩
 obtain ⟨n, t, rfl, ht, hk, htb, hmo, hm12⟩ := asked_good h0
 have hmo' : t.most = (t.m : Int) := hmo
 have hte : typesErr l = 0 := by
  unfold askedErr at h0
  split at h0
  ·assumption
  ·exact absurd h0 (by assumption)
 obtain ⟨D, hD⟩ : ∃ D, deadW t.kd t.m t.least = D := ⟨_, rfl⟩
 obtain ⟨M, hM⟩ : ∃ M, manyM t.kd t.least t.m = M := ⟨_, rfl⟩
 obtain ⟨F, hF⟩ : ∃ F, firstK (kndOf t n) = F := ⟨_, rfl⟩
 obtain ⟨Ls, hLs⟩ : ∃ Ls, str (lettersW t.kd t.m t.least) = Ls := ⟨_, rfl⟩
 have hdo : deadOut l n = .tuple #[.string (mkB (str D)), .int .i64 0] := by unfold deadOut; rw [if_pos h0, hk, ← hD]; rfl
 have hmn : manyOut l n = .tuple #[.int .i64 (M : Int), .int .i64 0] := by unfold manyOut; rw [if_pos h0, hk, ← hM]; rfl
 have hfo : firstOut l n = .tuple #[.string (mkB (toS F)), .bool (!F.isEmpty), .int .i64 0] := by unfold firstOut; rw [if_pos h0, hk, hF]
 have hlo : lettersOut l n = .tuple #[.string (mkB Ls), .int .i64 0] := by unfold lettersOut; rw [if_pos h0, hk, ← hLs]; rfl
 obtain ⟨hMF, hLF, hFw⟩ := dead_facts htb hmo' n hF hM hLs
 have HMN := Lib.hid (fun W (hT : TypesAt W a l) => hmn ▸ manyX_any a c l n W hT HOK.out.sml (by omega) hlc)
 have HFO := Lib.hid (fun W (hT : TypesAt W a l) => hfo ▸ firstX_any a c l n W hT HOK.out.sml (by omega) hlc)
 have HLO := Lib.hid (fun W (hT : TypesAt W a l) => hlo ▸ lettersX_any a c l n W hT HOK.out.sml (by omega) hlc)
 rw [hdo]
 clear hdo hmn hfo hlo
 go_wp2_with (refine (HMN.out _ HT1.out).mono ?_)
 rintro e w2 ⟨rfl, hb2⟩
 have HB2 := Lib.hid (HB1.out.trans (hb2.mono HB1.out.size))
 have HT2 := Lib.hid (HT1.out.below hb2)
 clear hb2 HB1 HT1
 go_wp2_with (refine (HFO.out _ HT2.out).mono ?_)
 rintro e w3 ⟨rfl, hb3⟩
 have HB3 := Lib.hid (HB2.out.trans (hb3.mono HB2.out.size))
 have HT3 := Lib.hid (HT2.out.below hb3)
 clear hb3 HB2 HT2
 go_wp2_with (refine (HLO.out _ HT3.out).mono ?_)
 rintro e w4 ⟨rfl, hb4⟩
 have HB4 := Lib.hid (HB3.out.trans (hb4.mono HB3.out.size))
 have HT4 := Lib.hid (HT3.out.below hb4)
 clear hb4 HB3 HT3 HMN HFO HLO
 obtain ⟨v4, hv4⟩ : ∃ x, w4.alloc (.cells #[] 71) = x := ⟨_, rfl⟩
 have hbe : Below w4.heap.size w4 v4 := by rw [← hv4]; go_grown
 have hoe : v4.ownsRow w4.heap.size 71 32 (.slice (some ⟨w4.heap.size, 0, none⟩) 0 0) 0 [] := by rw [← hv4]; exact ownsRow_empty w4 _ _ _ (Nat.le_refl _)
 obtain ⟨v1, U, hrun, ho1, hg1, -⟩ := run_append_row (P := Tryz.prog) v4 w4.heap.size 22 22 71 _ 32 496 Tryz.underlying22 info_typ rfl (by omega)
  _ 0 [] hoe a l.length c (typsV l) (typsV_len l) (row_types (HT4.out.below hbe)) (typsV_one l) (by omega) (by omega) hbe.size
 have hbU : Below w4.heap.size w4 U := hbe.grown hg1 hbe.size (fun j hj => (hoe.lt j hj).1)
 rw [List.nil_append, Nat.zero_add] at ho1
 have hln : n < l.length := (List.getElem?_eq_some_iff.1 ht).1
 obtain ⟨g, cap, rfl⟩ := Go.Joins.ownsRow_form ho1 (by omega)
 have HRUN := Lib.hid hrun
 have HO := Lib.hid ho1
 have HBU := Lib.hid hbU
 have HHT := Lib.hid ht
 clear hrun ho1 hg1 hbU hoe hbe ht
 have hni : (n : Int) < (l.length : Int) := by omega
 have hn0 : (0 : Int) ≤ (n : Int) := by omega
 have HV4 := Lib.hid hv4
 have HDD := Lib.hid hD
 have HMM := Lib.hid hM
 have HFW := Lib.hid hFw
 clear hv4
 rcases hFe : F with _ | ⟨x, y⟩
 ·have hM0 : M = 0 := hMF.2 hFe
  have hL0 : Ls = [] := hLF.2 hFe
  subst hM0 hL0
  have e1 : (mkB []).toList.isEmpty = true := by rw [ByteArray.toList_eq]; rfl
  have e2 : (!([] : List Nat).isEmpty) = false := rfl
  have r1 := HO.out.cellAt (n * 32 + 4) (by omega)
  have r2 := typsV_at l n t HHT.out 4 (by omega)
  rw [r2] at r1
  have r3 : U.cell? ⟨g, n * 32 + 4, none⟩ = some (.string t.rim) := r1
  have r4 := HO.out.frozenAt (n * 32 + 4)
  clear r1 r2
  clear hF hM hLs hMF hLF hFe hFw hD
  go_wp2_with (at_builtin; simp only [HV4.out]; refine wpList_app rfl _ _ _ rfl rfl rfl HRUN.out ?_)
  have hws := fun (x : ByteArray) (hx : x.size ≤ 40) (W : World) => (without_any x (mkB (str D)) (by omega) (by have := str_len D; omega) W)
  simp only [bl_mkB] at hws
  have HWS := Lib.hid hws
  clear hws
  have hsht := HOK.out.ty t (List.mem_of_getElem? HHT.out)
  have HSHT := Lib.hid hsht
  clear hsht
  refine (HWS.out t.rim HSHT.out.rim U).mono ?_
  rintro e W ⟨rfl, rfl⟩
  have hset0 : l.set n t = l := by
   refine List.ext_getElem? fun k => ?_
   by_cases hk : k = n
   ·subst hk; rw [List.getElem?_set_self hln, HHT.out]
   ·rw [List.getElem?_set_ne (Ne.symm hk)]
  have hoA : W.ownsRow w4.heap.size 71 32 (.slice (some ⟨g, 0, none⟩) l.length cap) l.length (typsV (l.set n t)) := by rw [hset0]; exact HO.out
  have hgB := (hoA.lt g rfl).1
  obtain ⟨-, -, hs4⟩ := own_set hoA hln 4 (by omega)
  have hoB := hs4 { t with rim := mkB (woutL (bl t.rim) (str D)) } (.string (mkB (woutL (bl t.rim) (str D)))) rfl
  have hbB : Below w4.heap.size w4 (W.setCell ⟨g, n * 32 + 4, none⟩ (.string (mkB (woutL (bl t.rim) (str D))))) := HBU.out.setCell hgB _
  obtain ⟨c5, f5, hs5⟩ := own_set hoB hln 5 (by omega)
  have c5' : (W.setCell ⟨g, n * 32 + 4, none⟩ (.string (mkB (woutL (bl t.rim) (str D))))).cell? ⟨g, n * 32 + 5, none⟩ = some (.string t.base) := c5
  have hoC := hs5 (deadTo t D 0) (.string (mkB (woutL (bl t.base) (str D)))) (by simp [deadTo]; rfl)
  have hbC := hbB.setCell (p := ⟨g, n * 32 + 5, none⟩) hgB (.string (mkB (woutL (bl t.base) (str D))))
  have HOC := Lib.hid hoC
  have HBC := Lib.hid hbC
  clear c5 hs4 hs5 hoA hoB hbB hoC hbC hset0 HRUN HV4
  go_wp2_with (refine (HWS.out t.base HSHT.out.base _).mono ?_)
  rintro e W' ⟨rfl, rfl⟩
  go_wp2_with fail
  obtain ⟨Wc, hWc⟩ : ∃ x, (W.setCell ⟨g, n * 32 + 4, none⟩ (.string (mkB (woutL (bl t.rim) (str D))))).setCell ⟨g, n * 32 + 5, none⟩ (.string (mkB (woutL (bl t.base) (str D)))) = x := ⟨_, rfl⟩
  rw [hWc] at HOC HBC
  simp only [hWc]
  clear c5' f5 hWc r3 r4
  go_loopw [17] (fun iv wr => ∃ q : Nat, q ≤ 26 ∧ iv = .int .i64 q ∧ wr.ownsRow w4.heap.size 71 32 (.slice (some ⟨g, 0, none⟩) l.length cap) l.length (typsV (l.set n (deadTo t D q))) ∧ Below w4.heap.size w4 wr) (fun iv _ => 26 - (intOf iv).toNat)
  case atStart => exact ⟨0, Nat.zero_le _, rfl, HOC.out, HBC.out⟩
  case round =>
   obtain ⟨q, hq, rfl, ho, hb⟩ := hrel
   clear HOC HBC
   have HO2 := Lib.hid ho
   have HB2 := Lib.hid hb
   clear ho hb
   by_cases hlt : q < 26
   ·obtain ⟨c6, f6, -⟩ := own_set HO2.out hln (6 + q) (by omega)
    have hca : typF (deadTo t D q) (6 + q) = .string (t.after q) := by rw [Nat.add_comm 6 q]; show Value.string ((deadTo t D q).after q) = _; rw [deadTo_after]
    rw [hca, ← Nat.add_assoc] at c6
    have hqi : (q : Int) < 26 := by omega
    have hq0 : (0 : Int) ≤ (q : Int) := by omega
    have hqn : ¬ (26 : Int) ≤ (q : Int) := by omega
    have hqw : IntKind.i64.wrap ((q : Int) + 1) = (q : Int) + 1 := IntWalk.i64_in _ (by omega)
    have hqw2 : IntKind.i64.wrap ((97 : Int) + (q : Int)) = (97 : Int) + (q : Int) := IntWalk.i64_in _ (by omega)
    have hqw3 : IntKind.u8.wrap ((97 : Int) + (q : Int)) = ((chC q).toNat : Int) := by rw [← hqw2]; exact letV_eq hlt
    go_upto_region 17 with fail
    refine wp_region_heldB 14 [] (by kernel_rfl) (by kernel_rfl) (by kernel_rfl) (by simp) ?_
    intro S hS
    have k0 : ∀ V, S V → V.cell? ⟨g, n * 32 + 6 + q, none⟩ = some (.string (t.after q)) := fun V hV => below_cell (hS V hV) c6
    have K0 := Lib.hid k0
    have HS := Lib.hid hS
    clear hS k0 c6 f6
    simp only [List.take_succ_cons, List.take_zero, List.drop_succ_cons, List.drop_zero]
    repeat (first
     | (refine held_not rfl (by rfl) ?_; try (dsimp only); try simp only [Act.put, List.setIfInBounds_toArray, List.set_cons_zero, List.set_cons_succ])
     | (refine held_val (v := ?_) rfl (by rfl) ?_ ?_; rotate_left; (· (intro W hW; have q0 := K0.out W hW; go_simp; try with_reducible rfl)); try (dsimp only); try simp only [Act.put, List.setIfInBounds_toArray, List.set_cons_zero, List.set_cons_succ])
     | (refine held_skip rfl (by rfl) ?_ ?_; (· (intro W hW; have q0 := K0.out W hW; go_simp; try with_reducible rfl)); try (dsimp only); try simp only [Act.put, List.setIfInBounds_toArray, List.set_cons_zero, List.set_cons_succ])
     | (refine held_call (v := .string (mkB (woutL (bl (t.after q)) (str D)))) (f := 50) (args := #[.string (t.after q), .string (mkB (str D))]) rfl (by rfl) ?_ ?_ ?_; (· (intro W hW; go_simp; done)); (· exact (fun W hW => (HWS.out (t.after q) (HSHT.out.after q hlt) W).mono fun e w' h => ⟨h.1, h.2 ▸ Below.refl _ _⟩)); try (dsimp only); try simp only [Act.put, List.setIfInBounds_toArray, List.set_cons_zero, List.set_cons_succ]))
    refine held_nil ?_
    intro τ hτ W5 hW hO
    obtain rfl := laid0 hτ
    have hb5 : Below wr.heap.size wr W5 := HS.out W5 hW
    clear hτ hO hW K0 HS
    simp only [overs, List.foldl_nil]
    have ho5 := ownsRow_keep HO2.out (Keep.of_below' (K := fun _ => True) hb5) (fun _ _ => trivial)
    have hB5 : Below w4.heap.size w4 W5 := HB2.out.trans (hb5.mono HB2.out.size)
    obtain ⟨c7, f7, hs7⟩ := own_set ho5 hln (6 + q) (by omega)
    have ho6 := hs7 (aftT (deadTo t D q) q (mkB (woutL (bl (t.after q)) (str D)))) (.string (mkB (woutL (bl (t.after q)) (str D)))) (typ_set _ _ hlt _)
    rw [← Nat.add_assoc] at c7 f7 ho6
    have hB6 := hB5.setCell (p := ⟨g, n * 32 + 6 + q, none⟩) hgB (.string (mkB (woutL (bl (t.after q)) (str D))))
    have HO6 := Lib.hid ho6
    have HB6 := Lib.hid hB6
    clear ho5 hB5 hs7 ho6 hB6 hb5
    have HIN := Lib.hid (fun W => inR_any (mkB (str D)) (chC q) (by have := str_len D; omega) W)
    rw [bl_mkB, inL_str D hlt] at HIN
    have c7s : (W5.cell? ⟨g, n * 32 + 6 + q, none⟩).isSome = true := by rw [c7]; rfl
    have HSU := Lib.hid (deadTo_succ t D q)
    rcases hDq : D q with _ | _
    ·rw [hDq] at HIN HSU
     go_wp2_with (refine (HIN.out _).mono ?_)
     refine ⟨⟨q + 1, by omega, rfl, ?_, HB6.out⟩, by simp [intOf]; omega⟩
     rw [HSU.out]
     simp only [Bool.false_eq_true, if_false]
     exact HO6.out
    ·rw [hDq] at HIN HSU
     obtain ⟨c8, f8, hs8⟩ := own_set HO6.out hln (6 + q) (by omega)
     have ho9 := hs8 (aftT (aftT (deadTo t D q) q (mkB (woutL (bl (t.after q)) (str D)))) q ByteArray.empty) (.string ByteArray.empty) (typ_set _ _ hlt _)
     rw [aft_twice, ← Nat.add_assoc] at ho9
     rw [← Nat.add_assoc] at c8 f8
     have hB9 := HB6.out.setCell (p := ⟨g, n * 32 + 6 + q, none⟩) hgB (.string ByteArray.empty)
     have HREL := Lib.hid (show ∃ p : Nat, p ≤ 26 ∧ Value.int .i64 ((q : Int) + 1) = .int .i64 p ∧ ((W5.setCell ⟨g, n * 32 + 6 + q, none⟩ (.string (mkB (woutL (bl (t.after q)) (str D))))).setCell ⟨g, n * 32 + 6 + q, none⟩ (.string ByteArray.empty)).ownsRow w4.heap.size 71 32 (.slice (some ⟨g, 0, none⟩) l.length cap) l.length (typsV (l.set n (deadTo t D p))) ∧ Below w4.heap.size w4 ((W5.setCell ⟨g, n * 32 + 6 + q, none⟩ (.string (mkB (woutL (bl (t.after q)) (str D))))).setCell ⟨g, n * 32 + 6 + q, none⟩ (.string ByteArray.empty)) from ⟨q + 1, by omega, rfl, by rw [HSU.out, if_pos rfl]; exact ho9, hB9⟩)
     clear hs8 ho9 hB9
     have c8s : ((W5.setCell ⟨g, n * 32 + 6 + q, none⟩ (.string (mkB (woutL (bl (t.after q)) (str D))))).cell? ⟨g, n * 32 + 6 + q, none⟩).isSome = true := by rw [c8]; rfl
     go_wp2_with (refine (HIN.out _).mono ?_)
     exact ⟨HREL.out, by simp [intOf]; omega⟩
   ·have hkn : decide ((q : Int) < 26) = false := by simp; omega
    have hke : q = 26 := by omega
    subst hke
    have hoF : wr.ownsRow w4.heap.size 71 32 (.slice (some ⟨g, 0, none⟩) l.length cap) l.length (typsV (l.set n (deadT t D))) := by
     have e : typsV (l.set n (deadTo t D 26)) = typsV (l.set n (deadT t D)) := by
      have e3 : ∀ x, typsV (l.set n x) = typsV (l.take n) ++ ((typCells x).toList ++ typsV (l.drop (n + 1))) := fun x => by rw [List.set_eq_take_append_cons_drop, if_pos hln]; simp [typsV]
      rw [e3, e3, deadTo_all]
     rw [← e]; exact HO2.out
    have HOF := Lib.hid hoF
    clear hoF HO2
    go_wp2_with (refine (HTU.out _).mono ?_)
    rintro e w9 ⟨rfl, hb9⟩
    have HB9 := Lib.hid ((HB4.out.trans (HB2.out.mono HB4.out.size)).trans (hb9.mono (Nat.le_trans HB4.out.size HB2.out.size)))
    clear hb9
    go_wp2_with fail
    go_ret
    exact ⟨rfl, HB9.out⟩
 ·have hFn : F ≠ [] := by rw [hFe]; simp
  have hM0 : M ≠ 0 := fun h => hFn (hMF.1 h)
  have hL0 : Ls ≠ [] := fun h => hFn (hLF.1 h)
  obtain ⟨hdb, hdp, hdm⟩ := dead_law htb hmo' (hFw hFn)
  rw [hD] at hdb hdp hdm
  rw [hM] at hdm
  have hem : typesErr (l.set n (deadT t D)) = 0 := set_err hte HHT.out hdb rfl
  have hlm : (l.set n (deadT t D))[n]? = some (deadT t D) := by simp [hln]
  have ham : askedErr (l.set n (deadT t D)) n = 0 := by
   unfold askedErr
   rw [if_pos hem, if_pos]
   simp [inB]; omega
  have hkm : askedKnd (l.set n (deadT t D)) n = kndOf (deadT t D) n := by
   unfold askedKnd
   rw [if_pos ham]
   simp only [Int.toNat_natCast, hlm]
  obtain ⟨P, hP⟩ : ∃ P, profB t.kd t.least t.most (bl s) = P := ⟨_, rfl⟩
  have hpo1 : profOut l n s = .tuple #[.bool P, .int .i64 0] := by unfold profOut; rw [if_pos h0, hk, ← hP]; rfl
  have hpo2 : profOut (l.set n (deadT t D)) n s = .tuple #[.bool P, .int .i64 0] := by
   unfold profOut; rw [if_pos ham, hkm, ← hP, ← hdp (bl s)]; rfl
  have hmo2 : manyOut (l.set n (deadT t D)) n = .tuple #[.int .i64 (M : Int), .int .i64 0] := by
   unfold manyOut; rw [if_pos ham, hkm, ← hdm]; rfl
  have HSM := Lib.hid (types_sml hem)
  have e1 : (mkB Ls).toList.isEmpty = false := by rw [ByteArray.toList_eq]; show (bl (mkB Ls)).isEmpty = false; rw [bl_mkB]; simpa using hL0
  have e2 : (!(x :: y : List Nat).isEmpty) = true := rfl
  have e3 : ((M : Int) == 0) = false := by rw [beq_eq_false_iff_ne]; omega
  have e4 : (((mkB (toS (x :: y))).size : Int) == 0) = false := by
   rw [beq_eq_false_iff_ne, ← bl_len, bl_mkB]; simp [toS]; omega
  have r1 := HO.out.cellAt (n * 32 + 4) (by omega)
  have r2 := typsV_at l n t HHT.out 4 (by omega)
  rw [r2] at r1
  have r3 : U.cell? ⟨g, n * 32 + 4, none⟩ = some (.string t.rim) := r1
  have r4 := HO.out.frozenAt (n * 32 + 4)
  clear r1 r2
  rw [e2]
  clear hF hM hLs hMF hLF hFe hFw hD hFn hL0 hM0 hdb hdp hdm hem hlm ham hkm hP
  go_wp2_with (at_builtin; simp only [HV4.out]; refine wpList_app rfl _ _ _ rfl rfl rfl HRUN.out ?_)
  have hws := fun (x : ByteArray) (hx : x.size ≤ 40) (W : World) => (without_any x (mkB (str D)) (by omega) (by have := str_len D; omega) W)
  simp only [bl_mkB] at hws
  have HWS := Lib.hid hws
  clear hws
  have hsht := HOK.out.ty t (List.mem_of_getElem? HHT.out)
  have HSHT := Lib.hid hsht
  clear hsht
  refine (HWS.out t.rim HSHT.out.rim U).mono ?_
  rintro e W ⟨rfl, rfl⟩
  have hset0 : l.set n t = l := by
   refine List.ext_getElem? fun k => ?_
   by_cases hk : k = n
   ·subst hk; rw [List.getElem?_set_self hln, HHT.out]
   ·rw [List.getElem?_set_ne (Ne.symm hk)]
  have hoA : W.ownsRow w4.heap.size 71 32 (.slice (some ⟨g, 0, none⟩) l.length cap) l.length (typsV (l.set n t)) := by rw [hset0]; exact HO.out
  have hgB := (hoA.lt g rfl).1
  obtain ⟨-, -, hs4⟩ := own_set hoA hln 4 (by omega)
  have hoB := hs4 { t with rim := mkB (woutL (bl t.rim) (str D)) } (.string (mkB (woutL (bl t.rim) (str D)))) rfl
  have hbB : Below w4.heap.size w4 (W.setCell ⟨g, n * 32 + 4, none⟩ (.string (mkB (woutL (bl t.rim) (str D))))) := HBU.out.setCell hgB _
  obtain ⟨c5, f5, hs5⟩ := own_set hoB hln 5 (by omega)
  have c5' : (W.setCell ⟨g, n * 32 + 4, none⟩ (.string (mkB (woutL (bl t.rim) (str D))))).cell? ⟨g, n * 32 + 5, none⟩ = some (.string t.base) := c5
  have hoC := hs5 (deadTo t D 0) (.string (mkB (woutL (bl t.base) (str D)))) (by simp [deadTo]; rfl)
  have hbC := hbB.setCell (p := ⟨g, n * 32 + 5, none⟩) hgB (.string (mkB (woutL (bl t.base) (str D))))
  have HOC := Lib.hid hoC
  have HBC := Lib.hid hbC
  clear c5 hs4 hs5 hoA hoB hbB hoC hbC hset0 HRUN HV4
  go_wp2_with (refine (HWS.out t.base HSHT.out.base _).mono ?_)
  rintro e W' ⟨rfl, rfl⟩
  go_wp2_with fail
  obtain ⟨Wc, hWc⟩ : ∃ x, (W.setCell ⟨g, n * 32 + 4, none⟩ (.string (mkB (woutL (bl t.rim) (str D))))).setCell ⟨g, n * 32 + 5, none⟩ (.string (mkB (woutL (bl t.base) (str D)))) = x := ⟨_, rfl⟩
  rw [hWc] at HOC HBC
  simp only [hWc]
  clear c5' f5 hWc r3 r4
  go_loopw [17] (fun iv wr => ∃ q : Nat, q ≤ 26 ∧ iv = .int .i64 q ∧ wr.ownsRow w4.heap.size 71 32 (.slice (some ⟨g, 0, none⟩) l.length cap) l.length (typsV (l.set n (deadTo t D q))) ∧ Below w4.heap.size w4 wr) (fun iv _ => 26 - (intOf iv).toNat)
  case atStart => exact ⟨0, Nat.zero_le _, rfl, HOC.out, HBC.out⟩
  case round =>
   obtain ⟨q, hq, rfl, ho, hb⟩ := hrel
   clear HOC HBC
   have HO2 := Lib.hid ho
   have HB2 := Lib.hid hb
   clear ho hb
   by_cases hlt : q < 26
   ·obtain ⟨c6, f6, -⟩ := own_set HO2.out hln (6 + q) (by omega)
    have hca : typF (deadTo t D q) (6 + q) = .string (t.after q) := by rw [Nat.add_comm 6 q]; show Value.string ((deadTo t D q).after q) = _; rw [deadTo_after]
    rw [hca, ← Nat.add_assoc] at c6
    have hqi : (q : Int) < 26 := by omega
    have hq0 : (0 : Int) ≤ (q : Int) := by omega
    have hqn : ¬ (26 : Int) ≤ (q : Int) := by omega
    have hqw : IntKind.i64.wrap ((q : Int) + 1) = (q : Int) + 1 := IntWalk.i64_in _ (by omega)
    have hqw2 : IntKind.i64.wrap ((97 : Int) + (q : Int)) = (97 : Int) + (q : Int) := IntWalk.i64_in _ (by omega)
    have hqw3 : IntKind.u8.wrap ((97 : Int) + (q : Int)) = ((chC q).toNat : Int) := by rw [← hqw2]; exact letV_eq hlt
    go_upto_region 17 with fail
    refine wp_region_heldB 14 [] (by kernel_rfl) (by kernel_rfl) (by kernel_rfl) (by simp) ?_
    intro S hS
    have k0 : ∀ V, S V → V.cell? ⟨g, n * 32 + 6 + q, none⟩ = some (.string (t.after q)) := fun V hV => below_cell (hS V hV) c6
    have K0 := Lib.hid k0
    have HS := Lib.hid hS
    clear hS k0 c6 f6
    simp only [List.take_succ_cons, List.take_zero, List.drop_succ_cons, List.drop_zero]
    repeat (first
     | (refine held_not rfl (by rfl) ?_; try (dsimp only); try simp only [Act.put, List.setIfInBounds_toArray, List.set_cons_zero, List.set_cons_succ])
     | (refine held_val (v := ?_) rfl (by rfl) ?_ ?_; rotate_left; (· (intro W hW; have q0 := K0.out W hW; go_simp; try with_reducible rfl)); try (dsimp only); try simp only [Act.put, List.setIfInBounds_toArray, List.set_cons_zero, List.set_cons_succ])
     | (refine held_skip rfl (by rfl) ?_ ?_; (· (intro W hW; have q0 := K0.out W hW; go_simp; try with_reducible rfl)); try (dsimp only); try simp only [Act.put, List.setIfInBounds_toArray, List.set_cons_zero, List.set_cons_succ])
     | (refine held_call (v := .string (mkB (woutL (bl (t.after q)) (str D)))) (f := 50) (args := #[.string (t.after q), .string (mkB (str D))]) rfl (by rfl) ?_ ?_ ?_; (· (intro W hW; go_simp; done)); (· exact (fun W hW => (HWS.out (t.after q) (HSHT.out.after q hlt) W).mono fun e w' h => ⟨h.1, h.2 ▸ Below.refl _ _⟩)); try (dsimp only); try simp only [Act.put, List.setIfInBounds_toArray, List.set_cons_zero, List.set_cons_succ]))
    refine held_nil ?_
    intro τ hτ W5 hW hO
    obtain rfl := laid0 hτ
    have hb5 : Below wr.heap.size wr W5 := HS.out W5 hW
    clear hτ hO hW K0 HS
    simp only [overs, List.foldl_nil]
    have ho5 := ownsRow_keep HO2.out (Keep.of_below' (K := fun _ => True) hb5) (fun _ _ => trivial)
    have hB5 : Below w4.heap.size w4 W5 := HB2.out.trans (hb5.mono HB2.out.size)
    obtain ⟨c7, f7, hs7⟩ := own_set ho5 hln (6 + q) (by omega)
    have ho6 := hs7 (aftT (deadTo t D q) q (mkB (woutL (bl (t.after q)) (str D)))) (.string (mkB (woutL (bl (t.after q)) (str D)))) (typ_set _ _ hlt _)
    rw [← Nat.add_assoc] at c7 f7 ho6
    have hB6 := hB5.setCell (p := ⟨g, n * 32 + 6 + q, none⟩) hgB (.string (mkB (woutL (bl (t.after q)) (str D))))
    have HO6 := Lib.hid ho6
    have HB6 := Lib.hid hB6
    clear ho5 hB5 hs7 ho6 hB6 hb5
    have HIN := Lib.hid (fun W => inR_any (mkB (str D)) (chC q) (by have := str_len D; omega) W)
    rw [bl_mkB, inL_str D hlt] at HIN
    have c7s : (W5.cell? ⟨g, n * 32 + 6 + q, none⟩).isSome = true := by rw [c7]; rfl
    have HSU := Lib.hid (deadTo_succ t D q)
    rcases hDq : D q with _ | _
    ·rw [hDq] at HIN HSU
     go_wp2_with (refine (HIN.out _).mono ?_)
     refine ⟨⟨q + 1, by omega, rfl, ?_, HB6.out⟩, by simp [intOf]; omega⟩
     rw [HSU.out]
     simp only [Bool.false_eq_true, if_false]
     exact HO6.out
    ·rw [hDq] at HIN HSU
     obtain ⟨c8, f8, hs8⟩ := own_set HO6.out hln (6 + q) (by omega)
     have ho9 := hs8 (aftT (aftT (deadTo t D q) q (mkB (woutL (bl (t.after q)) (str D)))) q ByteArray.empty) (.string ByteArray.empty) (typ_set _ _ hlt _)
     rw [aft_twice, ← Nat.add_assoc] at ho9
     rw [← Nat.add_assoc] at c8 f8
     have hB9 := HB6.out.setCell (p := ⟨g, n * 32 + 6 + q, none⟩) hgB (.string ByteArray.empty)
     have HREL := Lib.hid (show ∃ p : Nat, p ≤ 26 ∧ Value.int .i64 ((q : Int) + 1) = .int .i64 p ∧ ((W5.setCell ⟨g, n * 32 + 6 + q, none⟩ (.string (mkB (woutL (bl (t.after q)) (str D))))).setCell ⟨g, n * 32 + 6 + q, none⟩ (.string ByteArray.empty)).ownsRow w4.heap.size 71 32 (.slice (some ⟨g, 0, none⟩) l.length cap) l.length (typsV (l.set n (deadTo t D p))) ∧ Below w4.heap.size w4 ((W5.setCell ⟨g, n * 32 + 6 + q, none⟩ (.string (mkB (woutL (bl (t.after q)) (str D))))).setCell ⟨g, n * 32 + 6 + q, none⟩ (.string ByteArray.empty)) from ⟨q + 1, by omega, rfl, by rw [HSU.out, if_pos rfl]; exact ho9, hB9⟩)
     clear hs8 ho9 hB9
     have c8s : ((W5.setCell ⟨g, n * 32 + 6 + q, none⟩ (.string (mkB (woutL (bl (t.after q)) (str D))))).cell? ⟨g, n * 32 + 6 + q, none⟩).isSome = true := by rw [c8]; rfl
     go_wp2_with (refine (HIN.out _).mono ?_)
     exact ⟨HREL.out, by simp [intOf]; omega⟩
   ·have hkn : decide ((q : Int) < 26) = false := by simp; omega
    have hke : q = 26 := by omega
    subst hke
    have hoF : wr.ownsRow w4.heap.size 71 32 (.slice (some ⟨g, 0, none⟩) l.length cap) l.length (typsV (l.set n (deadT t D))) := by
     have e : typsV (l.set n (deadTo t D 26)) = typsV (l.set n (deadT t D)) := by
      have e3 : ∀ x, typsV (l.set n x) = typsV (l.take n) ++ ((typCells x).toList ++ typsV (l.drop (n + 1))) := fun x => by rw [List.set_eq_take_append_cons_drop, if_pos hln]; simp [typsV]
      rw [e3, e3, deadTo_all]
     rw [← e]; exact HO2.out
    have HOF := Lib.hid hoF
    clear hoF HO2
    have hbw : Below w4.heap.size w4 wr := HB2.out
    have hTw := HT4.out.below hbw
    have HB5 := Lib.hid (HB4.out.trans (hbw.mono HB4.out.size))
    have hset : (l.set n (deadT t D)).length = l.length := List.length_set
    obtain ⟨ma, mc, hme, hTm, hmc, -⟩ := types_of_row (l := l.set n (deadT t D)) (by rw [hset]; exact HOF.out)
    rw [hset] at hme hmc
    cases hme
    have HP1 := Lib.hid (hpo1 ▸ isProfile_any a c l n s (by omega) wr hTw HOK.out.sml (by omega) hlc)
    have HP2 := Lib.hid (fun W (h : TypesAt W (some ⟨g, 0, none⟩) (l.set n (deadT t D))) => isProfile_any (some ⟨g, 0, none⟩) cap (l.set n (deadT t D)) n s (by omega) W h HSM.out (by rw [hset]; omega) (by rw [hset]; exact hmc))
    have HP3 := Lib.hid (fun W (h : TypesAt W (some ⟨g, 0, none⟩) (l.set n (deadT t D))) => manyX_any (some ⟨g, 0, none⟩) cap (l.set n (deadT t D)) n W h HSM.out (by rw [hset]; omega) (by rw [hset]; exact hmc))
    rw [hset, hpo2] at HP2
    rw [hset, hmo2] at HP3
    have HTM := Lib.hid hTm
    clear hTw hbw hTm
    go_wp2_with (refine HP1.out.mono ?_)
    rintro e w6 ⟨rfl, hb6⟩
    have HB6 := Lib.hid (HB5.out.trans (hb6.mono HB5.out.size))
    have HTM6 := Lib.hid (HTM.out.below hb6)
    clear hb6 HB5
    go_wp2_with (refine (HP2.out _ HTM6.out).mono ?_)
    rintro e w7 ⟨rfl, hb7⟩
    have HB7 := Lib.hid (HB6.out.trans (hb7.mono HB6.out.size))
    have HTM7 := Lib.hid (HTM6.out.below hb7)
    clear hb7 HB6
    go_wp2_with (refine (HP3.out _ HTM7.out).mono ?_)
    rintro e w8 ⟨rfl, hb8⟩
    have HB8 := Lib.hid (HB7.out.trans (hb8.mono HB7.out.size))
    clear hb8 HB7
    go_wp2_with (refine (HTU.out _).mono ?_)
    rintro e w9 ⟨rfl, hb9⟩
    have HB9 := Lib.hid (HB8.out.trans (hb9.mono HB8.out.size))
    clear hb9
    go_wp2_with fail
    go_ret
    refine ⟨?_, HB9.out⟩
    cases P <;> simp
end Go.Proofs.YthpjffhccjlnhaaGreatDoor
