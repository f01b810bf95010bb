/- The law's slight; what the plain functions of a fit and of blanks say together. No condition. -/
import Derived.Test.YthpjffhccjlnhaaGreatDoorGRef15
import Derived.Test.YthpjffhccjlnhaaGreatDoorMG19
set_option linter.unusedSimpArgs false
set_option linter.unusedVariables false
namespace Go.Proofs.YthpjffhccjlnhaaGreatDoor
open Go.RowKit
attribute [local go_sem] Oper.semAt_some

def SlightPost (b : List Bl4) (w : World) (e : Ending) (w' : World) : Prop := ∃ v, e = .returned (.bool v) ∧ (v = true → b.length ≤ 160 ∧ ∀ (j : Nat) y, b[j]? = some y → SmlB y) ∧ w' = w
theorem slight_no (b : List Bl4) (w : World) {e : Ending} (h : e = .returned (.bool false)) : SlightPost b w e w := ⟨false, h, (fun h => by cases h), rfl⟩
set_option maxRecDepth 100000 in
set_option maxHeartbeats 1000000 in
theorem slight_any (ba : Option Addr) (bc : Nat) (b : List Bl4) (w : World) (h : BlksIn w ba b) :
  Calls Tryz.prog 51 #[.slice ba b.length bc] w (SlightPost b w) := by
 have HM := Lib.hid h
 clear h
 go_enter Tryz.func51, Tryz.ntmps51
 go_wp2_with fail
 go_loopw [3, 4] (fun iv _ wr => ∃ i : Nat, i ≤ b.length ∧ i ≤ 160 ∧ iv = .int .i64 i ∧ (∀ (j : Nat) y, j < i → b[j]? = some y → SmlB y) ∧ w = wr) (fun iv _ _ => b.length - (intOf iv).toNat)
 case atStart => exact ⟨0, Nat.zero_le _, Nat.zero_le _, rfl, fun j _ hj => absurd hj (Nat.not_lt_zero j), rfl⟩
 case round =>
  obtain ⟨i, hi, hi2, rfl, hall, rfl⟩ := hrel
  have HA := Lib.hid hall
  clear hall
  by_cases hlt : i < b.length
  rotate_left
  ·have q1 : decide ((i : Int) < (b.length : Int)) = false := by simp; omega
   have q2 : decide (i < b.length) = false := decide_eq_false hlt
   have HF := Lib.hid (show decide ((b.length : Int) ≤ 160) = true → b.length ≤ 160 ∧ ∀ (j : Nat) y, b[j]? = some y → SmlB y from fun h => ⟨by have := of_decide_eq_true h; omega, fun j y hy => HA.out j y (by have := (List.getElem?_eq_some_iff.1 hy).1; omega) hy⟩)
   go_wp2_with fail
   go_ret
   exact ⟨_, rfl, HF.out, rfl⟩
  have q1 : decide ((i : Int) < (b.length : Int)) = true := by simp; omega
  have q2 : decide (i < b.length) = true := decide_eq_true hlt
  by_cases hl2 : i < 160
  rotate_left
  ·have q3 : decide ((i : Int) < 160) = false := by simp; omega
   have HF := Lib.hid (show decide ((b.length : Int) ≤ 160) = true → b.length ≤ 160 ∧ ∀ (j : Nat) y, b[j]? = some y → SmlB y from fun h => by have := of_decide_eq_true h; omega)
   go_wp2_with fail
   go_ret
   exact ⟨_, rfl, HF.out, rfl⟩
  have q3 : decide ((i : Int) < 160) = true := by simp; omega
  obtain ⟨y, hy⟩ : ∃ y, b[i]? = some y := ⟨b[i], by simp [hlt]⟩
  obtain ⟨g, gq, rfl, sa, sc, hyc, hys, hyl⟩ := HM.out i y hy
  have c2 : w.cell? ⟨g, gq + i * 3 + 2, none⟩ = some (.slice sa y.sets.length sc) := hyc 2 (by omega)
  have HY := Lib.hid hy
  have HYS := Lib.hid hys
  have hki : (i : Int) < (b.length : Int) := by omega
  have hk0 : (0 : Int) ≤ (i : Int) := by omega
  have hkw : IntKind.i64.wrap ((i : Int) + 1) = (i : Int) + 1 := IntWalk.i64_in _ (by omega)
  clear hyc hys hy
  by_cases h20 : 20 < y.sets.length
  ·have q4 : decide ((20 : Int) < (y.sets.length : Int)) = true := by simp; omega
   go_wp2_with fail
   go_ret
   exact slight_no _ _ rfl
  have q4 : decide ((20 : Int) < (y.sets.length : Int)) = false := by simp; omega
  go_wp2_with fail
  go_loopw [4] (fun kv wr => ∃ k : Nat, k ≤ y.sets.length ∧ kv = .int .i64 k ∧ (∀ (j : Nat) x, j < k → y.sets[j]? = some x → x.size ≤ 1000) ∧ w = wr) (fun kv _ => y.sets.length - (intOf kv).toNat)
  case atStart => exact ⟨0, Nat.zero_le _, rfl, fun j _ hj => absurd hj (Nat.not_lt_zero j), rfl⟩
  case round =>
   obtain ⟨k, hk, rfl, hall2, rfl⟩ := hrel
   have HA2 := Lib.hid hall2
   clear hall2
   by_cases hkl : k < y.sets.length
   ·obtain ⟨x, hx⟩ : ∃ x, y.sets[k]? = some x := ⟨y.sets[k], by simp [hkl]⟩
    obtain ⟨s1, s2, rfl, hxc⟩ := HYS.out k x hx
    have HX := Lib.hid hx
    have hkk : (k : Int) < (y.sets.length : Int) := by omega
    have hk3 : (0 : Int) ≤ (k : Int) := by omega
    have hkw2 : IntKind.i64.wrap ((k : Int) + 1) = (k : Int) + 1 := IntWalk.i64_in _ (by omega)
    clear hx
    by_cases h40 : 40 < x.size
    ·have q5 : decide ((40 : Int) < (x.size : Int)) = true := by simp; omega
     go_wp2_with fail
     go_ret
     exact slight_no _ _ rfl
    ·have q5 : decide ((40 : Int) < (x.size : Int)) = false := by simp; omega
     have HREL := Lib.hid (show ∃ q : Nat, q ≤ y.sets.length ∧ Value.int .i64 ((k : Int) + 1) = .int .i64 q ∧ (∀ (j : Nat) x, j < q → y.sets[j]? = some x → x.size ≤ 1000) ∧ True from ⟨k + 1, by omega, rfl, fun j z hj hz => by
      rcases Nat.lt_or_ge j k with h1 | h1
      ·exact HA2.out j z h1 hz
      ·have : j = k := by omega
       subst this
       rw [HX.out] at hz; cases hz; omega, trivial⟩)
     go_wp2_with fail
     exact ⟨by simpa using HREL.out, by simp [intOf]; omega⟩
   ·have hkn : decide ((k : Int) < (y.sets.length : Int)) = false := by simp; omega
    have HS := Lib.hid (show SmlB y from ⟨by omega, fun x hx => by
     obtain ⟨j, hj⟩ := List.getElem?_of_mem hx
     exact HA2.out j x (by have := (List.getElem?_eq_some_iff.1 hj).1; omega) hj⟩)
    have HREL := Lib.hid (show ∃ q : Nat, q ≤ b.length ∧ q ≤ 160 ∧ Value.int .i64 ((i : Int) + 1) = .int .i64 q ∧ (∀ (j : Nat) y, j < q → b[j]? = some y → SmlB y) ∧ True from ⟨i + 1, by omega, by omega, rfl, fun j z hj hz => by
     rcases Nat.lt_or_ge j i with h1 | h1
     ·exact HA.out j z h1 hz
     ·have : j = i := by omega
      subst this
      rw [HY.out] at hz; cases hz; exact HS.out, trivial⟩)
    go_wp2_with fail
    exact ⟨by simpa using HREL.out, by simp [intOf]; omega⟩
/-! a fit and blanks -/
theorem fit_yes {l : List Typ} {ware : ByteArray} {r : List Rng} (h0 : wantedErr l ware r = 0) {f : Ft} (hf : f ∈ shiftsT l ware r) : checkFitT l ware r f.type f.shift (mkB (toS f.word)) = true := by
 rw [shiftsT_eq] at hf
 obtain ⟨⟨i, s⟩, hx, he⟩ := List.mem_filterMap.1 hf
 obtain ⟨t, ht, hw, hs⟩ := mem_tries.1 hx
 simp only [fitsAt, ht, Option.map_eq_some_iff] at he
 obtain ⟨w, hw2, rfl⟩ := he
 have hm : w ∈ fitsOf t r s := List.mem_of_mem_head? (by rw [hw2]; rfl)
 have hc : ∀ c ∈ w, c < 26 := by
  obtain ⟨h1, _, _⟩ := (mem_fitL (Nat.le_refl _)).1 hm
  exact (chain_iff.1 h1).2.1
 obtain ⟨_, h1, _, _⟩ := typeB_good (types_at (wanted_typ h0).1 ht)
 refine checkFit_iff.2 ⟨i, s, t, rfl, rfl, ht, hw, hs, ?_⟩
 rw [bl_mkB]
 exact (fitB_iff h1).2 ⟨all_toS hc, by rw [cl_toS hc]; exact hm⟩
theorem fit_some {l : List Typ} {ware : ByteArray} {r : List Rng} (h0 : wantedErr l ware r = 0) {i s : Int} {wd : ByteArray} (h : checkFitT l ware r i s wd = true) : shiftsT l ware r ≠ [] := by
 intro hn
 obtain ⟨n, k, t, rfl, rfl, ht, hw, hs, hf⟩ := checkFit_iff.1 h
 obtain ⟨_, h1, _, _⟩ := typeB_good (types_at (wanted_typ h0).1 ht)
 have := (fits_none l ware r).1 hn n k t (mem_tries.2 ⟨t, ht, hw, hs⟩) ht
 have hm := ((fitB_iff h1).1 hf).2
 rw [this] at hm; cases hm
theorem flat_at {us : List (List Value)} {n k j : Nat} {u : List Value} (h : ∀ x ∈ us, x.length = n) (hk : us[k]? = some u) (hj : j < n) : us.flatten[k * n + j]? = u[j]? := by
 induction us generalizing k with
 | nil => simp at hk
 | cons x us ih =>
  have hx := h x (by simp)
  cases k with
  | zero =>
   simp only [List.getElem?_cons_zero, Option.some.injEq] at hk
   subst hk
   rw [List.flatten_cons, Nat.zero_mul, Nat.zero_add, List.getElem?_append_left (by omega)]
  | succ k =>
   rw [List.flatten_cons, List.getElem?_append_right (by rw [hx, Nat.succ_mul]; omega), hx, show (k + 1) * n + j - n = k * n + j by rw [Nat.succ_mul]; omega]
   exact ih (fun y hy => h y (by simp [hy])) (by simpa using hk)
/-- what Blanks gave, as a slice of blanks -/
theorem blks_in {B : Nat} {A : Nat → Prop} {W : World} {fa : Option Addr} {L : List Bl4} {us : List (List Value)} (ho : RowOwn B W fa us.flatten) (hr : BlkRows B A W L us) : BlksIn W fa L := by
 have h3 : ∀ u ∈ us, u.length = 3 := fun u hu => by
  obtain ⟨k, hk⟩ := List.getElem?_of_mem hu
  have hkl := (List.getElem?_eq_some_iff.1 hk).1
  obtain ⟨b, hb⟩ : ∃ b, L[k]? = some b := ⟨L[k]'(by have := hr.1; omega), by simp⟩
  obtain ⟨sa, sc, e, _⟩ := hr.2 k b u hb hk
  rw [e]; rfl
 intro k b hb
 have hkl := (List.getElem?_eq_some_iff.1 hb).1
 obtain ⟨u, hu⟩ : ∃ u, us[k]? = some u := ⟨us[k]'(by have := hr.1; omega), by simp⟩
 obtain ⟨sa, sc, rfl, hl, hs, _⟩ := hr.2 k b u hb hu
 have cell : ∀ j v, j < 3 → ([.int .i64 b.type, .int .i64 b.shift, .slice sa b.sets.length sc] : List Value)[j]? = some v → ∃ g o, fa = some ⟨g, o, none⟩ ∧ W.cell? ⟨g, o + (k * 3 + j), none⟩ = some v := fun j v hj hv => by
  obtain ⟨g, o, ha, _, hc, _⟩ := ho (k * 3 + j) v (by rw [flat_at h3 hu hj]; exact hv)
  exact ⟨g, o, ha, hc⟩
 obtain ⟨g, o, ha, _⟩ := cell 0 _ (by omega) rfl
 refine ⟨g, o, ha, sa, sc, fun j hj => ?_, fun m s hm => ?_, hl⟩
 ·have key : ∀ v, ([.int .i64 b.type, .int .i64 b.shift, .slice sa b.sets.length sc] : List Value)[j]? = some v → W.cell? ⟨g, o + k * 3 + j, none⟩ = some v := fun v hv => by
   obtain ⟨g', o', ha', hc⟩ := cell j v hj hv
   rw [ha] at ha'
   cases ha'
   rw [Nat.add_assoc]; exact hc
  rcases j with _ | _ | _ | j
  ·exact key _ rfl
  ·exact key _ rfl
  ·exact key _ rfl
  ·omega
 ·obtain ⟨g', o', ha', _, hc, _⟩ := hs m (.string s) (by rw [List.getElem?_map, hm]; rfl)
  exact ⟨g', o', ha', hc⟩
theorem blks_sml {l : List Typ} {ware : ByteArray} {r : List Rng} (h0 : wantedErr l ware r = 0) : (∀ y, y ∈ blanksX l ware r → SmlB y) ∧ (blanksX l ware r).length ≤ 1000000 := by
 obtain ⟨hte, hre⟩ := wanted_typ h0
 have hg := RgOk.of hre
 unfold blanksX
 split
 ·have hlen : (blanksT l ware r).length ≤ (triesOf l ware r).length := List.length_filterMap_le _ _
  refine ⟨fun y hy => ?_, ?_⟩
  ·obtain ⟨⟨i, s⟩, hx, he⟩ := List.mem_filterMap.1 hy
   obtain ⟨t, ht, _, _⟩ := mem_tries.1 hx
   simp only [ht, Option.some.injEq] at he
   subst he
   obtain ⟨_, _, _, hm⟩ := typeB_good (types_at hte ht)
   refine ⟨?_, fun x hx => ?_⟩
   ·simp only [List.length_map, blankSets, List.length_range, Typ.m]; omega
   ·obtain ⟨u, hu, rfl⟩ := List.mem_map.1 hx
    obtain ⟨p, _, rfl⟩ := List.mem_map.1 hu
    rw [mkB_size]
    have := str_len (blankOf t r s p); omega
  ·refine Nat.le_trans hlen ?_
   have key : ∀ k, k ≤ l.length → (triesTo l ware r k).length ≤ k * 13 := by
    intro k
    induction k with
    | zero => intro _; exact Nat.le_refl _
    | succ k ih =>
     intro hk
     obtain ⟨t, ht⟩ : ∃ t, l[k]? = some t := ⟨l[k], by simp⟩
     obtain ⟨_, _, _, hm⟩ := typeB_good (types_at hte ht)
     have hsh := shifts_le (t := t) (r := r) hm hg
     have := ih (by omega)
     by_cases hw : t.ware = ware
     ·rw [triesTo_yes ht hw, List.length_append, List.length_map, List.length_range]; omega
     ·rw [triesTo_no ht hw]; omega
   have hl12 : l.length ≤ 12 := by
    unfold typesErr at hte
    split at hte
    ·cases hte
    ·omega
   have := key l.length (Nat.le_refl _)
   rw [triesTo_all] at this; omega
 ·exact ⟨(fun y hy => by cases hy), Nat.zero_le _⟩
end Go.Proofs.YthpjffhccjlnhaaGreatDoor
