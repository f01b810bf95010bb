/- ProfileOne: for all inputs the law returns true and makes new memory alone. No condition. -/
import Derived.Test.YthpjffhccjlnhaaGreatDoorGOneP
import Derived.Test.YthpjffhccjlnhaaGreatDoorMG13
import Derived.Test.YthpjffhccjlnhaaGreatDoorMG19
set_option linter.unusedSimpArgs false
set_option linter.unusedVariables false
namespace Go.Proofs.YthpjffhccjlnhaaGreatDoor
open Go.RowKit
attribute [local go_sem] Oper.semAt_some

set_option maxRecDepth 100000 in
set_option maxHeartbeats 8000000 in
theorem profileOne_any (a : Option Addr) (l : List Typ) (c : Nat) (hlc : l.length ≤ c) (i : Int) (s : ByteArray) (w : World) (hT : TypesAt w a l) :
  Calls Tryz.prog 13 #[.slice a l.length c, .int .i64 i, .string s] w fun e w' => e = .returned (.bool true) ∧ Below w.heap.size w w' := by
 have HT := Lib.hid hT
 have HSH := Lib.hid (short_any a c l none 0 [] w hT (fun k y hy => by simp at hy))
 clear hT
 have htu := fun W => turned_law W
 have HTU := Lib.hid htu
 clear htu
 go_enter Tryz.func13, Tryz.ntmps13
 go_wp2_with (refine HSH.out.mono ?_)
 rintro e w' ⟨b, rfl, hok, rfl⟩
 clear HSH
 rcases b with _ | _
 ·go_wp2_with (refine (HTU.out _).mono ?_)
  rintro e w1 ⟨rfl, hb⟩
  have HB := Lib.hid hb
  clear hb
  go_wp2_with fail
  go_ret
  exact ⟨rfl, HB.out⟩
 by_cases hsz : 12 < s.size
 ·have hszi : (12 : Int) < (s.size : Int) := by omega
  go_wp2_with (refine (HTU.out _).mono ?_)
  rintro e w1 ⟨rfl, hb⟩
  have HB := Lib.hid hb
  clear hb
  go_wp2_with fail
  go_ret
  exact ⟨rfl, HB.out⟩
 have hszi : ¬ (12 : Int) < (s.size : Int) := by omega
 have HOK := Lib.hid (hok rfl)
 clear hok
 have HP := Lib.hid (isProfile_any a c l i s (by omega) w' HT.out HOK.out.sml (by have := HOK.out.tl; omega) hlc)
 go_wp2_with (refine HP.out.mono ?_)
 rintro e w1 ⟨rfl, hb1⟩
 have HB1 := Lib.hid hb1
 have HT1 := Lib.hid (HT.out.below hb1)
 clear hb1 HP HT
 by_cases h0 : askedErr l i = 0
 rotate_left
 ·have hpo : profOut l i s = .tuple #[.bool false, .int .i64 (askedErr l i)] := by unfold profOut; rw [if_neg h0]
  have hne : (askedErr l i == 0) = false := by simpa using h0
  rw [hpo]
  clear hpo
  go_wp2_with (refine (HTU.out _).mono ?_)
  rintro e w2 ⟨rfl, hb⟩
  have HB := Lib.hid (HB1.out.trans (hb.mono HB1.out.size))
  clear hb
  go_wp2_with fail
  go_ret
  exact ⟨rfl, HB.out⟩
 obtain ⟨n, t, rfl, ht, hk, htb, hmo, hm12⟩ := asked_good h0
 have hte : typesErr l = 0 := by
  unfold askedErr at h0
  split at h0
  ·assumption
  ·exact absurd h0 (by assumption)
 have hpo : profOut l n s = .tuple #[.bool (profB t.kd t.least t.most (bl s)), .int .i64 0] := by unfold profOut; rw [if_pos h0, hk]; rfl
 rw [hpo]
 clear hpo hk h0
 obtain ⟨P, hP⟩ : ∃ P, profB t.kd t.least t.most (bl s) = P := ⟨_, rfl⟩
 rw [hP]
 go_wp2_with fail
 go_loopw [9, 10] (fun v iv wr => ∃ k : Nat, k ≤ s.size ∧ iv = .int .i64 k ∧ wr.ownsRow w1.heap.size 48 2 v k (rngRows (oneRings s k)) ∧ Below w1.heap.size w1 wr ∧ ∀ (j : Nat) b, j < k → (bl s)[j]? = some b → letC b = true) (fun _ iv _ => s.size - (intOf iv).toNat)
 case atStart => exact ⟨0, Nat.zero_le _, rfl, ownsRow_nil _ _ _ _, Below.refl _ _, fun j b hj => absurd hj (Nat.not_lt_zero j)⟩
 case round =>
  obtain ⟨k, hk, rfl, ho, hb, hall⟩ := hrel
  have HALL := Lib.hid hall
  have HB := Lib.hid hb
  have HO := Lib.hid ho
  by_cases hlt : k < s.size
  ·obtain ⟨x, hx⟩ : ∃ x, s[k] = x := ⟨_, rfl⟩
   have hblx : (bl s)[k]? = some x := by rw [bl_at s hlt, hx]
   have HBX := Lib.hid hblx
   have hki : (k : Int) < (s.size : Int) := by omega
   have hk0 : (0 : Int) ≤ (k : Int) := by omega
   have hkw : IntKind.i64.wrap ((k : Int) + 1) = (k : Int) + 1 := IntWalk.i64_in _ (by omega)
   have hkle : (k : Int) ≤ (k : Int) + 1 := by omega
   have hks : (k : Int) + 1 ≤ (s.size : Int) := by omega
   by_cases hlet : letC x = true
   rotate_left
   ·have hPf : P = false := by
     rw [← hP]
     rcases hp : profB t.kd t.least t.most (bl s) with _ | _
     ·rfl
     ·simp only [profB, Bool.and_eq_true] at hp
      exact absurd (List.all_eq_true.1 hp.1.1.1.2 x (List.mem_of_getElem? hblx)) hlet
    have hor : x.toNat < 97 ∨ 122 < x.toNat := by
     simp only [letC, Bool.and_eq_true, decide_eq_true_eq] at hlet; omega
    subst hPf
    clear ho hb hall hblx
    rcases hor with h97 | h97
    ·have h97i : (x.toNat : Int) < 97 := by omega
     go_wp2_with (refine (HTU.out _).mono ?_)
     rintro e w2 ⟨rfl, hb2⟩
     have HB2 := Lib.hid ((HB1.out.trans (HB.out.mono HB1.out.size)).trans (hb2.mono (Nat.le_trans HB1.out.size HB.out.size)))
     clear hb2
     go_wp2_with fail
     go_ret
     exact ⟨rfl, HB2.out⟩
    ·have h97i : (122 : Int) < (x.toNat : Int) := by omega
     have h97j : ¬ (x.toNat : Int) < 97 := by omega
     have h97k : ¬ x.toNat < 97 := by omega
     go_wp2_with (refine (HTU.out _).mono ?_)
     rintro e w2 ⟨rfl, hb2⟩
     have HB2 := Lib.hid ((HB1.out.trans (HB.out.mono HB1.out.size)).trans (hb2.mono (Nat.le_trans HB1.out.size HB.out.size)))
     clear hb2
     go_wp2_with fail
     go_ret
     exact ⟨rfl, HB2.out⟩
   have h97 : 97 ≤ x.toNat ∧ x.toNat ≤ 122 := by simpa [letC] using hlet
   have h97a : ¬ x.toNat < 97 := by omega
   have h97b : ¬ 122 < x.toNat := by omega
   have h97c : ¬ (x.toNat : Int) < 97 := by omega
   have h97d : ¬ (122 : Int) < (x.toNat : Int) := by omega
   have hbs := run_bslice (P := Tryz.prog) (T := 37) Tryz.underlying37 info_rng2 (by omega) (by omega) (v := .agg (rngCells (oneRing s k))) (g := rngF (oneRing s k)) rfl wr
   obtain ⟨v', U, hrun, hown, hbU, -, -⟩ := app_fn (P := Tryz.prog) (TT := 37) Tryz.underlying37 info_rng rfl (by omega) (by omega) ho (by omega) hb.size (rngF (oneRing s k)) (fun j _ => rngF_one _ j)
   obtain ⟨a', c', rfl, -, -⟩ := ownsRow_own hown
   have HBS := Lib.hid hbs
   have HRUN := Lib.hid hrun
   have HREL := Lib.hid (show ∃ q : Nat, q ≤ s.size ∧ Value.int .i64 ((k : Int) + 1) = .int .i64 q ∧ U.ownsRow w1.heap.size 48 2 (.slice a' (k + 1) c') q (rngRows (oneRings s q)) ∧ Below w1.heap.size w1 U ∧ ∀ (j : Nat) b, j < q → (bl s)[j]? = some b → letC b = true from ⟨k + 1, by omega, rfl, by
    rw [oneRings_succ]
    simp only [rngRows, List.flatMap_append, List.flatMap_cons, List.flatMap_nil, List.append_nil]
    exact hown, hb.trans hbU, fun j b hj hjb => by
     rcases Nat.lt_or_ge j k with h1 | h1
     ·exact HALL.out j b h1 hjb
     ·have : j = k := by omega
      subst this
      rw [HBX.out] at hjb; cases hjb; exact hlet⟩)
   clear ho hb hall hblx hbs hrun hown hbU
   go_wp2_with (first
    | (apply wpList_bsl (T := 37) (n := 1) (hr := HBS.out); (· rfl); (· rfl); (· (simp only [List.map_toArray, List.map_cons, List.map_nil]; rfl)))
    | (at_builtin; refine wpList_app rfl _ _ _ rfl rfl rfl HRUN.out ?_))
   exact ⟨HREL.out, by simp [intOf]; omega⟩
  ·have hkn : decide ((k : Int) < (s.size : Int)) = false := by simp; omega
   have hke : k = s.size := by omega
   subst hke
   have hletall : (bl s).all letC = true := List.all_eq_true.2 fun b hb => by
    obtain ⟨j, hj⟩ := List.getElem?_of_mem hb
    exact HALL.out j b (by have := (List.getElem?_eq_some_iff.1 hj).1; rwa [bl_len] at this) hj
   obtain ⟨hw0, hcf⟩ := one_law hte ht hletall (by omega)
   obtain ⟨ra, rc, rfl, hro, hrc⟩ := ownsRow_own ho
   have hR := rngs_of_own hro
   have hB1 := HB1.out.trans (hb.mono HB1.out.size)
   have HBB := Lib.hid hB1
   have hT2 := HT1.out.below hb
   obtain ⟨tb, toff, rfl, htc⟩ := hT2 n t ht
   obtain ⟨f1, f2, f3, f4, f5, f6⟩ := TypAt.fields htc
   have hni : (n : Int) < (l.length : Int) := by have := (List.getElem?_eq_some_iff.1 ht).1; omega
   have hn0 : (0 : Int) ≤ (n : Int) := by omega
   have hnl : n < l.length := (List.getElem?_eq_some_iff.1 ht).1
   have hask : Ask wr (some ⟨tb, toff, none⟩) c l ra rc (oneRings s s.size) := ⟨hT2, HOK.out.sml, by have := HOK.out.tl; omega, hlc, hR, fun y hy => by
    simp only [oneRings, List.mem_map, List.mem_range] at hy
    obtain ⟨j, hj, rfl⟩ := hy
    show (s.extract j (j + 1)).size ≤ 1000
    rw [size_one (by rw [bl_len]; exact hj)]; omega, by rw [oneRings_len]; omega, by rw [oneRings_len]; exact hrc⟩
   have HC := Lib.hid (checkFit_any (some ⟨tb, toff, none⟩) c l t.ware ra rc (oneRings s s.size) n 0 s (by omega) wr hask)
   rw [oneRings_len] at HC
   have HCO : Hid (checkFitOut l t.ware (oneRings s s.size) n 0 s = .tuple #[.bool P, .int .i64 0]) := Lib.hid (by unfold checkFitOut; rw [hw0, hcf, hP]; rfl)
   clear ho hb hall hw0 hcf hro hR hask htc hT2 hB1
   go_wp2_with (refine HC.out.mono ?_)
   rintro e w3 ⟨rfl, hb3⟩
   rw [HCO.out]
   have HB3 := Lib.hid (HBB.out.trans (hb3.mono HBB.out.size))
   clear hb3 HC HBB
   go_wp2_with (refine (HTU.out _).mono ?_)
   rintro e w4 ⟨rfl, hb4⟩
   have HB4 := Lib.hid (HB3.out.trans (hb4.mono HB3.out.size))
   clear hb4 HB3
   go_wp2_with fail
   go_ret
   refine ⟨?_, HB4.out⟩
   cases P <;> rfl
end Go.Proofs.YthpjffhccjlnhaaGreatDoor
