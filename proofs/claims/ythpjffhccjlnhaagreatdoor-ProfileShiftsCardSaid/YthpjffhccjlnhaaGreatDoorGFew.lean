/- The law's few. No condition. -/
import Derived.Test.YthpjffhccjlnhaaGreatDoorMG19
import Derived.Test.YthpjffhccjlnhaaGreatDoorMG21
set_option linter.unusedSimpArgs false
set_option linter.unusedVariables false
namespace Go.Proofs.YthpjffhccjlnhaaGreatDoor
open Go.RowKit
attribute [local go_sem] Oper.semAt_some

structure FewT (t : Typ) : Prop where
 most : t.most ≤ 6
 rim : t.rim.size ≤ 4
 after : ∀ c, c < 26 → (t.after c).size ≤ 3
structure FewOk (l : List Typ) (r : List Rng) : Prop where
 short : ShortOk l r
 few : typesErr l = 0 → l.length ≤ 4 ∧ ∀ t, t ∈ l → FewT t
def FewPost (l : List Typ) (r : List Rng) (w : World) (e : Ending) (w' : World) : Prop := ∃ b, e = .returned (.bool b) ∧ (b = true → FewOk l r) ∧ Below w.heap.size w w'
theorem few_no (l : List Typ) (r : List Rng) {w w' : World} {x : Value} (h : x = .bool false) (hb : Below w.heap.size w w') : FewPost l r w (.returned x) w' := ⟨false, by rw [h], (fun h => nomatch h), hb⟩
set_option maxRecDepth 100000 in
set_option maxHeartbeats 4000000 in
theorem few_any (a : Option Addr) (c : Nat) (l : List Typ) (ra : Option Addr) (rc : Nat) (r : List Rng) (w : World) (h : TypesAt w a l) (hr : RngsAt w ra r) :
  Calls Tryz.prog 31 #[.slice a l.length c, .slice ra r.length rc] w (FewPost l r w) := by
 have HT := Lib.hid h
 have HSH := Lib.hid (short_any a c l ra rc r w h hr)
 clear h hr
 go_enter Tryz.func31, Tryz.ntmps31
 go_wp2_with (refine HSH.out.mono ?_)
 rintro e w' ⟨bs, rfl, hok, rfl⟩
 clear HSH
 rcases bs with _ | _
 ·go_wp2_with fail
  go_ret
  exact few_no _ _ rfl (Below.refl _ _)
 have HOK := Lib.hid (hok rfl)
 clear hok
 have hl15 := HOK.out.tl
 have HC := Lib.hid (checkTypesR_any a c l w' HT.out (fun t ht => by
  obtain ⟨h1, h2, h3, h4, h5⟩ := HOK.out.ty t ht
  exact ⟨by omega, by omega, by omega, by omega, fun c hc => by have := h5 c hc; omega⟩) (by omega))
 go_wp2_with (refine HC.out.mono ?_)
 rintro e w2 ⟨rfl, hb2⟩
 have HB2 := Lib.hid hb2
 have HT2 := Lib.hid (HT.out.below hb2)
 clear hb2 HC HT
 by_cases h0 : typesErr l = 0
 rotate_left
 ·have hne : (typesErr l == 0) = false := by simpa using h0
  have HN := Lib.hid h0
  clear h0
  go_wp2_with fail
  go_ret
  exact ⟨true, rfl, fun _ => ⟨HOK.out, fun h => absurd h HN.out⟩, HB2.out⟩
 simp only [h0]
 clear h0
 go_wp2_with fail
 go_loopw [5, 6] (fun iv _ wr => ∃ k : Nat, k ≤ l.length ∧ iv = .int .i64 k ∧ (∀ (j : Nat) t, j < k → l[j]? = some t → FewT t ∧ l.length ≤ 4) ∧ w2 = wr) (fun iv _ _ => l.length - (intOf iv).toNat)
 case atStart => exact ⟨0, Nat.zero_le _, rfl, fun j _ hj => absurd hj (Nat.not_lt_zero j), rfl⟩
 case round =>
  obtain ⟨k, hk, rfl, hall, rfl⟩ := hrel
  have HALL := Lib.hid hall
  clear hall
  by_cases hlt : k < l.length
  ·obtain ⟨t, ht⟩ : ∃ t, l[k]? = some t := ⟨l[k], by simp [hlt]⟩
   obtain ⟨b, o, rfl, hc⟩ := HT2.out k t ht
   have hki : (k : Int) < (l.length : Int) := by omega
   have hk0 : (0 : Int) ≤ (k : Int) := by omega
   have hkw : IntKind.i64.wrap ((k : Int) + 1) = (k : Int) + 1 := IntWalk.i64_in _ (by omega)
   obtain ⟨-, -, -, f4, f5, -⟩ := TypAt.fields hc
   have HX := Lib.hid ht
   have HC := Lib.hid hc
   clear ht hc
   by_cases n1 : 4 < l.length
   ·have n1i : (4 : Int) < (l.length : Int) := by omega
    go_wp2_with fail
    go_ret
    exact few_no _ _ rfl HB2.out
   have n1i : ¬ (4 : Int) < (l.length : Int) := by omega
   by_cases n2 : 6 < t.most
   ·go_wp2_with fail
    go_ret
    exact few_no _ _ rfl HB2.out
   by_cases n3 : 4 < t.rim.size
   ·have n3i : (4 : Int) < (t.rim.size : Int) := by omega
    go_wp2_with fail
    go_ret
    exact few_no _ _ rfl HB2.out
   have n3i : ¬ (4 : Int) < (t.rim.size : Int) := by omega
   go_wp2_with fail
   go_loopw [6] (fun i wr => ∃ q : Nat, q ≤ 26 ∧ i = .int .i64 q ∧ (∀ j, j < q → (t.after j).size ≤ 3) ∧ w2 = wr) (fun i _ => 26 - (intOf i).toNat)
   case atStart => exact ⟨0, Nat.zero_le _, rfl, fun j hj => absurd hj (Nat.not_lt_zero j), rfl⟩
   case round =>
    obtain ⟨q, hq, rfl, hall, rfl⟩ := hrel
    have HALL2 := Lib.hid hall
    clear hall
    by_cases hlt2 : q < 26
    ·have hqi : (q : Int) < 26 := by omega
     have hq0 : (0 : Int) ≤ (q : Int) := by omega
     have hqw : IntKind.i64.wrap ((q : Int) + 1) = (q : Int) + 1 := IntWalk.i64_in _ (by omega)
     have hqn : ¬ (26 : Int) ≤ (q : Int) := by omega
     have f7 : w2.cell? ⟨b, o + k * 32 + 6 + q, none⟩ = some (.string (t.after q)) := by rw [Nat.add_assoc _ 6 q, HC.out (6 + q) (by omega), Nat.add_comm 6 q]; rfl
     by_cases n5 : 3 < (t.after q).size
     ·have n5i : (3 : Int) < ((t.after q).size : Int) := by omega
      go_wp2_with fail
      go_ret
      exact few_no _ _ rfl HB2.out
     have n5i : ¬ (3 : Int) < ((t.after q).size : Int) := by omega
     go_wp2_with fail
     go_roundw
     case rel => exact ⟨q + 1, by omega, by go_num, fun j hj => by
      rcases Nat.lt_or_ge j q with h1 | h1
      ·exact HALL2.out j h1
      ·have : j = q := by omega
       subst this; omega, trivial⟩
     case measure => simp [intOf]; omega
    ·have hqn : decide ((q : Int) < 26) = false := by simp; omega
     have HQ := Lib.hid (show q = 26 by omega)
     go_wp2_with fail
     go_roundw
     case rel => exact ⟨k + 1, by omega, by go_num, fun j u hj hu => by
      rcases Nat.lt_or_ge j k with h1 | h1
      ·exact HALL.out j u h1 hu
      ·have : j = k := by omega
       subst this
       rw [HX.out] at hu; cases hu
       exact ⟨⟨by omega, by omega, fun c hc => HALL2.out c (by have := HQ.out; omega)⟩, by omega⟩, trivial⟩
     case measure => simp [intOf]; omega
  ·have hkn : decide ((k : Int) < (l.length : Int)) = false := by simp; omega
   have HFE := Lib.hid (show l.length ≤ 4 ∧ ∀ t, t ∈ l → FewT t from ⟨by
    rcases Nat.eq_zero_or_pos l.length with h1 | h1
    ·omega
    ·exact (HALL.out 0 l[0] (by omega) (by simp [h1])).2, fun t ht => by
    obtain ⟨i, hi⟩ := List.getElem?_of_mem ht
    exact (HALL.out i t (by have := (List.getElem?_eq_some_iff.1 hi).1; omega) hi).1⟩)
   go_wp2_with fail
   go_ret
   exact ⟨true, rfl, fun _ => ⟨HOK.out, fun _ => HFE.out⟩, HB2.out⟩
end Go.Proofs.YthpjffhccjlnhaaGreatDoor
