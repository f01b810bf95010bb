/- Chapter 4, plain: a word and the rings of its classes. No program. -/
import Derived.Test.YthpjffhccjlnhaaGreatDoorMG18
import Derived.Test.YthpjffhccjlnhaaGreatDoorMG10
import Derived.Test.YthpjffhccjlnhaaGreatDoorMG7
import Derived.Test.YthpjffhccjlnhaaGreatDoorMG19
set_option linter.unusedSimpArgs false
set_option linter.unusedVariables false
namespace Go.Proofs.YthpjffhccjlnhaaGreatDoor
def oneRing (s : ByteArray) (i : Nat) : Rng := ⟨i, s.extract i (i + 1)⟩
def oneRings (s : ByteArray) (k : Nat) : List Rng := (List.range k).map (oneRing s)
theorem oneRings_succ (s : ByteArray) (k : Nat) : oneRings s (k + 1) = oneRings s k ++ [oneRing s k] := by simp [oneRings, List.range_succ]
theorem oneRings_len (s : ByteArray) (k : Nat) : (oneRings s k).length = k := by simp [oneRings]
theorem oneRings_at {s : ByteArray} {k i : Nat} (h : i < k) : (oneRings s k)[i]? = some (oneRing s i) := by simp [oneRings, h]
theorem bl_one {s : ByteArray} {i : Nat} {b : UInt8} (h : (bl s)[i]? = some b) : bl (s.extract i (i + 1)) = [b] := by
 have hl := (List.getElem?_eq_some_iff.1 h).1
 have e : bl (s.extract i (i + 1)) = ((bl s).drop i).take 1 := by
  simp [bl, ByteArray.data_extract, List.extract_eq_take_drop]
 rw [e, List.drop_eq_getElem_cons hl, List.take_succ_cons, List.take_zero, (List.getElem?_eq_some_iff.1 h).2]
theorem size_one {s : ByteArray} {i : Nat} (h : i < (bl s).length) : (s.extract i (i + 1)).size = 1 := by
 rw [← bl_len, bl_one (List.getElem?_eq_getElem h)]; rfl
theorem rings_one {s : ByteArray} (hs : (bl s).all letC = true) (h12 : s.size ≤ 12) : ringsErr (oneRings s s.size) = 0 := by
 unfold ringsErr
 rw [oneRings_len, if_neg (by omega)]
 refine firstE_none fun i hi => ?_
 unfold rngErr
 rw [oneRings_at hi]
 have hl : i < (bl s).length := by rw [bl_len]; exact hi
 have hb := bl_one (List.getElem?_eq_getElem hl)
 have hlet : letC (bl s)[i] = true := List.all_eq_true.1 hs _ (List.getElem_mem hl)
 have hset : isSetB (bl (s.extract i (i + 1))) = true := by
  rw [hb]; exact set_of_asc ⟨by simp, fun b hb => by simp at hb; subst hb; exact hlet⟩
 have hne : (s.extract i (i + 1)).toList.isEmpty = false := by rw [ByteArray.toList_eq]; show (bl (s.extract i (i + 1))).isEmpty = false; rw [hb]; rfl
 have hp : prevB (oneRings s s.size) (oneRing s i) i = false := by
  rcases i with _ | i
  ·rfl
  ·show (match (oneRings s s.size)[i]? with | some z => decide ((oneRing s (i + 1)).at_ ≤ z.at_) | none => false) = false
   rw [oneRings_at (by omega)]
   exact decide_eq_false (by simp only [oneRing]; omega)
 have hin : inB (i : Int) 0 11 = true := by simp [inB]; omega
 have h1 : inB (oneRing s i).at_ 0 11 = true := hin
 have h2 : (oneRing s i).set.toList.isEmpty = false := hne
 have h3 : isSetB (bl (oneRing s i).set) = true := hset
 simp only [h1, h2, h3, hp]; rfl
theorem last_one (s : ByteArray) (k : Nat) : lastAt (oneRings s k) = (k : Int) - 1 := by
 rcases k with _ | k
 ·rfl
 ·unfold lastAt
  rw [oneRings_succ, List.getLast?_append, List.getLast?_singleton]
  simp only [Option.some_or, oneRing]; omega
theorem cut_one {s : ByteArray} {k p : Nat} (h : p < k) (c : Nat) : cutOf (oneRings s k) 0 p c = hasC (bl (s.extract p (p + 1))) c := by
 have : (oneRings s k).find? (fun y => decide (((0 : Nat) : Int) + y.at_ = (p : Int))) = some (oneRing s p) := by
  unfold oneRings
  rw [List.find?_map, (List.find?_range_eq_some (i := p)).2 ⟨by simp [oneRing], by simpa using h, fun j hj => by
   have : ¬ ((0 : Nat) : Int) + (j : Int) = (p : Int) := by omega
   simpa [Function.comp, oneRing] using this⟩]
  rfl
 simp only [cutOf, this, oneRing]
/-- the law -/
theorem one_law {l : List Typ} {n : Nat} {t : Typ} {s : ByteArray} (h0 : typesErr l = 0) (ht : l[n]? = some t) (hs : (bl s).all letC = true) (h12 : s.size ≤ 12) :
  wantedErr l t.ware (oneRings s s.size) = 0 ∧ checkFitT l t.ware (oneRings s s.size) n 0 s = profB t.kd t.least t.most (bl s) := by
 have hw : wantedErr l t.ware (oneRings s s.size) = 0 := by
  unfold wantedErr
  rw [if_pos h0, if_pos (rings_one hs h12), if_pos]
  exact List.any_eq_true.2 ⟨t, List.mem_of_getElem? ht, by simp [wareIs]⟩
 refine ⟨hw, ?_⟩
 have hnil : oneRings s s.size = [] ↔ s.size = 0 := by rw [← List.length_eq_zero_iff, oneRings_len]
 by_cases hx : (n, 0) ∈ triesOf l t.ware (oneRings s s.size)
 ·have := checkFit_at (wd := s) ht hx
  rw [show ((0 : Nat) : Int) = (0 : Int) from rfl] at this
  rw [this]
  unfold fitB
  rcases hp : profB t.kd t.least t.most (bl s) with _ | _
  ·simp
  ·have hpl := hp
   simp only [profB, Bool.and_eq_true, decide_eq_true_eq] at hpl
   obtain ⟨⟨⟨⟨⟨g1, g2⟩, g3⟩, _⟩, _⟩, _⟩ := hpl
   rw [Bool.true_and, Bool.and_eq_true]
   refine ⟨decide_eq_true ?_, List.all_eq_true.2 fun p hp2 => ?_⟩
   ·unfold leastOf4; rw [last_one]; rw [bl_len] at g1 ⊢; omega
   ·have hpl : p < (bl s).length := by simpa using hp2
    rw [cut_one (by rw [← bl_len]; exact hpl), bl_one (List.getElem?_eq_getElem hpl), List.getElem?_eq_getElem hpl]
    have hlet : letC (bl s)[p] = true := List.all_eq_true.1 hs _ (List.getElem_mem hpl)
    simp [hasC, cl]
    simp [letC] at hlet; omega
 ·have hlt : t.most < (s.size : Int) := by
   refine Classical.byContradiction fun hn => hx (mem_tries.2 ⟨t, ht, rfl, ?_⟩)
   unfold shiftsOf
   split
   ·omega
   ·rename_i hne
    have : s.size ≠ 0 := fun e => hne (hnil.2 e)
    rw [last_one]; omega
  rw [checkFit_bad fun x hx2 => ?_]
  ·symm
   rcases hp : profB t.kd t.least t.most (bl s) with _ | _
   ·rfl
   ·simp only [profB, Bool.and_eq_true, decide_eq_true_eq] at hp
    have := hp.1.1.1.1.2
    rw [bl_len] at this; omega
  ·rcases hb : ((x.1 : Int) == (n : Int) && (x.2 : Int) == 0) with _ | _
   ·rfl
   ·simp only [Bool.and_eq_true, beq_iff_eq] at hb
    exact absurd (show (n, 0) ∈ _ from by obtain ⟨a, b⟩ := x; simp at hb; obtain ⟨h1, h2⟩ := hb; have h1' : a = n := by omega
                                          have h2' : b = 0 := by omega
                                          subst h1'; subst h2'; exact hx2) hx
end Go.Proofs.YthpjffhccjlnhaaGreatDoor
