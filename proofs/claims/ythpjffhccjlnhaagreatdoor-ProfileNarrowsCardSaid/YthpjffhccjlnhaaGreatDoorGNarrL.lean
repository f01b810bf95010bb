/- ProfileNarrows, plain: what the law's parts answer. No program. -/
import Derived.Test.YthpjffhccjlnhaaGreatDoorGNarrQ
import Derived.Test.YthpjffhccjlnhaaGreatDoorGFewer
import Derived.Test.YthpjffhccjlnhaaGreatDoorGPart
set_option linter.unusedSimpArgs false
set_option linter.unusedVariables false
namespace Go.Proofs.YthpjffhccjlnhaaGreatDoor
open Go.RowKit
theorem inL_str4 (D : CS) {c : Nat} (hc : c < 26) : inL (str D) (chC c) = D c := by
 rw [inL_ch hc, has_str hc]
theorem str_mem4 {D : CS} {x : UInt8} (h : x ∈ str D) : ∃ c, c < 26 ∧ D c = true ∧ x = chC c := by
 unfold str at h
 obtain ⟨c, hc, rfl⟩ := List.mem_map.1 h
 exact ⟨c, by simpa using (List.mem_filter.1 hc).1, (List.mem_filter.1 hc).2, rfl⟩
theorem part_str {P Q : CS} (h : ∀ c, c < 26 → P c = true → Q c = true) : partB (str P) (str Q) = true := List.all_eq_true.2 fun x hx => by
 obtain ⟨c, hc, hp, rfl⟩ := str_mem4 hx
 rw [inL_str4 Q hc]; exact h c hc hp
theorem part_hasC {a b : List UInt8} (h : partB a b = true) {c : Nat} (hc : hasC a c = true) : hasC b c = true := by
 unfold hasC at hc ⊢
 obtain ⟨x, hx, e⟩ := List.any_eq_true.1 hc
 have := List.all_eq_true.1 h x hx
 simp only [inL, List.contains_iff_mem] at this
 exact List.any_eq_true.2 ⟨x, this, e⟩
theorem set_empty {r : List Rng} {k : Nat} {y : Rng} : r.set k y = [] ↔ r = [] := by
 rw [← List.length_eq_zero_iff, List.length_set, List.length_eq_zero_iff]
section
variable {l : List Typ} {ware : ByteArray} {r : List Rng} {k n : Nat} {y : Rng} {set : ByteArray}
theorem more_part (hr : ringsErr r = 0) (hy : r[k]? = some y) (hp : partB (bl set) (bl y.set) = true) : partB (str (choicesT l ware (r.set k ⟨y.at_, set⟩) n)) (str (choicesT l ware r n)) = true :=
 part_str fun _ _ h => choices_sub (fun _ _ _ h => cut_set (rings_asc hr).1.1 hy (part_hasC hp) h) (last_set hy) set_empty.symm h
theorem more_fewer (hr : ringsErr r = 0) (hy : r[k]? = some y) (hp : partB (bl set) (bl y.set) = true) : fewerB (shiftsT l ware (r.set k ⟨y.at_, set⟩)) (shiftsT l ware r) = true :=
 List.all_eq_true.2 fun f hf => by
  obtain ⟨g, hg, h1, h2⟩ := shifts_sub (fun _ _ _ h => cut_set (rings_asc hr).1.1 hy (part_hasC hp) h) (last_set hy) set_empty.symm hf
  refine List.any_eq_true.2 ⟨g, hg, ?_⟩
  unfold sameFt
  rw [h1, h2]; simp
theorem last_drop (hk : k + 1 < r.length) : lastAt (r.take k ++ r.drop (k + 1)) = lastAt r := by
 unfold lastAt
 have h : (r.take k ++ r.drop (k + 1)).getLast? = r.getLast? := by
  rw [List.getLast?_append, List.getLast?_drop, if_neg (by omega)]
  rcases hl : r.getLast? with _ | z
  ·rw [List.getLast?_eq_none_iff] at hl
   rw [hl] at hk; simp at hk
  ·rfl
 rw [h]
theorem drop_sub : (r.take k ++ r.drop (k + 1)).Sublist r := by
 have := List.Sublist.append (List.Sublist.refl (r.take k)) (List.drop_sublist_drop_left r (Nat.le_succ k))
 rwa [List.take_append_drop] at this
theorem wide_part (hr : ringsErr r = 0) (hk : k + 1 < r.length) : partB (str (choicesT l ware r n)) (str (choicesT l ware (r.take k ++ r.drop (k + 1)) n)) = true :=
 part_str fun _ _ h => choices_sub (fun _ _ _ h => cut_sub (rings_asc hr).1.1 drop_sub h) (last_drop hk) (by
  rw [← List.length_eq_zero_iff, ← List.length_eq_zero_iff, List.length_append, List.length_take, List.length_drop]; omega) h
theorem ringsErr_of (hl : r.length ≤ 12) (ha : r.Pairwise fun x y => x.at_ < y.at_) (hs : ∀ y, y ∈ r → inB y.at_ 0 11 = true ∧ y.set.toList.isEmpty = false ∧ isSetB (bl y.set) = true) : ringsErr r = 0 := by
 unfold ringsErr
 rw [if_neg (by omega)]
 refine firstE_none fun i hi => ?_
 obtain ⟨y, hy⟩ : ∃ y, r[i]? = some y := ⟨r[i], by simp [hi]⟩
 obtain ⟨h1, h2, h3⟩ := hs y (List.mem_of_getElem? hy)
 have h4 : prevB r y i = false := by
  rcases i with _ | i
  ·rfl
  ·obtain ⟨z, hz⟩ : ∃ z, r[i]? = some z := ⟨r[i], by simp⟩
   simp only [prevB, hz]
   have g1 := List.getElem?_eq_some_iff.1 hz
   have g2 := List.getElem?_eq_some_iff.1 hy
   have := List.pairwise_iff_getElem.1 ha i (i + 1) g1.1 g2.1 (by omega)
   rw [g1.2, g2.2] at this
   simp; omega
 unfold rngErr
 rw [hy]
 simp [h1, h2, h3, h4]
theorem chset {c : Nat} (hc : c < 26) : isSetB (bl (mkB [chC c])) = true := by
 rw [bl_mkB]
 have h : str (fun d => d == c) = [chC c] := by
  refine sorted_ext (asc_str _).1 (List.pairwise_singleton _ _) fun x => ?_
  rw [List.mem_singleton]
  constructor
  ·intro hx
   obtain ⟨d, _, h2, rfl⟩ := str_mem4 hx
   rw [beq_iff_eq] at h2; rw [h2]
  ·rintro rfl
   exact (hasC_iff hc).1 (by rw [has_str hc]; simp)
 rw [← h]; exact set_str _
theorem one_err (h : wantedErr l ware r = 0) (hn : n ≤ 11) {c : Nat} (hc : c < 26) (hlen : (withR r n (mkB [chC c])).length ≤ 12) : wantedErr l ware (withR r n (mkB [chC c])) = 0 := by
 obtain ⟨h1, h2, h3⟩ := wanted_good h
 unfold wantedErr
 have ha := (rings_asc h2).1.1
 rw [if_pos h1, if_pos (ringsErr_of hlen (withR_asc ha _ _) fun y hy => ?_), if_pos h3]
 have old : y ∈ r → inB y.at_ 0 11 = true ∧ y.set.toList.isEmpty = false ∧ isSetB (bl y.set) = true := fun hy => by
  obtain ⟨i, hi⟩ := List.getElem?_of_mem hy
  obtain ⟨g1, g2, g3, _⟩ := (ringsErr_good h2).2 i y hi
  exact ⟨g1, g2, g3⟩
 rcases (mem_withR ha).1 hy with h | rfl | h
 ·exact old h.1
 ·refine ⟨by simp [inB]; omega, ?_, chset hc⟩
  rw [ByteArray.toList_eq]
  show (bl (mkB [chC c])).isEmpty = false
  rw [bl_mkB]; rfl
 ·exact old h.1
theorem one_fits (h : wantedErr l ware r = 0) {c : Nat} (hc : c < 26) (hp : choicesT l ware r n c = true) : (shiftsT l ware (withR r n (mkB [chC c]))).isEmpty = false := by
 obtain ⟨h1, h2, h3⟩ := wanted_good h
 have := choices_one (rings_asc h2).1.1 h1 hc hp
 simpa using this
theorem with_sml (hr : ringsErr r = 0) {at_ : Int} (h : ∀ y, y ∈ r → y.set.size ≤ 1000) (hs : set.size ≤ 1000) : ∀ y, y ∈ withR r at_ set → y.set.size ≤ 1000 := fun y hy => by
 rcases (mem_withR (rings_asc hr).1.1).1 hy with h1 | rfl | h1
 ·exact h y h1.1
 ·exact hs
 ·exact h y h1.1
end
/-- a byte of a string of classes -/
theorem class_at {S : ByteArray} {P : CS} (hS : bl S = str P) {i : Nat} (hi : i < S.size) : ∃ c, c < 26 ∧ P c = true ∧ S.extract i (i + 1) = mkB [chC c] := by
 have hl : i < (bl S).length := by rw [bl_len]; exact hi
 obtain ⟨x, hx⟩ : ∃ x, (bl S)[i]? = some x := ⟨_, List.getElem?_eq_getElem hl⟩
 have h1 := bl_one hx
 obtain ⟨c, hc, hp, rfl⟩ := str_mem4 (D := P) (hS ▸ List.mem_of_getElem? hx)
 exact ⟨c, hc, hp, by rw [← mkB_bl (S.extract i (i + 1)), h1]⟩
/-- the bytes of a fit's word -/
theorem word_at {f : Ft} {q c : Nat} (hq : f.word[q]? = some c) : (bl (mkB (toS f.word)))[q]? = some (chC c) := by
 rw [bl_mkB]
 unfold toS
 rw [List.getElem?_map, hq]; rfl
/-- a row of fits in memory -/
theorem fts_of_own {B : Nat} {W : World} {a : Option Addr} {L : List Ft} (h : RowOwn B W a (ftRows L)) : FtsAt W a L := fun k f hf => by
 have key : ∀ i v, i < 3 → (ftRow f)[i]? = some v → (ftRows L)[k * 3 + i]? = some v := fun i v hi hv => by
  unfold ftRows
  rw [List.flatMap_def, flat_at7 (n := 3) (u := ftRow f) (fun x hx => by obtain ⟨z, _, rfl⟩ := List.mem_map.1 hx; rfl) (by rw [List.getElem?_map, hf]; rfl) hi]; exact hv
 obtain ⟨b, o, ha, -, hc, -⟩ := h _ _ (key 0 _ (by omega) rfl)
 obtain ⟨b', o', ha', -, hc', -⟩ := h _ _ (key 1 _ (by omega) rfl)
 rw [ha] at ha'; cases ha'
 exact ⟨b, o, ha, hc, by rw [Nat.add_assoc]; exact hc'⟩
/-- a Set replaced in a row -/
theorem rngRows_set : ∀ {L : List Rng} {k : Nat} {y : Rng} (set : ByteArray), L[k]? = some y → (rngRows L).set (k * 2 + 1) (.string set) = rngRows (L.set k ⟨y.at_, set⟩)
 | [], k, y, set, h => by simp at h
 | x :: L, 0, y, set, h => by
  simp at h; subst h; rfl
 | x :: L, k + 1, y, set, h => by
  have ih := rngRows_set (L := L) (k := k) (y := y) set (by simpa using h)
  show (Value.int .i64 x.at_ :: Value.string x.set :: rngRows L).set ((k + 1) * 2 + 1) _ = Value.int .i64 x.at_ :: Value.string x.set :: rngRows (L.set k ⟨y.at_, set⟩)
  rw [show (k + 1) * 2 + 1 = (k * 2 + 1) + 1 + 1 by omega, List.set_cons_succ, List.set_cons_succ, ih]
theorem rngRows_cut {r : List Rng} {k : Nat} (hk : k < r.length) : (rngRows r).take (k * 2) ++ (rngRows r).drop ((k + 1) * 2) = rngRows (r.take k ++ r.drop (k + 1)) := by
 have app : ∀ X Y : List Rng, rngRows (X ++ Y) = rngRows X ++ rngRows Y := fun X Y => by simp [rngRows]
 have key : ∀ j, j ≤ r.length → rngRows r = rngRows (r.take j) ++ rngRows (r.drop j) ∧ (rngRows (r.take j)).length = j * 2 := fun j hj =>
  ⟨by rw [← app, List.take_append_drop], by rw [rngRows_size7, List.length_take, Nat.min_eq_left hj]⟩
 obtain ⟨h1, l1⟩ := key k (by omega)
 obtain ⟨h2, l2⟩ := key (k + 1) (by omega)
 rw [app]
 congr 1
 ·rw [h1, List.take_left' l1]
 ·rw [h2, List.drop_left' l2]
theorem mod_small4 (which : Int) {n : Nat} (h : 0 < n) (hn : n ≤ 12) : ∃ k : Nat, wrap64 ((IntKind.u64.wrap which).tmod (n : Int)) = (k : Int) ∧ k < n := by
 have h0 : 0 ≤ IntKind.u64.wrap which := by unfold IntKind.wrap; simp [IntKind.bits, IntKind.signed]; omega
 have h1 := Int.tmod_nonneg (n : Int) h0
 have h2 := Int.tmod_lt_of_pos (IntKind.u64.wrap which) (show (0 : Int) < n by omega)
 refine ⟨((IntKind.u64.wrap which).tmod (n : Int)).toNat, ?_, by omega⟩
 have : wrap64 ((IntKind.u64.wrap which).tmod (n : Int)) = (IntKind.u64.wrap which).tmod (n : Int) := by unfold wrap64; omega
 rw [this]; omega
theorem shiftsX_eq {l : List Typ} {ware : ByteArray} {r : List Rng} (h : wantedErr l ware r = 0) : shiftsX l ware r = shiftsT l ware r := by
 unfold shiftsX; rw [if_pos h]
theorem shiftsX_len {l : List Typ} {ware : ByteArray} {r : List Rng} (h : wantedErr l ware r = 0) : (shiftsT l ware r).length ≤ 144 := by
 obtain ⟨h1, h2, _⟩ := wanted_good h
 have := tries_len (ware := ware) h1 h2
 have h3 : (shiftsT l ware r).length ≤ (triesOf l ware r).length := by unfold shiftsT; exact List.length_filterMap_le _ _
 omega
end Go.Proofs.YthpjffhccjlnhaaGreatDoor
