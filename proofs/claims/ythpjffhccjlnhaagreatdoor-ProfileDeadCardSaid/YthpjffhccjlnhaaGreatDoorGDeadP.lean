/- Chapter 4, plain: a type without its dead classes. No program. -/
import Derived.Test.YthpjffhccjlnhaaGreatDoorGWoutS
import Derived.Test.YthpjffhccjlnhaaGreatDoorGDead
import Derived.Test.YthpjffhccjlnhaaGreatDoorMG19
set_option linter.unusedSimpArgs false
set_option linter.unusedVariables false
namespace Go.Proofs.YthpjffhccjlnhaaGreatDoor
/-- two types of letters that are one below 26 -/
structure KdEq (K L : Kd) : Prop where
 rim : ∀ c, c < 26 → K.rim c = L.rim c
 base : ∀ c, c < 26 → K.base c = L.base c
 after : ∀ c d, c < 26 → d < 26 → K.after c d = L.after c d
theorem satF_congr {p q : CS} {f g : Nat → Nat} {l : List Nat} (h : ∀ c ∈ l, p c = q c ∧ f c = g c) (s : Nat) : satF p f l s = satF q g l s := by
 induction l generalizing s with
 | nil => rfl
 | cons x l ih =>
  obtain ⟨h1, h2⟩ := h x (by simp)
  have e : ∀ (p : CS) (f : Nat → Nat), satF p f (x :: l) s = satF p f l (if p x then min (s + f x) satM else s) := fun p f => rfl
  rw [e, e, h1, h2]
  exact ih (fun c hc => h c (by simp [hc])) _
theorem atM_congr {K L : Kd} (h : KdEq K L) : ∀ (n c : Nat), c < 26 → atM K n c = atM L n c
 | 0, c, hc => by simp only [atM, h.rim c hc]
 | n + 1, d, hd => satF_congr (fun c hc => ⟨h.after c d (by simpa using hc) hd, atM_congr h n c (by simpa using hc)⟩) 0
theorem manyM_congr {K L : Kd} (h : KdEq K L) (least : Int) : ∀ n, manyM K least n = manyM L least n
 | 0 => rfl
 | n + 1 => by
  rw [manyM, manyM, manyM_congr h least n]
  exact satF_congr (fun c hc => ⟨by rw [h.base c (by simpa using hc)], atM_congr h n c (by simpa using hc)⟩) _
theorem profB_congr {K L : Kd} (h : KdEq K L) (least most : Int) (w : List UInt8) : profB K least most w = profB L least most w := by
 unfold profB
 rcases h1 : decide (least ≤ (w.length : Int) ∧ (w.length : Int) ≤ most) with _ | _
 ·simp
 rcases h2 : w.all letC with _ | _
 ·simp
 have hl : ∀ i, i < w.length → cl (w[i]?.getD 0) < 26 := fun i hi => by
  rw [List.getElem?_eq_getElem hi]
  exact cl_lt (List.all_eq_true.1 h2 _ (List.getElem_mem hi))
 have h3 : (List.range (w.length - 1)).all (linkB K w) = (List.range (w.length - 1)).all (linkB L w) := by
  rw [Bool.eq_iff_iff, List.all_eq_true, List.all_eq_true]
  constructor <;> intro hh i hi
  ·have hi' : i < w.length - 1 := by simpa using hi
   have := hh i hi
   rw [linkB, h.after _ _ (hl i (by omega)) (hl (i + 1) (by omega))] at this
   exact this
  ·have hi' : i < w.length - 1 := by simpa using hi
   have := hh i hi
   rw [linkB, ← h.after _ _ (hl i (by omega)) (hl (i + 1) (by omega))] at this
   exact this
 rcases Nat.eq_zero_or_pos w.length with h0 | h0
 ·obtain rfl := List.length_eq_zero_iff.1 h0
  have e0 : ([] : List UInt8)[0]?.getD 0 = 0 := rfl
  simp only [h3, List.length_nil, Nat.zero_sub, e0]
  have hz : cl 0 < 26 := by decide
  rw [h.rim _ hz, h.base _ hz]; rfl
 ·rw [h3, h.rim _ (hl 0 h0), h.base _ (hl _ (by omega))]
/-- a type without the classes D -/
def deadT (t : Typ) (D : CS) : Typ := { t with rim := mkB (woutL (bl t.rim) (str D)), base := mkB (woutL (bl t.base) (str D)), after := fun c => if D c then ByteArray.empty else mkB (woutL (bl (t.after c)) (str D)) }
theorem has_wout (l : List UInt8) (D : CS) {c : Nat} (hc : c < 26) : hasC (woutL l (str D)) c = (hasC l c && !D c) := by
 rw [Bool.eq_iff_iff, Bool.and_eq_true, hasC_iff hc, hasC_iff hc]
 simp only [woutL, List.mem_filter, inL, Bool.not_eq_true', Bool.eq_false_iff, ne_eq, List.contains_iff_mem, mem_str, chC_nat hc]
 have hl := let_ch hc
 have e : 97 + c - 97 = c := by omega
 rw [e]
 constructor
 ·rintro ⟨h1, h2⟩; exact ⟨h1, fun h => h2 ⟨hl, h⟩⟩
 ·rintro ⟨h1, h2⟩; exact ⟨h1, fun h => h2 h.2⟩
theorem dead_kd (t : Typ) (D : CS) : KdEq (deadT t D).kd (lessK t.kd D) := by
 refine ⟨fun c hc => ?_, fun c hc => ?_, fun c d hc hd => ?_⟩
 ·show hasC (bl (mkB (woutL (bl t.rim) (str D)))) c = _
  rw [bl_mkB, has_wout _ _ hc]; rfl
 ·show hasC (bl (mkB (woutL (bl t.base) (str D)))) c = _
  rw [bl_mkB, has_wout _ _ hc]; rfl
 ·show hasC (bl (if D c then ByteArray.empty else mkB (woutL (bl (t.after c)) (str D)))) d = (!D c && (hasC (bl (t.after c)) d && !D d))
  rcases h : D c with _ | _
  ·rw [if_neg (by simp), bl_mkB, has_wout _ _ hd]; simp
  ·rw [if_pos rfl]; rfl
theorem wout_set {l : List UInt8} (h : isSetB l = true) (D : List UInt8) : isSetB (woutL l D) = true := by
 obtain ⟨h1, h2⟩ := asc_of_set h
 exact set_of_asc ⟨h1.sublist List.filter_sublist, fun b hb => h2 b (List.mem_filter.1 hb).1⟩
/-- the plain law -/
theorem dead_law {t : Typ} (hb : typeB t = true) (hm : t.most = (t.m : Int)) (hw : ∃ w, w ∈ wordsOf t.kd t.m t.least) :
  typeB (deadT t (deadW t.kd t.m t.least)) = true ∧ (∀ w, profB (deadT t (deadW t.kd t.m t.least)).kd t.least t.most w = profB t.kd t.least t.most w) ∧ manyM (deadT t (deadW t.kd t.m t.least)).kd t.least t.m = manyM t.kd t.least t.m := by
 have hb' := hb
 simp only [typeB, Bool.and_eq_true, Bool.not_eq_true', List.any_eq_false, inB, decide_eq_true_eq] at hb
 obtain ⟨⟨⟨⟨⟨⟨⟨⟨b1, b2⟩, b3⟩, b4⟩, b5⟩, b6⟩, b7⟩, b8⟩, b9⟩ := hb
 have hmp : 0 < t.m := by omega
 obtain ⟨w, hw⟩ := hw
 obtain ⟨hch, hlen, hle⟩ := mem_words.1 hw
 obtain ⟨g0, g1, g2, g3, g4, g5⟩ := chain_iff.1 hch
 have hfree := dead_free w hw
 have hne : ∀ (s : ByteArray) (c : Nat), c < 26 → hasC (bl s) c = true → deadW t.kd t.m t.least c = false → (mkB (woutL (bl s) (str (deadW t.kd t.m t.least)))).toList.isEmpty = false := fun s c hc h1 h2 => by
  rw [ByteArray.toList_eq]
  show (bl (mkB (woutL (bl s) (str (deadW t.kd t.m t.least))))).isEmpty = false
  rw [bl_mkB]
  have := (hasC_iff hc).1 ((has_wout (bl s) (deadW t.kd t.m t.least) hc).trans (by rw [h1, h2]; rfl))
  rcases hh : woutL (bl s) (str (deadW t.kd t.m t.least)) with _ | ⟨x, y⟩
  ·rw [hh] at this; cases this
  ·rfl
 obtain ⟨c0, hc0⟩ : ∃ c, w[0]? = some c := ⟨w[0]'(List.length_pos_iff.2 g0), by simp [List.length_pos_iff.2 g0]⟩
 obtain ⟨c9, hc9⟩ : ∃ c, w[w.length - 1]? = some c := ⟨w[w.length - 1]'(by have := List.length_pos_iff.2 g0; omega), List.getElem?_eq_getElem _⟩
 have m0 := List.mem_of_getElem? hc0
 have m9 := List.mem_of_getElem? hc9
 have e5 := hne t.rim c0 (g1 c0 m0) (g2 c0 hc0) (hfree c0 m0)
 have e6 := hne t.base c9 (g1 c9 m9) (g5 c9 hc9) (hfree c9 m9)
 refine ⟨?_, fun w => ?_, ?_⟩
 ·have e7 : isSetB (bl (mkB (woutL (bl t.rim) (str (deadW t.kd t.m t.least))))) = true := by rw [bl_mkB]; exact wout_set b7 _
  have e8 : isSetB (bl (mkB (woutL (bl t.base) (str (deadW t.kd t.m t.least))))) = true := by rw [bl_mkB]; exact wout_set b8 _
  simp only [typeB, deadT, Bool.and_eq_true, Bool.not_eq_true', List.any_eq_false, inB, decide_eq_true_eq]
  refine ⟨⟨⟨⟨⟨⟨⟨⟨b1, b2⟩, decide_eq_true b3⟩, decide_eq_true b4⟩, e5⟩, e6⟩, e7⟩, e8⟩, fun s hs => ?_⟩
  obtain ⟨c, hc, rfl⟩ := List.mem_map.1 hs
  have := b9 (t.after c) (List.mem_map.2 ⟨c, hc, rfl⟩)
  split
  ·simp; rfl
  ·rw [bl_mkB, wout_set (by simpa using this) _]; simp
 ·rw [profB_congr (dead_kd t _)]
  have := dead_prof (K := t.kd) (most := t.most) (least := t.least) b3.1 w
  exact this
 ·rw [manyM_congr (dead_kd t _), dead_many hmp]
end Go.Proofs.YthpjffhccjlnhaaGreatDoor
