/- Lineage: plain words, and what stays. -/
/- Lineage, walked. -/
import Derived.Test.YtpjcnkajimgagaaGreatMWout
import Derived.Test.YtpjcnkajimgagaaGreatMRefute
import Derived.Sort.CutIn
set_option linter.unusedSimpArgs false
set_option linter.unusedVariables false
namespace Go.Proofs.YtpjcnkajimgagaaGreat
open Go.RowKit
attribute [local go_sem] Oper.semAt_some

def linStep (x y : Nat) (want : Int) (s : Cs × List Int) (id : Int) : Cs × List Int :=
 if ansAt (woutC (fun n => n == id) s.1) x y == want then (woutC (fun n => n == id) s.1, s.2) else (s.1, s.2 ++ [id])
def linTo (c : Cs) (x y : Nat) (l : List Int) : Cs × List Int := l.foldl (linStep x y (ansAt c x y)) (c, [])
def lineageL (c : Cs) (x y : Nat) : List Int := (linTo c x y (uniqL (wordIds c)).reverse).2.reverse
theorem linTo_snoc (c : Cs) (x y : Nat) (l : List Int) (id : Int) : linTo c x y (l ++ [id]) = linStep x y (ansAt c x y) (linTo c x y l) id := by simp [linTo, List.foldl_append]
theorem clearC_small {c : Cs} (h : c.Small) (x : Nat × Nat) : (clearC c x).Small := by
 refine ⟨by rw [clearC_len]; exact h.1, by rw [clearC_ware]; exact h.2.1, fun p hp => ?_⟩
 unfold clearC at hp
 split at hp
 ·exact h.2.2 p hp
 ·obtain ⟨i, hi⟩ := List.getElem?_of_mem hp
  simp only [List.getElem?_modify] at hi
  obtain ⟨q, hq, e⟩ := Option.map_eq_some_iff.1 hi
  have hm := h.2.2 q (List.mem_of_getElem? hq)
  split at e
  ·rw [← e, (clearP_lists _ q).1, (clearP_lists _ q).2]; exact hm
  ·rw [← e]; exact hm
theorem stepC_small {c : Cs} (h : c.Small) (gone : Int → Bool) (x : Nat × Nat) : (stepC gone c x).Small := by
 unfold stepC; split
 ·exact clearC_small h x
 ·exact h
theorem foldC_small (gone : Int → Bool) : ∀ (l : List (Nat × Nat)) (c : Cs), c.Small → (foldC gone c l).Small
 | [], _, h => h
 | x :: l, c, h => foldC_small gone l _ (stepC_small h gone x)
theorem woutC_small {c : Cs} (h : c.Small) (gone : Int → Bool) : (woutC gone c).Small := foldC_small gone _ c h
theorem woutC_len (gone : Int → Bool) (c : Cs) : (woutC gone c).parts.length = c.parts.length := foldC_len gone _ c
theorem snoc_ind {α : Type} {P : List α → Prop} (h0 : P []) (hs : ∀ l x, P l → P (l ++ [x])) (l : List α) : P l := by
 have h : ∀ m : List α, P m.reverse := by
  intro m
  induction m with
  | nil => exact h0
  | cons x m ih => rw [List.reverse_cons]; exact hs _ _ ih
 simpa using h l.reverse
theorem linTo_case (c : Cs) (x y : Nat) (h : c.Small) : ∀ l : List Int, (linTo c x y l).1.Small ∧ (linTo c x y l).1.parts.length = c.parts.length := by
 refine snoc_ind ⟨h, rfl⟩ (fun l id ih => ?_)
 rw [linTo_snoc, linStep]
 split
 ·exact ⟨woutC_small ih.1 _, by rw [woutC_len]; exact ih.2⟩
 ·exact ih
theorem linTo_len (c : Cs) (x y : Nat) : ∀ l : List Int, (linTo c x y l).2.length ≤ l.length := by
 refine snoc_ind (Nat.le_refl _) (fun l id ih => ?_)
 rw [linTo_snoc, linStep, List.length_append, List.length_singleton]
 split
 ·exact Nat.le_succ_of_le ih
 ·simp; exact ih
theorem bk_snd (l : List Int) : (bk l l.length).map (·.2) = l.reverse := by
 apply List.ext_getElem?
 intro i
 simp only [bk, List.map_map, List.getElem?_map]
 by_cases h : i < l.length
 ·rw [List.getElem?_range h, List.getElem?_reverse h]
  rw [List.getElem?_eq_getElem (by omega)]
  simp [bkItem, List.getD, List.getElem?_eq_getElem (show l.length - 1 - i < l.length by omega)]
 ·rw [List.getElem?_eq_none (by simpa using h), List.getElem?_eq_none (by simpa using h)]
  rfl

/-- what a round may write, but for the loop's own block: the case's variable, the list's, its backing -/
def LinC (H KV : Nat) (A : World) (k : Nat) : Prop := k = H ∨ k = KV ∨ ∃ v, Box A KV #[v] 27 ∧ v.ownBlock = some k
def LKeep (H KV L : Nat) (A B : World) : Prop := Keep (fun k => ¬ LinC H KV A k ∧ k ≠ L) A B ∧ ∀ k, LinC H KV B k → LinC H KV A k ∨ A.heap.size ≤ k
theorem LKeep.trans {H KV L : Nat} {A B C : World} (h : LKeep H KV L A B) (k : LKeep H KV L B C) : LKeep H KV L A C := by
 obtain ⟨h1, h2⟩ := h
 obtain ⟨k1, k2⟩ := k
 refine ⟨⟨k1.os.trans h1.os, k1.tape.trans h1.tape, k1.output.trans h1.output, Nat.le_trans h1.size k1.size, fun i hi hl => ?_⟩, fun i hi => ?_⟩
 ·refine (k1.block i ⟨fun hb => ?_, hi.2⟩ (Nat.lt_of_lt_of_le hl h1.size)).trans (h1.block i hi hl)
  rcases h2 i hb with h | h
  ·exact hi.1 h
  ·omega
 ·rcases k2 i hi with h | h
  ·exact h2 i h
  ·exact .inr (Nat.le_trans h1.size h)
/-- parts that stay -/
def PartsSt (H KV L : Nat) (A : World) (a : Option Addr) (l : List Prt) : Prop := ∀ B, LKeep H KV L A B → PartsAt B a l
theorem LKeep.refl (H KV L : Nat) (A : World) : LKeep H KV L A A := ⟨Keep.refl _ _, fun _ h => .inl h⟩
theorem PartsSt.here {H KV L : Nat} {A : World} {a : Option Addr} {l : List Prt} (h : PartsSt H KV L A a l) : PartsAt A a l := h A (LKeep.refl _ _ _ _)
theorem PartsSt.keep {H KV L : Nat} {A B : World} {a : Option Addr} {l : List Prt} (h : PartsSt H KV L A a l) (hk : LKeep H KV L A B) : PartsSt H KV L B a l := fun C hC => h C (LKeep.trans hk hC)
theorem LKeep.of_below {H KV L : Nat} {A B : World} {v : Value} (hv : Box A KV #[v] 27) (hb : Below A.heap.size A B) : LKeep H KV L A B :=
 ⟨Keep.of_below' hb, fun k hk => by
  rcases hk with h | h | ⟨u, hu, he⟩
  ·exact .inl (.inl h)
  ·exact .inl (.inr (.inl h))
  ·exact .inl (.inr (.inr ⟨u, by rw [box_one hu (hv.below' hb)]; exact hv, he⟩))⟩
theorem LKeep.put {H KV L : Nat} {A : World} {o : Obj} (hne : KV ≠ L) : LKeep H KV L A (A.putObj L o) :=
 ⟨((Keep.refl (fun k => k ≠ L) A).putObj (fun h => h rfl) o).mono fun k hk => hk.2, fun k hk => by
   rcases hk with h | h | ⟨u, hu, he⟩
   ·exact .inl (.inl h)
   ·exact .inl (.inr (.inl h))
   ·refine .inl (.inr (.inr ⟨u, ?_, he⟩))
    unfold Box at hu ⊢
    rwa [World.putObj_heap_other (by omega)] at hu⟩
theorem reverse_nil (c : Nat) (w : World) : Calls Tryz.prog 43 #[.slice none 0 c] w fun e w' => e = .returned (.tuple #[]) ∧ Below w.heap.size w w' := by
 have hw : IntKind.i64.wrap ((0 : Int) - 1) = -1 := by decide
 go_enter Tryz.func43, Tryz.ntmps43
 go_wp2
 go_loop [2, 3] (fun i j => i = .int .i64 0 ∧ j = .int .i64 (-1)) (fun _ _ => 0)
 case atStart => exact ⟨rfl, rfl⟩
 case round =>
  obtain ⟨rfl, rfl⟩ := hrel
  go_wp2
  go_end0
  exact ⟨rfl, Below.refl _ _⟩
end Go.Proofs.YtpjcnkajimgagaaGreat
namespace Go.Proofs.YtpjcnkajimgagaaGreat
open Go.RowKit
attribute [local go_sem] Oper.semAt_some

/-- what Lineage hands back -/
def LinPost (er : Int) (l : List Int) (w : World) (e : Ending) (w' : World) : Prop :=
 Below w.heap.size w w' ∧ ((er ≠ 0 ∧ e = .returned (.tuple #[.slice none 0 0, .int .i64 er])) ∨ (er = 0 ∧ ∃ a cap, e = .returned (.tuple #[.slice a l.length cap, .int .i64 0]) ∧ RowOwn w.heap.size w' a (l.map (Value.int .i64)) ∧ l.length ≤ cap))
/-- between the rounds -/
def LinI (c : Cs) (a b : Nat) (N WV L g BASE : Nat) (ids : List Int) (w : World) (pre : List (Nat × Int)) (A : World) : Prop :=
 ∃ pa pc v, Box A N #[.string (linTo c a b (pre.map (·.2))).1.ware, .int .i64 (linTo c a b (pre.map (·.2))).1.limit, .int .i64 (linTo c a b (pre.map (·.2))).1.by_, .slice pa (linTo c a b (pre.map (·.2))).1.parts.length pc] 24 ∧
  PartsSt N (WV + 1) L A pa (linTo c a b (pre.map (·.2))).1.parts ∧ Box A (WV + 1) #[v] 27 ∧ A.ownsRow BASE 3 1 v (linTo c a b (pre.map (·.2))).2.length ((linTo c a b (pre.map (·.2))).2.map (Value.int .i64)) ∧
  Box A (N + 1) #[.int .i64 a] 3 ∧ Box A (N + 2) #[.int .i64 b] 3 ∧ Box A WV #[.int .u8 (ansAt c a b)] 5 ∧ Ints A (some ⟨g, 0, none⟩) ids ∧ Below w.heap.size w A
def LinAs (c : Cs) (pa : Option Addr) (pc bb N N3 WV GI g c8 L a b : Nat) (ids : List Int) (x : Nat × Int) (_ : Array Value) (act : Act) (A : World) : Prop :=
 ∃ gi, act = { tmps := #[.agg #[.string c.ware, .int .i64 c.limit, .int .i64 c.by_, .slice pa c.parts.length pc], .int .i64 a, .int .i64 b, .pointer (some ⟨N, 0, none⟩), .pointer (some ⟨N + 1, 0, none⟩), .pointer (some ⟨N + 2, 0, none⟩), .slice none 0 0, .int .i64 0, .pointer (some ⟨bb, 0, none⟩), .pointer (some ⟨N3, 0, none⟩), .int .i64 0, .pointer (some ⟨WV, 0, none⟩), .pointer (some ⟨WV + 1, 0, none⟩), undef, .pointer (some ⟨gi, 0, none⟩), undef, undef, undef,
  .tuple #[.pointer (some ⟨bb, 0, none⟩), .agg (caseTab c), .int .i64 0], .agg #[.string c.ware, .int .i64 c.limit, .int .i64 c.by_, .slice pa c.parts.length pc], .int .i64 a, .int .i64 b, .slice (some ⟨N + 3, 0, none⟩) 2 2, .tuple #[.pointer (some ⟨bb, 0, none⟩), .agg (caseTab c), .int .i64 0], .pointer (some ⟨bb, 0, none⟩), .agg (caseTab c), .int .i64 0, .int .i64 0, .bool false, undef,
  .agg (tabCells (togB c.parts.length (allR c)) (aptB c.parts.length (allR c))), .int .i64 a, .int .i64 b, .int .u8 (ansAt c a b), .int .u8 (ansAt c a b), .bool false, .agg #[.string c.ware, .int .i64 c.limit, .int .i64 c.by_, .slice pa c.parts.length pc], .slice (some ⟨g, 0, none⟩) ids.length c8, .func (.func 80) #[] #[.pointer (some ⟨GI, 0, none⟩)], .int .i64 (x.1 : Nat), .int .i64 x.2,
  undef, undef, undef, undef, undef, undef, undef, undef, undef, undef, undef, undef, undef, undef, undef, undef, undef, undef, undef, undef, undef, undef, undef, undef], defers := [] } ∧ Box A gi #[.int .i64 x.2] 3 ∧ L < gi
open Go.Sort in
theorem reverse_own {B g cap : Nat} {l : List Int} {w : World} (hr : RowOwn B w (some ⟨g, 0, none⟩) (l.map (Value.int .i64))) (hB : B ≤ g) (hl : l.length ≤ 1000000) :
  Calls Tryz.prog 43 #[.slice (some ⟨g, 0, none⟩) l.length cap] w fun e w' => e = .returned (.tuple #[]) ∧ RowOwn B w' (some ⟨g, 0, none⟩) (l.reverse.map (Value.int .i64)) ∧ Below B w w' := by
 refine (Tryz.slices_Reverse_int g 0 cap l w (holds_own hr) (by omega)).mono ?_
 rintro e w' ⟨rfl, n, rfl⟩
 exact ⟨rfl, own_holds hB (holds_putRow _ _ _ _ _ _ (holds_ahead _ _ n _ _ _ (holds_own hr)) (by simp)) (fun _ _ h => h), below_putRow (below_ahead (Below.refl _ w) n) hB _⟩
def lineageR (c : Cs) (x y : Nat) : List Int := if ansAt c x y == 3 then [] else lineageL c x y
theorem answer_tab (c : Cs) (x y : Nat) (w : World) (hx : x < 8) (hy : y < 8) :
  Calls Tryz.prog 37 #[.agg (tabCells (togB c.parts.length (allR c)) (aptB c.parts.length (allR c))), .int .i64 x, .int .i64 y] w fun e w' => e = .returned (.int .u8 (ansAt c x y)) ∧ Below w.heap.size w w' := answer_any _ _ x y w hx hy
set_option maxRecDepth 100000 in
set_option maxHeartbeats 4000000 in
theorem lineage_any (c : Cs) (hsm : c.Small) (pa : Option Addr) (pc : Nat) (x y : Int) (w : World) (hp : PartsAt w pa c.parts) :
  Calls Tryz.prog 10 #[.agg #[.string c.ware, .int .i64 c.limit, .int .i64 c.by_, .slice pa c.parts.length pc], .int .i64 x, .int .i64 y] w
   (LinPost (askErr c [x, y]) (lineageR c x.toNat y.toNat) w) := by
 have hmf := run_mf Tryz.prog
 obtain ⟨w2, hw2⟩ : ∃ w2, ((w.alloc (.cells #[.string c.ware, .int .i64 c.limit, .int .i64 c.by_, .slice pa c.parts.length pc] 24)).alloc (.cells #[.int .i64 x] 3)).alloc (.cells #[.int .i64 y] 3) = w2 := ⟨_, rfl⟩
 have hsz : w2.heap.size = w.heap.size + 3 := by rw [← hw2]; simp
 have hB2 : Below w.heap.size w w2 := by rw [← hw2]; go_grown
 have b0 : Box w2 w.heap.size (csCells c pa pc) 24 := by rw [← hw2]; exact ((Box.new _ _ _).alloc _).alloc _
 have b1 : Box w2 (w.heap.size + 1) #[.int .i64 x] 3 := by rw [← hw2]; exact (Box.new' (by simp)).alloc _
 have b2 : Box w2 (w.heap.size + 2) #[.int .i64 y] 3 := by rw [← hw2]; exact Box.new' (by simp)
 have e0 : ∀ i, w2.cell? ⟨w.heap.size, i, none⟩ = (#[.string c.ware, .int .i64 c.limit, .int .i64 c.by_, .slice pa c.parts.length pc] : Array Value)[i]? := b0.cell
 have e1 := b1.cell
 have e2 := b2.cell
 have hB5 : Below w.heap.size w (w2.alloc (.cells #[.int .i64 x, .int .i64 y] 3)) := hB2.alloc (by omega) _
 have ho := asked_any c hsm pa pc [x, y] (some ⟨w2.heap.size, 0, none⟩) 2 (w2.alloc (.cells #[.int .i64 x, .int .i64 y] 3)) (hp.below hB5) (pair_ints _ _ _ _) (by simp)
 simp only [List.length_cons, List.length_nil, Nat.zero_add, Nat.reduceAdd] at ho
 rw [hsz] at ho
 have HP := Lib.hid hp
 have HC0 := Lib.hid b0
 have HX0 := Lib.hid b1
 have HY0 := Lib.hid b2
 have HW := Lib.hid hw2
 clear hp b0 b1 b2 hw2
 by_cases hz : askErr c [x, y] = 0
 ·have hoo := asked_good ho hz
  have h8 := check_small (ask_open hz)
  have hx := open_in (ask_open hz) x (by simp)
  have hy := open_in (ask_open hz) y (by simp)
  obtain ⟨a, rfl⟩ := Int.eq_ofNat_of_zero_le hx.1
  obtain ⟨b, rfl⟩ := Int.eq_ofNat_of_zero_le hy.1
  simp only [Int.toNat_natCast]
  have HO := Lib.hid hoo
  have HZ := Lib.hid hz
  clear ho hoo hz
  refine (callsIn_wide (n := 0)).1 (callsIn_of_wp_marks Tryz.func10 rfl trivial ?_ rfl)
  simp only [Tryz.ntmps10, List.size_toArray, List.length_cons, List.length_nil, Nat.reduceAdd, Nat.reduceSub, Array.replicate_succ, Array.replicate_zero, List.push_toArray, List.append_toArray, List.nil_append, List.cons_append]
  gi_upto_region 1 with fail
  simp only [HW.out, Nat.add_assoc, Nat.reduceAdd]
  gi_upto_region 4 with (first
   | (gi_at_call 36; (with_reducible refine (callsIn_wide.2 HO.out).mono ?_); rintro e w3 ⟨bb, rfl, hbb, hbx, hb⟩; have HB := Lib.hid hb; have hS := fresh_store w3 (togB c.parts.length (allR c)) (aptB c.parts.length (allR c)); clear hb hbx)
   | (refine wpListIn_store_box rfl 76 _ _ rfl rfl rfl hS ?_))
  have hw3 : w.heap.size + 4 ≤ w3.heap.size := by have := HB.out.size; simp at this; omega
  have hl4 := laid_below w3 (togB c.parts.length (allR c)) (aptB c.parts.length (allR c))
  have hL := laid_load w3 (togB c.parts.length (allR c)) (aptB c.parts.length (allR c)) (Below.refl _ _)
  have hs4 := laid_size w3 (togB c.parts.length (allR c)) (aptB c.parts.length (allR c))
  have h24 : Below w2.heap.size w2 (laid w3 (togB c.parts.length (allR c)) (aptB c.parts.length (allR c))) := (((Below.refl _ w2).alloc (Nat.le_refl _) _).trans (HB.out.mono (by simp))).trans (hl4.mono (by omega))
  generalize laid w3 (togB c.parts.length (allR c)) (aptB c.parts.length (allR c)) = w4 at *
  clear hS hl4
  have c1 := (HX0.out.below' h24).cell
  have c2 := (HY0.out.below' h24).cell
  have H24 := Lib.hid h24
  clear h24 HB e0 e1 e2
  rcases hop : (ansAt c a b == 3) with _ | _
  ·have HOP := Lib.hid hop
   have hop2 : ((ansAt c a b : Int) == 3) = false := hop
   clear hop
   gi_upto_region 8 with (first
    | (refine wpListIn_load_box rfl 76 _ rfl rfl hL ?_)
    | (gi_at_call 37; (with_reducible refine (callsIn_wide.2 (answer_tab c a b _ (by omega) (by omega))).mono ?_); rintro e w5 ⟨rfl, hb5⟩; have HB5 := Lib.hid hb5; clear hb5))
   have hw5 : w4.heap.size ≤ w5.heap.size := HB5.out.size
   have hlt4 : w.heap.size + 4 ≤ w4.heap.size := by omega
   have B7 : Below w4.heap.size w4 ((w5.alloc (.cells #[.int .u8 (ansAt c a b)] 5)).alloc (.cells #[.slice none 0 0] 27)) := (HB5.out.alloc hw5 _).alloc (by simp; omega) _
   have g1 : Box ((w5.alloc (.cells #[.int .u8 (ansAt c a b)] 5)).alloc (.cells #[.slice none 0 0] 27)) w5.heap.size #[.int .u8 (ansAt c a b)] 5 := (Box.new _ _ _).alloc _
   have g2 : Box ((w5.alloc (.cells #[.int .u8 (ansAt c a b)] 5)).alloc (.cells #[.slice none 0 0] 27)) (w5.heap.size + 1) #[.slice none 0 0] 27 := Box.new' (by simp)
   have s7 : ((w5.alloc (.cells #[.int .u8 (ansAt c a b)] 5)).alloc (.cells #[.slice none 0 0] 27)).heap.size = w5.heap.size + 2 := by simp
   generalize ((w5.alloc (.cells #[.int .u8 (ansAt c a b)] 5)).alloc (.cells #[.slice none 0 0] 27)) = w7 at *
   obtain ⟨WV, hWV⟩ : ∃ WV, w5.heap.size = WV := ⟨_, rfl⟩
   simp only [hWV] at *
   have B27 : Below w2.heap.size w2 w7 := H24.out.trans (B7.mono H24.out.size)
   have B07 := hB2.trans (B27.mono hB2.size)
   have d0 := HC0.out.below' B27
   have e0 : ∀ i, w7.cell? ⟨w.heap.size, i, none⟩ = (#[.string c.ware, .int .i64 c.limit, .int .i64 c.by_, .slice pa c.parts.length pc] : Array Value)[i]? := d0.cell
   have HID := Lib.hid (idsOf_any c hsm pa pc w7 (HP.out.below B07))
   have HG1 := Lib.hid g1
   have HG2 := Lib.hid g2
   have HD0 := Lib.hid d0
   have HD1 := Lib.hid (HX0.out.below' B27)
   have HD2 := Lib.hid (HY0.out.below' B27)
   have HB7 := Lib.hid B07
   clear g1 g2 d0 B7 B27 B07 c1 c2 hop2 hL
   gi_wp2_with (first
    | (gi_at_call 39; (with_reducible refine (callsIn_wide.2 HID.out).mono ?_); rintro e w8 ⟨g, c8, rfl, hg1, hg2, hro, hc8, hb8⟩; have HRO := Lib.hid hro; have HB8 := Lib.hid hb8; clear hro hb8)
    | (gi_at_call 38; (with_reducible refine (callsIn_wide.2 (backward_any _ _ _ _)).mono ?_); rintro e w' ⟨rfl, rfl⟩))
   generalize hids : uniqL (wordIds c) = ids at *
   have hil : ids.length ≤ 1000 := by
    have h1 := uniqL_len (wordIds c)
    have h2 := notN_len (wordIds c)
    have h3 : (wordIds c).length = 3 * c.parts.length + 1 := by rw [wordIds, List.length_map, bysList_len]
    rw [hids] at h1; omega
   have hb89 : Below w8.heap.size w8 (w8.alloc (.cells #[.slice (some ⟨g, 0, none⟩) ids.length c8] 27)) := (Below.refl _ _).alloc (Nat.le_refl _) _
   have gI : Box (w8.alloc (.cells #[.slice (some ⟨g, 0, none⟩) ids.length c8] 27)) w8.heap.size #[.slice (some ⟨g, 0, none⟩) ids.length c8] 27 := Box.new _ _ _
   have s9 : (w8.alloc (.cells #[.slice (some ⟨g, 0, none⟩) ids.length c8] 27)).heap.size = w8.heap.size + 1 := by simp
   generalize (w8.alloc (.cells #[.slice (some ⟨g, 0, none⟩) ids.length c8] 27)) = w9 at *
   have hw78 : WV + 2 ≤ w8.heap.size := by have := HB8.out.size; omega
   have hWl : w.heap.size + 4 ≤ WV := by omega
   have b79 : Below w7.heap.size w7 w9 := HB8.out.trans (hb89.mono HB8.out.size)
   have i9 : LinI c a b w.heap.size WV (w9.heap.size + 1) g (w9.heap.size + 2) ids w [] w9 := by
    refine ⟨pa, pc, .slice none 0 0, HD0.out.below' b79, fun B hB => ?_, HG2.out.below' b79, ownsRow_nil _ _ _ _, HD1.out.below' b79, HD2.out.below' b79, HG1.out.below' b79, (ints_rowOwn HRO.out).below hb89, HB7.out.trans (b79.mono (by have := HB7.out.size; omega))⟩
    have k1 : Keep (fun k => k < w.heap.size) w9 B := hB.1.mono fun k (hk : k < w.heap.size) => ⟨(by
     rintro (h | h | ⟨u, hu, he⟩)
     ·omega
     ·omega
     ·rw [box_one hu (HG2.out.below' b79)] at he; simp [Value.ownBlock] at he), by omega⟩
    exact HP.out.below ((HB7.out.trans (b79.mono (by have := HB7.out.size; omega))).trans (k1.below (by have := HB7.out.size; have := b79.size; omega)))
   have I9 := Lib.hid i9
   clear i9 b79 hb89 HD0 HD1 HD2 HG1 HG2 HB5 H24 HX0 HY0 HC0
   refine wpIn_rangeC (gf := 80) (lb := #[.pointer (some ⟨w8.heap.size, 0, none⟩)]) (Rd := BkRd) (xs := bk ids ids.length) rfl (enters_of Tryz.func80 (by kernel_rfl) rfl)
    (fun o1 o2 => backward1_gives (some ⟨g, 0, none⟩) ids (by omega) c8 w8.heap.size _ ((gI.alloc _).alloc _)) ?ps
    (LinC w.heap.size (WV + 1)) (LinI c a b w.heap.size WV (w9.heap.size + 1) g (w9.heap.size + 2) ids w) (fun _ _ _ => False) ?hC1 ?hC2 ?hC3 ?hC4 ?hOk ?hI ?hI2 ?hX ?hX2 ?h0 (LinAs c pa pc bb w.heap.size w3.heap.size WV w8.heap.size g c8 (w9.heap.size + 1) a b ids) ?hAs ?assign ?body ?done ?stop
   case ps => rintro x args W rfl; rfl
   case hC1 =>
    rintro s A B k ⟨p1, p2, v, _, _, h3, _⟩ _ hb hk
    rcases hk with h | h | ⟨u, hu, he⟩
    ·exact .inl h
    ·exact .inr (.inl h)
    ·rw [box_one hu (h3.below' hb)] at he; exact .inr (.inr ⟨v, h3, he⟩)
   case hC2 =>
    rintro s A k ⟨p1, p2, v, h1, _, h3, h4, _⟩ _ (rfl | rfl | ⟨u, hu, he⟩)
    ·exact h1.lt
    ·exact h3.lt
    ·rw [box_one hu h3] at he; exact (h4.lt k he).2
   case hC3 =>
    intro A o
    funext k
    have e : ∀ v, Box (A.putObj (w9.heap.size + 1) o) (WV + 1) #[v] 27 = Box A (WV + 1) #[v] 27 := fun v => by
     unfold Box; rw [World.putObj_heap_other (by omega)]
    simp only [LinC, e]
   case hC4 =>
    rintro s A ⟨p1, p2, v, h1, _, h3, h4, _⟩ _
    refine ⟨?_, ?_⟩ <;> rintro (h | h | ⟨u, hu, he⟩)
    ·omega
    ·omega
    ·rw [box_one hu h3] at he; have := (h4.lt _ he).1; omega
    ·omega
    ·omega
    ·rw [box_one hu h3] at he; have := (h4.lt _ he).1; omega
   case hX => intro _ _ _ _ h; exact h.elim
   case hX2 => intro _ _ _ _ h; exact h.elim
   case stop => intro _ _ _ _ h; exact h.elim
   case hOk =>
    rintro rec pre A ⟨⟨p1, p2, v, h1, _, h3, h4, _, _, _, h8, _⟩, _⟩
    refine ⟨h8, ?_⟩
    rintro ((h | h | ⟨u, hu, he⟩) | h)
    ·omega
    ·omega
    ·rw [box_one hu h3] at he; have := (h4.lt _ he).1; omega
    ·omega
   case hI =>
    rintro s A B ⟨p1, p2, v, h1, h2, h3, h4, h5, h6, h7, h8, h9⟩ hb
    exact ⟨p1, p2, v, h1.below' hb, h2.keep (LKeep.of_below h3 hb), h3.below' hb, ownsRow_keep h4 (Keep.of_below' (K := fun _ => True) hb) (fun _ _ => trivial), h5.below' hb, h6.below' hb, h7.below' hb, h8.below hb, h9.trans (hb.mono h9.size)⟩
   case hI2 =>
    rintro s A o ⟨p1, p2, v, h1, h2, h3, h4, h5, h6, h7, h8, h9⟩
    have hk : Keep (fun k => k ≠ w9.heap.size + 1) A (A.putObj (w9.heap.size + 1) o) := (Keep.refl _ A).putObj (fun h => h rfl) _
    refine ⟨p1, p2, v, hk.heap (by omega) h1, h2.keep (LKeep.put (by omega)), hk.heap (by omega) h3, ownsRow_keep h4 hk (fun k hk => by omega), hk.heap (by omega) h5, hk.heap (by omega) h6, hk.heap (by omega) h7, ints_keep h8 hk (fun b o ha hl => by cases ha; omega), below_put h9 (by omega) _⟩
   case h0 => exact I9.out
   case hAs =>
    rintro x args act A o ⟨gi, h1, h2, h3⟩
    exact ⟨gi, h1, ((Keep.refl (fun k => k ≠ w9.heap.size + 1) A).putObj (fun h => h rfl) o).heap (by omega) h2, h3⟩
   case assign =>
    rintro l x args W Kk rfl hlt hk
    gi_wp2_with fail
    exact hk _ _ ⟨W.heap.size, rfl, Box.new _ _ _, by omega⟩ ((Below.refl _ W).alloc (Nat.le_refl _) _)
   case body =>
    rintro l pre x args act W hi ⟨gi, rfl, hgb, hgl⟩ hpre hlt rfl hlp
    have hIW := hi
    obtain ⟨p1, p2, v, h1, h2, h3, h4, h5, h6, h7, h8', h9⟩ := hi
    have hsn : linTo c a b ((pre ++ [x]).map (·.2)) = linStep a b (ansAt c a b) (linTo c a b (pre.map (·.2))) x.2 := by rw [List.map_append]; exact linTo_snoc _ _ _ _ _
    have hcs := linTo_case c a b hsm (pre.map (·.2))
    have hkl := linTo_len c a b (pre.map (·.2))
    have hpl : pre.length + 1 ≤ ids.length := by
     have := hpre.length_le
     simpa [bk] using this
    rw [List.length_map] at hkl
    have HSN := Lib.hid hsn
    clear hsn hIW
    generalize linTo c a b (pre.map (·.2)) = sc at *
    have hgf : GoneFn 41 #[.pointer (some ⟨gi, 0, none⟩)] (fun n => n == x.2) W := ⟨enters_of Tryz.func41 (by kernel_rfl) rfl, fun n A hA => (lin1_any n x.2 gi A ((hgb.below' hA).cell 0)).mono fun e A' ⟨he, hw⟩ => ⟨he, by rw [hw]; exact Below.refl _ _⟩⟩
    have HWO := Lib.hid (without_any sc.1 hcs.1 p1 p2 W h2.here _ _ _ hgf)
    have e1 : ∀ i, W.cell? ⟨w.heap.size, i, none⟩ = (#[.string sc.1.ware, .int .i64 sc.1.limit, .int .i64 sc.1.by_, .slice p1 sc.1.parts.length p2] : Array Value)[i]? := h1.cell
    have hdl := woutC_len (fun n => n == x.2) sc.1
    have hdn := hcs.2
    generalize hd : woutC (fun n => n == x.2) sc.1 = dc at *
    have HDD := Lib.hid hd
    have H1 := Lib.hid h1
    have H2 := Lib.hid h2
    have H3 := Lib.hid h3
    have H4 := Lib.hid h4
    have H5 := Lib.hid h5
    have H6 := Lib.hid h6
    have H7 := Lib.hid h7
    have H8 := Lib.hid h8'
    have H9 := Lib.hid h9
    have HGB := Lib.hid hgb
    have HDL := Lib.hid (hdl.trans hdn)
    have HSC := Lib.hid hcs
    clear h1 h2 h3 h4 h5 h6 h7 h8' h9 hgb hd hgf hdl hdn hcs
    gi_upto_region 11 with (gi_at_call 40; (with_reducible refine (CallsIn.inRound _ (callsIn_wide.2 HWO.out)).mono ?_); rintro e w10 ⟨PB, pd, cells, rfl, hpd, hpo, hb10⟩; have HPO := Lib.hid hpo; have HB10 := Lib.hid hb10; clear hpo hb10)
    clear e1
    have hz10 := HB10.out.size
    have hB11 : Below w10.heap.size w10 (w10.alloc (.cells #[.string dc.ware, .int .i64 dc.limit, .int .i64 dc.by_, .slice (some ⟨PB, 0, none⟩) dc.parts.length pd] 24)) := (Below.refl _ _).alloc (Nat.le_refl _) _
    have d11 : Box (w10.alloc (.cells #[.string dc.ware, .int .i64 dc.limit, .int .i64 dc.by_, .slice (some ⟨PB, 0, none⟩) dc.parts.length pd] 24)) w10.heap.size #[.string dc.ware, .int .i64 dc.limit, .int .i64 dc.by_, .slice (some ⟨PB, 0, none⟩) dc.parts.length pd] 24 := Box.new _ _ _
    have s11 : (w10.alloc (.cells #[.string dc.ware, .int .i64 dc.limit, .int .i64 dc.by_, .slice (some ⟨PB, 0, none⟩) dc.parts.length pd] 24)).heap.size = w10.heap.size + 1 := by simp
    generalize hw11 : w10.alloc (.cells #[.string dc.ware, .int .i64 dc.limit, .int .i64 dc.by_, .slice (some ⟨PB, 0, none⟩) dc.parts.length pd] 24) = w11 at *
    clear hw11
    have e1 : ∀ i, w11.cell? ⟨w10.heap.size, i, none⟩ = (#[.string dc.ware, .int .i64 dc.limit, .int .i64 dc.by_, .slice (some ⟨PB, 0, none⟩) dc.parts.length pd] : Array Value)[i]? := d11.cell
    have hB12 : Below w11.heap.size w11 (w11.alloc (.cells #[.string dc.ware, .int .i64 dc.limit, .int .i64 dc.by_, .slice (some ⟨PB, 0, none⟩) dc.parts.length pd] 88)) := (Below.refl _ _).alloc (Nat.le_refl _) _
    have d12 : Box (w11.alloc (.cells #[.string dc.ware, .int .i64 dc.limit, .int .i64 dc.by_, .slice (some ⟨PB, 0, none⟩) dc.parts.length pd] 88)) w11.heap.size #[.string dc.ware, .int .i64 dc.limit, .int .i64 dc.by_, .slice (some ⟨PB, 0, none⟩) dc.parts.length pd] 88 := Box.new _ _ _
    have hB1012 : Below w10.heap.size w10 (w11.alloc (.cells #[.string dc.ware, .int .i64 dc.limit, .int .i64 dc.by_, .slice (some ⟨PB, 0, none⟩) dc.parts.length pd] 88)) := hB11.trans (hB12.mono (by omega))
    have hpa12 := (((HPO.out.toB rfl).below hB1012).at_)
    have htb := (table_any dc dc.parts.length rfl (by rw [HDL.out]; exact h8) (some ⟨PB, 0, none⟩) pd (w11.alloc (.cells #[.string dc.ware, .int .i64 dc.limit, .int .i64 dc.by_, .slice (some ⟨PB, 0, none⟩) dc.parts.length pd] 88)) hpa12 w11.heap.size d12)
    rw [s11] at htb
    have HTB := Lib.hid htb
    clear hpa12 htb
    have D11 := Lib.hid d11
    have HB11 := Lib.hid hB11
    have HB1012 := Lib.hid hB1012
    clear d11 d12 hB11 hB12 hB1012
    gi_upto_region 12 with (first
     | (gi_at_call 42; (with_reducible refine (CallsIn.inRound _ (callsIn_wide.2 HTB.out)).mono ?_); rintro e w13 ⟨hb13, rfl⟩; have hS := fresh_store w13 (togB dc.parts.length (allR dc)) (aptB dc.parts.length (allR dc)); have HB13 := Lib.hid hb13; clear hb13)
     | (refine wpListIn_store_box rfl 76 _ _ rfl rfl rfl hS ?_))
    have hz11 : w10.heap.size + 1 ≤ w13.heap.size := by have := HB13.out.size; simp at this; omega
    have hB13 : Below w10.heap.size w10 w13 := HB1012.out.trans (HB13.out.mono (by simp; omega))
    have hB14 := laid_below w13 (togB dc.parts.length (allR dc)) (aptB dc.parts.length (allR dc))
    have hbx14 := laid_box w13 (togB dc.parts.length (allR dc)) (aptB dc.parts.length (allR dc))
    have hz14 := laid_size w13 (togB dc.parts.length (allR dc)) (aptB dc.parts.length (allR dc))
    have hB1114 : Below w11.heap.size w11 (laid w13 (togB dc.parts.length (allR dc)) (aptB dc.parts.length (allR dc))) := (((Below.refl _ w11).alloc (Nat.le_refl _) _).trans (HB13.out.mono (by simp))).trans (hB14.mono (by omega))
    generalize laid w13 (togB dc.parts.length (allR dc)) (aptB dc.parts.length (allR dc)) = w14 at *
    clear hS
    have hB1014 : Below w10.heap.size w10 w14 := hB13.trans (hB14.mono (by omega))
    have hBW : Below W.heap.size W w14 := HB10.out.trans (hB1014.mono hz10)
    have t1 : w14.cell? ⟨w.heap.size + 1, 0, none⟩ = some (.int .i64 a) := (H5.out.below' hBW).cell 0
    have t2 : w14.cell? ⟨w.heap.size + 2, 0, none⟩ = some (.int .i64 b) := (H6.out.below' hBW).cell 0
    have t3 : w14.cell? ⟨WV, 0, none⟩ = some (.int .u8 (ansAt c a b)) := (H7.out.below' hBW).cell 0
    have hdt : Box w14 w10.heap.size #[.string dc.ware, .int .i64 dc.limit, .int .i64 dc.by_, .slice (some ⟨PB, 0, none⟩) dc.parts.length pd] 24 := D11.out.below' hB1114
    have HBW := Lib.hid hBW
    have HB1014 := Lib.hid hB1014
    have HBX14 := Lib.hid hbx14
    clear hB13 hB14 hBW hB1014 hbx14
    rcases hq : (ansAt dc a b == ansAt c a b) with _ | _
    ·have hq2 : ((ansAt dc a b : Int) == (ansAt c a b : Int)) = false := hq
     refine wpIn_region_heldB_round 6 [] (by kernel_rfl) (by kernel_rfl) (by kernel_rfl) (by kernel_rfl) (by simp) ?_
     intro S hS
     have k0 : ∀ A, S A → A.cell? ⟨w.heap.size + 1, 0, none⟩ = some (.int .i64 a) ∧ A.cell? ⟨w.heap.size + 2, 0, none⟩ = some (.int .i64 b) ∧ A.cell? ⟨WV, 0, none⟩ = some (.int .u8 (ansAt c a b)) := fun A h => ⟨below_cell (hS A h) t1, below_cell (hS A h) t2, below_cell (hS A h) t3⟩
     have kd : ∀ A, S A → (Instr.loadAt 76 (.pointer (some ⟨w13.heap.size, 0, none⟩))).run Tryz.prog A = .ok (.agg (tabCells (togB dc.parts.length (allR dc)) (aptB dc.parts.length (allR dc)))) A := fun A h => run_load_row (HBX14.out.below' (hS A h)) Tryz.underlying76 rfl (tab_info _ _)
     have K0 := Lib.hid k0
     have KD := Lib.hid kd
     have HS := Lib.hid hS
     clear k0 kd hS t1 t2 t3
     simp only [List.take_succ_cons, List.take_zero, List.drop_succ_cons, List.drop_zero]
     repeat (first
      | (refine held_load 76 _ (by rfl) rfl rfl KD.out ?_; try (dsimp only); try simp only [Act.put, List.setIfInBounds_toArray, List.set_cons_zero, List.set_cons_succ])
      | (refine held_not rfl (by rfl) ?_; try (dsimp only); try simp only [Act.put, List.setIfInBounds_toArray, List.set_cons_zero, List.set_cons_succ])
      | (refine held_val (v := ?_) rfl (by rfl) ?_ ?_; rotate_left; (· (intro W hW; obtain ⟨q0, q1, q2⟩ := K0.out W hW; go_simp; try with_reducible rfl)); try (dsimp only); try simp only [Act.put, List.setIfInBounds_toArray, List.set_cons_zero, List.set_cons_succ])
      | (refine held_skip rfl (by rfl) ?_ ?_; (· (intro W hW; obtain ⟨q0, q1, q2⟩ := K0.out W hW; go_simp; try with_reducible rfl)); try (dsimp only); try simp only [Act.put, List.setIfInBounds_toArray, List.set_cons_zero, List.set_cons_succ])
      | (refine held_call (v := .int .u8 (ansAt dc a b)) (f := 37) (args := #[.agg (tabCells (togB dc.parts.length (allR dc)) (aptB dc.parts.length (allR dc))), .int .i64 a, .int .i64 b]) rfl (by rfl) ?_ ?_ ?_; (· (intro W hW; go_simp; done)); (· exact (fun W hW => answer_tab dc a b W (by omega) (by omega))); try (dsimp only); try simp only [Act.put, List.setIfInBounds_toArray, List.set_cons_zero, List.set_cons_succ]))
     refine held_nil ?_
     intro τ hτ w15 hW hO
     obtain rfl := laid0 hτ
     have hB15 := HS.out w15 hW
     obtain ⟨u1, u2⟩ := ((H3.out.below' HBW.out).below' hB15).rules
     have u3 := ((HGB.out.below' HBW.out).below' hB15).cell
     have HB15 := Lib.hid (HBW.out.trans (hB15.mono HBW.out.size))
     clear hτ hO hW K0 KD HS hB15
     have hWz := HB15.out.size
     obtain ⟨v', U, hrun, hown, hg, hvb⟩ := run_append_row (P := Tryz.prog) (w15.alloc (.cells #[.int .i64 x.2] 3)) (w9.heap.size + 2) 27 27 3 (.int .i64 0) 1 8 Tryz.underlying27 info_int rfl (by omega)
      v _ _ (ownsRow_keep (ownsRow_keep H4.out (Keep.of_below' (K := fun _ => True) HB15.out) (fun _ _ => trivial)) ((Keep.refl (fun _ => True) w15).alloc (.cells #[.int .i64 x.2] 3)) (fun _ _ => trivial)) (some ⟨w15.heap.size, 0, none⟩) 1 1 [.int .i64 x.2] rfl (row_one (Box.new w15 _ _)) (by simp [Value.oneCell']) (by omega) (by omega) (by simp; omega)
     obtain ⟨av, cv, rfl, _, _⟩ := ownsRow_own hown
     have hbv : Box U (WV + 1) #[v] 27 := (((H3.out.below' HB15.out)).alloc _).grown hg (fun he => by have := (H4.out.lt _ he.symm).1; omega)
     have kU : Keep (fun k => v.ownBlock ≠ some k) W U := ((Keep.of_below' HB15.out).alloc (.cells #[.int .i64 x.2] 3)).grown hg (fun k hk => .inl (fun h => h hk))
     have hblt : ∀ k, v.ownBlock = some k → w9.heap.size + 2 ≤ k ∧ k < W.heap.size := fun k hk => H4.out.lt k hk
     obtain ⟨z1, z2⟩ := hbv.rules
     have HRN := Lib.hid hrun
     have HOW := Lib.hid hown
     have HBV := Lib.hid hbv
     have HKU := Lib.hid kU
     clear hrun hown hg hbv kU
     simp only [overs, List.foldl_nil]
     gi_wp2_with (gi_at_builtin; refine wpListIn_app rfl _ _ _ rfl rfl rfl HRN.out ?_)
     clear z1 z2 u1 u2 u3
     have kS : Keep (fun k => k ≠ WV + 1) U (U.setCell ⟨WV + 1, 0, none⟩ (.slice av (sc.2.length + 1) cv)) := (Keep.refl _ U).setCell (.inl (by simp)) _
     have hu := HBV.out.set_ 0 (.slice av (sc.2.length + 1) cv)
     have kW : ∀ k, v.ownBlock ≠ some k → k ≠ WV + 1 → True := fun _ _ _ => trivial
     have hcF : ∀ k, LinC w.heap.size (WV + 1) (U.setCell ⟨WV + 1, 0, none⟩ (.slice av (sc.2.length + 1) cv)) k → LinC w.heap.size (WV + 1) W k ∨ W.heap.size ≤ k := fun k hk => by
      rcases hk with h | h | ⟨u, hu', he⟩
      ·exact .inl (.inl h)
      ·exact .inl (.inr (.inl h))
      ·rw [box_one hu' hu] at he
       rcases hvb with h3 | h3
       ·exact .inl (.inr (.inr ⟨v, H3.out, h3 ▸ he⟩))
       ·rw [h3] at he; cases he; exact .inr (by simp; omega)
     have kF : Keep (fun k => ¬ LinC w.heap.size (WV + 1) W k) W (U.setCell ⟨WV + 1, 0, none⟩ (.slice av (sc.2.length + 1) cv)) := (HKU.out.mono fun k (hk : ¬ LinC w.heap.size (WV + 1) W k) he => hk (.inr (.inr ⟨v, H3.out, he⟩))).trans (kS.mono fun k (hk : ¬ LinC w.heap.size (WV + 1) W k) he => hk (.inr (.inl he)))
     have nb : ∀ k, k < w9.heap.size + 2 → k ≠ w.heap.size → k ≠ WV + 1 → ¬ LinC w.heap.size (WV + 1) W k := fun k h1 h2 h3 => by
      rintro (h | h | ⟨u, hu', he⟩)
      ·exact h2 h
      ·exact h3 h
      ·rw [box_one hu' H3.out] at he; have := (hblt k he).1; omega
     refine ⟨kF, hcF, ?_⟩
     have e : linTo c a b ((pre ++ [x]).map (·.2)) = (sc.1, sc.2 ++ [x.2]) := by rw [HSN.out, linStep, HDD.out, if_neg (by simp [hq])]
     show LinI c a b w.heap.size WV (w9.heap.size + 1) g (w9.heap.size + 2) ids w (pre ++ [x]) _
     unfold LinI
     rw [e]
     refine ⟨p1, p2, _, kS.heap (by omega) (HKU.out.heap (fun he => by have := (hblt _ he).1; omega) H1.out), H2.out.keep ⟨kF.mono fun k hk => hk.1, hcF⟩, hu, ?_, kF.heap (nb _ (by omega) (by omega) (by omega)) H5.out, kF.heap (nb _ (by omega) (by omega) (by omega)) H6.out, kF.heap (nb _ (by omega) (by omega) (by omega)) H7.out, ints_keep H8.out kF (fun b' o ha hl => by cases ha; exact nb _ (by omega) (by omega) (by omega)), H9.out.trans ((kF.mono fun k (hk : k < w.heap.size) => nb k (by omega) (by omega) (by omega)).below H9.out.size)⟩
     have := ownsRow_keep HOW.out kS (fun k hk => by omega)
     simpa using this
    ·have hq2 : ((ansAt dc a b : Int) == (ansAt c a b : Int)) = true := hq
     refine wpIn_region_heldB_round 6 [] (by kernel_rfl) (by kernel_rfl) (by kernel_rfl) (by kernel_rfl) (by simp) ?_
     intro S hS
     have k0 : ∀ A, S A → A.cell? ⟨w.heap.size + 1, 0, none⟩ = some (.int .i64 a) ∧ A.cell? ⟨w.heap.size + 2, 0, none⟩ = some (.int .i64 b) ∧ A.cell? ⟨WV, 0, none⟩ = some (.int .u8 (ansAt c a b)) := fun A h => ⟨below_cell (hS A h) t1, below_cell (hS A h) t2, below_cell (hS A h) t3⟩
     have kd : ∀ A, S A → (Instr.loadAt 76 (.pointer (some ⟨w13.heap.size, 0, none⟩))).run Tryz.prog A = .ok (.agg (tabCells (togB dc.parts.length (allR dc)) (aptB dc.parts.length (allR dc)))) A := fun A h => run_load_row (HBX14.out.below' (hS A h)) Tryz.underlying76 rfl (tab_info _ _)
     have K0 := Lib.hid k0
     have KD := Lib.hid kd
     have HS := Lib.hid hS
     clear k0 kd hS t1 t2 t3
     simp only [List.take_succ_cons, List.take_zero, List.drop_succ_cons, List.drop_zero]
     repeat (first
      | (refine held_load 76 _ (by rfl) rfl rfl KD.out ?_; try (dsimp only); try simp only [Act.put, List.setIfInBounds_toArray, List.set_cons_zero, List.set_cons_succ])
      | (refine held_not rfl (by rfl) ?_; try (dsimp only); try simp only [Act.put, List.setIfInBounds_toArray, List.set_cons_zero, List.set_cons_succ])
      | (refine held_val (v := ?_) rfl (by rfl) ?_ ?_; rotate_left; (· (intro W hW; obtain ⟨q0, q1, q2⟩ := K0.out W hW; go_simp; try with_reducible rfl)); try (dsimp only); try simp only [Act.put, List.setIfInBounds_toArray, List.set_cons_zero, List.set_cons_succ])
      | (refine held_skip rfl (by rfl) ?_ ?_; (· (intro W hW; obtain ⟨q0, q1, q2⟩ := K0.out W hW; go_simp; try with_reducible rfl)); try (dsimp only); try simp only [Act.put, List.setIfInBounds_toArray, List.set_cons_zero, List.set_cons_succ])
      | (refine held_call (v := .int .u8 (ansAt dc a b)) (f := 37) (args := #[.agg (tabCells (togB dc.parts.length (allR dc)) (aptB dc.parts.length (allR dc))), .int .i64 a, .int .i64 b]) rfl (by rfl) ?_ ?_ ?_; (· (intro W hW; go_simp; done)); (· exact (fun W hW => answer_tab dc a b W (by omega) (by omega))); try (dsimp only); try simp only [Act.put, List.setIfInBounds_toArray, List.set_cons_zero, List.set_cons_succ]))
     refine held_nil ?_
     intro τ hτ w15 hW hO
     obtain rfl := laid0 hτ
     have hB15 := HS.out w15 hW
     have e15 : ∀ i, w15.cell? ⟨w10.heap.size, i, none⟩ = (#[.string dc.ware, .int .i64 dc.limit, .int .i64 dc.by_, .slice (some ⟨PB, 0, none⟩) dc.parts.length pd] : Array Value)[i]? := (hdt.below' hB15).cell
     have u15 := ((H1.out.below' HBW.out).below' hB15).rules
     obtain ⟨u1, u2⟩ := u15
     have HB15 := Lib.hid (HBW.out.trans (hB15.mono HBW.out.size))
     have HB1015 := Lib.hid (HB1014.out.trans (hB15.mono HB1014.out.size))
     clear hτ hO hW K0 KD HS hB15
     simp only [overs, List.foldl_nil]
     gi_wp2_with fail
     have kF : Keep (fun k => k ≠ w.heap.size) w15 ((((w15.setCell ⟨w.heap.size, 0, none⟩ (.string dc.ware)).setCell ⟨w.heap.size, 1, none⟩ (.int .i64 dc.limit)).setCell ⟨w.heap.size, 2, none⟩ (.int .i64 dc.by_)).setCell ⟨w.heap.size, 3, none⟩ (.slice (some ⟨PB, 0, none⟩) dc.parts.length pd)) := ((((Keep.refl _ w15).setCell (.inl (by simp)) _).setCell (.inl (by simp)) _).setCell (.inl (by simp)) _).setCell (.inl (by simp)) _
     have hbF : Box ((((w15.setCell ⟨w.heap.size, 0, none⟩ (.string dc.ware)).setCell ⟨w.heap.size, 1, none⟩ (.int .i64 dc.limit)).setCell ⟨w.heap.size, 2, none⟩ (.int .i64 dc.by_)).setCell ⟨w.heap.size, 3, none⟩ (.slice (some ⟨PB, 0, none⟩) dc.parts.length pd)) w.heap.size #[.string dc.ware, .int .i64 dc.limit, .int .i64 dc.by_, .slice (some ⟨PB, 0, none⟩) dc.parts.length pd] 24 := by
      have := ((((H1.out.below' HB15.out).set_ 0 (.string dc.ware)).set_ 1 (.int .i64 dc.limit)).set_ 2 (.int .i64 dc.by_)).set_ 3 (.slice (some ⟨PB, 0, none⟩) dc.parts.length pd)
      simpa using this
     clear u1 u2 e15
     generalize ((((w15.setCell ⟨w.heap.size, 0, none⟩ (.string dc.ware)).setCell ⟨w.heap.size, 1, none⟩ (.int .i64 dc.limit)).setCell ⟨w.heap.size, 2, none⟩ (.int .i64 dc.by_)).setCell ⟨w.heap.size, 3, none⟩ (.slice (some ⟨PB, 0, none⟩) dc.parts.length pd)) = WF at *
     have hHW := H1.out.lt
     have hPB := HPO.out.far
     have hKV := kF.heap (by omega) (H3.out.below' HB15.out)
     have hcF : ∀ k, LinC w.heap.size (WV + 1) WF k → LinC w.heap.size (WV + 1) W k ∨ W.heap.size ≤ k := fun k hk => by
      rcases hk with h | h | ⟨u, hu, he⟩
      ·exact .inl (.inl h)
      ·exact .inl (.inr (.inl h))
      ·rw [box_one hu hKV] at he; exact .inl (.inr (.inr ⟨v, H3.out, he⟩))
     refine ⟨(Keep.of_below' HB15.out).trans (kF.mono fun k hk he => hk (.inl he)), hcF, ?_⟩
     have e : linTo c a b ((pre ++ [x]).map (·.2)) = (dc, sc.2) := by rw [HSN.out, linStep, HDD.out, if_pos hq]
     show LinI c a b w.heap.size WV (w9.heap.size + 1) g (w9.heap.size + 2) ids w (pre ++ [x]) WF
     unfold LinI
     rw [e]
     refine ⟨some ⟨PB, 0, none⟩, pd, v, hbF, fun B hB => ?_, hKV, ownsRow_keep (ownsRow_keep H4.out (Keep.of_below' (K := fun _ => True) HB15.out) (fun _ _ => trivial)) kF (fun k hk => by omega), kF.heap (by omega) (H5.out.below' HB15.out), kF.heap (by omega) (H6.out.below' HB15.out), kF.heap (by omega) (H7.out.below' HB15.out), ints_keep (H8.out.below HB15.out) kF (fun b o ha hl => by cases ha; omega), (H9.out.trans (HB15.out.mono H9.out.size)).trans ((kF.mono fun k (hk : k < w.heap.size) => by omega).below (by have := HB15.out.size; have := H9.out.size; omega))⟩
     have pF := ((HPO.out.toB rfl).below HB1015.out).keep kF (by omega) (fun b h1 h2 => by omega)
     have nb : ∀ k, W.heap.size + 2 ≤ k → ¬ LinC w.heap.size (WV + 1) WF k ∧ k ≠ w9.heap.size + 1 := fun k hk => ⟨(by
      rintro (h | h | ⟨u, hu, he⟩)
      ·omega
      ·omega
      ·rw [box_one hu hKV] at he; have := (H4.out.lt k he).2; omega), by omega⟩
     exact (pF.keep hB.1 (nb _ (by omega)) (fun b h1 h2 => nb _ (by omega))).at_
   case done =>
    rintro W ⟨p1, p2, v, h1, h2, h3, h4, h5, h6, h7, h8', h9⟩ hD
    rw [bk_snd] at h4
    obtain ⟨u1, u2⟩ := h3.rules
    have hkl := linTo_len c a b ids.reverse
    rw [List.length_reverse] at hkl
    have hre : lineageR c a b = (linTo c a b ids.reverse).2.reverse := by simp only [lineageR, HOP.out, lineageL, hids]; rfl
    generalize (linTo c a b ids.reverse).2 = kept at *
    obtain ⟨a', cap, hva, hro, hcap⟩ := ownsRow_own h4
    have hrev : Calls Tryz.prog 43 #[.slice a' kept.length cap] W fun e W' => e = .returned (.tuple #[]) ∧ RowOwn (w9.heap.size + 2) W' a' (kept.reverse.map (Value.int .i64)) ∧ Below (w9.heap.size + 1) W W' := by
     have hD9 := (Array.getElem?_eq_some_iff.1 hD).1
     rcases h4.2 with ⟨hv, hx⟩ | ⟨g', cap', cur, hv, hg, _⟩
     ·rw [hv] at hva
      have hk0 : kept = [] := by simpa using hx
      subst hk0
      simp only [List.length_nil] at hva
      cases hva
      exact (reverse_nil 0 W).mono fun e W' ⟨he, hb⟩ => ⟨he, RowOwn.nil _ _ _, hb.mono (by omega)⟩
     ·rw [hv] at hva
      cases hva
      exact (reverse_own hro hg (by omega)).mono fun e W' ⟨x1, x2, x3⟩ => ⟨x1, x2, x3.mono (by omega)⟩
    subst hva
    have HRV := Lib.hid hrev
    have HH3 := Lib.hid h3
    have HH9 := Lib.hid h9
    have HD := Lib.hid hD
    have HRE := Lib.hid hre
    clear h1 h2 h3 h4 h5 h6 h7 h8' h9 hro hrev hD hre hids
    gi_wp2_with (gi_at_call 43; (with_reducible refine (callsIn_wide.2 HRV.out).mono ?_); rintro e W2 ⟨rfl, hro2, hb2⟩; have v1 := (HH3.out.below hb2 (by omega)).cell; have HRO2 := Lib.hid hro2; have HB2' := Lib.hid hb2; clear hro2 hb2)
    have hd2 : W2.heap[w9.heap.size]? = some (.deferred (some [])) := (HB2'.out.block _ (by omega)).trans HD.out
    rw [s9] at hd2
    refine ⟨by simp, .inl ⟨_, _, rfl, run_takeDeferred hd2, ?_⟩⟩
    refine ⟨.tuple #[.slice a' kept.length cap, .int .i64 0], ?_, ?_⟩
    ·simp [results, go_sem]
    ·have k5 : Keep (fun k => k ≠ w8.heap.size + 1) W2 (W2.putObj (w8.heap.size + 1) (.deferred none)) := (Keep.refl _ W2).putObj (fun h => h rfl) _
     have hsz9 := HH9.out.size
     rw [s9] at HB2' HRO2
     refine ⟨below_put (HH9.out.trans (HB2'.out.mono (by omega))) (by omega) _, .inr ⟨HZ.out, a', cap, ?_, ?_, ?_⟩⟩
     ·rw [HRE.out, List.length_reverse]
     ·rw [HRE.out]; exact (HRO2.out.keep k5 (fun k hk => by omega)).less (by omega)
     ·rw [HRE.out, List.length_reverse]; exact hcap
  ·have HOP := Lib.hid hop
   have hop2 : ((ansAt c a b : Int) == 3) = true := hop
   clear hop
   gi_wp2_with (first
    | (refine wpListIn_load_box rfl 76 _ rfl rfl hL ?_)
    | (gi_at_call 37; (with_reducible refine (callsIn_wide.2 (answer_tab c a b _ (by omega) (by omega))).mono ?_); rintro e w5 ⟨rfl, hb5⟩; have HB5 := Lib.hid hb5; clear hb5))
   have hb45 := (hB2.trans (H24.out.mono hB2.size)).trans (HB5.out.mono (by have := H24.out.size; have := hB2.size; omega))
   refine ⟨.tuple #[.slice none 0 0, .int .i64 0], ?_, hb45.alloc hb45.size _, .inr ⟨HZ.out, none, 0, ?_, ?_, by simp [lineageR, HOP.out]⟩⟩
   ·simp [results, go_sem]
   ·simp [lineageR, HOP.out]
   ·simp only [lineageR, HOP.out, if_true, List.map_nil]; exact RowOwn.nil _ _ _
 ·have hoo := asked_bad ho hz
  have HO := Lib.hid hoo
  clear ho hoo
  have hzz : (askErr c [x, y] != 0) = true := by simpa using hz
  refine (callsIn_wide (n := 0)).1 (callsIn_of_wp_marks Tryz.func10 rfl trivial ?_ rfl)
  simp only [Tryz.ntmps10, List.size_toArray, List.length_cons, List.length_nil, Nat.reduceAdd, Nat.reduceSub, Array.replicate_succ, Array.replicate_zero, List.push_toArray, List.append_toArray, List.nil_append, List.cons_append]
  gi_upto_region 1 with fail
  simp only [HW.out, Nat.add_assoc, Nat.reduceAdd]
  gi_wp2_with (first
   | (gi_at_call 36; (with_reducible refine (callsIn_wide.2 HO.out).mono ?_); rintro e w3 ⟨rfl, hb⟩; have HB := Lib.hid hb; have hS := fresh_store w3 (fun _ _ => false) (fun _ _ => false); clear hb)
   | (refine wpListIn_store_box rfl 76 _ _ rfl rfl rfl hS ?_))
  refine ⟨.tuple #[.slice none 0 0, .int .i64 (askErr c [x, y])], ?_, (hB5.trans (HB.out.mono hB5.size)).trans ((laid_below w3 _ _).mono (by have := HB.out.size; have := hB5.size; omega)), .inl ⟨hz, rfl⟩⟩
  simp [results, go_sem]
end Go.Proofs.YtpjcnkajimgagaaGreat
