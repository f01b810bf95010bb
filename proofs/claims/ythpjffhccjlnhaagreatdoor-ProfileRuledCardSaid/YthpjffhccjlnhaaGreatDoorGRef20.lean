/- The reference: Ruled; the law's same. No condition. -/
import Derived.Test.YthpjffhccjlnhaaGreatDoorMG24
import Derived.Test.YthpjffhccjlnhaaGreatDoorGLeastP
import Derived.Test.YthpjffhccjlnhaaGreatDoorMG15
set_option linter.unusedSimpArgs false
set_option linter.unusedVariables false
namespace Go.Proofs.YthpjffhccjlnhaaGreatDoor
open Go.RowKit
attribute [local go_sem] Oper.semAt_some

theorem rngRows_app4 (X Y : List Rng) : rngRows (X ++ Y) = rngRows X ++ rngRows Y := by simp [rngRows]
theorem rngRows_one4 (L : List Rng) : ∀ u ∈ rngRows L, u.oneCell' = true := fun u hu => by
 obtain ⟨y, _, hy⟩ := List.mem_flatMap.1 hu
 simp only [rngRow, List.mem_cons, List.mem_nil_iff, or_false] at hy
 rcases hy with rfl | rfl <;> rfl
theorem rngRows_size4 (L : List Rng) : (rngRows L).length = L.length * 2 := by
 induction L with
 | nil => rfl
 | cons y L ih =>
  have : rngRows (y :: L) = rngRow y ++ rngRows L := rfl
  rw [this, List.length_append, ih, List.length_cons]; simp [rngRow]; omega
theorem ringsAt_app4 (r : List Rng) (A B : List Nat) : ringsAt r (A ++ B) = ringsAt r A ++ ringsAt r B := by simp [ringsAt]
theorem row_rings {W : World} {a : Option Addr} {L : List Rng} (h : RngsAt W a L) : Row W a (rngRows L) := fun j v hv => by
 have hf : rngRows L = (L.map rngRow).flatten := by unfold rngRows; rw [List.flatMap_def]
 have hj := (List.getElem?_eq_some_iff.1 hv).1
 rw [rngRows_size4] at hj
 obtain ⟨k, i, hi, rfl⟩ : ∃ k i, i < 2 ∧ j = k * 2 + i := ⟨j / 2, j % 2, by omega, by omega⟩
 obtain ⟨y, hy⟩ : ∃ y, L[k]? = some y := ⟨L[k]'(by omega), by simp⟩
 rw [hf, flat_at (n := 2) (u := rngRow y) (fun x hx => by obtain ⟨z, _, rfl⟩ := List.mem_map.1 hx; rfl) (by rw [List.getElem?_map, hy]; rfl) hi] at hv
 obtain ⟨b, o, ha, hat⟩ := h k y hy
 refine ⟨b, o, ha, ?_⟩
 have hc := hat i hi
 rw [← Nat.add_assoc, hc]
 rcases i with _ | _ | i
 ·simpa [rngRow, rngF] using hv
 ·simpa [rngRow, rngF] using hv
 ·omega
/-- a row without its k-th element, built anew -/
theorem cut_row {T E : TypeId} {Z : Value} {m bytes : Nat} (ht : Tryz.prog.underlying T = some (.slice E)) (hi : (Tryz.prog.info? E).map (fun i => (i.zero, i.size, i.bytes)) = some (some Z, m, bytes)) (hz : Z.cells.size = m) (h0 : 0 < m) (hm : m ≤ 2) (hby : bytes ≤ 24) {W : World} {b0 g n cap k : Nat} {xs : List Value}
  (ho : W.ownsRow b0 E m (.slice (some ⟨g, 0, none⟩) n cap) n xs) (hl : xs.length = n * m) (hc : n ≤ cap) (h1 : ∀ u ∈ xs, u.oneCell' = true) (hk : k < n) (hn : n ≤ 1000) (ad : Option Addr) (had : ad = if cap = k + 1 then some ⟨g, 0, none⟩ else some ⟨g, (k + 1) * m, none⟩) :
  ∃ v1 U1 pa pc U2, (Builtin.append_ #[T, T] T #[.slice (some ⟨W.heap.size, 0, none⟩) 0 0, .slice (some ⟨g, 0, none⟩) k cap]).run Tryz.prog (W.alloc (.cells #[] E)) = .ok v1 U1 ∧ Below W.heap.size W U1 ∧
   (Builtin.append_ #[T, T] T #[v1, .slice ad (n - (k + 1)) (cap - (k + 1))]).run Tryz.prog U1 = .ok (.slice pa (0 + k + (n - (k + 1))) pc) U2 ∧ Below W.heap.size W U2 ∧
   U2.ownsRow W.heap.size E m (.slice pa (0 + k + (n - (k + 1))) pc) (0 + k + (n - (k + 1))) (xs.take (k * m) ++ xs.drop ((k + 1) * m)) ∧ 0 + k + (n - (k + 1)) ≤ pc := by
 have hrow : Row W (some ⟨g, 0, none⟩) xs := fun j v hv => ⟨g, 0, rfl, by
  have hj := (List.getElem?_eq_some_iff.1 hv).1
  rw [hl] at hj
  rw [Nat.zero_add, ho.cellAt j hj]; exact hv⟩
 have hkm : k * m ≤ n * m := Nat.mul_le_mul_right m (by omega)
 have hkm1 : (k + 1) * m ≤ n * m := Nat.mul_le_mul_right m (by omega)
 have hA : Row W (some ⟨g, 0, none⟩) (xs.take (k * m)) := fun j v hv => hrow j v (by
  rw [List.getElem?_take] at hv
  split at hv
  ·exact hv
  ·cases hv)
 have hB : Row W ad (xs.drop ((k + 1) * m)) := by
  rw [had]
  split
  ·have : xs.drop ((k + 1) * m) = [] := List.drop_eq_nil_of_le (by rw [hl]; exact Nat.mul_le_mul_right m (by omega))
   rw [this]; exact Row.nil _ _
  ·intro j v hv
   rw [List.getElem?_drop] at hv
   obtain ⟨b, o, e, hcl⟩ := hrow _ v hv
   cases e
   rw [Nat.zero_add] at hcl
   exact ⟨g, (k + 1) * m, rfl, hcl⟩
 have hbe : Below W.heap.size W (W.alloc (.cells #[] E)) := (Below.refl _ W).alloc (Nat.le_refl _) _
 have hoe := ownsRow_empty W W.heap.size E m (Nat.le_refl _)
 obtain ⟨v1, U1, hr1, ho1, hg1, -⟩ := run_append_row (P := Tryz.prog) (W.alloc (.cells #[] E)) W.heap.size T T E Z m bytes ht hi hz h0
  _ 0 [] hoe (some ⟨g, 0, none⟩) k cap (xs.take (k * m)) (by rw [List.length_take, hl]; omega) (hA.below hbe) (fun u hu => h1 u (List.mem_of_mem_take hu)) (by omega) (by omega) hbe.size
 have hb1 : Below W.heap.size W U1 := hbe.grown hg1 hbe.size (fun j hj => (hoe.lt j hj).1)
 obtain ⟨v2, U2, hr2, ho2, hg2, -⟩ := run_append_row (P := Tryz.prog) U1 W.heap.size T T E Z m bytes ht hi hz h0
  _ _ _ ho1 ad (n - (k + 1)) (cap - (k + 1)) (xs.drop ((k + 1) * m)) (by rw [List.length_drop, hl, Nat.sub_mul]) (hB.below hb1) (fun u hu => h1 u (List.mem_of_mem_drop hu)) (by omega) (by omega) hb1.size
 have hb2 : Below W.heap.size W U2 := hb1.grown hg2 hb1.size (fun j hj => (ho1.lt j hj).1)
 rw [List.nil_append] at ho2
 obtain ⟨pa, pc, rfl, -, hpc⟩ := ownsRow_own ho2
 exact ⟨v1, U1, pa, pc, U2, hr1, hb1, hr2, hb2, ho2, hpc⟩
theorem ruled_pre (nofit : List Nat → Bool) (n : Nat) : ∀ q, q ≤ n → ∀ x, x < n - q → (ruledTo nofit n q)[x]? = some x := by
 intro q
 induction q with
 | zero =>
  intro _ x hx
  have : ruledTo nofit n 0 = List.range n := rfl
  rw [this]; exact List.getElem?_range (by omega)
 | succ q ih =>
  intro hq x hx
  rw [ruledTo_succ nofit (by omega)]
  unfold ruledStep
  split
  ·have h1 := ih (by omega) (n - 1 - q) (by omega)
   have hlt := (List.getElem?_eq_some_iff.1 h1).1
   have hnd : (ruledTo nofit n q).Nodup := (ruledTo_sub nofit n q).nodup List.nodup_range
   have e : (ruledTo nofit n q)[n - 1 - q] = n - 1 - q := (List.getElem?_eq_some_iff.1 h1).2
   have hd := dropAt_filter hnd hlt
   rw [e] at hd
   rw [← hd]
   unfold dropAt
   rw [List.getElem?_append_left (by rw [List.length_take]; omega), List.getElem?_take, if_pos (by omega)]
   exact ih (by omega) x (by omega)
  ·exact ih (by omega) x (by omega)
theorem ruled_drop {nofit : List Nat → Bool} {n q : Nat} (hq : q < n) : (ruledTo nofit n q).filter (fun x => !(x == n - 1 - q)) = dropAt (ruledTo nofit n q) (n - 1 - q) := by
 have h1 := ruled_pre nofit n q (by omega) (n - 1 - q) (by omega)
 have hlt := (List.getElem?_eq_some_iff.1 h1).1
 have e : (ruledTo nofit n q)[n - 1 - q] = n - 1 - q := (List.getElem?_eq_some_iff.1 h1).2
 have hd := dropAt_filter ((ruledTo_sub nofit n q).nodup List.nodup_range) hlt
 rw [e] at hd
 exact hd.symm
theorem wanted_sub {l : List Typ} {ware : ByteArray} {r r' : List Rng} (h : wantedErr l ware r = 0) (hs : r'.Sublist r) : wantedErr l ware r' = 0 := by
 obtain ⟨h1, h2, h3⟩ := wanted_good h
 unfold wantedErr
 rw [if_pos h1, if_pos (rings_sub_err h2 hs), if_pos h3]
def intsV (A : List Nat) : List Value := A.map fun k => .int .i64 ((k : Nat) : Int)
theorem intsV_one (A : List Nat) : ∀ u ∈ intsV A, u.oneCell' = true := fun u hu => by
 obtain ⟨k, _, rfl⟩ := List.mem_map.1 hu; rfl
structure RdSt4 (r : List Rng) (w : World) (rv av : Value) (A : List Nat) (W : World) : Prop where
 r_ : ∃ b0, W.ownsRow b0 48 2 rv A.length (rngRows (ringsAt r A))
 i_ : ∃ b0, W.ownsRow b0 3 1 av A.length (intsV A)
 b : Below w.heap.size w W
theorem RdSt4.below {r : List Rng} {w : World} {rv av : Value} {A : List Nat} {W W' : World} (h : RdSt4 r w rv av A W) (hb : Below W.heap.size W W') : RdSt4 r w rv av A W' := by
 obtain ⟨b1, h1⟩ := h.r_
 obtain ⟨b2, h2⟩ := h.i_
 exact ⟨⟨b1, ownsRow_keep h1 (Keep.of_below' (K := fun _ => True) hb) (fun _ _ => trivial)⟩, ⟨b2, ownsRow_keep h2 (Keep.of_below' (K := fun _ => True) hb) (fun _ _ => trivial)⟩, h.b.trans (hb.mono h.b.size)⟩
theorem ints_own {B : Nat} {W : World} {a : Option Addr} {A : List Nat} (h : RowOwn B W a (intsV A)) : Ints W a (intsOf A) := fun k v hv => by
 obtain ⟨g, o, ha, _, hc, _⟩ := h k v (by unfold intsV; unfold intsOf at hv; rw [List.map_map] at hv; exact hv)
 exact ⟨g, o, ha, hc⟩
/-! same -/
set_option maxHeartbeats 1000000 in
theorem same_law (xa ya : Option Addr) (xc yc : Nat) (L : List Int) (hl : L.length ≤ 1000000) (w : World) (hx : Ints w xa L) (hy : Ints w ya L) :
  Calls Tryz.prog 29 #[.slice xa L.length xc, .slice ya L.length yc] w fun e w' => e = .returned (.bool true) ∧ Below w.heap.size w w' := by
 have HX := Lib.hid hx
 have HY := Lib.hid hy
 clear hx hy
 go_enter Tryz.func29, Tryz.ntmps29
 go_wp2_with fail
 go_loopw [5] (fun iv wr => ∃ i : Nat, i ≤ L.length ∧ iv = .int .i64 i ∧ Below w.heap.size w wr) (fun iv _ => L.length - (intOf iv).toNat)
 case atStart => exact ⟨0, Nat.zero_le _, rfl, Below.refl _ _⟩
 case round =>
  obtain ⟨i, hi, rfl, hb⟩ := hrel
  have HB := Lib.hid hb
  by_cases hlt : i < L.length
  ·obtain ⟨z, hz⟩ : ∃ z, L[i]? = some z := ⟨L[i], by simp [hlt]⟩
   obtain ⟨g, o, rfl, c1⟩ := (HX.out.below hb) i (.int .i64 z) (by rw [List.getElem?_map, hz]; rfl)
   obtain ⟨g', o', rfl, c2⟩ := (HY.out.below hb) i (.int .i64 z) (by rw [List.getElem?_map, hz]; rfl)
   have hki : (i : Int) < (L.length : Int) := by omega
   have hk0 : (0 : Int) ≤ (i : Int) := by omega
   have q1 : (z != z) = false := by simp
   clear hb hz
   go_wp2_with fail
   go_quiet (fail)
   go_wp2_with fail
   go_roundw
   case rel => exact ⟨i + 1, by omega, by go_num, below_drewN HB.out _⟩
   case measure => simp [intOf]; omega
  ·have hkn : decide ((i : Int) < (L.length : Int)) = false := by simp; omega
   clear hb
   go_wp2_with fail
   go_ret
   exact ⟨rfl, HB.out⟩
end Go.Proofs.YthpjffhccjlnhaaGreatDoor
