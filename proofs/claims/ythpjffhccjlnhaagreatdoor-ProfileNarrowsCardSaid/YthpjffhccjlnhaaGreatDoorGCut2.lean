/- A row without its k-th element, built anew, of a row that may begin inside a block. No condition. -/
import Derived.Test.YthpjffhccjlnhaaGreatDoorGRows4
import Derived.Test.YthpjffhccjlnhaaGreatDoorMG15
set_option linter.unusedSimpArgs false
set_option linter.unusedVariables false
namespace Go.Proofs.YthpjffhccjlnhaaGreatDoor
open Go.RowKit
/-- a row without its k-th element, built anew -/
theorem cut_row2 {T E : TypeId} {Z : Value} {m bytes : Nat} (ht : Tryz.prog.underlying T = some (.slice E)) (hi : (Tryz.prog.info? E).map (fun i => (i.zero, i.size, i.bytes)) = some (some Z, m, bytes)) (hz : Z.cells.size = m) (h0 : 0 < m) (hm : m ≤ 2) (hby : bytes ≤ 24) {W : World} {g o n cap k : Nat} {xs : List Value}
  (hrow : Row W (some ⟨g, o, none⟩) xs) (hl : xs.length = n * m) (hc : n ≤ cap) (h1 : ∀ u ∈ xs, u.oneCell' = true) (hk : k < n) (hn : n ≤ 1000) (ad : Option Addr) (had : ad = if cap = k + 1 then some ⟨g, o, none⟩ else some ⟨g, o + (k + 1) * m, none⟩) :
  ∃ v1 U1 pa pc U2, (Builtin.append_ #[T, T] T #[.slice (some ⟨W.heap.size, 0, none⟩) 0 0, .slice (some ⟨g, o, none⟩) k cap]).run Tryz.prog (W.alloc (.cells #[] E)) = .ok v1 U1 ∧ Below W.heap.size W U1 ∧
   (Builtin.append_ #[T, T] T #[v1, .slice ad (n - (k + 1)) (cap - (k + 1))]).run Tryz.prog U1 = .ok (.slice pa (0 + k + (n - (k + 1))) pc) U2 ∧ Below W.heap.size W U2 ∧
   U2.ownsRow W.heap.size E m (.slice pa (0 + k + (n - (k + 1))) pc) (0 + k + (n - (k + 1))) (xs.take (k * m) ++ xs.drop ((k + 1) * m)) ∧ 0 + k + (n - (k + 1)) ≤ pc := by
 have hkm : k * m ≤ n * m := Nat.mul_le_mul_right m (by omega)
 have hkm1 : (k + 1) * m ≤ n * m := Nat.mul_le_mul_right m (by omega)
 have hA : Row W (some ⟨g, o, none⟩) (xs.take (k * m)) := fun j v hv => hrow j v (by
  rw [List.getElem?_take] at hv
  split at hv
  ·exact hv
  ·cases hv)
 have hB : Row W ad (xs.drop ((k + 1) * m)) := by
  rw [had]
  split
  ·have : xs.drop ((k + 1) * m) = [] := List.drop_eq_nil_of_le (by rw [hl]; exact Nat.mul_le_mul_right m (by omega))
   rw [this]; exact Row.nil _ _
  ·intro j v hv
   rw [List.getElem?_drop] at hv
   obtain ⟨b, o', e, hcl⟩ := hrow _ v hv
   cases e
   exact ⟨g, o + (k + 1) * m, rfl, by rw [Nat.add_assoc]; exact hcl⟩
 have hbe : Below W.heap.size W (W.alloc (.cells #[] E)) := (Below.refl _ W).alloc (Nat.le_refl _) _
 have hoe := ownsRow_empty W W.heap.size E m (Nat.le_refl _)
 obtain ⟨v1, U1, hr1, ho1, hg1, -⟩ := run_append_row (P := Tryz.prog) (W.alloc (.cells #[] E)) W.heap.size T T E Z m bytes ht hi hz h0
  _ 0 [] hoe (some ⟨g, o, none⟩) k cap (xs.take (k * m)) (by rw [List.length_take, hl]; omega) (hA.below hbe) (fun u hu => h1 u (List.mem_of_mem_take hu)) (by omega) (by omega) hbe.size
 have hb1 : Below W.heap.size W U1 := hbe.grown hg1 hbe.size (fun j hj => (hoe.lt j hj).1)
 obtain ⟨v2, U2, hr2, ho2, hg2, -⟩ := run_append_row (P := Tryz.prog) U1 W.heap.size T T E Z m bytes ht hi hz h0
  _ _ _ ho1 ad (n - (k + 1)) (cap - (k + 1)) (xs.drop ((k + 1) * m)) (by rw [List.length_drop, hl, Nat.sub_mul]) (hB.below hb1) (fun u hu => h1 u (List.mem_of_mem_drop hu)) (by omega) (by omega) hb1.size
 have hb2 : Below W.heap.size W U2 := hb1.grown hg2 hb1.size (fun j hj => (ho1.lt j hj).1)
 rw [List.nil_append] at ho2
 obtain ⟨pa, pc, rfl, -, hpc⟩ := ownsRow_own ho2
 exact ⟨v1, U1, pa, pc, U2, hr1, hb1, hr2, hb2, ho2, hpc⟩
end Go.Proofs.YthpjffhccjlnhaaGreatDoor
