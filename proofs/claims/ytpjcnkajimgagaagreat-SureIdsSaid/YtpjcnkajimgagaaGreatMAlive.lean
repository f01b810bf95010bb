/- The calls of the examples, each with what it returns. -/
/- The reference's SamePairs. -/
/- The examples: alive returns true. -/
import Derived.Test.YtpjcnkajimgagaaGreatJars
import Derived.Test.YtpjcnkajimgagaaGreatMWalk
import Derived.Test.YtpjcnkajimgagaaGreatMLin
import Derived.Test.YtpjcnkajimgagaaGreatMRefute
import Derived.Test.YtpjcnkajimgagaaGreatMFind
import Derived.Test.YtpjcnkajimgagaaGreatMFew
import Derived.Test.YtpjcnkajimgagaaGreatMRefA
import Derived.Test.YtpjcnkajimgagaaGreatMOpen
import Derived.Laws.StructEq
import Derived.ChangeKeysEq
set_option linter.unusedSimpArgs false
set_option linter.unusedVariables false
namespace Go.Proofs.YtpjcnkajimgagaaGreat
open Go.RowKit

theorem jars_small (n : Int) : (jarsC n).Small := by
 refine few_small ?_
 unfold jarsC
 kernel_rfl
theorem j_case2 : checkCase (jarsC 2) = 0 := by kernel_rfl
theorem j_case0 : checkCase (jarsC 0) = 0 := by kernel_rfl
theorem j_first : (allR (jarsC 2)).find? (fun _ => true) = some [0, 1, 1, 0] := by kernel_rfl
theorem j_count : (allR (jarsC 0)).length = 5 := by kernel_rfl
theorem j_open2 (x y : Int) (hx : 0 ≤ x ∧ x < 4) (hy : 0 ≤ y ∧ y < 4) : openErr (jarsC 2) [x, y] = 0 := by
 have h : inB x 0 (((jarsC 2).parts.length : Int) - 1) = true := by simp [inB, jarsC]; omega
 have h' : inB y 0 (((jarsC 2).parts.length : Int) - 1) = true := by simp [inB, jarsC]; omega
 simp [openErr, j_case2, h, h']
theorem j_with0 : openErr (jarsC 0) [0, 3] = 0 := by kernel_rfl
theorem j_ask2 : askErr (jarsC 2) [0, 3] = 0 := by kernel_rfl
theorem j_ask2' : askErr (jarsC 2) [0, 2] = 0 := by kernel_rfl
theorem j_ask0 : askErr (jarsC 0) [0, 3] = 0 := by kernel_rfl
theorem j_ask0' : askErr (jarsC 0) [0, 2] = 0 := by kernel_rfl
theorem j_ask : askErr (jarsC 0) [] = 0 := by kernel_rfl
theorem j_ans1 : ansAt (jarsC 2) 0 3 = 1 := by kernel_rfl
theorem j_ans2 : ansAt (jarsC 0) 0 3 = 3 := by kernel_rfl
theorem j_ans3 : ansAt (jarsC 0) 0 2 = 2 := by kernel_rfl
theorem j_with : (allR (jarsC 0)).find? (asPair 0 3 false) = some [0, 0, 1, 2] := by kernel_rfl
theorem j_openOf : openOf (jarsC 0) = [(0, 1), (0, 3), (1, 2)] := by kernel_rfl
theorem j_noWith : ((allR (jarsC 2)).find? (asPair 0 1 true)).isSome = false := by kernel_rfl
theorem j_refute : ((refuteR (jarsC 2) 0 1 true).map fun l => decide (0 < l.length)) = some true := by kernel_rfl
theorem j_check : (refutedB (jarsC 2) (jarsC 2).parts.length (beginD 0 3 false) [⟨4, 0, 0, [0, 2, 3]⟩]).isSome = true := by kernel_rfl
theorem j_ids : uniqL (wordIds (jarsC 2)) = [1, 2, 3, 4, 5, 6, 7, 8, 11, 12, 20] := by
 have h : notN (wordIds (jarsC 2)) = [1, 2, 11, 3, 4, 5, 6, 12, 7, 8, 20] := by kernel_rfl
 have hs : ([1, 2, 11, 3, 4, 5, 6, 12, 7, 8, 20] : List Int).mergeSort (fun x y => decide (x ≤ y)) = [1, 2, 3, 4, 5, 6, 7, 8, 11, 12, 20] := by
  simp [List.mergeSort, List.MergeSort.Internal.splitInTwo]
 unfold uniqL
 rw [h, hs]
 rfl
theorem j_lin : (linTo (jarsC 2) 0 2 [20, 12, 11, 8, 7, 6, 5, 4, 3, 2, 1]).2.reverse = [2, 5] := by kernel_rfl
theorem j_lineage : lineageR (jarsC 2) 0 2 = [2, 5] := by
 have h : (ansAt (jarsC 2) 0 2 == 3) = false := by kernel_rfl
 unfold lineageR lineageL
 rw [h, j_ids]
 exact j_lin

/-- the case of the examples as an argument -/
def csArg (c : Cs) (pa : Option Addr) (pc : Nat) : Value := .agg #[.string c.ware, .int .i64 c.limit, .int .i64 c.by_, .slice pa c.parts.length pc]
section
variable {w : World} {pa : Option Addr} {pc : Nat}
theorem own_ints {B : Nat} {l : List Nat} {v : Value} (h : OwnInts B (natInts l) w v) : ∃ a cap, v = .slice a l.length cap ∧ Ints w a (natInts l) := by
 obtain ⟨a, cap, rfl, hr⟩ := h
 exact ⟨a, cap, by simp [natInts], hr.row⟩
theorem a_first (hp : PartsAt w pa (jarsC 2).parts) : Calls Tryz.prog 27 #[csArg (jarsC 2) pa pc] w fun e w' => ∃ a cap, e = .returned (.tuple #[.slice a 4 cap, .bool true, .int .i64 0]) ∧ Ints w' a [0, 1, 1, 0] ∧ Below w.heap.size w w' :=
 (first_any (jarsC 2) (jars_small 2) pa pc w hp).mono (by
  rintro e w' ⟨hb, h⟩
  rw [j_case2, j_first] at h
  rcases h with ⟨h, _⟩ | ⟨_, h, _⟩ | ⟨_, x, v, hx, rfl, hv⟩
  ·exact absurd rfl h
  ·cases h
  ·cases hx
   obtain ⟨a, cap, rfl, hi⟩ := own_ints hv
   exact ⟨a, cap, rfl, hi, hb⟩)
theorem a_count (hp : PartsAt w pa (jarsC 0).parts) : Calls Tryz.prog 33 #[csArg (jarsC 0) pa pc] w fun e w' => e = .returned (.tuple #[.int .i64 5, .int .i64 0]) ∧ Below w.heap.size w w' :=
 (count_any (jarsC 0) (jars_small 0) pa pc w hp).mono (by
  rintro e w' ⟨hb, rfl⟩
  rw [j_case0, j_count]
  exact ⟨rfl, hb⟩)
theorem a_ans1 (hp : PartsAt w pa (jarsC 2).parts) : Calls Tryz.prog 29 #[csArg (jarsC 2) pa pc, .int .i64 0, .int .i64 3] w fun e w' => e = .returned (.tuple #[.int .u8 1, .int .i64 0]) ∧ Below w.heap.size w w' :=
 (answerTop_any (jarsC 2) (jars_small 2) pa pc 0 3 w hp).mono (by
  rintro e w' ⟨hb, rfl⟩
  rw [j_ask2]
  exact ⟨by rw [if_pos rfl, show ansAt (jarsC 2) (0 : Int).toNat (3 : Int).toNat = 1 from j_ans1], hb⟩)
theorem a_ans2 (hp : PartsAt w pa (jarsC 0).parts) : Calls Tryz.prog 29 #[csArg (jarsC 0) pa pc, .int .i64 0, .int .i64 3] w fun e w' => e = .returned (.tuple #[.int .u8 3, .int .i64 0]) ∧ Below w.heap.size w w' :=
 (answerTop_any (jarsC 0) (jars_small 0) pa pc 0 3 w hp).mono (by
  rintro e w' ⟨hb, rfl⟩
  rw [j_ask0]
  exact ⟨by rw [if_pos rfl, show ansAt (jarsC 0) (0 : Int).toNat (3 : Int).toNat = 3 from j_ans2], hb⟩)
theorem a_ans3 (hp : PartsAt w pa (jarsC 0).parts) : Calls Tryz.prog 29 #[csArg (jarsC 0) pa pc, .int .i64 0, .int .i64 2] w fun e w' => e = .returned (.tuple #[.int .u8 2, .int .i64 0]) ∧ Below w.heap.size w w' :=
 (answerTop_any (jarsC 0) (jars_small 0) pa pc 0 2 w hp).mono (by
  rintro e w' ⟨hb, rfl⟩
  rw [j_ask0']
  exact ⟨by rw [if_pos rfl, show ansAt (jarsC 0) (0 : Int).toNat (2 : Int).toNat = 2 from j_ans3], hb⟩)
theorem a_with (hp : PartsAt w pa (jarsC 0).parts) : Calls Tryz.prog 34 #[csArg (jarsC 0) pa pc, .int .i64 0, .int .i64 3, .bool false] w fun e w' => ∃ a cap, e = .returned (.tuple #[.slice a 4 cap, .bool true, .int .i64 0]) ∧ Ints w' a [0, 0, 1, 2] ∧ Below w.heap.size w w' :=
 (with_any (jarsC 0) (jars_small 0) pa pc 0 3 false w hp).mono (by
  rintro e w' ⟨hb, h⟩
  rw [j_with0, show (allR (jarsC 0)).find? (asPair (0 : Int).toNat (3 : Int).toNat false) = some [0, 0, 1, 2] from j_with] at h
  rcases h with ⟨h, _⟩ | ⟨_, h, _⟩ | ⟨_, x, v, hx, rfl, hv⟩
  ·exact absurd rfl h
  ·cases h
  ·cases hx
   obtain ⟨a, cap, rfl, hi⟩ := own_ints hv
   exact ⟨a, cap, rfl, hi, hb⟩)
theorem a_open (hp : PartsAt w pa (jarsC 0).parts) : Calls Tryz.prog 35 #[csArg (jarsC 0) pa pc] w fun e w' => ∃ a cap, e = .returned (.tuple #[.slice a 3 cap, .int .i64 0]) ∧ Row w' a (pairCells [(0, 1), (0, 3), (1, 2)]) ∧ Below w.heap.size w w' :=
 (open_any (jarsC 0) (jars_small 0) pa pc w hp).mono (by
  rintro e w' ⟨hb, h⟩
  rw [j_ask, j_openOf] at h
  rcases h with ⟨h, _⟩ | ⟨_, v, rfl, a, cap, rfl, hr⟩
  ·exact absurd rfl h
  ·exact ⟨a, cap, rfl, hr.row, hb⟩)
theorem a_refute (hp : PartsAt w pa (jarsC 2).parts) : Calls Tryz.prog 30 #[csArg (jarsC 2) pa pc, .int .i64 0, .int .i64 1, .bool true] w fun e w' => ∃ a n cap, e = .returned (.tuple #[.slice a n cap, .bool true, .int .i64 0]) ∧ 0 < n ∧ Below w.heap.size w w' :=
 (refuteF_any (jarsC 2) (jars_small 2) pa pc 0 1 true w hp).mono (by
  rintro e w' ⟨hb, h⟩
  rw [j_open2 0 1 (by omega) (by omega), show ((allR (jarsC 2)).find? (asPair (0 : Int).toNat (1 : Int).toNat true)).isSome = false from j_noWith, show refuteR (jarsC 2) (0 : Int).toNat (1 : Int).toNat true = refuteR (jarsC 2) 0 1 true from rfl] at h
  have hj := j_refute
  rcases h with ⟨h, _⟩ | ⟨_, h, _⟩ | ⟨_, _, ho, rfl⟩ | ⟨_, _, x, a, cap, hx, rfl, _⟩
  ·exact absurd rfl h
  ·cases h
  ·rw [ho] at hj; cases hj
  ·rw [hx] at hj
   exact ⟨a, _, cap, rfl, by simpa using hj, hb⟩)
theorem a_check {a : Option Addr} {cap : Nat} (hp : PartsAt w pa (jarsC 2).parts) (hbr : BrsAt w a [⟨4, 0, 0, [0, 2, 3]⟩]) (hc : 1 ≤ cap) : Calls Tryz.prog 31 #[csArg (jarsC 2) pa pc, .int .i64 0, .int .i64 3, .bool false, .slice a 1 cap] w fun e w' => e = .returned (.tuple #[.bool true, .int .i64 0]) ∧ Below w.heap.size w w' :=
 (checkRefute_any (jarsC 2) (jars_small 2) pa pc 0 3 false [⟨4, 0, 0, [0, 2, 3]⟩] (by simp) (by intro z hz; rw [List.mem_singleton.1 hz]; exact ⟨by decide, by decide⟩) a cap w hp hbr hc).mono (by
  rintro e w' ⟨hb, rfl⟩
  rw [j_open2 0 3 (by omega) (by omega), show (refutedB (jarsC 2) (jarsC 2).parts.length (beginD (0 : Int).toNat (3 : Int).toNat false) [⟨4, 0, 0, [0, 2, 3]⟩]).isSome = true from j_check]
  exact ⟨rfl, hb⟩)
theorem a_lineage (hp : PartsAt w pa (jarsC 2).parts) : Calls Tryz.prog 10 #[csArg (jarsC 2) pa pc, .int .i64 0, .int .i64 2] w fun e w' => ∃ a cap, e = .returned (.tuple #[.slice a 2 cap, .int .i64 0]) ∧ Ints w' a [2, 5] ∧ Below w.heap.size w w' :=
 (lineage_any (jarsC 2) (jars_small 2) pa pc 0 2 w hp).mono (by
  rintro e w' ⟨hb, h⟩
  rw [j_ask2', show lineageR (jarsC 2) (0 : Int).toNat (2 : Int).toNat = [2, 5] from j_lineage] at h
  rcases h with ⟨h, _⟩ | ⟨_, a, cap, rfl, hr, _⟩
  ·exact absurd rfl h
  ·exact ⟨a, cap, rfl, hr.row, hb⟩)
end
end Go.Proofs.YtpjcnkajimgagaaGreat
namespace Go.Proofs.YtpjcnkajimgagaaGreat
open Go.RowKit
attribute [local go_sem] Oper.semAt_some

theorem neq_pair (a b c d : Int) (w : World) : (binOp .neq 71 (.agg #[.int .i64 a, .int .i64 b]) (.agg #[.int .i64 c, .int .i64 d])).run Tryz.prog w = .ok (.bool (!(a == c && b == d))) w := by
 have hf : (Tryz.prog.fieldsOf 71).toList = [{ name := "A", type := 3, offset := 0, embedded := false, tag := "", pkgPath := "", byteOffset := 0 }, { name := "B", type := 3, offset := 1, embedded := false, tag := "", pkgPath := "", byteOffset := 8 }] := by
  simp [Program.fieldsOf, Tryz.underlying71]
 have p1 : ∀ (x y : Int) (W : World), (part 3 #[.int .i64 x, .int .i64 y] 0).run Tryz.prog W = .ok (.int .i64 x) W := fun x y W => run_part_plain W (by kernel_rfl) rfl
 have p2 : ∀ (x y : Int) (W : World), (part 3 #[.int .i64 x, .int .i64 y] 1).run Tryz.prog W = .ok (.int .i64 y) W := fun x y W => run_part_plain W (by kernel_rfl) rfl
 have q : ∀ (x y : Int) (W : World), (Op.equalIn 9999 3 (.int .i64 x) (.int .i64 y)).run Tryz.prog W = .ok (x == y) W := fun x y W => run_equalIn_int W 9998 3 .i64 .i64 x y Tryz.underlying3
 rw [run_neq_struct, show (10000 : Nat) = 9999 + 1 from rfl, run_equalIn_struct w 9999 71 _ _ (by kernel_rfl) (by kernel_rfl), hf]
 simp only [Op.eqFields, Sem.run_bind, Sem.run_ite, p1, p2, q, Result.andThen_ok]
 rcases h1 : (a == c) with _ | _ <;> rcases h2 : (b == d) with _ | _ <;> simp [Sem.run_pure, Result.andThen_ok]
theorem pairs_at {w : World} {a : Option Addr} {l : List (Nat × Nat)} (h : Row w a (pairCells l)) {k : Nat} {p : Nat × Nat} (hp : l[k]? = some p) :
  ∃ b o, a = some ⟨b, o, none⟩ ∧ w.cell? ⟨b, o + k * 2, none⟩ = some (.int .i64 p.1) ∧ w.cell? ⟨b, o + k * 2 + 1, none⟩ = some (.int .i64 p.2) := by
 have e : ∀ (l : List (Nat × Nat)) (k : Nat) (p : Nat × Nat), l[k]? = some p → (pairCells l)[k * 2]? = some (.int .i64 p.1) ∧ (pairCells l)[k * 2 + 1]? = some (.int .i64 p.2) := by
  intro l
  induction l with
  | nil => intro k p h; simp at h
  | cons q l ih =>
   intro k p h
   rcases k with _ | k
   ·simp at h; subst h; simp [pairCells]
   ·have := ih k p (by simpa using h)
    rw [show (k + 1) * 2 = k * 2 + 1 + 1 by omega]
    simpa [pairCells] using this
 obtain ⟨h1, h2⟩ := e l k p hp
 obtain ⟨b, o, rfl, c1⟩ := h _ _ h1
 obtain ⟨b', o', ha, c2⟩ := h _ _ h2
 cases ha
 exact ⟨b, o, rfl, c1, by rw [Nat.add_assoc]; exact c2⟩
theorem pair_take {l m : List (Nat × Nat)} {k : Nat} {x y : Nat × Nat} (hx : l[k]? = some x) (hy : m[k]? = some y) (h : l.take k = m.take k) : (l.take (k + 1) = m.take (k + 1)) ↔ x = y := by
 rw [take_snoc hx, take_snoc hy, h]; simp
set_option maxHeartbeats 1000000 in
theorem samePairs_ref (a b : Option Addr) (ca cb : Nat) (l m : List (Nat × Nat)) (w : World) (ha : Row w a (pairCells l)) (hb : Row w b (pairCells m)) (hl : l.length ≤ 1000000) (hm : m.length ≤ 1000000) :
  Calls Tryz.prog 15 #[.slice a l.length ca, .slice b m.length cb] w fun e w' => e = .returned (.bool (decide (l = m))) ∧ Below w.heap.size w w' := by
 by_cases hlen : l.length = m.length
 ·have hlb : ((l.length : Int) != (m.length : Int)) = false := by simp [hlen]
  have HL := Lib.hid hlen
  clear hlen
  go_enter Tryz.func15, Tryz.ntmps15
  go_wp2
  go_wp2
  go_loopw [5] (fun i wr => ∃ k : Nat, k ≤ l.length ∧ i = .int .i64 k ∧ l.take k = m.take k ∧ Below w.heap.size w wr) (fun i _ => l.length - (intOf i).toNat)
  case atStart => exact ⟨0, Nat.zero_le _, rfl, by simp, Below.refl _ _⟩
  case round =>
   obtain ⟨k, hk, rfl, hall, hB⟩ := hrel
   have HA := Lib.hid hall
   have HB := Lib.hid hB
   clear hall
   by_cases hlt : k < l.length
   ·have hltm : k < m.length := by have := HL.out; omega
    obtain ⟨x, hx⟩ := get_of_lt l hlt
    obtain ⟨y, hy⟩ := get_of_lt m hltm
    obtain ⟨b1, o1, rfl, c1, c2⟩ := pairs_at (ha.below hB) hx
    obtain ⟨b2, o2, rfl, c3, c4⟩ := pairs_at (hb.below hB) hy
    have HX := Lib.hid hx
    have HY := Lib.hid hy
    have hki : (k : Int) < m.length := by omega
    have hki' : (k : Int) < l.length := by omega
    have hnq := fun W => neq_pair (x.1 : Int) (x.2 : Int) (y.1 : Int) (y.2 : Int) W
    clear hx hy hB
    by_cases hxy : x = y
    ·rw [show (!(((x.1 : Nat) : Int) == ((y.1 : Nat) : Int) && ((x.2 : Nat) : Int) == ((y.2 : Nat) : Int))) = false by simp [hxy]] at hnq
     have HXY := Lib.hid hxy
     clear hxy
     go_wp2_with fail
     go_quiet (fail)
     go_wp2_with fail
     go_roundw
     case rel => exact ⟨k + 1, by omega, by go_num, (pair_take HX.out HY.out HA.out).2 HXY.out, below_drewN HB.out _⟩
     case measure => simp [intOf]; omega
    ·rw [show (!(((x.1 : Nat) : Int) == ((y.1 : Nat) : Int) && ((x.2 : Nat) : Int) == ((y.2 : Nat) : Int))) = true by rw [Bool.not_eq_true', Bool.eq_false_iff]; intro h; simp at h; exact hxy (Prod.ext (by omega) (by omega))] at hnq
     have HXY := Lib.hid hxy
     clear hxy
     go_wp2_with fail
     go_quiet (fail)
     go_wp2_with fail
     go_ret
     refine ⟨ret_bool ?_, below_drewN HB.out _⟩
     symm
     simp only [decide_eq_false_iff_not]
     intro e
     subst e
     have := HX.out.symm.trans HY.out
     exact HXY.out (Option.some.inj this)
   ·clear hB
    go_wp2_with fail
    go_ret
    refine ⟨ret_bool ?_, HB.out⟩
    have h1 := HA.out
    have h2 := HL.out
    rw [List.take_of_length_le (by omega), List.take_of_length_le (by omega)] at h1
    simp [h1]
 ·have hlb : ((l.length : Int) != (m.length : Int)) = true := by simp; omega
  have HL := Lib.hid hlen
  clear hlen
  go_enter Tryz.func15, Tryz.ntmps15
  go_wp2
  go_ret
  exact ⟨ret_bool (by symm; simp only [decide_eq_false_iff_not]; exact fun e => HL.out (by rw [e])), Below.refl _ _⟩
end Go.Proofs.YtpjcnkajimgagaaGreat
namespace Go.Proofs.YtpjcnkajimgagaaGreat
open Go.RowKit
attribute [local go_sem] Oper.semAt_some

theorem ints_lit {w : World} {g : Nat} {l : List Int} {t : TypeId} (h : Box w g (l.map (Value.int .i64)).toArray t) : Ints w (some ⟨g, 0, none⟩) l := fun k v hv => by
 refine ⟨g, 0, rfl, ?_⟩
 rw [h.cell, Nat.zero_add]
 simpa using hv
theorem brs_many {w : World} {g1 g2 : Nat} {t1 t2 : TypeId} (h1 : Box w g1 #[.int .i64 0, .int .i64 2, .int .i64 3] t1) (h2 : Box w g2 #[.int .u8 4, .int .i64 0, .int .i64 0, .slice (some ⟨g1, 0, none⟩) 3 3] t2) : BrsAt w (some ⟨g2, 0, none⟩) [⟨4, 0, 0, [0, 2, 3]⟩] := by
 intro k x hx
 match k, hx with
 | 0, hx =>
  cases hx
  exact ⟨g2, 0, rfl, some ⟨g1, 0, none⟩, 3, by rw [h2.cell]; rfl, by rw [h2.cell]; rfl, by rw [h2.cell]; rfl, by rw [h2.cell]; rfl, ints_lit (l := [0, 2, 3]) h1, Nat.le_refl _⟩
 | k + 1, hx => simp at hx
/-- lists that are alike -/
theorem same_lit (l : List Int) (hl : l.length ≤ 1000000) (a b : Option Addr) (ca cb : Nat) (w : World) (ha : Ints w a l) (hb : Ints w b l) : Calls Tryz.prog 14 #[.slice a l.length ca, .slice b l.length cb] w fun e w' => e = .returned (.bool true) ∧ Below w.heap.size w w' :=
 (same_ref a b ca cb l l w ha hb hl hl).mono (by rintro e w' ⟨rfl, h⟩; exact ⟨by simp, h⟩)
theorem row_lit {w : World} {g : Nat} {cs : Array Value} {t : TypeId} (h : Box w g cs t) : Row w (some ⟨g, 0, none⟩) cs.toList := fun k v hv => by
 refine ⟨g, 0, rfl, ?_⟩
 rw [h.cell, Nat.zero_add]
 simpa using hv
theorem pairs_lit (l : List (Nat × Nat)) (hl : l.length ≤ 1000000) (a b : Option Addr) (ca cb : Nat) (w : World) (ha : Row w a (pairCells l)) (hb : Row w b (pairCells l)) : Calls Tryz.prog 15 #[.slice a l.length ca, .slice b l.length cb] w fun e w' => e = .returned (.bool true) ∧ Below w.heap.size w w' :=
 (samePairs_ref a b ca cb l l w ha hb hl hl).mono (by rintro e w' ⟨rfl, h⟩; exact ⟨by simp, h⟩)
set_option maxRecDepth 100000 in
set_option maxHeartbeats 4000000 in
theorem alive_walk (l u : Cs)
  (HJ2 : Hid (∀ w : World, Calls Tryz.prog 32 #[.int .i64 2] w fun e w' => ∃ pa pc, e = .returned (.agg #[.string l.ware, .int .i64 l.limit, .int .i64 l.by_, .slice pa l.parts.length pc]) ∧ PartsAt w' pa l.parts ∧ Below w.heap.size w w'))
  (HJ0 : Hid (∀ w : World, Calls Tryz.prog 32 #[.int .i64 0] w fun e w' => ∃ pa pc, e = .returned (.agg #[.string u.ware, .int .i64 u.limit, .int .i64 u.by_, .slice pa u.parts.length pc]) ∧ PartsAt w' pa u.parts ∧ Below w.heap.size w w'))
  (HFI : Hid (∀ (w : World) (pa : Option Addr) (pc : Nat), PartsAt w pa l.parts → Calls Tryz.prog 27 #[.agg #[.string l.ware, .int .i64 l.limit, .int .i64 l.by_, .slice pa l.parts.length pc]] w fun e w' => ∃ a cap, e = .returned (.tuple #[.slice a 4 cap, .bool true, .int .i64 0]) ∧ Ints w' a [0, 1, 1, 0] ∧ Below w.heap.size w w'))
  (HCO : Hid (∀ (w : World) (pa : Option Addr) (pc : Nat), PartsAt w pa u.parts → Calls Tryz.prog 33 #[.agg #[.string u.ware, .int .i64 u.limit, .int .i64 u.by_, .slice pa u.parts.length pc]] w fun e w' => e = .returned (.tuple #[.int .i64 5, .int .i64 0]) ∧ Below w.heap.size w w'))
  (HA1 : Hid (∀ (w : World) (pa : Option Addr) (pc : Nat), PartsAt w pa l.parts → Calls Tryz.prog 29 #[.agg #[.string l.ware, .int .i64 l.limit, .int .i64 l.by_, .slice pa l.parts.length pc], .int .i64 0, .int .i64 3] w fun e w' => e = .returned (.tuple #[.int .u8 1, .int .i64 0]) ∧ Below w.heap.size w w'))
  (HA2 : Hid (∀ (w : World) (pa : Option Addr) (pc : Nat), PartsAt w pa u.parts → Calls Tryz.prog 29 #[.agg #[.string u.ware, .int .i64 u.limit, .int .i64 u.by_, .slice pa u.parts.length pc], .int .i64 0, .int .i64 3] w fun e w' => e = .returned (.tuple #[.int .u8 3, .int .i64 0]) ∧ Below w.heap.size w w'))
  (HA3 : Hid (∀ (w : World) (pa : Option Addr) (pc : Nat), PartsAt w pa u.parts → Calls Tryz.prog 29 #[.agg #[.string u.ware, .int .i64 u.limit, .int .i64 u.by_, .slice pa u.parts.length pc], .int .i64 0, .int .i64 2] w fun e w' => e = .returned (.tuple #[.int .u8 2, .int .i64 0]) ∧ Below w.heap.size w w'))
  (HWI : Hid (∀ (w : World) (pa : Option Addr) (pc : Nat), PartsAt w pa u.parts → Calls Tryz.prog 34 #[.agg #[.string u.ware, .int .i64 u.limit, .int .i64 u.by_, .slice pa u.parts.length pc], .int .i64 0, .int .i64 3, .bool false] w fun e w' => ∃ a cap, e = .returned (.tuple #[.slice a 4 cap, .bool true, .int .i64 0]) ∧ Ints w' a [0, 0, 1, 2] ∧ Below w.heap.size w w'))
  (HOP : Hid (∀ (w : World) (pa : Option Addr) (pc : Nat), PartsAt w pa u.parts → Calls Tryz.prog 35 #[.agg #[.string u.ware, .int .i64 u.limit, .int .i64 u.by_, .slice pa u.parts.length pc]] w fun e w' => ∃ a cap, e = .returned (.tuple #[.slice a 3 cap, .int .i64 0]) ∧ Row w' a (pairCells [(0, 1), (0, 3), (1, 2)]) ∧ Below w.heap.size w w'))
  (HRE : Hid (∀ (w : World) (pa : Option Addr) (pc : Nat), PartsAt w pa l.parts → Calls Tryz.prog 30 #[.agg #[.string l.ware, .int .i64 l.limit, .int .i64 l.by_, .slice pa l.parts.length pc], .int .i64 0, .int .i64 1, .bool true] w fun e w' => ∃ a n cap, e = .returned (.tuple #[.slice a n cap, .bool true, .int .i64 0]) ∧ 0 < n ∧ Below w.heap.size w w'))
  (HCH : Hid (∀ (w : World) (pa : Option Addr) (pc : Nat), PartsAt w pa l.parts → ∀ (a : Option Addr) (cap : Nat), BrsAt w a [⟨4, 0, 0, [0, 2, 3]⟩] → 1 ≤ cap → Calls Tryz.prog 31 #[.agg #[.string l.ware, .int .i64 l.limit, .int .i64 l.by_, .slice pa l.parts.length pc], .int .i64 0, .int .i64 3, .bool false, .slice a 1 cap] w fun e w' => e = .returned (.tuple #[.bool true, .int .i64 0]) ∧ Below w.heap.size w w'))
  (HLI : Hid (∀ (w : World) (pa : Option Addr) (pc : Nat), PartsAt w pa l.parts → Calls Tryz.prog 10 #[.agg #[.string l.ware, .int .i64 l.limit, .int .i64 l.by_, .slice pa l.parts.length pc], .int .i64 0, .int .i64 2] w fun e w' => ∃ a cap, e = .returned (.tuple #[.slice a 2 cap, .int .i64 0]) ∧ Ints w' a [2, 5] ∧ Below w.heap.size w w')) (w : World) :
  Calls Tryz.prog 9 #[] w fun e w' => e = .returned (.bool true) ∧ Below w.heap.size w w' := by
 go_enter Tryz.func9, Tryz.ntmps9
 go_wp2_with fail
 (with_reducible refine (HJ2.out _).mono ?_)
 rintro e w1 ⟨pa, pc, rfl, hp1, hb1⟩
 have P1 := Lib.hid hp1
 have B1 := Lib.hid hb1
 clear hp1 hb1
 go_wp2_with fail
 (with_reducible refine (HJ0.out _).mono ?_)
 rintro e w2 ⟨qa, qc, rfl, hp2, hb2⟩
 have P2 := Lib.hid hp2
 have B2 := Lib.hid (B1.out.trans (hb2.mono B1.out.size))
 have P1 := Lib.hid (P1.out.below hb2)
 clear hp2 hb2
 have x1 : Box ((w2.alloc (.cells #[.string l.ware, .int .i64 l.limit, .int .i64 l.by_, .slice pa l.parts.length pc] 24)).alloc (.cells #[.string u.ware, .int .i64 u.limit, .int .i64 u.by_, .slice qa u.parts.length qc] 24)) w2.heap.size (csCells l pa pc) 24 := (Box.new _ _ _).alloc _
 have x2 : Box ((w2.alloc (.cells #[.string l.ware, .int .i64 l.limit, .int .i64 l.by_, .slice pa l.parts.length pc] 24)).alloc (.cells #[.string u.ware, .int .i64 u.limit, .int .i64 u.by_, .slice qa u.parts.length qc] 24)) (w2.heap.size + 1) (csCells u qa qc) 24 := Box.new' (by simp)
 have hb3 : Below w2.heap.size w2 ((w2.alloc (.cells #[.string l.ware, .int .i64 l.limit, .int .i64 l.by_, .slice pa l.parts.length pc] 24)).alloc (.cells #[.string u.ware, .int .i64 u.limit, .int .i64 u.by_, .slice qa u.parts.length qc] 24)) := by go_grown
 go_upto_region 2 with fail
 generalize ((w2.alloc (.cells #[.string l.ware, .int .i64 l.limit, .int .i64 l.by_, .slice pa l.parts.length pc] 24)).alloc (.cells #[.string u.ware, .int .i64 u.limit, .int .i64 u.by_, .slice qa u.parts.length qc] 24)) = w3 at *
 have X1 := Lib.hid x1
 have X2 := Lib.hid x2
 have P1 := Lib.hid (P1.out.below hb3)
 have P2 := Lib.hid (P2.out.below hb3)
 have B := Lib.hid (B2.out.trans (hb3.mono B2.out.size))
 clear x1 x2 hb3 B1 B2
 have e1 : ∀ i, w3.cell? ⟨w2.heap.size, i, none⟩ = (#[.string l.ware, .int .i64 l.limit, .int .i64 l.by_, .slice pa l.parts.length pc] : Array Value)[i]? := X1.out.cell
 have e2 : ∀ i, w3.cell? ⟨w2.heap.size + 1, i, none⟩ = (#[.string u.ware, .int .i64 u.limit, .int .i64 u.by_, .slice qa u.parts.length qc] : Array Value)[i]? := X2.out.cell
 go_wp2_with fail
 (with_reducible refine (HFI.out _ _ _ P1.out).mono ?_)
 rintro e w4 ⟨a1, c1, rfl, hr1, hb⟩
 have R1 := Lib.hid hr1
 clear hr1
 have X1 := Lib.hid (X1.out.below' hb)
 have X2 := Lib.hid (X2.out.below' hb)
 have P1 := Lib.hid (P1.out.below hb)
 have P2 := Lib.hid (P2.out.below hb)
 have B := Lib.hid (B.out.trans (hb.mono B.out.size))
 clear e1 e2 hb
 have e1 : ∀ i, w4.cell? ⟨w2.heap.size, i, none⟩ = (#[.string l.ware, .int .i64 l.limit, .int .i64 l.by_, .slice pa l.parts.length pc] : Array Value)[i]? := X1.out.cell
 have e2 : ∀ i, w4.cell? ⟨w2.heap.size + 1, i, none⟩ = (#[.string u.ware, .int .i64 u.limit, .int .i64 u.by_, .slice qa u.parts.length qc] : Array Value)[i]? := X2.out.cell
 go_wp2_with fail
 (with_reducible refine (HCO.out _ _ _ P2.out).mono ?_)
 rintro e w5 ⟨rfl, hb⟩
 have X1 := Lib.hid (X1.out.below' hb)
 have X2 := Lib.hid (X2.out.below' hb)
 have P1 := Lib.hid (P1.out.below hb)
 have P2 := Lib.hid (P2.out.below hb)
 have B := Lib.hid (B.out.trans (hb.mono B.out.size))
 have R1 := Lib.hid (R1.out.below hb)
 clear e1 e2 hb
 have e1 : ∀ i, w5.cell? ⟨w2.heap.size, i, none⟩ = (#[.string l.ware, .int .i64 l.limit, .int .i64 l.by_, .slice pa l.parts.length pc] : Array Value)[i]? := X1.out.cell
 have e2 : ∀ i, w5.cell? ⟨w2.heap.size + 1, i, none⟩ = (#[.string u.ware, .int .i64 u.limit, .int .i64 u.by_, .slice qa u.parts.length qc] : Array Value)[i]? := X2.out.cell
 go_wp2_with fail
 (with_reducible refine (HA1.out _ _ _ P1.out).mono ?_)
 rintro e w6 ⟨rfl, hb⟩
 have X1 := Lib.hid (X1.out.below' hb)
 have X2 := Lib.hid (X2.out.below' hb)
 have P1 := Lib.hid (P1.out.below hb)
 have P2 := Lib.hid (P2.out.below hb)
 have B := Lib.hid (B.out.trans (hb.mono B.out.size))
 have R1 := Lib.hid (R1.out.below hb)
 clear e1 e2 hb
 have e1 : ∀ i, w6.cell? ⟨w2.heap.size, i, none⟩ = (#[.string l.ware, .int .i64 l.limit, .int .i64 l.by_, .slice pa l.parts.length pc] : Array Value)[i]? := X1.out.cell
 have e2 : ∀ i, w6.cell? ⟨w2.heap.size + 1, i, none⟩ = (#[.string u.ware, .int .i64 u.limit, .int .i64 u.by_, .slice qa u.parts.length qc] : Array Value)[i]? := X2.out.cell
 go_wp2_with fail
 (with_reducible refine (HA2.out _ _ _ P2.out).mono ?_)
 rintro e w7 ⟨rfl, hb⟩
 have X1 := Lib.hid (X1.out.below' hb)
 have X2 := Lib.hid (X2.out.below' hb)
 have P1 := Lib.hid (P1.out.below hb)
 have P2 := Lib.hid (P2.out.below hb)
 have B := Lib.hid (B.out.trans (hb.mono B.out.size))
 have R1 := Lib.hid (R1.out.below hb)
 clear e1 e2 hb
 have e1 : ∀ i, w7.cell? ⟨w2.heap.size, i, none⟩ = (#[.string l.ware, .int .i64 l.limit, .int .i64 l.by_, .slice pa l.parts.length pc] : Array Value)[i]? := X1.out.cell
 have e2 : ∀ i, w7.cell? ⟨w2.heap.size + 1, i, none⟩ = (#[.string u.ware, .int .i64 u.limit, .int .i64 u.by_, .slice qa u.parts.length qc] : Array Value)[i]? := X2.out.cell
 go_wp2_with fail
 (with_reducible refine (HA3.out _ _ _ P2.out).mono ?_)
 rintro e w8 ⟨rfl, hb⟩
 have X1 := Lib.hid (X1.out.below' hb)
 have X2 := Lib.hid (X2.out.below' hb)
 have P1 := Lib.hid (P1.out.below hb)
 have P2 := Lib.hid (P2.out.below hb)
 have B := Lib.hid (B.out.trans (hb.mono B.out.size))
 have R1 := Lib.hid (R1.out.below hb)
 clear e1 e2 hb
 have e1 : ∀ i, w8.cell? ⟨w2.heap.size, i, none⟩ = (#[.string l.ware, .int .i64 l.limit, .int .i64 l.by_, .slice pa l.parts.length pc] : Array Value)[i]? := X1.out.cell
 have e2 : ∀ i, w8.cell? ⟨w2.heap.size + 1, i, none⟩ = (#[.string u.ware, .int .i64 u.limit, .int .i64 u.by_, .slice qa u.parts.length qc] : Array Value)[i]? := X2.out.cell
 go_wp2_with fail
 (with_reducible refine (HWI.out _ _ _ P2.out).mono ?_)
 rintro e w9 ⟨a2, c2, rfl, hr2, hb⟩
 have R2 := Lib.hid hr2
 clear hr2
 have X1 := Lib.hid (X1.out.below' hb)
 have X2 := Lib.hid (X2.out.below' hb)
 have P1 := Lib.hid (P1.out.below hb)
 have P2 := Lib.hid (P2.out.below hb)
 have B := Lib.hid (B.out.trans (hb.mono B.out.size))
 have R1 := Lib.hid (R1.out.below hb)
 clear e1 e2 hb
 have e1 : ∀ i, w9.cell? ⟨w2.heap.size, i, none⟩ = (#[.string l.ware, .int .i64 l.limit, .int .i64 l.by_, .slice pa l.parts.length pc] : Array Value)[i]? := X1.out.cell
 have e2 : ∀ i, w9.cell? ⟨w2.heap.size + 1, i, none⟩ = (#[.string u.ware, .int .i64 u.limit, .int .i64 u.by_, .slice qa u.parts.length qc] : Array Value)[i]? := X2.out.cell
 go_wp2_with fail
 (with_reducible refine (HOP.out _ _ _ P2.out).mono ?_)
 rintro e w10 ⟨a3, c3, rfl, hr3, hb⟩
 have R3 := Lib.hid hr3
 clear hr3
 have X1 := Lib.hid (X1.out.below' hb)
 have X2 := Lib.hid (X2.out.below' hb)
 have P1 := Lib.hid (P1.out.below hb)
 have P2 := Lib.hid (P2.out.below hb)
 have B := Lib.hid (B.out.trans (hb.mono B.out.size))
 have R1 := Lib.hid (R1.out.below hb)
 have R2 := Lib.hid (R2.out.below hb)
 clear e1 e2 hb
 have e1 : ∀ i, w10.cell? ⟨w2.heap.size, i, none⟩ = (#[.string l.ware, .int .i64 l.limit, .int .i64 l.by_, .slice pa l.parts.length pc] : Array Value)[i]? := X1.out.cell
 have e2 : ∀ i, w10.cell? ⟨w2.heap.size + 1, i, none⟩ = (#[.string u.ware, .int .i64 u.limit, .int .i64 u.by_, .slice qa u.parts.length qc] : Array Value)[i]? := X2.out.cell
 go_wp2_with fail
 (with_reducible refine (HRE.out _ _ _ P1.out).mono ?_)
 rintro e w11 ⟨a4, n4, c4, rfl, hn4, hb⟩
 have X1 := Lib.hid (X1.out.below' hb)
 have X2 := Lib.hid (X2.out.below' hb)
 have P1 := Lib.hid (P1.out.below hb)
 have P2 := Lib.hid (P2.out.below hb)
 have B := Lib.hid (B.out.trans (hb.mono B.out.size))
 have R1 := Lib.hid (R1.out.below hb)
 have R2 := Lib.hid (R2.out.below hb)
 have R3 := Lib.hid (R3.out.below hb)
 clear e1 e2 hb
 have e1 : ∀ i, w11.cell? ⟨w2.heap.size, i, none⟩ = (#[.string l.ware, .int .i64 l.limit, .int .i64 l.by_, .slice pa l.parts.length pc] : Array Value)[i]? := X1.out.cell
 have e2 : ∀ i, w11.cell? ⟨w2.heap.size + 1, i, none⟩ = (#[.string u.ware, .int .i64 u.limit, .int .i64 u.by_, .slice qa u.parts.length qc] : Array Value)[i]? := X2.out.cell
 go_wp2_with fail
 have hbq : Below w11.heap.size w11 ((w11.alloc (.cells #[.int .i64 0, .int .i64 2, .int .i64 3] 3)).alloc (.cells #[.int .u8 4, .int .i64 0, .int .i64 0, .slice (some ⟨w11.heap.size, 0, none⟩) 3 3] 69)) := by go_grown
 (with_reducible refine (HCH.out _ _ _ (P1.out.below hbq) _ _ (brs_many ((Box.new _ _ _).alloc _) (Box.new' (by simp))) (Nat.le_refl _)).mono ?_)
 rintro e w12 ⟨rfl, hb⟩
 have hb := hbq.trans (hb.mono hbq.size)
 have X1 := Lib.hid (X1.out.below' hb)
 have X2 := Lib.hid (X2.out.below' hb)
 have P1 := Lib.hid (P1.out.below hb)
 have P2 := Lib.hid (P2.out.below hb)
 have B := Lib.hid (B.out.trans (hb.mono B.out.size))
 have R1 := Lib.hid (R1.out.below hb)
 have R2 := Lib.hid (R2.out.below hb)
 have R3 := Lib.hid (R3.out.below hb)
 clear e1 e2 hb
 have e1 : ∀ i, w12.cell? ⟨w2.heap.size, i, none⟩ = (#[.string l.ware, .int .i64 l.limit, .int .i64 l.by_, .slice pa l.parts.length pc] : Array Value)[i]? := X1.out.cell
 have e2 : ∀ i, w12.cell? ⟨w2.heap.size + 1, i, none⟩ = (#[.string u.ware, .int .i64 u.limit, .int .i64 u.by_, .slice qa u.parts.length qc] : Array Value)[i]? := X2.out.cell
 go_wp2_with fail
 (with_reducible refine (HLI.out _ _ _ P1.out).mono ?_)
 rintro e w13 ⟨a5, c5, rfl, hr5, hb⟩
 have R5 := Lib.hid hr5
 clear hr5
 have X1 := Lib.hid (X1.out.below' hb)
 have X2 := Lib.hid (X2.out.below' hb)
 have P1 := Lib.hid (P1.out.below hb)
 have P2 := Lib.hid (P2.out.below hb)
 have B := Lib.hid (B.out.trans (hb.mono B.out.size))
 have R1 := Lib.hid (R1.out.below hb)
 have R2 := Lib.hid (R2.out.below hb)
 have R3 := Lib.hid (R3.out.below hb)
 clear e1 e2 hb
 have e1 : ∀ i, w13.cell? ⟨w2.heap.size, i, none⟩ = (#[.string l.ware, .int .i64 l.limit, .int .i64 l.by_, .slice pa l.parts.length pc] : Array Value)[i]? := X1.out.cell
 have e2 : ∀ i, w13.cell? ⟨w2.heap.size + 1, i, none⟩ = (#[.string u.ware, .int .i64 u.limit, .int .i64 u.by_, .slice qa u.parts.length qc] : Array Value)[i]? := X2.out.cell
 clear e1 e2 HFI HCO HA1 HA2 HA3 HWI HOP HRE HCH HLI HJ2 HJ0 X1 X2 P1 P2
 go_wp2_with fail
 have hbq : Below w13.heap.size w13 (w13.alloc (.cells #[.int .i64 0, .int .i64 1, .int .i64 1, .int .i64 0] 3)) := by go_grown
 refine (same_lit [0, 1, 1, 0] (by simp) _ _ _ _ _ (R1.out.below hbq) (ints_lit (l := [0, 1, 1, 0]) (Box.new _ _ _))).mono ?_
 rintro e w14 ⟨rfl, hb⟩
 have hb := hbq.trans (hb.mono hbq.size)
 have R2 := Lib.hid (R2.out.below hb)
 have R3 := Lib.hid (R3.out.below hb)
 have R5 := Lib.hid (R5.out.below hb)
 have B := Lib.hid (B.out.trans (hb.mono B.out.size))
 clear hb hbq
 go_wp2_with fail
 have hbq : Below w14.heap.size w14 (w14.alloc (.cells #[.int .i64 0, .int .i64 0, .int .i64 1, .int .i64 2] 3)) := by go_grown
 refine (same_lit [0, 0, 1, 2] (by simp) _ _ _ _ _ (R2.out.below hbq) (ints_lit (l := [0, 0, 1, 2]) (Box.new _ _ _))).mono ?_
 rintro e w15 ⟨rfl, hb⟩
 have hb := hbq.trans (hb.mono hbq.size)
 have R3 := Lib.hid (R3.out.below hb)
 have R5 := Lib.hid (R5.out.below hb)
 have B := Lib.hid (B.out.trans (hb.mono B.out.size))
 clear hb hbq
 go_wp2_with fail
 have hbq : Below w15.heap.size w15 (w15.alloc (.cells #[.int .i64 0, .int .i64 1, .int .i64 0, .int .i64 3, .int .i64 1, .int .i64 2] 71)) := by go_grown
 refine (pairs_lit [(0, 1), (0, 3), (1, 2)] (by simp) _ _ _ _ _ (R3.out.below hbq) (row_lit (Box.new _ _ _))).mono ?_
 rintro e w16 ⟨rfl, hb⟩
 have hb := hbq.trans (hb.mono hbq.size)
 have R5 := Lib.hid (R5.out.below hb)
 have B := Lib.hid (B.out.trans (hb.mono B.out.size))
 clear hb hbq
 have hn5 : (0 : Int) < (n4 : Int) := by omega
 go_wp2_with fail
 have hbq : Below w16.heap.size w16 (w16.alloc (.cells #[.int .i64 2, .int .i64 5] 3)) := by go_grown
 refine (same_lit [2, 5] (by simp) _ _ _ _ _ (R5.out.below hbq) (ints_lit (l := [2, 5]) (Box.new _ _ _))).mono ?_
 rintro e w17 ⟨rfl, hb⟩
 have hb := hbq.trans (hb.mono hbq.size)
 have B := Lib.hid (B.out.trans (hb.mono B.out.size))
 clear hb hbq
 go_wp2_with fail
 go_ret
 exact ⟨rfl, B.out⟩
theorem alive_any (w : World) : Calls Tryz.prog 9 #[] w fun e w' => e = .returned (.bool true) ∧ Below w.heap.size w w' :=
 alive_walk (jarsC 2) (jarsC 0)
  (Lib.hid fun w => (jars_any 2 (.inr rfl) w).mono (by rintro e w' ⟨pa, pc, h1, h2, _, h3⟩; exact ⟨pa, pc, h1, h2, h3⟩))
  (Lib.hid fun w => (jars_any 0 (.inl rfl) w).mono (by rintro e w' ⟨pa, pc, h1, h2, _, h3⟩; exact ⟨pa, pc, h1, h2, h3⟩))
  (Lib.hid fun _ _ _ h => a_first h) (Lib.hid fun _ _ _ h => a_count h) (Lib.hid fun _ _ _ h => a_ans1 h) (Lib.hid fun _ _ _ h => a_ans2 h) (Lib.hid fun _ _ _ h => a_ans3 h) (Lib.hid fun _ _ _ h => a_with h)
  (Lib.hid fun _ _ _ h => a_open h) (Lib.hid fun _ _ _ h => a_refute h) (Lib.hid fun _ _ _ h _ _ hb hc => a_check h hb hc) (Lib.hid fun _ _ _ h => a_lineage h) w
end Go.Proofs.YtpjcnkajimgagaaGreat
