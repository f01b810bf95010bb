/- The reference's leaf, walked. -/
/- The reference's leaf of many, walked; the leaf, whole. -/
import Derived.Test.YtpjcnkajimgagaaGreatMDecR
import Derived.Test.YtpjcnkajimgagaaGreatMHeld
import Derived.Test.YtpjcnkajimgagaaGreatMWithP
set_option linter.unusedSimpArgs false
set_option linter.unusedVariables false
namespace Go.Proofs.YtpjcnkajimgagaaGreat
open Go.RowKit
attribute [local go_sem] Oper.semAt_some

/-- what leaf hands back -/
def LeafPost (ok : Bool) (ids : List Int) (w : World) (e : Ending) (w' : World) : Prop :=
 Below w.heap.size w w' ∧ ∃ a k cap, e = .returned (.tuple #[.slice a k cap, .bool ok]) ∧ (ok = true → k = ids.length ∧ Ints w' a ids ∧ ids.length ≤ cap) ∧ (ok = false → k = 0)
theorem leafPost_no {ids : List Int} {w w' : World} (h : Below w.heap.size w w') : LeafPost false ids w (.returned (.tuple #[.slice none 0 0, .bool false])) w' := ⟨h, none, 0, 0, rfl, fun h => (by cases h), fun _ => rfl⟩
/-- its own three variables -/
structure LeafSt (c : Cs) (pa : Option Addr) (pc : Nat) (d : Dec) (x : Br) (ma : Option Addr) (mc : Nat) (w W : World) : Prop where
 cs : Box W w.heap.size (csCells c pa pc) 24
 dc : Box W (w.heap.size + 1) (dciCells d) 115
 br : Box W (w.heap.size + 2) #[.int .u8 x.kind, .int .i64 x.a, .int .i64 x.b, .slice ma x.many.length mc] 69
 old : Below w.heap.size w W
theorem LeafSt.below {c : Cs} {pa : Option Addr} {pc : Nat} {d : Dec} {x : Br} {ma : Option Addr} {mc : Nat} {w W W' : World} (h : LeafSt c pa pc d x ma mc w W) (hb : Below W.heap.size W W') : LeafSt c pa pc d x ma mc w W' :=
 ⟨h.cs.below' hb, h.dc.below' hb, h.br.below' hb, h.old.trans (hb.mono h.old.size)⟩
theorem LeafSt.cells {c : Cs} {pa : Option Addr} {pc : Nat} {d : Dec} {x : Br} {ma : Option Addr} {mc : Nat} {w W : World} (h : LeafSt c pa pc d x ma mc w W) :
  (∀ i, W.cell? ⟨w.heap.size, i, none⟩ = (#[.string c.ware, .int .i64 c.limit, .int .i64 c.by_, .slice pa c.parts.length pc] : Array Value)[i]?) ∧ (∀ i, W.cell? ⟨w.heap.size + 2, i, none⟩ = (#[.int .u8 x.kind, .int .i64 x.a, .int .i64 x.b, .slice ma x.many.length mc] : Array Value)[i]?) := ⟨h.cs.cell, h.br.cell⟩
theorem run_dci {d : Dec} {b : Nat} {W : World} (h : Box W b (dciCells d) 115) : (Instr.loadAt 115 (.pointer (some ⟨b, 0, none⟩))).run Tryz.prog W = .ok (.agg (dciCells d)) W := run_load_row h Tryz.underlying115 rfl (dci_info _)
def callsOwn (L : List Nat) (w : World) (e : Ending) (w' : World) : Prop := ∃ v, e = .returned v ∧ w'.ownsRow w.heap.size 3 1 v L.length ((natInts L).map (Value.int .i64)) ∧ Below w.heap.size w w'
set_option maxRecDepth 100000 in
set_option maxHeartbeats 4000000 in
/-- a leaf that is no list of many -/
theorem leafR_two (c : Cs) (n : Nat) (hn : c.parts.length = n) (hn8 : n ≤ 8) (pa : Option Addr) (pc : Nat) (d : Dec) (hs : SymD d) (hp : Supp d n) (hd : ∀ a b, d a b ≤ 3) (x : Br) (hk : x.kind ≠ 4) (ma : Option Addr) (mc : Nat) (w : World) (hparts : PartsAt w pa c.parts) (hml : x.many.length ≤ 1000000) :
  Calls Tryz.prog 129 #[.agg #[.string c.ware, .int .i64 c.limit, .int .i64 c.by_, .slice pa c.parts.length pc], .agg (dciCells d), .agg #[.int .u8 x.kind, .int .i64 x.a, .int .i64 x.b, .slice ma x.many.length mc]] w (LeafPost (leafB c d n x) (leafIds c d x) w) := by
 subst hn
 obtain ⟨w1, hw1⟩ : ∃ w1, ((w.alloc (.cells #[.string c.ware, .int .i64 c.limit, .int .i64 c.by_, .slice pa c.parts.length pc] 24)).alloc (.cells (dciCells d) 115)).alloc (.cells #[.int .u8 x.kind, .int .i64 x.a, .int .i64 x.b, .slice ma x.many.length mc] 69) = w1 := ⟨_, rfl⟩
 have hS : LeafSt c pa pc d x ma mc w w1 := by
  rw [← hw1]
  exact ⟨((Box.new _ _ _).alloc _).alloc _, (Box.new' (by simp)).alloc _, Box.new' (by simp), by go_grown⟩
 have HW := Lib.hid hw1
 have HS := Lib.hid hS
 clear hw1 hS
 have hk4 : (((x.kind : Nat) : Int) == 4) = false := by simp; omega
 have hwn : IntKind.i64.wrap ((c.parts.length : Int) - 1) = (c.parts.length : Int) - 1 := IntWalk.i64_in _ (by omega)
 have HP := Lib.hid hparts
 have HSY := Lib.hid hs
 have HD := Lib.hid hd
 have HSU := Lib.hid hp
 clear hparts hs hd hp
 rcases ha : inB x.a 0 ((c.parts.length : Int) - 1) with _ | _
 ·have HL := Lib.hid (show leafB c d c.parts.length x = false by simp only [leafB, clashesB, partedB, sameB]; rw [ha]; simp [hk])
  have HIN := Lib.hid (within_held ha)
  have HIN2 := HIN
  clear ha
  go_enter Tryz.func129, Tryz.ntmps129
  go_upto_region 1 with fail
  simp only [HW.out, Nat.add_assoc, Nat.reduceAdd]
  obtain ⟨e1, e2⟩ := HS.out.cells
  go_wp2_with (go_at_call 68; (with_reducible refine (HIN.out _).mono ?_); rintro e w3 ⟨rfl, hb3⟩; have HS3 := Lib.hid (HS.out.below hb3); obtain ⟨e1, e2⟩ := HS3.out.cells; clear hb3)
  go_ret2
  rw [HL.out]
  exact leafPost_no HS3.out.old
 rcases hb : inB x.b 0 ((c.parts.length : Int) - 1) with _ | _
 ·have HL := Lib.hid (show leafB c d c.parts.length x = false by simp only [leafB, clashesB, partedB, sameB]; rw [hb]; simp [hk])
  have HIN := Lib.hid (within_held ha)
  have HIN2 := Lib.hid (within_held hb)
  clear ha hb
  go_enter Tryz.func129, Tryz.ntmps129
  go_upto_region 1 with fail
  simp only [HW.out, Nat.add_assoc, Nat.reduceAdd]
  obtain ⟨e1, e2⟩ := HS.out.cells
  go_wp2_with (go_at_call 68; (first | (with_reducible refine (HIN.out _).mono ?_) | (with_reducible refine (HIN2.out _).mono ?_)); rintro e w3 ⟨rfl, hb3⟩; have HS := Lib.hid (HS.out.below hb3); obtain ⟨e1, e2⟩ := HS.out.cells; clear hb3)
  go_ret2
  rw [HL.out]
  exact leafPost_no HS.out.old
 by_cases hm0 : x.many.length = 0
 ·obtain ⟨kd, xa, xb, xm⟩ := x
  dsimp only at *
  have hxm : xm = [] := List.length_eq_zero_iff.1 hm0
  subst hxm
  clear hm0
  have ha' := ha
  have hb' := hb
  simp only [inB, decide_eq_true_eq] at ha' hb'
  obtain ⟨a, rfl⟩ := Int.eq_ofNat_of_zero_le ha'.1
  obtain ⟨b, rfl⟩ := Int.eq_ofNat_of_zero_le hb'.1
  have hal : a < c.parts.length := by omega
  have hbl : b < c.parts.length := by omega
  have HSB := Lib.hid (show sameB d c.parts.length a b [] = (clsR d a).contains b by
   rw [has_cls hn8 HSY.out HSU.out hal hbl]
   simp only [sameB, ha, hb, Int.toNat_natCast]
   simp)
  have HIN := Lib.hid (within_held ha)
  have HIN2 := Lib.hid (within_held hb)
  clear ha hb ha' hb'
  simp only [List.length_nil] at *
  go_enter Tryz.func129, Tryz.ntmps129
  go_upto_region 1 with fail
  simp only [HW.out, Nat.add_assoc, Nat.reduceAdd]
  obtain ⟨e1, e2⟩ := HS.out.cells
  go_upto_region 28 with (go_at_call 68; (first | (with_reducible refine (HIN.out _).mono ?_) | (with_reducible refine (HIN2.out _).mono ?_)); rintro e w3 ⟨rfl, hb3⟩; have HS := Lib.hid (HS.out.below hb3); obtain ⟨e1, e2⟩ := HS.out.cells; clear hb3)
  have hS1 := HS.out
  have k0 : ∀ A, Below w3.heap.size w3 A → A.cell? ⟨w.heap.size + 2, 1, none⟩ = some (.int .i64 (a : Int)) ∧ A.cell? ⟨w.heap.size + 2, 2, none⟩ = some (.int .i64 (b : Int)) := fun A hA => ⟨(hS1.br.below' hA).cell 1, (hS1.br.below' hA).cell 2⟩
  have kd : ∀ A, Below w3.heap.size w3 A → (Instr.loadAt 115 (.pointer (some ⟨w.heap.size + 1, 0, none⟩))).run Tryz.prog A = .ok (.agg (dciCells d)) A := fun A hA => run_dci (hS1.dc.below' hA)
  have K0 := Lib.hid k0
  have KD := Lib.hid kd
  clear k0 kd hS1 e1 e2
  refine wp_region_L (fun A => Below w3.heap.size w3 A) 7 (by kernel_rfl) ?_
  have hSS : Below w3.heap.size w3 w3.drew := (Below.refl _ w3).drew
  refine anyL_load (i := 0) 115 _ (by kernel_rfl) rfl (by kernel_rfl) (by kernel_rfl) (by kernel_rfl) (by kernel_rfl) (fun _ _ _ h => h) (by rfl) rfl rfl KD.out hSS ?_
  try (dsimp only); try simp only [Act.put, List.setIfInBounds_toArray, List.set_cons_zero, List.set_cons_succ]
  refine anyL_take (i := 1) (v := ?_) (by kernel_rfl) rfl (by kernel_rfl) (by kernel_rfl) (by kernel_rfl) (by kernel_rfl) (fun _ _ _ h => h) (by rfl) ?_ hSS ?_
  rotate_left
  ·(intro W hW; obtain ⟨q0, q1⟩ := K0.out W hW; go_simp; try with_reducible rfl)
  try (dsimp only); try simp only [Act.put, List.setIfInBounds_toArray, List.set_cons_zero, List.set_cons_succ]
  refine anyL_take (i := 2) (v := ?_) (by kernel_rfl) rfl (by kernel_rfl) (by kernel_rfl) (by kernel_rfl) (by kernel_rfl) (fun _ _ _ h => h) (by rfl) ?_ hSS ?_
  rotate_left
  ·(intro W hW; obtain ⟨q0, q1⟩ := K0.out W hW; go_simp; try with_reducible rfl)
  try (dsimp only); try simp only [Act.put, List.setIfInBounds_toArray, List.set_cons_zero, List.set_cons_succ]
  refine anyL_take (i := 4) (v := ?_) (by kernel_rfl) rfl (by kernel_rfl) (by kernel_rfl) (by kernel_rfl) (by kernel_rfl) (fun _ _ _ h => h) (by rfl) ?_ hSS ?_
  rotate_left
  ·(intro W hW; obtain ⟨q0, q1⟩ := K0.out W hW; go_simp; try with_reducible rfl)
  try (dsimp only); try simp only [Act.put, List.setIfInBounds_toArray, List.set_cons_zero, List.set_cons_succ]
  refine anyL_take (i := 5) (v := ?_) (by kernel_rfl) rfl (by kernel_rfl) (by kernel_rfl) (by kernel_rfl) (by kernel_rfl) (fun _ _ _ h => h) (by rfl) ?_ hSS ?_
  rotate_left
  ·(intro W hW; obtain ⟨q0, q1⟩ := K0.out W hW; go_simp; try with_reducible rfl)
  try (dsimp only); try simp only [Act.put, List.setIfInBounds_toArray, List.set_cons_zero, List.set_cons_succ]
  refine anyL_call (i := 3) (f := 149) (args := #[.agg (dciCells d), .int .i64 (a : Int)]) rfl (by kernel_rfl) (by rfl) ?_ (classR_any d HSY.out HD.out a (by omega) _) ?_
  ·go_simp
  rintro e w4 ⟨v4, rfl, ho4, hb4⟩
  have hb5 : Below w3.heap.size w3 w4 := hSS.trans hb4
  refine .inl ⟨v4, rfl, .inr hb5, ?_⟩
  try (dsimp only); try simp only [Act.put, List.setIfInBounds_toArray, List.set_cons_zero, List.set_cons_succ]
  obtain ⟨a4, c4, hv4, hi4⟩ := own_has ho4
  subst hv4
  refine anyL_call (i := 6) (f := 83) (args := #[.slice a4 (clsR d a).length c4, .int .i64 (b : Int)]) rfl (by kernel_rfl) (by rfl) ?_ (has_nat a4 c4 (clsR d a) b _ hi4 (by have := clsR_len d a; omega)) ?_
  ·go_simp
  rintro e w5 ⟨rfl, hb6⟩
  have hb7 : Below w3.heap.size w3 w5 := hb5.trans (hb6.mono hb5.size)
  refine .inl ⟨_, rfl, .inr hb7, ?_⟩
  try (dsimp only); try simp only [Act.put, List.setIfInBounds_toArray, List.set_cons_zero, List.set_cons_succ]
  refine anyL_run (i := 7) (v := .bool ((clsR d a).contains b)) (w' := w5) rfl (by kernel_rfl) (by rfl) (by go_simp) (.inl rfl) ?_
  try (dsimp only); try simp only [Act.put, List.setIfInBounds_toArray, List.set_cons_zero, List.set_cons_succ]
  refine anyL_done (by kernel_rfl) ?_ _
  have HS := Lib.hid (HS.out.below hb7)
  have HPW := Lib.hid (HP.out.below HS.out.old)
  clear hb7 hb6 hb5 hb4 ho4 hi4 hSS K0 KD
  obtain ⟨e1, e2⟩ := HS.out.cells
  generalize (clsR d a).contains b = one at *
  obtain ⟨no, hno⟩ : ∃ no, clashB c a b = no := ⟨_, rfl⟩
  have HNO := Lib.hid hno
  go_upto_region 30 with (go_at_call 130; (with_reducible refine (clash_ref c (by omega) a b pa pc _ HPW.out hal hbl).mono ?_); rintro e w6 ⟨rfl, hb6⟩; rw [HNO.out]; have HS := Lib.hid (HS.out.below hb6); have HPW := Lib.hid (HPW.out.below hb6); obtain ⟨e1, e2⟩ := HS.out.cells; clear hb6)
  clear hno
  have c3 : w6.cell? ⟨w.heap.size + 1, a * 8 + b, none⟩ = some (.int .i64 (d a b : Nat)) := by rw [HS.out.dc.cell, dciCells_at _ (by omega) (by omega)]
  have hai8 : (a : Int) < 8 := by omega
  have hbi8 : (b : Int) < 8 := by omega
  have hbit : (bits .and .i64 (d a b : Int) 2 == 2) = decide (d a b &&& 2 ≠ 0) := bit_is (HD.out a b) (.inr rfl)
  have HL2 := Lib.hid (show leafB c d c.parts.length ⟨2, a, b, []⟩ = (one && no) by simp only [leafB, clashesB, HSB.out, Int.toNat_natCast, HNO.out]; simp)
  have HL3 := Lib.hid (show leafB c d c.parts.length ⟨3, a, b, []⟩ = (one && decide (d a b &&& 2 ≠ 0)) by simp only [leafB, partedB, apartB, HSB.out, Int.toNat_natCast]; rw [Bool.eq_iff_iff]; simp)
  have HLO := Lib.hid (fun (h2 : kd ≠ 2) (h3 : kd ≠ 3) => show leafB c d c.parts.length ⟨kd, a, b, []⟩ = false by simp [leafB, h2, h3, hk])
  have HI2 := Lib.hid (show leafIds c d ⟨2, a, b, []⟩ = causeB c a b by simp [leafIds])
  have HI3 := Lib.hid (show leafIds c d ⟨3, a, b, []⟩ = [] by simp [leafIds])
  generalize decide (d a b &&& 2 ≠ 0) = bt at *
  clear hk4
  by_cases h2 : kd = 2
  ·subst h2
   rcases one with _ | _
   ·go_wp2_with fail
    go_quiet (fail)
    go_wp2_with fail
    go_ret2
    rw [HL2.out]
    exact leafPost_no (below_drewN HS.out.old _)
   ·rcases no with _ | _
    ·go_wp2_with fail
     go_quiet (fail)
     go_wp2_with fail
     go_ret2
     rw [HL2.out]
     exact leafPost_no (below_drewN HS.out.old _)
    ·go_wp2_with (go_at_call 152; (with_reducible refine (idsR_any c (by omega) a b pa pc _ HPW.out hal hbl).mono ?_); rintro e w7 ⟨gi, rfl, hi, hl, hb7⟩; have HB7 := Lib.hid hb7; have HII := Lib.hid hi; have HIL := Lib.hid hl; clear hb7 hi hl)
     go_ret2
     rw [HL2.out, HI2.out]
     exact ⟨(HS.out.below HB7.out).old, _, _, _, rfl, fun _ => ⟨HIL.out.symm, HII.out, by have := HIL.out; omega⟩, fun h => by simp at h⟩
  ·by_cases h3 : kd = 3
   ·subst h3
    rcases one with _ | _
    ·go_wp2_with fail
     go_quiet (fail)
     go_wp2_with fail
     go_ret2
     rw [HL3.out]
     exact leafPost_no (below_drewN HS.out.old _)
    ·go_wp2_with fail
     go_quiet (fail)
     go_wp2_with fail
     go_ret2
     rw [HL3.out, HI3.out]
     exact ⟨(below_drewN HS.out.old _), _, _, _, rfl, fun _ => ⟨rfl, Ints.nil _ _, Nat.zero_le _⟩, fun _ => rfl⟩
   ·have hk2 : (((kd : Nat) : Int) == 2) = false := by simp; omega
    have hk3 : (((kd : Nat) : Int) == 3) = false := by simp; omega
    have HF := Lib.hid (HLO.out h2 h3)
    clear h2 h3 hk
    go_wp2_with fail
    go_quiet (fail)
    go_wp2_with fail
    go_ret2
    rw [HF.out]
    exact leafPost_no (below_drewN HS.out.old _)
 ·have HL := Lib.hid (show leafB c d c.parts.length x = false by simp only [leafB, clashesB, partedB, sameB]; rw [show (x.many.length == 0) = false from beq_eq_false_iff_ne.2 hm0]; simp [hk])
  have HIN := Lib.hid (within_held ha)
  have HIN2 := Lib.hid (within_held hb)
  have hpos : (0 : Int) < (x.many.length : Int) := by omega
  clear ha hb hm0
  go_enter Tryz.func129, Tryz.ntmps129
  go_upto_region 1 with fail
  simp only [HW.out, Nat.add_assoc, Nat.reduceAdd]
  obtain ⟨e1, e2⟩ := HS.out.cells
  go_wp2_with (go_at_call 68; (first | (with_reducible refine (HIN.out _).mono ?_) | (with_reducible refine (HIN2.out _).mono ?_)); rintro e w3 ⟨rfl, hb3⟩; have HS := Lib.hid (HS.out.below hb3); obtain ⟨e1, e2⟩ := HS.out.cells; clear hb3)
  go_ret2
  rw [HL.out]
  exact leafPost_no HS.out.old
end Go.Proofs.YtpjcnkajimgagaaGreat
namespace Go.Proofs.YtpjcnkajimgagaaGreat
open Go.RowKit
attribute [local go_sem] Oper.semAt_some

/-- all pairs of the first rows are opposed -/
def PairOk (c : Cs) (d : Dec) (L : List Nat) (i k : Nat) : Prop := (partedR d (clsR d (nth L i)) (clsR d (nth L k)) || (clashR c (clsR d (nth L i)) (clsR d (nth L k))).isSome) = true
set_option maxRecDepth 100000 in
set_option maxHeartbeats 4000000 in
theorem leafR_head (c : Cs) (n : Nat) (hn : c.parts.length = n) (hn8 : n ≤ 8) (hlim : 0 ≤ c.limit ∧ c.limit ≤ 40) (pa : Option Addr) (pc : Nat) (d : Dec) (x : Br) (ma : Option Addr) (mc : Nat) (w : World) (hml : x.many.length ≤ 1000000) (hh : manyHead c x.a x.b x.many = false) :
  Calls Tryz.prog 129 #[.agg #[.string c.ware, .int .i64 c.limit, .int .i64 c.by_, .slice pa c.parts.length pc], .agg (dciCells d), .agg #[.int .u8 4, .int .i64 x.a, .int .i64 x.b, .slice ma x.many.length mc]] w (LeafPost (leafB c d n ⟨4, x.a, x.b, x.many⟩) (leafIds c d ⟨4, x.a, x.b, x.many⟩) w) := by
 subst hn
 obtain ⟨hl0, hl1⟩ := hlim
 have hw1 : IntKind.i64.wrap (c.limit + 1) = c.limit + 1 := IntWalk.i64_in _ (by omega)
 have HL := Lib.hid (show leafB c d c.parts.length ⟨4, x.a, x.b, x.many⟩ = false by rw [leaf_many, manyB, hh]; rfl)
 obtain ⟨w1, hw1⟩ : ∃ w1, ((w.alloc (.cells #[.string c.ware, .int .i64 c.limit, .int .i64 c.by_, .slice pa c.parts.length pc] 24)).alloc (.cells (dciCells d) 115)).alloc (.cells #[.int .u8 4, .int .i64 x.a, .int .i64 x.b, .slice ma x.many.length mc] 69) = w1 := ⟨_, rfl⟩
 have hS : LeafSt c pa pc d ⟨4, x.a, x.b, x.many⟩ ma mc w w1 := by
  rw [← hw1]
  exact ⟨((Box.new _ _ _).alloc _).alloc _, (Box.new' (by simp)).alloc _, Box.new' (by simp), by go_grown⟩
 have HW := Lib.hid hw1
 have HS := Lib.hid hS
 clear hw1 hS
 rcases h3 : (c.limit == 0) with _ | _
 ·rcases h4 : ((x.many.length : Int) != c.limit + 1) with _ | _
  ·rcases h1 : (x.a != 0) with _ | _
   ·rcases h2 : (x.b != 0) with _ | _
    ·simp [manyHead, h1, h2, h3, h4] at hh
    ·clear hh
     go_enter Tryz.func129, Tryz.ntmps129
     go_upto_region 1 with fail
     simp only [HW.out, Nat.add_assoc, Nat.reduceAdd]
     obtain ⟨e1, e2⟩ := HS.out.cells
     dsimp only at e2
     go_wp2_with fail
     go_ret2
     rw [HL.out]
     exact leafPost_no HS.out.old
   ·clear hh
    go_enter Tryz.func129, Tryz.ntmps129
    go_upto_region 1 with fail
    simp only [HW.out, Nat.add_assoc, Nat.reduceAdd]
    obtain ⟨e1, e2⟩ := HS.out.cells
    dsimp only at e2
    go_wp2_with fail
    go_ret2
    rw [HL.out]
    exact leafPost_no HS.out.old
  ·clear hh
   go_enter Tryz.func129, Tryz.ntmps129
   go_upto_region 1 with fail
   simp only [HW.out, Nat.add_assoc, Nat.reduceAdd]
   obtain ⟨e1, e2⟩ := HS.out.cells
   dsimp only at e2
   go_wp2_with fail
   go_ret2
   rw [HL.out]
   exact leafPost_no HS.out.old
 ·clear hh
  go_enter Tryz.func129, Tryz.ntmps129
  go_upto_region 1 with fail
  simp only [HW.out, Nat.add_assoc, Nat.reduceAdd]
  obtain ⟨e1, e2⟩ := HS.out.cells
  dsimp only at e2
  go_wp2_with fail
  go_ret2
  rw [HL.out]
  exact leafPost_no HS.out.old
theorem clashR_mem {c : Cs} {one two : List Nat} {z : Nat × Nat} (h : clashR c one two = some z) : z.1 ∈ one ∧ z.2 ∈ two := by
 have h1 := List.mem_of_find?_eq_some h
 obtain ⟨p, hp, hq⟩ := List.mem_flatMap.1 h1
 obtain ⟨q, hq2, rfl⟩ := List.mem_map.1 hq
 exact ⟨hp, hq2⟩
theorem pairIds_parted {c : Cs} {d : Dec} {x y : Nat} (h : partedR d (clsR d x) (clsR d y) = true) : pairIds c d x y = [] := by simp [pairIds, h]
theorem pairIds_clash {c : Cs} {d : Dec} {x y : Nat} {z : Nat × Nat} (h : partedR d (clsR d x) (clsR d y) = false) (hz : clashR c (clsR d x) (clsR d y) = some z) : pairIds c d x y = causeB c z.1 z.2 := by simp [pairIds, h, hz]
set_option maxRecDepth 100000 in
set_option maxHeartbeats 8000000 in
theorem leafR_good (c : Cs) (n : Nat) (hn : c.parts.length = n) (hn8 : n ≤ 8) (hlim : 0 ≤ c.limit ∧ c.limit ≤ 40) (pa : Option Addr) (pc : Nat) (d : Dec) (hs : SymD d) (hp : Supp d n) (hd : ∀ a b, d a b ≤ 3) (x : Br) (ma : Option Addr) (mc : Nat) (w : World) (hparts : PartsAt w pa c.parts) (hi : Ints w ma x.many) (hmc : x.many.length ≤ mc) (hml : x.many.length ≤ 1000000) (hh : manyHead c x.a x.b x.many = true) :
  Calls Tryz.prog 129 #[.agg #[.string c.ware, .int .i64 c.limit, .int .i64 c.by_, .slice pa c.parts.length pc], .agg (dciCells d), .agg #[.int .u8 4, .int .i64 x.a, .int .i64 x.b, .slice ma x.many.length mc]] w (LeafPost (leafB c d n ⟨4, x.a, x.b, x.many⟩) (leafIds c d ⟨4, x.a, x.b, x.many⟩) w) := by
 subst hn
 obtain ⟨hl0, hl1⟩ := hlim
 have hw1 : IntKind.i64.wrap (c.limit + 1) = c.limit + 1 := IntWalk.i64_in _ (by omega)
 have hwn : IntKind.i64.wrap ((c.parts.length : Int) - 1) = (c.parts.length : Int) - 1 := IntWalk.i64_in _ (by omega)
 have HP := Lib.hid hparts
 have HSY := Lib.hid hs
 have HD := Lib.hid hd
 have HSU := Lib.hid hp
 have HI := Lib.hid hi
 have HH := Lib.hid hh
 have h3 : (c.limit == 0) = false := by cases h : (c.limit == 0) <;> simp_all [manyHead]
 have h4 : ((x.many.length : Int) != c.limit + 1) = false := by cases h : ((x.many.length : Int) != c.limit + 1) <;> simp_all [manyHead]
 have h1 : (x.a != 0) = false := by cases h : (x.a != 0) <;> simp_all [manyHead]
 have h2 : (x.b != 0) = false := by cases h : (x.b != 0) <;> simp_all [manyHead]
 have hl41 : x.many.length ≤ 41 := by
  rw [bne_eq_false_iff_eq] at h4
  omega
 have hlpos : 0 < x.many.length := by
  rw [bne_eq_false_iff_eq] at h4
  omega
 clear hparts hs hd hp hi hh
 obtain ⟨w1, hw1⟩ : ∃ w1, ((w.alloc (.cells #[.string c.ware, .int .i64 c.limit, .int .i64 c.by_, .slice pa c.parts.length pc] 24)).alloc (.cells (dciCells d) 115)).alloc (.cells #[.int .u8 4, .int .i64 x.a, .int .i64 x.b, .slice ma x.many.length mc] 69) = w1 := ⟨_, rfl⟩
 have hS : LeafSt c pa pc d ⟨4, x.a, x.b, x.many⟩ ma mc w w1 := by
  rw [← hw1]
  exact ⟨((Box.new _ _ _).alloc _).alloc _, (Box.new' (by simp)).alloc _, Box.new' (by simp), by go_grown⟩
 have HW := Lib.hid hw1
 have HS := Lib.hid hS
 clear hw1 hS
 have hs1 : w1.heap.size = w.heap.size + 3 := by rw [← HW.out]; simp
 go_enter Tryz.func129, Tryz.ntmps129
 go_upto_region 1 with fail
 simp only [HW.out, Nat.add_assoc, Nat.reduceAdd]
 obtain ⟨e1, e2⟩ := HS.out.cells
 dsimp only at e2
 go_upto_region 6 with fail
 have g0 : (w1.alloc (.cells #[.int .i64 c.by_] 3)).ownsRow (w.heap.size + 3) 3 1 (.slice (some ⟨w.heap.size + 3, 0, none⟩) 1 1) 1 [.int .i64 c.by_] := ownsRow_one (Box.new' hs1.symm) (Nat.le_refl _)
 have gS := HS.out.below ((Below.refl _ w1).alloc (Nat.le_refl _) (.cells #[.int .i64 c.by_] 3))
 have gs : w.heap.size + 3 ≤ (w1.alloc (.cells #[.int .i64 c.by_] 3)).heap.size := by simp; omega
 generalize w1.alloc (.cells #[.int .i64 c.by_] 3) = w2 at *
 have HO := Lib.hid g0
 have HS := Lib.hid gS
 obtain ⟨mb, mo, hma, hcell⟩ := HI.out.base hlpos
 subst hma
 have HCELL := Lib.hid hcell
 clear g0 gS h1 h2 h3 h4 hs1 e1 e2 HW hcell
 go_wp2_with fail
 go_loopw [10] (fun iv wr => ∃ i : Nat, i ≤ x.many.length ∧ iv = .int .i64 i ∧ Hid (riseTo c.parts.length x.many i = true) ∧ Below w2.heap.size w2 wr) (fun iv _ => x.many.length - (intOf iv).toNat)
 case atStart => exact ⟨0, Nat.zero_le _, rfl, Lib.hid rfl, Below.refl _ _⟩
 case round =>
  obtain ⟨i, hil, rfl, HRT, hb⟩ := hrel
  have HBR := Lib.hid hb
  have HSR := Lib.hid (HS.out.below hb)
  clear hb
  obtain ⟨e1, e2⟩ := HSR.out.cells
  dsimp only at e2
  by_cases hlt : i < x.many.length
  ·have hlti : (i : Int) < (x.many.length : Int) := by omega
   obtain ⟨y, hy⟩ := get_of_lt x.many hlt
   have hb0 : Below w.heap.size w wr := HSR.out.old
   have c1 := below_cell hb0 (HCELL.out i y hy)
   have hrs := riseTo_succ c.parts.length x.many i
   rw [hy] at hrs
   simp only [Option.getD_some] at hrs
   rw [HRT.out, Bool.true_and] at hrs
   rcases hin : inB y 0 ((c.parts.length : Int) - 1) with _ | _
   ·have hno : riseTo c.parts.length x.many (i + 1) = false := by rw [hrs, hin]; rfl
    have HNL := Lib.hid (show leafB c d c.parts.length ⟨4, x.a, x.b, x.many⟩ = false by rw [leaf_many]; exact many_not (rise_less hno hlt))
    have HIN := Lib.hid (within_held hin)
    have HC := Lib.hid (And.intro c1 c1)
    clear hrs hno hin hy c1
    go_wp2_with fail
    refine wp_region_heldB 27 [] (by kernel_rfl) (by kernel_rfl) (by kernel_rfl) (by simp) ?_
    intro S hS
    have k0 := fun W (h : S W) => (⟨(HSR.out.br.below' (hS W h)).cell 3, below_cell (hS W h) HC.out.1, below_cell (hS W h) HC.out.2⟩ : _ ∧ _ ∧ _)
    have K0 := Lib.hid k0
    have HSS := Lib.hid hS
    clear k0 hS e1 e2
    simp only [List.take_succ_cons, List.take_zero, List.drop_succ_cons, List.drop_zero]
    repeat (first
     | (refine held_not rfl (by rfl) ?_; try (dsimp only); try simp only [Act.put, List.setIfInBounds_toArray, List.set_cons_zero, List.set_cons_succ])
     | (refine held_val (v := ?_) rfl (by rfl) ?_ ?_; rotate_left; (· (intro W hW; obtain ⟨q0, q1, q2⟩ := K0.out W hW; go_simp; try with_reducible rfl)); try (dsimp only); try simp only [Act.put, List.setIfInBounds_toArray, List.set_cons_zero, List.set_cons_succ])
     | (refine held_skip rfl (by rfl) ?_ ?_; (· (intro W hW; obtain ⟨q0, q1, q2⟩ := K0.out W hW; go_simp; try with_reducible rfl)); try (dsimp only); try simp only [Act.put, List.setIfInBounds_toArray, List.set_cons_zero, List.set_cons_succ])
     | (refine held_call (v := .bool false) (f := 68) (args := #[.int .i64 y, .int .i64 0, .int .i64 ((c.parts.length : Int) - 1)]) rfl (by rfl) ?_ ?_ ?_; (· (intro W hW; go_simp; done)); (· exact (fun W hW => HIN.out W)); try (dsimp only); try simp only [Act.put, List.setIfInBounds_toArray, List.set_cons_zero, List.set_cons_succ]))
    refine held_nil ?_
    intro τ hτ wn hW hO
    obtain rfl := laid0 hτ
    have hbn := HSS.out wn hW
    have HBN := Lib.hid (HBR.out.trans (hbn.mono HBR.out.size))
    have HSN := Lib.hid (HSR.out.below hbn)
    clear hτ hO hW K0 HSS hbn
    simp only [overs, List.foldl_nil]
    go_wp2_with fail
    go_ret2
    rw [HNL.out]
    exact leafPost_no HSN.out.old
   ·have HIN := Lib.hid (within_held hin)
    rw [hin, Bool.true_and] at hrs
    rcases i with _ | j
    ·have HRS := Lib.hid (show riseTo c.parts.length x.many (0 + 1) = true by rw [hrs]; rfl)
     rw [Nat.add_zero] at c1
     have HC := Lib.hid (And.intro c1 c1)
     clear hrs hin hy c1
     go_wp2_with fail
     refine wp_region_heldB 27 [] (by kernel_rfl) (by kernel_rfl) (by kernel_rfl) (by simp) ?_
     intro S hS
     have k0 := fun W (h : S W) => (⟨(HSR.out.br.below' (hS W h)).cell 3, below_cell (hS W h) HC.out.1, below_cell (hS W h) HC.out.2⟩ : _ ∧ _ ∧ _)
     have K0 := Lib.hid k0
     have HSS := Lib.hid hS
     clear k0 hS e1 e2
     simp only [List.take_succ_cons, List.take_zero, List.drop_succ_cons, List.drop_zero]
     repeat (first
      | (refine held_not rfl (by rfl) ?_; try (dsimp only); try simp only [Act.put, List.setIfInBounds_toArray, List.set_cons_zero, List.set_cons_succ])
      | (refine held_val (v := ?_) rfl (by rfl) ?_ ?_; rotate_left; (· (intro W hW; obtain ⟨q0, q1, q2⟩ := K0.out W hW; go_simp; try with_reducible rfl)); try (dsimp only); try simp only [Act.put, List.setIfInBounds_toArray, List.set_cons_zero, List.set_cons_succ])
      | (refine held_skip rfl (by rfl) ?_ ?_; (· (intro W hW; obtain ⟨q0, q1, q2⟩ := K0.out W hW; go_simp; try with_reducible rfl)); try (dsimp only); try simp only [Act.put, List.setIfInBounds_toArray, List.set_cons_zero, List.set_cons_succ])
      | (refine held_call (v := .bool true) (f := 68) (args := #[.int .i64 y, .int .i64 0, .int .i64 ((c.parts.length : Int) - 1)]) rfl (by rfl) ?_ ?_ ?_; (· (intro W hW; go_simp; done)); (· exact (fun W hW => HIN.out W)); try (dsimp only); try simp only [Act.put, List.setIfInBounds_toArray, List.set_cons_zero, List.set_cons_succ]))
     refine held_nil ?_
     intro τ hτ wn hW hO
     obtain rfl := laid0 hτ
     have hbn := HSS.out wn hW
     have HBN := Lib.hid (HBR.out.trans (hbn.mono HBR.out.size))
     have HSN := Lib.hid (HSR.out.below hbn)
     clear hτ hO hW K0 HSS hbn
     simp only [overs, List.foldl_nil]
     go_wp2_with fail
     go_roundw
     case rel => exact ⟨1, by omega, by go_num, HRS, HBN.out⟩
     case measure => simp [intOf]; omega
    ·obtain ⟨z, hz⟩ := get_of_lt x.many (k := j) (by omega)
     have c2 := below_cell hb0 (HCELL.out j z hz)
     have hjl : (j : Int) < (x.many.length : Int) := by omega
     have hjl1 : (j : Int) + 1 < (x.many.length : Int) := by omega
     have hj0 : (0 : Int) ≤ (j : Int) + 1 := by omega
     have hsb2 : IntKind.i64.wrap (j : Int) = (j : Int) := IntWalk.i64_in _ (by omega)
     have hsb : IntKind.i64.wrap (((j + 1 : Nat) : Int) - 1) = (j : Int) := by rw [IntWalk.i64_in _ (by omega)]; omega
     have hrs2 : riseTo c.parts.length x.many (j + 1 + 1) = decide (z < y) := by
      rw [hrs, show (j + 1 - 1) = j by omega, hz]; simp
     have HC := Lib.hid (And.intro c1 c2)
     by_cases hyz : y ≤ z
     ·have hno : riseTo c.parts.length x.many (j + 1 + 1) = false := by rw [hrs2]; simp; omega
      have HNL := Lib.hid (show leafB c d c.parts.length ⟨4, x.a, x.b, x.many⟩ = false by rw [leaf_many]; exact many_not (rise_less hno hlt))
      clear hrs hrs2 hin hy hz c1 c2 hno
      go_wp2_with fail
      refine wp_region_heldB 27 [] (by kernel_rfl) (by kernel_rfl) (by kernel_rfl) (by simp) ?_
      intro S hS
      have k0 := fun W (h : S W) => (⟨(HSR.out.br.below' (hS W h)).cell 3, below_cell (hS W h) HC.out.1, below_cell (hS W h) HC.out.2⟩ : _ ∧ _ ∧ _)
      have K0 := Lib.hid k0
      have HSS := Lib.hid hS
      clear k0 hS e1 e2
      simp only [List.take_succ_cons, List.take_zero, List.drop_succ_cons, List.drop_zero]
      repeat (first
       | (refine held_not rfl (by rfl) ?_; try (dsimp only); try simp only [Act.put, List.setIfInBounds_toArray, List.set_cons_zero, List.set_cons_succ])
       | (refine held_val (v := ?_) rfl (by rfl) ?_ ?_; rotate_left; (· (intro W hW; obtain ⟨q0, q1, q2⟩ := K0.out W hW; go_simp; try with_reducible rfl)); try (dsimp only); try simp only [Act.put, List.setIfInBounds_toArray, List.set_cons_zero, List.set_cons_succ])
       | (refine held_skip rfl (by rfl) ?_ ?_; (· (intro W hW; obtain ⟨q0, q1, q2⟩ := K0.out W hW; go_simp; try with_reducible rfl)); try (dsimp only); try simp only [Act.put, List.setIfInBounds_toArray, List.set_cons_zero, List.set_cons_succ])
       | (refine held_call (v := .bool true) (f := 68) (args := #[.int .i64 y, .int .i64 0, .int .i64 ((c.parts.length : Int) - 1)]) rfl (by rfl) ?_ ?_ ?_; (· (intro W hW; go_simp; done)); (· exact (fun W hW => HIN.out W)); try (dsimp only); try simp only [Act.put, List.setIfInBounds_toArray, List.set_cons_zero, List.set_cons_succ]))
      refine held_nil ?_
      intro τ hτ wn hW hO
      obtain rfl := laid0 hτ
      have hbn := HSS.out wn hW
      have HBN := Lib.hid (HBR.out.trans (hbn.mono HBR.out.size))
      have HSN := Lib.hid (HSR.out.below hbn)
      clear hτ hO hW K0 HSS hbn
      simp only [overs, List.foldl_nil]
      go_wp2_with fail
      go_ret2
      rw [HNL.out]
      exact leafPost_no HSN.out.old
     ·have HRS := Lib.hid (show riseTo c.parts.length x.many (j + 1 + 1) = true by rw [hrs2]; simp; omega)
      clear hrs hrs2 hin hy hz c1 c2
      go_wp2_with fail
      refine wp_region_heldB 27 [] (by kernel_rfl) (by kernel_rfl) (by kernel_rfl) (by simp) ?_
      intro S hS
      have k0 := fun W (h : S W) => (⟨(HSR.out.br.below' (hS W h)).cell 3, below_cell (hS W h) HC.out.1, below_cell (hS W h) HC.out.2⟩ : _ ∧ _ ∧ _)
      have K0 := Lib.hid k0
      have HSS := Lib.hid hS
      clear k0 hS e1 e2
      simp only [List.take_succ_cons, List.take_zero, List.drop_succ_cons, List.drop_zero]
      repeat (first
       | (refine held_not rfl (by rfl) ?_; try (dsimp only); try simp only [Act.put, List.setIfInBounds_toArray, List.set_cons_zero, List.set_cons_succ])
       | (refine held_val (v := ?_) rfl (by rfl) ?_ ?_; rotate_left; (· (intro W hW; obtain ⟨q0, q1, q2⟩ := K0.out W hW; go_simp; try with_reducible rfl)); try (dsimp only); try simp only [Act.put, List.setIfInBounds_toArray, List.set_cons_zero, List.set_cons_succ])
       | (refine held_skip rfl (by rfl) ?_ ?_; (· (intro W hW; obtain ⟨q0, q1, q2⟩ := K0.out W hW; go_simp; try with_reducible rfl)); try (dsimp only); try simp only [Act.put, List.setIfInBounds_toArray, List.set_cons_zero, List.set_cons_succ])
       | (refine held_call (v := .bool true) (f := 68) (args := #[.int .i64 y, .int .i64 0, .int .i64 ((c.parts.length : Int) - 1)]) rfl (by rfl) ?_ ?_ ?_; (· (intro W hW; go_simp; done)); (· exact (fun W hW => HIN.out W)); try (dsimp only); try simp only [Act.put, List.setIfInBounds_toArray, List.set_cons_zero, List.set_cons_succ]))
      refine held_nil ?_
      intro τ hτ wn hW hO
      obtain rfl := laid0 hτ
      have hbn := HSS.out wn hW
      have HBN := Lib.hid (HBR.out.trans (hbn.mono HBR.out.size))
      have HSN := Lib.hid (HSR.out.below hbn)
      clear hτ hO hW K0 HSS hbn
      simp only [overs, List.foldl_nil]
      go_wp2_with fail
      go_roundw
      case rel => exact ⟨j + 1 + 1, by omega, by go_num, HRS, HBN.out⟩
      case measure => simp [intOf]; omega
  ·have hie : i = x.many.length := by omega
   subst hie
   have HS := HSR
   have HBW := Lib.hid HSR.out.old
   have HO := Lib.hid (ownsRow_keep HO.out (K := fun _ => True) (Keep.of_below' HBR.out) (fun _ _ => trivial))
   have gs2 : w.heap.size + 3 ≤ wr.heap.size := Nat.le_trans gs HBR.out.size
   clear HSR HBR gs
   obtain ⟨L, hL⟩ : ∃ L : List Nat, x.many.map Int.toNat = L := ⟨_, rfl⟩
   have hval := fun (j : Nat) (hj : j < x.many.length) => rise_val HRT.out hj hj
   rw [hL] at hval
   have hLl : L.length = x.many.length := by rw [← hL]; simp
   have HVAL := Lib.hid hval
   have HLL := Lib.hid hLl
   have h8 := rise_len HRT.out
   have HMR := Lib.hid (many_rows (c := c) (A := x.a) (B := x.b) hn8 HSY.out HSU.out HH.out HRT.out)
   rw [hL] at HMR
   have HIDS := Lib.hid (show leafIds c d ⟨4, x.a, x.b, x.many⟩ = c.by_ :: manyIds c d L x.many.length by simp only [leafIds]; rw [hL]; rfl)
   clear hval hLl hL hlt
   go_wp2_with fail
   go_loopw [9, 11] (fun ov iv wx => ∃ i : Nat, i ≤ x.many.length ∧ iv = .int .i64 i ∧ wx.ownsRow (w.heap.size + 3) 3 1 ov (c.by_ :: manyIds c d L i).length ((c.by_ :: manyIds c d L i).map (Value.int .i64)) ∧ Hid (∀ i' k', i' < i → i' < k' → k' < x.many.length → PairOk c d L i' k') ∧ LeafSt c pa pc d ⟨4, x.a, x.b, x.many⟩ (some ⟨mb, mo, none⟩) mc w wx ∧ w.heap.size + 3 ≤ wx.heap.size) (fun _ iv _ => x.many.length - (intOf iv).toNat)
   case atStart => exact ⟨0, Nat.zero_le _, rfl, HO.out, Lib.hid (fun i' k' h => absurd h (Nat.not_lt_zero i')), HS.out, gs2⟩
   case round =>
    clear HO HS gs2 HBW HRT e1 e2
    obtain ⟨i, hil, rfl, hown, HOKS, hst, hgs⟩ := hrel
    have HO := Lib.hid hown
    have HS := Lib.hid hst
    clear hown hst
    obtain ⟨e1, e2⟩ := HS.out.cells
    dsimp only at e2
    by_cases hlt : i < x.many.length
    ·have hlti : (i : Int) < (x.many.length : Int) := by omega
     go_wp2_with fail
     go_loopw [9, 12] (fun ov kv wx => ∃ k : Nat, i + 1 ≤ k ∧ k ≤ x.many.length ∧ kv = .int .i64 k ∧ wx.ownsRow (w.heap.size + 3) 3 1 ov (c.by_ :: (manyIds c d L i ++ rowIds c d L i k)).length ((c.by_ :: (manyIds c d L i ++ rowIds c d L i k)).map (Value.int .i64)) ∧ Hid (∀ k', i < k' → k' < k → PairOk c d L i k') ∧ LeafSt c pa pc d ⟨4, x.a, x.b, x.many⟩ (some ⟨mb, mo, none⟩) mc w wx ∧ w.heap.size + 3 ≤ wx.heap.size) (fun _ kv _ => x.many.length - (intOf kv).toNat)
     case atStart => exact ⟨i + 1, Nat.le_refl _, hlt, by go_num, by rw [rowIds_start, List.append_nil]; exact HO.out, Lib.hid (fun k' h1 h2 => by omega), HS.out, hgs⟩
     case round =>
      clear HO HS hgs e1 e2
      obtain ⟨k, hik, hkl, rfl, hown, HOKR, hst, hgs⟩ := hrel
      have HO := Lib.hid hown
      have HS := Lib.hid hst
      clear hown hst
      obtain ⟨e1, e2⟩ := HS.out.cells
      dsimp only at e2
      by_cases hlk : k < x.many.length
      ·have hlki : (k : Int) < (x.many.length : Int) := by omega
       obtain ⟨hp1, hp2⟩ := HVAL.out i hlt
       obtain ⟨hq1, hq2⟩ := HVAL.out k hlk
       have HC1 := Lib.hid (below_cell HS.out.old (HCELL.out i _ hp1))
       have HC2 := Lib.hid (below_cell HS.out.old (HCELL.out k _ hq1))
       have hrow := rowIds_succ (c := c) (d := d) L i k (by omega)
       have HOKX := Lib.hid (show PairOk c d L i k = ((partedR d (clsR d (nth L i)) (clsR d (nth L k)) || (clashR c (clsR d (nth L i)) (clsR d (nth L k))).isSome) = true) from rfl)
       generalize nth L i = p at *
       generalize nth L k = q at *
       have HROW := Lib.hid hrow
       clear hp1 hq1 hrow
       go_upto_region 17 with fail
       clear e1 e2
       have k0 : ∀ A, Below wr.heap.size wr A → A.cell? ⟨w.heap.size + 2, 3, none⟩ = some (.slice (some ⟨mb, mo, none⟩) x.many.length mc) ∧ A.cell? ⟨mb, mo + i, none⟩ = some (.int .i64 (p : Int)) := fun A hA => ⟨(HS.out.br.below' hA).cell 3, below_cell hA HC1.out⟩
       have kd : ∀ A, Below wr.heap.size wr A → (Instr.loadAt 115 (.pointer (some ⟨w.heap.size + 1, 0, none⟩))).run Tryz.prog A = .ok (.agg (dciCells d)) A := fun A hA => run_dci (HS.out.dc.below' hA)
       have K0 := Lib.hid k0
       have KD := Lib.hid kd
       clear k0 kd
       refine wp_region_L (fun A => Below wr.heap.size wr A) 7 (by kernel_rfl) ?_
       have hSS : Below wr.heap.size wr wr.drew := (Below.refl _ wr).drew
       refine anyL_load (i := 0) 115 _ (by kernel_rfl) rfl (by kernel_rfl) (by kernel_rfl) (by kernel_rfl) (by kernel_rfl) (fun _ _ _ h => h) (by rfl) rfl rfl KD.out hSS ?_
       try (dsimp only); try simp only [Act.put, List.setIfInBounds_toArray, List.set_cons_zero, List.set_cons_succ]
       refine anyL_take (i := 1) (v := ?_) (by kernel_rfl) rfl (by kernel_rfl) (by kernel_rfl) (by kernel_rfl) (by kernel_rfl) (fun _ _ _ h => h) (by rfl) ?_ hSS ?_
       rotate_left
       ·(intro W hW; obtain ⟨q0, q1⟩ := K0.out W hW; go_simp; try with_reducible rfl)
       try (dsimp only); try simp only [Act.put, List.setIfInBounds_toArray, List.set_cons_zero, List.set_cons_succ]
       refine anyL_take (i := 2) (v := ?_) (by kernel_rfl) rfl (by kernel_rfl) (by kernel_rfl) (by kernel_rfl) (by kernel_rfl) (fun _ _ _ h => h) (by rfl) ?_ hSS ?_
       rotate_left
       ·(intro W hW; obtain ⟨q0, q1⟩ := K0.out W hW; go_simp; try with_reducible rfl)
       try (dsimp only); try simp only [Act.put, List.setIfInBounds_toArray, List.set_cons_zero, List.set_cons_succ]
       refine anyL_take (i := 3) (v := ?_) (by kernel_rfl) rfl (by kernel_rfl) (by kernel_rfl) (by kernel_rfl) (by kernel_rfl) (fun _ _ _ h => h) (by rfl) ?_ hSS ?_
       rotate_left
       ·(intro W hW; obtain ⟨q0, q1⟩ := K0.out W hW; go_simp; try with_reducible rfl)
       try (dsimp only); try simp only [Act.put, List.setIfInBounds_toArray, List.set_cons_zero, List.set_cons_succ]
       refine anyL_take (i := 4) (v := ?_) (by kernel_rfl) rfl (by kernel_rfl) (by kernel_rfl) (by kernel_rfl) (by kernel_rfl) (fun _ _ _ h => h) (by rfl) ?_ hSS ?_
       rotate_left
       ·(intro W hW; obtain ⟨q0, q1⟩ := K0.out W hW; go_simp; try with_reducible rfl)
       try (dsimp only); try simp only [Act.put, List.setIfInBounds_toArray, List.set_cons_zero, List.set_cons_succ]
       refine anyL_take (i := 5) (v := ?_) (by kernel_rfl) rfl (by kernel_rfl) (by kernel_rfl) (by kernel_rfl) (by kernel_rfl) (fun _ _ _ h => h) (by rfl) ?_ hSS ?_
       rotate_left
       ·(intro W hW; obtain ⟨q0, q1⟩ := K0.out W hW; go_simp; try with_reducible rfl)
       try (dsimp only); try simp only [Act.put, List.setIfInBounds_toArray, List.set_cons_zero, List.set_cons_succ]
       refine anyL_call (i := 6) (f := 149) (args := #[.agg (dciCells d), .int .i64 (p : Int)]) rfl (by kernel_rfl) (by rfl) ?_ (classR_any d HSY.out HD.out p (by omega) _) ?_
       ·go_simp
       rintro e w4 ⟨v4, rfl, ho4, hb4⟩
       have hb5 : Below wr.heap.size wr w4 := hSS.trans hb4
       refine .inl ⟨v4, rfl, .inr hb5, ?_⟩
       try (dsimp only); try simp only [Act.put, List.setIfInBounds_toArray, List.set_cons_zero, List.set_cons_succ]
       refine anyL_run (i := 7) (v := v4) (w' := w4) rfl (by kernel_rfl) (by rfl) (by go_simp) (.inl rfl) ?_
       try (dsimp only); try simp only [Act.put, List.setIfInBounds_toArray, List.set_cons_zero, List.set_cons_succ]
       refine anyL_done (by kernel_rfl) ?_ _
       obtain ⟨a4, c4, hv4, hi4⟩ := own_has ho4
       subst hv4
       have HS := Lib.hid (HS.out.below hb5)
       have HC2 := Lib.hid (below_cell hb5 HC2.out)
       have HO := Lib.hid (ownsRow_keep HO.out (K := fun _ => True) (Keep.of_below' hb5) (fun _ _ => trivial))
       have HI4 := Lib.hid hi4
       have hgs4 := Nat.le_trans hgs hb5.size
       clear hb4 hb5 ho4 hi4 hSS K0 KD HC1
       go_upto_region 18 with fail
       have k0 : ∀ A, Below w4.heap.size w4 A → A.cell? ⟨w.heap.size + 2, 3, none⟩ = some (.slice (some ⟨mb, mo, none⟩) x.many.length mc) ∧ A.cell? ⟨mb, mo + k, none⟩ = some (.int .i64 (q : Int)) := fun A hA => ⟨(HS.out.br.below' hA).cell 3, below_cell hA HC2.out⟩
       have kd : ∀ A, Below w4.heap.size w4 A → (Instr.loadAt 115 (.pointer (some ⟨w.heap.size + 1, 0, none⟩))).run Tryz.prog A = .ok (.agg (dciCells d)) A := fun A hA => run_dci (HS.out.dc.below' hA)
       have K0 := Lib.hid k0
       have KD := Lib.hid kd
       clear k0 kd
       refine wp_region_L (fun A => Below w4.heap.size w4 A) 7 (by kernel_rfl) ?_
       have hSS : Below w4.heap.size w4 w4.drew := (Below.refl _ w4).drew
       refine anyL_load (i := 0) 115 _ (by kernel_rfl) rfl (by kernel_rfl) (by kernel_rfl) (by kernel_rfl) (by kernel_rfl) (fun _ _ _ h => h) (by rfl) rfl rfl KD.out hSS ?_
       try (dsimp only); try simp only [Act.put, List.setIfInBounds_toArray, List.set_cons_zero, List.set_cons_succ]
       refine anyL_take (i := 1) (v := ?_) (by kernel_rfl) rfl (by kernel_rfl) (by kernel_rfl) (by kernel_rfl) (by kernel_rfl) (fun _ _ _ h => h) (by rfl) ?_ hSS ?_
       rotate_left
       ·(intro W hW; obtain ⟨q0, q1⟩ := K0.out W hW; go_simp; try with_reducible rfl)
       try (dsimp only); try simp only [Act.put, List.setIfInBounds_toArray, List.set_cons_zero, List.set_cons_succ]
       refine anyL_take (i := 2) (v := ?_) (by kernel_rfl) rfl (by kernel_rfl) (by kernel_rfl) (by kernel_rfl) (by kernel_rfl) (fun _ _ _ h => h) (by rfl) ?_ hSS ?_
       rotate_left
       ·(intro W hW; obtain ⟨q0, q1⟩ := K0.out W hW; go_simp; try with_reducible rfl)
       try (dsimp only); try simp only [Act.put, List.setIfInBounds_toArray, List.set_cons_zero, List.set_cons_succ]
       refine anyL_take (i := 3) (v := ?_) (by kernel_rfl) rfl (by kernel_rfl) (by kernel_rfl) (by kernel_rfl) (by kernel_rfl) (fun _ _ _ h => h) (by rfl) ?_ hSS ?_
       rotate_left
       ·(intro W hW; obtain ⟨q0, q1⟩ := K0.out W hW; go_simp; try with_reducible rfl)
       try (dsimp only); try simp only [Act.put, List.setIfInBounds_toArray, List.set_cons_zero, List.set_cons_succ]
       refine anyL_take (i := 4) (v := ?_) (by kernel_rfl) rfl (by kernel_rfl) (by kernel_rfl) (by kernel_rfl) (by kernel_rfl) (fun _ _ _ h => h) (by rfl) ?_ hSS ?_
       rotate_left
       ·(intro W hW; obtain ⟨q0, q1⟩ := K0.out W hW; go_simp; try with_reducible rfl)
       try (dsimp only); try simp only [Act.put, List.setIfInBounds_toArray, List.set_cons_zero, List.set_cons_succ]
       refine anyL_take (i := 5) (v := ?_) (by kernel_rfl) rfl (by kernel_rfl) (by kernel_rfl) (by kernel_rfl) (by kernel_rfl) (fun _ _ _ h => h) (by rfl) ?_ hSS ?_
       rotate_left
       ·(intro W hW; obtain ⟨q0, q1⟩ := K0.out W hW; go_simp; try with_reducible rfl)
       try (dsimp only); try simp only [Act.put, List.setIfInBounds_toArray, List.set_cons_zero, List.set_cons_succ]
       refine anyL_call (i := 6) (f := 149) (args := #[.agg (dciCells d), .int .i64 (q : Int)]) rfl (by kernel_rfl) (by rfl) ?_ (classR_any d HSY.out HD.out q (by omega) _) ?_
       ·go_simp
       rintro e w5 ⟨v5, rfl, ho6, hb6⟩
       have hb7 : Below w4.heap.size w4 w5 := hSS.trans hb6
       refine .inl ⟨v5, rfl, .inr hb7, ?_⟩
       try (dsimp only); try simp only [Act.put, List.setIfInBounds_toArray, List.set_cons_zero, List.set_cons_succ]
       refine anyL_run (i := 7) (v := v5) (w' := w5) rfl (by kernel_rfl) (by rfl) (by go_simp) (.inl rfl) ?_
       try (dsimp only); try simp only [Act.put, List.setIfInBounds_toArray, List.set_cons_zero, List.set_cons_succ]
       refine anyL_done (by kernel_rfl) ?_ _
       obtain ⟨a5, c5, hv5, hi5⟩ := own_has ho6
       subst hv5
       have HS := Lib.hid (HS.out.below hb7)
       have HO := Lib.hid (ownsRow_keep HO.out (K := fun _ => True) (Keep.of_below' hb7) (fun _ _ => trivial))
       have HI4 := Lib.hid (HI4.out.below hb7)
       have HI5 := Lib.hid hi5
       have hgs5 := Nat.le_trans hgs4 hb7.size
       clear hb6 hb7 ho6 hi5 hSS K0 KD HC2
       have hL := run_dci HS.out.dc
       have hlp := clsR_len d p
       have hlq := clsR_len d q
       have HPT := Lib.hid (partedR_any d HD.out (clsR d p) (clsR d q) (clsR_eight HSY.out) (clsR_eight HSY.out) (by omega) (by omega) a4 a5 c4 c5 w5 HI4.out HI5.out)
       go_upto_region 20 with (first
        | (refine wpList_load_box rfl 115 _ rfl rfl hL ?_)
        | (go_at_call 150; (with_reducible refine HPT.out.mono ?_); rintro e w6 ⟨rfl, hb6⟩))
       have HS := Lib.hid (HS.out.below hb6)
       have HO := Lib.hid (ownsRow_keep HO.out (K := fun _ => True) (Keep.of_below' hb6) (fun _ _ => trivial))
       have HI4 := Lib.hid (HI4.out.below hb6)
       have HI5 := Lib.hid (HI5.out.below hb6)
       have hgs6 := Nat.le_trans hgs5 hb6.size
       obtain ⟨e1, e2⟩ := HS.out.cells
       dsimp only at e2
       have hpin := clsR_in HSY.out HSU.out hp2
       have hqin := clsR_in HSY.out HSU.out hq2
       have hcg := clashingR_any c (by omega) pa pc (clsR d p) (clsR d q) hpin hqin (by omega) (by omega) a4 a5 c4 c5 w6 (HP.out.below HS.out.old) HI4.out HI5.out
       simp only [clashOut] at hcg
       have HCG := Lib.hid hcg
       have HPI := Lib.hid hpin
       have HQI := Lib.hid hqin
       clear hb6 hL HPT hcg hpin hqin
       have HMEM := Lib.hid (fun z => @clashR_mem c (clsR d p) (clsR d q) z)
       have HPC := Lib.hid (fun z => @pairIds_clash c d p q z)
       have HPP := Lib.hid (@pairIds_parted c d p q)
       generalize partedR d (clsR d p) (clsR d q) = pt at *
       generalize clashR c (clsR d p) (clsR d q) = cl at *
       go_upto_region 21 with (go_at_call 151; (with_reducible refine HCG.out.mono ?_); rintro e w7 ⟨rfl, hb7⟩)
       have hb8 : Below w6.heap.size w6 (w7.alloc (.cells #[.int .i64 ((cl.getD (0, 0)).1 : Nat), .int .i64 ((cl.getD (0, 0)).2 : Nat)] 71)) := hb7.alloc hb7.size _
       have g8 : Box (w7.alloc (.cells #[.int .i64 ((cl.getD (0, 0)).1 : Nat), .int .i64 ((cl.getD (0, 0)).2 : Nat)] 71)) w7.heap.size #[.int .i64 ((cl.getD (0, 0)).1 : Nat), .int .i64 ((cl.getD (0, 0)).2 : Nat)] 71 := Box.new _ _ _
       generalize w7.alloc (.cells #[.int .i64 ((cl.getD (0, 0)).1 : Nat), .int .i64 ((cl.getD (0, 0)).2 : Nat)] 71) = w8 at *
       generalize w7.heap.size = g7 at *
       have HS := Lib.hid (HS.out.below hb8)
       have HO := Lib.hid (ownsRow_keep HO.out (K := fun _ => True) (Keep.of_below' hb8) (fun _ _ => trivial))
       have hgs8 := Nat.le_trans hgs6 hb8.size
       have HG8 := Lib.hid g8
       clear hb7 hb8 g8 HI4 HI5 HCG e1 e2
       rcases pt with _ | _
       ·rcases cl with _ | z
        ·have HNL := Lib.hid (show leafB c d c.parts.length ⟨4, x.a, x.b, x.many⟩ = false by
          rw [leaf_many]
          rcases hm : manyB c d c.parts.length x.a x.b x.many with _ | _
          ·rfl
          ·have h1 : PairOk c d L i k := HMR.out.1 hm i k (by omega) hlk
           rw [HOKX.out] at h1
           simp at h1)
         go_wp2_with fail
         go_ret2
         rw [HNL.out]
         exact leafPost_no HS.out.old
        ·have hz1 := HPI.out z.1 (HMEM.out z rfl).1
         have hz2 := HQI.out z.2 (HMEM.out z rfl).2
         have HPE := Lib.hid (HPC.out z rfl rfl)
         have HOKY := Lib.hid (show PairOk c d L i k by rw [HOKX.out]; rfl)
         have f1 : ∀ i, w8.cell? ⟨g7, i, none⟩ = (#[.int .i64 (z.1 : Nat), .int .i64 (z.2 : Nat)] : Array Value)[i]? := HG8.out.cell
         obtain ⟨e1, e2⟩ := HS.out.cells
         dsimp only at e2
         have HIR := Lib.hid (idsR_any c (by omega) z.1 z.2 pa pc w8 (HP.out.below HS.out.old) hz1 hz2)
         have hlen1 := manyIds_len (c := c) (d := d) L i (by rw [HLL.out]; omega)
         have hlen2 := rowIds_len (c := c) (d := d) L i k
         have hlen3 : L.length * i ≤ 8 * 8 := Nat.mul_le_mul (by rw [HLL.out]; omega) (by omega)
         have HLEN := Lib.hid (show (c.by_ :: (manyIds c d L i ++ rowIds c d L i k)).length ≤ 1000 by rw [List.length_cons, List.length_append]; omega)
         clear hlen1 hlen2 hlen3
         go_wp2_with (first
          | (go_at_call 152; (with_reducible refine HIR.out.mono ?_); rintro e w9 ⟨g9, rfl, hi9, hl9, hb9⟩
             have HS := Lib.hid (HS.out.below hb9)
             have hgs9 := Nat.le_trans hgs8 hb9.size
             obtain ⟨v10, w10, hrun, hown, hb10⟩ := app_ints (ownsRow_keep HO.out (K := fun _ => True) (Keep.of_below' hb9) (fun _ _ => trivial)) (cap := 2) hl9 hi9 (by have := HLEN.out; omega) hgs9
             have HRN := Lib.hid hrun
             have HOW := Lib.hid hown
             have HL9 := Lib.hid hl9
             have hS10 : LeafSt c pa pc d ⟨4, x.a, x.b, x.many⟩ (some ⟨mb, mo, none⟩) mc w w10 := ⟨HS.out.cs.below hb10 (by omega), HS.out.dc.below hb10 (by omega), HS.out.br.below hb10 (by omega), HS.out.old.trans (hb10.mono (by omega))⟩
             have HS10 := Lib.hid hS10
             have hgs10 := Nat.le_trans hgs9 hb10.size
             clear hrun hown hb9 hb10 hi9 hl9 hS10)
          | (at_builtin; refine wpList_app rfl _ _ _ rfl rfl rfl HRN.out ?_))
         go_roundw
         case rel =>
          refine ⟨k + 1, by omega, by omega, by go_num, ?_, Lib.hid (fun k' h1 h2 => ?_), HS10.out, by omega⟩
          ·have h := HOW.out
           rw [HROW.out, HPE.out, ← List.append_assoc, ← List.cons_append, List.length_append, List.map_append, HL9.out]
           exact h
          ·rcases Nat.lt_or_ge k' k with h3 | h3
           ·exact HOKR.out k' h1 h3
           ·have : k' = k := by omega
            rw [this]; exact HOKY.out
         case measure => simp [intOf]; omega
       ·have HPE := Lib.hid (HPP.out rfl)
        have HOKY := Lib.hid (show PairOk c d L i k by rw [HOKX.out]; rfl)
        go_wp2_with fail
        go_roundw
        case rel =>
         refine ⟨k + 1, by omega, by omega, by go_num, ?_, Lib.hid (fun k' h1 h2 => ?_), HS.out, by omega⟩
         ·rw [HROW.out, HPE.out, List.append_nil]
          exact HO.out
         ·rcases Nat.lt_or_ge k' k with h3 | h3
          ·exact HOKR.out k' h1 h3
          ·have : k' = k := by omega
           rw [this]; exact HOKY.out
        case measure => simp [intOf]; omega
      ·have hke : k = x.many.length := by omega
       go_wp2_with fail
       go_roundw
       case rel =>
        refine ⟨i + 1, by omega, by go_num, ?_, Lib.hid (fun i' k' h1 h2 h3 => ?_), HS.out, hgs⟩
        ·have h := HO.out
         rw [hke, ← HLL.out, ← manyIds_succ] at h
         exact h
        ·rcases Nat.lt_or_ge i' i with h4 | h4
         ·exact HOKS.out i' k' h4 h2 h3
         ·have : i' = i := by omega
          rw [this] at h2 ⊢
          exact HOKR.out k' h2 (by omega)
       case measure => simp [intOf]; omega
    ·have hie : i = x.many.length := by omega
     subst hie
     have HYES := Lib.hid (show leafB c d c.parts.length ⟨4, x.a, x.b, x.many⟩ = true by
      rw [leaf_many]
      exact HMR.out.2 fun i' k' h1 h2 => HOKS.out i' k' (by omega) h1 h2)
     obtain ⟨av, cv, hv, hro, hcv⟩ := ownsRow_own HO.out
     subst hv
     have HRO := Lib.hid hro
     have HCV := Lib.hid hcv
     clear hro hcv
     go_wp2_with fail
     go_ret2
     rw [HYES.out, HIDS.out]
     exact ⟨HS.out.old, _, _, _, rfl, fun _ => ⟨rfl, ints_rowOwn HRO.out, HCV.out⟩, fun h => by cases h⟩
end Go.Proofs.YtpjcnkajimgagaaGreat
