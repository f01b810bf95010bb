/- The reference's SamePart and SameCase, of equal ones. -/
/- The reference's Copied: a case in new memory. -/
import Derived.Test.YtpjcnkajimgagaaGreatMRefA
import Derived.Test.YtpjcnkajimgagaaGreatMRemade
import Derived.Test.YtpjcnkajimgagaaGreatMCase
import Derived.Test.YtpjcnkajimgagaaGreatMHeld
import Derived.Test.YtpjcnkajimgagaaGreatMOpen
import Derived.Test.YtpjcnkajimgagaaGreatMTry
import Derived.Deep.MidRow
set_option linter.unusedSimpArgs false
set_option linter.unusedVariables false
namespace Go.Proofs.YtpjcnkajimgagaaGreat
open Go.RowKit
attribute [local go_sem] Oper.semAt_some

set_option maxRecDepth 100000 in
set_option maxHeartbeats 2000000 in
theorem samePart_ref (p : Prt) (a1 : Option Addr) (c1 : Nat) (a2 : Option Addr) (c2 : Nat) (b1 : Option Addr) (d1 : Nat) (b2 : Option Addr) (d2 : Nat) (w : World) (h1 : Ints w a1 p.sherds) (h2 : Ints w a2 p.rests) (k1 : Ints w b1 p.sherds) (k2 : Ints w b2 p.rests) (hl1 : p.sherds.length ≤ 1000000) (hl2 : p.rests.length ≤ 1000000) :
  Calls Tryz.prog 69 #[.agg (prtCells p a1 c1 a2 c2).toArray, .agg (prtCells p b1 d1 b2 d2).toArray] w fun e w' => e = .returned (.bool true) ∧ Below w.heap.size w w' := by
 obtain ⟨w1, hw1⟩ : ∃ w1, (w.alloc (.cells #[.slice a1 p.sherds.length c1, .int .i64 p.span.low, .int .i64 p.span.high, .int .i64 p.span.lowBy, .int .i64 p.span.highBy, .bool p.foot, .int .i64 p.footBy, .slice a2 p.rests.length c2] 52)).alloc (.cells #[.slice b1 p.sherds.length d1, .int .i64 p.span.low, .int .i64 p.span.high, .int .i64 p.span.lowBy, .int .i64 p.span.highBy, .bool p.foot, .int .i64 p.footBy, .slice b2 p.rests.length d2] 52) = w1 := ⟨_, rfl⟩
 have hB1 : Below w.heap.size w w1 := by rw [← hw1]; go_grown
 have g1 : Box w1 w.heap.size #[.slice a1 p.sherds.length c1, .int .i64 p.span.low, .int .i64 p.span.high, .int .i64 p.span.lowBy, .int .i64 p.span.highBy, .bool p.foot, .int .i64 p.footBy, .slice a2 p.rests.length c2] 52 := by rw [← hw1]; exact (Box.new _ _ _).alloc _
 have g2 : Box w1 (w.heap.size + 1) #[.slice b1 p.sherds.length d1, .int .i64 p.span.low, .int .i64 p.span.high, .int .i64 p.span.lowBy, .int .i64 p.span.highBy, .bool p.foot, .int .i64 p.footBy, .slice b2 p.rests.length d2] 52 := by rw [← hw1]; exact Box.new' (by simp)
 have HS1 := Lib.hid (fun W (hB : Below w.heap.size w W) => (same_ref a1 b1 c1 d1 p.sherds p.sherds W (h1.below hB) (k1.below hB) hl1 hl1).mono (fun (e : Ending) (w' : World) hh => (by rw [decide_eq_true rfl] at hh; exact hh : e = .returned (.bool true) ∧ Below W.heap.size W w')))
 have HS2 := Lib.hid (fun W (hB : Below w.heap.size w W) => (same_ref a2 b2 c2 d2 p.rests p.rests W (h2.below hB) (k2.below hB) hl2 hl2).mono (fun (e : Ending) (w' : World) hh => (by rw [decide_eq_true rfl] at hh; exact hh : e = .returned (.bool true) ∧ Below W.heap.size W w')))
 have e1 := g1.cell
 have e2 := g2.cell
 have HW := Lib.hid hw1
 have HB1 := Lib.hid hB1
 have G1 := Lib.hid g1
 have G2 := Lib.hid g2
 clear hw1 hB1 g1 g2 h1 h2 k1 k2 hl1 hl2
 simp only [prtCells]
 go_enter Tryz.func69, Tryz.ntmps69
 go_upto_region 1 with fail
 simp only [HW.out]
 go_upto_region 2 with (go_at_call 14; (with_reducible refine (HS1.out _ HB1.out).mono ?_); rintro e w2 ⟨rfl, hb2⟩; have HB2 := Lib.hid (HB1.out.trans (hb2.mono HB1.out.size)); have G1 := Lib.hid (G1.out.below' hb2); have G2 := Lib.hid (G2.out.below' hb2); clear hb2 e1 e2)
 have e1 := G1.out.cell
 have e2 := G2.out.cell
 go_upto_region 3 with (go_at_call 14; (with_reducible refine (HS2.out _ HB2.out).mono ?_); rintro e w3 ⟨rfl, hb3⟩; have HB3 := Lib.hid (HB2.out.trans (hb3.mono HB2.out.size)); have G1 := Lib.hid (G1.out.below' hb3); have G2 := Lib.hid (G2.out.below' hb3); clear hb3 e1 e2)
 have e1 := G1.out.cell
 have e2 := G2.out.cell
 go_wp2_with fail
 go_ret
 exact ⟨by simp, HB3.out⟩
theorem part_info (p : Prt) (sa : Option Addr) (sc : Nat) (ra : Option Addr) (rc : Nat) : (Tryz.prog.info? 52).map (·.size) = some (prtCells p sa sc ra rc).toArray.size := by
 have := info_part
 rcases h : Tryz.prog.info? 52 with _ | i
 ·rw [h] at this; cases this
 ·rw [h] at this
  simp only [Option.map_some, Option.some.injEq, Prod.mk.injEq] at this
  simp [prtCells, this.2]
set_option maxRecDepth 100000 in
set_option maxHeartbeats 2000000 in
theorem sameCase_ref (c : Cs) (hsm : c.Small) (pa : Option Addr) (pc : Nat) (pb : Option Addr) (qc : Nat) (w : World) (hp : PartsAt w pa c.parts) (hq : PartsAt w pb c.parts) :
  Calls Tryz.prog 25 #[.agg #[.string c.ware, .int .i64 c.limit, .int .i64 c.by_, .slice pa c.parts.length pc], .agg #[.string c.ware, .int .i64 c.limit, .int .i64 c.by_, .slice pb c.parts.length qc]] w fun e w' => e = .returned (.bool true) ∧ Below w.heap.size w w' := by
 obtain ⟨hs1, hs2, hs3⟩ := hsm
 obtain ⟨w1, hw1⟩ : ∃ w1, (w.alloc (.cells #[.string c.ware, .int .i64 c.limit, .int .i64 c.by_, .slice pa c.parts.length pc] 24)).alloc (.cells #[.string c.ware, .int .i64 c.limit, .int .i64 c.by_, .slice pb c.parts.length qc] 24) = w1 := ⟨_, rfl⟩
 have hB1 : Below w.heap.size w w1 := by rw [← hw1]; go_grown
 have g1 : Box w1 w.heap.size #[.string c.ware, .int .i64 c.limit, .int .i64 c.by_, .slice pa c.parts.length pc] 24 := by rw [← hw1]; exact (Box.new _ _ _).alloc _
 have g2 : Box w1 (w.heap.size + 1) #[.string c.ware, .int .i64 c.limit, .int .i64 c.by_, .slice pb c.parts.length qc] 24 := by rw [← hw1]; exact Box.new' (by simp)
 have e1 := g1.cell
 have e2 := g2.cell
 have HW := Lib.hid hw1
 have HB1 := Lib.hid hB1
 have G1 := Lib.hid g1
 have G2 := Lib.hid g2
 have HP := Lib.hid hp
 have HQ := Lib.hid hq
 have HS3 := Lib.hid hs3
 clear hw1 hB1 g1 g2 hp hq hs3
 go_enter Tryz.func25, Tryz.ntmps25
 go_upto_region 1 with fail
 simp only [HW.out]
 go_upto_region 3 with fail
 clear e1 e2
 go_wp2_with fail
 go_loopw [5] (fun iv wr => ∃ i : Nat, i ≤ c.parts.length ∧ iv = .int .i64 i ∧ Below w1.heap.size w1 wr) (fun iv _ => c.parts.length - (intOf iv).toNat)
 case atStart => exact ⟨0, Nat.zero_le _, rfl, Below.refl _ _⟩
 case round =>
  obtain ⟨i, hi, rfl, hB⟩ := hrel
  have HB := Lib.hid hB
  have e1 := (G1.out.below' hB).cell
  clear hB
  by_cases hil : i < c.parts.length
  ·have hbw := HB1.out.trans (HB.out.mono HB1.out.size)
   obtain ⟨b, o, p, rfl, hp, sa, sc, ra, rc, x1, x2, x3, x4, x5⟩ := (HP.out.below hbw).at_ hil
   obtain ⟨b', o', p', rfl, hp', ya, yc, za, zc, y1, y2, y3, y4, y5⟩ := (HQ.out.below hbw).at_ hil
   rw [hp] at hp'
   cases hp'
   have hin : (i : Int) < (c.parts.length : Int) := by omega
   have hsp := HS3.out p (List.mem_of_getElem? hp)
   have hc1 : wr.cell? ⟨w.heap.size, 3, none⟩ = some (.slice (some ⟨b, o, none⟩) c.parts.length pc) := e1 3
   have hc2 : wr.cell? ⟨w.heap.size + 1, 3, none⟩ = some (.slice (some ⟨b', o', none⟩) c.parts.length qc) := (G2.out.below' HB.out).cell 3
   go_upto_region 6 with fail
   refine wp_region_heldB 12 [] (by kernel_rfl) (by kernel_rfl) (by kernel_rfl) (by simp) ?_
   intro S hS
   have k0 : ∀ A, S A → A.cell? ⟨w.heap.size, 3, none⟩ = some (.slice (some ⟨b, o, none⟩) c.parts.length pc) ∧ A.cell? ⟨w.heap.size + 1, 3, none⟩ = some (.slice (some ⟨b', o', none⟩) c.parts.length qc) := fun A h => ⟨below_cell (hS A h) hc1, below_cell (hS A h) hc2⟩
   have k1 : ∀ A, S A → (Instr.loadAt 52 (.pointer (some ⟨b, o + i * 8, none⟩))).run Tryz.prog A = .ok (.agg (prtCells p sa sc ra rc).toArray) A := fun A h => run_load_at (fun j v hv => below_cell (hS A h) (x1 j v (by simpa using hv))) Tryz.underlying52 rfl (part_info _ _ _ _ _)
   have k2 : ∀ A, S A → (Instr.loadAt 52 (.pointer (some ⟨b', o' + i * 8, none⟩))).run Tryz.prog A = .ok (.agg (prtCells p ya yc za zc).toArray) A := fun A h => run_load_at (fun j v hv => below_cell (hS A h) (y1 j v (by simpa using hv))) Tryz.underlying52 rfl (part_info _ _ _ _ _)
   have K0 := Lib.hid k0
   have K1 := Lib.hid k1
   have K2 := Lib.hid k2
   have HS := Lib.hid hS
   have HC := Lib.hid (fun W (h : Below wr.heap.size wr W) => samePart_ref p sa sc ra rc ya yc za zc W (x2.below h) (x3.below h) (y2.below h) (y3.below h) (by omega) (by omega))
   clear k0 k1 k2 hS hc1 hc2 e1 x1 x2 x3 y1 y2 y3 hbw
   simp only [List.take_succ_cons, List.take_zero, List.drop_succ_cons, List.drop_zero]
   repeat (first
    | (refine held_load 52 _ (by rfl) rfl rfl K1.out ?_; try (dsimp only); try simp only [Act.put, List.setIfInBounds_toArray, List.set_cons_zero, List.set_cons_succ])
    | (refine held_load 52 _ (by rfl) rfl rfl K2.out ?_; try (dsimp only); try simp only [Act.put, List.setIfInBounds_toArray, List.set_cons_zero, List.set_cons_succ])
    | (refine held_not rfl (by rfl) ?_; try (dsimp only); try simp only [Act.put, List.setIfInBounds_toArray, List.set_cons_zero, List.set_cons_succ])
    | (refine held_val (v := ?_) rfl (by rfl) ?_ ?_; rotate_left; (· (intro W hW; obtain ⟨q0, q1⟩ := K0.out W hW; go_simp; try with_reducible rfl)); try (dsimp only); try simp only [Act.put, List.setIfInBounds_toArray, List.set_cons_zero, List.set_cons_succ])
    | (refine held_skip rfl (by rfl) ?_ ?_; (· (intro W hW; obtain ⟨q0, q1⟩ := K0.out W hW; go_simp; try with_reducible rfl)); try (dsimp only); try simp only [Act.put, List.setIfInBounds_toArray, List.set_cons_zero, List.set_cons_succ])
    | (refine held_call (v := .bool true) (f := 69) (args := #[.agg (prtCells p sa sc ra rc).toArray, .agg (prtCells p ya yc za zc).toArray]) rfl (by rfl) ?_ ?_ ?_; (· (intro W hW; go_simp; done)); (· exact (fun W hW => HC.out W (HS.out W hW))); try (dsimp only); try simp only [Act.put, List.setIfInBounds_toArray, List.set_cons_zero, List.set_cons_succ]))
   refine held_nil ?_
   intro τ hτ w3 hW hO
   obtain rfl := laid0 hτ
   have HB3 := Lib.hid (HS.out w3 hW)
   clear hτ hO hW K0 K1 K2 HS
   simp only [overs, List.foldl_nil]
   go_wp2_with fail
   go_roundw
   case rel => exact ⟨i + 1, by omega, by go_num, HB.out.trans (HB3.out.mono HB.out.size)⟩
   case measure => simp [intOf]; omega
  ·have hie : i = c.parts.length := by omega
   subst hie
   go_wp2_with fail
   go_ret
   exact ⟨rfl, HB1.out.trans (HB.out.mono HB1.out.size)⟩
end Go.Proofs.YtpjcnkajimgagaaGreat
namespace Go.Proofs.YtpjcnkajimgagaaGreat
open Go.RowKit
attribute [local go_sem] Oper.semAt_some

/-- a part and where its lists lie -/
abbrev PrtM := Prt × (Option Addr × Nat) × (Option Addr × Nat)
def prtRow (z : PrtM) : List Value := prtCells z.1 z.2.1.1 z.2.1.2 z.2.2.1 z.2.2.2
theorem prtRow_len (z : PrtM) : (prtRow z).length = 8 := rfl
theorem prtRow_one (z : PrtM) : ∀ u ∈ prtRow z, u.oneCell' = true := prt_one _ _ _ _ _
/-- its lists lie in blocks of the call's own, not in the row -/
def PrtLists (B : Nat) (v : Value) (W : World) (z : PrtM) : Prop :=
 Ints W z.2.1.1 z.1.sherds ∧ Ints W z.2.2.1 z.1.rests ∧ z.1.sherds.length ≤ z.2.1.2 ∧ z.1.rests.length ≤ z.2.2.2 ∧ (∀ b o, z.2.1.1 = some ⟨b, o, none⟩ → 0 < z.1.sherds.length → B ≤ b ∧ v.ownBlock ≠ some b) ∧ (∀ b o, z.2.2.1 = some ⟨b, o, none⟩ → 0 < z.1.rests.length → B ≤ b ∧ v.ownBlock ≠ some b)
/-- parts in a row of the call's own -/
def PartsV (B : Nat) (W : World) (v : Value) (l : List Prt) : Prop :=
 ∃ zs : List PrtM, zs.map (·.1) = l ∧ W.ownsRow B 52 8 v l.length (zs.flatMap prtRow) ∧ ∀ z ∈ zs, PrtLists B v W z
theorem PrtLists.keep {K : Nat → Prop} {B : Nat} {v : Value} {W W' : World} {z : PrtM} (h : PrtLists B v W z) (hk : Keep K W W') (hK : ∀ k, B ≤ k → v.ownBlock ≠ some k → K k) : PrtLists B v W' z := by
 obtain ⟨h1, h2, h3, h4, h5, h6⟩ := h
 exact ⟨ints_keep h1 hk (fun b o ha hl => hK b (h5 b o ha hl).1 (h5 b o ha hl).2), ints_keep h2 hk (fun b o ha hl => hK b (h6 b o ha hl).1 (h6 b o ha hl).2), h3, h4, h5, h6⟩
theorem PartsV.keep {K : Nat → Prop} {B : Nat} {W W' : World} {v : Value} {l : List Prt} (h : PartsV B W v l) (hk : Keep K W W') (hK : ∀ k, B ≤ k → K k) : PartsV B W' v l := by
 obtain ⟨zs, h1, h2, h3⟩ := h
 exact ⟨zs, h1, ownsRow_keep h2 hk hK, fun z hz => (h3 z hz).keep hk (fun k hk _ => hK k hk)⟩
theorem PartsV.below {B : Nat} {W W' : World} {v : Value} {l : List Prt} (h : PartsV B W v l) (hb : Below W.heap.size W W') : PartsV B W' v l := h.keep (K := fun _ => True) (Keep.of_below' hb) (fun _ _ => trivial)
theorem PartsV.slice {B : Nat} {W : World} {v : Value} {l : List Prt} (h : PartsV B W v l) : ∃ a cap, v = .slice a l.length cap ∧ l.length ≤ cap := by
 obtain ⟨zs, h1, h2, h3⟩ := h
 obtain ⟨a, c, h4, _, h5⟩ := ownsRow_own h2
 exact ⟨a, c, h4, h5⟩
theorem PartsV.mono {B B' : Nat} {W : World} {v : Value} {l : List Prt} (h : PartsV B W v l) (hB : B' ≤ B) : PartsV B' W v l := by
 obtain ⟨zs, h1, h2, h3⟩ := h
 exact ⟨zs, h1, ⟨h2.1, h2.2.imp id (fun ⟨g, cap, cur, e, hb, r⟩ => ⟨g, cap, cur, e, Nat.le_trans hB hb, r⟩)⟩, fun z hz => by
  obtain ⟨q1, q2, q3, q4, q5, q6⟩ := h3 z hz
  exact ⟨q1, q2, q3, q4, fun b o ha hl => ⟨Nat.le_trans hB (q5 b o ha hl).1, (q5 b o ha hl).2⟩, fun b o ha hl => ⟨Nat.le_trans hB (q6 b o ha hl).1, (q6 b o ha hl).2⟩⟩⟩
theorem PartsV.nil (B : Nat) (W : World) : PartsV B W (.slice none 0 0) [] := ⟨[], rfl, World.ownsRow_nil _ _ _ _, fun _ h => absurd h (by simp)⟩
theorem flat8_at {zs : List PrtM} : ∀ {i j : Nat} {z : PrtM}, zs[i]? = some z → j < 8 → (zs.flatMap prtRow)[i * 8 + j]? = (prtRow z)[j]? := by
 induction zs with
 | nil => intro i j z h; simp at h
 | cons y ys ih =>
  intro i j z h hj
  rcases i with _ | i
  ·simp at h; subst h
   rw [List.flatMap_cons, List.getElem?_append_left (by rw [prtRow_len]; omega)]; congr 1; omega
  ·rw [List.flatMap_cons, List.getElem?_append_right (by rw [prtRow_len]; omega), prtRow_len, show (i + 1) * 8 + j - 8 = i * 8 + j by omega]
   exact ih (by simpa using h) hj
theorem PartsV.at_ {B : Nat} {W : World} {a : Option Addr} {k cap : Nat} {l : List Prt} (h : PartsV B W (.slice a k cap) l) : PartsAt W a l := fun i p hp => by
 obtain ⟨zs, h1, h2, h3⟩ := h
 have hi : i < l.length := (List.getElem?_eq_some_iff.1 hp).1
 obtain ⟨z, hz⟩ : ∃ z, zs[i]? = some z := ⟨_, List.getElem?_eq_getElem (by have := congrArg List.length h1; simp at this; omega)⟩
 have hzp : z.1 = p := by rw [← h1, List.getElem?_map, hz] at hp; simpa using hp
 obtain ⟨q1, q2, q3, q4, _, _⟩ := h3 z (List.mem_of_getElem? hz)
 obtain ⟨_, ⟨_, h0⟩ | ⟨g, c, cur, hv, _⟩⟩ := id h2
 ·omega
 ·cases hv
  refine ⟨g, 0, rfl, z.2.1.1, z.2.1.2, z.2.2.1, z.2.2.2, fun j v hv => ?_, by rw [← hzp]; exact q1, by rw [← hzp]; exact q2, by rw [← hzp]; exact q3, by rw [← hzp]; exact q4⟩
  have hj : j < 8 := (List.getElem?_eq_some_iff.1 hv).1
  have := h2.cells (g := g) rfl (i * 8 + j) v (by rw [flat8_at hz hj, prtRow, hzp]; exact hv)
  rw [Addr.add_mid, Nat.zero_add] at this
  rw [Nat.zero_add]; exact this
/-- a part is put behind the row -/
theorem part_push {B : Nat} {W : World} {v : Value} {l : List Prt} {z : PrtM} (h : PartsV B W v l) (hl : l.length + 1 ≤ 1000) (hB : B ≤ W.heap.size) (hz : PrtLists B v W z) :
  ∃ a c U, (Builtin.append_ #[22, 22] 22 #[v, .slice (some ⟨W.heap.size, 0, none⟩) 1 1]).run Tryz.prog (W.alloc (.cells (prtRow z).toArray 52)) = .ok (.slice a (l.length + 1) c) U ∧ PartsV B U (.slice a (l.length + 1) c) (l ++ [z.1]) ∧ Below B W U := by
 obtain ⟨zs, h1, h2, h3⟩ := h
 have hrow : Row (W.alloc (.cells (prtRow z).toArray 52)) (some ⟨W.heap.size, 0, none⟩) (prtRow z) := fun k u hu => ⟨W.heap.size, 0, rfl, by rw [(Box.new W (prtRow z).toArray 52).cell, Nat.zero_add]; simpa using hu⟩
 have hbl : Below W.heap.size W (W.alloc (.cells (prtRow z).toArray 52)) := (Below.refl _ W).alloc (Nat.le_refl _) _
 have h2' := h2.alloc (.cells (prtRow z).toArray 52)
 obtain ⟨v', U, hrun, hown, hgr, hvb⟩ := run_append_row (P := Tryz.prog) _ B 22 22 52 zeroPart 8 96 Tryz.underlying22 info_partz rfl (by omega) v _ _ h2' (some ⟨W.heap.size, 0, none⟩) 1 1 (prtRow z) rfl hrow (prtRow_one z) (by omega) (by omega) (by have := hbl.size; omega)
 have kU : Keep (fun k => v.ownBlock ≠ some k) W U := ((Keep.refl _ W).alloc _).trans ((Keep.refl _ _).grown hgr (fun k hk => .inl (fun h => h hk)))
 obtain ⟨a, c, rfl, _, _⟩ := ownsRow_own hown
 refine ⟨a, c, U, hrun, ⟨zs ++ [z], by simp [h1], by rw [List.flatMap_append, List.length_append, List.length_singleton]; simpa using hown, fun y hy => ?_⟩, (hbl.mono hB).trans (grown_below h2' hgr (Nat.le_refl _) (by have := hbl.size; omega))⟩
 have hy' : PrtLists B v W y := by
  rcases List.mem_append.1 hy with hy | hy
  ·exact h3 y hy
  ·rw [List.mem_singleton.1 hy]; exact hz
 obtain ⟨q1, q2, q3, q4, q5, q6⟩ := hy'.keep kU (fun k _ hk => hk)
 have far : ∀ b, b < W.heap.size → v.ownBlock ≠ some b → (Value.slice a (l.length + 1) c).ownBlock ≠ some b := fun b hb hne he => by
  rcases hvb with h | h
  ·exact hne (h ▸ he)
  ·rw [h] at he
   have := Option.some.inj he
   simp at this; omega
 exact ⟨q1, q2, q3, q4, fun b o ha hl => ⟨(q5 b o ha hl).1, far b (ints_block hy'.1 ha hl) (q5 b o ha hl).2⟩, fun b o ha hl => ⟨(q6 b o ha hl).1, far b (ints_block hy'.2.1 ha hl) (q6 b o ha hl).2⟩⟩
/-- a list laid anew: append([]int{}, l...) -/
theorem app_new {W : World} {a : Option Addr} {c : Nat} {l : List Int} (h : Ints W a l) (hl : l.length ≤ 100000) :
  ∃ a' c' U, (Builtin.append_ #[27, 27] 27 #[.slice (some ⟨W.heap.size, 0, none⟩) 0 0, .slice a l.length c]).run Tryz.prog (W.alloc (.cells #[] 3)) = .ok (.slice a' l.length c') U ∧ Ints U a' l ∧ l.length ≤ c' ∧ (∀ b o, a' = some ⟨b, o, none⟩ → 0 < l.length → W.heap.size ≤ b) ∧ Below W.heap.size W U := by
 obtain ⟨v', U, hrun, hown, hg, _⟩ := run_append_row (P := Tryz.prog) (W.alloc (.cells #[] 3)) W.heap.size 27 27 3 (.int .i64 0) 1 8 Tryz.underlying27 info_int rfl (by omega)
  (.slice (some ⟨W.heap.size, 0, none⟩) 0 0) 0 [] (ownsRow_empty W _ _ _ (Nat.le_refl _)) a l.length c (l.map (.int .i64)) (by simp) (h.below ((Below.refl _ W).alloc (Nat.le_refl _) _)) (ints_one l) (by omega) (by omega) (by simp)
 obtain ⟨a', c', rfl, hr, hcap⟩ := ownsRow_own hown
 have hr' : RowOwn W.heap.size U a' (l.map (Value.int .i64)) := by simpa using hr
 refine ⟨a', c', U, by simpa using hrun, ints_rowOwn hr', by simpa using hcap, fun b o ha hl => rowOwn_block hr' ha hl, ?_⟩
 exact ((Below.refl _ W).alloc (Nat.le_refl _) _).trans ((grown_below (ownsRow_empty W W.heap.size _ 1 (Nat.le_refl _)) hg (Nat.le_refl _) (by simp)))
/-- the case that Copied hands out: its parts are its own -/
def CopiedPost (c : Cs) (w : World) (e : Ending) (w' : World) : Prop := ∃ a cap, e = .returned (.agg #[.string c.ware, .int .i64 c.limit, .int .i64 c.by_, .slice a c.parts.length cap]) ∧ c.parts.length ≤ cap ∧ PartsV w.heap.size w' (.slice a c.parts.length cap) c.parts ∧ Below w.heap.size w w'
theorem box_grow {K : Nat → Prop} {W W' : World} {b : Nat} {cs : Array Value} {t : TypeId} (h : Box W b cs t) (hb : Below W.heap.size W W') : Box W' b cs t := h.below' hb
set_option maxRecDepth 100000 in
set_option maxHeartbeats 4000000 in
theorem copied_ref (c : Cs) (hsm : c.Small) (pa : Option Addr) (pc : Nat) (w : World) (hp : PartsAt w pa c.parts) :
  Calls Tryz.prog 26 #[.agg #[.string c.ware, .int .i64 c.limit, .int .i64 c.by_, .slice pa c.parts.length pc]] w (CopiedPost c w) := by
 obtain ⟨hs1, hs2, hs3⟩ := hsm
 obtain ⟨w1, hw1⟩ : ∃ w1, (w.alloc (.cells #[.string c.ware, .int .i64 c.limit, .int .i64 c.by_, .slice pa c.parts.length pc] 24)).alloc (.cells #[.string ⟨#[]⟩, .int .i64 0, .int .i64 0, .slice none 0 0] 24) = w1 := ⟨_, rfl⟩
 have hB1 : Below w.heap.size w w1 := by rw [← hw1]; go_grown
 have hz1 : w1.heap.size = w.heap.size + 2 := by rw [← hw1]; simp
 have g1 : Box w1 w.heap.size #[.string c.ware, .int .i64 c.limit, .int .i64 c.by_, .slice pa c.parts.length pc] 24 := by rw [← hw1]; exact (Box.new _ _ _).alloc _
 have g2 : Box w1 (w.heap.size + 1) #[.string ⟨#[]⟩, .int .i64 0, .int .i64 0, .slice none 0 0] 24 := by rw [← hw1]; exact Box.new' (by simp)
 have e1 := g1.cell
 have HW := Lib.hid hw1
 have HP := Lib.hid hp
 have HS3 := Lib.hid hs3
 have HZ1 := Lib.hid hz1
 clear hw1 hp hs3 hz1
 go_enter Tryz.func26, Tryz.ntmps26
 go_upto_region 1 with fail
 simp only [HW.out]
 go_upto_region 2 with fail
 have g3 : Box ((w1.alloc (.cells #[.string ⟨#[]⟩, .int .i64 0, .int .i64 0, .slice none 0 0] 24))) w1.heap.size #[.string ⟨#[]⟩, .int .i64 0, .int .i64 0, .slice none 0 0] 24 := Box.new _ _ _
 have hB2 : Below w.heap.size w (w1.alloc (.cells #[.string c.ware, .int .i64 c.limit, .int .i64 c.by_, .slice none 0 0] 24)) := hB1.alloc hB1.size _
 have g3 : Box (w1.alloc (.cells #[.string c.ware, .int .i64 c.limit, .int .i64 c.by_, .slice none 0 0] 24)) w1.heap.size #[.string c.ware, .int .i64 c.limit, .int .i64 c.by_, .slice none 0 0] 24 := Box.new _ _ _
 have g1' := g1.alloc (.cells #[.string c.ware, .int .i64 c.limit, .int .i64 c.by_, .slice none 0 0] 24)
 have g2' := g2.alloc (.cells #[.string c.ware, .int .i64 c.limit, .int .i64 c.by_, .slice none 0 0] 24)
 generalize w1.alloc (.cells #[.string c.ware, .int .i64 c.limit, .int .i64 c.by_, .slice none 0 0] 24) = w2 at *
 obtain ⟨D, hD⟩ : ∃ D, w1.heap.size = D := ⟨_, rfl⟩
 rw [hD] at g3
 simp only [hD]
 have hDw : D = w.heap.size + 2 := by rw [← hD, HZ1.out]
 have HD := Lib.hid hDw
 have G1 := Lib.hid g1'
 have G2 := Lib.hid g2'
 have G3 := Lib.hid g3
 have HB2 := Lib.hid hB2
 clear g1 g2 g3 g1' g2' hB1 hB2 e1 hD hDw HZ1
 go_wp2_with fail
 go_loopw [4] (fun iv wr => ∃ (i : Nat) (v : Value), i ≤ c.parts.length ∧ iv = .int .i64 i ∧ PartsV (w.heap.size + 3) wr v (c.parts.take i) ∧ Box wr D #[.string c.ware, .int .i64 c.limit, .int .i64 c.by_, v] 24 ∧ Box wr w.heap.size #[.string c.ware, .int .i64 c.limit, .int .i64 c.by_, .slice pa c.parts.length pc] 24 ∧ Box wr (w.heap.size + 1) #[.string ⟨#[]⟩, .int .i64 0, .int .i64 0, .slice none 0 0] 24 ∧ Below w.heap.size w wr) (fun iv _ => c.parts.length - (intOf iv).toNat)
 case atStart => exact ⟨0, _, Nat.zero_le _, rfl, PartsV.nil _ _, G3.out, G1.out, G2.out, HB2.out⟩
 case round =>
  clear G1 G2 G3 HB2
  obtain ⟨i, v, hi, rfl, hv, hd, hc, hr, hB⟩ := hrel
  have HV := Lib.hid hv
  have HD3 := Lib.hid hd
  have HC := Lib.hid hc
  have HR := Lib.hid hr
  have HB := Lib.hid hB
  have hsz : w.heap.size + 3 ≤ wr.heap.size := by have := hd.lt; have := HD.out; omega
  by_cases hil : i < c.parts.length
  ·obtain ⟨b, o, p, rfl, hpi, hP⟩ := (HP.out.below hB).at_ hil
   obtain ⟨sa, sc, ra, rc, c0, c1, c2, c3, c4, c5, c6, c7, x1, x2, x3, x4⟩ := hP.open
   have hin : (i : Int) < (c.parts.length : Int) := by omega
   have hsp := HS3.out p (List.mem_of_getElem? hpi)
   have hlen : (c.parts.take i).length = i := by rw [List.length_take]; omega
   have HPI := Lib.hid hpi
   have HLEN := Lib.hid hlen
   have e1 := hc.cell
   clear hv hd hc hr hB hP hpi hlen
   go_upto_region 6 with fail
   have bx : Box (wr.alloc (.cells #[.slice sa p.sherds.length sc, .int .i64 p.span.low, .int .i64 p.span.high, .int .i64 p.span.lowBy, .int .i64 p.span.highBy, .bool p.foot, .int .i64 p.footBy, .slice ra p.rests.length rc] 52)) wr.heap.size #[.slice sa p.sherds.length sc, .int .i64 p.span.low, .int .i64 p.span.high, .int .i64 p.span.lowBy, .int .i64 p.span.highBy, .bool p.foot, .int .i64 p.footBy, .slice ra p.rests.length rc] 52 := Box.new _ _ _
   have hb5 : Below wr.heap.size wr (wr.alloc (.cells #[.slice sa p.sherds.length sc, .int .i64 p.span.low, .int .i64 p.span.high, .int .i64 p.span.lowBy, .int .i64 p.span.highBy, .bool p.foot, .int .i64 p.footBy, .slice ra p.rests.length rc] 52)) := (Below.refl _ wr).alloc (Nat.le_refl _) _
   generalize wr.alloc (.cells #[.slice sa p.sherds.length sc, .int .i64 p.span.low, .int .i64 p.span.high, .int .i64 p.span.lowBy, .int .i64 p.span.highBy, .bool p.foot, .int .i64 p.footBy, .slice ra p.rests.length rc] 52) = w5 at *
   obtain ⟨g, hg⟩ : ∃ g, wr.heap.size = g := ⟨_, rfl⟩
   have HG := Lib.hid hg
   rw [hg] at bx
   simp only [hg]
   clear hg c0 c1 c2 c3 c4 c5 c6 c7 e1
   obtain ⟨a1, k1, U1, hrun1, hi1, hl1, hn1, hbU1⟩ := app_new (W := w5) (c := sc) (x1.below hb5) (by omega)
   have bU1 := bx.below' hbU1
   obtain ⟨z1, z2⟩ := bU1.rules
   have e5 := bx.cell
   have HRU := Lib.hid hrun1
   have hg5 : g < w5.heap.size := bx.lt
   go_upto_region 7 with (at_builtin; refine wpList_app rfl _ _ _ rfl rfl rfl HRU.out ?_)
   have b6 : Box (U1.setCell ⟨g, 0, none⟩ (.slice a1 p.sherds.length k1)) g #[.slice a1 p.sherds.length k1, .int .i64 p.span.low, .int .i64 p.span.high, .int .i64 p.span.lowBy, .int .i64 p.span.highBy, .bool p.foot, .int .i64 p.footBy, .slice ra p.rests.length rc] 52 := bU1.set_ 0 _
   have hb6 : Below wr.heap.size wr (U1.setCell ⟨g, 0, none⟩ (.slice a1 p.sherds.length k1)) := (hb5.trans (hbU1.mono hb5.size)).setCell (by simp; rw [HG.out]; exact Nat.le_refl _) _
   have hi6 : Ints (U1.setCell ⟨g, 0, none⟩ (.slice a1 p.sherds.length k1)) a1 p.sherds := ints_far hi1 (fun b o ha hl => by have := hn1 b o ha hl; simp; omega) _
   have hs6 : w5.heap.size ≤ (U1.setCell ⟨g, 0, none⟩ (.slice a1 p.sherds.length k1)).heap.size := by have := hbU1.size; simpa using this
   have hn6 : ∀ b o, a1 = some ⟨b, o, none⟩ → 0 < p.sherds.length → g < b := fun b o ha hl => by have := hn1 b o ha hl; omega
   generalize U1.setCell ⟨g, 0, none⟩ (.slice a1 p.sherds.length k1) = w6 at *
   clear hrun1 HRU bU1 z1 z2 e5 hi1 hn1 hbU1 bx hb5
   obtain ⟨a2, k2, U2, hrun2, hi2, hl2, hn2, hbU2⟩ := app_new (W := w6) (c := rc) (x2.below hb6) (by omega)
   have bU2 := b6.below' hbU2
   obtain ⟨z1, z2⟩ := bU2.rules
   have e5 := b6.cell
   have HRU := Lib.hid hrun2
   have hi6 := hi6.below hbU2
   have hg5 : g < w6.heap.size := b6.lt
   go_upto_region 8 with (at_builtin; refine wpList_app rfl _ _ _ rfl rfl rfl HRU.out ?_)
   have b7 : Box (U2.setCell ⟨g, 7, none⟩ (.slice a2 p.rests.length k2)) g #[.slice a1 p.sherds.length k1, .int .i64 p.span.low, .int .i64 p.span.high, .int .i64 p.span.lowBy, .int .i64 p.span.highBy, .bool p.foot, .int .i64 p.footBy, .slice a2 p.rests.length k2] 52 := bU2.set_ 7 _
   have hb7 : Below wr.heap.size wr (U2.setCell ⟨g, 7, none⟩ (.slice a2 p.rests.length k2)) := (hb6.trans (hbU2.mono hb6.size)).setCell (by simp; rw [HG.out]; exact Nat.le_refl _) _
   have hi7 : Ints (U2.setCell ⟨g, 7, none⟩ (.slice a2 p.rests.length k2)) a1 p.sherds := ints_far hi6 (fun b o ha hl => by have := hn6 b o ha hl; simp; omega) _
   have hj7 : Ints (U2.setCell ⟨g, 7, none⟩ (.slice a2 p.rests.length k2)) a2 p.rests := ints_far hi2 (fun b o ha hl => by have := hn2 b o ha hl; simp; omega) _
   have hn7 : ∀ b o, a2 = some ⟨b, o, none⟩ → 0 < p.rests.length → g < b := fun b o ha hl => by have := hn2 b o ha hl; omega
   generalize U2.setCell ⟨g, 7, none⟩ (.slice a2 p.rests.length k2) = w7 at *
   clear hrun2 HRU bU2 z1 z2 e5 hi2 hn2 hbU2 b6 hb6 hi6 x1 x2 x3 x4
   have hzl : PrtLists (w.heap.size + 3) v w7 (p, (a1, k1), (a2, k2)) := ⟨hi7, hj7, hl1, hl2, fun b o ha hl => ⟨by have := hn6 b o ha hl; have := HG.out; omega, fun he => by
    obtain ⟨zs, _, ho, _⟩ := HV.out
    have := (ho.lt b he).2; have := hn6 b o ha hl; have := HG.out; omega⟩, fun b o ha hl => ⟨by have := hn7 b o ha hl; have := HG.out; omega, fun he => by
    obtain ⟨zs, _, ho, _⟩ := HV.out
    have := (ho.lt b he).2; have := hn7 b o ha hl; have := HG.out; omega⟩⟩
   obtain ⟨a3, k3, U3, hrun3, hv3, hbU3⟩ := part_push (HV.out.below hb7) (by rw [HLEN.out]; omega) (by have := hb7.size; omega) hzl
   rw [HLEN.out] at hrun3 hv3
   simp only [prtRow, prtCells] at hrun3
   have e7 := b7.cell
   have e8 := (HD3.out.below' hb7).cell
   have hg5 : g < w7.heap.size := b7.lt
   have hg6 : D < w7.heap.size := (HD3.out.below' hb7).lt
   have bU3 : Box U3 D #[.string c.ware, .int .i64 c.limit, .int .i64 c.by_, v] 24 := (HD3.out.below' hb7).below hbU3 (by have := HD.out; omega)
   obtain ⟨z1, z2⟩ := bU3.rules
   have HRU := Lib.hid hrun3
   have HV3 := Lib.hid hv3
   have HBU3 := Lib.hid hbU3
   have HB7 := Lib.hid hb7
   have HBX3 := Lib.hid bU3
   obtain ⟨va, vc, hvv, hvc⟩ := HV.out.slice
   rw [HLEN.out] at hvv
   clear hrun3 hv3 hbU3 hb7 b7 hi7 hj7 hn7 hn6 hzl bU3 hs6
   subst hvv
   go_wp2_with (at_builtin; refine wpList_app rfl _ _ _ rfl rfl rfl HRU.out ?_)
   go_roundw
   case rel =>
    refine ⟨i + 1, .slice a3 (i + 1) k3, by omega, by go_num, ?_, HBX3.out.set_ 3 _, ?_, ?_, ?_⟩
    ·rw [take_snoc HPI.out]
     exact HV3.out.keep (K := fun k => k ≠ D) ((Keep.refl _ U3).setCell (.inl (by simp)) _) (fun k hk => by have := HD.out; omega)
    ·exact (((HC.out.below' HB7.out).below HBU3.out (by omega)).far (by simp; have := HD.out; omega) _)
    ·exact (((HR.out.below' HB7.out).below HBU3.out (by omega)).far (by simp; have := HD.out; omega) _)
    ·exact ((HB.out.trans (HB7.out.mono HB.out.size)).trans (HBU3.out.mono (by omega))).setCell (by simp; have := HD.out; omega) _
   case measure => simp [intOf]; omega
  ·have hie : i = c.parts.length := by omega
   subst hie
   rw [List.take_length] at HV
   obtain ⟨va, vc, rfl, hvc⟩ := HV.out.slice
   have e1 := hc.cell
   have e3 := hd.cell
   have e4 := hr.rules
   obtain ⟨z1, z2⟩ := e4
   clear hv hd hc hr hB
   go_wp2_with fail
   have hf := (((HR.out.set_ 0 (.string c.ware)).set_ 1 (.int .i64 c.limit)).set_ 2 (.int .i64 c.by_)).set_ 3 (.slice va c.parts.length vc)
   refine bodyPost_ret (results_cell rfl rfl (run_loadVar_row _ _ 24 24 _ (0, 0) _ hf Tryz.underlying24 rfl case_size)) rfl ?_
   refine ⟨va, vc, rfl, hvc, ?_, (((HB.out.setCell (by simp) _).setCell (by simp) _).setCell (by simp) _).setCell (by simp) _⟩
   have hk : Keep (fun k => w.heap.size + 3 ≤ k) wr ((((wr.setCell ⟨w.heap.size + 1, 0, none⟩ (.string c.ware)).setCell ⟨w.heap.size + 1, 1, none⟩ (.int .i64 c.limit)).setCell ⟨w.heap.size + 1, 2, none⟩ (.int .i64 c.by_)).setCell ⟨w.heap.size + 1, 3, none⟩ (.slice va c.parts.length vc)) :=
    ((((Keep.refl _ wr).setCell (.inl (by simp)) _).setCell (.inl (by simp)) _).setCell (.inl (by simp)) _).setCell (.inl (by simp)) _
   exact (HV.out.keep hk (fun _ h => h)).mono (by omega)
end Go.Proofs.YtpjcnkajimgagaaGreat
