/- The reference's Ids: the Ids of a case. -/
import Derived.Test.YtpjcnkajimgagaaGreatMOnlyP
import Derived.Test.YtpjcnkajimgagaaGreatMWith1
set_option linter.unusedSimpArgs false
set_option linter.unusedVariables false
namespace Go.Proofs.YtpjcnkajimgagaaGreat
open Go.RowKit
attribute [local go_sem] Oper.semAt_some

/-- the Ids of the first parts -/
def idsTo (c : Cs) (i : Nat) : List Int := c.by_ :: (c.parts.take i).flatMap idsP
theorem idsTo_len (c : Cs) (i : Nat) : (idsTo c i).length ≤ 3 * c.parts.length + 1 := by
 have := refIds_len { c with parts := c.parts.take i }
 unfold refIds at this
 unfold idsTo
 dsimp only at this
 rw [this, List.length_take]
 omega
def IdsPost (l : List Int) (w : World) (e : Ending) (w' : World) : Prop := ∃ a cap, e = .returned (.slice a l.length cap) ∧ Ints w' a l ∧ l.length ≤ cap ∧ Below w.heap.size w w'
theorem with1_ids {a : Option Addr} {l : List Int} {cap : Nat} {n : Int} {w : World} (h : Ints w a l) (hc : l.length ≤ cap) (hl : l.length ≤ 700000) : Calls Tryz.prog 61 #[.slice a l.length cap, .int .i64 n] w (IdsPost (with1L l n) w) :=
 (with1_any a l cap n w h hc hl).mono (by rintro e w' ⟨a', cap', rfl, h1, h2, h3⟩; exact ⟨a', cap', rfl, h1, h2, h3⟩)
set_option maxRecDepth 100000 in
set_option maxHeartbeats 2000000 in
theorem ids_ref (c : Cs) (hsm : c.Small) (pa : Option Addr) (pc : Nat) (w : World) (hp : PartsAt w pa c.parts) :
  Calls Tryz.prog 45 #[.agg #[.string c.ware, .int .i64 c.limit, .int .i64 c.by_, .slice pa c.parts.length pc]] w (IdsPost (withL (refIds c)) w) := by
 have h10 := hsm.1
 obtain ⟨w1, hw1⟩ : ∃ w1, w.alloc (.cells #[.string c.ware, .int .i64 c.limit, .int .i64 c.by_, .slice pa c.parts.length pc] 24) = w1 := ⟨_, rfl⟩
 have hB1 : Below w.heap.size w w1 := by rw [← hw1]; go_grown
 have g1 : Box w1 w.heap.size #[.string c.ware, .int .i64 c.limit, .int .i64 c.by_, .slice pa c.parts.length pc] 24 := by rw [← hw1]; exact Box.new _ _ _
 have e1 := g1.cell
 have HW := Lib.hid hw1
 have HP := Lib.hid hp
 have HB1 := Lib.hid hB1
 have HG1 := Lib.hid g1
 have HC1 := Lib.hid (with1_ids (a := none) (l := []) (cap := 0) (n := c.by_) (w := w1) (Ints.nil _ _) (Nat.zero_le _) (by simp))
 rw [List.length_nil] at HC1
 clear hw1 hp hB1 g1
 go_enter Tryz.func45, Tryz.ntmps45
 go_upto_region 1 with fail
 simp only [HW.out]
 go_wp2_with fail
 (with_reducible refine HC1.out.mono ?_)
 rintro e w2 ⟨a, cap, rfl, hi2, hc2, hb2⟩
 have HI2 := Lib.hid hi2
 have HB2 := Lib.hid (HB1.out.trans (hb2.mono HB1.out.size))
 have HG2 := Lib.hid (HG1.out.below' hb2)
 have h0 : with1L [] c.by_ = withL (idsTo c 0) := by simp [idsTo, withL]
 rw [h0] at HI2 hc2
 simp only [h0]
 clear hi2 hb2 e1 h0
 go_wp2_with fail
 go_loopw [3, 4] (fun ov iv wr => ∃ (i : Nat) (a : Option Addr) (cap : Nat), i ≤ c.parts.length ∧ iv = .int .i64 i ∧ ov = .slice a (withL (idsTo c i)).length cap ∧ Ints wr a (withL (idsTo c i)) ∧ (withL (idsTo c i)).length ≤ cap ∧ Box wr w.heap.size #[.string c.ware, .int .i64 c.limit, .int .i64 c.by_, .slice pa c.parts.length pc] 24 ∧ Below w.heap.size w wr) (fun _ iv _ => c.parts.length - (intOf iv).toNat)
 case atStart => exact ⟨0, a, cap, Nat.zero_le _, rfl, rfl, HI2.out, hc2, HG2.out, HB2.out⟩
 case round =>
  clear HI2 HB2 HG2
  obtain ⟨i, a, cap, hi, rfl, rfl, hia, hcap, hg, hB⟩ := hrel
  have HI := Lib.hid hia
  have HG := Lib.hid hg
  have HB := Lib.hid hB
  have e1 := hg.cell
  have hll : (withL (idsTo c i)).length ≤ 31 := by
   have h1 := withL_le (idsTo c i)
   have h2 := idsTo_len c i
   omega
  by_cases hil : i < c.parts.length
  ·obtain ⟨b, o, p, rfl, hpi, hP⟩ := (HP.out.below hB).at_ hil
   obtain ⟨sa, sc, ra, rc, c0, c1, c2, c3, c4, c5, c6, c7, x1, x2, x3, x4⟩ := hP.open
   have hin : (i : Int) < (c.parts.length : Int) := by omega
   have hnx : idsTo c (i + 1) = ((idsTo c i ++ [p.span.lowBy]) ++ [p.span.highBy]) ++ [p.footBy] := by
    unfold idsTo
    rw [take_snoc hpi, List.flatMap_append]
    simp [idsP]
   have k0 : ∀ A, Below wr.heap.size wr A → A.cell? ⟨w.heap.size, 3, none⟩ = some (.slice (some ⟨b, o, none⟩) c.parts.length pc) ∧ A.cell? ⟨b, o + i * 8 + 3, none⟩ = some (.int .i64 p.span.lowBy) ∧ A.cell? ⟨b, o + i * 8 + 4, none⟩ = some (.int .i64 p.span.highBy) ∧ A.cell? ⟨b, o + i * 8 + 6, none⟩ = some (.int .i64 p.footBy) := fun A hA =>
    ⟨(HG.out.below' hA).cell 3, below_cell hA c3, below_cell hA c4, below_cell hA c6⟩
   have K0 := Lib.hid k0
   have HNX := Lib.hid hnx
   have HC1 := Lib.hid (with1_ids (n := p.span.lowBy) hia hcap (by omega))
   obtain ⟨y1, y2, y3, y4⟩ := K0.out wr (Below.refl _ _)
   clear k0 hnx hP hpi c0 c1 c2 c3 c4 c5 c6 c7 x1 x2 x3 x4 hia hg hB e1
   go_upto_region 6 with (go_at_call 61; (with_reducible refine HC1.out.mono ?_); rintro e w3 ⟨a3, cap3, rfl, hi3, hc3, hb3⟩; have HB3 := Lib.hid hb3)
   rw [← withL_snoc] at hi3 hc3
   simp only [← withL_snoc]
   have hl3 := withL_le (idsTo c i ++ [p.span.lowBy])
   have hs3 := idsTo_len c i
   rw [List.length_append, List.length_singleton] at hl3
   obtain ⟨l3, hl3e⟩ : ∃ l3, idsTo c i ++ [p.span.lowBy] = l3 := ⟨_, rfl⟩
   have hq3 : l3.length ≤ 32 := by rw [← hl3e, List.length_append, List.length_singleton]; omega
   rw [hl3e] at hi3 hc3 hl3 HNX
   simp only [hl3e]
   have HC2 := Lib.hid (with1_ids (n := p.span.highBy) hi3 hc3 (by omega))
   clear y1 y2 y3 y4 hl3e
   obtain ⟨y1, y2, y3, y4⟩ := K0.out w3 HB3.out
   clear hi3 hc3 hb3
   go_upto_region 7 with (go_at_call 61; (with_reducible refine HC2.out.mono ?_); rintro e w4 ⟨a4, cap4, rfl, hi4, hc4, hb4⟩; have HB4 := Lib.hid (HB3.out.trans (hb4.mono HB3.out.size)))
   rw [← withL_snoc] at hi4 hc4
   simp only [← withL_snoc]
   have hl4 := withL_le (l3 ++ [p.span.highBy])
   rw [List.length_append, List.length_singleton] at hl4
   obtain ⟨l4, hl4e⟩ : ∃ l4, l3 ++ [p.span.highBy] = l4 := ⟨_, rfl⟩
   rw [hl4e] at hi4 hc4 hl4 HNX
   simp only [hl4e]
   have HC3 := Lib.hid (with1_ids (n := p.footBy) hi4 hc4 (by omega))
   clear y1 y2 y3 y4 hl4e
   obtain ⟨y1, y2, y3, y4⟩ := K0.out w4 HB4.out
   clear hi4 hc4 hb4 hl4 hs3
   go_wp2_with fail
   (with_reducible refine HC3.out.mono ?_)
   rintro e w5 ⟨a5, cap5, rfl, hi5, hc5, hb5⟩
   have HB5 := Lib.hid (HB4.out.trans (hb5.mono HB4.out.size))
   rw [← withL_snoc, ← HNX.out] at hi5 hc5
   simp only [← withL_snoc, ← HNX.out]
   have HI5 := Lib.hid hi5
   have HC5 := Lib.hid hc5
   clear hi5 hc5 hb5 y1 y2 y3 y4
   go_wp2_with fail
   go_roundw
   case rel => exact ⟨i + 1, a5, cap5, by omega, by go_num, rfl, HI5.out, HC5.out, HG.out.below' HB5.out, HB.out.trans (HB5.out.mono HB.out.size)⟩
   case measure => simp [intOf]; omega
  ·have hie : i = c.parts.length := by omega
   have hfin : withL (idsTo c i) = withL (refIds c) := by rw [hie]; simp [idsTo, refIds]
   rw [hfin] at HI hcap
   simp only [hfin]
   subst hie
   clear hia hg hB hfin
   go_wp2_with fail
   go_ret
   exact ⟨a, cap, rfl, HI.out, hcap, HB.out⟩
end Go.Proofs.YtpjcnkajimgagaaGreat
