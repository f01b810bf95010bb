/- Lists of numbers and of branches that are handed in, read as plain lists. -/
/- slight: whether branches are few, or more than there may be. -/
import Derived.Test.YtpjcnkajimgagaaGreatMFew
import Derived.Test.YtpjcnkajimgagaaGreatMVisit
set_option linter.unusedSimpArgs false
set_option linter.unusedVariables false
namespace Go.Proofs.YtpjcnkajimgagaaGreat
open Go.RowKit Go.ChangeShapes Go.WideShapes Go.Deep Go.Joins

section
variable {H : Type} {enc : TypeId × Value → H} {w : World} {base : Nat} {spare : Nat → Bool} {held : Bool}
set_option maxRecDepth 100000 in
theorem ints_arg {r : Reach} {b0 : Nat} {v : Value} {d : DataW H} {ps : List MemPlace} (hv : Value.okWide Tryz.prog w r b0 27 v) (h : DataW.Trod enc Tryz.prog w base spare held 27 v d ps) :
  ∃ (a : Option Addr) (l : List Int) (cap : Nat), v = .slice a l.length cap ∧ Ints w a l ∧ l.length ≤ cap ∧ cap ≤ maxLen := by
 obtain ⟨a, len, cap, rfl⟩ := okWide_slice Tryz.underlying27 hv
 obtain ⟨n, hn⟩ := field_of_Trod h rfl
 obtain ⟨a', l, cap', e, h1, h2, h3⟩ := ints_of hn
 rw [List.singleton_inj] at e
 exact ⟨a', l, cap', e, h1, h2, h3⟩
instance : Inhabited Br := ⟨⟨0, 0, 0, []⟩⟩
set_option maxRecDepth 100000 in
theorem br_of {fuel : Nat} {cs : List Value} {x : DataW H × List MemPlace} (h : DataW.trod enc Tryz.prog w base spare held fuel 69 cs = some x) :
  ∃ (z : Br) (ma : Option Addr) (mc : Nat), cs = [.int .u8 z.kind, .int .i64 z.a, .int .i64 z.b, .slice ma z.many.length mc] ∧ Ints w ma z.many ∧ z.many.length ≤ mc ∧ mc ≤ maxLen ∧ z.kind < 256 := by
 obtain ⟨xs, n, _, _, hlen, hxs, hf⟩ := DataW.trod_struct Tryz.underlying69 h
 have hc : Tryz.prog.cellsOf 69 = 4 := by kernel_rfl
 rw [hc] at hlen
 match cs, hlen, xs, hxs with
 | [c0, c1, c2, c3], _, [y0, y1, y2, y3], _ =>
  have h0 := hf 0 _ rfl
  have h1 := hf 1 _ rfl
  have h2 := hf 2 _ rfl
  have h3 := hf 3 _ rfl
  simp only [List.getElem?_cons_zero, List.getElem?_cons_succ] at h0 h1 h2 h3
  obtain ⟨a0, e0, _, w0⟩ := DataW.trod_int Tryz.underlying5 h0
  obtain ⟨a1, e1, _, _⟩ := DataW.trod_int Tryz.underlying3 h1
  obtain ⟨a2, e2, _, _⟩ := DataW.trod_int Tryz.underlying3 h2
  obtain ⟨ma, l, mc, e3, i3, l3, m3⟩ := ints_of h3
  have hw : 0 ≤ a0 ∧ a0 ≤ 255 := by simpa [Lit.wf, IntKind.min, IntKind.max, IntKind.signed, IntKind.bits] using w0
  cases e0; cases e1; cases e2; cases e3
  refine ⟨⟨a0.toNat, a1, a2, l⟩, ma, mc, ?_, i3, l3, m3, by simp; omega⟩
  simp only [Int.toNat_of_nonneg hw.1]
set_option maxRecDepth 100000 in
theorem brs_of {fuel : Nat} {cs : List Value} {x : DataW H × List MemPlace} (h : DataW.trod enc Tryz.prog w base spare held fuel 37 cs = some x) :
  ∃ (a : Option Addr) (l : List Br) (cap : Nat), cs = [.slice a l.length cap] ∧ BrsAt w a l ∧ l.length ≤ cap ∧ cap ≤ maxLen ∧ ∀ z ∈ l, z.kind < 256 ∧ z.many.length ≤ maxLen := by
 have hc : Tryz.prog.cellsOf 69 = 4 := by kernel_rfl
 rcases open_slice Tryz.underlying37 h with ⟨rfl, _⟩ | ⟨a, len, cap, m, n, D, Pl, rfl, _, hl, hm, hmm, _, hV⟩
 ·exact ⟨none, [], 0, rfl, fun k p hp => by simp at hp, Nat.le_refl _, Nat.zero_le _, by simp⟩
 ·have hlm : len ≤ m := by rw [hmm]; split <;> omega
  rw [hc] at hV
  obtain ⟨f, hf⟩ := choose_lt (α := Br) (n := len) (p := fun i z => ∃ ma mc, (∀ j v, ([.int .u8 (z.kind : Nat), .int .i64 z.a, .int .i64 z.b, .slice ma z.many.length mc] : List Value)[j]? = some v → w.cell? (a.add (i * 4 + j)) = some v) ∧ Ints w ma z.many ∧ z.many.length ≤ mc ∧ mc ≤ maxLen ∧ z.kind < 256) (fun i hi => by
   obtain ⟨cs', h1, h2⟩ := hV i (by omega)
   obtain ⟨z, ma, mc, rfl, h3⟩ := br_of h2
   obtain ⟨_, _, hg⟩ := World.cells?_some h1
   refine ⟨z, ma, mc, fun j v hv => ?_, h3⟩
   have hj := (List.getElem?_eq_some_iff.1 hv).1
   have := hg j (by simpa using hj)
   rw [Go.Deep.add_add] at this
   rw [this, hv])
  refine ⟨some a, (List.range len).map f, cap, by simp, fun k z hz => ?_, by simpa using hl, hm, fun z hz => ?_⟩
  ·have hk : k < len := by
    have := (List.getElem?_eq_some_iff.1 hz).1
    simpa using this
   obtain ⟨_, _, h0, _⟩ := hf 0 (by omega)
   have ha : a = ⟨a.block, a.off, none⟩ := spot_none (by simpa [Addr.add] using h0 0 _ rfl)
   rw [List.getElem?_map, List.getElem?_range hk] at hz
   have hz' : f k = z := by simpa using hz
   obtain ⟨ma, mc, h1, h2, h3, _⟩ := hf k hk
   rw [hz'] at h1 h2 h3
   have h6 : ∀ j v, ([.int .u8 (z.kind : Nat), .int .i64 z.a, .int .i64 z.b, .slice ma z.many.length mc] : List Value)[j]? = some v → w.cell? ⟨a.block, a.off + k * 4 + j, none⟩ = some v := fun j v hv => by
    have h6 := h1 j v hv
    rw [ha, add_plain] at h6
    rw [← h6, Nat.add_assoc]
   exact ⟨a.block, a.off, by rw [← ha], ma, mc, h6 0 _ rfl, h6 1 _ rfl, h6 2 _ rfl, h6 3 _ rfl, h2, h3⟩
  ·simp only [List.mem_map, List.mem_range] at hz
   obtain ⟨i, hi, rfl⟩ := hz
   obtain ⟨_, _, _, _, h4, h5, h6⟩ := hf i hi
   exact ⟨h6, Nat.le_trans h4 h5⟩
set_option maxRecDepth 100000 in
theorem brs_arg {r : Reach} {b0 : Nat} {v : Value} {d : DataW H} {ps : List MemPlace} (hv : Value.okWide Tryz.prog w r b0 37 v) (h : DataW.Trod enc Tryz.prog w base spare held 37 v d ps) :
  ∃ (a : Option Addr) (l : List Br) (cap : Nat), v = .slice a l.length cap ∧ BrsAt w a l ∧ l.length ≤ cap ∧ cap ≤ maxLen ∧ ∀ z ∈ l, z.kind < 256 ∧ z.many.length ≤ maxLen := by
 obtain ⟨a, len, cap, rfl⟩ := okWide_slice Tryz.underlying37 hv
 obtain ⟨n, hn⟩ := field_of_Trod h rfl
 obtain ⟨a', l, cap', e, h1, h2, h3⟩ := brs_of hn
 rw [List.singleton_inj] at e
 exact ⟨a', l, cap', e, h1, h2, h3⟩
end
end Go.Proofs.YtpjcnkajimgagaaGreat
namespace Go.Proofs.YtpjcnkajimgagaaGreat
open Go.RowKit
attribute [local go_sem] Oper.semAt_some

def slightP (z : Br) : Bool := decide (z.many.length ≤ 20)
def slightN (n : Nat) : Bool := decide (n ≤ 2000) || (decide (20000 < n) && decide (n ≤ 20003))
def slightB (l : List Br) : Bool := l.all slightP && slightN l.length
theorem slight_false {l : List Br} {k : Nat} {z : Br} (hz : l[k]? = some z) (h : slightP z = false) : slightB l = false := by
 have h1 : l.all slightP = false := by
  rw [List.all_eq_false]
  exact ⟨z, List.mem_of_getElem? hz, by simp [h]⟩
 simp [slightB, h1]
theorem slight_end {l : List Br} {k : Nat} (hk : ¬ k < l.length) (h : ∀ (j : Nat) q, j < k → l[j]? = some q → slightP q = true) : slightB l = slightN l.length := by
 have h1 : l.all slightP = true := by
  rw [List.all_eq_true]
  intro p hp
  obtain ⟨j, hj⟩ := List.mem_iff_getElem?.1 hp
  have := (List.getElem?_eq_some_iff.1 hj).1
  exact h j p (by omega) hj
 simp [slightB, h1]
theorem slight_len {l : List Br} (h : slightB l = true) : l.length ≤ 1000000 ∧ ∀ z ∈ l, z.many.length ≤ 20 := by
 simp only [slightB, Bool.and_eq_true, List.all_eq_true, slightP, decide_eq_true_eq, slightN, Bool.or_eq_true] at h
 exact ⟨by omega, h.1⟩
set_option maxRecDepth 100000 in
set_option maxHeartbeats 1000000 in
theorem slight_any (l : List Br) (ra : Option Addr) (rc : Nat) (hl : l.length ≤ maxLen) (hs : ∀ z ∈ l, z.many.length ≤ maxLen) (w : World) (hb : BrsAt w ra l) :
  Calls Tryz.prog 16 #[.slice ra l.length rc] w fun e w' => e = .returned (.bool (slightB l)) ∧ Below w.heap.size w w' := by
 unfold maxLen at hl hs
 have HB := Lib.hid hb
 have HS := Lib.hid hs
 clear hb hs
 go_enter Tryz.func16, Tryz.ntmps16
 go_wp2_with fail
 go_loopw [7] (fun i wr => ∃ k : Nat, k ≤ l.length ∧ i = .int .i64 k ∧ Hid (∀ (j : Nat) q, j < k → l[j]? = some q → slightP q = true) ∧ Below w.heap.size w wr) (fun i _ => l.length - (intOf i).toNat)
 case atStart => exact ⟨0, Nat.zero_le _, rfl, Lib.hid (fun j q hj => absurd hj (Nat.not_lt_zero j)), Below.refl _ _⟩
 case round =>
  obtain ⟨k, hk, rfl, HA, hbw⟩ := hrel
  have HBW := Lib.hid hbw
  clear hbw
  by_cases hlt : k < l.length
  ·obtain ⟨z, hz⟩ := get_of_lt l hlt
   obtain ⟨b, o, rfl, ma, mc, c0, c1, c2, c3, hi, hc⟩ := HB.out k z hz
   have d0 := below_cell HBW.out c0
   have d1 := below_cell HBW.out c1
   have d2 := below_cell HBW.out c2
   have d3 := below_cell HBW.out c3
   have hlen := HS.out z (List.mem_of_getElem? hz)
   have HZ := Lib.hid hz
   clear c0 c1 c2 c3 hi hc hz
   by_cases h1 : 20 < z.many.length
   ·go_wp2_with fail
    go_ret
    exact ⟨ret_bool (slight_false HZ.out (by simp [slightP]; omega)).symm, HBW.out.alloc HBW.out.size _⟩
   ·go_wp2_with fail
    go_roundw
    case rel => exact ⟨k + 1, by omega, by go_num, Lib.hid (fun j q hj hq => by
     rcases Nat.lt_or_ge j k with h | h
     ·exact HA.out j q h hq
     ·have : j = k := by omega
      subst this
      rw [HZ.out] at hq
      cases hq
      simp [slightP]; omega), HBW.out.alloc HBW.out.size _⟩
    case measure => simp [intOf]; omega
  ·have HE := Lib.hid (slight_end hlt HA.out)
   by_cases h1 : l.length ≤ 2000
   ·go_wp2_with fail
    go_ret
    exact ⟨ret_bool (by rw [HE.out, slightN, Bool.eq_iff_iff]; simp; omega), HBW.out⟩
   ·by_cases h2 : 20000 < l.length
    ·by_cases h3 : l.length ≤ 20003
     ·go_wp2_with fail
      go_ret
      exact ⟨ret_bool (by rw [HE.out, slightN, Bool.eq_iff_iff]; simp; omega), HBW.out⟩
     ·go_wp2_with fail
      go_ret
      exact ⟨ret_bool (by rw [HE.out, slightN, Bool.eq_iff_iff]; simp; omega), HBW.out⟩
    ·go_wp2_with fail
     go_ret
     exact ⟨ret_bool (by rw [HE.out, slightN, Bool.eq_iff_iff]; simp; omega), HBW.out⟩
end Go.Proofs.YtpjcnkajimgagaaGreat
