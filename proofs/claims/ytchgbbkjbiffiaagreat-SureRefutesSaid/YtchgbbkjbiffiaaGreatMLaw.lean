/- Lists of numbers and of branches that are handed in, read as plain lists. -/
/- Fits: whether a list is a reassembly. -/
/- slight: whether branches are few, or more than there may be. -/
/- What the laws call, in the forms that they look at. -/
import Derived.Test.YtchgbbkjbiffiaaGreatMFew
import Derived.Test.YtchgbbkjbiffiaaGreatMVisit
import Derived.Test.YtchgbbkjbiffiaaGreatMPlain
import Derived.Test.YtchgbbkjbiffiaaGreatMWalk
import Derived.Test.YtchgbbkjbiffiaaGreatMFind
import Derived.Test.YtchgbbkjbiffiaaGreatMAlive
set_option linter.unusedSimpArgs false
set_option linter.unusedVariables false
namespace Go.Proofs.YtchgbbkjbiffiaaGreat
open Go.RowKit Go.ChangeShapes Go.WideShapes Go.Deep Go.Joins

section
variable {H : Type} {enc : TypeId × Value → H} {w : World} {base : Nat} {spare : Nat → Bool} {held : Bool}
set_option maxRecDepth 100000 in
theorem ints_arg {r : Reach} {b0 : Nat} {v : Value} {d : DataW H} {ps : List MemPlace} (hv : Value.okWide Tryz.prog w r b0 36 v) (h : DataW.Trod enc Tryz.prog w base spare held 36 v d ps) :
    ∃ (a : Option Addr) (l : List Int) (cap : Nat), v = .slice a l.length cap ∧ Ints w a l ∧ l.length ≤ cap ∧ cap ≤ maxLen := by
  obtain ⟨a, len, cap, rfl⟩ := okWide_slice Tryz.underlying36 hv
  obtain ⟨n, hn⟩ := field_of_Trod h rfl
  obtain ⟨a', l, cap', e, h1, h2, h3⟩ := ints_of hn
  rw [List.singleton_inj] at e
  exact ⟨a', l, cap', e, h1, h2, h3⟩
instance : Inhabited Br := ⟨⟨0, 0, 0, []⟩⟩
set_option maxRecDepth 100000 in
theorem br_of {fuel : Nat} {cs : List Value} {x : DataW H × List MemPlace} (h : DataW.trod enc Tryz.prog w base spare held fuel 86 cs = some x) :
    ∃ (z : Br) (ma : Option Addr) (mc : Nat), cs = [.int .u8 z.kind, .int .i64 z.a, .int .i64 z.b, .slice ma z.many.length mc] ∧ Ints w ma z.many ∧ z.many.length ≤ mc ∧ mc ≤ maxLen ∧ z.kind < 256 := by
  obtain ⟨xs, n, _, _, hlen, hxs, hf⟩ := DataW.trod_struct Tryz.underlying86 h
  have hc : Tryz.prog.cellsOf 86 = 4 := by kernel_rfl
  rw [hc] at hlen
  match cs, hlen, xs, hxs with
  | [c0, c1, c2, c3], _, [y0, y1, y2, y3], _ =>
    have h0 := hf 0 _ rfl
    have h1 := hf 1 _ rfl
    have h2 := hf 2 _ rfl
    have h3 := hf 3 _ rfl
    simp only [List.getElem?_cons_zero, List.getElem?_cons_succ] at h0 h1 h2 h3
    obtain ⟨a0, e0, _, w0⟩ := DataW.trod_int Tryz.underlying5 h0
    obtain ⟨a1, e1, _, _⟩ := DataW.trod_int Tryz.underlying3 h1
    obtain ⟨a2, e2, _, _⟩ := DataW.trod_int Tryz.underlying3 h2
    obtain ⟨ma, l, mc, e3, i3, l3, m3⟩ := ints_of h3
    have hw : 0 ≤ a0 ∧ a0 ≤ 255 := by simpa [Lit.wf, IntKind.min, IntKind.max, IntKind.signed, IntKind.bits] using w0
    cases e0; cases e1; cases e2; cases e3
    refine ⟨⟨a0.toNat, a1, a2, l⟩, ma, mc, ?_, i3, l3, m3, by simp; omega⟩
    simp only [Int.toNat_of_nonneg hw.1]
set_option maxRecDepth 100000 in
theorem brs_of {fuel : Nat} {cs : List Value} {x : DataW H × List MemPlace} (h : DataW.trod enc Tryz.prog w base spare held fuel 25 cs = some x) :
    ∃ (a : Option Addr) (l : List Br) (cap : Nat), cs = [.slice a l.length cap] ∧ BrsAt w a l ∧ l.length ≤ cap ∧ cap ≤ maxLen ∧ ∀ z ∈ l, z.kind < 256 ∧ z.many.length ≤ maxLen := by
  have hc : Tryz.prog.cellsOf 86 = 4 := by kernel_rfl
  rcases open_slice Tryz.underlying25 h with ⟨rfl, _⟩ | ⟨a, len, cap, m, n, D, Pl, rfl, _, hl, hm, hmm, _, hV⟩
  · exact ⟨none, [], 0, rfl, fun k p hp => by simp at hp, Nat.le_refl _, Nat.zero_le _, by simp⟩
  · have hlm : len ≤ m := by rw [hmm]; split <;> omega
    rw [hc] at hV
    obtain ⟨f, hf⟩ := choose_lt (α := Br) (n := len) (p := fun i z => ∃ ma mc, (∀ j v, ([.int .u8 (z.kind : Nat), .int .i64 z.a, .int .i64 z.b, .slice ma z.many.length mc] : List Value)[j]? = some v → w.cell? (a.add (i * 4 + j)) = some v) ∧ Ints w ma z.many ∧ z.many.length ≤ mc ∧ mc ≤ maxLen ∧ z.kind < 256) (fun i hi => by
      obtain ⟨cs', h1, h2⟩ := hV i (by omega)
      obtain ⟨z, ma, mc, rfl, h3⟩ := br_of h2
      obtain ⟨_, _, hg⟩ := World.cells?_some h1
      refine ⟨z, ma, mc, fun j v hv => ?_, h3⟩
      have hj := (List.getElem?_eq_some_iff.1 hv).1
      have := hg j (by simpa using hj)
      rw [Go.Deep.add_add] at this
      rw [this, hv])
    refine ⟨some a, (List.range len).map f, cap, by simp, fun k z hz => ?_, by simpa using hl, hm, fun z hz => ?_⟩
    · have hk : k < len := by
        have := (List.getElem?_eq_some_iff.1 hz).1
        simpa using this
      obtain ⟨_, _, h0, _⟩ := hf 0 (by omega)
      have ha : a = ⟨a.block, a.off, none⟩ := spot_none (by simpa [Addr.add] using h0 0 _ rfl)
      rw [List.getElem?_map, List.getElem?_range hk] at hz
      have hz' : f k = z := by simpa using hz
      obtain ⟨ma, mc, h1, h2, h3, _⟩ := hf k hk
      rw [hz'] at h1 h2 h3
      have h6 : ∀ j v, ([.int .u8 (z.kind : Nat), .int .i64 z.a, .int .i64 z.b, .slice ma z.many.length mc] : List Value)[j]? = some v → w.cell? ⟨a.block, a.off + k * 4 + j, none⟩ = some v := fun j v hv => by
        have h6 := h1 j v hv
        rw [ha, add_plain] at h6
        rw [← h6, Nat.add_assoc]
      exact ⟨a.block, a.off, by rw [← ha], ma, mc, h6 0 _ rfl, h6 1 _ rfl, h6 2 _ rfl, h6 3 _ rfl, h2, h3⟩
    · simp only [List.mem_map, List.mem_range] at hz
      obtain ⟨i, hi, rfl⟩ := hz
      obtain ⟨_, _, _, _, h4, h5, h6⟩ := hf i hi
      exact ⟨h6, Nat.le_trans h4 h5⟩
set_option maxRecDepth 100000 in
theorem brs_arg {r : Reach} {b0 : Nat} {v : Value} {d : DataW H} {ps : List MemPlace} (hv : Value.okWide Tryz.prog w r b0 25 v) (h : DataW.Trod enc Tryz.prog w base spare held 25 v d ps) :
    ∃ (a : Option Addr) (l : List Br) (cap : Nat), v = .slice a l.length cap ∧ BrsAt w a l ∧ l.length ≤ cap ∧ cap ≤ maxLen ∧ ∀ z ∈ l, z.kind < 256 ∧ z.many.length ≤ maxLen := by
  obtain ⟨a, len, cap, rfl⟩ := okWide_slice Tryz.underlying25 hv
  obtain ⟨n, hn⟩ := field_of_Trod h rfl
  obtain ⟨a', l, cap', e, h1, h2, h3⟩ := brs_of hn
  rw [List.singleton_inj] at e
  exact ⟨a', l, cap', e, h1, h2, h3⟩
end
end Go.Proofs.YtchgbbkjbiffiaaGreat
namespace Go.Proofs.YtchgbbkjbiffiaaGreat
open Go.RowKit
attribute [local go_sem] Oper.semAt_some

theorem grow_many {x : List Nat} (g : ∀ i (h : i < x.length), x[i] ≤ manyOf (x.take i)) : ∀ i, i ≤ x.length → manyOf (x.take i) ≤ i
  | 0, _ => by simp [manyOf]
  | i + 1, hi => by
    have ih := grow_many g i (by omega)
    have := g i (by omega)
    rw [take_snoc (List.getElem?_eq_getElem (show i < x.length by omega)), manyOf_snoc]
    omega
theorem FitTo.many {c : Cs} {l : List Int} {k : Nat} {pre : List Nat} (h : FitTo c l k pre) : manyOf pre ≤ k := by
  have := grow_many h.grow pre.length (Nat.le_refl _)
  rwa [List.take_length, h.len] at this
theorem FitTo.at_ {c : Cs} {l : List Int} {k : Nat} {pre : List Nat} (h : FitTo c l k pre) {q : Nat} (hq : q < k) : ∃ z : Nat, pre[q]? = some z ∧ l[q]? = some (z : Int) := by
  obtain ⟨z, hz⟩ := get_of_lt pre (k := q) (by rw [h.len]; exact hq)
  refine ⟨z, hz, ?_⟩
  have h1 := congrArg (fun l => l[q]?) h.eq
  simp only [List.getElem?_take_of_lt hq] at h1
  rw [h1]
  simp [natInts, hz]
theorem open_nil (c : Cs) : openErr c [] = checkCase c := by unfold openErr; split <;> simp [*]
theorem none_step {c : Cs} {k q u z : Nat} {pre : List Nat} (h : ∀ j, j < q → pre[j]? = some u → clashB c k j = false) (hz : pre[q]? = some z) (hn : z ≠ u ∨ clashB c k q = false) : ∀ j, j < q + 1 → pre[j]? = some u → clashB c k j = false := fun j hj hu => by
  rcases Nat.lt_or_ge j q with h1 | h1
  · exact h j h1 hu
  · have : j = q := by omega
    subst this
    rcases hn with hn | hn
    · rw [hz] at hu; exact absurd (Option.some.inj hu) hn
    · exact hn
set_option maxRecDepth 100000 in
set_option maxHeartbeats 4000000 in
theorem fits_any (c : Cs) (hsm : c.Small) (pa : Option Addr) (pc : Nat) (na : Option Addr) (l : List Int) (nc : Nat) (hl : l.length ≤ 1000000) (w : World) (hp : PartsAt w pa c.parts) (hi : Ints w na l) :
    Calls Tryz.prog 27 #[.agg #[.string c.ware, .int .i64 c.limit, .int .i64 c.by_, .slice pa c.parts.length pc], .slice na l.length nc] w (BoolPost (checkCase c) (checkCase c == 0 && fitsB c l) w) := by
  obtain ⟨w1, hw1⟩ : ∃ w1, w.alloc (.cells #[.string c.ware, .int .i64 c.limit, .int .i64 c.by_, .slice pa c.parts.length pc] 24) = w1 := ⟨_, rfl⟩
  have hB1 : Below w.heap.size w w1 := by rw [← hw1]; go_grown
  have b1 : Box w1 w.heap.size (csCells c pa pc) 24 := by rw [← hw1]; exact Box.new _ _ _
  have e1 : ∀ i, w1.cell? ⟨w.heap.size, i, none⟩ = (#[.string c.ware, .int .i64 c.limit, .int .i64 c.by_, .slice pa c.parts.length pc] : Array Value)[i]? := b1.cell
  have ho := opened_any c hsm pa pc [] none 0 w1 (hp.below hB1) (Ints.nil _ _) (by simp)
  rw [open_nil, List.length_nil] at ho
  have HP := Lib.hid hp
  have HI := Lib.hid hi
  have HW := Lib.hid hw1
  have HB1 := Lib.hid hB1
  clear hp hi hw1 hB1 b1
  by_cases hz : checkCase c = 0
  · have hoo := opened_good ho hz
    have h8 : c.parts.length ≤ 8 := check_small (ps := []) (by rw [open_nil]; exact hz)
    have hlim := check_lim hz
    have hl0 := hlim.1
    have HO := Lib.hid hoo
    have HZ := Lib.hid hz
    obtain ⟨n, hn⟩ : ∃ n, c.parts.length = n := ⟨_, rfl⟩
    have HN := Lib.hid hn
    rw [hn] at h8
    clear ho hoo hz hn
    go_enter Tryz.func27, Tryz.ntmps27
    go_upto_region 1 with fail
    simp only [HW.out]
    go_wp2_with fail
    (with_reducible refine HO.out.mono ?_)
    rintro e w2 ⟨bb, rfl, hbb, hbx, hb2⟩
    have HBX := Lib.hid hbx
    have HB2 := Lib.hid (HB1.out.trans (hb2.mono HB1.out.size))
    clear hb2 hbx e1 hbb
    go_wp2_with fail
    go_loopw [8, 22] (fun mv iv wr => ∃ (k : Nat) (pre : List Nat), k ≤ l.length ∧ iv = .int .i64 k ∧ mv = .int .i64 (manyOf pre : Nat) ∧ Hid (FitTo c l k pre) ∧ Below w2.heap.size w2 wr) (fun _ iv _ => l.length - (intOf iv).toNat)
    case atStart => exact ⟨0, [], Nat.zero_le _, rfl, rfl, Lib.hid (FitTo.nil c l), Below.refl _ _⟩
    case round =>
      obtain ⟨k, pre, hk, rfl, rfl, HF, hbw⟩ := hrel
      have eb : ∀ i, wr.cell? ⟨bb, i, none⟩ = (#[.string c.ware, .int .i64 c.limit, .int .i64 c.by_, .slice pa c.parts.length pc] : Array Value)[i]? := (HBX.out.below' hbw).cell
      have HBW := Lib.hid hbw
      rw [HN.out] at eb
      clear hbw
      by_cases hlt : k < l.length
      · obtain ⟨v, hv⟩ := get_of_lt l hlt
        obtain ⟨b, o, hna, hcell⟩ := ((HI.out.below HB2.out).below HBW.out).base (by omega)
        subst hna
        have c1 := hcell k v hv
        have HV := Lib.hid hv
        have HC := Lib.hid hcell
        clear hv hcell
        by_cases hkn : k < n
        · have hkn' : ¬ ((n : Int) ≤ (k : Int)) := by omega
          rcases hb : inB v 0 (manyOf pre) with _ | _
          · have HBB := Lib.hid hb
            clear hb
            go_wp2_with (go_at_call 81; (with_reducible refine (in_any _ _ _ _).mono ?_); rintro e w' ⟨rfl, rfl⟩; simp only [HBB.out])
            go_ret2
            exact ⟨HB2.out.trans (HBW.out.mono HB2.out.size), by rw [HZ.out, HF.out.out HV.out HBB.out]; rfl⟩
          · obtain ⟨u, rfl⟩ : ∃ u : Nat, v = (u : Int) := ⟨v.toNat, by simp [inB] at hb; omega⟩
            have hum : u ≤ manyOf pre := by simp [inB] at hb; omega
            have hmk := HF.out.many
            have hwu : IntKind.i64.wrap ((u : Int) + 1) = (u : Int) + 1 := IntWalk.i64_in _ (by omega)
            have HBB := Lib.hid hb
            clear hb
            go_upto_region 10 with (go_at_call 81; (with_reducible refine (in_any _ _ _ _).mono ?_); rintro e w' ⟨rfl, rfl⟩; simp only [HBB.out])
            by_cases hmx : (manyOf pre : Int) < (u : Int) + 1
            · have hmx' : ¬ ((u : Int) + 1 ≤ (manyOf pre : Int)) := by omega
              have HMV := Lib.hid (show (.int .i64 ((u : Int) + 1) : Value) = .int .i64 (manyOf (pre ++ [u]) : Nat) by rw [manyOf_snoc, Nat.max_eq_right (by omega)]; go_num)
              go_wp2_with fail
              go_loopw [46] (fun qv wx => ∃ q : Nat, q ≤ k ∧ qv = .int .i64 q ∧ Hid (∀ j, j < q → pre[j]? = some u → clashB c k j = false) ∧ Below w2.heap.size w2 wx) (fun qv _ => k - (intOf qv).toNat)
              case atStart => exact ⟨0, Nat.zero_le _, rfl, Lib.hid (fun j hj => absurd hj (Nat.not_lt_zero j)), HBW.out⟩
              case round =>
                clear HBW eb c1
                obtain ⟨q, hq, rfl, HQ, hbw⟩ := hrel
                have eb : ∀ i, wr.cell? ⟨bb, i, none⟩ = (#[.string c.ware, .int .i64 c.limit, .int .i64 c.by_, .slice pa c.parts.length pc] : Array Value)[i]? := (HBX.out.below' hbw).cell
                have HBW := Lib.hid hbw
                rw [HN.out] at eb
                clear hbw
                by_cases hqk : q < k
                · obtain ⟨z, hz, hzl⟩ := HF.out.at_ hqk
                  have hql : (q : Int) < (l.length : Int) := by omega
                  obtain ⟨b', o', hna, hcell⟩ := ((HI.out.below HB2.out).below HBW.out).base (by omega)
                  cases hna
                  have c2 := hcell q _ hzl
                  have HZZ := Lib.hid hz
                  have HZL := Lib.hid hzl
                  clear hz hzl hcell
                  rcases hzu : ((z : Int) == (u : Int)) with _ | _
                  · have HZU := Lib.hid (show z ≠ u by simp at hzu; omega)
                    go_wp2_with fail
                    go_roundw
                    case rel => exact ⟨q + 1, by omega, by go_num, Lib.hid (none_step HQ.out HZZ.out (.inl HZU.out)), HBW.out⟩
                    case measure => simp [intOf]; omega
                  · have HZU := Lib.hid (show z = u by simp at hzu; omega)
                    have HCL := Lib.hid (clash_any c (by rw [HN.out]; omega) bb k q pa pc wr (HBX.out.below' HBW.out) ((HP.out.below HB2.out).below HBW.out) (by rw [HN.out]; omega) (by rw [HN.out]; omega))
                    rcases hcq : clashB c k q with _ | _
                    · rw [hcq] at HCL
                      have HCQ := Lib.hid hcq
                      clear hcq
                      go_wp2_with (go_at_call 72; (with_reducible refine HCL.out.mono ?_); rintro e w4 ⟨rfl, hb4⟩; have HB4 := Lib.hid (HBW.out.trans (hb4.mono HBW.out.size)); clear hb4)
                      go_roundw
                      case rel => exact ⟨q + 1, by omega, by go_num, Lib.hid (none_step HQ.out HZZ.out (.inr HCQ.out)), HB4.out⟩
                      case measure => simp [intOf]; omega
                    · rw [hcq] at HCL
                      have HCQ := Lib.hid hcq
                      clear hcq
                      go_wp2_with (go_at_call 72; (with_reducible refine HCL.out.mono ?_); rintro e w4 ⟨rfl, hb4⟩; have HB4 := Lib.hid (HBW.out.trans (hb4.mono HBW.out.size)); clear hb4)
                      go_ret2
                      exact ⟨HB2.out.trans (HB4.out.mono HB2.out.size), by rw [HZ.out, HF.out.clash HV.out hqk (by rw [HZZ.out, HZU.out]) HCQ.out]; rfl⟩
                · have hqe : q = k := by omega
                  subst hqe
                  go_wp2_with fail
                  go_roundw
                  case rel => first
                    | exact ⟨q + 1, pre ++ [u], by omega, by go_num, HMV.out, Lib.hid (HF.out.step HV.out (by rw [HN.out]; exact hkn) hum HQ.out), HBW.out⟩
                    | exact ⟨q + 1, pre ++ [u], by omega, by go_num, by rw [manyOf_snoc]; congr 1; omega, Lib.hid (HF.out.step HV.out (by rw [HN.out]; exact hkn) hum HQ.out), HBW.out⟩
                  case measure => simp [intOf]; omega
            · have hmx' : (u : Int) + 1 ≤ (manyOf pre : Int) := by omega
              have HMV := Lib.hid (show (.int .i64 (manyOf pre : Nat) : Value) = .int .i64 (manyOf (pre ++ [u]) : Nat) by rw [manyOf_snoc, Nat.max_eq_left (by omega)])
              go_wp2_with fail
              go_loopw [46] (fun qv wx => ∃ q : Nat, q ≤ k ∧ qv = .int .i64 q ∧ Hid (∀ j, j < q → pre[j]? = some u → clashB c k j = false) ∧ Below w2.heap.size w2 wx) (fun qv _ => k - (intOf qv).toNat)
              case atStart => exact ⟨0, Nat.zero_le _, rfl, Lib.hid (fun j hj => absurd hj (Nat.not_lt_zero j)), HBW.out⟩
              case round =>
                clear HBW eb c1
                obtain ⟨q, hq, rfl, HQ, hbw⟩ := hrel
                have eb : ∀ i, wr.cell? ⟨bb, i, none⟩ = (#[.string c.ware, .int .i64 c.limit, .int .i64 c.by_, .slice pa c.parts.length pc] : Array Value)[i]? := (HBX.out.below' hbw).cell
                have HBW := Lib.hid hbw
                rw [HN.out] at eb
                clear hbw
                by_cases hqk : q < k
                · obtain ⟨z, hz, hzl⟩ := HF.out.at_ hqk
                  have hql : (q : Int) < (l.length : Int) := by omega
                  obtain ⟨b', o', hna, hcell⟩ := ((HI.out.below HB2.out).below HBW.out).base (by omega)
                  cases hna
                  have c2 := hcell q _ hzl
                  have HZZ := Lib.hid hz
                  have HZL := Lib.hid hzl
                  clear hz hzl hcell
                  rcases hzu : ((z : Int) == (u : Int)) with _ | _
                  · have HZU := Lib.hid (show z ≠ u by simp at hzu; omega)
                    go_wp2_with fail
                    go_roundw
                    case rel => exact ⟨q + 1, by omega, by go_num, Lib.hid (none_step HQ.out HZZ.out (.inl HZU.out)), HBW.out⟩
                    case measure => simp [intOf]; omega
                  · have HZU := Lib.hid (show z = u by simp at hzu; omega)
                    have HCL := Lib.hid (clash_any c (by rw [HN.out]; omega) bb k q pa pc wr (HBX.out.below' HBW.out) ((HP.out.below HB2.out).below HBW.out) (by rw [HN.out]; omega) (by rw [HN.out]; omega))
                    rcases hcq : clashB c k q with _ | _
                    · rw [hcq] at HCL
                      have HCQ := Lib.hid hcq
                      clear hcq
                      go_wp2_with (go_at_call 72; (with_reducible refine HCL.out.mono ?_); rintro e w4 ⟨rfl, hb4⟩; have HB4 := Lib.hid (HBW.out.trans (hb4.mono HBW.out.size)); clear hb4)
                      go_roundw
                      case rel => exact ⟨q + 1, by omega, by go_num, Lib.hid (none_step HQ.out HZZ.out (.inr HCQ.out)), HB4.out⟩
                      case measure => simp [intOf]; omega
                    · rw [hcq] at HCL
                      have HCQ := Lib.hid hcq
                      clear hcq
                      go_wp2_with (go_at_call 72; (with_reducible refine HCL.out.mono ?_); rintro e w4 ⟨rfl, hb4⟩; have HB4 := Lib.hid (HBW.out.trans (hb4.mono HBW.out.size)); clear hb4)
                      go_ret2
                      exact ⟨HB2.out.trans (HB4.out.mono HB2.out.size), by rw [HZ.out, HF.out.clash HV.out hqk (by rw [HZZ.out, HZU.out]) HCQ.out]; rfl⟩
                · have hqe : q = k := by omega
                  subst hqe
                  go_wp2_with fail
                  go_roundw
                  case rel => first
                    | exact ⟨q + 1, pre ++ [u], by omega, by go_num, HMV.out, Lib.hid (HF.out.step HV.out (by rw [HN.out]; exact hkn) hum HQ.out), HBW.out⟩
                    | exact ⟨q + 1, pre ++ [u], by omega, by go_num, by rw [manyOf_snoc]; congr 1; omega, Lib.hid (HF.out.step HV.out (by rw [HN.out]; exact hkn) hum HQ.out), HBW.out⟩
                  case measure => simp [intOf]; omega
        · have hkn' : (n : Int) ≤ (k : Int) := by omega
          go_wp2_with fail
          go_ret2
          exact ⟨HB2.out.trans (HBW.out.mono HB2.out.size), by rw [HZ.out, FitTo.long hlt (by rw [HN.out]; omega)]; rfl⟩
      · have hd := HF.out.done hlt hl0
        rw [HN.out] at hd
        have HD := Lib.hid hd
        clear hd
        rcases h1 : ((l.length : Int) == (n : Int)) with _ | _
        · have H1 := Lib.hid h1
          go_wp2_with fail
          go_ret2
          exact ⟨HB2.out.trans (HBW.out.mono HB2.out.size), by rw [HZ.out, HD.out, H1.out]; rfl⟩
        · rcases h2 : (c.limit == 0) with _ | _
          · by_cases h3 : (manyOf pre : Int) ≤ c.limit
            · have H1 := Lib.hid h1
              have H2 := Lib.hid h2
              go_wp2_with fail
              go_ret2
              exact ⟨HB2.out.trans (HBW.out.mono HB2.out.size), by rw [HZ.out, HD.out, H1.out, H2.out, decide_eq_true h3]; rfl⟩
            · have H1 := Lib.hid h1
              have H2 := Lib.hid h2
              go_wp2_with fail
              go_ret2
              exact ⟨HB2.out.trans (HBW.out.mono HB2.out.size), by rw [HZ.out, HD.out, H1.out, H2.out, decide_eq_false (p := (manyOf pre : Int) ≤ c.limit) (by omega)]; rfl⟩
          · have H1 := Lib.hid h1
            have H2 := Lib.hid h2
            go_wp2_with fail
            go_ret2
            exact ⟨HB2.out.trans (HBW.out.mono HB2.out.size), by rw [HZ.out, HD.out, H1.out, H2.out]; rfl⟩
  · have hoo := opened_bad ho hz
    have HO := Lib.hid hoo
    have HZ := Lib.hid hz
    have hzz : (checkCase c != 0) = true := by simpa using hz
    clear ho hoo hz
    go_enter Tryz.func27, Tryz.ntmps27
    go_upto_region 1 with fail
    simp only [HW.out]
    go_wp2_with (go_at_call 61; (with_reducible refine HO.out.mono ?_); rintro e w' ⟨rfl, hb⟩; have HB := Lib.hid (HB1.out.trans (hb.mono HB1.out.size)); clear hb)
    go_ret2
    exact ⟨HB.out, by rw [show (checkCase c == 0) = false by simpa using HZ.out]; rfl⟩
end Go.Proofs.YtchgbbkjbiffiaaGreat
namespace Go.Proofs.YtchgbbkjbiffiaaGreat
open Go.RowKit
attribute [local go_sem] Oper.semAt_some

def slightP (z : Br) : Bool := decide (z.many.length ≤ 20)
def slightN (n : Nat) : Bool := decide (n ≤ 2000) || (decide (20000 < n) && decide (n ≤ 20003))
def slightB (l : List Br) : Bool := l.all slightP && slightN l.length
theorem slight_false {l : List Br} {k : Nat} {z : Br} (hz : l[k]? = some z) (h : slightP z = false) : slightB l = false := by
  have h1 : l.all slightP = false := by
    rw [List.all_eq_false]
    exact ⟨z, List.mem_of_getElem? hz, by simp [h]⟩
  simp [slightB, h1]
theorem slight_end {l : List Br} {k : Nat} (hk : ¬ k < l.length) (h : ∀ (j : Nat) q, j < k → l[j]? = some q → slightP q = true) : slightB l = slightN l.length := by
  have h1 : l.all slightP = true := by
    rw [List.all_eq_true]
    intro p hp
    obtain ⟨j, hj⟩ := List.mem_iff_getElem?.1 hp
    have := (List.getElem?_eq_some_iff.1 hj).1
    exact h j p (by omega) hj
  simp [slightB, h1]
theorem slight_len {l : List Br} (h : slightB l = true) : l.length ≤ 1000000 ∧ ∀ z ∈ l, z.many.length ≤ 20 := by
  simp only [slightB, Bool.and_eq_true, List.all_eq_true, slightP, decide_eq_true_eq, slightN, Bool.or_eq_true] at h
  exact ⟨by omega, h.1⟩
set_option maxRecDepth 100000 in
set_option maxHeartbeats 1000000 in
theorem slight_any (l : List Br) (ra : Option Addr) (rc : Nat) (hl : l.length ≤ maxLen) (hs : ∀ z ∈ l, z.many.length ≤ maxLen) (w : World) (hb : BrsAt w ra l) :
    Calls Tryz.prog 14 #[.slice ra l.length rc] w fun e w' => e = .returned (.bool (slightB l)) ∧ Below w.heap.size w w' := by
  unfold maxLen at hl hs
  have HB := Lib.hid hb
  have HS := Lib.hid hs
  clear hb hs
  go_enter Tryz.func14, Tryz.ntmps14
  go_wp2_with fail
  go_loopw [7] (fun i wr => ∃ k : Nat, k ≤ l.length ∧ i = .int .i64 k ∧ Hid (∀ (j : Nat) q, j < k → l[j]? = some q → slightP q = true) ∧ Below w.heap.size w wr) (fun i _ => l.length - (intOf i).toNat)
  case atStart => exact ⟨0, Nat.zero_le _, rfl, Lib.hid (fun j q hj => absurd hj (Nat.not_lt_zero j)), Below.refl _ _⟩
  case round =>
    obtain ⟨k, hk, rfl, HA, hbw⟩ := hrel
    have HBW := Lib.hid hbw
    clear hbw
    by_cases hlt : k < l.length
    · obtain ⟨z, hz⟩ := get_of_lt l hlt
      obtain ⟨b, o, rfl, ma, mc, c0, c1, c2, c3, hi, hc⟩ := HB.out k z hz
      have d0 := below_cell HBW.out c0
      have d1 := below_cell HBW.out c1
      have d2 := below_cell HBW.out c2
      have d3 := below_cell HBW.out c3
      have hlen := HS.out z (List.mem_of_getElem? hz)
      have HZ := Lib.hid hz
      clear c0 c1 c2 c3 hi hc hz
      by_cases h1 : 20 < z.many.length
      · go_wp2_with fail
        go_ret
        exact ⟨ret_bool (slight_false HZ.out (by simp [slightP]; omega)).symm, HBW.out.alloc HBW.out.size _⟩
      · go_wp2_with fail
        go_roundw
        case rel => exact ⟨k + 1, by omega, by go_num, Lib.hid (fun j q hj hq => by
          rcases Nat.lt_or_ge j k with h | h
          · exact HA.out j q h hq
          · have : j = k := by omega
            subst this
            rw [HZ.out] at hq
            cases hq
            simp [slightP]; omega), HBW.out.alloc HBW.out.size _⟩
        case measure => simp [intOf]; omega
    · have HE := Lib.hid (slight_end hlt HA.out)
      by_cases h1 : l.length ≤ 2000
      · go_wp2_with fail
        go_ret
        exact ⟨ret_bool (by rw [HE.out, slightN, Bool.eq_iff_iff]; simp; omega), HBW.out⟩
      · by_cases h2 : 20000 < l.length
        · by_cases h3 : l.length ≤ 20003
          · go_wp2_with fail
            go_ret
            exact ⟨ret_bool (by rw [HE.out, slightN, Bool.eq_iff_iff]; simp; omega), HBW.out⟩
          · go_wp2_with fail
            go_ret
            exact ⟨ret_bool (by rw [HE.out, slightN, Bool.eq_iff_iff]; simp; omega), HBW.out⟩
        · go_wp2_with fail
          go_ret
          exact ⟨ret_bool (by rw [HE.out, slightN, Bool.eq_iff_iff]; simp; omega), HBW.out⟩
end Go.Proofs.YtchgbbkjbiffiaaGreat
namespace Go.Proofs.YtchgbbkjbiffiaaGreat
open Go.RowKit

/-- whether there is one, behind an error number -/
def seenB (er : Int) (o : Option (List Nat)) : Bool := (if er = 0 then o else none).isSome
theorem with_sees (c : Cs) (hsm : c.Small) (pa : Option Addr) (pc : Nat) (x y : Int) (t : Bool) (w : World) (hp : PartsAt w pa c.parts) :
    Calls Tryz.prog 60 #[.agg #[.string c.ware, .int .i64 c.limit, .int .i64 c.by_, .slice pa c.parts.length pc], .int .i64 x, .int .i64 y, .bool t] w fun e w' =>
      ∃ (a : Option Addr) (cap : Nat), e = .returned (.tuple #[.slice a ((if openErr c [x, y] = 0 then (allR c).find? (asPair x.toNat y.toNat t) else none).getD []).length cap, .bool (seenB (openErr c [x, y]) ((allR c).find? (asPair x.toNat y.toNat t))), .int .i64 (openErr c [x, y])]) ∧
        Ints w' a (natInts ((if openErr c [x, y] = 0 then (allR c).find? (asPair x.toNat y.toNat t) else none).getD [])) ∧ Below w.heap.size w w' :=
  (with_any c hsm pa pc x y t w hp).mono (by
    rintro e w' ⟨hb, ⟨h, rfl⟩ | ⟨h, ho, rfl⟩ | ⟨h, z, v, ho, rfl, hv⟩⟩
    · simp only [seenB, h, if_false]
      exact ⟨none, 0, rfl, Ints.nil _ _, hb⟩
    · simp only [seenB, h, ho, if_true]
      exact ⟨none, 0, rfl, Ints.nil _ _, hb⟩
    · obtain ⟨a, cap, rfl, hi⟩ := own_ints hv
      simp only [seenB, h, ho, if_true]
      exact ⟨a, cap, rfl, hi, hb⟩)
theorem ask_eq {c : Cs} {ps : List Int} (h : openErr c ps ≠ 0) : askErr c ps = openErr c ps := by unfold askErr; rw [if_neg h]
theorem ask_eq0 {c : Cs} {ps : List Int} (h : openErr c ps = 0) : askErr c ps = if (allR c).isEmpty then 61 else 0 := by unfold askErr; rw [if_pos h]
theorem fits_len {c : Cs} {l : List Int} (h : fitsB c l = true) : ∃ x, Reas c x ∧ l = natInts x ∧ l.length = c.parts.length := by
  obtain ⟨x, hx, rfl⟩ := fitsB_iff.1 h
  exact ⟨x, hx, rfl, by simp [natInts, hx.len]⟩
/-- a box at the door of a law -/
theorem box_case (w : World) (c : Cs) (pa : Option Addr) (pc : Nat) : ∃ w1, w.alloc (.cells #[.string c.ware, .int .i64 c.limit, .int .i64 c.by_, .slice pa c.parts.length pc] 24) = w1 ∧ Below w.heap.size w w1 ∧ Box w1 w.heap.size (csCells c pa pc) 24 :=
  ⟨_, rfl, by go_grown, Box.new _ _ _⟩
theorem none_empty {c : Cs} {a b : Nat} (ha : a < c.parts.length) (hb : b < c.parts.length) (h1 : togB c.parts.length (allR c) a b = false) (h2 : aptB c.parts.length (allR c) a b = false) : (allR c).isEmpty = true := by
  rcases h : allR c with _ | ⟨x, l⟩
  · rfl
  · have hx := mem_allR.1 (show x ∈ allR c by rw [h]; simp)
    by_cases e : nth x a = nth x b
    · have := (tog_iff ha hb).2 ⟨x, hx, e⟩; rw [h1] at this; cases this
    · have := (apt_iff ha hb).2 ⟨x, hx, e⟩; rw [h2] at this; cases this
theorem some_full {c : Cs} {a b : Nat} (ha : a < c.parts.length) (hb : b < c.parts.length) (h : togB c.parts.length (allR c) a b = true ∨ aptB c.parts.length (allR c) a b = true) : (allR c).isEmpty = false := by
  rcases hr : allR c with _ | ⟨x, l⟩
  · rcases h with h | h
    · obtain ⟨x, hx, _⟩ := (tog_iff ha hb).1 h
      have := mem_allR.2 hx; rw [hr] at this; simp at this
    · obtain ⟨x, hx, _⟩ := (apt_iff ha hb).1 h
      have := mem_allR.2 hx; rw [hr] at this; simp at this
  · rfl
end Go.Proofs.YtchgbbkjbiffiaaGreat
