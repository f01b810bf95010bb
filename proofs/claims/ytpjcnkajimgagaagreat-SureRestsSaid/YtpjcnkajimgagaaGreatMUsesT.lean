/- sure.Uses. -/
import Derived.Test.YtpjcnkajimgagaaGreatMUsesW
import Derived.Test.YtpjcnkajimgagaaGreatMUsesO
set_option linter.unusedSimpArgs false
set_option linter.unusedVariables false
namespace Go.Proofs.YtpjcnkajimgagaaGreat
open Go.RowKit
attribute [local go_sem] Oper.semAt_some

set_option maxRecDepth 100000 in
set_option maxHeartbeats 1000000 in
theorem uses_any (c : Cs) (hsm : c.Small) (pa : Option Addr) (pc : Nat) (x y : Int) (t : Bool) (l : List Br) (hll : l.length ≤ 2000 ∨ 20000 < l.length ∧ l.length ≤ 1000000) (hls : ∀ z ∈ l, z.Small) (ra : Option Addr) (rc : Nat) (w : World) (hp : PartsAt w pa c.parts) (hbr : BrsAt w ra l) (hrc : l.length ≤ rc) :
  Calls Tryz.prog 17 #[.agg #[.string c.ware, .int .i64 c.limit, .int .i64 c.by_, .slice pa c.parts.length pc], .int .i64 x, .int .i64 y, .bool t, .slice ra l.length rc] w
   (UsesPost (usesOut c (openErr c [x, y]) x.toNat y.toNat t l) w) := by
 obtain ⟨w2, hw2⟩ : ∃ w2, w.alloc (.cells #[.string c.ware, .int .i64 c.limit, .int .i64 c.by_, .slice pa c.parts.length pc] 24) = w2 := ⟨_, rfl⟩
 have hB2 : Below w.heap.size w w2 := by rw [← hw2]; go_grown
 have e0 : ∀ i, w2.cell? ⟨w.heap.size, i, none⟩ = (#[.string c.ware, .int .i64 c.limit, .int .i64 c.by_, .slice pa c.parts.length pc] : Array Value)[i]? := by rw [← hw2]; exact (Box.new _ _ _).cell
 have hB3 : Below w.heap.size w (w2.alloc (.cells #[.int .i64 x, .int .i64 y] 3)) := hB2.alloc hB2.size _
 have ho := opened_any c hsm pa pc [x, y] (some ⟨w2.heap.size, 0, none⟩) 2 (w2.alloc (.cells #[.int .i64 x, .int .i64 y] 3)) (hp.below hB3) (pair_ints _ _ _ _) (by simp)
 simp only [List.length_cons, List.length_nil, Nat.zero_add, Nat.reduceAdd] at ho
 have HP := Lib.hid hp
 have HW := Lib.hid hw2
 have HBR := Lib.hid hbr
 clear hp hw2 hbr
 by_cases hz : openErr c [x, y] = 0
 ·have hoo := opened_good ho hz
  have h8 := check_small hz
  have hx := open_in hz x (by simp)
  have hy := open_in hz y (by simp)
  have hlim := check_lim (open_check hz)
  obtain ⟨a, rfl⟩ := Int.eq_ofNat_of_zero_le hx.1
  obtain ⟨b, rfl⟩ := Int.eq_ofNat_of_zero_le hy.1
  simp only [Int.toNat_natCast]
  have HO := Lib.hid hoo
  have HZ := Lib.hid hz
  clear ho hoo hz
  go_enter Tryz.func17, Tryz.ntmps17
  go_upto_region 1 with fail
  simp only [HW.out]
  go_upto_region 5 with (go_at_call 47; (with_reducible refine HO.out.mono ?_); rintro e w4 ⟨bb, rfl, hbb, hbx, hb4⟩)
  have hbl := hbx.lt
  have hB4 := hB3.trans (hb4.mono hB3.size)
  have hbo : Box (w4.alloc (.cells #[.slice none 0 0] 27)) w4.heap.size #[.slice none 0 0] 27 := Box.new _ _ _
  have hb5 : Below w4.heap.size w4 (w4.alloc (.cells #[.slice none 0 0] 27)) := (Below.refl _ w4).alloc (Nat.le_refl _) _
  generalize w4.alloc (.cells #[.slice none 0 0] 27) = w5 at *
  obtain ⟨ob, hob⟩ : ∃ ob, w4.heap.size = ob := ⟨_, rfl⟩
  have hwo : w.heap.size ≤ ob := by have := hB4.size; omega
  have hbb2 : w.heap.size ≤ bb := Nat.le_trans hB3.size hbb
  have hbx5 := hbx.below' hb5
  have hB5 := hB4.trans (hb5.mono hB4.size)
  rw [hob] at hbo hbl
  simp only [hob]
  have HBO := Lib.hid hbo
  have HBX := Lib.hid hbx5
  have HB5 := Lib.hid hB5
  clear hbo hbx5 hB5 hb5 hb4 hbx hB4 hob hB3 hB2 e0 hbb
  go_wp2_with (go_at_call 52; (with_reducible refine (begin_any a b t _ (by omega) (by omega)).mono ?_); rintro e w6 ⟨rfl, hb6⟩; have HB6 := Lib.hid hb6; clear hb6)
  have hB6 := HB5.out.trans (HB6.out.mono HB5.out.size)
  have hbo := HBO.out.below' HB6.out
  have HBO6 := Lib.hid hbo
  have HK := Lib.hid (walk_uses c _ rfl h8 hlim pa pc bb w HP.out ob w6 hwo (by omega) hbo hbb2 l (beginD a b t) hll hls (beginD_le a b t) hB6 (HBX.out.below' HB6.out) ra rc HBR.out hrc)
  have HB6 := Lib.hid hB6
  clear hB6 hbo
  (with_reducible refine HK.out.mono ?_)
  rintro e w7 ⟨hk, hm⟩
  have hB7 : Below w.heap.size w w7 := HB6.out.trans ((hk.mono fun i (hi : i < w.heap.size) => ⟨by have := HB6.out.size; omega, by omega⟩).below HB6.out.size)
  have HB7 := Lib.hid hB7
  clear hk hB7
  rcases hr : refutedB c c.parts.length (beginD a b t) l with _ | ev
  ·rw [hr] at hm
   dsimp only at hm
   subst hm
   have HR := Lib.hid hr
   clear hr
   go_wp2_with fail
   go_ret2
   unfold usesOut
   rw [if_pos HZ.out, HR.out]
   exact usesPost_no HB7.out
  ·rw [hr] at hm
   dsimp only at hm
   obtain ⟨rfl, N, v, hN, hv⟩ := hm
   have hsy : SymD (beginD a b t) := decWith_sym zero_sym _ _ _
   have hsu : Supp (beginD a b t) c.parts.length := supp_with (zero_supp _) zero_sym (by omega) (by omega)
   obtain ⟨hl1, hl2, hl3⟩ := uses_law (open_check HZ.out) h8 hsy hsu hr
   have hle := evS_len rfl h8 hl3
   have h20 : l.length ≤ 20000 := by
    rcases Nat.lt_or_ge 20000 l.length with h | h
    ·rw [refuted_long h] at hr; cases hr
    ·exact h
   have hlen : (evS c c.parts.length ev).length ≤ 100000 := by omega
   obtain ⟨av, cv, rfl, hro, hcv⟩ := ownsRow_own hv.2
   have HU := Lib.hid (unique_any av cv (evS c c.parts.length ev) w7 (ints_rowOwn hro) hlen)
   obtain ⟨u1, u2⟩ := hv.1.rules
   have HR := Lib.hid hr
   have HL := Lib.hid hl1
   clear hr hl1 hl2 hl3 hle hv hro hcv hsy hsu hlen
   go_wp2_with (go_at_call 56; (with_reducible refine HU.out.mono ?_); rintro e w8 ⟨g, cg, rfl, hg1, hg2, hg3, hg4, hb8⟩; have HG3 := Lib.hid (ints_rowOwn hg3); have HB8 := Lib.hid (HB7.out.trans (hb8.mono HB7.out.size)); clear hg3 hb8)
   go_ret2
   unfold usesOut
   rw [if_pos HZ.out, HR.out]
   dsimp only
   rw [← HL.out]
   exact ⟨some ⟨g, 0, none⟩, cg, rfl, HG3.out, hg4, HB8.out⟩
 ·have hoo := opened_bad ho hz
  have HO := Lib.hid hoo
  have HZ := Lib.hid hz
  have hzz : (openErr c [x, y] != 0) = true := by simpa using hz
  clear ho hoo hz
  go_enter Tryz.func17, Tryz.ntmps17
  go_upto_region 1 with fail
  simp only [HW.out]
  go_wp2_with (go_at_call 47; (with_reducible refine HO.out.mono ?_); rintro e w' ⟨rfl, hb⟩)
  go_ret2
  unfold usesOut
  rw [if_neg HZ.out]
  exact usesPost_no (hB3.trans (hb.mono hB3.size))
end Go.Proofs.YtpjcnkajimgagaaGreat
