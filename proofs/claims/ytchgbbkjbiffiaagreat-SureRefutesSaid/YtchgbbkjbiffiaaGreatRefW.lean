/- The reference's All, With; SamePairs. -/
import Derived.Test.YtchgbbkjbiffiaaGreatMAllR
import Derived.Test.YtchgbbkjbiffiaaGreatMWalk
set_option linter.unusedSimpArgs false
set_option linter.unusedVariables false
namespace Go.Proofs.YtchgbbkjbiffiaaGreat
open Go.RowKit
attribute [local go_sem] Oper.semAt_some

theorem PreOk.nil (c : Cs) : PreOk c [] := fun p v hp => by
  have := List.prefix_nil.1 hp
  simp at this
def AllPost (c : Cs) (w : World) (e : Ending) (w' : World) : Prop :=
  ∃ v, e = .returned v ∧ RowsV w.heap.size (fun b => w.heap.size ≤ b) w' v (allR c) ∧ Below w.heap.size w w'
set_option maxRecDepth 100000 in
set_option maxHeartbeats 1000000 in
theorem allTop_ref (c : Cs) (hn8 : c.parts.length ≤ 8) (hlim : 0 ≤ c.limit) (pa : Option Addr) (pc : Nat) (w : World) (hp : PartsAt w pa c.parts) :
    Calls Tryz.prog 74 #[.agg #[.string c.ware, .int .i64 c.limit, .int .i64 c.by_, .slice pa c.parts.length pc]] w (AllPost c w) := by
  obtain ⟨w1, hw1⟩ : ∃ w1, w.alloc (.cells #[.string c.ware, .int .i64 c.limit, .int .i64 c.by_, .slice pa c.parts.length pc] 24) = w1 := ⟨_, rfl⟩
  have hB1 : Below w.heap.size w w1 := by rw [← hw1]; go_grown
  have b1 : Box w1 w.heap.size (csCells c pa pc) 24 := by rw [← hw1]; exact Box.new _ _ _
  have hs1 : w1.heap.size = w.heap.size + 1 := by rw [← hw1]; simp
  have e1 : ∀ i, w1.cell? ⟨w.heap.size, i, none⟩ = (#[.string c.ware, .int .i64 c.limit, .int .i64 c.by_, .slice pa c.parts.length pc] : Array Value)[i]? := b1.cell
  have hB2 : Below w.heap.size w (w1.alloc (.cells #[] 3)) := hB1.alloc (by omega) _
  have hall := all_ref c hn8 hlim pa pc c.parts.length [] (some ⟨w1.heap.size, 0, none⟩) 0 (w1.alloc (.cells #[] 3)) (by simp) (hp.below hB2) (Ints.nil _ _) (Nat.zero_le _) (PreOk.nil c)
  rw [List.length_nil] at hall
  have HS := Lib.hid hs1
  have HW := Lib.hid hw1
  have HB2 := Lib.hid hB2
  have HA := Lib.hid hall
  clear hall hB2 hs1 hw1 hB1 b1 hp
  go_enter Tryz.func74, Tryz.ntmps74
  go_upto_region 1 with fail
  simp only [HW.out]
  go_wp2_with (go_at_call 129; (with_reducible refine HA.out.mono ?_); rintro e w3 ⟨v, rfl, hv, hb⟩; have HV := Lib.hid hv; have HB3 := Lib.hid hb; clear hv hb)
  go_ret
  refine ⟨v, rfl, HV.out.less (by simp; have := HS.out; omega) (fun b hb => ?_), HB2.out.trans (HB3.out.mono HB2.out.size)⟩
  have := HS.out
  rcases hb with hb | ⟨o, hb⟩
  · simp at hb; omega
  · cases hb; omega

theorem allGo_size (c : Cs) : ∀ (r : Nat) (pre : List Nat), ∀ x ∈ allGo c r pre, x.length = pre.length + r
  | 0, pre, x, h => by simp [allGo] at h; subst h; rfl
  | r + 1, pre, x, h => by
    simp only [allGo, List.mem_flatMap] at h
    obtain ⟨v, _, h⟩ := h
    split at h
    · have := allGo_size c r (pre ++ [v]) x h
      rw [this, List.length_append, List.length_singleton]; omega
    · simp at h
theorem allR_size {c : Cs} {x : List Nat} (h : x ∈ allR c) : x.length = c.parts.length := by
  have := allGo_size c c.parts.length [] x h
  simpa using this

/-- a list that may be of others, and whether there is one, behind an error number -/
def LookPost (er : Int) (o : Option (List Nat)) (w : World) (e : Ending) (w' : World) : Prop :=
  Below w.heap.size w w' ∧ ((er ≠ 0 ∧ e = .returned (.tuple #[.slice none 0 0, .bool false, .int .i64 er])) ∨ (er = 0 ∧ o = none ∧ e = .returned (.tuple #[.slice none 0 0, .bool false, .int .i64 0])) ∨
    (er = 0 ∧ ∃ x a cap, o = some x ∧ e = .returned (.tuple #[.slice a x.length cap, .bool true, .int .i64 0]) ∧ Ints w' a (natInts x)))
theorem find_snoc {α : Type} {l : List α} {k : Nat} {x : α} {p : α → Bool} (hx : l[k]? = some x) (h : (l.take k).find? p = none) : (l.take (k + 1)).find? p = if p x then some x else none := by
  rw [take_snoc hx, List.find?_append, h]
  simp [List.find?_cons]
  split <;> simp_all
theorem find_at {α : Type} {l : List α} {k : Nat} {x : α} {p : α → Bool} (hx : l[k]? = some x) (h : (l.take k).find? p = none) (hp : p x = true) : l.find? p = some x := by
  have h1 := find_snoc hx h
  rw [hp] at h1
  rw [← List.take_append_drop (k + 1) l, List.find?_append, h1]
  rfl
set_option maxRecDepth 100000 in
set_option maxHeartbeats 2000000 in
theorem with_ref (c : Cs) (hsm : c.Small) (pa : Option Addr) (pc : Nat) (x y : Int) (t : Bool) (w : World) (hp : PartsAt w pa c.parts) :
    Calls Tryz.prog 21 #[.agg #[.string c.ware, .int .i64 c.limit, .int .i64 c.by_, .slice pa c.parts.length pc], .int .i64 x, .int .i64 y, .bool t] w
      (LookPost (openErr c [x, y]) ((allR c).find? (asPair x.toNat y.toNat t)) w) := by
  obtain ⟨w1, hw1⟩ : ∃ w1, w.alloc (.cells #[.string c.ware, .int .i64 c.limit, .int .i64 c.by_, .slice pa c.parts.length pc] 24) = w1 := ⟨_, rfl⟩
  have hB1 : Below w.heap.size w w1 := by rw [← hw1]; go_grown
  have b1 : Box w1 w.heap.size (csCells c pa pc) 24 := by rw [← hw1]; exact Box.new _ _ _
  have e1 : ∀ i, w1.cell? ⟨w.heap.size, i, none⟩ = (#[.string c.ware, .int .i64 c.limit, .int .i64 c.by_, .slice pa c.parts.length pc] : Array Value)[i]? := b1.cell
  have hak := asked_ref c hsm pa pc x y w1 (hp.below hB1)
  have HP := Lib.hid hp
  have HW := Lib.hid hw1
  have HB1 := Lib.hid hB1
  have HX := Lib.hid b1
  have HAK := Lib.hid hak
  clear hw1 hB1 b1 hak hp
  by_cases hz : openErr c [x, y] = 0
  · have h8 := check_small hz
    have hlim := check_lim (open_check hz)
    have hx := open_in hz x (by simp)
    have hy := open_in hz y (by simp)
    obtain ⟨a, rfl⟩ := Int.eq_ofNat_of_zero_le hx.1
    obtain ⟨b, rfl⟩ := Int.eq_ofNat_of_zero_le hy.1
    simp only [Int.toNat_natCast]
    obtain ⟨n, hn⟩ : ∃ n, c.parts.length = n := ⟨_, rfl⟩
    have hxa := hx.2
    have hyb := hy.2
    rw [hn] at hxa hyb
    have hrl := allR_len h8
    obtain ⟨R, hR⟩ : ∃ R, allR c = R := ⟨_, rfl⟩
    rw [hR] at hrl
    have HN := Lib.hid hn
    have HR := Lib.hid hR
    have HZ := Lib.hid hz
    rw [hz] at HAK
    simp only [hR]
    clear hz hx hy hn hR
    go_enter Tryz.func21, Tryz.ntmps21
    go_upto_region 1 with fail
    simp only [HW.out]
    go_upto_region 4 with (go_at_call 65; (with_reducible refine HAK.out.mono ?_); rintro e w2 ⟨rfl, hb2⟩; have e2 : ∀ i, w2.cell? ⟨w.heap.size, i, none⟩ = (#[.string c.ware, .int .i64 c.limit, .int .i64 c.by_, .slice pa c.parts.length pc] : Array Value)[i]? := (HX.out.below' hb2).cell; have HB2 := Lib.hid hb2; clear hb2)
    clear e1
    have hW2 : Below w.heap.size w w2 := HB1.out.trans (HB2.out.mono HB1.out.size)
    have HAL := Lib.hid (allTop_ref c h8 hlim.1 pa pc w2 (HP.out.below hW2))
    have HW2 := Lib.hid hW2
    clear hW2
    go_wp2_with (go_at_call 74; (with_reducible refine HAL.out.mono ?_); rintro e w3 ⟨v, rfl, hv, hb⟩; have HB3 := Lib.hid hb; have HV := Lib.hid hv; obtain ⟨ra, rcap, rfl, -⟩ := hv.at_; clear hb)
    clear e2
    rw [HR.out] at HV
    simp only [HR.out]
    have HW3 := Lib.hid (HW2.out.trans (HB3.out.mono HW2.out.size))
    go_loopw [13] (fun i wr => ∃ k : Nat, k ≤ R.length ∧ i = .int .i64 k ∧ Hid ((R.take k).find? (asPair a b t) = none) ∧ Below w3.heap.size w3 wr) (fun i _ => R.length - (intOf i).toNat)
    case atStart => exact ⟨0, Nat.zero_le _, rfl, Lib.hid rfl, Below.refl _ _⟩
    case round =>
      obtain ⟨k, hk, rfl, HF, hb⟩ := hrel
      have HB := Lib.hid hb
      clear hb
      by_cases hlt : k < R.length
      · obtain ⟨l, hl⟩ := get_of_lt R hlt
        obtain ⟨_, _, hva, hrd⟩ := (HV.out.below HB.out).at_
        injection hva with hva1 _ hva2
        subst hva1 hva2
        obtain ⟨rb, ro, la, lc, rfl, hc, hi, hic⟩ := hrd k l hl
        have hln : l.length = n := by rw [← HN.out]; exact allR_size (by rw [HR.out]; exact List.mem_of_getElem? hl)
        obtain ⟨gb, go_, rfl, hrow⟩ := hi.base (by simp [natInts]; omega)
        obtain ⟨u, hu⟩ := get_of_lt l (k := a) (by omega)
        obtain ⟨v, hv⟩ := get_of_lt l (k := b) (by omega)
        have c1 := hrow a u (by simp [natInts, hu])
        have c2 := hrow b v (by simp [natInts, hv])
        have hki : (k : Int) < (R.length : Int) := by omega
        have HL := Lib.hid hl
        have HI := Lib.hid hi
        have HLN := Lib.hid hln
        have HPR := Lib.hid (show asPair a b t l = (((u : Int) == (v : Int)) == t) by simp only [asPair, hu, hv, beq_int]; simp)
        rw [hln] at hc
        clear hl hrd hi hrow hu hv hln hic
        rcases huv : ((u : Int) == (v : Int)) with _ | _
        · rw [huv] at HPR
          have HUV := Lib.hid huv
          cases t
          · skip
            go_wp2_with fail
            go_quiet (fail)
            go_wp2_with fail
            go_ret3
            refine ⟨HW3.out.trans ((below_drewN HB.out _).mono HW3.out.size), .inr (.inr ⟨HZ.out, l, some ⟨gb, go_, none⟩, lc, find_at HL.out HF.out HPR.out, by rw [HLN.out]; rfl, ?_⟩)⟩
            exact HI.out
          · skip
            go_wp2_with fail
            go_quiet (fail)
            go_wp2_with fail
            go_roundw
            case rel => exact ⟨k + 1, by omega, by go_num, Lib.hid (by rw [find_snoc HL.out HF.out, HPR.out]; rfl), below_drewN HB.out _⟩
            case measure => simp [intOf]; omega
        · rw [huv] at HPR
          have HUV := Lib.hid huv
          cases t
          · skip
            go_wp2_with fail
            go_quiet (fail)
            go_wp2_with fail
            go_roundw
            case rel => exact ⟨k + 1, by omega, by go_num, Lib.hid (by rw [find_snoc HL.out HF.out, HPR.out]; rfl), below_drewN HB.out _⟩
            case measure => simp [intOf]; omega
          · skip
            go_wp2_with fail
            go_quiet (fail)
            go_wp2_with fail
            go_ret3
            refine ⟨HW3.out.trans ((below_drewN HB.out _).mono HW3.out.size), .inr (.inr ⟨HZ.out, l, some ⟨gb, go_, none⟩, lc, find_at HL.out HF.out HPR.out, by rw [HLN.out]; rfl, ?_⟩)⟩
            exact HI.out
      · go_wp2_with fail
        go_ret3
        refine ⟨HW3.out.trans (HB.out.mono HW3.out.size), .inr (.inl ⟨HZ.out, ?_, rfl⟩)⟩
        have h1 := HF.out
        rwa [List.take_of_length_le (by omega)] at h1
  · have hzz : (openErr c [x, y] != 0) = true := by simpa using hz
    have HZ := Lib.hid hz
    clear hz
    go_enter Tryz.func21, Tryz.ntmps21
    go_upto_region 1 with fail
    simp only [HW.out]
    go_wp2_with (go_at_call 65; (with_reducible refine HAK.out.mono ?_); rintro e w2 ⟨rfl, hb2⟩; have HB2 := Lib.hid hb2; clear hb2)
    go_ret3
    exact ⟨HB1.out.trans (HB2.out.mono HB1.out.size), .inl ⟨HZ.out, rfl⟩⟩
end Go.Proofs.YtchgbbkjbiffiaaGreat
