/- A case with its parts in another order: CheckCase says the same. -/
/- Parts put one behind the other in a list of the call's own; their lists still lie where they lay. -/
/- slices.Index and slices.Contains at []int, walked. -/
import Derived.Test.YtchgbbkjbiffiaaGreatMPlain
import Derived.Test.YtchgbbkjbiffiaaGreatMRemade
import Derived.Test.YtchgbbkjbiffiaaGreatMOpen
import Derived.Test.YtchgbbkjbiffiaaGreatMRefA
set_option linter.unusedSimpArgs false
set_option linter.unusedVariables false
namespace Go.Proofs.YtchgbbkjbiffiaaGreat
open Go.RowKit

theorem perm_of_mem {α : Type} [DecidableEq α] : ∀ {l m : List α}, l.Nodup → m.Nodup → (∀ a, a ∈ l ↔ a ∈ m) → l.Perm m
  | [], m, _, _, h => by
    rcases m with _ | ⟨x, m⟩
    · exact List.Perm.refl _
    · have := (h x).2 (by simp); simp at this
  | a :: l, m, h1, h2, h => by
    have ha : a ∈ m := (h a).1 (by simp)
    have hn := List.nodup_cons.1 h1
    refine (List.Perm.cons a (perm_of_mem hn.2 (h2.erase a) fun b => ?_)).trans (List.perm_cons_erase ha).symm
    rw [h2.mem_erase_iff]
    constructor
    · intro hb
      exact ⟨fun e => hn.1 (e ▸ hb), (h b).1 (List.mem_cons_of_mem _ hb)⟩
    · rintro ⟨hne, hb⟩
      rcases List.mem_cons.1 ((h b).2 hb) with e | hb2
      · exact absurd e hne
      · exact hb2
theorem reord_perm {c d : Cs} {s : List Nat} (R : Reord c d s) : d.parts.Perm c.parts := by
  have h1 : d.parts.map some = s.map fun i => c.parts[i]? := by
    apply List.ext_getElem?
    intro k
    rw [List.getElem?_map, List.getElem?_map]
    by_cases hk : k < c.parts.length
    · have hks : k < s.length := by rw [R.slen]; exact hk
      rw [R.at_ k hk, nth_get hks, List.getElem?_eq_getElem hks]
      have hlt := R.lt _ (List.getElem_mem hks)
      rw [List.getElem?_eq_getElem hlt]
      simp [List.getElem?_eq_getElem hlt]
    · rw [List.getElem?_eq_none (by rw [R.len]; omega), List.getElem?_eq_none (by rw [R.slen]; omega)]
      rfl
  have h2 : c.parts.map some = (List.range c.parts.length).map fun i => c.parts[i]? := by
    apply List.ext_getElem?
    intro k
    rw [List.getElem?_map, List.getElem?_map]
    by_cases hk : k < c.parts.length
    · rw [List.getElem?_range hk, List.getElem?_eq_getElem hk]
      simp [List.getElem?_eq_getElem hk]
    · rw [List.getElem?_eq_none (by omega), List.getElem?_eq_none (by simp; omega)]
      rfl
  have h3 : s.Perm (List.range c.parts.length) := perm_of_mem R.nd List.nodup_range fun a => by
    rw [List.mem_range]
    exact ⟨R.lt a, fun h => full_mem R.nd R.lt R.slen a h⟩
  have h4 : (d.parts.map some).Perm (c.parts.map some) := by rw [h1, h2]; exact h3.map _
  have h5 := h4.filterMap id
  simpa [List.filterMap_map] using h5
theorem reord_check {c d : Cs} {s : List Nat} (R : Reord c d s) (hw : d.ware = c.ware) (hb : d.by_ = c.by_) : checkCase d = checkCase c := by
  have hp := reord_perm R
  have h1 : ok0 d = ok0 c := by unfold ok0; rw [hw, R.lim, hb]
  have h2 : d.parts.all isPartB = c.parts.all isPartB := by
    rw [Bool.eq_iff_iff, List.all_eq_true, List.all_eq_true]
    exact ⟨fun h x hx => h x (hp.mem_iff.2 hx), fun h x hx => h x (hp.mem_iff.1 hx)⟩
  have h3 : noDup (allIds d.parts) = noDup (allIds c.parts) := by
    unfold noDup allIds
    rw [Bool.eq_iff_iff, decide_eq_true_iff, decide_eq_true_iff]
    exact (hp.flatMap_right _).nodup_iff
  unfold checkCase okCase
  rw [R.len, h1, h2, h3]
theorem reord_ask {c d : Cs} {s : List Nat} (R : Reord c d s) (hw : d.ware = c.ware) (hb : d.by_ = c.by_) : askErr d [] = askErr c [] := by
  have h1 : openErr d [] = openErr c [] := by unfold openErr; rw [reord_check R hw hb]; rfl
  have h2 : (allR d).isEmpty = (allR c).isEmpty := by
    rw [Bool.eq_iff_iff, List.isEmpty_iff_length_eq_zero, List.isEmpty_iff_length_eq_zero, R.count]
  unfold askErr
  rw [h1, h2]
end Go.Proofs.YtchgbbkjbiffiaaGreat
namespace Go.Proofs.YtchgbbkjbiffiaaGreat
open Go.RowKit

theorem app_part {base : Nat} {W : World} {v : Value} {k : Nat} {xs : List Value} (h : W.ownsRow base 61 8 v k xs) (hk : k + 1 ≤ 1000000) (hB : base ≤ W.heap.size) (cs : List Value) (hl : cs.length = 8) (h1 : ∀ u ∈ cs, u.oneCell' = true) :
    ∃ v' U, (Builtin.append_ #[22, 22] 22 #[v, .slice (some ⟨W.heap.size, 0, none⟩) 1 1]).run Tryz.prog (W.alloc (.cells cs.toArray 61)) = .ok v' U ∧ U.ownsRow base 61 8 v' (k + 1) (xs ++ cs) ∧ Below base W U := by
  obtain ⟨v', U, hrun, hown, hg, _⟩ := run_append_row (P := Tryz.prog) (W.alloc (.cells cs.toArray 61)) base 22 22 61 zeroPart 8 96 Tryz.underlying22 info_partz rfl (by omega)
    _ _ _ (ownsRow_keep h ((Keep.refl (fun _ => True) W).alloc (.cells cs.toArray 61)) (fun _ _ => trivial)) (some ⟨W.heap.size, 0, none⟩) 1 1 cs (by rw [hl]) (fun j u hu => ⟨W.heap.size, 0, rfl, by rw [(Box.new W _ _).cell, Nat.zero_add]; simpa using hu⟩) h1 (by omega) (by omega) (by simp; omega)
  exact ⟨v', U, hrun, hown, ((Below.refl _ W).alloc hB (.cells cs.toArray 61)).grown hg (by simp; omega) (fun j hj => (h.lt j hj).1)⟩
/-- the list as it stands -/
def OrdSt (w0 : World) (B : Nat) (W : World) (v : Value) (ps : List Prt) : Prop :=
  ∃ xs, W.ownsRow B 61 8 v ps.length xs ∧ ∀ i p, ps[i]? = some p → ∃ sa sc ra rc, (∀ j u, (prtCells p sa sc ra rc)[j]? = some u → xs[i * 8 + j]? = some u) ∧ Ints w0 sa p.sherds ∧ Ints w0 ra p.rests ∧ p.sherds.length ≤ sc ∧ p.rests.length ≤ rc
theorem OrdSt.nil (w0 : World) (B : Nat) (W : World) : OrdSt w0 B W (.slice none 0 0) [] := ⟨[], ownsRow_nil _ _ _ _, by simp⟩
theorem ord_push {w0 : World} {B : Nat} {W : World} {v : Value} {ps : List Prt} {p : Prt} {sa ra : Option Addr} {sc rc : Nat} (h : OrdSt w0 B W v ps) (hk : ps.length + 1 ≤ 1000000) (hB : B ≤ W.heap.size)
    (h1 : Ints w0 sa p.sherds) (h2 : Ints w0 ra p.rests) (h3 : p.sherds.length ≤ sc) (h4 : p.rests.length ≤ rc) :
    ∃ v' U, (Builtin.append_ #[22, 22] 22 #[v, .slice (some ⟨W.heap.size, 0, none⟩) 1 1]).run Tryz.prog (W.alloc (.cells (prtCells p sa sc ra rc).toArray 61)) = .ok v' U ∧ OrdSt w0 B U v' (ps ++ [p]) ∧ Below B W U := by
  obtain ⟨xs, ho, hp⟩ := h
  obtain ⟨v', U, hrun, hown, hb⟩ := app_part ho hk hB (prtCells p sa sc ra rc) rfl (prt_one p sa sc ra rc)
  have hxl : xs.length = ps.length * 8 := ho.1
  refine ⟨v', U, hrun, ⟨xs ++ prtCells p sa sc ra rc, by rw [List.length_append, List.length_singleton]; exact hown, fun i q hq => ?_⟩, hb⟩
  rcases Nat.lt_or_ge i ps.length with hi | hi
  · rw [List.getElem?_append_left hi] at hq
    obtain ⟨a1, a2, a3, a4, b1, b2, b3, b4, b5⟩ := hp i q hq
    refine ⟨a1, a2, a3, a4, fun j u hu => ?_, b2, b3, b4, b5⟩
    have := b1 j u hu
    rw [List.getElem?_append_left (List.getElem?_eq_some_iff.1 this).1]
    exact this
  · have hi2 : i = ps.length := by
      have := (List.getElem?_eq_some_iff.1 hq).1
      rw [List.length_append, List.length_singleton] at this
      omega
    subst hi2
    rw [List.getElem?_append_right (Nat.le_refl _), Nat.sub_self] at hq
    cases hq
    refine ⟨sa, sc, ra, rc, fun j u hu => ?_, h1, h2, h3, h4⟩
    rw [List.getElem?_append_right (by omega), hxl, Nat.add_sub_cancel_left]
    exact hu
theorem ord_parts {w0 : World} {B : Nat} {W : World} {v : Value} {ps : List Prt} (h : OrdSt w0 B W v ps) (hb : Below w0.heap.size w0 W) : ∃ a cap, v = .slice a ps.length cap ∧ PartsAt W a ps ∧ ps.length ≤ cap := by
  obtain ⟨xs, ho, hp⟩ := h
  obtain ⟨a, cap, hv, hr, hc⟩ := ownsRow_own ho
  refine ⟨a, cap, hv, fun k p hk => ?_, hc⟩
  obtain ⟨sa, sc, ra, rc, b1, b2, b3, b4, b5⟩ := hp k p hk
  obtain ⟨b, o, ha, _⟩ := hr.row (k * 8 + 0) _ (b1 0 _ rfl)
  refine ⟨b, o, ha, sa, sc, ra, rc, fun j u hu => ?_, b2.below hb, b3.below hb, b4, b5⟩
  obtain ⟨b', o', ha', hcell⟩ := hr.row _ _ (b1 j u hu)
  rw [ha] at ha'; cases ha'
  rw [Nat.add_assoc]
  exact hcell
theorem OrdSt.keep {w0 : World} {B : Nat} {W W' : World} {v : Value} {ps : List Prt} {K : Nat → Prop} (h : OrdSt w0 B W v ps) (hk : Keep K W W') (hK : ∀ k, B ≤ k → K k) : OrdSt w0 B W' v ps := by
  obtain ⟨xs, ho, hp⟩ := h
  exact ⟨xs, ownsRow_keep ho hk (fun k hk => hK k (by omega)), hp⟩
/-- the order as far as it is read -/
structure OrdI (c : Cs) (l : List Int) (i : Nat) (s : List Nat) (ps : List Prt) : Prop where
  nums : natInts s = l.take i
  slen : s.length = i
  lt : ∀ a ∈ s, a < c.parts.length
  nd : s.Nodup
  plen : ps.length = i
  at_ : ∀ j, j < i → ps[j]? = c.parts[nth s j]?
theorem OrdI.nil (c : Cs) (l : List Int) : OrdI c l 0 [] [] := ⟨by simp [natInts], rfl, by simp, by simp, rfl, fun j hj => absurd hj (Nat.not_lt_zero j)⟩
theorem OrdI.step {c : Cs} {l : List Int} {i k : Nat} {s : List Nat} {ps : List Prt} {p : Prt} (h : OrdI c l i s ps) (hk : l[i]? = some (k : Int)) (hp : c.parts[k]? = some p) (hn : (l.take i).contains (k : Int) = false) : OrdI c l (i + 1) (s ++ [k]) (ps ++ [p]) := by
  have hkn : k < c.parts.length := (List.getElem?_eq_some_iff.1 hp).1
  have hks : ¬ k ∈ s := fun hks => by
    have h1 : (k : Int) ∈ l.take i := by rw [← h.nums]; simp only [natInts, List.mem_map]; exact ⟨k, hks, rfl⟩
    rw [List.contains_iff_mem.2 h1] at hn
    cases hn
  refine ⟨?_, ?_, fun a ha => ?_, ?_, ?_, fun j hj => ?_⟩
  · rw [take_snoc hk, ← h.nums]; simp [natInts]
  · rw [List.length_append, List.length_singleton, h.slen]
  · rcases List.mem_append.1 ha with ha | ha
    · exact h.lt a ha
    · rw [List.mem_singleton.1 ha]; exact hkn
  · rw [List.nodup_append]
    exact ⟨h.nd, by simp, fun u hu v hv e => by rw [List.mem_singleton.1 hv] at e; subst e; exact hks hu⟩
  · rw [List.length_append, List.length_singleton, h.plen]
  · rcases Nat.lt_or_ge j i with hji | hji
    · rw [List.getElem?_append_left (by rw [h.plen]; exact hji), h.at_ j hji, nth_app (by rw [h.slen]; exact hji)]
    · have hje : j = s.length := by rw [h.slen]; omega
      rw [hje, nth_end, hp, h.slen, ← h.plen, List.getElem?_append_right (Nat.le_refl _), Nat.sub_self]
      rfl
theorem OrdI.val {c : Cs} {l : List Int} {i : Nat} {s : List Nat} {ps : List Prt} (h : OrdI c l i s ps) {j : Nat} (hj : j < i) : l[j]? = some (nth s j : Int) := by
  have h1 : (natInts s)[j]? = l[j]? := by rw [h.nums, List.getElem?_take_of_lt hj]
  rw [← h1, nth_get (by rw [h.slen]; exact hj)]
  have hjs : j < s.length := by rw [h.slen]; exact hj
  simp [natInts, hjs]
theorem OrdI.reord {c : Cs} {l : List Int} {s : List Nat} {ps : List Prt} (h : OrdI c l c.parts.length s ps) : Reord c { c with parts := ps } s :=
  ⟨h.plen, rfl, h.slen, h.lt, h.nd, fun i hi => h.at_ i hi⟩
theorem reord_small {c : Cs} {s : List Nat} {ps : List Prt} (R : Reord c { c with parts := ps } s) (h : c.Small) : ({ c with parts := ps } : Cs).Small :=
  ⟨by have := R.len; have := h.1; simp only at *; omega, h.2.1, fun p hp => h.2.2 p ((reord_perm R).mem_iff.1 hp)⟩
theorem order_get {w : World} {a : Option Addr} {l : List Int} (h : Ints w a l) {i : Nat} (hi : i < l.length) : ∃ b o, a = some ⟨b, o, none⟩ ∧ ∀ (k : Nat) x, l[k]? = some x → w.cell? ⟨b, o + k, none⟩ = some (.int .i64 x) := h.base (by omega)
theorem ints_take {w : World} {a : Option Addr} {l : List Int} (h : Ints w a l) (i : Nat) : Ints w a (l.take i) := fun k v hv => by
  rw [List.getElem?_map] at hv
  obtain ⟨x, hx, rfl⟩ := Option.map_eq_some_iff.1 hv
  have hk : k < (l.take i).length := (List.getElem?_eq_some_iff.1 hx).1
  refine h k _ ?_
  rw [List.length_take] at hk
  rw [List.getElem?_take_of_lt (by omega)] at hx
  rw [List.getElem?_map, hx]; rfl
end Go.Proofs.YtchgbbkjbiffiaaGreat
namespace Go.Proofs.YtchgbbkjbiffiaaGreat
open Go.RowKit
attribute [local go_sem] Oper.semAt_some

theorem index_any (a : Option Addr) (c : Nat) (l : List Int) (x : Int) (w : World) (h : Ints w a l) (hl : l.length ≤ 1000000) :
    Calls Tryz.prog 95 #[.slice a l.length c, .int .i64 x] w fun e w' => (∃ v : Int, e = .returned (.int .i64 v) ∧ (decide (0 ≤ v)) = l.contains x) ∧ Below w.heap.size w w' := by
  go_enter Tryz.func95, Tryz.ntmps95
  go_wp2_with fail
  go_loopw [8] (fun i wr => ∃ k : Nat, k ≤ l.length ∧ i = .int .i64 k ∧ (l.take k).contains x = false ∧ Below w.heap.size w wr) (fun i _ => l.length - (intOf i).toNat)
  case atStart => exact ⟨0, Nat.zero_le _, rfl, by simp, Below.refl _ _⟩
  case round =>
    obtain ⟨k, hk, rfl, hall, hb⟩ := hrel
    have HA := Lib.hid hall
    have HB := Lib.hid hb
    clear hall hb
    by_cases hlt : k < l.length
    · obtain ⟨b, o, rfl, hc0⟩ := (h.below HB.out).base (by omega)
      obtain ⟨y, hy⟩ := get_of_lt l hlt
      have hc := hc0 _ _ hy
      have hkn : (k : Int) < (l.length : Int) := by omega
      have HY := Lib.hid hy
      clear hy hc0
      by_cases hyx : x = y
      · have hyb : (x == y) = true := by simp [hyx]
        have HX := Lib.hid hyx
        clear hyx
        go_wp2_with fail
        try (go_quiet (fail); go_wp2_with fail)
        go_ret
        have : x ∈ l := by rw [HX.out]; exact List.mem_of_getElem? HY.out
        first
          | exact ⟨⟨_, rfl, by simp [this]⟩, HB.out⟩
          | exact ⟨⟨_, rfl, by simp [this]⟩, below_drewN HB.out _⟩
      · have hyb : (x == y) = false := by simp [hyx]
        have HX := Lib.hid hyx
        clear hyx
        go_wp2_with fail
        try (go_quiet (fail); go_wp2_with fail)
        go_roundw
        case rel =>
          have e : (l.take (k + 1)).contains x = false := by rw [take_snoc HY.out]; simp only [List.contains_append, HA.out]; simp; exact HX.out
          first
            | exact ⟨k + 1, by omega, by go_num, e, HB.out⟩
            | exact ⟨k + 1, by omega, by go_num, e, below_drewN HB.out _⟩
        case measure => simp [intOf]; omega
    · go_wp2_with fail
      go_ret
      have h1 := HA.out
      rw [List.take_of_length_le (by omega)] at h1
      have h2 : ¬ x ∈ l := by simpa using h1
      exact ⟨⟨_, rfl, by simp [h2]⟩, HB.out⟩
theorem contains_any (a : Option Addr) (c : Nat) (l : List Int) (x : Int) (w : World) (h : Ints w a l) (hl : l.length ≤ 1000000) :
    Calls Tryz.prog 37 #[.slice a l.length c, .int .i64 x] w fun e w' => e = .returned (.bool (l.contains x)) ∧ Below w.heap.size w w' := by
  have HI := Lib.hid (index_any a c l x w h hl)
  clear h
  go_enter Tryz.func37, Tryz.ntmps37
  go_wp2_with fail
  (with_reducible refine HI.out.mono ?_)
  rintro e w2 ⟨⟨v, rfl, hv⟩, hb⟩
  have HV := Lib.hid hv
  have HB := Lib.hid hb
  clear hv hb
  by_cases h0 : 0 ≤ v
  · go_wp2_with fail
    go_ret
    exact ⟨by rw [← HV.out]; simp [h0], HB.out⟩
  · go_wp2_with fail
    go_ret
    exact ⟨by rw [← HV.out]; simp [h0], HB.out⟩
end Go.Proofs.YtchgbbkjbiffiaaGreat
