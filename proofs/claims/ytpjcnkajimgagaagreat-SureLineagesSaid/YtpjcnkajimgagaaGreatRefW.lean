/- The reference's All, With; SamePairs. -/
import Derived.Test.YtpjcnkajimgagaaGreatMAllR
import Derived.Test.YtpjcnkajimgagaaGreatMWalk
set_option linter.unusedSimpArgs false
set_option linter.unusedVariables false
namespace Go.Proofs.YtpjcnkajimgagaaGreat
open Go.RowKit
attribute [local go_sem] Oper.semAt_some

theorem PreOk.nil (c : Cs) : PreOk c [] := fun p v hp => by
 have := List.prefix_nil.1 hp
 simp at this
def AllPost (c : Cs) (w : World) (e : Ending) (w' : World) : Prop :=
 ∃ v, e = .returned v ∧ RowsV w.heap.size (fun b => w.heap.size ≤ b) w' v (allR c) ∧ Below w.heap.size w w'
set_option maxRecDepth 100000 in
set_option maxHeartbeats 1000000 in
theorem allTop_ref (c : Cs) (hn8 : c.parts.length ≤ 8) (hlim : 0 ≤ c.limit) (pa : Option Addr) (pc : Nat) (w : World) (hp : PartsAt w pa c.parts) :
  Calls Tryz.prog 72 #[.agg #[.string c.ware, .int .i64 c.limit, .int .i64 c.by_, .slice pa c.parts.length pc]] w (AllPost c w) := by
 obtain ⟨w1, hw1⟩ : ∃ w1, w.alloc (.cells #[.string c.ware, .int .i64 c.limit, .int .i64 c.by_, .slice pa c.parts.length pc] 24) = w1 := ⟨_, rfl⟩
 have hB1 : Below w.heap.size w w1 := by rw [← hw1]; go_grown
 have b1 : Box w1 w.heap.size (csCells c pa pc) 24 := by rw [← hw1]; exact Box.new _ _ _
 have hs1 : w1.heap.size = w.heap.size + 1 := by rw [← hw1]; simp
 have e1 : ∀ i, w1.cell? ⟨w.heap.size, i, none⟩ = (#[.string c.ware, .int .i64 c.limit, .int .i64 c.by_, .slice pa c.parts.length pc] : Array Value)[i]? := b1.cell
 have hB2 : Below w.heap.size w (w1.alloc (.cells #[] 3)) := hB1.alloc (by omega) _
 have hall := all_ref c hn8 hlim pa pc c.parts.length [] (some ⟨w1.heap.size, 0, none⟩) 0 (w1.alloc (.cells #[] 3)) (by simp) (hp.below hB2) (Ints.nil _ _) (Nat.zero_le _) (PreOk.nil c)
 rw [List.length_nil] at hall
 have HS := Lib.hid hs1
 have HW := Lib.hid hw1
 have HB2 := Lib.hid hB2
 have HA := Lib.hid hall
 clear hall hB2 hs1 hw1 hB1 b1 hp
 go_enter Tryz.func72, Tryz.ntmps72
 go_upto_region 1 with fail
 simp only [HW.out]
 go_wp2_with (go_at_call 105; (with_reducible refine HA.out.mono ?_); rintro e w3 ⟨v, rfl, hv, hb⟩; have HV := Lib.hid hv; have HB3 := Lib.hid hb; clear hv hb)
 go_ret
 refine ⟨v, rfl, HV.out.less (by simp; have := HS.out; omega) (fun b hb => ?_), HB2.out.trans (HB3.out.mono HB2.out.size)⟩
 have := HS.out
 rcases hb with hb | ⟨o, hb⟩
 ·simp at hb; omega
 ·cases hb; omega

theorem allGo_size (c : Cs) : ∀ (r : Nat) (pre : List Nat), ∀ x ∈ allGo c r pre, x.length = pre.length + r
 | 0, pre, x, h => by simp [allGo] at h; subst h; rfl
 | r + 1, pre, x, h => by
  simp only [allGo, List.mem_flatMap] at h
  obtain ⟨v, _, h⟩ := h
  split at h
  ·have := allGo_size c r (pre ++ [v]) x h
   rw [this, List.length_append, List.length_singleton]; omega
  ·simp at h
theorem allR_size {c : Cs} {x : List Nat} (h : x ∈ allR c) : x.length = c.parts.length := by
 have := allGo_size c c.parts.length [] x h
 simpa using this

/-- a list that may be of others, and whether there is one, behind an error number -/
def LookPost (er : Int) (o : Option (List Nat)) (w : World) (e : Ending) (w' : World) : Prop :=
 Below w.heap.size w w' ∧ ((er ≠ 0 ∧ e = .returned (.tuple #[.slice none 0 0, .bool false, .int .i64 er])) ∨ (er = 0 ∧ o = none ∧ e = .returned (.tuple #[.slice none 0 0, .bool false, .int .i64 0])) ∨
  (er = 0 ∧ ∃ x a cap, o = some x ∧ e = .returned (.tuple #[.slice a x.length cap, .bool true, .int .i64 0]) ∧ Ints w' a (natInts x)))
theorem find_snoc {α : Type} {l : List α} {k : Nat} {x : α} {p : α → Bool} (hx : l[k]? = some x) (h : (l.take k).find? p = none) : (l.take (k + 1)).find? p = if p x then some x else none := by
 rw [take_snoc hx, List.find?_append, h]
 simp [List.find?_cons]
 split <;> simp_all
theorem find_at {α : Type} {l : List α} {k : Nat} {x : α} {p : α → Bool} (hx : l[k]? = some x) (h : (l.take k).find? p = none) (hp : p x = true) : l.find? p = some x := by
 have h1 := find_snoc hx h
 rw [hp] at h1
 rw [← List.take_append_drop (k + 1) l, List.find?_append, h1]
 rfl
end Go.Proofs.YtpjcnkajimgagaaGreat
