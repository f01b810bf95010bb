/- The reference's with1: a rising list with an Id that is not 0, once. -/
import Derived.Test.YtpjcnkajimgagaaGreatMWithP
import Derived.Test.YtpjcnkajimgagaaGreatMAllR
set_option linter.unusedSimpArgs false
set_option linter.unusedVariables false
namespace Go.Proofs.YtpjcnkajimgagaaGreat
open Go.RowKit
attribute [local go_sem] Oper.semAt_some

/-- where the first that is not less stands -/
theorem split_at {l : List Int} {n : Int} {i : Nat} (hi : i ≤ l.length) (h1 : ∀ x ∈ l.take i, x < n) (h2 : ∀ x, l[i]? = some x → ¬ x < n) : (l.takeWhile fun x => decide (x < n)) = l.take i ∧ (l.dropWhile fun x => decide (x < n)) = l.drop i := by
 have e : l = l.take i ++ l.drop i := (List.take_append_drop i l).symm
 have hd : (l.drop i).takeWhile (fun x => decide (x < n)) = [] ∧ (l.drop i).dropWhile (fun x => decide (x < n)) = l.drop i := by
  rcases hdr : l.drop i with _ | ⟨y, m⟩
  ·simp
  ·have hy : l[i]? = some y := by
    have := congrArg (·[0]?) hdr
    simpa using this
   have := h2 y hy
   simp [List.takeWhile_cons, List.dropWhile_cons, this]
 have ht : ∀ x ∈ l.take i, (fun x : Int => decide (x < n)) x = true := fun x hx => by simpa using h1 x hx
 constructor
 ·conv => lhs; rw [e]
  rw [List.takeWhile_append_of_pos ht, hd.1, List.append_nil]
 ·conv => lhs; rw [e]
  rw [List.dropWhile_append_of_pos ht, hd.2]
theorem with1_same {l : List Int} {n : Int} {i : Nat} (hi : i ≤ l.length) (h1 : ∀ x ∈ l.take i, x < n) (h2 : ∀ x, l[i]? = some x → ¬ x < n) (h : n = 0 ∨ l[i]? = some n) : with1L l n = l := by
 obtain ⟨_, e2⟩ := split_at hi h1 h2
 unfold with1L
 rw [if_pos]
 rcases h with h | h
 ·exact .inl h
 ·refine .inr ?_
  rw [e2, List.head?_drop]; exact h
theorem with1_new {l : List Int} {n : Int} {i : Nat} (hi : i ≤ l.length) (h1 : ∀ x ∈ l.take i, x < n) (h2 : ∀ x, l[i]? = some x → ¬ x < n) (h0 : n ≠ 0) (h : l[i]? ≠ some n) : with1L l n = l.take i ++ n :: l.drop i := by
 obtain ⟨e1, e2⟩ := split_at hi h1 h2
 unfold with1L
 rw [if_neg, e1, e2]
 rintro (k | k)
 ·exact h0 k
 ·rw [e2, List.head?_drop] at k; exact h k
theorem one_intW {W : World} {g : Nat} {n : Int} {t : TypeId} (h : Box W g #[.int .i64 n] t) : Ints W (some ⟨g, 0, none⟩) [n] := by
 intro k v hv
 rcases k with _ | k
 ·simp at hv; subst hv
  exact ⟨g, 0, rfl, h.cell 0⟩
 ·simp at hv
theorem Ints.take {W : World} {a : Option Addr} {l : List Int} (h : Ints W a l) (k : Nat) : Ints W a (l.take k) := fun j v hv => h j v (by rw [List.map_take, List.getElem?_take] at hv; split at hv; exact hv; cases hv)
theorem Ints.drop {W : World} {b o : Nat} {l : List Int} (h : Ints W (some ⟨b, o, none⟩) l) (k : Nat) : Ints W (some ⟨b, o + k, none⟩) (l.drop k) := fun j v hv => by
 rw [List.map_drop, List.getElem?_drop] at hv
 obtain ⟨b', o', ha, hc⟩ := h (k + j) v hv
 cases ha
 exact ⟨b, o + k, rfl, by rw [Nat.add_assoc]; exact hc⟩
theorem Ints.cut {W : World} {a : Option Addr} {l : List Int} (h : Ints W a l) (k cap : Nat) (hk : k ≤ l.length) (hc : l.length ≤ cap) : Ints W (if cap = k then a else Option.map (fun x => x.add k) a) (l.drop k) := by
 by_cases hl : k < l.length
 ·obtain ⟨b, o, rfl, _⟩ := h.base (by omega)
  rw [if_neg (by omega), Option.map_some, add_none]
  exact h.drop k
 ·rw [List.drop_eq_nil_of_le (by omega)]
  exact Ints.nil _ _
theorem ints_row {W : World} {a : Option Addr} {l : List Int} (h : Ints W a l) : Row W a (l.map (Value.int .i64)) := h
set_option maxRecDepth 100000 in
set_option maxHeartbeats 2000000 in
theorem with1_any (a : Option Addr) (l : List Int) (cap : Nat) (n : Int) (w : World) (h : Ints w a l) (hc : l.length ≤ cap) (hl : l.length ≤ 700000) :
  Calls Tryz.prog 61 #[.slice a l.length cap, .int .i64 n] w fun e w' => ∃ a' cap', e = .returned (.slice a' (with1L l n).length cap') ∧ Ints w' a' (with1L l n) ∧ (with1L l n).length ≤ cap' ∧ Below w.heap.size w w' := by
 have hmf := run_mf Tryz.prog
 have HI := Lib.hid h
 clear h
 go_enter Tryz.func61, Tryz.ntmps61
 go_wp2_with fail
 go_loopw [5] (fun iv wr => ∃ k : Nat, k ≤ l.length ∧ iv = .int .i64 k ∧ (∀ x ∈ l.take k, x < n) ∧ wr = w) (fun iv _ => l.length - (intOf iv).toNat)
 case atStart => exact ⟨0, Nat.zero_le _, rfl, by simp, rfl⟩
 case round =>
  obtain ⟨k, hk, rfl, hall, rfl⟩ := hrel
  by_cases hkl : k < l.length
  ·obtain ⟨b, o, rfl, hb⟩ := HI.out.base (by omega)
   obtain ⟨x, hx⟩ := get_of_lt l hkl
   have c1 := hb _ _ hx
   have hkn : (k : Int) < (l.length : Int) := by omega
   by_cases hxn : x < n
   ·have HA := Lib.hid (show ∀ y ∈ l.take (k + 1), y < n from fun y hy => by
     rw [List.take_add_one, hx] at hy
     simp at hy
     rcases hy with hy | rfl
     ·exact hall y hy
     ·exact hxn)
    clear hall hx hb
    go_wp2_with fail
    go_roundw
    case rel => exact ⟨k + 1, by omega, by go_num, HA.out, by first | rfl | trivial⟩
    case measure => simp [intOf]; omega
   ·have hno : ∀ y, l[k]? = some y → ¬ y < n := fun y hy => by rw [hx] at hy; cases hy; exact hxn
    have HX := Lib.hid hx
    have HB := Lib.hid hb
    clear hb
    by_cases hn0 : n = 0
    ·have HE := Lib.hid (with1_same hk hall hno (.inl hn0))
     subst hn0
     clear hx hall hno
     go_wp2_with fail
     go_ret
     exact ⟨some ⟨b, o, none⟩, cap, by rw [HE.out]; rfl, by rw [HE.out]; exact HI.out, by rw [HE.out]; exact hc, Below.refl _ _⟩
    ·have hnz : (n == 0) = false := by simpa using hn0
     by_cases hxe : x = n
     ·have HE := Lib.hid (with1_same hk hall hno (.inr (by rw [hx, hxe])))
      have hxb : (x == n) = true := by simpa using hxe
      clear hx hall hno hxe hn0
      go_wp2_with fail
      go_ret
      exact ⟨some ⟨b, o, none⟩, cap, by rw [HE.out]; rfl, by rw [HE.out]; exact HI.out, by rw [HE.out]; exact hc, Below.refl _ _⟩
     ·have HE := Lib.hid (with1_new hk hall hno hn0 (by rw [hx]; intro e; cases e; exact hxe rfl))
      have hxb : (x == n) = false := by simpa using hxe
      clear hx hall hno hxe hn0
      obtain ⟨a, ha⟩ : ∃ a : Option Addr, a = some ⟨b, o, none⟩ := ⟨_, rfl⟩
      go_upto_region 6 with fail
      simp only [← ha]
      rw [← ha] at HI
      have HA := Lib.hid ha
      clear ha c1 hxb
      have hi2 := HI.out.cut k cap hk hc
      obtain ⟨u2, hu2⟩ : ∃ u2 : Value, Value.slice (if cap = k then a else Option.map (fun x => x.add k) a) (l.length - k) (cap - k) = u2 := ⟨_, rfl⟩
      have HU1 := Lib.hid hu2
      obtain ⟨a2, ha2⟩ : ∃ a2, (if cap = k then a else Option.map (fun x => x.add k) a) = a2 := ⟨_, rfl⟩
      obtain ⟨c2, hc2⟩ : ∃ c2, cap - k = c2 := ⟨_, rfl⟩
      rw [ha2] at hi2
      have hu2 : u2 = .slice a2 (l.drop k).length c2 := by rw [← hu2, ha2, hc2, List.length_drop]
      have HU2 := Lib.hid hu2
      have HI2 := Lib.hid hi2
      clear ha2 hc2 hu2 hi2
      have hkc : k ≤ cap := by omega
      have hkl2 : k ≤ l.length := hk
      have HK := Lib.hid (And.intro hkl2 hl)
      have k0 : ∀ A, Below wr.heap.size wr A → True := fun _ _ => trivial
      have K0 := Lib.hid k0
      clear k0
      refine wp_region_L (fun A => Below wr.heap.size wr A) 12 (by kernel_rfl) ?_
      have hSS : Below wr.heap.size wr wr.drew := (Below.refl _ wr).drew
      refine anyL_take (i := 1) (v := ?_) (by kernel_rfl) rfl (by kernel_rfl) (by kernel_rfl) (by kernel_rfl) (by kernel_rfl) (fun _ _ _ h => h) (by rfl) ?_ hSS ?_
      rotate_left
      ·(intro W hW; go_simp; try with_reducible rfl)
      try (dsimp only); try simp only [Act.put, List.setIfInBounds_toArray, List.set_cons_zero, List.set_cons_succ]
      refine anyL_take (i := 2) (v := ?_) (by kernel_rfl) rfl (by kernel_rfl) (by kernel_rfl) (by kernel_rfl) (by kernel_rfl) (fun _ _ _ h => h) (by rfl) ?_ hSS ?_
      rotate_left
      ·(intro W hW; go_simp; try with_reducible rfl)
      try (dsimp only); try simp only [Act.put, List.setIfInBounds_toArray, List.set_cons_zero, List.set_cons_succ]
      refine anyL_take (i := 3) (v := ?_) (by kernel_rfl) rfl (by kernel_rfl) (by kernel_rfl) (by kernel_rfl) (by kernel_rfl) (fun _ _ _ h => h) (by rfl) ?_ hSS ?_
      rotate_left
      ·(intro W hW; go_simp; try with_reducible rfl)
      try (dsimp only); try simp only [Act.put, List.setIfInBounds_toArray, List.set_cons_zero, List.set_cons_succ]
      refine anyL_take (i := 5) (v := ?_) (by kernel_rfl) rfl (by kernel_rfl) (by kernel_rfl) (by kernel_rfl) (by kernel_rfl) (fun _ _ _ h => h) (by rfl) ?_ hSS ?_
      rotate_left
      ·(intro W hW; go_simp; try with_reducible rfl)
      try (dsimp only); try simp only [Act.put, List.setIfInBounds_toArray, List.set_cons_zero, List.set_cons_succ]
      refine anyL_take (i := 8) (v := ?_) (by kernel_rfl) rfl (by kernel_rfl) (by kernel_rfl) (by kernel_rfl) (by kernel_rfl) (fun _ _ _ h => h) (by rfl) ?_ hSS ?_
      rotate_left
      ·(intro W hW; go_simp; try with_reducible rfl)
      try (dsimp only); try simp only [Act.put, List.setIfInBounds_toArray, List.set_cons_zero, List.set_cons_succ]
      refine anyL_take (i := 9) (v := ?_) (by kernel_rfl) rfl (by kernel_rfl) (by kernel_rfl) (by kernel_rfl) (by kernel_rfl) (fun _ _ _ h => h) (by rfl) ?_ hSS ?_
      rotate_left
      ·(intro W hW; go_simp; try with_reducible rfl)
      try (dsimp only); try simp only [Act.put, List.setIfInBounds_toArray, List.set_cons_zero, List.set_cons_succ]
      refine anyL_take (i := 10) (v := u2) (by kernel_rfl) rfl (by kernel_rfl) (by kernel_rfl) (by kernel_rfl) (by kernel_rfl) (fun _ _ _ h => h) (by rfl) ?_ hSS ?_
      ·(intro W hW; rw [← HU1.out]; go_simp; try with_reducible rfl)
      try (dsimp only); try simp only [Act.put, List.setIfInBounds_toArray, List.set_cons_zero, List.set_cons_succ]
      have hbe : Below wr.heap.size wr (wr.drew.alloc (.cells #[] 3)) := (Below.refl _ wr).drew.alloc (Nat.le_refl _) _
      have hee := ownsRow_empty wr.drew wr.heap.size 3 1 (Nat.le_refl _)
      have hia : ∀ A, Below wr.heap.size wr A → Row A a ((l.take k).map (Value.int .i64)) := fun A hA => ints_row ((HI.out.below hA).take k)
      have hl5 : ((l.take k).map (Value.int .i64)).length = k * 1 := by rw [List.length_map, List.length_take, Nat.min_eq_left HK.out.1]; omega
      refine anyL_two (i := 0) (j := 6) (by kernel_rfl) ?_ ?_
      ·refine wpOp_run (v := .slice (some ⟨wr.heap.size, 0, none⟩) 0 0) (w' := wr.drew.alloc (.cells #[] 3)) rfl (by rfl) ?_ ⟨.inr hbe, ?_⟩
       ·go_simp
        try with_reducible rfl
       try (dsimp only); try simp only [Act.put, List.setIfInBounds_toArray, List.set_cons_zero, List.set_cons_succ]
       change (wr.drew.alloc (.cells #[] 3)).ownsRow _ _ _ (.slice (some ⟨wr.heap.size, 0, none⟩) 0 0) _ _ at hee
       generalize wr.drew.alloc (.cells #[] 3) = w2 at *
       refine anyL_two (i := 4) (j := 6) (by kernel_rfl) ?_ ?_
       ·obtain ⟨v4, w4, hrun4, ho4, hgr4, _⟩ := run_append_row (P := Tryz.prog) w2 wr.heap.size 27 27 3 (.int .i64 0) 1 8 Tryz.underlying27 info_int rfl (by omega) _ _ _ hee a k cap _ hl5 (hia _ hbe) (ints_one _) (by omega) (by omega) hbe.size
        have hb4 : Below wr.heap.size wr w4 := hbe.trans (grown_below hee hgr4 (Nat.le_refl _) hbe.size)
        refine wpOp_run (v := v4) (w' := w4) rfl (by rfl) ?_ ⟨.inr hb4, ?_⟩
        ·refine exec_app (v := .slice (some ⟨wr.heap.size, 0, none⟩) 0 0) (u := .slice a k cap) _ _ 27 rfl (by rfl) (by rfl) ?_
         exact hrun4
        try (dsimp only); try simp only [Act.put, List.setIfInBounds_toArray, List.set_cons_zero, List.set_cons_succ]
        refine anyL_run (i := 6) (v := .slice (some ⟨w4.heap.size, 0, none⟩) 1 1) (w' := w4.alloc (.cells #[.int .i64 n] 3)) rfl (by kernel_rfl) (by rfl) ?_ (.inr (hb4.alloc hb4.size _)) ?_
        ·go_simp
         try with_reducible rfl
        try (dsimp only); try simp only [Act.put, List.setIfInBounds_toArray, List.set_cons_zero, List.set_cons_succ]
        obtain ⟨g6, hge⟩ : ∃ g6, w4.heap.size = g6 := ⟨_, rfl⟩
        have hg6 : Box (w4.alloc (.cells #[.int .i64 n] 3)) g6 #[.int .i64 n] 3 := Box.new' hge.symm
        have hb6 := hb4.alloc hb4.size (.cells #[.int .i64 n] 3)
        have ho4 := ownsRow_keep ho4 ((Keep.refl (fun _ => True) w4).alloc (.cells #[.int .i64 n] 3)) (fun _ _ => trivial)
        rw [List.nil_append, Nat.zero_add] at ho4
        rw [hge]
        generalize w4.alloc (.cells #[.int .i64 n] 3) = w6 at *
        clear hgr4 hrun4 hb4 hee hbe
        obtain ⟨v7, w7, hrun7, ho7, hb7⟩ := app_ints ho4 (a := some ⟨g6, 0, none⟩) (n := 1) (cap := 1) (l := [n]) rfl (one_intW hg6) (by have := HK.out; omega) hb6.size
        refine anyL_run (i := 7) (v := v7) (w' := w7) rfl (by kernel_rfl) (by rfl) ?_ (.inr (hb6.trans hb7)) ?_
        ·refine exec_app (v := v4) (u := .slice (some ⟨g6, 0, none⟩) 1 1) _ _ 27 rfl (by rfl) (by rfl) ?_
         exact hrun7
        try (dsimp only); try simp only [Act.put, List.setIfInBounds_toArray, List.set_cons_zero, List.set_cons_succ]
        obtain ⟨v8, w8, hrun8, ho8, hb8⟩ := app_ints ho7 (a := a2) (cap := c2) (l := l.drop k) rfl (HI2.out.below ((Below.refl _ wr).trans (hb6.trans hb7))) (by have := HK.out; rw [List.length_drop]; omega) (hb6.trans hb7).size
        refine anyL_run (i := 11) (v := v8) (w' := w8) rfl (by kernel_rfl) (by rfl) ?_ (.inr ((hb6.trans hb7).trans hb8)) ?_
        ·refine exec_app (v := v7) (u := u2) _ _ 27 rfl (by rfl) (by rfl) ?_
         rw [HU2.out]; exact hrun8
        try (dsimp only); try simp only [Act.put, List.setIfInBounds_toArray, List.set_cons_zero, List.set_cons_succ]
        refine anyL_run (i := 12) (v := v8) (w' := w8) rfl (by kernel_rfl) (by rfl) (by go_simp) (.inl rfl) ?_
        try (dsimp only); try simp only [Act.put, List.setIfInBounds_toArray, List.set_cons_zero, List.set_cons_succ]
        refine anyL_done (by kernel_rfl) ?_ _
        obtain ⟨a9, c9, hv9, hro9, hc9⟩ := ownsRow_own ho8
        have HRO := Lib.hid hro9
        have HEND := Lib.hid ((hb6.trans hb7).trans hb8)
        have hlen : (with1L l n).length = k + 1 + (l.length - k) := by
         rw [HE.out, List.length_append, List.length_cons, List.length_take, List.length_drop, Nat.min_eq_left HK.out.1]; omega
        have HLEN := Lib.hid hlen
        subst hv9
        clear hrun7 hrun8 ho4 ho7 ho8 hb6 hb7 hb8 hg6 hro9 hlen
        go_wp2_with fail
        go_ret
        refine ⟨a9, c9, by rw [HLEN.out]; first | rfl | (rw [← List.length_drop (i := k) (l := l)]; rfl), ?_, by rw [HLEN.out, ← List.length_drop (i := k) (l := l)]; exact hc9, HEND.out⟩
        rw [HE.out]
        have h := HRO.out
        rw [← List.map_append, ← List.map_append, List.append_assoc] at h
        exact ints_rowOwn h
       ·refine wpOp_run (v := .slice (some ⟨w2.heap.size, 0, none⟩) 1 1) (w' := w2.alloc (.cells #[.int .i64 n] 3)) rfl (by rfl) ?_ ⟨.inr (hbe.alloc hbe.size _), ?_⟩
        ·go_simp
         try with_reducible rfl
        try (dsimp only); try simp only [Act.put, List.setIfInBounds_toArray, List.set_cons_zero, List.set_cons_succ]
        obtain ⟨g6, hge⟩ : ∃ g6, w2.heap.size = g6 := ⟨_, rfl⟩
        have hg5 : Box (w2.alloc (.cells #[.int .i64 n] 3)) g6 #[.int .i64 n] 3 := Box.new' hge.symm
        have hb5 := hbe.alloc hbe.size (.cells #[.int .i64 n] 3)
        have ho2 := ownsRow_keep hee ((Keep.refl (fun _ => True) w2).alloc (.cells #[.int .i64 n] 3)) (fun _ _ => trivial)
        have hlt2 : wr.heap.size < w2.heap.size := (hee.lt _ rfl).2
        rw [hge]
        generalize w2.alloc (.cells #[.int .i64 n] 3) = w5 at *
        change w5.ownsRow wr.heap.size _ _ (.slice (some ⟨wr.heap.size, 0, none⟩) 0 0) _ _ at ho2
        clear hee hbe
        obtain ⟨e2, he2, hne⟩ : ∃ e2, wr.heap.size = e2 ∧ g6 ≠ e2 := ⟨_, rfl, by omega⟩
        have ho2 : w5.ownsRow wr.heap.size 3 1 (.slice (some ⟨e2, 0, none⟩) 0 0) 0 [] := by rw [← he2]; exact ho2
        have he3 : (Value.slice (some ⟨wr.heap.size, 0, none⟩) 0 0) = .slice (some ⟨e2, 0, none⟩) 0 0 := by rw [he2]
        simp only [he3]
        obtain ⟨v4, w6, hrun4, ho4, hgr4, _⟩ := run_append_row (P := Tryz.prog) w5 wr.heap.size 27 27 3 (.int .i64 0) 1 8 Tryz.underlying27 info_int rfl (by omega) _ _ _ ho2 a k cap _ hl5 (hia _ hb5) (ints_one _) (by omega) (by omega) hb5.size
        have hb6 : Below wr.heap.size wr w6 := hb5.trans (grown_below ho2 hgr4 (Nat.le_refl _) hb5.size)
        refine anyL_run (i := 4) (v := v4) (w' := w6) rfl (by kernel_rfl) (by rfl) ?_ (.inr hb6) ?_
        ·refine exec_app (v := .slice (some ⟨e2, 0, none⟩) 0 0) (u := .slice a k cap) _ _ 27 rfl (by rfl) (by rfl) ?_
         exact hrun4
        try (dsimp only); try simp only [Act.put, List.setIfInBounds_toArray, List.set_cons_zero, List.set_cons_succ]
        have hg6 : Box w6 g6 #[.int .i64 n] 3 := ((Keep.refl (fun k => k = g6) w5).grown hgr4 (fun k hk => .inl (fun h => by rw [h] at hk; simp [Value.ownBlock] at hk; omega))).heap rfl hg5
        rw [List.nil_append, Nat.zero_add] at ho4
        clear hgr4 hrun4 hb5 ho2 hg5
        obtain ⟨v7, w7, hrun7, ho7, hb7⟩ := app_ints ho4 (a := some ⟨g6, 0, none⟩) (n := 1) (cap := 1) (l := [n]) rfl (one_intW hg6) (by have := HK.out; omega) hb6.size
        refine anyL_run (i := 7) (v := v7) (w' := w7) rfl (by kernel_rfl) (by rfl) ?_ (.inr (hb6.trans hb7)) ?_
        ·refine exec_app (v := v4) (u := .slice (some ⟨g6, 0, none⟩) 1 1) _ _ 27 rfl (by rfl) (by rfl) ?_
         exact hrun7
        try (dsimp only); try simp only [Act.put, List.setIfInBounds_toArray, List.set_cons_zero, List.set_cons_succ]
        obtain ⟨v8, w8, hrun8, ho8, hb8⟩ := app_ints ho7 (a := a2) (cap := c2) (l := l.drop k) rfl (HI2.out.below ((Below.refl _ wr).trans (hb6.trans hb7))) (by have := HK.out; rw [List.length_drop]; omega) (hb6.trans hb7).size
        refine anyL_run (i := 11) (v := v8) (w' := w8) rfl (by kernel_rfl) (by rfl) ?_ (.inr ((hb6.trans hb7).trans hb8)) ?_
        ·refine exec_app (v := v7) (u := u2) _ _ 27 rfl (by rfl) (by rfl) ?_
         rw [HU2.out]; exact hrun8
        try (dsimp only); try simp only [Act.put, List.setIfInBounds_toArray, List.set_cons_zero, List.set_cons_succ]
        refine anyL_run (i := 12) (v := v8) (w' := w8) rfl (by kernel_rfl) (by rfl) (by go_simp) (.inl rfl) ?_
        try (dsimp only); try simp only [Act.put, List.setIfInBounds_toArray, List.set_cons_zero, List.set_cons_succ]
        refine anyL_done (by kernel_rfl) ?_ _
        obtain ⟨a9, c9, hv9, hro9, hc9⟩ := ownsRow_own ho8
        have HRO := Lib.hid hro9
        have HEND := Lib.hid ((hb6.trans hb7).trans hb8)
        have hlen : (with1L l n).length = k + 1 + (l.length - k) := by
         rw [HE.out, List.length_append, List.length_cons, List.length_take, List.length_drop, Nat.min_eq_left HK.out.1]; omega
        have HLEN := Lib.hid hlen
        subst hv9
        clear hrun7 hrun8 ho4 ho7 ho8 hb6 hb7 hb8 hg6 hro9 hlen
        go_wp2_with fail
        go_ret
        refine ⟨a9, c9, by rw [HLEN.out]; first | rfl | (rw [← List.length_drop (i := k) (l := l)]; rfl), ?_, by rw [HLEN.out, ← List.length_drop (i := k) (l := l)]; exact hc9, HEND.out⟩
        rw [HE.out]
        have h := HRO.out
        rw [← List.map_append, ← List.map_append, List.append_assoc] at h
        exact ints_rowOwn h
      ·refine wpOp_run (v := .slice (some ⟨wr.heap.size, 0, none⟩) 1 1) (w' := wr.drew.alloc (.cells #[.int .i64 n] 3)) rfl (by rfl) ?_ ⟨.inr ((Below.refl _ wr).drew.alloc (Nat.le_refl _) _), ?_⟩
       ·go_simp
        try with_reducible rfl
       try (dsimp only); try simp only [Act.put, List.setIfInBounds_toArray, List.set_cons_zero, List.set_cons_succ]
       obtain ⟨g6, hge⟩ : ∃ g6, wr.heap.size = g6 := ⟨_, rfl⟩
       have hg4 : Box (wr.drew.alloc (.cells #[.int .i64 n] 3)) wr.heap.size #[.int .i64 n] 3 := Box.new wr.drew _ _
       have hb4 : Below wr.heap.size wr (wr.drew.alloc (.cells #[.int .i64 n] 3)) := (Below.refl _ wr).drew.alloc (Nat.le_refl _) _
       clear hee hbe
       generalize wr.drew.alloc (.cells #[.int .i64 n] 3) = w4 at *
       refine anyL_run (i := 0) (v := .slice (some ⟨w4.heap.size, 0, none⟩) 0 0) (w' := w4.alloc (.cells #[] 3)) rfl (by kernel_rfl) (by rfl) ?_ (.inr (hb4.alloc hb4.size _)) ?_
       ·go_simp
        try with_reducible rfl
       try (dsimp only); try simp only [Act.put, List.setIfInBounds_toArray, List.set_cons_zero, List.set_cons_succ]
       have ho2 := ownsRow_empty w4 wr.heap.size 3 1 hb4.size
       have hg5 := hg4.alloc (.cells #[] 3)
       have hb5 := hb4.alloc hb4.size (.cells #[] 3)
       rw [hge] at hg5
       have hg3 : (Value.slice (some ⟨wr.heap.size, 0, none⟩) 1 1) = .slice (some ⟨g6, 0, none⟩) 1 1 := by rw [hge]
       simp only [hg3]
       obtain ⟨e2, he2⟩ : ∃ e2, w4.heap.size = e2 := ⟨_, rfl⟩
       have hne : g6 ≠ e2 := by have := hg4.lt; omega
       rw [he2] at ho2
       simp only [he2]
       generalize w4.alloc (.cells #[] 3) = w5 at *
       clear hg4 hb4
       obtain ⟨v4, w6, hrun4, ho4, hgr4, _⟩ := run_append_row (P := Tryz.prog) w5 wr.heap.size 27 27 3 (.int .i64 0) 1 8 Tryz.underlying27 info_int rfl (by omega) _ _ _ ho2 a k cap _ hl5 (hia _ hb5) (ints_one _) (by omega) (by omega) hb5.size
       have hb6 : Below wr.heap.size wr w6 := hb5.trans (grown_below ho2 hgr4 (Nat.le_refl _) hb5.size)
       refine anyL_run (i := 4) (v := v4) (w' := w6) rfl (by kernel_rfl) (by rfl) ?_ (.inr hb6) ?_
       ·refine exec_app (v := .slice (some ⟨e2, 0, none⟩) 0 0) (u := .slice a k cap) _ _ 27 rfl (by rfl) (by rfl) ?_
        exact hrun4
       try (dsimp only); try simp only [Act.put, List.setIfInBounds_toArray, List.set_cons_zero, List.set_cons_succ]
       have hg6 : Box w6 g6 #[.int .i64 n] 3 := ((Keep.refl (fun k => k = g6) w5).grown hgr4 (fun k hk => .inl (fun h => by rw [h] at hk; simp [Value.ownBlock] at hk; omega))).heap rfl hg5
       rw [List.nil_append, Nat.zero_add] at ho4
       clear hgr4 hrun4 hb5 ho2 hg5
       obtain ⟨v7, w7, hrun7, ho7, hb7⟩ := app_ints ho4 (a := some ⟨g6, 0, none⟩) (n := 1) (cap := 1) (l := [n]) rfl (one_intW hg6) (by have := HK.out; omega) hb6.size
       refine anyL_run (i := 7) (v := v7) (w' := w7) rfl (by kernel_rfl) (by rfl) ?_ (.inr (hb6.trans hb7)) ?_
       ·refine exec_app (v := v4) (u := .slice (some ⟨g6, 0, none⟩) 1 1) _ _ 27 rfl (by rfl) (by rfl) ?_
        exact hrun7
       try (dsimp only); try simp only [Act.put, List.setIfInBounds_toArray, List.set_cons_zero, List.set_cons_succ]
       obtain ⟨v8, w8, hrun8, ho8, hb8⟩ := app_ints ho7 (a := a2) (cap := c2) (l := l.drop k) rfl (HI2.out.below ((Below.refl _ wr).trans (hb6.trans hb7))) (by have := HK.out; rw [List.length_drop]; omega) (hb6.trans hb7).size
       refine anyL_run (i := 11) (v := v8) (w' := w8) rfl (by kernel_rfl) (by rfl) ?_ (.inr ((hb6.trans hb7).trans hb8)) ?_
       ·refine exec_app (v := v7) (u := u2) _ _ 27 rfl (by rfl) (by rfl) ?_
        rw [HU2.out]; exact hrun8
       try (dsimp only); try simp only [Act.put, List.setIfInBounds_toArray, List.set_cons_zero, List.set_cons_succ]
       refine anyL_run (i := 12) (v := v8) (w' := w8) rfl (by kernel_rfl) (by rfl) (by go_simp) (.inl rfl) ?_
       try (dsimp only); try simp only [Act.put, List.setIfInBounds_toArray, List.set_cons_zero, List.set_cons_succ]
       refine anyL_done (by kernel_rfl) ?_ _
       obtain ⟨a9, c9, hv9, hro9, hc9⟩ := ownsRow_own ho8
       have HRO := Lib.hid hro9
       have HEND := Lib.hid ((hb6.trans hb7).trans hb8)
       have hlen : (with1L l n).length = k + 1 + (l.length - k) := by
        rw [HE.out, List.length_append, List.length_cons, List.length_take, List.length_drop, Nat.min_eq_left HK.out.1]; omega
       have HLEN := Lib.hid hlen
       subst hv9
       clear hrun7 hrun8 ho4 ho7 ho8 hb6 hb7 hb8 hg6 hro9 hlen
       go_wp2_with fail
       go_ret
       refine ⟨a9, c9, by rw [HLEN.out]; first | rfl | (rw [← List.length_drop (i := k) (l := l)]; rfl), ?_, by rw [HLEN.out, ← List.length_drop (i := k) (l := l)]; exact hc9, HEND.out⟩
       rw [HE.out]
       have h := HRO.out
       rw [← List.map_append, ← List.map_append, List.append_assoc] at h
       exact ints_rowOwn h
  ·have hno : ∀ y, l[k]? = some y → ¬ y < n := fun y hy => by rw [List.getElem?_eq_none (by omega)] at hy; cases hy
   have hke := Lib.hid (show k = l.length by omega)
   have hkn : decide ((k : Int) < (l.length : Int)) = false := by simp; omega
   by_cases hn0 : n = 0
   ·have HE := Lib.hid (with1_same hk hall hno (.inl hn0))
    subst hn0
    clear hall hno
    go_wp2_with fail
    go_ret
    exact ⟨a, cap, by rw [HE.out]; rfl, by rw [HE.out]; exact HI.out, by rw [HE.out]; exact hc, Below.refl _ _⟩
   ·have hnz : (n == 0) = false := by simpa using hn0
    have HE := Lib.hid (with1_new hk hall hno hn0 (by rw [List.getElem?_eq_none (by omega)]; simp))
    clear hall hno hn0
    go_upto_region 6 with fail
    have hi2 := HI.out.cut k cap hk hc
    obtain ⟨u2, hu2⟩ : ∃ u2 : Value, Value.slice (if cap = k then a else Option.map (fun x => x.add k) a) (l.length - k) (cap - k) = u2 := ⟨_, rfl⟩
    have HU1 := Lib.hid hu2
    obtain ⟨a2, ha2⟩ : ∃ a2, (if cap = k then a else Option.map (fun x => x.add k) a) = a2 := ⟨_, rfl⟩
    obtain ⟨c2, hc2⟩ : ∃ c2, cap - k = c2 := ⟨_, rfl⟩
    rw [ha2] at hi2
    have hu2 : u2 = .slice a2 (l.drop k).length c2 := by rw [← hu2, ha2, hc2, List.length_drop]
    have HU2 := Lib.hid hu2
    have HI2 := Lib.hid hi2
    clear ha2 hc2 hu2 hi2
    have hkc : k ≤ cap := by omega
    have hkl2 : k ≤ l.length := hk
    have HK := Lib.hid (And.intro hkl2 hl)
    have k0 : ∀ A, Below wr.heap.size wr A → True := fun _ _ => trivial
    have K0 := Lib.hid k0
    clear k0
    refine wp_region_L (fun A => Below wr.heap.size wr A) 12 (by kernel_rfl) ?_
    have hSS : Below wr.heap.size wr wr.drew := (Below.refl _ wr).drew
    refine anyL_take (i := 1) (v := ?_) (by kernel_rfl) rfl (by kernel_rfl) (by kernel_rfl) (by kernel_rfl) (by kernel_rfl) (fun _ _ _ h => h) (by rfl) ?_ hSS ?_
    rotate_left
    ·(intro W hW; go_simp; try with_reducible rfl)
    try (dsimp only); try simp only [Act.put, List.setIfInBounds_toArray, List.set_cons_zero, List.set_cons_succ]
    refine anyL_take (i := 2) (v := ?_) (by kernel_rfl) rfl (by kernel_rfl) (by kernel_rfl) (by kernel_rfl) (by kernel_rfl) (fun _ _ _ h => h) (by rfl) ?_ hSS ?_
    rotate_left
    ·(intro W hW; go_simp; try with_reducible rfl)
    try (dsimp only); try simp only [Act.put, List.setIfInBounds_toArray, List.set_cons_zero, List.set_cons_succ]
    refine anyL_take (i := 3) (v := ?_) (by kernel_rfl) rfl (by kernel_rfl) (by kernel_rfl) (by kernel_rfl) (by kernel_rfl) (fun _ _ _ h => h) (by rfl) ?_ hSS ?_
    rotate_left
    ·(intro W hW; go_simp; try with_reducible rfl)
    try (dsimp only); try simp only [Act.put, List.setIfInBounds_toArray, List.set_cons_zero, List.set_cons_succ]
    refine anyL_take (i := 5) (v := ?_) (by kernel_rfl) rfl (by kernel_rfl) (by kernel_rfl) (by kernel_rfl) (by kernel_rfl) (fun _ _ _ h => h) (by rfl) ?_ hSS ?_
    rotate_left
    ·(intro W hW; go_simp; try with_reducible rfl)
    try (dsimp only); try simp only [Act.put, List.setIfInBounds_toArray, List.set_cons_zero, List.set_cons_succ]
    refine anyL_take (i := 8) (v := ?_) (by kernel_rfl) rfl (by kernel_rfl) (by kernel_rfl) (by kernel_rfl) (by kernel_rfl) (fun _ _ _ h => h) (by rfl) ?_ hSS ?_
    rotate_left
    ·(intro W hW; go_simp; try with_reducible rfl)
    try (dsimp only); try simp only [Act.put, List.setIfInBounds_toArray, List.set_cons_zero, List.set_cons_succ]
    refine anyL_take (i := 9) (v := ?_) (by kernel_rfl) rfl (by kernel_rfl) (by kernel_rfl) (by kernel_rfl) (by kernel_rfl) (fun _ _ _ h => h) (by rfl) ?_ hSS ?_
    rotate_left
    ·(intro W hW; go_simp; try with_reducible rfl)
    try (dsimp only); try simp only [Act.put, List.setIfInBounds_toArray, List.set_cons_zero, List.set_cons_succ]
    refine anyL_take (i := 10) (v := u2) (by kernel_rfl) rfl (by kernel_rfl) (by kernel_rfl) (by kernel_rfl) (by kernel_rfl) (fun _ _ _ h => h) (by rfl) ?_ hSS ?_
    ·(intro W hW; rw [← HU1.out]; go_simp; try with_reducible rfl)
    try (dsimp only); try simp only [Act.put, List.setIfInBounds_toArray, List.set_cons_zero, List.set_cons_succ]
    have hbe : Below wr.heap.size wr (wr.drew.alloc (.cells #[] 3)) := (Below.refl _ wr).drew.alloc (Nat.le_refl _) _
    have hee := ownsRow_empty wr.drew wr.heap.size 3 1 (Nat.le_refl _)
    have hia : ∀ A, Below wr.heap.size wr A → Row A a ((l.take k).map (Value.int .i64)) := fun A hA => ints_row ((HI.out.below hA).take k)
    have hl5 : ((l.take k).map (Value.int .i64)).length = k * 1 := by rw [List.length_map, List.length_take, Nat.min_eq_left HK.out.1]; omega
    refine anyL_two (i := 0) (j := 6) (by kernel_rfl) ?_ ?_
    ·refine wpOp_run (v := .slice (some ⟨wr.heap.size, 0, none⟩) 0 0) (w' := wr.drew.alloc (.cells #[] 3)) rfl (by rfl) ?_ ⟨.inr hbe, ?_⟩
     ·go_simp
      try with_reducible rfl
     try (dsimp only); try simp only [Act.put, List.setIfInBounds_toArray, List.set_cons_zero, List.set_cons_succ]
     change (wr.drew.alloc (.cells #[] 3)).ownsRow _ _ _ (.slice (some ⟨wr.heap.size, 0, none⟩) 0 0) _ _ at hee
     generalize wr.drew.alloc (.cells #[] 3) = w2 at *
     refine anyL_two (i := 4) (j := 6) (by kernel_rfl) ?_ ?_
     ·obtain ⟨v4, w4, hrun4, ho4, hgr4, _⟩ := run_append_row (P := Tryz.prog) w2 wr.heap.size 27 27 3 (.int .i64 0) 1 8 Tryz.underlying27 info_int rfl (by omega) _ _ _ hee a k cap _ hl5 (hia _ hbe) (ints_one _) (by omega) (by omega) hbe.size
      have hb4 : Below wr.heap.size wr w4 := hbe.trans (grown_below hee hgr4 (Nat.le_refl _) hbe.size)
      refine wpOp_run (v := v4) (w' := w4) rfl (by rfl) ?_ ⟨.inr hb4, ?_⟩
      ·refine exec_app (v := .slice (some ⟨wr.heap.size, 0, none⟩) 0 0) (u := .slice a k cap) _ _ 27 rfl (by rfl) (by rfl) ?_
       exact hrun4
      try (dsimp only); try simp only [Act.put, List.setIfInBounds_toArray, List.set_cons_zero, List.set_cons_succ]
      refine anyL_run (i := 6) (v := .slice (some ⟨w4.heap.size, 0, none⟩) 1 1) (w' := w4.alloc (.cells #[.int .i64 n] 3)) rfl (by kernel_rfl) (by rfl) ?_ (.inr (hb4.alloc hb4.size _)) ?_
      ·go_simp
       try with_reducible rfl
      try (dsimp only); try simp only [Act.put, List.setIfInBounds_toArray, List.set_cons_zero, List.set_cons_succ]
      obtain ⟨g6, hge⟩ : ∃ g6, w4.heap.size = g6 := ⟨_, rfl⟩
      have hg6 : Box (w4.alloc (.cells #[.int .i64 n] 3)) g6 #[.int .i64 n] 3 := Box.new' hge.symm
      have hb6 := hb4.alloc hb4.size (.cells #[.int .i64 n] 3)
      have ho4 := ownsRow_keep ho4 ((Keep.refl (fun _ => True) w4).alloc (.cells #[.int .i64 n] 3)) (fun _ _ => trivial)
      rw [List.nil_append, Nat.zero_add] at ho4
      rw [hge]
      generalize w4.alloc (.cells #[.int .i64 n] 3) = w6 at *
      clear hgr4 hrun4 hb4 hee hbe
      obtain ⟨v7, w7, hrun7, ho7, hb7⟩ := app_ints ho4 (a := some ⟨g6, 0, none⟩) (n := 1) (cap := 1) (l := [n]) rfl (one_intW hg6) (by have := HK.out; omega) hb6.size
      refine anyL_run (i := 7) (v := v7) (w' := w7) rfl (by kernel_rfl) (by rfl) ?_ (.inr (hb6.trans hb7)) ?_
      ·refine exec_app (v := v4) (u := .slice (some ⟨g6, 0, none⟩) 1 1) _ _ 27 rfl (by rfl) (by rfl) ?_
       exact hrun7
      try (dsimp only); try simp only [Act.put, List.setIfInBounds_toArray, List.set_cons_zero, List.set_cons_succ]
      obtain ⟨v8, w8, hrun8, ho8, hb8⟩ := app_ints ho7 (a := a2) (cap := c2) (l := l.drop k) rfl (HI2.out.below ((Below.refl _ wr).trans (hb6.trans hb7))) (by have := HK.out; rw [List.length_drop]; omega) (hb6.trans hb7).size
      refine anyL_run (i := 11) (v := v8) (w' := w8) rfl (by kernel_rfl) (by rfl) ?_ (.inr ((hb6.trans hb7).trans hb8)) ?_
      ·refine exec_app (v := v7) (u := u2) _ _ 27 rfl (by rfl) (by rfl) ?_
       rw [HU2.out]; exact hrun8
      try (dsimp only); try simp only [Act.put, List.setIfInBounds_toArray, List.set_cons_zero, List.set_cons_succ]
      refine anyL_run (i := 12) (v := v8) (w' := w8) rfl (by kernel_rfl) (by rfl) (by go_simp) (.inl rfl) ?_
      try (dsimp only); try simp only [Act.put, List.setIfInBounds_toArray, List.set_cons_zero, List.set_cons_succ]
      refine anyL_done (by kernel_rfl) ?_ _
      obtain ⟨a9, c9, hv9, hro9, hc9⟩ := ownsRow_own ho8
      have HRO := Lib.hid hro9
      have HEND := Lib.hid ((hb6.trans hb7).trans hb8)
      have hlen : (with1L l n).length = k + 1 + (l.length - k) := by
       rw [HE.out, List.length_append, List.length_cons, List.length_take, List.length_drop, Nat.min_eq_left HK.out.1]; omega
      have HLEN := Lib.hid hlen
      subst hv9
      clear hrun7 hrun8 ho4 ho7 ho8 hb6 hb7 hb8 hg6 hro9 hlen
      go_wp2_with fail
      go_ret
      refine ⟨a9, c9, by rw [HLEN.out]; first | rfl | (rw [← List.length_drop (i := k) (l := l)]; rfl), ?_, by rw [HLEN.out, ← List.length_drop (i := k) (l := l)]; exact hc9, HEND.out⟩
      rw [HE.out]
      have h := HRO.out
      rw [← List.map_append, ← List.map_append, List.append_assoc] at h
      exact ints_rowOwn h
     ·refine wpOp_run (v := .slice (some ⟨w2.heap.size, 0, none⟩) 1 1) (w' := w2.alloc (.cells #[.int .i64 n] 3)) rfl (by rfl) ?_ ⟨.inr (hbe.alloc hbe.size _), ?_⟩
      ·go_simp
       try with_reducible rfl
      try (dsimp only); try simp only [Act.put, List.setIfInBounds_toArray, List.set_cons_zero, List.set_cons_succ]
      obtain ⟨g6, hge⟩ : ∃ g6, w2.heap.size = g6 := ⟨_, rfl⟩
      have hg5 : Box (w2.alloc (.cells #[.int .i64 n] 3)) g6 #[.int .i64 n] 3 := Box.new' hge.symm
      have hb5 := hbe.alloc hbe.size (.cells #[.int .i64 n] 3)
      have ho2 := ownsRow_keep hee ((Keep.refl (fun _ => True) w2).alloc (.cells #[.int .i64 n] 3)) (fun _ _ => trivial)
      have hlt2 : wr.heap.size < w2.heap.size := (hee.lt _ rfl).2
      rw [hge]
      generalize w2.alloc (.cells #[.int .i64 n] 3) = w5 at *
      change w5.ownsRow wr.heap.size _ _ (.slice (some ⟨wr.heap.size, 0, none⟩) 0 0) _ _ at ho2
      clear hee hbe
      obtain ⟨e2, he2, hne⟩ : ∃ e2, wr.heap.size = e2 ∧ g6 ≠ e2 := ⟨_, rfl, by omega⟩
      have ho2 : w5.ownsRow wr.heap.size 3 1 (.slice (some ⟨e2, 0, none⟩) 0 0) 0 [] := by rw [← he2]; exact ho2
      have he3 : (Value.slice (some ⟨wr.heap.size, 0, none⟩) 0 0) = .slice (some ⟨e2, 0, none⟩) 0 0 := by rw [he2]
      simp only [he3]
      obtain ⟨v4, w6, hrun4, ho4, hgr4, _⟩ := run_append_row (P := Tryz.prog) w5 wr.heap.size 27 27 3 (.int .i64 0) 1 8 Tryz.underlying27 info_int rfl (by omega) _ _ _ ho2 a k cap _ hl5 (hia _ hb5) (ints_one _) (by omega) (by omega) hb5.size
      have hb6 : Below wr.heap.size wr w6 := hb5.trans (grown_below ho2 hgr4 (Nat.le_refl _) hb5.size)
      refine anyL_run (i := 4) (v := v4) (w' := w6) rfl (by kernel_rfl) (by rfl) ?_ (.inr hb6) ?_
      ·refine exec_app (v := .slice (some ⟨e2, 0, none⟩) 0 0) (u := .slice a k cap) _ _ 27 rfl (by rfl) (by rfl) ?_
       exact hrun4
      try (dsimp only); try simp only [Act.put, List.setIfInBounds_toArray, List.set_cons_zero, List.set_cons_succ]
      have hg6 : Box w6 g6 #[.int .i64 n] 3 := ((Keep.refl (fun k => k = g6) w5).grown hgr4 (fun k hk => .inl (fun h => by rw [h] at hk; simp [Value.ownBlock] at hk; omega))).heap rfl hg5
      rw [List.nil_append, Nat.zero_add] at ho4
      clear hgr4 hrun4 hb5 ho2 hg5
      obtain ⟨v7, w7, hrun7, ho7, hb7⟩ := app_ints ho4 (a := some ⟨g6, 0, none⟩) (n := 1) (cap := 1) (l := [n]) rfl (one_intW hg6) (by have := HK.out; omega) hb6.size
      refine anyL_run (i := 7) (v := v7) (w' := w7) rfl (by kernel_rfl) (by rfl) ?_ (.inr (hb6.trans hb7)) ?_
      ·refine exec_app (v := v4) (u := .slice (some ⟨g6, 0, none⟩) 1 1) _ _ 27 rfl (by rfl) (by rfl) ?_
       exact hrun7
      try (dsimp only); try simp only [Act.put, List.setIfInBounds_toArray, List.set_cons_zero, List.set_cons_succ]
      obtain ⟨v8, w8, hrun8, ho8, hb8⟩ := app_ints ho7 (a := a2) (cap := c2) (l := l.drop k) rfl (HI2.out.below ((Below.refl _ wr).trans (hb6.trans hb7))) (by have := HK.out; rw [List.length_drop]; omega) (hb6.trans hb7).size
      refine anyL_run (i := 11) (v := v8) (w' := w8) rfl (by kernel_rfl) (by rfl) ?_ (.inr ((hb6.trans hb7).trans hb8)) ?_
      ·refine exec_app (v := v7) (u := u2) _ _ 27 rfl (by rfl) (by rfl) ?_
       rw [HU2.out]; exact hrun8
      try (dsimp only); try simp only [Act.put, List.setIfInBounds_toArray, List.set_cons_zero, List.set_cons_succ]
      refine anyL_run (i := 12) (v := v8) (w' := w8) rfl (by kernel_rfl) (by rfl) (by go_simp) (.inl rfl) ?_
      try (dsimp only); try simp only [Act.put, List.setIfInBounds_toArray, List.set_cons_zero, List.set_cons_succ]
      refine anyL_done (by kernel_rfl) ?_ _
      obtain ⟨a9, c9, hv9, hro9, hc9⟩ := ownsRow_own ho8
      have HRO := Lib.hid hro9
      have HEND := Lib.hid ((hb6.trans hb7).trans hb8)
      have hlen : (with1L l n).length = k + 1 + (l.length - k) := by
       rw [HE.out, List.length_append, List.length_cons, List.length_take, List.length_drop, Nat.min_eq_left HK.out.1]; omega
      have HLEN := Lib.hid hlen
      subst hv9
      clear hrun7 hrun8 ho4 ho7 ho8 hb6 hb7 hb8 hg6 hro9 hlen
      go_wp2_with fail
      go_ret
      refine ⟨a9, c9, by rw [HLEN.out]; first | rfl | (rw [← List.length_drop (i := k) (l := l)]; rfl), ?_, by rw [HLEN.out, ← List.length_drop (i := k) (l := l)]; exact hc9, HEND.out⟩
      rw [HE.out]
      have h := HRO.out
      rw [← List.map_append, ← List.map_append, List.append_assoc] at h
      exact ints_rowOwn h
    ·refine wpOp_run (v := .slice (some ⟨wr.heap.size, 0, none⟩) 1 1) (w' := wr.drew.alloc (.cells #[.int .i64 n] 3)) rfl (by rfl) ?_ ⟨.inr ((Below.refl _ wr).drew.alloc (Nat.le_refl _) _), ?_⟩
     ·go_simp
      try with_reducible rfl
     try (dsimp only); try simp only [Act.put, List.setIfInBounds_toArray, List.set_cons_zero, List.set_cons_succ]
     obtain ⟨g6, hge⟩ : ∃ g6, wr.heap.size = g6 := ⟨_, rfl⟩
     have hg4 : Box (wr.drew.alloc (.cells #[.int .i64 n] 3)) wr.heap.size #[.int .i64 n] 3 := Box.new wr.drew _ _
     have hb4 : Below wr.heap.size wr (wr.drew.alloc (.cells #[.int .i64 n] 3)) := (Below.refl _ wr).drew.alloc (Nat.le_refl _) _
     clear hee hbe
     generalize wr.drew.alloc (.cells #[.int .i64 n] 3) = w4 at *
     refine anyL_run (i := 0) (v := .slice (some ⟨w4.heap.size, 0, none⟩) 0 0) (w' := w4.alloc (.cells #[] 3)) rfl (by kernel_rfl) (by rfl) ?_ (.inr (hb4.alloc hb4.size _)) ?_
     ·go_simp
      try with_reducible rfl
     try (dsimp only); try simp only [Act.put, List.setIfInBounds_toArray, List.set_cons_zero, List.set_cons_succ]
     have ho2 := ownsRow_empty w4 wr.heap.size 3 1 hb4.size
     have hg5 := hg4.alloc (.cells #[] 3)
     have hb5 := hb4.alloc hb4.size (.cells #[] 3)
     rw [hge] at hg5
     have hg3 : (Value.slice (some ⟨wr.heap.size, 0, none⟩) 1 1) = .slice (some ⟨g6, 0, none⟩) 1 1 := by rw [hge]
     simp only [hg3]
     obtain ⟨e2, he2⟩ : ∃ e2, w4.heap.size = e2 := ⟨_, rfl⟩
     have hne : g6 ≠ e2 := by have := hg4.lt; omega
     rw [he2] at ho2
     simp only [he2]
     generalize w4.alloc (.cells #[] 3) = w5 at *
     clear hg4 hb4
     obtain ⟨v4, w6, hrun4, ho4, hgr4, _⟩ := run_append_row (P := Tryz.prog) w5 wr.heap.size 27 27 3 (.int .i64 0) 1 8 Tryz.underlying27 info_int rfl (by omega) _ _ _ ho2 a k cap _ hl5 (hia _ hb5) (ints_one _) (by omega) (by omega) hb5.size
     have hb6 : Below wr.heap.size wr w6 := hb5.trans (grown_below ho2 hgr4 (Nat.le_refl _) hb5.size)
     refine anyL_run (i := 4) (v := v4) (w' := w6) rfl (by kernel_rfl) (by rfl) ?_ (.inr hb6) ?_
     ·refine exec_app (v := .slice (some ⟨e2, 0, none⟩) 0 0) (u := .slice a k cap) _ _ 27 rfl (by rfl) (by rfl) ?_
      exact hrun4
     try (dsimp only); try simp only [Act.put, List.setIfInBounds_toArray, List.set_cons_zero, List.set_cons_succ]
     have hg6 : Box w6 g6 #[.int .i64 n] 3 := ((Keep.refl (fun k => k = g6) w5).grown hgr4 (fun k hk => .inl (fun h => by rw [h] at hk; simp [Value.ownBlock] at hk; omega))).heap rfl hg5
     rw [List.nil_append, Nat.zero_add] at ho4
     clear hgr4 hrun4 hb5 ho2 hg5
     obtain ⟨v7, w7, hrun7, ho7, hb7⟩ := app_ints ho4 (a := some ⟨g6, 0, none⟩) (n := 1) (cap := 1) (l := [n]) rfl (one_intW hg6) (by have := HK.out; omega) hb6.size
     refine anyL_run (i := 7) (v := v7) (w' := w7) rfl (by kernel_rfl) (by rfl) ?_ (.inr (hb6.trans hb7)) ?_
     ·refine exec_app (v := v4) (u := .slice (some ⟨g6, 0, none⟩) 1 1) _ _ 27 rfl (by rfl) (by rfl) ?_
      exact hrun7
     try (dsimp only); try simp only [Act.put, List.setIfInBounds_toArray, List.set_cons_zero, List.set_cons_succ]
     obtain ⟨v8, w8, hrun8, ho8, hb8⟩ := app_ints ho7 (a := a2) (cap := c2) (l := l.drop k) rfl (HI2.out.below ((Below.refl _ wr).trans (hb6.trans hb7))) (by have := HK.out; rw [List.length_drop]; omega) (hb6.trans hb7).size
     refine anyL_run (i := 11) (v := v8) (w' := w8) rfl (by kernel_rfl) (by rfl) ?_ (.inr ((hb6.trans hb7).trans hb8)) ?_
     ·refine exec_app (v := v7) (u := u2) _ _ 27 rfl (by rfl) (by rfl) ?_
      rw [HU2.out]; exact hrun8
     try (dsimp only); try simp only [Act.put, List.setIfInBounds_toArray, List.set_cons_zero, List.set_cons_succ]
     refine anyL_run (i := 12) (v := v8) (w' := w8) rfl (by kernel_rfl) (by rfl) (by go_simp) (.inl rfl) ?_
     try (dsimp only); try simp only [Act.put, List.setIfInBounds_toArray, List.set_cons_zero, List.set_cons_succ]
     refine anyL_done (by kernel_rfl) ?_ _
     obtain ⟨a9, c9, hv9, hro9, hc9⟩ := ownsRow_own ho8
     have HRO := Lib.hid hro9
     have HEND := Lib.hid ((hb6.trans hb7).trans hb8)
     have hlen : (with1L l n).length = k + 1 + (l.length - k) := by
      rw [HE.out, List.length_append, List.length_cons, List.length_take, List.length_drop, Nat.min_eq_left HK.out.1]; omega
     have HLEN := Lib.hid hlen
     subst hv9
     clear hrun7 hrun8 ho4 ho7 ho8 hb6 hb7 hb8 hg6 hro9 hlen
     go_wp2_with fail
     go_ret
     refine ⟨a9, c9, by rw [HLEN.out]; first | rfl | (rw [← List.length_drop (i := k) (l := l)]; rfl), ?_, by rw [HLEN.out, ← List.length_drop (i := k) (l := l)]; exact hc9, HEND.out⟩
     rw [HE.out]
     have h := HRO.out
     rw [← List.map_append, ← List.map_append, List.append_assoc] at h
     exact ints_rowOwn h
end Go.Proofs.YtpjcnkajimgagaaGreat
