/- unique: the sorted list of the numbers that are not nought, none twice. First: IndexFunc and DeleteFunc over 'it is nought'. -/
/- unique, walked. -/
/- The little functions that strike an Id with what it stands by (bys$1$1 to bys$1$4), and the predicates of Lineage and Without. -/
/- slices.Backward at []int: the places and the numbers of a list, from behind. -/
/- idsOf: the Ids that a case's words name, each once, in order. First: what stands at each place. -/
/- A case without some of its Ids, in plain data; and how it lies in memory. No condition. -/
/- without: a case without the Ids of which something holds. -/
import Derived.Test.YtpjcnkajimgagaaGreatMRemade
import Derived.Lib.SliceRun
import Derived.Test.YtpjcnkajimgagaaGreatShelf
import Derived.Test.YtpjcnkajimgagaaGreatMHeld
set_option linter.unusedSimpArgs false
set_option linter.unusedVariables false
namespace Go.Proofs.YtpjcnkajimgagaaGreat
open Go.RowKit
attribute [local go_sem] Oper.semAt_some

theorem unique1_any (n : Int) (w : World) : Calls Tryz.prog 99 #[.int .i64 n] w fun e w' => e = .returned (.bool (decide (n = 0))) ∧ w' = w := by
 go_enter Tryz.func99, Tryz.ntmps99
 go_wp2
 go_ret
 exact ⟨by first | rfl | simp, rfl⟩

/-- where the first nought stands, or -1 -/
def nought (l : List Int) (r : Int) : Prop := (r = -1 ∧ ∀ x ∈ l, x ≠ 0) ∨ ∃ k : Nat, r = k ∧ l[k]? = some 0 ∧ ∀ x ∈ l.take k, x ≠ 0
set_option maxHeartbeats 1000000 in
theorem indexFunc_any (a : Option Addr) (c : Nat) (l : List Int) (w : World) (h : Ints w a l) (hl : l.length ≤ 1000000) :
  Calls Tryz.prog 126 #[.slice a l.length c, .func (.func 99) #[] #[]] w fun e w' => ∃ r, e = .returned (.int .i64 r) ∧ nought l r ∧ w' = w := by
 go_enter Tryz.func126, Tryz.ntmps126
 go_wp2
 go_loopw [8] (fun i wr => ∃ k : Nat, k ≤ l.length ∧ i = .int .i64 k ∧ (∀ x ∈ l.take k, x ≠ 0) ∧ wr = w) (fun i _ => l.length - (intOf i).toNat)
 case atStart => exact ⟨0, Nat.zero_le _, rfl, by simp, rfl⟩
 case round =>
  obtain ⟨k, hk, rfl, hall, rfl⟩ := hrel
  have HA := Lib.hid hall
  clear hall
  by_cases hlt : k < l.length
  ·obtain ⟨b, o, rfl, hb⟩ := h.base (by omega)
   obtain ⟨x, hx⟩ := get_of_lt l hlt
   have c1 := hb _ _ hx
   have HX := Lib.hid hx
   clear hx hb
   by_cases hx0 : x = 0
   ·have hd : decide (x = 0) = true := by simp [hx0]
    have H0 := Lib.hid hx0
    clear hx0
    go_wp2_with (go_at_call 99; refine (unique1_any x _).mono ?_; rintro e w' ⟨rfl, rfl⟩)
    go_ret
    exact ⟨k, rfl, .inr ⟨k, rfl, by rw [HX.out, H0.out], HA.out⟩, rfl⟩
   ·have hd : decide (x = 0) = false := by simp [hx0]
    have H0 := Lib.hid hx0
    clear hx0
    go_wp2_with (go_at_call 99; refine (unique1_any x _).mono ?_; rintro e w' ⟨rfl, rfl⟩)
    go_roundw
    case rel =>
     refine ⟨k + 1, by omega, by go_num, fun y hy => ?_, by first | rfl | trivial⟩
     rw [List.take_add_one, HX.out] at hy
     simp at hy
     rcases hy with hy | rfl
     ·exact HA.out y hy
     ·exact H0.out
    case measure => simp [intOf]; omega
  ·go_wp2_with fail
   go_ret
   exact ⟨-1, rfl, .inl ⟨rfl, fun x hx => HA.out x (by rw [List.take_of_length_le (by omega)]; exact hx)⟩, rfl⟩

theorem RowOwn.set {B : Nat} {w : World} {b o : Nat} {xs : List Value} (h : RowOwn B w (some ⟨b, o, none⟩) xs) {i : Nat} (v : Value) : RowOwn B (w.setCell ⟨b, o + i, none⟩ v) (some ⟨b, o, none⟩) (xs.set i v) := fun k u hu => by
 rw [List.getElem?_set] at hu
 split at hu
 ·rename_i hik
  subst hik
  split at hu
  ·rename_i hlt
   cases hu
   obtain ⟨b', o', ha, h1, h2, h3⟩ := h i _ (List.getElem?_eq_getElem hlt)
   cases ha
   exact ⟨b, o, rfl, h1, World.cell?_setCell_same' w _ v (by rw [h2]; rfl), by rw [World.frozen?_setCell]; exact h3⟩
  ·cases hu
 ·rename_i hik
  obtain ⟨b', o', ha, h1, h2, h3⟩ := h k u hu
  cases ha
  refine ⟨b, o, rfl, h1, ?_, by rw [World.frozen?_setCell]; exact h3⟩
  rw [World.cell?_setCell_other _ _ _ _ (fun e => by injection e with _ e; exact hik (Nat.add_left_cancel e))]
  exact h2
theorem below_setCells {B b : Nat} (hb : B ≤ b) : ∀ (vs : List Value) (o : Nat) {a w : World}, Below B a w → Below B a (w.setCells b o vs)
 | [], _, _, _, h => h
 | v :: vs, o, _, _, h => below_setCells hb vs (o + 1) (h.setCell (by simpa using hb) v)
theorem RowOwn.cut {B : Nat} {w : World} {b o : Nat} {xs : List Value} (h : RowOwn B w (some ⟨b, o, none⟩) xs) {p : Nat} (vs : List Value) : RowOwn B (w.setCells b (o + p) vs) (some ⟨b, o, none⟩) (xs.take p) := fun k u hu => by
 rw [List.getElem?_take] at hu
 split at hu
 ·rename_i hk
  obtain ⟨b', o', ha, h1, h2, h3⟩ := h k u hu
  cases ha
  refine ⟨b, o, rfl, h1, ?_, by rw [World.frozen?_setCells]; exact h3⟩
  rw [World.cell?_setCells_out _ _ _ _ _ (fun _ _ => .inl (by show o + k < o + p; omega))]
  exact h2
 ·cases hu
def notN (l : List Int) : List Int := l.filter fun x => decide (x ≠ 0)
theorem notN_all {l : List Int} (h : ∀ x ∈ l, x ≠ 0) : notN l = l := by
 unfold notN
 rw [List.filter_eq_self]
 intro x hx; simpa using h x hx
theorem notN_snoc {l : List Int} {q : Nat} {x : Int} (h : l[q]? = some x) : notN (l.take (q + 1)) = notN (l.take q) ++ if x = 0 then [] else [x] := by
 unfold notN
 rw [List.take_add_one, h, List.filter_append]
 by_cases hx : x = 0 <;> simp [hx]
structure Moved (l cur : List Int) (p q : Nat) : Prop where
 lt : p < q
 le : q ≤ l.length
 len : cur.length = l.length
 done : cur.take p = notN (l.take q)
 rest : cur.drop q = l.drop q
theorem Moved.at_ {l cur : List Int} {p q : Nat} (h : Moved l cur p q) {x : Int} (hx : l[q]? = some x) : cur[q]? = some x := by
 have h1 : (cur.drop q)[0]? = (l.drop q)[0]? := by rw [h.rest]
 simpa [List.getElem?_drop, hx] using h1
theorem Moved.pass {l cur : List Int} {p q : Nat} (h : Moved l cur p q) (hx : l[q]? = some 0) : Moved l cur p (q + 1) := by
 have hq : q < l.length := (List.getElem?_eq_some_iff.1 hx).1
 refine ⟨Nat.lt_succ_of_lt h.lt, hq, h.len, by rw [notN_snoc hx, h.done]; simp, ?_⟩
 have := congrArg (List.drop 1) h.rest
 simpa [List.drop_drop, Nat.add_comm] using this
theorem Moved.put {l cur : List Int} {p q : Nat} (h : Moved l cur p q) {x : Int} (hx : l[q]? = some x) (h0 : x ≠ 0) : Moved l (cur.set p x) (p + 1) (q + 1) := by
 have hq : q < l.length := (List.getElem?_eq_some_iff.1 hx).1
 have hp := h.lt
 have hlen := h.len
 refine ⟨by omega, hq, by simpa using hlen, ?_, ?_⟩
 ·rw [notN_snoc hx, ← h.done, if_neg h0, List.take_add_one]
  rw [List.take_set_of_le (Nat.le_refl _), List.getElem?_set_self (by omega)]
  rfl
 ·rw [List.drop_set_of_lt (by omega)]
  have := congrArg (List.drop 1) h.rest
  simpa [List.drop_drop, Nat.add_comm] using this
theorem Moved.start {l : List Int} {k : Nat} (hk : l[k]? = some 0) (h : ∀ x ∈ l.take k, x ≠ 0) : Moved l l k (k + 1) :=
 ⟨Nat.lt_succ_self _, (List.getElem?_eq_some_iff.1 hk).1, rfl, by rw [notN_snoc hk, notN_all h]; simp, rfl⟩
theorem Moved.end_ {l cur : List Int} {p : Nat} (h : Moved l cur p l.length) : cur.take p = notN l := by
 have := h.done; rwa [List.take_length] at this
theorem Moved.plen {l cur : List Int} {p : Nat} (h : Moved l cur p l.length) : (notN l).length = p := by
 rw [← h.end_, List.length_take, h.len]; have := h.lt; omega

theorem nought_or : ∀ l : List Int, (∀ x ∈ l, x ≠ 0) ∨ ∃ k, l[k]? = some 0 ∧ ∀ x ∈ l.take k, x ≠ 0
 | [] => .inl (by simp)
 | y :: l => by
  by_cases hy : y = 0
  ·exact .inr ⟨0, by simp [hy], by simp⟩
  ·rcases nought_or l with h | ⟨k, h1, h2⟩
   ·exact .inl (by simpa [hy] using h)
   ·exact .inr ⟨k + 1, by simpa using h1, by simpa [hy] using h2⟩
theorem nought_no {l : List Int} {r : Int} (h : nought l r) (hall : ∀ x ∈ l, x ≠ 0) : r = -1 := by
 rcases h with ⟨h, _⟩ | ⟨k, _, hk, _⟩
 ·exact h
 ·exact absurd rfl (hall 0 (List.mem_of_getElem? hk))
theorem nought_at {l : List Int} {r : Int} {k : Nat} (h : nought l r) (hk : l[k]? = some 0) (hall : ∀ x ∈ l.take k, x ≠ 0) : r = k := by
 rcases h with ⟨_, h⟩ | ⟨k', h1, hk', h'⟩
 ·exact absurd rfl (h 0 (List.mem_of_getElem? hk))
 ·rcases Nat.lt_trichotomy k k' with hlt | rfl | hlt
  ·exact absurd rfl (h' 0 (List.mem_of_getElem? (i := k) (by rw [List.getElem?_take, if_pos hlt]; exact hk)))
  ·exact h1
  ·exact absurd rfl (hall 0 (List.mem_of_getElem? (i := k') (by rw [List.getElem?_take, if_pos hlt]; exact hk')))
theorem zero_int : ∀ w, (zeroValue 3).run Tryz.prog w = .ok (.int .i64 0) w := fun w => by go_simp
set_option maxRecDepth 100000 in
set_option maxHeartbeats 2000000 in
theorem deleteFunc_any (B : Nat) (a : Option Addr) (c : Nat) (l : List Int) (w : World) (h : RowOwn B w a (l.map (Value.int .i64))) (hc : l.length ≤ c) (hl : l.length ≤ 1000000) :
  Calls Tryz.prog 97 #[.slice a l.length c, .func (.func 99) #[] #[]] w fun e w' => e = .returned (.slice a (notN l).length c) ∧ RowOwn B w' a ((notN l).map (Value.int .i64)) ∧ Below B w w' := by
 have HC := indexFunc_any a c l w h.row hl
 have H := Lib.hid h
 rcases nought_or l with hall | ⟨k, hk, hall⟩
 ·have HC1 : Hid (Calls Tryz.prog 126 #[.slice a l.length c, .func (.func 99) #[] #[]] w fun e w' => e = .returned (.int .i64 (-1)) ∧ w' = w) :=
   Lib.hid (HC.mono fun e w' ⟨r, h1, h2, h3⟩ => ⟨by rw [h1, nought_no h2 hall], h3⟩)
  have HA := Lib.hid hall
  clear HC h hall
  go_enter Tryz.func97, Tryz.ntmps97
  go_wp2_with (go_at_call 126; refine HC1.out.mono ?_; rintro e w' ⟨rfl, rfl⟩)
  go_ret
  rw [notN_all HA.out]
  exact ⟨rfl, H.out, Below.refl _ _⟩
 ·have HC1 : Hid (Calls Tryz.prog 126 #[.slice a l.length c, .func (.func 99) #[] #[]] w fun e w' => e = .returned (.int .i64 k) ∧ w' = w) :=
   Lib.hid (HC.mono fun e w' ⟨r, h1, h2, h3⟩ => ⟨by rw [h1, nought_at h2 hk hall], h3⟩)
  have hkl : k < l.length := (List.getElem?_eq_some_iff.1 hk).1
  obtain ⟨b, o, rfl, hbB, _⟩ := h k (.int .i64 0) (by simp [hk])
  have HM := Lib.hid (Moved.start hk hall)
  have hk1 : ((k : Int) == -1) = false := by simp
  have hkw : IntKind.i64.wrap ((k : Int) + 1) = (k : Int) + 1 := IntWalk.i64_in _ (by omega)
  clear HC h hall hk
  go_enter Tryz.func97, Tryz.ntmps97
  go_wp2_with (go_at_call 126; refine HC1.out.mono ?_; rintro e w ⟨rfl, rfl⟩)
  go_loopw [5, 6] (fun i j wr => ∃ (p q : Nat) (cur : List Int), i = .int .i64 p ∧ j = .int .i64 q ∧ Moved l cur p q ∧ RowOwn B wr (some ⟨b, o, none⟩) (cur.map (Value.int .i64)) ∧ Below B w wr) (fun _ j _ => l.length - (intOf j).toNat)
  case atStart => exact ⟨k, k + 1, l, rfl, by first | rfl | go_num, HM.out, H.out, Below.refl _ _⟩
  case round =>
   obtain ⟨p, q, cur, rfl, rfl, hM, hR, hB⟩ := hrel
   have hpq := hM.lt
   have hlen := hM.len
   have hle := hM.le
   have MM := Lib.hid hM
   have RR := Lib.hid hR
   have BB := Lib.hid hB
   clear hM hR hB
   by_cases hlt : q < l.length
   ·obtain ⟨x, hx⟩ := get_of_lt l hlt
    have hcx := MM.out.at_ hx
    obtain ⟨b1, o1, e1, _, c1, f1⟩ := RR.out q (.int .i64 x) (by simp [hcx])
    cases e1
    obtain ⟨y, hy⟩ := get_of_lt cur (k := p) (by omega)
    obtain ⟨b1, o1, e1, _, c2, f2⟩ := RR.out p (.int .i64 y) (by simp [hy])
    cases e1
    have HX := Lib.hid hx
    clear hx hcx hy
    by_cases hx0 : x = 0
    ·have hd : decide (x = 0) = true := by simp [hx0]
     have H0 := Lib.hid hx0
     clear hx0
     go_wp2_with (go_at_call 99; refine (unique1_any x _).mono ?_; rintro e w' ⟨rfl, rfl⟩)
     go_roundw
     case rel => exact ⟨p, q + 1, cur, by go_num, by go_num, MM.out.pass (by rw [HX.out, H0.out]), RR.out, BB.out⟩
     case measure => simp [intOf]; omega
    ·have hd : decide (x = 0) = false := by simp [hx0]
     have H0 := Lib.hid hx0
     clear hx0
     go_wp2_with (go_at_call 99; refine (unique1_any x _).mono ?_; rintro e w' ⟨rfl, rfl⟩)
     go_roundw
     case rel =>
      refine ⟨p + 1, q + 1, cur.set p x, by go_num, by go_num, MM.out.put HX.out H0.out, ?_, BB.out.setCell (by simpa using hbB) _⟩
      rw [List.map_set]
      exact RR.out.set _
     case measure => simp [intOf]; omega
   ·have hq : q = l.length := by omega
    subst hq
    have hcl : ∀ ty, (Builtin.clear_ #[27] ty #[.slice (some ⟨b, o + p, none⟩) (l.length - p) (c - p)]).run Tryz.prog wr = .ok (.tuple #[]) (wr.setCells b (o + p) (List.replicate (l.length - p) (.int .i64 0))) :=
     fun ty => Lib.run_clear_slice wr _ _ ty _ Tryz.underlying27 zero_int rfl rfl b (o + p) _ _ (by omega)
      (fun j hj => by
       obtain ⟨y, hy⟩ := get_of_lt cur (k := p + j) (by omega)
       obtain ⟨b1, o1, e1, _, c2, f2⟩ := RR.out (p + j) (.int .i64 y) (by simp [hy])
       cases e1; rw [Nat.add_assoc, c2]; rfl)
      (fun j hj => by
       obtain ⟨y, hy⟩ := get_of_lt cur (k := p + j) (by omega)
       obtain ⟨b1, o1, e1, _, c2, f2⟩ := RR.out (p + j) (.int .i64 y) (by simp [hy])
       cases e1; rw [Nat.add_assoc, f2])
    go_wp2_with fail
    go_ret
    refine ⟨by rw [MM.out.plen]; rfl, ?_, below_setCells hbB _ _ BB.out⟩
    rw [← MM.out.end_, List.map_take]
    exact RR.out.cut _
end Go.Proofs.YtpjcnkajimgagaaGreat
namespace Go.Proofs.YtpjcnkajimgagaaGreat
open Go.RowKit
attribute [local go_sem] Oper.semAt_some

/-- a list in new memory whose base is there, even where it is empty -/
def Copy3Post (B : Nat) (l : List Int) (w : World) (e : Ending) (w' : World) : Prop := ∃ g c, e = .returned (.slice (some ⟨g, 0, none⟩) l.length c) ∧ B ≤ g ∧ g < w'.heap.size ∧ RowOwn B w' (some ⟨g, 0, none⟩) (l.map (Value.int .i64)) ∧ l.length ≤ c ∧ Below w.heap.size w w'
set_option maxRecDepth 100000 in
set_option maxHeartbeats 1000000 in
theorem copied3_any (a : Option Addr) (c : Nat) (l : List Int) (w : World) (h : Ints w a l) (hl : l.length ≤ 100000) :
  Calls Tryz.prog 98 #[.slice a l.length c] w (Copy3Post w.heap.size l w) := by
 obtain ⟨v', w', hrun, hown, hg, hvb⟩ := run_append_row (P := Tryz.prog) (w.alloc (.cells #[] 3)) w.heap.size 27 27 3 (.int .i64 0) 1 8 Tryz.underlying27 info_int rfl (by omega)
  (.slice (some ⟨w.heap.size, 0, none⟩) 0 0) 0 [] (ownsRow_empty w _ _ _ (Nat.le_refl _)) a l.length c (l.map (.int .i64)) (by simp) (h.below ((Below.refl _ w).alloc (Nat.le_refl _) _)) (ints_one l) (by omega) (by omega) (by simp)
 have HO := Lib.hid hown
 have HG := Lib.hid hg
 have HR := Lib.hid hrun
 clear hown hg hrun
 go_enter Tryz.func98, Tryz.ntmps98
 go_wp2_with (at_builtin; refine wpList_app rfl _ _ _ rfl rfl rfl HR.out ?_)
 go_ret
 have hb : Below w.heap.size w w' := ((Below.refl _ w).alloc (Nat.le_refl _) _).trans ((grown_below (ownsRow_empty w w.heap.size _ 1 (Nat.le_refl _)) HG.out (Nat.le_refl _) (by simp)))
 obtain ⟨a', c', he, hr, hcap⟩ := ownsRow_own HO.out
 obtain ⟨ho1, ho2⟩ := HO.out
 rcases ho2 with ⟨rfl, _⟩ | ⟨g, cap, cur, rfl, hgb, hh, hcap2, _, hcs, htake⟩
 ·rcases hvb with hvb | hvb <;> simp [Value.ownBlock] at hvb
 ·cases he
  refine ⟨g, c', by simp, hgb, (Array.getElem?_eq_some_iff.1 hh).1, by simpa using hr, by simpa using hcap, hb⟩

open Go.Sort in
theorem holds_own {B : Nat} {w : World} {g : Nat} {l : List Int} (h : RowOwn B w (some ⟨g, 0, none⟩) (l.map (Value.int .i64))) : Go.Sort.Holds (Value.int .i64) w g 0 l.toArray := fun j hj => by
 have hj' : j < l.length := by simpa using hj
 obtain ⟨b, o, e, _, h1, h2⟩ := h j (.int .i64 l[j]) (by simp [hj'])
 cases e
 refine ⟨?_, h2⟩
 rw [h1]
 simp [hj']
open Go.Sort in
theorem own_holds {B : Nat} {w : World} {g : Nat} {l m : List Int} (hB : B ≤ g) (h : Go.Sort.Holds (Value.int .i64) w g 0 l.toArray) (hm : ∀ (k : Nat) (x : Int), m[k]? = some x → l[k]? = some x) : RowOwn B w (some ⟨g, 0, none⟩) (m.map (Value.int .i64)) := fun k v hv => by
 rw [List.getElem?_map] at hv
 obtain ⟨x, hx, rfl⟩ := Option.map_eq_some_iff.1 hv
 have hl := hm k x hx
 have hk : k < l.length := (List.getElem?_eq_some_iff.1 hl).1
 obtain ⟨h1, h2⟩ := h k (by simpa using hk)
 refine ⟨g, 0, rfl, hB, ?_, h2⟩
 rw [h1]
 have : l[k] = x := by rw [List.getElem?_eq_getElem hk] at hl; exact Option.some.inj hl
 simp [hk, this]
open Go.Sort in
theorem below_putRow {B : Nat} {a w : World} (h : Below B a w) {g o : Nat} (hB : B ≤ g) (d : Array Int) : Below B a (putRow (Value.int .i64) w g o d) :=
 h.trans ⟨rfl, rfl, rfl, by simp [putRow, mapBlock], fun k hk => by simp only [putRow, mapBlock, Array.getElem?_modify]; rw [if_neg (by omega)]⟩
open Go.Sort in
theorem below_ahead {B : Nat} {a w : World} (h : Below B a w) (n : Nat) : Below B a (Sort.ahead w n) :=
 h.trans ⟨rfl, rfl, rfl, Nat.le_refl _, fun _ _ => rfl⟩
open Go.Sort in
theorem below_grow {B : Nat} {a w : World} (h : Below B a w) (hB : B ≤ w.heap.size) (os : Array Obj) : Below B a (grow w os) :=
 h.trans ⟨rfl, rfl, rfl, by simp [grow], fun k hk => heap_grow_old _ _ (by omega)⟩
def uniqL (l : List Int) : List Int := Lib.compact ((notN l).mergeSort fun x y => decide (x ≤ y))
theorem notN_len (l : List Int) : (notN l).length ≤ l.length := List.length_filter_le _ _
theorem uniqL_len (l : List Int) : (uniqL l).length ≤ (notN l).length := by
 have h := List.length_filter_le (Lib.keeps ((notN l).mergeSort fun x y => decide (x ≤ y)).toArray) (List.range ((notN l).mergeSort fun x y => decide (x ≤ y)).length)
 simpa [uniqL, Lib.compact, Lib.compactUpTo] using h
def sortL (l : List Int) : List Int := l.mergeSort fun x y => decide (x ≤ y)
theorem sortL_len (l : List Int) : (sortL l).length = l.length := by simp [sortL]
open Go.Sort in
theorem sort_own {B g cap : Nat} {l : List Int} {w : World} (hr : RowOwn B w (some ⟨g, 0, none⟩) (l.map (Value.int .i64))) (hB : B ≤ g) (hgs : g < w.heap.size) (hl : l.length ≤ 1000000) :
  Calls Tryz.prog 100 #[.slice (some ⟨g, 0, none⟩) l.length cap] w fun e w' => e = .returned (.tuple #[]) ∧ RowOwn B w' (some ⟨g, 0, none⟩) ((sortL l).map (Value.int .i64)) ∧ g < w'.heap.size ∧ Below B w w' := by
 refine (Tryz.slices_Sort_int g 0 cap l w (holds_own hr) hgs (by omega)).mono ?_
 rintro e w' ⟨rfl, n, os, rfl⟩
 have hb : Below B w (grow (putRow (Value.int .i64) (Sort.ahead w n) g 0 (l.mergeSort fun x y => decide (x ≤ y)).toArray) os) :=
  below_grow (below_putRow (below_ahead (Below.refl _ w) n) hB _) (by simp [putRow, mapBlock, Sort.ahead]; omega) os
 refine ⟨rfl, own_holds hB (holds_grow _ _ _ _ _ _ (by simp [putRow, mapBlock, Sort.ahead]; omega) (holds_putRow _ _ _ _ _ _ (holds_ahead _ _ n _ _ _ (holds_own hr)) (by simp))) (fun _ _ h => h), Nat.lt_of_lt_of_le hgs hb.size, hb⟩
open Go.Sort in
theorem compact_own {B g cap m : Nat} {l : List Int} {w : World} (hm : m = l.length) (hr : RowOwn B w (some ⟨g, 0, none⟩) (l.map (Value.int .i64))) (hB : B ≤ g) (hgs : g < w.heap.size) (hl : l.length ≤ 1000000) (hc : l.length ≤ cap) :
  Calls Tryz.prog 101 #[.slice (some ⟨g, 0, none⟩) m cap] w fun e w' => e = .returned (.slice (some ⟨g, 0, none⟩) (Lib.compact l).length cap) ∧ RowOwn B w' (some ⟨g, 0, none⟩) ((Lib.compact l).map (Value.int .i64)) ∧ g < w'.heap.size ∧ Below B w w' := by
 subst hm
 refine (Tryz.slices_Compact_int g 0 cap l w (holds_own hr) (by omega) hc).mono ?_
 rintro e w' ⟨rfl, n, rfl⟩
 have hle : (Lib.compact l).length ≤ l.length := by
  have h := List.length_filter_le (Lib.keeps l.toArray) (List.range l.length)
  simpa [Lib.compact, Lib.compactUpTo] using h
 have hb : Below B w (putRow (Value.int .i64) (Sort.ahead w n) g 0 (Lib.compact l ++ List.replicate (l.length - (Lib.compact l).length) 0).toArray) := below_putRow (below_ahead (Below.refl _ w) n) hB _
 refine ⟨rfl, own_holds hB (holds_putRow _ _ _ _ _ _ (holds_ahead _ _ n _ _ _ (holds_own hr)) (by simp; omega)) (fun k x hk => ?_), Nat.lt_of_lt_of_le hgs hb.size, hb⟩
 rw [List.getElem?_append_left (List.getElem?_eq_some_iff.1 hk).1]
 exact hk
/-- the list that unique gives -/
def UniqPost (l : List Int) (w : World) (e : Ending) (w' : World) : Prop := ∃ g c, e = .returned (.slice (some ⟨g, 0, none⟩) (uniqL l).length c) ∧ w.heap.size ≤ g ∧ g < w'.heap.size ∧ RowOwn w.heap.size w' (some ⟨g, 0, none⟩) ((uniqL l).map (Value.int .i64)) ∧ (uniqL l).length ≤ c ∧ Below w.heap.size w w'
set_option maxRecDepth 100000 in
set_option maxHeartbeats 1000000 in
theorem unique_any (a : Option Addr) (c : Nat) (l : List Int) (w : World) (h : Ints w a l) (hl : l.length ≤ 100000) :
  Calls Tryz.prog 56 #[.slice a l.length c] w (UniqPost l w) := by
 have HC := Lib.hid (copied3_any a c l w h hl)
 have hn := notN_len l
 clear h
 go_enter Tryz.func56, Tryz.ntmps56
 go_wp2_with (first
  | (go_at_call 98; refine HC.out.mono ?_; rintro e w1 ⟨g, c1, rfl, hg, hgs, hr, hc1, hb⟩; have HD := Lib.hid (deleteFunc_any w.heap.size (some ⟨g, 0, none⟩) c1 l w1 hr hc1 (by omega)); have HB1 := Lib.hid hb; clear hr hb)
  | (go_at_call 97; refine HD.out.mono ?_; rintro e w2 ⟨rfl, hr, hb⟩; have hs2 : g < w2.heap.size := Nat.lt_of_lt_of_le hgs hb.size; have HS := Lib.hid (sort_own (cap := c1) hr hg hs2 (by omega)); have HB2 := Lib.hid hb; clear hr hb)
  | (go_at_call 100; refine HS.out.mono ?_; rintro e w3 ⟨rfl, hr, hs3, hb⟩; have HK := Lib.hid (compact_own (cap := c1) (m := (notN l).length) (sortL_len (notN l)).symm hr hg hs3 (by rw [sortL_len]; omega) (by rw [sortL_len]; omega)); have HB3 := Lib.hid hb; clear hr hb)
  | (go_at_call 101; refine HK.out.mono ?_; rintro e w4 ⟨rfl, hr, hs4, hb⟩; have HR4 := Lib.hid hr; have HB4 := Lib.hid hb; clear hr hb))
 go_ret
 have hl2 := uniqL_len l
 exact ⟨g, c1, rfl, hg, hs4, HR4.out, by omega, ((HB1.out.trans HB2.out).trans HB3.out).trans HB4.out⟩
end Go.Proofs.YtpjcnkajimgagaaGreat
namespace Go.Proofs.YtpjcnkajimgagaaGreat
open Go.RowKit
attribute [local go_sem] Oper.semAt_some

set_option maxHeartbeats 1000000 in
theorem clear1_any (g PB b0 : Nat) (u1 u2 : Value) (w : World) (hg : Box w g #[.pointer (some ⟨PB, b0, none⟩)] 163) (hne : PB ≠ g) (h1 : w.cell? ⟨PB, b0 + 1, none⟩ = some u1) (f1 : w.frozen? ⟨PB, b0 + 1, none⟩ = false) (h2 : w.cell? ⟨PB, b0 + 3, none⟩ = some u2) (f2 : w.frozen? ⟨PB, b0 + 3, none⟩ = false) :
  Calls Tryz.prog 113 #[.pointer (some ⟨g, 0, none⟩)] w fun e w' => e = .returned (.tuple #[]) ∧ w' = (w.drew.setCell ⟨PB, b0 + 1, none⟩ (.int .i64 0)).setCell ⟨PB, b0 + 3, none⟩ (.int .i64 0) := by
 have c0 := hg.cell 0
 simp only [List.getElem?_toArray, List.getElem?_cons_zero] at c0
 clear hg
 go_enter Tryz.func113, Tryz.ntmps113
 go_wp2_with fail
 go_region_held3 (fun w' => w'.cell? ⟨g, 0, none⟩ = some (.pointer (some ⟨PB, b0, none⟩))) (go_keep) (fail)
 go_wp2_with fail
 refine ⟨rfl, _, results_none rfl _ _ _, ?_⟩
 exact ⟨rfl, rfl⟩
set_option maxHeartbeats 1000000 in
theorem clear2_any (g PB b0 : Nat) (u1 u2 : Value) (w : World) (hg : Box w g #[.pointer (some ⟨PB, b0, none⟩)] 163) (hne : PB ≠ g) (h1 : w.cell? ⟨PB, b0 + 2, none⟩ = some u1) (f1 : w.frozen? ⟨PB, b0 + 2, none⟩ = false) (h2 : w.cell? ⟨PB, b0 + 4, none⟩ = some u2) (f2 : w.frozen? ⟨PB, b0 + 4, none⟩ = false) :
  Calls Tryz.prog 114 #[.pointer (some ⟨g, 0, none⟩)] w fun e w' => e = .returned (.tuple #[]) ∧ w' = (w.drew.setCell ⟨PB, b0 + 2, none⟩ (.int .i64 1000)).setCell ⟨PB, b0 + 4, none⟩ (.int .i64 0) := by
 have c0 := hg.cell 0
 simp only [List.getElem?_toArray, List.getElem?_cons_zero] at c0
 clear hg
 go_enter Tryz.func114, Tryz.ntmps114
 go_wp2_with fail
 go_region_held3 (fun w' => w'.cell? ⟨g, 0, none⟩ = some (.pointer (some ⟨PB, b0, none⟩))) (go_keep) (fail)
 go_wp2_with fail
 refine ⟨rfl, _, results_none rfl _ _ _, ?_⟩
 exact ⟨rfl, rfl⟩
set_option maxHeartbeats 1000000 in
theorem clear3_any (g PB b0 : Nat) (u1 u2 : Value) (w : World) (hg : Box w g #[.pointer (some ⟨PB, b0, none⟩)] 163) (hne : PB ≠ g) (h1 : w.cell? ⟨PB, b0 + 5, none⟩ = some u1) (f1 : w.frozen? ⟨PB, b0 + 5, none⟩ = false) (h2 : w.cell? ⟨PB, b0 + 6, none⟩ = some u2) (f2 : w.frozen? ⟨PB, b0 + 6, none⟩ = false) :
  Calls Tryz.prog 115 #[.pointer (some ⟨g, 0, none⟩)] w fun e w' => e = .returned (.tuple #[]) ∧ w' = (w.drew.setCell ⟨PB, b0 + 5, none⟩ (.bool false)).setCell ⟨PB, b0 + 6, none⟩ (.int .i64 0) := by
 have c0 := hg.cell 0
 simp only [List.getElem?_toArray, List.getElem?_cons_zero] at c0
 clear hg
 go_enter Tryz.func115, Tryz.ntmps115
 go_wp2_with fail
 go_region_held3 (fun w' => w'.cell? ⟨g, 0, none⟩ = some (.pointer (some ⟨PB, b0, none⟩))) (go_keep) (fail)
 go_wp2_with fail
 refine ⟨rfl, _, results_none rfl _ _ _, ?_⟩
 exact ⟨rfl, rfl⟩
set_option maxHeartbeats 1000000 in
theorem clear4_any (g PB b0 : Nat) (u1 u2 : Value) (w : World) (hg : Box w g #[.pointer (some ⟨PB, b0, none⟩)] 137) (hne : PB ≠ g) (h1 : w.cell? ⟨PB, b0 + 1, none⟩ = some u1) (f1 : w.frozen? ⟨PB, b0 + 1, none⟩ = false) (h2 : w.cell? ⟨PB, b0 + 2, none⟩ = some u2) (f2 : w.frozen? ⟨PB, b0 + 2, none⟩ = false) :
  Calls Tryz.prog 116 #[.pointer (some ⟨g, 0, none⟩)] w fun e w' => e = .returned (.tuple #[]) ∧ w' = (w.drew.setCell ⟨PB, b0 + 1, none⟩ (.int .i64 0)).setCell ⟨PB, b0 + 2, none⟩ (.int .i64 0) := by
 have c0 := hg.cell 0
 simp only [List.getElem?_toArray, List.getElem?_cons_zero] at c0
 clear hg
 go_enter Tryz.func116, Tryz.ntmps116
 go_wp2_with fail
 go_region_held3 (fun w' => w'.cell? ⟨g, 0, none⟩ = some (.pointer (some ⟨PB, b0, none⟩))) (go_keep) (fail)
 go_wp2_with fail
 refine ⟨rfl, _, results_none rfl _ _ _, ?_⟩
 exact ⟨rfl, rfl⟩
theorem lin1_any (n x : Int) (g : Nat) (w : World) (hg : w.cell? ⟨g, 0, none⟩ = some (.int .i64 x)) :
  Calls Tryz.prog 41 #[.int .i64 n, .pointer (some ⟨g, 0, none⟩)] w fun e w' => e = .returned (.bool (n == x)) ∧ w' = w := by
 go_enter Tryz.func41, Tryz.ntmps41
 go_wp2
 go_ret
 exact ⟨rfl, rfl⟩
theorem wout1_any (n x : Int) (g : Nat) (w : World) (hg : w.cell? ⟨g, 0, none⟩ = some (.int .i64 x)) :
  Calls Tryz.prog 62 #[.int .i64 n, .pointer (some ⟨g, 0, none⟩)] w fun e w' => e = .returned (.bool (n == x)) ∧ w' = w := by
 go_enter Tryz.func62, Tryz.ntmps62
 go_wp2
 go_ret
 exact ⟨rfl, rfl⟩
end Go.Proofs.YtpjcnkajimgagaaGreat
namespace Go.Proofs.YtpjcnkajimgagaaGreat
open Go.RowKit
attribute [local go_sem] Oper.semAt_some

def bkItem (l : List Int) (k : Nat) : Nat × Int := (l.length - 1 - k, l.getD (l.length - 1 - k) 0)
def bk (l : List Int) (k : Nat) : List (Nat × Int) := (List.range k).map (bkItem l)
theorem bk_succ (l : List Int) (k : Nat) : bk l (k + 1) = bk l k ++ [bkItem l k] := by simp [bk, List.range_succ]
theorem bk_le {l : List Int} {i j : Nat} (h : i ≤ j) : bk l i <+: bk l j := by
 obtain ⟨d, rfl⟩ := Nat.exists_eq_add_of_le h
 induction d with
 | zero => exact List.prefix_rfl
 | succ d ih => exact (ih (by omega)).trans (by rw [← Nat.add_assoc, bk_succ]; exact List.prefix_append _ _)
def BkRd (x : Nat × Int) (args : Array Value) (_ : World) : Prop := args = #[.int .i64 x.1, .int .i64 x.2]

theorem backward_any (a : Option Addr) (l : List Int) (c : Nat) (w : World) :
  Calls Tryz.prog 38 #[.slice a l.length c] w fun e w' => e = .returned (.func (.func 80) #[] #[.pointer (some ⟨w.heap.size, 0, none⟩)]) ∧ w.alloc (.cells #[.slice a l.length c] 27) = w' := by
 have hmf := run_mf Tryz.prog
 go_enter Tryz.func38, Tryz.ntmps38
 go_wp2
 go_ret
 exact ⟨rfl, rfl⟩

set_option maxRecDepth 100000 in
set_option maxHeartbeats 4000000 in
theorem backward1_gives (a : Option Addr) (l : List Int) (hl : l.length ≤ 1000000) (c g : Nat) (W : World) (hH : Box W g #[.slice a l.length c] 27) :
  GivesC Tryz.prog 80 #[.pointer (some ⟨g, 0, none⟩)] BkRd (bk l l.length) (fun C J => ∀ pre A, J pre A → Ints A a l ∧ ¬ C A g) W := by
 intro lp C J Jx hJ hJx hC1 hC2 hOk hY h0
 have hmf := run_mf Tryz.prog
 have HOK := Lib.hid hOk
 have HY := Lib.hid hY
 have H0 := Lib.hid h0
 have HH := Lib.hid hH
 have e1 := hH.cell
 clear hY hJ hJx hC1 hC2 hOk h0 hH
 have hw0 : IntKind.i64.wrap ((l.length : Int) - 1) = (l.length : Int) - 1 := IntWalk.i64_in _ (by omega)
 refine callsIn_of_wp Tryz.func80 rfl trivial ?_
 simp only [Tryz.ntmps80, List.size_toArray, List.length_cons, List.length_nil, Nat.reduceAdd, Nat.reduceSub, Array.replicate_succ, Array.replicate_zero, List.push_toArray, List.append_toArray, List.nil_append, List.cons_append]
 gi_wp2_with fail
 clear e1
 gi_loopw [3] (fun iv wr => ∃ k : Nat, k ≤ l.length ∧ iv = .int .i64 ((l.length : Int) - 1 - k) ∧ Box wr g #[.slice a l.length c] 27 ∧ J (bk l k) wr ∧ W.heap.size ≤ wr.heap.size) (fun iv _ => ((match iv with | .int _ i => i | _ => 0) + 1).toNat)
 case atStart => exact ⟨0, Nat.zero_le _, by simp, HH.out, H0.out, Nat.le_refl _⟩
 case round =>
  clear HH H0
  obtain ⟨k, hk, rfl, hH, hj, hsz⟩ := hrel
  by_cases hlt : k < l.length
  ·have hge : (0 : Int) ≤ (l.length : Int) - 1 - k := by omega
   have hlo : (l.length : Int) - 1 - k < (l.length : Int) := by omega
   have hnn : ¬ ((l.length : Int) - 1 - k < 0) := by omega
   have hto : ((l.length : Int) - 1 - k).toNat = l.length - 1 - k := by omega
   have hwr : IntKind.i64.wrap ((l.length : Int) - 1 - k - 1) = (l.length : Int) - 1 - k - 1 := IntWalk.i64_in _ (by omega)
   obtain ⟨hints, hnc⟩ := HOK.out _ _ hj
   obtain ⟨x, hx⟩ := get_of_lt l (k := l.length - 1 - k) (by omega)
   obtain ⟨b, o, rfl, hb⟩ := hints.base (by omega)
   have c1 := hb _ _ hx
   have e1 := hH.cell
   have hit : bkItem l k = (l.length - 1 - k, x) := by simp [bkItem, hx]
   have hpre : (bk l k ++ [(l.length - 1 - k, x)]) <+: bk l l.length := by rw [← hit, ← bk_succ]; exact bk_le hlt
   have hcast : ((l.length - 1 - k : Nat) : Int) = (l.length : Int) - 1 - k := by omega
   obtain ⟨fn, tmps, assign, body, hy1, hR1⟩ := HY.out _ (l.length - 1 - k, x) _ _ hj rfl hpre
   simp only [hcast] at hy1
   have HR1 := Lib.hid hR1
   have HH1 := Lib.hid hH
   have HNC := Lib.hid hnc
   have HPRE := Lib.hid hpre
   have HIT := Lib.hid hit
   clear hR1 hH hj hnc hpre hit hints hb hx
   gi_wp2_with fail
   refine HR1.out.mono ?_
   rintro e w2 (⟨rfl, hj2, hk2, hg2⟩ | ⟨rfl, hx2⟩)
   rotate_left
   ·clear HR1 hy1 e1 c1
    gi_wp2_with fail
    refine bodyPost_ret (results_none rfl _ _ _) rfl ?_
    exact ⟨⟨_, rfl⟩, .inr ⟨_, HPRE.out, hx2⟩⟩
   have hH2 := hk2.heap HNC.out HH1.out
   have hsz2 : W.heap.size ≤ w2.heap.size := Nat.le_trans hsz hk2.size
   have HH2 := Lib.hid (show Box w2 g #[.slice (some ⟨b, o, none⟩) l.length c] 27 from hH2)
   rw [← HIT.out, ← bk_succ] at hj2
   have HJ2 := Lib.hid hj2
   clear HR1 hy1 e1 c1 hj2 hk2 hg2 hH2
   gi_wp2_with fail
   refine ⟨⟨k + 1, by omega, by congr 1; omega, HH2.out, HJ2.out, hsz2⟩, ?_⟩
   show ((l.length : Int) - 1 - k - 1 + 1).toNat < ((l.length : Int) - 1 - k + 1).toNat
   omega
  ·have hneg : (l.length : Int) - 1 - k < 0 := by omega
   gi_wp2_with fail
   refine ⟨rfl, _, results_none rfl _ _ _, ?_⟩
   have hkn : k = l.length := by omega
   subst hkn
   exact ⟨⟨_, rfl⟩, .inl hj⟩
end Go.Proofs.YtpjcnkajimgagaaGreat
namespace Go.Proofs.YtpjcnkajimgagaaGreat
open Go.RowKit
attribute [local go_sem] Oper.semAt_some

def byVal (c : Cs) (x : Nat × Nat) : Int := if x.2 = 3 then c.by_ else match c.parts[x.1]? with
 | some p => if x.2 = 0 then p.span.lowBy else if x.2 = 1 then p.span.highBy else p.footBy
 | none => 0
theorem bysList_mem {n : Nat} {x : Nat × Nat} (h : x ∈ bysList n) : x = (n, 3) ∨ ∃ i, i < n ∧ (x = (i, 0) ∨ x = (i, 1) ∨ x = (i, 2)) := by
 unfold bysList bysTo partItems at h
 simp only [List.mem_append, List.mem_flatMap, List.mem_range, List.mem_cons, List.not_mem_nil, or_false] at h
 rcases h with ⟨i, hi, h⟩ | h
 ·exact .inr ⟨i, hi, h⟩
 ·exact .inl h
theorem by_cell {A : World} {c : Cs} {cb PB PO pc : Nat} {pa : Option Addr} (hb : Box A cb #[.string c.ware, .int .i64 c.limit, .int .i64 c.by_, .slice pa c.parts.length pc] 24) (hp : PartsAt A pa c.parts)
  (hpa : 0 < c.parts.length → pa = some ⟨PB, PO, none⟩) {x : Nat × Nat} (hx : x ∈ bysList c.parts.length) : A.cell? (byAddr PB PO cb x) = some (.int .i64 (byVal c x)) := by
 rcases bysList_mem hx with rfl | ⟨i, hi, hx⟩
 ·simp only [byAddr, byVal, if_true]
  rw [hb.cell]; rfl
 ·obtain ⟨p, hpi⟩ := get_of_lt c.parts hi
  obtain ⟨b, o, he, sa, sc, ra, rc, h1, _⟩ := hp i p hpi
  rw [hpa (by omega)] at he
  cases he
  rcases hx with rfl | rfl | rfl
  ·have := h1 3 (.int .i64 p.span.lowBy) rfl
   simpa [byAddr, byVal, byOff, hpi] using this
  ·have := h1 4 (.int .i64 p.span.highBy) rfl
   simpa [byAddr, byVal, byOff, hpi] using this
  ·have := h1 6 (.int .i64 p.footBy) rfl
   simpa [byAddr, byVal, byOff, hpi] using this
/-- the Ids as they stand in the case's words -/
def wordIds (c : Cs) : List Int := (bysList c.parts.length).map (byVal c)
end Go.Proofs.YtpjcnkajimgagaaGreat
namespace Go.Proofs.YtpjcnkajimgagaaGreat
open Go.RowKit

def hitB (gone : Int → Bool) (v : Int) : Bool := v != 0 && gone v
def clearP (j : Nat) (p : Prt) : Prt :=
 if j = 0 then { p with span := { p.span with low := 0, lowBy := 0 } } else if j = 1 then { p with span := { p.span with high := 1000, highBy := 0 } } else { p with foot := false, footBy := 0 }
def clearC (c : Cs) (x : Nat × Nat) : Cs := if x.2 = 3 then { c with limit := 0, by_ := 0 } else { c with parts := c.parts.modify x.1 (clearP x.2) }
def stepC (gone : Int → Bool) (c : Cs) (x : Nat × Nat) : Cs := if hitB gone (byVal c x) then clearC c x else c
def foldC (gone : Int → Bool) (c : Cs) (l : List (Nat × Nat)) : Cs := l.foldl (stepC gone) c
def woutC (gone : Int → Bool) (c : Cs) : Cs := foldC gone c (bysList c.parts.length)
theorem foldC_snoc (gone : Int → Bool) (c : Cs) (l : List (Nat × Nat)) (x : Nat × Nat) : foldC gone c (l ++ [x]) = stepC gone (foldC gone c l) x := by simp [foldC, List.foldl_append]
theorem clearC_len (c : Cs) (x : Nat × Nat) : (clearC c x).parts.length = c.parts.length := by unfold clearC; split <;> simp
theorem clearC_ware (c : Cs) (x : Nat × Nat) : (clearC c x).ware = c.ware := by unfold clearC; split <;> rfl
theorem stepC_len (gone : Int → Bool) (c : Cs) (x : Nat × Nat) : (stepC gone c x).parts.length = c.parts.length := by
 unfold stepC; split
 ·exact clearC_len c x
 ·rfl
theorem stepC_ware (gone : Int → Bool) (c : Cs) (x : Nat × Nat) : (stepC gone c x).ware = c.ware := by
 unfold stepC; split
 ·exact clearC_ware c x
 ·rfl
theorem foldC_len (gone : Int → Bool) : ∀ (l : List (Nat × Nat)) (c : Cs), (foldC gone c l).parts.length = c.parts.length
 | [], _ => rfl
 | x :: l, c => by
  show (foldC gone (stepC gone c x) l).parts.length = _
  rw [foldC_len gone l, stepC_len]
theorem foldC_ware (gone : Int → Bool) : ∀ (l : List (Nat × Nat)) (c : Cs), (foldC gone c l).ware = c.ware
 | [], _ => rfl
 | x :: l, c => by
  show (foldC gone (stepC gone c x) l).ware = _
  rw [foldC_ware gone l, stepC_ware]
theorem clearP_lists (j : Nat) (p : Prt) : (clearP j p).sherds = p.sherds ∧ (clearP j p).rests = p.rests := by
 unfold clearP; split
 ·exact ⟨rfl, rfl⟩
 ·split <;> exact ⟨rfl, rfl⟩

/-- the parts of a case of the call's own, their lists between PB and M -/
structure PartsB (B M : Nat) (w : World) (PB : Nat) (cells : Array Value) (l : List Prt) : Prop where
 box : Box w PB cells 52
 far : B + 2 ≤ PB
 one : ∀ i p, l[i]? = some p → PartIn w PB cells (fun b => PB < b ∧ b < M) i p
theorem PartsOwn.toB {B : Nat} {w : World} {PB n : Nat} {cells : Array Value} {l : List Prt} (h : PartsOwn B w PB cells n l) (hl : l.length = n) : PartsB B w.heap.size w PB cells l := by
 refine ⟨h.box, h.far, fun i p hp => ?_⟩
 have hi : i < n := by rw [← hl]; exact (List.getElem?_eq_some_iff.1 hp).1
 obtain ⟨sa, sc, ra, rc, e1, e2, e3, e4, e5, e6, e7⟩ := h.one i p hp
 refine ⟨sa, sc, ra, rc, e1, e2, e3, e4, e5, fun b o ha hl => ?_, fun b o ha hl => ?_⟩
 ·have := e6 b o ha hl; dsimp only at this; rw [if_pos hi] at this; exact ⟨this.1, this.2, ints_block e2 ha hl⟩
 ·have := e7 b o ha hl; dsimp only at this; rw [if_pos hi] at this; exact ⟨this.1, this.2, ints_block e3 ha hl⟩
theorem PartsB.toOwn {B B' M : Nat} {w : World} {PB n : Nat} {cells : Array Value} {l : List Prt} (h : PartsB B M w PB cells l) (hl : l.length = n) (hB : B' ≤ B) : PartsOwn B' w PB cells n l := by
 refine ⟨h.box, by have := h.far; omega, fun i p hp => ?_⟩
 have hi : i < n := by rw [← hl]; exact (List.getElem?_eq_some_iff.1 hp).1
 obtain ⟨sa, sc, ra, rc, e1, e2, e3, e4, e5, e6, e7⟩ := h.one i p hp
 refine ⟨sa, sc, ra, rc, e1, e2, e3, e4, e5, fun b o ha hl => ?_, fun b o ha hl => ?_⟩
 ·have := e6 b o ha hl; dsimp only at this ⊢; rw [if_pos hi]; exact ⟨this.1, this.2.1⟩
 ·have := e7 b o ha hl; dsimp only at this ⊢; rw [if_pos hi]; exact ⟨this.1, this.2.1⟩
/-- two cells of a part laid anew -/
def cellsW (cells : Array Value) (i a b : Nat) (v u : Value) : Array Value := (cells.setIfInBounds (i * 8 + a) v).setIfInBounds (i * 8 + b) u
theorem partsB_clear {B M : Nat} {W : World} {PB i a b : Nat} {cells : Array Value} {l : List Prt} {p p' : Prt} {v u : Value} {f : Prt → Prt} (h : PartsB B M W PB cells l) (hp : l[i]? = some p) (hf : f p = p')
  (hs : p'.sherds = p.sherds) (hr : p'.rests = p.rests) (ha : a < 8) (hb : b < 8) (hc : ∀ sa sc ra rc, prtCells p' sa sc ra rc = ((prtCells p sa sc ra rc).set a v).set b u) :
  PartsB B M ((W.setCell ⟨PB, i * 8 + a, none⟩ v).setCell ⟨PB, i * 8 + b, none⟩ u) PB (cellsW cells i a b v u) (l.modify i f) := by
 refine ⟨(h.box.set_ _ _).set_ _ _, h.far, fun j q hq => ?_⟩
 have far2 : ∀ {a' : Option Addr} {x : List Int}, Ints W a' x → (∀ b o, a' = some ⟨b, o, none⟩ → 0 < x.length → b ≠ PB) → Ints ((W.setCell ⟨PB, i * 8 + a, none⟩ v).setCell ⟨PB, i * 8 + b, none⟩ u) a' x :=
  fun hx hne => ints_far (ints_far hx hne _) hne _
 by_cases hij : j = i
 ·subst hij
  have : q = p' := by
   rw [List.getElem?_modify, hp] at hq
   have e : f p = q := by simpa using hq
   rw [← e, hf]
  subst this
  obtain ⟨sa, sc, ra, rc, e1, e2, e3, e4, e5, e6, e7⟩ := h.one j p hp
  refine ⟨sa, sc, ra, rc, fun k z hz => ?_, far2 (hs ▸ e2) (fun b o ha hl => (e6 b o ha (hs ▸ hl)).1), far2 (hr ▸ e3) (fun b o ha hl => (e7 b o ha (hr ▸ hl)).1), hs ▸ e4, hr ▸ e5, fun b o ha hl => e6 b o ha (hs ▸ hl), fun b o ha hl => e7 b o ha (hr ▸ hl)⟩
  rw [hc sa sc ra rc] at hz
  have hlen : ∀ j', j' < 8 → j * 8 + j' < cells.size := fun j' hj' => by
   obtain ⟨w, hw⟩ : ∃ w, (prtCells p sa sc ra rc)[j']? = some w := ⟨_, List.getElem?_eq_getElem (by rw [prt_len]; exact hj')⟩
   exact (Array.getElem?_eq_some_iff.1 (e1 _ _ hw)).1
  have hk8 : k < 8 := by have := (List.getElem?_eq_some_iff.1 hz).1; simpa [prt_len] using this
  unfold cellsW
  rw [List.getElem?_set] at hz
  rw [Array.getElem?_setIfInBounds]
  by_cases hbk : b = k
  ·subst hbk
   rw [if_pos rfl] at hz ⊢
   simp only [List.length_set, prt_len, if_pos hb] at hz
   rw [if_pos (by simpa using hlen b hb)]
   exact hz
  ·rw [if_neg hbk] at hz
   rw [if_neg (by omega), Array.getElem?_setIfInBounds]
   rw [List.getElem?_set] at hz
   by_cases hak : a = k
   ·subst hak
    rw [if_pos rfl] at hz ⊢
    rw [prt_len, if_pos ha] at hz
    rw [if_pos (hlen a ha)]
    exact hz
   ·rw [if_neg hak] at hz
    rw [if_neg (by omega)]
    exact e1 _ _ hz
 ·have hq' : l[j]? = some q := by
   rw [List.getElem?_modify] at hq
   have hij' : ¬ i = j := fun e => hij e.symm
   simpa [hij'] using hq
  obtain ⟨sa, sc, ra, rc, e1, e2, e3, e4, e5, e6, e7⟩ := h.one j q hq'
  refine ⟨sa, sc, ra, rc, fun k z hz => ?_, far2 e2 (fun b o ha hl => (e6 b o ha hl).1), far2 e3 (fun b o ha hl => (e7 b o ha hl).1), e4, e5, e6, e7⟩
  have hk8 : k < 8 := by have := (List.getElem?_eq_some_iff.1 hz).1; simpa [prt_len] using this
  unfold cellsW
  rw [Array.getElem?_setIfInBounds_ne (by omega), Array.getElem?_setIfInBounds_ne (by omega)]
  exact e1 _ _ hz
/-- the case that a call hands out: its parts are its own -/
def WoutPost (c' : Cs) (w : World) (e : Ending) (w' : World) : Prop :=
 ∃ PB pc' cells, e = .returned (.agg #[.string c'.ware, .int .i64 c'.limit, .int .i64 c'.by_, .slice (some ⟨PB, 0, none⟩) c'.parts.length pc']) ∧ c'.parts.length ≤ pc' ∧ PartsOwn w.heap.size w' PB cells c'.parts.length c'.parts ∧ Below w.heap.size w w'
/-- parts of one's own, read as parts -/
theorem PartsB.at_ {B M : Nat} {w : World} {PB : Nat} {cells : Array Value} {l : List Prt} (h : PartsB B M w PB cells l) : PartsAt w (some ⟨PB, 0, none⟩) l := fun i p hp => by
 obtain ⟨sa, sc, ra, rc, e1, e2, e3, e4, e5, e6, e7⟩ := h.one i p hp
 refine ⟨PB, 0, rfl, sa, sc, ra, rc, fun j v hv => ?_, e2, e3, e4, e5⟩
 rw [h.box.cell, Nat.zero_add]
 exact e1 j v hv
end Go.Proofs.YtpjcnkajimgagaaGreat
namespace Go.Proofs.YtpjcnkajimgagaaGreat
open Go.RowKit
attribute [local go_sem] Oper.semAt_some

/-- a predicate on Ids that is handed over -/
def GoneFn (K : Nat) (caps : Array Value) (gone : Int → Bool) (w : World) : Prop :=
 (∀ args W, (callFunc K args).run Tryz.prog W = .ok (.enter K args) W) ∧
 ∀ (n : Int) (W : World), Below w.heap.size w W → Calls Tryz.prog K (#[.int .i64 n] ++ caps) W fun e W' => e = .returned (.bool (gone n)) ∧ Below W.heap.size W W'
/-- a case of the call's own -/
def CaseSt (B M H PB pc n : Nat) (cs : Cs) (A : World) : Prop :=
 cs.parts.length = n ∧ Box A H #[.string cs.ware, .int .i64 cs.limit, .int .i64 cs.by_, .slice (some ⟨PB, 0, none⟩) n pc] 24 ∧ ∃ cells, PartsB B M A PB cells cs.parts
theorem PartsB.farH {B M : Nat} {w : World} {PB q o : Nat} {cells : Array Value} {l : List Prt} (h : PartsB B M w PB cells l) (hq : q < PB) (v : Value) : PartsB B M (w.setCell ⟨q, o, none⟩ v) PB cells l := by
 refine ⟨h.box.far (by simp; omega) _, h.far, fun i p hp => ?_⟩
 obtain ⟨sa, sc, ra, rc, e1, e2, e3, e4, e5, e6, e7⟩ := h.one i p hp
 exact ⟨sa, sc, ra, rc, e1, ints_far e2 (fun b o ha hl => by have := (e6 b o ha hl).2.1; simp; omega) _, ints_far e3 (fun b o ha hl => by have := (e7 b o ha hl).2.1; simp; omega) _, e4, e5, e6, e7⟩
theorem PartsB.keep {K : Nat → Prop} {B M : Nat} {w w' : World} {PB : Nat} {cells : Array Value} {l : List Prt} (h : PartsB B M w PB cells l) (hk : Keep K w w') (hPB : K PB) (hK : ∀ b, PB < b → b < M → K b) : PartsB B M w' PB cells l := by
 refine ⟨hk.heap hPB h.box, h.far, fun i p hp => ?_⟩
 obtain ⟨sa, sc, ra, rc, e1, e2, e3, e4, e5, e6, e7⟩ := h.one i p hp
 have keepI : ∀ {a : Option Addr} {x : List Int}, Ints w a x → (∀ b o, a = some ⟨b, o, none⟩ → 0 < x.length → K b) → Ints w' a x := fun {a x} hx hb k u hu => by
  obtain ⟨b, o, ha, hc⟩ := hx k u hu
  have hl : 0 < x.length := by have := (List.getElem?_eq_some_iff.1 hu).1; simp at this; omega
  exact ⟨b, o, ha, hk.cell (hb b o ha hl) hc⟩
 exact ⟨sa, sc, ra, rc, e1, keepI e2 (fun b o ha hl => hK b (e6 b o ha hl).2.1 (e6 b o ha hl).2.2), keepI e3 (fun b o ha hl => hK b (e7 b o ha hl).2.1 (e7 b o ha hl).2.2), e4, e5, e6, e7⟩
theorem PartsB.below {B M : Nat} {w w' : World} {PB : Nat} {cells : Array Value} {l : List Prt} (h : PartsB B M w PB cells l) (hb : Below w.heap.size w w') : PartsB B M w' PB cells l := h.keep (K := fun _ => True) (Keep.of_below' hb) trivial (fun _ _ _ => trivial)
theorem PartsB.cellAt {B M : Nat} {w : World} {PB : Nat} {cells : Array Value} {l : List Prt} (h : PartsB B M w PB cells l) {i : Nat} {p : Prt} (hp : l[i]? = some p) :
  ∃ sa sc ra rc, ∀ j v, (prtCells p sa sc ra rc)[j]? = some v → w.cell? ⟨PB, i * 8 + j, none⟩ = some v := by
 obtain ⟨sa, sc, ra, rc, e1, _⟩ := h.one i p hp
 exact ⟨sa, sc, ra, rc, fun j v hv => by rw [h.box.cell]; exact e1 j v hv⟩
theorem PartsB.drew {B M : Nat} {w : World} {PB : Nat} {cells : Array Value} {l : List Prt} (h : PartsB B M w PB cells l) : PartsB B M w.drew PB cells l := ⟨h.box, h.far, h.one⟩

theorem clear_state {B M H PB pc n g : Nat} {cs : Cs} {x : Nat × Nat} {A : World} (hx : x ∈ bysList n) (hHB : H < B) (hst : CaseSt B M H PB pc n cs A) (hg : Box A g #[.pointer (some (byBase PB 0 H x))] (byTy x)) (hgn : g ≠ H ∧ g ≠ PB) :
  Calls Tryz.prog (byFn x) #[.pointer (some ⟨g, 0, none⟩)] A fun e A' => e = .returned (.tuple #[]) ∧ CaseSt B M H PB pc n (clearC cs x) A' ∧ Keep (fun k => k ≠ H ∧ k ≠ PB) A A' := by
 obtain ⟨hn, hb, cells, hpo⟩ := hst
 have hfar := hpo.far
 rcases bysList_mem hx with rfl | ⟨i, hi, hx⟩
 ·refine (clear4_any g H 0 _ _ A hg (fun e => hgn.1 e.symm) (hb.cell 1) (hb.frozen 1) (hb.cell 2) (hb.frozen 2)).mono ?_
  rintro e A' ⟨rfl, rfl⟩
  refine ⟨rfl, ⟨?_, ?_, cells, ?_⟩, (((Keep.refl _ A).drew).setCell (.inl (by simp)) _).setCell (.inl (by simp)) _⟩
  ·simp [clearC, hn]
  ·have := (hb.drew.set_ 1 (.int .i64 0)).set_ 2 (.int .i64 0)
   simpa [clearC] using this
  ·have : (clearC cs (n, 3)).parts = cs.parts := by simp [clearC]
   rw [this]
   exact ((hpo.drew.farH (by omega) _).farH (by omega) _)
 ·obtain ⟨p, hp⟩ := get_of_lt cs.parts (k := i) (by omega)
  obtain ⟨sa, sc, ra, rc, hc⟩ := hpo.cellAt hp
  have kk : ∀ o1 v1 o2 v2, Keep (fun k => k ≠ H ∧ k ≠ PB) A ((A.drew.setCell ⟨PB, o1, none⟩ v1).setCell ⟨PB, o2, none⟩ v2) := fun o1 v1 o2 v2 => (((Keep.refl _ A).drew).setCell (.inl (by simp)) _).setCell (.inl (by simp)) _
  have fr := fun j => hpo.box.frozen j
  have hbb : ∀ o1 v1 o2 v2, Box ((A.drew.setCell ⟨PB, o1, none⟩ v1).setCell ⟨PB, o2, none⟩ v2) H _ _ := fun o1 v1 o2 v2 => ((hb.drew.far (p := ⟨PB, o1, none⟩) (by simp; omega) v1).far (p := ⟨PB, o2, none⟩) (by simp; omega) v2)
  rcases hx with rfl | rfl | rfl
  ·have hg' : Box A g #[.pointer (some ⟨PB, i * 8, none⟩)] 163 := by simpa [byBase, byTy] using hg
   refine (clear1_any g PB (i * 8) _ _ A hg' (fun e => hgn.2 e.symm) (hc 1 _ rfl) (fr _) (hc 3 _ rfl) (fr _)).mono ?_
   rintro e A' ⟨rfl, rfl⟩
   exact ⟨rfl, ⟨by simp [clearC, hn], by simpa [clearC] using hbb _ _ _ _, _, by simpa [clearC] using partsB_clear (a := 1) (b := 3) (v := .int .i64 0) (u := .int .i64 0) hpo.drew hp (f := clearP 0) rfl (clearP_lists 0 p).1 (clearP_lists 0 p).2 (by omega) (by omega) (fun _ _ _ _ => rfl)⟩, kk _ _ _ _⟩
  ·have hg' : Box A g #[.pointer (some ⟨PB, i * 8, none⟩)] 163 := by simpa [byBase, byTy] using hg
   refine (clear2_any g PB (i * 8) _ _ A hg' (fun e => hgn.2 e.symm) (hc 2 _ rfl) (fr _) (hc 4 _ rfl) (fr _)).mono ?_
   rintro e A' ⟨rfl, rfl⟩
   exact ⟨rfl, ⟨by simp [clearC, hn], by simpa [clearC] using hbb _ _ _ _, _, by simpa [clearC] using partsB_clear (a := 2) (b := 4) (v := .int .i64 1000) (u := .int .i64 0) hpo.drew hp (f := clearP 1) rfl (clearP_lists 1 p).1 (clearP_lists 1 p).2 (by omega) (by omega) (fun _ _ _ _ => rfl)⟩, kk _ _ _ _⟩
  ·have hg' : Box A g #[.pointer (some ⟨PB, i * 8, none⟩)] 163 := by simpa [byBase, byTy] using hg
   refine (clear3_any g PB (i * 8) _ _ A hg' (fun e => hgn.2 e.symm) (hc 5 _ rfl) (fr _) (hc 6 _ rfl) (fr _)).mono ?_
   rintro e A' ⟨rfl, rfl⟩
   exact ⟨rfl, ⟨by simp [clearC, hn], by simpa [clearC] using hbb _ _ _ _, _, by simpa [clearC] using partsB_clear (a := 5) (b := 6) (v := .bool false) (u := .int .i64 0) hpo.drew hp (f := clearP 2) rfl (clearP_lists 2 p).1 (clearP_lists 2 p).2 (by omega) (by omega) (fun _ _ _ _ => rfl)⟩, kk _ _ _ _⟩
theorem byFn_enters (x : Nat × Nat) : ∀ args W, (callFunc (byFn x) args).run Tryz.prog W = .ok (.enter (byFn x) args) W := by
 unfold byFn
 split
 ·exact enters_of Tryz.func113 (by kernel_rfl) rfl
 ·exact enters_of Tryz.func114 (by kernel_rfl) rfl
 ·exact enters_of Tryz.func115 (by kernel_rfl) rfl
 ·exact enters_of Tryz.func116 (by kernel_rfl) rfl
/-- what the case's Ids read as while it is turned -/
theorem by_cell_st {B M H PB pc n : Nat} {cs : Cs} {x : Nat × Nat} {A : World} (hx : x ∈ bysList n) (hst : CaseSt B M H PB pc n cs A) : A.cell? (byAddr PB 0 H x) = some (.int .i64 (byVal cs x)) := by
 obtain ⟨hn, hb, cells, hpo⟩ := hst
 subst hn
 exact by_cell hb hpo.at_ (fun _ => rfl) hx
end Go.Proofs.YtpjcnkajimgagaaGreat
