/- Package profile: Wares. No condition. -/
import Derived.Test.YthpjffhccjlnhaaGreatDoorGWareP
import Derived.Test.YthpjffhccjlnhaaGreatDoorStr
import Derived.Test.YthpjffhccjlnhaaGreatDoorMG11
set_option linter.unusedSimpArgs false
set_option linter.unusedVariables false
namespace Go.Proofs.YthpjffhccjlnhaaGreatDoor
open Go.RowKit
attribute [local go_sem] Oper.semAt_some

open Go.Sort in
theorem enc_bl (x : ByteArray) : encStr (bl x) = Value.string x := by
 show Value.string ⟨(bl x).toArray⟩ = _
 simp [bl]
open Go.Sort in
theorem holds_ownS {B : Nat} {w : World} {g : Nat} {l : List BL} (h : RowOwn B w (some ⟨g, 0, none⟩) (l.map encStr)) : Go.Sort.Holds encStr w g 0 l.toArray := fun j hj => by
 have hj' : j < l.length := by simpa using hj
 obtain ⟨b, o, e, _, h1, h2⟩ := h j (encStr l[j]) (by simp [hj'])
 cases e
 refine ⟨?_, h2⟩
 rw [h1]
 simp [hj']
open Go.Sort in
theorem own_holdsS {B : Nat} {w : World} {g : Nat} {l m : List BL} (hB : B ≤ g) (h : Go.Sort.Holds encStr w g 0 l.toArray) (hm : ∀ (k : Nat) (x : BL), m[k]? = some x → l[k]? = some x) : RowOwn B w (some ⟨g, 0, none⟩) (m.map encStr) := fun k v hv => by
 rw [List.getElem?_map] at hv
 obtain ⟨x, hx, rfl⟩ := Option.map_eq_some_iff.1 hv
 have hl := hm k x hx
 have hk : k < l.length := (List.getElem?_eq_some_iff.1 hl).1
 obtain ⟨h1, h2⟩ := h k (by simpa using hk)
 refine ⟨g, 0, rfl, hB, ?_, h2⟩
 rw [h1]
 have : l[k] = x := by rw [List.getElem?_eq_getElem hk] at hl; exact Option.some.inj hl
 simp [hk, this]
open Go.Sort in
theorem below_putRowS {B : Nat} {a w : World} (h : Below B a w) {g o : Nat} (hB : B ≤ g) (d : Array BL) : Below B a (putRow encStr w g o d) :=
 h.trans ⟨rfl, rfl, rfl, by simp [putRow, mapBlock], fun k hk => by simp only [putRow, mapBlock, Array.getElem?_modify]; rw [if_neg (by omega)]⟩
open Go.Sort in
theorem below_aheadS {B : Nat} {a w : World} (h : Below B a w) (n : Nat) : Below B a (Sort.ahead w n) :=
 h.trans ⟨rfl, rfl, rfl, Nat.le_refl _, fun _ _ => rfl⟩
open Go.Sort in
theorem below_growS {B : Nat} {a w : World} (h : Below B a w) (hB : B ≤ w.heap.size) (os : Array Obj) : Below B a (grow w os) :=
 h.trans ⟨rfl, rfl, rfl, by simp [grow], fun k hk => heap_grow_old _ _ (by omega)⟩
open Go.Sort in
theorem sort_ownS {B g cap : Nat} {l : List BL} {w : World} (hr : RowOwn B w (some ⟨g, 0, none⟩) (l.map encStr)) (hB : B ≤ g) (hgs : g < w.heap.size) (hl : l.length ≤ 1000000) :
  Calls Tryz.prog 123 #[.slice (some ⟨g, 0, none⟩) l.length cap] w fun e w' => e = .returned (.tuple #[]) ∧ RowOwn B w' (some ⟨g, 0, none⟩) ((sortS l).map encStr) ∧ g < w'.heap.size ∧ Below B w w' := by
 refine (Tryz.slices_Sort_string g 0 cap l w (holds_ownS hr) hgs (by omega)).mono ?_
 rintro e w' ⟨rfl, n, os, rfl⟩
 have hb : Below B w (grow (putRow encStr (Sort.ahead w n) g 0 (l.mergeSort fun x y => decide (x ≤ y)).toArray) os) :=
  below_growS (below_putRowS (below_aheadS (Below.refl _ w) n) hB _) (by simp [putRow, mapBlock, Sort.ahead]; omega) os
 refine ⟨rfl, own_holdsS hB (holds_grow _ _ _ _ _ _ (by simp [putRow, mapBlock, Sort.ahead]; omega) (holds_putRow _ _ _ _ _ _ (holds_ahead _ _ n _ _ _ (holds_ownS hr)) (by simp))) (fun _ _ h => h), Nat.lt_of_lt_of_le hgs hb.size, hb⟩
open Go.Sort in
theorem compact_ownS {B g cap m : Nat} {l : List BL} {w : World} (hm : m = l.length) (hr : RowOwn B w (some ⟨g, 0, none⟩) (l.map encStr)) (hB : B ≤ g) (hgs : g < w.heap.size) (hl : l.length ≤ 1000000) (hc : l.length ≤ cap) :
  Calls Tryz.prog 124 #[.slice (some ⟨g, 0, none⟩) m cap] w fun e w' => e = .returned (.slice (some ⟨g, 0, none⟩) (Lib.compact l).length cap) ∧ RowOwn B w' (some ⟨g, 0, none⟩) ((Lib.compact l).map encStr) ∧ g < w'.heap.size ∧ Below B w w' := by
 subst hm
 refine (Tryz.slices_Compact_string g 0 cap l w (holds_ownS hr) (by omega) hc).mono ?_
 rintro e w' ⟨rfl, n, rfl⟩
 have hle : (Lib.compact l).length ≤ l.length := by
  have h := List.length_filter_le (Lib.keeps l.toArray) (List.range l.length)
  simpa [Lib.compact, Lib.compactUpTo] using h
 refine ⟨rfl, own_holdsS hB (holds_putRow _ _ _ _ _ _ (holds_ahead _ _ n _ _ _ (holds_ownS hr)) (by simp; omega)) (fun k x hk => ?_), ?_, below_putRowS (below_aheadS (Below.refl _ w) n) hB _⟩
 ·rw [List.getElem?_append_left (List.getElem?_eq_some_iff.1 hk).1]
  exact hk
 ·have hb := below_putRowS (below_aheadS (Below.refl B w) n) (o := 0) hB (Lib.compact l ++ List.replicate (l.length - (Lib.compact l).length) []).toArray
  exact Nat.lt_of_lt_of_le hgs hb.size
/-! the empty list -/
theorem len64_nil (w : World) : Calls Tryz.prog 175 #[.int .u64 0] w fun e w' => e = .returned (.int .i64 0) ∧ w' = w := by
 go_enter Tryz.func175, Tryz.ntmps175
 go_wp2_with fail
 have h0 : wrap64 (wrap64 (Lib.len8 0)) = 0 := by kernel_rfl
 simp only [h0]
 go_ret
 exact ⟨rfl, rfl⟩
theorem lenBits_nil (w : World) : Calls Tryz.prog 152 #[.int .u64 0] w fun e w' => e = .returned (.int .i64 0) ∧ w' = w := by
 go_enter Tryz.func152, Tryz.ntmps152
 go_wp2_with (refine (len64_nil w).mono ?_)
 rintro e w2 ⟨rfl, rfl⟩
 go_wp2_with fail
 go_ret
 exact ⟨rfl, rfl⟩
theorem ins_nil (w : World) : Calls Tryz.prog 165 #[.slice none 0 0, .int .i64 0, .int .i64 0] w fun e w' => e = .returned (.tuple #[]) ∧ w' = w := by
 go_enter Tryz.func165, Tryz.ntmps165
 go_wp2_with fail
 go_loopw [6, 7] (fun iv _ wr => iv = .int .i64 1 ∧ w = wr) (fun _ _ _ => 0)
 case atStart => exact ⟨rfl, rfl⟩
 case round =>
  obtain ⟨rfl, rfl⟩ := hrel
  go_wp2_with fail
  exact bodyPost_end (v := .tuple #[]) (by simp [results, go_sem]) rfl ⟨rfl, rfl⟩
theorem pdq_nil (w : World) : Calls Tryz.prog 151 #[.slice none 0 0, .int .i64 0, .int .i64 0, .int .i64 0] w fun e w' => e = .returned (.tuple #[]) ∧ w' = w := by
 go_enter Tryz.func151, Tryz.ntmps151
 go_upto_region 2 with fail
 go_loopw [1, 2, 3, 8, 9, 10, 11, 12, 13, 14, 15, 16, 17, 18] (fun av bv lv _ _ _ _ _ _ _ _ _ _ _ wr => av = .int .i64 0 ∧ bv = .int .i64 0 ∧ lv = .int .i64 0 ∧ w = wr) (fun _ _ _ _ _ _ _ _ _ _ _ _ _ _ _ => 0)
 case atStart => exact ⟨rfl, rfl, rfl, rfl⟩
 case round =>
  obtain ⟨rfl, rfl, rfl, rfl⟩ := hrel
  go_wp2_with (refine (ins_nil w).mono ?_)
  rintro e w2 ⟨rfl, rfl⟩
  go_wp2_with fail
  exact bodyPost_ret (v := .tuple #[]) (by simp [results, go_sem]) rfl ⟨rfl, rfl⟩
theorem sort_nil (w : World) : Calls Tryz.prog 123 #[.slice none 0 0] w fun e w' => e = .returned (.tuple #[]) ∧ w' = w := by
 go_enter Tryz.func123, Tryz.ntmps123
 go_wp2_with (refine (lenBits_nil w).mono ?_)
 rintro e w2 ⟨rfl, rfl⟩
 go_wp2_with (refine (pdq_nil _).mono ?_)
 rintro e w2 ⟨rfl, rfl⟩
 go_wp2_with fail
 exact bodyPost_end (v := .tuple #[]) (by simp [results, go_sem]) rfl ⟨rfl, rfl⟩
theorem compact_nil (w : World) : Calls Tryz.prog 124 #[.slice none 0 0] w fun e w' => e = .returned (.slice none 0 0) ∧ w' = w := by
 go_enter Tryz.func124, Tryz.ntmps124
 go_wp2_with fail
 go_ret
 exact ⟨rfl, rfl⟩
def waresT (l : List Typ) : List ByteArray := (waresL (l.map fun t => bl t.ware)).map mkB
open Go.Sort in
theorem enc_map (A : List ByteArray) : A.map Value.string = (A.map bl).map encStr := by
 rw [List.map_map]
 exact List.map_congr_left fun x _ => (enc_bl x).symm
def wareV (l : List Typ) (k : Nat) : List Value := (l.take k).map fun t => .string t.ware
theorem wareV_succ {l : List Typ} {k : Nat} {t : Typ} (h : l[k]? = some t) : wareV l (k + 1) = wareV l k ++ [.string t.ware] := by
 unfold wareV
 rw [List.take_add_one, h, List.map_append]; rfl
def WaresPost (l : List Typ) (w : World) (e : Ending) (w' : World) : Prop := ∃ fa fc, e = .returned (.slice fa (waresT l).length fc) ∧ RowOwn w.heap.size w' fa ((waresT l).map Value.string) ∧ Below w.heap.size w w'
theorem waresT_nil : waresT [] = [] := by
 have : waresL [] = [] := waresL_eq (l := []) (k := []) List.Pairwise.nil (fun _ => Iff.rfl)
 unfold waresT
 rw [List.map_nil, this]; rfl
set_option maxRecDepth 100000 in
set_option maxHeartbeats 2000000 in
theorem waresP_any (a : Option Addr) (c : Nat) (l : List Typ) (w : World) (h : TypesAt w a l) (hl : l.length ≤ 100000) :
  Calls Tryz.prog 65 #[.slice a l.length c] w (WaresPost l w) := by
 have HM := Lib.hid h
 clear h
 go_enter Tryz.func65, Tryz.ntmps65
 go_wp2_with fail
 go_loopw [3, 5, 8] (fun ov _ iv wr => ∃ k : Nat, k ≤ l.length ∧ iv = .int .i64 k ∧ wr.ownsRow w.heap.size 9 1 ov k (wareV l k) ∧ Below w.heap.size w wr) (fun _ _ iv _ => l.length - (intOf iv).toNat)
 case atStart => exact ⟨0, Nat.zero_le _, rfl, ownsRow_nil _ _ _ _, Below.refl _ _⟩
 case round =>
  obtain ⟨k, hk, rfl, ho, hb⟩ := hrel
  have HO := Lib.hid ho
  have HB := Lib.hid hb
  clear ho hb
  by_cases hlt : k < l.length
  ·obtain ⟨t, ht⟩ : ∃ t, l[k]? = some t := ⟨l[k], by simp [hlt]⟩
   obtain ⟨b, o, rfl, hat⟩ := (HM.out.below HB.out) k t ht
   have HT := Lib.hid ht
   have hki : (k : Int) < (l.length : Int) := by omega
   have hk0 : (0 : Int) ≤ (k : Int) := by omega
   have HL := Lib.hid hat.load
   obtain ⟨wq, hwq⟩ : ∃ wq, wr.alloc (.cells (typCells typ0) 71) = wq := ⟨_, rfl⟩
   have bq : Box wq wr.heap.size (typCells typ0) 71 := by rw [← hwq]; exact Box.new _ _ _
   have hbq : Below wr.heap.size wr wq := by rw [← hwq]; go_grown
   obtain ⟨w6, hst, hw6⟩ := run_store_all (P := Tryz.prog) agg_typ bq (typF t) (fun j _ => typF_one _ j)
   have hb6 : Below wr.heap.size wr w6 := hw6.below hbq (Nat.le_refl _)
   have c1 := (Box.typ hw6.box).fields.2.1
   simp only [Nat.zero_add] at c1
   have hsz : w.heap.size ≤ w6.heap.size := by have := HB.out.size; have := hb6.size; omega
   have hbs := run_bslice (P := Tryz.prog) (T := 85) Tryz.underlying85 info_str2 (by omega) (by omega) (v := .string t.ware) (g := fun _ => .string t.ware) rfl w6
   obtain ⟨v', U, hrun, hown, hbU, -, -⟩ := app_fn (P := Tryz.prog) (TT := 85) Tryz.underlying85 info_str rfl (by omega) (by omega) (ownsRow_keep HO.out (Keep.of_below' (K := fun _ => True) hb6) (fun _ _ => trivial)) (by omega) hsz (fun _ => .string t.ware) (fun j _ => rfl)
   have HWQ := Lib.hid hwq
   have HST := Lib.hid hst
   have HBS := Lib.hid hbs
   have HRUN := Lib.hid hrun
   have HN := Lib.hid (show U.ownsRow w.heap.size 9 1 v' (k + 1) (wareV l (k + 1)) by rw [wareV_succ HT.out]; exact hown)
   have HBU := Lib.hid ((HB.out.trans (hb6.mono HB.out.size)).trans hbU)
   clear hat bq hbq hst hw6 hb6 hsz hbs hrun hown hbU hwq ht
   go_wp2_with (first
    | (refine wpList_load_box rfl 71 _ rfl rfl HL.out ?_)
    | (simp only [ztyp, HWQ.out]; refine wpList_store_box rfl 71 _ _ rfl rfl rfl HST.out ?_)
    | (apply wpList_bsl (T := 85) (n := 1) (hr := HBS.out); (· rfl); (· (simp only [List.map_toArray, List.map_cons, List.map_nil]; rfl)))
    | (at_builtin; refine wpList_app rfl _ _ _ rfl rfl rfl HRUN.out ?_))
   go_roundw
   case rel => exact ⟨k + 1, by omega, by go_num, HN.out, HBU.out⟩
   case measure => simp [intOf]; omega
  ·have hkn : decide ((k : Int) < (l.length : Int)) = false := by simp; omega
   have hke : k = l.length := by omega
   have ho := HO.out
   rw [hke] at ho
   have hrw : wareV l l.length = (l.map fun t => bl t.ware).map encStr := by
    unfold wareV
    rw [List.take_length, List.map_map]
    exact List.map_congr_left fun t _ => (enc_bl t.ware).symm
   rw [hrw] at ho
   clear hrw hke
   rcases Go.Joins.ownsRow_forms ho with ⟨hv, hn⟩ | ⟨g, cap, hv⟩
   ·have HNIL := Lib.hid (show l = [] from List.length_eq_zero_iff.1 hn)
    subst hv
    clear hn ho HO
    go_wp2_with (refine (sort_nil _).mono ?_)
    rintro e w2 ⟨rfl, rfl⟩
    go_wp2_with (refine (compact_nil _).mono ?_)
    rintro e w2 ⟨rfl, rfl⟩
    go_wp2_with fail
    go_ret
    exact ⟨none, 0, by rw [HNIL.out, waresT_nil]; rfl, by rw [HNIL.out, waresT_nil]; exact RowOwn.nil _ _ _, HB.out⟩
   ·subst hv
    obtain ⟨a', c', he, hro, hcap⟩ := ownsRow_own ho
    cases he
    have hg := ho.lt g rfl
    have hs := sort_ownS (cap := cap) hro hg.1 hg.2 (by rw [List.length_map]; omega)
    rw [List.length_map] at hs
    have HS := Lib.hid hs
    have HG := Lib.hid hg.1
    have HCAP := Lib.hid hcap
    clear hs hro hcap ho HO hg
    go_wp2_with (refine HS.out.mono ?_)
    rintro e w2 ⟨rfl, hro, hg2, hb2⟩
    have HC := Lib.hid (compact_ownS (cap := cap) (m := l.length) (by rw [sortS_len, List.length_map]) hro HG.out hg2 (by rw [sortS_len, List.length_map]; omega) (by rw [sortS_len, List.length_map]; exact HCAP.out))
    have HB2 := Lib.hid (HB.out.trans hb2)
    clear hro hg2 hb2 HS
    go_wp2_with (refine HC.out.mono ?_)
    rintro e w3 ⟨rfl, hro, hg3, hb3⟩
    have HB3 := Lib.hid (HB2.out.trans hb3)
    have HRO := Lib.hid hro
    clear hro hg3 hb3 HC
    go_wp2_with fail
    go_ret
    refine ⟨some ⟨g, 0, none⟩, cap, ?_, ?_, HB3.out⟩
    ·unfold waresT
     rw [List.length_map]; rfl
    ·have h := HRO.out
     unfold waresT
     rw [List.map_map]; exact h
end Go.Proofs.YthpjffhccjlnhaaGreatDoor
