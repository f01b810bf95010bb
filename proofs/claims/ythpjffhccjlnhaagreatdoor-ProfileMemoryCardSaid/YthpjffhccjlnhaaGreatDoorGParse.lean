/- Package profile: ParseTypes of a source that has its form. No condition. -/
import Derived.Test.YthpjffhccjlnhaaGreatDoorMG16
import Derived.Test.YthpjffhccjlnhaaGreatDoorMG6
set_option linter.unusedSimpArgs false
set_option linter.unusedVariables false
namespace Go.Proofs.YthpjffhccjlnhaaGreatDoor
open Go.RowKit
attribute [local go_sem] Oper.semAt_some

theorem typeB_sml {t : Typ} (h : typeB t = true) : SmlT t := by
 simp only [typeB, Bool.and_eq_true, Bool.not_eq_true', List.any_eq_false] at h
 obtain ⟨⟨⟨⟨⟨⟨⟨⟨h1, h2⟩, h3⟩, h4⟩, h5⟩, h6⟩, h7⟩, h8⟩, h9⟩ := h
 simp only [isNameB, inB, Bool.and_eq_true, decide_eq_true_eq] at h1 h2
 have l1 := set_len h7
 have l2 := set_len h8
 rw [bl_len] at l1 l2
 refine ⟨by omega, by omega, by omega, by omega, fun c hc => ?_⟩
 have := h9 (t.after c) (List.mem_map.2 ⟨c, by simpa using hc, rfl⟩)
 have l3 := set_len (l := bl (t.after c)) (by simpa using this)
 rw [bl_len] at l3
 omega
theorem types_sml {l : List Typ} (h : typesErr l = 0) : ∀ t, t ∈ l → SmlT t := fun t ht => by
 obtain ⟨i, hi⟩ := List.getElem?_of_mem ht
 exact typeB_sml ((typesErr_good h).2 i t hi)
theorem typsV_at (l : List Typ) (k : Nat) (t : Typ) (ht : l[k]? = some t) (j : Nat) (hj : j < 32) : (typsV l)[k * 32 + j]? = some (typF t j) := by
 obtain ⟨hk, e⟩ := List.getElem?_eq_some_iff.1 ht
 have e2 : l = l.take k ++ (t :: l.drop (k + 1)) := by rw [← e, List.getElem_cons_drop hk, List.take_append_drop]
 rw [e2]
 have e3 : typsV (l.take k ++ (t :: l.drop (k + 1))) = typsV (l.take k) ++ ((typCells t).toList ++ typsV (l.drop (k + 1))) := by simp [typsV]
 have e4 : (typsV (l.take k)).length = k * 32 := by rw [typsV_len, List.length_take]; congr 1; omega
 rw [e3, List.getElem?_append_right (by omega), e4, Nat.add_sub_cancel_left, List.getElem?_append_left (by rw [Array.length_toList, typCells, fnCells_size]; omega), Array.getElem?_toList, typCells, fnCells_get hj]
theorem types_of_row {w : World} {base : Nat} {v : Value} {l : List Typ} (h : w.ownsRow base 71 32 v l.length (typsV l)) : ∃ a c, v = .slice a l.length c ∧ TypesAt w a l ∧ l.length ≤ c ∧ ∀ b o, a = some ⟨b, o, none⟩ → base ≤ b := by
 obtain ⟨a, c, rfl, hr, hc⟩ := ownsRow_own h
 refine ⟨a, c, rfl, fun k t ht => ?_, hc, fun b o e => ?_⟩
 ·obtain ⟨b, o, ha, _⟩ := hr.row (k * 32 + 0) _ (typsV_at l k t ht 0 (by omega))
  refine ⟨b, o, ha, fun j hj => ?_⟩
  obtain ⟨b', o', ha', hcell⟩ := hr.row (k * 32 + j) _ (typsV_at l k t ht j hj)
  rw [ha] at ha'; cases ha'
  rw [Nat.add_assoc]; exact hcell
 ·subst e
  rcases h.2 with ⟨h1, _⟩ | ⟨g, cap, cur, h1, hb, _⟩
  ·cases h1
  ·cases h1; exact hb
theorem index_head (b : UInt8) (r : List UInt8) (W : World) : (Instr.index 9 (.string (mkB (b :: r))) (.int .i64 0)).run Tryz.prog W = .ok (.int .u8 b.toNat) W := by
 simp [Instr.index, mkB]
 go_simp
 rfl
def flt0 : Array Value := #[.int .i64 0, .int .i64 0]
def parseOk (l : List Typ) (a : Option Addr) (c : Nat) : Value := .tuple #[.slice a l.length c, .agg flt0]
theorem splitC_num (c : UInt8) : ∀ l : List UInt8, (splitC c l).length ≤ l.length + 1
 | [] => by simp [splitC]
 | a :: l => by
  have := splitC_num c l
  unfold splitC
  split
  ·simp; omega
  ·split
   ·simp
   ·rename_i w ws he; rw [he] at this; simp at this ⊢; omega
theorem results_tmp_cell {P : Program} {fn : Func} {t u : Tmp} {ty : TypeId} (h : fn.results = #[.tmp t, .cell u ty]) {tmps : Array Value} {w : World} {p : Addr} {x : Value} (hp : tmps.getD u undef = .pointer (some p))
  (hr : (loadVar ty p).run P w = .ok x w) : (results fn tmps).run P w = .ok (.tuple #[tmps.getD t undef, x]) w := by
 have hp' : tmps[u]?.getD undef = .pointer (some p) := by simpa using hp
 simp [results, h, hp', asAddr, hr]
theorem loadv_flt {w : World} {b : Nat} (h : Box w b flt0 27) : (loadVar 27 ⟨b, 0, none⟩).run Tryz.prog w = .ok (.agg flt0) w := by
 unfold flt0 at h
 have c0 := h.cell 0
 have c1 := h.cell 1
 simp at c0 c1
 go_simp
 rfl
theorem TypesAt.keep' {K : Nat → Prop} {w w' : World} {a : Option Addr} {l : List Typ} (h : TypesAt w a l) (hk : Keep K w w') (hK : ∀ b o, a = some ⟨b, o, none⟩ → K b) : TypesAt w' a l := fun k t ht => by
 obtain ⟨b, o, ha, h1⟩ := h k t ht; exact ⟨b, o, ha, h1.keep hk (hK b o ha)⟩
theorem head_blank {l : List UInt8} (h : blankLine l = true) : l = [] ∨ ∃ r, l = 35 :: r := by
 rcases l with _ | ⟨b, r⟩
 ·exact .inl rfl
 ·simp [blankLine] at h; exact .inr ⟨r, by rw [h]⟩
structure PsSt (rb lb base z : Nat) (ls : List (List UInt8)) (v : Value) (st : RdSt) (w W : World) : Prop where
 rd : RdAt W rb base v st
 ws : WordsAt W lb ls
 flt : Box W z flt0 27
 bel : Below w.heap.size w W
 siz : base ≤ W.heap.size
 nl : v.ownBlock ≠ some lb
 nz : v.ownBlock ≠ some z
set_option maxRecDepth 100000 in
set_option maxHeartbeats 4000000 in
theorem parse_good (src : ByteArray) (hsz : src.size ≤ 20000) (st : RdSt) (h : readAll 0 ⟨[], 0, 0⟩ (splitC 10 (bl src)) = .inl st) (hd : st.due = 0 ∨ st.due = 3) (he : typesErr st.types = 0) (w : World) :
  Calls Tryz.prog 19 #[.string src] w fun e w' => ∃ a c, e = .returned (parseOk st.types a c) ∧ TypesAt w' a st.types ∧ st.types.length ≤ c ∧ Below w.heap.size w w' := by
 obtain ⟨ls, hls⟩ : ∃ ls, splitC 10 (bl src) = ls := ⟨_, rfl⟩
 have hll : ls.length ≤ 20001 := by have := splitC_num 10 (bl src); rw [hls, bl_len] at this; omega
 have hlw : ∀ x, x ∈ ls → x.length ≤ 20000 := fun x hx => by have := splitC_le 10 (bl src) x (by rw [hls]; exact hx); rw [bl_len] at this; omega
 obtain ⟨w1, hw1⟩ : ∃ x, w.alloc (.cells flt0 27) = x := ⟨_, rfl⟩
 obtain ⟨w2, hw2⟩ : ∃ x, w1.alloc (.cells #[.slice none 0 0, .string ⟨#[116, 121, 112, 101]⟩, .int .u8 0] 91) = x := ⟨_, rfl⟩
 have HS := Lib.hid (split_any src 10 (by omega) w2)
 rw [hls] at HS h
 obtain ⟨w3, hw3⟩ : ∃ x, w2.alloc (.cells (ls.map fun l => Value.string (mkB l)).toArray 9) = x := ⟨_, rfl⟩
 rw [hw3] at HS
 have hz1 : w1.heap.size = w.heap.size + 1 := by rw [← hw1]; simp
 have hz2 : w2.heap.size = w.heap.size + 2 := by rw [← hw2]; simp [hz1]
 have hz3 : w3.heap.size = w.heap.size + 3 := by rw [← hw3]; simp [hz2]
 have hS3 : PsSt (w.heap.size + 1) (w.heap.size + 2) (w.heap.size + 3) w.heap.size ls (.slice none 0 0) ⟨[], 0, 0⟩ w w3 := by
  refine ⟨⟨?_, ownsRow_nil _ _ _ _, .inl rfl⟩, fun k x hx => ?_, ?_, ?_, (by omega), (fun e => nomatch (show (none : Option Nat) = some _ from e)), (fun e => nomatch (show (none : Option Nat) = some _ from e))⟩
  ·rw [← hw3, ← hz1, ← hw2]; exact (Box.new w1 _ _).alloc _
  ·rw [← hw3, ← hz2, (Box.new w2 _ _).cell, List.getElem?_toArray, List.getElem?_map, hx]; rfl
  ·rw [← hw3, ← hw2, ← hw1]; exact ((Box.new w _ _).alloc _).alloc _
  ·rw [← hw3, ← hw2, ← hw1]; go_grown
 have hss : ¬ ((20000 : Int) < (src.size : Int)) := by omega
 have HS3 := Lib.hid hS3
 have HLW := Lib.hid hlw
 have HH := Lib.hid h
 have HE := Lib.hid he
 clear hS3 hlw h he
 unfold flt0 at hw1
 go_enter Tryz.func19, Tryz.ntmps19
 go_wp2_with (go_at_call 67; refine HS.out.mono ?_; rintro e W ⟨rfl, hW⟩; rw [hW]; clear hW)
 have HS3' := HS3
 clear HS hw1 hw2 hw3
 go_loopw [17] (fun iv wr => ∃ k : Nat, k ≤ ls.length ∧ iv = .int .i64 k ∧ ∃ stk vk, readAll k stk (ls.drop k) = .inl st ∧ stk.types.length ≤ k ∧ PsSt (w.heap.size + 1) (w.heap.size + 2) (w.heap.size + 3) w.heap.size ls vk stk w wr) (fun iv _ => ls.length - (intOf iv).toNat)
 case atStart => exact ⟨0, Nat.zero_le _, rfl, ⟨[], 0, 0⟩, _, HH.out, Nat.zero_le _, HS3.out⟩
 case round =>
  obtain ⟨k, hk, rfl, stk, vk, hrest, hlen, hst⟩ := hrel
  clear HS3 HS3' HH
  have ST := Lib.hid hst
  clear hst
  by_cases hlt : k < ls.length
  ·obtain ⟨x, hx⟩ : ∃ x, ls[k]? = some x := ⟨ls[k], by simp [hlt]⟩
   have hdrop : ls.drop k = x :: ls.drop (k + 1) := by
    obtain ⟨hk', e⟩ := List.getElem?_eq_some_iff.1 hx
    rw [← e, List.getElem_cons_drop hk']
   rw [hdrop, readAll_cons] at hrest
   have hxl : x.length ≤ 20000 := HLW.out x (List.mem_of_getElem? hx)
   have hcell := ST.out.ws k x hx
   have hki : (k : Int) < (ls.length : Int) := by omega
   have hk0 : (0 : Int) ≤ (k : Int) := by omega
   have hkw : IntKind.i64.wrap ((k : Int) + 1) = (k : Int) + 1 := IntWalk.i64_in _ (by omega)
   clear hdrop hx HLW
   by_cases hb : blankLine x = true
   ·rw [if_pos hb] at hrest
    have HREL := Lib.hid (show ∃ j : Nat, j ≤ ls.length ∧ Value.int .i64 ((k : Int) + 1) = .int .i64 j ∧ ∃ stk vk, readAll j stk (ls.drop j) = .inl st ∧ stk.types.length ≤ j ∧ PsSt (w.heap.size + 1) (w.heap.size + 2) (w.heap.size + 3) w.heap.size ls vk stk w wr from ⟨k + 1, by omega, rfl, stk, vk, hrest, by omega, ST.out⟩)
    clear hrest
    rcases head_blank hb with rfl | ⟨r, rfl⟩
    ·have e1 : (mkB []).toList.isEmpty = true := by rw [ByteArray.toList_eq]; rfl
     go_wp2_with fail
     exact ⟨HREL.out, by simp [intOf]; omega⟩
    ·have e1 : (mkB (35 :: r)).toList.isEmpty = false := mkB_ne (by simp)
     have hix := index_head 35 r
     go_wp2_with fail
     exact ⟨HREL.out, by simp [intOf]; omega⟩
   ·rw [if_neg hb] at hrest
    rcases hrl : readLine stk (splitC 32 x) with _ | st2
    ·rw [hrl] at hrest; cases hrest
    rw [hrl] at hrest
    simp only at hrest
    obtain ⟨b, r, rfl⟩ : ∃ b r, x = b :: r := by
     rcases x with _ | ⟨b, r⟩
     ·exact absurd rfl hb
     ·exact ⟨b, r, rfl⟩
    have hb35 : b ≠ 35 := fun e => hb (by subst e; rfl)
    have e1 : (mkB (b :: r)).toList.isEmpty = false := mkB_ne (by simp)
    have hix := index_head b r
    have e35 : ((b.toNat : Int) == 35) = false := by
     rw [beq_eq_false_iff_ne]
     intro e
     exact hb35 (by have : b.toNat = 35 := by omega
                    rw [← UInt8.ofNat_toNat (x := b), this]; rfl)
    have HRD := Lib.hid (read_good (w.heap.size + 1) (w.heap.size + 3) vk stk st2 (mkB (b :: r)) (by rw [bl_mkB]; exact hrl) (by rw [← bl_len, bl_mkB]; omega) (by omega) (by omega) wr ST.out.rd ST.out.siz)
    have hl2 := (readLine_len hrl).1
    clear hb hrl
    have HREST := Lib.hid hrest
    clear hrest
    go_wp2_with fail
    refine HRD.out.mono ?_
    rintro e W5 ⟨rfl, v', hRA, hvv, hkp⟩
    have hown := fun k hk => (ST.out.rd.row.lt k hk).1
    have hsz := ST.out.siz
    have hST5 : PsSt (w.heap.size + 1) (w.heap.size + 2) (w.heap.size + 3) w.heap.size ls v' st2 w W5 := by
     refine ⟨hRA, ST.out.ws.keep hkp ⟨ST.out.nl, by omega⟩, hkp.heap ⟨ST.out.nz, by omega⟩ ST.out.flt, ?_, Nat.le_trans ST.out.siz hkp.size, fun e => ?_, fun e => ?_⟩
     ·refine ST.out.bel.trans ⟨hkp.os, hkp.tape, hkp.output, hkp.size, fun j hj => hkp.block j ⟨fun e => ?_, by omega⟩ (by omega)⟩
      have := hown j e; omega
     ·rcases hvv _ e with h | h
      ·exact ST.out.nl h
      ·omega
     ·rcases hvv _ e with h | h
      ·exact ST.out.nz h
      ·omega
    have HREL := Lib.hid (show ∃ j : Nat, j ≤ ls.length ∧ Value.int .i64 ((k : Int) + 1) = .int .i64 j ∧ ∃ stk vk, readAll j stk (ls.drop j) = .inl st ∧ stk.types.length ≤ j ∧ PsSt (w.heap.size + 1) (w.heap.size + 2) (w.heap.size + 3) w.heap.size ls vk stk w W5 from ⟨k + 1, by omega, rfl, st2, v', HREST.out, by omega, hST5⟩)
    clear hST5 hRA hvv hkp HREST HRD
    go_wp2_with fail
    exact ⟨HREL.out, by simp [intOf]; omega⟩
  ·have hke : k = ls.length := by omega
   subst hke
   rw [List.drop_length] at hrest
   have hse : stk = st := by simpa [readAll] using hrest
   subst hse
   obtain ⟨a, c, rfl, hT, hc, hab⟩ := types_of_row ST.out.rd.row
   have hl12 := (typesErr_good HE.out).1
   have HC := Lib.hid (checkTypes_any a c stk.types wr hT (types_sml HE.out) (by omega) hc)
   have HT := Lib.hid hT
   obtain ⟨r1, r2⟩ := ST.out.rd.box.rules
   clear hrest hT
   have d1 : ((⟨#[116, 121, 112, 101]⟩ : ByteArray).toList == (⟨#[114, 105, 109]⟩ : ByteArray).toList) = false := by decide +kernel
   have d2 : ((⟨#[116, 121, 112, 101]⟩ : ByteArray).toList == (⟨#[98, 97, 115, 101]⟩ : ByteArray).toList) = false := by decide +kernel
   have d3 : ((⟨#[97, 102, 116, 101, 114]⟩ : ByteArray).toList == (⟨#[114, 105, 109]⟩ : ByteArray).toList) = false := by decide +kernel
   have d4 : ((⟨#[97, 102, 116, 101, 114]⟩ : ByteArray).toList == (⟨#[98, 97, 115, 101]⟩ : ByteArray).toList) = false := by decide +kernel
   have hE := HE.out
   rcases hd with hd | hd
   all_goals
    rw [hd] at r1
    simp only [dueS] at r1
    go_wp2_with fail
    refine HC.out.mono ?_
    rintro e W6 ⟨rfl, hb6⟩
    rw [hE]
    have hF := ST.out.flt.below' hb6
    have hB6 : Below w.heap.size w W6 := ST.out.bel.trans (hb6.mono ST.out.bel.size)
    have hT6 := HT.out.below hb6
    have hR6 := (ST.out.rd.box.below' hb6).cell 0
    have hE6 : W6.cell? ⟨w.heap.size + 1, 0, none⟩ = some (.slice a stk.types.length c) := hR6.trans rfl
    unfold flt0 at hF
    obtain ⟨f1, f2⟩ := hF.rules
    clear HC hb6 r1 r2 hR6
    have hk7' : ∀ A : World, Keep (fun k => k ≠ w.heap.size) A ((A.setCell ⟨w.heap.size, 0, none⟩ (.int .i64 0)).setCell ⟨w.heap.size, 1, none⟩ (.int .i64 0)) := fun A => ((Keep.refl _ A).setCell (.inl (by simp)) _).setCell (.inl (by simp)) _
    have hF7' : ∀ {A : World}, Box A w.heap.size flt0 27 → Box ((A.setCell ⟨w.heap.size, 0, none⟩ (.int .i64 0)).setCell ⟨w.heap.size, 1, none⟩ (.int .i64 0)) w.heap.size flt0 27 := fun h => (h.set_ 0 _).set_ 1 _
    have hB7 : ∀ W7, Keep (fun k => k ≠ w.heap.size) W6 W7 → Below w.heap.size w W7 := fun W7 hk => hB6.trans ⟨hk.os, hk.tape, hk.output, hk.size, fun j hj => hk.block j (by omega) (by have := hB6.size; omega)⟩
    go_wp2_with fail
    have hk7 := hk7' W6
    have hF7 := hF7' hF
    refine bodyPost_ret (results_tmp_cell rfl rfl (loadv_flt hF7)) rfl ⟨a, c, rfl, hT6.keep' hk7 fun b o e => ?_, hc, hB7 _ hk7⟩
    have := hab b o e; omega
end Go.Proofs.YthpjffhccjlnhaaGreatDoor
