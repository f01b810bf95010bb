/- A set of Ids kept as map[int]bool: what a look-up gives, what a store leaves. Ids from 1 to 1000000. -/
/- CheckCase, walked: it returns what checkCase says, and leaves the memory that was there. Small sizes. -/
import Derived.Test.YtpjcnkajimgagaaGreatProg
import Derived.Test.YtpjcnkajimgagaaGreatMWords
import Derived.Maps.OwnSet
import Derived.Maps.OwnOps
import Derived.WalkKit
import Derived.Test.YtpjcnkajimgagaaGreatMChk
import Derived.Deep.LoopGhost
import Derived.Deep.DeepCutAuto
set_option linter.unusedSimpArgs false
set_option linter.unusedVariables false
namespace Go.Proofs.YtpjcnkajimgagaaGreat
open Go.RowKit Go.Maps

abbrev yes : DataW Unit := .lit (.bool true)
def litsOf (l : List Int) : List Lit := l.map (Lit.int .i64)
def SeenAt (w : World) (b : Nat) (l : List Int) : Prop :=
 (∀ x ∈ l, 1 ≤ x ∧ x ≤ 1000000) ∧ w.ownsMap Tryz.prog 3 (plainElem (H := Unit) Tryz.prog 4) b l.length (setOf yes (litsOf l))

theorem id_wf {x : Int} (h : 1 ≤ x ∧ x ≤ 1000000) : (Lit.int .i64 x).wf = true := by
 simp [Lit.wf, IntKind.min, IntKind.max, IntKind.signed, IntKind.bits]; omega

theorem litsOf_key (l : List Int) : ∀ x ∈ litsOf l, WideAt.IsKeyLit x := by
 intro x hx
 simp only [litsOf, List.mem_map] at hx
 obtain ⟨a, _, rfl⟩ := hx
 exact trivial

theorem atKey_fold (l : List Int) (x : Int) (z : DataW Unit) : ∀ m : DataW Unit, IsMap m →
  ((litsOf l).foldl (fun m x => m.put x yes) m).atKey (.int .i64 x) z = if l.contains x then yes else m.atKey (.int .i64 x) z := by
 induction l with
 | nil => intro m _; simp [litsOf]
 | cons y l ih =>
  intro m hm
  have h1 := ih (m.put (.int .i64 y) yes) (hm.put _ _)
  simp only [litsOf, List.map_cons, List.foldl_cons] at h1 ⊢
  rw [h1]
  by_cases e : y = x
  ·subst e
   rw [atKey_put_same hm (show WideAt.IsKeyLit (Lit.int .i64 y) from trivial)]
   simp
  ·rw [atKey_put_other (fun h => e (by injection h with _ h; exact h.symm))]
   have e' : ¬ x = y := fun h => e h.symm
   simp [e']

theorem atKey_setOf (l : List Int) (x : Int) (z : DataW Unit) : (setOf yes (litsOf l)).atKey (.int .i64 x) z = if l.contains x then yes else z := by
 rw [setOf, atKey_fold l x z _ isMap_empty]
 split
 ·rfl
 ·rfl

theorem SeenAt.look {w : World} {b : Nat} {l : List Int} (h : SeenAt w b l) {x : Int} (hx : 1 ≤ x ∧ x ≤ 1000000) :
  (Instr.lookup 164 (.map (some b)) (.int .i64 x) false).run Tryz.prog w = .ok (.bool (l.contains x)) w := by
 obtain ⟨v, ps, hrun, hv⟩ := h.2.lookup (int_keyed Tryz.underlying3) Tryz.underlying164 (by kernel_rfl : (zeroValue 4).run Tryz.prog w = .ok (.bool false) w)
  (plainElem_bool Tryz.underlying4 false) (keyOf_int_mk Tryz.underlying3 (id_wf hx))
 rw [atKey_setOf] at hv
 rw [hrun]
 have e : ∀ (d : Bool), plainElem (H := Unit) Tryz.prog 4 v = some (.lit (.bool d), ps) → v = .bool d := by
  intro d hd
  simp only [plainElem, Tryz.underlying4] at hd
  cases v with
  | bool c => simp at hd; rw [hd.1]
  | _ => simp at hd
 cases hc : l.contains x
 ·rw [hc] at hv
  rw [e false (by simpa using hv)]
 ·rw [hc] at hv
  rw [e true (by simpa using hv)]

theorem SeenAt.put {w : World} {b : Nat} {l : List Int} (h : SeenAt w b l) {x : Int} (hx : 1 ≤ x ∧ x ≤ 1000000) (hl : l.length ≤ 100000) :
  ∃ w', (Instr.mapUpdate 164 (.map (some b)) (.int .i64 x) (.bool true)).run Tryz.prog w = .ok () w' ∧ SeenAt w' b (l ++ [x]) ∧ w.grownBy w' (some b) := by
 obtain ⟨w', hrun, hown, hg⟩ := h.2.update (int_keyed Tryz.underlying3) Tryz.underlying164 (by unfold maxLen; omega) (keyOf_int_mk Tryz.underlying3 (id_wf hx)) (plainElem_bool Tryz.underlying4 true)
 refine ⟨w', hrun, ⟨?_, ?_⟩, hg⟩
 ·intro y hy
  simp at hy
  rcases hy with hy | rfl
  ·exact h.1 y hy
  ·exact hx
 ·have e : litsOf (l ++ [x]) = litsOf l ++ [.int .i64 x] := by simp [litsOf]
  rw [e, setOf_snoc]
  simpa using hown

theorem SeenAt.made (w : World) : SeenAt (w.alloc (.map #[] 0)) w.heap.size [] := ⟨by simp, World.ownsMap_made _ _ _ _⟩
theorem SeenAt.below {w w' : World} {b : Nat} {l : List Int} (h : SeenAt w b l) (hb : Below w.heap.size w w') : SeenAt w' b l := by
 refine ⟨h.1, ?_⟩
 obtain ⟨es, clock, h1, h2⟩ := h.2
 have hlt : b < w.heap.size := by
  rcases Nat.lt_or_ge b w.heap.size with h0 | h0
  ·exact h0
  ·rw [Array.getElem?_eq_none h0] at h1; cases h1
 exact ⟨es, clock, (hb.block b hlt).trans h1, h2⟩
theorem SeenAt.setCell {w : World} {b : Nat} {l : List Int} (h : SeenAt w b l) {a : Addr} (ha : b ≠ a.block) (u : Value) : SeenAt (w.setCell a u) b l := ⟨h.1, h.2.setCell ha u⟩

end Go.Proofs.YtpjcnkajimgagaaGreat
namespace Go.Proofs.YtpjcnkajimgagaaGreat
open Go.RowKit

def csCells (c : Cs) (pa : Option Addr) (pc : Nat) : Array Value := #[.string c.ware, .int .i64 c.limit, .int .i64 c.by_, .slice pa c.parts.length pc]

/-- what the rounds of CheckCase keep -/
def CcInv (c : Cs) (pa : Option Addr) (pc : Nat) (w : World) (seen : List Int) (wr : World) : Prop :=
 Box wr w.heap.size (csCells c pa pc) 24 ∧ SeenAt wr (w.heap.size + 1) seen ∧ Below w.heap.size w wr
theorem CcInv.old {c : Cs} {pa : Option Addr} {pc : Nat} {w : World} {seen : List Int} {wr : World} (h : CcInv c pa pc w seen wr) : Below w.heap.size w wr := h.2.2
theorem CcInv.below {c : Cs} {pa : Option Addr} {pc : Nat} {w : World} {seen : List Int} {wr w' : World} (h : CcInv c pa pc w seen wr) (hb : Below wr.heap.size wr w') : CcInv c pa pc w seen w' :=
 ⟨h.1.below' hb, h.2.1.below hb, h.2.2.trans (hb.mono h.2.2.size)⟩
theorem CcInv.cells {c : Cs} {pa : Option Addr} {pc : Nat} {w : World} {seen : List Int} {wr : World} (h : CcInv c pa pc w seen wr) : ∀ i, wr.cell? ⟨w.heap.size, i, none⟩ = (#[.string c.ware, .int .i64 c.limit, .int .i64 c.by_, .slice pa c.parts.length pc] : Array Value)[i]? := h.1.cell
theorem CcInv.put {c : Cs} {pa : Option Addr} {pc : Nat} {w : World} {seen : List Int} {wr : World} (h : CcInv c pa pc w seen wr) {x : Int} (hx : 1 ≤ x ∧ x ≤ 1000000) (hl : seen.length ≤ 100000) :
  ∃ w', (Instr.mapUpdate 164 (.map (some (w.heap.size + 1))) (.int .i64 x) (.bool true)).run Tryz.prog wr = .ok () w' ∧ CcInv c pa pc w (seen ++ [x]) w' ∧ (∀ b, b < w.heap.size → ∀ i, w'.cell? ⟨b, i, none⟩ = w.cell? ⟨b, i, none⟩) := by
 obtain ⟨w', h1, h2, h3⟩ := h.2.1.put hx hl
 have hlt := h.1.lt
 have hb : Below w.heap.size w w' := h.2.2.grown h3 h.2.2.size (fun k e => by cases e; omega)
 exact ⟨w', h1, ⟨h.1.grown h3 (by simp), h2, hb⟩, fun b hbl i => hb.cell (p := ⟨b, i, none⟩) hbl⟩

set_option maxRecDepth 100000 in
set_option maxHeartbeats 2000000 in
theorem checkCase_any (c : Cs) (hsm : c.Small) (pa : Option Addr) (pc : Nat) (w : World) (hp : PartsAt w pa c.parts) :
  Calls Tryz.prog 84 #[.agg #[.string c.ware, .int .i64 c.limit, .int .i64 c.by_, .slice pa c.parts.length pc]] w fun e w' => e = .returned (.int .i64 (checkCase c)) ∧ Below w.heap.size w w' := by
 obtain ⟨hs1, hs2, hs3⟩ := hsm
 by_cases h8 : 8 < c.parts.length
 ·go_enter Tryz.func84, Tryz.ntmps84
  go_wp2_with fail
  go_ret
  exact ⟨ret_int (by simp [checkCase, h8]), by go_grown⟩
 ·have HP := Lib.hid hp
  have H3 := Lib.hid hs3
  clear hp hs3
  have hmm := @run_makeMap Tryz.prog
  go_enter Tryz.func84, Tryz.ntmps84
  go_upto_region 4 with fail
  go_cut [4] (fun s4 wx => s4 = .bool (ok0 c) ∧ CcInv c pa pc w [] wx)
  case first =>
   go_wp2_with (first
    | (go_at_call 117; (with_reducible refine (isName_any _ _ (by omega)).mono ?_); rintro e w1 ⟨rfl, hb1⟩; have HB1 := Lib.hid (((Box.new w #[.string c.ware, .int .i64 c.limit, .int .i64 c.by_, .slice pa c.parts.length pc] 24).alloc (.map #[] 0)).below' hb1); obtain ⟨hc1, hf1⟩ := HB1.out.rules; have HW1 := Lib.hid hb1; clear hb1)
    | (go_at_call 66; (with_reducible refine (in_any _ _ _ _).mono ?_); rintro e w' ⟨rfl, rfl⟩)
    | (go_at_call 118; (with_reducible refine (by_any _ _ _).mono ?_); rintro e w' ⟨rfl, rfl⟩))
   all_goals go_meet
   all_goals (refine ⟨by simp [ok0, *], HB1.out, ?_, ?_⟩)
   all_goals first
    | (have h1 := SeenAt.made (w.alloc (.cells (csCells c pa pc) 24)); rw [World.size_alloc] at h1; exact h1.below HW1.out)
    | exact (((Below.refl _ w).alloc (Nat.le_refl _) _).alloc (by simp) _).trans (HW1.out.mono (by simp; omega))
  case rest =>
   obtain ⟨rfl, hinv⟩ := hcut
   have HI := Lib.hid hinv
   have hcc := hinv.cells
   clear hinv
   go_wp2
   go_loopw [4, 33] (fun s4 i wr => ∃ (k : Nat) (ok : Bool), k ≤ c.parts.length ∧ i = .int .i64 k ∧ s4 = .bool ok ∧ Hid (ok = (ok0 c && noDup (allIds (c.parts.take k)))) ∧ Hid (∀ (j : Nat) p, j < k → c.parts[j]? = some p → isPartB p = true) ∧ CcInv c pa pc w (allIds (c.parts.take k)) wr)
    (fun _ i _ => c.parts.length - (intOf i).toNat)
   case atStart => exact ⟨0, ok0 c, Nat.zero_le _, rfl, rfl, Lib.hid (by simp [noDup, allIds]), fun j p hj => absurd hj (Nat.not_lt_zero j), HI.out⟩
   case round =>
    clear HI hcc
    obtain ⟨k, ok, hk, rfl, rfl, HO, HA, hinv⟩ := hrel
    have HI := Lib.hid hinv
    clear hinv
    by_cases hlt : k < c.parts.length
    ·obtain ⟨b, o, p, rfl, hpk, hpart⟩ := HP.out.at_ hlt
     obtain ⟨sa, sc, ra, rc, c0, c1, c2, c3, c4, c5, c6, c7, hsi, hri, hsc, hrc⟩ := hpart.open
     have hB := HI.out.2.2
     have d0 := below_cell hB c0
     have d1 := below_cell hB c1
     have d2 := below_cell hB c2
     have d3 := below_cell hB c3
     have d4 := below_cell hB c4
     have d5 := below_cell hB c5
     have d6 := below_cell hB c6
     have d7 := below_cell hB c7
     have hlen := H3.out p (List.mem_of_getElem? hpk)
     have HPK := Lib.hid hpk
     have HSI := Lib.hid hsi
     have HRI := Lib.hid hri
     clear c0 c1 c2 c3 c4 c5 c6 c7 hpart hpk hsi hri hB
     cases ok
     ·go_wp2
      go_ret
      have hB := HI.out.2.2
      exact ⟨ret_int (check_dup h8 HO.out.symm).symm, hB.alloc hB.size _⟩
     ·go_wp2_with (go_at_call 119; (with_reducible refine (isPart_any p sa ra sc rc _ ((HSI.out.below HI.out.old).below (by go_grown)) ((HRI.out.below HI.out.old).below (by go_grown)) (by omega) (by omega)).mono ?_); rintro e w2 ⟨rfl, hb2⟩; have HBx := Lib.hid (Box.below' (PrtBox.new wr p sa sc ra rc 52) hb2 : PrtBox w2 wr.heap.size p sa sc ra rc 52); have hx1 := PrtBox.cells HBx.out; have hx2 := Box.frozen HBx.out; have HI2 := Lib.hid (HI.out.below (((Below.refl _ wr).alloc (Nat.le_refl _) _).trans (hb2.mono (by simp)))); clear hb2)
      ·have hbad : (!isPartB p) = true := by assumption
       go_ret
       exact ⟨ret_int (check_false h8 HPK.out (by simpa using hbad)).symm, HI2.out.old⟩
      ·have hgood : (!isPartB p) = false := by assumption
       have HG := Lib.hid hgood
       clear hgood hx1 hx2
       go_loopw [4, 47] (fun s4 i wq => ∃ (m : Nat) (ok : Bool), m ≤ p.sherds.length ∧ i = .int .i64 m ∧ s4 = .bool ok ∧ Hid (ok = (ok0 c && noDup (allIds (c.parts.take k) ++ p.sherds.take m))) ∧ CcInv c (some ⟨b, o, none⟩) pc w (allIds (c.parts.take k) ++ p.sherds.take m) wq)
        (fun _ i _ => p.sherds.length - (intOf i).toNat)
       case atStart => exact ⟨0, true, Nat.zero_le _, rfl, by rw [show isPartB p = true from by simpa using HG.out], Lib.hid (by rw [HO.out]; simp), by simpa using HI2.out⟩
       case round =>
        clear HI2 HBx
        obtain ⟨m, ok, hm, rfl, rfl, HOq, hinvq⟩ := hrel
        by_cases hml : m < p.sherds.length
        ·obtain ⟨b', o', x, rfl, hx, hcx⟩ := (HSI.out.below hinvq.old).at_ hml
         have hxr := part_ids (p := p) (by simpa using HG.out) x (List.mem_of_getElem? hx)
         have hlk := hinvq.2.1.look hxr
         have hlen2 : (allIds (c.parts.take k) ++ p.sherds.take m).length ≤ 100000 := by
          have := allIds_len 45 (c.parts.take k) (fun q hq => (H3.out q (List.mem_of_mem_take hq)).1)
          have h2 := List.length_take_le k c.parts
          have h3 := List.length_take_le m p.sherds
          have h4 : 45 * (c.parts.take k).length ≤ 45 * 10 := Nat.mul_le_mul_left _ (by omega)
          rw [List.length_append]; omega
         obtain ⟨w', hput, hinv', _⟩ := hinvq.put hxr hlen2
         have HQ := Lib.hid hinv'
         have HX := Lib.hid hx
         have HR := Lib.hid hxr
         clear hinv' hinvq hx hxr hlen2
         have HS := Lib.hid (take_snoc HX.out)
         cases ok
         ·go_wp2
          go_roundw
          case rel => exact ⟨m + 1, false, by omega, by go_num, rfl, Lib.hid (by rw [HS.out, ← List.append_assoc, noDup_snoc, ← Bool.and_assoc, ← HOq.out]; rfl), by rw [HS.out, ← List.append_assoc]; exact HQ.out⟩
          case measure => simp [intOf]; omega
         ·go_wp2
          go_roundw
          case rel => exact ⟨m + 1, _, by omega, by go_num, rfl, Lib.hid (by rw [HS.out, ← List.append_assoc, noDup_snoc, ← Bool.and_assoc, ← HOq.out]; simp), by rw [HS.out, ← List.append_assoc]; exact HQ.out⟩
          case measure => simp [intOf]; omega
        ·have HQ := Lib.hid hinvq
         clear hinvq
         go_wp2
         go_roundw
         case rel =>
          have hmm : m = p.sherds.length := by omega
          subst hmm
          refine ⟨k + 1, ok, by omega, by go_num, rfl, Lib.hid ?_, parts_step HPK.out (by simpa using HG.out) HA.out, ?_⟩
          ·rw [take_snoc HPK.out, allIds_snoc, HOq.out, List.take_length]
          ·rw [take_snoc HPK.out, allIds_snoc]
           have := HQ.out
           rwa [List.take_length] at this
         case measure => simp [intOf]; omega
    ·cases ok
     ·go_wp2
      go_ret
      exact ⟨ret_int (check_dup h8 HO.out.symm).symm, HI.out.2.2⟩
     ·go_wp2
      go_ret
      exact ⟨ret_int (check_ok h8 hlt HO.out HA.out).symm, HI.out.2.2⟩
end Go.Proofs.YtpjcnkajimgagaaGreat
