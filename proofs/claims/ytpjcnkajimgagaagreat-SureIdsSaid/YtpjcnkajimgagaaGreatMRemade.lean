/- bys: where the Ids of a case stand, one after the other. -/
/- copied of parts: a list of parts in new memory, their own lists still where they were. -/
/- remade: a case in new memory. -/
import Derived.Test.YtpjcnkajimgagaaGreatMRange
import Derived.Test.YtpjcnkajimgagaaGreatMOpen
import Derived.Test.YtpjcnkajimgagaaGreatMNeed
set_option linter.unusedSimpArgs false
set_option linter.unusedVariables false
namespace Go.Proofs.YtpjcnkajimgagaaGreat
open Go.RowKit
attribute [local go_sem] Oper.semAt_some

/-- the places of three Ids a part, and the one of the Limit -/
def partItems (i : Nat) : List (Nat × Nat) := [(i, 0), (i, 1), (i, 2)]
def bysTo (i : Nat) : List (Nat × Nat) := (List.range i).flatMap partItems
def bysList (n : Nat) : List (Nat × Nat) := bysTo n ++ [(n, 3)]
theorem bysTo_succ (i : Nat) : bysTo (i + 1) = bysTo i ++ partItems i := by simp [bysTo, List.range_succ, List.flatMap_append]
theorem bysTo_le {i j : Nat} (h : i ≤ j) : bysTo i <+: bysTo j := by
 obtain ⟨d, rfl⟩ := Nat.exists_eq_add_of_le h
 induction d with
 | zero => exact List.prefix_rfl
 | succ d ih => exact (ih (by omega)).trans (by rw [← Nat.add_assoc, bysTo_succ]; exact List.prefix_append _ _)
theorem bys_here {n i : Nat} (h : i < n) : (bysTo i ++ partItems i) <+: bysList n := by
 rw [← bysTo_succ]; exact (bysTo_le h).trans (List.prefix_append _ _)
theorem pre_three {n i : Nat} (h : i < n) : (bysTo i ++ [(i, 0)] ++ [(i, 1)] ++ [(i, 2)]) <+: bysList n := by
 rw [List.append_assoc, List.append_assoc]; exact bys_here h
theorem pre_two {n i : Nat} (h : i < n) : (bysTo i ++ [(i, 0)] ++ [(i, 1)]) <+: bysList n := (List.prefix_append _ _).trans (pre_three h)
theorem pre_one {n i : Nat} (h : i < n) : (bysTo i ++ [(i, 0)]) <+: bysList n := (List.prefix_append _ _).trans (pre_two h)
def byOff : Nat → Nat
 | 0 => 3
 | 1 => 4
 | _ => 6
/-- where an Id stands: the parts at PB, PO, the case at cb -/
def byAddr (PB PO cb : Nat) (x : Nat × Nat) : Addr := if x.2 = 3 then ⟨cb, 2, none⟩ else ⟨PB, PO + x.1 * 8 + byOff x.2, none⟩
def byBase (PB PO cb : Nat) (x : Nat × Nat) : Addr := if x.2 = 3 then ⟨cb, 0, none⟩ else ⟨PB, PO + x.1 * 8, none⟩
def byFn (x : Nat × Nat) : Nat := match x.2 with
 | 0 => 113
 | 1 => 114
 | 2 => 115
 | _ => 116
def byTy (x : Nat × Nat) : TypeId := if x.2 = 3 then 137 else 163
def ByRd (PB PO cb : Nat) (G : Nat → Prop) (x : Nat × Nat) (args : Array Value) (W : World) : Prop :=
 ∃ g, args = #[.pointer (some (byAddr PB PO cb x)), .func (.func (byFn x)) #[] #[.pointer (some ⟨g, 0, none⟩)]] ∧ Box W g #[.pointer (some (byBase PB PO cb x))] (byTy x) ∧ G g

theorem bys_any (cb : Nat) (w : World) :
  Calls Tryz.prog 81 #[.pointer (some ⟨cb, 0, none⟩)] w fun e w' => e = .returned (.func (.func 112) #[] #[.pointer (some ⟨w.heap.size, 0, none⟩)]) ∧ w.alloc (.cells #[.pointer (some ⟨cb, 0, none⟩)] 137) = w' := by
 have hmf := run_mf Tryz.prog
 go_enter Tryz.func81, Tryz.ntmps81
 go_wp2
 go_ret
 exact ⟨rfl, rfl⟩

set_option maxRecDepth 100000 in
set_option maxHeartbeats 4000000 in
theorem bys1_gives (n : Nat) (hn : n ≤ 10) (PB PO pc cb H : Nat) (pa : Option Addr) (hpa : 0 < n → pa = some ⟨PB, PO, none⟩) (W : World) (hH : Box W H #[.pointer (some ⟨cb, 0, none⟩)] 137) (G : Nat → Prop) (hGH : G H) (hGn : ∀ k, W.heap.size ≤ k → G k) :
  GivesC Tryz.prog 112 #[.pointer (some ⟨H, 0, none⟩)] (ByRd PB PO cb G) (bysList n) (fun C J => ∀ pre A, J pre A → A.cell? ⟨cb, 3, none⟩ = some (.slice pa n pc) ∧ ¬ C A H) W := by
 intro l C J Jx hJ hJx hC1 hC2 hOk hY h0
 have hmf := run_mf Tryz.prog
 have HJ := Lib.hid hJ
 have HC1 := Lib.hid hC1
 have HC2 := Lib.hid hC2
 have HOK := Lib.hid hOk
 have HY := Lib.hid hY
 have H0 := Lib.hid h0
 have HH := Lib.hid hH
 have HPA := Lib.hid hpa
 have HGH := Lib.hid hGH
 have HGN := Lib.hid hGn
 have e1 := hH.cell
 have e2 := (hOk _ _ h0).1
 clear hY hJ hJx hC1 hC2 hOk h0 hH hpa hGH hGn
 refine callsIn_of_wp Tryz.func112 rfl trivial ?_
 simp only [Tryz.ntmps112, List.size_toArray, List.length_cons, List.length_nil, Nat.reduceAdd, Nat.reduceSub, Array.replicate_succ, Array.replicate_zero, List.push_toArray, List.append_toArray, List.nil_append, List.cons_append]
 gi_wp2_with fail
 clear e1 e2
 gi_loopw [10] (fun iv wr => ∃ i : Nat, i ≤ n ∧ iv = .int .i64 i ∧ Box wr H #[.pointer (some ⟨cb, 0, none⟩)] 137 ∧ J (bysTo i) wr ∧ W.heap.size ≤ wr.heap.size) (fun iv _ => n - (intOf iv).toNat)
 case atStart => exact ⟨0, Nat.zero_le _, rfl, HH.out, H0.out, Nat.le_refl _⟩
 case round =>
  clear HH H0
  obtain ⟨i, hi, rfl, hH, hj, hsz⟩ := hrel
  by_cases hin : i < n
  ·obtain rfl := HPA.out (by omega)
   have e1 := hH.cell
   have e2 := (HOK.out _ _ hj).1
   have hB1 : Below wr.heap.size wr (wr.alloc (.cells #[.pointer (some ⟨PB, PO + i * 8, none⟩)] 163)) := (Below.refl _ _).alloc (Nat.le_refl _) _
   have hj1 := HJ.out _ _ _ hj hB1
   have hp1 : Box (wr.alloc (.cells #[.pointer (some ⟨PB, PO + i * 8, none⟩)] 163)) wr.heap.size #[.pointer (some ⟨PB, PO + i * 8, none⟩)] 163 := Box.new _ _ _
   have hH1 := hH.below' hB1
   have hpc : ∀ k, wr.heap.size ≤ k → ¬ C (wr.alloc (.cells #[.pointer (some ⟨PB, PO + i * 8, none⟩)] 163)) k := fun k hk h => by
    have := HC2.out _ wr k hj hsz (HC1.out _ _ _ _ hj hsz hB1 h); omega
   obtain ⟨fn, tmps, assign, body, hy1, hR1⟩ := HY.out _ (i, 0) _ _ hj1 ⟨wr.heap.size, rfl, hp1, HGN.out _ hsz⟩ (pre_one hin)
   have HR1 := Lib.hid hR1
   have HH1 := Lib.hid hH1
   have HP1 := Lib.hid hp1
   have HPC := Lib.hid hpc
   have hsz1 : W.heap.size ≤ (wr.alloc (.cells #[.pointer (some ⟨PB, PO + i * 8, none⟩)] 163)).heap.size := by simp; omega
   have hnc := (HOK.out _ _ hj1).2
   have HNC := Lib.hid hnc
   clear hR1 hH1 hp1 hpc hH hj hnc
   change (Instr.yield l #[.pointer (some ⟨PB, PO + i * 8 + 1 + 2, none⟩), .func (.func 113) #[] #[.pointer (some ⟨wr.heap.size, 0, none⟩)]]).run _ _ = _ at hy1
   have HPRE1 := Lib.hid (pre_one hin)
   have HPRE2 := Lib.hid (pre_two hin)
   have HPRE3 := Lib.hid (pre_three hin)
   gi_wp2_with fail
   refine HR1.out.mono ?_
   rintro e w2 (⟨rfl, hj2, hk2, hg2⟩ | ⟨rfl, hx⟩)
   rotate_left
   ·clear HR1 hy1 e1 e2
    gi_wp2_with fail
    refine bodyPost_ret (results_none rfl _ _ _) rfl ?_
    exact ⟨⟨_, rfl⟩, .inr ⟨_, HPRE1.out, hx⟩⟩
   have hp2 : Box w2 wr.heap.size #[.pointer (some ⟨PB, PO + i * 8, none⟩)] 163 := hk2.heap (HPC.out _ (Nat.le_refl _)) HP1.out
   have hH2 : Box w2 H #[.pointer (some ⟨cb, 0, none⟩)] 137 := hk2.heap HNC.out HH1.out
   have hpc2 : ¬ C w2 wr.heap.size := fun h => by
    rcases hg2 _ h with h | h
    ·exact HPC.out _ (Nat.le_refl _) h
    ·rw [World.size_alloc] at h; omega
   have hnc2 := (HOK.out _ _ hj2).2
   have hsz2 : W.heap.size ≤ w2.heap.size := Nat.le_trans hsz1 hk2.size
   obtain ⟨fn2, tmps2, assign2, body2, hy2, hR2⟩ := HY.out _ (i, 1) _ _ hj2 ⟨wr.heap.size, rfl, hp2, HGN.out _ hsz⟩ HPRE2.out
   change (Instr.yield l #[.pointer (some ⟨PB, PO + i * 8 + 1 + 3, none⟩), .func (.func 114) #[] #[.pointer (some ⟨wr.heap.size, 0, none⟩)]]).run _ _ = _ at hy2
   have c2 := hp2.cell
   have HR2 := Lib.hid hR2
   have HH2 := Lib.hid hH2
   have HP2 := Lib.hid hp2
   have HPC2 := Lib.hid hpc2
   have HNC2 := Lib.hid hnc2
   clear HR1 hy1 e1 e2 hR2 hH2 hp2 hpc2 hnc2 hj2 hk2 hg2
   gi_wp2_with fail
   refine HR2.out.mono ?_
   rintro e w3 (⟨rfl, hj3, hk3, hg3⟩ | ⟨rfl, hx⟩)
   rotate_left
   ·clear HR2 hy2 c2
    gi_wp2_with fail
    refine bodyPost_ret (results_none rfl _ _ _) rfl ?_
    exact ⟨⟨_, rfl⟩, .inr ⟨_, HPRE2.out, hx⟩⟩
   have hp3 : Box w3 wr.heap.size #[.pointer (some ⟨PB, PO + i * 8, none⟩)] 163 := hk3.heap HPC2.out HP2.out
   have hH3 : Box w3 H #[.pointer (some ⟨cb, 0, none⟩)] 137 := hk3.heap HNC2.out HH2.out
   have hnc3 := (HOK.out _ _ hj3).2
   have hsz3 : W.heap.size ≤ w3.heap.size := Nat.le_trans hsz2 hk3.size
   obtain ⟨fn3, tmps3, assign3, body3, hy3, hR3⟩ := HY.out _ (i, 2) _ _ hj3 ⟨wr.heap.size, rfl, hp3, HGN.out _ hsz⟩ HPRE3.out
   change (Instr.yield l #[.pointer (some ⟨PB, PO + i * 8 + 6, none⟩), .func (.func 115) #[] #[.pointer (some ⟨wr.heap.size, 0, none⟩)]]).run _ _ = _ at hy3
   have c3 := hp3.cell
   have HR3 := Lib.hid hR3
   have HH3 := Lib.hid hH3
   have HNC3 := Lib.hid hnc3
   clear HR2 hy2 c2 hR3 hH3 hp3 hnc3 hj3 hk3 hg3
   gi_wp2_with fail
   refine HR3.out.mono ?_
   rintro e w4 (⟨rfl, hj4, hk4, hg4⟩ | ⟨rfl, hx⟩)
   rotate_left
   ·clear HR3 hy3 c3
    gi_wp2_with fail
    refine bodyPost_ret (results_none rfl _ _ _) rfl ?_
    exact ⟨⟨_, rfl⟩, .inr ⟨_, HPRE3.out, hx⟩⟩
   have hH4 : Box w4 H #[.pointer (some ⟨cb, 0, none⟩)] 137 := hk4.heap HNC3.out HH3.out
   have hsz4 : W.heap.size ≤ w4.heap.size := Nat.le_trans hsz3 hk4.size
   have hj5 : J (bysTo (i + 1)) w4 := by rw [bysTo_succ]; simpa [partItems] using hj4
   have HH4 := Lib.hid hH4
   have HJ5 := Lib.hid hj5
   clear HR3 hy3 c3 hH4 hj4 hk4 hg4 hj5
   gi_wp2_with fail
   go_roundw
   case rel => exact ⟨i + 1, by omega, by go_num, HH4.out, HJ5.out, hsz4⟩
   case measure => simp [intOf]; omega
  ·have e : i = n := by omega
   have e1 := hH.cell
   rw [e] at hj
   obtain ⟨fn, tmps, assign, body, hy1, hR1⟩ := HY.out _ (n, 3) _ _ hj ⟨H, rfl, hH, HGH.out⟩ List.prefix_rfl
   change (Instr.yield l #[.pointer (some ⟨cb, 2, none⟩), .func (.func 116) #[] #[.pointer (some ⟨H, 0, none⟩)]]).run _ _ = _ at hy1
   have HR1 := Lib.hid hR1
   clear hR1 hH hj e
   gi_wp2_with fail
   refine HR1.out.mono ?_
   rintro e w2 (⟨rfl, hj2, hk2, hg2⟩ | ⟨rfl, hx⟩)
   ·have HJ2 := Lib.hid hj2
    clear HR1 hy1 e1 hj2 hk2 hg2
    gi_wp2_with fail
    go_end0
    exact ⟨⟨_, rfl⟩, .inl HJ2.out⟩
   ·clear HR1 hy1 e1
    gi_wp2_with fail
    go_end0
    exact ⟨⟨_, rfl⟩, .inr ⟨_, List.prefix_rfl, hx⟩⟩
end Go.Proofs.YtpjcnkajimgagaaGreat
namespace Go.Proofs.YtpjcnkajimgagaaGreat
open Go.RowKit
attribute [local go_sem] Oper.semAt_some

/-- the cells of a row of parts as they lie -/
def cellsOf (w : World) (b o m : Nat) : List Value := (List.range m).map fun q => (w.cell? ⟨b, o + q, none⟩).getD undef
theorem cellsOf_len (w : World) (b o m : Nat) : (cellsOf w b o m).length = m := by simp [cellsOf]
theorem cellsOf_at {w : World} {b o m q : Nat} {v : Value} (hq : q < m) (h : w.cell? ⟨b, o + q, none⟩ = some v) : (cellsOf w b o m)[q]? = some v := by
 unfold cellsOf
 rw [List.getElem?_map, List.getElem?_range hq]
 simp [h]
/-- a part in a block of the call's own; its lists lie elsewhere, where L says -/
def PartIn (w : World) (PB : Nat) (cells : Array Value) (L : Nat → Prop) (i : Nat) (p : Prt) : Prop :=
 ∃ sa sc ra rc, (∀ j v, (prtCells p sa sc ra rc)[j]? = some v → cells[i * 8 + j]? = some v) ∧ Ints w sa p.sherds ∧ Ints w ra p.rests ∧ p.sherds.length ≤ sc ∧ p.rests.length ≤ rc ∧
  (∀ b o, sa = some ⟨b, o, none⟩ → 0 < p.sherds.length → b ≠ PB ∧ L b) ∧ (∀ b o, ra = some ⟨b, o, none⟩ → 0 < p.rests.length → b ≠ PB ∧ L b)
theorem prt_one (p : Prt) (sa : Option Addr) (sc : Nat) (ra : Option Addr) (rc : Nat) : ∀ v ∈ prtCells p sa sc ra rc, v.oneCell' = true := by
 intro v hv
 simp only [prtCells, List.mem_cons, List.not_mem_nil, or_false] at hv
 rcases hv with rfl | rfl | rfl | rfl | rfl | rfl | rfl | rfl <;> rfl
theorem prt_len (p : Prt) (sa : Option Addr) (sc : Nat) (ra : Option Addr) (rc : Nat) : (prtCells p sa sc ra rc).length = 8 := rfl
theorem info_part : (Tryz.prog.info? 52).map (fun i => (i.zero.map (·.cells.size), i.size)) = some (some 8, 8) := by kernel_rfl
theorem part_row {w : World} {b o : Nat} {l : List Prt} (h : PartsAt w (some ⟨b, o, none⟩) l) : ∀ q, q < l.length * 8 → ∃ v, w.cell? ⟨b, o + q, none⟩ = some v ∧ v.oneCell' = true := by
 intro q hq
 obtain ⟨p, hp⟩ := get_of_lt l (k := q / 8) (by omega)
 obtain ⟨b', o', he, sa, sc, ra, rc, h1, _⟩ := h _ _ hp
 cases he
 obtain ⟨v, hv⟩ : ∃ v, (prtCells p sa sc ra rc)[q % 8]? = some v := ⟨(prtCells p sa sc ra rc)[q % 8]'(by rw [prt_len]; omega), by simp⟩
 refine ⟨v, ?_, prt_one p sa sc ra rc v (List.mem_of_getElem? hv)⟩
 have := h1 _ _ hv
 rw [← this]; congr 2; omega
theorem parts_row {w : World} {a : Option Addr} {l : List Prt} (h : PartsAt w a l) : ∃ news : List Value, news.length = l.length * 8 ∧ Row w a news ∧ (∀ u ∈ news, u.oneCell' = true) ∧
  (∀ i p, l[i]? = some p → ∃ sa sc ra rc, (∀ j v, (prtCells p sa sc ra rc)[j]? = some v → news[i * 8 + j]? = some v) ∧ Ints w sa p.sherds ∧ Ints w ra p.rests ∧ p.sherds.length ≤ sc ∧ p.rests.length ≤ rc) := by
 rcases l with _ | ⟨p0, l0⟩
 ·exact ⟨[], by simp, Row.nil _ _, by simp, fun i p hp => by simp at hp⟩
 ·obtain ⟨b, o, rfl, _⟩ := h 0 p0 rfl
  have hr := part_row h
  refine ⟨cellsOf w b o ((p0 :: l0).length * 8), cellsOf_len _ _ _ _, ?_, ?_, ?_⟩
  ·intro k v hv
   have hk : k < (p0 :: l0).length * 8 := by have := (List.getElem?_eq_some_iff.1 hv).1; rwa [cellsOf_len] at this
   obtain ⟨u, hu, _⟩ := hr k hk
   rw [cellsOf_at hk hu] at hv
   cases hv
   exact ⟨b, o, rfl, hu⟩
  ·intro u hu
   obtain ⟨k, hk, e⟩ := List.getElem_of_mem hu
   rw [cellsOf_len] at hk
   obtain ⟨v, hv, h1⟩ := hr k hk
   have := cellsOf_at hk hv
   rw [List.getElem?_eq_getElem (by rw [cellsOf_len]; exact hk), e] at this
   cases this; exact h1
  ·intro i p hp
   obtain ⟨b', o', he, sa, sc, ra, rc, h1, h2, h3, h4, h5⟩ := h i p hp
   cases he
   refine ⟨sa, sc, ra, rc, fun j v hv => cellsOf_at ?_ ?_, h2, h3, h4, h5⟩
   ·have hj : j < 8 := (List.getElem?_eq_some_iff.1 hv).1
    have hi : i < (p0 :: l0).length := (List.getElem?_eq_some_iff.1 hp).1
    omega
   ·rw [← Nat.add_assoc]; exact h1 j v hv
def CopyPPost (l : List Prt) (w0 w : World) (e : Ending) (w' : World) : Prop :=
 ∃ PB pc cells, e = .returned (.slice (some ⟨PB, 0, none⟩) l.length pc) ∧ l.length ≤ pc ∧ w.heap.size ≤ PB ∧ Box w' PB cells 52 ∧ (∀ i p, l[i]? = some p → PartIn w' PB cells (fun b => b < w0.heap.size) i p) ∧ Below w.heap.size w w'

def zeroPart : Value := .agg #[.slice none 0 0, .int .i64 0, .int .i64 0, .int .i64 0, .int .i64 0, .bool false, .int .i64 0, .slice none 0 0]
theorem info_partz : (Tryz.prog.info? 52).map (fun i => (i.zero, i.size, i.bytes)) = some (some zeroPart, 8, 96) := by kernel_rfl
theorem ints_block {w : World} {a : Option Addr} {l : List Int} (h : Ints w a l) {b o : Nat} (ha : a = some ⟨b, o, none⟩) (hl : 0 < l.length) : b < w.heap.size := by
 obtain ⟨b', o', _, ha', _, hc⟩ := h.at_ hl
 rw [ha] at ha'; cases ha'
 exact lt_of_cell hc
set_option maxRecDepth 100000 in
set_option maxHeartbeats 1000000 in
theorem copiedP_any (a : Option Addr) (c : Nat) (l : List Prt) (w0 w : World) (h : PartsAt w0 a l) (hw0 : Below w0.heap.size w0 w) (hl : l.length ≤ 1000) :
  Calls Tryz.prog 104 #[.slice a l.length c] w (CopyPPost l w0 w) := by
 obtain ⟨news, hn1, hn2, hn3, hn4⟩ := parts_row h
 have hB : Below w.heap.size w (w.alloc (.cells #[] 52)) := (Below.refl _ w).alloc (Nat.le_refl _) _
 have hE := ownsRow_empty w w.heap.size 52 8 (Nat.le_refl _)
 obtain ⟨v', w', hrun, hown, hg, hvb⟩ := run_append_row (P := Tryz.prog) (w.alloc (.cells #[] 52)) w.heap.size 22 22 52 zeroPart 8 96 Tryz.underlying22 info_partz rfl (by omega)
  (.slice (some ⟨w.heap.size, 0, none⟩) 0 0) 0 [] hE a l.length c news hn1 ((Row.below hn2 hw0).below hB) hn3 (by omega) (by omega) (by simp)
 have HO := Lib.hid hown
 have HG := Lib.hid hg
 have HR := Lib.hid hrun
 clear hown hg hrun
 go_enter Tryz.func104, Tryz.ntmps104
 go_wp2_with (at_builtin; refine wpList_app rfl _ _ _ rfl rfl rfl HR.out ?_)
 go_ret
 have hbel : Below w.heap.size w w' := hB.trans ((grown_below hE HG.out (Nat.le_refl _) (by simp)))
 obtain ⟨ho1, ho2⟩ := HO.out
 rcases ho2 with ⟨rfl, _⟩ | ⟨g, cap, cur, rfl, hgb, hh, hcap, _, hcs, htake⟩
 ·rcases hvb with hvb | hvb <;> simp [Value.ownBlock] at hvb
 ·simp only [Nat.zero_add, List.nil_append] at hcap htake ⊢
  refine ⟨g, cap, cur, rfl, hcap, hgb, hh, fun i p hp => ?_, hbel⟩
  obtain ⟨sa, sc, ra, rc, h1, h2, h3, h4, h5⟩ := hn4 i p hp
  have hi : i < l.length := (List.getElem?_eq_some_iff.1 hp).1
  refine ⟨sa, sc, ra, rc, fun j v hv => ?_, (h2.below hw0).below hbel, (h3.below hw0).below hbel, h4, h5, fun b o ha hl => ⟨?_, ints_block h2 ha hl⟩, fun b o ha hl => ⟨?_, ints_block h3 ha hl⟩⟩
  ·have hj : j < 8 := (List.getElem?_eq_some_iff.1 hv).1
   have := h1 j v hv
   rw [← htake, List.getElem?_take, if_pos (by omega)] at this
   simpa using this
  ·have := ints_block h2 ha hl; have := hw0.size; omega
  ·have := ints_block h3 ha hl; have := hw0.size; omega
end Go.Proofs.YtpjcnkajimgagaaGreat
namespace Go.Proofs.YtpjcnkajimgagaaGreat
open Go.RowKit
attribute [local go_sem] Oper.semAt_some

/-- the parts of a case of the call's own: the first k have lists of the call's own, too -/
structure PartsOwn (B : Nat) (w : World) (PB : Nat) (cells : Array Value) (k : Nat) (l : List Prt) : Prop where
 box : Box w PB cells 52
 far : B + 2 ≤ PB
 one : ∀ i p, l[i]? = some p → PartIn w PB cells (fun b => if i < k then PB < b else b < B) i p
theorem PartIn.below {w w' : World} {PB : Nat} {cells : Array Value} {L : Nat → Prop} {i : Nat} {p : Prt} (h : PartIn w PB cells L i p) (hb : Below w.heap.size w w') : PartIn w' PB cells L i p := by
 obtain ⟨sa, sc, ra, rc, h1, h2, h3, h4⟩ := h
 exact ⟨sa, sc, ra, rc, h1, h2.below hb, h3.below hb, h4⟩
theorem PartsOwn.below {B : Nat} {w w' : World} {PB : Nat} {cells : Array Value} {k : Nat} {l : List Prt} (h : PartsOwn B w PB cells k l) (hb : Below w.heap.size w w') : PartsOwn B w' PB cells k l :=
 ⟨h.box.below' hb, h.far, fun i p hp => (h.one i p hp).below hb⟩
theorem ints_far {w : World} {a : Option Addr} {l : List Int} (h : Ints w a l) {p : Addr} (hp : ∀ b o, a = some ⟨b, o, none⟩ → 0 < l.length → b ≠ p.block) (v : Value) : Ints (w.setCell p v) a l := fun k u hu => by
 obtain ⟨b, o, ha, hc⟩ := h k u hu
 have hl : 0 < l.length := by have := (List.getElem?_eq_some_iff.1 hu).1; simp at this; omega
 refine ⟨b, o, ha, ?_⟩
 rw [World.cell?_setCell_other _ _ _ _ (fun e => hp b o ha hl (by rw [e]))]
 exact hc
/-- a store into a block that lies between -/
theorem PartsOwn.farB {B : Nat} {w : World} {PB k : Nat} {cells : Array Value} {l : List Prt} (h : PartsOwn B w PB cells k l) {o : Nat} (hp : B + 1 < PB) (v : Value) : PartsOwn B (w.setCell ⟨B + 1, o, none⟩ v) PB cells k l := by
 refine ⟨h.box.far (by simp; omega) _, h.far, fun i q hq => ?_⟩
 obtain ⟨sa, sc, ra, rc, e1, e2, e3, e4, e5, e6, e7⟩ := h.one i q hq
 have hno : ∀ b, (if i < k then PB < b else b < B) → b ≠ B + 1 := fun b hb => by
  by_cases h9 : i < k
  ·rw [if_pos h9] at hb; omega
  ·rw [if_neg h9] at hb; omega
 exact ⟨sa, sc, ra, rc, e1, ints_far e2 (fun b o ha hl => hno b (e6 b o ha hl).2) _, ints_far e3 (fun b o ha hl => hno b (e7 b o ha hl).2) _, e4, e5, e6, e7⟩
theorem case_size : (Tryz.prog.info? 24).map (·.size) = some 4 := by kernel_rfl
/-- the lists of a part laid anew -/
def cells2 (cells : Array Value) (i : Nat) (v u : Value) : Array Value := (cells.setIfInBounds (i * 8) v).setIfInBounds (i * 8 + 7) u

theorem cells2_at {cells : Array Value} {i k : Nat} {v u x : Value} (h : cells[k]? = some x) (h1 : k ≠ i * 8) (h2 : k ≠ i * 8 + 7) : (cells2 cells i v u)[k]? = some x := by
 unfold cells2
 rw [Array.getElem?_setIfInBounds_ne (by omega), Array.getElem?_setIfInBounds_ne (by omega)]
 exact h
theorem cells2_size (cells : Array Value) (i : Nat) (v u : Value) : (cells2 cells i v u).size = cells.size := by simp [cells2]
theorem ints_rowOwn {B : Nat} {w : World} {a : Option Addr} {l : List Int} (h : RowOwn B w a (l.map (Value.int .i64))) : Ints w a l := h.row
theorem rowOwn_block {B : Nat} {w : World} {a : Option Addr} {l : List Int} (h : RowOwn B w a (l.map (Value.int .i64))) {b o : Nat} (ha : a = some ⟨b, o, none⟩) (hl : 0 < l.length) : B ≤ b := by
 obtain ⟨v, hv⟩ : ∃ v, (l.map (Value.int .i64))[0]? = some v := ⟨_, List.getElem?_eq_getElem (by simpa using hl)⟩
 obtain ⟨b', o', ha', h1, _⟩ := h 0 v hv
 rw [ha] at ha'; cases ha'; exact h1
theorem partsOwn_step {B : Nat} {w W : World} {PB k : Nat} {cells : Array Value} {l : List Prt} {p : Prt} {a1 a2 : Option Addr} {c1 c2 : Nat} (h : PartsOwn B w PB cells k l) (hp : l[k]? = some p) (hb : Below w.heap.size w W)
  (h1 : RowOwn w.heap.size W a1 (p.sherds.map (Value.int .i64))) (h2 : RowOwn w.heap.size W a2 (p.rests.map (Value.int .i64))) (hc1 : p.sherds.length ≤ c1) (hc2 : p.rests.length ≤ c2) :
  PartsOwn B ((W.setCell ⟨PB, k * 8, none⟩ (.slice a1 p.sherds.length c1)).setCell ⟨PB, k * 8 + 7, none⟩ (.slice a2 p.rests.length c2)) PB (cells2 cells k (.slice a1 p.sherds.length c1) (.slice a2 p.rests.length c2)) (k + 1) l := by
 have hlt := h.box.lt
 have hfar := h.far
 refine ⟨((h.box.below' hb).set_ _ _).set_ _ _, h.far, fun i q hq => ?_⟩
 obtain ⟨sa, sc, ra, rc, e1, e2, e3, e4, e5, e6, e7⟩ := h.one i q hq
 have far2 : ∀ {a : Option Addr} {x : List Int}, Ints W a x → (∀ b o, a = some ⟨b, o, none⟩ → 0 < x.length → b ≠ PB) → Ints ((W.setCell ⟨PB, k * 8, none⟩ (.slice a1 p.sherds.length c1)).setCell ⟨PB, k * 8 + 7, none⟩ (.slice a2 p.rests.length c2)) a x :=
  fun hx hne => ints_far (ints_far hx hne _) hne _
 by_cases hik : i = k
 ·subst hik
  rw [hp] at hq; cases hq
  refine ⟨a1, c1, a2, c2, fun j v hv => ?_, far2 (ints_rowOwn h1) (fun b o ha hl => by have := rowOwn_block h1 ha hl; omega), far2 (ints_rowOwn h2) (fun b o ha hl => by have := rowOwn_block h2 ha hl; omega), hc1, hc2, fun b o ha hl => ?_, fun b o ha hl => ?_⟩
  ·have hj : j < 8 := (List.getElem?_eq_some_iff.1 hv).1
   have hsz : ∀ j, j < 8 → i * 8 + j < cells.size := fun j hj => by
    obtain ⟨u, hu⟩ : ∃ u, (prtCells p sa sc ra rc)[j]? = some u := ⟨_, List.getElem?_eq_getElem (by rw [prt_len]; exact hj)⟩
    exact (Array.getElem?_eq_some_iff.1 (e1 _ _ hu)).1
   have z0 := hsz 0 (by omega)
   have z7 := hsz 7 (by omega)
   match j, hj with
   | 0, _ => simp [prtCells] at hv; subst hv; simp [cells2, Array.getElem?_setIfInBounds]; omega
   | 7, _ => simp [prtCells] at hv; subst hv; simp [cells2, z7]
   | 1, _ => exact cells2_at (e1 1 v (by simpa [prtCells] using hv)) (by omega) (by omega)
   | 2, _ => exact cells2_at (e1 2 v (by simpa [prtCells] using hv)) (by omega) (by omega)
   | 3, _ => exact cells2_at (e1 3 v (by simpa [prtCells] using hv)) (by omega) (by omega)
   | 4, _ => exact cells2_at (e1 4 v (by simpa [prtCells] using hv)) (by omega) (by omega)
   | 5, _ => exact cells2_at (e1 5 v (by simpa [prtCells] using hv)) (by omega) (by omega)
   | 6, _ => exact cells2_at (e1 6 v (by simpa [prtCells] using hv)) (by omega) (by omega)
  ·have := rowOwn_block h1 ha hl; dsimp only; rw [if_pos (by omega)]; constructor <;> omega
  ·have := rowOwn_block h2 ha hl; dsimp only; rw [if_pos (by omega)]; constructor <;> omega
 ·refine ⟨sa, sc, ra, rc, fun j v hv => ?_, far2 (e2.below hb) (fun b o ha hl => (e6 b o ha hl).1), far2 (e3.below hb) (fun b o ha hl => (e7 b o ha hl).1), e4, e5, fun b o ha hl => ?_, fun b o ha hl => ?_⟩
  ·have hj : j < 8 := (List.getElem?_eq_some_iff.1 hv).1
   exact cells2_at (e1 j v hv) (by omega) (by omega)
  ·refine ⟨(e6 b o ha hl).1, ?_⟩
   have := (e6 b o ha hl).2
   dsimp only at this ⊢
   by_cases h9 : i < k
   ·rw [if_pos h9] at this; rw [if_pos (by omega)]; exact this
   ·rw [if_neg h9] at this; rw [if_neg (by omega)]; exact this
  ·refine ⟨(e7 b o ha hl).1, ?_⟩
   have := (e7 b o ha hl).2
   dsimp only at this ⊢
   by_cases h9 : i < k
   ·rw [if_pos h9] at this; rw [if_pos (by omega)]; exact this
   ·rw [if_neg h9] at this; rw [if_neg (by omega)]; exact this
def Copy2Post (B : Nat) (l : List Int) (w : World) (e : Ending) (w' : World) : Prop := ∃ a c, e = .returned (.slice a l.length c) ∧ RowOwn B w' a (l.map (Value.int .i64)) ∧ l.length ≤ c ∧ Below w.heap.size w w'
set_option maxRecDepth 100000 in
set_option maxHeartbeats 1000000 in
theorem copied2_any (a : Option Addr) (c : Nat) (l : List Int) (w : World) (h : Ints w a l) (hl : l.length ≤ 100000) :
  Calls Tryz.prog 98 #[.slice a l.length c] w (Copy2Post w.heap.size l w) := by
 obtain ⟨v', w', hrun, hown, hg, _⟩ := run_append_row (P := Tryz.prog) (w.alloc (.cells #[] 3)) w.heap.size 27 27 3 (.int .i64 0) 1 8 Tryz.underlying27 info_int rfl (by omega)
  (.slice (some ⟨w.heap.size, 0, none⟩) 0 0) 0 [] (ownsRow_empty w _ _ _ (Nat.le_refl _)) a l.length c (l.map (.int .i64)) (by simp) (h.below ((Below.refl _ w).alloc (Nat.le_refl _) _)) (ints_one l) (by omega) (by omega) (by simp)
 have HO := Lib.hid hown
 have HG := Lib.hid hg
 have HR := Lib.hid hrun
 clear hown hg hrun
 go_enter Tryz.func98, Tryz.ntmps98
 go_wp2_with (at_builtin; refine wpList_app rfl _ _ _ rfl rfl rfl HR.out ?_)
 go_ret
 obtain ⟨a', c', rfl, hr, hcap⟩ := ownsRow_own HO.out
 refine ⟨a', c', by simp, by simpa using hr, by simpa using hcap, ?_⟩
 exact ((Below.refl _ w).alloc (Nat.le_refl _) _).trans ((grown_below (ownsRow_empty w w.heap.size _ 1 (Nat.le_refl _)) HG.out (Nat.le_refl _) (by simp)))

set_option maxRecDepth 100000 in
set_option maxHeartbeats 4000000 in
theorem remade_any (c : Cs) (hsm : c.Small) (pa : Option Addr) (pc : Nat) (w : World) (hp : PartsAt w pa c.parts) :
  Calls Tryz.prog 67 #[.agg #[.string c.ware, .int .i64 c.limit, .int .i64 c.by_, .slice pa c.parts.length pc]] w fun e w' =>
   ∃ PB pc' cells, e = .returned (.agg #[.string c.ware, .int .i64 c.limit, .int .i64 c.by_, .slice (some ⟨PB, 0, none⟩) c.parts.length pc']) ∧ c.parts.length ≤ pc' ∧ PartsOwn w.heap.size w' PB cells c.parts.length c.parts ∧ Below w.heap.size w w' := by
 have hl10 := hsm.1
 obtain ⟨w2, hw2⟩ : ∃ w2, (w.alloc (.cells #[.string c.ware, .int .i64 c.limit, .int .i64 c.by_, .slice pa c.parts.length pc] 24)).alloc (.cells #[.string ⟨#[]⟩, .int .i64 0, .int .i64 0, .slice none 0 0] 24) = w2 := ⟨_, rfl⟩
 have hB2 : Below w.heap.size w w2 := by rw [← hw2]; go_grown
 have b0 : Box w2 w.heap.size #[.string c.ware, .int .i64 c.limit, .int .i64 c.by_, .slice pa c.parts.length pc] 24 := by rw [← hw2]; exact (Box.new _ _ _).alloc _
 have b1 : Box w2 (w.heap.size + 1) #[.string ⟨#[]⟩, .int .i64 0, .int .i64 0, .slice none 0 0] 24 := by rw [← hw2]; exact Box.new' (by simp)
 have e0 := b0.cell
 have hcp := copiedP_any pa pc c.parts w w2 hp hB2 (by omega)
 have HCP := Lib.hid hcp
 have HW := Lib.hid hw2
 have HB0 := Lib.hid b0
 have HB1 := Lib.hid b1
 clear hcp hw2 b0 b1
 go_enter Tryz.func67, Tryz.ntmps67
 go_upto_region 1 with fail
 simp only [HW.out]
 go_wp2_with (go_at_call 104; (with_reducible refine HCP.out.mono ?_); rintro e w3 ⟨PB, pc', cells, rfl, hpc, hPB, hbx, hone, hb3⟩; have u0 := (HB0.out.below' hb3).rules; obtain ⟨u01, u02⟩ := u0; have HBX := Lib.hid hbx; have HONE := Lib.hid hone; have HB3 := Lib.hid hb3; clear hbx hone hb3)
 have hsz2 : w.heap.size + 1 < w2.heap.size := HB1.out.lt
 have hst : PartsOwn w.heap.size (w3.setCell ⟨w.heap.size, 3, none⟩ (.slice (some ⟨PB, 0, none⟩) c.parts.length pc')) PB cells 0 c.parts := by
  refine ⟨HBX.out.far (by simp; omega) _, by omega, fun i p hpi => ?_⟩
  obtain ⟨sa, sc, ra, rc, h1, h2, h3, h4, h5, h6, h7⟩ := HONE.out i p hpi
  exact ⟨sa, sc, ra, rc, h1, ints_far h2 (fun b o ha hl => by have := (h6 b o ha hl).2; simp; omega) _, ints_far h3 (fun b o ha hl => by have := (h7 b o ha hl).2; simp; omega) _, h4, h5, fun b o ha hl => ⟨(h6 b o ha hl).1, by simpa using (h6 b o ha hl).2⟩, fun b o ha hl => ⟨(h7 b o ha hl).1, by simpa using (h7 b o ha hl).2⟩⟩
 have hc0 : Box (w3.setCell ⟨w.heap.size, 3, none⟩ (.slice (some ⟨PB, 0, none⟩) c.parts.length pc')) w.heap.size #[.string c.ware, .int .i64 c.limit, .int .i64 c.by_, .slice (some ⟨PB, 0, none⟩) c.parts.length pc'] 24 := (HB0.out.below' HB3.out).set_ 3 _
 have hc1 : Box (w3.setCell ⟨w.heap.size, 3, none⟩ (.slice (some ⟨PB, 0, none⟩) c.parts.length pc')) (w.heap.size + 1) #[.string ⟨#[]⟩, .int .i64 0, .int .i64 0, .slice none 0 0] 24 := (HB1.out.below' HB3.out).far (by simp) _
 have hold : Below w.heap.size w (w3.setCell ⟨w.heap.size, 3, none⟩ (.slice (some ⟨PB, 0, none⟩) c.parts.length pc')) := (hB2.trans (HB3.out.mono hB2.size)).setCell (by simp) _
 generalize (w3.setCell ⟨w.heap.size, 3, none⟩ (.slice (some ⟨PB, 0, none⟩) c.parts.length pc')) = w4 at *
 clear u01 u02 e0
 have HST := Lib.hid hst
 have HC0 := Lib.hid hc0
 have HC1 := Lib.hid hc1
 have HOLD := Lib.hid hold
 clear hst hc0 hc1 hold HB0 HB1 HBX HONE HB3
 go_loopw [11] (fun i wr => ∃ (k : Nat) (cells : Array Value), k ≤ c.parts.length ∧ i = .int .i64 k ∧ PartsOwn w.heap.size wr PB cells k c.parts ∧ Box wr w.heap.size #[.string c.ware, .int .i64 c.limit, .int .i64 c.by_, .slice (some ⟨PB, 0, none⟩) c.parts.length pc'] 24 ∧ Box wr (w.heap.size + 1) #[.string ⟨#[]⟩, .int .i64 0, .int .i64 0, .slice none 0 0] 24 ∧ Below w.heap.size w wr) (fun i _ => c.parts.length - (intOf i).toNat)
 case atStart => exact ⟨0, cells, Nat.zero_le _, rfl, HST.out, HC0.out, HC1.out, HOLD.out⟩
 case round =>
  obtain ⟨k, cs, hk, rfl, hst, hc0, hc1, hold⟩ := hrel
  have HS := Lib.hid hst
  have H0 := Lib.hid hc0
  have H1 := Lib.hid hc1
  have HB := Lib.hid hold
  have u0 := hc0.rules
  obtain ⟨u01, u02⟩ := u0
  clear hst hc0 hc1 hold
  by_cases hlt : k < c.parts.length
  ·obtain ⟨p, hp⟩ := get_of_lt c.parts hlt
   obtain ⟨sa, sc, ra, rc, e1, e2, e3, e4, e5, e6, e7⟩ := HS.out.one k p hp
   have c0 : cs[k * 8]? = some (.slice sa p.sherds.length sc) := e1 0 _ rfl
   have c7 : cs[k * 8 + 7]? = some (.slice ra p.rests.length rc) := e1 7 _ rfl
   have hfar := HS.out.far
   have hne : PB ≠ w.heap.size := by omega
   have E2 := Lib.hid e2
   have E3 := Lib.hid e3
   have HP := Lib.hid hp
   have hls := (hsm.2.2 p (List.mem_of_getElem? hp))
   obtain ⟨hl1, hl2⟩ := hls
   have uP := HS.out.box.rules
   obtain ⟨uP1, uP2⟩ := uP
   clear e1 e2 e3 e6 e7 hp
   go_wp2_with fail
   have HL1 := Lib.hid (copied2_any sa sc p.sherds wr.drew E2.out (by omega))
   have HL2 : Hid (∀ W, Below wr.drew.heap.size wr.drew W → Calls Tryz.prog 98 #[.slice ra p.rests.length rc] W (Copy2Post W.heap.size p.rests W)) := Lib.hid (fun W hW => copied2_any ra rc p.rests W (E3.out.below (w := wr.drew) hW) (by omega))
   have HBD := Lib.hid (show Box wr.drew w.heap.size _ _ from H0.out)
   have HSD := Lib.hid (show Box wr.drew PB _ _ from HS.out.box)
   refine wp_region_held_drew (S := (fun w' => w'.cell? ⟨w.heap.size, 3, none⟩ = some (.slice (some ⟨PB, 0, none⟩) c.parts.length pc'))) (by kernel_rfl) ?_ (fun hh0 => ?_)
   ·((try dsimp only); go_keep)
   refine wpAnyH_take (i := 0) (v := ?_) rfl (by kernel_rfl) (by kernel_rfl) (by kernel_rfl) (fun _ _ _ h => h) (Or.inl ⟨by rfl, ?_⟩) hh0 ?_
   rotate_left
   ·(intro w hSw; (try dsimp only at hSw); go_simp; try with_reducible rfl)
   try simp only [Act.put, List.setIfInBounds_toArray]
   refine wpAnyH_take (i := 1) (v := ?_) rfl (by kernel_rfl) (by kernel_rfl) (by kernel_rfl) (fun _ _ _ h => h) (Or.inl ⟨by rfl, ?_⟩) hh0 ?_
   rotate_left
   ·(intro w hSw; (try dsimp only at hSw); go_simp; try with_reducible rfl)
   try simp only [Act.put]
   refine wpAnyH_take (i := 2) (v := ?_) rfl (by kernel_rfl) (by kernel_rfl) (by kernel_rfl) (fun _ _ _ h => h) (Or.inl ⟨by rfl, ?_⟩) hh0 ?_
   rotate_left
   ·(intro w hSw; (try dsimp only at hSw); go_simp; try with_reducible rfl)
   try simp only [Act.put]
   refine wpAnyH_take (i := 3) (v := ?_) rfl (by kernel_rfl) (by kernel_rfl) (by kernel_rfl) (fun _ _ _ h => h) (Or.inl ⟨by rfl, ?_⟩) hh0 ?_
   rotate_left
   ·(intro w hSw; (try dsimp only at hSw); go_simp; try with_reducible rfl)
   try simp only [Act.put]
   refine wpAnyH_take (i := 4) (v := ?_) rfl (by kernel_rfl) (by kernel_rfl) (by kernel_rfl) (fun _ _ _ h => h) (Or.inl ⟨by rfl, ?_⟩) hh0 ?_
   rotate_left
   ·(intro w hSw; (try dsimp only at hSw); go_simp; try with_reducible rfl)
   try simp only [Act.put]
   refine wpAnyH_take (i := 5) (v := ?_) rfl (by kernel_rfl) (by kernel_rfl) (by kernel_rfl) (fun _ _ _ h => h) (Or.inl ⟨by rfl, ?_⟩) hh0 ?_
   rotate_left
   ·(intro w hSw; (try dsimp only at hSw); go_simp; try with_reducible rfl)
   try simp only [Act.put]
   refine wpAnyH_take (i := 6) (v := ?_) rfl (by kernel_rfl) (by kernel_rfl) (by kernel_rfl) (fun _ _ _ h => h) (Or.inl ⟨by rfl, ?_⟩) hh0 ?_
   rotate_left
   ·(intro w hSw; (try dsimp only at hSw); go_simp; try with_reducible rfl)
   try simp only [Act.put]
   refine wpAnyH_take (i := 7) (v := ?_) rfl (by kernel_rfl) (by kernel_rfl) (by kernel_rfl) (fun _ _ _ h => h) (Or.inl ⟨by rfl, ?_⟩) hh0 ?_
   rotate_left
   ·(intro w hSw; (try dsimp only at hSw); go_simp; try with_reducible rfl)
   try simp only [Act.put]
   refine wpAnyH_take (i := 8) (v := ?_) rfl (by kernel_rfl) (by kernel_rfl) (by kernel_rfl) (fun _ _ _ h => h) (Or.inl ⟨by rfl, ?_⟩) hh0 ?_
   rotate_left
   ·(intro w hSw; (try dsimp only at hSw); go_simp; try with_reducible rfl)
   try simp only [Act.put]
   refine wpAnyH_take (i := 9) (v := ?_) rfl (by kernel_rfl) (by kernel_rfl) (by kernel_rfl) (fun _ _ _ h => h) (Or.inl ⟨by rfl, ?_⟩) hh0 ?_
   rotate_left
   ·(intro w hSw; (try dsimp only at hSw); go_simp; try with_reducible rfl)
   try simp only [Act.put]
   refine wpAnyH_take (i := 10) (v := ?_) rfl (by kernel_rfl) (by kernel_rfl) (by kernel_rfl) (fun _ _ _ h => h) (Or.inl ⟨by rfl, ?_⟩) hh0 ?_
   rotate_left
   ·(intro w hSw; (try dsimp only at hSw); go_simp; try with_reducible rfl)
   try simp only [Act.put]
   refine wpAnyH_take (i := 13) (v := ?_) rfl (by kernel_rfl) (by kernel_rfl) (by kernel_rfl) (fun _ _ _ h => h) (Or.inl ⟨by rfl, ?_⟩) hh0 ?_
   rotate_left
   ·(intro w hSw; (try dsimp only at hSw); go_simp; try with_reducible rfl)
   try simp only [Act.put]
   refine wpAnyH_take (i := 14) (v := ?_) rfl (by kernel_rfl) (by kernel_rfl) (by kernel_rfl) (fun _ _ _ h => h) (Or.inl ⟨by rfl, ?_⟩) hh0 ?_
   rotate_left
   ·(intro w hSw; (try dsimp only at hSw); go_simp; try with_reducible rfl)
   try simp only [Act.put]
   refine wpAnyH_take (i := 15) (v := ?_) rfl (by kernel_rfl) (by kernel_rfl) (by kernel_rfl) (fun _ _ _ h => h) (Or.inl ⟨by rfl, ?_⟩) hh0 ?_
   rotate_left
   ·(intro w hSw; (try dsimp only at hSw); go_simp; try with_reducible rfl)
   try simp only [Act.put]
   refine wpAnyH_take (i := 16) (v := ?_) rfl (by kernel_rfl) (by kernel_rfl) (by kernel_rfl) (fun _ _ _ h => h) (Or.inl ⟨by rfl, ?_⟩) hh0 ?_
   rotate_left
   ·(intro w hSw; (try dsimp only at hSw); go_simp; try with_reducible rfl)
   try simp only [Act.put]
   refine wpAnyH_take (i := 17) (v := ?_) rfl (by kernel_rfl) (by kernel_rfl) (by kernel_rfl) (fun _ _ _ h => h) (Or.inl ⟨by rfl, ?_⟩) hh0 ?_
   rotate_left
   ·(intro w hSw; (try dsimp only at hSw); go_simp; try with_reducible rfl)
   try simp only [Act.put]
   refine wpAnyH_ready (rs := [11, 18]) (by kernel_rfl) (by simp) ?_
   refine AllReadyH.cons rfl (fun K hK => ?_) ?_
   ·go_simp
    refine hK.out _ _ ?_ (fun hh1 => ?_)
    ·((try dsimp only); go_keep)
    clear hK K
    try simp only [Act.put, List.setIfInBounds_toArray, List.set_cons_zero, List.set_cons_succ]
    refine wpAnyH_ready (rs := [12, 18]) (by kernel_rfl) (by simp) ?_
    refine AllReadyH.cons rfl (fun K hK => ?_) ?_
    ·go_simp
     first
      | (refine HL1.out.mono ?_; rintro e W1 ⟨a1, c1, rfl, ho1, hcap1, hb1⟩; have uQ := (HBD.out.below' hb1).rules; obtain ⟨uQ1, uQ2⟩ := uQ; have uR := (HSD.out.below' hb1).rules; obtain ⟨uR1, uR2⟩ := uR; have HB1 := Lib.hid hb1; have HO1 := Lib.hid ho1; clear hb1 ho1)
      | (refine (HL2.out _ HB1.out).mono ?_; rintro e W2 ⟨a2, c2, rfl, ho2, hcap2, hb2⟩; have uQ := ((HBD.out.below' HB1.out).below' hb2).rules; obtain ⟨uS1, uS2⟩ := uQ; have uR := ((HSD.out.below' HB1.out).below' hb2).rules; obtain ⟨uT1, uT2⟩ := uR; have HB2 := Lib.hid hb2; have HO2 := Lib.hid ho2; clear hb2 ho2)
     refine hK.out _ _ ?_ (fun hh2 => ?_)
     ·((try dsimp only); go_keep)
     clear hK K
     try simp only [Act.put, List.setIfInBounds_toArray, List.set_cons_zero, List.set_cons_succ]
     refine wpAnyH_ready (rs := [18]) (by kernel_rfl) (by simp) ?_
     refine AllReadyH.cons rfl (fun K hK => ?_) ?_
     ·go_simp
      refine hK.out _ _ ?_ (fun hh3 => ?_)
      ·((try dsimp only); go_keep)
      clear hK K
      try simp only [Act.put, List.setIfInBounds_toArray, List.set_cons_zero, List.set_cons_succ]
      refine wpAnyH_ready (rs := [19]) (by kernel_rfl) (by simp) ?_
      refine AllReadyH.cons rfl (fun K hK => ?_) ?_
      ·go_simp
       first
        | (refine HL1.out.mono ?_; rintro e W1 ⟨a1, c1, rfl, ho1, hcap1, hb1⟩; have uQ := (HBD.out.below' hb1).rules; obtain ⟨uQ1, uQ2⟩ := uQ; have uR := (HSD.out.below' hb1).rules; obtain ⟨uR1, uR2⟩ := uR; have HB1 := Lib.hid hb1; have HO1 := Lib.hid ho1; clear hb1 ho1)
        | (refine (HL2.out _ HB1.out).mono ?_; rintro e W2 ⟨a2, c2, rfl, ho2, hcap2, hb2⟩; have uQ := ((HBD.out.below' HB1.out).below' hb2).rules; obtain ⟨uS1, uS2⟩ := uQ; have uR := ((HSD.out.below' HB1.out).below' hb2).rules; obtain ⟨uT1, uT2⟩ := uR; have HB2 := Lib.hid hb2; have HO2 := Lib.hid ho2; clear hb2 ho2)
       refine hK.out _ _ ?_ (fun hh4 => ?_)
       ·((try dsimp only); go_keep)
       clear hK K
       try simp only [Act.put, List.setIfInBounds_toArray, List.set_cons_zero, List.set_cons_succ]
       refine wpAnyH_take (i := 20) (v := ?_) rfl (by kernel_rfl) (by kernel_rfl) (by kernel_rfl) (fun _ _ _ h => h) (Or.inl ⟨by rfl, ?_⟩) hh4 ?_
       rotate_left
       ·(intro w hSw; (try dsimp only at hSw); go_simp; try with_reducible rfl)
       try simp only [Act.put, List.setIfInBounds_toArray]
       refine wpAnyH_take (i := 21) (v := ?_) rfl (by kernel_rfl) (by kernel_rfl) (by kernel_rfl) (fun _ _ _ h => h) (Or.inl ⟨by rfl, ?_⟩) hh4 ?_
       rotate_left
       ·(intro w hSw; (try dsimp only at hSw); go_simp; try with_reducible rfl)
       try simp only [Act.put]
       refine wpAnyH_ready (rs := [22]) (by kernel_rfl) (by simp) ?_
       refine AllReadyH.cons rfl (fun K hK => ?_) ?_
       ·go_simp
        refine hK.out _ _ ?_ (fun hh5 => ?_)
        ·((try dsimp only); go_keep)
        clear hK K
        try simp only [Act.put, List.setIfInBounds_toArray, List.set_cons_zero, List.set_cons_succ]
        refine wpAnyH_take (i := 23) (v := ?_) rfl (by kernel_rfl) (by kernel_rfl) (by kernel_rfl) (fun _ _ _ h => h) (Or.inl ⟨by rfl, ?_⟩) hh5 ?_
        rotate_left
        ·(intro w hSw; (try dsimp only at hSw); go_simp; try with_reducible rfl)
        try simp only [Act.put, List.setIfInBounds_toArray]
        refine wpAnyH_take (i := 24) (v := ?_) rfl (by kernel_rfl) (by kernel_rfl) (by kernel_rfl) (fun _ _ _ h => h) (Or.inl ⟨by rfl, ?_⟩) hh5 ?_
        rotate_left
        ·(intro w hSw; (try dsimp only at hSw); go_simp; try with_reducible rfl)
        try simp only [Act.put]
        refine wpAnyH_ready (rs := [25]) (by kernel_rfl) (by simp) ?_
        refine AllReadyH.cons rfl (fun K hK => ?_) ?_
        ·go_simp
         refine hK.out _ _ ?_ (fun hh6 => ?_)
         ·((try dsimp only); go_keep)
         clear hK K
         try simp only [Act.put, List.setIfInBounds_toArray, List.set_cons_zero, List.set_cons_succ]
         refine wpAnyH_done (by kernel_rfl) ?_ _
         go_wp2_with fail
         go_roundw
         case rel =>
          have hb12 : Below wr.heap.size wr W2 := ((Below.refl _ wr).drew).trans (show Below wr.heap.size wr.drew W2 from HB1.out.trans (HB2.out.mono HB1.out.size))
          refine ⟨k + 1, _, by omega, by go_num, partsOwn_step HS.out HP.out hb12 (HO1.out.below HB2.out) (HO2.out.less HB1.out.size) hcap1 hcap2, ?_, ?_, ?_⟩
          ·exact ((H0.out.below' hb12).far (by simp; omega) _).far (by simp; omega) _
          ·exact ((H1.out.below' hb12).far (by simp; omega) _).far (by simp; omega) _
          ·exact ((HB.out.trans (hb12.mono HB.out.size)).setCell (by simp; omega) _).setCell (by simp; omega) _
         case measure => simp [intOf]; omega
        exact AllReadyH.nil
       exact AllReadyH.nil
      exact AllReadyH.nil
     exact AllReadyH.nil
    refine AllReadyH.cons rfl (fun K hK => ?_) ?_
    ·go_simp
     refine hK.out _ _ ?_ (fun hh7 => ?_)
     ·((try dsimp only); go_keep)
     clear hK K
     try simp only [Act.put, List.setIfInBounds_toArray, List.set_cons_zero, List.set_cons_succ]
     refine wpAnyH_ready (rs := [12]) (by kernel_rfl) (by simp) ?_
     refine AllReadyH.cons rfl (fun K hK => ?_) ?_
     ·go_simp
      first
       | (refine HL1.out.mono ?_; rintro e W1 ⟨a1, c1, rfl, ho1, hcap1, hb1⟩; have uQ := (HBD.out.below' hb1).rules; obtain ⟨uQ1, uQ2⟩ := uQ; have uR := (HSD.out.below' hb1).rules; obtain ⟨uR1, uR2⟩ := uR; have HB1 := Lib.hid hb1; have HO1 := Lib.hid ho1; clear hb1 ho1)
       | (refine (HL2.out _ HB1.out).mono ?_; rintro e W2 ⟨a2, c2, rfl, ho2, hcap2, hb2⟩; have uQ := ((HBD.out.below' HB1.out).below' hb2).rules; obtain ⟨uS1, uS2⟩ := uQ; have uR := ((HSD.out.below' HB1.out).below' hb2).rules; obtain ⟨uT1, uT2⟩ := uR; have HB2 := Lib.hid hb2; have HO2 := Lib.hid ho2; clear hb2 ho2)
      refine hK.out _ _ ?_ (fun hh8 => ?_)
      ·((try dsimp only); go_keep)
      clear hK K
      try simp only [Act.put, List.setIfInBounds_toArray, List.set_cons_zero, List.set_cons_succ]
      refine wpAnyH_ready (rs := [19]) (by kernel_rfl) (by simp) ?_
      refine AllReadyH.cons rfl (fun K hK => ?_) ?_
      ·go_simp
       first
        | (refine HL1.out.mono ?_; rintro e W1 ⟨a1, c1, rfl, ho1, hcap1, hb1⟩; have uQ := (HBD.out.below' hb1).rules; obtain ⟨uQ1, uQ2⟩ := uQ; have uR := (HSD.out.below' hb1).rules; obtain ⟨uR1, uR2⟩ := uR; have HB1 := Lib.hid hb1; have HO1 := Lib.hid ho1; clear hb1 ho1)
        | (refine (HL2.out _ HB1.out).mono ?_; rintro e W2 ⟨a2, c2, rfl, ho2, hcap2, hb2⟩; have uQ := ((HBD.out.below' HB1.out).below' hb2).rules; obtain ⟨uS1, uS2⟩ := uQ; have uR := ((HSD.out.below' HB1.out).below' hb2).rules; obtain ⟨uT1, uT2⟩ := uR; have HB2 := Lib.hid hb2; have HO2 := Lib.hid ho2; clear hb2 ho2)
       refine hK.out _ _ ?_ (fun hh9 => ?_)
       ·((try dsimp only); go_keep)
       clear hK K
       try simp only [Act.put, List.setIfInBounds_toArray, List.set_cons_zero, List.set_cons_succ]
       refine wpAnyH_take (i := 20) (v := ?_) rfl (by kernel_rfl) (by kernel_rfl) (by kernel_rfl) (fun _ _ _ h => h) (Or.inl ⟨by rfl, ?_⟩) hh9 ?_
       rotate_left
       ·(intro w hSw; (try dsimp only at hSw); go_simp; try with_reducible rfl)
       try simp only [Act.put, List.setIfInBounds_toArray]
       refine wpAnyH_take (i := 21) (v := ?_) rfl (by kernel_rfl) (by kernel_rfl) (by kernel_rfl) (fun _ _ _ h => h) (Or.inl ⟨by rfl, ?_⟩) hh9 ?_
       rotate_left
       ·(intro w hSw; (try dsimp only at hSw); go_simp; try with_reducible rfl)
       try simp only [Act.put]
       refine wpAnyH_ready (rs := [22]) (by kernel_rfl) (by simp) ?_
       refine AllReadyH.cons rfl (fun K hK => ?_) ?_
       ·go_simp
        refine hK.out _ _ ?_ (fun hh10 => ?_)
        ·((try dsimp only); go_keep)
        clear hK K
        try simp only [Act.put, List.setIfInBounds_toArray, List.set_cons_zero, List.set_cons_succ]
        refine wpAnyH_take (i := 23) (v := ?_) rfl (by kernel_rfl) (by kernel_rfl) (by kernel_rfl) (fun _ _ _ h => h) (Or.inl ⟨by rfl, ?_⟩) hh10 ?_
        rotate_left
        ·(intro w hSw; (try dsimp only at hSw); go_simp; try with_reducible rfl)
        try simp only [Act.put, List.setIfInBounds_toArray]
        refine wpAnyH_take (i := 24) (v := ?_) rfl (by kernel_rfl) (by kernel_rfl) (by kernel_rfl) (fun _ _ _ h => h) (Or.inl ⟨by rfl, ?_⟩) hh10 ?_
        rotate_left
        ·(intro w hSw; (try dsimp only at hSw); go_simp; try with_reducible rfl)
        try simp only [Act.put]
        refine wpAnyH_ready (rs := [25]) (by kernel_rfl) (by simp) ?_
        refine AllReadyH.cons rfl (fun K hK => ?_) ?_
        ·go_simp
         refine hK.out _ _ ?_ (fun hh11 => ?_)
         ·((try dsimp only); go_keep)
         clear hK K
         try simp only [Act.put, List.setIfInBounds_toArray, List.set_cons_zero, List.set_cons_succ]
         refine wpAnyH_done (by kernel_rfl) ?_ _
         go_wp2_with fail
         go_roundw
         case rel =>
          have hb12 : Below wr.heap.size wr W2 := ((Below.refl _ wr).drew).trans (show Below wr.heap.size wr.drew W2 from HB1.out.trans (HB2.out.mono HB1.out.size))
          refine ⟨k + 1, _, by omega, by go_num, partsOwn_step HS.out HP.out hb12 (HO1.out.below HB2.out) (HO2.out.less HB1.out.size) hcap1 hcap2, ?_, ?_, ?_⟩
          ·exact ((H0.out.below' hb12).far (by simp; omega) _).far (by simp; omega) _
          ·exact ((H1.out.below' hb12).far (by simp; omega) _).far (by simp; omega) _
          ·exact ((HB.out.trans (hb12.mono HB.out.size)).setCell (by simp; omega) _).setCell (by simp; omega) _
         case measure => simp [intOf]; omega
        exact AllReadyH.nil
       exact AllReadyH.nil
      exact AllReadyH.nil
     exact AllReadyH.nil
    exact AllReadyH.nil
   refine AllReadyH.cons rfl (fun K hK => ?_) ?_
   ·go_simp
    refine hK.out _ _ ?_ (fun hh12 => ?_)
    ·((try dsimp only); go_keep)
    clear hK K
    try simp only [Act.put, List.setIfInBounds_toArray, List.set_cons_zero, List.set_cons_succ]
    refine wpAnyH_ready (rs := [11]) (by kernel_rfl) (by simp) ?_
    refine AllReadyH.cons rfl (fun K hK => ?_) ?_
    ·go_simp
     refine hK.out _ _ ?_ (fun hh13 => ?_)
     ·((try dsimp only); go_keep)
     clear hK K
     try simp only [Act.put, List.setIfInBounds_toArray, List.set_cons_zero, List.set_cons_succ]
     refine wpAnyH_ready (rs := [12]) (by kernel_rfl) (by simp) ?_
     refine AllReadyH.cons rfl (fun K hK => ?_) ?_
     ·go_simp
      first
       | (refine HL1.out.mono ?_; rintro e W1 ⟨a1, c1, rfl, ho1, hcap1, hb1⟩; have uQ := (HBD.out.below' hb1).rules; obtain ⟨uQ1, uQ2⟩ := uQ; have uR := (HSD.out.below' hb1).rules; obtain ⟨uR1, uR2⟩ := uR; have HB1 := Lib.hid hb1; have HO1 := Lib.hid ho1; clear hb1 ho1)
       | (refine (HL2.out _ HB1.out).mono ?_; rintro e W2 ⟨a2, c2, rfl, ho2, hcap2, hb2⟩; have uQ := ((HBD.out.below' HB1.out).below' hb2).rules; obtain ⟨uS1, uS2⟩ := uQ; have uR := ((HSD.out.below' HB1.out).below' hb2).rules; obtain ⟨uT1, uT2⟩ := uR; have HB2 := Lib.hid hb2; have HO2 := Lib.hid ho2; clear hb2 ho2)
      refine hK.out _ _ ?_ (fun hh14 => ?_)
      ·((try dsimp only); go_keep)
      clear hK K
      try simp only [Act.put, List.setIfInBounds_toArray, List.set_cons_zero, List.set_cons_succ]
      refine wpAnyH_ready (rs := [19]) (by kernel_rfl) (by simp) ?_
      refine AllReadyH.cons rfl (fun K hK => ?_) ?_
      ·go_simp
       first
        | (refine HL1.out.mono ?_; rintro e W1 ⟨a1, c1, rfl, ho1, hcap1, hb1⟩; have uQ := (HBD.out.below' hb1).rules; obtain ⟨uQ1, uQ2⟩ := uQ; have uR := (HSD.out.below' hb1).rules; obtain ⟨uR1, uR2⟩ := uR; have HB1 := Lib.hid hb1; have HO1 := Lib.hid ho1; clear hb1 ho1)
        | (refine (HL2.out _ HB1.out).mono ?_; rintro e W2 ⟨a2, c2, rfl, ho2, hcap2, hb2⟩; have uQ := ((HBD.out.below' HB1.out).below' hb2).rules; obtain ⟨uS1, uS2⟩ := uQ; have uR := ((HSD.out.below' HB1.out).below' hb2).rules; obtain ⟨uT1, uT2⟩ := uR; have HB2 := Lib.hid hb2; have HO2 := Lib.hid ho2; clear hb2 ho2)
       refine hK.out _ _ ?_ (fun hh15 => ?_)
       ·((try dsimp only); go_keep)
       clear hK K
       try simp only [Act.put, List.setIfInBounds_toArray, List.set_cons_zero, List.set_cons_succ]
       refine wpAnyH_take (i := 20) (v := ?_) rfl (by kernel_rfl) (by kernel_rfl) (by kernel_rfl) (fun _ _ _ h => h) (Or.inl ⟨by rfl, ?_⟩) hh15 ?_
       rotate_left
       ·(intro w hSw; (try dsimp only at hSw); go_simp; try with_reducible rfl)
       try simp only [Act.put, List.setIfInBounds_toArray]
       refine wpAnyH_take (i := 21) (v := ?_) rfl (by kernel_rfl) (by kernel_rfl) (by kernel_rfl) (fun _ _ _ h => h) (Or.inl ⟨by rfl, ?_⟩) hh15 ?_
       rotate_left
       ·(intro w hSw; (try dsimp only at hSw); go_simp; try with_reducible rfl)
       try simp only [Act.put]
       refine wpAnyH_ready (rs := [22]) (by kernel_rfl) (by simp) ?_
       refine AllReadyH.cons rfl (fun K hK => ?_) ?_
       ·go_simp
        refine hK.out _ _ ?_ (fun hh16 => ?_)
        ·((try dsimp only); go_keep)
        clear hK K
        try simp only [Act.put, List.setIfInBounds_toArray, List.set_cons_zero, List.set_cons_succ]
        refine wpAnyH_take (i := 23) (v := ?_) rfl (by kernel_rfl) (by kernel_rfl) (by kernel_rfl) (fun _ _ _ h => h) (Or.inl ⟨by rfl, ?_⟩) hh16 ?_
        rotate_left
        ·(intro w hSw; (try dsimp only at hSw); go_simp; try with_reducible rfl)
        try simp only [Act.put, List.setIfInBounds_toArray]
        refine wpAnyH_take (i := 24) (v := ?_) rfl (by kernel_rfl) (by kernel_rfl) (by kernel_rfl) (fun _ _ _ h => h) (Or.inl ⟨by rfl, ?_⟩) hh16 ?_
        rotate_left
        ·(intro w hSw; (try dsimp only at hSw); go_simp; try with_reducible rfl)
        try simp only [Act.put]
        refine wpAnyH_ready (rs := [25]) (by kernel_rfl) (by simp) ?_
        refine AllReadyH.cons rfl (fun K hK => ?_) ?_
        ·go_simp
         refine hK.out _ _ ?_ (fun hh17 => ?_)
         ·((try dsimp only); go_keep)
         clear hK K
         try simp only [Act.put, List.setIfInBounds_toArray, List.set_cons_zero, List.set_cons_succ]
         refine wpAnyH_done (by kernel_rfl) ?_ _
         go_wp2_with fail
         go_roundw
         case rel =>
          have hb12 : Below wr.heap.size wr W2 := ((Below.refl _ wr).drew).trans (show Below wr.heap.size wr.drew W2 from HB1.out.trans (HB2.out.mono HB1.out.size))
          refine ⟨k + 1, _, by omega, by go_num, partsOwn_step HS.out HP.out hb12 (HO1.out.below HB2.out) (HO2.out.less HB1.out.size) hcap1 hcap2, ?_, ?_, ?_⟩
          ·exact ((H0.out.below' hb12).far (by simp; omega) _).far (by simp; omega) _
          ·exact ((H1.out.below' hb12).far (by simp; omega) _).far (by simp; omega) _
          ·exact ((HB.out.trans (hb12.mono HB.out.size)).setCell (by simp; omega) _).setCell (by simp; omega) _
         case measure => simp [intOf]; omega
        exact AllReadyH.nil
       exact AllReadyH.nil
      exact AllReadyH.nil
     exact AllReadyH.nil
    exact AllReadyH.nil
   exact AllReadyH.nil
  ·have hbx := H1.out
   have uV := hbx.rules
   obtain ⟨uV1, uV2⟩ := uV
   clear hbx
   go_wp2_with fail
   have hk' : k = c.parts.length := by omega
   have hf : Box ((((wr.setCell ⟨w.heap.size + 1, 0, none⟩ (.string c.ware)).setCell ⟨w.heap.size + 1, 1, none⟩ (.int .i64 c.limit)).setCell ⟨w.heap.size + 1, 2, none⟩ (.int .i64 c.by_)).setCell ⟨w.heap.size + 1, 3, none⟩ (.slice (some ⟨PB, 0, none⟩) c.parts.length pc')) (w.heap.size + 1) #[.string c.ware, .int .i64 c.limit, .int .i64 c.by_, .slice (some ⟨PB, 0, none⟩) c.parts.length pc'] 24 := by
    have := (((H1.out.set_ 0 (.string c.ware)).set_ 1 (.int .i64 c.limit)).set_ 2 (.int .i64 c.by_)).set_ 3 (.slice (some ⟨PB, 0, none⟩) c.parts.length pc')
    simpa using this
   have hfar := HS.out.far
   have hs := HS.out
   rw [hk'] at hs
   refine bodyPost_ret (results_cell rfl rfl (run_loadVar_row _ _ 24 24 _ (0, 0) _ hf Tryz.underlying24 rfl case_size)) rfl ?_
   refine ⟨PB, pc', cs, rfl, hpc, ?_, ?_⟩
   ·exact (((hs.farB (by omega) _).farB (by omega) _).farB (by omega) _).farB (by omega) _
   ·exact (((HB.out.setCell (by simp) _).setCell (by simp) _).setCell (by simp) _).setCell (by simp) _
end Go.Proofs.YtpjcnkajimgagaaGreat
