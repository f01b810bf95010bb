/- The reference's without: a case without an Id. -/
import Derived.Test.YtpjcnkajimgagaaGreatMCopyR
import Derived.Test.YtpjcnkajimgagaaGreatMPlainB
import Derived.Test.YtpjcnkajimgagaaGreatMLin
import Derived.Deep.DeepCutAuto
set_option linter.unusedSimpArgs false
set_option linter.unusedVariables false
namespace Go.Proofs.YtpjcnkajimgagaaGreat
open Go.RowKit
attribute [local go_sem] Oper.semAt_some

/-- the lists of a part of one's own: between B and M, not in the row g -/
def PrtL (B M g : Nat) (W : World) (z : PrtM) : Prop :=
 Ints W z.2.1.1 z.1.sherds ∧ Ints W z.2.2.1 z.1.rests ∧ z.1.sherds.length ≤ z.2.1.2 ∧ z.1.rests.length ≤ z.2.2.2 ∧ (∀ b o, z.2.1.1 = some ⟨b, o, none⟩ → 0 < z.1.sherds.length → B ≤ b ∧ b < M ∧ b ≠ g) ∧ (∀ b o, z.2.2.1 = some ⟨b, o, none⟩ → 0 < z.1.rests.length → B ≤ b ∧ b < M ∧ b ≠ g)
/-- parts in a row of one's own that is written in place -/
def PartsR (B M : Nat) (a : Option Addr) (W : World) (zs : List PrtM) : Prop :=
 ∀ i z, zs[i]? = some z → ∃ g, a = some ⟨g, 0, none⟩ ∧ B ≤ g ∧ g < M ∧ W.rangeAt g (i * 8) (prtRow z) ∧ W.there g (i * 8) 8 ∧ PrtL B M g W z
theorem PartsV.toR {B : Nat} {W : World} {a : Option Addr} {k cap : Nat} {l : List Prt} (h : PartsV B W (.slice a k cap) l) : ∃ zs, zs.map (·.1) = l ∧ PartsR B W.heap.size a W zs := by
 obtain ⟨zs, h1, h2, h3⟩ := h
 refine ⟨zs, h1, fun i z hz => ?_⟩
 have hi : i < l.length := by rw [← h1, List.length_map]; exact (List.getElem?_eq_some_iff.1 hz).1
 obtain ⟨q1, q2, q3, q4, q5, q6⟩ := h3 z (List.mem_of_getElem? hz)
 obtain ⟨hlen, ⟨_, h0⟩ | ⟨g, c, cur, hv, hBg, hg, hlc, hcm, hcs, htk⟩⟩ := id h2
 ·omega
 ·cases hv
  have hgM : g < W.heap.size := (h2.lt g rfl).2
  have hrng : W.rangeAt g (i * 8) (prtRow z) := fun j v hv => by
   have hj : j < 8 := (List.getElem?_eq_some_iff.1 hv).1
   have := h2.cells (g := g) rfl (i * 8 + j) v (by rw [flat8_at hz hj]; exact hv)
   rw [Addr.add_mid, Nat.zero_add] at this
   exact this
  refine ⟨g, rfl, hBg, hgM, hrng, fun j hj => ⟨?_, ?_⟩, q1, q2, q3, q4, fun b o ha hl => ⟨(q5 b o ha hl).1, ints_block q1 ha hl, fun e => (q5 b o ha hl).2 (by simp [Value.ownBlock, e])⟩, fun b o ha hl => ⟨(q6 b o ha hl).1, ints_block q2 ha hl, fun e => (q6 b o ha hl).2 (by simp [Value.ownBlock, e])⟩⟩
  ·rw [hrng j _ (List.getElem?_eq_getElem (by rw [prtRow_len]; exact hj))]; rfl
  ·have hb : Box W g cur 52 := hg
   exact hb.frozen _
theorem PartsR.keep {K : Nat → Prop} {B M : Nat} {a : Option Addr} {W W' : World} {zs : List PrtM} (h : PartsR B M a W zs) (hk : Keep K W W') (hK : ∀ k, B ≤ k → k < M → K k) : PartsR B M a W' zs := fun i z hz => by
 obtain ⟨g, ha, hB, hM, h1, h2, q1, q2, q3, q4, q5, q6⟩ := h i z hz
 have hlt : g < W.heap.size := lt_of_cell (h1 0 _ rfl)
 have hb : W'.heap[g]? = W.heap[g]? := hk.block g (hK g hB hM) hlt
 exact ⟨g, ha, hB, hM, fun j v hv => hk.cell (hK g hB hM) (h1 j v hv), fun j hj => by
  have := h2 j hj
  rw [World.cell?_of_block (a := ⟨g, i * 8 + j, none⟩) hb, World.frozen?_of_block (a := ⟨g, i * 8 + j, none⟩) hb]; exact this,
  ints_keep q1 hk (fun b o ha hl => hK b (q5 b o ha hl).1 (q5 b o ha hl).2.1), ints_keep q2 hk (fun b o ha hl => hK b (q6 b o ha hl).1 (q6 b o ha hl).2.1), q3, q4, q5, q6⟩
theorem PartsR.below {B M : Nat} {a : Option Addr} {W W' : World} {zs : List PrtM} (h : PartsR B M a W zs) (hb : Below W.heap.size W W') : PartsR B M a W' zs := h.keep (K := fun _ => True) (Keep.of_below' hb) (fun _ _ _ => trivial)
theorem PartsR.at_ {B M : Nat} {a : Option Addr} {W : World} {zs : List PrtM} (h : PartsR B M a W zs) : PartsAt W a (zs.map (·.1)) := fun i p hp => by
 rw [List.getElem?_map] at hp
 obtain ⟨z, hz, rfl⟩ := Option.map_eq_some_iff.1 hp
 obtain ⟨g, ha, hB, hM, h1, h2, q1, q2, q3, q4, q5, q6⟩ := h i z hz
 exact ⟨g, 0, ha, z.2.1.1, z.2.1.2, z.2.2.1, z.2.2.2, fun j v hv => by rw [Nat.zero_add]; exact h1 j v hv, q1, q2, q3, q4⟩
theorem size_setCells (W : World) (g : Nat) : ∀ (vs : List Value) (o : Nat), (W.setCells g o vs).heap.size = W.heap.size := by
 intro vs
 induction vs generalizing W with
 | nil => intro o; rfl
 | cons v vs ih => intro o; unfold World.setCells; rw [ih]; simp
theorem box_setCells {W : World} {b : Nat} {cs : Array Value} {t : TypeId} (h : Box W b cs t) {g : Nat} (hg : b ≠ g) : ∀ (o : Nat) (vs : List Value), Box (W.setCells g o vs) b cs t := by
 intro o vs
 induction vs generalizing W o with
 | nil => exact h
 | cons v vs ih => unfold World.setCells; exact ih (h.far (by exact hg) _) _
theorem run_store_part {W : World} {g o : Nat} {p : Prt} {sa : Option Addr} {sc : Nat} {ra : Option Addr} {rc : Nat} (ht : W.there g o 8) :
  (Instr.storeAt 52 (.pointer (some ⟨g, o, none⟩)) (.agg #[.slice sa p.sherds.length sc, .int .i64 p.span.low, .int .i64 p.span.high, .int .i64 p.span.lowBy, .int .i64 p.span.highBy, .bool p.foot, .int .i64 p.footBy, .slice ra p.rests.length rc])).run Tryz.prog W = .ok () (W.setCells g o (prtRow (p, (sa, sc), (ra, rc)))) := by
 have h1 : (prtCells p sa sc ra rc).toArray.size = 8 := by simp [prtCells]
 have := run_storeAt_mid (P := Tryz.prog) W g o 52 (prtCells p sa sc ra rc).toArray (by rw [h1]; exact ht) (part_info p sa sc ra rc) (all_oneCell_toArray (prt_one p sa sc ra rc))
 rw [List.toList_toArray] at this
 exact this
theorem ints_cells {W : World} {a : Option Addr} {l : List Int} (h : Ints W a l) {g : Nat} (hp : ∀ b o, a = some ⟨b, o, none⟩ → 0 < l.length → b ≠ g) (o : Nat) (vs : List Value) : Ints (W.setCells g o vs) a l := fun k u hu => by
 obtain ⟨b, o', ha, hc⟩ := h k u hu
 have hl : 0 < l.length := by have := (List.getElem?_eq_some_iff.1 hu).1; simp at this; omega
 refine ⟨b, o', ha, ?_⟩
 rw [World.cell?_setCells_out g vs o W ⟨b, o' + k, none⟩ (fun e => absurd e (hp b o' ha hl))]
 exact hc
/-- a part is laid anew in its place -/
theorem PartsR.set_ {B M : Nat} {a : Option Addr} {W : World} {zs : List PrtM} (h : PartsR B M a W zs) {i : Nat} {z : PrtM} {p : Prt} (hz : zs[i]? = some z) (hs : p.sherds = z.1.sherds) (hr : p.rests = z.1.rests) {g : Nat} (hg : a = some ⟨g, 0, none⟩) :
  PartsR B M a (W.setCells g (i * 8) (prtRow (p, z.2))) (zs.set i (p, z.2)) := fun k y hy => by
 have hth : W.there g (i * 8) 8 := by
  obtain ⟨g', ha, _, _, _, h2, _⟩ := h i z hz
  rw [hg] at ha; cases ha; exact h2
 have lists : ∀ y : PrtM, PrtL B M g W y → PrtL B M g (W.setCells g (i * 8) (prtRow (p, z.2))) y := fun y ⟨q1, q2, q3, q4, q5, q6⟩ =>
  ⟨ints_cells q1 (fun b o ha hl => (q5 b o ha hl).2.2) _ _, ints_cells q2 (fun b o ha hl => (q6 b o ha hl).2.2) _ _, q3, q4, q5, q6⟩
 by_cases hki : k = i
 ·subst hki
  obtain ⟨g', ha, hB, hM, h1, h2, hq⟩ := h k z hz
  rw [hg] at ha; cases ha
  rw [List.getElem?_set_self (by exact (List.getElem?_eq_some_iff.1 hz).1)] at hy
  cases hy
  refine ⟨g, hg, hB, hM, World.rangeAt_setCells_same _ _ _ _ hth, World.there_setCells hth _ _ _, ?_⟩
  obtain ⟨q1, q2, q3, q4, q5, q6⟩ := lists z hq
  unfold PrtL
  dsimp only
  rw [hs, hr]
  exact ⟨q1, q2, q3, q4, q5, q6⟩
 ·rw [List.getElem?_set_ne (fun e => hki e.symm)] at hy
  obtain ⟨g', ha, hB, hM, h1, h2, hq⟩ := h k y hy
  rw [hg] at ha; cases ha
  refine ⟨g, hg, hB, hM, World.rangeAt_setCells_apart h1 _ _ _ ?_, World.there_setCells h2 _ _ _, lists y hq⟩
  rw [prtRow_len, prtRow_len]
  omega
/-- parts that read the same while the blocks of Q stay -/
def OwnP (Q : Nat → Prop) (W : World) (a : Option Addr) (l : List Prt) : Prop := ∀ W', Keep Q W W' → PartsAt W' a l
theorem OwnP.at_ {Q : Nat → Prop} {W : World} {a : Option Addr} {l : List Prt} (h : OwnP Q W a l) : PartsAt W a l := h W (Keep.refl _ _)
theorem OwnP.keep {Q : Nat → Prop} {W W' : World} {a : Option Addr} {l : List Prt} (h : OwnP Q W a l) (hk : Keep Q W W') : OwnP Q W' a l := fun W2 h2 => h W2 (hk.trans h2)
theorem OwnP.mono {Q Q' : Nat → Prop} {W : World} {a : Option Addr} {l : List Prt} (h : OwnP Q W a l) (hq : ∀ k, Q k → Q' k) : OwnP Q' W a l := fun W2 h2 => h W2 (h2.mono hq)
theorem OwnP.below {Q : Nat → Prop} {W W' : World} {a : Option Addr} {l : List Prt} (h : OwnP Q W a l) (hb : Below W.heap.size W W') : OwnP Q W' a l := h.keep (Keep.of_below' hb)
theorem PartsR.own {B M : Nat} {W : World} {a : Option Addr} {zs : List PrtM} (h : PartsR B M a W zs) : OwnP (fun k => B ≤ k) W a (zs.map (·.1)) := fun W2 h2 => (h.keep h2 (fun k hk _ => hk)).at_
theorem PartsV.own {B : Nat} {W : World} {a : Option Addr} {k cap : Nat} {l : List Prt} (h : PartsV B W (.slice a k cap) l) : OwnP (fun k => B ≤ k) W a l := fun W2 h2 => (h.keep h2 (fun k hk => hk)).at_
/-- a case, its parts in memory of its own -/
def CaseRPost (c : Cs) (w : World) (e : Ending) (w' : World) : Prop := ∃ a cap, e = .returned (.agg #[.string c.ware, .int .i64 c.limit, .int .i64 c.by_, .slice a c.parts.length cap]) ∧ c.parts.length ≤ cap ∧ OwnP (fun k => w.heap.size ≤ k) w' a c.parts ∧ Below w.heap.size w w'
theorem hit_one {id v : Int} (h : id ≠ 0) : hitB (fun n => n == id) v = (v == id) := by
 unfold hitB
 rcases h1 : (v == id) with _ | _
 ·simp at h1 ⊢; intro _; exact h1
 ·have : v = id := by simpa using h1
  simp [this, h]
theorem wout_one {id : Int} (h : id ≠ 0) (p : Prt) : woutP (fun n => n == id) p = ⟨p.sherds, ⟨if p.span.lowBy == id then 0 else p.span.low, if p.span.highBy == id then 1000 else p.span.high, if p.span.lowBy == id then 0 else p.span.lowBy, if p.span.highBy == id then 0 else p.span.highBy⟩, if p.footBy == id then false else p.foot, if p.footBy == id then 0 else p.footBy, p.rests⟩ := by
 rw [woutP_eq]; simp only [hit_one h]
theorem ware_eq (gone : Int → Bool) (c : Cs) : (woutC gone c).ware = c.ware := by rw [woutC_eq]
set_option maxRecDepth 100000 in
set_option maxHeartbeats 1000000 in
theorem withoutR_any (c : Cs) (hsm : c.Small) (pa : Option Addr) (pc : Nat) (id : Int) (hid : id ≠ 0) (w : World) (hp : PartsAt w pa c.parts) :
  Calls Tryz.prog 63 #[.agg #[.string c.ware, .int .i64 c.limit, .int .i64 c.by_, .slice pa c.parts.length pc], .int .i64 id] w (CaseRPost (woutC (fun n => n == id) c) w) := by
 obtain ⟨w1, hw1⟩ : ∃ w1, (w.alloc (.cells #[.string c.ware, .int .i64 c.limit, .int .i64 c.by_, .slice pa c.parts.length pc] 24)).alloc (.cells #[.string ⟨#[]⟩, .int .i64 0, .int .i64 0, .slice none 0 0] 24) = w1 := ⟨_, rfl⟩
 have hB1 : Below w.heap.size w w1 := by rw [← hw1]; go_grown
 have hz1 : w1.heap.size = w.heap.size + 2 := by rw [← hw1]; simp
 have g1 : Box w1 w.heap.size #[.string c.ware, .int .i64 c.limit, .int .i64 c.by_, .slice pa c.parts.length pc] 24 := by rw [← hw1]; exact (Box.new _ _ _).alloc _
 have g2 : Box w1 (w.heap.size + 1) #[.string ⟨#[]⟩, .int .i64 0, .int .i64 0, .slice none 0 0] 24 := by rw [← hw1]; exact Box.new' (by simp)
 have e1 := g1.cell
 have hcp := copied_ref c hsm pa pc w1 (hp.below hB1)
 have hwc := woutC_eq (fun n => n == id) c
 have h10 := hsm.1
 simp only [hit_one hid] at hwc
 have HW := Lib.hid hw1
 have HCP := Lib.hid hcp
 have HZ1 := Lib.hid hz1
 have HB1 := Lib.hid hB1
 have HG2 := Lib.hid g2
 have HWC := Lib.hid hwc
 have HWO := Lib.hid (wout_one hid)
 clear hw1 hp hcp hz1 g1 hB1 g2 hwc
 go_enter Tryz.func63, Tryz.ntmps63
 go_upto_region 1 with fail
 simp only [HW.out]
 go_upto_region 2 with (go_at_call 26; (with_reducible refine HCP.out.mono ?_); rintro e w2 ⟨a, cap, rfl, hcap, hv, hb2⟩)
 obtain ⟨zs, hzs, hzr⟩ := hv.toR
 have hB2 := HB1.out.trans (hb2.mono HB1.out.size)
 have hr2 := HG2.out.below' hb2
 have hD : w.heap.size + 2 ≤ w2.heap.size := by have := hb2.size; have := HZ1.out; omega
 have g3 : Box (w2.alloc (.cells #[.string c.ware, .int .i64 c.limit, .int .i64 c.by_, .slice a c.parts.length cap] 24)) w2.heap.size #[.string c.ware, .int .i64 c.limit, .int .i64 c.by_, .slice a c.parts.length cap] 24 := Box.new _ _ _
 have hb3 : Below w2.heap.size w2 (w2.alloc (.cells #[.string c.ware, .int .i64 c.limit, .int .i64 c.by_, .slice a c.parts.length cap] 24)) := (Below.refl _ w2).alloc (Nat.le_refl _) _
 have hr3 := hzr.below hb3
 have hB3 := hB2.trans (hb3.mono hB2.size)
 have hq3 := hr2.below' hb3
 have hs3 : w2.heap.size < (w2.alloc (.cells #[.string c.ware, .int .i64 c.limit, .int .i64 c.by_, .slice a c.parts.length cap] 24)).heap.size := by simp
 generalize w2.alloc (.cells #[.string c.ware, .int .i64 c.limit, .int .i64 c.by_, .slice a c.parts.length cap] 24) = w3 at *
 obtain ⟨D, hDe⟩ : ∃ D, w2.heap.size = D := ⟨_, rfl⟩
 rw [hDe] at g3 hr3 hD hs3
 simp only [hDe]
 rw [HZ1.out] at hr3
 have HR3 := Lib.hid hr3
 have HB3 := Lib.hid hB3
 have HQ3 := Lib.hid hq3
 have HG3 := Lib.hid g3
 have HZS := Lib.hid hzs
 have HDS := Lib.hid hs3
 obtain ⟨u1, u2⟩ := g3.rules
 clear hr3 hB3 hq3 hzr hv hb2 hB2 hr2 hb3 hDe hzs e1 HCP HG2 HB1 HZ1 g3 hs3
 go_upto_if 13 with (fail)
 go_cut [5] (fun s5 wx => s5 = .pointer (some ⟨D, 0, none⟩) ∧ Box wx D #[.string c.ware, .int .i64 (if c.by_ == id then 0 else c.limit), .int .i64 (if c.by_ == id then 0 else c.by_), .slice a c.parts.length cap] 24 ∧ Keep (fun k => k < D) w3 wx)
 case first =>
  rcases hby : (c.by_ == id) with _ | _
  ·go_wp2_with fail
   go_meet
   exact ⟨rfl, by simpa [hby] using HG3.out, Keep.refl _ _⟩
  ·go_wp2_with fail
   go_meet
   exact ⟨rfl, by simpa [hby] using (HG3.out.set_ 2 (.int .i64 0)).set_ 1 (.int .i64 0), ((Keep.refl _ w3).setCell (.inl (by simp)) _).setCell (.inl (by simp)) _⟩
 case rest =>
  obtain ⟨rfl, hbx, hk⟩ := hcut
  obtain ⟨LIM, hlim⟩ : ∃ LIM, (if c.by_ == id then 0 else c.limit) = LIM := ⟨_, rfl⟩
  obtain ⟨BY, hby⟩ : ∃ BY, (if c.by_ == id then 0 else c.by_) = BY := ⟨_, rfl⟩
  rw [hlim, hby] at hbx HWC
  have HBX := Lib.hid hbx
  have HK := Lib.hid hk
  have hr4 := HR3.out.keep hk (fun k _ h => h)
  have hB4 := HB3.out.trans (((hk.below (by have := HDS.out; omega)) : Below D w3 wc).mono (by omega))
  have hq4 := hk.heap (by omega) HQ3.out
  have HR4 := Lib.hid hr4
  have HB4 := Lib.hid hB4
  have HQ4 := Lib.hid hq4
  clear hbx hk hlim hby u1 u2 hr4 hB4 hq4
  go_wp2_with fail
  go_loopw [6] (fun iv wr => ∃ (i : Nat) (ys : List PrtM), i ≤ c.parts.length ∧ iv = .int .i64 i ∧ PartsR (w.heap.size + 2) D a wr ys ∧ ys.map (·.1) = (c.parts.take i).map (woutP (fun n => n == id)) ++ c.parts.drop i ∧ Box wr D #[.string c.ware, .int .i64 LIM, .int .i64 BY, .slice a c.parts.length cap] 24 ∧ Box wr (w.heap.size + 1) #[.string ⟨#[]⟩, .int .i64 0, .int .i64 0, .slice none 0 0] 24 ∧ Below w.heap.size w wr) (fun iv _ => c.parts.length - (intOf iv).toNat)
  case atStart => exact ⟨0, zs, Nat.zero_le _, rfl, HR4.out, by simpa using HZS.out, HBX.out, HQ4.out, HB4.out⟩
  case round =>
   clear HR4 HBX HQ4 HB4 HK HR3 HQ3 HG3 HB3
   obtain ⟨i, ys, hi, rfl, hr, hys, hbx, hq, hB⟩ := hrel
   have HR := Lib.hid hr
   have HYS := Lib.hid hys
   have HBX := Lib.hid hbx
   have HQ := Lib.hid hq
   have HB := Lib.hid hB
   have e1 := hbx.cell
   clear hys hbx hq hB
   by_cases hil : i < c.parts.length
   ·obtain ⟨p, hp⟩ := get_of_lt c.parts hil
    have hylen : ys.length = c.parts.length := by
     have := congrArg List.length HYS.out
     simp at this; omega
    obtain ⟨z, hz⟩ := get_of_lt ys (k := i) (by omega)
    have hzp : z.1 = p := by
     have := congrArg (fun l : List Prt => l[i]?) HYS.out
     simp only [List.getElem?_map, hz, Option.map_some] at this
     rw [List.getElem?_append_right (by simp; omega), List.getElem?_drop] at this
     simp only [List.length_map, List.length_take, Nat.min_eq_left hi, Nat.sub_self, Nat.add_zero, hp] at this
     exact Option.some.inj this
    obtain ⟨g, ha, hgB, hgM, h1, h2, hq⟩ := hr i z hz
    subst ha
    obtain ⟨zp, ⟨sa, sc⟩, ⟨ra, rc⟩⟩ := z
    dsimp only at hzp
    subst hzp
    have c0 : wr.cell? ⟨g, i * 8, none⟩ = some (.slice sa zp.sherds.length sc) := h1 0 _ rfl
    have c1 : wr.cell? ⟨g, i * 8 + 1, none⟩ = some (.int .i64 zp.span.low) := h1 1 _ rfl
    have c2 : wr.cell? ⟨g, i * 8 + 2, none⟩ = some (.int .i64 zp.span.high) := h1 2 _ rfl
    have c3 : wr.cell? ⟨g, i * 8 + 3, none⟩ = some (.int .i64 zp.span.lowBy) := h1 3 _ rfl
    have c4 : wr.cell? ⟨g, i * 8 + 4, none⟩ = some (.int .i64 zp.span.highBy) := h1 4 _ rfl
    have c5 : wr.cell? ⟨g, i * 8 + 5, none⟩ = some (.bool zp.foot) := h1 5 _ rfl
    have c6 : wr.cell? ⟨g, i * 8 + 6, none⟩ = some (.int .i64 zp.footBy) := h1 6 _ rfl
    have c7 : wr.cell? ⟨g, i * 8 + 7, none⟩ = some (.slice ra zp.rests.length rc) := h1 7 _ rfl
    have hin : (i : Int) < (c.parts.length : Int) := by omega
    have HP := Lib.hid hp
    have HZ := Lib.hid hz
    clear hr hylen hq h1 h2 hz hp
    go_upto_region 9 with fail
    have b5 : Box (wr.alloc (.cells #[.slice sa zp.sherds.length sc, .int .i64 zp.span.low, .int .i64 zp.span.high, .int .i64 zp.span.lowBy, .int .i64 zp.span.highBy, .bool zp.foot, .int .i64 zp.footBy, .slice ra zp.rests.length rc] 52)) wr.heap.size #[.slice sa zp.sherds.length sc, .int .i64 zp.span.low, .int .i64 zp.span.high, .int .i64 zp.span.lowBy, .int .i64 zp.span.highBy, .bool zp.foot, .int .i64 zp.footBy, .slice ra zp.rests.length rc] 52 := Box.new _ _ _
    have hb5 : Below wr.heap.size wr (wr.alloc (.cells #[.slice sa zp.sherds.length sc, .int .i64 zp.span.low, .int .i64 zp.span.high, .int .i64 zp.span.lowBy, .int .i64 zp.span.highBy, .bool zp.foot, .int .i64 zp.footBy, .slice ra zp.rests.length rc] 52)) := (Below.refl _ wr).alloc (Nat.le_refl _) _
    generalize wr.alloc (.cells #[.slice sa zp.sherds.length sc, .int .i64 zp.span.low, .int .i64 zp.span.high, .int .i64 zp.span.lowBy, .int .i64 zp.span.highBy, .bool zp.foot, .int .i64 zp.footBy, .slice ra zp.rests.length rc] 52) = w5 at *
    obtain ⟨q, hq⟩ : ∃ q, wr.heap.size = q := ⟨_, rfl⟩
    rw [hq] at b5
    simp only [hq]
    have HQ5 := Lib.hid hq
    have HB5 := Lib.hid hb5
    have HX5 := Lib.hid b5
    have hq5 : q < w5.heap.size := b5.lt
    have HQL := Lib.hid hq5
    obtain ⟨u1, u2⟩ := b5.rules
    clear c0 c1 c2 c3 c4 c5 c6 c7 e1 hb5 b5 hq
    obtain ⟨L, hL⟩ : ∃ L, (if zp.span.lowBy == id then (0 : Int) else zp.span.low) = L := ⟨_, rfl⟩
    obtain ⟨LB, hLB⟩ : ∃ L, (if zp.span.lowBy == id then (0 : Int) else zp.span.lowBy) = L := ⟨_, rfl⟩
    obtain ⟨H, hH⟩ : ∃ L, (if zp.span.highBy == id then (1000 : Int) else zp.span.high) = L := ⟨_, rfl⟩
    obtain ⟨HBY, hHB⟩ : ∃ L, (if zp.span.highBy == id then (0 : Int) else zp.span.highBy) = L := ⟨_, rfl⟩
    obtain ⟨F, hF⟩ : ∃ L, (if zp.footBy == id then false else zp.foot) = L := ⟨_, rfl⟩
    obtain ⟨FB, hFB⟩ : ∃ L, (if zp.footBy == id then (0 : Int) else zp.footBy) = L := ⟨_, rfl⟩
    have hwo := HWO.out zp
    rw [hL, hLB, hH, hHB, hF, hFB] at hwo
    have HWP := Lib.hid hwo
    have HL := Lib.hid (And.intro hL hLB)
    have HH := Lib.hid (And.intro hH hHB)
    have HF := Lib.hid (And.intro hF hFB)
    clear hL hLB hH hHB hF hFB hwo
    go_upto_if 32 with (fail)
    go_cut [6] (fun s6 wx => s6 = .int .i64 i ∧ Box wx q #[.slice sa zp.sherds.length sc, .int .i64 L, .int .i64 zp.span.high, .int .i64 LB, .int .i64 zp.span.highBy, .bool zp.foot, .int .i64 zp.footBy, .slice ra zp.rests.length rc] 52 ∧ Keep (fun k => k < q) w5 wx)
    case first =>
     obtain ⟨h1, h2⟩ := HL.out
     rcases hby : (zp.span.lowBy == id) with _ | _
     ·rw [hby] at h1 h2
      subst h1 h2
      go_wp2_with fail
      go_meet
      exact ⟨rfl, HX5.out, Keep.refl _ _⟩
     ·rw [hby] at h1 h2
      subst h1 h2
      go_wp2_with fail
      go_meet
      exact ⟨rfl, (HX5.out.set_ 1 (.int .i64 0)).set_ 3 (.int .i64 0), ((Keep.refl _ w5).setCell (.inl (by simp)) _).setCell (.inl (by simp)) _⟩
    case rest =>
     obtain ⟨rfl, hx, hk⟩ := hcut
     have HX := Lib.hid hx
     have HK := Lib.hid hk
     clear u1 u2 hq5
     obtain ⟨u1, u2⟩ := hx.rules
     clear hx hk HX5 HL
     go_upto_if 41 with (fail)
     go_cut [6] (fun s6 wx => s6 = .int .i64 i ∧ Box wx q #[.slice sa zp.sherds.length sc, .int .i64 L, .int .i64 H, .int .i64 LB, .int .i64 HBY, .bool zp.foot, .int .i64 zp.footBy, .slice ra zp.rests.length rc] 52 ∧ Keep (fun k => k < q) w5 wx)
     case first =>
      obtain ⟨h1, h2⟩ := HH.out
      rcases hby : (zp.span.highBy == id) with _ | _
      ·rw [hby] at h1 h2
       subst h1 h2
       go_wp2_with fail
       go_meet
       exact ⟨rfl, HX.out, HK.out⟩
      ·rw [hby] at h1 h2
       subst h1 h2
       go_wp2_with fail
       go_meet
       exact ⟨rfl, (HX.out.set_ 2 (.int .i64 1000)).set_ 4 (.int .i64 0), (HK.out.setCell (.inl (by simp)) _).setCell (.inl (by simp)) _⟩
     case rest =>
      obtain ⟨rfl, hx, hk⟩ := hcut
      have HX2 := Lib.hid hx
      have HK2 := Lib.hid hk
      clear u1 u2
      obtain ⟨u1, u2⟩ := hx.rules
      clear hx hk HX HK HH
      go_upto_if 49 with (fail)
      go_cut [6] (fun s6 wx => s6 = .int .i64 i ∧ Box wx q #[.slice sa zp.sherds.length sc, .int .i64 L, .int .i64 H, .int .i64 LB, .int .i64 HBY, .bool F, .int .i64 FB, .slice ra zp.rests.length rc] 52 ∧ Keep (fun k => k < q) w5 wx)
      case first =>
       obtain ⟨h1, h2⟩ := HF.out
       rcases hby : (zp.footBy == id) with _ | _
       ·rw [hby] at h1 h2
        subst h1 h2
        go_wp2_with fail
        go_meet
        exact ⟨rfl, HX2.out, HK2.out⟩
       ·rw [hby] at h1 h2
        subst h1 h2
        go_wp2_with fail
        go_meet
        exact ⟨rfl, (HX2.out.set_ 5 (.bool false)).set_ 6 (.int .i64 0), (HK2.out.setCell (.inl (by simp)) _).setCell (.inl (by simp)) _⟩
      case rest =>
       obtain ⟨rfl, hx, hk⟩ := hcut
       clear u1 u2
       obtain ⟨u1, u2⟩ := hx.rules
       have hb6 : Below wr.heap.size wr wc := HB5.out.trans ((hk.below (Nat.le_of_lt HQL.out)).mono (by rw [HQ5.out]; exact Nat.le_refl _))
       have hr6 := HR.out.below hb6
       have hst := (hr6 i _ HZ.out)
       obtain ⟨g', hg', _, _, _, hth, _⟩ := hst
       cases hg'
       have hnew := hr6.set_ (p := ⟨zp.sherds, ⟨L, H, LB, HBY⟩, F, FB, zp.rests⟩) HZ.out rfl rfl rfl
       have bx6 := (HBX.out.below' hb6)
       have e1 := bx6.cell
       have HQ6 := Lib.hid (HQ.out.below' hb6)
       have hS := run_store_part (p := ⟨zp.sherds, ⟨L, H, LB, HBY⟩, F, FB, zp.rests⟩) (sa := sa) (sc := sc) (ra := ra) (rc := rc) hth
       have hBn : Below w.heap.size w (wc.setCells g (i * 8) (prtRow (⟨zp.sherds, ⟨L, H, LB, HBY⟩, F, FB, zp.rests⟩, (sa, sc), (ra, rc)))) := below_setCells (by omega) _ _ (HB.out.trans (hb6.mono HB.out.size))
       have hBx : Box (wc.setCells g (i * 8) (prtRow (⟨zp.sherds, ⟨L, H, LB, HBY⟩, F, FB, zp.rests⟩, (sa, sc), (ra, rc)))) D _ _ := box_setCells bx6 (by omega) _ _
       have hQn : Box (wc.setCells g (i * 8) (prtRow (⟨zp.sherds, ⟨L, H, LB, HBY⟩, F, FB, zp.rests⟩, (sa, sc), (ra, rc)))) (w.heap.size + 1) _ _ := box_setCells HQ6.out (by omega) _ _
       generalize wc.setCells g (i * 8) (prtRow (⟨zp.sherds, ⟨L, H, LB, HBY⟩, F, FB, zp.rests⟩, (sa, sc), (ra, rc))) = w9 at *
       have HNEW := Lib.hid hnew
       have HBn := Lib.hid hBn
       have HBx := Lib.hid hBx
       have HQn := Lib.hid hQn
       clear hx hk HX2 HK2 HF hb6 hr6 hth hnew bx6 hBn hBx hQn HQ6
       go_wp2_with (refine wpList_store_box rfl 52 _ _ rfl rfl rfl hS ?_)
       clear hS
       go_roundw
       case rel =>
        refine ⟨i + 1, _, by omega, by go_num, HNEW.out, ?_, HBx.out, HQn.out, HBn.out⟩
        rw [List.map_set, HYS.out, take_snoc HP.out, List.map_append, List.append_assoc, List.map_singleton, HWP.out]
        have hd : c.parts.drop i = zp :: c.parts.drop (i + 1) := by
         have hl := (List.getElem?_eq_some_iff.1 HP.out).1
         rw [List.drop_eq_getElem_cons hl, (List.getElem?_eq_some_iff.1 HP.out).2]
        rw [hd, List.set_append_right _ _ (by simp; omega)]
        simp [Nat.min_eq_left hi]
       case measure => simp [intOf]; omega
   ·have hie : i = c.parts.length := by omega
    have hys : ys.map (·.1) = c.parts.map (woutP (fun n => n == id)) := by rw [HYS.out, hie, List.take_length, List.drop_length, List.append_nil]
    have HY2 := Lib.hid hys
    obtain ⟨u1, u2⟩ := HQ.out.rules
    subst hie
    clear hr hys
    go_wp2_with fail
    have hf := (((HQ.out.set_ 0 (.string c.ware)).set_ 1 (.int .i64 LIM)).set_ 2 (.int .i64 BY)).set_ 3 (.slice a c.parts.length cap)
    refine bodyPost_ret (results_cell rfl rfl (run_loadVar_row _ _ 24 24 _ (0, 0) _ hf Tryz.underlying24 rfl case_size)) rfl ?_
    unfold CaseRPost
    rw [woutC_len, HWC.out]
    have hk : Keep (fun k => w.heap.size + 2 ≤ k) wr ((((wr.setCell ⟨w.heap.size + 1, 0, none⟩ (.string c.ware)).setCell ⟨w.heap.size + 1, 1, none⟩ (.int .i64 LIM)).setCell ⟨w.heap.size + 1, 2, none⟩ (.int .i64 BY)).setCell ⟨w.heap.size + 1, 3, none⟩ (.slice a c.parts.length cap)) :=
     ((((Keep.refl _ wr).setCell (.inl (by simp)) _).setCell (.inl (by simp)) _).setCell (.inl (by simp)) _).setCell (.inl (by simp)) _
    have hpa := (HR.out.keep hk (fun k h _ => h)).own.mono (Q' := fun k => w.heap.size ≤ k) (fun k hk => by omega)
    rw [HY2.out] at hpa
    exact ⟨a, cap, rfl, hcap, hpa, (((HB.out.setCell (by simp) _).setCell (by simp) _).setCell (by simp) _).setCell (by simp) _⟩
end Go.Proofs.YtpjcnkajimgagaaGreat
