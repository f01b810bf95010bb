/- SureRests: an answer rests on its lineage and on each Id of it, a refutation on what it uses: the law returns true for every input, and its arguments read as before. No condition. -/
/- SureRests: the statement. -/
import Derived.Test.YtpjcnkajimgagaaGreatMRestsP
import Derived.Test.YtpjcnkajimgagaaGreatMUsesT
import Derived.Test.YtpjcnkajimgagaaGreatMOnlyT
import Derived.Test.YtpjcnkajimgagaaGreatMWithout
import Derived.Test.YtpjcnkajimgagaaGreatMLinO
import Derived.Test.YtpjcnkajimgagaaGreatMLawC
import Derived.Test.YtpjcnkajimgagaaGreatMLaw
import Derived.ProofKit
import Derived.JoinedCond
set_option linter.unusedSimpArgs false
set_option linter.unusedVariables false
namespace Go.Proofs.YtpjcnkajimgagaaGreat
open Go.RowKit
attribute [local go_sem] Oper.semAt_some

theorem refute_six {c : Cs} {x y : Nat} {t : Bool} (hn : c.parts.length ≤ 6) (hx : x < c.parts.length) {l : List Br} (h : refuteR c x y t = some l) : l.length ≤ 2000 := by
 unfold refuteR at h
 split at h
 ·cases h; simp
 ·split at h
  ·cases h; simp
  ·have h3 := putM_len _ _ _ _ h
   have h4 := ordTo_len' (y := y) (t := t) hx
   have h5 := bnd_le (m := 0) (show (ordTo x y t c.parts.length).length ≤ 6 by omega)
   have h6 : bnd 6 0 ≤ 2000 := by decide
   simp only [List.length_nil] at h3
   omega
theorem rests_find {c : Cs} {a b : Nat} (ha : a < c.parts.length) (hb : b < c.parts.length) (h : ansAt c a b ≠ 3) : (allR c).find? (asPair a b (ansAt c a b == 2)) = none := by
 have h1 := with_isSome (c := c) (t := ansAt c a b == 2) ha hb
 rcases hf : (allR c).find? (asPair a b (ansAt c a b == 2)) with _ | z
 ·rfl
 ·rw [hf] at h1
  exfalso
  unfold ansAt at h1 h
  rcases ht : togB c.parts.length (allR c) a b with _ | _ <;> rcases hp : aptB c.parts.length (allR c) a b with _ | _ <;> rw [ht, hp] at h h1 <;> simp [ansOf] at h h1
/-- what Only hands back of a right case -/
def CGood (d : Cs) (w : World) (e : Ending) (w' : World) : Prop :=
 ∃ (pd : Option Addr) (pcd : Nat), e = .returned (.tuple #[.agg #[.string d.ware, .int .i64 d.limit, .int .i64 d.by_, .slice pd d.parts.length pcd], .int .i64 0]) ∧
  PartsAt w' pd d.parts ∧ (∀ g v0 v1 v2 v3, g < w.heap.size → PartsAt ((((w'.setCell ⟨g, 0, none⟩ v0).setCell ⟨g, 1, none⟩ v1).setCell ⟨g, 2, none⟩ v2).setCell ⟨g, 3, none⟩ v3) pd d.parts) ∧ Below w.heap.size w w'
theorem cGood_of {er : Int} {d : Cs} {w : World} {e : Ending} {w' : World} (h0 : er = 0) (h : CasePost er d w e w') : CGood d w e w' := by
 have h1 := case_dform h
 subst h0
 simp only [dOf, if_true] at h1
 exact h1
def AGood (a : Int) (w : World) (e : Ending) (w' : World) : Prop := e = .returned (.tuple #[.int .u8 a, .int .i64 0]) ∧ Below w.heap.size w w'
theorem aGood_of {er a : Int} {w : World} {e : Ending} {w' : World} (h0 : er = 0) (h : AnsPost er a w e w') : AGood a w e w' := by
 obtain ⟨hb, rfl⟩ := h
 subst h0
 exact ⟨by simp, hb⟩
set_option maxRecDepth 100000 in
set_option maxHeartbeats 4000000 in
theorem sureRests_any (c : Cs) (hf : c.Fit) (pa : Option Addr) (pc : Nat) (_ : c.parts.length ≤ pc) (x : Int) (_ : (Lit.int .i64 x).wf = true) (y : Int) (_ : (Lit.int .i64 y).wf = true) (w : World) (hp : PartsAt w pa c.parts) :
  Calls Tryz.prog 7 #[.agg #[.string c.ware, .int .i64 c.limit, .int .i64 c.by_, .slice pa c.parts.length pc], .int .i64 x, .int .i64 y] w fun e w' => e = .returned (.bool true) ∧ Below w.heap.size w w' := by
 obtain ⟨w1, hw1, hB1, b1⟩ := box_case w c pa pc
 have e1 : ∀ i, w1.cell? ⟨w.heap.size, i, none⟩ = (#[.string c.ware, .int .i64 c.limit, .int .i64 c.by_, .slice pa c.parts.length pc] : Array Value)[i]? := b1.cell
 have HFW := Lib.hid (few_any c hf pa pc w1 (hp.below hB1))
 have HP := Lib.hid hp
 have HW := Lib.hid hw1
 have HB1 := Lib.hid hB1
 have HX := Lib.hid b1
 have HAL := Lib.hid alive_any
 clear hw1 hB1 b1 hp
 rcases hfb : fewB c with _ | _
 ·rw [hfb] at HFW
  go_enter Tryz.func7, Tryz.ntmps7
  go_upto_region 1 with fail
  simp only [HW.out]
  go_wp2_with fail
  (with_reducible refine HFW.out.mono ?_)
  rintro e w2 ⟨rfl, hbn⟩
  have HB2 := Lib.hid (HB1.out.trans (hbn.mono HB1.out.size))
  have HX2 := Lib.hid (HX.out.below' hbn)
  clear hbn e1
  have e1 : ∀ i, w2.cell? ⟨w.heap.size, i, none⟩ = (#[.string c.ware, .int .i64 c.limit, .int .i64 c.by_, .slice pa c.parts.length pc] : Array Value)[i]? := HX2.out.cell
  clear e1
  go_wp2_with fail
  (with_reducible refine (HAL.out _).mono ?_)
  rintro e w3 ⟨rfl, hb3⟩
  have HB3 := Lib.hid (HB2.out.trans (hb3.mono HB2.out.size))
  clear hb3
  go_wp2_with fail
  go_ret
  exact ⟨by simp, HB3.out⟩
 rw [hfb] at HFW
 have hsm := few_small hfb
 by_cases h6 : c.parts.length ≤ 6
 rotate_left
 ·have hlb : decide ((6 : Int) < (c.parts.length : Int)) = true := by simp; omega
  clear hfb hsm hf
  go_enter Tryz.func7, Tryz.ntmps7
  go_upto_region 1 with fail
  simp only [HW.out]
  go_wp2_with fail
  (with_reducible refine HFW.out.mono ?_)
  rintro e w2 ⟨rfl, hbn⟩
  have HB2 := Lib.hid (HB1.out.trans (hbn.mono HB1.out.size))
  have HX2 := Lib.hid (HX.out.below' hbn)
  clear hbn e1
  have e1 : ∀ i, w2.cell? ⟨w.heap.size, i, none⟩ = (#[.string c.ware, .int .i64 c.limit, .int .i64 c.by_, .slice pa c.parts.length pc] : Array Value)[i]? := HX2.out.cell
  go_wp2_with fail
  (with_reducible refine (HAL.out _).mono ?_)
  rintro e w3 ⟨rfl, hb3⟩
  have HB3 := Lib.hid (HB2.out.trans (hb3.mono HB2.out.size))
  clear hb3
  go_wp2_with fail
  go_ret
  exact ⟨by simp, HB3.out⟩
 have hlb : decide ((6 : Int) < (c.parts.length : Int)) = false := by simp; omega
 have HAN := Lib.hid (fun W (h : PartsAt W pa c.parts) => answerTop_any c hsm pa pc x y W h)
 have HLI := Lib.hid (fun W (h : PartsAt W pa c.parts) => lineage_any c hsm pa pc x y W h)
 by_cases hz : askErr c [x, y] = 0
 rotate_left
 ·have HLI := Lib.hid (fun W (h : PartsAt W pa c.parts) => (HLI.out W h).mono (fun (e : Ending) (w' : World) hh => (by
   obtain ⟨hb, ⟨_, he⟩ | ⟨h, _⟩⟩ := hh
   ·exact ⟨he, hb⟩
   ·exact absurd h hz : e = .returned (.tuple #[.slice none 0 0, .int .i64 (askErr c [x, y])]) ∧ Below W.heap.size W w')))
  have hzz : (askErr c [x, y] != 0) = true := by simpa using hz
  generalize askErr c [x, y] = er at *
  unfold AnsPost at HAN
  rw [if_neg hz] at HAN
  clear hz hsm hf hfb
  go_enter Tryz.func7, Tryz.ntmps7
  go_upto_region 1 with fail
  simp only [HW.out]
  go_wp2_with fail
  (with_reducible refine HFW.out.mono ?_)
  rintro e w2 ⟨rfl, hbn⟩
  have HB2 := Lib.hid (HB1.out.trans (hbn.mono HB1.out.size))
  have HX2 := Lib.hid (HX.out.below' hbn)
  clear hbn e1
  have e1 : ∀ i, w2.cell? ⟨w.heap.size, i, none⟩ = (#[.string c.ware, .int .i64 c.limit, .int .i64 c.by_, .slice pa c.parts.length pc] : Array Value)[i]? := HX2.out.cell
  go_wp2_with fail
  (with_reducible refine (HAN.out _ (HP.out.below HB2.out)).mono ?_)
  rintro e w2 ⟨hbn, rfl⟩
  have HX2 := Lib.hid (HX2.out.below' hbn)
  have HB2 := Lib.hid (HB2.out.trans (hbn.mono HB2.out.size))
  try clear e1
  clear hbn
  have e1 : ∀ i, w2.cell? ⟨w.heap.size, i, none⟩ = (#[.string c.ware, .int .i64 c.limit, .int .i64 c.by_, .slice pa c.parts.length pc] : Array Value)[i]? := HX2.out.cell
  go_wp2_with fail
  (with_reducible refine (HLI.out _ (HP.out.below HB2.out)).mono ?_)
  rintro e w2 ⟨rfl, hbn⟩
  have HX2 := Lib.hid (HX2.out.below' hbn)
  have HB2 := Lib.hid (HB2.out.trans (hbn.mono HB2.out.size))
  try clear e1
  clear hbn
  go_wp2_with fail
  (with_reducible refine (HAL.out _).mono ?_)
  rintro e w3 ⟨rfl, hb3⟩
  have HB3 := Lib.hid (HB2.out.trans (hb3.mono HB2.out.size))
  clear hb3
  go_wp2_with fail
  go_ret
  exact ⟨by simp, HB3.out⟩
 have ho := ask_open hz
 have hc := open_check ho
 have hx := open_in ho x (by simp)
 have hy := open_in ho y (by simp)
 obtain ⟨a, rfl⟩ := Int.eq_ofNat_of_zero_le hx.1
 obtain ⟨b, rfl⟩ := Int.eq_ofNat_of_zero_le hy.1
 have hal : a < c.parts.length := by omega
 have hbl : b < c.parts.length := by omega
 have HAN := Lib.hid (fun W (h : PartsAt W pa c.parts) => (HAN.out W h).mono (fun (e : Ending) (w' : World) hh => aGood_of hz hh))
 have HLI := Lib.hid (fun W (h : PartsAt W pa c.parts) => (HLI.out W h).mono (fun (e : Ending) (w' : World) hh => (by
   obtain ⟨hb, ⟨h, _⟩ | ⟨_, la, lc, he, hi, hk⟩⟩ := hh
   ·exact absurd hz h
   ·exact ⟨la, lc, he, ints_rowOwn hi, hb⟩ : ∃ la lc, e = .returned (.tuple #[.slice la (lineageR c (a : Int).toNat (b : Int).toNat).length lc, .int .i64 0]) ∧ Ints w' la (lineageR c (a : Int).toNat (b : Int).toNat) ∧ Below W.heap.size W w')))
 simp only [Int.toNat_natCast] at HAN HLI
 by_cases h3 : ansAt c a b = 3
 ·have hl : lineageR c a b = [] := by unfold lineageR; rw [if_pos (by simpa using h3)]
  rw [hl] at HLI
  rw [h3] at HAN
  clear hz h3 hl hsm hf hfb ho hc hx hy
  go_enter Tryz.func7, Tryz.ntmps7
  go_upto_region 1 with fail
  simp only [HW.out]
  go_wp2_with fail
  (with_reducible refine HFW.out.mono ?_)
  rintro e w2 ⟨rfl, hbn⟩
  have HB2 := Lib.hid (HB1.out.trans (hbn.mono HB1.out.size))
  have HX2 := Lib.hid (HX.out.below' hbn)
  clear hbn e1
  have e1 : ∀ i, w2.cell? ⟨w.heap.size, i, none⟩ = (#[.string c.ware, .int .i64 c.limit, .int .i64 c.by_, .slice pa c.parts.length pc] : Array Value)[i]? := HX2.out.cell
  go_wp2_with fail
  (with_reducible refine (HAN.out _ (HP.out.below HB2.out)).mono ?_)
  rintro e w2 ⟨rfl, hbn⟩
  have HX2 := Lib.hid (HX2.out.below' hbn)
  have HB2 := Lib.hid (HB2.out.trans (hbn.mono HB2.out.size))
  try clear e1
  clear hbn
  have e1 : ∀ i, w2.cell? ⟨w.heap.size, i, none⟩ = (#[.string c.ware, .int .i64 c.limit, .int .i64 c.by_, .slice pa c.parts.length pc] : Array Value)[i]? := HX2.out.cell
  go_wp2_with fail
  (with_reducible refine (HLI.out _ (HP.out.below HB2.out)).mono ?_)
  rintro e w2 ⟨la, lc, rfl, _, hbn⟩
  have HX2 := Lib.hid (HX2.out.below' hbn)
  have HB2 := Lib.hid (HB2.out.trans (hbn.mono HB2.out.size))
  try clear e1
  clear hbn
  go_wp2_with fail
  (with_reducible refine (HAL.out _).mono ?_)
  rintro e w3 ⟨rfl, hb3⟩
  have HB3 := Lib.hid (HB2.out.trans (hb3.mono HB2.out.size))
  clear hb3
  go_wp2_with fail
  go_ret
  exact ⟨by simp, HB3.out⟩
 have hl : lineageR c a b = lineageL c a b := by unfold lineageR; rw [if_neg (by simpa using h3)]
 rw [hl] at HLI
 have hsome := ask_some hz
 have hok := lineage_rests hc hsome hal hbl
 have hll : (lineageL c a b).length ≤ 1000000 := by
  rw [← kept_law]
  have h1 := withL_le (refIds c)
  have h2 := refIds_len c
  have h4 := keptAt_len (c := c) (x := a) (y := b) (K := withL (refIds c)) 0
  omega
 have hid0 := lineage_ids (c := c) (x := a) (y := b)
 have hlim := check_lim hc
 obtain ⟨l, hr, hrf⟩ := refute_law (t := ansAt c a b == 2) (by omega) hlim.1 hal hbl (rests_find hal hbl h3)
 have hrs := refuteR_small (by omega) hlim.2 hal hr
 have hr6 := refute_six h6 hal hr
 obtain ⟨ev, hev⟩ := Option.isSome_iff_exists.1 hrf
 have hsy : SymD (beginD a b (ansAt c a b == 2)) := decWith_sym zero_sym _ _ _
 have hsu : Supp (beginD a b (ansAt c a b == 2)) c.parts.length := supp_with (zero_supp _) zero_sym hal hbl
 have hul := uses_law hc (by omega) hsy hsu hev
 have hur := uses_rests hc hev
 have HOL := Lib.hid (fun W la lc (h : PartsAt W pa c.parts) (hi : Ints W la (lineageL c a b)) => (onlyTop_any c hsm pa pc la (lineageL c a b) lc W h hi hll).mono (fun (e : Ending) (w' : World) hh => cGood_of hc hh))
 have HOU := Lib.hid (fun W la lc (h : PartsAt W pa c.parts) (hi : Ints W la (uniqL (evS c c.parts.length ev))) (hl : (uniqL (evS c c.parts.length ev)).length ≤ 1000000) => (onlyTop_any c hsm pa pc la (uniqL (evS c c.parts.length ev)) lc W h hi hl).mono (fun (e : Ending) (w' : World) hh => cGood_of hc hh))
 have hulen : (uniqL (evS c c.parts.length ev)).length ≤ 1000000 := by
  have h1 := uniqL_len (evS c c.parts.length ev)
  have h2 := notN_len (evS c c.parts.length ev)
  have h3 := evS_len rfl (by omega) hul.2.2
  have h4 := hul.2.1
  omega
 have HRF := Lib.hid (fun W (h : PartsAt W pa c.parts) => (refuteF_any c hsm pa pc a b (ansAt c a b == 2) W h).mono (fun (e : Ending) (w' : World) hh => (by
   obtain ⟨hb, ⟨h1, _⟩ | ⟨_, h1, _⟩ | ⟨_, _, h1, _⟩ | ⟨_, _, z, ra, rc, h1, he, hbr, hrc⟩⟩ := hh
   ·exact absurd ho h1
   ·simp only [Int.toNat_natCast] at h1
    rw [rests_find hal hbl h3] at h1; cases h1
   ·simp only [Int.toNat_natCast] at h1
    rw [hr] at h1; cases h1
   ·simp only [Int.toNat_natCast] at h1
    rw [hr] at h1; cases h1
    exact ⟨ra, rc, he, hbr, hrc, hb⟩ : ∃ ra rc, e = .returned (.tuple #[.slice ra l.length rc, .bool true, .int .i64 0]) ∧ BrsO W.heap.size w' ra l ∧ l.length ≤ rc ∧ Below W.heap.size W w')))
 have HUS := Lib.hid (fun W ra rc (h : PartsAt W pa c.parts) (hb : BrsAt W ra l) (hrc : l.length ≤ rc) => uses_any c hsm pa pc a b (ansAt c a b == 2) l (.inl hr6) hrs.1 ra rc W h hb hrc)
 have huo : usesOut c (openErr c [(a : Int), (b : Int)]) a b (ansAt c a b == 2) l = (uniqL (evS c c.parts.length ev), 0) := by
  unfold usesOut
  rw [if_pos ho, hev]
  dsimp only
  rw [hul.1]
 simp only [Int.toNat_natCast] at HUS
 rw [huo] at HUS
 unfold UsesPost at HUS
 dsimp only at HUS
 generalize huu : uniqL (evS c c.parts.length ev) = U at *
 obtain ⟨d2, hd2⟩ : ∃ d2, woutC (fun n => !U.contains n) c = d2 := ⟨_, rfl⟩
 have hd2l : d2.parts.length = c.parts.length := by rw [← hd2]; exact woutC_len _ _
 have hd2s : d2.Small := by rw [← hd2]; exact woutC_small hsm _
 have hd2o : openErr d2 [(a : Int), (b : Int)] = 0 := by rw [← hd2]; exact ask_open (ask_wout _ hz)
 have hck : (openErr d2 [(a : Int), (b : Int)] == 0 && (refutedB d2 d2.parts.length (beginD a b (ansAt c a b == 2)) l).isSome) = true := by
  rw [hd2o, hd2l, ← hd2, hur]; rfl
 have HCK := Lib.hid (fun W pd pcd ra rc (h : PartsAt W pd d2.parts) (hb : BrsAt W ra l) (hrc : l.length ≤ rc) => checkRefute_any d2 hd2s pd pcd a b (ansAt c a b == 2) l (by omega) hrs.1 ra rc W h hb hrc)
 simp only [Int.toNat_natCast] at HCK
 rw [hck, hd2o] at HCK
 unfold BoolPost at HCK
 rw [hd2] at HOU
 obtain ⟨d, hd⟩ : ∃ d, woutC (fun n => !(lineageL c a b).contains n) c = d := ⟨_, rfl⟩
 rw [hd] at HOL hok
 have hds : d.Small := by rw [← hd]; exact woutC_small hsm _
 have hda : askErr d [(a : Int), (b : Int)] = 0 := by rw [← hd]; exact ask_wout _ hz
 have hdc := hok.chk
 have hdn := hok.ans
 have hdk := hok.kept
 dsimp only at hdc hdn hdk
 have HAD := Lib.hid (fun W pd pcd (h : PartsAt W pd d.parts) => (answerTop_any d hds pd pcd a b W h).mono (fun (e : Ending) (w' : World) hh => aGood_of hda hh))
 simp only [Int.toNat_natCast] at HAD
 rw [hdn] at HAD
 have HWD := Lib.hid (fun W pd pcd (id : Int) (h : PartsAt W pd d.parts) (h0 : id ≠ 0) => (withoutTop_any d hds pd pcd id W h).mono (fun (e : Ending) (w' : World) hh => cGood_of (show woutErr d id = 0 by unfold woutErr; rw [if_pos hdc, if_neg h0]) hh))
 have HAW := Lib.hid (fun W pd pcd (id : Int) (hm : id ∈ lineageL c a b) (h : PartsAt W pd (woutC (fun n => n == id) d).parts) => (answerTop_any (woutC (fun n => n == id) d) (woutC_small hds _) pd pcd a b W h).mono (fun (e : Ending) (w' : World) hh => (by
   have := aGood_of (ask_wout _ hda) hh
   simp only [Int.toNat_natCast] at this
   rw [hdk id hm] at this
   exact this : AGood 3 W e w')))
 generalize lineageL c a b = L at *
 have h3b : (ansAt c a b == 3) = false := by simpa using h3
 generalize ansAt c a b = A at *
 have HI0 := Lib.hid hid0
 have HUL := Lib.hid hulen
 obtain ⟨tg, htg⟩ : ∃ tg, (A == 2) = tg := ⟨_, rfl⟩
 rw [htg] at HRF HUS HCK
 clear hz h3 hl hsm hf hfb ho hc hx hy hsome hok hid0 hlim hr hrf hrs hr6 hev hsy hsu hul hur huu hd2 hd2l hd2s hd2o hck hd hds hda hdc hdn hdk huo hulen
 go_enter Tryz.func7, Tryz.ntmps7
 go_upto_region 1 with fail
 simp only [HW.out]
 go_wp2_with fail
 (with_reducible refine HFW.out.mono ?_)
 rintro e w2 ⟨rfl, hbn⟩
 have HB2 := Lib.hid (HB1.out.trans (hbn.mono HB1.out.size))
 have HX2 := Lib.hid (HX.out.below' hbn)
 clear hbn e1
 have e1 : ∀ i, w2.cell? ⟨w.heap.size, i, none⟩ = (#[.string c.ware, .int .i64 c.limit, .int .i64 c.by_, .slice pa c.parts.length pc] : Array Value)[i]? := HX2.out.cell
 go_wp2_with fail
 (with_reducible refine (HAN.out _ (HP.out.below HB2.out)).mono ?_)
 rintro e w2 ⟨rfl, hbn⟩
 have HX2 := Lib.hid (HX2.out.below' hbn)
 have HB2 := Lib.hid (HB2.out.trans (hbn.mono HB2.out.size))
 try clear e1
 clear hbn
 have e1 : ∀ i, w2.cell? ⟨w.heap.size, i, none⟩ = (#[.string c.ware, .int .i64 c.limit, .int .i64 c.by_, .slice pa c.parts.length pc] : Array Value)[i]? := HX2.out.cell
 go_wp2_with fail
 (with_reducible refine (HLI.out _ (HP.out.below HB2.out)).mono ?_)
 rintro e w2 ⟨la, lc, rfl, hi, hbn⟩
 have HX2 := Lib.hid (HX2.out.below' hbn)
 have HB2 := Lib.hid (HB2.out.trans (hbn.mono HB2.out.size))
 try clear e1
 have HI := Lib.hid hi
 clear hbn hi
 have e1 : ∀ i, w2.cell? ⟨w.heap.size, i, none⟩ = (#[.string c.ware, .int .i64 c.limit, .int .i64 c.by_, .slice pa c.parts.length pc] : Array Value)[i]? := HX2.out.cell
 go_wp2_with fail
 (with_reducible refine (HOL.out _ _ _ (HP.out.below HB2.out) HI.out).mono ?_)
 rintro e w2 ⟨pd, pcd, rfl, hp2, _, hbn⟩
 obtain ⟨w5, hw5, hg5, hb5⟩ := CBox.new (d := d) (cap := pcd) hp2
 have HW5 := Lib.hid hw5
 obtain ⟨G, hG⟩ : ∃ g, w2.heap.size = g := ⟨_, rfl⟩
 have HGE := Lib.hid hG
 have HBG := Lib.hid ((HB2.out.trans (hbn.mono HB2.out.size)).size)
 have hbn := hbn.trans (hb5.mono hbn.size)
 rw [hG] at hg5
 have HX2 := Lib.hid (HX2.out.below' hbn)
 have HB2 := Lib.hid (HB2.out.trans (hbn.mono HB2.out.size))
 try clear e1
 clear hG
 have HI := Lib.hid (HI.out.below hbn)
 have HG := Lib.hid hg5
 clear hbn hb5 hg5 hp2 hw5
 go_upto_region 8 with fail
 simp only [HW5.out, HGE.out]
 have hGl := HG.out.box.lt
 have g1 := HG.out.cells
 go_wp2_with fail
 (with_reducible refine (HAD.out _ _ _ HG.out.parts).mono ?_)
 rintro e w2 ⟨rfl, hbn⟩
 have HX2 := Lib.hid (HX2.out.below' hbn)
 have HB2 := Lib.hid (HB2.out.trans (hbn.mono HB2.out.size))
 try clear e1
 have HI := Lib.hid (HI.out.below hbn)
 have HG := Lib.hid (HG.out.below hbn)
 have HGW := Lib.hid (show w.heap.size ≤ G from by rw [← HGE.out]; exact HBG.out)
 clear hbn g1 hGl
 have HTG := Lib.hid htg
 clear htg HW5 HGE HBG
 go_wp2_with fail
 go_loopw [101] (fun iv wr => ∃ k : Nat, k ≤ L.length ∧ iv = .int .i64 k ∧ CBox wr G d pd pcd ∧ Box wr w.heap.size (csCells c pa pc) 24 ∧ Ints wr la L ∧ Below w.heap.size w wr) (fun iv _ => L.length - (intOf iv).toNat)
 case atStart => exact ⟨0, Nat.zero_le _, rfl, HG.out, HX2.out, HI.out, HB2.out⟩
 case round =>
  clear HG HX2 HI HB2
  obtain ⟨k, hk, rfl, hg, hx, hi, hB⟩ := hrel
  have HG := Lib.hid hg
  have HX2 := Lib.hid hx
  have HI := Lib.hid hi
  have HB2 := Lib.hid hB
  by_cases hkl : k < L.length
  ·obtain ⟨bb, oo, rfl, hcc⟩ := hi.base (by omega)
   obtain ⟨id, hid⟩ := get_of_lt L hkl
   have c1 := hcc _ _ hid
   have hkn : (k : Int) < (L.length : Int) := by omega
   have hm := List.mem_of_getElem? hid
   have H1 := Lib.hid (fun W h => HWD.out W pd pcd id h (HI0.out id hm))
   have H2 := Lib.hid (fun W pd' pcd' h => HAW.out W pd' pcd' id hm h)
   obtain ⟨du, hdu⟩ : ∃ du, woutC (fun n => n == id) d = du := ⟨_, rfl⟩
   rw [hdu] at H1 H2
   have g1 := hg.cells
   clear hm hid hcc hg hx hi hB hdu
   go_wp2_with fail
   (with_reducible refine (H1.out _ HG.out.parts).mono ?_)
   rintro e w3 ⟨pe, pce, rfl, hp3, _, hb3⟩
   obtain ⟨w6, hw6, hg6, hb6⟩ := CBox.new (d := du) (cap := pce) hp3
   have hb36 := hb3.trans (hb6.mono hb3.size)
   have HW6 := Lib.hid hw6
   have HG6 := Lib.hid hg6
   have HB6 := Lib.hid hb36
   clear hp3 hb3 hb6 hw6 hg6 hb36 g1 c1
   go_upto_region 15 with fail
   simp only [HW6.out]
   have g6 := HG6.out.cells
   go_wp2_with fail
   (with_reducible refine (H2.out _ _ _ HG6.out.parts).mono ?_)
   rintro e w7 ⟨rfl, hb7⟩
   have HB7 := Lib.hid (HB6.out.trans (hb7.mono HB6.out.size))
   clear hb7 g6
   go_wp2_with fail
   go_roundw
   case rel => exact ⟨k + 1, by omega, by go_num, HG.out.below HB7.out, HX2.out.below' HB7.out, HI.out.below HB7.out, HB2.out.trans (HB7.out.mono HB2.out.size)⟩
   case measure => simp [intOf]; omega
  ·have hke := Lib.hid (show k = L.length by omega)
   have hkn : decide ((k : Int) < (L.length : Int)) = false := by simp; omega
   have e1 : ∀ i, wr.cell? ⟨w.heap.size, i, none⟩ = (#[.string c.ware, .int .i64 c.limit, .int .i64 c.by_, .slice pa c.parts.length pc] : Array Value)[i]? := hx.cell
   clear hg hx hi hB
   go_upto_region 20 with fail
   simp only [HTG.out]
   go_wp2_with fail
   (with_reducible refine (HRF.out _ (HP.out.below HB2.out)).mono ?_)
   have hGw := HG.out.box.lt
   rintro e w2 ⟨ra, rc, rfl, hbr, hrc, hbn⟩
   have HGB := Lib.hid hGw
   clear hGw
   obtain ⟨NB, hNB⟩ : ∃ NB, wr.heap.size = NB := ⟨_, rfl⟩
   rw [hNB] at hbr HGB
   clear hNB
   have HX2 := Lib.hid (HX2.out.below' hbn)
   have HB2 := Lib.hid (HB2.out.trans (hbn.mono HB2.out.size))
   try clear e1
   have HG := Lib.hid (HG.out.below hbn)
   have HBR := Lib.hid hbr
   clear hbn hbr
   have e1 : ∀ i, w2.cell? ⟨w.heap.size, i, none⟩ = (#[.string c.ware, .int .i64 c.limit, .int .i64 c.by_, .slice pa c.parts.length pc] : Array Value)[i]? := HX2.out.cell
   go_wp2_with fail
   (with_reducible refine (HUS.out _ _ _ (HP.out.below HB2.out) HBR.out.at_ hrc).mono ?_)
   rintro e w2 ⟨ua, uc, rfl, hui, _, hbn⟩
   have HX2 := Lib.hid (HX2.out.below' hbn)
   have HB2 := Lib.hid (HB2.out.trans (hbn.mono HB2.out.size))
   try clear e1
   have HG := Lib.hid (HG.out.below hbn)
   have HBR := Lib.hid (HBR.out.below hbn)
   have HUI := Lib.hid hui
   clear hbn hui
   have e1 : ∀ i, w2.cell? ⟨w.heap.size, i, none⟩ = (#[.string c.ware, .int .i64 c.limit, .int .i64 c.by_, .slice pa c.parts.length pc] : Array Value)[i]? := HX2.out.cell
   go_wp2_with fail
   (with_reducible refine (HOU.out _ _ _ (HP.out.below HB2.out) HUI.out HUL.out).mono ?_)
   have hGl := HG.out.box.lt
   rintro e w2 ⟨pd2, pcd2, rfl, _, hps, hbn⟩
   have HX2 := Lib.hid (HX2.out.below' hbn)
   have HB2 := Lib.hid (HB2.out.trans (hbn.mono HB2.out.size))
   try clear e1
   have HG := Lib.hid (HG.out.box.below' hbn)
   have HBR := Lib.hid (HBR.out.below hbn)
   have HPS := Lib.hid (hps G (.string d2.ware) (.int .i64 d2.limit) (.int .i64 d2.by_) (.slice pd2 d2.parts.length pcd2) hGl)
   clear hbn hps hGl
   obtain ⟨g1, g2⟩ := HG.out.rules
   go_upto_region 25 with fail
   have hbx : Box ((((w2.setCell ⟨G, 0, none⟩ (.string d2.ware)).setCell ⟨G, 1, none⟩ (.int .i64 d2.limit)).setCell ⟨G, 2, none⟩ (.int .i64 d2.by_)).setCell ⟨G, 3, none⟩ (.slice pd2 d2.parts.length pcd2)) G #[.string d2.ware, .int .i64 d2.limit, .int .i64 d2.by_, .slice pd2 d2.parts.length pcd2] 24 :=
    (((HG.out.set_ 0 (.string d2.ware)).set_ 1 (.int .i64 d2.limit)).set_ 2 (.int .i64 d2.by_)).set_ 3 (.slice pd2 d2.parts.length pcd2)
   have hbw : Below w.heap.size w ((((w2.setCell ⟨G, 0, none⟩ (.string d2.ware)).setCell ⟨G, 1, none⟩ (.int .i64 d2.limit)).setCell ⟨G, 2, none⟩ (.int .i64 d2.by_)).setCell ⟨G, 3, none⟩ (.slice pd2 d2.parts.length pcd2)) :=
    (((HB2.out.setCell HGW.out _).setCell HGW.out _).setCell HGW.out _).setCell HGW.out _
   have hbr : BrsAt ((((w2.setCell ⟨G, 0, none⟩ (.string d2.ware)).setCell ⟨G, 1, none⟩ (.int .i64 d2.limit)).setCell ⟨G, 2, none⟩ (.int .i64 d2.by_)).setCell ⟨G, 3, none⟩ (.slice pd2 d2.parts.length pcd2)) ra l := HBR.out _ (((((Keep.refl _ w2).setCell (.inl (fun h => absurd HGB.out (Nat.not_lt.2 h))) _).setCell (.inl (fun h => absurd HGB.out (Nat.not_lt.2 h))) _).setCell (.inl (fun h => absurd HGB.out (Nat.not_lt.2 h))) _).setCell (.inl (fun h => absurd HGB.out (Nat.not_lt.2 h))) _)
   generalize (((w2.setCell ⟨G, 0, none⟩ (.string d2.ware)).setCell ⟨G, 1, none⟩ (.int .i64 d2.limit)).setCell ⟨G, 2, none⟩ (.int .i64 d2.by_)).setCell ⟨G, 3, none⟩ (.slice pd2 d2.parts.length pcd2) = w9 at *
   have HB9 := Lib.hid hbw
   have HR9 := Lib.hid hbr
   clear hbw hbr g1 g2 HB2 HX2
   have g1 := hbx.cell
   clear hbx
   go_wp2_with fail
   (with_reducible refine (HCK.out _ _ _ _ _ HPS.out HR9.out hrc).mono ?_)
   rintro e w2 ⟨hbn, rfl⟩
   have HB2 := Lib.hid (HB9.out.trans (hbn.mono HB9.out.size))
   clear hbn g1
   go_wp2_with fail
   (with_reducible refine (HAL.out _).mono ?_)
   rintro e w3 ⟨rfl, hb3⟩
   have HB3 := Lib.hid (HB2.out.trans (hb3.mono HB2.out.size))
   clear hb3
   go_wp2_with fail
   go_ret
   exact ⟨by simp, HB3.out⟩
end Go.Proofs.YtpjcnkajimgagaaGreat
namespace Go.Proofs.YtpjcnkajimgagaaGreat.SureRestsEnd
open Go.ChangeShapes Go.WideShapes Go.ChangeAt Go.RowKit

theorem own : ownKnob Tryz.prog.godebug = none := by kernel_rfl

set_option maxRecDepth 100000 in
theorem lifted (os : Os) (started : os.Started) (H : Type) (enc : TypeId × Value → H) :
  ReturnsInHanded {} Tryz.checked os 7 .any (Rows.sureRestsSpec.pre6 enc Tryz.prog Tryz.f7 Rows.sureRestsRow.domain false) (Rows.sureRestsSpec.post enc Tryz.prog Tryz.f7 false true false false) := by
 refine returnsInHanded_of_change (C := Tryz.checked) own started (by kernel_rfl) Tryz.func7
  (ChangeSpec.witness6 (enc := enc) (C := Tryz.checked) false ⟨#[], #[.agg #[.string ⟨#[]⟩, .int .i64 0, .int .i64 0, .slice none 0 0], .int .i64 0, .int .i64 0], []⟩ 8 (by kernel_rfl) (by kernel_rfl) (by kernel_rfl) (by kernel_rfl)) ?_
 intro W base args ds gs before hval0 hW hcnd _
 have hval : ∀ (j : Nat) t v, Tryz.f7.params[j]? = some t → args[j]? = some v → Value.okWide Tryz.prog W .any base t v := hval0
 have hW' := hW
 obtain ⟨p, q, hA0, hV, rfl, hfz, hnd⟩ := hW
 have hA : DataW.TrodAll enc Tryz.prog W 0 (fun _ => true) true Tryz.f7.params.toList args.toList ds p := hA0
 rw [Tryz.params7] at hA hval
 obtain ⟨v0, vs0, d0, ds0, p0, q0, hargs, rfl, rfl, h0, r0⟩ := trodAll_cons hA
 obtain ⟨v1, vs1, d1, ds1, p1, q1, rfl, rfl, rfl, h1, r1⟩ := trodAll_cons r0
 obtain ⟨v2, vs2, d2, ds2, p2, q2, rfl, rfl, rfl, h2, r2⟩ := trodAll_cons r1
 obtain ⟨rfl, rfl, rfl⟩ := trodAll_nil r2
 obtain rfl : args = #[v0, v1, v2] := by cases args; simp_all
 obtain ⟨rfl, rfl⟩ := trodVars_none hV
 obtain ⟨c0, pa0, pc0, rfl, hp0, hpc0, hfit0, hlw0⟩ := case_of (hval 0 _ v0 rfl rfl) h0
 obtain ⟨a1, rfl, rfl, rfl, w1⟩ := open_int Tryz.underlying3 (hval 1 _ v1 rfl rfl) h1
 obtain ⟨a2, rfl, rfl, rfl, w2⟩ := open_int Tryz.underlying3 (hval 2 _ v2 rfl rfl) h2
 clear hA0 hval0
 refine (sureRests_any c0 hfit0 pa0 pc0 hpc0 a1 w1 a2 w2 W hp0).mono fun e W' ⟨he, hb⟩ => ?_
 subst he
 exact ⟨_, rfl, law_post rfl rfl (of_decide_eq_true (by kernel_rfl)) hW' rfl rfl rfl hb⟩

theorem over : Rows.sureRestsRow.holds Tryz.pinned (OpenSpec.ofChange Rows.sureRestsSpec) :=
 OpenClaim.holds_of_wide 7 Tryz.f7 rfl rfl rfl rfl rfl rfl rfl ⟨rfl, rfl, rfl, rfl, rfl⟩ rfl rfl rfl rfl rfl (by kernel_rfl) Tryz.func7 (by kernel_rfl)
  (of_decide_eq_true (by kernel_rfl)) (by unfold Func.isWrapper; first | (rw [if_pos (by decide +kernel)]; kernel_rfl) | (rw [if_neg (by decide +kernel)]; exact ⟨rfl, rfl⟩))
  (fun os started H enc _ => lifted os started H enc)

theorem proved : Rows.SureRestsSaid :=
 over
#print axioms proved
end Go.Proofs.YtpjcnkajimgagaaGreat.SureRestsEnd
