/- ProfileChecks: for all inputs the law returns true and makes new memory alone. No condition. -/
import Derived.Test.YthpjffhccjlnhaaGreatDoorGWaresR
import Derived.Test.YthpjffhccjlnhaaGreatDoorMG21
import Derived.Test.YthpjffhccjlnhaaGreatDoorMG18
set_option linter.unusedSimpArgs false
set_option linter.unusedVariables false
namespace Go.Proofs.YthpjffhccjlnhaaGreatDoor
open Go.RowKit
attribute [local go_sem] Oper.semAt_some

theorem sameW_self5 (A : List ByteArray) : sameW A A = true := by simp [sameW]
theorem strs_own {B : Nat} {W : World} {a : Option Addr} {A : List ByteArray} (h : RowOwn B W a (A.map Value.string)) : StrsAt W a A := fun k s hs => by
 obtain ⟨g, o, ha, _, hc, _⟩ := h k (.string s) (by rw [List.getElem?_map, hs]; rfl)
 exact ⟨g, o, ha, hc⟩
set_option maxRecDepth 100000 in
set_option maxHeartbeats 8000000 in
theorem profileChecks_any (a : Option Addr) (l : List Typ) (c : Nat) (hlc : l.length ≤ c) (ra : Option Addr) (r : List Rng) (rc : Nat) (hrc : r.length ≤ rc) (w : World) (hT : TypesAt w a l) (hR : RngsAt w ra r) :
  Calls Tryz.prog 15 #[.slice a l.length c, .slice ra r.length rc] w fun e w' => e = .returned (.bool true) ∧ Below w.heap.size w w' := by
 have HT := Lib.hid hT
 have HR := Lib.hid hR
 have HSH := Lib.hid (short_any a c l ra rc r w hT hR)
 clear hT hR
 have htu := fun W => turned_law W
 have HTU := Lib.hid htu
 clear htu
 go_enter Tryz.func15, Tryz.ntmps15
 go_wp2_with (refine HSH.out.mono ?_)
 rintro e w' ⟨bs, rfl, hok, rfl⟩
 clear HSH
 rcases bs with _ | _
 ·go_wp2_with (refine (HTU.out _).mono ?_)
  rintro e wt ⟨rfl, hbt⟩
  have HBT := Lib.hid hbt
  clear hbt
  go_wp2_with fail
  go_ret
  exact ⟨rfl, HBT.out⟩
 have HOK := Lib.hid (hok rfl)
 clear hok
 have HA := Lib.hid (HOK.out.ask HT.out HR.out hlc hrc)
 have hl15 := HOK.out.tl
 clear HT HR HOK
 obtain ⟨E, hE⟩ : ∃ E, typesErr l = E := ⟨_, rfl⟩
 obtain ⟨F, hF⟩ : ∃ F, ringsErr r = F := ⟨_, rfl⟩
 have HC1 := Lib.hid (fun W (h : Ask W a c l ra rc r) => hE ▸ checkTypes_any a c l W h.ty h.sm h.tlen h.tcap)
 have HC2 := Lib.hid (fun W (h : Ask W a c l ra rc r) => hE ▸ checkTypesR_any a c l W h.ty h.sm h.tlen)
 have HC3 := Lib.hid (fun W (h : Ask W a c l ra rc r) => hF ▸ checkRings_any ra rc r W h.rg h.rsm h.rlen h.rcap)
 have HC4 := Lib.hid (fun W (h : Ask W a c l ra rc r) => hF ▸ checkRingsR_any ra rc r W h.rg h.rsm h.rlen)
 have e1 := beq_self_eq_true E
 have e2 := beq_self_eq_true F
 clear hE hF
 go_wp2_with (refine (HTU.out _).mono ?_)
 rintro e w1 ⟨rfl, hb⟩
 have HB1 := Lib.hid hb
 have HA1 := Lib.hid (HA.out.below hb)
 clear hb HA
 go_wp2_with (refine (HC1.out _ HA1.out).mono ?_)
 rintro e w2 ⟨rfl, hb⟩
 have HB2 := Lib.hid (HB1.out.trans (hb.mono HB1.out.size))
 have HA2 := Lib.hid (HA1.out.below hb)
 clear hb HA1 HB1 HC1
 go_wp2_with (refine (HC2.out _ HA2.out).mono ?_)
 rintro e w3 ⟨rfl, hb⟩
 have HB3 := Lib.hid (HB2.out.trans (hb.mono HB2.out.size))
 have HA3 := Lib.hid (HA2.out.below hb)
 clear hb HA2 HB2 HC2
 go_wp2_with (refine (HC3.out _ HA3.out).mono ?_)
 rintro e w4 ⟨rfl, hb⟩
 have HB4 := Lib.hid (HB3.out.trans (hb.mono HB3.out.size))
 have HA4 := Lib.hid (HA3.out.below hb)
 clear hb HA3 HB3 HC3
 go_wp2_with (refine (HC4.out _ HA4.out).mono ?_)
 rintro e w5 ⟨rfl, hb⟩
 have HB5 := Lib.hid (HB4.out.trans (hb.mono HB4.out.size))
 have HA5 := Lib.hid (HA4.out.below hb)
 clear hb HA4 HB4 HC4
 have HW := Lib.hid (waresP_any a c l w5 HA5.out.ty (by omega))
 go_wp2_with (refine HW.out.mono ?_)
 rintro e w6 ⟨fa, fc, rfl, hro, hb⟩
 have HB6 := Lib.hid (HB5.out.trans (hb.mono HB5.out.size))
 have HA6 := Lib.hid (HA5.out.below hb)
 have X6 := Lib.hid (strs_own hro)
 clear hb hro HA5 HB5 HW
 have HW := Lib.hid (waresR_any a c l w6 HA6.out.ty (by omega))
 go_wp2_with (refine HW.out.mono ?_)
 rintro e w7 ⟨ga, gc, rfl, hro, hb⟩
 have HB7 := Lib.hid (HB6.out.trans (hb.mono HB6.out.size))
 have X7 := Lib.hid (X6.out.below hb)
 have Y7 := Lib.hid (strs_own hro)
 clear hb hro HA6 HB6 HW X6
 have hwl : (waresT l).length ≤ 1000000 := by
  unfold waresT
  rw [List.length_map]
  have h1 := List.length_filter_le (Lib.keeps (sortS (l.map fun t => bl t.ware)).toArray) (List.range (sortS (l.map fun t => bl t.ware)).length)
  have h2 : (waresL (l.map fun t => bl t.ware)).length ≤ (sortS (l.map fun t => bl t.ware)).length := by
   simpa [waresL, Lib.compact, Lib.compactUpTo] using h1
  rw [sortS_len, List.length_map] at h2
  omega
 have HS := Lib.hid (sameW_self5 (waresT l) ▸ sameWords_any fa ga fc gc (waresT l) (waresT l) w7 X7.out Y7.out hwl)
 clear hwl
 go_wp2_with (refine HS.out.mono ?_)
 rintro e w8 ⟨rfl, hb⟩
 have HB8 := Lib.hid (HB7.out.trans (hb.mono HB7.out.size))
 clear hb
 go_wp2_with fail
 go_ret
 exact ⟨rfl, HB8.out⟩
end Go.Proofs.YthpjffhccjlnhaaGreatDoor
