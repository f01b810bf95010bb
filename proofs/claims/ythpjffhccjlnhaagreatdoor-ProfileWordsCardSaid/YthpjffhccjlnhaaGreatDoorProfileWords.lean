/- ProfileWords: for all inputs the law returns true and makes new memory alone. No condition. -/
import Derived.Test.YthpjffhccjlnhaaGreatDoorMG28
import Derived.Test.YthpjffhccjlnhaaGreatDoorMG29
import Derived.Test.YthpjffhccjlnhaaGreatDoorMG27
import Derived.Test.YthpjffhccjlnhaaGreatDoorMG19
set_option linter.unusedSimpArgs false
set_option linter.unusedVariables false
namespace Go.Proofs.YthpjffhccjlnhaaGreatDoor
open Go.RowKit
attribute [local go_sem] Oper.semAt_some

theorem prof_form (l : List Typ) (i : Int) (s : ByteArray) : ∃ (B : Bool) (E : Int), profOut l i s = .tuple #[.bool B, .int .i64 E] := by
 unfold profOut
 split <;> exact ⟨_, _, rfl⟩
theorem first_form (l : List Typ) (i : Int) : ∃ (S : ByteArray) (B : Bool) (E : Int), firstOut l i = .tuple #[.string S, .bool B, .int .i64 E] := by
 unfold firstOut
 split <;> exact ⟨_, _, _, rfl⟩
theorem many_form (l : List Typ) (i : Int) : ∃ (M E : Int), manyOut l i = .tuple #[.int .i64 M, .int .i64 E] := by
 unfold manyOut
 split <;> exact ⟨_, _, rfl⟩
theorem let_form (l : List Typ) (i : Int) : ∃ (S : ByteArray) (E : Int), lettersOut l i = .tuple #[.string S, .int .i64 E] := by
 unfold lettersOut
 split <;> exact ⟨_, _, rfl⟩
theorem dead_form (l : List Typ) (i : Int) : ∃ (S : ByteArray) (E : Int), deadOut l i = .tuple #[.string S, .int .i64 E] := by
 unfold deadOut
 split <;> exact ⟨_, _, rfl⟩
set_option maxRecDepth 100000 in
set_option maxHeartbeats 8000000 in
theorem profileWords_any (a : Option Addr) (l : List Typ) (c : Nat) (hlc : l.length ≤ c) (of_ : Int) (word : ByteArray) (w : World) (hT : TypesAt w a l) :
  Calls Tryz.prog 9 #[.slice a l.length c, .int .i64 of_, .string word] w fun e w' => e = .returned (.bool true) ∧ Below w.heap.size w w' := by
 have HT := Lib.hid hT
 have HSH := Lib.hid (short_any a c l none 0 [] w hT (fun k y hy => by simp at hy))
 have HB := Lib.hid (Below.refl w.heap.size w)
 clear hT
 have htu := fun W => turned_law W
 have HTU := Lib.hid htu
 clear htu
 go_enter Tryz.func9, Tryz.ntmps9
 go_wp2_with (refine HSH.out.mono ?_)
 rintro e w' ⟨bs, rfl, hok, rfl⟩
 clear HSH
 rcases bs with _ | _
 ·go_wp2_with (refine (HTU.out _).mono ?_)
  rintro e wt ⟨rfl, hbt⟩
  have HBT := Lib.hid (HB.out.trans (hbt.mono HB.out.size))
  clear hbt
  go_wp2_with fail
  go_ret
  exact ⟨rfl, HBT.out⟩
 have HOK := Lib.hid (hok rfl)
 clear hok
 by_cases hsz : 20 < word.size
 ·have hszi : (20 : Int) < (word.size : Int) := by omega
  go_wp2_with (refine (HTU.out _).mono ?_)
  rintro e wt ⟨rfl, hbt⟩
  have HBT := Lib.hid (HB.out.trans (hbt.mono HB.out.size))
  clear hbt
  go_wp2_with fail
  go_ret
  exact ⟨rfl, HBT.out⟩
 have hszi : decide ((20 : Int) < (word.size : Int)) = false := decide_eq_false (by omega)
 have hszn : decide (20 < word.size) = false := decide_eq_false hsz
 have hl15 := HOK.out.tl
 have hsml : ∀ t, t ∈ l → SmlT t := fun t ht => by
  obtain ⟨h1, h2, h3, h4, h5⟩ := HOK.out.ty t ht
  exact ⟨by omega, by omega, by omega, by omega, fun c hc => by have := h5 c hc; omega⟩
 obtain ⟨B1, E1, f1⟩ := prof_form l of_ word
 obtain ⟨S2, B2, E2, f2⟩ := first_form l of_
 obtain ⟨M3, E3, f3⟩ := many_form l of_
 obtain ⟨S4, E4, f4⟩ := let_form l of_
 obtain ⟨S5, E5, f5⟩ := dead_form l of_
 have C1 := Lib.hid (fun W (h : TypesAt W a l) => f1 ▸ isProfile_any a c l of_ word (by omega) W h hsml (by omega) hlc)
 have D1 := Lib.hid (fun W (h : TypesAt W a l) => f1 ▸ isProfileR_any a c l of_ word (by omega) W h hsml (by omega))
 have C2 := Lib.hid (fun W (h : TypesAt W a l) => f2 ▸ firstX_any a c l of_ W h hsml (by omega) hlc)
 have D2 := Lib.hid (fun W (h : TypesAt W a l) => f2 ▸ firstXR_any a c l of_ W h hsml (by omega))
 have C3 := Lib.hid (fun W (h : TypesAt W a l) => f3 ▸ manyX_any a c l of_ W h hsml (by omega) hlc)
 have D3 := Lib.hid (fun W (h : TypesAt W a l) => f3 ▸ manyR_any a c l of_ W h hsml (by omega))
 have C4 := Lib.hid (fun W (h : TypesAt W a l) => f4 ▸ lettersX_any a c l of_ W h hsml (by omega) hlc)
 have D4 := Lib.hid (fun W (h : TypesAt W a l) => f4 ▸ lettersR_any a c l of_ W h hsml (by omega))
 have C5 := Lib.hid (fun W (h : TypesAt W a l) => f5 ▸ deadX_any a c l of_ W h hsml (by omega) hlc)
 have D5 := Lib.hid (fun W (h : TypesAt W a l) => f5 ▸ deadR_any a c l of_ W h hsml (by omega))
 clear f1 f2 f3 f4 f5 hsml HOK hsz
 go_wp2_with (refine (C1.out w' HT.out).mono ?_)
 rintro e w2 ⟨rfl, hb2⟩
 have HBN := Lib.hid (HB.out.trans (hb2.mono HB.out.size))
 have HTN := Lib.hid (HT.out.below hb2)
 clear hb2 HB HT
 have HB := HBN
 have HT := HTN
 clear HBN HTN
 go_wp2_with (refine (D1.out w2 HT.out).mono ?_)
 rintro e w2 ⟨rfl, hb2⟩
 have HBN := Lib.hid (HB.out.trans (hb2.mono HB.out.size))
 have HTN := Lib.hid (HT.out.below hb2)
 clear hb2 HB HT
 have HB := HBN
 have HT := HTN
 clear HBN HTN
 go_wp2_with (refine (C2.out w2 HT.out).mono ?_)
 rintro e w2 ⟨rfl, hb2⟩
 have HBN := Lib.hid (HB.out.trans (hb2.mono HB.out.size))
 have HTN := Lib.hid (HT.out.below hb2)
 clear hb2 HB HT
 have HB := HBN
 have HT := HTN
 clear HBN HTN
 go_wp2_with (refine (D2.out w2 HT.out).mono ?_)
 rintro e w2 ⟨rfl, hb2⟩
 have HBN := Lib.hid (HB.out.trans (hb2.mono HB.out.size))
 have HTN := Lib.hid (HT.out.below hb2)
 clear hb2 HB HT
 have HB := HBN
 have HT := HTN
 clear HBN HTN
 go_wp2_with (refine (C3.out w2 HT.out).mono ?_)
 rintro e w2 ⟨rfl, hb2⟩
 have HBN := Lib.hid (HB.out.trans (hb2.mono HB.out.size))
 have HTN := Lib.hid (HT.out.below hb2)
 clear hb2 HB HT
 have HB := HBN
 have HT := HTN
 clear HBN HTN
 go_wp2_with (refine (D3.out w2 HT.out).mono ?_)
 rintro e w2 ⟨rfl, hb2⟩
 have HBN := Lib.hid (HB.out.trans (hb2.mono HB.out.size))
 have HTN := Lib.hid (HT.out.below hb2)
 clear hb2 HB HT
 have HB := HBN
 have HT := HTN
 clear HBN HTN
 have n1 : (B1 != B1) = false := by simp
 have n2 : (B2 != B2) = false := by simp
 have n3 : (E1 != E1) = false := by simp
 have n4 : (E2 != E2) = false := by simp
 have n5 : (E3 != E3) = false := by simp
 have n6 : (M3 != M3) = false := by simp
 have n7 : (S2.toList != S2.toList) = false := by simp
 have m1 := beq_self_eq_true B1
 have m2 := beq_self_eq_true B2
 have m3 := beq_self_eq_true E1
 have m4 := beq_self_eq_true E2
 have m5 := beq_self_eq_true E3
 have m6 := beq_self_eq_true M3
 have m7 := beq_self_eq_true S2.toList
 go_upto_region 11 with fail
 clear n1 n2 n3 n4 n5 n6 n7 m1 m2 m3 m4 m5 m6 m7
 go_wp2_with (refine (C4.out w2 HT.out).mono ?_)
 rintro e w2 ⟨rfl, hb2⟩
 have HBN := Lib.hid (HB.out.trans (hb2.mono HB.out.size))
 have HTN := Lib.hid (HT.out.below hb2)
 clear hb2 HB HT
 have HB := HBN
 have HT := HTN
 clear HBN HTN
 go_wp2_with (refine (D4.out w2 HT.out).mono ?_)
 rintro e w2 ⟨rfl, hb2⟩
 have HBN := Lib.hid (HB.out.trans (hb2.mono HB.out.size))
 have HTN := Lib.hid (HT.out.below hb2)
 clear hb2 HB HT
 have HB := HBN
 have HT := HTN
 clear HBN HTN
 go_wp2_with (refine (C5.out w2 HT.out).mono ?_)
 rintro e w2 ⟨rfl, hb2⟩
 have HBN := Lib.hid (HB.out.trans (hb2.mono HB.out.size))
 have HTN := Lib.hid (HT.out.below hb2)
 clear hb2 HB HT
 have HB := HBN
 have HT := HTN
 clear HBN HTN
 go_wp2_with (refine (D5.out w2 HT.out).mono ?_)
 rintro e w2 ⟨rfl, hb2⟩
 have HBN := Lib.hid (HB.out.trans (hb2.mono HB.out.size))
 have HTN := Lib.hid (HT.out.below hb2)
 clear hb2 HB HT
 have HB := HBN
 have HT := HTN
 clear HBN HTN
 go_wp2_with (refine (HTU.out _).mono ?_)
 rintro e wt ⟨rfl, hbt⟩
 have HBT := Lib.hid (HB.out.trans (hbt.mono HB.out.size))
 have k1 := beq_self_eq_true E4
 have k2 := beq_self_eq_true E5
 have k3 := beq_self_eq_true S4.toList
 have k4 := beq_self_eq_true S5.toList
 clear hbt
 go_wp2_with fail
 go_ret
 exact ⟨rfl, HBT.out⟩
end Go.Proofs.YthpjffhccjlnhaaGreatDoor
