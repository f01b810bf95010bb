/- The library at this seat: WriteString (laid by hand: the shelf's command does not lay it here), Split at a separator of one byte. No condition. -/
/- Package profile: need, number, letters, where they do not panic. No condition. -/
import Derived.Test.YthpjffhccjlnhaaGreatDoorStr
import Derived.Test.YthpjffhccjlnhaaGreatDoorGOver
import Derived.Lib.SmallJoins
set_option linter.unusedSimpArgs false
set_option linter.unusedVariables false
namespace Go.Proofs
open Go.Shelf Go.RowKit
def Tryz.laysWriteString_ren : Go.Shelf.Ren := ⟨fun | 166 => 72 | 240 => 130 | 276 => 160 | n => n, fun | 0 => 0 | 3 => 3 | 4 => 4 | 9 => 9 | 20 => 20 | 37 => 98 | 70 => 97 | 72 => 100 | 75 => 102 | 164 => 187 | 80 => 106 | 5 => 5 | n => n, fun | n => n⟩
theorem Tryz.laysWriteString : Lays.n166 Tryz.prog Tryz.laysWriteString_ren := {
 mixed := by kernel_rfl
 f166 := Tryz.func72.trans (congrArg some (by kernel_rfl))
 f240 := Tryz.func130.trans (congrArg some (by kernel_rfl))
 f276 := Tryz.func160.trans (congrArg some (by kernel_rfl))
 t0 := Tryz.underlying0
 a0 := Tryz.isAgg0
 z0 := Tryz.sizeOf0
 v0 := Tryz.zeroValue0
 t3 := Tryz.underlying3
 a3 := Tryz.isAgg3
 z3 := Tryz.sizeOf3
 v3 := Tryz.zeroValue3
 t4 := Tryz.underlying4
 a4 := Tryz.isAgg4
 z4 := Tryz.sizeOf4
 v4 := Tryz.zeroValue4
 t9 := Tryz.underlying9
 a9 := Tryz.isAgg9
 z9 := Tryz.sizeOf9
 v9 := Tryz.zeroValue9
 t20 := Tryz.underlying20
 a20 := Tryz.isAgg20
 z20 := Tryz.sizeOf20
 v20 := Tryz.zeroValue20
 t37 := Tryz.underlying98
 a37 := Tryz.isAgg98
 z37 := Tryz.sizeOf98
 v37 := Tryz.zeroValue98
 t70 := Tryz.underlying97
 a70 := Tryz.isAgg97
 z70 := Tryz.sizeOf97
 v70 := Tryz.zeroValue97
 t72 := Tryz.underlying100
 a72 := Tryz.isAgg100
 z72 := Tryz.sizeOf100
 v72 := Tryz.zeroValue100
 t75 := Tryz.underlying102
 a75 := Tryz.isAgg102
 z75 := Tryz.sizeOf102
 v75 := Tryz.zeroValue102
 t164 := Tryz.underlying187
 a164 := Tryz.isAgg187
 z164 := Tryz.sizeOf187
 v164 := Tryz.zeroValue187 }
theorem Tryz.bExtraW : Builder.Extra Tryz.prog Tryz.laysWriteString_ren := { sizeBuilder := by kernel_rfl, liesBuilder := by kernel_rfl, t5 := Tryz.underlying5, a5 := Tryz.isAgg5, z5 := Tryz.sizeOf5, v5 := Tryz.zeroValue5, infoByte := by kernel_rfl, cellsByte := by kernel_rfl, sizeByte := by kernel_rfl, neB5 := by decide }
theorem Tryz.builder_WriteString (B b : Nat) (bs : List Value) (s : ByteArray) (w : World) (h : Lib.IsBuilder 100 5 B b bs w) (hlen : bs.length + s.size ≤ 140737488355328) (hBw : B ≤ w.heap.size) :
  Calls Tryz.prog 72 #[.pointer (some ⟨b, 0, none⟩), .string s] w fun e w' => e = .returned (.tuple #[.int .i64 s.size, .nilIface]) ∧ (Lib.BuilderAt 100 5 B b (.pointer (some ⟨b, 0, none⟩)) (bs ++ Lib.strCells s) w' ∧ Below B w w') := Any.Builder_WriteString Tryz.laysWriteString Tryz.bExtraW B b bs s w h hlen hBw
/-! strings.Split at a separator of one byte: no variable is read -/
section
open Go.Lib
theorem index_byte (l : List UInt8) (c : UInt8) : Lib.index l [c] = Lib.indexByte l c := Lib.index_one l c
theorem Any.strings_Split_one {P : Program} {ρ : Ren} (L : LaysM.n146 P ρ) (s : ByteArray) (c : UInt8) (w : World) (hs : s.size < 4294967281) :
  Calls P (ρ.f 146) #[.string s, .string ⟨#[c]⟩] w fun e w' =>
   e = .returned (.slice (some ⟨w.heap.size, 0, none⟩) (Lib.countB s ⟨#[c]⟩ + 1) (Lib.countB s ⟨#[c]⟩ + 1)) ∧ w' = w.alloc (.cells ((Lib.splitB ⟨#[c]⟩ 0 (Lib.countB s ⟨#[c]⟩) s).map Value.string).toArray (ρ.t 9)) := by
 have h1 : 1 ≤ (⟨#[c]⟩ : ByteArray).size := Nat.le_refl 1
 have hle := Lib.countB_le ⟨#[c]⟩ h1 s.size s (Nat.le_refl _)
 have hlen := Lib.splitB_all ⟨#[c]⟩ h1 0 _ s rfl
 have hC : Calls P (ρ.f 138) #[.string s, .string ⟨#[c]⟩] w fun e w' => e = .returned (.int .i64 (Lib.countB s ⟨#[c]⟩)) ∧ w' = w := by
  refine (Any.strings_Count_one { L with } s c w).mono fun e w' ⟨he, hw⟩ => ⟨?_, hw⟩
  rw [he]
  show _ = Ending.returned (Value.int .i64 ((Lib.count s.data.toList [c] : Nat) : Int))
  rw [Lib.count_one]
  rfl
 have hI : ∀ (x : ByteArray) (cc : Array Value), x.size ≤ s.size → Calls P (ρ.f 143) #[.string x, .string ⟨#[c]⟩] (w.alloc (.cells cc (ρ.t 9))) fun e w' => e = .returned (.int .i64 (Lib.indexB x ⟨#[c]⟩)) ∧ w' = w.alloc (.cells cc (ρ.t 9)) := fun x cc _ => by
  refine (Any.strings_Index_one { L with } x c _).mono fun e w' ⟨he, hw⟩ => ⟨?_, hw⟩
  rw [he]
  show _ = Ending.returned (Value.int .i64 (Lib.index x.data.toList [c]))
  rw [index_byte]
 have hG := Any.strings_genSplit_core { L with } L.i9 s ⟨#[c]⟩ 0 (-1) (Lib.countB s ⟨#[c]⟩ + 1) w hs h1 (Nat.zero_le _) hI hC (by decide) (by decide) (by rw [if_pos (by decide)]; omega)
 rw [Nat.add_sub_cancel, hlen] at hG
 have e2 : Lib.cellsOf (Lib.splitB ⟨#[c]⟩ 0 (Lib.countB s ⟨#[c]⟩) s) (Lib.countB s ⟨#[c]⟩ + 1) = ((Lib.splitB ⟨#[c]⟩ 0 (Lib.countB s ⟨#[c]⟩) s).map Value.string).toArray := by rw [← hlen]; exact Lib.cellsOf_full _
 rw [e2] at hG
 have t3 := L.t3; have t9 := L.t9; have t31 := L.t31
 have a3 := L.a3; have a9 := L.a9; have a31 := L.a31
 have z3 := L.z3; have v3 := L.v3; have z9 := L.z9; have v9 := L.v9; have z31 := L.z31; have v31 := L.v31
 have e221 : ∀ args w, (callFunc (ρ.f 221) args).run P w = .ok (.enter (ρ.f 221) args) w := enters_of L.f221 (by kernel_rfl) rfl
 go_enter L.f146, Body.n146_ntmps ρ
 go_wp2_with (go_at_fn (ρ.f 221); refine hG.mono ?_; rintro e w' ⟨rfl, hw⟩; rw [hw])
 go_ret
 exact ⟨rfl, rfl⟩
/-! and in plain words -/
theorem splitC_none {c : UInt8} {l : List UInt8} (h : c ∉ l) : YthpjffhccjlnhaaGreatDoor.splitC c l = [l] := by
 induction l with
 | nil => rfl
 | cons x l ih =>
  simp only [List.mem_cons, not_or] at h
  rw [YthpjffhccjlnhaaGreatDoor.splitC, if_neg (fun e => h.1 e.symm), ih h.2]
theorem splitC_some {c : UInt8} {p q : List UInt8} (h : c ∉ p) : YthpjffhccjlnhaaGreatDoor.splitC c (p ++ c :: q) = p :: YthpjffhccjlnhaaGreatDoor.splitC c q := by
 induction p with
 | nil => rw [List.nil_append, YthpjffhccjlnhaaGreatDoor.splitC, if_pos rfl]
 | cons x p ih =>
  simp only [List.mem_cons, not_or] at h
  rw [List.cons_append, YthpjffhccjlnhaaGreatDoor.splitC, if_neg (fun e => h.1 e.symm), ih h.2]
theorem indexByte_none {c : UInt8} {l : List UInt8} (h : c ∉ l) : Lib.indexByte l c = -1 := by
 induction l with
 | nil => rfl
 | cons x l ih =>
  simp only [List.mem_cons, not_or] at h
  rw [Lib.indexByte, ih h.2, if_neg (by simpa using fun e => h.1 e.symm)]; rfl
theorem indexByte_at {c : UInt8} {p q : List UInt8} (h : c ∉ p) : Lib.indexByte (p ++ c :: q) c = p.length := by
 induction p with
 | nil => simp [Lib.indexByte]
 | cons x p ih =>
  simp only [List.mem_cons, not_or] at h
  rw [List.cons_append, Lib.indexByte, ih h.2, if_neg (by simpa using fun e => h.1 e.symm), if_neg (by simp <;> omega)]; simp
theorem splitK_one (c : UInt8) : ∀ (k : Nat) (l : List UInt8), l.count c = k → Lib.splitK [c] 0 k l = YthpjffhccjlnhaaGreatDoor.splitC c l
 | 0, l, h => by rw [Lib.splitK, splitC_none (List.count_eq_zero.1 h)]
 | k + 1, l, h => by
  have hm : c ∈ l := List.count_pos_iff.1 (by omega)
  obtain ⟨p, q, rfl, hp⟩ := List.eq_append_cons_of_mem hm
  rw [Lib.splitK, index_byte, indexByte_at hp, splitC_some hp]
  have hq : q.count c = k := by
   rw [List.count_append, List.count_cons_self, List.count_eq_zero.2 hp] at h; omega
  rw [if_neg (by simp <;> omega)]
  have e1 : (p.length : Int).toNat = p.length := by simp
  rw [e1, List.take_append_of_le_length (by simp), Nat.add_zero, List.take_length]
  congr 1
  rw [show (p ++ c :: q).drop (p.length + [c].length) = q by simp [List.drop_append]]
  exact splitK_one c k q hq
end
namespace YthpjffhccjlnhaaGreatDoor
theorem split_any (s : ByteArray) (c : UInt8) (hs : s.size ≤ 1000000) (w : World) :
  Calls Tryz.prog 67 #[.string s, .string ⟨#[c]⟩] w fun e w' =>
   e = .returned (.slice (some ⟨w.heap.size, 0, none⟩) (splitC c (bl s)).length (splitC c (bl s)).length) ∧ w' = w.alloc (.cells ((splitC c (bl s)).map fun l => Value.string (mkB l)).toArray 9) := by
 have e1 : (Lib.splitB ⟨#[c]⟩ 0 (Lib.countB s ⟨#[c]⟩) s).map (·.data.toList) = splitC c (bl s) := by
  rw [Lib.splitB_data]
  show Lib.splitK [c] 0 (Lib.count s.data.toList [c]) s.data.toList = _
  rw [Lib.count_one, splitK_one c _ _ rfl]
 have e2 : (Lib.splitB ⟨#[c]⟩ 0 (Lib.countB s ⟨#[c]⟩) s).map Value.string = (splitC c (bl s)).map fun l => Value.string (mkB l) := by
  rw [← e1, List.map_map]; rfl
 have e3 : (splitC c (bl s)).length = Lib.countB s ⟨#[c]⟩ + 1 := by
  rw [← e1, List.length_map]; exact Lib.splitB_all ⟨#[c]⟩ (Nat.le_refl 1) 0 _ s rfl
 refine (Any.strings_Split_one Tryz.laysSplit s c w (by omega)).mono ?_
 rintro e w' ⟨rfl, rfl⟩
 rw [e3, ← e2]
 exact ⟨rfl, rfl⟩
end YthpjffhccjlnhaaGreatDoor
end Go.Proofs
namespace Go.Proofs.YthpjffhccjlnhaaGreatDoor
open Go.RowKit
attribute [local go_sem] Oper.semAt_some

theorem dig_of {b : UInt8} (h : digB b = true) : ∃ d, d < 10 ∧ b = UInt8.ofNat (48 + d) := by
 simp only [digB, Bool.and_eq_true, decide_eq_true_eq] at h
 exact ⟨b.toNat - 48, by omega, by rw [show 48 + (b.toNat - 48) = b.toNat by omega]; simp⟩
theorem num_one : ∀ d, d < 10 → Lib.atoi [UInt8.ofNat (48 + d)] = some (d : Int) ∧ ((UInt8.ofNat (48 + d)).toNat : Int) - 48 = d := by decide +kernel
theorem num_two : ∀ d, d < 10 → ∀ e, e < 10 → Lib.atoi [UInt8.ofNat (48 + d), UInt8.ofNat (48 + e)] = some ((d * 10 + e : Nat) : Int) ∧ (((UInt8.ofNat (48 + d)).toNat : Int) - 48) * 10 + (((UInt8.ofNat (48 + e)).toNat : Int) - 48) = ((d * 10 + e : Nat) : Int) ∧ (UInt8.ofNat (48 + d) != 48 → d ≠ 0) := by decide +kernel
theorem num_fine {l : List UInt8} {x : Int} (h : numS l = some x) : ∃ i : Nat, i < 100 ∧ x = i ∧ Lib.atoi l = some x ∧ Lib.decDigits i = l ∧ l.length ≤ 2 := by
 match l, h with
 | [a], h =>
  simp only [numS] at h
  split at h
  ·rename_i ha
   obtain ⟨d, hd, rfl⟩ := dig_of ha
   obtain ⟨h1, h2⟩ := num_one d hd
   rw [h2] at h
   cases h
   exact ⟨d, by omega, rfl, h1, by rw [Lib.decDigits, dif_pos hd], by simp⟩
  ·cases h
 | [a, b], h =>
  simp only [numS] at h
  split at h
  ·rename_i hab
   simp only [Bool.and_eq_true] at hab
   obtain ⟨⟨ha, hb⟩, hz⟩ := hab
   obtain ⟨d, hd, rfl⟩ := dig_of ha
   obtain ⟨e, he, rfl⟩ := dig_of hb
   obtain ⟨h1, h2, h3⟩ := num_two d hd e he
   rw [h2] at h
   cases h
   have := h3 hz
   refine ⟨d * 10 + e, by omega, rfl, h1, ?_, by simp⟩
   rw [Lib.decDigits, dif_neg (by omega), show (d * 10 + e) / 10 = d by omega, show (d * 10 + e) % 10 = e by omega, Lib.decDigits, dif_pos hd]; rfl
  ·cases h
theorem need_good (w : World) : Calls Tryz.prog 128 #[.bool true] w fun e w' => e = .returned (.tuple #[]) ∧ w = w' := by
 go_enter Tryz.func128, Tryz.ntmps128
 go_wp2_with fail
 go_end0
 exact ⟨rfl, rfl⟩
theorem number_good (s : ByteArray) (x : Int) (h : numS (bl s) = some x) (w : World) : Calls Tryz.prog 180 #[.string s] w fun e w' => e = .returned (.int .i64 x) ∧ Below w.heap.size w w' := by
 obtain ⟨i, hi, rfl, ha, hd, hl⟩ := num_fine h
 have HA := Lib.hid (Tryz.strconv_Atoi s (i : Int) (by rw [← bl_len]; omega) ha w)
 have hd2 : (⟨(Lib.decDigits i).toArray⟩ : ByteArray) = s := by rw [hd]
 have HD := Lib.hid hd2
 have HB := Lib.hid (show inB (i : Int) 0 99 = true by simp [inB]; omega)
 clear h ha hd hl hd2
 go_enter Tryz.func180, Tryz.ntmps180
 go_wp2_with fail
 refine HA.out.mono ?_
 rintro e w1 ⟨rfl, t, hw1⟩
 have hb : Below w.heap.size w w1 := by rw [hw1]; exact Go.Joins.below_bytesWorld _ _ _ _ (Nat.le_refl _)
 have HBB := Lib.hid hb
 clear hb hw1 HA
 go_wp2_with fail
 refine (in_any _ _ _ w1).mono ?_
 rintro e w2 ⟨rfl, rfl⟩
 simp only [HB.out]
 go_wp2_with fail
 refine (Tryz.strconv_Itoa i hi w1).mono ?_
 rintro e w2 ⟨rfl, rfl⟩
 simp only [HD.out]
 go_wp2_with fail
 refine (need_good _).mono ?_
 rintro e w3 ⟨rfl, rfl⟩
 go_wp2_with fail
 go_ret
 exact ⟨rfl, HBB.out⟩
theorem letters_good (s : ByteArray) (h : classesB (bl s) = true) (hs : s.size ≤ 1000000) (w : World) : Calls Tryz.prog 181 #[.string s] w fun e w' => e = .returned (.string s) ∧ Below w.heap.size w w' := by
 have h2 : isSetB (bl s) = true := classes_set h
 have hne : s.toList.isEmpty = false := by
  rw [ByteArray.toList_eq]; simp [classesB] at h; simpa using h.1
 have HI := Lib.hid (isSet_any s w hs)
 have H2 := Lib.hid h2
 clear h h2
 go_enter Tryz.func181, Tryz.ntmps181
 go_wp2_with fail
 refine HI.out.mono ?_
 rintro e w1 ⟨rfl, hb⟩
 have HBB := Lib.hid hb
 clear hb HI
 simp only [H2.out]
 go_wp2_with fail
 refine (need_good w1).mono ?_
 rintro e w2 ⟨rfl, rfl⟩
 go_wp2_with fail
 go_ret
 exact ⟨rfl, HBB.out⟩
end Go.Proofs.YthpjffhccjlnhaaGreatDoor
