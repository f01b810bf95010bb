/- Walks and plain laws. No condition. -/
import Derived.Test.YtjgldeeianionaaGreatV13
set_option maxHeartbeats 2000000
set_option maxRecDepth 100000
set_option linter.unusedSimpArgs false
set_option linter.unusedVariables false
namespace Go.Proofs.YtjgldeeianionaaGreat
open Go.RowKit
section
attribute [local go_sem] Oper.semAt_some
theorem part_ref (v:Prt)(sa ra:Option Addr)(sc rc:Nat)(w:World)(hs:Ints w sa v.sherds)(hr:Ints w ra v.rests)(h1:v.sherds.length≤1000)(h2:v.rests.length≤1000):
 Calls Tryz.prog 193 #[.agg #[.slice sa v.sherds.length sc,.int .i64 v.span.low,.int .i64 v.span.high,.int .i64 v.span.lowBy,.int .i64 v.span.highBy,.bool v.foot,.int .i64 v.footBy,.slice ra v.rests.length rc]] w fun e w'=>e = .returned (.bool (isPartB v))∧Below w.heap.size w w':=by
 obtain⟨ss,⟨lo,hi,lb,hb⟩,ft,fb,rs⟩:=v;dsimp only at *;obtain⟨w0,hw0⟩:=zx (w.alloc (.cells #[.slice sa ss.length sc,.int .i64 lo,.int .i64 hi,.int .i64 lb,.int .i64 hb,.bool ft,.int .i64 fb,.slice ra rs.length rc] 80));have hB0:Below w.heap.size w w0:=by rw[←hw0];go_grown
 have b0:Box w0 w.heap.size #[.slice sa ss.length sc,.int .i64 lo,.int .i64 hi,.int .i64 lb,.int .i64 hb,.bool ft,.int .i64 fb,.slice ra rs.length rc] 80:=by rw[←hw0];exact Box.new _ _ _
 have e0:=b0.cell;have HS:=zh (rising_any sa sc ss 40 w0 (hs.below hB0) zO);have HR:Hid (∀A,Below w0.heap.size w0 A→Calls Tryz.prog 214 #[.slice ra rs.length rc,.int .i64 200] A fun e w'=>e = .returned (.bool (risingB rs 200))∧Below A.heap.size A w'):=zh (fun A hA=>rising_any ra rc rs 200 A ((hr.below hB0).below hA) zO);have HB0:=zh b0;have HW:=zh hw0;clear hs hr b0 hw0
 go_enter Tryz.func193,Tryz.ntmps193
 go_upto_region 1 with fail
 simp only[HW.out]
 go_upto_region 2 with (go_at_call 214;refine zM HS ?_;rintro e w1 ⟨rfl,hb1⟩;have e1:=(HB0.out.below' hb1).cell;have HB1:=zh hb1;clear hb1)
 clear e0
 go_upto_region 3 with (go_at_call 214;(with_reducible refine(HR.out _ HB1.out).mono ?_);rintro e w2 ⟨rfl,hb2⟩;have e2:=((HB0.out.below' HB1.out).below' hb2).cell;have HB2:=zh hb2;clear hb2)
 clear e1;have hB2:Below w.heap.size w w2:=hB0.trans ((HB1.out.trans (HB2.out.mono HB1.out.size)).mono hB0.size);have HBB:=zh hB2;have hlt:w.heap.size<w2.heap.size:=Nat.lt_of_lt_of_le HB0.out.lt (Nat.le_trans HB1.out.size HB2.out.size);clear hB0 hB2
 go_wp2_with (go_at_call 192;refine(within_any _ _ _ _).mono ?_;rintro e w' ⟨rfl,rfl⟩)
 all_goals (go_ret;refine⟨ret_bool ?_,HBB.out.alloc HBB.out.size _⟩)
 all_goals first
  |(simp[isPartB,okSpn,risingB,byB, *];done)
  |(simp[isPartB,okSpn,risingB,byB, *];omega)
  |(rw[Bool.eq_iff_iff];simp_all [isPartB,okSpn,risingB,byB,inB];done)
  |(rw[Bool.eq_iff_iff];simp_all [isPartB,okSpn,risingB,byB,inB];omega)
theorem byte_at (s:ByteArray)(k:Nat)(h:k<s.size):s.data.toList[k]?=some s[k]:=by simp[ByteArray.getElem_eq_getElem_data,h]
theorem all_bytes {s:ByteArray}{p:UInt8→Bool}(h:∀j (hj:j<s.size),p s[j]=true):s.data.toList.all p=true:=by
 rw[List.all_eq_true];intro x hx;obtain⟨j,hj⟩:=List.getElem?_of_mem hx;have hl:j<s.size:=by have:=(List.getElem?_eq_some_iff.1 hj).1;simpa using this
 rw[byte_at s j hl] at hj;cases hj;exact h j hl
theorem not_bytes {s:ByteArray}{p:UInt8→Bool}{k:Nat}(hk:k<s.size)(h:p s[k]=false):s.data.toList.all p=false:=by
 rw[List.all_eq_false];exact⟨s[k],List.mem_of_getElem? (byte_at s k hk),by simp[h]⟩
theorem name_ref (s:ByteArray)(w:World)(hs:s.size≤1000):
 Calls Tryz.prog 191 #[.string s] w fun e w'=>e = .returned (.bool (isNameB s))∧Below w.heap.size w w':=by
 by_cases h0:inB s.size 1 24=true
 ·have hp:0<s.size:=by simp[inB] at h0;omega
  have h24:(s.size:Int)≤24:=by simp[inB] at h0;omega
  have hne:((s.size:Int)==0)=false:=beq_eq_false_iff_ne.2 zO;have HH:=zh (name_head s hp);have H0:=zh h0;clear h0
  by_cases hb:97≤(s[0].toNat:Int)∧(s[0].toNat:Int)≤122
  ·obtain⟨hb1,hb2⟩:=hb
   go_enter Tryz.func191,Tryz.ntmps191
   go_wp2
   go_loop [3] (fun i=>∃k:Nat,k≤s.size∧i = .int .i64 k∧∀j (hj:j<s.size),j<k→nameByte s[j]=true) (fun i=>s.size-(intOf i).toNat)
   case atStart=>exact⟨0,Nat.zero_le _,rfl,fun j _ h=>absurd h (Nat.not_lt_zero _)⟩
   case round=>
    obtain⟨k,hk,rfl,hall⟩:=hrel;have HA:=zh hall;clear hall
    by_cases hlt:k<s.size
    ·rcases hn:nameByte s[k] with _|_
     ·have HN:=zh hn;have hn2:¬((97≤(s[k].toNat:Int)∧(s[k].toNat:Int)≤122)∨(48≤(s[k].toNat:Int)∧(s[k].toNat:Int)≤57)∨(s[k].toNat:Int)=45):=fun h=>by
       have:nameByte s[k]=true:=by simp[nameByte];omega
       rw[this] at hn;cases hn
      have HN2:=zh hn2;clear hn hn2
      go_wp2
      all_goals first
       |(go_ret;exact⟨ret_bool (by rw[isNameB,not_bytes hlt HN.out,Bool.and_false]),Below.refl _ _⟩)
       |(exfalso;have:=HN2.out;simp at *;omega)
     ·have HN:=zh hn;have hn2:((97≤(s[k].toNat:Int)∧(s[k].toNat:Int)≤122)∨(48≤(s[k].toNat:Int)∧(s[k].toNat:Int)≤57)∨(s[k].toNat:Int)=45):=by
       simp[nameByte] at hn;omega
      have HN2:=zh hn2;clear hn hn2
      go_wp2
      all_goals first
       |(go_round
         case rel=>exact⟨k+1,zO,zN,fun j hj hjk=>by
          rcases Nat.lt_or_ge j k with h|h
          ·exact HA.out j hj h
          ·obtain rfl:j=k:=by omega
           exact HN.out⟩
         case measure=>simp[intOf];omega)
       |(exfalso;have:=HN2.out;simp at *;omega)
    ·go_wp2
     go_ret
     refine⟨ret_bool ?_,Below.refl _ _⟩;have:s.data.toList.all nameByte=true:=all_bytes fun j hj=>HA.out j hj zO
     rw[isNameB,H0.out,HH.out,this]
     simp;omega
  ·have HB:=zh hb;clear hb
   go_enter Tryz.func191,Tryz.ntmps191
   go_wp2
   all_goals first
    |(go_ret;refine⟨ret_bool ?_,Below.refl _ _⟩;rw[isNameB,HH.out];have:=HB.out;simp;intros;omega)
    |(exfalso;have:=HB.out;omega)
 ·by_cases hz:s.size=0
  ·have hne:((s.size:Int)==0)=true:=by simp[hz]
   have HF:=zh (show isNameB s=false by simp[isNameB,h0]);clear h0 hz
   go_enter Tryz.func191,Tryz.ntmps191
   go_wp2
   go_ret
   exact⟨ret_bool HF.out.symm,Below.refl _ _⟩
  ·have hne:((s.size:Int)==0)=false:=beq_eq_false_iff_ne.2 zO;have h24:24<(s.size:Int):=by simp[inB] at h0;omega
   have HF:=zh (show isNameB s=false by simp[isNameB,h0]);clear h0 hz
   go_enter Tryz.func191,Tryz.ntmps191
   go_wp2
   go_ret
   exact⟨ret_bool HF.out.symm,Below.refl _ _⟩
theorem clash_ref (c:Cs)(hn:c.parts.length≤12)(x y:Nat)(pa:Option Addr)(pc:Nat)(w:World)(hpa:PartsAt w pa c.parts)(hx:x<c.parts.length)(hy:y<c.parts.length):
 Calls Tryz.prog 216 #[.agg #[.string c.ware,.int .i64 c.limit,.int .i64 c.by_,.slice pa c.parts.length pc],.int .i64 x,.int .i64 y] w fun e w'=>e = .returned (.bool (clashB c x y))∧Below w.heap.size w w':=by
 obtain⟨b,o,p,rfl,hp,hP⟩:=hpa.at_ hx;obtain⟨b',o',q,hb',hq,hQ⟩:=hpa.at_ hy;cases hb';have HC:=zh (clashB_eq hp hq);obtain⟨w1,hw1⟩:=zx (w.alloc (.cells #[.string c.ware,.int .i64 c.limit,.int .i64 c.by_,.slice (some ⟨b,o,none⟩) c.parts.length pc] 24));have hB1:Below w.heap.size w w1:=by rw[←hw1];go_grown
 have b1:Box w1 w.heap.size (csCells c (some ⟨b,o,none⟩) pc) 24:=by rw[←hw1];exact Box.new _ _ _
 have e1:w1.cell? ⟨w.heap.size,3,none⟩=some (.slice (some ⟨b,o,none⟩) c.parts.length pc):=b1.cell 3;obtain⟨sa,sc,ra,rc,p0,p1,p2,p3,p4,p5,p6,p7,_⟩:=(hP.below hB1).open;have hxi:(x:Int)<(c.parts.length:Int):=by omega
 have hyi:(y:Int)<(c.parts.length:Int):=by omega
 have HW:=zh hw1;have HB:=zh hB1;have HQ:=zh (hQ.below hB1);have B1:=zh b1;clear hw1 hpa hp hq hP hQ b1
 go_enter Tryz.func216,Tryz.ntmps216
 go_upto_region 1 with fail
 simp only[HW.out]
 go_upto_region 2 with fail
 have hB2:Below w1.heap.size w1 (w1.alloc (.cells #[.slice sa p.sherds.length sc,.int .i64 p.span.low,.int .i64 p.span.high,.int .i64 p.span.lowBy,.int .i64 p.span.highBy,.bool p.foot,.int .i64 p.footBy,.slice ra p.rests.length rc] 80)):=(Below.refl _ _).alloc (Nat.le_refl _) _;have g1:Box (w1.alloc (.cells #[.slice sa p.sherds.length sc,.int .i64 p.span.low,.int .i64 p.span.high,.int .i64 p.span.lowBy,.int .i64 p.span.highBy,.bool p.foot,.int .i64 p.footBy,.slice ra p.rests.length rc] 80)) w1.heap.size #[.slice sa p.sherds.length sc,.int .i64 p.span.low,.int .i64 p.span.high,.int .i64 p.span.lowBy,.int .i64 p.span.highBy,.bool p.foot,.int .i64 p.footBy,.slice ra p.rests.length rc] 80:=Box.new _ _ _
 have e2:(w1.alloc (.cells #[.slice sa p.sherds.length sc,.int .i64 p.span.low,.int .i64 p.span.high,.int .i64 p.span.lowBy,.int .i64 p.span.highBy,.bool p.foot,.int .i64 p.footBy,.slice ra p.rests.length rc] 80)).cell? ⟨w.heap.size,3,none⟩=some (.slice (some ⟨b,o,none⟩) c.parts.length pc):=(B1.out.below' hB2).cell 3;obtain⟨sa',sc',ra',rc',d0,d1,d2,d3,d4,d5,d6,d7,_⟩:=(HQ.out.below hB2).open;generalize w1.alloc (.cells #[.slice sa p.sherds.length sc,.int .i64 p.span.low,.int .i64 p.span.high,.int .i64 p.span.lowBy,.int .i64 p.span.highBy,.bool p.foot,.int .i64 p.footBy,.slice ra p.rests.length rc] 80)=w2 at *;clear p0 p1 p2 p3 p4 p5 p6 p7 e1;have HB2:=zh hB2;have G1:=zh g1;clear g1 hB2
 go_upto_region 3 with fail
 have hB3:Below w2.heap.size w2 (w2.alloc (.cells #[.slice sa' q.sherds.length sc',.int .i64 q.span.low,.int .i64 q.span.high,.int .i64 q.span.lowBy,.int .i64 q.span.highBy,.bool q.foot,.int .i64 q.footBy,.slice ra' q.rests.length rc'] 80)):=(Below.refl _ _).alloc (Nat.le_refl _) _;have k1:=(G1.out.below' hB3).cell;have k2:=(Box.new w2 #[.slice sa' q.sherds.length sc',.int .i64 q.span.low,.int .i64 q.span.high,.int .i64 q.span.lowBy,.int .i64 q.span.highBy,.bool q.foot,.int .i64 q.footBy,.slice ra' q.rests.length rc'] 80).cell;have hB:Below w.heap.size w (w2.alloc (.cells #[.slice sa' q.sherds.length sc',.int .i64 q.span.low,.int .i64 q.span.high,.int .i64 q.span.lowBy,.int .i64 q.span.highBy,.bool q.foot,.int .i64 q.footBy,.slice ra' q.rests.length rc'] 80)):=HB.out.trans ((HB2.out.trans (hB3.mono HB2.out.size)).mono HB.out.size);have HBB:=zh hB
 clear hB3 hB d0 d1 d2 d3 d4 d5 d6 d7 e2;generalize w2.alloc (.cells #[.slice sa' q.sherds.length sc',.int .i64 q.span.low,.int .i64 q.span.high,.int .i64 q.span.lowBy,.int .i64 q.span.highBy,.bool q.foot,.int .i64 q.footBy,.slice ra' q.rests.length rc'] 80)=w3 at *
 go_wp2_with fail
 all_goals (go_ret;refine⟨ret_bool ?_,HBB.out⟩;rw[HC.out])
 all_goals first
  |(simp[clashP,feetB, *];done)
  |(rw[Bool.eq_iff_iff];simp_all [clashP,feetB];done)
  |(rw[Bool.eq_iff_iff];simp_all [clashP,feetB];omega)
  |(simp only[clashP,feetB];rename_i h1 h2 h3 h4;rw[Bool.eq_iff_iff];simp[h4];omega)
  |(simp only[clashP,feetB];grind)
end
