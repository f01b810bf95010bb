/- Walks and plain laws. No condition. -/
import Derived.Test.YtjgldeeianionaaGreatV25
set_option maxHeartbeats 4000000
set_option maxRecDepth 100000
set_option linter.unusedSimpArgs false
set_option linter.unusedVariables false
namespace Go.Proofs.YtjgldeeianionaaGreat
open Go.RowKit
section
attribute [local go_sem] Oper.semAt_some
theorem countR9_any {c:Cs}{p:Prb}{q:Prt}{i:Nat}(hi:p.part=i)(hq:c.parts[i]?=some q)(h0:0≤q.span.low)(h1:q.span.low≤q.span.high)(h2:q.span.high≤1000)(hw1:1≤p.width)(hw2:p.width≤1001)(pa:Option Addr)(pc:Nat)(w:World)(hp:PartsAt w pa c.parts):
 Calls Tryz.prog 54 #[.agg #[.string c.ware,.int .i64 c.limit,.int .i64 c.by_,.slice pa c.parts.length pc],.agg #[.int .i64 p.id,.int .i64 p.part,.int .i64 p.width,.int .i64 p.cost]] w fun e w'=>e = .returned (.int .i64 (cntZ q.span p.width))∧Below w.heap.size w w':=by
 rw[hi];have hil:=(List.getElem?_eq_some_iff.1 hq).1;have hin:(i:Int)<(c.parts.length:Int):=by omega
 obtain⟨b,o,q',rfl,hq',hP⟩:=hp.at_ hil;rw[hq] at hq';cases hq';obtain⟨w2,hw2'⟩:∃w2,(w.alloc (.cells #[.string c.ware,.int .i64 c.limit,.int .i64 c.by_,.slice (some ⟨b,o,none⟩) c.parts.length pc] 24)).alloc (.cells #[.int .i64 p.id,.int .i64 i,.int .i64 p.width,.int .i64 p.cost] 93)=w2:=⟨_,rfl⟩
 have hB2:Below w.heap.size w w2:=by rw[←hw2'];go_grown
 have hs2:w2.heap.size=w.heap.size+2:=by rw[←hw2'];simp
 have e0:∀j,w2.cell? ⟨w.heap.size,j,none⟩=(#[.string c.ware,.int .i64 c.limit,.int .i64 c.by_,.slice (some ⟨b,o,none⟩) c.parts.length pc]:Array Value)[j]?:=by rw[←hw2'];exact((Box.new _ _ _).alloc _).cell
 have b3:Box w2 (w.heap.size+1) #[.int .i64 p.id,.int .i64 i,.int .i64 p.width,.int .i64 p.cost] 93:=by rw[←hw2'];exact Box.new' zS
 have e1:=b3.cell;obtain⟨sa,sc,ra,rc,x0,x1,x2,x3,x4,x5,x6,x7,_⟩:=hP.open;have y1:=below_cell hB2 x1;have y2:=below_cell hB2 x2;have y3:=below_cell hB2 x3;have y4:=below_cell hB2 x4;have HW:=zh hw2';obtain⟨w3,hw3⟩:=zx (w2.alloc (.cells #[.int .i64 q.span.low,.int .i64 q.span.high,.int .i64 q.span.lowBy,.int .i64 q.span.highBy] 78));have hB3:Below w2.heap.size w2 w3:=by rw[←hw3];go_grown
 have b4:Box w3 w2.heap.size #[.int .i64 q.span.low,.int .i64 q.span.high,.int .i64 q.span.lowBy,.int .i64 q.span.highBy] 78:=by rw[←hw3];exact Box.new _ _ _
 have e3:=(b3.below' hB3).cell;rw[hs2] at b4;have e4:=b4.cell;have HB3:=zh (hB2.trans (hB3.mono hB2.size));have HW3:=zh hw3;have hwz:(p.width==0)=false:=by simp;omega
 have hwz2:p.width≠0:=by omega
 have hs1:IntKind.i64.wrap (q.span.high-q.span.low)=q.span.high-q.span.low:=IntWalk.i64_in _ zO;have hs3:IntKind.i64.wrap (q.span.high-q.span.low+p.width)=q.span.high-q.span.low+p.width:=IntWalk.i64_in _ zO;clear hP hw2' x0 x1 x2 x3 x4 x5 x6 x7 hp b3 hw3 hB3 b4 hB2 hq hi
 go_enter Tryz.func54,Tryz.ntmps54
 go_upto_region 1 with fail
 simp only[HW.out]
 go_upto_region 2 with fail
 simp only[HW3.out];clear e0 e1 y1 y2 y3 y4
 go_wp2_with fail
 go_ret
 exact⟨rfl,HB3.out⟩
theorem cnt_toNat {s:Spn}{v:Int}(hw:0<v)(hs:s.low≤s.high):cntZ s v=(cntN s v:Int):=by
 have:=cnt_pos hw hs;unfold cntN
 omega
theorem isFoundR9_any {c:Cs}{l:List Prb}(hp:probesErr c l=0)(pa:Option Addr)(pc:Nat)(qa:Option Addr)(qc:Nat)(sa:Option Addr)(S:List Int)(sc:Nat)(hset:setB l.length S=true)(fa:Option Addr)(F:List Int)(fc:Nat)(w:World)(hP:PartsAt w pa c.parts)(hQ:PrbsAt w qa l)(hS:Ints w sa S)(hF:Ints w fa F)(hSl:S.length≤1000000)(hFl:F.length≤1000000):
 Calls Tryz.prog 93 #[.agg #[.string c.ware,.int .i64 c.limit,.int .i64 c.by_,.slice pa c.parts.length pc],.slice qa l.length qc,.slice sa S.length sc,.slice fa F.length fc] w fun e w'=>e = .returned (.bool (foundB c l S F))∧Below w.heap.size w w':=by
 obtain⟨w1,hw1⟩:=zx (w.alloc (.cells #[.string c.ware,.int .i64 c.limit,.int .i64 c.by_,.slice pa c.parts.length pc] 24));have hB1:Below w.heap.size w w1:=by rw[←hw1];go_grown
 have b1:Box w1 w.heap.size (csCells c pa pc) 24:=by rw[←hw1];exact Box.new _ _ _
 have HW:=zh hw1;have HB1:=zh hB1;have HX:=zh b1;have HP:=zh (hP.below hB1);have HQ:=zh (hQ.below hB1);have HS:=zh (hS.below hB1);have HF:=zh (hF.below hB1);have HPE:=zh hp;have HSET:=zh hset;have hl5:=(probes_ok hp).2.1;clear hw1 hB1 b1 hP hQ hS hF hp hset
 by_cases hlen:F.length=S.length
 ·have hne:((F.length:Int) != (S.length:Int))=false:=by simp;omega
  have HLE:=zh hlen;clear hlen
  go_enter Tryz.func93,Tryz.ntmps93
  go_upto_region 1 with fail
  simp only[HW.out]
  go_wp2_with fail
  go_loopw [9] (fun iv wr=>∃k:Nat,k≤S.length∧iv = .int .i64 k∧Below w1.heap.size w1 wr∧∀j,j<k→foundAt c l S F j=true) (fun iv _=>S.length-(intOf iv).toNat)
  case atStart=>exact⟨0,Nat.zero_le _,rfl,Below.refl _ _,fun j hj=>by omega⟩
  case round=>
   obtain⟨k,hk,rfl,hb,hall⟩:=hrel;have HB:=zh hb;have HA:=zh hall;clear hall
   by_cases hlt:k<S.length
   ·have hlf:k<F.length:=by have:=HLE.out;omega
    obtain⟨x,hx⟩:=get_of_lt F hlf;obtain⟨y,hy⟩:=get_of_lt S hlt;obtain⟨v,rfl,hvm⟩:=set_val HSET.out hy;obtain⟨p,hp⟩:=get_of_lt l hvm;have hkf:(k:Int)<(F.length:Int):=by omega
    have hks:(k:Int)<(S.length:Int):=by omega
    have hvi:(v:Int)<(l.length:Int):=by omega
    obtain⟨hc0,_,hall9⟩:=probes_ok HPE.out;obtain⟨hr,⟨hp0,hp1⟩,hm4⟩:=hall9 p (List.mem_of_getElem? hp);have rv:=right_vals hr;obtain⟨i,hi⟩:=Int.eq_ofNat_of_zero_le hp0;obtain⟨q,hq⟩:=get_of_lt c.parts (k:=i) zO;have sp:=spanP_ok hc0 (List.mem_of_getElem? hq);have hspn:=span_in hi hq;have hat:foundAt c l S F k=inB x 0 ((cntN (spanOf c p) p.width:Int)-1):=by simp[foundAt,hx,hy,cntAt,hp]
    have hcz:=cnt_toNat (s:=q.span) (v:=p.width) zO sp.2.1;rw[hspn] at hat hm4
    go_upto_region 6 with fail
    have hbd:Below wr.heap.size wr wr.drew:=(Below.refl _ wr).drew;have hb6:=hb.trans (hbd.mono hb.size);obtain⟨b,o,rfl,hbb⟩:=(HF.out.below hb6).base zO;have c1:=hbb _ _ hx;obtain⟨b2,o2,rfl,hbb2⟩:=(HS.out.below hb6).base zO;have c2:=hbb2 _ _ hy;obtain⟨g,e,p',rfl,hp',hG⟩:=(HQ.out.below hb6).at_ hvm;rw[hp] at hp';cases hp';obtain⟨d0,d1,d2,d3⟩:=hG.open;have e1:=(HX.out.below' hb6).cell;have HCN:=zh (countR9_any hi hq sp.1 sp.2.1 sp.2.2 rv.2.1.1 rv.2.1.2 pa pc wr.drew (HP.out.below hb6));rw[hcz] at HCN;have HAT:=zh hat;have HB6:=zh (HB1.out.trans (hb6.mono HB1.out.size));have HBW:=zh hb6;have K0:Hid (∀A,Below wr.drew.heap.size wr.drew A→cC A (w.heap.size) c pa pc∧A.cell? ⟨b,o+k,none⟩=some (.int .i64 x)∧A.cell? ⟨b2,o2+k,none⟩=some (.int .i64 (v:Int)) ∧
     A.cell? ⟨g,e+v*4,none⟩=some (.int .i64 p.id)∧A.cell? ⟨g,e+v*4+1,none⟩=some (.int .i64 p.part)∧A.cell? ⟨g,e+v*4+2,none⟩=some (.int .i64 p.width)∧A.cell? ⟨g,e+v*4+3,none⟩=some (.int .i64 p.cost)):=zh fun A hA=>
     ⟨(HX.out.below' (HBW.out.trans (hA.mono HBW.out.size))).cell,below_cell hA c1,below_cell hA c2,below_cell hA d0,below_cell hA d1,below_cell hA d2,below_cell hA d3⟩
    refine wp_region_L (fun A=>Below wr.drew.heap.size wr.drew A) 16 zK ?_;have hSS:Below wr.drew.heap.size wr.drew wr.drew:=Below.refl _ _;generalize hM:cntN q.span p.width=M at *;have hmw:IntKind.i64.wrap ((M:Int)-1)=(M:Int)-1:=IntWalk.i64_in _ zO;clear hx hy hp hbb hbb2 hG d0 d1 d2 d3 c1 c2 e1 hat hcz hspn sp hq hi hr rv hc0 hall9 hbd hb6 hb hM;generalize wr.drew=w6 at *;refine tM K0 0 hSS ?_;refine tM K0 1 hSS ?_;refine tM K0 2 hSS ?_;refine tM K0 3 hSS ?_;refine tM K0 4 hSS ?_;refine tM K0 5 hSS ?_;refine tM K0 6 hSS ?_;refine tM K0 7 hSS ?_;refine tM K0 8 hSS ?_;refine tM K0 9 hSS ?_;refine tM K0 10 hSS ?_;refine tM K0 11 hSS ?_
    refine anyL_call (i:=12) (f:=54) (args:=#[.agg #[.string c.ware,.int .i64 c.limit,.int .i64 c.by_,.slice pa c.parts.length pc],.agg #[.int .i64 p.id,.int .i64 p.part,.int .i64 p.width,.int .i64 p.cost]]) rfl zK (by rfl) (by go_simp) HCN.out ?_;rintro e7 w7 ⟨rfl,hb7⟩;refine .inl ⟨_,rfl,.inr hb7,?_⟩
    try simp only[pZ]
    have hSS:=hb7;refine tM K0 13 hSS ?_;refine anyL_call (i:=14) (f:=109) (args:=#[.int .i64 x,.int .i64 0,.int .i64 ((M:Int)-1)]) rfl zK (by rfl) (by go_simp) (withinR9_any x 0 ((M:Int)-1) w7) ?_;rintro e8 w8 ⟨rfl,rfl⟩;refine .inl ⟨_,rfl,.inr hSS,?_⟩
    try simp only[pZ]
    have HB7:=zh (HB6.out.trans (hb7.mono HB6.out.size));have HBW7:=zh (HBW.out.trans (hb7.mono HBW.out.size))
    rcases hin:inB x 0 ((M:Int)-1) with _|_
    ·have HNO:=zh (show foundB c l S F=false by unfold foundB;rw[upto_false hlf (by rw[HAT.out,hin]),Bool.and_false]);refine tM K0 15 hSS ?_;refine anyL_done zK ?_ _;clear hSS K0 hin hb7
     go_wp2_with fail
     go_ret
     refine⟨?_,HB7.out⟩;rw[HNO.out];rfl
    ·have HYES:=zh (show foundAt c l S F k=true by rw[HAT.out,hin]);refine tM K0 15 hSS ?_;refine anyL_done zK ?_ _;clear hSS K0 hin hb7
     go_wp2_with fail
     go_roundw
     case rel=>exact⟨k+1,hlt,zN,HBW7.out,all_step HA.out HYES.out⟩
     case measure=>exact zJ
   ·go_wp2_with fail
    go_ret
    refine⟨?_,HB1.out.trans (HB.out.mono HB1.out.size)⟩;have:foundB c l S F=true:=by
     unfold foundB;rw[HSET.out,decide_eq_true HLE.out,upto_iff.2 fun j hj=>HA.out j (by have:=HLE.out;omega)]
     rfl
    rw[this];rfl
 ·have hne:((F.length:Int) != (S.length:Int))=true:=by simp;omega
  have HNO:=zh (show foundB c l S F=false by simp[foundB,hlen]);clear hlen
  go_enter Tryz.func93,Tryz.ntmps93
  go_upto_region 1 with fail
  simp only[HW.out]
  go_wp2_with fail
  go_ret
  refine⟨?_,HB1.out⟩;rw[HNO.out];rfl
theorem checkProbesR_any (c:Cs)(hsm:c.Small)(pa:Option Addr)(pc:Nat)(l:List Prb)(qa:Option Addr)(qc:Nat)(w:World)(hp:PartsAt w pa c.parts)(hq:PrbsAt w qa l):
 Calls Tryz.prog 51 #[.agg #[.string c.ware,.int .i64 c.limit,.int .i64 c.by_,.slice pa c.parts.length pc],.slice qa l.length qc] w fun e w'=>e = .returned (.int .i64 (probesErr c l))∧Below w.heap.size w w':=by
 obtain⟨w1,hw1⟩:=zx (w.alloc (.cells #[.string c.ware,.int .i64 c.limit,.int .i64 c.by_,.slice pa c.parts.length pc] 24));have hB1:Below w.heap.size w w1:=by rw[←hw1];go_grown
 have b1:Box w1 w.heap.size (csCells c pa pc) 24:=by rw[←hw1];exact Box.new _ _ _
 have HCC:=zh (checkCase_ref c hsm pa pc w1 (hp.below hB1));have e1:=zC (b1);have HW:=zh hw1;have HX:=zh b1;have HB1:=zh hB1;have HP:=zh (hp.below hB1);have HQ:=zh (hq.below hB1);have h10:=hsm.1;clear hw1 b1 hB1 hp hq
 by_cases hz:checkCase c=0
 ·have HZ:=zh hz;rw[hz] at HCC;clear hz
  go_enter Tryz.func51,Tryz.ntmps51
  go_upto_region 1 with fail
  simp only[HW.out]
  go_wp2_with fail
  refine zM HCC ?_;rintro e w2 ⟨rfl,hb2⟩;have HBW:=zh (HB1.out.trans (hb2.mono HB1.out.size));have HX2:=zh (HX.out.below' hb2);have HP2:=zh (HP.out.below hb2);have HQ2:=zh (HQ.out.below hb2);clear hb2 e1 HX HP HQ HCC
  by_cases h5:(5:Int)<(l.length:Int)
  ·have HER:=zh (show probesErr c l=2 by
    unfold probesErr;rw[if_neg (by simp[HZ.out]),if_pos zO])
   go_wp2_with fail
   go_ret
   refine⟨?_,HBW.out⟩;rw[HER.out];rfl
  ·have hl5:l.length≤5:=by omega
   have h5b:decide ((5:Int)<(l.length:Int))=false:=by simp;omega
   go_wp2_with fail
   go_loopw [6] (fun iv wr=>∃k:Nat,k≤l.length∧iv = .int .i64 k∧Hid (∀j p,j<k→l[j]?=some p→prbErr c ((l.take j).map (·.id)) p=0)∧Below w2.heap.size w2 wr) (fun iv _=>l.length-(intOf iv).toNat)
   case atStart=>exact⟨0,Nat.zero_le _,rfl,zh (fun j p hj=>absurd hj (Nat.not_lt_zero j)),Below.refl _ _⟩
   case round=>
    obtain⟨k,hk,rfl,HA,hb⟩:=hrel
    by_cases hlt:k<l.length
    ·obtain⟨g,e,p,rfl,hv,hG⟩:=(HQ2.out.below hb).at_ hlt;obtain⟨c0,c1,c2,c3⟩:=hG.open;have hkn:(k:Int)<(l.length:Int):=by omega
     have HV:=zh hv;obtain⟨w5,hw5⟩:=zx (wr.alloc (.cells #[.int .i64 p.id,.int .i64 p.part,.int .i64 p.width,.int .i64 p.cost] 93));have hB5:Below wr.heap.size wr w5:=by rw[←hw5];go_grown
     have b5:Box w5 wr.heap.size #[.int .i64 p.id,.int .i64 p.part,.int .i64 p.width,.int .i64 p.cost] 93:=by rw[←hw5];exact Box.new _ _ _
     have hb5:=hb.trans (hB5.mono hb.size);have e1:=zC ((HX2.out.below' hb5));have e5:=b5.cell;have HW5:=zh hw5;have HB5:=zh hb5;have HY5:=zh b5;have HBW:=zh (HBW.out.trans (hb5.mono HBW.out.size));have hmw:IntKind.i64.wrap ((c.parts.length:Int)-1)=(c.parts.length:Int)-1:=IntWalk.i64_in _ zO;have HBAD:=zh (fun(h:prbErr c ((l.take k).map (·.id)) p=1)=>show probesErr c l=1 by rw[probesErr_at HZ.out hl5 HA.out HV.out (by rw[h];decide),h]);clear hG hv hw5 hB5 b5 hb hb5
     go_upto_region 10 with fail
     simp only[HW5.out];clear c0 c1 c2 c3
     go_wp2_with fail
     (with_reducible refine(withinR9_any _ _ _ _).mono ?_)
     rintro e9 w9 ⟨rfl,rfl⟩
     rcases hi1:inB p.id 1 1000000 with _|_
     ·have HER:=zh (HBAD.out (by simp[prbErr,rightB,hi1]))
      go_wp2_with fail
      go_ret
      refine⟨?_,HBW.out⟩;rw[HER.out];rfl
     ·have HI1:=zh hi1;clear hi1
      go_wp2_with fail
      (with_reducible refine(withinR9_any _ _ _ _).mono ?_)
      rintro e9 w9 ⟨rfl,rfl⟩
      rcases hi2:inB p.part 0 ((c.parts.length:Int)-1) with _|_
      ·have HER:=zh (HBAD.out (by simp[prbErr,hi2]));clear hi2
       go_wp2_with fail
       go_ret
       refine⟨?_,HBW.out⟩;rw[HER.out];rfl
      ·have HI2:=zh hi2;clear hi2
       go_wp2_with fail
       (with_reducible refine(withinR9_any _ _ _ _).mono ?_)
       rintro e9 w9 ⟨rfl,rfl⟩
       rcases hi3:inB p.width 1 1001 with _|_
       ·have HER:=zh (HBAD.out (by simp[prbErr,rightB,hi3]));clear hi3
        go_wp2_with fail
        go_ret
        refine⟨?_,HBW.out⟩;rw[HER.out];rfl
       ·have HI3:=zh hi3;clear hi3
        go_wp2_with fail
        (with_reducible refine(withinR9_any _ _ _ _).mono ?_)
        rintro e9 w9 ⟨rfl,rfl⟩
        rcases hi4:inB p.cost 1 1000 with _|_
        ·have HER:=zh (HBAD.out (by simp[prbErr,rightB,hi4]));clear hi4
         go_wp2_with fail
         go_ret
         refine⟨?_,HBW.out⟩;rw[HER.out];rfl
        ·have HI4:=zh hi4;have HRT:=zh (show rightB p=true by simp[rightB,HI1.out,HI3.out,hi4]);clear hi4;obtain⟨wo,hwo⟩:∃wo:World,wo=wr:=⟨_,rfl⟩
         subst hwo;clear e1 e5
         go_wp2_with fail
         go_loopw [8] (fun jv wr=>∃j:Nat,j≤k∧jv = .int .i64 j∧Below w5.heap.size w5 wr∧∀x∈l.take j,x.id≠p.id) (fun jv _=>k-(intOf jv).toNat)
         case atStart=>exact⟨0,Nat.zero_le _,rfl,Below.refl _ _,by simp⟩
         case round=>
          obtain⟨j,hj,rfl,hbo,hne⟩:=hrel;have HNE:=zh hne;have HBO:=zh hbo;clear hne
          by_cases hjk:j<k
          ·obtain⟨g9,o9,p9,eg,hv9,hG9⟩:=(HQ2.out.below (HB5.out.trans (hbo.mono HB5.out.size))).at_ (k:=j) zO;cases eg;obtain⟨c0,c1,c2,c3⟩:=hG9.open;have e5:=(HY5.out.below' hbo).cell;have hjn:(j:Int)<(l.length:Int):=by omega
           have hjki:(j:Int)<(k:Int):=by omega
           have HV9:=zh hv9;clear hG9 hv9 c1 c2 c3 hbo
           by_cases hid:p9.id=p.id
           ·have hidb:(p9.id==p.id)=true:=by simpa using hid
            have HER:=zh (HBAD.out (by
             have hc:((l.take k).map (·.id)).contains p.id=true:=by
              rw[List.contains_iff_mem,List.mem_map];exact⟨p9,List.mem_of_getElem? (i:=j) (by rw[List.getElem?_take,if_pos hjk];exact HV9.out),hid⟩
             unfold prbErr;rw[hc]
             simp))
            clear hid
            go_wp2_with fail
            go_quiet (fail)
            go_wp2_with fail
            go_ret
            refine⟨?_,below_drewN (HBW.out.trans (HBO.out.mono HBW.out.size)) _⟩;rw[HER.out];rfl
           ·have hidb:(p9.id==p.id)=false:=by simpa using hid
            have HID:=zh hid;clear hid
            go_wp2_with fail
            go_quiet (fail)
            go_wp2_with fail
            go_roundw
            case rel=>
             refine⟨j+1,zO,zN,below_drewN HBO.out _,fun y hy=>?_⟩;rw[List.take_add_one,HV9.out] at hy;simp at hy
             rcases hy with hy|rfl
             ·exact HNE.out y hy
             ·exact HID.out
            case measure=>exact zJ
          ·obtain rfl:j=k:=by omega
           have hc:((l.take j).map (·.id)).contains p.id=false:=by
            rw[Bool.eq_false_iff];intro hcc;rw[List.contains_iff_mem,List.mem_map] at hcc;obtain⟨x,hx,he⟩:=hcc;exact HNE.out x hx he
           have HER:=zh (show prbErr c ((l.take j).map (·.id)) p=if 4<cntN (spanOf c p) p.width then 2 else 0 by unfold prbErr;rw[HRT.out,HI2.out,hc];rfl);have hp0:0≤p.part∧p.part≤(c.parts.length:Int)-1:=by simpa[inB] using HI2.out
           obtain⟨i,hi⟩:=Int.eq_ofNat_of_zero_le hp0.1;obtain⟨q,hq⟩:=get_of_lt c.parts (k:=i) zO;have sp:=spanP_ok HZ.out (List.mem_of_getElem? hq);have rv:=right_vals HRT.out;have hspn:=span_in hi hq;have hcz:=cnt_toNat (s:=q.span) (v:=p.width) zO sp.2.1;rw[hspn] at HER;have HCN:=zh (countR9_any hi hq sp.1 sp.2.1 sp.2.2 rv.2.1.1 rv.2.1.2 pa pc wr (HP2.out.below (HB5.out.trans (hbo.mono HB5.out.size))));rw[hcz] at HCN;have e1:=zC ((HX2.out.below' (HB5.out.trans (hbo.mono HB5.out.size))));have e5:=(HY5.out.below' hbo).cell;generalize cntN q.span p.width=M at *;clear hc hp0 hi hq sp rv hspn hcz hbo
           go_wp2_with fail
           refine zM HCN ?_;rintro e7 w7 ⟨rfl,hb7⟩;have HB7:=zh (HB5.out.trans ((HBO.out.trans (hb7.mono HBO.out.size)).mono HB5.out.size));have HBW:=zh (HBW.out.trans ((HBO.out.trans (hb7.mono HBO.out.size)).mono HBW.out.size));clear hb7 e1 e5
           by_cases hm:(4:Int)<(M:Int)
           ·rw[if_pos zO] at HER;have HER:=zh (show probesErr c l=2 by rw[probesErr_at HZ.out hl5 HA.out HV.out (by rw[HER.out];decide),HER.out])
            go_wp2_with fail
            go_ret
            refine⟨?_,HBW.out⟩;rw[HER.out];rfl
           ·rw[if_neg zO] at HER
            go_wp2_with fail
            go_roundw
            case rel=>
             refine⟨j+1,zO,zN,zh (fun j' p' hj' hp'=>?_),HB7.out⟩
             rcases Nat.lt_or_ge j' j with h|h
             ·exact HA.out j' p' h hp'
             ·have hjk:j'=j:=by omega
              subst hjk;rw[HV.out] at hp';cases hp';exact HER.out
            case measure=>exact zJ
    ·go_wp2_with fail
     have HER:=zh (show probesErr c l=0 from probesErr_end HZ.out hl5 (fun j p hj=>HA.out j p zO))
     go_ret
     refine⟨?_,HBW.out.trans (hb.mono HBW.out.size)⟩;rw[HER.out];rfl
 ·have HER:=zh (show probesErr c l=checkCase c by unfold probesErr;rw[if_pos hz]);obtain⟨er,her⟩:=zx (checkCase c);rw[her] at hz HCC HER;have hzb:(er != 0)=true:=by simpa using hz
  clear her
  go_enter Tryz.func51,Tryz.ntmps51
  go_upto_region 1 with fail
  simp only[HW.out]
  go_wp2_with fail
  refine zM HCC ?_;rintro e w2 ⟨rfl,hb2⟩;have HBW:=zh (HB1.out.trans (hb2.mono HB1.out.size));clear hb2 e1
  go_wp2_with fail
  go_ret
  refine⟨?_,HBW.out⟩;rw[HER.out];rfl
end
