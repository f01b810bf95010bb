/- The walks and plain laws of: MQR5 MQR6. No condition. -/
import Derived.Test.YtjgldeeianionaaGreatT11
import Derived.Test.YtjgldeeianionaaGreatT12
import Derived.Test.YtjgldeeianionaaGreatT15
import Derived.Test.YtjgldeeianionaaGreatT17
import Derived.Test.YtjgldeeianionaaGreatT18
import Derived.Test.YtjgldeeianionaaGreatT19
import Derived.Test.YtjgldeeianionaaGreatT31
import Derived.Test.YtjgldeeianionaaGreatT34
import Derived.Test.YtjgldeeianionaaGreatT01
set_option maxHeartbeats 4000000
set_option maxRecDepth 100000
set_option linter.unusedSimpArgs false
set_option linter.unusedVariables false
namespace Go.Proofs.YtjgldeeianionaaGreat
open Go.RowKit
attribute [local go_sem] Oper.semAt_some
theorem checkProbesR_any (c:Cs)(hsm:c.Small)(pa:Option Addr)(pc:Nat)(l:List Prb)(qa:Option Addr)(qc:Nat)(w:World)(hp:PartsAt w pa c.parts)(hq:PrbsAt w qa l):
 Calls Tryz.prog 51 #[.agg #[.string c.ware,.int .i64 c.limit,.int .i64 c.by_,.slice pa c.parts.length pc],.slice qa l.length qc] w fun e w'=>e = .returned (.int .i64 (probesErr c l))∧Below w.heap.size w w':=by
 obtain⟨w1,hw1⟩:=zx (w.alloc (.cells #[.string c.ware,.int .i64 c.limit,.int .i64 c.by_,.slice pa c.parts.length pc] 24));have hB1:Below w.heap.size w w1:=by rw[←hw1];go_grown
 have b1:Box w1 w.heap.size (csCells c pa pc) 24:=by rw[←hw1];exact Box.new _ _ _
 have HCC:=zh (checkCase_ref c hsm pa pc w1 (hp.below hB1));have e1:=zC (b1);have HW:=zh hw1;have HX:=zh b1;have HB1:=zh hB1;have HP:=zh (hp.below hB1);have HQ:=zh (hq.below hB1);have h10:=hsm.1;clear hw1 b1 hB1 hp hq
 by_cases hz:checkCase c=0
 ·have HZ:=zh hz;rw[hz] at HCC;clear hz
  go_enter Tryz.func51,Tryz.ntmps51
  go_upto_region 1 with fail
  simp only[HW.out]
  go_wp2_with fail
  refine zM HCC ?_;rintro e w2 ⟨rfl,hb2⟩;have HBW:=zh (HB1.out.trans (hb2.mono HB1.out.size));have HX2:=zh (HX.out.below' hb2);have HP2:=zh (HP.out.below hb2);have HQ2:=zh (HQ.out.below hb2);clear hb2 e1 HX HP HQ HCC
  by_cases h5:(5:Int)<(l.length:Int)
  ·have HER:=zh (show probesErr c l=2 by
    unfold probesErr;rw[if_neg (by simp[HZ.out]),if_pos zO])
   go_wp2_with fail
   go_ret
   refine⟨?_,HBW.out⟩;rw[HER.out];rfl
  ·have hl5:l.length≤5:=by omega
   have h5b:decide ((5:Int)<(l.length:Int))=false:=by simp;omega
   go_wp2_with fail
   go_loopw [6] (fun iv wr=>∃k:Nat,k≤l.length∧iv = .int .i64 k∧Hid (∀j p,j<k→l[j]?=some p→prbErr c ((l.take j).map (·.id)) p=0)∧Below w2.heap.size w2 wr) (fun iv _=>l.length-(intOf iv).toNat)
   case atStart=>exact⟨0,Nat.zero_le _,rfl,zh (fun j p hj=>absurd hj (Nat.not_lt_zero j)),Below.refl _ _⟩
   case round=>
    obtain⟨k,hk,rfl,HA,hb⟩:=hrel
    by_cases hlt:k<l.length
    ·obtain⟨g,e,p,rfl,hv,hG⟩:=(HQ2.out.below hb).at_ hlt;obtain⟨c0,c1,c2,c3⟩:=hG.open;have hkn:(k:Int)<(l.length:Int):=by omega
     have HV:=zh hv;obtain⟨w5,hw5⟩:=zx (wr.alloc (.cells #[.int .i64 p.id,.int .i64 p.part,.int .i64 p.width,.int .i64 p.cost] 93));have hB5:Below wr.heap.size wr w5:=by rw[←hw5];go_grown
     have b5:Box w5 wr.heap.size #[.int .i64 p.id,.int .i64 p.part,.int .i64 p.width,.int .i64 p.cost] 93:=by rw[←hw5];exact Box.new _ _ _
     have hb5:=hb.trans (hB5.mono hb.size);have e1:=zC ((HX2.out.below' hb5));have e5:=b5.cell;have HW5:=zh hw5;have HB5:=zh hb5;have HY5:=zh b5;have HBW:=zh (HBW.out.trans (hb5.mono HBW.out.size));have hmw:IntKind.i64.wrap ((c.parts.length:Int)-1)=(c.parts.length:Int)-1:=IntWalk.i64_in _ zO;have HBAD:=zh (fun(h:prbErr c ((l.take k).map (·.id)) p=1)=>show probesErr c l=1 by rw[probesErr_at HZ.out hl5 HA.out HV.out (by rw[h];decide),h]);clear hG hv hw5 hB5 b5 hb hb5
     go_upto_region 10 with fail
     simp only[HW5.out];clear c0 c1 c2 c3
     go_wp2_with fail
     (with_reducible refine(withinR9_any _ _ _ _).mono ?_)
     rintro e9 w9 ⟨rfl,rfl⟩
     rcases hi1:inB p.id 1 1000000 with _|_
     ·have HER:=zh (HBAD.out (by simp[prbErr,rightB,hi1]))
      go_wp2_with fail
      go_ret
      refine⟨?_,HBW.out⟩;rw[HER.out];rfl
     ·have HI1:=zh hi1;clear hi1
      go_wp2_with fail
      (with_reducible refine(withinR9_any _ _ _ _).mono ?_)
      rintro e9 w9 ⟨rfl,rfl⟩
      rcases hi2:inB p.part 0 ((c.parts.length:Int)-1) with _|_
      ·have HER:=zh (HBAD.out (by simp[prbErr,hi2]));clear hi2
       go_wp2_with fail
       go_ret
       refine⟨?_,HBW.out⟩;rw[HER.out];rfl
      ·have HI2:=zh hi2;clear hi2
       go_wp2_with fail
       (with_reducible refine(withinR9_any _ _ _ _).mono ?_)
       rintro e9 w9 ⟨rfl,rfl⟩
       rcases hi3:inB p.width 1 1001 with _|_
       ·have HER:=zh (HBAD.out (by simp[prbErr,rightB,hi3]));clear hi3
        go_wp2_with fail
        go_ret
        refine⟨?_,HBW.out⟩;rw[HER.out];rfl
       ·have HI3:=zh hi3;clear hi3
        go_wp2_with fail
        (with_reducible refine(withinR9_any _ _ _ _).mono ?_)
        rintro e9 w9 ⟨rfl,rfl⟩
        rcases hi4:inB p.cost 1 1000 with _|_
        ·have HER:=zh (HBAD.out (by simp[prbErr,rightB,hi4]));clear hi4
         go_wp2_with fail
         go_ret
         refine⟨?_,HBW.out⟩;rw[HER.out];rfl
        ·have HI4:=zh hi4;have HRT:=zh (show rightB p=true by simp[rightB,HI1.out,HI3.out,hi4]);clear hi4;obtain⟨wo,hwo⟩:∃wo:World,wo=wr:=⟨_,rfl⟩
         subst hwo;clear e1 e5
         go_wp2_with fail
         go_loopw [8] (fun jv wr=>∃j:Nat,j≤k∧jv = .int .i64 j∧Below w5.heap.size w5 wr∧∀x∈l.take j,x.id≠p.id) (fun jv _=>k-(intOf jv).toNat)
         case atStart=>exact⟨0,Nat.zero_le _,rfl,Below.refl _ _,by simp⟩
         case round=>
          obtain⟨j,hj,rfl,hbo,hne⟩:=hrel;have HNE:=zh hne;have HBO:=zh hbo;clear hne
          by_cases hjk:j<k
          ·obtain⟨g9,o9,p9,eg,hv9,hG9⟩:=(HQ2.out.below (HB5.out.trans (hbo.mono HB5.out.size))).at_ (k:=j) zO;cases eg;obtain⟨c0,c1,c2,c3⟩:=hG9.open;have e5:=(HY5.out.below' hbo).cell;have hjn:(j:Int)<(l.length:Int):=by omega
           have hjki:(j:Int)<(k:Int):=by omega
           have HV9:=zh hv9;clear hG9 hv9 c1 c2 c3 hbo
           by_cases hid:p9.id=p.id
           ·have hidb:(p9.id==p.id)=true:=by simpa using hid
            have HER:=zh (HBAD.out (by
             have hc:((l.take k).map (·.id)).contains p.id=true:=by
              rw[List.contains_iff_mem,List.mem_map];exact⟨p9,List.mem_of_getElem? (i:=j) (by rw[List.getElem?_take,if_pos hjk];exact HV9.out),hid⟩
             unfold prbErr;rw[hc]
             simp))
            clear hid
            go_wp2_with fail
            go_quiet (fail)
            go_wp2_with fail
            go_ret
            refine⟨?_,below_drewN (HBW.out.trans (HBO.out.mono HBW.out.size)) _⟩;rw[HER.out];rfl
           ·have hidb:(p9.id==p.id)=false:=by simpa using hid
            have HID:=zh hid;clear hid
            go_wp2_with fail
            go_quiet (fail)
            go_wp2_with fail
            go_roundw
            case rel=>
             refine⟨j+1,zO,zN,below_drewN HBO.out _,fun y hy=>?_⟩;rw[List.take_add_one,HV9.out] at hy;simp at hy
             rcases hy with hy|rfl
             ·exact HNE.out y hy
             ·exact HID.out
            case measure=>simp[intOf];omega
          ·obtain rfl:j=k:=by omega
           have hc:((l.take j).map (·.id)).contains p.id=false:=by
            rw[Bool.eq_false_iff];intro hcc;rw[List.contains_iff_mem,List.mem_map] at hcc;obtain⟨x,hx,he⟩:=hcc;exact HNE.out x hx he
           have HER:=zh (show prbErr c ((l.take j).map (·.id)) p=if 4<cntN (spanOf c p) p.width then 2 else 0 by unfold prbErr;rw[HRT.out,HI2.out,hc];rfl);have hp0:0≤p.part∧p.part≤(c.parts.length:Int)-1:=by simpa[inB] using HI2.out
           obtain⟨i,hi⟩:=Int.eq_ofNat_of_zero_le hp0.1;obtain⟨q,hq⟩:=get_of_lt c.parts (k:=i) zO;have sp:=spanP_ok HZ.out (List.mem_of_getElem? hq);have rv:=right_vals HRT.out;have hspn:=span_in hi hq;have hcz:=cnt_toNat (s:=q.span) (v:=p.width) zO sp.2.1;rw[hspn] at HER;have HCN:=zh (countR9_any hi hq sp.1 sp.2.1 sp.2.2 rv.2.1.1 rv.2.1.2 pa pc wr (HP2.out.below (HB5.out.trans (hbo.mono HB5.out.size))));rw[hcz] at HCN;have e1:=zC ((HX2.out.below' (HB5.out.trans (hbo.mono HB5.out.size))));have e5:=(HY5.out.below' hbo).cell;generalize cntN q.span p.width=M at *;clear hc hp0 hi hq sp rv hspn hcz hbo
           go_wp2_with fail
           refine zM HCN ?_;rintro e7 w7 ⟨rfl,hb7⟩;have HB7:=zh (HB5.out.trans ((HBO.out.trans (hb7.mono HBO.out.size)).mono HB5.out.size));have HBW:=zh (HBW.out.trans ((HBO.out.trans (hb7.mono HBO.out.size)).mono HBW.out.size));clear hb7 e1 e5
           by_cases hm:(4:Int)<(M:Int)
           ·rw[if_pos zO] at HER;have HER:=zh (show probesErr c l=2 by rw[probesErr_at HZ.out hl5 HA.out HV.out (by rw[HER.out];decide),HER.out])
            go_wp2_with fail
            go_ret
            refine⟨?_,HBW.out⟩;rw[HER.out];rfl
           ·rw[if_neg zO] at HER
            go_wp2_with fail
            go_roundw
            case rel=>
             refine⟨j+1,zO,zN,zh (fun j' p' hj' hp'=>?_),HB7.out⟩
             rcases Nat.lt_or_ge j' j with h|h
             ·exact HA.out j' p' h hp'
             ·have hjk:j'=j:=by omega
              subst hjk;rw[HV.out] at hp';cases hp';exact HER.out
            case measure=>simp[intOf];omega
    ·go_wp2_with fail
     have HER:=zh (show probesErr c l=0 from probesErr_end HZ.out hl5 (fun j p hj=>HA.out j p zO))
     go_ret
     refine⟨?_,HBW.out.trans (hb.mono HBW.out.size)⟩;rw[HER.out];rfl
 ·have HER:=zh (show probesErr c l=checkCase c by unfold probesErr;rw[if_pos hz]);obtain⟨er,her⟩:=zx (checkCase c);rw[her] at hz HCC HER;have hzb:(er != 0)=true:=by simpa using hz
  clear her
  go_enter Tryz.func51,Tryz.ntmps51
  go_upto_region 1 with fail
  simp only[HW.out]
  go_wp2_with fail
  refine zM HCC ?_;rintro e w2 ⟨rfl,hb2⟩;have HBW:=zh (HB1.out.trans (hb2.mono HB1.out.size));clear hb2 e1
  go_wp2_with fail
  go_ret
  refine⟨?_,HBW.out⟩;rw[HER.out];rfl
theorem find_true {α:Type}(L:List α):(L.find? fun _=>true)=L.head?:=by cases L<;>simp
def wholeE (c:Cs):Int:=if checkCase c≠0 then checkCase c else if(allR c).isEmpty then 61 else 0
theorem wholeR9_any (c:Cs)(hsm:c.Small)(pa:Option Addr)(pc:Nat)(w:World)(hp:PartsAt w pa c.parts):
 Calls Tryz.prog 110 #[.agg #[.string c.ware,.int .i64 c.limit,.int .i64 c.by_,.slice pa c.parts.length pc]] w fun e w'=>e = .returned (.int .i64 (wholeE c))∧Below w.heap.size w w':=by
 obtain⟨w1,hw1⟩:=zx (w.alloc (.cells #[.string c.ware,.int .i64 c.limit,.int .i64 c.by_,.slice pa c.parts.length pc] 24));have hB1:Below w.heap.size w w1:=by rw[←hw1];go_grown
 have b1:Box w1 w.heap.size (csCells c pa pc) 24:=by rw[←hw1];exact Box.new _ _ _
 have HF:=zh (first_ref c hsm pa pc w1 (hp.below hB1));have e1:=zC (b1);have HW:=zh hw1;have HB1:=zh hB1;clear hw1 b1 hB1 hp;obtain⟨er,her⟩:=zx (checkCase c);have HER:=zh her;rw[her] at HF;clear her
 go_enter Tryz.func110,Tryz.ntmps110
 go_upto_region 1 with fail
 simp only[HW.out]
 go_wp2_with fail
 refine zM HF ?_;rintro e w2 ⟨hb2,(⟨h1,rfl⟩|⟨rfl,h1,rfl⟩|⟨rfl,x,a,cap,h1,rfl,_⟩)⟩
 ·have HB2:=zh (HB1.out.trans (hb2.mono HB1.out.size));have hb1:(er==0)=false:=beq_eq_false_iff_ne.2 h1;have HE:=zh (show wholeE c=er by unfold wholeE;rw[HER.out,if_pos h1]);clear hb2 e1 h1
  go_wp2_with fail
  go_ret
  refine⟨?_,HB2.out⟩;rw[HE.out];rfl
 ·have HB2:=zh (HB1.out.trans (hb2.mono HB1.out.size));have HE:=zh (show wholeE c=61 by
   unfold wholeE;rw[HER.out,if_neg zS];rw[find_true] at h1;rw[List.head?_eq_none_iff.1 h1];rfl)
  clear hb2 e1 h1
  go_wp2_with fail
  go_ret
  refine⟨?_,HB2.out⟩;rw[HE.out];rfl
 ·have HB2:=zh (HB1.out.trans (hb2.mono HB1.out.size));have HE:=zh (show wholeE c=0 by
   unfold wholeE;rw[HER.out,if_neg zS];rw[find_true] at h1;cases hL:allR c with
   |nil=>rw[hL] at h1;cases h1
   |cons y L=>rfl)
  clear hb2 e1 h1
  go_wp2_with fail
  go_ret
  refine⟨?_,HB2.out⟩;rw[HE.out];rfl
theorem xErr_whole {c:Cs}{l:List Prb}{ok:Bool}(h1:probesErr c l=0)(h2:ok=true):xErr c l ok=wholeE c:=by
 have h0:=(probes_ok h1).1;unfold xErr wholeE;rw[if_neg (show ¬probesErr c l≠0 from fun h=>h h1),if_pos h2,if_neg (show ¬checkCase c≠0 from fun h=>h h0)]
theorem askedSetR9_any (c:Cs)(hsm:c.Small)(pa:Option Addr)(pc:Nat)(l:List Prb)(qa:Option Addr)(qc:Nat)(sa:Option Addr)(S:List Int)(sc:Nat)(hSl:S.length≤1000000)(w:World)(hp:PartsAt w pa c.parts)(hq:PrbsAt w qa l)(hS:Ints w sa S):
 Calls Tryz.prog 100 #[.agg #[.string c.ware,.int .i64 c.limit,.int .i64 c.by_,.slice pa c.parts.length pc],.slice qa l.length qc,.slice sa S.length sc] w fun e w'=>e = .returned (.int .i64 (xErr c l (setB l.length S)))∧Below w.heap.size w w':=by
 obtain⟨w1,hw1⟩:=zx (w.alloc (.cells #[.string c.ware,.int .i64 c.limit,.int .i64 c.by_,.slice pa c.parts.length pc] 24));have hB1:Below w.heap.size w w1:=by rw[←hw1];go_grown
 have b1:Box w1 w.heap.size (csCells c pa pc) 24:=by rw[←hw1];exact Box.new _ _ _
 have HCP:=zh (checkProbesR_any c hsm pa pc l qa qc w1 (hp.below hB1) (hq.below hB1));have e1:=zC (b1);have HW:=zh hw1;have HX:=zh b1;have HB1:=zh hB1;have HP:=zh (hp.below hB1);have HQ:=zh (hq.below hB1);have HS:=zh (hS.below hB1);clear hw1 b1 hB1 hp hq hS
 by_cases hz:probesErr c l=0
 ·have hl5:=(probes_ok hz).2.1;have HXW:=zh (fun(h:setB l.length S=true)=>xErr_whole (ok:=setB l.length S) hz h);have HXN:=zh (fun(h:setB l.length S=false)=>show xErr c l (setB l.length S)=1 by simp[xErr,hz,h]);rw[hz] at HCP;clear hz
  go_enter Tryz.func100,Tryz.ntmps100
  go_upto_region 1 with fail
  simp only[HW.out]
  go_wp2_with fail
  refine zM HCP ?_;rintro e w2 ⟨rfl,hb2⟩;have HIS:=zh (isSetR9_any qa l.length qc zO sa S sc w2 (HS.out.below hb2) hSl);have HX2:=zh (HX.out.below' hb2);have HP2:=zh (HP.out.below hb2);have HBW:=zh (HB1.out.trans (hb2.mono HB1.out.size));clear hb2 e1
  go_wp2_with fail
  refine zM HIS ?_;rintro e w3 ⟨rfl,hb3⟩;have HWH:=zh (wholeR9_any c hsm pa pc w3 (HP2.out.below hb3));have e3:=zC ((HX2.out.below' hb3));have HBW:=zh (HBW.out.trans (hb3.mono HBW.out.size));clear hb3
  rcases hset:setB l.length S with _|_
  ·have HER:=zh (HXN.out hset);clear hset
   go_wp2_with fail
   go_ret
   refine⟨?_,HBW.out⟩;rw[HER.out];rfl
  ·have HER:=zh (HXW.out hset);clear hset
   go_wp2_with fail
   refine zM HWH ?_;rintro e w4 ⟨rfl,hb4⟩;have HBW:=zh (HBW.out.trans (hb4.mono HBW.out.size));clear hb4 e3
   go_wp2_with fail
   go_ret
   refine⟨?_,HBW.out⟩;rw[HER.out];rfl
 ·have HER:=zh (show xErr c l (setB l.length S)=probesErr c l by simp[xErr,hz]);obtain⟨er,her⟩:=zx (probesErr c l);rw[her] at hz HCP HER;have hzb:(er != 0)=true:=by simpa using hz
  clear her
  go_enter Tryz.func100,Tryz.ntmps100
  go_upto_region 1 with fail
  simp only[HW.out]
  go_wp2_with fail
  refine zM HCP ?_;rintro e w2 ⟨rfl,hb2⟩;have HBW:=zh (HB1.out.trans (hb2.mono HB1.out.size));clear hb2 e1
  go_wp2_with fail
  go_ret
  refine⟨?_,HBW.out⟩;rw[HER.out];rfl
end Go.Proofs.YtjgldeeianionaaGreat
