/- Walks and plain laws. No condition. -/
import Derived.Test.YtjgldeeianionaaGreatV34
set_option maxHeartbeats 1000000
set_option maxRecDepth 100000
set_option linter.unusedSimpArgs false
set_option linter.unusedVariables false
namespace Go.Proofs.YtjgldeeianionaaGreat
open Go.RowKit
section
attribute [local go_sem] Oper.semAt_some
def FewPost (c:Cs)(l:List Prb)(w:World)(e:Ending)(w':World):Prop:=(∃b:Bool,e = .returned (.bool b)∧(b=true→c.Small∧l.length≤8))∧Below w.heap.size w w'
theorem cnt_at9 {c:Cs}{l:List Prb}{k:Nat}{p:Prb}(hz:probesErr c l=0)(hv:l[k]?=some p):∃(i:Nat) (q:Prt),p.part=i∧c.parts[i]?=some q∧(0≤q.span.low∧q.span.low≤q.span.high∧q.span.high≤1000)∧1≤p.width∧p.width≤1001:=by
 obtain⟨hc,_,hall⟩:=probes_ok hz;obtain⟨r1,r2,_⟩:=hall p (List.mem_of_getElem? hv);obtain⟨i,hi⟩:=Int.eq_ofNat_of_zero_le r2.1;obtain⟨q,hq⟩:=get_of_lt c.parts (k:=i) zO;exact⟨i,q,hi,hq,okSpn_of ((check_okCase hc).2.2.1 q (List.mem_of_getElem? hq)),(right_vals r1).2.1⟩
theorem few9_any (c:Cs)(hf:c.Fit)(pa:Option Addr)(pc:Nat)(l:List Prb)(hl:l.length≤maxLen)(qa:Option Addr)(qc:Nat)(w:World)(hp:PartsAt w pa c.parts)(hq:PrbsAt w qa l):
 Calls Tryz.prog 13 #[.agg #[.string c.ware,.int .i64 c.limit,.int .i64 c.by_,.slice pa c.parts.length pc],.slice qa l.length qc] w (FewPost c l w):=by
 obtain⟨hs1,hs2,hs3⟩:=hf;unfold maxLen at hs1 hs2 hs3 hl;obtain⟨w1,hw1⟩:=zx (w.alloc (.cells #[.string c.ware,.int .i64 c.limit,.int .i64 c.by_,.slice pa c.parts.length pc] 24));have hB1:Below w.heap.size w w1:=by rw[←hw1];go_grown
 have b1:Box w1 w.heap.size (csCells c pa pc) 24:=by rw[←hw1];exact Box.new _ _ _
 have e1:=zC (b1);have HP:=zh hp;have HQ:=zh hq;have H3:=zh hs3;have HW:=zh hw1;have HB1:=zh hB1;have HX1:=zh b1;clear hp hq hs3 hw1 b1 hB1
 go_enter Tryz.func13,Tryz.ntmps13
 go_upto_region 1 with fail
 simp only[HW.out]
 go_wp2_with fail
 go_loop [5] (fun i=>∃k:Nat,k≤c.parts.length∧k≤12∧i = .int .i64 k∧Hid (∀(j:Nat) q,j<k→c.parts[j]?=some q→q.sherds.length≤60∧q.rests.length≤250)) (fun i=>c.parts.length-(intOf i).toNat)
 case atStart=>exact⟨0,Nat.zero_le _,Nat.zero_le _,rfl,zh (fun j q hj=>absurd hj (Nat.not_lt_zero j))⟩
 case round=>
  obtain⟨k,hk,hk12,rfl,HA⟩:=hrel;have HBW:=HB1
  by_cases hlt:k<c.parts.length
  ·have hkn:(k:Int)<(c.parts.length:Int):=by omega
   by_cases hk2:k<12
   ·have hkn2:(k:Int)<12:=by omega
    obtain⟨b,o,p,rfl,hpk,hpart⟩:=HP.out.at_ hlt;obtain⟨sa,sc,ra,rc,c0,c1,c2,c3,c4,c5,c6,c7,hsi,hri,hsc,hrc⟩:=hpart.open;have d0:=below_cell HB1.out c0;have d7:=below_cell HB1.out c7;have hlen:=H3.out p (List.mem_of_getElem? hpk);have hl1:=hlen.1;have hl2:=hlen.2;have HPK:=zh hpk;clear c0 c1 c2 c3 c4 c5 c6 c7 hpart hpk hsi hri hlen hsc hrc
    by_cases h1:60<p.sherds.length
    ·have h1':(60:Int)<(p.sherds.length:Int):=by omega
     go_wp2_with fail
     go_ret
     exact⟨⟨false,rfl,fun h=>by cases h⟩,HBW.out⟩
    ·have h1':¬(60:Int)<(p.sherds.length:Int):=by omega
     by_cases h2:250<p.rests.length
     ·have h2':(250:Int)<(p.rests.length:Int):=by omega
      go_wp2_with fail
      go_ret
      exact⟨⟨false,rfl,fun h=>by cases h⟩,HBW.out⟩
     ·have h2':¬(250:Int)<(p.rests.length:Int):=by omega
      go_wp2_with fail
      go_round
      case rel=>exact⟨k+1,zO,zO,zN,zh (fun j q hj hq=>by
       rcases Nat.lt_or_ge j k with h|h
       ·exact HA.out j q h hq
       ·have:j=k:=by omega
        subst this;rw[HPK.out] at hq;cases hq
        omega)⟩
      case measure=>exact zJ
   ·have hkn2:¬(k:Int)<12:=by omega
    have h5:(5:Int)<(c.parts.length:Int):=by omega
    have h8:¬(c.parts.length:Int)≤8:=by omega
    have h12:(12:Int)<(c.parts.length:Int):=by omega
    by_cases h100:(100:Int)<(c.ware.size:Int)
    ·go_wp2_with fail
     go_ret
     exact⟨⟨false,rfl,fun h=>by cases h⟩,HBW.out⟩
    ·go_wp2_with fail
     go_ret
     exact⟨⟨false,rfl,fun h=>by cases h⟩,HBW.out⟩
  ·have hkn:¬(k:Int)<(c.parts.length:Int):=by omega
   have h12:¬(12:Int)<(c.parts.length:Int):=by omega
   by_cases h100:(100:Int)<(c.ware.size:Int)
   ·go_wp2_with fail
    go_ret
    exact⟨⟨false,rfl,fun h=>by cases h⟩,HBW.out⟩
   ·have HSM:=zh (show c.Small from⟨zO,zO,fun p hp=>by
     obtain⟨j,hj⟩:=List.mem_iff_getElem?.1 hp;have:=(List.getElem?_eq_some_iff.1 hj).1;exact HA.out j p zO hj⟩)
    have HCP:=zh (checkProbesR_any c HSM.out pa pc l qa qc w1 (HP.out.below HB1.out) (HQ.out.below HB1.out))
    by_cases h5:(5:Int)<(c.parts.length:Int)
    ·by_cases h8:(c.parts.length:Int)≤8
     ·go_wp2_with fail
      go_ret
      exact⟨⟨false,rfl,fun h=>by cases h⟩,HBW.out⟩
     ·by_cases hl8:(8:Int)<(l.length:Int)
      ·go_wp2_with fail
       go_ret
       exact⟨⟨false,rfl,fun h=>by cases h⟩,HBW.out⟩
      ·have hz:probesErr c l≠0:=fun h=>by
        have:=(check_okCase (probes_ok h).1).1
        omega
       obtain⟨er,her⟩:=zx (probesErr c l);rw[her] at hz HCP;have hzb:(er != 0)=true:=by simpa using hz
       clear her
       go_wp2_with fail
       refine zM HCP ?_;rintro e w2 ⟨rfl,hb2⟩;have HBW:=zh (HB1.out.trans (hb2.mono HB1.out.size));clear hb2 e1
       go_wp2_with fail
       go_ret
       exact⟨⟨true,rfl,fun _=>⟨HSM.out,zO⟩⟩,HBW.out⟩
    ·by_cases hl8:(8:Int)<(l.length:Int)
     ·go_wp2_with fail
      go_ret
      exact⟨⟨false,rfl,fun h=>by cases h⟩,HBW.out⟩
     ·by_cases hz:probesErr c l=0
      ·have HZ:=zh hz;rw[hz] at HCP;clear hz
       go_wp2_with fail
       refine zM HCP ?_;rintro e w2 ⟨rfl,hb2⟩;have HBW:=zh (HB1.out.trans (hb2.mono HB1.out.size));have HX2:=zh (HX1.out.below' hb2);clear hb2 e1
       go_wp2_with fail
       go_loopw [6,7] (fun nv iv wr=>∃(n:Int) (k:Nat),k≤l.length∧nv = .int .i64 n∧iv = .int .i64 k∧Below w2.heap.size w2 wr) (fun _ iv _=>l.length-(intOf iv).toNat)
       case atStart=>exact⟨1,0,Nat.zero_le _,rfl,rfl,Below.refl _ _⟩
       case round=>
        obtain⟨n,k',hk',rfl,rfl,hb⟩:=hrel
        by_cases hlt':k'<l.length
        ·obtain⟨g,e,p,rfl,hv,hG⟩:=(HQ.out.below (HBW.out.trans (hb.mono HBW.out.size))).at_ hlt';obtain⟨c0,c1,c2,c3⟩:=hG.open;have hkn':(k':Int)<(l.length:Int):=by omega
         go_upto_region 14 with fail
         have hbd:Below wr.heap.size wr wr.drew:=(Below.refl _ wr).drew;have hb6:=hb.trans (hbd.mono hb.size);have hX:=HX2.out.below' hb6;have e1:=zC (hX);obtain⟨i,q,hi,hq,⟨s1,s2,s3⟩,v1,v2⟩:=cnt_at9 HZ.out hv;have HCN:=zh (countR9_any hi hq s1 s2 s3 v1 v2 pa pc wr.drew (HP.out.below (HBW.out.trans (hb6.mono HBW.out.size))));generalize cntZ q.span p.width=M at *;have HB:=zh hb6;have c0:=below_cell hbd c0;have c1:=below_cell hbd c1;have c2:=below_cell hbd c2;have c3:=below_cell hbd c3
         have K0:Hid (∀A,Below wr.drew.heap.size wr.drew A→cC A (w.heap.size) c pa pc∧A.cell? ⟨g,e+k'*4,none⟩=some (.int .i64 p.id)∧A.cell? ⟨g,e+k'*4+1,none⟩=some (.int .i64 p.part)∧A.cell? ⟨g,e+k'*4+2,none⟩=some (.int .i64 p.width)∧A.cell? ⟨g,e+k'*4+3,none⟩=some (.int .i64 p.cost)):=zh fun A hA=>⟨(hX.below' hA).cell,below_cell hA c0,below_cell hA c1,below_cell hA c2,below_cell hA c3⟩
         refine wp_region_L (fun A=>Below wr.drew.heap.size wr.drew A) 9 zK ?_;have hSS:Below wr.drew.heap.size wr.drew wr.drew:=Below.refl _ _;clear hG hv hX hi hq s1 s2 s3 v1 v2 hb hb6 hbd c0 c1 c2 c3 e1;generalize wr.drew=w6 at *;refine tM K0 0 hSS ?_;refine tM K0 1 hSS ?_;refine tM K0 2 hSS ?_;refine tM K0 3 hSS ?_;refine tM K0 4 hSS ?_;refine tM K0 5 hSS ?_;refine anyL_call (i:=6) (f:=54) (args:=#[.agg #[.string c.ware,.int .i64 c.limit,.int .i64 c.by_,.slice pa c.parts.length pc],.agg #[.int .i64 p.id,.int .i64 p.part,.int .i64 p.width,.int .i64 p.cost]]) rfl zK (by rfl) (by go_simp) HCN.out ?_;rintro e7 w7 ⟨rfl,hb7⟩;refine .inl ⟨_,rfl,.inr hb7,?_⟩
         try simp only[pZ]
         have hSS:=hb7;have HB7:=zh (HB.out.trans (hb7.mono HB.out.size));refine tM K0 7 hSS ?_;refine tM K0 8 hSS ?_;refine anyL_done zK ?_ _;clear hSS hb7 K0
         go_wp2_with fail
         go_roundw
         case rel=>exact⟨_,k'+1,zO,rfl,zN,HB7.out⟩
         case measure=>exact zJ
        ·go_wp2_with fail
         go_ret
         exact⟨⟨_,rfl,fun _=>⟨HSM.out,zO⟩⟩,HBW.out.trans (hb.mono HBW.out.size)⟩
      ·obtain⟨er,her⟩:=zx (probesErr c l);rw[her] at hz HCP;have hzb:(er != 0)=true:=by simpa using hz
       clear her
       go_wp2_with fail
       refine zM HCP ?_;rintro e w2 ⟨rfl,hb2⟩;have HBW:=zh (HB1.out.trans (hb2.mono HB1.out.size));clear hb2 e1
       go_wp2_with fail
       go_ret
       exact⟨⟨true,rfl,fun _=>⟨HSM.out,zO⟩⟩,HBW.out⟩
def hdrs (hs:List (Option Addr×Nat×Nat)):List Value:=hs.map fun h=>.slice h.1 h.2.1 h.2.2
def shortB (hs:List (Option Addr×Nat×Nat)):Bool:=hs.all fun h=>decide (h.2.1≤20)
theorem short9_any (a:Option Addr)(hs:List (Option Addr×Nat×Nat))(cap:Nat)(hl:hs.length≤1000)(hm:∀h∈hs,h.2.1≤maxLen)(w:World)(h:Row w a (hdrs hs)):
 Calls Tryz.prog 14 #[.slice a hs.length cap] w fun e w'=>e = .returned (.bool (shortB hs))∧w=w':=by
 unfold maxLen at hm;have HM:=zh hm;have HR:=zh h;clear hm h
 go_enter Tryz.func14,Tryz.ntmps14
 go_wp2_with fail
 go_loop [3] (fun i=>∃k:Nat,k≤hs.length∧i = .int .i64 k∧Hid (∀(j:Nat) x,j<k→hs[j]?=some x→x.2.1≤20)) (fun i=>hs.length-(intOf i).toNat)
 case atStart=>exact⟨0,Nat.zero_le _,rfl,zh (fun j q hj=>absurd hj (Nat.not_lt_zero j))⟩
 case round=>
  obtain⟨k,hk,rfl,HA⟩:=hrel
  by_cases hlt:k<hs.length
  ·obtain⟨x,hx⟩:=get_of_lt hs hlt;obtain⟨b,o,rfl,hc⟩:=HR.out k (.slice x.1 x.2.1 x.2.2) (by simp[hdrs,hx]);have hxm:=HM.out x (List.mem_of_getElem? hx);obtain⟨x1,x2,x3⟩:=x;simp only at hc hxm;have HX:=zh hx;have hkn:(k:Int)<(hs.length:Int):=by omega
   clear hx
   by_cases h20:(20:Int)<(x2:Int)
   ·go_wp2_with fail
    go_ret
    refine⟨ret_bool ?_,rfl⟩;have:shortB hs=false:=by
     rw[shortB,List.all_eq_false];exact⟨_,List.mem_of_getElem? HX.out,by simp;omega⟩
    rw[this]
   ·go_wp2_with fail
    go_round
    case rel=>exact⟨k+1,zO,zN,zh (fun j y hj hy=>by
     rcases Nat.lt_or_ge j k with h|h
     ·exact HA.out j y h hy
     ·obtain rfl:j=k:=by omega
      rw[HX.out] at hy;cases hy;simp only;omega)⟩
    case measure=>exact zJ
  ·go_wp2_with fail
   go_ret
   refine⟨ret_bool ?_,rfl⟩;have:shortB hs=true:=by
    rw[shortB,List.all_eq_true];intro x hx;obtain⟨j,hj⟩:=List.mem_iff_getElem?.1 hx;have:=(List.getElem?_eq_some_iff.1 hj).1
    simpa using HA.out j x zO hj
   rw[this]
end
