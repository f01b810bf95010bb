/- ProbeFindings: each list of colours lies in the case after just one of the findings of a set: the law returns true for every input, and its arguments read as before. No condition. -/
import Derived.Deep.DeepCutAuto
import Derived.ProofKit
import Derived.JoinedCond
import Derived.Test.YtjgldeeianionaaGreatS31
import Derived.Test.YtjgldeeianionaaGreatS40
import Derived.Test.YtjgldeeianionaaGreatS45
import Derived.Test.YtjgldeeianionaaGreatS01
set_option maxHeartbeats 4000000
set_option maxRecDepth 100000
set_option linter.unusedSimpArgs false
set_option linter.unusedVariables false
namespace Go.Proofs.YtjgldeeianionaaGreat
open Go.RowKit
attribute [local go_sem] Oper.semAt_some
theorem probeFindings_any (c:Cs)(hf:c.Fit)(pa:Option Addr)(pc:Nat)(_:c.parts.length≤pc)(qa:Option Addr)(l:List Prb)(qc:Nat)(hlk:l.length≤qc)(hlm:qc≤maxLen)(sa:Option Addr)(S:List Int)(sc:Nat)(hsk:S.length≤sc)(hsm:sc≤maxLen)(za:Option Addr)(Z:List Int)(zc:Nat)(hzk:Z.length≤zc)(hzm:zc≤maxLen)(w:World)(hp:PartsAt w pa c.parts)(hq:PrbsAt w qa l)(hS:Ints w sa S)(hZ:Ints w za Z):
 Calls Tryz.prog 10 #[.agg #[.string c.ware,.int .i64 c.limit,.int .i64 c.by_,.slice pa c.parts.length pc],.slice qa l.length qc,.slice sa S.length sc,.slice za Z.length zc] w fun e w'=>e = .returned (.bool true)∧Below w.heap.size w w':=by
 obtain⟨w1,hw1,hB1,b1⟩:=box_case9 w c pa pc
 have HFW:=zh (few9_any c hf pa pc l (Nat.le_trans hlk hlm) qa qc w1 (hp.below hB1) (hq.below hB1))
 have HW:=zh hw1
 have P:=zh (hp.below hB1)
 have Q:=zh (hq.below hB1)
 have RS:=zh (hS.below hB1)
 have RZ:=zh (hZ.below hB1)
 have X1:=zh b1
 have HB:=zh hB1
 have HSO:=zh sounds_any
 clear hw1 hB1 b1 hp hq hS hZ
 have e1:∀i,w1.cell? ⟨w.heap.size,i,none⟩=(#[.string c.ware,.int .i64 c.limit,.int .i64 c.by_,.slice pa c.parts.length pc]:Array Value)[i]?:=X1.out.cell
 go_enter Tryz.func10,Tryz.ntmps10
 go_upto_region 1 with fail
 simp only[HW.out]
 go_wp2_with fail
 (with_reducible refine HFW.out.mono ?_)
 rintro e w2 ⟨⟨fb,rfl,hfb⟩,hb⟩
 clear e1
 have P:=zh (P.out.below hb)
 have Q:=zh (Q.out.below hb)
 have RS:=zh (RS.out.below hb)
 have RZ:=zh (RZ.out.below hb)
 have X1:=zh (X1.out.below' hb)
 have HB:=zh (HB.out.trans (hb.mono HB.out.size))
 clear hb HFW hf
 cases fb
 all_goals have HSH:=zh (fun W (a:Option Addr) (cap:Nat) (h:Row W a [.slice sa S.length sc,.slice za Z.length zc])=>short_two (w:=W) (a:=a) (cap:=cap) h (Nat.le_trans hsk hsm) (Nat.le_trans hzk hzm))
 ·clear hfb
  go_wp2_with fail
  (with_reducible refine(HSO.out _).mono ?_)
  rintro e w3 ⟨rfl,hb⟩
  have P:=zh (P.out.below hb)
  have Q:=zh (Q.out.below hb)
  have RS:=zh (RS.out.below hb)
  have RZ:=zh (RZ.out.below hb)
  have X1:=zh (X1.out.below' hb)
  have HB:=zh (HB.out.trans (hb.mono HB.out.size))
  clear hb
  go_wp2_with fail
  go_ret
  exact⟨rfl,HB.out⟩
 ·have hsc:=(hfb rfl).1
  clear hfb
  rcases hsh:(decide (S.length≤20)&&decide (Z.length≤20)) with _|_
  ·rw[hsh] at HSH
   clear hsh
   have hbq:Below w2.heap.size w2 (w2.alloc (.cells #[.slice sa S.length sc,.slice za Z.length zc] 26)):=by go_grown
   go_wp2_with fail
   (with_reducible refine(HSH.out _ _ _ (lit_row9 (Box.new _ _ _))).mono ?_)
   rintro e w3 ⟨rfl,hb0⟩
   have hb:=hbq.trans (hb0.mono hbq.size)
   clear hbq hb0
   have P:=zh (P.out.below hb)
   have Q:=zh (Q.out.below hb)
   have RS:=zh (RS.out.below hb)
   have RZ:=zh (RZ.out.below hb)
   have X1:=zh (X1.out.below' hb)
   have HB:=zh (HB.out.trans (hb.mono HB.out.size))
   clear hb
   go_wp2_with fail
   (with_reducible refine(HSO.out _).mono ?_)
   rintro e w4 ⟨rfl,hb⟩
   have P:=zh (P.out.below hb)
   have Q:=zh (Q.out.below hb)
   have RS:=zh (RS.out.below hb)
   have RZ:=zh (RZ.out.below hb)
   have X1:=zh (X1.out.below' hb)
   have HB:=zh (HB.out.trans (hb.mono HB.out.size))
   clear hb
   go_wp2_with fail
   go_ret
   exact⟨rfl,HB.out⟩
  ·rw[hsh] at HSH
   simp only[Bool.and_eq_true,decide_eq_true_eq] at hsh
   obtain⟨hs20,hz20⟩:=hsh
   have HOU:=zh (fun W h1 h2 h3=>outcomes_tup (c:=c) (l:=l) (w:=W) (pa:=pa) (pc:=pc) (qa:=qa) (qc:=qc) hsc sa S sc (by omega) h1 h2 h3)
   have HAF:=zh (fun(x:List Nat) (hx:x.length≤1000) (fa:Option Addr) (fc:Nat) e W h1 h2 h3 h4=>after_case (c:=c) (l:=l) (w:=W) (pa:=pa) (pc:=pc) (qa:=qa) (qc:=qc) hsc sa S sc fa x fc (by omega) hx e h1 h2 h3 h4)
   have HZ:=zh (fun h=>xErr_zero (c:=c) (l:=l) (ok:=setB l.length S) h)
   have hp10:=hsc.1
   have hbq:Below w2.heap.size w2 (w2.alloc (.cells #[.slice sa S.length sc,.slice za Z.length zc] 26)):=by go_grown
   go_wp2_with fail
   (with_reducible refine(HSH.out _ _ _ (lit_row9 (Box.new _ _ _))).mono ?_)
   rintro e w3 ⟨rfl,hb0⟩
   have hb:=hbq.trans (hb0.mono hbq.size)
   clear hbq hb0
   have P:=zh (P.out.below hb)
   have Q:=zh (Q.out.below hb)
   have RS:=zh (RS.out.below hb)
   have RZ:=zh (RZ.out.below hb)
   have X1:=zh (X1.out.below' hb)
   have HB:=zh (HB.out.trans (hb.mono HB.out.size))
   clear hb
   clear HSH hsc
   by_cases h0:xErr c l (setB l.length S)=0
   ·obtain⟨z1,z2,z3⟩:=HZ.out h0
    simp only[h0,true_implies,ne_eq,not_true_eq_false,false_implies,true_and] at HOU
    have hin:=(set_nats z2).2
    have hsl:(nats S).length=S.length:=by simp[nats]
    have HMO:=zh (fun x (hx:x∈outsOf (cntsOf c l (nats S)))=>(mem_outs hin).1 hx)
    have HXF:=zh (fun x (hx:FoundFor c l (nats S) x)=>show xErr c l (foundB c l S (natInts x))=0 from xErr_ok z1 (found_of z2 hx) z3)
    have HLL:=zh (outs_len (c:=c) (l:=l) z1 (s:=nats S) (by have:=set_len z2;have:=(probes_ok z1).2.1;omega))
    have HON:=zh (fun(hz:InSpans c Z)=>findings_one z1 hin hz)
    have HAL:=zh (fun x d (h:afterC c l (nats S) x=some d)=>(after_ok z1 h).len)
    clear z1 z2 z3 hin h0 HZ
    have hsn:(nats S).length≤20:=by omega
    generalize nats S=s at *
    generalize outsOf (cntsOf c l s)=L at *
    have e1:∀i,w3.cell? ⟨w.heap.size,i,none⟩=(#[.string c.ware,.int .i64 c.limit,.int .i64 c.by_,.slice pa c.parts.length pc]:Array Value)[i]?:=X1.out.cell
    go_wp2_with fail
    (with_reducible refine(HOU.out _ P.out Q.out RS.out).mono ?_)
    rintro e w4 ⟨oa,on,oc,rfl,⟨rfl,hro⟩,hb⟩
    clear e1
    have RO:=zh hro
    clear hro
    have P:=zh (P.out.below hb)
    have Q:=zh (Q.out.below hb)
    have RS:=zh (RS.out.below hb)
    have RZ:=zh (RZ.out.below hb)
    have X1:=zh (X1.out.below' hb)
    have HB:=zh (HB.out.trans (hb.mono HB.out.size))
    clear hb
    clear HOU
    by_cases hlen:Z.length=c.parts.length
    ·have hlb:((Z.length:Int) != (c.parts.length:Int))=false:=by simp;omega
     have HLN:=zh hlen
     have HSL:=zh hsl
     clear hlen hsl
     have e1:∀i,w4.cell? ⟨w.heap.size,i,none⟩=(#[.string c.ware,.int .i64 c.limit,.int .i64 c.by_,.slice pa c.parts.length pc]:Array Value)[i]?:=X1.out.cell
     go_wp2_with fail
     clear e1
     go_loopw [11] (fun iv wr=>∃k:Nat,k≤Z.length∧iv = .int .i64 k∧Hid (∀(j:Nat) q v,j<k→c.parts[j]?=some q→Z[j]?=some v→q.span.low≤v∧v≤q.span.high)∧Below w4.heap.size w4 wr) (fun iv _=>Z.length-(intOf iv).toNat)
     case atStart=>exact⟨0,Nat.zero_le _,rfl,zh (fun j q v hj=>absurd hj (Nat.not_lt_zero j)),Below.refl _ _⟩
     case round=>
      obtain⟨k,hk,rfl,HA,hb⟩:=hrel
      have HBR:=zh hb
      by_cases hlt:k<Z.length
      ·obtain⟨v,hv⟩:=get_of_lt Z hlt
       have hkp:k<c.parts.length:=by have:=HLN.out;omega
       have hkn:(k:Int)<(Z.length:Int):=by omega
       have hkpn:(k:Int)<(c.parts.length:Int):=by omega
       obtain⟨b1,o1,e1',q1⟩:=(RZ.out.below hb) k (.int .i64 v) (by rw[List.getElem?_map,hv];rfl)
       obtain⟨b2,o2,q,e2',hq,hP⟩:=(P.out.below hb).at_ hkp
       subst e1' e2'
       obtain⟨_,_,_,_,x0,x1,x2,x3,x4,_⟩:=hP.open
       have e1:∀i,wr.cell? ⟨w.heap.size,i,none⟩=(#[.string c.ware,.int .i64 c.limit,.int .i64 c.by_,.slice (some ⟨b2,o2,none⟩) c.parts.length pc]:Array Value)[i]?:=(X1.out.below' hb).cell
       have HV:=zh hv
       have HQ:=zh hq
       clear hv hq hP x0 x3 x4 hb
       by_cases h1:v<q.span.low
       ·go_wp2_with fail
        go_quiet (fail)
        go_wp2_with fail
        (with_reducible refine(HSO.out _).mono ?_)
        rintro e w9 ⟨rfl,hb9⟩
        have HB9:=zh ((below_drewN (HB.out.trans (HBR.out.mono HB.out.size)) _).trans (hb9.mono (by have:=HB.out.size;have:=HBR.out.size;simp;omega)))
        clear hb9 e1
        go_wp2_with fail
        go_ret
        exact⟨rfl,HB9.out⟩
       ·have h1b:decide (v<q.span.low)=false:=decide_eq_false h1
        by_cases h2:q.span.high<v
        ·go_wp2_with fail
         go_quiet (fail)
         go_wp2_with fail
         (with_reducible refine(HSO.out _).mono ?_)
         rintro e w9 ⟨rfl,hb9⟩
         have HB9:=zh ((below_drewN (HB.out.trans (HBR.out.mono HB.out.size)) _).trans (hb9.mono (by have:=HB.out.size;have:=HBR.out.size;simp;omega)))
         clear hb9 e1
         go_wp2_with fail
         go_ret
         exact⟨rfl,HB9.out⟩
        ·go_wp2_with fail
         go_quiet (fail)
         go_wp2_with fail
         go_roundw
         case rel=>exact⟨k+1,by omega,by go_num,zh (fun j q' v' hj hq' hv'=>by
          rcases Nat.lt_or_ge j k with h|h
          ·exact HA.out j q' v' h hq' hv'
          ·obtain rfl:j=k:=by omega
           rw[HQ.out] at hq';cases hq'
           rw[HV.out] at hv';cases hv'
           omega),below_drewN HBR.out _⟩
         case measure=>simp[intOf];omega
      ·have HIS:=zh (HON.out (fun i q hq=>by
        obtain⟨v,hv⟩:=get_of_lt Z (k:=i) (by have:=(List.getElem?_eq_some_iff.1 hq).1;have:=HLN.out;omega)
        rw[hv]
        exact HA.out i q v (by have:=(List.getElem?_eq_some_iff.1 hv).1;omega) hq hv))
       have hkn:¬(k:Int)<(Z.length:Int):=by omega
       obtain⟨w9,hw9⟩:∃z:World,z=wr:=⟨_,rfl⟩
       subst hw9
       have P:=zh (P.out.below hb)
       have Q:=zh (Q.out.below hb)
       have RS:=zh (RS.out.below hb)
       have RZ:=zh (RZ.out.below hb)
       have X1:=zh (X1.out.below' hb)
       have RO:=zh (RO.out.below hb)
       have HB:=zh (HB.out.trans (hb.mono HB.out.size))
       clear hb HBR HON HA hkn hk
       go_wp2_with fail
       go_loopw [12,13] (fun nv iv wx=>∃i m:Nat,i≤L.length∧iv = .int .i64 i∧nv = .int .i64 m∧m=(L.take i).countP (fitsFound c l Z s)∧Below w9.heap.size w9 wx) (fun _ iv _=>L.length-(intOf iv).toNat)
       case atStart=>exact⟨0,0,Nat.zero_le _,rfl,rfl,by simp,Below.refl _ _⟩
       case round=>
        obtain⟨i,m,hi,rfl,rfl,hm,hb⟩:=hrel
        have HBX:=zh hb
        have HLe:=HLL.out
        have HM:=zh hm
        have hm1:m≤1024:=by
         rw[hm]
         exact Nat.le_trans List.countP_le_length (by rw[List.length_take];omega)
        clear hm
        by_cases hlt:i<L.length
        ·obtain⟨x,hx⟩:=get_of_lt L hlt
         have hin:(i:Int)<(L.length:Int):=by omega
         have hff:=HMO.out x (List.mem_of_getElem? hx)
         have HXL:=zh (show x.length≤1000 by have:=hff.1;have:=HSL.out;omega)
         have HX0:=zh (HXF.out x hff)
         have HXK:=zh hx
         have HTK:=zh (show(L.take (i+1)).countP (fitsFound c l Z s)=(L.take i).countP (fitsFound c l Z s)+if fitsFound c l Z s x then 1 else 0 by rw[take_snoc hx,List.countP_append];simp[List.countP_cons])
         have RO:=zh (RO.out.below hb)
         obtain⟨b,o,ra,rc,rfl,c1,hfi,hfc⟩:=RO.out i x hx
         obtain⟨y,hy⟩:=zx (afterC c l s x)
         have hA:=HAF.out x HXL.out ra rc HX0.out
         rw[hy] at hA
         have HAFX:=zh (fun W (hbw:Below wr.heap.size wr W)=>hA W (P.out.below (hb.trans (hbw.mono hb.size))) (Q.out.below (hb.trans (hbw.mono hb.size))) (RS.out.below (hb.trans (hbw.mono hb.size))) (hfi.below hbw))
         have HFF:=zh (show fitsFound c l Z s x=fitsO y Z by rw[fitsFound_eq,hy])
         have HYL:=zh (fun d (h:y=some d)=>HAL.out x d (by rw[hy,h]))
         have hX1:=X1.out.below' hb
         have K0:Hid (∀W,Below wr.heap.size wr W→(∀i,W.cell? ⟨w.heap.size,i,none⟩=(#[.string c.ware,.int .i64 c.limit,.int .i64 c.by_,.slice pa c.parts.length pc]:Array Value)[i]?)∧W.cell? ⟨b,o+i,none⟩=some (.slice ra x.length rc)):=zh fun W hW=>⟨(hX1.below' hW).cell,below_cell hW c1⟩
         clear hA hX1 hx hff hfi hfc c1 hy hb
         go_upto_region 15 with fail
         go_cut [14,15,16] (fun s14 s15 s16 wx=>∃(G:Nat) (cs:Array Value) (bb:Bool) (B:Nat),s14 = .pointer (some ⟨G,0,none⟩)∧s15 = .bool bb∧s16 = .int .i64 0∧Box wx G cs 24∧AftCells y B wx cs bb∧Below wr.heap.size wr wx)
         case first=>
          refine wp_region_L (fun A=>Below wr.heap.size wr A) 16 zK ?_
          have hSS:Below wr.heap.size wr wr.drew:=(Below.refl _ wr).drew
          refine tkL 0 ?_ rfl ?_ hSS ?_
          rotate_left
          ·(intro W hW;obtain⟨q0,q1⟩:=K0.out W hW;go_simp;try with_reducible rfl)
          try simp only[pA,pN,sA,sB]
          refine tkL 1 ?_ rfl ?_ hSS ?_
          rotate_left
          ·(intro W hW;obtain⟨q0,q1⟩:=K0.out W hW;go_simp;try with_reducible rfl)
          try simp only[pA,pN,sA,sB]
          refine tkL 2 ?_ rfl ?_ hSS ?_
          rotate_left
          ·(intro W hW;obtain⟨q0,q1⟩:=K0.out W hW;go_simp;try with_reducible rfl)
          try simp only[pA,pN,sA,sB]
          refine tkL 3 ?_ rfl ?_ hSS ?_
          rotate_left
          ·(intro W hW;obtain⟨q0,q1⟩:=K0.out W hW;go_simp;try with_reducible rfl)
          try simp only[pA,pN,sA,sB]
          refine tkL 4 ?_ rfl ?_ hSS ?_
          rotate_left
          ·(intro W hW;obtain⟨q0,q1⟩:=K0.out W hW;go_simp;try with_reducible rfl)
          try simp only[pA,pN,sA,sB]
          refine tkL 5 ?_ rfl ?_ hSS ?_
          rotate_left
          ·(intro W hW;obtain⟨q0,q1⟩:=K0.out W hW;go_simp;try with_reducible rfl)
          try simp only[pA,pN,sA,sB]
          refine tkL 6 ?_ rfl ?_ hSS ?_
          rotate_left
          ·(intro W hW;obtain⟨q0,q1⟩:=K0.out W hW;go_simp;try with_reducible rfl)
          try simp only[pA,pN,sA,sB]
          refine anyL_two (i:=7) (j:=12) zK ?_ ?_
          ·refine wpOp_call (f:=16) (args:=#[.agg #[.string c.ware,.int .i64 c.limit,.int .i64 c.by_,.slice pa c.parts.length pc],.slice qa l.length qc,.slice sa S.length sc,.slice ra x.length rc]) rfl (by rfl) ?_ (HAFX.out wr.drew hSS) ?_
           ·go_simp
           rintro e2 w6 ⟨cs,bb,rfl,hci,hb⟩
           have hSS:=hSS.trans (hb.mono hSS.size)
           refine⟨_,rfl,.inr hSS,?_⟩
           try simp only[pA,pN,sA,sB]
           obtain⟨u1,u2,u3,u4,u5,u6,rfl⟩:=hci.four
           refine tkL 8 ?_ rfl ?_ hSS ?_
           rotate_left
           ·(intro W hW;obtain⟨q0,q1⟩:=K0.out W hW;go_simp;try with_reducible rfl)
           try simp only[pA,pN,sA,sB]
           refine tkL 9 ?_ rfl ?_ hSS ?_
           rotate_left
           ·(intro W hW;obtain⟨q0,q1⟩:=K0.out W hW;go_simp;try with_reducible rfl)
           try simp only[pA,pN,sA,sB]
           refine tkL 10 ?_ rfl ?_ hSS ?_
           rotate_left
           ·(intro W hW;obtain⟨q0,q1⟩:=K0.out W hW;go_simp;try with_reducible rfl)
           try simp only[pA,pN,sA,sB]
           refine tkL 11 ?_ rfl ?_ hSS ?_
           rotate_left
           ·(intro W hW;obtain⟨q0,q1⟩:=K0.out W hW;go_simp;try with_reducible rfl)
           try simp only[pA,pN,sA,sB]
           have hal:Below w6.heap.size w6 (w6.alloc (.cells #[.string ⟨#[]⟩,.int .i64 0,.int .i64 0,.slice none 0 0] 24)):=(Below.refl _ w6).alloc (Nat.le_refl _) _
           have hSS8:=hSS.trans (hal.mono hSS.size)
           refine anyL_run (i:=12) (v:=.pointer (some ⟨w6.heap.size,0,none⟩)) (w':=w6.alloc (.cells #[.string ⟨#[]⟩,.int .i64 0,.int .i64 0,.slice none 0 0] 24)) rfl zK (by rfl) ?_ (.inr hSS8) ?_
           ·go_simp
            try with_reducible rfl
           try simp only[pA,pN,sA,sB]
           obtain⟨G,hGe⟩:=zx (w6.heap.size)
           have hG8:Box (w6.alloc (.cells #[.string ⟨#[]⟩,.int .i64 0,.int .i64 0,.slice none 0 0] 24)) G #[.string ⟨#[]⟩,.int .i64 0,.int .i64 0,.slice none 0 0] 24:=Box.new' hGe.symm
           have hGl:wr.heap.size≤G:=by rw[←hGe];exact hSS.size
           have hK9:Keep (fun k=>k≠G) w6 (w6.alloc (.cells #[.string ⟨#[]⟩,.int .i64 0,.int .i64 0,.slice none 0 0] 24)):=(Keep.refl _ w6).alloc _
           have hci8:=hci.keep (Keep.of_below' hal)
           rw[hGe]
           generalize w6.alloc (.cells #[.string ⟨#[]⟩,.int .i64 0,.int .i64 0,.slice none 0 0] 24)=w8 at *
           have hci9:∀W,Keep (fun k=>k≠G) w8 W→∃B,AftCells y B W #[.string u1,.int .i64 u2,.int .i64 u3,.slice u4 u5 u6] bb:=fun W hW=>by
            have h:=hK9.trans hW
            exact⟨wr.drew.heap.size,hci.keep ⟨h.os,h.tape,h.output,h.size,fun i _ hl=>h.block i (by omega) hl⟩⟩
           have hSS9:Below wr.heap.size wr ((((w8.setCell ⟨G,0,none⟩ (.string u1)).setCell ⟨G,1,none⟩ (.int .i64 u2)).setCell ⟨G,2,none⟩ (.int .i64 u3)).setCell ⟨G,3,none⟩ (.slice u4 u5 u6)):=(((hSS8.setCell (by simpa using hGl) _).setCell (by simpa using hGl) _).setCell (by simpa using hGl) _).setCell (by simpa using hGl) _
           have hG9:=(((hG8.set_ 0 (.string u1)).set_ 1 (.int .i64 u2)).set_ 2 (.int .i64 u3)).set_ 3 (.slice u4 u5 u6)
           have hkG:Keep (fun k=>k≠G) w8 ((((w8.setCell ⟨G,0,none⟩ (.string u1)).setCell ⟨G,1,none⟩ (.int .i64 u2)).setCell ⟨G,2,none⟩ (.int .i64 u3)).setCell ⟨G,3,none⟩ (.slice u4 u5 u6)):=((((Keep.refl _ w8).setCell (.inl (by simp)) _).setCell (.inl (by simp)) _).setCell (.inl (by simp)) _).setCell (.inl (by simp)) _
           obtain⟨B,hBA⟩:=hci9 _ hkG
           obtain⟨r1,r2⟩:=hG8.rules
           refine anyL_skip (i:=13) (w':=(((w8.setCell ⟨G,0,none⟩ (.string u1)).setCell ⟨G,1,none⟩ (.int .i64 u2)).setCell ⟨G,2,none⟩ (.int .i64 u3)).setCell ⟨G,3,none⟩ (.slice u4 u5 u6)) rfl zK (by rfl) ?_ (.inr hSS9) ?_
           ·go_simp
            try with_reducible rfl
           try simp only[pA,pN,sA,sB]
           generalize (((w8.setCell ⟨G,0,none⟩ (.string u1)).setCell ⟨G,1,none⟩ (.int .i64 u2)).setCell ⟨G,2,none⟩ (.int .i64 u3)).setCell ⟨G,3,none⟩ (.slice u4 u5 u6)=w10 at *
           have hSS:=hSS9
           refine tkL 14 ?_ rfl ?_ hSS ?_
           rotate_left
           ·(intro W hW;obtain⟨q0,q1⟩:=K0.out W hW;go_simp;try with_reducible rfl)
           try simp only[pA,pN,sA,sB]
           refine tkL 15 ?_ rfl ?_ hSS ?_
           rotate_left
           ·(intro W hW;obtain⟨q0,q1⟩:=K0.out W hW;go_simp;try with_reducible rfl)
           try simp only[pA,pN,sA,sB]
           refine anyL_done zK ?_ _
           have FG:=zh hG9
           have FA:=zh hBA
           have FS:=zh hSS9
           clear hSS hSS8 hSS9 hG8 hG9 hkG hBA hci9 r1 r2 K0 hci
           go_wp2_with fail
           go_meet
           exact⟨G,_,bb,B,rfl,rfl,rfl,FG.out,FA.out,FS.out⟩
          ·have hal:Below wr.drew.heap.size wr.drew (wr.drew.alloc (.cells #[.string ⟨#[]⟩,.int .i64 0,.int .i64 0,.slice none 0 0] 24)):=(Below.refl _ wr.drew).alloc (Nat.le_refl _) _
           have hSS6:=hSS.trans (hal.mono hSS.size)
           refine wpOp_run (v:=.pointer (some ⟨wr.drew.heap.size,0,none⟩)) (w':=wr.drew.alloc (.cells #[.string ⟨#[]⟩,.int .i64 0,.int .i64 0,.slice none 0 0] 24)) rfl (by rfl) ?_ ⟨.inr hSS6,?_⟩
           ·go_simp
            try with_reducible rfl
           try simp only[pA,pN,sA,sB]
           obtain⟨G,hGe⟩:=zx (wr.drew.heap.size)
           have hG6:Box (wr.drew.alloc (.cells #[.string ⟨#[]⟩,.int .i64 0,.int .i64 0,.slice none 0 0] 24)) G #[.string ⟨#[]⟩,.int .i64 0,.int .i64 0,.slice none 0 0] 24:=Box.new' hGe.symm
           have hGl:wr.heap.size≤G:=by rw[←hGe];exact hSS.size
           have hGs:G<(wr.drew.alloc (.cells #[.string ⟨#[]⟩,.int .i64 0,.int .i64 0,.slice none 0 0] 24)).heap.size:=by rw[←hGe];simp
           rw[hGe]
           generalize wr.drew.alloc (.cells #[.string ⟨#[]⟩,.int .i64 0,.int .i64 0,.slice none 0 0] 24)=w6 at *
           refine anyL_call (i:=7) (f:=16) (args:=#[.agg #[.string c.ware,.int .i64 c.limit,.int .i64 c.by_,.slice pa c.parts.length pc],.slice qa l.length qc,.slice sa S.length sc,.slice ra x.length rc]) rfl zK (by rfl) (by go_simp) (HAFX.out w6 hSS6) ?_
           rintro e2 w8 ⟨cs,bb,rfl,hci,hb⟩
           have hSS8:=hSS6.trans (hb.mono hSS6.size)
           refine .inl ⟨_,rfl,.inr hSS8,?_⟩
           try simp only[pA,pN,sA,sB]
           obtain⟨u1,u2,u3,u4,u5,u6,rfl⟩:=hci.four
           have hG8:=hG6.below' hb
           have hci9:∀W,Keep (fun k=>k≠G) w8 W→∃B,AftCells y B W #[.string u1,.int .i64 u2,.int .i64 u3,.slice u4 u5 u6] bb:=fun W hW=>⟨w6.heap.size,hci.keep (hW.mono (fun k (hk:w6.heap.size≤k)=>by omega))⟩
           have hSS:=hSS8
           refine tkL 8 ?_ rfl ?_ hSS ?_
           rotate_left
           ·(intro W hW;obtain⟨q0,q1⟩:=K0.out W hW;go_simp;try with_reducible rfl)
           try simp only[pA,pN,sA,sB]
           refine tkL 9 ?_ rfl ?_ hSS ?_
           rotate_left
           ·(intro W hW;obtain⟨q0,q1⟩:=K0.out W hW;go_simp;try with_reducible rfl)
           try simp only[pA,pN,sA,sB]
           refine tkL 10 ?_ rfl ?_ hSS ?_
           rotate_left
           ·(intro W hW;obtain⟨q0,q1⟩:=K0.out W hW;go_simp;try with_reducible rfl)
           try simp only[pA,pN,sA,sB]
           refine tkL 11 ?_ rfl ?_ hSS ?_
           rotate_left
           ·(intro W hW;obtain⟨q0,q1⟩:=K0.out W hW;go_simp;try with_reducible rfl)
           try simp only[pA,pN,sA,sB]
           have hSS9:Below wr.heap.size wr ((((w8.setCell ⟨G,0,none⟩ (.string u1)).setCell ⟨G,1,none⟩ (.int .i64 u2)).setCell ⟨G,2,none⟩ (.int .i64 u3)).setCell ⟨G,3,none⟩ (.slice u4 u5 u6)):=(((hSS8.setCell (by simpa using hGl) _).setCell (by simpa using hGl) _).setCell (by simpa using hGl) _).setCell (by simpa using hGl) _
           have hG9:=(((hG8.set_ 0 (.string u1)).set_ 1 (.int .i64 u2)).set_ 2 (.int .i64 u3)).set_ 3 (.slice u4 u5 u6)
           have hkG:Keep (fun k=>k≠G) w8 ((((w8.setCell ⟨G,0,none⟩ (.string u1)).setCell ⟨G,1,none⟩ (.int .i64 u2)).setCell ⟨G,2,none⟩ (.int .i64 u3)).setCell ⟨G,3,none⟩ (.slice u4 u5 u6)):=((((Keep.refl _ w8).setCell (.inl (by simp)) _).setCell (.inl (by simp)) _).setCell (.inl (by simp)) _).setCell (.inl (by simp)) _
           obtain⟨B,hBA⟩:=hci9 _ hkG
           obtain⟨r1,r2⟩:=hG8.rules
           refine anyL_skip (i:=13) (w':=(((w8.setCell ⟨G,0,none⟩ (.string u1)).setCell ⟨G,1,none⟩ (.int .i64 u2)).setCell ⟨G,2,none⟩ (.int .i64 u3)).setCell ⟨G,3,none⟩ (.slice u4 u5 u6)) rfl zK (by rfl) ?_ (.inr hSS9) ?_
           ·go_simp
            try with_reducible rfl
           try simp only[pA,pN,sA,sB]
           generalize (((w8.setCell ⟨G,0,none⟩ (.string u1)).setCell ⟨G,1,none⟩ (.int .i64 u2)).setCell ⟨G,2,none⟩ (.int .i64 u3)).setCell ⟨G,3,none⟩ (.slice u4 u5 u6)=w10 at *
           have hSS:=hSS9
           refine tkL 14 ?_ rfl ?_ hSS ?_
           rotate_left
           ·(intro W hW;obtain⟨q0,q1⟩:=K0.out W hW;go_simp;try with_reducible rfl)
           try simp only[pA,pN,sA,sB]
           refine tkL 15 ?_ rfl ?_ hSS ?_
           rotate_left
           ·(intro W hW;obtain⟨q0,q1⟩:=K0.out W hW;go_simp;try with_reducible rfl)
           try simp only[pA,pN,sA,sB]
           refine anyL_done zK ?_ _
           have FG:=zh hG9
           have FA:=zh hBA
           have FS:=zh hSS9
           clear hSS hSS8 hSS9 hG8 hG9 hkG hBA hci9 r1 r2 K0 hci
           go_wp2_with fail
           go_meet
           exact⟨G,_,bb,B,rfl,rfl,rfl,FG.out,FA.out,FS.out⟩
         case rest=>
          obtain⟨G,cs,bb,B,rfl,rfl,rfl,hG,hA,hb⟩:=hcut
          have XG:=zh hG
          have HBC:=zh (HBX.out.trans (hb.mono HBX.out.size))
          rcases hA with ⟨rfl,rfl,rfl⟩|⟨d,ba,bc,rfl,rfl,rfl,hP⟩
          ·have HF0:=zh (show fitsFound c l Z s x=false by rw[HFF.out];rfl)
           clear hG hb
           go_wp2_with fail
           go_loopw [17,18] (fun fv kv wx=>fv = .bool false∧kv = .int .i64 0∧Below w9.heap.size w9 wx) (fun _ _ _=>0)
           case atStart=>exact⟨rfl,rfl,HBC.out⟩
           case round=>
            obtain⟨rfl,rfl,hb2⟩:=hrel
            by_cases hz0:(0:Int)<(Z.length:Int)
            ·go_wp2_with fail
             go_roundw
             case rel=>exact⟨i+1,m,by omega,by go_num,rfl,by rw[HTK.out,HF0.out,←HM.out];rfl,hb2⟩
             case measure=>simp[intOf];omega
            ·go_wp2_with fail
             go_roundw
             case rel=>exact⟨i+1,m,by omega,by go_num,rfl,by rw[HTK.out,HF0.out,←HM.out];rfl,hb2⟩
             case measure=>simp[intOf];omega
          ·have HPD:=zh hP.at_
           have HDL:=zh (show d.parts.length=Z.length by rw[HYL.out d rfl];have:=HLN.out;omega)
           have HFD:=zh (show fitsFound c l Z s x=upto Z.length (spanAt d Z) by rw[HFF.out,←HDL.out];rfl)
           clear hP hG
           obtain⟨wy,hwy⟩:∃z:World,z=wc:=⟨_,rfl⟩
           subst hwy
           have RZ:=zh (RZ.out.below HBC.out)
           clear hb
           go_wp2_with fail
           go_loopw [17,18] (fun fv kv wx=>∃k:Nat,k≤Z.length∧kv = .int .i64 k∧fv = .bool (upto k (spanAt d Z))∧Below wy.heap.size wy wx) (fun _ kv _=>Z.length-(intOf kv).toNat)
           case atStart=>exact⟨0,Nat.zero_le _,rfl,rfl,Below.refl _ _⟩
           case round=>
            obtain⟨k,hk,rfl,rfl,hb⟩:=hrel
            have HBY:=zh hb
            have HBE:=zh (HBC.out.trans (hb.mono HBC.out.size))
            rcases hup:upto k (spanAt d Z) with _|_
            ·have HF0:=zh (show fitsFound c l Z s x=false by rw[HFD.out];exact upto_stop hup hk)
             clear hup hb
             by_cases hkz:(k:Int)<(Z.length:Int)
             ·go_wp2_with fail
              go_roundw
              case rel=>exact⟨i+1,m,by omega,by go_num,rfl,by rw[HTK.out,HF0.out,←HM.out];rfl,HBE.out⟩
              case measure=>simp[intOf];omega
             ·go_wp2_with fail
              go_roundw
              case rel=>exact⟨i+1,m,by omega,by go_num,rfl,by rw[HTK.out,HF0.out,←HM.out];rfl,HBE.out⟩
              case measure=>simp[intOf];omega
            ·by_cases hlk:k<Z.length
             ·obtain⟨v,hv⟩:=get_of_lt Z hlk
              have hkz:(k:Int)<(Z.length:Int):=by omega
              have hkd:(k:Int)<(d.parts.length:Int):=by have:=HDL.out;omega
              obtain⟨b1,o1,e1',q1⟩:=(RZ.out.below hb) k (.int .i64 v) (by rw[List.getElem?_map,hv];rfl)
              obtain⟨b2,o2,q,e2',hq,hP⟩:=(HPD.out.below hb).at_ (k:=k) (by have:=HDL.out;omega)
              subst e1' e2'
              obtain⟨_,_,_,_,x0,x1,x2,x3,x4,_⟩:=hP.open
              have e14:∀i,wr.cell? ⟨G,i,none⟩=(#[.string d.ware,.int .i64 d.limit,.int .i64 d.by_,.slice (some ⟨b2,o2,none⟩) d.parts.length bc]:Array Value)[i]?:=(XG.out.below' hb).cell
              have HUP:=zh (show upto (k+1) (spanAt d Z)=(decide (q.span.low≤v)&&decide (v≤q.span.high)) by rw[upto_next,hup,Bool.true_and,spanAt_some hq hv])
              clear hv hq hP x0 x3 x4 hb hup
              by_cases h1:q.span.low≤v
              ·by_cases h2:v≤q.span.high
               ·go_wp2_with fail
                go_quiet (fail)
                go_wp2_with fail
                go_roundw
                case rel=>exact⟨k+1,by omega,by go_num,by rw[HUP.out];simp[h1,h2],below_drewN HBY.out _⟩
                case measure=>simp[intOf];omega
               ·go_wp2_with fail
                go_quiet (fail)
                go_wp2_with fail
                go_roundw
                case rel=>exact⟨k+1,by omega,by go_num,by rw[HUP.out,decide_eq_true h1,show decide (v≤q.span.high)=false from decide_eq_false (by omega)];rfl,below_drewN HBY.out _⟩
                case measure=>simp[intOf];omega
              ·have h1b:decide (q.span.low≤v)=false:=decide_eq_false h1
               go_wp2_with fail
               go_quiet (fail)
               go_wp2_with fail
               go_roundw
               case rel=>exact⟨k+1,by omega,by go_num,by rw[HUP.out];simp[h1b],below_drewN HBY.out _⟩
               case measure=>simp[intOf];omega
             ·obtain rfl:k=Z.length:=by omega
              have HF1:=zh (show fitsFound c l Z s x=true by rw[HFD.out];exact hup)
              clear hup hb
              go_wp2_with fail
              go_roundw
              case rel=>exact⟨i+1,m+1,by omega,by go_num,by go_num,by rw[HTK.out,HF1.out,←HM.out];rfl,HBE.out⟩
              case measure=>simp[intOf];omega
        ·obtain rfl:i=L.length:=by omega
         have hm2:m=1:=by rw[HM.out,List.take_of_length_le (Nat.le_refl _)];exact HIS.out
         subst hm2
         go_wp2_with fail
         (with_reducible refine(HSO.out _).mono ?_)
         rintro e w8 ⟨rfl,hb8⟩
         have HB8:=zh ((HB.out.trans (HBX.out.mono HB.out.size)).trans (hb8.mono (by have:=HB.out.size;have:=HBX.out.size;omega)))
         clear hb8 hb
         go_wp2_with fail
         go_ret
         exact⟨rfl,HB8.out⟩
    ·have hlb:((Z.length:Int) != (c.parts.length:Int))=true:=by simp;omega
     have e1:∀i,w4.cell? ⟨w.heap.size,i,none⟩=(#[.string c.ware,.int .i64 c.limit,.int .i64 c.by_,.slice pa c.parts.length pc]:Array Value)[i]?:=X1.out.cell
     go_wp2_with fail
     (with_reducible refine(HSO.out _).mono ?_)
     rintro e w5 ⟨rfl,hb⟩
     clear e1
     have P:=zh (P.out.below hb)
     have Q:=zh (Q.out.below hb)
     have RS:=zh (RS.out.below hb)
     have RZ:=zh (RZ.out.below hb)
     have X1:=zh (X1.out.below' hb)
     have RO:=zh (RO.out.below hb)
     have HB:=zh (HB.out.trans (hb.mono HB.out.size))
     clear hb
     go_wp2_with fail
     go_ret
     exact⟨rfl,HB.out⟩
   ·obtain⟨X,hX⟩:=zx (xErr c l (setB l.length S))
    rw[hX] at h0 HOU
    have hXn:(X != 0)=true:=by simpa using h0
    clear h0 hX HZ HAF
    have e1:∀i,w3.cell? ⟨w.heap.size,i,none⟩=(#[.string c.ware,.int .i64 c.limit,.int .i64 c.by_,.slice pa c.parts.length pc]:Array Value)[i]?:=X1.out.cell
    go_wp2_with fail
    (with_reducible refine(HOU.out _ P.out Q.out RS.out).mono ?_)
    rintro e w4 ⟨oa,on,oc,rfl,hro1,hro2,hb⟩
    clear e1
    have P:=zh (P.out.below hb)
    have Q:=zh (Q.out.below hb)
    have RS:=zh (RS.out.below hb)
    have RZ:=zh (RZ.out.below hb)
    have X1:=zh (X1.out.below' hb)
    have HB:=zh (HB.out.trans (hb.mono HB.out.size))
    clear hb
    clear hro1 hro2
    go_wp2_with fail
    (with_reducible refine(HSO.out _).mono ?_)
    rintro e w5 ⟨rfl,hb⟩
    have P:=zh (P.out.below hb)
    have Q:=zh (Q.out.below hb)
    have RS:=zh (RS.out.below hb)
    have RZ:=zh (RZ.out.below hb)
    have X1:=zh (X1.out.below' hb)
    have HB:=zh (HB.out.trans (hb.mono HB.out.size))
    clear hb
    go_wp2_with fail
    go_ret
    exact⟨rfl,HB.out⟩
end Go.Proofs.YtjgldeeianionaaGreat
namespace Go.Proofs.YtjgldeeianionaaGreat.ProbeFindingsEnd
open Go.ChangeShapes Go.WideShapes Go.ChangeAt Go.RowKit
theorem own:ownKnob Tryz.prog.godebug=none:=zK
theorem lifted (os:Os)(started:os.Started)(H:Type)(enc:TypeId×Value→H):
 ReturnsInHanded {} Tryz.checked os 10 .any (Rows.probeFindingsSpec.pre6 enc Tryz.prog Tryz.f10 Rows.probeFindingsRow.domain false) (Rows.probeFindingsSpec.post enc Tryz.prog Tryz.f10 false true false false):=by
 refine returnsInHanded_of_change (C:=Tryz.checked) own started zK Tryz.func10
  (ChangeSpec.witness6 (enc:=enc) (C:=Tryz.checked) false ⟨#[],#[.agg #[.string ⟨#[]⟩,.int .i64 0,.int .i64 0,.slice none 0 0],.slice none 0 0,.slice none 0 0,.slice none 0 0],[]⟩ 8 zK zK zK zK) ?_
 intro W base args ds gs before hval0 hW hcnd _
 have hval:∀(j:Nat) t v,Tryz.f10.params[j]?=some t→args[j]?=some v→Value.okWide Tryz.prog W .any base t v:=hval0
 have hW':=hW
 obtain⟨p,q,hA0,hV,rfl,hfz,hnd⟩:=hW
 have hA:DataW.TrodAll enc Tryz.prog W 0 (fun _=>true) true Tryz.f10.params.toList args.toList ds p:=hA0
 rw[Tryz.params10] at hA hval
 obtain⟨v0,vs0,d0,ds0,p0,q0,hargs,rfl,rfl,h0,r0⟩:=trodAll_cons hA
 obtain⟨v1,vs1,d1,ds1,p1,q1,rfl,rfl,rfl,h1,r1⟩:=trodAll_cons r0
 obtain⟨v2,vs2,d2,ds2,p2,q2,rfl,rfl,rfl,h2,r2⟩:=trodAll_cons r1
 obtain⟨v3,vs3,d3,ds3,p3,q3,rfl,rfl,rfl,h3,r3⟩:=trodAll_cons r2
 obtain⟨rfl,rfl,rfl⟩:=trodAll_nil r3
 obtain rfl:args = #[v0,v1,v2,v3]:=by cases args;simp_all
 obtain⟨rfl,rfl⟩:=trodVars_none hV
 obtain⟨c0,pa0,pc0,rfl,hp0,hpc0,hfit0,hlw0⟩:=case_of (hval 0 _ v0 rfl rfl) h0
 obtain⟨a1,l1,k1,rfl,hi1,hk1,hm1⟩:=prbs_arg (hval 1 _ v1 rfl rfl) h1
 obtain⟨a2,l2,k2,rfl,hi2,hk2,hm2⟩:=ints_arg (hval 2 _ v2 rfl rfl) h2
 obtain⟨a3,l3,k3,rfl,hi3,hk3,hm3⟩:=ints_arg (hval 3 _ v3 rfl rfl) h3
 clear hA0 hval0
 refine(probeFindings_any c0 hfit0 pa0 pc0 hpc0 a1 l1 k1 hk1 hm1 a2 l2 k2 hk2 hm2 a3 l3 k3 hk3 hm3 W hp0 hi1 hi2 hi3).mono fun e W' ⟨he,hb⟩=>?_
 subst he
 exact⟨_,rfl,law_post rfl rfl (of_decide_eq_true zK) hW' rfl rfl rfl hb⟩
theorem over:Rows.probeFindingsRow.holds Tryz.pinned (OpenSpec.ofChange Rows.probeFindingsSpec):=
 OpenClaim.holds_of_wide 10 Tryz.f10 rfl rfl rfl rfl rfl rfl rfl ⟨rfl,rfl,rfl,rfl,rfl⟩ rfl rfl rfl rfl rfl zK Tryz.func10 zK
  (of_decide_eq_true zK) (by unfold Func.isWrapper;first|(rw[if_pos (by decide +kernel)];kernel_rfl)|(rw[if_neg (by decide +kernel)];exact⟨rfl,rfl⟩))
  (fun os started H enc _=>lifted os started H enc)
theorem proved:Rows.ProbeFindingsSaid:=
 over
#print axioms proved
end Go.Proofs.YtjgldeeianionaaGreat.ProbeFindingsEnd
