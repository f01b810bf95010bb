/- ProbeMore: with a probe more a set decides what it decided, and what was certain stays so after findings: the law returns true for every input, and its arguments read as before. No condition. -/
import Derived.Deep.DeepCutAuto
import Derived.ProofKit
import Derived.JoinedCond
import Derived.Test.YtjgldeeianionaaGreatS23
import Derived.Test.YtjgldeeianionaaGreatS31
import Derived.Test.YtjgldeeianionaaGreatS40
import Derived.Test.YtjgldeeianionaaGreatS44
import Derived.Test.YtjgldeeianionaaGreatS50
import Derived.Test.YtjgldeeianionaaGreatS01
set_option maxHeartbeats 4000000
set_option maxRecDepth 100000
set_option linter.unusedSimpArgs false
set_option linter.unusedVariables false
namespace Go.Proofs.YtjgldeeianionaaGreat
open Go.RowKit
attribute [local go_sem] Oper.semAt_some
theorem probeMore_any (c:Cs)(hf:c.Fit)(pa:Option Addr)(pc:Nat)(_:c.parts.length≤pc)(qa:Option Addr)(l:List Prb)(qc:Nat)(hlk:l.length≤qc)(hlm:qc≤maxLen)(a:Int)(_:(Lit.int .i64 a).wf=true)(b:Int)(_:(Lit.int .i64 b).wf=true)(sa:Option Addr)(S:List Int)(sc:Nat)(hsk:S.length≤sc)(hsm:sc≤maxLen)(p:Int)(_:(Lit.int .i64 p).wf=true)(fa:Option Addr)(F:List Int)(fc:Nat)(hfk:F.length≤fc)(hfm:fc≤maxLen)(w:World)(hp:PartsAt w pa c.parts)(hq:PrbsAt w qa l)(hS:Ints w sa S)(hF:Ints w fa F):
 Calls Tryz.prog 6 #[.agg #[.string c.ware,.int .i64 c.limit,.int .i64 c.by_,.slice pa c.parts.length pc],.slice qa l.length qc,.int .i64 a,.int .i64 b,.slice sa S.length sc,.int .i64 p,.slice fa F.length fc] w fun e w'=>e = .returned (.bool true)∧Below w.heap.size w w':=by
 obtain⟨w1,hw1,hB1,b1⟩:=box_case9 w c pa pc
 have HFW:=zh (few9_any c hf pa pc l (Nat.le_trans hlk hlm) qa qc w1 (hp.below hB1) (hq.below hB1))
 have HW:=zh hw1
 have P:=zh (hp.below hB1)
 have Q:=zh (hq.below hB1)
 have RS:=zh (hS.below hB1)
 have RF:=zh (hF.below hB1)
 have X1:=zh b1
 have HB:=zh hB1
 have HSO:=zh sounds_any
 clear hw1 hB1 b1 hp hq hS hF
 have e1:∀i,w1.cell? ⟨w.heap.size,i,none⟩=(#[.string c.ware,.int .i64 c.limit,.int .i64 c.by_,.slice pa c.parts.length pc]:Array Value)[i]?:=X1.out.cell
 go_enter Tryz.func6,Tryz.ntmps6
 go_upto_region 1 with fail
 simp only[HW.out]
 go_wp2_with fail
 (with_reducible refine HFW.out.mono ?_)
 rintro e w2 ⟨⟨fb,rfl,hfb⟩,hb⟩
 clear e1
 have P:=zh (P.out.below hb)
 have Q:=zh (Q.out.below hb)
 have RS:=zh (RS.out.below hb)
 have RF:=zh (RF.out.below hb)
 have X1:=zh (X1.out.below' hb)
 have HB:=zh (HB.out.trans (hb.mono HB.out.size))
 clear hb HFW hf
 cases fb
 all_goals have HSH:=zh (fun W (a:Option Addr) (cap:Nat) (h:Row W a [.slice sa S.length sc,.slice fa F.length fc])=>short_two (w:=W) (a:=a) (cap:=cap) h (Nat.le_trans hsk hsm) (Nat.le_trans hfk hfm))
 ·clear hfb
  go_wp2_with fail
  (with_reducible refine(HSO.out _).mono ?_)
  rintro e w3 ⟨rfl,hb⟩
  have P:=zh (P.out.below hb)
  have Q:=zh (Q.out.below hb)
  have RS:=zh (RS.out.below hb)
  have RF:=zh (RF.out.below hb)
  have X1:=zh (X1.out.below' hb)
  have HB:=zh (HB.out.trans (hb.mono HB.out.size))
  clear hb
  go_wp2_with fail
  go_ret
  exact⟨rfl,HB.out⟩
 ·have hsc:=(hfb rfl).1
  clear hfb
  rcases hsh:(decide (S.length≤20)&&decide (F.length≤20)) with _|_
  ·rw[hsh] at HSH
   clear hsh
   have hbq:Below w2.heap.size w2 (w2.alloc (.cells #[.slice sa S.length sc,.slice fa F.length fc] 26)):=by go_grown
   go_wp2_with fail
   (with_reducible refine(HSH.out _ _ _ (lit_row9 (Box.new _ _ _))).mono ?_)
   rintro e w3 ⟨rfl,hb⟩
   have hb:=hbq.trans (hb.mono hbq.size)
   clear hbq
   have P:=zh (P.out.below hb)
   have Q:=zh (Q.out.below hb)
   have RS:=zh (RS.out.below hb)
   have RF:=zh (RF.out.below hb)
   have X1:=zh (X1.out.below' hb)
   have HB:=zh (HB.out.trans (hb.mono HB.out.size))
   clear hb
   go_wp2_with fail
   (with_reducible refine(HSO.out _).mono ?_)
   rintro e w4 ⟨rfl,hb⟩
   have P:=zh (P.out.below hb)
   have Q:=zh (Q.out.below hb)
   have RS:=zh (RS.out.below hb)
   have RF:=zh (RF.out.below hb)
   have X1:=zh (X1.out.below' hb)
   have HB:=zh (HB.out.trans (hb.mono HB.out.size))
   clear hb
   go_wp2_with fail
   go_ret
   exact⟨rfl,HB.out⟩
  ·rw[hsh] at HSH
   simp only[Bool.and_eq_true,decide_eq_true_eq] at hsh
   obtain⟨hs20,hf20⟩:=hsh
   have HDE:=zh (fun W h1 h2 h3=>decides_tup (c:=c) (l:=l) (w:=W) (pa:=pa) (pc:=pc) (qa:=qa) (qc:=qc) hsc a b sa S sc (by omega) h1 h2 h3)
   have HCA:=zh (fun W h1 h2 h3 h4=>can_tup (c:=c) (l:=l) (w:=W) (pa:=pa) (pc:=pc) (qa:=qa) (qc:=qc) hsc sa S sc fa F fc (by omega) (by omega) h1 h2 h3 h4)
   have HAF:=zh (fun d e1 e2 W h1 h2 h3 h4=>after_tup (d:=d) (c:=c) (l:=l) (w:=W) (pa:=pa) (pc:=pc) (qa:=qa) (qc:=qc) hsc sa S sc fa F fc (by omega) (by omega) e1 e2 h1 h2 h3 h4)
   have HAN:=zh (fun W h1=>answer_tup (c:=c) (w:=W) (pa:=pa) (pc:=pc) hsc a b h1)
   have HAD:=zh (fun(d:Cs) (hd:d.Small) (ba:Option Addr) (bc:Nat) W h1=>answer_tup (c:=d) (w:=W) (pa:=ba) (pc:=bc) hd a b h1)
   have HDM:=zh (fun(M:List Nat) (hM:M.length≤1000) (ma:Option Addr) (mc:Nat) W h1 h2 h3=>decides_tup (c:=c) (l:=l) (w:=W) (pa:=pa) (pc:=pc) (qa:=qa) (qc:=qc) hsc a b ma (natInts M) mc (by rw[nat_len];exact hM) h1 h2 h3)
   have HZ:=zh (fun h=>xErr_zero (c:=c) (l:=l) (ok:=twoB c.parts.length a b&&setB l.length S) h)
   obtain⟨X,hX⟩:=zx (xErr c l (twoB c.parts.length a b&&setB l.length S))
   rw[hX] at HDE HZ
   have hbq:Below w2.heap.size w2 (w2.alloc (.cells #[.slice sa S.length sc,.slice fa F.length fc] 26)):=by go_grown
   go_wp2_with fail
   (with_reducible refine(HSH.out _ _ _ (lit_row9 (Box.new _ _ _))).mono ?_)
   rintro e w3 ⟨rfl,hb⟩
   have hb:=hbq.trans (hb.mono hbq.size)
   clear hbq
   have P:=zh (P.out.below hb)
   have Q:=zh (Q.out.below hb)
   have RS:=zh (RS.out.below hb)
   have RF:=zh (RF.out.below hb)
   have X1:=zh (X1.out.below' hb)
   have HB:=zh (HB.out.trans (hb.mono HB.out.size))
   clear hb
   by_cases h0:X=0
   ·subst h0
    obtain⟨z1,z2,z3⟩:=HZ.out rfl
    simp only[Bool.and_eq_true] at z2
    obtain⟨z2,z4⟩:=z2
    obtain⟨x,y,rfl,rfl,hx,hy⟩:=two_nats z2
    have hak:=ask_two (probes_ok z1).1 z3 hx hy
    simp only[Int.toNat_natCast] at HDE HAN HAD HDM
    rw[hak] at HAN
    simp only[if_true,beq_self_eq_true,Bool.true_and] at HDE HAN
    obtain⟨e4,e5⟩:=set_nats z4
    have hinc:Inc 0 l.length (nats S):=by rw[←setB_inc,←e4];exact z4
    have hsl:(nats S).length=S.length:=by simp[nats]
    have hl5:=(probes_ok z1).2.1
    have HAT:=zh (fun(k:Nat) (v:Nat) (h:(nats S)[k]?=some v)=>show S[k]?=some (v:Int) by rw[e4];simp[natInts,h])
    have HDM2:Hid (∀(M:List Nat) (ma:Option Addr) (mc:Nat) (W:World),Inc 0 l.length M→PartsAt W pa c.parts→PrbsAt W qa l→Ints W ma (natInts M)→Calls Tryz.prog 33 #[.agg #[.string c.ware,.int .i64 c.limit,.int .i64 c.by_,.slice pa c.parts.length pc],.slice qa l.length qc,.int .i64 (x:Int),.int .i64 (y:Int),.slice ma M.length mc] W fun e w'=>e = .returned (.tuple #[.bool (decidesB c l x y M),.int .i64 0])∧Below W.heap.size W w'):=zh (fun M ma mc W hi h1 h2 h3=>by
     have hM:=hi.len
     have h:=HDM.out M (by omega) ma mc W h1 h2 h3
     have hz:xErr c l (twoB c.parts.length (x:Int) (y:Int)&&setB l.length (natInts M))=0:=xErr_ok z1 (by rw[z2,setB_inc.2 hi];rfl) z3
     rw[hz,nat_len,nats_nat] at h
     exact h)
    have HMO:=zh (fun(M:List Nat) (hi:Inc 0 l.length M) (hin:∀v∈nats S,v∈M) (hd:decidesB c l x y (nats S)=true)=>decides_more z1 hx hy (fun v hv=>(hi.lt v hv).2) hin hd)
    have HXF:=zh (fun(h:foundB c l S F=true)=>show xErr c l (foundB c l S F)=0 from xErr_ok z1 h z3)
    have HXN:=zh (fun(h:foundB c l S F=false)=>show xErr c l (foundB c l S F)=1 by rw[h];simp[xErr,z1])
    have HCO:=zh (fun d (h:canC c l (nats S) (nats F)=some d)=>(⟨(canC_ok z1 h).1,(canC_ok z1 h).2.1,(canC_ok z1 h).2.2,fun hn=>can_ans z1 hx hy h hn⟩:AftOk c d∧(allR d).isEmpty=false∧afterC c l (nats S) (nats F)=some d∧(ansAt c x y≠3→ansAt d x y=ansAt c x y)))
    have HXY:=zh (show x<c.parts.length∧y<c.parts.length from⟨hx,hy⟩)
    clear z1 z2 z3 z4 hx hy hak hX HZ HDM e4 e5 hsc HSH
    generalize hs:nats S=s at *
    have hs20:s.length≤20:=by omega
    have HIN:=zh hinc
    clear hs hinc
    obtain⟨D,hD⟩:=zx (decidesB c l x y s)
    rw[hD] at HDE HMO
    clear hD
    have e1:∀i,w3.cell? ⟨w.heap.size,i,none⟩=(#[.string c.ware,.int .i64 c.limit,.int .i64 c.by_,.slice pa c.parts.length pc]:Array Value)[i]?:=X1.out.cell
    go_wp2_with fail
    (with_reducible refine(HDE.out _ P.out Q.out RS.out).mono ?_)
    rintro e w4 ⟨rfl,hb⟩
    clear e1
    have P:=zh (P.out.below hb)
    have Q:=zh (Q.out.below hb)
    have RS:=zh (RS.out.below hb)
    have RF:=zh (RF.out.below hb)
    have X1:=zh (X1.out.below' hb)
    have HB:=zh (HB.out.trans (hb.mono HB.out.size))
    clear hb
    go_upto_region 6 with fail
    go_cut [62] (fun s62 wx=>s62 = .bool (decide (0≤p)&&decide (p<(l.length:Int)))∧w4=wx)
    case first=>
     by_cases hp0:0≤p
     ·by_cases hpl:p<(l.length:Int)
      ·go_wp2_with fail
       go_meet
       exact⟨by simp[hp0,hpl],rfl⟩
      ·go_wp2_with fail
       go_meet
       exact⟨by rw[show decide (p<(l.length:Int))=false from decide_eq_false (by omega),Bool.and_false],rfl⟩
     ·go_wp2_with fail
      go_meet
      exact⟨by rw[show decide (0≤p)=false from decide_eq_false (by omega)];rfl,rfl⟩
    case rest=>
     obtain⟨rfl,rfl⟩:=hcut
     obtain⟨pb,hpb⟩:=zx ((decide (0≤p)&&decide (p<(l.length:Int))))
     have HPB:=zh hpb
     rw[hpb]
     clear hpb
     go_upto_if 62 with fail
     go_cut [17] (fun s17 wx=>Below w4.heap.size w4 wx)
     case first=>
      cases pb
      ·go_wp2_with fail
       go_meet
       exact Below.refl _ _
      ·have hpb:=HPB.out
       simp only[Bool.and_eq_true,decide_eq_true_eq] at hpb
       obtain⟨hp0,hpl⟩:=hpb
       obtain⟨q,rfl⟩:=Int.eq_ofNat_of_zero_le hp0
       have hql:q<l.length:=by omega
       have HB0:Hid (Below w4.heap.size w4 w4):=zh (Below.refl _ _)
       go_wp2_with fail
       go_loopw [17,18,19] (fun mv pv iv wx=>∃(k:Nat) (pl:Bool) (M:List Nat),k≤s.length∧iv = .int .i64 k∧pv = .bool pl∧MoreAt q (s.take k) pl M∧wx.ownsRow w4.heap.size 3 1 mv M.length ((natInts M).map (Value.int .i64))∧Below w4.heap.size w4 wx) (fun _ _ iv _=>s.length-(intOf iv).toNat)
       case atStart=>exact⟨0,false,[],Nat.zero_le _,rfl,rfl,MoreAt.nil q,ownsRow_nil _ _ _ _,Below.refl _ _⟩
       case round=>
        obtain⟨k,pl,M,hk,rfl,rfl,hmo,hrow,hb⟩:=hrel
        have HM:=zh hmo
        have HR:=zh hrow
        have HBL:=zh hb
        have hml:=hmo.len
        rw[List.length_take] at hml
        by_cases hlt:k<s.length
        ·obtain⟨v,hv⟩:=get_of_lt s hlt
         have HVV:=zh hv
         have hvi:=HAT.out k v hv
         have HTK:=zh (take_snoc hv)
         have HLT:=zh (inc_take HIN.out hv)
         obtain⟨b1,o1,rfl,q1⟩:=(RS.out.below hb).base (by omega)
         have c1:=q1 _ _ hvi
         have hkS:(k:Int)<(S.length:Int):=by omega
         clear hvi q1 hv hmo hrow
         have C1:=zh c1
         cases pl
         ·by_cases hlow:v<q
          ·have f1:¬(q:Int)≤(v:Int):=by omega
           have f2:((v:Int) != (q:Int))=true:=by simp;omega
           obtain⟨v7,w70,hrun,hown,hb7⟩:=app_one (E:=3) (TT:=26) Tryz.underlying26 info_int rfl (by omega) HR.out (by simp;omega) HBL.out.size (.int .i64 (v:Int)) rfl
           have HRN7:=zh hrun
           have HOW7:=zh hown
           clear hrun hown
           have HB7:=zh (HBL.out.trans hb7)
           clear hb7 hb c1 hml
           have c1:=C1.out
           go_wp2_with (at_builtin;refine wpList_app rfl _ _ _ rfl rfl rfl HRN7.out ?_)
           go_roundw
           case rel=>
            refine⟨k+1,false,M++[v],by omega,by go_num,rfl,by rw[HTK.out];exact HM.out.low hlow,?_,HB7.out⟩
            simpa[natInts] using HOW7.out
           case measure=>simp[intOf];omega
          ·have f1:(q:Int)≤(v:Int):=by omega
           obtain⟨v7,w7,hrun,h2,hb7⟩:=app_one (E:=3) (TT:=26) Tryz.underlying26 info_int rfl (by omega) HR.out (by omega) HBL.out.size (.int .i64 (q:Int)) rfl
           have hown:w7.ownsRow w4.heap.size 3 1 v7 (M++[q]).length ((natInts (M++[q])).map (Value.int .i64)):=by simpa[natInts] using h2
           clear h2
           have HRN7:=zh hrun
           have HOW7:=zh hown
           have HB7:=zh (HBL.out.trans hb7)
           have d1:=(RS.out.below HB7.out) k (.int .i64 (v:Int)) (by rw[List.getElem?_map,HAT.out k v HVV.out];rfl)
           obtain⟨b2,o2,e2,d1⟩:=d1
           cases e2
           clear hrun hown hb7 hb hml
           by_cases heq:v=q
           ·have HEQ:=zh heq
            have f2:((v:Int) != (q:Int))=false:=by simp;omega
            clear heq
            go_wp2_with (at_builtin;refine wpList_app rfl _ _ _ rfl rfl rfl HRN7.out ?_)
            go_roundw
            case rel=>
             refine⟨k+1,true,M++[q],by omega,by go_num,rfl,by rw[HTK.out];exact HM.out.here HEQ.out,?_,HB7.out⟩
             exact HOW7.out
            case measure=>simp[intOf];omega
           ·have HGT:=zh (show q<v by omega)
            have f2:((v:Int) != (q:Int))=true:=by simp;omega
            clear heq
            obtain⟨v8,w8,hrun,hown,hb8⟩:=app_one (E:=3) (TT:=26) Tryz.underlying26 info_int rfl (by omega) HOW7.out (by have:=HM.out.len;rw[List.length_take] at this;simp;omega) HB7.out.size (.int .i64 (v:Int)) rfl
            have HRN8:=zh hrun
            have HOW8:=zh hown
            have HB8:=zh (HB7.out.trans hb8)
            clear hrun hown hb8
            go_wp2_with (first
             |(at_builtin;refine wpList_app rfl _ _ _ rfl rfl rfl HRN7.out ?_)
             |(at_builtin;refine wpList_app rfl _ _ _ rfl rfl rfl HRN8.out ?_))
            go_roundw
            case rel=>
             refine⟨k+1,true,M++[q]++[v],by omega,by go_num,rfl,by rw[HTK.out];exact HM.out.put HGT.out,?_,HB8.out⟩
             simpa[natInts] using HOW8.out
            case measure=>simp[intOf];omega
         ·have HGT:=zh (HM.out.over HLT.out)
          have f1:=HGT.out
          have f2:((v:Int) != (q:Int))=true:=by simp;omega
          clear f1
          obtain⟨v7,w70,hrun,hown,hb7⟩:=app_one (E:=3) (TT:=26) Tryz.underlying26 info_int rfl (by omega) HR.out (by simp;omega) HBL.out.size (.int .i64 (v:Int)) rfl
          have HRN7:=zh hrun
          have HOW7:=zh hown
          clear hrun hown
          have HB7:=zh (HBL.out.trans hb7)
          clear hb7 hb c1 hml
          have c1:=C1.out
          go_wp2_with (at_builtin;refine wpList_app rfl _ _ _ rfl rfl rfl HRN7.out ?_)
          go_roundw
          case rel=>
           refine⟨k+1,true,M++[v],by omega,by go_num,rfl,by rw[HTK.out];exact HM.out.behind HGT.out,?_,HB7.out⟩
           simpa[natInts] using HOW7.out
          case measure=>simp[intOf];omega
        ·obtain rfl:k=s.length:=by omega
         rw[List.take_of_length_le (Nat.le_refl _)] at HM hmo
         have HEN:=zh (HM.out.end_ HIN.out hql)
         have hkS:¬((s.length:Nat):Int)<(S.length:Int):=by omega
         clear hmo hrow hb
         cases pl
         ·simp only[Bool.false_eq_true,if_false] at HEN
          obtain⟨v7,w7,h1,h2,h3⟩:=app_one (E:=3) (TT:=26) Tryz.underlying26 info_int rfl (by omega) HR.out (by omega) HBL.out.size (.int .i64 (q:Int)) rfl
          have h2:w7.ownsRow w4.heap.size 3 1 v7 (M++[q]).length ((natInts (M++[q])).map (Value.int .i64)):=by simpa[natInts] using h2
          have HBE:=zh (HBL.out.trans h3)
          have HRN:=zh h1
          clear h1
          obtain⟨ma,mc,hv,hro,-⟩:=ownsRow_own h2
          have HI:=zh (show Ints w7 ma (natInts (M++[q])) from hro.row)
          clear hro
          subst hv
          have P:=zh (P.out.below HBE.out)
          have Q:=zh (Q.out.below HBE.out)
          have X1:=zh (X1.out.below' HBE.out)
          have HDD:=zh (HDM2.out (M++[q]) ma mc w7 HEN.out.1 P.out Q.out HI.out)
          have e1:∀i,w7.cell? ⟨w.heap.size,i,none⟩=(#[.string c.ware,.int .i64 c.limit,.int .i64 c.by_,.slice pa c.parts.length pc]:Array Value)[i]?:=X1.out.cell
          have HMD:=zh (HMO.out (M++[q]) HEN.out.1 HEN.out.2)
          generalize decidesB c l x y (M++[q])=D2 at *
          generalize (M++[q]).length=ML at *
          go_wp2_with (at_builtin;refine wpList_app rfl _ _ _ rfl rfl rfl HRN.out ?_)
          (with_reducible refine HDD.out.mono ?_)
          rintro e w9 ⟨rfl,hb9⟩
          have HB9:=zh (HBE.out.trans (hb9.mono HBE.out.size))
          clear hb9 e1
          rcases D with _|_
          ·go_wp2_with fail
           go_meet
           exact HB9.out
          ·obtain rfl:D2=true:=HMD.out rfl
           go_wp2_with fail
           go_meet
           exact HB9.out
         ·simp only[if_true] at HEN
          have HBE:=HBL
          obtain⟨ma,mc,hv,hro,-⟩:=ownsRow_own HR.out
          have HI:=zh (show Ints wr ma (natInts (M)) from hro.row)
          clear hro
          subst hv
          have P:=zh (P.out.below HBE.out)
          have Q:=zh (Q.out.below HBE.out)
          have X1:=zh (X1.out.below' HBE.out)
          have HDD:=zh (HDM2.out (M) ma mc wr HEN.out.1 P.out Q.out HI.out)
          have e1:∀i,wr.cell? ⟨w.heap.size,i,none⟩=(#[.string c.ware,.int .i64 c.limit,.int .i64 c.by_,.slice pa c.parts.length pc]:Array Value)[i]?:=X1.out.cell
          have HMD:=zh (HMO.out (M) HEN.out.1 HEN.out.2)
          generalize decidesB c l x y (M)=D2 at *
          go_wp2_with fail
          (with_reducible refine HDD.out.mono ?_)
          rintro e w9 ⟨rfl,hb9⟩
          have HB9:=zh (HBE.out.trans (hb9.mono HBE.out.size))
          clear hb9 e1
          rcases D with _|_
          ·go_wp2_with fail
           go_meet
           exact HB9.out
          ·obtain rfl:D2=true:=HMD.out rfl
           go_wp2_with fail
           go_meet
           exact HB9.out
     case rest=>
      have hb:=hcut
      obtain⟨w5,hw9⟩:∃z:World,z=wc:=⟨_,rfl⟩
      subst hw9
      clear hcut
      have P:=zh (P.out.below hb)
      have Q:=zh (Q.out.below hb)
      have RS:=zh (RS.out.below hb)
      have RF:=zh (RF.out.below hb)
      have X1:=zh (X1.out.below' hb)
      have HB:=zh (HB.out.trans (hb.mono HB.out.size))
      clear hb HMO HDE HDM2 HAT
      rcases hff:foundB c l S F with _|_
      ·rw[HXN.out hff] at HCA
       clear hff
       have e1:∀i,w5.cell? ⟨w.heap.size,i,none⟩=(#[.string c.ware,.int .i64 c.limit,.int .i64 c.by_,.slice pa c.parts.length pc]:Array Value)[i]?:=X1.out.cell
       go_wp2_with fail
       (with_reducible refine(HCA.out _ P.out Q.out RS.out RF.out).mono ?_)
       rintro e w6 ⟨rfl,hb⟩
       clear e1
       have P:=zh (P.out.below hb)
       have Q:=zh (Q.out.below hb)
       have RS:=zh (RS.out.below hb)
       have RF:=zh (RF.out.below hb)
       have X1:=zh (X1.out.below' hb)
       have HB:=zh (HB.out.trans (hb.mono HB.out.size))
       clear hb
       go_wp2_with fail
       (with_reducible refine(HSO.out _).mono ?_)
       rintro e w7 ⟨rfl,hb⟩
       have P:=zh (P.out.below hb)
       have Q:=zh (Q.out.below hb)
       have RS:=zh (RS.out.below hb)
       have RF:=zh (RF.out.below hb)
       have X1:=zh (X1.out.below' hb)
       have HB:=zh (HB.out.trans (hb.mono HB.out.size))
       clear hb
       go_wp2_with fail
       go_ret
       exact⟨rfl,HB.out⟩
      ·have HX0:=zh (HXF.out hff)
       rw[HX0.out] at HCA
       clear hff HXF HXN
       rcases hcn:canC c l s (nats F) with _|d
       ·rw[hcn] at HCA
        simp only[Option.isSome_none,Bool.and_false] at HCA
        clear hcn
        have e1:∀i,w5.cell? ⟨w.heap.size,i,none⟩=(#[.string c.ware,.int .i64 c.limit,.int .i64 c.by_,.slice pa c.parts.length pc]:Array Value)[i]?:=X1.out.cell
        go_wp2_with fail
        (with_reducible refine(HCA.out _ P.out Q.out RS.out RF.out).mono ?_)
        rintro e w6 ⟨rfl,hb⟩
        clear e1
        have P:=zh (P.out.below hb)
        have Q:=zh (Q.out.below hb)
        have RS:=zh (RS.out.below hb)
        have RF:=zh (RF.out.below hb)
        have X1:=zh (X1.out.below' hb)
        have HB:=zh (HB.out.trans (hb.mono HB.out.size))
        clear hb
        go_wp2_with fail
        (with_reducible refine(HSO.out _).mono ?_)
        rintro e w7 ⟨rfl,hb⟩
        have P:=zh (P.out.below hb)
        have Q:=zh (Q.out.below hb)
        have RS:=zh (RS.out.below hb)
        have RF:=zh (RF.out.below hb)
        have X1:=zh (X1.out.below' hb)
        have HB:=zh (HB.out.trans (hb.mono HB.out.size))
        clear hb
        go_wp2_with fail
        go_ret
        exact⟨rfl,HB.out⟩
       ·rw[hcn] at HCA
        simp only[Option.isSome_some,beq_self_eq_true,Bool.and_self] at HCA
        obtain⟨ok,hne,haf,han⟩:=HCO.out d hcn
        have hlen:=ok.len
        have hak:=ask_two ok.chk hne (a:=x) (b:=y) (by have:=HXY.out;omega) (by have:=HXY.out;omega)
        have HAD:=zh (HAD.out d (small_of ok.chk))
        rw[hak] at HAD
        simp only[if_true] at HAD
        have HAF:=zh (HAF.out d HX0.out haf)
        have HNN:=zh han
        clear hcn ok hne haf han hak HCO HXY hlen
        generalize ansAt c x y=N at *
        generalize ansAt d x y=N2 at *
        have e1:∀i,w5.cell? ⟨w.heap.size,i,none⟩=(#[.string c.ware,.int .i64 c.limit,.int .i64 c.by_,.slice pa c.parts.length pc]:Array Value)[i]?:=X1.out.cell
        go_wp2_with fail
        (with_reducible refine(HCA.out _ P.out Q.out RS.out RF.out).mono ?_)
        rintro e w6 ⟨rfl,hb⟩
        clear e1
        have P:=zh (P.out.below hb)
        have Q:=zh (Q.out.below hb)
        have RS:=zh (RS.out.below hb)
        have RF:=zh (RF.out.below hb)
        have X1:=zh (X1.out.below' hb)
        have HB:=zh (HB.out.trans (hb.mono HB.out.size))
        clear hb
        go_upto_region 25 with fail
        have e1:∀i,w6.cell? ⟨w.heap.size,i,none⟩=(#[.string c.ware,.int .i64 c.limit,.int .i64 c.by_,.slice pa c.parts.length pc]:Array Value)[i]?:=X1.out.cell
        go_wp2_with fail
        (with_reducible refine(HAF.out _ P.out Q.out RS.out RF.out).mono ?_)
        rintro e w7 ⟨ba,bc,rfl,hpd,hb⟩
        clear e1
        have PD:=zh hpd
        clear hpd
        have P:=zh (P.out.below hb)
        have Q:=zh (Q.out.below hb)
        have RS:=zh (RS.out.below hb)
        have RF:=zh (RF.out.below hb)
        have X1:=zh (X1.out.below' hb)
        have HB:=zh (HB.out.trans (hb.mono HB.out.size))
        clear hb
        go_upto_region 26 with fail
        have hb:Below w7.heap.size w7 (w7.alloc (.cells #[.string d.ware,.int .i64 d.limit,.int .i64 d.by_,.slice ba d.parts.length bc] 24)):=by go_grown
        have x24:Box (w7.alloc (.cells #[.string d.ware,.int .i64 d.limit,.int .i64 d.by_,.slice ba d.parts.length bc] 24)) (w7.heap.size) #[.string d.ware,.int .i64 d.limit,.int .i64 d.by_,.slice ba d.parts.length bc] 24:=Box.new _ _ _
        generalize (w7.alloc (.cells #[.string d.ware,.int .i64 d.limit,.int .i64 d.by_,.slice ba d.parts.length bc] 24))=w8 at *
        have P:=zh (P.out.below hb)
        have Q:=zh (Q.out.below hb)
        have RS:=zh (RS.out.below hb)
        have RF:=zh (RF.out.below hb)
        have X1:=zh (X1.out.below' hb)
        have PD:=zh (PD.out.below hb)
        have HB:=zh (HB.out.trans (hb.mono HB.out.size))
        clear hb
        have X24:=zh x24
        clear x24
        have e1:∀i,w8.cell? ⟨w.heap.size,i,none⟩=(#[.string c.ware,.int .i64 c.limit,.int .i64 c.by_,.slice pa c.parts.length pc]:Array Value)[i]?:=X1.out.cell
        go_wp2_with fail
        (with_reducible refine(HAN.out _ P.out).mono ?_)
        rintro e w9 ⟨rfl,hb⟩
        clear e1
        have P:=zh (P.out.below hb)
        have Q:=zh (Q.out.below hb)
        have RS:=zh (RS.out.below hb)
        have RF:=zh (RF.out.below hb)
        have X1:=zh (X1.out.below' hb)
        have PD:=zh (PD.out.below hb)
        have X24:=zh (X24.out.below' hb)
        have HB:=zh (HB.out.trans (hb.mono HB.out.size))
        clear hb
        have e24:∀i,w9.cell? ⟨w7.heap.size,i,none⟩=(#[.string d.ware,.int .i64 d.limit,.int .i64 d.by_,.slice ba d.parts.length bc]:Array Value)[i]?:=X24.out.cell
        go_wp2_with fail
        (with_reducible refine(HAD.out _ _ _ PD.out).mono ?_)
        rintro e w10 ⟨rfl,hb⟩
        clear e24
        have P:=zh (P.out.below hb)
        have Q:=zh (Q.out.below hb)
        have RS:=zh (RS.out.below hb)
        have RF:=zh (RF.out.below hb)
        have X1:=zh (X1.out.below' hb)
        have PD:=zh (PD.out.below hb)
        have X24:=zh (X24.out.below' hb)
        have HB:=zh (HB.out.trans (hb.mono HB.out.size))
        clear hb
        by_cases hN:N=3
        ·subst hN
         go_wp2_with fail
         (with_reducible refine(HSO.out _).mono ?_)
         rintro e w11 ⟨rfl,hb⟩
         have P:=zh (P.out.below hb)
         have Q:=zh (Q.out.below hb)
         have RS:=zh (RS.out.below hb)
         have RF:=zh (RF.out.below hb)
         have X1:=zh (X1.out.below' hb)
         have PD:=zh (PD.out.below hb)
         have X24:=zh (X24.out.below' hb)
         have HB:=zh (HB.out.trans (hb.mono HB.out.size))
         clear hb
         go_wp2_with fail
         go_ret
         exact⟨rfl,HB.out⟩
        ·have hn3:(N==3)=false:=by simpa using hN
         obtain rfl:=HNN.out hN
         go_wp2_with fail
         (with_reducible refine(HSO.out _).mono ?_)
         rintro e w11 ⟨rfl,hb⟩
         have P:=zh (P.out.below hb)
         have Q:=zh (Q.out.below hb)
         have RS:=zh (RS.out.below hb)
         have RF:=zh (RF.out.below hb)
         have X1:=zh (X1.out.below' hb)
         have PD:=zh (PD.out.below hb)
         have X24:=zh (X24.out.below' hb)
         have HB:=zh (HB.out.trans (hb.mono HB.out.size))
         clear hb
         go_wp2_with fail
         go_ret
         exact⟨by simp,HB.out⟩
   ·have hXb:(X==0)=false:=by simpa using h0
    have hXn:(X != 0)=true:=by simpa using h0
    simp only[hXb,Bool.false_and] at HDE
    clear h0 hX hXb HZ HAN HAD HDM HCA HAF HSH
    have e1:∀i,w3.cell? ⟨w.heap.size,i,none⟩=(#[.string c.ware,.int .i64 c.limit,.int .i64 c.by_,.slice pa c.parts.length pc]:Array Value)[i]?:=X1.out.cell
    go_wp2_with fail
    (with_reducible refine(HDE.out _ P.out Q.out RS.out).mono ?_)
    rintro e w4 ⟨rfl,hb⟩
    clear e1
    have P:=zh (P.out.below hb)
    have Q:=zh (Q.out.below hb)
    have RS:=zh (RS.out.below hb)
    have RF:=zh (RF.out.below hb)
    have X1:=zh (X1.out.below' hb)
    have HB:=zh (HB.out.trans (hb.mono HB.out.size))
    clear hb
    go_wp2_with fail
    (with_reducible refine(HSO.out _).mono ?_)
    rintro e w5 ⟨rfl,hb⟩
    have P:=zh (P.out.below hb)
    have Q:=zh (Q.out.below hb)
    have RS:=zh (RS.out.below hb)
    have RF:=zh (RF.out.below hb)
    have X1:=zh (X1.out.below' hb)
    have HB:=zh (HB.out.trans (hb.mono HB.out.size))
    clear hb
    go_wp2_with fail
    go_ret
    exact⟨rfl,HB.out⟩
end Go.Proofs.YtjgldeeianionaaGreat
namespace Go.Proofs.YtjgldeeianionaaGreat.ProbeMoreEnd
open Go.ChangeShapes Go.WideShapes Go.ChangeAt Go.RowKit
theorem own:ownKnob Tryz.prog.godebug=none:=zK
theorem lifted (os:Os)(started:os.Started)(H:Type)(enc:TypeId×Value→H):
 ReturnsInHanded {} Tryz.checked os 6 .any (Rows.probeMoreSpec.pre6 enc Tryz.prog Tryz.f6 Rows.probeMoreRow.domain false) (Rows.probeMoreSpec.post enc Tryz.prog Tryz.f6 false true false false):=by
 refine returnsInHanded_of_change (C:=Tryz.checked) own started zK Tryz.func6
  (ChangeSpec.witness6 (enc:=enc) (C:=Tryz.checked) false ⟨#[],#[.agg #[.string ⟨#[]⟩,.int .i64 0,.int .i64 0,.slice none 0 0],.slice none 0 0,.int .i64 0,.int .i64 0,.slice none 0 0,.int .i64 0,.slice none 0 0],[]⟩ 8 zK zK zK zK) ?_
 intro W base args ds gs before hval0 hW hcnd _
 have hval:∀(j:Nat) t v,Tryz.f6.params[j]?=some t→args[j]?=some v→Value.okWide Tryz.prog W .any base t v:=hval0
 have hW':=hW
 obtain⟨p,q,hA0,hV,rfl,hfz,hnd⟩:=hW
 have hA:DataW.TrodAll enc Tryz.prog W 0 (fun _=>true) true Tryz.f6.params.toList args.toList ds p:=hA0
 rw[Tryz.params6] at hA hval
 obtain⟨v0,vs0,d0,ds0,p0,q0,hargs,rfl,rfl,h0,r0⟩:=trodAll_cons hA
 obtain⟨v1,vs1,d1,ds1,p1,q1,rfl,rfl,rfl,h1,r1⟩:=trodAll_cons r0
 obtain⟨v2,vs2,d2,ds2,p2,q2,rfl,rfl,rfl,h2,r2⟩:=trodAll_cons r1
 obtain⟨v3,vs3,d3,ds3,p3,q3,rfl,rfl,rfl,h3,r3⟩:=trodAll_cons r2
 obtain⟨v4,vs4,d4,ds4,p4,q4,rfl,rfl,rfl,h4,r4⟩:=trodAll_cons r3
 obtain⟨v5,vs5,d5,ds5,p5,q5,rfl,rfl,rfl,h5,r5⟩:=trodAll_cons r4
 obtain⟨v6,vs6,d6,ds6,p6,q6,rfl,rfl,rfl,h6,r6⟩:=trodAll_cons r5
 obtain⟨rfl,rfl,rfl⟩:=trodAll_nil r6
 obtain rfl:args = #[v0,v1,v2,v3,v4,v5,v6]:=by cases args;simp_all
 obtain⟨rfl,rfl⟩:=trodVars_none hV
 obtain⟨c0,pa0,pc0,rfl,hp0,hpc0,hfit0,hlw0⟩:=case_of (hval 0 _ v0 rfl rfl) h0
 obtain⟨a1,l1,k1,rfl,hi1,hk1,hm1⟩:=prbs_arg (hval 1 _ v1 rfl rfl) h1
 obtain⟨a2,rfl,rfl,rfl,w2⟩:=open_int Tryz.underlying3 (hval 2 _ v2 rfl rfl) h2
 obtain⟨a3,rfl,rfl,rfl,w3⟩:=open_int Tryz.underlying3 (hval 3 _ v3 rfl rfl) h3
 obtain⟨a4,l4,k4,rfl,hi4,hk4,hm4⟩:=ints_arg (hval 4 _ v4 rfl rfl) h4
 obtain⟨a5,rfl,rfl,rfl,w5⟩:=open_int Tryz.underlying3 (hval 5 _ v5 rfl rfl) h5
 obtain⟨a6,l6,k6,rfl,hi6,hk6,hm6⟩:=ints_arg (hval 6 _ v6 rfl rfl) h6
 clear hA0 hval0
 refine(probeMore_any c0 hfit0 pa0 pc0 hpc0 a1 l1 k1 hk1 hm1 a2 w2 a3 w3 a4 l4 k4 hk4 hm4 a5 w5 a6 l6 k6 hk6 hm6 W hp0 hi1 hi4 hi6).mono fun e W' ⟨he,hb⟩=>?_
 subst he
 exact⟨_,rfl,law_post rfl rfl (of_decide_eq_true zK) hW' rfl rfl rfl hb⟩
theorem over:Rows.probeMoreRow.holds Tryz.pinned (OpenSpec.ofChange Rows.probeMoreSpec):=
 OpenClaim.holds_of_wide 6 Tryz.f6 rfl rfl rfl rfl rfl rfl rfl ⟨rfl,rfl,rfl,rfl,rfl⟩ rfl rfl rfl rfl rfl zK Tryz.func6 zK
  (of_decide_eq_true zK) (by unfold Func.isWrapper;first|(rw[if_pos (by decide +kernel)];kernel_rfl)|(rw[if_neg (by decide +kernel)];exact⟨rfl,rfl⟩))
  (fun os started H enc _=>lifted os started H enc)
theorem proved:Rows.ProbeMoreSaid:=
 over
#print axioms proved
end Go.Proofs.YtjgldeeianionaaGreat.ProbeMoreEnd
