/- ProbeLeast: what Proof doubts proves the cost of Cheapest, and no set that decides costs less than doubts that are accepted prove: the law returns true for every input, and its arguments read as before. No condition. -/
import Derived.ProofKit
import Derived.JoinedCond
import Derived.Test.YtjgldeeianionaaGreatS31
import Derived.Test.YtjgldeeianionaaGreatS40
import Derived.Test.YtjgldeeianionaaGreatS48
import Derived.Test.YtjgldeeianionaaGreatS01
set_option maxHeartbeats 4000000
set_option maxRecDepth 100000
set_option linter.unusedSimpArgs false
set_option linter.unusedVariables false
namespace Go.Proofs.YtjgldeeianionaaGreat
open Go.RowKit
attribute [local go_sem] Oper.semAt_some
theorem probeLeast_any (c:Cs)(hf:c.Fit)(pa:Option Addr)(pc:Nat)(_:c.parts.length≤pc)(qa:Option Addr)(l:List Prb)(qc:Nat)(hlk:l.length≤qc)(hlm:qc≤maxLen)(a:Int)(_:(Lit.int .i64 a).wf=true)(b:Int)(_:(Lit.int .i64 b).wf=true)(sa:Option Addr)(S:List Int)(sc:Nat)(hsk:S.length≤sc)(hsm:sc≤maxLen)(n:Int)(_:(Lit.int .i64 n).wf=true)(oa:Option Addr)(D:List Opn)(oc:Nat)(hok:D.length≤oc)(hom:oc≤maxLen)(hod:∀d∈D,d.probes.length≤maxLen∧d.found.length≤maxLen∧d.tog.length≤maxLen∧d.apt.length≤maxLen)(w:World)(hp:PartsAt w pa c.parts)(hq:PrbsAt w qa l)(hS:Ints w sa S)(hD:OpnsAt w oa D):
 Calls Tryz.prog 11 #[.agg #[.string c.ware,.int .i64 c.limit,.int .i64 c.by_,.slice pa c.parts.length pc],.slice qa l.length qc,.int .i64 a,.int .i64 b,.slice sa S.length sc,.int .i64 n,.slice oa D.length oc] w fun e w'=>e = .returned (.bool true)∧Below w.heap.size w w':=by
 obtain⟨w1,hw1,hB1,b1⟩:=box_case9 w c pa pc
 have HFW:=zh (few9_any c hf pa pc l (Nat.le_trans hlk hlm) qa qc w1 (hp.below hB1) (hq.below hB1))
 have HW:=zh hw1
 have P:=zh (hp.below hB1)
 have Q:=zh (hq.below hB1)
 have RS:=zh (hS.below hB1)
 have RD:=zh (hD.below hB1)
 have X1:=zh b1
 have HB:=zh hB1
 have HSO:=zh sounds_any
 clear hw1 hB1 b1 hp hq hS hD
 have e1:∀i,w1.cell? ⟨w.heap.size,i,none⟩=(#[.string c.ware,.int .i64 c.limit,.int .i64 c.by_,.slice pa c.parts.length pc]:Array Value)[i]?:=X1.out.cell
 go_enter Tryz.func11,Tryz.ntmps11
 go_upto_region 1 with fail
 simp only[HW.out]
 go_wp2_with fail
 (with_reducible refine HFW.out.mono ?_)
 rintro e w2 ⟨⟨fb,rfl,hfb⟩,hb⟩
 clear e1
 have P:=zh (P.out.below hb)
 have Q:=zh (Q.out.below hb)
 have RS:=zh (RS.out.below hb)
 have RD:=zh (RD.out.below hb)
 have X1:=zh (X1.out.below' hb)
 have HB:=zh (HB.out.trans (hb.mono HB.out.size))
 clear hb HFW hf
 cases fb
 all_goals have HSH:=zh (fun W (a:Option Addr) (cap:Nat) (h:Row W a [.slice sa S.length sc])=>short_one (w:=W) (a:=a) (cap:=cap) h (Nat.le_trans hsk hsm))
 all_goals have HTR:=zh (fun W h=>tried_nil (w:=W) (oa:=oa) (D:=D) (oc:=oc) (Nat.le_trans hok hom) hod h)
 all_goals clear hod
 ·clear hfb
  go_wp2_with fail
  (with_reducible refine(HSO.out _).mono ?_)
  rintro e w3 ⟨rfl,hb⟩
  have P:=zh (P.out.below hb)
  have Q:=zh (Q.out.below hb)
  have RS:=zh (RS.out.below hb)
  have RD:=zh (RD.out.below hb)
  have X1:=zh (X1.out.below' hb)
  have HB:=zh (HB.out.trans (hb.mono HB.out.size))
  clear hb
  go_wp2_with fail
  go_ret
  exact⟨rfl,HB.out⟩
 ·have hsc:=(hfb rfl).1
  clear hfb
  rcases hsh:decide (S.length≤20) with _|_
  ·rw[hsh] at HSH
   clear hsh
   have hbq:Below w2.heap.size w2 (w2.alloc (.cells #[.slice sa S.length sc] 26)):=by go_grown
   go_wp2_with fail
   (with_reducible refine(HSH.out _ _ _ (lit_row9 (Box.new _ _ _))).mono ?_)
   rintro e w3 ⟨rfl,hb⟩
   have hb:=hbq.trans (hb.mono hbq.size)
   clear hbq
   have P:=zh (P.out.below hb)
   have Q:=zh (Q.out.below hb)
   have RS:=zh (RS.out.below hb)
   have RD:=zh (RD.out.below hb)
   have X1:=zh (X1.out.below' hb)
   have HB:=zh (HB.out.trans (hb.mono HB.out.size))
   clear hb
   go_wp2_with fail
   (with_reducible refine(HSO.out _).mono ?_)
   rintro e w4 ⟨rfl,hb⟩
   have P:=zh (P.out.below hb)
   have Q:=zh (Q.out.below hb)
   have RS:=zh (RS.out.below hb)
   have RD:=zh (RD.out.below hb)
   have X1:=zh (X1.out.below' hb)
   have HB:=zh (HB.out.trans (hb.mono HB.out.size))
   clear hb
   go_wp2_with fail
   go_ret
   exact⟨rfl,HB.out⟩
  ·rw[hsh] at HSH
   have hs20:S.length≤20:=of_decide_eq_true hsh
   have hbq:Below w2.heap.size w2 (w2.alloc (.cells #[.slice sa S.length sc] 26)):=by go_grown
   go_wp2_with fail
   (with_reducible refine(HSH.out _ _ _ (lit_row9 (Box.new _ _ _))).mono ?_)
   rintro e w3 ⟨rfl,hb⟩
   have hb:=hbq.trans (hb.mono hbq.size)
   clear hbq
   have P:=zh (P.out.below hb)
   have Q:=zh (Q.out.below hb)
   have RS:=zh (RS.out.below hb)
   have RD:=zh (RD.out.below hb)
   have X1:=zh (X1.out.below' hb)
   have HB:=zh (HB.out.trans (hb.mono HB.out.size))
   clear hb
   go_wp2_with fail
   (with_reducible refine(HTR.out _ RD.out).mono ?_)
   rintro e w4 ⟨⟨tb,rfl,htb⟩,hb⟩
   have P:=zh (P.out.below hb)
   have Q:=zh (Q.out.below hb)
   have RS:=zh (RS.out.below hb)
   have RD:=zh (RD.out.below hb)
   have X1:=zh (X1.out.below' hb)
   have HB:=zh (HB.out.trans (hb.mono HB.out.size))
   clear hb
   clear HSH HTR hsh
   cases tb
   ·clear htb
    go_wp2_with fail
    (with_reducible refine(HSO.out _).mono ?_)
    rintro e w5 ⟨rfl,hb⟩
    have P:=zh (P.out.below hb)
    have Q:=zh (Q.out.below hb)
    have RS:=zh (RS.out.below hb)
    have RD:=zh (RD.out.below hb)
    have X1:=zh (X1.out.below' hb)
    have HB:=zh (HB.out.trans (hb.mono HB.out.size))
    clear hb
    go_wp2_with fail
    go_ret
    exact⟨rfl,HB.out⟩
   ·obtain⟨_,hD40,hDok⟩:=htb rfl
    clear htb
    have hDs:∀d∈D,d.Small:=fun d hd=>(hDok d hd).small
    have HCH:=zh (fun W h1 h2=>cheapest_tup (c:=c) (l:=l) (w:=W) (pa:=pa) (pc:=pc) (qa:=qa) (qc:=qc) hsc a b h1 h2)
    have HPF:=zh (fun W h1 h2=>proof_tup (c:=c) (l:=l) (w:=W) (pa:=pa) (pc:=pc) (qa:=qa) (qc:=qc) hsc a b h1 h2)
    have HCP:=zh (fun W h1 h2 h3=>checkProof_tup (c:=c) (l:=l) (w:=W) (pa:=pa) (pc:=pc) (qa:=qa) (qc:=qc) hsc a b n oa D oc (by omega) hDs h1 h2 h3)
    have HC2:=zh (fun(m:Int) (E:List Opn) (hE:E.length≤1000) (hEs:∀d∈E,d.Small) (ea:Option Addr) (ec:Nat) W h1 h2 h3=>checkProof_tup (c:=c) (l:=l) (w:=W) (pa:=pa) (pc:=pc) (qa:=qa) (qc:=qc) hsc a b m ea E ec hE hEs h1 h2 h3)
    have HDE:=zh (fun W h1 h2 h3=>decides_tup (c:=c) (l:=l) (w:=W) (pa:=pa) (pc:=pc) (qa:=qa) (qc:=qc) hsc a b sa S sc (by omega) h1 h2 h3)
    have HD2:=zh (fun(M:List Nat) (hM:M.length≤1000) (ma:Option Addr) (mc:Nat) W h1 h2 h3=>decides_tup (c:=c) (l:=l) (w:=W) (pa:=pa) (pc:=pc) (qa:=qa) (qc:=qc) hsc a b ma (natInts M) mc (by rw[nat_len];exact hM) h1 h2 h3)
    have HCO:=zh (fun W h1 h2 h3=>cost_tup (c:=c) (l:=l) (w:=W) (pa:=pa) (pc:=pc) (qa:=qa) (qc:=qc) hsc sa S sc (by omega) h1 h2 h3)
    have HZ:=zh (fun h=>xErr_zero (c:=c) (l:=l) (ok:=twoB c.parts.length a b) h)
    clear hDs hDok hsc
    by_cases h0:xErr c l (twoB c.parts.length a b)=0
    ·obtain⟨z1,z2,z3⟩:=HZ.out h0
     obtain⟨x,y,rfl,rfl,hx,hy⟩:=two_nats z2
     simp only[h0,Int.toNat_natCast,if_true,beq_self_eq_true,Bool.true_and,true_implies,ne_eq,not_true_eq_false,false_implies,true_and] at HCH HPF HCP HC2
     simp only[Int.toNat_natCast] at HDE HD2
     have HGP:=zh (proof_good (c:=c) (l:=l) z1 hx hy)
     have HPS:=zh (proofOf_small (c:=c) (l:=l) z1 hx hy)
     have HLE:=zh (fun s hs hd hc=>proof_least (n:=n) (ds:=D) (s:=s) z1 hx hy hc hs hd)
     have HC3:Hid (∀(m:Int) (ea:Option Addr) (ec:Nat) (W:World),m=planCost c l x y→PartsAt W pa c.parts→PrbsAt W qa l→OpnsAt W ea (proofOf c l x y)→Calls Tryz.prog 41 #[.agg #[.string c.ware,.int .i64 c.limit,.int .i64 c.by_,.slice pa c.parts.length pc],.slice qa l.length qc,.int .i64 (x:Int),.int .i64 (y:Int),.int .i64 m,.slice ea (proofOf c l x y).length ec] W fun e w'=>e = .returned (.tuple #[.bool true,.int .i64 0])∧Below W.heap.size W w'):=zh (fun m ea ec W hm h1 h2 h3=>by
      have h:=HC2.out m (proofOf c l x y) HPS.out.1 HPS.out.2 ea ec W h1 h2 h3
      rw[hm,HGP.out] at h
      rw[hm]
      exact h)
     have HX3:=zh (fun(ok:Bool) (h:ok=true)=>show xErr c l ok=0 from xErr_ok z1 h z3)
     have HX4:=zh (fun(ok:Bool) (h:ok=false)=>show xErr c l ok=1 by rw[h];simp[xErr,z1])
     have HD3:Hid (∀(M:List Nat) (ma:Option Addr) (mc:Nat) (W:World),M∈setsOf l.length→PartsAt W pa c.parts→PrbsAt W qa l→Ints W ma (natInts M)→Calls Tryz.prog 33 #[.agg #[.string c.ware,.int .i64 c.limit,.int .i64 c.by_,.slice pa c.parts.length pc],.slice qa l.length qc,.int .i64 (x:Int),.int .i64 (y:Int),.slice ma M.length mc] W fun e w'=>e = .returned (.tuple #[.bool (decidesB c l x y M),.int .i64 0])∧Below W.heap.size W w'):=zh (fun M ma mc W hi h1 h2 h3=>by
      have hM:=(sets_in hi).2
      have hl5:=(probes_ok z1).2.1
      have h:=HD2.out M (by omega) ma mc W h1 h2 h3
      rw[HX3.out _ (by rw[z2,setB_of hi];rfl),nat_len,nats_nat] at h
      exact h)
     have HZ2:=zh z2
     clear z1 z2 z3 hx hy h0 HZ HC2 HD2 HGP HPS
     rcases hcp:checkProofB c l x y n D with _|_
     ·rw[hcp] at HCP
      have HCQ:=zh hcp
      clear hcp
      have e1:∀i,w4.cell? ⟨w.heap.size,i,none⟩=(#[.string c.ware,.int .i64 c.limit,.int .i64 c.by_,.slice pa c.parts.length pc]:Array Value)[i]?:=X1.out.cell
      go_wp2_with fail
      (with_reducible refine(HCH.out _ P.out Q.out).mono ?_)
      rintro e w5 ⟨ra,rn,rc,k,bb,rfl,hpl,hb⟩
      clear e1
      have HPL:=zh hpl
      clear hpl
      have P:=zh (P.out.below hb)
      have Q:=zh (Q.out.below hb)
      have RS:=zh (RS.out.below hb)
      have RD:=zh (RD.out.below hb)
      have X1:=zh (X1.out.below' hb)
      have HB:=zh (HB.out.trans (hb.mono HB.out.size))
      clear hb
      go_upto_region 4 with fail
      have hb:Below w5.heap.size w5 (w5.alloc (.cells #[.slice ra rn rc,.int .i64 k] 42)):=by go_grown
      have x15:Box (w5.alloc (.cells #[.slice ra rn rc,.int .i64 k] 42)) (w5.heap.size) #[.slice ra rn rc,.int .i64 k] 42:=Box.new _ _ _
      generalize (w5.alloc (.cells #[.slice ra rn rc,.int .i64 k] 42))=w6 at *
      have P:=zh (P.out.below hb)
      have Q:=zh (Q.out.below hb)
      have RS:=zh (RS.out.below hb)
      have RD:=zh (RD.out.below hb)
      have X1:=zh (X1.out.below' hb)
      have HPL:=zh (HPL.out.below hb)
      have HB:=zh (HB.out.trans (hb.mono HB.out.size))
      clear hb
      have X15:=zh x15
      clear x15
      have e1:∀i,w6.cell? ⟨w.heap.size,i,none⟩=(#[.string c.ware,.int .i64 c.limit,.int .i64 c.by_,.slice pa c.parts.length pc]:Array Value)[i]?:=X1.out.cell
      go_wp2_with fail
      (with_reducible refine(HPF.out _ P.out Q.out).mono ?_)
      rintro e w7 ⟨oo,on,oq,rfl,⟨rfl,hoo⟩,hb⟩
      clear e1
      have OO:=zh hoo
      clear hoo
      have P:=zh (P.out.below hb)
      have Q:=zh (Q.out.below hb)
      have RS:=zh (RS.out.below hb)
      have RD:=zh (RD.out.below hb)
      have X1:=zh (X1.out.below' hb)
      have HPL:=zh (HPL.out.below hb)
      have X15:=zh (X15.out.below' hb)
      have HB:=zh (HB.out.trans (hb.mono HB.out.size))
      clear hb
      have e1:∀i,w7.cell? ⟨w.heap.size,i,none⟩=(#[.string c.ware,.int .i64 c.limit,.int .i64 c.by_,.slice pa c.parts.length pc]:Array Value)[i]?:=X1.out.cell
      go_wp2_with fail
      (with_reducible refine(HCP.out _ P.out Q.out RD.out).mono ?_)
      rintro e w8 ⟨rfl,hb⟩
      clear e1
      have P:=zh (P.out.below hb)
      have Q:=zh (Q.out.below hb)
      have RS:=zh (RS.out.below hb)
      have RD:=zh (RD.out.below hb)
      have X1:=zh (X1.out.below' hb)
      have HPL:=zh (HPL.out.below hb)
      have X15:=zh (X15.out.below' hb)
      have OO:=zh (OO.out.below hb)
      have HB:=zh (HB.out.trans (hb.mono HB.out.size))
      clear hb
      clear HCH HPF HCP
      rcases hc:cheapestOf c l x y with _|s
      ·have HCC:=zh hc
       rw[hc] at HPL
       obtain⟨rfl,rfl,rfl⟩:=HPL.out.no
       clear hc HPL
       have e15:∀i,w8.cell? ⟨w5.heap.size,i,none⟩=(#[.slice ra 0 rc,.int .i64 0]:Array Value)[i]?:=X15.out.cell
       have e1:∀i,w8.cell? ⟨w.heap.size,i,none⟩=(#[.string c.ware,.int .i64 c.limit,.int .i64 c.by_,.slice pa c.parts.length pc]:Array Value)[i]?:=X1.out.cell
       go_wp2_with fail
       (with_reducible refine(HC3.out _ _ _ _ (planCost_none HCC.out).symm P.out Q.out OO.out).mono ?_)
       rintro e w9 ⟨rfl,hb⟩
       clear e15 e1
       have P:=zh (P.out.below hb)
       have Q:=zh (Q.out.below hb)
       have RS:=zh (RS.out.below hb)
       have X1:=zh (X1.out.below' hb)
       have X15:=zh (X15.out.below' hb)
       have OO:=zh (OO.out.below hb)
       have HB:=zh (HB.out.trans (hb.mono HB.out.size))
       clear hb
       clear HC3 OO
       rcases hst:setB l.length S with _|_
       ·rw[hst,Bool.and_false,HX4.out false rfl] at HDE
        rw[hst,HX4.out false rfl] at HCO
        clear hst
        have e1:∀i,w9.cell? ⟨w.heap.size,i,none⟩=(#[.string c.ware,.int .i64 c.limit,.int .i64 c.by_,.slice pa c.parts.length pc]:Array Value)[i]?:=X1.out.cell
        go_wp2_with fail
        (with_reducible refine(HDE.out _ P.out Q.out RS.out).mono ?_)
        rintro e w10 ⟨rfl,hb⟩
        clear e1
        have P:=zh (P.out.below hb)
        have Q:=zh (Q.out.below hb)
        have RS:=zh (RS.out.below hb)
        have X1:=zh (X1.out.below' hb)
        have X15:=zh (X15.out.below' hb)
        have HB:=zh (HB.out.trans (hb.mono HB.out.size))
        clear hb
        have e1:∀i,w10.cell? ⟨w.heap.size,i,none⟩=(#[.string c.ware,.int .i64 c.limit,.int .i64 c.by_,.slice pa c.parts.length pc]:Array Value)[i]?:=X1.out.cell
        go_wp2_with fail
        (with_reducible refine(HCO.out _ P.out Q.out RS.out).mono ?_)
        rintro e w11 ⟨rfl,hb⟩
        clear e1
        have P:=zh (P.out.below hb)
        have Q:=zh (Q.out.below hb)
        have RS:=zh (RS.out.below hb)
        have X1:=zh (X1.out.below' hb)
        have X15:=zh (X15.out.below' hb)
        have HB:=zh (HB.out.trans (hb.mono HB.out.size))
        clear hb
        go_wp2_with fail
        (with_reducible refine(HSO.out _).mono ?_)
        rintro e w12 ⟨rfl,hb⟩
        have P:=zh (P.out.below hb)
        have Q:=zh (Q.out.below hb)
        have RS:=zh (RS.out.below hb)
        have X1:=zh (X1.out.below' hb)
        have X15:=zh (X15.out.below' hb)
        have HB:=zh (HB.out.trans (hb.mono HB.out.size))
        clear hb
        go_wp2_with fail
        go_ret
        exact⟨rfl,HB.out⟩
       ·have HMS:=zh (set_mem hst)
        rw[hst,HZ2.out,Bool.and_self,HX3.out true rfl] at HDE
        rw[hst,HX3.out true rfl,if_pos rfl] at HCO
        clear hst
        simp only[beq_self_eq_true,Bool.true_and] at HDE
        rcases hd:decidesB c l x y (nats S) with _|_
        ·rw[hd] at HDE
         clear hd
         generalize costOf l (nats S)=M at *
         have e1:∀i,w9.cell? ⟨w.heap.size,i,none⟩=(#[.string c.ware,.int .i64 c.limit,.int .i64 c.by_,.slice pa c.parts.length pc]:Array Value)[i]?:=X1.out.cell
         go_wp2_with fail
         (with_reducible refine(HDE.out _ P.out Q.out RS.out).mono ?_)
         rintro e w10 ⟨rfl,hb⟩
         clear e1
         have P:=zh (P.out.below hb)
         have Q:=zh (Q.out.below hb)
         have RS:=zh (RS.out.below hb)
         have X1:=zh (X1.out.below' hb)
         have X15:=zh (X15.out.below' hb)
         have HB:=zh (HB.out.trans (hb.mono HB.out.size))
         clear hb
         have e1:∀i,w10.cell? ⟨w.heap.size,i,none⟩=(#[.string c.ware,.int .i64 c.limit,.int .i64 c.by_,.slice pa c.parts.length pc]:Array Value)[i]?:=X1.out.cell
         go_wp2_with fail
         (with_reducible refine(HCO.out _ P.out Q.out RS.out).mono ?_)
         rintro e w11 ⟨rfl,hb⟩
         clear e1
         have P:=zh (P.out.below hb)
         have Q:=zh (Q.out.below hb)
         have RS:=zh (RS.out.below hb)
         have X1:=zh (X1.out.below' hb)
         have X15:=zh (X15.out.below' hb)
         have HB:=zh (HB.out.trans (hb.mono HB.out.size))
         clear hb
         go_wp2_with fail
         (with_reducible refine(HSO.out _).mono ?_)
         rintro e w12 ⟨rfl,hb⟩
         have P:=zh (P.out.below hb)
         have Q:=zh (Q.out.below hb)
         have RS:=zh (RS.out.below hb)
         have X1:=zh (X1.out.below' hb)
         have X15:=zh (X15.out.below' hb)
         have HB:=zh (HB.out.trans (hb.mono HB.out.size))
         clear hb
         go_wp2_with fail
         go_ret
         exact⟨rfl,HB.out⟩
        ·rw[hd] at HDE
         have:=cheapest_none HCC.out _ HMS.out
         rw[hd] at this
         cases this
      ·have HCC:=zh hc
       rw[hc] at HPL
       obtain⟨rfl,rfl,rfl,hi⟩:=HPL.out.yes
       have RI:=zh hi
       clear hc HPL hi
       obtain⟨hcs1,hcs2,_⟩:=cheapest_some HCC.out
       obtain⟨K,hK⟩:=zx (costOf l s)
       rw[hK]
       rw[hK] at X15
       have HKE:=zh hK
       have HM1:=zh hcs1
       have HM2:=zh hcs2
       clear hcs1 hcs2 hK
       have e15:∀i,w8.cell? ⟨w5.heap.size,i,none⟩=(#[.slice ra s.length rc,.int .i64 K]:Array Value)[i]?:=X15.out.cell
       have e1:∀i,w8.cell? ⟨w.heap.size,i,none⟩=(#[.string c.ware,.int .i64 c.limit,.int .i64 c.by_,.slice pa c.parts.length pc]:Array Value)[i]?:=X1.out.cell
       go_wp2_with fail
       (with_reducible refine(HC3.out _ _ _ _ (by rw[planCost_some HCC.out,HKE.out]) P.out Q.out OO.out).mono ?_)
       rintro e w9 ⟨rfl,hb⟩
       clear e15 e1
       have P:=zh (P.out.below hb)
       have Q:=zh (Q.out.below hb)
       have RS:=zh (RS.out.below hb)
       have X1:=zh (X1.out.below' hb)
       have X15:=zh (X15.out.below' hb)
       have OO:=zh (OO.out.below hb)
       have RI:=zh (RI.out.below hb)
       have HB:=zh (HB.out.trans (hb.mono HB.out.size))
       clear hb
       clear HC3 OO
       have HD3:=zh (fun ma mc W h1 h2 h3=>HD3.out s ma mc W HM1.out h1 h2 h3)
       rw[HM2.out] at HD3
       have e15:∀i,w9.cell? ⟨w5.heap.size,i,none⟩=(#[.slice ra s.length rc,.int .i64 K]:Array Value)[i]?:=X15.out.cell
       have e1:∀i,w9.cell? ⟨w.heap.size,i,none⟩=(#[.string c.ware,.int .i64 c.limit,.int .i64 c.by_,.slice pa c.parts.length pc]:Array Value)[i]?:=X1.out.cell
       go_wp2_with fail
       (with_reducible refine(HD3.out _ _ _ P.out Q.out RI.out).mono ?_)
       rintro e w10 ⟨rfl,hb⟩
       clear e15 e1
       have P:=zh (P.out.below hb)
       have Q:=zh (Q.out.below hb)
       have RS:=zh (RS.out.below hb)
       have X1:=zh (X1.out.below' hb)
       have X15:=zh (X15.out.below' hb)
       have RI:=zh (RI.out.below hb)
       have HB:=zh (HB.out.trans (hb.mono HB.out.size))
       clear hb
       clear RI
       have e15:∀i,w10.cell? ⟨w5.heap.size,i,none⟩=(#[.slice ra s.length rc,.int .i64 K]:Array Value)[i]?:=X15.out.cell
       go_upto_region 20 with fail
       clear e15
       rcases hst:setB l.length S with _|_
       ·rw[hst,Bool.and_false,HX4.out false rfl] at HDE
        rw[hst,HX4.out false rfl] at HCO
        clear hst
        have e1:∀i,w10.cell? ⟨w.heap.size,i,none⟩=(#[.string c.ware,.int .i64 c.limit,.int .i64 c.by_,.slice pa c.parts.length pc]:Array Value)[i]?:=X1.out.cell
        go_wp2_with fail
        (with_reducible refine(HDE.out _ P.out Q.out RS.out).mono ?_)
        rintro e w11 ⟨rfl,hb⟩
        clear e1
        have P:=zh (P.out.below hb)
        have Q:=zh (Q.out.below hb)
        have RS:=zh (RS.out.below hb)
        have X1:=zh (X1.out.below' hb)
        have X15:=zh (X15.out.below' hb)
        have HB:=zh (HB.out.trans (hb.mono HB.out.size))
        clear hb
        have e1:∀i,w11.cell? ⟨w.heap.size,i,none⟩=(#[.string c.ware,.int .i64 c.limit,.int .i64 c.by_,.slice pa c.parts.length pc]:Array Value)[i]?:=X1.out.cell
        go_wp2_with fail
        (with_reducible refine(HCO.out _ P.out Q.out RS.out).mono ?_)
        rintro e w12 ⟨rfl,hb⟩
        clear e1
        have P:=zh (P.out.below hb)
        have Q:=zh (Q.out.below hb)
        have RS:=zh (RS.out.below hb)
        have X1:=zh (X1.out.below' hb)
        have X15:=zh (X15.out.below' hb)
        have HB:=zh (HB.out.trans (hb.mono HB.out.size))
        clear hb
        go_wp2_with fail
        (with_reducible refine(HSO.out _).mono ?_)
        rintro e w13 ⟨rfl,hb⟩
        have P:=zh (P.out.below hb)
        have Q:=zh (Q.out.below hb)
        have RS:=zh (RS.out.below hb)
        have X1:=zh (X1.out.below' hb)
        have X15:=zh (X15.out.below' hb)
        have HB:=zh (HB.out.trans (hb.mono HB.out.size))
        clear hb
        go_wp2_with fail
        go_ret
        exact⟨rfl,HB.out⟩
       ·have HMS:=zh (set_mem hst)
        rw[hst,HZ2.out,Bool.and_self,HX3.out true rfl] at HDE
        rw[hst,HX3.out true rfl,if_pos rfl] at HCO
        clear hst
        simp only[beq_self_eq_true,Bool.true_and] at HDE
        rcases hd:decidesB c l x y (nats S) with _|_
        ·rw[hd] at HDE
         clear hd
         generalize costOf l (nats S)=M at *
         have e1:∀i,w10.cell? ⟨w.heap.size,i,none⟩=(#[.string c.ware,.int .i64 c.limit,.int .i64 c.by_,.slice pa c.parts.length pc]:Array Value)[i]?:=X1.out.cell
         go_wp2_with fail
         (with_reducible refine(HDE.out _ P.out Q.out RS.out).mono ?_)
         rintro e w11 ⟨rfl,hb⟩
         clear e1
         have P:=zh (P.out.below hb)
         have Q:=zh (Q.out.below hb)
         have RS:=zh (RS.out.below hb)
         have X1:=zh (X1.out.below' hb)
         have X15:=zh (X15.out.below' hb)
         have HB:=zh (HB.out.trans (hb.mono HB.out.size))
         clear hb
         have e1:∀i,w11.cell? ⟨w.heap.size,i,none⟩=(#[.string c.ware,.int .i64 c.limit,.int .i64 c.by_,.slice pa c.parts.length pc]:Array Value)[i]?:=X1.out.cell
         go_wp2_with fail
         (with_reducible refine(HCO.out _ P.out Q.out RS.out).mono ?_)
         rintro e w12 ⟨rfl,hb⟩
         clear e1
         have P:=zh (P.out.below hb)
         have Q:=zh (Q.out.below hb)
         have RS:=zh (RS.out.below hb)
         have X1:=zh (X1.out.below' hb)
         have X15:=zh (X15.out.below' hb)
         have HB:=zh (HB.out.trans (hb.mono HB.out.size))
         clear hb
         go_wp2_with fail
         (with_reducible refine(HSO.out _).mono ?_)
         rintro e w13 ⟨rfl,hb⟩
         have P:=zh (P.out.below hb)
         have Q:=zh (Q.out.below hb)
         have RS:=zh (RS.out.below hb)
         have X1:=zh (X1.out.below' hb)
         have X15:=zh (X15.out.below' hb)
         have HB:=zh (HB.out.trans (hb.mono HB.out.size))
         clear hb
         go_wp2_with fail
         go_ret
         exact⟨rfl,HB.out⟩
        ·rw[hd] at HDE
         have hKM:K≤costOf l (nats S):=by rw[←HKE.out];exact(cheapest_some HCC.out).2.2 _ HMS.out hd
         clear hd
         generalize costOf l (nats S)=M at *
         have e1:∀i,w10.cell? ⟨w.heap.size,i,none⟩=(#[.string c.ware,.int .i64 c.limit,.int .i64 c.by_,.slice pa c.parts.length pc]:Array Value)[i]?:=X1.out.cell
         go_wp2_with fail
         (with_reducible refine(HDE.out _ P.out Q.out RS.out).mono ?_)
         rintro e w11 ⟨rfl,hb⟩
         clear e1
         have P:=zh (P.out.below hb)
         have Q:=zh (Q.out.below hb)
         have RS:=zh (RS.out.below hb)
         have X1:=zh (X1.out.below' hb)
         have X15:=zh (X15.out.below' hb)
         have HB:=zh (HB.out.trans (hb.mono HB.out.size))
         clear hb
         have e1:∀i,w11.cell? ⟨w.heap.size,i,none⟩=(#[.string c.ware,.int .i64 c.limit,.int .i64 c.by_,.slice pa c.parts.length pc]:Array Value)[i]?:=X1.out.cell
         go_wp2_with fail
         (with_reducible refine(HCO.out _ P.out Q.out RS.out).mono ?_)
         rintro e w12 ⟨rfl,hb⟩
         clear e1
         have P:=zh (P.out.below hb)
         have Q:=zh (Q.out.below hb)
         have RS:=zh (RS.out.below hb)
         have X1:=zh (X1.out.below' hb)
         have X15:=zh (X15.out.below' hb)
         have HB:=zh (HB.out.trans (hb.mono HB.out.size))
         clear hb
         go_wp2_with fail
         (with_reducible refine(HSO.out _).mono ?_)
         rintro e w13 ⟨rfl,hb⟩
         have P:=zh (P.out.below hb)
         have Q:=zh (Q.out.below hb)
         have RS:=zh (RS.out.below hb)
         have X1:=zh (X1.out.below' hb)
         have X15:=zh (X15.out.below' hb)
         have HB:=zh (HB.out.trans (hb.mono HB.out.size))
         clear hb
         have e15:∀i,w13.cell? ⟨w5.heap.size,i,none⟩=(#[.slice ra s.length rc,.int .i64 K]:Array Value)[i]?:=X15.out.cell
         go_wp2_with fail
         go_ret
         exact⟨rfl,HB.out⟩
     ·rw[hcp] at HCP
      have HCQ:=zh hcp
      clear hcp
      have e1:∀i,w4.cell? ⟨w.heap.size,i,none⟩=(#[.string c.ware,.int .i64 c.limit,.int .i64 c.by_,.slice pa c.parts.length pc]:Array Value)[i]?:=X1.out.cell
      go_wp2_with fail
      (with_reducible refine(HCH.out _ P.out Q.out).mono ?_)
      rintro e w5 ⟨ra,rn,rc,k,bb,rfl,hpl,hb⟩
      clear e1
      have HPL:=zh hpl
      clear hpl
      have P:=zh (P.out.below hb)
      have Q:=zh (Q.out.below hb)
      have RS:=zh (RS.out.below hb)
      have RD:=zh (RD.out.below hb)
      have X1:=zh (X1.out.below' hb)
      have HB:=zh (HB.out.trans (hb.mono HB.out.size))
      clear hb
      go_upto_region 4 with fail
      have hb:Below w5.heap.size w5 (w5.alloc (.cells #[.slice ra rn rc,.int .i64 k] 42)):=by go_grown
      have x15:Box (w5.alloc (.cells #[.slice ra rn rc,.int .i64 k] 42)) (w5.heap.size) #[.slice ra rn rc,.int .i64 k] 42:=Box.new _ _ _
      generalize (w5.alloc (.cells #[.slice ra rn rc,.int .i64 k] 42))=w6 at *
      have P:=zh (P.out.below hb)
      have Q:=zh (Q.out.below hb)
      have RS:=zh (RS.out.below hb)
      have RD:=zh (RD.out.below hb)
      have X1:=zh (X1.out.below' hb)
      have HPL:=zh (HPL.out.below hb)
      have HB:=zh (HB.out.trans (hb.mono HB.out.size))
      clear hb
      have X15:=zh x15
      clear x15
      have e1:∀i,w6.cell? ⟨w.heap.size,i,none⟩=(#[.string c.ware,.int .i64 c.limit,.int .i64 c.by_,.slice pa c.parts.length pc]:Array Value)[i]?:=X1.out.cell
      go_wp2_with fail
      (with_reducible refine(HPF.out _ P.out Q.out).mono ?_)
      rintro e w7 ⟨oo,on,oq,rfl,⟨rfl,hoo⟩,hb⟩
      clear e1
      have OO:=zh hoo
      clear hoo
      have P:=zh (P.out.below hb)
      have Q:=zh (Q.out.below hb)
      have RS:=zh (RS.out.below hb)
      have RD:=zh (RD.out.below hb)
      have X1:=zh (X1.out.below' hb)
      have HPL:=zh (HPL.out.below hb)
      have X15:=zh (X15.out.below' hb)
      have HB:=zh (HB.out.trans (hb.mono HB.out.size))
      clear hb
      have e1:∀i,w7.cell? ⟨w.heap.size,i,none⟩=(#[.string c.ware,.int .i64 c.limit,.int .i64 c.by_,.slice pa c.parts.length pc]:Array Value)[i]?:=X1.out.cell
      go_wp2_with fail
      (with_reducible refine(HCP.out _ P.out Q.out RD.out).mono ?_)
      rintro e w8 ⟨rfl,hb⟩
      clear e1
      have P:=zh (P.out.below hb)
      have Q:=zh (Q.out.below hb)
      have RS:=zh (RS.out.below hb)
      have RD:=zh (RD.out.below hb)
      have X1:=zh (X1.out.below' hb)
      have HPL:=zh (HPL.out.below hb)
      have X15:=zh (X15.out.below' hb)
      have OO:=zh (OO.out.below hb)
      have HB:=zh (HB.out.trans (hb.mono HB.out.size))
      clear hb
      clear HCH HPF HCP
      rcases hc:cheapestOf c l x y with _|s
      ·have HCC:=zh hc
       rw[hc] at HPL
       obtain⟨rfl,rfl,rfl⟩:=HPL.out.no
       clear hc HPL
       have e15:∀i,w8.cell? ⟨w5.heap.size,i,none⟩=(#[.slice ra 0 rc,.int .i64 0]:Array Value)[i]?:=X15.out.cell
       have e1:∀i,w8.cell? ⟨w.heap.size,i,none⟩=(#[.string c.ware,.int .i64 c.limit,.int .i64 c.by_,.slice pa c.parts.length pc]:Array Value)[i]?:=X1.out.cell
       go_wp2_with fail
       (with_reducible refine(HC3.out _ _ _ _ (planCost_none HCC.out).symm P.out Q.out OO.out).mono ?_)
       rintro e w9 ⟨rfl,hb⟩
       clear e15 e1
       have P:=zh (P.out.below hb)
       have Q:=zh (Q.out.below hb)
       have RS:=zh (RS.out.below hb)
       have X1:=zh (X1.out.below' hb)
       have X15:=zh (X15.out.below' hb)
       have OO:=zh (OO.out.below hb)
       have HB:=zh (HB.out.trans (hb.mono HB.out.size))
       clear hb
       clear HC3 OO
       rcases hst:setB l.length S with _|_
       ·rw[hst,Bool.and_false,HX4.out false rfl] at HDE
        rw[hst,HX4.out false rfl] at HCO
        clear hst
        have e1:∀i,w9.cell? ⟨w.heap.size,i,none⟩=(#[.string c.ware,.int .i64 c.limit,.int .i64 c.by_,.slice pa c.parts.length pc]:Array Value)[i]?:=X1.out.cell
        go_wp2_with fail
        (with_reducible refine(HDE.out _ P.out Q.out RS.out).mono ?_)
        rintro e w10 ⟨rfl,hb⟩
        clear e1
        have P:=zh (P.out.below hb)
        have Q:=zh (Q.out.below hb)
        have RS:=zh (RS.out.below hb)
        have X1:=zh (X1.out.below' hb)
        have X15:=zh (X15.out.below' hb)
        have HB:=zh (HB.out.trans (hb.mono HB.out.size))
        clear hb
        have e1:∀i,w10.cell? ⟨w.heap.size,i,none⟩=(#[.string c.ware,.int .i64 c.limit,.int .i64 c.by_,.slice pa c.parts.length pc]:Array Value)[i]?:=X1.out.cell
        go_wp2_with fail
        (with_reducible refine(HCO.out _ P.out Q.out RS.out).mono ?_)
        rintro e w11 ⟨rfl,hb⟩
        clear e1
        have P:=zh (P.out.below hb)
        have Q:=zh (Q.out.below hb)
        have RS:=zh (RS.out.below hb)
        have X1:=zh (X1.out.below' hb)
        have X15:=zh (X15.out.below' hb)
        have HB:=zh (HB.out.trans (hb.mono HB.out.size))
        clear hb
        go_wp2_with fail
        (with_reducible refine(HSO.out _).mono ?_)
        rintro e w12 ⟨rfl,hb⟩
        have P:=zh (P.out.below hb)
        have Q:=zh (Q.out.below hb)
        have RS:=zh (RS.out.below hb)
        have X1:=zh (X1.out.below' hb)
        have X15:=zh (X15.out.below' hb)
        have HB:=zh (HB.out.trans (hb.mono HB.out.size))
        clear hb
        go_wp2_with fail
        go_ret
        exact⟨rfl,HB.out⟩
       ·have HMS:=zh (set_mem hst)
        rw[hst,HZ2.out,Bool.and_self,HX3.out true rfl] at HDE
        rw[hst,HX3.out true rfl,if_pos rfl] at HCO
        clear hst
        simp only[beq_self_eq_true,Bool.true_and] at HDE
        rcases hd:decidesB c l x y (nats S) with _|_
        ·rw[hd] at HDE
         clear hd
         generalize costOf l (nats S)=M at *
         have e1:∀i,w9.cell? ⟨w.heap.size,i,none⟩=(#[.string c.ware,.int .i64 c.limit,.int .i64 c.by_,.slice pa c.parts.length pc]:Array Value)[i]?:=X1.out.cell
         go_wp2_with fail
         (with_reducible refine(HDE.out _ P.out Q.out RS.out).mono ?_)
         rintro e w10 ⟨rfl,hb⟩
         clear e1
         have P:=zh (P.out.below hb)
         have Q:=zh (Q.out.below hb)
         have RS:=zh (RS.out.below hb)
         have X1:=zh (X1.out.below' hb)
         have X15:=zh (X15.out.below' hb)
         have HB:=zh (HB.out.trans (hb.mono HB.out.size))
         clear hb
         have e1:∀i,w10.cell? ⟨w.heap.size,i,none⟩=(#[.string c.ware,.int .i64 c.limit,.int .i64 c.by_,.slice pa c.parts.length pc]:Array Value)[i]?:=X1.out.cell
         go_wp2_with fail
         (with_reducible refine(HCO.out _ P.out Q.out RS.out).mono ?_)
         rintro e w11 ⟨rfl,hb⟩
         clear e1
         have P:=zh (P.out.below hb)
         have Q:=zh (Q.out.below hb)
         have RS:=zh (RS.out.below hb)
         have X1:=zh (X1.out.below' hb)
         have X15:=zh (X15.out.below' hb)
         have HB:=zh (HB.out.trans (hb.mono HB.out.size))
         clear hb
         go_wp2_with fail
         (with_reducible refine(HSO.out _).mono ?_)
         rintro e w12 ⟨rfl,hb⟩
         have P:=zh (P.out.below hb)
         have Q:=zh (Q.out.below hb)
         have RS:=zh (RS.out.below hb)
         have X1:=zh (X1.out.below' hb)
         have X15:=zh (X15.out.below' hb)
         have HB:=zh (HB.out.trans (hb.mono HB.out.size))
         clear hb
         go_wp2_with fail
         go_ret
         exact⟨rfl,HB.out⟩
        ·rw[hd] at HDE
         have:=cheapest_none HCC.out _ HMS.out
         rw[hd] at this
         cases this
      ·have HCC:=zh hc
       rw[hc] at HPL
       obtain⟨rfl,rfl,rfl,hi⟩:=HPL.out.yes
       have RI:=zh hi
       clear hc HPL hi
       obtain⟨hcs1,hcs2,_⟩:=cheapest_some HCC.out
       obtain⟨K,hK⟩:=zx (costOf l s)
       rw[hK]
       rw[hK] at X15
       have HKE:=zh hK
       have hnK:n≤K:=by rw[←hK];exact HLE.out s hcs1 hcs2 HCQ.out
       have HM1:=zh hcs1
       have HM2:=zh hcs2
       clear hcs1 hcs2 hK
       have e15:∀i,w8.cell? ⟨w5.heap.size,i,none⟩=(#[.slice ra s.length rc,.int .i64 K]:Array Value)[i]?:=X15.out.cell
       have e1:∀i,w8.cell? ⟨w.heap.size,i,none⟩=(#[.string c.ware,.int .i64 c.limit,.int .i64 c.by_,.slice pa c.parts.length pc]:Array Value)[i]?:=X1.out.cell
       go_wp2_with fail
       (with_reducible refine(HC3.out _ _ _ _ (by rw[planCost_some HCC.out,HKE.out]) P.out Q.out OO.out).mono ?_)
       rintro e w9 ⟨rfl,hb⟩
       clear e15 e1
       have P:=zh (P.out.below hb)
       have Q:=zh (Q.out.below hb)
       have RS:=zh (RS.out.below hb)
       have X1:=zh (X1.out.below' hb)
       have X15:=zh (X15.out.below' hb)
       have OO:=zh (OO.out.below hb)
       have RI:=zh (RI.out.below hb)
       have HB:=zh (HB.out.trans (hb.mono HB.out.size))
       clear hb
       clear HC3 OO
       have HD3:=zh (fun ma mc W h1 h2 h3=>HD3.out s ma mc W HM1.out h1 h2 h3)
       rw[HM2.out] at HD3
       have e15:∀i,w9.cell? ⟨w5.heap.size,i,none⟩=(#[.slice ra s.length rc,.int .i64 K]:Array Value)[i]?:=X15.out.cell
       have e1:∀i,w9.cell? ⟨w.heap.size,i,none⟩=(#[.string c.ware,.int .i64 c.limit,.int .i64 c.by_,.slice pa c.parts.length pc]:Array Value)[i]?:=X1.out.cell
       go_wp2_with fail
       (with_reducible refine(HD3.out _ _ _ P.out Q.out RI.out).mono ?_)
       rintro e w10 ⟨rfl,hb⟩
       clear e15 e1
       have P:=zh (P.out.below hb)
       have Q:=zh (Q.out.below hb)
       have RS:=zh (RS.out.below hb)
       have X1:=zh (X1.out.below' hb)
       have X15:=zh (X15.out.below' hb)
       have RI:=zh (RI.out.below hb)
       have HB:=zh (HB.out.trans (hb.mono HB.out.size))
       clear hb
       clear RI
       have e15:∀i,w10.cell? ⟨w5.heap.size,i,none⟩=(#[.slice ra s.length rc,.int .i64 K]:Array Value)[i]?:=X15.out.cell
       go_upto_region 20 with fail
       clear e15
       rcases hst:setB l.length S with _|_
       ·rw[hst,Bool.and_false,HX4.out false rfl] at HDE
        rw[hst,HX4.out false rfl] at HCO
        clear hst
        have e1:∀i,w10.cell? ⟨w.heap.size,i,none⟩=(#[.string c.ware,.int .i64 c.limit,.int .i64 c.by_,.slice pa c.parts.length pc]:Array Value)[i]?:=X1.out.cell
        go_wp2_with fail
        (with_reducible refine(HDE.out _ P.out Q.out RS.out).mono ?_)
        rintro e w11 ⟨rfl,hb⟩
        clear e1
        have P:=zh (P.out.below hb)
        have Q:=zh (Q.out.below hb)
        have RS:=zh (RS.out.below hb)
        have X1:=zh (X1.out.below' hb)
        have X15:=zh (X15.out.below' hb)
        have HB:=zh (HB.out.trans (hb.mono HB.out.size))
        clear hb
        have e1:∀i,w11.cell? ⟨w.heap.size,i,none⟩=(#[.string c.ware,.int .i64 c.limit,.int .i64 c.by_,.slice pa c.parts.length pc]:Array Value)[i]?:=X1.out.cell
        go_wp2_with fail
        (with_reducible refine(HCO.out _ P.out Q.out RS.out).mono ?_)
        rintro e w12 ⟨rfl,hb⟩
        clear e1
        have P:=zh (P.out.below hb)
        have Q:=zh (Q.out.below hb)
        have RS:=zh (RS.out.below hb)
        have X1:=zh (X1.out.below' hb)
        have X15:=zh (X15.out.below' hb)
        have HB:=zh (HB.out.trans (hb.mono HB.out.size))
        clear hb
        go_wp2_with fail
        (with_reducible refine(HSO.out _).mono ?_)
        rintro e w13 ⟨rfl,hb⟩
        have P:=zh (P.out.below hb)
        have Q:=zh (Q.out.below hb)
        have RS:=zh (RS.out.below hb)
        have X1:=zh (X1.out.below' hb)
        have X15:=zh (X15.out.below' hb)
        have HB:=zh (HB.out.trans (hb.mono HB.out.size))
        clear hb
        go_wp2_with fail
        go_ret
        exact⟨rfl,HB.out⟩
       ·have HMS:=zh (set_mem hst)
        rw[hst,HZ2.out,Bool.and_self,HX3.out true rfl] at HDE
        rw[hst,HX3.out true rfl,if_pos rfl] at HCO
        clear hst
        simp only[beq_self_eq_true,Bool.true_and] at HDE
        rcases hd:decidesB c l x y (nats S) with _|_
        ·rw[hd] at HDE
         clear hd
         generalize costOf l (nats S)=M at *
         have e1:∀i,w10.cell? ⟨w.heap.size,i,none⟩=(#[.string c.ware,.int .i64 c.limit,.int .i64 c.by_,.slice pa c.parts.length pc]:Array Value)[i]?:=X1.out.cell
         go_wp2_with fail
         (with_reducible refine(HDE.out _ P.out Q.out RS.out).mono ?_)
         rintro e w11 ⟨rfl,hb⟩
         clear e1
         have P:=zh (P.out.below hb)
         have Q:=zh (Q.out.below hb)
         have RS:=zh (RS.out.below hb)
         have X1:=zh (X1.out.below' hb)
         have X15:=zh (X15.out.below' hb)
         have HB:=zh (HB.out.trans (hb.mono HB.out.size))
         clear hb
         have e1:∀i,w11.cell? ⟨w.heap.size,i,none⟩=(#[.string c.ware,.int .i64 c.limit,.int .i64 c.by_,.slice pa c.parts.length pc]:Array Value)[i]?:=X1.out.cell
         go_wp2_with fail
         (with_reducible refine(HCO.out _ P.out Q.out RS.out).mono ?_)
         rintro e w12 ⟨rfl,hb⟩
         clear e1
         have P:=zh (P.out.below hb)
         have Q:=zh (Q.out.below hb)
         have RS:=zh (RS.out.below hb)
         have X1:=zh (X1.out.below' hb)
         have X15:=zh (X15.out.below' hb)
         have HB:=zh (HB.out.trans (hb.mono HB.out.size))
         clear hb
         go_wp2_with fail
         (with_reducible refine(HSO.out _).mono ?_)
         rintro e w13 ⟨rfl,hb⟩
         have P:=zh (P.out.below hb)
         have Q:=zh (Q.out.below hb)
         have RS:=zh (RS.out.below hb)
         have X1:=zh (X1.out.below' hb)
         have X15:=zh (X15.out.below' hb)
         have HB:=zh (HB.out.trans (hb.mono HB.out.size))
         clear hb
         go_wp2_with fail
         go_ret
         exact⟨rfl,HB.out⟩
        ·rw[hd] at HDE
         have hKM:K≤costOf l (nats S):=by rw[←HKE.out];exact(cheapest_some HCC.out).2.2 _ HMS.out hd
         have hnM:=HLE.out _ HMS.out hd HCQ.out
         clear hd
         generalize costOf l (nats S)=M at *
         have e1:∀i,w10.cell? ⟨w.heap.size,i,none⟩=(#[.string c.ware,.int .i64 c.limit,.int .i64 c.by_,.slice pa c.parts.length pc]:Array Value)[i]?:=X1.out.cell
         go_wp2_with fail
         (with_reducible refine(HDE.out _ P.out Q.out RS.out).mono ?_)
         rintro e w11 ⟨rfl,hb⟩
         clear e1
         have P:=zh (P.out.below hb)
         have Q:=zh (Q.out.below hb)
         have RS:=zh (RS.out.below hb)
         have X1:=zh (X1.out.below' hb)
         have X15:=zh (X15.out.below' hb)
         have HB:=zh (HB.out.trans (hb.mono HB.out.size))
         clear hb
         have e1:∀i,w11.cell? ⟨w.heap.size,i,none⟩=(#[.string c.ware,.int .i64 c.limit,.int .i64 c.by_,.slice pa c.parts.length pc]:Array Value)[i]?:=X1.out.cell
         go_wp2_with fail
         (with_reducible refine(HCO.out _ P.out Q.out RS.out).mono ?_)
         rintro e w12 ⟨rfl,hb⟩
         clear e1
         have P:=zh (P.out.below hb)
         have Q:=zh (Q.out.below hb)
         have RS:=zh (RS.out.below hb)
         have X1:=zh (X1.out.below' hb)
         have X15:=zh (X15.out.below' hb)
         have HB:=zh (HB.out.trans (hb.mono HB.out.size))
         clear hb
         go_wp2_with fail
         (with_reducible refine(HSO.out _).mono ?_)
         rintro e w13 ⟨rfl,hb⟩
         have P:=zh (P.out.below hb)
         have Q:=zh (Q.out.below hb)
         have RS:=zh (RS.out.below hb)
         have X1:=zh (X1.out.below' hb)
         have X15:=zh (X15.out.below' hb)
         have HB:=zh (HB.out.trans (hb.mono HB.out.size))
         clear hb
         have e15:∀i,w13.cell? ⟨w5.heap.size,i,none⟩=(#[.slice ra s.length rc,.int .i64 K]:Array Value)[i]?:=X15.out.cell
         go_wp2_with fail
         go_ret
         exact⟨rfl,HB.out⟩
    ·obtain⟨X,hX⟩:=zx (xErr c l (twoB c.parts.length a b))
     rw[hX] at h0 HCH HPF HCP
     have hXb:(X==0)=false:=by simpa using h0
     have hXn:(X != 0)=true:=by simpa using h0
     simp only[hXb,Bool.false_and,if_neg h0] at HCH HCP
     clear h0 hX hXb HZ HDE HD2 HCO HC2
     have e1:∀i,w4.cell? ⟨w.heap.size,i,none⟩=(#[.string c.ware,.int .i64 c.limit,.int .i64 c.by_,.slice pa c.parts.length pc]:Array Value)[i]?:=X1.out.cell
     go_wp2_with fail
     (with_reducible refine(HCH.out _ P.out Q.out).mono ?_)
     rintro e w5 ⟨ra,rn,rc,k,bb,rfl,hpl,hb⟩
     clear e1
     have P:=zh (P.out.below hb)
     have Q:=zh (Q.out.below hb)
     have RS:=zh (RS.out.below hb)
     have RD:=zh (RD.out.below hb)
     have X1:=zh (X1.out.below' hb)
     have HB:=zh (HB.out.trans (hb.mono HB.out.size))
     clear hb
     obtain⟨rfl,rfl,rfl⟩:=hpl.no
     clear hpl
     go_upto_region 4 with fail
     have hb:Below w5.heap.size w5 (w5.alloc (.cells #[.slice ra 0 rc,.int .i64 0] 42)):=by go_grown
     have x15:Box (w5.alloc (.cells #[.slice ra 0 rc,.int .i64 0] 42)) (w5.heap.size) #[.slice ra 0 rc,.int .i64 0] 42:=Box.new _ _ _
     generalize (w5.alloc (.cells #[.slice ra 0 rc,.int .i64 0] 42))=w6 at *
     have P:=zh (P.out.below hb)
     have Q:=zh (Q.out.below hb)
     have RS:=zh (RS.out.below hb)
     have RD:=zh (RD.out.below hb)
     have X1:=zh (X1.out.below' hb)
     have HB:=zh (HB.out.trans (hb.mono HB.out.size))
     clear hb
     have X15:=zh x15
     clear x15
     have e1:∀i,w6.cell? ⟨w.heap.size,i,none⟩=(#[.string c.ware,.int .i64 c.limit,.int .i64 c.by_,.slice pa c.parts.length pc]:Array Value)[i]?:=X1.out.cell
     go_wp2_with fail
     (with_reducible refine(HPF.out _ P.out Q.out).mono ?_)
     rintro e w7 ⟨oo,on,oq,rfl,hoo,hon,hb⟩
     clear e1
     have P:=zh (P.out.below hb)
     have Q:=zh (Q.out.below hb)
     have RS:=zh (RS.out.below hb)
     have RD:=zh (RD.out.below hb)
     have X1:=zh (X1.out.below' hb)
     have X15:=zh (X15.out.below' hb)
     have HB:=zh (HB.out.trans (hb.mono HB.out.size))
     clear hb
     clear hoo hon
     have e1:∀i,w7.cell? ⟨w.heap.size,i,none⟩=(#[.string c.ware,.int .i64 c.limit,.int .i64 c.by_,.slice pa c.parts.length pc]:Array Value)[i]?:=X1.out.cell
     go_wp2_with fail
     (with_reducible refine(HCP.out _ P.out Q.out RD.out).mono ?_)
     rintro e w8 ⟨rfl,hb⟩
     clear e1
     have P:=zh (P.out.below hb)
     have Q:=zh (Q.out.below hb)
     have RS:=zh (RS.out.below hb)
     have RD:=zh (RD.out.below hb)
     have X1:=zh (X1.out.below' hb)
     have X15:=zh (X15.out.below' hb)
     have HB:=zh (HB.out.trans (hb.mono HB.out.size))
     clear hb
     go_wp2_with fail
     (with_reducible refine(HSO.out _).mono ?_)
     rintro e w9 ⟨rfl,hb⟩
     have P:=zh (P.out.below hb)
     have Q:=zh (Q.out.below hb)
     have RS:=zh (RS.out.below hb)
     have RD:=zh (RD.out.below hb)
     have X1:=zh (X1.out.below' hb)
     have X15:=zh (X15.out.below' hb)
     have HB:=zh (HB.out.trans (hb.mono HB.out.size))
     clear hb
     go_wp2_with fail
     go_ret
     exact⟨rfl,HB.out⟩
end Go.Proofs.YtjgldeeianionaaGreat
namespace Go.Proofs.YtjgldeeianionaaGreat.ProbeLeastEnd
open Go.ChangeShapes Go.WideShapes Go.ChangeAt Go.RowKit
theorem own:ownKnob Tryz.prog.godebug=none:=zK
theorem lifted (os:Os)(started:os.Started)(H:Type)(enc:TypeId×Value→H):
 ReturnsInHanded {} Tryz.checked os 11 .any (Rows.probeLeastSpec.pre6 enc Tryz.prog Tryz.f11 Rows.probeLeastRow.domain false) (Rows.probeLeastSpec.post enc Tryz.prog Tryz.f11 false true false false):=by
 refine returnsInHanded_of_change (C:=Tryz.checked) own started zK Tryz.func11
  (ChangeSpec.witness6 (enc:=enc) (C:=Tryz.checked) false ⟨#[],#[.agg #[.string ⟨#[]⟩,.int .i64 0,.int .i64 0,.slice none 0 0],.slice none 0 0,.int .i64 0,.int .i64 0,.slice none 0 0,.int .i64 0,.slice none 0 0],[]⟩ 8 zK zK zK zK) ?_
 intro W base args ds gs before hval0 hW hcnd _
 have hval:∀(j:Nat) t v,Tryz.f11.params[j]?=some t→args[j]?=some v→Value.okWide Tryz.prog W .any base t v:=hval0
 have hW':=hW
 obtain⟨p,q,hA0,hV,rfl,hfz,hnd⟩:=hW
 have hA:DataW.TrodAll enc Tryz.prog W 0 (fun _=>true) true Tryz.f11.params.toList args.toList ds p:=hA0
 rw[Tryz.params11] at hA hval
 obtain⟨v0,vs0,d0,ds0,p0,q0,hargs,rfl,rfl,h0,r0⟩:=trodAll_cons hA
 obtain⟨v1,vs1,d1,ds1,p1,q1,rfl,rfl,rfl,h1,r1⟩:=trodAll_cons r0
 obtain⟨v2,vs2,d2,ds2,p2,q2,rfl,rfl,rfl,h2,r2⟩:=trodAll_cons r1
 obtain⟨v3,vs3,d3,ds3,p3,q3,rfl,rfl,rfl,h3,r3⟩:=trodAll_cons r2
 obtain⟨v4,vs4,d4,ds4,p4,q4,rfl,rfl,rfl,h4,r4⟩:=trodAll_cons r3
 obtain⟨v5,vs5,d5,ds5,p5,q5,rfl,rfl,rfl,h5,r5⟩:=trodAll_cons r4
 obtain⟨v6,vs6,d6,ds6,p6,q6,rfl,rfl,rfl,h6,r6⟩:=trodAll_cons r5
 obtain⟨rfl,rfl,rfl⟩:=trodAll_nil r6
 obtain rfl:args = #[v0,v1,v2,v3,v4,v5,v6]:=by cases args;simp_all
 obtain⟨rfl,rfl⟩:=trodVars_none hV
 obtain⟨c0,pa0,pc0,rfl,hp0,hpc0,hfit0,hlw0⟩:=case_of (hval 0 _ v0 rfl rfl) h0
 obtain⟨a1,l1,k1,rfl,hi1,hk1,hm1⟩:=prbs_arg (hval 1 _ v1 rfl rfl) h1
 obtain⟨a2,rfl,rfl,rfl,w2⟩:=open_int Tryz.underlying3 (hval 2 _ v2 rfl rfl) h2
 obtain⟨a3,rfl,rfl,rfl,w3⟩:=open_int Tryz.underlying3 (hval 3 _ v3 rfl rfl) h3
 obtain⟨a4,l4,k4,rfl,hi4,hk4,hm4⟩:=ints_arg (hval 4 _ v4 rfl rfl) h4
 obtain⟨a5,rfl,rfl,rfl,w5⟩:=open_int Tryz.underlying3 (hval 5 _ v5 rfl rfl) h5
 obtain⟨a6,l6,k6,rfl,hi6,hk6,hm6,hs6⟩:=opns_arg (hval 6 _ v6 rfl rfl) h6
 clear hA0 hval0
 refine(probeLeast_any c0 hfit0 pa0 pc0 hpc0 a1 l1 k1 hk1 hm1 a2 w2 a3 w3 a4 l4 k4 hk4 hm4 a5 w5 a6 l6 k6 hk6 hm6 hs6 W hp0 hi1 hi4 hi6).mono fun e W' ⟨he,hb⟩=>?_
 subst he
 exact⟨_,rfl,law_post rfl rfl (of_decide_eq_true zK) hW' rfl rfl rfl hb⟩
theorem over:Rows.probeLeastRow.holds Tryz.pinned (OpenSpec.ofChange Rows.probeLeastSpec):=
 OpenClaim.holds_of_wide 11 Tryz.f11 rfl rfl rfl rfl rfl rfl rfl ⟨rfl,rfl,rfl,rfl,rfl⟩ rfl rfl rfl rfl rfl zK Tryz.func11 zK
  (of_decide_eq_true zK) (by unfold Func.isWrapper;first|(rw[if_pos (by decide +kernel)];kernel_rfl)|(rw[if_neg (by decide +kernel)];exact⟨rfl,rfl⟩))
  (fun os started H enc _=>lifted os started H enc)
theorem proved:Rows.ProbeLeastSaid:=
 over
#print axioms proved
end Go.Proofs.YtjgldeeianionaaGreat.ProbeLeastEnd
