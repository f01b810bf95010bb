/- ProbeLists: the probes, steps, findings and costs are the reference's: the law returns true for every input, and its arguments read as before. No condition. -/
import Derived.ProofKit
import Derived.JoinedCond
import Derived.Test.YtjgldeeianionaaGreatS31
import Derived.Test.YtjgldeeianionaaGreatS40
import Derived.Test.YtjgldeeianionaaGreatS49
import Derived.Test.YtjgldeeianionaaGreatS01
set_option maxHeartbeats 4000000
set_option maxRecDepth 100000
set_option linter.unusedSimpArgs false
set_option linter.unusedVariables false
namespace Go.Proofs.YtjgldeeianionaaGreat
open Go.RowKit
attribute [local go_sem] Oper.semAt_some
theorem probeLists_any (c:Cs)(hf:c.Fit)(pa:Option Addr)(pc:Nat)(_:c.parts.length≤pc)(qa:Option Addr)(l:List Prb)(qc:Nat)(hlk:l.length≤qc)(hlm:qc≤maxLen)(sa:Option Addr)(S:List Int)(sc:Nat)(hsk:S.length≤sc)(hsm:sc≤maxLen)(p:Int)(_:(Lit.int .i64 p).wf=true)(w:World)(hp:PartsAt w pa c.parts)(hq:PrbsAt w qa l)(hS:Ints w sa S):
 Calls Tryz.prog 12 #[.agg #[.string c.ware,.int .i64 c.limit,.int .i64 c.by_,.slice pa c.parts.length pc],.slice qa l.length qc,.slice sa S.length sc,.int .i64 p] w fun e w'=>e = .returned (.bool true)∧Below w.heap.size w w':=by
 obtain⟨w1,hw1,hB1,b1⟩:=box_case9 w c pa pc
 have HFW:=zh (few9_any c hf pa pc l (Nat.le_trans hlk hlm) qa qc w1 (hp.below hB1) (hq.below hB1))
 have HW:=zh hw1
 have P:=zh (hp.below hB1)
 have Q:=zh (hq.below hB1)
 have RS:=zh (hS.below hB1)
 have X1:=zh b1
 have HB:=zh hB1
 have HSO:=zh sounds_any
 clear hw1 hB1 b1 hp hq hS
 have e1:∀i,w1.cell? ⟨w.heap.size,i,none⟩=(#[.string c.ware,.int .i64 c.limit,.int .i64 c.by_,.slice pa c.parts.length pc]:Array Value)[i]?:=X1.out.cell
 go_enter Tryz.func12,Tryz.ntmps12
 go_upto_region 1 with fail
 simp only[HW.out]
 go_wp2_with fail
 (with_reducible refine HFW.out.mono ?_)
 rintro e w2 ⟨⟨fb,rfl,hfb⟩,hb⟩
 clear e1
 have P:=zh (P.out.below hb)
 have Q:=zh (Q.out.below hb)
 have RS:=zh (RS.out.below hb)
 have X1:=zh (X1.out.below' hb)
 have HB:=zh (HB.out.trans (hb.mono HB.out.size))
 clear hb HFW hf
 cases fb
 all_goals have HSH:=zh (fun W (a:Option Addr) (cap:Nat) (h:Row W a [.slice sa S.length sc])=>short_one (w:=W) (a:=a) (cap:=cap) h (Nat.le_trans hsk hsm))
 ·clear hfb
  go_wp2_with fail
  (with_reducible refine(HSO.out _).mono ?_)
  rintro e w3 ⟨rfl,hb⟩
  have P:=zh (P.out.below hb)
  have Q:=zh (Q.out.below hb)
  have RS:=zh (RS.out.below hb)
  have X1:=zh (X1.out.below' hb)
  have HB:=zh (HB.out.trans (hb.mono HB.out.size))
  clear hb
  go_wp2_with fail
  go_ret
  exact⟨rfl,HB.out⟩
 ·have hsc:=(hfb rfl).1
  clear hfb
  rcases hsh:decide (S.length≤20) with _|_
  ·rw[hsh] at HSH
   clear hsh
   have hbq:Below w2.heap.size w2 (w2.alloc (.cells #[.slice sa S.length sc] 26)):=by go_grown
   go_wp2_with fail
   (with_reducible refine(HSH.out _ _ _ (lit_row9 (Box.new _ _ _))).mono ?_)
   rintro e w3 ⟨rfl,hb0⟩
   have hb:=hbq.trans (hb0.mono hbq.size)
   clear hbq hb0
   have P:=zh (P.out.below hb)
   have Q:=zh (Q.out.below hb)
   have RS:=zh (RS.out.below hb)
   have X1:=zh (X1.out.below' hb)
   have HB:=zh (HB.out.trans (hb.mono HB.out.size))
   clear hb
   go_wp2_with fail
   (with_reducible refine(HSO.out _).mono ?_)
   rintro e w4 ⟨rfl,hb⟩
   have P:=zh (P.out.below hb)
   have Q:=zh (Q.out.below hb)
   have RS:=zh (RS.out.below hb)
   have X1:=zh (X1.out.below' hb)
   have HB:=zh (HB.out.trans (hb.mono HB.out.size))
   clear hb
   go_wp2_with fail
   go_ret
   exact⟨rfl,HB.out⟩
  ·rw[hsh] at HSH
   have hs20:S.length≤20:=of_decide_eq_true hsh
   clear hsh
   have HT1:=zh (fun W h1 h2=>(stepsX_any c hsc pa pc l qa qc p W h1 h2).mono fun e w' h=>steps_tup h)
   have HT2:=zh (fun W h1 h2=>(stepsXR9_any c hsc pa pc l qa qc p W h1 h2).mono fun e w' h=>steps_tup h)
   have HO1:=zh (fun W h1 h2 h3=>(outcomesX_any c hsc pa pc l qa qc sa S sc W h1 h2 (by omega) h3).mono fun e w' h=>outs_tup h)
   have HO2:=zh (fun W h1 h2 h3=>(outcomesXR9_any c hsc pa pc l qa qc sa S sc (by omega) W h1 h2 h3).mono fun e w' h=>outs_tup h)
   have HC1:=zh (fun W h1 h2 h3=>cost_tup (c:=c) (l:=l) (w:=W) (pa:=pa) (pc:=pc) (qa:=qa) (qc:=qc) hsc sa S sc (by omega) h1 h2 h3)
   have HC2:=zh (fun W h1 h2 h3=>costXR9_any c hsc pa pc l qa qc sa S sc (by omega) W h1 h2 h3)
   have HK1:=zh (fun W h1 h2=>checkProbes_any c hsc pa pc l qa qc W h1 h2)
   have HK2:=zh (fun W h1 h2=>checkProbesR_any c hsc pa pc l qa qc W h1 h2)
   have HF1:=zh (steps_few (c:=c) (l:=l) (p:=p) (ok:=setB l.length [p]))
   have HF2:=zh (outs_few (c:=c) (l:=l) (S:=S))
   have hbq:Below w2.heap.size w2 (w2.alloc (.cells #[.slice sa S.length sc] 26)):=by go_grown
   go_wp2_with fail
   (with_reducible refine(HSH.out _ _ _ (lit_row9 (Box.new _ _ _))).mono ?_)
   rintro e w3 ⟨rfl,hb0⟩
   have hb:=hbq.trans (hb0.mono hbq.size)
   clear hbq hb0
   have P:=zh (P.out.below hb)
   have Q:=zh (Q.out.below hb)
   have RS:=zh (RS.out.below hb)
   have X1:=zh (X1.out.below' hb)
   have HB:=zh (HB.out.trans (hb.mono HB.out.size))
   clear hb
   clear HSH hsc
   generalize (if xErr c l (setB l.length [p])=0 then stepsL c l p.toNat else [])=M1 at *
   generalize (if xErr c l (setB l.length S)=0 then outsOf (cntsOf c l (nats S)) else [])=M2 at *
   generalize (if xErr c l (setB l.length S)=0 then costOf l (nats S) else 0)=M3 at *
   generalize xErr c l (setB l.length [p])=E1 at *
   generalize xErr c l (setB l.length S)=E2 at *
   generalize probesErr c l=E3 at *
   have e1:∀i,w3.cell? ⟨w.heap.size,i,none⟩=(#[.string c.ware,.int .i64 c.limit,.int .i64 c.by_,.slice pa c.parts.length pc]:Array Value)[i]?:=X1.out.cell
   go_wp2_with fail
   (with_reducible refine(HT1.out _ P.out Q.out).mono ?_)
   rintro e w4 ⟨a1,n1,k1,rfl,rfl,hr,hb⟩
   clear e1
   have R1:=zh hr
   clear hr
   have P:=zh (P.out.below hb)
   have Q:=zh (Q.out.below hb)
   have RS:=zh (RS.out.below hb)
   have X1:=zh (X1.out.below' hb)
   have HB:=zh (HB.out.trans (hb.mono HB.out.size))
   clear hb
   have e1:∀i,w4.cell? ⟨w.heap.size,i,none⟩=(#[.string c.ware,.int .i64 c.limit,.int .i64 c.by_,.slice pa c.parts.length pc]:Array Value)[i]?:=X1.out.cell
   go_wp2_with fail
   (with_reducible refine(HT2.out _ P.out Q.out).mono ?_)
   rintro e w5 ⟨a2,n2,k2,rfl,rfl,hr,hb⟩
   clear e1
   have R2:=zh hr
   clear hr
   have P:=zh (P.out.below hb)
   have Q:=zh (Q.out.below hb)
   have RS:=zh (RS.out.below hb)
   have X1:=zh (X1.out.below' hb)
   have R1:=zh (R1.out.below hb)
   have HB:=zh (HB.out.trans (hb.mono HB.out.size))
   clear hb
   have e1:∀i,w5.cell? ⟨w.heap.size,i,none⟩=(#[.string c.ware,.int .i64 c.limit,.int .i64 c.by_,.slice pa c.parts.length pc]:Array Value)[i]?:=X1.out.cell
   go_wp2_with fail
   (with_reducible refine(HO1.out _ P.out Q.out RS.out).mono ?_)
   rintro e w6 ⟨a3,n3,k3,rfl,rfl,hr,hb⟩
   clear e1
   have R3:=zh hr
   clear hr
   have P:=zh (P.out.below hb)
   have Q:=zh (Q.out.below hb)
   have RS:=zh (RS.out.below hb)
   have X1:=zh (X1.out.below' hb)
   have R1:=zh (R1.out.below hb)
   have R2:=zh (R2.out.below hb)
   have HB:=zh (HB.out.trans (hb.mono HB.out.size))
   clear hb
   have e1:∀i,w6.cell? ⟨w.heap.size,i,none⟩=(#[.string c.ware,.int .i64 c.limit,.int .i64 c.by_,.slice pa c.parts.length pc]:Array Value)[i]?:=X1.out.cell
   go_wp2_with fail
   (with_reducible refine(HO2.out _ P.out Q.out RS.out).mono ?_)
   rintro e w7 ⟨a4,n4,k4,rfl,rfl,hr,hb⟩
   clear e1
   have R4:=zh hr
   clear hr
   have P:=zh (P.out.below hb)
   have Q:=zh (Q.out.below hb)
   have RS:=zh (RS.out.below hb)
   have X1:=zh (X1.out.below' hb)
   have R1:=zh (R1.out.below hb)
   have R2:=zh (R2.out.below hb)
   have R3:=zh (R3.out.below hb)
   have HB:=zh (HB.out.trans (hb.mono HB.out.size))
   clear hb
   have e1:∀i,w7.cell? ⟨w.heap.size,i,none⟩=(#[.string c.ware,.int .i64 c.limit,.int .i64 c.by_,.slice pa c.parts.length pc]:Array Value)[i]?:=X1.out.cell
   go_wp2_with fail
   (with_reducible refine(HC1.out _ P.out Q.out RS.out).mono ?_)
   rintro e w8 ⟨rfl,hb⟩
   clear e1
   have P:=zh (P.out.below hb)
   have Q:=zh (Q.out.below hb)
   have RS:=zh (RS.out.below hb)
   have X1:=zh (X1.out.below' hb)
   have R1:=zh (R1.out.below hb)
   have R2:=zh (R2.out.below hb)
   have R3:=zh (R3.out.below hb)
   have R4:=zh (R4.out.below hb)
   have HB:=zh (HB.out.trans (hb.mono HB.out.size))
   clear hb
   have e1:∀i,w8.cell? ⟨w.heap.size,i,none⟩=(#[.string c.ware,.int .i64 c.limit,.int .i64 c.by_,.slice pa c.parts.length pc]:Array Value)[i]?:=X1.out.cell
   go_wp2_with fail
   (with_reducible refine(HC2.out _ P.out Q.out RS.out).mono ?_)
   rintro e w9 ⟨rfl,hb⟩
   clear e1
   have P:=zh (P.out.below hb)
   have Q:=zh (Q.out.below hb)
   have RS:=zh (RS.out.below hb)
   have X1:=zh (X1.out.below' hb)
   have R1:=zh (R1.out.below hb)
   have R2:=zh (R2.out.below hb)
   have R3:=zh (R3.out.below hb)
   have R4:=zh (R4.out.below hb)
   have HB:=zh (HB.out.trans (hb.mono HB.out.size))
   clear hb
   clear HT1 HT2 HO1 HO2 HC1 HC2
   go_upto_region 9 with fail
   have K0:Hid (∀A,Below w9.heap.size w9 A→∀i,A.cell? ⟨w.heap.size,i,none⟩=(#[.string c.ware,.int .i64 c.limit,.int .i64 c.by_,.slice pa c.parts.length pc]:Array Value)[i]?):=zh fun A hA=>(X1.out.below' hA).cell
   refine wp_region_L (fun A=>Below w9.heap.size w9 A) 40 zK ?_
   have hSS:Below w9.heap.size w9 w9.drew:=(Below.refl _ w9).drew
   generalize w9.drew=v0 at *
   refine anyL_call (i:=0) (f:=15) (args:=#[]) rfl zK (by rfl) (by go_simp) (HSO.out _) ?_
   rintro e v1 ⟨rfl,hb⟩
   have hSS:=hSS.trans (hb.mono hSS.size)
   refine .inl ⟨_,rfl,.inr hSS,?_⟩
   try simp only[pA,pN,sA,sB]
   refine tkL 1 ?_ rfl ?_ hSS ?_
   rotate_left
   ·(intro W hW;have q0:=K0.out W hW;go_simp;try with_reducible rfl)
   try simp only[pA,pN,sA,sB]
   refine tkL 2 ?_ rfl ?_ hSS ?_
   rotate_left
   ·(intro W hW;have q0:=K0.out W hW;go_simp;try with_reducible rfl)
   try simp only[pA,pN,sA,sB]
   refine tkL 3 ?_ rfl ?_ hSS ?_
   rotate_left
   ·(intro W hW;have q0:=K0.out W hW;go_simp;try with_reducible rfl)
   try simp only[pA,pN,sA,sB]
   refine tkL 5 ?_ rfl ?_ hSS ?_
   rotate_left
   ·(intro W hW;have q0:=K0.out W hW;go_simp;try with_reducible rfl)
   try simp only[pA,pN,sA,sB]
   refine tkL 6 ?_ rfl ?_ hSS ?_
   rotate_left
   ·(intro W hW;have q0:=K0.out W hW;go_simp;try with_reducible rfl)
   try simp only[pA,pN,sA,sB]
   refine anyL_call (i:=4) (f:=50) (args:=#[.agg #[.string c.ware,.int .i64 c.limit,.int .i64 c.by_,.slice pa c.parts.length pc],.slice qa l.length qc]) rfl zK (by rfl) (by go_simp) (HK1.out _ (P.out.below hSS) (Q.out.below hSS)) ?_
   rintro e v2 ⟨rfl,hb⟩
   have hSS:=hSS.trans (hb.mono hSS.size)
   refine .inl ⟨_,rfl,.inr hSS,?_⟩
   try simp only[pA,pN,sA,sB]
   refine anyL_call (i:=7) (f:=51) (args:=#[.agg #[.string c.ware,.int .i64 c.limit,.int .i64 c.by_,.slice pa c.parts.length pc],.slice qa l.length qc]) rfl zK (by rfl) (by go_simp) (HK2.out _ (P.out.below hSS) (Q.out.below hSS)) ?_
   rintro e v3 ⟨rfl,hb⟩
   have hSS:=hSS.trans (hb.mono hSS.size)
   refine .inl ⟨_,rfl,.inr hSS,?_⟩
   try simp only[pA,pN,sA,sB]
   have t1:(E3==E3)=true:=by simp
   have t2:(E1==E1)=true:=by simp
   have t3:(E2==E2)=true:=by simp
   have t4:(M3==M3)=true:=by simp
   refine tkL 8 ?_ rfl ?_ hSS ?_
   rotate_left
   ·(intro W hW;have q0:=K0.out W hW;go_simp;try with_reducible rfl)
   try simp only[pA,pN,sA,sB]
   refine tkL 9 ?_ rfl ?_ hSS ?_
   rotate_left
   ·(intro W hW;have q0:=K0.out W hW;go_simp;try with_reducible rfl)
   try simp only[pA,pN,sA,sB]
   refine tkL 10 ?_ rfl ?_ hSS ?_
   rotate_left
   ·(intro W hW;have q0:=K0.out W hW;go_simp;try with_reducible rfl)
   try simp only[pA,pN,sA,sB]
   refine tkL 11 ?_ rfl ?_ hSS ?_
   rotate_left
   ·(intro W hW;have q0:=K0.out W hW;go_simp;try with_reducible rfl)
   try simp only[pA,pN,sA,sB]
   refine tkL 12 ?_ rfl ?_ hSS ?_
   rotate_left
   ·(intro W hW;have q0:=K0.out W hW;go_simp;try with_reducible rfl)
   try simp only[pA,pN,sA,sB]
   refine anyL_call (i:=13) (f:=52) (args:=#[.slice a1 M1.length k1,.slice a2 M1.length k2]) rfl zK (by rfl) (by go_simp) (ranges_same (R1.out.below hSS) (R2.out.below hSS) HF1.out) ?_
   rintro e v4 ⟨rfl,hb⟩
   have hSS:=hSS.trans (hb.mono hSS.size)
   refine .inl ⟨_,rfl,.inr hSS,?_⟩
   try simp only[pA,pN,sA,sB]
   refine tkL 14 ?_ rfl ?_ hSS ?_
   rotate_left
   ·(intro W hW;have q0:=K0.out W hW;go_simp;try with_reducible rfl)
   try simp only[pA,pN,sA,sB]
   refine tkL 15 ?_ rfl ?_ hSS ?_
   rotate_left
   ·(intro W hW;have q0:=K0.out W hW;go_simp;try with_reducible rfl)
   try simp only[pA,pN,sA,sB]
   refine tkL 16 ?_ rfl ?_ hSS ?_
   rotate_left
   ·(intro W hW;have q0:=K0.out W hW;go_simp;try with_reducible rfl)
   try simp only[pA,pN,sA,sB]
   refine tkL 17 ?_ rfl ?_ hSS ?_
   rotate_left
   ·(intro W hW;have q0:=K0.out W hW;go_simp;try with_reducible rfl)
   try simp only[pA,pN,sA,sB]
   refine tkL 18 ?_ rfl ?_ hSS ?_
   rotate_left
   ·(intro W hW;have q0:=K0.out W hW;go_simp;try with_reducible rfl)
   try simp only[pA,pN,sA,sB]
   refine tkL 19 ?_ rfl ?_ hSS ?_
   rotate_left
   ·(intro W hW;have q0:=K0.out W hW;go_simp;try with_reducible rfl)
   try simp only[pA,pN,sA,sB]
   refine tkL 20 ?_ rfl ?_ hSS ?_
   rotate_left
   ·(intro W hW;have q0:=K0.out W hW;go_simp;try with_reducible rfl)
   try simp only[pA,pN,sA,sB]
   refine tkL 21 ?_ rfl ?_ hSS ?_
   rotate_left
   ·(intro W hW;have q0:=K0.out W hW;go_simp;try with_reducible rfl)
   try simp only[pA,pN,sA,sB]
   refine tkL 22 ?_ rfl ?_ hSS ?_
   rotate_left
   ·(intro W hW;have q0:=K0.out W hW;go_simp;try with_reducible rfl)
   try simp only[pA,pN,sA,sB]
   refine anyL_call (i:=23) (f:=53) (args:=#[.slice a3 M2.length k3,.slice a4 M2.length k4]) rfl zK (by rfl) (by go_simp) (lists_same (R3.out.below hSS) (R4.out.below hSS) HF2.out) ?_
   rintro e v5 ⟨rfl,hb⟩
   have hSS:=hSS.trans (hb.mono hSS.size)
   refine .inl ⟨_,rfl,.inr hSS,?_⟩
   try simp only[pA,pN,sA,sB]
   refine tkL 24 ?_ rfl ?_ hSS ?_
   rotate_left
   ·(intro W hW;have q0:=K0.out W hW;go_simp;try with_reducible rfl)
   try simp only[pA,pN,sA,sB]
   refine tkL 25 ?_ rfl ?_ hSS ?_
   rotate_left
   ·(intro W hW;have q0:=K0.out W hW;go_simp;try with_reducible rfl)
   try simp only[pA,pN,sA,sB]
   refine tkL 26 ?_ rfl ?_ hSS ?_
   rotate_left
   ·(intro W hW;have q0:=K0.out W hW;go_simp;try with_reducible rfl)
   try simp only[pA,pN,sA,sB]
   refine tkL 27 ?_ rfl ?_ hSS ?_
   rotate_left
   ·(intro W hW;have q0:=K0.out W hW;go_simp;try with_reducible rfl)
   try simp only[pA,pN,sA,sB]
   refine tkL 28 ?_ rfl ?_ hSS ?_
   rotate_left
   ·(intro W hW;have q0:=K0.out W hW;go_simp;try with_reducible rfl)
   try simp only[pA,pN,sA,sB]
   refine tkL 29 ?_ rfl ?_ hSS ?_
   rotate_left
   ·(intro W hW;have q0:=K0.out W hW;go_simp;try with_reducible rfl)
   try simp only[pA,pN,sA,sB]
   refine tkL 30 ?_ rfl ?_ hSS ?_
   rotate_left
   ·(intro W hW;have q0:=K0.out W hW;go_simp;try with_reducible rfl)
   try simp only[pA,pN,sA,sB]
   refine tkL 31 ?_ rfl ?_ hSS ?_
   rotate_left
   ·(intro W hW;have q0:=K0.out W hW;go_simp;try with_reducible rfl)
   try simp only[pA,pN,sA,sB]
   refine tkL 32 ?_ rfl ?_ hSS ?_
   rotate_left
   ·(intro W hW;have q0:=K0.out W hW;go_simp;try with_reducible rfl)
   try simp only[pA,pN,sA,sB]
   refine tkL 33 ?_ rfl ?_ hSS ?_
   rotate_left
   ·(intro W hW;have q0:=K0.out W hW;go_simp;try with_reducible rfl)
   try simp only[pA,pN,sA,sB]
   refine tkL 34 ?_ rfl ?_ hSS ?_
   rotate_left
   ·(intro W hW;have q0:=K0.out W hW;go_simp;try with_reducible rfl)
   try simp only[pA,pN,sA,sB]
   refine tkL 35 ?_ rfl ?_ hSS ?_
   rotate_left
   ·(intro W hW;have q0:=K0.out W hW;go_simp;try with_reducible rfl)
   try simp only[pA,pN,sA,sB]
   refine tkL 36 ?_ rfl ?_ hSS ?_
   rotate_left
   ·(intro W hW;have q0:=K0.out W hW;go_simp;try with_reducible rfl)
   try simp only[pA,pN,sA,sB]
   refine tkL 37 ?_ rfl ?_ hSS ?_
   rotate_left
   ·(intro W hW;have q0:=K0.out W hW;go_simp;try with_reducible rfl)
   try simp only[pA,pN,sA,sB]
   refine tkL 38 ?_ rfl ?_ hSS ?_
   rotate_left
   ·(intro W hW;have q0:=K0.out W hW;go_simp;try with_reducible rfl)
   try simp only[pA,pN,sA,sB]
   refine tkL 39 ?_ rfl ?_ hSS ?_
   rotate_left
   ·(intro W hW;have q0:=K0.out W hW;go_simp;try with_reducible rfl)
   try simp only[pA,pN,sA,sB]
   refine anyL_run (i:=40) (v:=.bool true) (w':=v5) rfl zK (by rfl) (by go_simp) (.inl rfl) ?_
   try simp only[pA,pN,sA,sB]
   refine anyL_done zK ?_ _
   have HE:=zh (HB.out.trans (hSS.mono HB.out.size))
   clear hSS hb K0
   go_wp2_with fail
   go_ret
   exact⟨rfl,HE.out⟩
end Go.Proofs.YtjgldeeianionaaGreat
namespace Go.Proofs.YtjgldeeianionaaGreat.ProbeListsEnd
open Go.ChangeShapes Go.WideShapes Go.ChangeAt Go.RowKit
theorem own:ownKnob Tryz.prog.godebug=none:=zK
theorem lifted (os:Os)(started:os.Started)(H:Type)(enc:TypeId×Value→H):
 ReturnsInHanded {} Tryz.checked os 12 .any (Rows.probeListsSpec.pre6 enc Tryz.prog Tryz.f12 Rows.probeListsRow.domain false) (Rows.probeListsSpec.post enc Tryz.prog Tryz.f12 false true false false):=by
 refine returnsInHanded_of_change (C:=Tryz.checked) own started zK Tryz.func12
  (ChangeSpec.witness6 (enc:=enc) (C:=Tryz.checked) false ⟨#[],#[.agg #[.string ⟨#[]⟩,.int .i64 0,.int .i64 0,.slice none 0 0],.slice none 0 0,.slice none 0 0,.int .i64 0],[]⟩ 8 zK zK zK zK) ?_
 intro W base args ds gs before hval0 hW hcnd _
 have hval:∀(j:Nat) t v,Tryz.f12.params[j]?=some t→args[j]?=some v→Value.okWide Tryz.prog W .any base t v:=hval0
 have hW':=hW
 obtain⟨p,q,hA0,hV,rfl,hfz,hnd⟩:=hW
 have hA:DataW.TrodAll enc Tryz.prog W 0 (fun _=>true) true Tryz.f12.params.toList args.toList ds p:=hA0
 rw[Tryz.params12] at hA hval
 obtain⟨v0,vs0,d0,ds0,p0,q0,hargs,rfl,rfl,h0,r0⟩:=trodAll_cons hA
 obtain⟨v1,vs1,d1,ds1,p1,q1,rfl,rfl,rfl,h1,r1⟩:=trodAll_cons r0
 obtain⟨v2,vs2,d2,ds2,p2,q2,rfl,rfl,rfl,h2,r2⟩:=trodAll_cons r1
 obtain⟨v3,vs3,d3,ds3,p3,q3,rfl,rfl,rfl,h3,r3⟩:=trodAll_cons r2
 obtain⟨rfl,rfl,rfl⟩:=trodAll_nil r3
 obtain rfl:args = #[v0,v1,v2,v3]:=by cases args;simp_all
 obtain⟨rfl,rfl⟩:=trodVars_none hV
 obtain⟨c0,pa0,pc0,rfl,hp0,hpc0,hfit0,hlw0⟩:=case_of (hval 0 _ v0 rfl rfl) h0
 obtain⟨a1,l1,k1,rfl,hi1,hk1,hm1⟩:=prbs_arg (hval 1 _ v1 rfl rfl) h1
 obtain⟨a2,l2,k2,rfl,hi2,hk2,hm2⟩:=ints_arg (hval 2 _ v2 rfl rfl) h2
 obtain⟨a3,rfl,rfl,rfl,w3⟩:=open_int Tryz.underlying3 (hval 3 _ v3 rfl rfl) h3
 clear hA0 hval0
 refine(probeLists_any c0 hfit0 pa0 pc0 hpc0 a1 l1 k1 hk1 hm1 a2 l2 k2 hk2 hm2 a3 w3 W hp0 hi1 hi2).mono fun e W' ⟨he,hb⟩=>?_
 subst he
 exact⟨_,rfl,law_post rfl rfl (of_decide_eq_true zK) hW' rfl rfl rfl hb⟩
theorem over:Rows.probeListsRow.holds Tryz.pinned (OpenSpec.ofChange Rows.probeListsSpec):=
 OpenClaim.holds_of_wide 12 Tryz.f12 rfl rfl rfl rfl rfl rfl rfl ⟨rfl,rfl,rfl,rfl,rfl⟩ rfl rfl rfl rfl rfl zK Tryz.func12 zK
  (of_decide_eq_true zK) (by unfold Func.isWrapper;first|(rw[if_pos (by decide +kernel)];kernel_rfl)|(rw[if_neg (by decide +kernel)];exact⟨rfl,rfl⟩))
  (fun os started H enc _=>lifted os started H enc)
theorem proved:Rows.ProbeListsSaid:=
 over
#print axioms proved
end Go.Proofs.YtjgldeeianionaaGreat.ProbeListsEnd
