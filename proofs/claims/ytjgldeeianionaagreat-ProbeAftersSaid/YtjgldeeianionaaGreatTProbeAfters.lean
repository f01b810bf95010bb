/- ProbeAfters: the cases after findings, whether there can be findings, and what they settle are the reference's: the law returns true for every input, and its arguments read as before. No condition. -/
import Derived.ProofKit
import Derived.JoinedCond
import Derived.Test.YtjgldeeianionaaGreatT36
import Derived.Test.YtjgldeeianionaaGreatT44
import Derived.Test.YtjgldeeianionaaGreatT45
import Derived.Test.YtjgldeeianionaaGreatT01
set_option maxHeartbeats 4000000
set_option maxRecDepth 100000
set_option linter.unusedSimpArgs false
set_option linter.unusedVariables false
namespace Go.Proofs.YtjgldeeianionaaGreat
open Go.RowKit
attribute [local go_sem] Oper.semAt_some
theorem probeAfters_any (c:Cs)(hf:c.Fit)(pa:Option Addr)(pc:Nat)(_:c.parts.length≤pc)(qa:Option Addr)(l:List Prb)(qc:Nat)(hlk:l.length≤qc)(hlm:qc≤maxLen)(sa:Option Addr)(S:List Int)(sc:Nat)(hsk:S.length≤sc)(hsm:sc≤maxLen)(fa:Option Addr)(F:List Int)(fc:Nat)(hfk:F.length≤fc)(hfm:fc≤maxLen)(w:World)(hp:PartsAt w pa c.parts)(hq:PrbsAt w qa l)(hS:Ints w sa S)(hF:Ints w fa F):
 Calls Tryz.prog 3 #[.agg #[.string c.ware,.int .i64 c.limit,.int .i64 c.by_,.slice pa c.parts.length pc],.slice qa l.length qc,.slice sa S.length sc,.slice fa F.length fc] w fun e w'=>e = .returned (.bool true)∧Below w.heap.size w w':=by
 obtain⟨w1,hw1,hB1,b1⟩:=box_case9 w c pa pc;have HFW:=zh (few9_any c hf pa pc l (Nat.le_trans hlk hlm) qa qc w1 (hp.below hB1) (hq.below hB1));have HW:=zh hw1;have P:=zh (hp.below hB1);have Q:=zh (hq.below hB1);have RS:=zh (hS.below hB1);have RF:=zh (hF.below hB1);have X1:=zh b1;have HB:=zh hB1;have HSO:=zh sounds_any;clear hw1 hB1 b1 hp hq hS hF;have e1:=zC (X1.out)
 go_enter Tryz.func3,Tryz.ntmps3
 go_upto_region 1 with fail
 simp only[HW.out]
 go_wp2_with fail
 refine zM HFW ?_;rintro e w2 ⟨⟨fb,rfl,hfb⟩,hb⟩;clear e1;have P:=zh (P.out.below hb);have Q:=zh (Q.out.below hb);have RS:=zh (RS.out.below hb);have RF:=zh (RF.out.below hb);have X1:=zh (X1.out.below' hb);have HB:=zh (HB.out.trans (hb.mono HB.out.size));clear hb HFW hf;cases fb
 all_goals have HSH:=zh (fun W (a:Option Addr) (cap:Nat) (h:Row W a [.slice sa S.length sc,.slice fa F.length fc])=>short_two (w:=W) (a:=a) (cap:=cap) h (Nat.le_trans hsk hsm) (Nat.le_trans hfk hfm))
 ·clear hfb
  go_wp2_with fail
  (with_reducible refine(HSO.out _).mono ?_)
  rintro e w3 ⟨rfl,hb⟩;have P:=zh (P.out.below hb);have Q:=zh (Q.out.below hb);have RS:=zh (RS.out.below hb);have RF:=zh (RF.out.below hb);have X1:=zh (X1.out.below' hb);have HB:=zh (HB.out.trans (hb.mono HB.out.size));clear hb
  go_wp2_with fail
  go_ret
  exact⟨rfl,HB.out⟩
 ·have hsc:=(hfb rfl).1;clear hfb
  rcases hsh:(decide (S.length≤20)&&decide (F.length≤20)) with _|_
  ·rw[hsh] at HSH;clear hsh;have hbq:Below w2.heap.size w2 (w2.alloc (.cells #[.slice sa S.length sc,.slice fa F.length fc] 26)):=by go_grown
   go_wp2_with fail
   (with_reducible refine(HSH.out _ _ _ (lit_row9 (Box.new _ _ _))).mono ?_)
   rintro e w3 ⟨rfl,hb0⟩;have hb:=hbq.trans (hb0.mono hbq.size);clear hbq hb0;have P:=zh (P.out.below hb);have Q:=zh (Q.out.below hb);have RS:=zh (RS.out.below hb);have RF:=zh (RF.out.below hb);have X1:=zh (X1.out.below' hb);have HB:=zh (HB.out.trans (hb.mono HB.out.size));clear hb
   go_wp2_with fail
   (with_reducible refine(HSO.out _).mono ?_)
   rintro e w4 ⟨rfl,hb⟩;have P:=zh (P.out.below hb);have Q:=zh (Q.out.below hb);have RS:=zh (RS.out.below hb);have RF:=zh (RF.out.below hb);have X1:=zh (X1.out.below' hb);have HB:=zh (HB.out.trans (hb.mono HB.out.size));clear hb
   go_wp2_with fail
   go_ret
   exact⟨rfl,HB.out⟩
  ·rw[hsh] at HSH;simp only[Bool.and_eq_true,decide_eq_true_eq] at hsh;obtain⟨hs20,hf20⟩:=hsh;have HA1:=zh (fun W h1 h2 h3 h4=>(afterX_any c hsc pa pc l qa qc sa S sc fa F fc zO zO W h1 h2 h3 h4).mono fun e w' h=>after_val h);have HA2:=zh (fun W h1 h2 h3 h4=>(afterXR9_any c hsc pa pc l qa qc sa S sc fa F fc zO zO W h1 h2 h3 h4).mono fun e w' h=>after_val h);have HC1:=zh (fun W h1 h2 h3 h4=>can_tup (c:=c) (l:=l) (w:=W) (pa:=pa) (pc:=pc) (qa:=qa) (qc:=qc) hsc sa S sc fa F fc zO zO h1 h2 h3 h4);have HC2:=zh (fun W h1 h2 h3 h4=>canXR9_any c hsc pa pc l qa qc sa S sc fa F fc zO zO W h1 h2 h3 h4);have HT1:=zh (fun W h1 h2 h3 h4=>(settledX_any c hsc pa pc l qa qc sa S sc fa F fc W h1 h2 zO zO h3 h4).mono fun e w' h=>setl_val h)
   have HT2:=zh (fun W h1 h2 h3 h4=>(settledXR9_any c hsc pa pc l qa qc sa S sc fa F fc zO zO W h1 h2 h3 h4).mono fun e w' h=>setl_val h);have HSM:=zh (orZ_small (c:=c) (l:=l) (S:=nats S) (F:=nats F) (ok:=foundB c l S F));have HLN:=zh (setl_len (c:=c) (l:=l) (o:=canC c l (nats S) (nats F)) (ok:=foundB c l S F));have hbq:Below w2.heap.size w2 (w2.alloc (.cells #[.slice sa S.length sc,.slice fa F.length fc] 26)):=by go_grown
   go_wp2_with fail
   (with_reducible refine(HSH.out _ _ _ (lit_row9 (Box.new _ _ _))).mono ?_)
   rintro e w3 ⟨rfl,hb0⟩;have hb:=hbq.trans (hb0.mono hbq.size);clear hbq hb0;have P:=zh (P.out.below hb);have Q:=zh (Q.out.below hb);have RS:=zh (RS.out.below hb);have RF:=zh (RF.out.below hb);have X1:=zh (X1.out.below' hb);have HB:=zh (HB.out.trans (hb.mono HB.out.size));clear hb;clear HSH hsc;generalize orZ (xErr c l (foundB c l S F)) (afterC c l (nats S) (nats F))=D at *;generalize (if xErr c l (foundB c l S F)=0 then afterC c l (nats S) (nats F) else none).isSome=b1 at *;generalize setlE (xErr c l (foundB c l S F)) (canC c l (nats S) (nats F))=E2 at *;generalize setlL c (xErr c l (foundB c l S F)) (canC c l (nats S) (nats F))=L at *;generalize (xErr c l (foundB c l S F)==0&&(canC c l (nats S) (nats F)).isSome)=b2 at *;generalize xErr c l (foundB c l S F)=E1 at *;have e1:=zC (X1.out)
   go_wp2_with fail
   (with_reducible refine(HA1.out _ P.out Q.out RS.out RF.out).mono ?_)
   rintro e w4 ⟨a1,n1,k1,rfl,rfl,hr,hb⟩;clear e1;have R1:=zh hr;clear hr;have P:=zh (P.out.below hb);have Q:=zh (Q.out.below hb);have RS:=zh (RS.out.below hb);have RF:=zh (RF.out.below hb);have X1:=zh (X1.out.below' hb);have HB:=zh (HB.out.trans (hb.mono HB.out.size));clear hb
   go_upto_region 4 with fail
   have hb:Below w4.heap.size w4 (w4.alloc (.cells #[.string D.ware,.int .i64 D.limit,.int .i64 D.by_,.slice a1 D.parts.length k1] 24)):=by go_grown
   have x9:Box (w4.alloc (.cells #[.string D.ware,.int .i64 D.limit,.int .i64 D.by_,.slice a1 D.parts.length k1] 24)) (w4.heap.size) #[.string D.ware,.int .i64 D.limit,.int .i64 D.by_,.slice a1 D.parts.length k1] 24:=Box.new _ _ _;generalize (w4.alloc (.cells #[.string D.ware,.int .i64 D.limit,.int .i64 D.by_,.slice a1 D.parts.length k1] 24))=w5 at *;have P:=zh (P.out.below hb);have Q:=zh (Q.out.below hb);have RS:=zh (RS.out.below hb);have RF:=zh (RF.out.below hb);have X1:=zh (X1.out.below' hb);have R1:=zh (R1.out.below hb);have HB:=zh (HB.out.trans (hb.mono HB.out.size));clear hb;have X9:=zh x9;clear x9;have e1:=zC (X1.out)
   go_wp2_with fail
   (with_reducible refine(HA2.out _ P.out Q.out RS.out RF.out).mono ?_)
   rintro e w6 ⟨a2,n2,k2,rfl,rfl,hr,hb⟩;clear e1;have R2:=zh hr;clear hr;have P:=zh (P.out.below hb);have Q:=zh (Q.out.below hb);have RS:=zh (RS.out.below hb);have RF:=zh (RF.out.below hb);have X1:=zh (X1.out.below' hb);have R1:=zh (R1.out.below hb);have X9:=zh (X9.out.below' hb);have HB:=zh (HB.out.trans (hb.mono HB.out.size));clear hb
   go_upto_region 5 with fail
   have hb:Below w6.heap.size w6 (w6.alloc (.cells #[.string D.ware,.int .i64 D.limit,.int .i64 D.by_,.slice a2 D.parts.length k2] 24)):=by go_grown
   have x12:Box (w6.alloc (.cells #[.string D.ware,.int .i64 D.limit,.int .i64 D.by_,.slice a2 D.parts.length k2] 24)) (w6.heap.size) #[.string D.ware,.int .i64 D.limit,.int .i64 D.by_,.slice a2 D.parts.length k2] 24:=Box.new _ _ _;generalize (w6.alloc (.cells #[.string D.ware,.int .i64 D.limit,.int .i64 D.by_,.slice a2 D.parts.length k2] 24))=w7 at *;have P:=zh (P.out.below hb);have Q:=zh (Q.out.below hb);have RS:=zh (RS.out.below hb);have RF:=zh (RF.out.below hb);have X1:=zh (X1.out.below' hb);have R1:=zh (R1.out.below hb);have X9:=zh (X9.out.below' hb);have R2:=zh (R2.out.below hb);have HB:=zh (HB.out.trans (hb.mono HB.out.size));clear hb;have X12:=zh x12;clear x12;have e1:=zC (X1.out)
   go_wp2_with fail
   (with_reducible refine(HC1.out _ P.out Q.out RS.out RF.out).mono ?_)
   rintro e w8 ⟨rfl,hb⟩;clear e1;have P:=zh (P.out.below hb);have Q:=zh (Q.out.below hb);have RS:=zh (RS.out.below hb);have RF:=zh (RF.out.below hb);have X1:=zh (X1.out.below' hb);have R1:=zh (R1.out.below hb);have X9:=zh (X9.out.below' hb);have R2:=zh (R2.out.below hb);have X12:=zh (X12.out.below' hb);have HB:=zh (HB.out.trans (hb.mono HB.out.size));clear hb;have e1:=zC (X1.out)
   go_wp2_with fail
   (with_reducible refine(HC2.out _ P.out Q.out RS.out RF.out).mono ?_)
   rintro e w9 ⟨rfl,hb⟩;clear e1;have P:=zh (P.out.below hb);have Q:=zh (Q.out.below hb);have RS:=zh (RS.out.below hb);have RF:=zh (RF.out.below hb);have X1:=zh (X1.out.below' hb);have R1:=zh (R1.out.below hb);have X9:=zh (X9.out.below' hb);have R2:=zh (R2.out.below hb);have X12:=zh (X12.out.below' hb);have HB:=zh (HB.out.trans (hb.mono HB.out.size));clear hb;have e1:=zC (X1.out)
   go_wp2_with fail
   (with_reducible refine(HT1.out _ P.out Q.out RS.out RF.out).mono ?_)
   rintro e w10 ⟨a3,n3,k3,rfl,rfl,hr,hb⟩;clear e1;have R3:=zh hr;clear hr;have P:=zh (P.out.below hb);have Q:=zh (Q.out.below hb);have RS:=zh (RS.out.below hb);have RF:=zh (RF.out.below hb);have X1:=zh (X1.out.below' hb);have R1:=zh (R1.out.below hb);have X9:=zh (X9.out.below' hb);have R2:=zh (R2.out.below hb);have X12:=zh (X12.out.below' hb);have HB:=zh (HB.out.trans (hb.mono HB.out.size));clear hb;have e1:=zC (X1.out)
   go_wp2_with fail
   (with_reducible refine(HT2.out _ P.out Q.out RS.out RF.out).mono ?_)
   rintro e w11 ⟨a4,n4,k4,rfl,rfl,hr,hb⟩;clear e1;have R4:=zh hr;clear hr;have P:=zh (P.out.below hb);have Q:=zh (Q.out.below hb);have RS:=zh (RS.out.below hb);have RF:=zh (RF.out.below hb);have X1:=zh (X1.out.below' hb);have R1:=zh (R1.out.below hb);have X9:=zh (X9.out.below' hb);have R2:=zh (R2.out.below hb);have X12:=zh (X12.out.below' hb);have R3:=zh (R3.out.below hb);have HB:=zh (HB.out.trans (hb.mono HB.out.size));clear hb;clear HA1 HA2 HC1 HC2 HT1 HT2
   go_wp2_with fail
   (with_reducible refine(HSO.out _).mono ?_)
   rintro e w12 ⟨rfl,hb⟩;have P:=zh (P.out.below hb);have Q:=zh (Q.out.below hb);have RS:=zh (RS.out.below hb);have RF:=zh (RF.out.below hb);have X1:=zh (X1.out.below' hb);have R1:=zh (R1.out.below hb);have X9:=zh (X9.out.below' hb);have R2:=zh (R2.out.below hb);have X12:=zh (X12.out.below' hb);have R3:=zh (R3.out.below hb);have R4:=zh (R4.out.below hb);have HB:=zh (HB.out.trans (hb.mono HB.out.size));clear hb;have e9:∀i,w12.cell? ⟨w4.heap.size,i,none⟩=(#[.string D.ware,.int .i64 D.limit,.int .i64 D.by_,.slice a1 D.parts.length k1]:Array Value)[i]?:=X9.out.cell;have e12:∀i,w12.cell? ⟨w6.heap.size,i,none⟩=(#[.string D.ware,.int .i64 D.limit,.int .i64 D.by_,.slice a2 D.parts.length k2]:Array Value)[i]?:=X12.out.cell;have t1:(b1==b1)=true:=by simp
   have t2:(b2==b2)=true:=by simp
   have t3:(E1==E1)=true:=by simp
   have t4:(E2==E2)=true:=by simp
   go_wp2_with fail
   (with_reducible refine(sameCase_ref D HSM.out a1 k1 a2 k2 _ R1.out R2.out).mono ?_)
   rintro e w13 ⟨rfl,hb⟩;clear e9 e12;have P:=zh (P.out.below hb);have Q:=zh (Q.out.below hb);have RS:=zh (RS.out.below hb);have RF:=zh (RF.out.below hb);have X1:=zh (X1.out.below' hb);have R1:=zh (R1.out.below hb);have X9:=zh (X9.out.below' hb);have R2:=zh (R2.out.below hb);have X12:=zh (X12.out.below' hb);have R3:=zh (R3.out.below hb);have R4:=zh (R4.out.below hb);have HB:=zh (HB.out.trans (hb.mono HB.out.size));clear hb
   go_wp2_with fail
   (with_reducible refine(pairs_same R3.out R4.out HLN.out).mono ?_)
   rintro e w14 ⟨rfl,hb⟩;have P:=zh (P.out.below hb);have Q:=zh (Q.out.below hb);have RS:=zh (RS.out.below hb);have RF:=zh (RF.out.below hb);have X1:=zh (X1.out.below' hb);have R1:=zh (R1.out.below hb);have X9:=zh (X9.out.below' hb);have R2:=zh (R2.out.below hb);have X12:=zh (X12.out.below' hb);have R3:=zh (R3.out.below hb);have R4:=zh (R4.out.below hb);have HB:=zh (HB.out.trans (hb.mono HB.out.size));clear hb
   go_wp2_with fail
   go_ret
   exact⟨rfl,HB.out⟩
end Go.Proofs.YtjgldeeianionaaGreat
namespace Go.Proofs.YtjgldeeianionaaGreat.ProbeAftersEnd
open Go.ChangeShapes Go.WideShapes Go.ChangeAt Go.RowKit
theorem own:ownKnob Tryz.prog.godebug=none:=zK
theorem lifted (os:Os)(started:os.Started)(H:Type)(enc:TypeId×Value→H):
 ReturnsInHanded {} Tryz.checked os 3 .any (Rows.probeAftersSpec.pre6 enc Tryz.prog Tryz.f3 Rows.probeAftersRow.domain false) (Rows.probeAftersSpec.post enc Tryz.prog Tryz.f3 false true false false):=by
 refine returnsInHanded_of_change (C:=Tryz.checked) own started zK Tryz.func3
  (ChangeSpec.witness6 (enc:=enc) (C:=Tryz.checked) false ⟨#[],#[.agg #[.string ⟨#[]⟩,.int .i64 0,.int .i64 0,.slice none 0 0],.slice none 0 0,.slice none 0 0,.slice none 0 0],[]⟩ 8 zK zK zK zK) ?_
 intro W base args ds gs before hval0 hW hcnd _;have hval:∀(j:Nat) t v,Tryz.f3.params[j]?=some t→args[j]?=some v→Value.okWide Tryz.prog W .any base t v:=hval0;have hW':=hW;obtain⟨p,q,hA0,hV,rfl,hfz,hnd⟩:=hW;have hA:DataW.TrodAll enc Tryz.prog W 0 (fun _=>true) true Tryz.f3.params.toList args.toList ds p:=hA0;rw[Tryz.params3] at hA hval;obtain⟨v0,vs0,d0,ds0,p0,q0,hargs,rfl,rfl,h0,r0⟩:=trodAll_cons hA;obtain⟨v1,vs1,d1,ds1,p1,q1,rfl,rfl,rfl,h1,r1⟩:=trodAll_cons r0;obtain⟨v2,vs2,d2,ds2,p2,q2,rfl,rfl,rfl,h2,r2⟩:=trodAll_cons r1;obtain⟨v3,vs3,d3,ds3,p3,q3,rfl,rfl,rfl,h3,r3⟩:=trodAll_cons r2;obtain⟨rfl,rfl,rfl⟩:=trodAll_nil r3;obtain rfl:args = #[v0,v1,v2,v3]:=by cases args;simp_all
 obtain⟨rfl,rfl⟩:=trodVars_none hV;obtain⟨c0,pa0,pc0,rfl,hp0,hpc0,hfit0,hlw0⟩:=case_of (hval 0 _ v0 rfl rfl) h0;obtain⟨a1,l1,k1,rfl,hi1,hk1,hm1⟩:=prbs_arg (hval 1 _ v1 rfl rfl) h1;obtain⟨a2,l2,k2,rfl,hi2,hk2,hm2⟩:=ints_arg (hval 2 _ v2 rfl rfl) h2;obtain⟨a3,l3,k3,rfl,hi3,hk3,hm3⟩:=ints_arg (hval 3 _ v3 rfl rfl) h3;clear hA0 hval0;refine(probeAfters_any c0 hfit0 pa0 pc0 hpc0 a1 l1 k1 hk1 hm1 a2 l2 k2 hk2 hm2 a3 l3 k3 hk3 hm3 W hp0 hi1 hi2 hi3).mono fun e W' ⟨he,hb⟩=>?_
 subst he;exact⟨_,rfl,law_post rfl rfl (of_decide_eq_true zK) hW' rfl rfl rfl hb⟩
theorem over:Rows.probeAftersRow.holds Tryz.pinned (OpenSpec.ofChange Rows.probeAftersSpec):=
 OpenClaim.holds_of_wide 3 Tryz.f3 rfl rfl rfl rfl rfl rfl rfl ⟨rfl,rfl,rfl,rfl,rfl⟩ rfl rfl rfl rfl rfl zK Tryz.func3 zK
  (of_decide_eq_true zK) (by unfold Func.isWrapper;first|(rw[if_pos (by decide +kernel)];kernel_rfl)|(rw[if_neg (by decide +kernel)];exact⟨rfl,rfl⟩))
  (fun os started H enc _=>lifted os started H enc)
theorem proved:Rows.ProbeAftersSaid:=
 over
#print axioms proved
end Go.Proofs.YtjgldeeianionaaGreat.ProbeAftersEnd
