/- ProbeBest: the best plan is the reference's: the law returns true for every input, and its arguments read as before. No condition. -/
import Derived.ProofKit
import Derived.JoinedCond
import Derived.Test.YtjgldeeianionaaGreatRows
import Derived.RowKit
import Derived.RowKit3
import Derived.Lib.SmallJoins
import Derived.Deep.Slices
import Derived.WideKeyArgs
import Derived.ChangeMaps5
import Derived.OpenShut
import Derived.WalkKit
import Derived.WalkSpells
import Derived.WalkLawsBesides
import Derived.RangeFuncKeeps
import Derived.Deep.Draws
import Derived.Test.YtjgldeeianionaaGreatProg
import Derived.Maps.OwnSet
import Derived.Maps.OwnOps
import Derived.Deep.LoopGhost
import Derived.Deep.DeepCutAuto
import Derived.Deep.QuietTactic
import Derived.BigQuiet
import Derived.Handy
import Derived.Lib.Hide
import Derived.Lib.ConvBytes
import Derived.Tactics2
import Derived.Defers
import Derived.Recover
import Derived.Laws.Pointers
import Derived.Deep.MidRow
import Derived.Sort.QuietIn
import Derived.ChangeKeysEq
import Derived.Sort.CutIn
import Derived.Maps.AppendAt
import Derived.OwnWalk
import Derived.OwnWalkIn
import Derived.Shelf.Abstract
import Derived.Deep.OwnRows
import Derived.Laws.EntriesVeiled
import Derived.Deep.RegionHeld3
import Derived.RangeFuncNested
import Derived.RangeFuncBound
import Derived.RangeFuncCalls
import Derived.RangeFuncLeaves
import Derived.RangeFuncRecord
import Derived.TacticsInMore
import Derived.LoopNIn
import Derived.LoopIn
import Derived.Scope
import Derived.WalkMore
import Derived.Deep.Quiet
import Derived.OrdersIn
import Derived.StillTail
import Derived.StillTailTactics
import Derived.OrdersHeld
import Derived.Deep.RegionHeld
import Derived.Test.YtjgldeeianionaaGreatT02
import Derived.Test.YtjgldeeianionaaGreatT10
import Derived.Test.YtjgldeeianionaaGreatT36
import Derived.Test.YtjgldeeianionaaGreatT47
import Derived.Test.YtjgldeeianionaaGreatT01
set_option maxHeartbeats 4000000
set_option maxRecDepth 100000
set_option linter.unusedSimpArgs false
set_option linter.unusedVariables false
namespace Go.Proofs.YtjgldeeianionaaGreat
open Go.RowKit
attribute [local go_sem] Oper.semAt_some
theorem probeBest_any (c:Cs)(hf:c.Fit)(pa:Option Addr)(pc:Nat)(_:c.parts.length≤pc)(qa:Option Addr)(l:List Prb)(qc:Nat)(hlk:l.length≤qc)(hlm:qc≤maxLen)(w:World)(hp:PartsAt w pa c.parts)(hq:PrbsAt w qa l):
 Calls Tryz.prog 5 #[.agg #[.string c.ware,.int .i64 c.limit,.int .i64 c.by_,.slice pa c.parts.length pc],.slice qa l.length qc] w fun e w'=>e = .returned (.bool true)∧Below w.heap.size w w':=by
 obtain⟨w1,hw1,hB1,b1⟩:=box_case9 w c pa pc;have HFW:=zh (few9_any c hf pa pc l (Nat.le_trans hlk hlm) qa qc w1 (hp.below hB1) (hq.below hB1));have HW:=zh hw1;have P:=zh (hp.below hB1);have Q:=zh (hq.below hB1);have X1:=zh b1;have HB:=zh hB1;have HSO:=zh sounds_any;clear hw1 hB1 b1 hp hq;have e1:=zC (X1.out)
 go_enter Tryz.func5,Tryz.ntmps5
 go_upto_region 1 with fail
 simp only[HW.out]
 go_wp2_with fail
 refine zM HFW ?_;rintro e w2 ⟨⟨fb,rfl,hfb⟩,hb⟩;clear e1;have P:=zh (P.out.below hb);have Q:=zh (Q.out.below hb);have X1:=zh (X1.out.below' hb);have HB:=zh (HB.out.trans (hb.mono HB.out.size));clear hb HFW hf;cases fb
 ·clear hfb
  go_wp2_with fail
  (with_reducible refine(HSO.out _).mono ?_)
  rintro e w3 ⟨rfl,hb⟩;have P:=zh (P.out.below hb);have Q:=zh (Q.out.below hb);have X1:=zh (X1.out.below' hb);have HB:=zh (HB.out.trans (hb.mono HB.out.size));clear hb
  go_wp2_with fail
  go_ret
  exact⟨rfl,HB.out⟩
 ·have hsc:=(hfb rfl).1;clear hfb;have H1:=zh (fun W h1 h2=>(bestX_any c hsc pa pc l qa qc W h1 h2).mono fun e w' h=>best_val h);have H2:=zh (fun W h1 h2=>(bestXR9_any c hsc pa pc l qa qc W h1 h2).mono fun e w' h=>best_val h);have HL:=zh (bv_len (c:=c) (l:=l));generalize bvA (bvO c l)=U1 at *;generalize bvB (bvO c l)=U2 at *;generalize bvN l (bvO c l)=K at *;generalize bvS (bvO c l)=S at *;generalize (bvO c l).isSome=b at *;generalize xErr c l true=E at *;clear hsc;have e1:=zC (X1.out)
  go_wp2_with fail
  (with_reducible refine(H1.out _ P.out Q.out).mono ?_)
  rintro e w3 ⟨a1,n1,k1,rfl,rfl,hr,hb⟩;clear e1;have R1:=zh hr;clear hr;have P:=zh (P.out.below hb);have Q:=zh (Q.out.below hb);have X1:=zh (X1.out.below' hb);have HB:=zh (HB.out.trans (hb.mono HB.out.size));clear hb
  go_upto_region 4 with fail
  have hb:Below w3.heap.size w3 ((w3.alloc (.cells #[.int .i64 U1,.int .i64 U2] 57)).alloc (.cells #[.slice a1 S.length k1,.int .i64 K] 42)):=by go_grown
  have x5:Box ((w3.alloc (.cells #[.int .i64 U1,.int .i64 U2] 57)).alloc (.cells #[.slice a1 S.length k1,.int .i64 K] 42)) (w3.heap.size) #[.int .i64 U1,.int .i64 U2] 57:=(Box.new _ _ _).alloc _;have x6:Box ((w3.alloc (.cells #[.int .i64 U1,.int .i64 U2] 57)).alloc (.cells #[.slice a1 S.length k1,.int .i64 K] 42)) (w3.heap.size+1) #[.slice a1 S.length k1,.int .i64 K] 42:=Box.new' zS;generalize ((w3.alloc (.cells #[.int .i64 U1,.int .i64 U2] 57)).alloc (.cells #[.slice a1 S.length k1,.int .i64 K] 42))=w4 at *;have P:=zh (P.out.below hb);have Q:=zh (Q.out.below hb);have X1:=zh (X1.out.below' hb);have R1:=zh (R1.out.below hb);have HB:=zh (HB.out.trans (hb.mono HB.out.size));clear hb;have X5:=zh x5;clear x5;have X6:=zh x6;clear x6;have e1:=zC (X1.out)
  go_wp2_with fail
  (with_reducible refine(H2.out _ P.out Q.out).mono ?_)
  rintro e w5 ⟨a2,n2,k2,rfl,rfl,hr,hb⟩;clear e1;have R2:=zh hr;clear hr;have P:=zh (P.out.below hb);have Q:=zh (Q.out.below hb);have X1:=zh (X1.out.below' hb);have R1:=zh (R1.out.below hb);have X5:=zh (X5.out.below' hb);have X6:=zh (X6.out.below' hb);have HB:=zh (HB.out.trans (hb.mono HB.out.size));clear hb
  go_upto_region 5 with fail
  have hb:Below w5.heap.size w5 ((w5.alloc (.cells #[.int .i64 U1,.int .i64 U2] 57)).alloc (.cells #[.slice a2 S.length k2,.int .i64 K] 42)):=by go_grown
  have x9:Box ((w5.alloc (.cells #[.int .i64 U1,.int .i64 U2] 57)).alloc (.cells #[.slice a2 S.length k2,.int .i64 K] 42)) (w5.heap.size) #[.int .i64 U1,.int .i64 U2] 57:=(Box.new _ _ _).alloc _;have x10:Box ((w5.alloc (.cells #[.int .i64 U1,.int .i64 U2] 57)).alloc (.cells #[.slice a2 S.length k2,.int .i64 K] 42)) (w5.heap.size+1) #[.slice a2 S.length k2,.int .i64 K] 42:=Box.new' zS;generalize ((w5.alloc (.cells #[.int .i64 U1,.int .i64 U2] 57)).alloc (.cells #[.slice a2 S.length k2,.int .i64 K] 42))=w6 at *;have P:=zh (P.out.below hb);have Q:=zh (Q.out.below hb);have X1:=zh (X1.out.below' hb);have R1:=zh (R1.out.below hb);have X5:=zh (X5.out.below' hb);have X6:=zh (X6.out.below' hb);have R2:=zh (R2.out.below hb);have HB:=zh (HB.out.trans (hb.mono HB.out.size));clear hb;have X9:=zh x9;clear x9;have X10:=zh x10;clear x10
  go_wp2_with fail
  (with_reducible refine(HSO.out _).mono ?_)
  rintro e w7 ⟨rfl,hb⟩;have P:=zh (P.out.below hb);have Q:=zh (Q.out.below hb);have X1:=zh (X1.out.below' hb);have R1:=zh (R1.out.below hb);have X5:=zh (X5.out.below' hb);have X6:=zh (X6.out.below' hb);have R2:=zh (R2.out.below hb);have X9:=zh (X9.out.below' hb);have X10:=zh (X10.out.below' hb);have HB:=zh (HB.out.trans (hb.mono HB.out.size));clear hb;have e5:∀i,w7.cell? ⟨w3.heap.size,i,none⟩=(#[.int .i64 U1,.int .i64 U2]:Array Value)[i]?:=X5.out.cell;have e6:∀i,w7.cell? ⟨w3.heap.size+1,i,none⟩=(#[.slice a1 S.length k1,.int .i64 K]:Array Value)[i]?:=X6.out.cell;have e9:∀i,w7.cell? ⟨w5.heap.size,i,none⟩=(#[.int .i64 U1,.int .i64 U2]:Array Value)[i]?:=X9.out.cell;have e10:∀i,w7.cell? ⟨w5.heap.size+1,i,none⟩=(#[.slice a2 S.length k2,.int .i64 K]:Array Value)[i]?:=X10.out.cell;have t1:(U1==U1)=true:=by simp
  have t2:(U2==U2)=true:=by simp
  have t3:(b==b)=true:=by simp
  have t4:(E==E)=true:=by simp
  go_wp2_with fail
  (with_reducible refine(plans_same R1.out R2.out HL.out).mono ?_)
  rintro e w8 ⟨rfl,hb⟩;clear e5 e6 e9 e10;have P:=zh (P.out.below hb);have Q:=zh (Q.out.below hb);have X1:=zh (X1.out.below' hb);have R1:=zh (R1.out.below hb);have X5:=zh (X5.out.below' hb);have X6:=zh (X6.out.below' hb);have R2:=zh (R2.out.below hb);have X9:=zh (X9.out.below' hb);have X10:=zh (X10.out.below' hb);have HB:=zh (HB.out.trans (hb.mono HB.out.size));clear hb
  go_wp2_with fail
  go_ret
  exact⟨rfl,HB.out⟩
end Go.Proofs.YtjgldeeianionaaGreat
namespace Go.Proofs.YtjgldeeianionaaGreat.ProbeBestEnd
open Go.ChangeShapes Go.WideShapes Go.ChangeAt Go.RowKit
theorem own:ownKnob Tryz.prog.godebug=none:=zK
theorem lifted (os:Os)(started:os.Started)(H:Type)(enc:TypeId×Value→H):
 ReturnsInHanded {} Tryz.checked os 5 .any (Rows.probeBestSpec.pre6 enc Tryz.prog Tryz.f5 Rows.probeBestRow.domain false) (Rows.probeBestSpec.post enc Tryz.prog Tryz.f5 false true false false):=by
 refine returnsInHanded_of_change (C:=Tryz.checked) own started zK Tryz.func5
  (ChangeSpec.witness6 (enc:=enc) (C:=Tryz.checked) false ⟨#[],#[.agg #[.string ⟨#[]⟩,.int .i64 0,.int .i64 0,.slice none 0 0],.slice none 0 0],[]⟩ 8 zK zK zK zK) ?_
 intro W base args ds gs before hval0 hW hcnd _;have hval:∀(j:Nat) t v,Tryz.f5.params[j]?=some t→args[j]?=some v→Value.okWide Tryz.prog W .any base t v:=hval0;have hW':=hW;obtain⟨p,q,hA0,hV,rfl,hfz,hnd⟩:=hW;have hA:DataW.TrodAll enc Tryz.prog W 0 (fun _=>true) true Tryz.f5.params.toList args.toList ds p:=hA0;rw[Tryz.params5] at hA hval;obtain⟨v0,vs0,d0,ds0,p0,q0,hargs,rfl,rfl,h0,r0⟩:=trodAll_cons hA;obtain⟨v1,vs1,d1,ds1,p1,q1,rfl,rfl,rfl,h1,r1⟩:=trodAll_cons r0;obtain⟨rfl,rfl,rfl⟩:=trodAll_nil r1;obtain rfl:args = #[v0,v1]:=by cases args;simp_all
 obtain⟨rfl,rfl⟩:=trodVars_none hV;obtain⟨c0,pa0,pc0,rfl,hp0,hpc0,hfit0,hlw0⟩:=case_of (hval 0 _ v0 rfl rfl) h0;obtain⟨a1,l1,k1,rfl,hi1,hk1,hm1⟩:=prbs_arg (hval 1 _ v1 rfl rfl) h1;clear hA0 hval0;refine(probeBest_any c0 hfit0 pa0 pc0 hpc0 a1 l1 k1 hk1 hm1 W hp0 hi1).mono fun e W' ⟨he,hb⟩=>?_
 subst he;exact⟨_,rfl,law_post rfl rfl (of_decide_eq_true zK) hW' rfl rfl rfl hb⟩
theorem over:Rows.probeBestRow.holds Tryz.pinned (OpenSpec.ofChange Rows.probeBestSpec):=
 OpenClaim.holds_of_wide 5 Tryz.f5 rfl rfl rfl rfl rfl rfl rfl ⟨rfl,rfl,rfl,rfl,rfl⟩ rfl rfl rfl rfl rfl zK Tryz.func5 zK
  (of_decide_eq_true zK) (by unfold Func.isWrapper;first|(rw[if_pos (by decide +kernel)];kernel_rfl)|(rw[if_neg (by decide +kernel)];exact⟨rfl,rfl⟩))
  (fun os started H enc _=>lifted os started H enc)
theorem proved:Rows.ProbeBestSaid:=
 over
#print axioms proved
end Go.Proofs.YtjgldeeianionaaGreat.ProbeBestEnd
