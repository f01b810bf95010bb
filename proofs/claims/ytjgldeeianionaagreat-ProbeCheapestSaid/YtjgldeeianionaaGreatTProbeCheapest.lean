/- ProbeCheapest: the cheapest plan is the reference's, and the doubts of the proof are of the sets that the reference names, each accepted: the law returns true for every input, and its arguments read as before. No condition. -/
import Derived.ProofKit
import Derived.JoinedCond
import Derived.Test.YtjgldeeianionaaGreatRows
import Derived.RowKit
import Derived.RowKit3
import Derived.Lib.SmallJoins
import Derived.Deep.Slices
import Derived.WideKeyArgs
import Derived.ChangeMaps5
import Derived.OpenShut
import Derived.WalkKit
import Derived.WalkSpells
import Derived.WalkLawsBesides
import Derived.RangeFuncKeeps
import Derived.Deep.Draws
import Derived.Test.YtjgldeeianionaaGreatProg
import Derived.Maps.OwnSet
import Derived.Maps.OwnOps
import Derived.Deep.LoopGhost
import Derived.Deep.DeepCutAuto
import Derived.Deep.QuietTactic
import Derived.BigQuiet
import Derived.Handy
import Derived.Lib.Hide
import Derived.Lib.ConvBytes
import Derived.Tactics2
import Derived.Defers
import Derived.Recover
import Derived.Laws.Pointers
import Derived.Deep.MidRow
import Derived.Sort.QuietIn
import Derived.ChangeKeysEq
import Derived.Sort.CutIn
import Derived.Maps.AppendAt
import Derived.OwnWalk
import Derived.OwnWalkIn
import Derived.Shelf.Abstract
import Derived.Deep.OwnRows
import Derived.Laws.EntriesVeiled
import Derived.Deep.RegionHeld3
import Derived.RangeFuncNested
import Derived.RangeFuncBound
import Derived.RangeFuncCalls
import Derived.RangeFuncLeaves
import Derived.RangeFuncRecord
import Derived.TacticsInMore
import Derived.LoopNIn
import Derived.LoopIn
import Derived.Scope
import Derived.WalkMore
import Derived.Deep.Quiet
import Derived.OrdersIn
import Derived.StillTail
import Derived.StillTailTactics
import Derived.OrdersHeld
import Derived.Deep.RegionHeld
import Derived.Test.YtjgldeeianionaaGreatT02
import Derived.Test.YtjgldeeianionaaGreatT10
import Derived.Test.YtjgldeeianionaaGreatT36
import Derived.Test.YtjgldeeianionaaGreatT48
import Derived.Test.YtjgldeeianionaaGreatT49
import Derived.Test.YtjgldeeianionaaGreatT01
set_option maxHeartbeats 4000000
set_option maxRecDepth 100000
set_option linter.unusedSimpArgs false
set_option linter.unusedVariables false
namespace Go.Proofs.YtjgldeeianionaaGreat
open Go.RowKit
attribute [local go_sem] Oper.semAt_some
theorem probeCheapest_any (c:Cs)(hf:c.Fit)(pa:Option Addr)(pc:Nat)(_:c.parts.length≤pc)(qa:Option Addr)(l:List Prb)(qc:Nat)(hlk:l.length≤qc)(hlm:qc≤maxLen)(a:Int)(_:(Lit.int .i64 a).wf=true)(b:Int)(_:(Lit.int .i64 b).wf=true)(w:World)(hp:PartsAt w pa c.parts)(hq:PrbsAt w qa l):
 Calls Tryz.prog 4 #[.agg #[.string c.ware,.int .i64 c.limit,.int .i64 c.by_,.slice pa c.parts.length pc],.slice qa l.length qc,.int .i64 a,.int .i64 b] w fun e w'=>e = .returned (.bool true)∧Below w.heap.size w w':=by
 obtain⟨w1,hw1,hB1,b1⟩:=box_case9 w c pa pc;have HFW:=zh (few9_any c hf pa pc l (Nat.le_trans hlk hlm) qa qc w1 (hp.below hB1) (hq.below hB1));have HW:=zh hw1;have P:=zh (hp.below hB1);have Q:=zh (hq.below hB1);have X1:=zh b1;have HB:=zh hB1;have HSO:=zh sounds_any;clear hw1 hB1 b1 hp hq;have e1:=zC (X1.out)
 go_enter Tryz.func4,Tryz.ntmps4
 go_upto_region 1 with fail
 simp only[HW.out]
 go_wp2_with fail
 refine zM HFW ?_;rintro e w2 ⟨⟨fb,rfl,hfb⟩,hb⟩;clear e1;have P:=zh (P.out.below hb);have Q:=zh (Q.out.below hb);have X1:=zh (X1.out.below' hb);have HB:=zh (HB.out.trans (hb.mono HB.out.size));clear hb HFW hf;cases fb
 ·clear hfb
  go_wp2_with fail
  (with_reducible refine(HSO.out _).mono ?_)
  rintro e w3 ⟨rfl,hb⟩;have P:=zh (P.out.below hb);have Q:=zh (Q.out.below hb);have X1:=zh (X1.out.below' hb);have HB:=zh (HB.out.trans (hb.mono HB.out.size));clear hb
  go_wp2_with fail
  go_ret
  exact⟨rfl,HB.out⟩
 ·have hsc:=(hfb rfl).1;clear hfb;have H1:=zh (fun W h1 h2=>(cheapestX_any c hsc pa pc l qa qc a b W h1 h2).mono fun e w' h=>plan_val h);have H2:=zh (fun W h1 h2=>(cheapestXR9_any c hsc pa pc l qa qc a b W h1 h2).mono fun e w' h=>plan_val h);have H3:=zh (fun W h1 h2=>proof_tup (c:=c) (l:=l) (w:=W) (pa:=pa) (pc:=pc) (qa:=qa) (qc:=qc) hsc a b h1 h2);have HL:=zh (pv_len (c:=c) (l:=l) (a:=a.toNat) (b:=b.toNat) (ok:=twoB c.parts.length a b));have HZ:=zh (fun h=>xErr_zero (c:=c) (l:=l) (ok:=twoB c.parts.length a b) h);generalize hO:(if xErr c l (twoB c.parts.length a b)=0 then cheapestOf c l a.toNat b.toNat else none)=O at *;clear hO;generalize pvN l O=K at *;generalize pvS O=S at *;generalize O.isSome=fl at *;have HTW:=zh (fun h=>two_nats (n:=c.parts.length) (a:=a) (b:=b) h)
  obtain⟨X,hX⟩:=zx (xErr c l (twoB c.parts.length a b));have HX0:=zh hX;rw[hX] at H1 H2 H3 HZ;clear hX;have e1:=zC (X1.out)
  go_wp2_with fail
  (with_reducible refine(H1.out _ P.out Q.out).mono ?_)
  rintro e w3 ⟨a1,n1,k1,rfl,rfl,hr,hb⟩;clear e1;have R1:=zh hr;clear hr;have P:=zh (P.out.below hb);have Q:=zh (Q.out.below hb);have X1:=zh (X1.out.below' hb);have HB:=zh (HB.out.trans (hb.mono HB.out.size));clear hb
  go_upto_region 4 with fail
  have hb:Below w3.heap.size w3 (w3.alloc (.cells #[.slice a1 S.length k1,.int .i64 K] 42)):=by go_grown
  have x9:Box (w3.alloc (.cells #[.slice a1 S.length k1,.int .i64 K] 42)) (w3.heap.size) #[.slice a1 S.length k1,.int .i64 K] 42:=Box.new _ _ _;generalize (w3.alloc (.cells #[.slice a1 S.length k1,.int .i64 K] 42))=w4 at *;have P:=zh (P.out.below hb);have Q:=zh (Q.out.below hb);have X1:=zh (X1.out.below' hb);have R1:=zh (R1.out.below hb);have HB:=zh (HB.out.trans (hb.mono HB.out.size));clear hb;have X9:=zh x9;clear x9;have e1:=zC (X1.out)
  go_wp2_with fail
  (with_reducible refine(H2.out _ P.out Q.out).mono ?_)
  rintro e w5 ⟨a2,n2,k2,rfl,rfl,hr,hb⟩;clear e1;have R2:=zh hr;clear hr;have P:=zh (P.out.below hb);have Q:=zh (Q.out.below hb);have X1:=zh (X1.out.below' hb);have R1:=zh (R1.out.below hb);have X9:=zh (X9.out.below' hb);have HB:=zh (HB.out.trans (hb.mono HB.out.size));clear hb
  go_upto_region 5 with fail
  have hb:Below w5.heap.size w5 (w5.alloc (.cells #[.slice a2 S.length k2,.int .i64 K] 42)):=by go_grown
  have x12:Box (w5.alloc (.cells #[.slice a2 S.length k2,.int .i64 K] 42)) (w5.heap.size) #[.slice a2 S.length k2,.int .i64 K] 42:=Box.new _ _ _;generalize (w5.alloc (.cells #[.slice a2 S.length k2,.int .i64 K] 42))=w6 at *;have P:=zh (P.out.below hb);have Q:=zh (Q.out.below hb);have X1:=zh (X1.out.below' hb);have R1:=zh (R1.out.below hb);have X9:=zh (X9.out.below' hb);have R2:=zh (R2.out.below hb);have HB:=zh (HB.out.trans (hb.mono HB.out.size));clear hb;have X12:=zh x12;clear x12;have e1:=zC (X1.out)
  go_wp2_with fail
  (with_reducible refine(H3.out _ P.out Q.out).mono ?_)
  rintro e w7 ⟨ra,rn,rc,rfl,hq1,hq2,hb⟩;clear e1;have P:=zh (P.out.below hb);have Q:=zh (Q.out.below hb);have X1:=zh (X1.out.below' hb);have R1:=zh (R1.out.below hb);have X9:=zh (X9.out.below' hb);have R2:=zh (R2.out.below hb);have X12:=zh (X12.out.below' hb);have HB:=zh (HB.out.trans (hb.mono HB.out.size));clear hb
  by_cases h0:X=0
  ·subst h0;replace hq1:=hq1 rfl;clear hq2;obtain⟨z1,z2,z3⟩:=HZ.out rfl;obtain⟨x,y,rfl,rfl,hx,hy⟩:=HTW.out z2;simp only[Int.toNat_natCast] at hq1;obtain⟨hrn,hop⟩:=hq1;have HPO:=zh hop;have HRN:=zh hrn;clear hop hrn;have hx0:=HX0.out;have e9:∀i,w7.cell? ⟨w3.heap.size,i,none⟩=(#[.slice a1 S.length k1,.int .i64 K]:Array Value)[i]?:=X9.out.cell;have e12:∀i,w7.cell? ⟨w5.heap.size,i,none⟩=(#[.slice a2 S.length k2,.int .i64 K]:Array Value)[i]?:=X12.out.cell;have t1:(fl==fl)=true:=by simp
   have t2:((0:Int)==(0:Int))=true:=by simp
   have t3:(fl != fl)=false:=by simp
   have t4:((0:Int) != (0:Int))=false:=by simp
   go_wp2_with fail
   (with_reducible refine(plans_same R1.out R2.out HL.out).mono ?_)
   rintro e w8 ⟨rfl,hb⟩;clear e9 e12;have P:=zh (P.out.below hb);have Q:=zh (Q.out.below hb);have X1:=zh (X1.out.below' hb);have R1:=zh (R1.out.below hb);have X9:=zh (X9.out.below' hb);have R2:=zh (R2.out.below hb);have X12:=zh (X12.out.below' hb);have HPO:=zh (HPO.out.below hb);have HB:=zh (HB.out.trans (hb.mono HB.out.size));clear hb;clear H1 H2 H3 HL;have HDB:=zh (fun W h1 h2=>doubtedR9_any (c:=c) (l:=l) hsc z1 pa pc qa qc hx hy W h1 h2);have HSS:=zh (fun s (hs:s∈proofSets c l x y)=>(⟨(dbt_good z1 hx hy (proofSets_open hs).1 (proofSets_open hs).2),by have:=(sets_in (proofSets_open hs).1).2;have:=(probes_ok z1).2.1;omega⟩:((dbtOf c l x y s).probes=natInts s∧doubtedB c l x y (dbtOf c l x y s)=true)∧s.length≤1000))
   have HCD:=zh (fun D (g2:doubtedB c l x y D=true) a1 a2 a3 a4 c1 c2 c3 c4 W h1 h2 h3=>checkDoubt_good (c:=c) (l:=l) (pa:=pa) (pc:=pc) (qa:=qa) (qc:=qc) hsc hx0 D g2 a1 a2 a3 a4 c1 c2 c3 c4 W h1 h2 h3);have hpl:(proofSets c l x y).length≤1000:=by
    have h1:(proofSets c l x y).length≤(proofAll c l x y).length:=List.length_filter_le _ _;have h2:(proofAll c l x y).length≤(setsOf l.length).length:=by
     unfold proofAll
     split
     ·exact List.length_filter_le _ _
     ·exact Nat.le_refl _
    have h3:=sets_len (m:=l.length) (probes_ok z1).2.1
    omega
   have hrn:rn=(proofSets c l x y).length:=by rw[HRN.out];simp[proofOf]
   clear HRN;subst hrn;have HPA:=zh (fun k s (hs:(proofSets c l x y)[k]?=some s)=>show(proofOf c l x y)[k]?=some (dbtOf c l x y s) by unfold proofOf;rw[List.getElem?_map,hs];rfl);generalize proofSets c l x y=PS at *;generalize proofOf c l x y=PO at *;clear z1 z2 z3 hx hy hx0 HZ HTW HX0 hsc;have e1:=zC (X1.out)
   go_wp2_with fail
   (with_reducible refine(HDB.out _ P.out Q.out).mono ?_)
   rintro e w9 ⟨da,dc,rfl,hr,hb⟩;clear e1;have RD:=zh hr;clear hr;have P:=zh (P.out.below hb);have Q:=zh (Q.out.below hb);have X1:=zh (X1.out.below' hb);have HPO:=zh (HPO.out.below hb);have HB:=zh (HB.out.trans (hb.mono HB.out.size));clear hb;clear HDB
   go_wp2_with fail
   go_loopw [18] (fun iv wr=>∃k:Nat,k≤PS.length∧iv = .int .i64 k∧Below w9.heap.size w9 wr) (fun iv _=>PS.length-(intOf iv).toNat)
   case atStart=>exact⟨0,Nat.zero_le _,rfl,Below.refl _ _⟩
   case round=>
    obtain⟨k,hk,rfl,hbw⟩:=hrel;have HBW:=zh hbw;clear hbw
    by_cases hlt:k<PS.length
    ·obtain⟨s,hs⟩:=get_of_lt PS hlt;have hkl:(k:Int)<(PS.length:Int):=by omega
     obtain⟨⟨g1,g2⟩,hsl⟩:=HSS.out s (List.mem_of_getElem? hs);have hpk:=HPA.out k s hs;generalize dbtOf c l x y s=D at *
     go_upto_region 16 with fail
     have hbd:Below wr.heap.size wr wr.drew:=(Below.refl _ wr).drew;have hb6:=HBW.out.trans (hbd.mono HBW.out.size);obtain⟨b1,o1,a1,c1,a2,c2,a3,c3,a4,c4,hba,d1,d2,d3,d4,hop⟩:=(HPO.out.below hb6) k D hpk;obtain⟨b2,o2,ra2,rc2,hbb,d5,hsi,_⟩:=(RD.out.below hb6) k s hs;subst hba;subst hbb;have HC:=zh (HCD.out D g2 a1 a2 a3 a4 c1 c2 c3 c4 wr.drew (P.out.below hb6) (Q.out.below hb6) hop);have HI:=zh (opn_ints hop).1;have HS2:=zh hsi;have HG1:=zh g1;have HSL:=zh hsl;have hX1:=X1.out.below' hb6
     have K0:Hid (∀A,Below wr.drew.heap.size wr.drew A→cC A (w.heap.size) c pa pc∧A.cell? ⟨b1,o1+k*4,none⟩=some (.slice a1 D.probes.length c1)∧A.cell? ⟨b1,o1+k*4+1,none⟩=some (.slice a2 D.found.length c2)∧A.cell? ⟨b1,o1+k*4+2,none⟩=some (.slice a3 D.tog.length c3)∧A.cell? ⟨b1,o1+k*4+3,none⟩=some (.slice a4 D.apt.length c4)∧A.cell? ⟨b2,o2+k,none⟩=some (.slice ra2 s.length rc2)):=
      zh fun A hA=>⟨(hX1.below' hA).cell,below_cell hA d1,below_cell hA d2,below_cell hA d3,below_cell hA d4,below_cell hA d5⟩
     have HB6:=zh hb6;refine wp_region_L (fun A=>Below wr.drew.heap.size wr.drew A) 14 zK ?_;have hSS:Below wr.drew.heap.size wr.drew wr.drew:=Below.refl _ _;clear hbd hb6 d1 d2 d3 d4 d5 hop hsi g1 g2 hsl hX1 hs hpk HBW;generalize wr.drew=v6 at *;refine tM K0 0 hSS ?_;refine tM K0 1 hSS ?_;refine tM K0 2 hSS ?_;refine tM K0 3 hSS ?_;refine tM K0 4 hSS ?_;refine tM K0 5 hSS ?_;refine tM K0 6 hSS ?_;refine tM K0 7 hSS ?_;refine anyL_call (i:=8) (f:=29) (args:=#[.agg #[.string c.ware,.int .i64 c.limit,.int .i64 c.by_,.slice pa c.parts.length pc],.slice qa l.length qc,.int .i64 (x:Int),.int .i64 (y:Int),.agg #[.slice a1 D.probes.length c1,.slice a2 D.found.length c2,.slice a3 D.tog.length c3,.slice a4 D.apt.length c4]]) rfl zK (by rfl) (by go_simp) HC.out ?_;rintro e7 v7 ⟨rfl,hb7⟩;refine .inl ⟨_,rfl,.inr hb7,?_⟩
     try simp only[pZ]
     have hSS:=hb7;refine tM K0 9 hSS ?_;refine tM K0 10 hSS ?_;refine tM K0 11 hSS ?_;refine tM K0 12 hSS ?_;refine tM K0 13 hSS ?_;refine anyL_done zK ?_ _;have HB7:=zh (HB6.out.trans (hb7.mono HB6.out.size));have HSB:=zh hb7;clear hSS hb7 HC
     go_upto_region 17 with fail
     refine wp_region_L (fun A=>Below v6.heap.size v6 A) 19 zK ?_;have hSS:Below v6.heap.size v6 v7.drew:=HSB.out.drew;refine tM K0 0 hSS ?_;refine tM K0 1 hSS ?_;refine tM K0 2 hSS ?_;refine tM K0 3 hSS ?_;refine tM K0 4 hSS ?_;refine tM K0 5 hSS ?_;refine tM K0 6 hSS ?_;refine tM K0 7 hSS ?_;refine tM K0 8 hSS ?_;refine tM K0 9 hSS ?_;refine tM K0 10 hSS ?_;refine tM K0 11 hSS ?_;refine tM K0 12 hSS ?_;refine tM K0 13 hSS ?_;refine tM K0 14 hSS ?_;refine tM K0 15 hSS ?_;refine anyL_call (i:=16) (f:=30) (args:=#[.slice a1 D.probes.length c1,.slice ra2 s.length rc2]) rfl zK (by rfl) (by go_simp) (same_nats (s:=s) (by rw[←HG1.out];exact HI.out.below hSS) (HS2.out.below hSS) (by rw[HG1.out,nat_len]) rfl (by have:=HSL.out;omega)) ?_;rintro e8 v8 ⟨rfl,hb8⟩;have hSS:=hSS.trans (hb8.mono hSS.size);refine .inl ⟨_,rfl,.inr hSS,?_⟩
     try simp only[pZ]
     refine tM K0 17 hSS ?_;refine tM K0 18 hSS ?_;refine anyL_done zK ?_ _;have HB8:=zh (HB6.out.trans (hSS.mono HB6.out.size));clear hSS hb8 K0
     go_wp2_with fail
     go_roundw
     case rel=>exact⟨k+1,zO,zN,HB8.out⟩
     case measure=>simp[intOf];omega
    ·go_wp2_with fail
     (with_reducible refine(HSO.out _).mono ?_)
     rintro e v7 ⟨rfl,hb⟩;have HE:=zh ((HB.out.trans (HBW.out.mono HB.out.size)).trans (hb.mono (Nat.le_trans HB.out.size HBW.out.size)));clear hb
     go_wp2_with fail
     go_ret
     exact⟨rfl,HE.out⟩
  ·have hXb:(X==0)=false:=by simpa using h0
   have hXn:(X != 0)=true:=by simpa using h0
   obtain rfl:=hq2 h0;clear hq1 hq2;have e9:∀i,w7.cell? ⟨w3.heap.size,i,none⟩=(#[.slice a1 S.length k1,.int .i64 K]:Array Value)[i]?:=X9.out.cell;have e12:∀i,w7.cell? ⟨w5.heap.size,i,none⟩=(#[.slice a2 S.length k2,.int .i64 K]:Array Value)[i]?:=X12.out.cell;have t1:(fl==fl)=true:=by simp
   have t2:(X==X)=true:=by simp
   have t3:(fl != fl)=false:=by simp
   have t4:(X != X)=false:=by simp
   go_wp2_with fail
   (with_reducible refine(plans_same R1.out R2.out HL.out).mono ?_)
   rintro e w8 ⟨rfl,hb⟩;clear e9 e12;have P:=zh (P.out.below hb);have Q:=zh (Q.out.below hb);have X1:=zh (X1.out.below' hb);have R1:=zh (R1.out.below hb);have X9:=zh (X9.out.below' hb);have R2:=zh (R2.out.below hb);have X12:=zh (X12.out.below' hb);have HB:=zh (HB.out.trans (hb.mono HB.out.size));clear hb;clear H1 H2 H3 HL;clear h0 hsc HZ HTW HX0
   go_wp2_with fail
   (with_reducible refine(HSO.out _).mono ?_)
   rintro e w9 ⟨rfl,hb⟩;have P:=zh (P.out.below hb);have Q:=zh (Q.out.below hb);have X1:=zh (X1.out.below' hb);have HB:=zh (HB.out.trans (hb.mono HB.out.size));clear hb
   go_wp2_with fail
   go_ret
   exact⟨rfl,HB.out⟩
end Go.Proofs.YtjgldeeianionaaGreat
namespace Go.Proofs.YtjgldeeianionaaGreat.ProbeCheapestEnd
open Go.ChangeShapes Go.WideShapes Go.ChangeAt Go.RowKit
theorem own:ownKnob Tryz.prog.godebug=none:=zK
theorem lifted (os:Os)(started:os.Started)(H:Type)(enc:TypeId×Value→H):
 ReturnsInHanded {} Tryz.checked os 4 .any (Rows.probeCheapestSpec.pre6 enc Tryz.prog Tryz.f4 Rows.probeCheapestRow.domain false) (Rows.probeCheapestSpec.post enc Tryz.prog Tryz.f4 false true false false):=by
 refine returnsInHanded_of_change (C:=Tryz.checked) own started zK Tryz.func4
  (ChangeSpec.witness6 (enc:=enc) (C:=Tryz.checked) false ⟨#[],#[.agg #[.string ⟨#[]⟩,.int .i64 0,.int .i64 0,.slice none 0 0],.slice none 0 0,.int .i64 0,.int .i64 0],[]⟩ 8 zK zK zK zK) ?_
 intro W base args ds gs before hval0 hW hcnd _;have hval:∀(j:Nat) t v,Tryz.f4.params[j]?=some t→args[j]?=some v→Value.okWide Tryz.prog W .any base t v:=hval0;have hW':=hW;obtain⟨p,q,hA0,hV,rfl,hfz,hnd⟩:=hW;have hA:DataW.TrodAll enc Tryz.prog W 0 (fun _=>true) true Tryz.f4.params.toList args.toList ds p:=hA0;rw[Tryz.params4] at hA hval;obtain⟨v0,vs0,d0,ds0,p0,q0,hargs,rfl,rfl,h0,r0⟩:=trodAll_cons hA;obtain⟨v1,vs1,d1,ds1,p1,q1,rfl,rfl,rfl,h1,r1⟩:=trodAll_cons r0;obtain⟨v2,vs2,d2,ds2,p2,q2,rfl,rfl,rfl,h2,r2⟩:=trodAll_cons r1;obtain⟨v3,vs3,d3,ds3,p3,q3,rfl,rfl,rfl,h3,r3⟩:=trodAll_cons r2;obtain⟨rfl,rfl,rfl⟩:=trodAll_nil r3;obtain rfl:args = #[v0,v1,v2,v3]:=by cases args;simp_all
 obtain⟨rfl,rfl⟩:=trodVars_none hV;obtain⟨c0,pa0,pc0,rfl,hp0,hpc0,hfit0,hlw0⟩:=case_of (hval 0 _ v0 rfl rfl) h0;obtain⟨a1,l1,k1,rfl,hi1,hk1,hm1⟩:=prbs_arg (hval 1 _ v1 rfl rfl) h1;obtain⟨a2,rfl,rfl,rfl,w2⟩:=open_int Tryz.underlying3 (hval 2 _ v2 rfl rfl) h2;obtain⟨a3,rfl,rfl,rfl,w3⟩:=open_int Tryz.underlying3 (hval 3 _ v3 rfl rfl) h3;clear hA0 hval0;refine(probeCheapest_any c0 hfit0 pa0 pc0 hpc0 a1 l1 k1 hk1 hm1 a2 w2 a3 w3 W hp0 hi1).mono fun e W' ⟨he,hb⟩=>?_
 subst he;exact⟨_,rfl,law_post rfl rfl (of_decide_eq_true zK) hW' rfl rfl rfl hb⟩
theorem over:Rows.probeCheapestRow.holds Tryz.pinned (OpenSpec.ofChange Rows.probeCheapestSpec):=
 OpenClaim.holds_of_wide 4 Tryz.f4 rfl rfl rfl rfl rfl rfl rfl ⟨rfl,rfl,rfl,rfl,rfl⟩ rfl rfl rfl rfl rfl zK Tryz.func4 zK
  (of_decide_eq_true zK) (by unfold Func.isWrapper;first|(rw[if_pos (by decide +kernel)];kernel_rfl)|(rw[if_neg (by decide +kernel)];exact⟨rfl,rfl⟩))
  (fun os started H enc _=>lifted os started H enc)
theorem proved:Rows.ProbeCheapestSaid:=
 over
#print axioms proved
end Go.Proofs.YtjgldeeianionaaGreat.ProbeCheapestEnd
