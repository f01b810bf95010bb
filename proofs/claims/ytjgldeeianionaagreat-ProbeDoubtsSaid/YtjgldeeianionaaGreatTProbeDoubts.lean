/- ProbeDoubts: a doubt is handed out just where the set does not decide, with the first findings, and the reference accepts it: the law returns true for every input, and its arguments read as before. No condition. -/
import Derived.ProofKit
import Derived.JoinedCond
import Derived.Test.YtjgldeeianionaaGreatT36
import Derived.Test.YtjgldeeianionaaGreatT44
import Derived.Test.YtjgldeeianionaaGreatT48
import Derived.Test.YtjgldeeianionaaGreatT01
set_option maxHeartbeats 4000000
set_option maxRecDepth 100000
set_option linter.unusedSimpArgs false
set_option linter.unusedVariables false
namespace Go.Proofs.YtjgldeeianionaaGreat
open Go.RowKit
attribute [local go_sem] Oper.semAt_some
theorem probeDoubts_any (c:Cs)(hf:c.Fit)(pa:Option Addr)(pc:Nat)(_:c.parts.length≤pc)(qa:Option Addr)(l:List Prb)(qc:Nat)(hlk:l.length≤qc)(hlm:qc≤maxLen)(a:Int)(_:(Lit.int .i64 a).wf=true)(b:Int)(_:(Lit.int .i64 b).wf=true)(sa:Option Addr)(S:List Int)(sc:Nat)(hsk:S.length≤sc)(hsm:sc≤maxLen)(w:World)(hp:PartsAt w pa c.parts)(hq:PrbsAt w qa l)(hS:Ints w sa S):
 Calls Tryz.prog 8 #[.agg #[.string c.ware,.int .i64 c.limit,.int .i64 c.by_,.slice pa c.parts.length pc],.slice qa l.length qc,.int .i64 a,.int .i64 b,.slice sa S.length sc] w fun e w'=>e = .returned (.bool true)∧Below w.heap.size w w':=by
 obtain⟨w1,hw1,hB1,b1⟩:=box_case9 w c pa pc;have HFW:=zh (few9_any c hf pa pc l (Nat.le_trans hlk hlm) qa qc w1 (hp.below hB1) (hq.below hB1));have HW:=zh hw1;have P:=zh (hp.below hB1);have Q:=zh (hq.below hB1);have RS:=zh (hS.below hB1);have X1:=zh b1;have HB:=zh hB1;have HSO:=zh sounds_any;clear hw1 hB1 b1 hp hq hS;have e1:=zC (X1.out)
 go_enter Tryz.func8,Tryz.ntmps8
 go_upto_region 1 with fail
 simp only[HW.out]
 go_wp2_with fail
 refine zM HFW ?_;rintro e w2 ⟨⟨fb,rfl,hfb⟩,hb⟩;clear e1;have P:=zh (P.out.below hb);have Q:=zh (Q.out.below hb);have RS:=zh (RS.out.below hb);have X1:=zh (X1.out.below' hb);have HB:=zh (HB.out.trans (hb.mono HB.out.size));clear hb HFW hf;cases fb
 all_goals have HSH:=zh (fun W (a:Option Addr) (cap:Nat) (h:Row W a [.slice sa S.length sc])=>short_one (w:=W) (a:=a) (cap:=cap) h (Nat.le_trans hsk hsm))
 ·clear hfb
  go_wp2_with fail
  (with_reducible refine(HSO.out _).mono ?_)
  rintro e w3 ⟨rfl,hb⟩;have P:=zh (P.out.below hb);have Q:=zh (Q.out.below hb);have RS:=zh (RS.out.below hb);have X1:=zh (X1.out.below' hb);have HB:=zh (HB.out.trans (hb.mono HB.out.size));clear hb
  go_wp2_with fail
  go_ret
  exact⟨rfl,HB.out⟩
 ·have hsc:=(hfb rfl).1;clear hfb
  rcases hsh:decide (S.length≤20) with _|_
  ·rw[hsh] at HSH;clear hsh;have hbq:Below w2.heap.size w2 (w2.alloc (.cells #[.slice sa S.length sc] 26)):=by go_grown
   go_wp2_with fail
   (with_reducible refine(HSH.out _ _ _ (lit_row9 (Box.new _ _ _))).mono ?_)
   rintro e w3 ⟨rfl,hb0⟩;have hb:=hbq.trans (hb0.mono hbq.size);clear hbq hb0;have P:=zh (P.out.below hb);have Q:=zh (Q.out.below hb);have RS:=zh (RS.out.below hb);have X1:=zh (X1.out.below' hb);have HB:=zh (HB.out.trans (hb.mono HB.out.size));clear hb
   go_wp2_with fail
   (with_reducible refine(HSO.out _).mono ?_)
   rintro e w4 ⟨rfl,hb⟩;have P:=zh (P.out.below hb);have Q:=zh (Q.out.below hb);have RS:=zh (RS.out.below hb);have X1:=zh (X1.out.below' hb);have HB:=zh (HB.out.trans (hb.mono HB.out.size));clear hb
   go_wp2_with fail
   go_ret
   exact⟨rfl,HB.out⟩
  ·rw[hsh] at HSH;have hs20:S.length≤20:=of_decide_eq_true hsh;clear hsh;have HD:=zh (fun W h1 h2 h3=>(doubtX_any c hsc pa pc l qa qc a b sa S sc zO W h1 h2 h3).mono fun e w' h=>doubt_val h);have HB2:=zh (fun W h1 h2 h3=>askedPairR9_any c hsc pa pc l qa qc a b sa S sc zO W h1 h2 h3);have HZ:=zh (fun h=>xErr_zero (c:=c) (l:=l) (ok:=twoB c.parts.length a b&&setB l.length S) h);obtain⟨X,hX⟩:=zx (xErr c l (twoB c.parts.length a b&&setB l.length S));rw[hX] at HD HB2 HZ;have hbq:Below w2.heap.size w2 (w2.alloc (.cells #[.slice sa S.length sc] 26)):=by go_grown
   go_wp2_with fail
   (with_reducible refine(HSH.out _ _ _ (lit_row9 (Box.new _ _ _))).mono ?_)
   rintro e w3 ⟨rfl,hb0⟩;have hb:=hbq.trans (hb0.mono hbq.size);clear hbq hb0;have P:=zh (P.out.below hb);have Q:=zh (Q.out.below hb);have RS:=zh (RS.out.below hb);have X1:=zh (X1.out.below' hb);have HB:=zh (HB.out.trans (hb.mono HB.out.size));clear hb
   by_cases h0:X=0
   ·subst h0;obtain⟨z1,z2,z3⟩:=HZ.out rfl;simp only[Bool.and_eq_true] at z2;obtain⟨z2,z4⟩:=z2;obtain⟨x,y,rfl,rfl,hx,hy⟩:=two_nats z2;have hx0:xErr c l (twoB c.parts.length (x:Int) (y:Int))=0:=xErr_ok z1 z2 z3;obtain⟨e4,e5⟩:=set_nats z4;have hsm4:=set_mem z4;have hl5:=(probes_ok z1).2.1;have hsl:(nats S).length=S.length:=by simp[nats]
    simp only[Int.toNat_natCast] at HD;have HF:=zh (fun W h1 h2 (h3:Ints W sa S)=>show Calls Tryz.prog 37 #[.agg #[.string c.ware,.int .i64 c.limit,.int .i64 c.by_,.slice pa c.parts.length pc],.slice qa l.length qc,.int .i64 (x:Int),.int .i64 (y:Int),.slice sa S.length sc] W (FirstRPost (doubtOf c l x y (nats S)) W) by
     have h:=firstR9_any hsc z1 pa pc qa qc hx hy sa (nats S) sc e5 (by have:=set_len z4;omega) W h1 h2 (by rw[←e4];exact h3)
     rwa [hsl] at h)
    rcases hdo:doubtOf c l x y (nats S) with _|f
    ·have hv:dbtV c l x y (nats S) 0=⟨[],[],[],[]⟩:=by unfold dbtV;rw[if_pos rfl];unfold dbtOf;rw[hdo]
     rw[hdo,hv] at HD;rw[hdo] at HF;simp only[List.length_nil] at HD;clear hv hdo z1 z2 z3 z4 hx hy hx0 e4 e5 hsm4 hl5 hsl hX hs20 hsc HSH HZ;have e1:=zC (X1.out)
     go_wp2_with fail
     (with_reducible refine(HD.out _ P.out Q.out RS.out).mono ?_)
     rintro e w4 ⟨a1,n1,c1,a2,n2,c2,a3,n3,c3,a4,n4,c4,rfl,rfl,rfl,rfl,rfl,hopn,hb⟩;clear e1;have P:=zh (P.out.below hb);have Q:=zh (Q.out.below hb);have RS:=zh (RS.out.below hb);have X1:=zh (X1.out.below' hb);have HB:=zh (HB.out.trans (hb.mono HB.out.size));clear hb;clear hopn
     go_upto_region 4 with fail
     have hb:Below w4.heap.size w4 (w4.alloc (.cells #[.slice a1 0 c1,.slice a2 0 c2,.slice a3 0 c3,.slice a4 0 c4] 53)):=by go_grown
     have x11:Box (w4.alloc (.cells #[.slice a1 0 c1,.slice a2 0 c2,.slice a3 0 c3,.slice a4 0 c4] 53)) (w4.heap.size) #[.slice a1 0 c1,.slice a2 0 c2,.slice a3 0 c3,.slice a4 0 c4] 53:=Box.new _ _ _;generalize (w4.alloc (.cells #[.slice a1 0 c1,.slice a2 0 c2,.slice a3 0 c3,.slice a4 0 c4] 53))=w5 at *;have P:=zh (P.out.below hb);have Q:=zh (Q.out.below hb);have RS:=zh (RS.out.below hb);have X1:=zh (X1.out.below' hb);have HB:=zh (HB.out.trans (hb.mono HB.out.size));clear hb;have X11:=zh x11;clear x11;have e1:=zC (X1.out)
     go_wp2_with fail
     (with_reducible refine(HB2.out _ P.out Q.out RS.out).mono ?_)
     rintro e w6 ⟨rfl,hb⟩;clear e1;have P:=zh (P.out.below hb);have Q:=zh (Q.out.below hb);have RS:=zh (RS.out.below hb);have X1:=zh (X1.out.below' hb);have X11:=zh (X11.out.below' hb);have HB:=zh (HB.out.trans (hb.mono HB.out.size));clear hb;have e1:=zC (X1.out)
     go_wp2_with fail
     (with_reducible refine(HF.out _ P.out Q.out RS.out).mono ?_)
     rintro e w7 ⟨hb,(⟨_,rfl⟩|⟨x2,ra2,rc2,h2,_,_⟩)⟩;rotate_left
     ·cases h2
     clear e1;have P:=zh (P.out.below hb);have Q:=zh (Q.out.below hb);have RS:=zh (RS.out.below hb);have X1:=zh (X1.out.below' hb);have X11:=zh (X11.out.below' hb);have HB:=zh (HB.out.trans (hb.mono HB.out.size));clear hb
     go_wp2_with fail
     (with_reducible refine(HSO.out _).mono ?_)
     rintro e w8 ⟨rfl,hb⟩;have P:=zh (P.out.below hb);have Q:=zh (Q.out.below hb);have RS:=zh (RS.out.below hb);have X1:=zh (X1.out.below' hb);have X11:=zh (X11.out.below' hb);have HB:=zh (HB.out.trans (hb.mono HB.out.size));clear hb;have e11:∀i,w8.cell? ⟨w4.heap.size,i,none⟩=(#[.slice a1 0 c1,.slice a2 0 c2,.slice a3 0 c3,.slice a4 0 c4]:Array Value)[i]?:=X11.out.cell
     go_wp2_with fail
     go_ret
     exact⟨rfl,HB.out⟩
    ·have hdf:decidesB c l x y (nats S)=false:=by simp[decidesB,hdo]
     obtain⟨g1,g2⟩:=dbt_good z1 hx hy hsm4 hdf;have g3:=dbt_found hdo;have hv:dbtV c l x y (nats S) 0=dbtOf c l x y (nats S):=by unfold dbtV;rw[if_pos rfl]
     rw[hdo,hv] at HD;rw[hdo] at HF;obtain⟨D,hD⟩:=zx (dbtOf c l x y (nats S));rw[hD] at HD g1 g2 g3;rw[←e4] at g1;have HG1:=zh g1;have HG3:=zh g3;have HCD:=zh (fun a1 a2 a3 a4 c1 c2 c3 c4 W h1 h2 h3=>checkDoubt_good (c:=c) (l:=l) (pa:=pa) (pc:=pc) (qa:=qa) (qc:=qc) hsc hx0 D g2 a1 a2 a3 a4 c1 c2 c3 c4 W h1 h2 h3);have HFL:=zh (show f.length≤1000000 by have h:=(small_good z1 g2).2.1;rw[g3,nat_len] at h;omega);have HSL:=zh hs20;clear hv hdo z1 z2 z3 z4 hx hy hx0 e4 e5 hsm4 hl5 hsl hX hs20 hsc HSH HZ hD g1 g2 g3 hdf;have e1:=zC (X1.out)
     go_wp2_with fail
     (with_reducible refine(HD.out _ P.out Q.out RS.out).mono ?_)
     rintro e w4 ⟨a1,n1,c1,a2,n2,c2,a3,n3,c3,a4,n4,c4,rfl,rfl,rfl,rfl,rfl,hopn,hb⟩;clear e1;have RO:=zh hopn;clear hopn;have P:=zh (P.out.below hb);have Q:=zh (Q.out.below hb);have RS:=zh (RS.out.below hb);have X1:=zh (X1.out.below' hb);have HB:=zh (HB.out.trans (hb.mono HB.out.size));clear hb
     go_upto_region 4 with fail
     have hb:Below w4.heap.size w4 (w4.alloc (.cells #[.slice a1 D.probes.length c1,.slice a2 D.found.length c2,.slice a3 D.tog.length c3,.slice a4 D.apt.length c4] 53)):=by go_grown
     have x11:Box (w4.alloc (.cells #[.slice a1 D.probes.length c1,.slice a2 D.found.length c2,.slice a3 D.tog.length c3,.slice a4 D.apt.length c4] 53)) (w4.heap.size) #[.slice a1 D.probes.length c1,.slice a2 D.found.length c2,.slice a3 D.tog.length c3,.slice a4 D.apt.length c4] 53:=Box.new _ _ _;generalize (w4.alloc (.cells #[.slice a1 D.probes.length c1,.slice a2 D.found.length c2,.slice a3 D.tog.length c3,.slice a4 D.apt.length c4] 53))=w5 at *;have P:=zh (P.out.below hb);have Q:=zh (Q.out.below hb);have RS:=zh (RS.out.below hb);have X1:=zh (X1.out.below' hb);have RO:=zh (RO.out.below hb);have HB:=zh (HB.out.trans (hb.mono HB.out.size));clear hb;have X11:=zh x11;clear x11;have e1:=zC (X1.out)
     go_wp2_with fail
     (with_reducible refine(HB2.out _ P.out Q.out RS.out).mono ?_)
     rintro e w6 ⟨rfl,hb⟩;clear e1;have P:=zh (P.out.below hb);have Q:=zh (Q.out.below hb);have RS:=zh (RS.out.below hb);have X1:=zh (X1.out.below' hb);have RO:=zh (RO.out.below hb);have X11:=zh (X11.out.below' hb);have HB:=zh (HB.out.trans (hb.mono HB.out.size));clear hb;have e1:=zC (X1.out)
     go_wp2_with fail
     (with_reducible refine(HF.out _ P.out Q.out RS.out).mono ?_)
     rintro e w7 ⟨hb,(⟨h2,_⟩|⟨x2,ra2,rc2,h2,rfl,hi2⟩)⟩
     ·cases h2
     cases h2;clear e1;have RF:=zh hi2;clear hi2;have P:=zh (P.out.below hb);have Q:=zh (Q.out.below hb);have RS:=zh (RS.out.below hb);have X1:=zh (X1.out.below' hb);have RO:=zh (RO.out.below hb);have X11:=zh (X11.out.below' hb);have HB:=zh (HB.out.trans (hb.mono HB.out.size));clear hb;have e11:∀i,w7.cell? ⟨w4.heap.size,i,none⟩=(#[.slice a1 D.probes.length c1,.slice a2 D.found.length c2,.slice a3 D.tog.length c3,.slice a4 D.apt.length c4]:Array Value)[i]?:=X11.out.cell;have e1:=zC (X1.out)
     go_wp2_with fail
     (with_reducible refine(HCD.out a1 a2 a3 a4 c1 c2 c3 c4 _ P.out Q.out RO.out).mono ?_)
     rintro e w8 ⟨rfl,hb⟩;clear e11 e1;have P:=zh (P.out.below hb);have Q:=zh (Q.out.below hb);have RS:=zh (RS.out.below hb);have X1:=zh (X1.out.below' hb);have RO:=zh (RO.out.below hb);have X11:=zh (X11.out.below' hb);have RF:=zh (RF.out.below hb);have HB:=zh (HB.out.trans (hb.mono HB.out.size));clear hb
     go_wp2_with fail
     (with_reducible refine(HSO.out _).mono ?_)
     rintro e w9 ⟨rfl,hb⟩;have P:=zh (P.out.below hb);have Q:=zh (Q.out.below hb);have RS:=zh (RS.out.below hb);have X1:=zh (X1.out.below' hb);have RO:=zh (RO.out.below hb);have X11:=zh (X11.out.below' hb);have RF:=zh (RF.out.below hb);have HB:=zh (HB.out.trans (hb.mono HB.out.size));clear hb;have e11:∀i,w9.cell? ⟨w4.heap.size,i,none⟩=(#[.slice a1 D.probes.length c1,.slice a2 D.found.length c2,.slice a3 D.tog.length c3,.slice a4 D.apt.length c4]:Array Value)[i]?:=X11.out.cell;have hs1:=same_ref a1 sa c1 sc D.probes S w9 (opn_ints RO.out).1 RS.out (by rw[HG1.out];have:=HSL.out;omega) (by have:=HSL.out;omega);have HS1:=zh hs1;clear hs1
     go_wp2_with fail
     (with_reducible refine(HS1.out).mono ?_)
     rintro e w10 ⟨rfl,hb⟩;clear e11;have P:=zh (P.out.below hb);have Q:=zh (Q.out.below hb);have RS:=zh (RS.out.below hb);have X1:=zh (X1.out.below' hb);have RO:=zh (RO.out.below hb);have X11:=zh (X11.out.below' hb);have RF:=zh (RF.out.below hb);have HB:=zh (HB.out.trans (hb.mono HB.out.size));clear hb;have hdd:decide (D.probes=S)=true:=decide_eq_true HG1.out;rw[hdd];clear hdd;have e11:∀i,w10.cell? ⟨w4.heap.size,i,none⟩=(#[.slice a1 D.probes.length c1,.slice a2 D.found.length c2,.slice a3 D.tog.length c3,.slice a4 D.apt.length c4]:Array Value)[i]?:=X11.out.cell;have HS2:=zh (same_nats (s:=f) (n:=D.found.length) (m:=f.length) (ra:=a2) (sa:=ra2) (rc:=c2) (sc:=rc2) (by rw[←HG3.out];exact(opn_ints RO.out).2.1) RF.out (by rw[HG3.out,nat_len]) rfl HFL.out)
     go_wp2_with fail
     (with_reducible refine(HS2.out).mono ?_)
     rintro e w11 ⟨rfl,hb⟩;clear e11;have P:=zh (P.out.below hb);have Q:=zh (Q.out.below hb);have RS:=zh (RS.out.below hb);have X1:=zh (X1.out.below' hb);have RO:=zh (RO.out.below hb);have X11:=zh (X11.out.below' hb);have RF:=zh (RF.out.below hb);have HB:=zh (HB.out.trans (hb.mono HB.out.size));clear hb
     go_wp2_with fail
     go_ret
     exact⟨rfl,HB.out⟩
   ·have hXb:(X==0)=false:=by simpa using h0
    have hXn:(X != 0)=true:=by simpa using h0
    have hv:dbtV c l a.toNat b.toNat (nats S) X=⟨[],[],[],[]⟩:=by unfold dbtV;rw[if_neg h0]
    rw[hv,hXb,Bool.false_and] at HD;simp only[List.length_nil] at HD;clear hv h0 hX hXb hsc hs20 HZ HSH;have e1:=zC (X1.out)
    go_wp2_with fail
    (with_reducible refine(HD.out _ P.out Q.out RS.out).mono ?_)
    rintro e w4 ⟨a1,n1,c1,a2,n2,c2,a3,n3,c3,a4,n4,c4,rfl,rfl,rfl,rfl,rfl,hopn,hb⟩;clear e1;have P:=zh (P.out.below hb);have Q:=zh (Q.out.below hb);have RS:=zh (RS.out.below hb);have X1:=zh (X1.out.below' hb);have HB:=zh (HB.out.trans (hb.mono HB.out.size));clear hb;clear hopn
    go_upto_region 4 with fail
    have hb:Below w4.heap.size w4 (w4.alloc (.cells #[.slice a1 0 c1,.slice a2 0 c2,.slice a3 0 c3,.slice a4 0 c4] 53)):=by go_grown
    have x11:Box (w4.alloc (.cells #[.slice a1 0 c1,.slice a2 0 c2,.slice a3 0 c3,.slice a4 0 c4] 53)) (w4.heap.size) #[.slice a1 0 c1,.slice a2 0 c2,.slice a3 0 c3,.slice a4 0 c4] 53:=Box.new _ _ _;generalize (w4.alloc (.cells #[.slice a1 0 c1,.slice a2 0 c2,.slice a3 0 c3,.slice a4 0 c4] 53))=w5 at *;have P:=zh (P.out.below hb);have Q:=zh (Q.out.below hb);have RS:=zh (RS.out.below hb);have X1:=zh (X1.out.below' hb);have HB:=zh (HB.out.trans (hb.mono HB.out.size));clear hb;have X11:=zh x11;clear x11;have e1:=zC (X1.out)
    go_wp2_with fail
    (with_reducible refine(HB2.out _ P.out Q.out RS.out).mono ?_)
    rintro e w6 ⟨rfl,hb⟩;clear e1;have P:=zh (P.out.below hb);have Q:=zh (Q.out.below hb);have RS:=zh (RS.out.below hb);have X1:=zh (X1.out.below' hb);have X11:=zh (X11.out.below' hb);have HB:=zh (HB.out.trans (hb.mono HB.out.size));clear hb
    go_wp2_with fail
    (with_reducible refine(HSO.out _).mono ?_)
    rintro e w7 ⟨rfl,hb⟩;have P:=zh (P.out.below hb);have Q:=zh (Q.out.below hb);have RS:=zh (RS.out.below hb);have X1:=zh (X1.out.below' hb);have X11:=zh (X11.out.below' hb);have HB:=zh (HB.out.trans (hb.mono HB.out.size));clear hb;have e11:∀i,w7.cell? ⟨w4.heap.size,i,none⟩=(#[.slice a1 0 c1,.slice a2 0 c2,.slice a3 0 c3,.slice a4 0 c4]:Array Value)[i]?:=X11.out.cell;have t1:(X==X)=true:=by simp
    go_wp2_with fail
    go_ret
    exact⟨rfl,HB.out⟩
end Go.Proofs.YtjgldeeianionaaGreat
namespace Go.Proofs.YtjgldeeianionaaGreat.ProbeDoubtsEnd
open Go.ChangeShapes Go.WideShapes Go.ChangeAt Go.RowKit
theorem own:ownKnob Tryz.prog.godebug=none:=zK
theorem lifted (os:Os)(started:os.Started)(H:Type)(enc:TypeId×Value→H):
 ReturnsInHanded {} Tryz.checked os 8 .any (Rows.probeDoubtsSpec.pre6 enc Tryz.prog Tryz.f8 Rows.probeDoubtsRow.domain false) (Rows.probeDoubtsSpec.post enc Tryz.prog Tryz.f8 false true false false):=by
 refine returnsInHanded_of_change (C:=Tryz.checked) own started zK Tryz.func8
  (ChangeSpec.witness6 (enc:=enc) (C:=Tryz.checked) false ⟨#[],#[.agg #[.string ⟨#[]⟩,.int .i64 0,.int .i64 0,.slice none 0 0],.slice none 0 0,.int .i64 0,.int .i64 0,.slice none 0 0],[]⟩ 8 zK zK zK zK) ?_
 intro W base args ds gs before hval0 hW hcnd _;have hval:∀(j:Nat) t v,Tryz.f8.params[j]?=some t→args[j]?=some v→Value.okWide Tryz.prog W .any base t v:=hval0;have hW':=hW;obtain⟨p,q,hA0,hV,rfl,hfz,hnd⟩:=hW;have hA:DataW.TrodAll enc Tryz.prog W 0 (fun _=>true) true Tryz.f8.params.toList args.toList ds p:=hA0;rw[Tryz.params8] at hA hval;obtain⟨v0,vs0,d0,ds0,p0,q0,hargs,rfl,rfl,h0,r0⟩:=trodAll_cons hA;obtain⟨v1,vs1,d1,ds1,p1,q1,rfl,rfl,rfl,h1,r1⟩:=trodAll_cons r0;obtain⟨v2,vs2,d2,ds2,p2,q2,rfl,rfl,rfl,h2,r2⟩:=trodAll_cons r1;obtain⟨v3,vs3,d3,ds3,p3,q3,rfl,rfl,rfl,h3,r3⟩:=trodAll_cons r2;obtain⟨v4,vs4,d4,ds4,p4,q4,rfl,rfl,rfl,h4,r4⟩:=trodAll_cons r3;obtain⟨rfl,rfl,rfl⟩:=trodAll_nil r4;obtain rfl:args = #[v0,v1,v2,v3,v4]:=by cases args;simp_all
 obtain⟨rfl,rfl⟩:=trodVars_none hV;obtain⟨c0,pa0,pc0,rfl,hp0,hpc0,hfit0,hlw0⟩:=case_of (hval 0 _ v0 rfl rfl) h0;obtain⟨a1,l1,k1,rfl,hi1,hk1,hm1⟩:=prbs_arg (hval 1 _ v1 rfl rfl) h1;obtain⟨a2,rfl,rfl,rfl,w2⟩:=open_int Tryz.underlying3 (hval 2 _ v2 rfl rfl) h2;obtain⟨a3,rfl,rfl,rfl,w3⟩:=open_int Tryz.underlying3 (hval 3 _ v3 rfl rfl) h3;obtain⟨a4,l4,k4,rfl,hi4,hk4,hm4⟩:=ints_arg (hval 4 _ v4 rfl rfl) h4;clear hA0 hval0;refine(probeDoubts_any c0 hfit0 pa0 pc0 hpc0 a1 l1 k1 hk1 hm1 a2 w2 a3 w3 a4 l4 k4 hk4 hm4 W hp0 hi1 hi4).mono fun e W' ⟨he,hb⟩=>?_
 subst he;exact⟨_,rfl,law_post rfl rfl (of_decide_eq_true zK) hW' rfl rfl rfl hb⟩
theorem over:Rows.probeDoubtsRow.holds Tryz.pinned (OpenSpec.ofChange Rows.probeDoubtsSpec):=
 OpenClaim.holds_of_wide 8 Tryz.f8 rfl rfl rfl rfl rfl rfl rfl ⟨rfl,rfl,rfl,rfl,rfl⟩ rfl rfl rfl rfl rfl zK Tryz.func8 zK
  (of_decide_eq_true zK) (by unfold Func.isWrapper;first|(rw[if_pos (by decide +kernel)];kernel_rfl)|(rw[if_neg (by decide +kernel)];exact⟨rfl,rfl⟩))
  (fun os started H enc _=>lifted os started H enc)
theorem proved:Rows.ProbeDoubtsSaid:=
 over
#print axioms proved
end Go.Proofs.YtjgldeeianionaaGreat.ProbeDoubtsEnd
