/- ProbeChecks: what the three checks answer is the reference's answer: the law returns true for every input, and its arguments read as before. No condition. -/
import Derived.Test.YtjgldeeianionaaGreatV45
set_option maxHeartbeats 4000000
set_option maxRecDepth 100000
set_option linter.unusedSimpArgs false
set_option linter.unusedVariables false
namespace Go.Proofs.YtjgldeeianionaaGreat
open Go.RowKit
section
attribute [local go_sem] Oper.semAt_some
theorem probeChecks_any (c:Cs)(hf:c.Fit)(pa:Option Addr)(pc:Nat)(_:c.parts.length≤pc)(qa:Option Addr)(l:List Prb)(qc:Nat)(hlk:l.length≤qc)(hlm:qc≤maxLen)(a:Int)(_:(Lit.int .i64 a).wf=true)(b:Int)(_:(Lit.int .i64 b).wf=true)(sa:Option Addr)(S:List Int)(sc:Nat)(hsk:S.length≤sc)(hsm:sc≤maxLen)(va:Option Addr)(V:List Ver)(vc:Nat)(hvk:V.length≤vc)(hvm:vc≤maxLen)(hvd:∀d∈V,d.ans<256∧d.found.length≤maxLen∧d.proof.length≤maxLen∧∀z∈d.proof,z.kind<256∧z.many.length≤maxLen)(cost:Int)(_:(Lit.int .i64 cost).wf=true)(oa:Option Addr)(D:List Opn)(oc:Nat)(hok:D.length≤oc)(hom:oc≤maxLen)(hod:∀d∈D,d.probes.length≤maxLen∧d.found.length≤maxLen∧d.tog.length≤maxLen∧d.apt.length≤maxLen)(w:World)(hp:PartsAt w pa c.parts)(hq:PrbsAt w qa l)(hS:Ints w sa S)(hV:VersAt w va V)(hD:OpnsAt w oa D):
 Calls Tryz.prog 9 #[.agg #[.string c.ware,.int .i64 c.limit,.int .i64 c.by_,.slice pa c.parts.length pc],.slice qa l.length qc,.int .i64 a,.int .i64 b,.slice sa S.length sc,.slice va V.length vc,.int .i64 cost,.slice oa D.length oc] w fun e w'=>e = .returned (.bool true)∧Below w.heap.size w w':=by
 obtain⟨w1,hw1,hB1,b1⟩:=box_case9 w c pa pc;have HFW:=zh (few9_any c hf pa pc l (Nat.le_trans hlk hlm) qa qc w1 (hp.below hB1) (hq.below hB1));have HW:=zh hw1;have P:=zh (hp.below hB1);have Q:=zh (hq.below hB1);have RS:=zh (hS.below hB1);have RV:=zh (hV.below hB1);have RD:=zh (hD.below hB1);have X1:=zh b1;have HB:=zh hB1;have HSO:=zh sounds_any;clear hw1 hB1 b1 hp hq hS hV hD;have e1:=zC (X1.out)
 go_enter Tryz.func9,Tryz.ntmps9
 go_upto_region 1 with fail
 simp only[HW.out]
 go_wp2_with fail
 refine zM HFW ?_;rintro e w2 ⟨⟨fb,rfl,hfb⟩,hb⟩;clear e1;have P:=zh (P.out.below hb);have Q:=zh (Q.out.below hb);have RS:=zh (RS.out.below hb);have RV:=zh (RV.out.below hb);have RD:=zh (RD.out.below hb);have X1:=zh (X1.out.below' hb);have HB:=zh (HB.out.trans (hb.mono HB.out.size));clear hb HFW hf;cases fb
 all_goals have HSH:=zh (fun W (a:Option Addr) (cap:Nat) (h:Row W a [.slice sa S.length sc])=>short_one (w:=W) (a:=a) (cap:=cap) h (Nat.le_trans hsk hsm))
 all_goals have HTR:=zh (fun W h1 h2=>tried9_any va V vc (Nat.le_trans hvk hvm) (fun v hv=>⟨(hvd v hv).2.1,(hvd v hv).2.2.1,fun z hz=>((hvd v hv).2.2.2 z hz).2⟩) oa D oc (Nat.le_trans hok hom) hod W h1 h2)
 all_goals have HVK:=zh (fun v (hv:v∈V)=>(⟨(hvd v hv).1,fun z hz=>((hvd v hv).2.2.2 z hz).1⟩:v.ans<256∧∀z∈v.proof,z.kind<256))
 all_goals clear hod hvd
 ·clear hfb
  go_wp2_with fail
  (with_reducible refine(HSO.out _).mono ?_)
  rintro e w3 ⟨rfl,hb⟩;have P:=zh (P.out.below hb);have Q:=zh (Q.out.below hb);have RS:=zh (RS.out.below hb);have RV:=zh (RV.out.below hb);have RD:=zh (RD.out.below hb);have X1:=zh (X1.out.below' hb);have HB:=zh (HB.out.trans (hb.mono HB.out.size));clear hb
  go_wp2_with fail
  go_ret
  exact⟨rfl,HB.out⟩
 ·have hsc:=(hfb rfl).1;clear hfb
  rcases hsh:decide (S.length≤20) with _|_
  ·rw[hsh] at HSH;clear hsh;have hbq:Below w2.heap.size w2 (w2.alloc (.cells #[.slice sa S.length sc] 26)):=by go_grown
   go_wp2_with fail
   (with_reducible refine(HSH.out _ _ _ (lit_row9 (Box.new _ _ _))).mono ?_)
   rintro e w3 ⟨rfl,hb0⟩;have hb:=hbq.trans (hb0.mono hbq.size);clear hbq hb0;have P:=zh (P.out.below hb);have Q:=zh (Q.out.below hb);have RS:=zh (RS.out.below hb);have RV:=zh (RV.out.below hb);have RD:=zh (RD.out.below hb);have X1:=zh (X1.out.below' hb);have HB:=zh (HB.out.trans (hb.mono HB.out.size));clear hb
   go_wp2_with fail
   (with_reducible refine(HSO.out _).mono ?_)
   rintro e w4 ⟨rfl,hb⟩;have P:=zh (P.out.below hb);have Q:=zh (Q.out.below hb);have RS:=zh (RS.out.below hb);have RV:=zh (RV.out.below hb);have RD:=zh (RD.out.below hb);have X1:=zh (X1.out.below' hb);have HB:=zh (HB.out.trans (hb.mono HB.out.size));clear hb
   go_wp2_with fail
   go_ret
   exact⟨rfl,HB.out⟩
  ·rw[hsh] at HSH;have hs20:S.length≤20:=of_decide_eq_true hsh;have hbq:Below w2.heap.size w2 (w2.alloc (.cells #[.slice sa S.length sc] 26)):=by go_grown
   go_wp2_with fail
   (with_reducible refine(HSH.out _ _ _ (lit_row9 (Box.new _ _ _))).mono ?_)
   rintro e w3 ⟨rfl,hb0⟩;have hb:=hbq.trans (hb0.mono hbq.size);clear hbq hb0;have P:=zh (P.out.below hb);have Q:=zh (Q.out.below hb);have RS:=zh (RS.out.below hb);have RV:=zh (RV.out.below hb);have RD:=zh (RD.out.below hb);have X1:=zh (X1.out.below' hb);have HB:=zh (HB.out.trans (hb.mono HB.out.size));clear hb
   go_wp2_with fail
   (with_reducible refine(HTR.out _ RV.out RD.out).mono ?_)
   rintro e w4 ⟨⟨tb,rfl,htb⟩,hb⟩;have P:=zh (P.out.below hb);have Q:=zh (Q.out.below hb);have RS:=zh (RS.out.below hb);have RV:=zh (RV.out.below hb);have RD:=zh (RD.out.below hb);have X1:=zh (X1.out.below' hb);have HB:=zh (HB.out.trans (hb.mono HB.out.size));clear hb;clear HSH HTR hsh;cases tb
   ·clear htb
    go_wp2_with fail
    (with_reducible refine(HSO.out _).mono ?_)
    rintro e w5 ⟨rfl,hb⟩;have P:=zh (P.out.below hb);have Q:=zh (Q.out.below hb);have RS:=zh (RS.out.below hb);have RV:=zh (RV.out.below hb);have RD:=zh (RD.out.below hb);have X1:=zh (X1.out.below' hb);have HB:=zh (HB.out.trans (hb.mono HB.out.size));clear hb
    go_wp2_with fail
    go_ret
    exact⟨rfl,HB.out⟩
   ·obtain⟨⟨hV70,hVok⟩,hD40,hDok⟩:=htb rfl;clear htb;have hDs:∀d∈D,d.Small:=fun d hd=>(hDok d hd).small
    have hVs:∀v∈V,v.Small:=fun v hv=>(hVok v hv).small (HVK.out v hv).1 (HVK.out v hv).2
    have H1:=zh (fun W h1 h2 h3 h4=>(checkVersX_any c hsc pa pc l qa qc a b sa S sc va V vc hVs zO hvk W h1 h2 zO h3 h4).mono fun e w' h=>bool_tup h);have H2:=zh (fun W h1 h2 h3 h4=>(checkVersXR9_any c hsc pa pc l qa qc a b sa S sc va V vc hVs zO W h1 h2 zO h3 h4).mono fun e w' h=>bool_tup h);have H3:=zh (fun W h1 h2 h3=>(checkProofX_any c hsc pa pc l qa qc a b cost oa D oc zO hDs W h1 h2 h3).mono fun e w' h=>bool_tup h);have H4:=zh (fun W h1 h2 h3=>(checkProofXR9_any c hsc pa pc l qa qc a b cost oa D oc zO hDs W h1 h2 h3).mono fun e w' h=>bool_tup h);have H5:=zh (fun(d:Opn) (hd:d.Small) a1 a2 a3 a4 c1 c2 c3 c4 W h1 h2 h3=>(checkDoubtX_any c hsc pa pc l qa qc a b d hd a1 a2 a3 a4 c1 c2 c3 c4 W h1 h2 h3).mono fun e w' h=>bool_tup h)
    have H6:=zh (fun(d:Opn) (hd:d.Small) a1 a2 a3 a4 c1 c2 c3 c4 W h1 h2 i1 i2 i3 i4=>(checkDoubtR9_any c hsc pa pc l qa qc a b d hd a1 a2 a3 a4 c1 c2 c3 c4 W h1 h2 i1 i2 i3 i4).mono fun e w' h=>bool_tup h);have HDS:=zh hDs;generalize xErr c l (twoB c.parts.length a b&&setB l.length S)=E1 at *;generalize xErr c l (twoB c.parts.length a b)=E2 at *;generalize (E1==0&&checkVersB c l a.toNat b.toNat (nats S) V)=B1 at *;generalize (E2==0&&checkProofB c l a.toNat b.toNat cost D)=B2 at *;have HDF:=zh (fun d=>(rfl:(E2==0&&doubtedB c l a.toNat b.toNat d)=(E2==0&&doubtedB c l a.toNat b.toNat d)));clear HDF;clear hDs hVs hDok hVok hV70 hsc HVK hs20;have e1:=zC (X1.out)
    go_wp2_with fail
    (with_reducible refine(H1.out _ P.out Q.out RS.out RV.out).mono ?_)
    rintro e w5 ⟨rfl,hb⟩;clear e1;have P:=zh (P.out.below hb);have Q:=zh (Q.out.below hb);have RS:=zh (RS.out.below hb);have RV:=zh (RV.out.below hb);have RD:=zh (RD.out.below hb);have X1:=zh (X1.out.below' hb);have HB:=zh (HB.out.trans (hb.mono HB.out.size));clear hb;have e1:=zC (X1.out)
    go_wp2_with fail
    (with_reducible refine(H2.out _ P.out Q.out RS.out RV.out).mono ?_)
    rintro e w6 ⟨rfl,hb⟩;clear e1;have P:=zh (P.out.below hb);have Q:=zh (Q.out.below hb);have RS:=zh (RS.out.below hb);have RV:=zh (RV.out.below hb);have RD:=zh (RD.out.below hb);have X1:=zh (X1.out.below' hb);have HB:=zh (HB.out.trans (hb.mono HB.out.size));clear hb;have e1:=zC (X1.out)
    go_wp2_with fail
    (with_reducible refine(H3.out _ P.out Q.out RD.out).mono ?_)
    rintro e w7 ⟨rfl,hb⟩;clear e1;have P:=zh (P.out.below hb);have Q:=zh (Q.out.below hb);have RS:=zh (RS.out.below hb);have RV:=zh (RV.out.below hb);have RD:=zh (RD.out.below hb);have X1:=zh (X1.out.below' hb);have HB:=zh (HB.out.trans (hb.mono HB.out.size));clear hb;have e1:=zC (X1.out)
    go_wp2_with fail
    (with_reducible refine(H4.out _ P.out Q.out RD.out).mono ?_)
    rintro e w8 ⟨rfl,hb⟩;clear e1;have P:=zh (P.out.below hb);have Q:=zh (Q.out.below hb);have RS:=zh (RS.out.below hb);have RV:=zh (RV.out.below hb);have RD:=zh (RD.out.below hb);have X1:=zh (X1.out.below' hb);have HB:=zh (HB.out.trans (hb.mono HB.out.size));clear hb;clear H1 H2 H3 H4;clear RS RV;have t1:(B1 != B1)=false:=by simp
    have t2:(B2 != B2)=false:=by simp
    have t3:(E1 != E1)=false:=by simp
    have t4:(E2 != E2)=false:=by simp
    rcases D with _|⟨d0,D⟩
    ·have H5:=zh (H5.out ⟨[],[],[],[]⟩ zero_small none none none none 0 0 0 0);have H6:=zh (H6.out ⟨[],[],[],[]⟩ zero_small none none none none 0 0 0 0);simp only[List.length_nil] at H5 H6
     go_upto_region 12 with fail
     have hb:Below w8.heap.size w8 (w8.alloc (.cells #[.slice none 0 0,.slice none 0 0,.slice none 0 0,.slice none 0 0] 53)):=by go_grown
     have x25:Box (w8.alloc (.cells #[.slice none 0 0,.slice none 0 0,.slice none 0 0,.slice none 0 0] 53)) (w8.heap.size) #[.slice none 0 0,.slice none 0 0,.slice none 0 0,.slice none 0 0] 53:=Box.new _ _ _;generalize (w8.alloc (.cells #[.slice none 0 0,.slice none 0 0,.slice none 0 0,.slice none 0 0] 53))=w9 at *;have P:=zh (P.out.below hb);have Q:=zh (Q.out.below hb);have RD:=zh (RD.out.below hb);have X1:=zh (X1.out.below' hb);have HB:=zh (HB.out.trans (hb.mono HB.out.size));clear hb;have X25:=zh x25;clear x25;obtain⟨B3,hB3⟩:=zx ((E2==0&&doubtedB c l a.toNat b.toNat ⟨[],[],[],[]⟩));rw[hB3] at H5 H6;clear hB3;have t5:(B3==B3)=true:=by simp
     have t6:(E2==E2)=true:=by simp
     have e1:=zC (X1.out);have e25:∀i,w9.cell? ⟨w8.heap.size,i,none⟩=(#[.slice none 0 0,.slice none 0 0,.slice none 0 0,.slice none 0 0]:Array Value)[i]?:=X25.out.cell
     go_wp2_with fail
     (with_reducible refine(H5.out _ P.out Q.out (zero_opn _)).mono ?_)
     rintro e w10 ⟨rfl,hb⟩;clear e1 e25;have P:=zh (P.out.below hb);have Q:=zh (Q.out.below hb);have RD:=zh (RD.out.below hb);have X1:=zh (X1.out.below' hb);have X25:=zh (X25.out.below' hb);have HB:=zh (HB.out.trans (hb.mono HB.out.size));clear hb;have e1:=zC (X1.out);have e25:∀i,w10.cell? ⟨w8.heap.size,i,none⟩=(#[.slice none 0 0,.slice none 0 0,.slice none 0 0,.slice none 0 0]:Array Value)[i]?:=X25.out.cell
     go_wp2_with fail
     (with_reducible refine(H6.out _ P.out Q.out (Ints.nil _ _) (Ints.nil _ _) (Ints.nil _ _) (Ints.nil _ _)).mono ?_)
     rintro e w11 ⟨rfl,hb⟩;clear e1 e25;have P:=zh (P.out.below hb);have Q:=zh (Q.out.below hb);have RD:=zh (RD.out.below hb);have X1:=zh (X1.out.below' hb);have X25:=zh (X25.out.below' hb);have HB:=zh (HB.out.trans (hb.mono HB.out.size));clear hb
     go_wp2_with fail
     (with_reducible refine(HSO.out _).mono ?_)
     rintro e w12 ⟨rfl,hb⟩;have P:=zh (P.out.below hb);have Q:=zh (Q.out.below hb);have RD:=zh (RD.out.below hb);have X1:=zh (X1.out.below' hb);have X25:=zh (X25.out.below' hb);have HB:=zh (HB.out.trans (hb.mono HB.out.size));clear hb
     go_wp2_with fail
     go_ret
     exact⟨rfl,HB.out⟩
    ·obtain⟨b1,o1,a1,c1,a2,c2,a3,c3,a4,c4,hba,d1,d2,d3,d4,hop⟩:=RD.out 0 d0 rfl;cases hba;simp only[Nat.zero_mul,Nat.add_zero] at d1 d2 d3 d4;have RO:=zh hop;have hal:Below w8.heap.size w8 (w8.alloc (.cells #[.slice none 0 0,.slice none 0 0,.slice none 0 0,.slice none 0 0] 53)):=by go_grown
     have d1:=below_cell hal d1;have d2:=below_cell hal d2;have d3:=below_cell hal d3;have d4:=below_cell hal d4;have hdl:(0:Int)<((d0::D).length:Int):=by rw[List.length_cons];omega
     obtain⟨r1,r2⟩:=(Box.new w8 #[.slice none 0 0,.slice none 0 0,.slice none 0 0,.slice none 0 0] 53).rules;have H5:=zh (H5.out d0 (HDS.out d0 zS) a1 a2 a3 a4 c1 c2 c3 c4);have H6:=zh (H6.out d0 (HDS.out d0 zS) a1 a2 a3 a4 c1 c2 c3 c4);clear hop hal
     go_upto_region 12 with fail
     clear d1 d2 d3 d4 r1 r2;have hb:Below w8.heap.size w8 (w8.alloc (.cells #[.slice a1 d0.probes.length c1,.slice a2 d0.found.length c2,.slice a3 d0.tog.length c3,.slice a4 d0.apt.length c4] 53)):=by go_grown
     have x25:Box (w8.alloc (.cells #[.slice a1 d0.probes.length c1,.slice a2 d0.found.length c2,.slice a3 d0.tog.length c3,.slice a4 d0.apt.length c4] 53)) (w8.heap.size) #[.slice a1 d0.probes.length c1,.slice a2 d0.found.length c2,.slice a3 d0.tog.length c3,.slice a4 d0.apt.length c4] 53:=Box.new _ _ _;generalize (w8.alloc (.cells #[.slice a1 d0.probes.length c1,.slice a2 d0.found.length c2,.slice a3 d0.tog.length c3,.slice a4 d0.apt.length c4] 53))=w9 at *;have P:=zh (P.out.below hb);have Q:=zh (Q.out.below hb);have RD:=zh (RD.out.below hb);have X1:=zh (X1.out.below' hb);have RO:=zh (RO.out.below hb);have HB:=zh (HB.out.trans (hb.mono HB.out.size));clear hb;have X25:=zh x25;clear x25;obtain⟨B3,hB3⟩:=zx ((E2==0&&doubtedB c l a.toNat b.toNat d0));rw[hB3] at H5 H6;clear hB3;have t5:(B3==B3)=true:=by simp
     have t6:(E2==E2)=true:=by simp
     have e1:=zC (X1.out);have e25:∀i,w9.cell? ⟨w8.heap.size,i,none⟩=(#[.slice a1 d0.probes.length c1,.slice a2 d0.found.length c2,.slice a3 d0.tog.length c3,.slice a4 d0.apt.length c4]:Array Value)[i]?:=X25.out.cell
     go_wp2_with fail
     (with_reducible refine(H5.out _ P.out Q.out RO.out).mono ?_)
     rintro e w10 ⟨rfl,hb⟩;clear e1 e25;have P:=zh (P.out.below hb);have Q:=zh (Q.out.below hb);have RD:=zh (RD.out.below hb);have X1:=zh (X1.out.below' hb);have RO:=zh (RO.out.below hb);have X25:=zh (X25.out.below' hb);have HB:=zh (HB.out.trans (hb.mono HB.out.size));clear hb;have e1:=zC (X1.out);have e25:∀i,w10.cell? ⟨w8.heap.size,i,none⟩=(#[.slice a1 d0.probes.length c1,.slice a2 d0.found.length c2,.slice a3 d0.tog.length c3,.slice a4 d0.apt.length c4]:Array Value)[i]?:=X25.out.cell
     go_wp2_with fail
     (with_reducible refine(H6.out _ P.out Q.out (opn_ints RO.out).1 (opn_ints RO.out).2.1 (opn_ints RO.out).2.2.1 (opn_ints RO.out).2.2.2).mono ?_)
     rintro e w11 ⟨rfl,hb⟩;clear e1 e25;have P:=zh (P.out.below hb);have Q:=zh (Q.out.below hb);have RD:=zh (RD.out.below hb);have X1:=zh (X1.out.below' hb);have RO:=zh (RO.out.below hb);have X25:=zh (X25.out.below' hb);have HB:=zh (HB.out.trans (hb.mono HB.out.size));clear hb
     go_wp2_with fail
     (with_reducible refine(HSO.out _).mono ?_)
     rintro e w12 ⟨rfl,hb⟩;have P:=zh (P.out.below hb);have Q:=zh (Q.out.below hb);have RD:=zh (RD.out.below hb);have X1:=zh (X1.out.below' hb);have RO:=zh (RO.out.below hb);have X25:=zh (X25.out.below' hb);have HB:=zh (HB.out.trans (hb.mono HB.out.size));clear hb
     go_wp2_with fail
     go_ret
     exact⟨rfl,HB.out⟩
end
end Go.Proofs.YtjgldeeianionaaGreat
namespace Go.Proofs.YtjgldeeianionaaGreat.ProbeChecksEnd
open Go.ChangeShapes Go.WideShapes Go.ChangeAt Go.RowKit
theorem own:ownKnob Tryz.prog.godebug=none:=zK
theorem lifted (os:Os)(started:os.Started)(H:Type)(enc:TypeId×Value→H):
 ReturnsInHanded {} Tryz.checked os 9 .any (Rows.probeChecksSpec.pre6 enc Tryz.prog Tryz.f9 Rows.probeChecksRow.domain false) (Rows.probeChecksSpec.post enc Tryz.prog Tryz.f9 false true false false):=by
 refine returnsInHanded_of_change (C:=Tryz.checked) own started zK Tryz.func9
  (ChangeSpec.witness6 (enc:=enc) (C:=Tryz.checked) false ⟨#[],#[.agg #[.string ⟨#[]⟩,.int .i64 0,.int .i64 0,.slice none 0 0],.slice none 0 0,.int .i64 0,.int .i64 0,.slice none 0 0,.slice none 0 0,.int .i64 0,.slice none 0 0],[]⟩ 8 zK zK zK zK) ?_
 intro W base args ds gs before hval0 hW hcnd _;have hval:∀(j:Nat) t v,Tryz.f9.params[j]?=some t→args[j]?=some v→Value.okWide Tryz.prog W .any base t v:=hval0;have hW':=hW;obtain⟨p,q,hA0,hV,rfl,hfz,hnd⟩:=hW;have hA:DataW.TrodAll enc Tryz.prog W 0 (fun _=>true) true Tryz.f9.params.toList args.toList ds p:=hA0;rw[Tryz.params9] at hA hval;obtain⟨v0,vs0,d0,ds0,p0,q0,hargs,rfl,rfl,h0,r0⟩:=trodAll_cons hA;obtain⟨v1,vs1,d1,ds1,p1,q1,rfl,rfl,rfl,h1,r1⟩:=trodAll_cons r0;obtain⟨v2,vs2,d2,ds2,p2,q2,rfl,rfl,rfl,h2,r2⟩:=trodAll_cons r1;obtain⟨v3,vs3,d3,ds3,p3,q3,rfl,rfl,rfl,h3,r3⟩:=trodAll_cons r2;obtain⟨v4,vs4,d4,ds4,p4,q4,rfl,rfl,rfl,h4,r4⟩:=trodAll_cons r3;obtain⟨v5,vs5,d5,ds5,p5,q5,rfl,rfl,rfl,h5,r5⟩:=trodAll_cons r4
 obtain⟨v6,vs6,d6,ds6,p6,q6,rfl,rfl,rfl,h6,r6⟩:=trodAll_cons r5;obtain⟨v7,vs7,d7,ds7,p7,q7,rfl,rfl,rfl,h7,r7⟩:=trodAll_cons r6;obtain⟨rfl,rfl,rfl⟩:=trodAll_nil r7;obtain rfl:args = #[v0,v1,v2,v3,v4,v5,v6,v7]:=by cases args;simp_all
 obtain⟨rfl,rfl⟩:=trodVars_none hV;obtain⟨c0,pa0,pc0,rfl,hp0,hpc0,hfit0,hlw0⟩:=case_of (hval 0 _ v0 rfl rfl) h0;obtain⟨a1,l1,k1,rfl,hi1,hk1,hm1⟩:=prbs_arg (hval 1 _ v1 rfl rfl) h1;obtain⟨a2,rfl,rfl,rfl,w2⟩:=open_int Tryz.underlying3 (hval 2 _ v2 rfl rfl) h2;obtain⟨a3,rfl,rfl,rfl,w3⟩:=open_int Tryz.underlying3 (hval 3 _ v3 rfl rfl) h3;obtain⟨a4,l4,k4,rfl,hi4,hk4,hm4⟩:=ints_arg (hval 4 _ v4 rfl rfl) h4;obtain⟨a5,l5,k5,rfl,hi5,hk5,hm5,hs5⟩:=vers_arg (hval 5 _ v5 rfl rfl) h5;obtain⟨a6,rfl,rfl,rfl,w6⟩:=open_int Tryz.underlying3 (hval 6 _ v6 rfl rfl) h6;obtain⟨a7,l7,k7,rfl,hi7,hk7,hm7,hs7⟩:=opns_arg (hval 7 _ v7 rfl rfl) h7;clear hA0 hval0
 refine(probeChecks_any c0 hfit0 pa0 pc0 hpc0 a1 l1 k1 hk1 hm1 a2 w2 a3 w3 a4 l4 k4 hk4 hm4 a5 l5 k5 hk5 hm5 hs5 a6 w6 a7 l7 k7 hk7 hm7 hs7 W hp0 hi1 hi4 hi5 hi7).mono fun e W' ⟨he,hb⟩=>?_
 subst he;exact⟨_,rfl,law_post rfl rfl (of_decide_eq_true zK) hW' rfl rfl rfl hb⟩
theorem over:Rows.probeChecksRow.holds Tryz.pinned (OpenSpec.ofChange Rows.probeChecksSpec):=
 OpenClaim.holds_of_wide 9 Tryz.f9 rfl rfl rfl rfl rfl rfl rfl ⟨rfl,rfl,rfl,rfl,rfl⟩ rfl rfl rfl rfl rfl zK Tryz.func9 zK
  (of_decide_eq_true zK) (by unfold Func.isWrapper;first|(rw[if_pos (by decide +kernel)];kernel_rfl)|(rw[if_neg (by decide +kernel)];exact⟨rfl,rfl⟩))
  (fun os started H enc _=>lifted os started H enc)
theorem proved:Rows.ProbeChecksSaid:=
 over
#print axioms proved
end Go.Proofs.YtjgldeeianionaaGreat.ProbeChecksEnd
