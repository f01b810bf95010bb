/- Walks and plain laws. No condition. -/
import Derived.Test.YtjgldeeianionaaGreatV38
set_option maxHeartbeats 4000000
set_option maxRecDepth 100000
set_option linter.unusedSimpArgs false
set_option linter.unusedVariables false
namespace Go.Proofs.YtjgldeeianionaaGreat
open Go.RowKit
section
attribute [local go_sem] Oper.semAt_some
theorem outs_ref {c:Cs}{l:List Prb}(hz:probesErr c l=0)(s:List Nat)(hs:∀v∈s,v<l.length)(hsl:s.length≤5)(pa:Option Addr)(pc:Nat)(qa:Option Addr)(qc:Nat)(sa:Option Addr)(sc:Nat)(w:World)(hp:PartsAt w pa c.parts)(hq:PrbsAt w qa l)(hS:Ints w sa (natInts s)):
 Calls Tryz.prog 111 #[.agg #[.string c.ware,.int .i64 c.limit,.int .i64 c.by_,.slice pa c.parts.length pc],.slice qa l.length qc,.slice sa s.length sc,.slice none 0 0] w fun e w'=>∃a cap,e = .returned (.slice a (outsOf (cntsOf c l s)).length cap)∧RowsAt w' a (outsOf (cntsOf c l s))∧Below w.heap.size w w':=by
 refine(outcomesR9_any hz s hs hsl pa pc qa qc sa sc s.length [] none 0 w zS (fun _=>⟨rfl,rfl⟩) (Nat.zero_le _) hp hq hS (Ints.nil _ _)).mono ?_;rintro e w' ⟨v,rfl,hr,hb⟩;obtain⟨a,cap,rfl,hat⟩:=hr.at_;refine⟨a,cap,rfl,?_,hb⟩;intro k x hx;exact hat k x hx
theorem RowsHi.ints {B M:Nat}{w w':World}{a:Option Addr}{L:List (List Nat)}(h:RowsHi B M w a L){k:Nat}{x:List Nat}(hx:L[k]?=some x)(hk:Keep (fun k=>B≤k∧k<M) w w'):∃b o ra rc,a=some ⟨b,o,none⟩∧B≤b∧b<M∧w'.cell? ⟨b,o+k,none⟩=some (.slice ra x.length rc)∧Ints w' ra (natInts x):=by
 obtain⟨b,o,ra,rc,h1,h2,h3,h4,h5,_⟩:=(h.keep hk) k x hx;exact⟨b,o,ra,rc,h1,h2,h3,h4,h5.at_⟩
theorem setB_nil (m:Nat):setB m []=true:=rfl
theorem fits_len9 {e:Cs}{t:List Int}(h:fitsB e t=true):t.length=e.parts.length:=by
 obtain⟨x,hx,rfl⟩:=fitsB_iff.1 h;rw[nat_len];exact hx.1
theorem doubted_no9 {c:Cs}{l:List Prb}{a b:Nat}{d:Opn}(h:afterC c l (nats d.probes) (nats d.found)=none):doubtedB c l a b d=false:=by
 unfold doubtedB;rw[h];simp
theorem doubted_at9 {c x:Cs}{l:List Prb}{a b:Nat}{d:Opn}(hf:foundB c l d.probes d.found=true)(h:afterC c l (nats d.probes) (nats d.found)=some x):doubtedB c l a b d=(fitsB x d.tog&&fitsB x d.apt&&(d.tog[a]?.getD 0==d.tog[b]?.getD 0)&&(d.apt[a]?.getD 0 != d.apt[b]?.getD 0)):=by
 unfold doubtedB;rw[hf,h];rfl
theorem checkDoubtR9_any (c:Cs)(hsm:c.Small)(pa:Option Addr)(pc:Nat)(l:List Prb)(qa:Option Addr)(qc:Nat)(a:Int)(b:Int)(d:Opn)(hd:d.Small)(a1 a2 a3 a4:Option Addr)(c1 c2 c3 c4:Nat)(w:World)(hp:PartsAt w pa c.parts)(hq:PrbsAt w qa l)(h1:Ints w a1 d.probes)(h2:Ints w a2 d.found)(h3:Ints w a3 d.tog)(h4:Ints w a4 d.apt):
 Calls Tryz.prog 29 #[.agg #[.string c.ware,.int .i64 c.limit,.int .i64 c.by_,.slice pa c.parts.length pc],.slice qa l.length qc,.int .i64 a,.int .i64 b,.agg #[.slice a1 d.probes.length c1,.slice a2 d.found.length c2,.slice a3 d.tog.length c3,.slice a4 d.apt.length c4]] w (XPost (xErr c l (twoB c.parts.length a b)) (.bool false) (BoolOut (doubtedB c l a.toNat b.toNat d)) w):=by
 obtain⟨w1,hw1⟩:=zx ((w.alloc (.cells #[.string c.ware,.int .i64 c.limit,.int .i64 c.by_,.slice pa c.parts.length pc] 24)).alloc (.cells #[.slice a1 d.probes.length c1,.slice a2 d.found.length c2,.slice a3 d.tog.length c3,.slice a4 d.apt.length c4] 53));have hB1:Below w.heap.size w w1:=by rw[←hw1];go_grown
 have b1:Box w1 w.heap.size (csCells c pa pc) 24:=by rw[←hw1];exact(Box.new _ _ _).alloc _
 have b0:Box w1 (w.heap.size+1) #[.slice a1 d.probes.length c1,.slice a2 d.found.length c2,.slice a3 d.tog.length c3,.slice a4 d.apt.length c4] 53:=by rw[←hw1];exact Box.new' zS
 have e1:=zC (b1);have HAS:=zh (askedPairR9_any c hsm pa pc l qa qc a b none [] 0 zS w1 (hp.below hB1) (hq.below hB1) (Ints.nil _ _));rw[setB_nil,Bool.and_true,List.length_nil] at HAS;have HW:=zh hw1;have HX:=zh b1;have HZ:=zh b0;have HB:=zh hB1;have HP:=zh (fun W (h:Below w.heap.size w W)=>hp.below h);have HQ:=zh (fun W (h:Below w.heap.size w W)=>hq.below h);have HI1:=zh (fun W (h:Below w.heap.size w W)=>h1.below h);have HI2:=zh (fun W (h:Below w.heap.size w W)=>h2.below h);have HI3:=zh (fun W (h:Below w.heap.size w W)=>h3.below h);have HI4:=zh (fun W (h:Below w.heap.size w W)=>h4.below h);have HDS:=zh hd;clear hw1 b1 b0 hB1 hp hq h1 h2 h3 h4 hd;have HXS:=zh (fun h=>xErr_set (c:=c) (l:=l) (ok:=twoB c.parts.length a b) h);have HTN:=zh (fun h=>two_nats (n:=c.parts.length) (a:=a) (b:=b) h)
 obtain⟨ok,hok⟩:=zx (twoB c.parts.length a b);rw[hok] at HXS HTN HAS ⊢;clear hok;obtain⟨er,her⟩:=zx (xErr c l ok);rw[her] at HAS HXS ⊢;clear her
 go_enter Tryz.func29,Tryz.ntmps29
 go_upto_region 1 with fail
 simp only[HW.out]
 go_wp2_with fail
 refine zM HAS ?_;rintro e w2 ⟨rfl,hb2⟩;have HX:=zh (HX.out.below' hb2);have HZ:=zh (HZ.out.below' hb2);have HB:=zh (HB.out.trans (hb2.mono HB.out.size));clear hb2 e1 HAS HW
 by_cases hz:er=0
 ·obtain⟨z1,z2,_⟩:=HXS.out hz;subst hz;obtain⟨A,B,rfl,rfl,hA,hBn⟩:=HTN.out z2;have hl5:=(probes_ok z1).2.1;have hDR:doubtedB c l (A:Int).toNat (B:Int).toNat d=doubtedB c l A B d:=by rw[Int.toNat_natCast,Int.toNat_natCast]
  have HDT:=zh hDR;obtain⟨hs1,hs2,hs3,hs4⟩:=HDS.out;have HSE:=zh (isSetR9_any qa l.length qc zO a1 d.probes c1 w2 (HI1.out _ HB.out) zO);have HFO:=zh (fun(hst:setB l.length d.probes=true) W (h:Below w.heap.size w W)=>isFoundR9_any z1 pa pc qa qc a1 d.probes c1 hst a2 d.found c2 W (HP.out _ h) (HQ.out _ h) (HI1.out _ h) (HI2.out _ h) zO zO);have HAF:=zh (fun(hf:foundB c l d.probes d.found=true) W (h:Below w.heap.size w W)=>show Calls Tryz.prog 64 #[.agg #[.string c.ware,.int .i64 c.limit,.int .i64 c.by_,.slice pa c.parts.length pc],.slice qa l.length qc,.slice a1 d.probes.length c1,.slice a2 d.found.length c2] W (AfterRPost (afterC c l (nats d.probes) (nats d.found)) W) by
   obtain⟨f1,f2,f3,f4⟩:=found_nats hf;have l1:(nats d.probes).length=d.probes.length:=by simp[nats]
   have l2:(nats d.found).length=d.found.length:=by simp[nats]
   have hc:=afterR9_any hsm z1 pa pc qa qc a1 (nats d.probes) c1 a2 (nats d.found) c2 f3 f4 zO W (HP.out _ h) (HQ.out _ h) (by rw[←f1];exact HI1.out _ h) (by rw[←f2];exact HI2.out _ h)
   rwa [l1,l2] at hc)
  have HPR:=zh z1;have HAL:=zh (show A<c.parts.length from hA);have HBL:=zh (show B<c.parts.length from hBn);have e0:∀i,w2.cell? ⟨w.heap.size+1,i,none⟩=(#[.slice a1 d.probes.length c1,.slice a2 d.found.length c2,.slice a3 d.tog.length c3,.slice a4 d.apt.length c4]:Array Value)[i]?:=HZ.out.cell;clear z1 z2 hA hBn hDR hl5 hsm
  go_wp2_with fail
  refine zM HSE ?_;rintro e w3 ⟨rfl,hb3⟩;have HX:=zh (HX.out.below' hb3);have HZ:=zh (HZ.out.below' hb3);have HB:=zh (HB.out.trans (hb3.mono HB.out.size));clear hb3 e0 HSE;have e0:∀i,w3.cell? ⟨w.heap.size+1,i,none⟩=(#[.slice a1 d.probes.length c1,.slice a2 d.found.length c2,.slice a3 d.tog.length c3,.slice a4 d.apt.length c4]:Array Value)[i]?:=HZ.out.cell;have e1:=zC (HX.out)
  rcases hst:setB l.length d.probes with _|_
  ·have HR:=zh (show doubtedB c l A B d=false by simp[doubtedB,foundB,hst]);clear hst
   go_wp2_with fail
   go_ret2
   exact⟨HB.out,_,_,rfl,.inr ⟨rfl,rfl,by rw[HDT.out,HR.out];rfl⟩⟩
  have HF:=zh (HFO.out hst w3 HB.out);clear hst HFO
  go_wp2_with fail
  refine zM HF ?_;rintro e w4 ⟨rfl,hb4⟩;have HX:=zh (HX.out.below' hb4);have HZ:=zh (HZ.out.below' hb4);have HB:=zh (HB.out.trans (hb4.mono HB.out.size));clear hb4 e0 e1 HF;have e0:∀i,w4.cell? ⟨w.heap.size+1,i,none⟩=(#[.slice a1 d.probes.length c1,.slice a2 d.found.length c2,.slice a3 d.tog.length c3,.slice a4 d.apt.length c4]:Array Value)[i]?:=HZ.out.cell;have e1:=zC (HX.out)
  rcases hf:foundB c l d.probes d.found with _|_
  ·have HR:=zh (show doubtedB c l A B d=false by simp[doubtedB,hf]);clear hf
   go_wp2_with fail
   go_ret2
   exact⟨HB.out,_,_,rfl,.inr ⟨rfl,rfl,by rw[HDT.out,HR.out];rfl⟩⟩
  have HA:=zh (HAF.out hf w4 HB.out);have HD1:=zh (fun x h=>doubted_at9 (c:=c) (x:=x) (l:=l) (a:=A) (b:=B) (d:=d) hf h);have HOK:=zh (fun x (h:afterC c l (nats d.probes) (nats d.found)=some x)=>after_ok HPR.out h);clear hf HAF HPR
  go_wp2_with fail
  refine zM HA ?_;rintro e w5 ⟨hb5,cs,bb,rfl,(⟨k1,rfl,rfl⟩|⟨x,ba,bc,k1,rfl,rfl,hpx⟩)⟩
  ·have HR:=zh (show doubtedB c l A B d=false from doubted_no9 k1);have HB:=zh ((HB.out.trans (hb5.mono HB.out.size)).alloc (HB.out.trans (hb5.mono HB.out.size)).size (.cells #[.string ⟨#[]⟩,.int .i64 0,.int .i64 0,.slice none 0 0] 24));clear hb5 k1 e0 e1
   go_wp2_with fail
   go_ret2
   exact⟨HB.out,_,_,rfl,.inr ⟨rfl,rfl,by rw[HDT.out,HR.out];rfl⟩⟩
  have hok:=HOK.out x k1;have HD1:=zh (HD1.out x k1);obtain⟨w6,hw6⟩:=zx (w5.alloc (.cells #[.string x.ware,.int .i64 x.limit,.int .i64 x.by_,.slice ba x.parts.length bc] 24));have hb6:Below w5.heap.size w5 w6:=by rw[←hw6];go_grown
  have x6:Box w6 w5.heap.size (csCells x ba bc) 24:=by rw[←hw6];exact Box.new _ _ _
  have hb46:=hb5.trans (hb6.mono hb5.size);have HB:=zh (HB.out.trans (hb46.mono HB.out.size));have HZ:=zh (HZ.out.below' hb46);have HXD:=zh x6;have hpd:=hpx.at_.below hb6;have hsx:=small_of hok.chk;have HFI:=zh (fun(na:Option Addr) (t:List Int) (nc:Nat) (hl:t.length≤1000000) W (h:Below w6.heap.size w6 W) (hi:Ints W na t)=>fits_ref x hsx ba bc na t nc hl W (hpd.below h) hi);have HCK:=zh hok.chk;have HLX:=zh hok.len;have HW6:=zh hw6;clear hb5 hw6 hb6 x6 hb46 hpd hok k1 e0 e1 hpx HOK HA;rw[HCK.out] at HFI;simp only[beq_self_eq_true,Bool.true_and] at HFI;have e0:∀i,w6.cell? ⟨w.heap.size+1,i,none⟩=(#[.slice a1 d.probes.length c1,.slice a2 d.found.length c2,.slice a3 d.tog.length c3,.slice a4 d.apt.length c4]:Array Value)[i]?:=HZ.out.cell
  have e6:∀i,w6.cell? ⟨w5.heap.size,i,none⟩=(#[.string x.ware,.int .i64 x.limit,.int .i64 x.by_,.slice ba x.parts.length bc]:Array Value)[i]?:=HXD.out.cell;have HF1:=zh (HFI.out a3 d.tog c3 zO w6 (Below.refl _ _) (HI3.out _ HB.out))
  go_upto_region 7 with fail
  simp only[HW6.out]
  go_wp2_with fail
  refine zM HF1 ?_;rintro e w7 ⟨hb7,rfl⟩;have HZ:=zh (HZ.out.below' hb7);have HXD:=zh (HXD.out.below' hb7);have HB7:=zh (HB.out.trans (hb7.mono HB.out.size));have HF2:=zh (HFI.out a4 d.apt c4 zO w7 hb7 (HI4.out _ HB7.out));clear hb7 e0 e6 HF1 HFI HW6;have e0:∀i,w7.cell? ⟨w.heap.size+1,i,none⟩=(#[.slice a1 d.probes.length c1,.slice a2 d.found.length c2,.slice a3 d.tog.length c3,.slice a4 d.apt.length c4]:Array Value)[i]?:=HZ.out.cell;have e6:∀i,w7.cell? ⟨w5.heap.size,i,none⟩=(#[.string x.ware,.int .i64 x.limit,.int .i64 x.by_,.slice ba x.parts.length bc]:Array Value)[i]?:=HXD.out.cell
  go_wp2_with fail
  refine zM HF2 ?_;rintro e w8 ⟨hb8,rfl⟩;have HZ:=zh (HZ.out.below' hb8);have HB8:=zh (HB7.out.trans (hb8.mono HB7.out.size));clear hb8 e0 e6 HF2 HXD
  go_upto_region 11 with fail
  have hbd:Below w8.heap.size w8 w8.drew:=(Below.refl _ w8).drew;have HBZ:=zh (HB8.out.trans (hbd.mono HB8.out.size));have h3:=HI3.out _ HBZ.out;have h4:=HI4.out _ HBZ.out;have hzd:=HZ.out.below' hbd;clear hbd;refine wp_region_L (fun A=>Below w8.drew.heap.size w8.drew A) 32 zK ?_;have hSS:Below w8.drew.heap.size w8.drew w8.drew:=Below.refl _ _;generalize w8.drew=w9 at *
  rcases hf1:fitsB x d.tog with _|_
  ·have HR:=zh (show doubtedB c l A B d=false by rw[HD1.out];simp[hf1]);have K0:Hid (∀W,Below w9.heap.size w9 W→∀j,W.cell? ⟨w.heap.size+1,j,none⟩=(#[.slice a1 d.probes.length c1,.slice a2 d.found.length c2,.slice a3 d.tog.length c3,.slice a4 d.apt.length c4]:Array Value)[j]?):=zh fun W hW=>(hzd.below' hW).cell
   clear hf1 h3 h4 hzd;refine tM K0 0 hSS ?_;refine tM K0 1 hSS ?_;refine tN 2 hSS ?_;refine tM K0 3 hSS ?_;refine tM K0 4 hSS ?_;refine tN 5 hSS ?_;refine tN 6 hSS ?_;refine tN 7 hSS ?_;refine tN 8 hSS ?_;refine tN 9 hSS ?_;refine tN 10 hSS ?_;refine tN 11 hSS ?_;refine tN 12 hSS ?_;refine tN 13 hSS ?_;refine tN 14 hSS ?_;refine tN 15 hSS ?_;refine tM K0 16 hSS ?_;refine tM K0 17 hSS ?_;refine tN 18 hSS ?_;refine tN 19 hSS ?_;refine tN 20 hSS ?_;refine tN 21 hSS ?_;refine tN 22 hSS ?_;refine tN 23 hSS ?_;refine tN 24 hSS ?_;refine tN 25 hSS ?_;refine tN 26 hSS ?_;refine tN 27 hSS ?_;refine tN 28 hSS ?_;refine tM K0 29 hSS ?_;refine tM K0 30 hSS ?_;refine tM K0 31 hSS ?_;refine anyL_done zK ?_ _;clear hSS K0
   go_wp2_with fail
   go_ret2
   exact⟨HBZ.out,_,_,rfl,.inr ⟨rfl,rfl,by rw[HDT.out,HR.out];rfl⟩⟩
  rcases hf2:fitsB x d.apt with _|_
  ·have HR:=zh (show doubtedB c l A B d=false by rw[HD1.out];simp[hf2]);have K0:Hid (∀W,Below w9.heap.size w9 W→∀j,W.cell? ⟨w.heap.size+1,j,none⟩=(#[.slice a1 d.probes.length c1,.slice a2 d.found.length c2,.slice a3 d.tog.length c3,.slice a4 d.apt.length c4]:Array Value)[j]?):=zh fun W hW=>(hzd.below' hW).cell
   clear hf1 hf2 h3 h4 hzd;refine tM K0 0 hSS ?_;refine tM K0 1 hSS ?_;refine tM K0 2 hSS ?_;refine tM K0 3 hSS ?_;refine tM K0 4 hSS ?_;refine tN 5 hSS ?_;refine tN 6 hSS ?_;refine tN 7 hSS ?_;refine tN 8 hSS ?_;refine tN 9 hSS ?_;refine tN 10 hSS ?_;refine tN 11 hSS ?_;refine tN 12 hSS ?_;refine tN 13 hSS ?_;refine tN 14 hSS ?_;refine tN 15 hSS ?_;refine tM K0 16 hSS ?_;refine tM K0 17 hSS ?_;refine tN 18 hSS ?_;refine tN 19 hSS ?_;refine tN 20 hSS ?_;refine tN 21 hSS ?_;refine tN 22 hSS ?_;refine tN 23 hSS ?_;refine tN 24 hSS ?_;refine tN 25 hSS ?_;refine tN 26 hSS ?_;refine tN 27 hSS ?_;refine tN 28 hSS ?_;refine tM K0 29 hSS ?_;refine tM K0 30 hSS ?_;refine tM K0 31 hSS ?_;refine anyL_done zK ?_ _;clear hSS K0
   go_wp2_with fail
   go_ret2
   exact⟨HBZ.out,_,_,rfl,.inr ⟨rfl,rfl,by rw[HDT.out,HR.out];rfl⟩⟩
  have ht:=fits_len9 hf1;have hu:=fits_len9 hf2;rw[HLX.out] at ht hu;obtain⟨u1,hu1⟩:=get_of_lt d.tog (k:=A) (by have:=HAL.out;omega);obtain⟨u2,hu2⟩:=get_of_lt d.tog (k:=B) (by have:=HBL.out;omega);obtain⟨v1,hv1⟩:=get_of_lt d.apt (k:=A) (by have:=HAL.out;omega);obtain⟨v2,hv2⟩:=get_of_lt d.apt (k:=B) (by have:=HBL.out;omega);have HR0:=zh (show doubtedB c l A B d=((u1==u2)&&(v1 != v2)) by rw[HD1.out,hf1,hf2,hu1,hu2,hv1,hv2];simp);obtain⟨g3,o3,rfl,q3⟩:=h3.base (by have:=HAL.out;omega);obtain⟨g4,o4,rfl,q4⟩:=h4.base (by have:=HAL.out;omega)
  have K0:Hid (∀W,Below w9.heap.size w9 W→(∀j,W.cell? ⟨w.heap.size+1,j,none⟩=(#[.slice a1 d.probes.length c1,.slice a2 d.found.length c2,.slice (some ⟨g3,o3,none⟩) d.tog.length c3,.slice (some ⟨g4,o4,none⟩) d.apt.length c4]:Array Value)[j]?)∧W.cell? ⟨g3,o3+A,none⟩=some (.int .i64 u1)∧W.cell? ⟨g3,o3+B,none⟩=some (.int .i64 u2)∧W.cell? ⟨g4,o4+A,none⟩=some (.int .i64 v1)∧W.cell? ⟨g4,o4+B,none⟩=some (.int .i64 v2)):=
   zh fun W hW=>⟨(hzd.below' hW).cell,below_cell hW (q3 _ _ hu1),below_cell hW (q3 _ _ hu2),below_cell hW (q4 _ _ hv1),below_cell hW (q4 _ _ hv2)⟩
  have hA1:(A:Int)<(d.tog.length:Int):=by have:=HAL.out;omega
  have hB1:(B:Int)<(d.tog.length:Int):=by have:=HBL.out;omega
  have hA2:(A:Int)<(d.apt.length:Int):=by have:=HAL.out;omega
  have hB2:(B:Int)<(d.apt.length:Int):=by have:=HBL.out;omega
  clear hf1 hf2 h3 h4 hzd q3 q4 hu1 hu2 hv1 hv2 ht hu hs1 hs2 hs3 hs4
  rcases heq:(u1==u2) with _|_
  ·have HR:=zh (show doubtedB c l A B d=false by rw[HR0.out,heq];rfl);refine tM K0 0 hSS ?_;refine tM K0 1 hSS ?_;refine tM K0 2 hSS ?_;refine tM K0 3 hSS ?_;refine tM K0 4 hSS ?_;refine tM K0 5 hSS ?_;refine tM K0 6 hSS ?_;refine tM K0 7 hSS ?_;refine tM K0 8 hSS ?_;refine tM K0 9 hSS ?_;refine tM K0 10 hSS ?_;refine tM K0 11 hSS ?_;refine tM K0 12 hSS ?_;refine tM K0 13 hSS ?_;refine tM K0 14 hSS ?_;refine tM K0 15 hSS ?_;refine tM K0 16 hSS ?_;refine tM K0 17 hSS ?_;refine tN 18 hSS ?_;refine tN 19 hSS ?_;refine tN 20 hSS ?_;refine tN 21 hSS ?_;refine tN 22 hSS ?_;refine tN 23 hSS ?_;refine tN 24 hSS ?_;refine tN 25 hSS ?_;refine tN 26 hSS ?_;refine tN 27 hSS ?_;refine tN 28 hSS ?_;refine tM K0 29 hSS ?_;refine tM K0 30 hSS ?_;refine tM K0 31 hSS ?_;refine anyL_done zK ?_ _;clear hSS K0
   go_wp2_with fail
   go_ret2
   exact⟨HBZ.out,_,_,rfl,.inr ⟨rfl,rfl,by rw[HDT.out,HR.out];rfl⟩⟩
  ·rcases hne:(v1 != v2) with _|_
   ·have HR:=zh (show doubtedB c l A B d=false by rw[HR0.out,heq,hne];rfl);refine tM K0 0 hSS ?_;refine tM K0 1 hSS ?_;refine tM K0 2 hSS ?_;refine tM K0 3 hSS ?_;refine tM K0 4 hSS ?_;refine tM K0 5 hSS ?_;refine tM K0 6 hSS ?_;refine tM K0 7 hSS ?_;refine tM K0 8 hSS ?_;refine tM K0 9 hSS ?_;refine tM K0 10 hSS ?_;refine tM K0 11 hSS ?_;refine tM K0 12 hSS ?_;refine tM K0 13 hSS ?_;refine tM K0 14 hSS ?_;refine tM K0 15 hSS ?_;refine tM K0 16 hSS ?_;refine tM K0 17 hSS ?_;refine tM K0 18 hSS ?_;refine tM K0 19 hSS ?_;refine tM K0 20 hSS ?_;refine tM K0 21 hSS ?_;refine tM K0 22 hSS ?_;refine tM K0 23 hSS ?_;refine tM K0 24 hSS ?_;refine tM K0 25 hSS ?_;refine tM K0 26 hSS ?_;refine tM K0 27 hSS ?_;refine tM K0 28 hSS ?_;refine tM K0 29 hSS ?_;refine tM K0 30 hSS ?_;refine tM K0 31 hSS ?_;refine anyL_done zK ?_ _;clear hSS K0
    go_wp2_with fail
    go_ret2
    exact⟨HBZ.out,_,_,rfl,.inr ⟨rfl,rfl,by rw[HDT.out,HR.out];rfl⟩⟩
   ·have HR:=zh (show doubtedB c l A B d=true by rw[HR0.out,heq,hne];rfl);refine tM K0 0 hSS ?_;refine tM K0 1 hSS ?_;refine tM K0 2 hSS ?_;refine tM K0 3 hSS ?_;refine tM K0 4 hSS ?_;refine tM K0 5 hSS ?_;refine tM K0 6 hSS ?_;refine tM K0 7 hSS ?_;refine tM K0 8 hSS ?_;refine tM K0 9 hSS ?_;refine tM K0 10 hSS ?_;refine tM K0 11 hSS ?_;refine tM K0 12 hSS ?_;refine tM K0 13 hSS ?_;refine tM K0 14 hSS ?_;refine tM K0 15 hSS ?_;refine tM K0 16 hSS ?_;refine tM K0 17 hSS ?_;refine tM K0 18 hSS ?_;refine tM K0 19 hSS ?_;refine tM K0 20 hSS ?_;refine tM K0 21 hSS ?_;refine tM K0 22 hSS ?_;refine tM K0 23 hSS ?_;refine tM K0 24 hSS ?_;refine tM K0 25 hSS ?_;refine tM K0 26 hSS ?_;refine tM K0 27 hSS ?_;refine tM K0 28 hSS ?_;refine tM K0 29 hSS ?_;refine tM K0 30 hSS ?_;refine tM K0 31 hSS ?_;refine anyL_done zK ?_ _;clear hSS K0
    go_wp2_with fail
    go_ret2
    exact⟨HBZ.out,_,_,rfl,.inr ⟨rfl,rfl,by rw[HDT.out,HR.out];rfl⟩⟩
 ·have hzb:(er != 0)=true:=by simpa using hz
  have HZE:=zh hz;clear hz
  go_wp2_with fail
  go_ret2
  exact⟨HB.out,_,_,rfl,.inl ⟨HZE.out,rfl,rfl⟩⟩
end
