/- Walks and plain laws. No condition. -/
import Derived.Test.YtjgldeeianionaaGreatV20
set_option maxHeartbeats 4000000
set_option maxRecDepth 100000
set_option linter.unusedSimpArgs false
set_option linter.unusedVariables false
namespace Go.Proofs.YtjgldeeianionaaGreat
open Go.RowKit
section
attribute [local go_sem] Oper.semAt_some
theorem ints_kc {C:World→Nat→Prop}{W W':World}{fa:Option Addr}{x:List Nat}(h:Ints W fa (natInts x))(hn:∀b o,fa=some ⟨b,o,none⟩→0<x.length→¬C W b)(hk:Kc C W W'):Ints W' fa (natInts x):=fun j v hv=>by
 obtain⟨b,o,e,hc⟩:=h j v hv;exact⟨b,o,e,hk.1.cell (hn b o e (by have:=(List.getElem?_eq_some_iff.1 hv).1;simp[natInts] at this;omega)) hc⟩
theorem next9_any {t:Nat}{c:Cs}{pa:Option Addr}{pc:Nat}{l:List Prb}{qa:Option Addr}{qc:Nat}(hpr:probesErr c l=0)(sa:Option Addr)(s:List Nat)(sc TB SB l0 Y n0:Nat)(hs:∀v∈s,v<l.length)(hsl:s.length≤1000)
 (W0:World) (hn0:n0≤W0.heap.size) (C:World→Nat→Prop) (J Jx:List (List Nat)→World→Prop) (hJ:∀s A B,J s A→Below A.heap.size A B→J s B)
 (hC1:∀s A B k,J s A→W0.heap.size≤A.heap.size→Below A.heap.size A B→C B k→C A k) (hC2:∀s A k,J s A→W0.heap.size≤A.heap.size→C A k→k<A.heap.size)
 (hOk:∀pre A,J pre A→OutOk t c pa pc l qa qc sa s sc TB SB A)
 (hY:∀pre x args W1,J pre W1→W0.heap.size≤W1.heap.size→OutRd n0 (C W1) x args W1→(pre++[x]) <+: outsOf (cntsOf c l s)→YieldAt Fence.wide 0 Tryz.prog l0 args W1 fun e W'=>
  (e = .returned (.bool true)∧J (pre++[x]) W'∧Keep (fun k=>¬C W1 k) W1 W'∧∀k,C W' k→C W1 k∨W1.heap.size≤k)∨(e = .returned (.bool false)∧Jx (pre++[x]) W'∧Keep (fun k=>¬C W1 k) W1 W'∧∀k,C W' k→C W1 k∨W1.heap.size≤k)):
 ∀(ns pre:List Nat) (done:List (List Nat)) (fa:Option Addr) (fc:Nat) (W:World),pre.length+ns.length=s.length→(cntsOf c l s).drop pre.length=ns→Ints W fa (natInts pre)→pre.length≤fc→(∀b o,fa=some ⟨b,o,none⟩→0<pre.length→¬C W b)→W0.heap.size≤W.heap.size→OutIn l0 Y TB SB C W→J done W→(done++outGo ns pre) <+: outsOf (cntsOf c l s) →
  CallsIn Fence.wide 0 Tryz.prog 177 #[.slice fa pre.length fc,.pointer (some ⟨SB,0,none⟩),.pointer (some ⟨Y,0,none⟩),.pointer (some ⟨TB,0,none⟩),.pointer (some ⟨Y+1,0,none⟩)] W fun e W'=>
   (e = .returned (.bool true)∧J (done++outGo ns pre) W'∧Kc C W W')∨(e = .returned (.bool false)∧(∃q,q <+: outsOf (cntsOf c l s)∧Jx q W')∧Kc C W W'):=by
 have HJ:=zh hJ;have HC1:=zh hC1;have HC2:=zh hC2;have HOK:=zh hOk;have HY:=zh hY;have HPR:=zh hpr;have HS:=zh hs;clear hJ hC1 hC2 hOk hY hpr hs;intro ns
 induction ns with
 |nil=>
  intro pre done fa fc W hpl hdr hfa hfc hfn hsz hin hj hpre;have hok:=HOK.out _ _ hj;have e1:=hok.sb.cell;have heq:((pre.length:Int)==(s.length:Int))=true:=by simp at hpl ⊢;omega
  have HIN:=zh hin;have HFA:=zh hfa;have HJ0:=zh hj;have HPRE:=zh hpre;have hpl1:pre.length≤1000:=by simp at hpl;omega
  clear hok hin hfa hj hpre hdr hpl hfn;refine callsIn_of_wp Tryz.func177 rfl trivial ?_;simp only[Tryz.ntmps177,List.size_toArray,List.length_cons,List.length_nil,Nat.reduceAdd,Nat.reduceSub,Array.replicate_succ,Array.replicate_zero,List.push_toArray,List.append_toArray,List.nil_append,List.cons_append]
  gi_wp2_with fail
  have KY:Hid (∀A,Box A Y #[.func (.yield l0) #[] #[]] 159→∀j,A.cell? ⟨Y,j,none⟩=(#[.func (.yield l0) #[] #[]]:Array Value)[j]?):=zh fun A hA=>hA.cell
  refine wpIn_region_I (fun A=>Box A Y #[.func (.yield l0) #[] #[]] 159) 5 zK ?_;have hSS:Box W.drew Y #[.func (.yield l0) #[] #[]] 159:=HIN.out.yb;refine anyI_take (i:=0) (v:=?_) zK rfl zK zK zK zK zI (by rfl) ?_ hSS ?_;rotate_left
  ·(intro W hW;have q0:=KY.out W hW;go_simp;try with_reducible rfl)
  try simp only[pZ]
  refine anyI_take (i:=1) (v:=?_) zK rfl zK zK zK zK zI (by rfl) ?_ hSS ?_;rotate_left
  ·(intro W hW;have q0:=KY.out W hW;go_simp;try with_reducible rfl)
  try simp only[pZ]
  have hcl:=clone2_any fa fc (natInts pre) W.drew HFA.out (by rw[nat_len];omega);rw[nat_len] at hcl;refine anyI_call (i:=2) (f:=152) (args:=#[.slice fa pre.length fc]) rfl zK (by rfl) ?_ hcl ?_
  ·go_simp
  rintro e2 w2 ⟨a2,c2,rfl,ho,hcap,hb⟩;rw[nat_len] at hcap ⊢;have hb2:Below W.heap.size W w2:=(Below.refl _ W).drew.trans hb;have hSS:=hSS.below' hb;refine .inl ⟨_,rfl,.inr hSS,?_⟩
  try simp only[pZ]
  have hj2:=HJ.out _ _ _ HJ0.out hb2;have hcw:∀k,C w2 k→C W k:=fun k hk=>HC1.out _ _ _ _ HJ0.out hsz hb2 hk
  have hrd:OutRd n0 (C w2) pre #[.slice a2 pre.length c2] w2:=by
   refine⟨a2,c2,rfl,fun k v hv=>?_,hcap,fun b o hab hp0 hcb=>?_⟩
   ·obtain⟨b,o,h1,h2,h3⟩:=ho k v hv;exact⟨b,o,h1,Nat.le_trans hn0 (Nat.le_trans hsz h2),h3⟩
   ·obtain⟨x,hx⟩:=get_of_lt pre hp0;obtain⟨b',o',h1,h2,_⟩:=ho 0 (.int .i64 (x:Int)) (by simp[natInts,hx]);rw[hab] at h1;cases h1;have:=HC2.out _ _ _ HJ0.out hsz (hcw _ hcb);have h2':W.heap.size≤b:=h2
    omega
  have hy:=HY.out _ _ _ _ hj2 (Nat.le_trans hsz hb2.size) hrd (by simpa[outGo] using HPRE.out);refine anyI_yield (i:=3) (l:=l0) (args:=#[.slice a2 pre.length c2]) rfl zK (by rfl) ?_ hy ?_
  ·intro fn tmps assign body h1
   go_simp
  rintro e w3 (⟨rfl,hj3,hk3,hg3⟩|⟨rfl,hx,hk3,hg3⟩)
  ·have hin2:=HIN.out.kc (Kc.of_below hb2 hcw);have hkc:Kc C w2 w3:=⟨hk3,hg3⟩
   have hSS:Box w3 Y #[.func (.yield l0) #[] #[]] 159:=(hin2.kc hkc).yb;refine⟨_,rfl,.inr hSS,?_⟩
   try simp only[pZ]
   refine anyI_run (i:=4) (v:=.bool true) (w':=w3) rfl zK (by rfl) (by go_simp) (.inr hSS) ?_
   try simp only[pZ]
   refine anyI_done zK ?_ _;have HKC:=zh ((Kc.of_below hb2 hcw).trans hkc);have HJ3:=zh hj3;clear hj2 hcw hrd hy hj3 hk3 hg3 hin2 hkc hSS e1 KY hb hb2 ho hcap hcl
   gi_wp2_with fail
   try rw[Exit.noGoto_ret]
   go_ret
   exact .inl ⟨rfl,by simpa[outGo] using HJ3.out,HKC.out⟩
  ·have hin2:=HIN.out.kc (Kc.of_below hb2 hcw);have hkc:Kc C w2 w3:=⟨hk3,hg3⟩
   have hSS:Box w3 Y #[.func (.yield l0) #[] #[]] 159:=(hin2.kc hkc).yb;refine⟨_,rfl,.inr hSS,?_⟩
   try simp only[pZ]
   refine anyI_run (i:=4) (v:=.bool false) (w':=w3) rfl zK (by rfl) (by go_simp) (.inr hSS) ?_
   try simp only[pZ]
   refine anyI_done zK ?_ _;have HKC:=zh ((Kc.of_below hb2 hcw).trans hkc);have HX3:=zh hx;clear hj2 hcw hrd hy hx hk3 hg3 hin2 hkc hSS e1 KY hb hb2 ho hcap hcl
   gi_wp2_with fail
   try rw[Exit.noGoto_ret]
   go_ret
   exact .inr ⟨rfl,⟨_,by simpa[outGo] using HPRE.out,HX3.out⟩,HKC.out⟩
 |cons n ns ih=>
  intro pre done fa fc W hpl hdr hfa hfc hfn hsz hin hj hpre;have hok:=HOK.out _ _ hj;have e1:=hok.sb.cell;have hlt:pre.length<s.length:=by simp at hpl;omega
  have hlti:(pre.length:Int)<(s.length:Int):=by omega
  have hfci:(pre.length:Int)≤(fc:Int):=by omega
  have heq:((pre.length:Int)==(s.length:Int))=false:=by simp;omega
  obtain⟨v,hv⟩:=get_of_lt s hlt;have hvl:=HS.out v (List.mem_of_getElem? hv);obtain⟨p,hp⟩:=get_of_lt l hvl;have hn:cntN (spanOf c p) p.width=n:=by
   have h1:(cntsOf c l s)[pre.length]?=some n:=by
    have:=congrArg (fun x=>x[0]?) hdr
    simpa using this
   simpa[cntsOf,hv,hp] using h1
  have hdr':(cntsOf c l s).drop (pre.length+1)=ns:=by
   have:=congrArg List.tail hdr
   simpa using this
  obtain⟨b,o,rfl,hb⟩:=hok.set.base (by rw[nat_len];omega);have c1:=hb pre.length (v:Int) (by simp[natInts,hv]);have hlab:=hok.lab.below (W':=W.drew) (Below.refl _ W).drew;have hst:=labSteps_any HPR.out v p hp W.drew hlab;have hsl2:(stepsOf (spanOf c p) p.width).length=n:=by rw[←hn];exact stepsTo_len _ _ _
  have hpl1:pre.length≤1000:=by omega
  have hn4:n≤1000:=by rw[←hn];have:=((probes_ok HPR.out).2.2 p (List.mem_of_getElem? hp)).2.2;omega
  have k0:∀A,Below W.heap.size W A→(∀j,A.cell? ⟨TB,j,none⟩=(#[.pointer (some ⟨t,0,none⟩)]:Array Value)[j]?)∧(∀j,A.cell? ⟨SB,j,none⟩=(#[.slice (some ⟨b,o,none⟩) s.length sc]:Array Value)[j]?)∧A.cell? ⟨b,o+pre.length,none⟩=some (.int .i64 (v:Int)):=
   fun A hA=>⟨(hok.tb.below' hA).cell,(hok.sb.below' hA).cell,below_cell hA c1⟩
  have K0:=zh k0;have HST:=zh hst;have HSL:=zh hsl2;have HIN:=zh hin;have HFA:=zh hfa;have HFN:=zh hfn;have HJ0:=zh hj;have HPRE:=zh hpre;have HPL:=zh hpl;have HDR:=zh hdr';have IH:=zh ih;clear hok hin hfa hj hpre hdr hpl hfn ih hv hp hn hdr' hb c1 hlab hst hsl2 k0 hvl;refine callsIn_of_wp Tryz.func177 rfl trivial ?_;simp only[Tryz.ntmps177,List.size_toArray,List.length_cons,List.length_nil,Nat.reduceAdd,Nat.reduceSub,Array.replicate_succ,Array.replicate_zero,List.push_toArray,List.append_toArray,List.nil_append,List.cons_append]
  gi_wp2_with fail
  refine wpIn_region_I (fun A=>Below W.heap.size W A) 9 zK ?_;have hSS:Below W.heap.size W W.drew:=(Below.refl _ W).drew;refine anyI_take (i:=0) (v:=?_) zK rfl zK zK zK zK zI (by rfl) ?_ hSS ?_;rotate_left
  ·(intro W hW;obtain⟨q0,q1,q2⟩:=K0.out W hW;go_simp;try with_reducible rfl)
  try simp only[pZ]
  refine anyI_take (i:=1) (v:=?_) zK rfl zK zK zK zK zI (by rfl) ?_ hSS ?_;rotate_left
  ·(intro W hW;obtain⟨q0,q1,q2⟩:=K0.out W hW;go_simp;try with_reducible rfl)
  try simp only[pZ]
  refine anyI_take (i:=2) (v:=?_) zK rfl zK zK zK zK zI (by rfl) ?_ hSS ?_;rotate_left
  ·(intro W hW;obtain⟨q0,q1,q2⟩:=K0.out W hW;go_simp;try with_reducible rfl)
  try simp only[pZ]
  refine anyI_take (i:=3) (v:=?_) zK rfl zK zK zK zK zI (by rfl) ?_ hSS ?_;rotate_left
  ·(intro W hW;obtain⟨q0,q1,q2⟩:=K0.out W hW;go_simp;try with_reducible rfl)
  try simp only[pZ]
  refine anyI_take (i:=4) (v:=?_) zK rfl zK zK zK zK zI (by rfl) ?_ hSS ?_;rotate_left
  ·(intro W hW;obtain⟨q0,q1,q2⟩:=K0.out W hW;go_simp;try with_reducible rfl)
  try simp only[pZ]
  refine anyI_take (i:=5) (v:=?_) zK rfl zK zK zK zK zI (by rfl) ?_ hSS ?_;rotate_left
  ·(intro W hW;obtain⟨q0,q1,q2⟩:=K0.out W hW;go_simp;try with_reducible rfl)
  try simp only[pZ]
  refine anyI_take (i:=8) (v:=?_) zK rfl zK zK zK zK zI (by rfl) ?_ hSS ?_;rotate_left
  ·(intro W hW;obtain⟨q0,q1,q2⟩:=K0.out W hW;go_simp;try with_reducible rfl)
  try simp only[pZ]
  refine anyI_call (i:=6) (f:=137) (args:=#[.pointer (some ⟨t,0,none⟩),.int .i64 v]) rfl zK (by rfl) ?_ HST.out ?_
  ·go_simp
  rintro e2 w2 ⟨v2,rfl,ho,hb2⟩;obtain⟨a6,cap6,rfl,hr6,hcap6⟩:=ownsRow_own ho;rw[HSL.out];have hSS:Below W.heap.size W w2:=hSS.trans hb2;refine .inl ⟨_,rfl,.inr hSS,?_⟩
  try simp only[pZ]
  refine anyI_run (i:=7) (v:=.int .i64 n) (w':=w2) rfl zK (by rfl) (by go_simp) (.inr hSS) ?_
  try simp only[pZ]
  refine anyI_done zK ?_ _;have HKC:=zh (Kc.of_below hSS (fun k hk=>HC1.out _ _ _ _ HJ0.out hsz hSS hk));have HJ2:=zh (HJ.out _ _ _ HJ0.out hSS);clear ho hb2 hr6 hcap6 hSS K0 e1
  gi_wp2_with fail
  gi_loopw [25] (fun iv wr=>∃k:Nat,k≤n∧iv = .int .i64 k∧J (done++outTo ns pre k) wr∧Kc C W wr) (fun iv _=>n-(intOf iv).toNat)
  case atStart=>exact⟨0,Nat.zero_le _,rfl,by simpa[outTo] using HJ2.out,HKC.out⟩
  case round=>
   clear HJ2 HKC HST;obtain⟨k,hk,rfl,hj,hkc⟩:=hrel
   by_cases hkn:k<n
   ·have hkni:(k:Int)<(n:Int):=by omega
    have hin:=HIN.out.kc hkc;have hfa:Ints wr fa (natInts pre):=ints_kc HFA.out HFN.out hkc;have hfn:∀b o,fa=some ⟨b,o,none⟩→0<pre.length→¬C wr b:=fun b' o' e h0 hc=>by
     obtain⟨x,hx⟩:=get_of_lt pre h0;obtain⟨b2,o2,e2,hc2⟩:=HFA.out 0 (.int .i64 (x:Int)) (by simp[natInts,hx]);rw[e] at e2;cases e2;exact(hkc.2 _ hc).elim (HFN.out _ _ e h0) (fun hl=>absurd (lt_of_cell hc2) zO)
    have hszr:W0.heap.size≤wr.heap.size:=Nat.le_trans hsz hkc.1.size;have KN:Hid (∀A,Box A (Y+1) #[.func (.func 177) #[] #[.pointer (some ⟨SB,0,none⟩),.pointer (some ⟨Y,0,none⟩),.pointer (some ⟨TB,0,none⟩),.pointer (some ⟨Y+1,0,none⟩)]] 159→∀j,A.cell? ⟨Y+1,j,none⟩=(#[.func (.func 177) #[] #[.pointer (some ⟨SB,0,none⟩),.pointer (some ⟨Y,0,none⟩),.pointer (some ⟨TB,0,none⟩),.pointer (some ⟨Y+1,0,none⟩)]]:Array Value)[j]?):=zh fun A hA=>hA.cell
    have HI2:=zh hin;have HF2:=zh hfa;have HFN2:=zh hfn;have HJ2:=zh hj;have HKC:=zh hkc;clear hin hfa hfn hj hkc
    gi_wp2_with fail
    refine wpIn_region_I (fun A=>Box A (Y+1) #[.func (.func 177) #[] #[.pointer (some ⟨SB,0,none⟩),.pointer (some ⟨Y,0,none⟩),.pointer (some ⟨TB,0,none⟩),.pointer (some ⟨Y+1,0,none⟩)]] 159) 12 zK ?_;have hSS:Box wr.drew (Y+1) #[.func (.func 177) #[] #[.pointer (some ⟨SB,0,none⟩),.pointer (some ⟨Y,0,none⟩),.pointer (some ⟨TB,0,none⟩),.pointer (some ⟨Y+1,0,none⟩)]] 159:=HI2.out.nb;refine anyI_take (i:=0) (v:=?_) zK rfl zK zK zK zK zI (by rfl) ?_ hSS ?_;rotate_left
    ·(intro W hW;have q0:=KN.out W hW;go_simp;try with_reducible rfl)
    try simp only[pZ]
    refine anyI_take (i:=1) (v:=?_) zK rfl zK zK zK zK zI (by rfl) ?_ hSS ?_;rotate_left
    ·(intro W hW;have q0:=KN.out W hW;go_simp;try with_reducible rfl)
    try simp only[pZ]
    refine anyI_take (i:=2) (v:=?_) zK rfl zK zK zK zK zI (by rfl) ?_ hSS ?_;rotate_left
    ·(intro W hW;have q0:=KN.out W hW;go_simp;try with_reducible rfl)
    try simp only[pZ]
    refine anyI_take (i:=3) (v:=?_) zK rfl zK zK zK zK zI (by rfl) ?_ hSS ?_;rotate_left
    ·(intro W hW;have q0:=KN.out W hW;go_simp;try with_reducible rfl)
    try simp only[pZ]
    refine anyI_take (i:=4) (v:=?_) zK rfl zK zK zK zK zI (by rfl) ?_ hSS ?_;rotate_left
    ·(intro W hW;have q0:=KN.out W hW;go_simp;try with_reducible rfl)
    try simp only[pZ]
    refine anyI_take (i:=5) (v:=?_) zK rfl zK zK zK zK zI (by rfl) ?_ hSS ?_;rotate_left
    ·(intro W hW;have q0:=KN.out W hW;go_simp;try with_reducible rfl)
    try simp only[pZ]
    refine anyI_take (i:=6) (v:=?_) zK rfl zK zK zK zK zI (by rfl) ?_ hSS ?_;rotate_left
    ·(intro W hW;have q0:=KN.out W hW;go_simp;try with_reducible rfl)
    try simp only[pZ]
    refine anyI_take (i:=7) (v:=?_) zK rfl zK zK zK zK zI (by rfl) ?_ hSS ?_;rotate_left
    ·(intro W hW;have q0:=KN.out W hW;go_simp;try with_reducible rfl)
    try simp only[pZ]
    refine anyI_run (i:=8) (v:=.slice (some ⟨wr.drew.heap.size,0,none⟩) 1 1) (w':=wr.drew.alloc (.cells #[.int .i64 (k:Int)] 3)) rfl zK (by rfl) ?_ (.inr (hSS.alloc _)) ?_
    ·go_simp
     try with_reducible rfl
    try simp only[pZ]
    obtain⟨v',U,hrun,hown,hbU⟩:=app_cut (W:=wr.drew) (HF2.out.below (Below.refl _ wr).drew) hpl1 k;refine anyI_run (i:=9) (v:=v') (w':=U) rfl zK (by rfl) ?_ (.inr (hSS.below' hbU)) ?_
    ·refine exec_app (v:=.slice fa pre.length pre.length) (u:=.slice (some ⟨wr.drew.heap.size,0,none⟩) 1 1) _ _ 26 rfl (by rfl) (by rfl) ?_;exact hrun
    try simp only[pZ]
    obtain⟨a7,c7,rfl,hro7,hc7⟩:=ownsRow_own hown;have hbw:Below wr.heap.size wr U:=(Below.refl _ wr).drew.trans hbU;have hcw:∀j,C U j→C wr j:=fun j hj=>HC1.out _ _ _ _ HJ2.out hszr hbw hj
    have hkU:=Kc.of_below hbw hcw;have hle:=List.prefix_append_right_inj done |>.2 (outTo_le ns pre (k:=k+1) (m:=n) zO);rw[outTo_succ,←List.append_assoc] at hle;have hih:=IH.out (pre++[k]) (done++outTo ns pre k) a7 c7 U (by have:=HPL.out;simp at this ⊢;omega) (by simpa using HDR.out) hro7.row (by simpa using hc7) (fun b' o' e _ hc=>by
     obtain⟨b2,o2,e2,h2,_⟩:=hro7 pre.length (.int .i64 (k:Int)) (by simp[natInts]);rw[e] at e2;cases e2;have:=HC2.out _ _ _ HJ2.out hszr (hcw _ hc);have h2':wr.heap.size≤b':=h2
     omega) (Nat.le_trans hszr hbw.size) (HI2.out.kc hkU) (HJ.out _ _ _ HJ2.out hbw) (hle.trans HPRE.out)
    rw[show(pre++[k]).length=pre.length+1 by simp] at hih;refine anyI_call (i:=10) (f:=177) (args:=#[.slice a7 (pre.length+1) c7,.pointer (some ⟨SB,0,none⟩),.pointer (some ⟨Y,0,none⟩),.pointer (some ⟨TB,0,none⟩),.pointer (some ⟨Y+1,0,none⟩)]) rfl zK (by rfl) ?_ (callsIn_wide.1 hih) ?_
    ·go_simp
    rintro e w9 (⟨rfl,hj9,hk9⟩|⟨rfl,hx,hk9⟩)
    ·have hSS:Box w9 (Y+1) _ _:=((HI2.out.kc hkU).kc hk9).nb;refine .inl ⟨_,rfl,.inr hSS,?_⟩
     try simp only[pZ]
     refine anyI_run (i:=11) (v:=.bool false) (w':=w9) rfl zK (by rfl) (by go_simp) (.inr hSS) ?_
     try simp only[pZ]
     refine anyI_done zK ?_ _;have HJ9:=zh hj9;have HKC9:=zh ((HKC.out.trans hkU).trans hk9);clear hj9 hk9 hih hle hkU hcw hbw hro7 hc7 hown hrun hbU hSS
     gi_wp2_with fail
     go_roundw
     case rel=>exact⟨k+1,zO,zN,by rw[outTo_succ,←List.append_assoc];exact HJ9.out,HKC9.out⟩
     case measure=>exact zJ
    ·have hSS:Box w9 (Y+1) _ _:=((HI2.out.kc hkU).kc hk9).nb;refine .inl ⟨_,rfl,.inr hSS,?_⟩
     try simp only[pZ]
     refine anyI_run (i:=11) (v:=.bool true) (w':=w9) rfl zK (by rfl) (by go_simp) (.inr hSS) ?_
     try simp only[pZ]
     refine anyI_done zK ?_ _;have HX9:=zh hx;have HKC9:=zh ((HKC.out.trans hkU).trans hk9);clear hx hk9 hih hle hkU hcw hbw hro7 hc7 hown hrun hbU hSS
     gi_wp2_with fail
     try rw[Exit.noGoto_ret]
     go_ret
     exact .inr ⟨rfl,HX9.out,HKC9.out⟩
   ·have hke:k=n:=by omega
    have HJ9:=zh hj;have HKC9:=zh hkc;have HKE:=zh hke;have hkni:decide ((k:Int)<(n:Int))=false:=by simp;omega
    clear hj hkc hke
    gi_wp2_with fail
    try rw[Exit.noGoto_ret]
    go_ret
    exact .inl ⟨rfl,by rw[←outTo_all,←HKE.out];exact HJ9.out,HKC9.out⟩
theorem outcomes_any (t:Nat)(sa:Option Addr)(n sc:Nat)(w:World):
 Calls Tryz.prog 115 #[.pointer (some ⟨t,0,none⟩),.slice sa n sc] w fun e w'=>e = .returned (.func (.func 176) #[] #[.pointer (some ⟨w.heap.size+1,0,none⟩),.pointer (some ⟨w.heap.size,0,none⟩)]) ∧
  (w.alloc (.cells #[.pointer (some ⟨t,0,none⟩)] 104)).alloc (.cells #[.slice sa n sc] 26)=w':=by
 have hmf:=run_mf Tryz.prog
 go_enter Tryz.func115,Tryz.ntmps115
 go_wp2
 go_ret
 exact⟨rfl,rfl⟩
theorem cnts_len (c:Cs)(l:List Prb)(s:List Nat):(cntsOf c l s).length=s.length:=by simp[cntsOf]
theorem outs_gives {t:Nat}{c:Cs}{pa:Option Addr}{pc:Nat}{l:List Prb}{qa:Option Addr}{qc:Nat}(hpr:probesErr c l=0)(sa:Option Addr)(s:List Nat)(sc TB SB n0:Nat)(hs:∀v∈s,v<l.length)(hsl:s.length≤1000)(W:World)(hn0:n0≤W.heap.size):
 GivesD Tryz.prog 176 #[.pointer (some ⟨SB,0,none⟩),.pointer (some ⟨TB,0,none⟩)] (OutRd n0) (outsOf (cntsOf c l s)) (fun _ J=>∀pre A,J pre A→OutOk t c pa pc l qa qc sa s sc TB SB A) W:=by
 intro l0 C J Jx hJ hJx hC1 hC2 hOk hY h0;have hmf:=run_mf Tryz.prog;have hB:Below W.heap.size W ((W.alloc (.cells #[.func (.yield l0) #[] #[]] 159)).alloc (.cells #[.func (.func 177) #[] #[.pointer (some ⟨SB,0,none⟩),.pointer (some ⟨W.heap.size,0,none⟩),.pointer (some ⟨TB,0,none⟩),.pointer (some ⟨W.heap.size+1,0,none⟩)]] 159)):=by go_grown
 have hcw:=fun k (hk:C _ k)=>hC1 _ _ _ _ h0 (Nat.le_refl _) hB hk
 have hin:OutIn l0 W.heap.size TB SB C ((W.alloc (.cells #[.func (.yield l0) #[] #[]] 159)).alloc (.cells #[.func (.func 177) #[] #[.pointer (some ⟨SB,0,none⟩),.pointer (some ⟨W.heap.size,0,none⟩),.pointer (some ⟨TB,0,none⟩),.pointer (some ⟨W.heap.size+1,0,none⟩)]] 159)):=
  ⟨(Box.new _ _ _).alloc _,Box.new' zS,fun h=>by have:=hC2 _ _ _ h0 (Nat.le_refl _) (hcw _ h);omega,fun h=>by have:=hC2 _ _ _ h0 (Nat.le_refl _) (hcw _ h);omega⟩
 have hcall:=next9_any hpr sa s sc TB SB l0 W.heap.size n0 hs hsl W hn0 C J Jx hJ hC1 hC2 hOk hY (cntsOf c l s) [] [] none 0 _ (by rw[cnts_len];simp) rfl (Ints.nil _ _) (Nat.le_refl _) (fun _ _ h=>by cases h) hB.size hin (hJ _ _ _ h0 hB) (by simp[outsOf]);have HC:=zh hcall;clear hcall hin hcw hB hJ hJx hC1 hC2 hOk hY h0;refine callsIn_of_wp Tryz.func176 rfl trivial ?_;simp only[Tryz.ntmps176,List.size_toArray,List.length_cons,List.length_nil,Nat.reduceAdd,Nat.reduceSub,Array.replicate_succ,Array.replicate_zero,List.push_toArray,List.append_toArray,List.nil_append,List.cons_append]
 gi_wp2_with fail
 refine HC.out.mono ?_;rintro e W' (⟨rfl,hj',hk'⟩|⟨rfl,⟨q,hq,hx'⟩,hk'⟩)
 ·clear HC hk'
  gi_wp2_with fail
  go_end0
  exact⟨⟨_,rfl⟩,.inl (by simpa[outsOf] using hj')⟩
 ·clear HC hk'
  gi_wp2_with fail
  go_end0
  exact⟨⟨_,rfl⟩,.inr ⟨q,hq,hx'⟩⟩
end
