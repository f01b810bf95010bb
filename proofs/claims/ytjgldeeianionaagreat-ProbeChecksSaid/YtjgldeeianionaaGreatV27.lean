/- Walks and plain laws. No condition. -/
import Derived.Test.YtjgldeeianionaaGreatV23
import Derived.Test.YtjgldeeianionaaGreatV25
import Derived.Test.YtjgldeeianionaaGreatV26
set_option maxHeartbeats 4000000
set_option maxRecDepth 100000
set_option linter.unusedSimpArgs false
set_option linter.unusedVariables false
namespace Go.Proofs.YtjgldeeianionaaGreat
open Go.RowKit
section
attribute [local go_sem] Oper.semAt_some
theorem sets1_any {t:Nat}{c:Cs}{pa:Option Addr}{pc:Nat}{l:List Prb}{qa:Option Addr}{qc:Nat}(hl5:l.length≤5)(w0:World)(h0:LabAt w0 t c pa pc l qa qc):
 ∀(r:Nat) (s:List Nat) (a:Nat) (done:List (List Nat)) (sa:Option Addr) (sc:Nat) (W:World),l.length≤a+r→a≤l.length→s.length+r≤1000→(done++setGo l.length r s a) <+: setsOf l.length→SeSt w0 t done W→Ints W sa (natInts s)→s.length≤sc →
  (∀b o,sa=some ⟨b,o,none⟩→0<s.length→w0.heap.size+3≤b∧¬SeC (w0.heap.size+1) W b) →
  Calls Tryz.prog 164 #[.slice sa s.length sc,.int .i64 a,.pointer (some ⟨w0.heap.size+1,0,none⟩),.pointer (some ⟨w0.heap.size,0,none⟩),.pointer (some ⟨w0.heap.size+2,0,none⟩)] W fun e W'=>e = .returned (.tuple #[])∧SeSt w0 t (done++setGo l.length r s a) W'∧Kc (SeC (w0.heap.size+1)) W W':=by
 intro r
 induction r using Nat.strongRecOn with
 |_ r ih=>
  intro s a done sa sc W hr hal hsr hpre hst hS hsc hf;have hdl:done.length+1≤1000000:=by
   have h1:=hpre.length_le;have h2:=sets_len (m:=l.length) hl5;rw[List.length_append] at h1
   omega
  obtain⟨v,av,nv,cv,U,hv,hrun,⟨q,hq⟩,hst1,hk1⟩:=hst.push hS hsc hf hdl;have htl:l.length≤a→setGo l.length r s a=[s]:=setGo_end;have hin1:∀W',Kc (SeC (w0.heap.size+1)) W W'→Ints W' sa (natInts s)∧(∀b o,sa=some ⟨b,o,none⟩→0<s.length→w0.heap.size+3≤b∧¬SeC (w0.heap.size+1) W' b):=fun W' hk=>by
   refine⟨fun j u hu=>?_,fun b o hb h0=>⟨(hf b o hb h0).1,fun hc=>?_⟩⟩
   ·obtain⟨b,o,e,hc⟩:=hS j u hu;exact⟨b,o,e,hk.1.cell (hf b o e (by have:=(List.getElem?_eq_some_iff.1 hu).1;simp[natInts] at this;omega)).2 hc⟩
   ·obtain⟨x,hx⟩:=get_of_lt s h0;obtain⟨b2,o2,e2,hc2⟩:=hS 0 (.int .i64 (x:Int)) (by simp[natInts,hx]);rw[hb] at e2;cases e2;exact(hk.2 _ hc).elim (hf b o hb h0).2 (fun hl=>absurd (lt_of_cell hc2) zO)
  have HIN:=zh hin1;have HRN:=zh hrun;have HST1:=zh hst1;have HK1:=zh hk1;have HPRE:=zh hpre;have HR:=zh hr;have IH:=zh ih;have H0:=zh h0;have HEND:=zh htl;have e1:=hv.cell;obtain⟨z1,z2⟩:=hq.rules;clear hin1 hrun hst1 hk1 hpre hr ih h0 hst hS hf hv hq htl
  go_enter Tryz.func164,Tryz.ntmps164
  go_wp2_with (at_builtin;refine wpList_app rfl _ _ _ rfl rfl rfl HRN.out ?_)
  clear e1 z1 z2;generalize U.setCell ⟨w0.heap.size+1,0,none⟩ (.slice av nv cv)=W1 at *
  go_loopw [7] (fun iv wr=>∃j:Nat,a≤j∧j≤l.length∧iv = .int .i64 j∧SeSt w0 t (done++[s]++setTo l.length (r-1) s a (j-a)) wr∧Kc (SeC (w0.heap.size+1)) W wr) (fun iv _=>l.length-(intOf iv).toNat)
  case atStart=>exact⟨a,Nat.le_refl _,hal,rfl,by simpa[setTo] using HST1.out,HK1.out⟩
  case round=>
   clear HST1 HK1;obtain⟨j,haj,hjl,rfl,hst,hk⟩:=hrel;have htb:=hst.tb.cell;have e4:=(H0.out.below hst.old).cells
   by_cases hlt:j<l.length
   ·have hlti:(j:Int)<(l.length:Int):=by omega
    obtain⟨hS,hf⟩:=HIN.out _ hk;have KN:Hid (∀A,Box A (w0.heap.size+2) #[.func (.func 164) #[] #[.pointer (some ⟨w0.heap.size+1,0,none⟩),.pointer (some ⟨w0.heap.size,0,none⟩),.pointer (some ⟨w0.heap.size+2,0,none⟩)]] 192→∀i,A.cell? ⟨w0.heap.size+2,i,none⟩=(#[.func (.func 164) #[] #[.pointer (some ⟨w0.heap.size+1,0,none⟩),.pointer (some ⟨w0.heap.size,0,none⟩),.pointer (some ⟨w0.heap.size+2,0,none⟩)]]:Array Value)[i]?):=zh fun A hA=>hA.cell
    have HST:=zh hst;have HKK:=zh hk;have HS:=zh hS;have HF:=zh hf;clear hst hk hS hf;have hsci:(s.length:Int)≤(sc:Int):=by omega
    go_wp2_with fail
    refine wp_region_L (fun A=>Box A (w0.heap.size+2) #[.func (.func 164) #[] #[.pointer (some ⟨w0.heap.size+1,0,none⟩),.pointer (some ⟨w0.heap.size,0,none⟩),.pointer (some ⟨w0.heap.size+2,0,none⟩)]] 192) 13 zK ?_;have hSS:Box wr.drew (w0.heap.size+2) #[.func (.func 164) #[] #[.pointer (some ⟨w0.heap.size+1,0,none⟩),.pointer (some ⟨w0.heap.size,0,none⟩),.pointer (some ⟨w0.heap.size+2,0,none⟩)]] 192:=HST.out.nb;clear htb e4;have hwr:IntKind.i64.wrap ((j:Int)+1)=(j:Int)+1:=IntWalk.i64_in _ zO;refine tM KN 0 hSS ?_;refine tM KN 1 hSS ?_;refine tM KN 2 hSS ?_;refine tM KN 3 hSS ?_;refine tM KN 4 hSS ?_;refine tM KN 5 hSS ?_;refine tM KN 6 hSS ?_;refine tM KN 7 hSS ?_;refine tM KN 10 hSS ?_;refine tM KN 11 hSS ?_;clear hwr
    refine anyL_run (i:=8) (v:=.slice (some ⟨wr.drew.heap.size,0,none⟩) 1 1) (w':=wr.drew.alloc (.cells #[.int .i64 (j:Int)] 3)) rfl zK (by rfl) ?_ (.inr (hSS.alloc _)) ?_
    ·go_simp
     try with_reducible rfl
    try simp only[pZ]
    obtain⟨v2,U2,hrun,hown,hbU⟩:=app_cut (W:=wr.drew) (HS.out.below (Below.refl _ wr).drew) zO j;refine anyL_run (i:=9) (v:=v2) (w':=U2) rfl zK (by rfl) ?_ (.inr (hSS.below' hbU)) ?_
    ·refine exec_app (v:=.slice sa s.length s.length) (u:=.slice (some ⟨wr.drew.heap.size,0,none⟩) 1 1) _ _ 26 rfl (by rfl) (by rfl) ?_;exact hrun
    try simp only[pZ]
    obtain⟨a7,c7,rfl,hro7,hc7⟩:=ownsRow_own hown;have hbw:Below wr.heap.size wr U2:=(Below.refl _ wr).drew.trans hbU;have hcw:∀k,SeC (w0.heap.size+1) U2 k→SeC (w0.heap.size+1) wr k:=fun k hk=>by
     rcases hk with rfl|⟨u,hu,he⟩
     ·exact .inl rfl
     ·obtain⟨v3,h3,_⟩:=HST.out.out;rw[box_uni hu (h3.below' hbw)] at he;exact .inr ⟨v3,h3,he⟩
    have hkU:=Kc.of_below hbw hcw;have hr1:r=(r-1)+1:=by have:=HR.out;omega
    have hle:(done++[s]++setTo l.length (r-1) s a (j+1-a)) <+: (done++setGo l.length r s a):=by
     conv=>rhs;rw[hr1]
     rw[setGo_all,←List.append_assoc];exact(List.prefix_append_right_inj _).2 (setTo_le _ _ _ _ zO)
    rw[setTo_up _ _ _ haj,←List.append_assoc] at hle;have hih:=IH.out (r-1) zO (s++[j]) (j+1) (done++[s]++setTo l.length (r-1) s a (j-a)) a7 c7 U2 (by have:=HR.out;omega) zO zT (hle.trans HPRE.out) (HST.out.below hbw) hro7.row (by simpa using hc7) (fun b' o' e _=>by
     obtain⟨b2,o2,e2,h2,_⟩:=hro7 s.length (.int .i64 (j:Int)) (by simp[natInts]);rw[e] at e2;cases e2;have h2':wr.heap.size≤b':=h2;have h3:=HST.out.nb.lt;refine⟨zO,fun hc=>?_⟩
     rcases hcw _ hc with h|⟨u,hu,he⟩
     ·omega
     ·obtain⟨v3,h4,h5⟩:=HST.out.out;rw[box_uni hu h4] at he;have:=(h5.lt he).2
      omega)
    rw[show(s++[j]).length=s.length+1 by simp,show((j+1:Nat):Int)=(j:Int)+1 by omega] at hih;refine anyL_call (i:=12) (f:=164) (args:=#[.slice a7 (s.length+1) c7,.int .i64 ((j:Int)+1),.pointer (some ⟨w0.heap.size+1,0,none⟩),.pointer (some ⟨w0.heap.size,0,none⟩),.pointer (some ⟨w0.heap.size+2,0,none⟩)]) rfl zK (by rfl) ?_ hih ?_
    ·go_simp
    rintro e w9 ⟨rfl,hst9,hk9⟩;refine .inl ⟨_,rfl,.inr hst9.nb,?_⟩
    try simp only[pZ]
    refine anyL_done zK ?_ _;have HS9:=zh hst9;have HK9:=zh ((HKK.out.trans hkU).trans hk9);clear hst9 hk9 hih hle hr1 hkU hcw hbw hro7 hc7 hown hrun hbU hSS KN
    go_wp2_with fail
    go_roundw
    case rel=>exact⟨j+1,zO,zO,zN,by rw[setTo_up _ _ _ haj,←List.append_assoc];exact HS9.out,HK9.out⟩
    case measure=>exact zJ
   ·have hje:j=l.length:=by omega
    have hlti:decide ((j:Int)<(l.length:Int))=false:=by simp;omega
    have HST:=zh hst;have HKK:=zh hk;have HJE:=zh hje;clear hst hk hje
    go_wp2_with fail
    go_end0
    refine⟨rfl,?_,HKK.out⟩;have h:=HST.out;rw[HJE.out] at h
    by_cases hla:l.length≤a
    ·rw[HEND.out hla];rw[show l.length-a=0 by omega] at h
     simpa[setTo] using h
    ·have hr1:r=(r-1)+1:=by have:=HR.out;omega
     rw[hr1,setGo_all,←List.append_assoc];exact h
def IntFn (K:Nat)(caps:Array Value)(w0:World)(p:Int→Bool):Prop:=
 (∀args W,(callFunc K args).run Tryz.prog W = .ok (.enter K args) W)∧∀W x,Below w0.heap.size w0 W→Calls Tryz.prog K (#[.int .i64 x]++caps) W fun e W'=>e = .returned (.bool (p x))∧Below W.heap.size W W'
theorem indexInts_any {K:Nat}{caps:Array Value}{p:Int→Bool}(a:Option Addr)(c:Nat)(l:List Int)(w:World)(hf:IntFn K caps w p)(h:Ints w a l)(hl:l.length≤1000000):
 Calls Tryz.prog 200 #[.slice a l.length c,.func (.func K) #[] caps] w fun e w'=>e = .returned (.int .i64 (idxZ p l))∧Below w.heap.size w w':=by
 have hent:=hf.1;have HF:=zh hf.2;clear hf
 go_enter Tryz.func200,Tryz.ntmps200
 go_wp2
 go_loopw [8] (fun i wr=>∃k:Nat,k≤l.length∧i = .int .i64 k∧(∀x∈l.take k,p x=false)∧Below w.heap.size w wr) (fun i _=>l.length-(intOf i).toNat)
 case atStart=>exact⟨0,Nat.zero_le _,rfl,by simp,Below.refl _ _⟩
 case round=>
  obtain⟨k,hk,rfl,hall,hb⟩:=hrel;have HA:=zh hall;have HB:=zh hb;clear hall hb
  by_cases hlt:k<l.length
  ·obtain⟨b,o,rfl,hb⟩:=h.base zO;obtain⟨x,hx⟩:=get_of_lt l hlt;have c1:=below_cell HB.out (hb _ _ hx);have HCL:=zh (HF.out wr x HB.out);have hkn:(k:Int)<(l.length:Int):=by omega
   have HX:=zh hx;clear hx hb
   rcases hp:p x with _|_
   ·have HP:=zh hp;rw[hp] at HCL;clear hp
    go_wp2_with fail
    refine zM HCL ?_;rintro e w2 ⟨rfl,hb2⟩;have HB2:=zh (HB.out.trans (hb2.mono HB.out.size));clear hb2 c1
    go_wp2_with fail
    go_roundw
    case rel=>
     refine⟨k+1,zO,zN,fun y hy=>?_,HB2.out⟩;rw[List.take_add_one,HX.out] at hy;simp at hy
     rcases hy with hy|rfl
     ·exact HA.out y hy
     ·exact HP.out
    case measure=>exact zJ
   ·have HP:=zh hp;rw[hp] at HCL;clear hp
    go_wp2_with fail
    refine zM HCL ?_;rintro e w2 ⟨rfl,hb2⟩;have HB2:=zh (HB.out.trans (hb2.mono HB.out.size));clear hb2 c1
    go_wp2_with fail
    go_ret
    exact⟨by rw[idxZ_at HX.out HP.out HA.out];rfl,HB2.out⟩
  ·go_wp2_with fail
   go_ret
   exact⟨by rw[idxZ_no (fun x hx=>HA.out x (by rw[List.take_of_length_le zO];exact hx))];rfl,HB.out⟩
theorem containsInts_any {K:Nat}{caps:Array Value}{p:Int→Bool}(a:Option Addr)(c:Nat)(l:List Int)(w:World)(hf:IntFn K caps w p)(h:Ints w a l)(hl:l.length≤1000000):
 Calls Tryz.prog 167 #[.slice a l.length c,.func (.func K) #[] caps] w fun e w'=>e = .returned (.bool (l.any p))∧Below w.heap.size w w':=by
 have HI:=zh (indexInts_any a c l w hf h hl);clear hf h
 go_enter Tryz.func167,Tryz.ntmps167
 go_wp2_with fail
 refine zM HI ?_;rintro e w2 ⟨rfl,hb2⟩;have HB2:=zh hb2;obtain⟨n,hn⟩:=zx (idxZ p l);have hd:decide (0≤n)=l.any p:=by rw[←hn,idxZ_any]
 rw[hn];clear hn hb2;have HD:=zh hd;clear hd
 go_wp2_with fail
 go_ret
 exact⟨by rw[HD.out];rfl,HB2.out⟩
theorem isIn1_any (g:Nat)(a:Option Addr)(c:Nat)(l:List Int)(x:Int)(w:World)(hg:Box w g #[.slice a l.length c] 26)(h:Ints w a l)(hl:l.length≤1000000):
 Calls Tryz.prog 168 #[.int .i64 x,.pointer (some ⟨g,0,none⟩)] w fun e w'=>e = .returned (.bool (!l.contains x))∧Below w.heap.size w w':=by
 have HC:=zh (contains_any a c l x w h hl);have e1:=hg.cell;generalize l.contains x=b at *
 go_enter Tryz.func168,Tryz.ntmps168
 go_wp2_with fail
 refine zM HC ?_;rintro e w2 ⟨rfl,hb2⟩;have HB2:=zh hb2;clear hb2 e1
 go_wp2_with fail
 go_ret
 exact⟨rfl,HB2.out⟩
theorem isInB_any (s t:List Nat):(natInts s).any (fun x=>!(natInts t).contains x) = !isInB s t:=by
 unfold isInB
 induction s with
 |nil=>rfl
 |cons x s ih=>
  have hc:(natInts t).contains (x:Int)=t.contains x:=by
   rw[Bool.eq_iff_iff]
   simp[natInts]
   exact⟨fun⟨a,h,e⟩=>by rw[show x=a by omega];exact h,fun h=>⟨x,h,rfl⟩⟩
  have e:natInts (x::s)=(x:Int)::natInts s:=rfl;rw[e,List.any_cons,ih,hc,List.all_cons];cases t.contains x<;>simp
theorem isIn_any (sa:Option Addr)(s:List Nat)(sc:Nat)(ta:Option Addr)(t:List Nat)(tc:Nat)(w:World)(hS:Ints w sa (natInts s))(hT:Ints w ta (natInts t))(hsl:s.length≤1000)(htl:t.length≤1000):
 Calls Tryz.prog 87 #[.slice sa s.length sc,.slice ta t.length tc] w fun e w'=>e = .returned (.bool (isInB s t))∧Below w.heap.size w w':=by
 have hmf:=run_mf Tryz.prog;have hB1:Below w.heap.size w (w.alloc (.cells #[.slice ta t.length tc] 26)):=by go_grown
 have hg:Box (w.alloc (.cells #[.slice ta t.length tc] 26)) w.heap.size #[.slice ta (natInts t).length tc] 26:=by rw[nat_len];exact Box.new _ _ _
 have hc:=containsInts_any (K:=168) (caps:=#[.pointer (some ⟨w.heap.size,0,none⟩)]) (p:=fun x=>!(natInts t).contains x) sa sc (natInts s) (w.alloc (.cells #[.slice ta t.length tc] 26))
  ⟨fun args W=>by simp[go_sem],fun W x hW=>isIn1_any w.heap.size ta tc (natInts t) x W (hg.below' hW) (hT.below (hB1.trans (hW.mono hB1.size))) (by rw[nat_len];omega)⟩ (hS.below hB1) (by rw[nat_len];omega)
 rw[isInB_any,nat_len] at hc;have HC:=zh hc;have HB1:=zh hB1;obtain⟨b,hb⟩:=zx (isInB s t);rw[hb] at HC ⊢;clear hc hB1 hg hS hT hb
 go_enter Tryz.func87,Tryz.ntmps87
 go_wp2_with fail
 refine zM HC ?_;rintro e w2 ⟨rfl,hb2⟩;have HB2:=zh (HB1.out.trans (hb2.mono HB1.out.size));clear hb2
 go_wp2_with fail
 go_ret
 exact⟨by simp,HB2.out⟩
def SetsPost (L:List (List Nat))(w:World)(e:Ending)(w':World):Prop:=∃v,e = .returned v∧RowsG 26 w.heap.size (fun b=>w.heap.size≤b) w' v (rowsN L)∧Below w.heap.size w w'
theorem sets_any {t:Nat}{c:Cs}{pa:Option Addr}{pc:Nat}{l:List Prb}{qa:Option Addr}{qc:Nat}(hl5:l.length≤5)(w:World)(h:LabAt w t c pa pc l qa qc):
 Calls Tryz.prog 85 #[.pointer (some ⟨t,0,none⟩)] w (SetsPost (setsOf l.length) w):=by
 have hmf:=run_mf Tryz.prog;obtain⟨w3,hw3⟩:=zx ((((w.alloc (.cells #[.pointer (some ⟨t,0,none⟩)] 104)).alloc (.cells #[.slice none 0 0] 49)).alloc (.cells #[.func (.func 164) #[] #[.pointer (some ⟨w.heap.size+1,0,none⟩),.pointer (some ⟨w.heap.size,0,none⟩),.pointer (some ⟨w.heap.size+2,0,none⟩)]] 192)));have hst:SeSt w t [] w3:=by
  rw[←hw3];exact⟨by go_grown,((Box.new _ _ _).alloc _).alloc _,Box.new' zS,_,(Box.new' zS).alloc _,RowsG.nil _ _ _⟩
 have hcl:=sets1_any hl5 w h l.length [] 0 [] none 0 w3 zO (Nat.zero_le _) zT (by simp[setsOf]) hst (Ints.nil _ _) (Nat.le_refl _) (fun _ _ h=>by cases h);have HC:Hid (Calls Tryz.prog 164 #[.slice none 0 0,.int .i64 0,.pointer (some ⟨w.heap.size+1,0,none⟩),.pointer (some ⟨w.heap.size,0,none⟩),.pointer (some ⟨w.heap.size+1+1,0,none⟩)] w3 _):=zh hcl;have HW:=zh hw3;clear hcl hst h hw3
 go_enter Tryz.func85,Tryz.ntmps85
 go_wp2_with fail
 simp only[HW.out];refine zM HC ?_;rintro e w2 ⟨rfl,hst,-⟩;obtain⟨v,h1,h2⟩:=hst.out;obtain⟨a,cap,rfl,_⟩:=h2.at_;have e1:=h1.cell;have HO:=zh hst.old;have H2:=zh h2;clear hst h1 h2
 go_wp2_with fail
 go_ret
 exact⟨_,rfl,by simpa[setsOf] using H2.out.less zO (fun b hb=>by omega),HO.out⟩
end
