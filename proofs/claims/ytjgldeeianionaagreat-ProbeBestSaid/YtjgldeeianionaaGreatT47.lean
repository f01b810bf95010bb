/- The walks and plain laws of: MQR25 MQLawB. No condition. -/
import Derived.Test.YtjgldeeianionaaGreatT40
import Derived.Test.YtjgldeeianionaaGreatT43
import Derived.Test.YtjgldeeianionaaGreatT46
import Derived.Test.YtjgldeeianionaaGreatT01
set_option maxHeartbeats 2000000
set_option maxRecDepth 100000
set_option linter.unusedSimpArgs false
set_option linter.unusedVariables false
namespace Go.Proofs.YtjgldeeianionaaGreat
open Go.RowKit
attribute [local go_sem] Oper.semAt_some
def bstTo (c:Cs)(l:List Prb)(L:List (Nat×Nat)):Option ((Nat×Nat)×List Nat):=
 leastOf (fun x=>costOf l x.2) (fun _=>true) (L.filterMap fun p=>(cheapestOf c l p.1 p.2).map fun s=>(p,s))
theorem bst_none {c:Cs}{l:List Prb}{L:List (Nat×Nat)}{k:Nat}{p:Nat×Nat}(hp:L[k]?=some p)(h:cheapestOf c l p.1 p.2=none):bstTo c l (L.take (k+1))=bstTo c l (L.take k):=by
 unfold bstTo;rw[take_snoc hp,List.filterMap_append]
 simp[h]
theorem bst_some {c:Cs}{l:List Prb}{L:List (Nat×Nat)}{k:Nat}{p:Nat×Nat}{s:List Nat}(hp:L[k]?=some p)(h:cheapestOf c l p.1 p.2=some s):bstTo c l (L.take (k+1))=leastStep (fun x=>costOf l x.2) (fun _=>true) (bstTo c l (L.take k)) (p,s):=by
 unfold bstTo;rw[take_snoc hp,List.filterMap_append,←leastOf_snoc]
 simp[h]
def BstAt (l:List Prb)(o:Option ((Nat×Nat)×List Nat))(D B:Nat)(W:World):Prop:=
 ∃p1 p2 ba n bc cst,Box W D #[.int .i64 p1,.int .i64 p2] 57∧Box W (D+1) #[.slice ba n bc,.int .i64 cst] 42 ∧
  ((o=none∧p1=0∧p2=0∧ba=none∧n=0∧bc=0∧cst=0)∨∃(p:Nat×Nat) (x:List Nat) (M:Nat),o=some (p,x)∧p1=p.1∧p2=p.2∧n=x.length∧cst=costOf l x∧M≤W.heap.size∧IntsHi B M W ba (natInts x)∧x.length≤bc)
theorem BstAt.below {l:List Prb}{o:Option ((Nat×Nat)×List Nat)}{D B:Nat}{W W':World}(h:BstAt l o D B W)(hb:Below W.heap.size W W'):BstAt l o D B W':=by
 obtain⟨p1,p2,ba,n,bc,cst,h1,h2,h3⟩:=h;refine⟨p1,p2,ba,n,bc,cst,h1.below' hb,h2.below' hb,?_⟩
 rcases h3 with h3|⟨p,x,M,a1,a2,a3,a4,a5,a6,a7,a8⟩
 ·exact .inl h3
 ·exact .inr ⟨p,x,M,a1,a2,a3,a4,a5,Nat.le_trans a6 hb.size,a7.below hb,a8⟩
theorem bestXR9_any (c:Cs)(hsm:c.Small)(pa:Option Addr)(pc:Nat)(l:List Prb)(qa:Option Addr)(qc:Nat)(w:World)(hp:PartsAt w pa c.parts)(hq:PrbsAt w qa l):
 Calls Tryz.prog 32 #[.agg #[.string c.ware,.int .i64 c.limit,.int .i64 c.by_,.slice pa c.parts.length pc],.slice qa l.length qc] w (BestX c l w):=by
 obtain⟨w1,hw1⟩:=zx (((w.alloc (.cells #[.string c.ware,.int .i64 c.limit,.int .i64 c.by_,.slice pa c.parts.length pc] 24)).alloc (.cells #[.int .i64 0,.int .i64 0] 57)).alloc (.cells #[.slice none 0 0,.int .i64 0] 42));have hB1:Below w.heap.size w w1:=by rw[←hw1];go_grown
 have b1:Box w1 w.heap.size (csCells c pa pc) 24:=by rw[←hw1];exact((Box.new _ _ _).alloc _).alloc _
 have b2:Box w1 (w.heap.size+1) #[.int .i64 0,.int .i64 0] 57:=by rw[←hw1];exact(Box.new' zS).alloc _
 have b3:Box w1 (w.heap.size+2) #[.slice none 0 0,.int .i64 0] 42:=by rw[←hw1];exact Box.new' zS
 have e1:=zC (b1);have HAS:=zh (askedSetR9_any c hsm pa pc l qa qc none [] 0 zS w1 (hp.below hB1) (hq.below hB1) (Ints.nil _ _));rw[setB_nil,List.length_nil] at HAS;have HW:=zh hw1;have HX:=zh b1;have HY:=zh b2;have HZ:=zh b3;have HB:=zh hB1;have HP:=zh (hp.below hB1);have HQ:=zh (hq.below hB1);clear hw1 b1 b2 b3 hB1 hp hq;have HXS:=zh (fun h=>xErr_set (c:=c) (l:=l) (ok:=true) h);obtain⟨er,her⟩:=zx (xErr c l true);have HER:=zh her;rw[her] at HAS HXS;clear her
 go_enter Tryz.func32,Tryz.ntmps32
 go_upto_region 1 with fail
 simp only[HW.out]
 go_wp2_with fail
 refine zM HAS ?_;rintro e w2 ⟨rfl,hb2⟩;have HX:=zh (HX.out.below' hb2);have HY:=zh (HY.out.below' hb2);have HZ:=zh (HZ.out.below' hb2);have HP:=zh (HP.out.below hb2);have HQ:=zh (HQ.out.below hb2);have HB:=zh (HB.out.trans (hb2.mono HB.out.size));clear hb2 e1 HW
 by_cases hz:er=0
 ·obtain⟨z1,_,hne⟩:=HXS.out hz;subst hz;have hzo:=ask_nil (probes_ok z1).1 hne;have HO2:=zh (open_ref c hsm pa pc w2 HP.out);have HZO:=zh hzo;have hlen:=openOf_len c (check_small (ask_open hzo));have HCH:=zh (fun(a b:Nat) (ha:a<c.parts.length) (hb:b<c.parts.length) W (hW:Below w2.heap.size w2 W)=>cheapestR9_any hsm z1 pa pc qa qc ha hb W (HP.out.below hW) (HQ.out.below hW));have e1:=zC (HX.out);clear z1 hne hzo HXS HAS HP HQ
  go_wp2_with fail
  refine zM HO2 ?_;rintro e w3 ⟨hb3,(⟨h1,_⟩|⟨_,v3,rfl,oa,oc,rfl,hro⟩)⟩
  ·exact absurd HZO.out h1
  have HX:=zh (HX.out.below' hb3);have HY:=zh (HY.out.below' hb3);have HZ:=zh (HZ.out.below' hb3);have HB:=zh (HB.out.trans (hb3.mono HB.out.size));have HK3:=zh hb3;have HRO:=zh (show PairsAt w3 oa (openOf c) from hro.row);clear hb3 hro e1 HO2 HZO;have HBO:=zh (show bestOf c l=bstTo c l (openOf c) from rfl);obtain⟨L,hL⟩:=zx (openOf c);have hmem:Hid (∀p∈L,p.1<c.parts.length∧p.2<c.parts.length):=zh fun p hp=>open_in9 (by rw[hL];exact hp)
  rw[hL] at hlen HRO HBO ⊢;clear hL;obtain⟨D,hD⟩:=zx (w3.heap.size);obtain⟨w4,hw4⟩:=zx ((w3.alloc (.cells #[.int .i64 0,.int .i64 0] 57)).alloc (.cells #[.slice none 0 0,.int .i64 0] 42));have hb4:Below w3.heap.size w3 w4:=by rw[←hw4];go_grown
  have x4:Box w4 D #[.int .i64 0,.int .i64 0] 57:=by rw[←hw4,←hD];exact(Box.new _ _ _).alloc _
  have y4:Box w4 (D+1) #[.slice none 0 0,.int .i64 0] 42:=by rw[←hw4,←hD];exact Box.new' zS
  have hs4:w4.heap.size=D+2:=by rw[←hw4,←hD];simp
  have HW4:=zh hw4;have HB4:=zh hb4;have HX4:=zh x4;have HY4:=zh y4;have HS4:=zh hs4;have HD:=zh hD;have hDl:w.heap.size+3≤D:=by rw[←hD];exact HZ.out.lt
  have HDL:=zh hDl;rw[hD] at hb4;clear hw4 hb4 x4 y4 hs4 hDl
  go_upto_region 7 with fail
  simp only[HW4.out];clear hD
  go_wp2_with fail
  go_loopw [13,14] (fun fv iv wr=>∃k:Nat,k≤L.length∧iv = .int .i64 k∧fv = .bool (bstTo c l (L.take k)).isSome∧BstAt l (bstTo c l (L.take k)) D (D+2) wr∧Below D w3 wr∧D+2≤wr.heap.size) (fun _ iv _=>L.length-(intOf iv).toNat)
  case atStart=>exact⟨0,Nat.zero_le _,rfl,rfl,⟨_,_,_,_,_,_,HX4.out,HY4.out,.inl ⟨rfl,rfl,rfl,rfl,rfl,rfl,rfl⟩⟩,by rw[←HD.out];exact HB4.out,by have:=HS4.out;omega⟩
  case round=>
   obtain⟨k,hk,rfl,rfl,hbe,hbl,hsz⟩:=hrel;obtain⟨o,ho⟩:=zx (bstTo c l (L.take k));rw[ho] at hbe ⊢;have HO:=zh ho;have HBE:=zh hbe;have HBL:=zh hbl;have HSZ:=zh hsz;have hbl':Below w3.heap.size w3 wr:=by rw[HD.out];exact hbl
   clear hbe hbl hsz ho
   by_cases hlt:k<L.length
   ·obtain⟨p,hp⟩:=get_of_lt L hlt;obtain⟨b,oo,hao,c1,c2⟩:=(HRO.out.below hbl').at_ hp;subst hao;have hpm:=hmem.out p (List.mem_of_getElem? hp);have hkl:(k:Int)<(L.length:Int):=by omega
    have HPX:=zh hp;have HC:=zh (fun W (hW:Below wr.heap.size wr W)=>HCH.out p.1 p.2 hpm.1 hpm.2 W ((HK3.out.trans (hbl'.mono HK3.out.size)).trans (hW.mono (Nat.le_trans HK3.out.size hbl'.size))));have K0:Hid (∀A,Below wr.heap.size wr A→cC A (w.heap.size) c pa pc∧A.cell? ⟨b,oo+k*2,none⟩=some (.int .i64 (p.1:Int))∧A.cell? ⟨b,oo+k*2+1,none⟩=some (.int .i64 (p.2:Int))):=
     zh fun A hA=>⟨((HX.out.below' hbl').below' hA).cell,below_cell hA c1,below_cell hA c2⟩
    obtain⟨y,hy⟩:=zx (cheapestOf c l p.1 p.2);rw[hy] at HC;have HYY:=zh hy;clear hp hpm c1 c2 hbl' hy
    go_upto_region 12 with fail
    go_cut [15,16] (fun s15 s16 wx=>∃(G:Nat) (u1:Option Addr) (u2 u3:Nat) (u4:Int) (bb:Bool) (B M:Nat),s15 = .pointer (some ⟨G,0,none⟩)∧s16 = .bool bb∧(wr.heap.size≤B∧wr.heap.size≤G)∧M≤wx.heap.size∧Box wx G #[.slice u1 u2 u3,.int .i64 u4] 42∧PlanCells l y B M wx #[.slice u1 u2 u3,.int .i64 u4] bb∧Below wr.heap.size wr wx)
    case first=>
     refine wp_region_L (fun A=>Below wr.heap.size wr A) 19 zK ?_;have hSS:Below wr.heap.size wr wr.drew:=(Below.refl _ wr).drew;refine tM K0 0 hSS ?_;refine tM K0 1 hSS ?_;refine tM K0 2 hSS ?_;refine tM K0 3 hSS ?_;refine tM K0 4 hSS ?_;refine tM K0 5 hSS ?_;refine tM K0 6 hSS ?_;refine tM K0 7 hSS ?_;refine tM K0 8 hSS ?_;refine tM K0 9 hSS ?_;refine tM K0 10 hSS ?_;refine tM K0 11 hSS ?_;refine anyL_two (i:=12) (j:=16) zK ?_ ?_
     ·refine wpOp_call (f:=82) (args:=#[.agg #[.string c.ware,.int .i64 c.limit,.int .i64 c.by_,.slice pa c.parts.length pc],.slice qa l.length qc,.int .i64 (p.1:Int),.int .i64 (p.2:Int)]) rfl (by rfl) ?_ (HC.out wr.drew hSS) ?_
      ·go_simp
      rintro e2 w6 hcs;obtain⟨hb,u1,u2,u3,u4,bb,rfl,hpl⟩:=plan_cells hcs;have hSS0:=hSS.size;have hSS:=hSS.trans (hb.mono hSS.size);refine⟨_,rfl,.inr hSS,?_⟩
      try simp only[pZ]
      refine tM K0 13 hSS ?_;refine tM K0 14 hSS ?_;refine tM K0 15 hSS ?_;have hal:Below w6.heap.size w6 (w6.alloc (.cells #[.slice none 0 0,.int .i64 0] 42)):=(Below.refl _ w6).alloc (Nat.le_refl _) _;have hSS8:=hSS.trans (hal.mono hSS.size);refine anyL_run (i:=16) (v:=.pointer (some ⟨w6.heap.size,0,none⟩)) (w':=w6.alloc (.cells #[.slice none 0 0,.int .i64 0] 42)) rfl zK (by rfl) ?_ (.inr hSS8) ?_
      ·go_simp
       try with_reducible rfl
      try simp only[pZ]
      obtain⟨G,hGe⟩:=zx (w6.heap.size);have hG8:Box (w6.alloc (.cells #[.slice none 0 0,.int .i64 0] 42)) G #[.slice none 0 0,.int .i64 0] 42:=Box.new' hGe.symm;have hGl:wr.heap.size≤G:=by rw[←hGe];exact hSS.size
      have hP8:=hpl.keep ((Keep.of_below' hal).mono fun k hk=>hk.2);have hz8:(w6.alloc (.cells #[.slice none 0 0,.int .i64 0] 42)).heap.size=G+1:=by rw[←hGe];simp
      rw[hGe] at hP8 ⊢;obtain⟨B,hB⟩:=zx (wr.drew.heap.size);rw[hB] at hP8;have hBr:wr.heap.size≤B∧wr.heap.size≤G:=⟨by rw[←hB];exact hSS0,hGl⟩
      obtain⟨M,hMs,hGB,hP8⟩:∃M,M≤(w6.alloc (.cells #[.slice none 0 0,.int .i64 0] 42)).heap.size∧(G<B∨M≤G)∧PlanCells l y B M (w6.alloc (.cells #[.slice none 0 0,.int .i64 0] 42)) #[.slice u1 u2 u3,.int .i64 u4] bb:=⟨G,zO,.inr (Nat.le_refl _),hP8⟩
      clear hB hGe hz8;generalize w6.alloc (.cells #[.slice none 0 0,.int .i64 0] 42)=w8 at *;clear hpl hcs hb hal;have hSS9:Below wr.heap.size wr ((w8.setCell ⟨G,0,none⟩ (.slice u1 u2 u3)).setCell ⟨G,1,none⟩ (.int .i64 u4)):=(hSS8.setCell (by simpa using hGl) _).setCell (by simpa using hGl) _;have hG9:=(hG8.set_ 0 (.slice u1 u2 u3)).set_ 1 (.int .i64 u4);have hP9:=hP8.keep (W':=(w8.setCell ⟨G,0,none⟩ (.slice u1 u2 u3)).setCell ⟨G,1,none⟩ (.int .i64 u4)) (((Keep.refl _ w8).setCell (.inl zU) _).setCell (.inl zU) _);obtain⟨r1,r2⟩:=hG8.rules;refine anyL_skip (i:=17) (w':=(w8.setCell ⟨G,0,none⟩ (.slice u1 u2 u3)).setCell ⟨G,1,none⟩ (.int .i64 u4)) rfl zK (by rfl) ?_ (.inr hSS9) ?_
      ·go_simp
       try with_reducible rfl
      try simp only[pZ]
      have hM9:M≤((w8.setCell ⟨G,0,none⟩ (.slice u1 u2 u3)).setCell ⟨G,1,none⟩ (.int .i64 u4)).heap.size:=by simp<;>omega
      generalize (w8.setCell ⟨G,0,none⟩ (.slice u1 u2 u3)).setCell ⟨G,1,none⟩ (.int .i64 u4)=w10 at *;have hSS:=hSS9;refine tM K0 18 hSS ?_;refine anyL_done zK ?_ _;have FG:=zh hG9;have FP:=zh hP9;have FS:=zh hSS9;have FM:=zh hM9;have FB:=zh hBr;clear hSS hSS8 hSS9 hG8 hG9 hP8 hP9 r1 r2 K0
      go_wp2_with fail
      go_meet
      exact⟨G,u1,u2,u3,u4,bb,B,M,rfl,rfl,FB.out,FM.out,FG.out,FP.out,FS.out⟩
     ·have hal:Below wr.drew.heap.size wr.drew (wr.drew.alloc (.cells #[.slice none 0 0,.int .i64 0] 42)):=(Below.refl _ wr.drew).alloc (Nat.le_refl _) _;have hSS6:=hSS.trans (hal.mono hSS.size);refine wpOp_run (v:=.pointer (some ⟨wr.drew.heap.size,0,none⟩)) (w':=wr.drew.alloc (.cells #[.slice none 0 0,.int .i64 0] 42)) rfl (by rfl) ?_ ⟨.inr hSS6,?_⟩
      ·go_simp
       try with_reducible rfl
      try simp only[pZ]
      obtain⟨G,hGe⟩:=zx (wr.drew.heap.size);have hG6:Box (wr.drew.alloc (.cells #[.slice none 0 0,.int .i64 0] 42)) G #[.slice none 0 0,.int .i64 0] 42:=Box.new' hGe.symm;have hGl:wr.heap.size≤G:=by rw[←hGe];exact hSS.size
      have hz6:(wr.drew.alloc (.cells #[.slice none 0 0,.int .i64 0] 42)).heap.size=G+1:=by rw[←hGe];simp
      rw[hGe];generalize wr.drew.alloc (.cells #[.slice none 0 0,.int .i64 0] 42)=w6 at *;refine anyL_call (i:=12) (f:=82) (args:=#[.agg #[.string c.ware,.int .i64 c.limit,.int .i64 c.by_,.slice pa c.parts.length pc],.slice qa l.length qc,.int .i64 (p.1:Int),.int .i64 (p.2:Int)]) rfl zK (by rfl) (by go_simp) (HC.out w6 hSS6) ?_;rintro e2 w8 hcs;obtain⟨hb,u1,u2,u3,u4,bb,rfl,hP8⟩:=plan_cells hcs;have hSS8:=hSS6.trans (hb.mono hSS6.size);refine .inl ⟨_,rfl,.inr hSS8,?_⟩
      try simp only[pZ]
      have hG8:=hG6.below' hb;have hSS:=hSS8;refine tM K0 13 hSS ?_;refine tM K0 14 hSS ?_;refine tM K0 15 hSS ?_;obtain⟨B,M,hBr,hMs,hGB,hP8⟩:∃B M,(wr.heap.size≤B∧wr.heap.size≤G)∧M≤w8.heap.size∧(G<B∨M≤G)∧PlanCells l y B M w8 #[.slice u1 u2 u3,.int .i64 u4] bb:=⟨_,_,⟨hSS6.size,hGl⟩,Nat.le_refl _,.inl zO,hP8⟩
      clear hcs hb hal hGe hz6;have hSS9:Below wr.heap.size wr ((w8.setCell ⟨G,0,none⟩ (.slice u1 u2 u3)).setCell ⟨G,1,none⟩ (.int .i64 u4)):=(hSS8.setCell (by simpa using hGl) _).setCell (by simpa using hGl) _;have hG9:=(hG8.set_ 0 (.slice u1 u2 u3)).set_ 1 (.int .i64 u4);have hP9:=hP8.keep (W':=(w8.setCell ⟨G,0,none⟩ (.slice u1 u2 u3)).setCell ⟨G,1,none⟩ (.int .i64 u4)) (((Keep.refl _ w8).setCell (.inl zU) _).setCell (.inl zU) _);obtain⟨r1,r2⟩:=hG8.rules;refine anyL_skip (i:=17) (w':=(w8.setCell ⟨G,0,none⟩ (.slice u1 u2 u3)).setCell ⟨G,1,none⟩ (.int .i64 u4)) rfl zK (by rfl) ?_ (.inr hSS9) ?_
      ·go_simp
       try with_reducible rfl
      try simp only[pZ]
      have hM9:M≤((w8.setCell ⟨G,0,none⟩ (.slice u1 u2 u3)).setCell ⟨G,1,none⟩ (.int .i64 u4)).heap.size:=by simp<;>omega
      generalize (w8.setCell ⟨G,0,none⟩ (.slice u1 u2 u3)).setCell ⟨G,1,none⟩ (.int .i64 u4)=w10 at *;have hSS:=hSS9;refine tM K0 18 hSS ?_;refine anyL_done zK ?_ _;have FG:=zh hG9;have FP:=zh hP9;have FS:=zh hSS9;have FM:=zh hM9;have FB:=zh hBr;clear hSS hSS8 hSS9 hG8 hG9 hP8 hP9 r1 r2 K0
      go_wp2_with fail
      go_meet
      exact⟨G,u1,u2,u3,u4,bb,B,M,rfl,rfl,FB.out,FM.out,FG.out,FP.out,FS.out⟩
    case rest=>
     obtain⟨G,u1,u2,u3,u4,bb,B,M,rfl,rfl,⟨hB,hGr⟩,hM,hG,hP,hS⟩:=hcut;have FG:=zh hG;have FM:=zh hM;have FB:=zh (show D+2≤B from Nat.le_trans HSZ.out hB);have FGL:=zh hGr;have FS:=zh hS;have HBE:=zh (HBE.out.below hS);have HBL:=zh (HBL.out.trans (hS.mono (by have:=HSZ.out;omega)));have HRO2:=zh (HRO.out.below (show Below w3.heap.size w3 wc by rw[HD.out];exact HBL.out));have eG:=hG.cell;obtain⟨b',oo',hba,c1,c2⟩:=HRO2.out.at_ HPX.out;cases hba;clear hB hM hG hS hGr K0;obtain⟨p1,p2,ba,n,bc,cst,hd1,hd2,hd3⟩:=HBE.out;obtain⟨r1,r2⟩:=hd1.rules;obtain⟨r3,r4⟩:=hd2.rules;have HD1:=zh hd1;have HD2:=zh hd2;have eD:=hd2.cell;clear hd1 hd2
     rcases hP with ⟨h1,rfl,h2⟩|⟨x,ra,rc,h1,rfl,h2,h4,h5⟩
     ·have HST:=zh (show bstTo c l (L.take (k+1))=bstTo c l (L.take k) by rw[bst_none HPX.out (by rw[HYY.out,h1])]);cases h2;clear h1 hd3
      go_wp2_with fail
      go_roundw
      case rel=>exact⟨k+1,zO,zN,by first|(rw[HST.out,HO.out];done)|(rw[HST.out,HO.out];rfl),by rw[HST.out,HO.out];exact HBE.out,HBL.out,Nat.le_trans HSZ.out FS.out.size⟩
      case measure=>simp[intOf];omega
     ·cases h2;have HST:=zh (show bstTo c l (L.take (k+1))=leastStep (fun x=>costOf l x.2) (fun _=>true) o (p,x) by rw[bst_some HPX.out (by rw[HYY.out,h1]),HO.out]);obtain⟨cx,hcx⟩:=zx (costOf l x);rw[hcx] at eG;have HCX:=zh hcx;clear h1
      rcases hd3 with ⟨rfl,rfl,rfl,rfl,rfl,rfl,rfl⟩|⟨q,s,M',rfl,rfl,rfl,rfl,hcs,_⟩
      ·have HST:=zh (show bstTo c l (L.take (k+1))=some (p,x) from HST.out);simp only[Option.isSome_none];clear hcx;have hne:G≠D:=by have:=HBL.out.size;have:=HSZ.out;have:=FGL.out;omega
       have hne2:G≠D+1:=by have:=HSZ.out;have:=FGL.out;omega
       have hne3:D≠G:=fun h=>hne h.symm
       have hne4:D+1≠G:=fun h=>hne2 h.symm
       have hMx:=FM.out;have hBx:=FB.out;have hsz:=HSZ.out
       go_wp2_with fail
       go_roundw
       case rel=>
        refine⟨k+1,zO,zN,by rw[HST.out];rfl,?_,(((HBL.out.setCell zS _).setCell zS _).setCell zS _).setCell zS _,by simp;exact Nat.le_trans HSZ.out FS.out.size⟩;rw[HST.out];exact⟨_,_,_,_,_,_,(((HD1.out.set_ 0 _).set_ 1 _).far zS _).far zS _,((((HD2.out.far zS _).far zS _).set_ 0 _).set_ 1 _),.inr ⟨p,x,M,rfl,rfl,rfl,rfl,HCX.out.symm,by simpa using hMx,(h4.mono zO (Nat.le_refl _)).keep (((((Keep.refl _ wc).setCell (.inl zU) _).setCell (.inl zU) _).setCell (.inl zU) _).setCell (.inl zU) _),h5⟩⟩
       case measure=>simp[intOf];omega
      ·simp only[Option.isSome_some]
       by_cases hlc:cx<cst
       ·have HST:=zh (show bstTo c l (L.take (k+1))=some (p,x) by rw[HST.out];simp[leastStep,hcx,←hcs,hlc]);clear hcx hcs;have hne:G≠D:=by have:=HBL.out.size;have:=HSZ.out;have:=FGL.out;omega
        have hne2:G≠D+1:=by have:=HSZ.out;have:=FGL.out;omega
        have hne3:D≠G:=fun h=>hne h.symm
        have hne4:D+1≠G:=fun h=>hne2 h.symm
        have hMx:=FM.out;have hBx:=FB.out;have hsz:=HSZ.out
        go_wp2_with fail
        go_roundw
        case rel=>
         refine⟨k+1,zO,zN,by rw[HST.out];rfl,?_,(((HBL.out.setCell zS _).setCell zS _).setCell zS _).setCell zS _,by simp;exact Nat.le_trans HSZ.out FS.out.size⟩;rw[HST.out];exact⟨_,_,_,_,_,_,(((HD1.out.set_ 0 _).set_ 1 _).far zS _).far zS _,((((HD2.out.far zS _).far zS _).set_ 0 _).set_ 1 _),.inr ⟨p,x,M,rfl,rfl,rfl,rfl,HCX.out.symm,by simpa using hMx,(h4.mono zO (Nat.le_refl _)).keep (((((Keep.refl _ wc).setCell (.inl zU) _).setCell (.inl zU) _).setCell (.inl zU) _).setCell (.inl zU) _),h5⟩⟩
        case measure=>simp[intOf];omega
       ·have HST:=zh (show bstTo c l (L.take (k+1))=bstTo c l (L.take k) by rw[HST.out,HO.out];simp[leastStep,hcx,←hcs,hlc]);clear hcx hcs
        go_wp2_with fail
        go_roundw
        case rel=>exact⟨k+1,zO,zN,by first|(rw[HST.out,HO.out];done)|(rw[HST.out,HO.out];rfl),by rw[HST.out,HO.out];exact HBE.out,HBL.out,Nat.le_trans HSZ.out FS.out.size⟩
        case measure=>simp[intOf];omega
   ·have hke:k=L.length:=by omega
    have HOE:=zh (show bestOf c l=o by rw[HBO.out,←HO.out,hke,List.take_length]);obtain⟨p1,p2,ba,n,bc,cst,hd1,hd2,hd3⟩:=HBE.out;have HD3:=zh hd3;have HY3:=HY.out.below' hbl';have HZ3:=HZ.out.below' hbl';have HBw:=HB.out.trans (hbl'.mono HB.out.size);have hDl:=HDL.out;clear hke hd3 hbl'
    go_upto_region 16 with fail
    have K0:Hid (∀A,Box A D #[.int .i64 p1,.int .i64 p2] 57∧Box A (D+1) #[.slice ba n bc,.int .i64 cst] 42→(∀j,A.cell? ⟨D,j,none⟩=(#[.int .i64 p1,.int .i64 p2]:Array Value)[j]?)∧(∀j,A.cell? ⟨D+1,j,none⟩=(#[.slice ba n bc,.int .i64 cst]:Array Value)[j]?)):=zh fun A hA=>⟨hA.1.cell,hA.2.cell⟩
    refine wp_region_L (fun A=>Box A D #[.int .i64 p1,.int .i64 p2] 57∧Box A (D+1) #[.slice ba n bc,.int .i64 cst] 42) 7 zK ?_;have hbd:Below wr.heap.size wr wr.drew:=(Below.refl _ wr).drew;have hSS:Box wr.drew D #[.int .i64 p1,.int .i64 p2] 57∧Box wr.drew (D+1) #[.slice ba n bc,.int .i64 cst] 42:=⟨hd1.below' hbd,hd2.below' hbd⟩
    have h1d:=HY3.below' hbd;have h2d:=HZ3.below' hbd;have hBd:=HBw.trans (hbd.mono HBw.size);have hkd:Keep (fun k=>D≤k) wr wr.drew:=(Keep.refl _ wr).drew;have hszd:wr.heap.size≤wr.drew.heap.size:=hbd.size;clear hbd hd1 hd2 HY3 HZ3 HBw;generalize wr.drew=w8 at *;refine tM K0 0 hSS ?_;refine tM K0 1 hSS ?_;refine tM K0 2 hSS ?_;obtain⟨z1,z2⟩:=h1d.rules;have hS9:Box ((w8.setCell ⟨w.heap.size+1,0,none⟩ (.int .i64 p1)).setCell ⟨w.heap.size+1,1,none⟩ (.int .i64 p2)) D #[.int .i64 p1,.int .i64 p2] 57∧Box ((w8.setCell ⟨w.heap.size+1,0,none⟩ (.int .i64 p1)).setCell ⟨w.heap.size+1,1,none⟩ (.int .i64 p2)) (D+1) #[.slice ba n bc,.int .i64 cst] 42:=
     ⟨(hSS.1.far zU _).far zU _,(hSS.2.far zU _).far zU _⟩
    refine anyL_skip (i:=3) (w':=(w8.setCell ⟨w.heap.size+1,0,none⟩ (.int .i64 p1)).setCell ⟨w.heap.size+1,1,none⟩ (.int .i64 p2)) rfl zK (by rfl) ?_ (.inr hS9) ?_
    ·go_simp
     try with_reducible rfl
    try simp only[pZ]
    have h19:=(h1d.set_ 0 (.int .i64 p1)).set_ 1 (.int .i64 p2);have h29:Box ((w8.setCell ⟨w.heap.size+1,0,none⟩ (.int .i64 p1)).setCell ⟨w.heap.size+1,1,none⟩ (.int .i64 p2)) (w.heap.size+2) #[.slice none 0 0,.int .i64 0] 42:=(h2d.far zU _).far zU _;have hB9:Below w.heap.size w ((w8.setCell ⟨w.heap.size+1,0,none⟩ (.int .i64 p1)).setCell ⟨w.heap.size+1,1,none⟩ (.int .i64 p2)):=(hBd.setCell zU _).setCell zU _;have hO9:Keep (fun k=>D≤k) wr ((w8.setCell ⟨w.heap.size+1,0,none⟩ (.int .i64 p1)).setCell ⟨w.heap.size+1,1,none⟩ (.int .i64 p2)):=(hkd.setCell (.inl zU) _).setCell (.inl zU) _;clear hSS h1d h2d hBd hkd z1 z2;generalize (w8.setCell ⟨w.heap.size+1,0,none⟩ (.int .i64 p1)).setCell ⟨w.heap.size+1,1,none⟩ (.int .i64 p2)=w9 at *;obtain⟨z1,z2⟩:=h29.rules
    have hS10:Box ((w9.setCell ⟨w.heap.size+2,0,none⟩ (.slice ba n bc)).setCell ⟨w.heap.size+2,1,none⟩ (.int .i64 cst)) D #[.int .i64 p1,.int .i64 p2] 57∧Box ((w9.setCell ⟨w.heap.size+2,0,none⟩ (.slice ba n bc)).setCell ⟨w.heap.size+2,1,none⟩ (.int .i64 cst)) (D+1) #[.slice ba n bc,.int .i64 cst] 42:=
     ⟨(hS9.1.far zU _).far zU _,(hS9.2.far zU _).far zU _⟩
    refine anyL_skip (i:=4) (w':=(w9.setCell ⟨w.heap.size+2,0,none⟩ (.slice ba n bc)).setCell ⟨w.heap.size+2,1,none⟩ (.int .i64 cst)) rfl zK (by rfl) ?_ (.inr hS10) ?_
    ·go_simp
     try with_reducible rfl
    try simp only[pZ]
    have h110:Box ((w9.setCell ⟨w.heap.size+2,0,none⟩ (.slice ba n bc)).setCell ⟨w.heap.size+2,1,none⟩ (.int .i64 cst)) (w.heap.size+1) #[.int .i64 p1,.int .i64 p2] 57:=(h19.far zU _).far zU _;have h210:=(h29.set_ 0 (.slice ba n bc)).set_ 1 (.int .i64 cst);have hB10:Below w.heap.size w ((w9.setCell ⟨w.heap.size+2,0,none⟩ (.slice ba n bc)).setCell ⟨w.heap.size+2,1,none⟩ (.int .i64 cst)):=(hB9.setCell zU _).setCell zU _;have hO10:Keep (fun k=>D≤k) wr ((w9.setCell ⟨w.heap.size+2,0,none⟩ (.slice ba n bc)).setCell ⟨w.heap.size+2,1,none⟩ (.int .i64 cst)):=(hO9.setCell (.inl zU) _).setCell (.inl zU) _;clear hS9 h19 h29 hB9 hO9 z1 z2;generalize (w9.setCell ⟨w.heap.size+2,0,none⟩ (.slice ba n bc)).setCell ⟨w.heap.size+2,1,none⟩ (.int .i64 cst)=wa at *;have hSS:=hS10;refine tM K0 5 hSS ?_;refine tM K0 6 hSS ?_;refine anyL_done zK ?_ _
    have HA1:=zh h110;have HA2:=zh h210;have HAB:=zh hB10;have HAO:=zh hO10;clear h110 h210 hB10 hO10 hS10 hSS K0
    go_wp2_with fail
    refine bodyPost_ret (results_cctt rfl rfl rfl (run_loadVar_row _ _ 57 57 _ (0,0) _ HA1.out Tryz.underlying57 rfl pair_size9) (run_loadVar_row _ _ 42 42 _ (0,0) _ HA2.out Tryz.underlying42 rfl plan_size)) rfl ?_;refine⟨HAB.out,?_⟩
    rcases HD3.out with ⟨rfl,rfl,rfl,rfl,rfl,rfl,rfl⟩|⟨q,s,M',rfl,rfl,rfl,rfl,rfl,hm,hi,hcap⟩
    ·refine .inl ⟨.inr HOE.out,?_⟩;rw[HER.out]
     rfl
    ·exact .inr ⟨⟨q.1,q.2,s,costOf l s,ba,bc⟩,HER.out,HOE.out,⟨rfl,(hi.keep (HAO.out.mono fun k hk=>by omega)).at_,hcap⟩,rfl⟩
 ·have hzb:(er != 0)=true:=by simpa using hz
  have HZE:=zh hz;obtain⟨z1,z2⟩:=HZ.out.rules;obtain⟨z3,z4⟩:=HY.out.rules;clear hz
  go_wp2_with fail
  refine bodyPost_ret (results_cctt rfl rfl rfl (run_loadVar_row _ _ 57 57 _ (0,0) _ ((((HY.out.set_ 0 (.int .i64 0)).set_ 1 (.int .i64 0)).far zS _).far zS _) Tryz.underlying57 rfl pair_size9) (run_loadVar_row _ _ 42 42 _ (0,0) _ ((((HZ.out.far zS _).far zS _).set_ 0 (.slice none 0 0)).set_ 1 (.int .i64 0)) Tryz.underlying42 rfl plan_size)) rfl ?_;refine⟨(((HB.out.setCell (p:=⟨w.heap.size+1,0,none⟩) zS (.int .i64 0)).setCell (p:=⟨w.heap.size+1,1,none⟩) zS (.int .i64 0)).setCell (p:=⟨w.heap.size+2,0,none⟩) zS (.slice none 0 0)).setCell (p:=⟨w.heap.size+2,1,none⟩) zS (.int .i64 0),.inl ⟨.inl (by rw[HER.out];exact HZE.out),by rw[HER.out];rfl⟩⟩
end Go.Proofs.YtjgldeeianionaaGreat
namespace Go.Proofs.YtjgldeeianionaaGreat
open Go.RowKit
def bvO (c:Cs)(l:List Prb):Option ((Nat×Nat)×List Nat):=if xErr c l true=0 then bestOf c l else none
def bvA (o:Option ((Nat×Nat)×List Nat)):Int:=match o with|some z=>(z.1.1:Int)|none=>0
def bvB (o:Option ((Nat×Nat)×List Nat)):Int:=match o with|some z=>(z.1.2:Int)|none=>0
def bvS (o:Option ((Nat×Nat)×List Nat)):List Nat:=match o with|some z=>z.2|none=>[]
def bvN (l:List Prb)(o:Option ((Nat×Nat)×List Nat)):Int:=match o with|some z=>costOf l z.2|none=>0
theorem best_val {c:Cs}{l:List Prb}{w w':World}{e:Ending}(h:BestX c l w e w'):∃a n cap,e = .returned (.tuple #[.agg #[.int .i64 (bvA (bvO c l)),.int .i64 (bvB (bvO c l))],.agg #[.slice a n cap,.int .i64 (bvN l (bvO c l))],.bool (bvO c l).isSome,.int .i64 (xErr c l true)])∧n=(bvS (bvO c l)).length∧Ints w' a (natInts (bvS (bvO c l)))∧Below w.heap.size w w':=by
 obtain⟨hb,⟨h1,rfl⟩|⟨z,h1,h2,h3,rfl⟩⟩:=h
 ·have h0:bvO c l=none:=by
   unfold bvO
   rcases h1 with h1|h1
   ·rw[if_neg h1]
   ·rw[h1];simp
  rw[h0];exact⟨none,0,0,rfl,rfl,Ints.nil _ _,hb⟩
 ·have h0:bvO c l=some z.d:=by unfold bvO;rw[if_pos h1,h2]
  rw[h0,h1];refine⟨z.sa,z.s.length,z.sc,?_,rfl,h3.at_,hb⟩;rw[h3.n];rfl
theorem bv_len {c:Cs}{l:List Prb}:(bvS (bvO c l)).length≤1000000:=by
 unfold bvO
 split
 ·rename_i h
  obtain⟨h1,_,_⟩:=xErr_zero h;have h5:=(probes_ok h1).2.1
  rcases hb:bestOf c l with _|⟨p,s⟩
  ·simp[bvS]
  ·have hm:=((leastOf_some _).1 _ hb).1;rw[List.mem_filterMap] at hm;obtain⟨q,_,hq⟩:=hm;obtain⟨s',hs,he⟩:=Option.map_eq_some_iff.1 hq;cases he;have:=(sets_in (cheapest_some hs).1).2;simp only[bvS]
   omega
 ·simp[bvS]
end Go.Proofs.YtjgldeeianionaaGreat
