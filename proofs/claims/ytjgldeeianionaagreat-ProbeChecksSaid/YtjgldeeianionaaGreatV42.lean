/- Walks and plain laws. No condition. -/
import Derived.Test.YtjgldeeianionaaGreatV40
import Derived.Test.YtjgldeeianionaaGreatV41
set_option maxHeartbeats 2000000
set_option maxRecDepth 100000
set_option linter.unusedSimpArgs false
set_option linter.unusedVariables false
namespace Go.Proofs.YtjgldeeianionaaGreat
open Go.RowKit
section
attribute [local go_sem] Oper.semAt_some
def choF (c:Cs)(l:List Prb)(p:Nat×Nat):Option ((Nat×Nat)×List Nat):=(cheapestOf c l p.1 p.2).map fun s=>(p,s)
def chosOf (c:Cs)(l:List Prb):List ((Nat×Nat)×List Nat):=(openOf c).filterMap (choF c l)
theorem open_mem {c:Cs}{p:Nat×Nat}(h:p∈openOf c):p.1<c.parts.length∧p.2<c.parts.length:=by
 have:=pairs_mem (List.mem_filter.1 h).1
 omega
section
variable {t:Nat}{c:Cs}{pa:Option Addr}{pc:Nat}{l:List Prb}{qa:Option Addr}{qc:Nat}
theorem best2_any (hsm:c.Small)(hpr:probesErr c l=0)(hne:(allR c).isEmpty=false)(g0:Nat)(w:World)(g:Nat)
 (h:∀W',Keep (fun k=>k≠g) w W'→LabAt W' t c pa pc l qa qc) (h0:Box w g0 (csCells c pa pc) 24) (hg:Box w g #[.slice none 0 0] 129):
 Calls Tryz.prog 96 #[.pointer (some ⟨t,0,none⟩),.pointer (some ⟨g0,0,none⟩),.pointer (some ⟨g,0,none⟩)] w fun e w'=>e = .returned (.int .i64 0)∧Keep (fun k=>k≠g) w w'∧∃v zs,Box w' g #[v] 129∧ChosO l w.heap.size w' v zs∧zs.map (·.d)=chosOf c l:=by
 have hz:=ask_nil (probes_ok hpr).1 hne;have h8:=check_small (ask_open hz);have hlen:=openOf_len c h8;have HOP:=zh (open9_any c hsm hz pa pc w (h w (Keep.refl _ _)).parts);have e0:=zC (h0);have hgl:=hg.lt
 go_enter Tryz.func96,Tryz.ntmps96
 go_wp2_with fail
 refine zM HOP ?_;rintro e w2 ⟨sa,sc,rfl,hr2,_,hb2⟩;have HR2:=zh hr2;have HB2:=zh hb2;have HG2:=zh (hg.below' hb2);have HCH:=zh (show chosOf c l=(openOf c).filterMap (choF c l) from rfl);have HMEM:=zh (fun p (hp:p∈openOf c)=>open_mem hp);have hlw:=hb2.size;generalize openOf c=L at *;clear hr2 hb2 HOP e0
 go_wp2_with fail
 go_loopw [18] (fun i wr=>∃(k:Nat) (v:Value) (zs:List ChoE),k≤L.length∧i = .int .i64 k∧Keep (fun k=>k<w2.heap.size∧k≠g) w2 wr∧Box wr g #[v] 129∧ChosO l w2.heap.size wr v zs∧zs.map (·.d)=(L.take k).filterMap (choF c l)) (fun i _=>L.length-(intOf i).toNat)
 case atStart=>exact⟨0,_,[],Nat.zero_le _,rfl,Keep.refl _ _,HG2.out,ChosO.nil _ _ _,rfl⟩
 case round=>
  obtain⟨k,v,zs,hk,rfl,hkp,hbx,hop,hzs⟩:=hrel;have HKP:=zh hkp;have HBX:=zh hbx;have HCO:=zh hop;have HZS:=zh hzs;have hzl:zs.length≤L.length:=by
   have h1:=congrArg List.length hzs;rw[List.length_map] at h1;have h2:=List.length_filterMap_le (choF c l) (L.take k);rw[List.length_take] at h2
   omega
  have hkw:Keep (fun k=>k≠g) w wr:=⟨hkp.os.trans HB2.out.os,hkp.tape.trans HB2.out.tape,hkp.output.trans HB2.out.output,Nat.le_trans HB2.out.size hkp.size,fun k hkg hl=>(hkp.block k ⟨zO,hkg⟩ zO).trans (HB2.out.block k hl)⟩
  have HKW:=zh hkw;clear hbx hop hzs HG2
  by_cases hlt:k<L.length
  ·obtain⟨p,hx⟩:=get_of_lt L hlt;have hr1:RowOwn w.heap.size wr sa (pairCells L):=fun i u hu=>by
    obtain⟨b,o,q1,q2,q3,q4⟩:=HR2.out i u hu;have hK:b<w2.heap.size∧b≠g:=⟨lt_of_cell q3,zO⟩
    have hbk:=hkp.block b hK (lt_of_cell q3);exact⟨b,o,q1,q2,hkp.cell hK q3,(World.frozen?_of_block (w:=w2) (a:=⟨b,o+i,none⟩) hbk).trans q4⟩
   obtain⟨b0,o0,rfl,_,q1,q2,_⟩:=hr1.pair hx;have hkn:(k:Int)<(L.length:Int):=by omega
   have hpm:=HMEM.out p (List.mem_of_getElem? hx);obtain⟨w5,hw5⟩:=zx (wr.alloc (.cells #[.int .i64 (p.1:Int),.int .i64 (p.2:Int)] 57));have hB5:Below wr.heap.size wr w5:=by rw[←hw5];go_grown
   have b5:Box w5 wr.heap.size #[.int .i64 (p.1:Int),.int .i64 (p.2:Int)] 57:=by rw[←hw5];exact Box.new _ _ _
   have HCP:=zh (cheapest_any hsm hpr p.1 p.2 hpm.1 hpm.2 w5 ((h wr hkw).below hB5));have HX:=zh hx;have e5:=b5.cell;have HW5:=zh hw5;have HY5:=zh b5;have HB5:=zh hB5;clear hr1 hx hw5 b5 hB5 hkp hkw
   go_upto_region 5 with fail
   simp only[HW5.out]
   go_wp2_with fail
   refine zM HCP ?_;rintro e w6 ⟨hb6,(⟨hcn,rfl⟩|⟨x,ra,rc,hcn,rfl,hxi,hxc⟩)⟩
   ·have HB6:=zh (HB5.out.trans (hb6.mono HB5.out.size));have hcf:choF c l p=none:=by simp[choF,hcn]
    have HCF:=zh hcf;clear hcn hb6 e5 hcf
    go_wp2_with fail
    go_roundw
    case rel=>
     refine⟨k+1,v,zs,zO,zN,(HKP.out.trans (Keep.of_below' HB6.out)).alloc _,(HBX.out.below' HB6.out).alloc _,(HCO.out.below HB6.out).below ((Below.refl _ _).alloc (Nat.le_refl _) _),?_⟩;rw[HZS.out,List.take_add_one,HX.out,List.filterMap_append]
     simp[HCF.out]
    case measure=>exact zJ
   ·have hcf:choF c l p=some (p,x):=by simp[choF,hcn]
    have HCF:=zh hcf;have hsz5:=HB5.out.size;have hsz6:=hb6.size;have hszr:=HKP.out.size;have hb56:Below wr.heap.size wr w6:=HB5.out.trans (hb6.mono hsz5);have hvl:∀k,v.ownBlock=some k→w2.heap.size≤k∧k<wr.heap.size:=fun k hk=>HCO.out.lt hk
    have hal:Below w6.heap.size w6 ((w6.alloc (.cells #[.slice ra x.length rc,.int .i64 (costOf l x)] 42)).alloc (.cells #[.int .i64 (p.1:Int),.int .i64 (p.2:Int),.slice ra x.length rc,.int .i64 (costOf l x)] 131)):=by go_grown
    have hop7:=(HCO.out.below hb56).below hal;obtain⟨av,cv,U,hrun,hown,hkU⟩:=hop7.push (g:=w6.heap.size+1) ⟨p.1,p.2,x,costOf l x,ra,rc⟩ (fun W' hW'=>⟨rfl,(hxi.keep ⟨hW'.os.trans hal.os,hW'.tape.trans hal.tape,hW'.output.trans hal.output,Nat.le_trans hal.size hW'.size,fun k hk hl=>(hW'.block k ⟨zO,fun he=>by have:=hvl k he;omega⟩ (Nat.lt_of_lt_of_le hl hal.size)).trans (hal.block k hl)⟩).at_,hxc⟩) (Box.new' zS) zO zT;have hbx8:Box (w6.alloc (.cells #[.slice ra x.length rc,.int .i64 (costOf l x)] 42)) g #[v] 129:=(HBX.out.below' hb56).alloc _;have hbU:Box U g #[v] 129:=hkU.heap (fun he=>by have:=hvl g he;omega) (hbx8.alloc _);have hp5:Box (w6.alloc (.cells #[.slice ra x.length rc,.int .i64 (costOf l x)] 42)) wr.heap.size #[.int .i64 (p.1:Int),.int .i64 (p.2:Int)] 57:=(HY5.out.below' hb6).alloc _
    have HKU:=zh ((Keep.of_below' (hb56.trans (hal.mono zO)):Keep (fun k=>k<w2.heap.size) wr _).trans (hkU.mono fun k (hk:k<w2.heap.size) he=>by have:=hvl k he;omega));obtain⟨av0,cv0,rfl,_,_⟩:=hop7.at_;have e8:=hbx8.cell;have e9:=hp5.cell;have HRN:=zh hrun;have HOW:=zh hown;have HBU:=zh hbU;obtain⟨z1,z2⟩:=hbU.rules;have hgw:g<w2.heap.size:=by omega
    have hwl:wr.heap.size<w6.heap.size+1:=by omega
    clear hcn hcf hb6 hb56 hal hop7 hrun hown hkU hbx8 hbU hp5 e5 hxi
    go_wp2_with (at_builtin;refine wpList_app rfl _ _ _ rfl rfl rfl HRN.out ?_)
    go_roundw
    case rel=>
     have kS:Keep (fun k=>k≠g) U (U.setCell ⟨g,0,none⟩ (.slice av (zs.length+1) cv)):=(Keep.refl _ U).setCell (.inl zS) _;refine⟨k+1,_,zs++[⟨p.1,p.2,x,costOf l x,ra,rc⟩],zO,zN,(HKP.out.trans (HKU.out.mono fun k hk=>hk.1)).setCell (.inl zS) _,HBU.out.set_ 0 _,HOW.out.keep kS (fun k hk=>by omega),?_⟩;rw[List.map_append,HZS.out,List.take_add_one,HX.out,List.filterMap_append]
     simp[HCF.out,ChoE.d]
    case measure=>exact zJ
  ·go_wp2_with fail
   go_ret
   have hkl:k=L.length:=by omega
   have hz2:=HZS.out;rw[hkl,List.take_length,←HCH.out] at hz2;refine⟨rfl,HKW.out,v,zs,HBX.out,⟨?_,fun z hz W' hW'=>HCO.out.2 z hz W' (hW'.mono fun k ⟨h1,h2⟩=>⟨zO,h2⟩)⟩,hz2⟩;refine⟨HCO.out.1.1,?_⟩
   rcases HCO.out.1.2 with h0|⟨g',cap,cur,q1,q2,q3,q4⟩
   ·exact .inl h0
   ·exact .inr ⟨g',cap,cur,q1,zO,q3,q4⟩
end
theorem proofX_any (c:Cs)(hsm:c.Small)(pa:Option Addr)(pc:Nat)(l:List Prb)(qa:Option Addr)(qc:Nat)(a:Int)(b:Int)(w:World)(hp:PartsAt w pa c.parts)(hq:PrbsAt w qa l)  :
 Calls Tryz.prog 26 #[.agg #[.string c.ware,.int .i64 c.limit,.int .i64 c.by_,.slice pa c.parts.length pc],.slice qa l.length qc,.int .i64 a,.int .i64 b] w (XPost (xErr c l (twoB c.parts.length a b)) (.slice none 0 0) (ProofOut (proofOf c l a.toNat b.toNat)) w):=by
 have hmf:=run_mf Tryz.prog;obtain⟨w4,hw4⟩:=zx ((((w.alloc (.cells #[.string c.ware,.int .i64 c.limit,.int .i64 c.by_,.slice pa c.parts.length pc] 24)).alloc (.cells #[.int .i64 a] 3)).alloc (.cells #[.int .i64 b] 3)).alloc (.cells #[.slice none 0 0] 45));have hB4:Below w.heap.size w w4:=by rw[←hw4];go_grown
 have hs4:w4.heap.size=w.heap.size+4:=by rw[←hw4];simp
 have b0:Box w4 w.heap.size (csCells c pa pc) 24:=by rw[←hw4];exact(((Box.new _ _ _).alloc _).alloc _).alloc _
 have b1:Box w4 (w.heap.size+1) #[.int .i64 a] 3:=by rw[←hw4];exact((Box.new' zS).alloc _).alloc _
 have b2:Box w4 (w.heap.size+2) #[.int .i64 b] 3:=by rw[←hw4];exact(Box.new' zS).alloc _
 have b3:Box w4 (w.heap.size+3) #[.slice none 0 0] 45:=by rw[←hw4];exact Box.new' zS
 have hask:=asked9_any c hsm pa pc l qa qc 83 #[.pointer (some ⟨w.heap.size+1,0,none⟩),.pointer (some ⟨w.heap.size+2,0,none⟩)] 84 #[.pointer (some ⟨w.heap.size+1,0,none⟩),.pointer (some ⟨w.heap.size+2,0,none⟩),.pointer (some ⟨w.heap.size+3,0,none⟩)] (twoB c.parts.length a b)
  (fun er W'=>Below w.heap.size w W'∧∃v,Box W' (w.heap.size+3) #[v] 45∧(ProofOut (proofOf c l a.toNat b.toNat)) er v W') w4 (hp.below hB4) (hq.below hB4)
  (fun hpr=>⟨fun args W=>by simp[go_sem],fun W t hW ht hlab=>proof1_arg hsm _ _ a b W hlab (b1.below' hW) (b2.below' hW)⟩)
  (fun hpr hok hne=>⟨fun args W=>by simp[go_sem],fun W t hW ht hlab=>by
   obtain⟨x,y,rfl,rfl,hx,hy⟩:=two_nats hok;refine(proof2_any (t:=t) (pa:=pa) (pc:=pc) (qa:=qa) (qc:=qc) hsm hpr (w.heap.size+1) (w.heap.size+2) x y hx hy W (w.heap.size+3) (fun W' hk=>by
    have h4:=hB4.size;have h5:=hW.size;have hbw:Below w.heap.size w W':=(hB4.trans (hW.mono h4)).trans ((hk.mono fun k (hk:k<w.heap.size)=>by omega).below zO);exact⟨hk.heap zO hlab.box,hp.below hbw,hq.below hbw⟩) (b1.below' hW) (b2.below' hW) (b3.below' hW) zO zO).mono ?_
   rintro e W' ⟨er,v,rfl,hk,hb,ho⟩;exact⟨er,rfl,(hB4.trans (hW.mono hB4.size)).trans ((hk.mono fun k (hk:k<w.heap.size)=>by omega).below (Nat.le_trans hB4.size hW.size)),v,hb,ho⟩⟩)
 have HA:=zh hask;have HW:=zh hw4;have HB4:=zh hB4;have H3:=zh b3;have e0:=zC (b0);clear hask hw4 hB4 b0 b1 b2 b3 hp hq hs4 
 go_enter Tryz.func26,Tryz.ntmps26
 go_upto_region 2 with fail
 simp only[HW.out]
 go_wp2_with fail
 refine zM HA ?_;rintro e w5 hpost;obtain⟨er,rfl,(⟨h1,h2,hb5⟩|⟨h1,hb5,v5,hbx,hout⟩)⟩:=ask_cases hpost
 ·have HB5:=zh (HB4.out.trans (hb5.mono HB4.out.size));have e3:=(H3.out.below' hb5).cell;have H1:=zh (And.intro h1 h2);clear hpost hb5 e0 h1 h2 HA H3
  go_wp2_with fail
  go_ret2
  exact⟨HB5.out,_,er,rfl,.inl ⟨H1.out.1,H1.out.2,rfl⟩⟩
 ·have HB5:=zh hb5;have e3:=hbx.cell;have H1:=zh (And.intro h1 hout);clear hpost hb5 e0 h1 hout hbx HA H3
  go_wp2_with fail
  go_ret2
  exact⟨HB5.out,v5,er,rfl,.inr ⟨H1.out.1,H1.out.2⟩⟩
def canB (c:Cs)(l:List Prb)(v n:Nat):Bool:=(canC c l [v] [n]).isSome
def decB (c:Cs)(l:List Prb)(a b v n:Nat):Bool:=match canC c l [v] [n] with
 |some d=>ansAt d a b != 3
 |none=>false
def allTo (c:Cs)(l:List Prb)(v k:Nat):Nat:=((List.range k).filter (canB c l v)).length
def decTo (c:Cs)(l:List Prb)(a b v k:Nat):Nat:=((List.range k).filter (decB c l a b v)).length
theorem allTo_succ (c:Cs)(l:List Prb)(v k:Nat):allTo c l v (k+1)=allTo c l v k+if canB c l v k then 1 else 0:=by
 unfold allTo;rw[List.range_succ,List.filter_append];cases h:canB c l v k<;>simp[h]
theorem decTo_succ (c:Cs)(l:List Prb)(a b v k:Nat):decTo c l a b v (k+1)=decTo c l a b v k+if decB c l a b v k then 1 else 0:=by
 unfold decTo;rw[List.range_succ,List.filter_append];cases h:decB c l a b v k<;>simp[h]
theorem allTo_le (c:Cs)(l:List Prb)(v k:Nat):allTo c l v k≤k:=by
 have:=List.length_filter_le (canB c l v) (List.range k)
 rwa [List.length_range] at this
theorem decTo_le (c:Cs)(l:List Prb)(a b v k:Nat):decTo c l a b v k≤k:=by
 have:=List.length_filter_le (decB c l a b v) (List.range k)
 rwa [List.length_range] at this
def cntOf (c:Cs)(l:List Prb)(v:Nat):Nat:=match l[v]? with|some p=>cntN (spanOf c p) p.width|none=>0
section
variable {t:Nat}{c:Cs}{pa:Option Addr}{pc:Nat}{l:List Prb}{qa:Option Addr}{qc:Nat}
theorem worth2_any (hsm:c.Small)(hpr:probesErr c l=0)(g1 g2 g3 a b v:Nat)(ha:a<c.parts.length)(hb:b<c.parts.length)(hvl:v<l.length)(w:World)(g h0:Nat)
 (h:∀W',Keep (fun k=>k≠g∧k≠h0) w W'→LabAt W' t c pa pc l qa qc) (h1:Box w g1 #[.int .i64 a] 3) (h2:Box w g2 #[.int .i64 b] 3) (h3:Box w g3 #[.int .i64 v] 3) (hg:Box w g #[.int .i64 0] 3) (hh:Box w h0 #[.int .i64 0] 3) (hn1:g1≠g∧g1≠h0) (hn2:g2≠g∧g2≠h0) (hn3:g3≠g∧g3≠h0) (hgh:g≠h0):
 Calls Tryz.prog 145 #[.pointer (some ⟨t,0,none⟩),.pointer (some ⟨g3,0,none⟩),.pointer (some ⟨g,0,none⟩),.pointer (some ⟨g1,0,none⟩),.pointer (some ⟨g2,0,none⟩),.pointer (some ⟨h0,0,none⟩)] w fun e w'=>e = .returned (.int .i64 0)∧Keep (fun k=>k≠g∧k≠h0) w w' ∧
  Box w' g #[.int .i64 (allTo c l v (cntOf c l v))] 3∧Box w' h0 #[.int .i64 (decTo c l a b v (cntOf c l v))] 3:=by
 obtain⟨p,hp⟩:=get_of_lt l hvl;have hcnt:cntOf c l v=cntN (spanOf c p) p.width:=by simp[cntOf,hp]
 have h4:=((probes_ok hpr).2.2 p (List.mem_of_getElem? hp)).2.2;have HP:=zh hp;have HS:=zh (labSteps_any hpr v p hp w (h w (Keep.refl _ _)));have HCN:=zh hcnt;have e3:=h3.cell;have hgl:=hg.lt;have hhl:=hh.lt;clear hp hcnt
 go_enter Tryz.func145,Tryz.ntmps145
 go_wp2_with fail
 refine zM HS ?_;rintro e w2 ⟨v2,rfl,hown,hb2⟩;obtain⟨sa,sc,rfl,_,_⟩:=ownsRow_own hown;have hlen:(stepsOf (spanOf c p) p.width).length=cntOf c l v:=by rw[HCN.out];exact stepsTo_len _ _ _
 rw[hlen];rw[←HCN.out] at h4;have HG0:=zh (hg.below' hb2);have HH0:=zh (hh.below' hb2);have HB2:=zh hb2;obtain⟨N,hN⟩:=zx (cntOf c l v);have HNN:=zh hN;rw[hN] at h4;rw[hN];clear hown hb2 hlen HS e3 hN
 go_wp2_with fail
 go_loopw [18] (fun i wr=>∃k:Nat,k≤N∧i = .int .i64 k∧Keep (fun k=>k≠g∧k≠h0) w wr∧Box wr g #[.int .i64 (allTo c l v k)] 3∧Box wr h0 #[.int .i64 (decTo c l a b v k)] 3) (fun i _=>N-(intOf i).toNat)
 case atStart=>exact⟨0,Nat.zero_le _,rfl,Keep.of_below' HB2.out,HG0.out,HH0.out⟩
 case round=>
  obtain⟨k,hk,rfl,hkp,hbg,hbh⟩:=hrel;have HKP:=zh hkp;have HBG:=zh hbg;have HBH:=zh hbh;have hal:=allTo_le c l v k;have hdl:=decTo_le c l a b v k;have HAS:=zh (allTo_succ c l v k);have HDS:=zh (decTo_succ c l a b v k);clear hbg hbh
  by_cases hlt:k<N
  ·have hkn:(k:Int)<(N:Int):=by omega
   have e1:Box wr g1 #[.int .i64 (a:Int)] 3:=hkp.heap hn1 h1;have e2:Box wr g2 #[.int .i64 (b:Int)] 3:=hkp.heap hn2 h2;have e3':Box wr g3 #[.int .i64 (v:Int)] 3:=hkp.heap hn3 h3;have HE1:=zh e1;have HE2:=zh e2;have e3:=e3'.cell;have hg3l:=e3'.lt;have hlb:=h wr hkp;have hff:FoundFor c l [v] [k]:=⟨rfl,fun i u hu=>by
    rcases i with _|i
    ·simp at hu;subst hu;refine⟨p,k,HP.out,rfl,?_⟩;rw[←HCN.out,HNN.out];exact hlt
    ·simp at hu⟩
   have hal2:Below wr.heap.size wr ((wr.alloc (.cells #[.int .i64 (v:Int)] 3)).alloc (.cells #[.int .i64 (k:Int)] 3)):=by go_grown
   have hcan:=can_any hsm hpr (some ⟨wr.heap.size,0,none⟩) [v] 1 (some ⟨wr.heap.size+1,0,none⟩) [k] 1 _ (hlb.below hal2) (one_row ((Box.new _ _ _).alloc _)) (one_row (Box.new' zS)) zS hff.1 hff.2;simp only[List.length_cons,List.length_nil,Nat.zero_add] at hcan;have HC:=zh hcan;have HAL:=zh hal2;clear e1 e2 e3' hlb hff hal2 hcan hkp
   go_wp2_with fail
   refine zM HC ?_;rintro e w5 ⟨hb5,(⟨hcn,u1,u2,u3,u4,u5,u6,rfl⟩|⟨d,ba,pc',hcn,rfl,hpt⟩)⟩
   ·have HB5:=zh (HAL.out.trans (hb5.mono HAL.out.size));have HCB:=zh (show canB c l v k=false by simp[canB,hcn]);have HDB:=zh (show decB c l a b v k=false by simp[decB,hcn]);clear hb5 hcn e3
    go_wp2_with fail
    go_roundw
    case rel=>
     refine⟨k+1,zO,zN,(HKP.out.trans (Keep.of_below' HB5.out)).alloc _,?_,?_⟩
     ·rw[HAS.out,HCB.out];exact(HBG.out.below' HB5.out).alloc _
     ·rw[HDS.out,HDB.out];exact(HBH.out.below' HB5.out).alloc _
    case measure=>exact zJ
   ·obtain⟨w6,hw6⟩:=zx (w5.alloc (.cells #[.string d.ware,.int .i64 d.limit,.int .i64 d.by_,.slice ba d.parts.length pc'] 24));have hB6:Below w5.heap.size w5 w6:=by rw[←hw6];go_grown
    have b6:Box w6 w5.heap.size #[.string d.ware,.int .i64 d.limit,.int .i64 d.by_,.slice ba d.parts.length pc'] 24:=by rw[←hw6];exact Box.new _ _ _
    have hcok:=canC_ok hpr hcn;have hdl2:=hcok.1.len;have hb6:Below wr.heap.size wr w6:=(HAL.out.trans (hb5.mono HAL.out.size)).trans (hB6.mono (Nat.le_trans HAL.out.size hb5.size));have bg6:=HBG.out.below' hb6;have bh6:=HBH.out.below' hb6;have b16:=HE1.out.below' hb6;have b26:=HE2.out.below' hb6;have hgl5:g<w5.heap.size:=by have:=HBG.out.lt;have:=hb5.size;have:=HAL.out.size;omega
    have hhl5:h0<w5.heap.size:=by have:=HBH.out.lt;have:=hb5.size;have:=HAL.out.size;omega
    have hpt5:PartsHi wr.heap.size w5 ba d.parts:=hpt.mono HAL.out.size;obtain⟨na,hna⟩:=zx (allTo c l v k);obtain⟨nd,hnd⟩:=zx (decTo c l a b v k);rw[hna] at hal bg6;rw[hnd] at hdl bh6;have hwa:IntKind.i64.wrap ((na:Int)+1)=(na:Int)+1:=IntWalk.i64_in _ zO;have hwd:IntKind.i64.wrap ((nd:Int)+1)=(nd:Int)+1:=IntWalk.i64_in _ zO;obtain⟨w7,hw7⟩:=zx (w6.setCell ⟨g,0,none⟩ (.int .i64 ((na:Int)+1)));have bg7:Box w7 g #[.int .i64 ((na:Int)+1)] 3:=by rw[←hw7];exact bg6.set_ 0 _
    have bh7:Box w7 h0 #[.int .i64 (nd:Int)] 3:=by rw[←hw7];exact bh6.far (by simpa using Ne.symm hgh) _
    have b17:Box w7 g1 #[.int .i64 (a:Int)] 3:=by rw[←hw7];exact b16.far (by simpa using hn1.1) _
    have b27:Box w7 g2 #[.int .i64 (b:Int)] 3:=by rw[←hw7];exact b26.far (by simpa using hn2.1) _
    have b67:Box w7 w5.heap.size #[.string d.ware,.int .i64 d.limit,.int .i64 d.by_,.slice ba d.parts.length pc'] 24:=by rw[←hw7];exact b6.far zT _
    have hk7:Keep (fun k=>k≠g∧k≠h0) w w7:=by rw[←hw7];exact(HKP.out.trans (Keep.of_below' hb6)).setCell (.inl zS) _
    have hlbl:=HBG.out.lt;have hpt7:PartsHi wr.heap.size w7 ba d.parts:=by rw[←hw7];exact(hpt5.below hB6).set_ (by simpa using hlbl) _
    have HAN:=zh (answer9_any d (small_of hcok.1.chk) a b (ask_two hcok.1.chk hcok.2.1 zO zO) ba pc' w7 hpt7.at_);have HCB:=zh (show canB c l v k=true by simp[canB,hcn]);have HDB:=zh (show decB c l a b v k=(ansAt d a b != 3) by simp[decB,hcn]);have HNA:=zh hna;have HND:=zh hnd;have HW6:=zh hw6;have HW7:=zh hw7;have HG7:=zh bg7;have HH7:=zh bh7;have HK7:=zh hk7;have eg:=bg6.cell;have f6:=bg6.rules;obtain⟨f61,f62⟩:=f6;clear hdl2 hb5 hcn e3 hB6 b6 hcok hb6 bh6 b16 b26 hpt hpt5 hpt7 hw6 hna hnd hk7 bg7 bh7
    go_upto_region 6 with fail
    simp only[HW6.out]
    go_upto_region 8 with fail
    have e17:=b17.cell;have e27:=b27.cell;have e67:=b67.cell;clear eg f61 f62 bg6
    go_wp2_with fail
    refine zM HAN ?_;rintro e w8 ⟨rfl,hb8⟩;have bg8:=HG7.out.below' hb8;have bh8:=HH7.out.below' hb8;have HG8:=zh bg8;have HH8:=zh bh8;have HK8:=zh (HK7.out.trans (Keep.of_below' hb8));have eh:=bh8.cell;obtain⟨f81,f82⟩:=bh8.rules;obtain⟨r,hr⟩:=zx (ansAt d a b);rw[hr] at HDB ⊢;clear hb8 bg8 bh8 e17 e27 e67 hr b17 b27 b67
    by_cases hr3:r=3
    ·subst hr3
     go_wp2_with fail
     go_roundw
     case rel=>
      refine⟨k+1,zO,zN,HK8.out,?_,?_⟩
      ·rw[HAS.out,HCB.out,HNA.out];exact HG8.out
      ·rw[HDS.out,HDB.out,HND.out];exact HH8.out
     case measure=>exact zJ
    ·have HR3:=zh (show(r != 3)=true by simpa using hr3)
     go_wp2_with fail
     go_roundw
     case rel=>
      refine⟨k+1,zO,zN,HK8.out.setCell (.inl zS) _,?_,?_⟩
      ·rw[HAS.out,HCB.out,HNA.out];exact HG8.out.far (by simpa using hgh) _
      ·rw[HDS.out,HDB.out,HND.out,HR3.out];exact HH8.out.set_ 0 _
     case measure=>exact zJ
  ·go_wp2_with fail
   go_ret
   have hkl:k=N:=by omega
   subst hkl;rw[HNN.out];exact⟨rfl,HKP.out,HBG.out,HBH.out⟩
end
theorem results_cct {P:Program}{fn:Func}{t u x:Tmp}{ty tu:TypeId}(h:fn.results = #[.cell t ty,.cell u tu,.tmp x]){tmps:Array Value}{w:World}{p q:Addr}{v1 v2:Value}(hp:tmps.getD t undef = .pointer (some p))(hq:tmps.getD u undef = .pointer (some q))
 (h1:(loadVar ty p).run P w = .ok v1 w) (h2:(loadVar tu q).run P w = .ok v2 w):(results fn tmps).run P w = .ok (.tuple #[v1,v2,tmps.getD x undef]) w:=by
 have hp':tmps[t]?.getD undef = .pointer (some p):=by simpa using hp
 have hq':tmps[u]?.getD undef = .pointer (some q):=by simpa using hq
 simp[results,h,hp',hq',asAddr,h1,h2]
theorem load_int9 {w:World}{g:Nat}{v:Value}(h:Box w g #[v] 3):(loadVar 3 ⟨g,0,none⟩).run Tryz.prog w = .ok v w:=by
 have:=h.cell 0;simp at this
 simp[go_sem,this]
def worthOk (c:Cs)(l:List Prb)(a b p:Int):Bool:=twoB c.parts.length a b&&setB l.length [p]
def worthDec (c:Cs)(l:List Prb)(a b p:Int):Nat:=if xErr c l (worthOk c l a b p)=0 then decTo c l a.toNat b.toNat p.toNat (cntOf c l p.toNat) else 0
def worthAll (c:Cs)(l:List Prb)(a b p:Int):Nat:=if xErr c l (worthOk c l a b p)=0 then allTo c l p.toNat (cntOf c l p.toNat) else 0
theorem worthX_any (c:Cs)(hsm:c.Small)(pa:Option Addr)(pc:Nat)(l:List Prb)(qa:Option Addr)(qc:Nat)(a b p:Int)(w:World)(hp:PartsAt w pa c.parts)(hq:PrbsAt w qa l):
 Calls Tryz.prog 57 #[.agg #[.string c.ware,.int .i64 c.limit,.int .i64 c.by_,.slice pa c.parts.length pc],.slice qa l.length qc,.int .i64 a,.int .i64 b,.int .i64 p] w fun e w'=>e = .returned (.tuple #[.int .i64 (worthDec c l a b p),.int .i64 (worthAll c l a b p),.int .i64 (xErr c l (worthOk c l a b p))])∧Below w.heap.size w w':=by
 have hmf:=run_mf Tryz.prog;obtain⟨w4,hw4⟩:=zx ((((((w.alloc (.cells #[.string c.ware,.int .i64 c.limit,.int .i64 c.by_,.slice pa c.parts.length pc] 24)).alloc (.cells #[.int .i64 a] 3)).alloc (.cells #[.int .i64 b] 3)).alloc (.cells #[.int .i64 p] 3)).alloc (.cells #[.int .i64 0] 3)).alloc (.cells #[.int .i64 0] 3));have hB4:Below w.heap.size w w4:=by rw[←hw4];go_grown
 have hs4:w4.heap.size=w.heap.size+6:=by rw[←hw4];simp
 have b0:Box w4 w.heap.size (csCells c pa pc) 24:=by rw[←hw4];exact(((((Box.new _ _ _).alloc _).alloc _).alloc _).alloc _).alloc _
 have b1:Box w4 (w.heap.size+1) #[.int .i64 a] 3:=by rw[←hw4];exact((((Box.new' zS).alloc _).alloc _).alloc _).alloc _
 have b2:Box w4 (w.heap.size+2) #[.int .i64 b] 3:=by rw[←hw4];exact(((Box.new' zS).alloc _).alloc _).alloc _
 have b3:Box w4 (w.heap.size+3) #[.int .i64 p] 3:=by rw[←hw4];exact((Box.new' zS).alloc _).alloc _
 have b4:Box w4 (w.heap.size+4) #[.int .i64 0] 3:=by rw[←hw4];exact(Box.new' zS).alloc _
 have b5:Box w4 (w.heap.size+5) #[.int .i64 0] 3:=by rw[←hw4];exact Box.new' zS
 have hask:=asked9_any c hsm pa pc l qa qc 144 #[.pointer (some ⟨w.heap.size+1,0,none⟩),.pointer (some ⟨w.heap.size+2,0,none⟩),.pointer (some ⟨w.heap.size+3,0,none⟩)] 145 #[.pointer (some ⟨w.heap.size+3,0,none⟩),.pointer (some ⟨w.heap.size+5,0,none⟩),.pointer (some ⟨w.heap.size+1,0,none⟩),.pointer (some ⟨w.heap.size+2,0,none⟩),.pointer (some ⟨w.heap.size+4,0,none⟩)] (worthOk c l a b p)
  (fun er W'=>er=0∧Below w.heap.size w W'∧Box W' (w.heap.size+5) #[.int .i64 (allTo c l p.toNat (cntOf c l p.toNat))] 3∧Box W' (w.heap.size+4) #[.int .i64 (decTo c l a.toNat b.toNat p.toNat (cntOf c l p.toNat))] 3) w4 (hp.below hB4) (hq.below hB4)
  (fun hpr=>⟨fun args W=>by simp[go_sem],fun W t hW ht hlab=>worth1_arg hsm hpr _ _ _ a b p W hlab (b1.below' hW) (b2.below' hW) (b3.below' hW)⟩)
  (fun hpr hok hne=>⟨fun args W=>by simp[go_sem],fun W t hW ht hlab=>by
   simp only[worthOk,Bool.and_eq_true] at hok;obtain⟨x,y,rfl,rfl,hx,hy⟩:=two_nats hok.1;obtain⟨e1,hsv⟩:=set_nats hok.2;have hpn:p=(p.toNat:Int):=by simpa[nats,natInts] using e1
   have hpl:p.toNat<l.length:=hsv _ (by simp[nats]);obtain⟨v,rfl⟩:∃v:Nat,p=(v:Int):=⟨_,hpn⟩
   have h4:=hB4.size;have h5:=hW.size;refine(worth2_any (t:=t) (pa:=pa) (pc:=pc) (qa:=qa) (qc:=qc) hsm hpr (w.heap.size+1) (w.heap.size+2) (w.heap.size+3) x y v hx hy (by simpa using hpl) W (w.heap.size+5) (w.heap.size+4) (fun W' hk=>by
    have hbw:Below w.heap.size w W':=(hB4.trans (hW.mono h4)).trans ((hk.mono fun k (hk:k<w.heap.size)=>by omega).below zO);exact⟨hk.heap zO hlab.box,hp.below hbw,hq.below hbw⟩) (b1.below' hW) (b2.below' hW) (b3.below' hW) (b5.below' hW) (b4.below' hW) zO zO zO zO).mono ?_
   rintro e W' ⟨rfl,hk,hb1,hb2⟩;exact⟨0,rfl,rfl,(hB4.trans (hW.mono h4)).trans ((hk.mono fun k (hk:k<w.heap.size)=>by omega).below zO),hb1,hb2⟩⟩)
 have HA:=zh hask;have HW:=zh hw4;have HB4:=zh hB4;have H4:=zh b4;have H5:=zh b5;have e0:=zC (b0);clear hask hw4 hB4 b0 b1 b2 b3 b4 b5 hp hq hs4
 go_enter Tryz.func57,Tryz.ntmps57
 go_upto_region 1 with fail
 simp only[HW.out]
 go_wp2_with fail
 refine zM HA ?_;rintro e w5 hpost;obtain⟨er,rfl,hcs⟩:=ask_cases hpost;have hcom:Below w.heap.size w w5∧er=xErr c l (worthOk c l a b p)∧Box w5 (w.heap.size+5) #[.int .i64 (worthAll c l a b p)] 3∧Box w5 (w.heap.size+4) #[.int .i64 (worthDec c l a b p)] 3:=by
  unfold worthAll worthDec
  rcases hcs with ⟨h1,rfl,hb5⟩|⟨h1,rfl,hb5,h3,h4⟩
  ·rw[if_neg h1,if_neg h1];exact⟨HB4.out.trans (hb5.mono HB4.out.size),rfl,H5.out.below' hb5,H4.out.below' hb5⟩
  ·rw[if_pos h1,if_pos h1];exact⟨hb5,h1.symm,h3,h4⟩
 obtain⟨hb5,her,h3,h4⟩:=hcom;obtain⟨na,hna⟩:∃na:Int,(worthAll c l a b p:Int)=na:=⟨_,rfl⟩
 obtain⟨nd,hnd⟩:∃nd:Int,(worthDec c l a b p:Int)=nd:=⟨_,rfl⟩
 rw[hna] at h3;rw[hnd] at h4;have HEQ:=zh (And.intro hna (And.intro hnd her));have HB5:=zh hb5;have HX:=zh h4;have HY:=zh h3;clear hcs hpost e0 hb5 h3 h4 her HA H4 H5 hna hnd
 go_wp2_with fail
 have K0:Hid (∀A,Box A (w.heap.size+4) #[.int .i64 nd] 3∧Box A (w.heap.size+5) #[.int .i64 na] 3→(∀j,A.cell? ⟨w.heap.size+4,j,none⟩=(#[.int .i64 nd]:Array Value)[j]?)∧(∀j,A.cell? ⟨w.heap.size+5,j,none⟩=(#[.int .i64 na]:Array Value)[j]?)):=zh fun A hA=>⟨hA.1.cell,hA.2.cell⟩
 refine wp_region_L (fun A=>Box A (w.heap.size+4) #[.int .i64 nd] 3∧Box A (w.heap.size+5) #[.int .i64 na] 3) 5 zK ?_;have hSS:Box w5.drew (w.heap.size+4) #[.int .i64 nd] 3∧Box w5.drew (w.heap.size+5) #[.int .i64 na] 3:=⟨HX.out,HY.out⟩
 have hB:Below w.heap.size w w5.drew:=HB5.out.drew;generalize w5.drew=w6 at *;refine tM K0 0 hSS ?_;refine tM K0 1 hSS ?_;refine tM K0 2 hSS ?_;obtain⟨z1,z2⟩:=hSS.1.rules;have hS2:Box (w6.setCell ⟨w.heap.size+4,0,none⟩ (.int .i64 nd)) (w.heap.size+4) #[.int .i64 nd] 3∧Box (w6.setCell ⟨w.heap.size+4,0,none⟩ (.int .i64 nd)) (w.heap.size+5) #[.int .i64 na] 3:=⟨hSS.1.set_ 0 _,hSS.2.far zS _⟩
 refine anyL_skip (i:=3) (w':=w6.setCell ⟨w.heap.size+4,0,none⟩ (.int .i64 nd)) rfl zK (by rfl) ?_ (.inr hS2) ?_
 ·go_simp
  try with_reducible rfl
 try simp only[pZ]
 have hB7:Below w.heap.size w (w6.setCell ⟨w.heap.size+4,0,none⟩ (.int .i64 nd)):=hB.setCell zS _;clear z1 z2 hSS;generalize w6.setCell ⟨w.heap.size+4,0,none⟩ (.int .i64 nd)=w7 at *;obtain⟨z1,z2⟩:=hS2.2.rules;have hS3:Box (w7.setCell ⟨w.heap.size+5,0,none⟩ (.int .i64 na)) (w.heap.size+4) #[.int .i64 nd] 3∧Box (w7.setCell ⟨w.heap.size+5,0,none⟩ (.int .i64 na)) (w.heap.size+5) #[.int .i64 na] 3:=⟨hS2.1.far zS _,hS2.2.set_ 0 _⟩
 refine anyL_skip (i:=4) (w':=w7.setCell ⟨w.heap.size+5,0,none⟩ (.int .i64 na)) rfl zK (by rfl) ?_ (.inr hS3) ?_
 ·go_simp
  try with_reducible rfl
 try simp only[pZ]
 have hB8:Below w.heap.size w (w7.setCell ⟨w.heap.size+5,0,none⟩ (.int .i64 na)):=hB7.setCell zS _;clear z1 z2 hS2;generalize w7.setCell ⟨w.heap.size+5,0,none⟩ (.int .i64 na)=w8 at *;refine anyL_run (i:=5) (v:=.int .i64 er) (w':=w8) rfl zK (by rfl) (by go_simp) (.inr hS3) ?_
 try simp only[pZ]
 refine anyL_done zK ?_ _;have HB8:=zh hB8;have HS3:=zh hS3;clear hS3 hB hB7 hB8 K0
 go_wp2_with fail
 refine bodyPost_ret (results_cct rfl rfl rfl (load_int9 HS3.out.1) (load_int9 HS3.out.2)) rfl ?_;obtain⟨rfl,rfl,rfl⟩:=HEQ.out;exact⟨rfl,HB8.out⟩
end
theorem bell_small:bellC.Small:=by
 refine⟨by decide,by decide,?_⟩;intro p hp;simp only[bellC,List.mem_cons,List.not_mem_nil,or_false] at hp
 rcases hp with rfl|rfl|rfl<;>exact⟨by decide,by decide⟩
theorem b_probes:probesErr bellC rodsL=0:=zK
theorem b_all:(allR bellC).isEmpty=false:=zK
theorem b_cheap:cheapestOf bellC rodsL 0 1=some [1]:=zK
theorem b_proof:(proofOf bellC rodsL 0 1).map (·.probes)=[[0,2]]:=zK
theorem b_best:bestOf bellC rodsL=some ((0,1),[1]):=zK
theorem b_worth:worthDec bellC rodsL 0 1 0=1∧worthAll bellC rodsL 0 1 0=2:=by
 constructor<;>kernel_rfl
theorem b_after:((afterC bellC rodsL [1] [1]).map fun d=>(d.parts[1]?.map fun q=>(q.span.low,q.span.high,q.span.lowBy,q.span.highBy)))=some (some (23,30,32,4)):=zK
theorem b_set1:foundB bellC rodsL [1] [1]=true:=zK
theorem b_set2:foundB bellC rodsL [1] [0]=true:=zK
theorem b_set3:foundB bellC rodsL [0,1] [1,0]=true:=zK
theorem b_settled:(canC bellC rodsL [1] [0]).map (setlC bellC)=some [(0,1),(1,2)]:=zK
theorem b_can:(canC bellC rodsL [0,1] [1,0]).isSome=false:=zK
def bellVs:List Ver:=[⟨[0],1,[⟨4,0,0,[0,1,2]⟩]⟩,⟨[1],2,[⟨2,0,1,[]⟩]⟩]
def bellD:Opn:=⟨[0,2],[0,0],[0,0,1],[0,1,1]⟩
theorem b_vers:checkVersB bellC rodsL 0 1 [1] bellVs=true:=zK
theorem b_doubt:doubtedB bellC rodsL 0 1 bellD=true:=zK
theorem b_cost:costOf rodsL [1]=5:=zK
