/- Walks and plain laws. No condition. -/
import Derived.Test.YtjgldeeianionaaGreatV40
set_option maxHeartbeats 2000000
set_option maxRecDepth 100000
set_option linter.unusedSimpArgs false
set_option linter.unusedVariables false
namespace Go.Proofs.YtjgldeeianionaaGreat
open Go.RowKit
section
attribute [local go_sem] Oper.semAt_some
def leastD (l:List Prb)(ds:List ((Nat×Nat)×List Nat)):Option ((Nat×Nat)×List Nat):=leastOf (fun x=>costOf l x.2) (fun _=>true) ds
theorem leastD_take {l:List Prb}{zs:List ChoE}{k:Nat}{z:ChoE}(hz:zs[k]?=some z):leastD l ((zs.take (k+1)).map ChoE.d)=leastStep (fun x=>costOf l x.2) (fun _=>true) (leastD l ((zs.take k).map ChoE.d)) z.d:=by
 rw[take_snoc hz,List.map_append];exact leastOf_snoc _ _ _ _
def ChoPost (l:List Prb)(zs:List ChoE)(w:World)(e:Ending)(w':World):Prop:=Below w.heap.size w w'∧((leastD l (zs.map ChoE.d)=none∧e = .returned (.tuple #[.agg #[.int .i64 0,.int .i64 0,.slice none 0 0,.int .i64 0],.bool false])) ∨
 ∃z:ChoE,z∈zs∧leastD l (zs.map ChoE.d)=some z.d∧z.Ok l w'∧e = .returned (.tuple #[.agg #[.int .i64 (z.p1:Int),.int .i64 (z.p2:Int),.slice z.sa z.s.length z.sc,.int .i64 z.n],.bool true]))
theorem choice_size:(Tryz.prog.info? 131).map (·.size)=some 4:=zK
def BestAt (l:List Prb)(zs:List ChoE)(o:Option ((Nat×Nat)×List Nat))(fv:Value)(u1 u2:Int)(u3:Option Addr)(u4 u5:Nat)(u6:Int):Prop:=
 (o=none∧fv = .bool false∧u1=0∧u2=0∧u3=none∧u4=0∧u5=0∧u6=0)∨∃z∈zs,o=some z.d∧fv = .bool true∧u1=z.p1∧u2=z.p2∧u3=z.sa∧u4=z.s.length∧u5=z.sc∧u6=z.n
theorem zok_of {l:List Prb}{w:World}{a:Option Addr}{zs:List ChoE}(h:ChosAt l w a zs){z:ChoE}(hz:z∈zs):z.Ok l w:=by
 obtain⟨k,hk⟩:=List.mem_iff_getElem?.1 hz;exact(h k z hk).1
theorem leastC_any (l:List Prb)(zs:List ChoE)(a:Option Addr)(n:Nat)(w:World)(h:ChosAt l w a zs)(hl:zs.length≤100000):
 Calls Tryz.prog 97 #[.slice a zs.length n,.func (.func 98) #[] #[],.func (.func 99) #[] #[]] w (ChoPost l zs w):=by
 have hent1:∀args W,(callFunc 98 args).run Tryz.prog W = .ok (.enter 98 args) W:=fun args W=>by simp[go_sem]
 have hent2:∀args W,(callFunc 99 args).run Tryz.prog W = .ok (.enter 99 args) W:=fun args W=>by simp[go_sem]
 obtain⟨w2,hw2⟩:=zx ((w.alloc (.cells #[.int .i64 0,.int .i64 0,.slice none 0 0,.int .i64 0] 131)).alloc (.cells #[.int .i64 0,.int .i64 0,.slice none 0 0,.int .i64 0] 131));have hB2:Below w.heap.size w w2:=by rw[←hw2];go_grown
 have b1:Box w2 w.heap.size #[.int .i64 0,.int .i64 0,.slice none 0 0,.int .i64 0] 131:=by rw[←hw2];exact(Box.new _ _ _).alloc _
 have b2:Box w2 (w.heap.size+1) #[.int .i64 0,.int .i64 0,.slice none 0 0,.int .i64 0] 131:=by rw[←hw2];exact Box.new' zS
 have HW2:=zh hw2;have HB2:=zh hB2;have H1:=zh b1;have H2:=zh b2;have HC:=zh h;clear hw2 hB2 b1 b2 h
 go_enter Tryz.func97,Tryz.ntmps97
 go_upto_region 2 with fail
 simp only[HW2.out]
 go_wp2_with fail
 go_loopw [9,14] (fun fv iv wr=>∃(k:Nat) (u1 u2:Int) (u3:Option Addr) (u4 u5:Nat) (u6:Int),k≤zs.length∧iv = .int .i64 k∧Below w.heap.size w wr∧Box wr w.heap.size #[.int .i64 0,.int .i64 0,.slice none 0 0,.int .i64 0] 131∧Box wr (w.heap.size+1) #[.int .i64 u1,.int .i64 u2,.slice u3 u4 u5,.int .i64 u6] 131 ∧
  BestAt l zs (leastD l ((zs.take k).map ChoE.d)) fv u1 u2 u3 u4 u5 u6) (fun _ iv _=>zs.length-(intOf iv).toNat)
 case atStart=>exact⟨0,0,0,none,0,0,0,Nat.zero_le _,rfl,HB2.out,H1.out,H2.out,.inl ⟨rfl,rfl,rfl,rfl,rfl,rfl,rfl,rfl⟩⟩
 case round=>
  obtain⟨k,u1,u2,u3,u4,u5,u6,hk,rfl,hb,hb1,hb2,hst⟩:=hrel;have HB:=zh hb;have HX1:=zh hb1;have HX2:=zh hb2;have HST:=zh hst;clear H1 H2 HB2
  by_cases hlt:k<zs.length
  ·obtain⟨x,hx⟩:=get_of_lt zs hlt;obtain⟨hxo,b,o,rfl,c1,c2,c3,c4⟩:=(HC.out.below hb) k x hx;have hkn:(k:Int)<(zs.length:Int):=by omega
   obtain⟨w5,hw5⟩:=zx (wr.alloc (.cells #[.int .i64 (x.p1:Int),.int .i64 (x.p2:Int),.slice x.sa x.s.length x.sc,.int .i64 x.n] 131));have hB5:Below wr.heap.size wr w5:=by rw[←hw5];go_grown
   have b5:Box w5 wr.heap.size #[.int .i64 (x.p1:Int),.int .i64 (x.p2:Int),.slice x.sa x.s.length x.sc,.int .i64 x.n] 131:=by rw[←hw5];exact Box.new _ _ _
   have HX:=zh hx;have HW5:=zh hw5;have h15:=hb1.below' hB5;have h25:=hb2.below' hB5;have hxo5:=hxo.below hB5;have HB5:=zh (hb.trans (hB5.mono hb.size));have hwl:w.heap.size+1<wr.heap.size:=hb2.lt;clear hx hw5 hB5 hb hb1 hb2 hxo hst
   go_upto_region 6 with fail
   simp only[HW5.out];refine wp_region_L (fun A=>Below w5.drew.heap.size w5.drew A) 16 zK ?_;have hbd:Below w5.heap.size w5 w5.drew:=(Below.refl _ w5).drew;have hSS:Below w5.drew.heap.size w5.drew w5.drew:=Below.refl _ _;have h16:=h15.below' hbd;have h26:=h25.below' hbd;have b6:=b5.below' hbd;have hxo6:=hxo5.below hbd;have HB6:=zh (HB5.out.trans (hbd.mono HB5.out.size));clear h15 h25 b5 hxo5 hbd c1 c2 c3 c4;generalize w5.drew=w6 at *;have K0:Hid (∀A,Below w6.heap.size w6 A→(∀j,A.cell? ⟨w.heap.size+1,j,none⟩=(#[.int .i64 u1,.int .i64 u2,.slice u3 u4 u5,.int .i64 u6]:Array Value)[j]?)∧(∀j,A.cell? ⟨wr.heap.size,j,none⟩=(#[.int .i64 (x.p1:Int),.int .i64 (x.p2:Int),.slice x.sa x.s.length x.sc,.int .i64 x.n]:Array Value)[j]?)):=zh fun A hA=>⟨(h26.below' hA).cell,(b6.below' hA).cell⟩
   rcases HST.out with ⟨h1,rfl,rfl,rfl,rfl,rfl,rfl,rfl⟩|⟨z,hzm,h1,rfl,rfl,rfl,rfl,rfl,rfl,rfl⟩
   ·have HNEW:=zh (show leastD l ((zs.take (k+1)).map ChoE.d)=some x.d by rw[leastD_take HX.out,h1];rfl);refine tM K0 0 hSS ?_;refine tM K0 1 hSS ?_;refine tM K0 2 hSS ?_;refine tN 3 hSS ?_;refine tN 4 hSS ?_;refine tN 5 hSS ?_;refine tN 6 hSS ?_;refine tN 7 hSS ?_;refine tN 8 hSS ?_;refine tN 9 hSS ?_;refine tM K0 10 hSS ?_;refine tM K0 11 hSS ?_;refine tM K0 12 hSS ?_;refine tM K0 13 hSS ?_;refine anyL_call (i:=14) (f:=99) (args:=#[.agg #[.int .i64 (x.p1:Int),.int .i64 (x.p2:Int),.slice x.sa x.s.length x.sc,.int .i64 x.n]]) rfl zK (by rfl) (by go_simp) (best4_any x w6) ?_;rintro e w9 ⟨rfl,hb9⟩;refine .inl ⟨_,rfl,.inr hb9,?_⟩
    try simp only[pZ]
    have hSS:=hb9;refine tM K0 15 hSS ?_;refine anyL_done zK ?_ _;have HB9:=zh (HB6.out.trans (hb9.mono HB6.out.size));have HY1:=zh (h16.below' hb9);have h2:=h26.below' hb9;have HY2:=zh h2;have HY3:=zh (b6.below' hb9);have e9:=HY3.out.cell;obtain⟨z1,z2⟩:=h2.rules;clear hSS hb9 h2 h1 K0 h16 h26 b6 hxo6
    go_wp2_with fail
    go_roundw
    case rel=>exact⟨k+1,_,_,_,_,_,_,zO,zN,(((HB9.out.setCell zS _).setCell zS _).setCell zS _).setCell zS _,(((HY1.out.far zS _).far zS _).far zS _).far zS _,(((HY2.out.set_ 0 _).set_ 1 _).set_ 2 _).set_ 3 _,.inr ⟨x,List.mem_of_getElem? HX.out,HNEW.out,rfl,rfl,rfl,rfl,rfl,rfl,rfl⟩⟩
    case measure=>exact zJ
   ·have HZO:=zh (zok_of HC.out hzm |>.below HB6.out);refine tM K0 0 hSS ?_;refine tM K0 1 hSS ?_;refine tM K0 2 hSS ?_;refine tM K0 3 hSS ?_;refine tM K0 4 hSS ?_;refine tM K0 6 hSS ?_;refine tM K0 7 hSS ?_;refine anyL_call (i:=5) (f:=98) (args:=#[.agg #[.int .i64 (x.p1:Int),.int .i64 (x.p2:Int),.slice x.sa x.s.length x.sc,.int .i64 x.n]]) rfl zK (by rfl) (by go_simp) (best3_any l x w6 hxo6) ?_;rintro e w7 ⟨rfl,hb7⟩;refine .inl ⟨_,rfl,.inr hb7,?_⟩
    try simp only[pZ]
    have hSS:=hb7;refine anyL_call (i:=8) (f:=98) (args:=#[.agg #[.int .i64 (z.p1:Int),.int .i64 (z.p2:Int),.slice z.sa z.s.length z.sc,.int .i64 z.n]]) rfl zK (by rfl) (by go_simp) (best3_any l z w7 (HZO.out.below hb7)) ?_;rintro e w8 ⟨rfl,hb8⟩;have hSS:=hb7.trans (hb8.mono hb7.size);refine .inl ⟨_,rfl,.inr hSS,?_⟩
    try simp only[pZ]
    obtain⟨cx,hcx⟩:=zx (costOf l x.s);obtain⟨cy,hcy⟩:=zx (costOf l z.s);have hstep:leastD l ((zs.take (k+1)).map ChoE.d)=if cx<cy then some x.d else some z.d:=by
     rw[leastD_take HX.out,h1,←hcx,←hcy]
     by_cases hcc:costOf l x.s<costOf l z.s<;>simp[leastStep,ChoE.d,hcc]
    rw[hcx,hcy];clear hcx hcy hb7 hb8
    by_cases hlt2:cx<cy
    ·have HNEW:=zh (show leastD l ((zs.take (k+1)).map ChoE.d)=some x.d by rw[hstep,if_pos hlt2]);refine tM K0 9 hSS ?_;refine tM K0 10 hSS ?_;refine tM K0 11 hSS ?_;refine tM K0 12 hSS ?_;refine tM K0 13 hSS ?_;clear hstep;generalize w8=w6' at *;refine anyL_call (i:=14) (f:=99) (args:=#[.agg #[.int .i64 (x.p1:Int),.int .i64 (x.p2:Int),.slice x.sa x.s.length x.sc,.int .i64 x.n]]) rfl zK (by rfl) (by go_simp) (best4_any x w6') ?_;rintro e w9 ⟨rfl,hb9'⟩;have hb9:=hSS.trans (hb9'.mono hSS.size);refine .inl ⟨_,rfl,.inr hb9,?_⟩
     try simp only[pZ]
     have hSS:=hb9;refine tM K0 15 hSS ?_;refine anyL_done zK ?_ _;have HB9:=zh (HB6.out.trans (hb9.mono HB6.out.size));have HY1:=zh (h16.below' hb9);have h2:=h26.below' hb9;have HY2:=zh h2;have HY3:=zh (b6.below' hb9);have e9:=HY3.out.cell;obtain⟨z1,z2⟩:=h2.rules;clear hSS hb9 h2 h1 K0 h16 h26 b6 hxo6
     go_wp2_with fail
     go_roundw
     case rel=>exact⟨k+1,_,_,_,_,_,_,zO,zN,(((HB9.out.setCell zS _).setCell zS _).setCell zS _).setCell zS _,(((HY1.out.far zS _).far zS _).far zS _).far zS _,(((HY2.out.set_ 0 _).set_ 1 _).set_ 2 _).set_ 3 _,.inr ⟨x,List.mem_of_getElem? HX.out,HNEW.out,rfl,rfl,rfl,rfl,rfl,rfl,rfl⟩⟩
     case measure=>exact zJ
    ·have HOLD:=zh (show leastD l ((zs.take (k+1)).map ChoE.d)=some z.d by rw[hstep,if_neg hlt2]);have hltb:decide (cx<cy)=false:=by simpa using hlt2
     refine tM K0 9 hSS ?_;refine tM K0 10 hSS ?_;refine tM K0 11 hSS ?_;refine tN 12 hSS ?_;refine tN 13 hSS ?_;refine tN 14 hSS ?_;refine tM K0 15 hSS ?_;refine anyL_done zK ?_ _;have HB8:=zh (HB6.out.trans (hSS.mono HB6.out.size));have HY1:=zh (h16.below' hSS);have HY2:=zh (h26.below' hSS);clear hSS hltb hlt2 hstep h1 K0 h16 h26 b6 hxo6
     go_wp2_with fail
     go_roundw
     case rel=>exact⟨k+1,_,_,_,_,_,_,zO,zN,HB8.out,HY1.out,HY2.out,.inr ⟨z,hzm,HOLD.out,rfl,rfl,rfl,rfl,rfl,rfl,rfl⟩⟩
     case measure=>exact zJ
  ·have hkl:k=zs.length:=by omega
   rw[hkl,List.take_length] at hst;obtain⟨z1,z2⟩:=HX1.out.rules;have e2:=HX2.out.cell;have hkn:decide ((k:Int)<(zs.length:Int))=false:=by simp;omega
   have HST2:=zh hst;clear hst hb hb1 hb2 HST hkl hkn
   go_wp2_with fail
   refine bodyPost_ret (results_cell_tmp rfl rfl (run_loadVar_row _ _ 131 131 _ (0,0) _ ((((HX1.out.set_ 0 _).set_ 1 _).set_ 2 _).set_ 3 _) Tryz.underlying131 rfl choice_size)) rfl ?_;have hbw:=(((HB.out.setCell (p:=⟨w.heap.size,0,none⟩) zS (.int .i64 u1)).setCell (p:=⟨w.heap.size,1,none⟩) zS (.int .i64 u2)).setCell (p:=⟨w.heap.size,2,none⟩) zS (.slice u3 u4 u5)).setCell (p:=⟨w.heap.size,3,none⟩) zS (.int .i64 u6);refine⟨hbw,?_⟩
   rcases HST2.out with ⟨h1,rfl,rfl,rfl,rfl,rfl,rfl,rfl⟩|⟨z,hzm,h1,rfl,rfl,rfl,rfl,rfl,rfl,rfl⟩
   ·exact .inl ⟨h1,rfl⟩
   ·exact .inr ⟨z,hzm,h1,(zok_of HC.out hzm).below hbw,rfl⟩
end
