/- The walks and plain laws of: MQXBest MSameP MQSoundL MQSounds MQLawC. No condition. -/
import Derived.Laws.StructEq
import Derived.ChangeKeysEq
import Derived.Test.YtjgldeeianionaaGreatS06
import Derived.Test.YtjgldeeianionaaGreatS17
import Derived.Test.YtjgldeeianionaaGreatS33
import Derived.Test.YtjgldeeianionaaGreatS34
import Derived.Test.YtjgldeeianionaaGreatS36
import Derived.Test.YtjgldeeianionaaGreatS42
import Derived.Test.YtjgldeeianionaaGreatS43
import Derived.Test.YtjgldeeianionaaGreatS46
import Derived.Test.YtjgldeeianionaaGreatS01
set_option maxHeartbeats 4000000
set_option maxRecDepth 100000
set_option linter.unusedSimpArgs false
set_option linter.unusedVariables false
namespace Go.Proofs.YtjgldeeianionaaGreat
open Go.RowKit
attribute [local go_sem] Oper.semAt_some
theorem best1_any (v:Value)(w:World):Calls Tryz.prog 95 #[v] w (NeedPost true w):=by
 go_enter Tryz.func95,Tryz.ntmps95
 go_wp2_with fail
 go_end0
 exact needPost_ok rfl (Below.refl _ _)
theorem results_cctt {P:Program}{fn:Func}{t u x y:Tmp}{ty tu:TypeId}(h:fn.results = #[.cell t ty,.cell u tu,.tmp x,.tmp y]){tmps:Array Value}{w:World}{p q:Addr}{v1 v2:Value}(hp:tmps.getD t undef = .pointer (some p))(hq:tmps.getD u undef = .pointer (some q))
 (h1:(loadVar ty p).run P w = .ok v1 w) (h2:(loadVar tu q).run P w = .ok v2 w):(results fn tmps).run P w = .ok (.tuple #[v1,v2,tmps.getD x undef,tmps.getD y undef]) w:=by
 have hp':tmps[t]?.getD undef = .pointer (some p):=by simpa using hp
 have hq':tmps[u]?.getD undef = .pointer (some q):=by simpa using hq
 simp[results,h,hp',hq',asAddr,h1,h2]
theorem pair_size9:(Tryz.prog.info? 57).map (·.size)=some 2:=zK
def BestX (c:Cs)(l:List Prb)(w:World)(e:Ending)(w':World):Prop:=Below w.heap.size w w'∧(((xErr c l true≠0∨bestOf c l=none)∧e = .returned (.tuple #[.agg #[.int .i64 0,.int .i64 0],.agg #[.slice none 0 0,.int .i64 0],.bool false,.int .i64 (xErr c l true)])) ∨
 ∃z:ChoE,xErr c l true=0∧bestOf c l=some z.d∧z.Ok l w'∧e = .returned (.tuple #[.agg #[.int .i64 (z.p1:Int),.int .i64 (z.p2:Int)],.agg #[.slice z.sa z.s.length z.sc,.int .i64 z.n],.bool true,.int .i64 0]))
theorem bestX_any (c:Cs)(hsm:c.Small)(pa:Option Addr)(pc:Nat)(l:List Prb)(qa:Option Addr)(qc:Nat)(w:World)(hp:PartsAt w pa c.parts)(hq:PrbsAt w qa l):
 Calls Tryz.prog 31 #[.agg #[.string c.ware,.int .i64 c.limit,.int .i64 c.by_,.slice pa c.parts.length pc],.slice qa l.length qc] w (BestX c l w):=by
 have hmf:=run_mf Tryz.prog
 obtain⟨w4,hw4⟩:=zx ((((w.alloc (.cells #[.string c.ware,.int .i64 c.limit,.int .i64 c.by_,.slice pa c.parts.length pc] 24)).alloc (.cells #[.int .i64 0,.int .i64 0] 57)).alloc (.cells #[.slice none 0 0,.int .i64 0] 42)).alloc (.cells #[.slice none 0 0] 129))
 have hB4:Below w.heap.size w w4:=by rw[←hw4];go_grown
 have hs4:w4.heap.size=w.heap.size+4:=by rw[←hw4];simp
 have b0:Box w4 w.heap.size (csCells c pa pc) 24:=by rw[←hw4];exact(((Box.new _ _ _).alloc _).alloc _).alloc _
 have b1:Box w4 (w.heap.size+1) #[.int .i64 0,.int .i64 0] 57:=by rw[←hw4];exact((Box.new' (by simp)).alloc _).alloc _
 have b2:Box w4 (w.heap.size+2) #[.slice none 0 0,.int .i64 0] 42:=by rw[←hw4];exact(Box.new' (by simp)).alloc _
 have b3:Box w4 (w.heap.size+3) #[.slice none 0 0] 129:=by rw[←hw4];exact Box.new' (by simp)
 have hask:=asked9_any c hsm pa pc l qa qc 95 #[] 96 #[.pointer (some ⟨w.heap.size,0,none⟩),.pointer (some ⟨w.heap.size+3,0,none⟩)] true
  (fun er W'=>er=0∧Below w.heap.size w W'∧Box W' (w.heap.size+1) #[.int .i64 0,.int .i64 0] 57∧Box W' (w.heap.size+2) #[.slice none 0 0,.int .i64 0] 42∧∃v zs,Box W' (w.heap.size+3) #[v] 129∧ChosO l (w.heap.size+4) W' v zs∧zs.map ChoE.d=chosOf c l∧(openOf c).length≤100000) w4 (hp.below hB4) (hq.below hB4)
  (fun hpr=>⟨fun args W=>by simp[go_sem],fun W t hW ht hlab=>best1_any _ W⟩)
  (fun hpr hok hne=>⟨fun args W=>by simp[go_sem],fun W t hW ht hlab=>by
   have h4:=hB4.size
   have h5:=hW.size
   refine(best2_any (t:=t) (pa:=pa) (pc:=pc) (qa:=qa) (qc:=qc) hsm hpr hne w.heap.size W (w.heap.size+3) (fun W' hk=>by
    have hbw:Below w.heap.size w W':=(hB4.trans (hW.mono h4)).trans ((hk.mono fun k (hk:k<w.heap.size)=>by omega).below (by omega))
    exact⟨hk.heap (by omega) hlab.box,hp.below hbw,hq.below hbw⟩) (b0.below' hW) (b3.below' hW)).mono ?_
   rintro e W' ⟨rfl,hk,v,zs,hb1,hco,hzs⟩
   have hz:=ask_nil (probes_ok hpr).1 hne
   refine⟨0,rfl,rfl,(hB4.trans (hW.mono h4)).trans ((hk.mono fun k (hk:k<w.heap.size)=>by omega).below (by omega)),hk.heap (by omega) (b1.below' hW),hk.heap (by omega) (b2.below' hW),v,zs,hb1,⟨⟨hco.1.1,?_⟩,fun z hz W2 hW2=>hco.2 z hz W2 (hW2.mono fun k ⟨q1,q2⟩=>⟨by omega,q2⟩)⟩,hzs,openOf_len c (check_small (ask_open hz))⟩
   rcases hco.1.2 with h0|⟨g',cap,cur,q1,q2,q3,q4⟩
   ·exact .inl h0
   ·exact .inr ⟨g',cap,cur,q1,by omega,q3,q4⟩⟩)
 have HA:=zh hask
 have HW:=zh hw4
 have HB4:=zh hB4
 have H1:=zh b1
 have H2:=zh b2
 have e0:∀i,w4.cell? ⟨w.heap.size,i,none⟩=(#[.string c.ware,.int .i64 c.limit,.int .i64 c.by_,.slice pa c.parts.length pc]:Array Value)[i]?:=b0.cell
 clear hask hw4 hB4 b0 b1 b2 b3 hp hq hs4
 go_enter Tryz.func31,Tryz.ntmps31
 go_upto_region 2 with fail
 simp only[HW.out]
 go_wp2_with fail
 (with_reducible refine HA.out.mono ?_)
 rintro e w5 hpost
 obtain⟨er,rfl,(⟨h1,h2,hb5⟩|⟨h1,rfl,hb5,hx1,hx2,v,zs,hx3,hco,hzs,hol⟩)⟩:=ask_cases hpost
 ·have HB5:=zh (HB4.out.trans (hb5.mono HB4.out.size))
  have HX1:=zh (H1.out.below' hb5)
  have HX2:=zh (H2.out.below' hb5)
  have hne:(er != 0)=true:=by simpa using(h2▸h1)
  have HE:=zh (And.intro h1 h2)
  obtain⟨y1,y2⟩:=HX1.out.rules
  obtain⟨z1,z2⟩:=HX2.out.rules
  clear hpost hb5 e0 h1 h2 HA H1 H2
  go_wp2_with fail
  refine bodyPost_ret (results_cctt rfl rfl rfl (run_loadVar_row _ _ 57 57 _ (0,0) _ ((((HX1.out.set_ 0 _).set_ 1 _).far (by simp) _).far (by simp) _) Tryz.underlying57 rfl pair_size9) (run_loadVar_row _ _ 42 42 _ (0,0) _ ((((HX2.out.far (by simp) _).far (by simp) _).set_ 0 _).set_ 1 _) Tryz.underlying42 rfl plan_size)) rfl ?_
  refine⟨(((HB5.out.setCell (by simp) _).setCell (by simp) _).setCell (by simp;omega) _).setCell (by simp;omega) _,.inl ⟨.inl HE.out.1,?_⟩⟩
  rw[←HE.out.2]
  rfl
 ·have hzl:zs.length≤100000:=by
   have h2:=congrArg List.length hzs
   rw[List.length_map] at h2
   have h3:=List.length_filterMap_le (choF c l) (openOf c)
   unfold chosOf at h2
   omega
  have HCO:=zh hco.2
  obtain⟨av,cv,rfl,hat,_⟩:=hco.at_
  have HL:=zh (leastC_any l zs av cv w5 hat hzl)
  have HB5:=zh hb5
  have HX1:=zh hx1
  have HX2:=zh hx2
  have HXE:=zh h1
  have HZS:=zh (show leastD l (zs.map ChoE.d)=bestOf c l by rw[hzs];rfl)
  have e8:=hx3.cell
  clear hpost hb5 e0 h1 HA H1 H2 hx1 hx2 hx3 hco hzs hat hol
  go_wp2_with fail
  (with_reducible refine HL.out.mono ?_)
  rintro e w6 ⟨hb6,hcase⟩
  rw[HZS.out] at hcase
  have huni:∃(u1 u2:Int) (u3:Option Addr) (u4 u5:Nat) (u6:Int) (fd:Bool),e = .returned (.tuple #[.agg #[.int .i64 u1,.int .i64 u2,.slice u3 u4 u5,.int .i64 u6],.bool fd])∧((bestOf c l=none∧fd=false∧u1=0∧u2=0∧u3=none∧u4=0∧u5=0∧u6=0) ∨
   ∃z:ChoE,bestOf c l=some z.d∧z∈zs∧fd=true∧u1=z.p1∧u2=z.p2∧u3=z.sa∧u4=z.s.length∧u5=z.sc∧u6=z.n):=by
   rcases hcase with ⟨q1,rfl⟩|⟨z,q2,q1,_,rfl⟩
   ·exact⟨_,_,_,_,_,_,_,rfl,.inl ⟨q1,rfl,rfl,rfl,rfl,rfl,rfl,rfl⟩⟩
   ·exact⟨_,_,_,_,_,_,_,rfl,.inr ⟨z,q1,q2,rfl,rfl,rfl,rfl,rfl,rfl,rfl⟩⟩
  obtain⟨u1,u2,u3,u4,u5,u6,fd,rfl,hd⟩:=huni
  obtain⟨w7,hw7⟩:=zx (w6.alloc (.cells #[.int .i64 u1,.int .i64 u2,.slice u3 u4 u5,.int .i64 u6] 131))
  have hB7:Below w6.heap.size w6 w7:=by rw[←hw7];go_grown
  have b7:Box w7 w6.heap.size #[.int .i64 u1,.int .i64 u2,.slice u3 u4 u5,.int .i64 u6] 131:=by rw[←hw7];exact Box.new _ _ _
  have HW7:=zh hw7
  have hb67:=hb6.trans (hB7.mono hb6.size)
  have HB7:=zh (HB5.out.trans (hb67.mono HB5.out.size))
  have HY1:=zh (HX1.out.below' hb67)
  have HY2:=zh (HX2.out.below' hb67)
  have HD:=zh hd
  have HOKB:=zh hb67
  have hsz:w.heap.size+4≤w6.heap.size:=by
   have h1:=hb6.size
   have h2:=HX2.out.lt
   have h3:=lt_of_cell (w:=w5) (b:=w.heap.size+3) (o:=0) (e8 0)
   omega
  clear hw7 hB7 hb67 hcase hd e8 HL HX1 HX2
  go_upto_region 6 with fail
  simp only[HW7.out]
  have K0:Hid (∀A,Box A w6.heap.size #[.int .i64 u1,.int .i64 u2,.slice u3 u4 u5,.int .i64 u6] 131→(∀j,A.cell? ⟨w6.heap.size,j,none⟩=(#[.int .i64 u1,.int .i64 u2,.slice u3 u4 u5,.int .i64 u6]:Array Value)[j]?)):=zh fun A hA=>hA.cell
  refine wp_region_L (fun A=>Box A w6.heap.size #[.int .i64 u1,.int .i64 u2,.slice u3 u4 u5,.int .i64 u6] 131) 9 zK ?_
  have hbd:Below w7.heap.size w7 w7.drew:=(Below.refl _ w7).drew
  have hSS:=b7.below' hbd
  have h1d:=HY1.out.below' hbd
  have h2d:=HY2.out.below' hbd
  have hBd:=HB7.out.trans (hbd.mono HB7.out.size)
  have hOd:=HOKB.out.trans (hbd.mono HOKB.out.size)
  clear hbd b7
  generalize w7.drew=w8 at *
  refine tkL 0 ?_ rfl ?_ hSS ?_
  rotate_left
  ·(intro W hW;have q0:=K0.out W hW;go_simp;try with_reducible rfl)
  try simp only[pA,pN,sA,sB]
  refine tkL 1 ?_ rfl ?_ hSS ?_
  rotate_left
  ·(intro W hW;have q0:=K0.out W hW;go_simp;try with_reducible rfl)
  try simp only[pA,pN,sA,sB]
  refine tkL 2 ?_ rfl ?_ hSS ?_
  rotate_left
  ·(intro W hW;have q0:=K0.out W hW;go_simp;try with_reducible rfl)
  try simp only[pA,pN,sA,sB]
  refine tkL 3 ?_ rfl ?_ hSS ?_
  rotate_left
  ·(intro W hW;have q0:=K0.out W hW;go_simp;try with_reducible rfl)
  try simp only[pA,pN,sA,sB]
  refine tkL 4 ?_ rfl ?_ hSS ?_
  rotate_left
  ·(intro W hW;have q0:=K0.out W hW;go_simp;try with_reducible rfl)
  try simp only[pA,pN,sA,sB]
  obtain⟨z1,z2⟩:=h1d.rules
  refine anyL_skip (i:=5) (w':=(w8.setCell ⟨w.heap.size+1,0,none⟩ (.int .i64 u1)).setCell ⟨w.heap.size+1,1,none⟩ (.int .i64 u2)) rfl zK (by rfl) ?_ (.inr ((hSS.far (by simp;omega) _).far (by simp;omega) _)) ?_
  ·go_simp
   try with_reducible rfl
  try simp only[pA,pN,sA,sB]
  have hS9:Box ((w8.setCell ⟨w.heap.size+1,0,none⟩ (.int .i64 u1)).setCell ⟨w.heap.size+1,1,none⟩ (.int .i64 u2)) w6.heap.size #[.int .i64 u1,.int .i64 u2,.slice u3 u4 u5,.int .i64 u6] 131:=(hSS.far (by simp;omega) _).far (by simp;omega) _
  have h19:Box ((w8.setCell ⟨w.heap.size+1,0,none⟩ (.int .i64 u1)).setCell ⟨w.heap.size+1,1,none⟩ (.int .i64 u2)) (w.heap.size+1) #[.int .i64 u1,.int .i64 u2] 57:=(h1d.set_ 0 _).set_ 1 _
  have h29:Box ((w8.setCell ⟨w.heap.size+1,0,none⟩ (.int .i64 u1)).setCell ⟨w.heap.size+1,1,none⟩ (.int .i64 u2)) (w.heap.size+2) #[.slice none 0 0,.int .i64 0] 42:=(h2d.far (by simp) _).far (by simp) _
  have hB9:Below w.heap.size w ((w8.setCell ⟨w.heap.size+1,0,none⟩ (.int .i64 u1)).setCell ⟨w.heap.size+1,1,none⟩ (.int .i64 u2)):=(hBd.setCell (by simp) _).setCell (by simp) _
  have hO9:Keep (fun k=>w.heap.size+4≤k) w5 ((w8.setCell ⟨w.heap.size+1,0,none⟩ (.int .i64 u1)).setCell ⟨w.heap.size+1,1,none⟩ (.int .i64 u2)):=((Keep.of_below' hOd).setCell (.inl (by simp)) _).setCell (.inl (by simp)) _
  clear hSS h1d h2d hBd hOd z1 z2
  generalize (w8.setCell ⟨w.heap.size+1,0,none⟩ (.int .i64 u1)).setCell ⟨w.heap.size+1,1,none⟩ (.int .i64 u2)=w9 at *
  obtain⟨z1,z2⟩:=h29.rules
  have hS10:Box ((w9.setCell ⟨w.heap.size+2,0,none⟩ (.slice u3 u4 u5)).setCell ⟨w.heap.size+2,1,none⟩ (.int .i64 u6)) w6.heap.size #[.int .i64 u1,.int .i64 u2,.slice u3 u4 u5,.int .i64 u6] 131:=(hS9.far (by simp;omega) _).far (by simp;omega) _
  refine anyL_skip (i:=6) (w':=(w9.setCell ⟨w.heap.size+2,0,none⟩ (.slice u3 u4 u5)).setCell ⟨w.heap.size+2,1,none⟩ (.int .i64 u6)) rfl zK (by rfl) ?_ (.inr hS10) ?_
  ·go_simp
   try with_reducible rfl
  try simp only[pA,pN,sA,sB]
  have h110:Box ((w9.setCell ⟨w.heap.size+2,0,none⟩ (.slice u3 u4 u5)).setCell ⟨w.heap.size+2,1,none⟩ (.int .i64 u6)) (w.heap.size+1) #[.int .i64 u1,.int .i64 u2] 57:=(h19.far (by simp) _).far (by simp) _
  have h210:Box ((w9.setCell ⟨w.heap.size+2,0,none⟩ (.slice u3 u4 u5)).setCell ⟨w.heap.size+2,1,none⟩ (.int .i64 u6)) (w.heap.size+2) #[.slice u3 u4 u5,.int .i64 u6] 42:=(h29.set_ 0 _).set_ 1 _
  have hB10:Below w.heap.size w ((w9.setCell ⟨w.heap.size+2,0,none⟩ (.slice u3 u4 u5)).setCell ⟨w.heap.size+2,1,none⟩ (.int .i64 u6)):=(hB9.setCell (by simp) _).setCell (by simp) _
  have hO10:Keep (fun k=>w.heap.size+4≤k) w5 ((w9.setCell ⟨w.heap.size+2,0,none⟩ (.slice u3 u4 u5)).setCell ⟨w.heap.size+2,1,none⟩ (.int .i64 u6)):=(hO9.setCell (.inl (by simp)) _).setCell (.inl (by simp)) _
  clear hS9 h19 h29 hB9 hO9 z1 z2
  generalize (w9.setCell ⟨w.heap.size+2,0,none⟩ (.slice u3 u4 u5)).setCell ⟨w.heap.size+2,1,none⟩ (.int .i64 u6)=wa at *
  refine anyL_run (i:=7) (v:=.bool fd) (w':=wa) rfl zK (by rfl) (by go_simp) (.inr hS10) ?_
  try simp only[pA,pN,sA,sB]
  refine anyL_run (i:=8) (v:=.int .i64 0) (w':=wa) rfl zK (by rfl) (by go_simp) (.inr hS10) ?_
  try simp only[pA,pN,sA,sB]
  refine anyL_done zK ?_ _
  have HA1:=zh h110
  have HA2:=zh h210
  have HAB:=zh hB10
  have HAO:=zh hO10
  clear h110 h210 hB10 hO10 hS10 K0
  go_wp2_with fail
  refine bodyPost_ret (results_cctt rfl rfl rfl (run_loadVar_row _ _ 57 57 _ (0,0) _ HA1.out Tryz.underlying57 rfl pair_size9) (run_loadVar_row _ _ 42 42 _ (0,0) _ HA2.out Tryz.underlying42 rfl plan_size)) rfl ?_
  refine⟨HAB.out,?_⟩
  rcases HD.out with ⟨q1,rfl,rfl,rfl,rfl,rfl,rfl,rfl⟩|⟨z,q1,q2,rfl,rfl,rfl,rfl,rfl,rfl,rfl⟩
  ·refine .inl ⟨.inr q1,?_⟩
   rw[HXE.out]
   rfl
  ·exact .inr ⟨z,HXE.out,q1,HCO.out z q2 wa (HAO.out.mono fun k hk=>hk.1),rfl⟩
theorem neq_pair (a b c d:Int)(w:World):(binOp .neq 57 (.agg #[.int .i64 a,.int .i64 b]) (.agg #[.int .i64 c,.int .i64 d])).run Tryz.prog w = .ok (.bool (!(a==c&&b==d))) w:=by
 have hf:(Tryz.prog.fieldsOf 57).toList=[{name := "A",type:=3,offset:=0,embedded:=false,tag := "",pkgPath := "",byteOffset:=0},{name := "B",type:=3,offset:=1,embedded:=false,tag := "",pkgPath := "",byteOffset:=8}]:=by
  simp[Program.fieldsOf,Tryz.underlying57]
 have p1:∀(x y:Int) (W:World),(part 3 #[.int .i64 x,.int .i64 y] 0).run Tryz.prog W = .ok (.int .i64 x) W:=fun x y W=>run_part_plain W zK rfl
 have p2:∀(x y:Int) (W:World),(part 3 #[.int .i64 x,.int .i64 y] 1).run Tryz.prog W = .ok (.int .i64 y) W:=fun x y W=>run_part_plain W zK rfl
 have q:∀(x y:Int) (W:World),(Op.equalIn 9999 3 (.int .i64 x) (.int .i64 y)).run Tryz.prog W = .ok (x==y) W:=fun x y W=>run_equalIn_int W 9998 3 .i64 .i64 x y Tryz.underlying3
 rw[run_neq_struct,show(10000:Nat)=9999+1 from rfl,run_equalIn_struct w 9999 57 _ _ zK zK,hf]
 simp only[Op.eqFields,Sem.run_bind,Sem.run_ite,p1,p2,q,Result.andThen_ok]
 rcases h1:(a==c) with _|_<;>rcases h2:(b==d) with _|_<;>simp[Sem.run_pure,Result.andThen_ok]
theorem pairs_at {w:World}{a:Option Addr}{l:List (Nat×Nat)}(h:Row w a (pairCells l)){k:Nat}{p:Nat×Nat}(hp:l[k]?=some p):
 ∃b o,a=some ⟨b,o,none⟩∧w.cell? ⟨b,o+k*2,none⟩=some (.int .i64 p.1)∧w.cell? ⟨b,o+k*2+1,none⟩=some (.int .i64 p.2):=by
 have e:∀(l:List (Nat×Nat)) (k:Nat) (p:Nat×Nat),l[k]?=some p→(pairCells l)[k*2]?=some (.int .i64 p.1)∧(pairCells l)[k*2+1]?=some (.int .i64 p.2):=by
  intro l
  induction l with
  |nil=>intro k p h;simp at h
  |cons q l ih=>
   intro k p h
   rcases k with _|k
   ·simp at h;subst h;simp[pairCells]
   ·have:=ih k p (by simpa using h)
    rw[show(k+1)*2=k*2+1+1 by omega]
    simpa[pairCells] using this
 obtain⟨h1,h2⟩:=e l k p hp
 obtain⟨b,o,rfl,c1⟩:=h _ _ h1
 obtain⟨b',o',ha,c2⟩:=h _ _ h2
 cases ha
 exact⟨b,o,rfl,c1,by rw[Nat.add_assoc];exact c2⟩
theorem pair_take {l m:List (Nat×Nat)}{k:Nat}{x y:Nat×Nat}(hx:l[k]?=some x)(hy:m[k]?=some y)(h:l.take k=m.take k):(l.take (k+1)=m.take (k+1))↔x=y:=by
 rw[take_snoc hx,take_snoc hy,h];simp
theorem samePairs_ref (a b:Option Addr)(ca cb:Nat)(l m:List (Nat×Nat))(w:World)(ha:Row w a (pairCells l))(hb:Row w b (pairCells m))(hl:l.length≤1000000)(hm:m.length≤1000000):
 Calls Tryz.prog 23 #[.slice a l.length ca,.slice b m.length cb] w fun e w'=>e = .returned (.bool (decide (l=m)))∧Below w.heap.size w w':=by
 by_cases hlen:l.length=m.length
 ·have hlb:((l.length:Int) != (m.length:Int))=false:=by simp[hlen]
  have HL:=zh hlen
  clear hlen
  go_enter Tryz.func23,Tryz.ntmps23
  go_wp2
  go_wp2
  go_loopw [5] (fun i wr=>∃k:Nat,k≤l.length∧i = .int .i64 k∧l.take k=m.take k∧Below w.heap.size w wr) (fun i _=>l.length-(intOf i).toNat)
  case atStart=>exact⟨0,Nat.zero_le _,rfl,by simp,Below.refl _ _⟩
  case round=>
   obtain⟨k,hk,rfl,hall,hB⟩:=hrel
   have HA:=zh hall
   have HB:=zh hB
   clear hall
   by_cases hlt:k<l.length
   ·have hltm:k<m.length:=by have:=HL.out;omega
    obtain⟨x,hx⟩:=get_of_lt l hlt
    obtain⟨y,hy⟩:=get_of_lt m hltm
    obtain⟨b1,o1,rfl,c1,c2⟩:=pairs_at (ha.below hB) hx
    obtain⟨b2,o2,rfl,c3,c4⟩:=pairs_at (hb.below hB) hy
    have HX:=zh hx
    have HY:=zh hy
    have hki:(k:Int)<m.length:=by omega
    have hki':(k:Int)<l.length:=by omega
    have hnq:=fun W=>neq_pair (x.1:Int) (x.2:Int) (y.1:Int) (y.2:Int) W
    clear hx hy hB
    by_cases hxy:x=y
    ·rw[show(!(((x.1:Nat):Int)==((y.1:Nat):Int)&&((x.2:Nat):Int)==((y.2:Nat):Int)))=false by simp[hxy]] at hnq
     have HXY:=zh hxy
     clear hxy
     go_wp2_with fail
     go_quiet (fail)
     go_wp2_with fail
     go_roundw
     case rel=>exact⟨k+1,by omega,by go_num,(pair_take HX.out HY.out HA.out).2 HXY.out,below_drewN HB.out _⟩
     case measure=>simp[intOf];omega
    ·rw[show(!(((x.1:Nat):Int)==((y.1:Nat):Int)&&((x.2:Nat):Int)==((y.2:Nat):Int)))=true by rw[Bool.not_eq_true',Bool.eq_false_iff];intro h;simp at h;exact hxy (Prod.ext (by omega) (by omega))] at hnq
     have HXY:=zh hxy
     clear hxy
     go_wp2_with fail
     go_quiet (fail)
     go_wp2_with fail
     go_ret
     refine⟨ret_bool ?_,below_drewN HB.out _⟩
     symm
     simp only[decide_eq_false_iff_not]
     intro e
     subst e
     have:=HX.out.symm.trans HY.out
     exact HXY.out (Option.some.inj this)
   ·clear hB
    go_wp2_with fail
    go_ret
    refine⟨ret_bool ?_,HB.out⟩
    have h1:=HA.out
    have h2:=HL.out
    rw[List.take_of_length_le (by omega),List.take_of_length_le (by omega)] at h1
    simp[h1]
 ·have hlb:((l.length:Int) != (m.length:Int))=true:=by simp;omega
  have HL:=zh hlen
  clear hlen
  go_enter Tryz.func23,Tryz.ntmps23
  go_wp2
  go_ret
  exact⟨ret_bool (by symm;simp only[decide_eq_false_iff_not];exact fun e=>HL.out (by rw[e])),Below.refl _ _⟩
end Go.Proofs.YtjgldeeianionaaGreat
namespace Go.Proofs.YtjgldeeianionaaGreat
open Go.RowKit
theorem lit_ints9 {w:World}{g:Nat}{l:List Int}{t:TypeId}(h:Box w g (l.map (Value.int .i64)).toArray t):Ints w (some ⟨g,0,none⟩) l:=fun k v hv=>by
 refine⟨g,0,rfl,?_⟩
 rw[h.cell,Nat.zero_add]
 simpa using hv
theorem lit_row9 {w:World}{g:Nat}{cs:Array Value}{t:TypeId}(h:Box w g cs t):Row w (some ⟨g,0,none⟩) cs.toList:=fun k v hv=>by
 refine⟨g,0,rfl,?_⟩
 rw[h.cell,Nat.zero_add]
 simpa using hv
theorem same_lit9 (l:List Int)(hl:l.length≤1000000)(a b:Option Addr)(ca cb:Nat)(w:World)(ha:Ints w a l)(hb:Ints w b l):Calls Tryz.prog 30 #[.slice a l.length ca,.slice b l.length cb] w fun e w'=>e = .returned (.bool true)∧Below w.heap.size w w':=
 (same_ref a b ca cb l l w ha hb hl hl).mono (by rintro e w' ⟨rfl,h⟩;exact⟨by simp,h⟩)
theorem pairs_lit9 (l:List (Nat×Nat))(hl:l.length≤1000000)(a b:Option Addr)(ca cb:Nat)(w:World)(ha:Row w a (pairCells l))(hb:Row w b (pairCells l)):Calls Tryz.prog 23 #[.slice a l.length ca,.slice b l.length cb] w fun e w'=>e = .returned (.bool true)∧Below w.heap.size w w':=
 (samePairs_ref a b ca cb l l w ha hb hl hl).mono (by rintro e w' ⟨rfl,h⟩;exact⟨by simp,h⟩)
theorem same_two9 {a b:Option Addr}{ca cb:Nat}{w:World}(ha:Ints w a [0,2])(hb:Ints w b [0,2]):Calls Tryz.prog 30 #[.slice a 2 ca,.slice b 2 cb] w fun e w'=>e = .returned (.bool true)∧Below w.heap.size w w':=same_lit9 [0,2] (by simp) a b ca cb w ha hb
theorem pairs_two9 {a b:Option Addr}{ca cb:Nat}{w:World}(ha:Row w a (pairCells [(0,1),(1,2)]))(hb:Row w b (pairCells [(0,1),(1,2)])):Calls Tryz.prog 23 #[.slice a 2 ca,.slice b 2 cb] w fun e w'=>e = .returned (.bool true)∧Below w.heap.size w w':=pairs_lit9 [(0,1),(1,2)] (by simp) a b ca cb w ha hb
theorem vers_lit {w:World}{g1 g2 g3 g4 g5 g6:Nat}{t1 t2 t3 t4 t5 t6:TypeId}(h1:Box w g1 #[.int .i64 0] t1)(h2:Box w g2 #[.int .i64 0,.int .i64 1,.int .i64 2] t2)(h3:Box w g3 #[.int .u8 4,.int .i64 0,.int .i64 0,.slice (some ⟨g2,0,none⟩) 3 3] t3)
 (h4:Box w g4 #[.int .i64 1] t4) (h5:Box w g5 #[.int .u8 2,.int .i64 0,.int .i64 1,.slice none 0 0] t5)
 (h6:Box w g6 #[.slice (some ⟨g1,0,none⟩) 1 1,.int .u8 1,.slice (some ⟨g3,0,none⟩) 1 1,.slice (some ⟨g4,0,none⟩) 1 1,.int .u8 2,.slice (some ⟨g5,0,none⟩) 1 1] t6):VersAt w (some ⟨g6,0,none⟩) bellVs:=by
 have b1:BrsAt w (some ⟨g3,0,none⟩) [⟨4,0,0,[0,1,2]⟩]:=by
  intro k x hx
  match k,hx with
  |0,hx=>
   cases hx
   exact⟨g3,0,rfl,some ⟨g2,0,none⟩,3,by rw[h3.cell];rfl,by rw[h3.cell];rfl,by rw[h3.cell];rfl,by rw[h3.cell];rfl,lit_ints9 (l:=[0,1,2]) h2,Nat.le_refl _⟩
  |k+1,hx=>simp at hx
 have b2:BrsAt w (some ⟨g5,0,none⟩) [⟨2,0,1,[]⟩]:=by
  intro k x hx
  match k,hx with
  |0,hx=>
   cases hx
   exact⟨g5,0,rfl,none,0,by rw[h5.cell];rfl,by rw[h5.cell];rfl,by rw[h5.cell];rfl,by rw[h5.cell];rfl,Ints.nil _ _,Nat.le_refl _⟩
  |k+1,hx=>simp at hx
 intro k v hv
 match k,hv with
 |0,hv=>
  cases hv
  exact⟨g6,0,some ⟨g1,0,none⟩,1,some ⟨g3,0,none⟩,1,rfl,by rw[h6.cell];rfl,by rw[h6.cell];rfl,by rw[h6.cell];rfl,lit_ints9 (l:=[0]) h1,b1,Nat.le_refl _⟩
 |1,hv=>
  cases hv
  exact⟨g6,0,some ⟨g4,0,none⟩,1,some ⟨g5,0,none⟩,1,rfl,by rw[h6.cell];rfl,by rw[h6.cell];rfl,by rw[h6.cell];rfl,lit_ints9 (l:=[1]) h4,b2,Nat.le_refl _⟩
 |k+2,hv=>simp[bellVs] at hv
def bArg (pa:Option Addr)(pc:Nat):Value:=.agg #[.string bellC.ware,.int .i64 bellC.limit,.int .i64 bellC.by_,.slice pa bellC.parts.length pc]
def rArg (qa:Option Addr)(qc:Nat):Value:=.slice qa rodsL.length qc
theorem b_err {ok:Bool}(h:ok=true):xErr bellC rodsL ok=0:=xErr_ok b_probes h b_all
section
variable {w:World}{pa:Option Addr}{pc:Nat}{qa:Option Addr}{qc:Nat}
theorem s_cheap (hp:PartsAt w pa bellC.parts)(hq:PrbsAt w qa rodsL):Calls Tryz.prog 24 #[bArg pa pc,rArg qa qc,.int .i64 0,.int .i64 1] w fun e w'=>∃ra rc,e = .returned (.tuple #[.agg #[.slice ra 1 rc,.int .i64 5],.bool true,.int .i64 0])∧Ints w' ra [1]∧Below w.heap.size w w':=
 (cheapestX_any bellC bell_small pa pc rodsL qa qc 0 1 w hp hq).mono (by
  rintro e w' ⟨hb,cs,bb,rfl,h⟩
  rw[show xErr bellC rodsL (twoB bellC.parts.length 0 1)=0 from b_err rfl] at h ⊢
  rw[if_pos rfl,show cheapestOf bellC rodsL (0:Int).toNat (1:Int).toNat=some [1] from b_cheap] at h
  rcases h with ⟨h,_⟩|⟨x,ra,rc,hx,rfl,rfl,hi,_⟩
  ·cases h
  ·cases hx
   rw[b_cost]
   exact⟨ra,rc,rfl,hi.at_,hb⟩)
theorem s_proof (hp:PartsAt w pa bellC.parts)(hq:PrbsAt w qa rodsL):Calls Tryz.prog 26 #[bArg pa pc,rArg qa qc,.int .i64 0,.int .i64 1] w fun e w'=>∃b o k a1 k1,e = .returned (.tuple #[.slice (some ⟨b,o,none⟩) 1 k,.int .i64 0])∧w'.cell? ⟨b,o,none⟩=some (.slice a1 2 k1)∧Ints w' a1 [0,2]∧Below w.heap.size w w':=
 (proofX_any bellC bell_small pa pc rodsL qa qc 0 1 w hp hq).mono (by
  rintro e w' ⟨hb,v,er,rfl,h⟩
  rw[show xErr bellC rodsL (twoB bellC.parts.length 0 1)=0 from b_err rfl] at h
  rcases h with ⟨h,_⟩|⟨_,rfl,a,cap,rfl,ho,_⟩
  ·exact absurd rfl h
  ·have hd:=b_proof
   rw[show proofOf bellC rodsL (0:Int).toNat (1:Int).toNat=proofOf bellC rodsL 0 1 from rfl] at ho ⊢
   obtain⟨d,hds⟩:∃d,proofOf bellC rodsL 0 1=[d]:=by
    have hl:=congrArg List.length hd
    rw[List.length_map] at hl
    exact List.length_eq_one_iff.1 hl
   ·rw[hds] at ho hd
    simp only[List.map_cons,List.map_nil,List.cons.injEq,and_true] at hd
    obtain⟨b,o,a1,c1,a2,c2,a3,c3,a4,c4,rfl,h1,_,_,_,h2⟩:=ho 0 d rfl
    obtain⟨a1',c1',a2',c2',a3',c3',a4',c4',he,i1,_⟩:=h2.at_
    simp only[Value.agg.injEq,Array.mk.injEq,List.cons.injEq,Value.slice.injEq] at he
    obtain⟨⟨rfl,_,_⟩,_⟩:=he
    rw[hd] at h1 i1
    refine⟨b,o,cap,a1,c1,?_,by simpa using h1,i1,hb⟩
    rw[hds];rfl)
theorem s_best (hp:PartsAt w pa bellC.parts)(hq:PrbsAt w qa rodsL):Calls Tryz.prog 31 #[bArg pa pc,rArg qa qc] w fun e w'=>∃sa sc,e = .returned (.tuple #[.agg #[.int .i64 0,.int .i64 1],.agg #[.slice sa 1 sc,.int .i64 5],.bool true,.int .i64 0])∧Ints w' sa [1]∧Below w.heap.size w w':=
 (bestX_any bellC bell_small pa pc rodsL qa qc w hp hq).mono (by
  rintro e w' ⟨hb,(⟨h,rfl⟩|⟨z,_,h,hz,rfl⟩)⟩
  ·rcases h with h|h
   ·exact absurd (b_err rfl) h
   ·rw[b_best] at h;cases h
  ·rw[b_best] at h
   obtain⟨p1,p2,s,n,sa,sc⟩:=z
   simp only[ChoE.d,Option.some.injEq,Prod.mk.injEq] at h
   obtain⟨⟨rfl,rfl⟩,rfl⟩:=h
   obtain⟨h1,h2,_⟩:=hz
   rw[b_cost] at h1
   simp only at h1
   subst h1
   exact⟨sa,sc,rfl,h2,hb⟩)
theorem s_worth (hp:PartsAt w pa bellC.parts)(hq:PrbsAt w qa rodsL):Calls Tryz.prog 57 #[bArg pa pc,rArg qa qc,.int .i64 0,.int .i64 1,.int .i64 0] w fun e w'=>e = .returned (.tuple #[.int .i64 1,.int .i64 2,.int .i64 0])∧Below w.heap.size w w':=
 (worthX_any bellC bell_small pa pc rodsL qa qc 0 1 0 w hp hq).mono (by
  rintro e w' ⟨rfl,hb⟩
  rw[b_worth.1,b_worth.2,b_err (ok:=worthOk bellC rodsL 0 1 0) rfl]
  exact⟨rfl,hb⟩)
theorem s_after {sa:Option Addr}{sc:Nat}{fa:Option Addr}{fc:Nat}(hp:PartsAt w pa bellC.parts)(hq:PrbsAt w qa rodsL)(hs:Ints w sa [1])(hf:Ints w fa [1]):Calls Tryz.prog 16 #[bArg pa pc,rArg qa qc,.slice sa 1 sc,.slice fa 1 fc] w fun e w'=>∃u1 u2 u3 b o m k,e = .returned (.tuple #[.agg #[.string u1,.int .i64 u2,.int .i64 u3,.slice (some ⟨b,o,none⟩) m k],.bool true,.int .i64 0])∧1<m∧w'.cell? ⟨b,o+8+1,none⟩=some (.int .i64 23)∧w'.cell? ⟨b,o+8+1+1,none⟩=some (.int .i64 30)∧w'.cell? ⟨b,o+8+1+2,none⟩=some (.int .i64 32)∧w'.cell? ⟨b,o+8+1+3,none⟩=some (.int .i64 4)∧Below w.heap.size w w':=
 (afterX_any bellC bell_small pa pc rodsL qa qc sa [1] sc fa [1] fc (by simp) (by simp) w hp hq hs hf).mono (by
  rintro e w' ⟨hb,cs,bb,rfl,h⟩
  rw[b_err b_set1] at h ⊢
  rw[if_pos rfl,show afterC bellC rodsL (nats [1]) (nats [1])=afterC bellC rodsL [1] [1] from rfl] at h
  have ha:=b_after
  rcases h with ⟨h,_⟩|⟨d,ba,k,hd,rfl,rfl,hpp⟩
  ·rw[h] at ha;cases ha
  ·rw[hd] at ha
   simp only[Option.map_some,Option.some.injEq,Option.map_eq_some_iff,Prod.mk.injEq] at ha
   obtain⟨q,hq1,e1,e2,e3,e4⟩:=ha
   have hl:=(List.getElem?_eq_some_iff.1 hq1).1
   obtain⟨b,o,q',rfl,hq2,hP⟩:=hpp.at_.at_ hl
   rw[hq1] at hq2;cases hq2
   obtain⟨_,_,_,_,_,x1,x2,x3,x4,_⟩:=hP.open
   rw[e1] at x1;rw[e2] at x2;rw[e3] at x3;rw[e4] at x4
   simp only[Nat.one_mul] at x1 x2 x3 x4
   exact⟨d.ware,d.limit,d.by_,b,o,d.parts.length,k,rfl,hl,x1,x2,x3,x4,hb⟩)
theorem s_settled {sa:Option Addr}{sc:Nat}{fa:Option Addr}{fc:Nat}(hp:PartsAt w pa bellC.parts)(hq:PrbsAt w qa rodsL)(hs:Ints w sa [1])(hf:Ints w fa [0]):Calls Tryz.prog 20 #[bArg pa pc,rArg qa qc,.slice sa 1 sc,.slice fa 1 fc] w fun e w'=>∃a k,e = .returned (.tuple #[.slice a 2 k,.int .i64 0])∧Row w' a (pairCells [(0,1),(1,2)])∧Below w.heap.size w w':=
 (settledX_any bellC bell_small pa pc rodsL qa qc sa [1] sc fa [0] fc w hp hq (by simp) (by simp) hs hf).mono (by
  rintro e w' ⟨hb,v,er,rfl,h⟩
  rw[b_err b_set2] at h
  have ha:=b_settled
  rcases h with ⟨h,_⟩|⟨_,h⟩
  ·exact absurd rfl h
  ·rw[show canC bellC rodsL (nats [1]) (nats [0])=canC bellC rodsL [1] [0] from rfl] at h
   rcases h with ⟨h,_⟩|⟨d,a,cap,hd,rfl,rfl,hpp,_⟩
   ·rw[h] at ha;cases ha
   ·rw[hd] at ha
    simp only[Option.map_some,Option.some.injEq] at ha
    rw[ha] at hpp ⊢
    exact⟨a,cap,rfl,hpp,hb⟩)
theorem s_can {sa:Option Addr}{sc:Nat}{fa:Option Addr}{fc:Nat}(hp:PartsAt w pa bellC.parts)(hq:PrbsAt w qa rodsL)(hs:Ints w sa [0,1])(hf:Ints w fa [1,0]):Calls Tryz.prog 18 #[bArg pa pc,rArg qa qc,.slice sa 2 sc,.slice fa 2 fc] w fun e w'=>e = .returned (.tuple #[.bool false,.int .i64 0])∧Below w.heap.size w w':=
 (canX_any bellC bell_small pa pc rodsL qa qc sa [0,1] sc fa [1,0] fc (by simp) (by simp) w hp hq hs hf).mono (by
  rintro e w' ⟨hb,rfl⟩
  rw[b_err b_set3,show(canC bellC rodsL (nats [0,1]) (nats [1,0])).isSome=false from b_can]
  exact⟨rfl,hb⟩)
theorem s_vers {sa:Option Addr}{sc:Nat}{va:Option Addr}{vc:Nat}(hp:PartsAt w pa bellC.parts)(hq:PrbsAt w qa rodsL)(hs:Ints w sa [1])(hv:VersAt w va bellVs)(hc:2≤vc):Calls Tryz.prog 39 #[bArg pa pc,rArg qa qc,.int .i64 0,.int .i64 1,.slice sa 1 sc,.slice va 2 vc] w fun e w'=>e = .returned (.tuple #[.bool true,.int .i64 0])∧Below w.heap.size w w':=
 (checkVersX_any bellC bell_small pa pc rodsL qa qc 0 1 sa [1] sc va bellVs vc (by
  intro v hv
  simp only[bellVs,List.mem_cons,List.not_mem_nil,or_false] at hv
  rcases hv with rfl|rfl<;>exact⟨by decide,by decide,by decide,by intro z hz;rw[List.mem_singleton.1 hz];exact⟨by decide,by decide⟩⟩) (by simp[bellVs]) hc w hp hq (by simp) hs hv).mono (by
  rintro e w' h
  obtain⟨hb,rfl⟩:=h.bool
  rw[b_err (ok:=twoB bellC.parts.length 0 1&&setB rodsL.length [1]) rfl,show checkVersB bellC rodsL (0:Int).toNat (1:Int).toNat (nats [1]) bellVs=true from b_vers]
  exact⟨rfl,hb⟩)
theorem s_doubt {a1 a2 a3 a4:Option Addr}{k1 k2 k3 k4:Nat}(hp:PartsAt w pa bellC.parts)(hq:PrbsAt w qa rodsL)(h1:Ints w a1 [0,2])(h2:Ints w a2 [0,0])(h3:Ints w a3 [0,0,1])(h4:Ints w a4 [0,1,1]):Calls Tryz.prog 43 #[bArg pa pc,rArg qa qc,.int .i64 0,.int .i64 1,.agg #[.slice a1 2 k1,.slice a2 2 k2,.slice a3 3 k3,.slice a4 3 k4]] w fun e w'=>e = .returned (.tuple #[.bool true,.int .i64 0])∧Below w.heap.size w w':=
 (checkDoubtX_any bellC bell_small pa pc rodsL qa qc 0 1 bellD ⟨by decide,by decide,by decide,by decide⟩ a1 a2 a3 a4 k1 k2 k3 k4 w hp hq ⟨a1,k1,a2,k2,a3,k3,a4,k4,rfl,h1,h2,h3,h4⟩).mono (by
  rintro e w' h
  obtain⟨hb,rfl⟩:=h.bool
  rw[b_err (ok:=twoB bellC.parts.length 0 1) rfl,show doubtedB bellC rodsL (0:Int).toNat (1:Int).toNat bellD=true from b_doubt]
  exact⟨rfl,hb⟩)
theorem s_plan {ra sa:Option Addr}{rc sc:Nat}(h1:Ints w ra [1])(h2:Ints w sa [1]):Calls Tryz.prog 27 #[.agg #[.slice ra 1 rc,.int .i64 5],.agg #[.slice sa 1 sc,.int .i64 5]] w fun e w'=>e = .returned (.bool true)∧Below w.heap.size w w':=
 (samePlanR9_any ra sa rc sc [1] [1] 5 5 w h1 h2 (by simp) (by simp)).mono (by rintro e w' ⟨rfl,h⟩;exact⟨rfl,h⟩)
theorem eq_pair9 (w:World):(binOp .eql 57 (.agg #[.int .i64 0,.int .i64 1]) (.agg #[.int .i64 0,.int .i64 1])).run Tryz.prog w = .ok (.bool true) w:=zK
theorem eq_span9 (w:World):(binOp .eql 78 (.agg #[.int .i64 23,.int .i64 30,.int .i64 32,.int .i64 4]) (.agg #[.int .i64 23,.int .i64 30,.int .i64 32,.int .i64 4])).run Tryz.prog w = .ok (.bool true) w:=zK
end
end Go.Proofs.YtjgldeeianionaaGreat
namespace Go.Proofs.YtjgldeeianionaaGreat
open Go.RowKit
attribute [local go_sem] Oper.semAt_some
theorem sounds_walk (c:Cs)(l:List Prb)
 (HBE:Hid (∀w:World,Calls Tryz.prog 55 #[] w fun e w'=>∃pa pc,e = .returned (.agg #[.string c.ware,.int .i64 c.limit,.int .i64 c.by_,.slice pa c.parts.length pc])∧PartsAt w' pa c.parts∧Below w.heap.size w w'))
 (HRO:Hid (∀w:World,Calls Tryz.prog 56 #[] w fun e w'=>∃qa qc,e = .returned (.slice qa l.length qc)∧PrbsAt w' qa l∧Below w.heap.size w w'))
 (HCH:Hid (∀(w:World) (pa:Option Addr) (pc:Nat) (qa:Option Addr) (qc:Nat),PartsAt w pa c.parts→PrbsAt w qa l→Calls Tryz.prog 24 #[.agg #[.string c.ware,.int .i64 c.limit,.int .i64 c.by_,.slice pa c.parts.length pc],.slice qa l.length qc,.int .i64 0,.int .i64 1] w fun e w'=>∃ra rc,e = .returned (.tuple #[.agg #[.slice ra 1 rc,.int .i64 5],.bool true,.int .i64 0])∧Ints w' ra [1]∧Below w.heap.size w w'))
 (HPR:Hid (∀(w:World) (pa:Option Addr) (pc:Nat) (qa:Option Addr) (qc:Nat),PartsAt w pa c.parts→PrbsAt w qa l→Calls Tryz.prog 26 #[.agg #[.string c.ware,.int .i64 c.limit,.int .i64 c.by_,.slice pa c.parts.length pc],.slice qa l.length qc,.int .i64 0,.int .i64 1] w fun e w'=>∃b o k a1 k1,e = .returned (.tuple #[.slice (some ⟨b,o,none⟩) 1 k,.int .i64 0])∧w'.cell? ⟨b,o,none⟩=some (.slice a1 2 k1)∧Ints w' a1 [0,2]∧Below w.heap.size w w'))
 (HBS:Hid (∀(w:World) (pa:Option Addr) (pc:Nat) (qa:Option Addr) (qc:Nat),PartsAt w pa c.parts→PrbsAt w qa l→Calls Tryz.prog 31 #[.agg #[.string c.ware,.int .i64 c.limit,.int .i64 c.by_,.slice pa c.parts.length pc],.slice qa l.length qc] w fun e w'=>∃sa sc,e = .returned (.tuple #[.agg #[.int .i64 0,.int .i64 1],.agg #[.slice sa 1 sc,.int .i64 5],.bool true,.int .i64 0])∧Ints w' sa [1]∧Below w.heap.size w w'))
 (HWO:Hid (∀(w:World) (pa:Option Addr) (pc:Nat) (qa:Option Addr) (qc:Nat),PartsAt w pa c.parts→PrbsAt w qa l→Calls Tryz.prog 57 #[.agg #[.string c.ware,.int .i64 c.limit,.int .i64 c.by_,.slice pa c.parts.length pc],.slice qa l.length qc,.int .i64 0,.int .i64 1,.int .i64 0] w fun e w'=>e = .returned (.tuple #[.int .i64 1,.int .i64 2,.int .i64 0])∧Below w.heap.size w w'))
 (HAF:Hid (∀(w:World) (pa:Option Addr) (pc:Nat) (qa:Option Addr) (qc:Nat),PartsAt w pa c.parts→PrbsAt w qa l→∀(sa:Option Addr) (sc:Nat) (fa:Option Addr) (fc:Nat),Ints w sa [1]→Ints w fa [1]→Calls Tryz.prog 16 #[.agg #[.string c.ware,.int .i64 c.limit,.int .i64 c.by_,.slice pa c.parts.length pc],.slice qa l.length qc,.slice sa 1 sc,.slice fa 1 fc] w fun e w'=>∃u1 u2 u3 b o m k,e = .returned (.tuple #[.agg #[.string u1,.int .i64 u2,.int .i64 u3,.slice (some ⟨b,o,none⟩) m k],.bool true,.int .i64 0])∧1<m∧w'.cell? ⟨b,o+8+1,none⟩=some (.int .i64 23)∧w'.cell? ⟨b,o+8+1+1,none⟩=some (.int .i64 30)∧w'.cell? ⟨b,o+8+1+2,none⟩=some (.int .i64 32)∧w'.cell? ⟨b,o+8+1+3,none⟩=some (.int .i64 4)∧Below w.heap.size w w'))
 (HSE:Hid (∀(w:World) (pa:Option Addr) (pc:Nat) (qa:Option Addr) (qc:Nat),PartsAt w pa c.parts→PrbsAt w qa l→∀(sa:Option Addr) (sc:Nat) (fa:Option Addr) (fc:Nat),Ints w sa [1]→Ints w fa [0]→Calls Tryz.prog 20 #[.agg #[.string c.ware,.int .i64 c.limit,.int .i64 c.by_,.slice pa c.parts.length pc],.slice qa l.length qc,.slice sa 1 sc,.slice fa 1 fc] w fun e w'=>∃a k,e = .returned (.tuple #[.slice a 2 k,.int .i64 0])∧Row w' a (pairCells [(0,1),(1,2)])∧Below w.heap.size w w'))
 (HCA:Hid (∀(w:World) (pa:Option Addr) (pc:Nat) (qa:Option Addr) (qc:Nat),PartsAt w pa c.parts→PrbsAt w qa l→∀(sa:Option Addr) (sc:Nat) (fa:Option Addr) (fc:Nat),Ints w sa [0,1]→Ints w fa [1,0]→Calls Tryz.prog 18 #[.agg #[.string c.ware,.int .i64 c.limit,.int .i64 c.by_,.slice pa c.parts.length pc],.slice qa l.length qc,.slice sa 2 sc,.slice fa 2 fc] w fun e w'=>e = .returned (.tuple #[.bool false,.int .i64 0])∧Below w.heap.size w w'))
 (HCV:Hid (∀(w:World) (pa:Option Addr) (pc:Nat) (qa:Option Addr) (qc:Nat),PartsAt w pa c.parts→PrbsAt w qa l→∀(sa:Option Addr) (sc:Nat) (va:Option Addr) (vc:Nat),Ints w sa [1]→VersAt w va bellVs→2≤vc→Calls Tryz.prog 39 #[.agg #[.string c.ware,.int .i64 c.limit,.int .i64 c.by_,.slice pa c.parts.length pc],.slice qa l.length qc,.int .i64 0,.int .i64 1,.slice sa 1 sc,.slice va 2 vc] w fun e w'=>e = .returned (.tuple #[.bool true,.int .i64 0])∧Below w.heap.size w w'))
 (HCD:Hid (∀(w:World) (pa:Option Addr) (pc:Nat) (qa:Option Addr) (qc:Nat),PartsAt w pa c.parts→PrbsAt w qa l→∀(a1:Option Addr) (k1:Nat) (a2:Option Addr) (k2:Nat) (a3:Option Addr) (k3:Nat) (a4:Option Addr) (k4:Nat),Ints w a1 [0,2]→Ints w a2 [0,0]→Ints w a3 [0,0,1]→Ints w a4 [0,1,1]→Calls Tryz.prog 43 #[.agg #[.string c.ware,.int .i64 c.limit,.int .i64 c.by_,.slice pa c.parts.length pc],.slice qa l.length qc,.int .i64 0,.int .i64 1,.agg #[.slice a1 2 k1,.slice a2 2 k2,.slice a3 3 k3,.slice a4 3 k4]] w fun e w'=>e = .returned (.tuple #[.bool true,.int .i64 0])∧Below w.heap.size w w'))
 (HSP:Hid (∀(w:World) (ra:Option Addr) (rc:Nat) (sa:Option Addr) (sc:Nat),Ints w ra [1]→Ints w sa [1]→Calls Tryz.prog 27 #[.agg #[.slice ra 1 rc,.int .i64 5],.agg #[.slice sa 1 sc,.int .i64 5]] w fun e w'=>e = .returned (.bool true)∧Below w.heap.size w w')) (w:World):
 Calls Tryz.prog 15 #[] w fun e w'=>e = .returned (.bool true)∧Below w.heap.size w w':=by
 have heq1:=eq_pair9
 have heq2:=eq_span9
 go_enter Tryz.func15,Tryz.ntmps15
 go_wp2_with fail
 (with_reducible refine(HBE.out _).mono ?_)
 rintro e w1 ⟨pa,pc,rfl,hp,hb⟩
 have P:=zh hp
 clear hp
 have B:=zh hb
 clear hb
 go_upto_region 2 with fail
 have hb:Below w1.heap.size w1 (w1.alloc (.cells #[.string c.ware,.int .i64 c.limit,.int .i64 c.by_,.slice pa c.parts.length pc] 24)):=by go_grown
 have x1:Box (w1.alloc (.cells #[.string c.ware,.int .i64 c.limit,.int .i64 c.by_,.slice pa c.parts.length pc] 24)) (w1.heap.size) #[.string c.ware,.int .i64 c.limit,.int .i64 c.by_,.slice pa c.parts.length pc] 24:=Box.new _ _ _
 generalize (w1.alloc (.cells #[.string c.ware,.int .i64 c.limit,.int .i64 c.by_,.slice pa c.parts.length pc] 24))=w2 at *
 have P:=zh (P.out.below hb)
 have B:=zh (B.out.trans (hb.mono B.out.size))
 clear hb
 have X1:=zh x1
 clear x1
 go_wp2_with fail
 (with_reducible refine(HRO.out _).mono ?_)
 rintro e w3 ⟨qa,qc,rfl,hq,hb⟩
 have Q:=zh hq
 clear hq
 have P:=zh (P.out.below hb)
 have X1:=zh (X1.out.below' hb)
 have B:=zh (B.out.trans (hb.mono B.out.size))
 clear hb
 go_upto_region 3 with fail
 have e1:∀i,w3.cell? ⟨w1.heap.size,i,none⟩=(#[.string c.ware,.int .i64 c.limit,.int .i64 c.by_,.slice pa c.parts.length pc]:Array Value)[i]?:=X1.out.cell
 go_wp2_with fail
 (with_reducible refine(HCH.out _ _ _ _ _ P.out Q.out).mono ?_)
 rintro e w4 ⟨ra,rc,rfl,hr,hb⟩
 clear e1
 have R3:=zh hr
 clear hr
 have P:=zh (P.out.below hb)
 have X1:=zh (X1.out.below' hb)
 have Q:=zh (Q.out.below hb)
 have B:=zh (B.out.trans (hb.mono B.out.size))
 clear hb
 go_upto_region 4 with fail
 have hb:Below w4.heap.size w4 (w4.alloc (.cells #[.slice ra 1 rc,.int .i64 5] 42)):=by go_grown
 have x3:Box (w4.alloc (.cells #[.slice ra 1 rc,.int .i64 5] 42)) (w4.heap.size) #[.slice ra 1 rc,.int .i64 5] 42:=Box.new _ _ _
 generalize (w4.alloc (.cells #[.slice ra 1 rc,.int .i64 5] 42))=w5 at *
 have P:=zh (P.out.below hb)
 have X1:=zh (X1.out.below' hb)
 have Q:=zh (Q.out.below hb)
 have R3:=zh (R3.out.below hb)
 have B:=zh (B.out.trans (hb.mono B.out.size))
 clear hb
 have X3:=zh x3
 clear x3
 have e1:∀i,w5.cell? ⟨w1.heap.size,i,none⟩=(#[.string c.ware,.int .i64 c.limit,.int .i64 c.by_,.slice pa c.parts.length pc]:Array Value)[i]?:=X1.out.cell
 go_wp2_with fail
 (with_reducible refine(HPR.out _ _ _ _ _ P.out Q.out).mono ?_)
 rintro e w6 ⟨b6,o6,k6,a6,c6,rfl,hc,hr,hb⟩
 clear e1
 have C6:=zh hc
 have R6:=zh hr
 clear hc hr
 have P:=zh (P.out.below hb)
 have X1:=zh (X1.out.below' hb)
 have Q:=zh (Q.out.below hb)
 have R3:=zh (R3.out.below hb)
 have X3:=zh (X3.out.below' hb)
 have B:=zh (B.out.trans (hb.mono B.out.size))
 clear hb
 go_upto_region 5 with fail
 have e1:∀i,w6.cell? ⟨w1.heap.size,i,none⟩=(#[.string c.ware,.int .i64 c.limit,.int .i64 c.by_,.slice pa c.parts.length pc]:Array Value)[i]?:=X1.out.cell
 go_wp2_with fail
 (with_reducible refine(HBS.out _ _ _ _ _ P.out Q.out).mono ?_)
 rintro e w7 ⟨sa,sc,rfl,hr,hb⟩
 clear e1
 have R9:=zh hr
 clear hr
 have P:=zh (P.out.below hb)
 have X1:=zh (X1.out.below' hb)
 have Q:=zh (Q.out.below hb)
 have R3:=zh (R3.out.below hb)
 have X3:=zh (X3.out.below' hb)
 have C6:=zh (below_cell hb C6.out)
 have R6:=zh (R6.out.below hb)
 have B:=zh (B.out.trans (hb.mono B.out.size))
 clear hb
 go_upto_region 6 with fail
 have hb:Below w7.heap.size w7 ((w7.alloc (.cells #[.int .i64 0,.int .i64 1] 57)).alloc (.cells #[.slice sa 1 sc,.int .i64 5] 42)):=by go_grown
 have x8:Box ((w7.alloc (.cells #[.int .i64 0,.int .i64 1] 57)).alloc (.cells #[.slice sa 1 sc,.int .i64 5] 42)) (w7.heap.size) #[.int .i64 0,.int .i64 1] 57:=(Box.new _ _ _).alloc _
 have x9:Box ((w7.alloc (.cells #[.int .i64 0,.int .i64 1] 57)).alloc (.cells #[.slice sa 1 sc,.int .i64 5] 42)) (w7.heap.size+1) #[.slice sa 1 sc,.int .i64 5] 42:=Box.new' (by simp)
 generalize ((w7.alloc (.cells #[.int .i64 0,.int .i64 1] 57)).alloc (.cells #[.slice sa 1 sc,.int .i64 5] 42))=w8 at *
 have P:=zh (P.out.below hb)
 have X1:=zh (X1.out.below' hb)
 have Q:=zh (Q.out.below hb)
 have R3:=zh (R3.out.below hb)
 have X3:=zh (X3.out.below' hb)
 have C6:=zh (below_cell hb C6.out)
 have R6:=zh (R6.out.below hb)
 have R9:=zh (R9.out.below hb)
 have B:=zh (B.out.trans (hb.mono B.out.size))
 clear hb
 have X8:=zh x8
 clear x8
 have X9:=zh x9
 clear x9
 have e1:∀i,w8.cell? ⟨w1.heap.size,i,none⟩=(#[.string c.ware,.int .i64 c.limit,.int .i64 c.by_,.slice pa c.parts.length pc]:Array Value)[i]?:=X1.out.cell
 go_wp2_with fail
 (with_reducible refine(HWO.out _ _ _ _ _ P.out Q.out).mono ?_)
 rintro e w9 ⟨rfl,hb⟩
 clear e1
 have P:=zh (P.out.below hb)
 have X1:=zh (X1.out.below' hb)
 have Q:=zh (Q.out.below hb)
 have R3:=zh (R3.out.below hb)
 have X3:=zh (X3.out.below' hb)
 have C6:=zh (below_cell hb C6.out)
 have R6:=zh (R6.out.below hb)
 have R9:=zh (R9.out.below hb)
 have X8:=zh (X8.out.below' hb)
 have X9:=zh (X9.out.below' hb)
 have B:=zh (B.out.trans (hb.mono B.out.size))
 clear hb
 go_upto_region 7 with fail
 have e1:∀i,w9.cell? ⟨w1.heap.size,i,none⟩=(#[.string c.ware,.int .i64 c.limit,.int .i64 c.by_,.slice pa c.parts.length pc]:Array Value)[i]?:=X1.out.cell
 have hbq:Below w9.heap.size w9 ((w9.alloc (.cells #[.int .i64 1] 3)).alloc (.cells #[.int .i64 1] 3)):=by go_grown
 go_wp2_with fail
 (with_reducible refine(HAF.out _ _ _ _ _ (P.out.below hbq) (Q.out.below hbq) _ _ _ _ (lit_ints9 (l:=[1]) ((Box.new _ _ _).alloc _)) (lit_ints9 (l:=[1]) (Box.new' (by simp)))).mono ?_)
 rintro e w10 ⟨u1,u2,u3,bd,od,m,kd,rfl,hm,d0,d1,d2,d3,hb⟩
 have hb:=hbq.trans (hb.mono hbq.size)
 clear e1 hbq
 have D0:=zh d0
 have D1:=zh d1
 have D2:=zh d2
 have D3:=zh d3
 clear d0 d1 d2 d3
 have P:=zh (P.out.below hb)
 have X1:=zh (X1.out.below' hb)
 have Q:=zh (Q.out.below hb)
 have R3:=zh (R3.out.below hb)
 have X3:=zh (X3.out.below' hb)
 have C6:=zh (below_cell hb C6.out)
 have R6:=zh (R6.out.below hb)
 have R9:=zh (R9.out.below hb)
 have X8:=zh (X8.out.below' hb)
 have X9:=zh (X9.out.below' hb)
 have B:=zh (B.out.trans (hb.mono B.out.size))
 clear hb
 go_upto_region 8 with fail
 have hb:Below w10.heap.size w10 (w10.alloc (.cells #[.string u1,.int .i64 u2,.int .i64 u3,.slice (some ⟨bd,od,none⟩) m kd] 24)):=by go_grown
 have x15:Box (w10.alloc (.cells #[.string u1,.int .i64 u2,.int .i64 u3,.slice (some ⟨bd,od,none⟩) m kd] 24)) (w10.heap.size) #[.string u1,.int .i64 u2,.int .i64 u3,.slice (some ⟨bd,od,none⟩) m kd] 24:=Box.new _ _ _
 generalize (w10.alloc (.cells #[.string u1,.int .i64 u2,.int .i64 u3,.slice (some ⟨bd,od,none⟩) m kd] 24))=w11 at *
 have P:=zh (P.out.below hb)
 have X1:=zh (X1.out.below' hb)
 have Q:=zh (Q.out.below hb)
 have R3:=zh (R3.out.below hb)
 have X3:=zh (X3.out.below' hb)
 have C6:=zh (below_cell hb C6.out)
 have R6:=zh (R6.out.below hb)
 have R9:=zh (R9.out.below hb)
 have X8:=zh (X8.out.below' hb)
 have X9:=zh (X9.out.below' hb)
 have D0:=zh (below_cell hb D0.out)
 have D1:=zh (below_cell hb D1.out)
 have D2:=zh (below_cell hb D2.out)
 have D3:=zh (below_cell hb D3.out)
 have B:=zh (B.out.trans (hb.mono B.out.size))
 clear hb
 have X15:=zh x15
 clear x15
 have e1:∀i,w11.cell? ⟨w1.heap.size,i,none⟩=(#[.string c.ware,.int .i64 c.limit,.int .i64 c.by_,.slice pa c.parts.length pc]:Array Value)[i]?:=X1.out.cell
 have hbq:Below w11.heap.size w11 ((w11.alloc (.cells #[.int .i64 1] 3)).alloc (.cells #[.int .i64 0] 3)):=by go_grown
 go_wp2_with fail
 (with_reducible refine(HSE.out _ _ _ _ _ (P.out.below hbq) (Q.out.below hbq) _ _ _ _ (lit_ints9 (l:=[1]) ((Box.new _ _ _).alloc _)) (lit_ints9 (l:=[0]) (Box.new' (by simp)))).mono ?_)
 rintro e w12 ⟨a12,k12,rfl,hr,hb⟩
 have hb:=hbq.trans (hb.mono hbq.size)
 clear e1 hbq
 have R12:=zh hr
 clear hr
 have P:=zh (P.out.below hb)
 have X1:=zh (X1.out.below' hb)
 have Q:=zh (Q.out.below hb)
 have R3:=zh (R3.out.below hb)
 have X3:=zh (X3.out.below' hb)
 have C6:=zh (below_cell hb C6.out)
 have R6:=zh (R6.out.below hb)
 have R9:=zh (R9.out.below hb)
 have X8:=zh (X8.out.below' hb)
 have X9:=zh (X9.out.below' hb)
 have D0:=zh (below_cell hb D0.out)
 have D1:=zh (below_cell hb D1.out)
 have D2:=zh (below_cell hb D2.out)
 have D3:=zh (below_cell hb D3.out)
 have X15:=zh (X15.out.below' hb)
 have B:=zh (B.out.trans (hb.mono B.out.size))
 clear hb
 go_upto_region 9 with fail
 have e1:∀i,w12.cell? ⟨w1.heap.size,i,none⟩=(#[.string c.ware,.int .i64 c.limit,.int .i64 c.by_,.slice pa c.parts.length pc]:Array Value)[i]?:=X1.out.cell
 have hbq:Below w12.heap.size w12 ((w12.alloc (.cells #[.int .i64 0,.int .i64 1] 3)).alloc (.cells #[.int .i64 1,.int .i64 0] 3)):=by go_grown
 go_wp2_with fail
 (with_reducible refine(HCA.out _ _ _ _ _ (P.out.below hbq) (Q.out.below hbq) _ _ _ _ (lit_ints9 (l:=[0,1]) ((Box.new _ _ _).alloc _)) (lit_ints9 (l:=[1,0]) (Box.new' (by simp)))).mono ?_)
 rintro e w13 ⟨rfl,hb⟩
 have hb:=hbq.trans (hb.mono hbq.size)
 clear e1 hbq
 have P:=zh (P.out.below hb)
 have X1:=zh (X1.out.below' hb)
 have Q:=zh (Q.out.below hb)
 have R3:=zh (R3.out.below hb)
 have X3:=zh (X3.out.below' hb)
 have C6:=zh (below_cell hb C6.out)
 have R6:=zh (R6.out.below hb)
 have R9:=zh (R9.out.below hb)
 have X8:=zh (X8.out.below' hb)
 have X9:=zh (X9.out.below' hb)
 have D0:=zh (below_cell hb D0.out)
 have D1:=zh (below_cell hb D1.out)
 have D2:=zh (below_cell hb D2.out)
 have D3:=zh (below_cell hb D3.out)
 have X15:=zh (X15.out.below' hb)
 have R12:=zh (R12.out.below hb)
 have B:=zh (B.out.trans (hb.mono B.out.size))
 clear hb
 go_upto_region 10 with fail
 go_upto_region 11 with fail
 have hb:Below w13.heap.size w13 ((((((w13.alloc (.cells #[.int .i64 0] 3)).alloc (.cells #[.int .i64 0,.int .i64 1,.int .i64 2] 3)).alloc (.cells #[.int .u8 4,.int .i64 0,.int .i64 0,.slice (some ⟨w13.heap.size+1,0,none⟩) 3 3] 99)).alloc (.cells #[.int .i64 1] 3)).alloc (.cells #[.int .u8 2,.int .i64 0,.int .i64 1,.slice none 0 0] 99)).alloc (.cells #[.slice (some ⟨w13.heap.size,0,none⟩) 1 1,.int .u8 1,.slice (some ⟨w13.heap.size+1+1,0,none⟩) 1 1,.slice (some ⟨w13.heap.size+1+1+1,0,none⟩) 1 1,.int .u8 2,.slice (some ⟨w13.heap.size+1+1+1+1,0,none⟩) 1 1] 102)):=by go_grown
 have hv:VersAt ((((((w13.alloc (.cells #[.int .i64 0] 3)).alloc (.cells #[.int .i64 0,.int .i64 1,.int .i64 2] 3)).alloc (.cells #[.int .u8 4,.int .i64 0,.int .i64 0,.slice (some ⟨w13.heap.size+1,0,none⟩) 3 3] 99)).alloc (.cells #[.int .i64 1] 3)).alloc (.cells #[.int .u8 2,.int .i64 0,.int .i64 1,.slice none 0 0] 99)).alloc (.cells #[.slice (some ⟨w13.heap.size,0,none⟩) 1 1,.int .u8 1,.slice (some ⟨w13.heap.size+1+1,0,none⟩) 1 1,.slice (some ⟨w13.heap.size+1+1+1,0,none⟩) 1 1,.int .u8 2,.slice (some ⟨w13.heap.size+1+1+1+1,0,none⟩) 1 1] 102)) (some ⟨w13.heap.size+1+1+1+1+1,0,none⟩) bellVs:=vers_lit ((((((Box.new _ _ _).alloc _).alloc _).alloc _).alloc _).alloc _) (((((Box.new' (by simp)).alloc _).alloc _).alloc _).alloc _) ((((Box.new' (by simp)).alloc _).alloc _).alloc _) (((Box.new' (by simp)).alloc _).alloc _) ((Box.new' (by simp)).alloc _) (Box.new' (by simp))
 generalize ((((((w13.alloc (.cells #[.int .i64 0] 3)).alloc (.cells #[.int .i64 0,.int .i64 1,.int .i64 2] 3)).alloc (.cells #[.int .u8 4,.int .i64 0,.int .i64 0,.slice (some ⟨w13.heap.size+1,0,none⟩) 3 3] 99)).alloc (.cells #[.int .i64 1] 3)).alloc (.cells #[.int .u8 2,.int .i64 0,.int .i64 1,.slice none 0 0] 99)).alloc (.cells #[.slice (some ⟨w13.heap.size,0,none⟩) 1 1,.int .u8 1,.slice (some ⟨w13.heap.size+1+1,0,none⟩) 1 1,.slice (some ⟨w13.heap.size+1+1+1,0,none⟩) 1 1,.int .u8 2,.slice (some ⟨w13.heap.size+1+1+1+1,0,none⟩) 1 1] 102))=w14 at *
 generalize w13.heap.size+1+1+1+1+1=gv at *
 have P:=zh (P.out.below hb)
 have X1:=zh (X1.out.below' hb)
 have Q:=zh (Q.out.below hb)
 have R3:=zh (R3.out.below hb)
 have X3:=zh (X3.out.below' hb)
 have C6:=zh (below_cell hb C6.out)
 have R6:=zh (R6.out.below hb)
 have R9:=zh (R9.out.below hb)
 have X8:=zh (X8.out.below' hb)
 have X9:=zh (X9.out.below' hb)
 have D0:=zh (below_cell hb D0.out)
 have D1:=zh (below_cell hb D1.out)
 have D2:=zh (below_cell hb D2.out)
 have D3:=zh (below_cell hb D3.out)
 have X15:=zh (X15.out.below' hb)
 have R12:=zh (R12.out.below hb)
 have B:=zh (B.out.trans (hb.mono B.out.size))
 clear hb
 have V:=zh hv
 clear hv
 have e1:∀i,w14.cell? ⟨w1.heap.size,i,none⟩=(#[.string c.ware,.int .i64 c.limit,.int .i64 c.by_,.slice pa c.parts.length pc]:Array Value)[i]?:=X1.out.cell
 have hbq:Below w14.heap.size w14 (w14.alloc (.cells #[.int .i64 1] 3)):=by go_grown
 go_wp2_with fail
 (with_reducible refine(HCV.out _ _ _ _ _ (P.out.below hbq) (Q.out.below hbq) _ _ _ _ (lit_ints9 (l:=[1]) (Box.new _ _ _)) (V.out.below hbq) (Nat.le_refl _)).mono ?_)
 rintro e w15 ⟨rfl,hb⟩
 have hb:=hbq.trans (hb.mono hbq.size)
 clear e1 hbq
 have P:=zh (P.out.below hb)
 have X1:=zh (X1.out.below' hb)
 have Q:=zh (Q.out.below hb)
 have R3:=zh (R3.out.below hb)
 have X3:=zh (X3.out.below' hb)
 have C6:=zh (below_cell hb C6.out)
 have R6:=zh (R6.out.below hb)
 have R9:=zh (R9.out.below hb)
 have X8:=zh (X8.out.below' hb)
 have X9:=zh (X9.out.below' hb)
 have D0:=zh (below_cell hb D0.out)
 have D1:=zh (below_cell hb D1.out)
 have D2:=zh (below_cell hb D2.out)
 have D3:=zh (below_cell hb D3.out)
 have X15:=zh (X15.out.below' hb)
 have R12:=zh (R12.out.below hb)
 have V:=zh (V.out.below hb)
 have B:=zh (B.out.trans (hb.mono B.out.size))
 clear hb
 go_upto_region 12 with fail
 have e1:∀i,w15.cell? ⟨w1.heap.size,i,none⟩=(#[.string c.ware,.int .i64 c.limit,.int .i64 c.by_,.slice pa c.parts.length pc]:Array Value)[i]?:=X1.out.cell
 have hbq:Below w15.heap.size w15 ((((w15.alloc (.cells #[.int .i64 0,.int .i64 2] 3)).alloc (.cells #[.int .i64 0,.int .i64 0] 3)).alloc (.cells #[.int .i64 0,.int .i64 0,.int .i64 1] 3)).alloc (.cells #[.int .i64 0,.int .i64 1,.int .i64 1] 3)):=by go_grown
 go_wp2_with fail
 (with_reducible refine(HCD.out _ _ _ _ _ (P.out.below hbq) (Q.out.below hbq) _ _ _ _ _ _ _ _ (lit_ints9 (l:=[0,2]) ((((Box.new _ _ _).alloc _).alloc _).alloc _)) (lit_ints9 (l:=[0,0]) (((Box.new' (by simp)).alloc _).alloc _)) (lit_ints9 (l:=[0,0,1]) ((Box.new' (by simp)).alloc _)) (lit_ints9 (l:=[0,1,1]) (Box.new' (by simp)))).mono ?_)
 rintro e w16 ⟨rfl,hb⟩
 have hb:=hbq.trans (hb.mono hbq.size)
 clear e1 hbq
 have P:=zh (P.out.below hb)
 have X1:=zh (X1.out.below' hb)
 have Q:=zh (Q.out.below hb)
 have R3:=zh (R3.out.below hb)
 have X3:=zh (X3.out.below' hb)
 have C6:=zh (below_cell hb C6.out)
 have R6:=zh (R6.out.below hb)
 have R9:=zh (R9.out.below hb)
 have X8:=zh (X8.out.below' hb)
 have X9:=zh (X9.out.below' hb)
 have D0:=zh (below_cell hb D0.out)
 have D1:=zh (below_cell hb D1.out)
 have D2:=zh (below_cell hb D2.out)
 have D3:=zh (below_cell hb D3.out)
 have X15:=zh (X15.out.below' hb)
 have R12:=zh (R12.out.below hb)
 have B:=zh (B.out.trans (hb.mono B.out.size))
 clear hb
 go_upto_region 15 with fail
 clear HBE HRO HCH HPR HBS HWO HAF HSE HCA HCV HCD
 have e3:∀i,w16.cell? ⟨w4.heap.size,i,none⟩=(#[.slice ra 1 rc,.int .i64 5]:Array Value)[i]?:=X3.out.cell
 have hbq:Below w16.heap.size w16 (w16.alloc (.cells #[.int .i64 1] 3)):=by go_grown
 go_wp2_with fail
 (with_reducible refine(HSP.out _ _ _ _ _ (R3.out.below hbq) (lit_ints9 (l:=[1]) (Box.new _ _ _))).mono ?_)
 rintro e w17 ⟨rfl,hb⟩
 have hb:=hbq.trans (hb.mono hbq.size)
 clear e3 hbq
 have R3:=zh (R3.out.below hb)
 have X3:=zh (X3.out.below' hb)
 have C6:=zh (below_cell hb C6.out)
 have R6:=zh (R6.out.below hb)
 have R9:=zh (R9.out.below hb)
 have X8:=zh (X8.out.below' hb)
 have X9:=zh (X9.out.below' hb)
 have D0:=zh (below_cell hb D0.out)
 have D1:=zh (below_cell hb D1.out)
 have D2:=zh (below_cell hb D2.out)
 have D3:=zh (below_cell hb D3.out)
 have X15:=zh (X15.out.below' hb)
 have R12:=zh (R12.out.below hb)
 have B:=zh (B.out.trans (hb.mono B.out.size))
 clear hb
 have c6':=C6.out
 have hbq:Below w17.heap.size w17 (w17.alloc (.cells #[.int .i64 0,.int .i64 2] 3)):=by go_grown
 go_wp2_with fail
 (with_reducible refine(same_two9 (R6.out.below hbq) (lit_ints9 (l:=[0,2]) (Box.new _ _ _))).mono ?_)
 rintro e w18 ⟨rfl,hb⟩
 have hb:=hbq.trans (hb.mono hbq.size)
 clear c6' hbq
 have R3:=zh (R3.out.below hb)
 have X3:=zh (X3.out.below' hb)
 have C6:=zh (below_cell hb C6.out)
 have R6:=zh (R6.out.below hb)
 have R9:=zh (R9.out.below hb)
 have X8:=zh (X8.out.below' hb)
 have X9:=zh (X9.out.below' hb)
 have D0:=zh (below_cell hb D0.out)
 have D1:=zh (below_cell hb D1.out)
 have D2:=zh (below_cell hb D2.out)
 have D3:=zh (below_cell hb D3.out)
 have X15:=zh (X15.out.below' hb)
 have R12:=zh (R12.out.below hb)
 have B:=zh (B.out.trans (hb.mono B.out.size))
 clear hb
 have e3:∀i,w18.cell? ⟨w4.heap.size,i,none⟩=(#[.slice ra 1 rc,.int .i64 5]:Array Value)[i]?:=X3.out.cell
 have e8:∀i,w18.cell? ⟨w7.heap.size,i,none⟩=(#[.int .i64 0,.int .i64 1]:Array Value)[i]?:=X8.out.cell
 have e9:∀i,w18.cell? ⟨w7.heap.size+1,i,none⟩=(#[.slice sa 1 sc,.int .i64 5]:Array Value)[i]?:=X9.out.cell
 go_wp2_with fail
 (with_reducible refine(HSP.out _ _ _ _ _ R9.out R3.out).mono ?_)
 rintro e w19 ⟨rfl,hb⟩
 clear e3 e8 e9
 have R3:=zh (R3.out.below hb)
 have X3:=zh (X3.out.below' hb)
 have C6:=zh (below_cell hb C6.out)
 have R6:=zh (R6.out.below hb)
 have R9:=zh (R9.out.below hb)
 have X8:=zh (X8.out.below' hb)
 have X9:=zh (X9.out.below' hb)
 have D0:=zh (below_cell hb D0.out)
 have D1:=zh (below_cell hb D1.out)
 have D2:=zh (below_cell hb D2.out)
 have D3:=zh (below_cell hb D3.out)
 have X15:=zh (X15.out.below' hb)
 have R12:=zh (R12.out.below hb)
 have B:=zh (B.out.trans (hb.mono B.out.size))
 clear hb
 have e15:∀i,w19.cell? ⟨w10.heap.size,i,none⟩=(#[.string u1,.int .i64 u2,.int .i64 u3,.slice (some ⟨bd,od,none⟩) m kd]:Array Value)[i]?:=X15.out.cell
 have d0':=D0.out
 have d1':=D1.out
 have d2':=D2.out
 have d3':=D3.out
 have hm1:(1:Int)<(m:Int):=by omega
 have hbq:Below w19.heap.size w19 (w19.alloc (.cells #[.int .i64 0,.int .i64 1,.int .i64 1,.int .i64 2] 57)):=by go_grown
 go_wp2_with fail
 (with_reducible refine(pairs_two9 (R12.out.below hbq) (lit_row9 (Box.new _ _ _))).mono ?_)
 rintro e w20 ⟨rfl,hb⟩
 have hb:=hbq.trans (hb.mono hbq.size)
 have R3:=zh (R3.out.below hb)
 have X3:=zh (X3.out.below' hb)
 have C6:=zh (below_cell hb C6.out)
 have R6:=zh (R6.out.below hb)
 have R9:=zh (R9.out.below hb)
 have X8:=zh (X8.out.below' hb)
 have X9:=zh (X9.out.below' hb)
 have D0:=zh (below_cell hb D0.out)
 have D1:=zh (below_cell hb D1.out)
 have D2:=zh (below_cell hb D2.out)
 have D3:=zh (below_cell hb D3.out)
 have X15:=zh (X15.out.below' hb)
 have R12:=zh (R12.out.below hb)
 have B:=zh (B.out.trans (hb.mono B.out.size))
 clear hb
 go_wp2_with fail
 go_ret
 exact⟨rfl,B.out⟩
theorem sounds_any (w:World):Calls Tryz.prog 15 #[] w fun e w'=>e = .returned (.bool true)∧Below w.heap.size w w':=
 sounds_walk bellC rodsL (zh fun w=>bell_any w) (zh fun w=>rods_any w) (zh fun _ _ _ _ _ hp hq=>s_cheap hp hq) (zh fun _ _ _ _ _ hp hq=>s_proof hp hq) (zh fun _ _ _ _ _ hp hq=>s_best hp hq) (zh fun _ _ _ _ _ hp hq=>s_worth hp hq)
  (zh fun _ _ _ _ _ hp hq _ _ _ _ hs hf=>s_after hp hq hs hf) (zh fun _ _ _ _ _ hp hq _ _ _ _ hs hf=>s_settled hp hq hs hf) (zh fun _ _ _ _ _ hp hq _ _ _ _ hs hf=>s_can hp hq hs hf) (zh fun _ _ _ _ _ hp hq _ _ _ _ hs hv hc=>s_vers hp hq hs hv hc)
  (zh fun _ _ _ _ _ hp hq _ _ _ _ _ _ _ _ h1 h2 h3 h4=>s_doubt hp hq h1 h2 h3 h4) (zh fun _ _ _ _ _ h1 h2=>s_plan h1 h2) w
end Go.Proofs.YtjgldeeianionaaGreat
namespace Go.Proofs.YtjgldeeianionaaGreat
open Go.RowKit
section
variable {c:Cs}{l:List Prb}{w:World}{pa:Option Addr}{pc:Nat}{qa:Option Addr}{qc:Nat}
theorem XPost.int {xe n:Int}{w w':World}{e:Ending}(h:XPost xe (.int .i64 0) (IntOut n) w e w'):e = .returned (.tuple #[.int .i64 (if xe=0 then n else 0),.int .i64 xe])∧Below w.heap.size w w':=by
 obtain⟨hb,v,er,rfl,(⟨h1,rfl,rfl⟩|⟨rfl,rfl,rfl⟩)⟩:=h
 ·rw[if_neg h1];exact⟨rfl,hb⟩
 ·exact⟨rfl,hb⟩
theorem decides_tup (hsm:c.Small)(a b:Int)(sa:Option Addr)(S:List Int)(sc:Nat)(hSl:S.length≤1000)(hp:PartsAt w pa c.parts)(hq:PrbsAt w qa l)(hS:Ints w sa S):
 Calls Tryz.prog 33 #[.agg #[.string c.ware,.int .i64 c.limit,.int .i64 c.by_,.slice pa c.parts.length pc],.slice qa l.length qc,.int .i64 a,.int .i64 b,.slice sa S.length sc] w fun e w'=>
  e = .returned (.tuple #[.bool (xErr c l (twoB c.parts.length a b&&setB l.length S)==0&&decidesB c l a.toNat b.toNat (nats S)),.int .i64 (xErr c l (twoB c.parts.length a b&&setB l.length S))])∧Below w.heap.size w w':=
 (decidesX_any c hsm pa pc l qa qc a b sa S sc w hp hq hSl hS).mono fun e w' h=>⟨h.bool.2,h.bool.1⟩
theorem decides_nil_tup (hsm:c.Small)(a b:Int)(hp:PartsAt w pa c.parts)(hq:PrbsAt w qa l):
 Calls Tryz.prog 33 #[.agg #[.string c.ware,.int .i64 c.limit,.int .i64 c.by_,.slice pa c.parts.length pc],.slice qa l.length qc,.int .i64 a,.int .i64 b,.slice none 0 0] w fun e w'=>
  e = .returned (.tuple #[.bool (xErr c l (twoB c.parts.length a b)==0&&decidesB c l a.toNat b.toNat []),.int .i64 (xErr c l (twoB c.parts.length a b))])∧Below w.heap.size w w':=by
 have h:=decides_tup (w:=w) (pc:=pc) (qc:=qc) hsm a b none [] 0 (by simp) hp hq (Ints.nil _ _)
 rw[setB_nil,Bool.and_true] at h
 exact h
theorem can_tup (hsm:c.Small)(sa:Option Addr)(S:List Int)(sc:Nat)(fa:Option Addr)(F:List Int)(fc:Nat)(hSl:S.length≤1000)(hFl:F.length≤1000)(hp:PartsAt w pa c.parts)(hq:PrbsAt w qa l)(hS:Ints w sa S)(hF:Ints w fa F):
 Calls Tryz.prog 18 #[.agg #[.string c.ware,.int .i64 c.limit,.int .i64 c.by_,.slice pa c.parts.length pc],.slice qa l.length qc,.slice sa S.length sc,.slice fa F.length fc] w fun e w'=>
  e = .returned (.tuple #[.bool (xErr c l (foundB c l S F)==0&&(canC c l (nats S) (nats F)).isSome),.int .i64 (xErr c l (foundB c l S F))])∧Below w.heap.size w w':=
 (canX_any c hsm pa pc l qa qc sa S sc fa F fc hSl hFl w hp hq hS hF).mono fun e w' h=>⟨h.2,h.1⟩
theorem cost_tup (hsm:c.Small)(sa:Option Addr)(S:List Int)(sc:Nat)(hSl:S.length≤1000)(hp:PartsAt w pa c.parts)(hq:PrbsAt w qa l)(hS:Ints w sa S):
 Calls Tryz.prog 45 #[.agg #[.string c.ware,.int .i64 c.limit,.int .i64 c.by_,.slice pa c.parts.length pc],.slice qa l.length qc,.slice sa S.length sc] w fun e w'=>
  e = .returned (.tuple #[.int .i64 (if xErr c l (setB l.length S)=0 then costOf l (nats S) else 0),.int .i64 (xErr c l (setB l.length S))])∧Below w.heap.size w w':=
 (costX_any c hsm pa pc l qa qc sa S sc w hp hq hSl hS).mono fun e w' h=>h.int
theorem answer_tup (hsm:c.Small)(a b:Int)(hp:PartsAt w pa c.parts):
 Calls Tryz.prog 34 #[.agg #[.string c.ware,.int .i64 c.limit,.int .i64 c.by_,.slice pa c.parts.length pc],.int .i64 a,.int .i64 b] w fun e w'=>
  e = .returned (.tuple #[.int .u8 (if askErr c [a,b]=0 then ansAt c a.toNat b.toNat else 0),.int .i64 (askErr c [a,b])])∧Below w.heap.size w w':=
 (answerTop_any c hsm pa pc a b w hp).mono fun e w' h=>⟨h.2,h.1⟩
def PlanIs (l:List Prb)(o:Option (List Nat))(ra:Option Addr)(n:Nat)(k:Int)(bb:Bool)(W:World):Prop:=(o=none∧bb=false∧n=0∧k=0)∨∃x,o=some x∧bb=true∧n=x.length∧k=costOf l x∧Ints W ra (natInts x)
theorem PlanIs.below {o:Option (List Nat)}{ra:Option Addr}{n:Nat}{k:Int}{bb:Bool}{W W':World}(h:PlanIs l o ra n k bb W)(hb:Below W.heap.size W W'):PlanIs l o ra n k bb W':=by
 rcases h with h|⟨x,h1,h2,h3,h4,h5⟩
 ·exact .inl h
 ·exact .inr ⟨x,h1,h2,h3,h4,h5.below hb⟩
theorem PlanIs.no {ra:Option Addr}{n:Nat}{k:Int}{bb:Bool}{W:World}(h:PlanIs l none ra n k bb W):bb=false∧n=0∧k=0:=by
 rcases h with ⟨_,h⟩|⟨x,h,_⟩
 ·exact h
 ·cases h
theorem PlanIs.yes {ra:Option Addr}{n:Nat}{k:Int}{bb:Bool}{W:World}{x:List Nat}(h:PlanIs l (some x) ra n k bb W):bb=true∧n=x.length∧k=costOf l x∧Ints W ra (natInts x):=by
 rcases h with ⟨h,_⟩|⟨y,h,h1⟩
 ·cases h
 ·cases h;exact h1
theorem cheapest_tup (hsm:c.Small)(a b:Int)(hp:PartsAt w pa c.parts)(hq:PrbsAt w qa l):
 Calls Tryz.prog 24 #[.agg #[.string c.ware,.int .i64 c.limit,.int .i64 c.by_,.slice pa c.parts.length pc],.slice qa l.length qc,.int .i64 a,.int .i64 b] w fun e w'=>
  ∃ra n rc k bb,e = .returned (.tuple #[.agg #[.slice ra n rc,.int .i64 k],.bool bb,.int .i64 (xErr c l (twoB c.parts.length a b))])∧PlanIs l (if xErr c l (twoB c.parts.length a b)=0 then cheapestOf c l a.toNat b.toNat else none) ra n k bb w'∧Below w.heap.size w w':=
 (cheapestX_any c hsm pa pc l qa qc a b w hp hq).mono fun e w' ⟨hb,cs,bb,h1,h2⟩=>by
  rcases h2 with ⟨h2,rfl,rfl⟩|⟨x,ra,rc,h2,rfl,rfl,h3,h4⟩
  ·exact⟨none,0,0,0,false,h1,.inl ⟨h2,rfl,rfl,rfl⟩,hb⟩
  ·exact⟨ra,x.length,rc,costOf l x,true,h1,.inr ⟨x,h2,rfl,rfl,rfl,h3.at_⟩,hb⟩
def BestIs (c:Cs)(l:List Prb)(x y:Nat)(ra:Option Addr)(n:Nat)(k:Int)(bb:Bool)(W:World):Prop:=
 ((xErr c l true≠0∨bestOf c l=none)∧x=0∧y=0∧bb=false∧n=0∧k=0)∨∃t,xErr c l true=0∧bestOf c l=some ((x,y),t)∧bb=true∧n=t.length∧k=costOf l t∧Ints W ra (natInts t)
theorem BestIs.below {x y:Nat}{ra:Option Addr}{n:Nat}{k:Int}{bb:Bool}{W W':World}(h:BestIs c l x y ra n k bb W)(hb:Below W.heap.size W W'):BestIs c l x y ra n k bb W':=by
 rcases h with h|⟨x,h0,h1,h2,h3,h4,h5⟩
 ·exact .inl h
 ·exact .inr ⟨x,h0,h1,h2,h3,h4,h5.below hb⟩
theorem best_tup (hsm:c.Small)(hp:PartsAt w pa c.parts)(hq:PrbsAt w qa l):
 Calls Tryz.prog 31 #[.agg #[.string c.ware,.int .i64 c.limit,.int .i64 c.by_,.slice pa c.parts.length pc],.slice qa l.length qc] w fun e w'=>
  ∃(x y:Nat) (ra:Option Addr) (n rc:Nat) (k:Int) (bb:Bool),e = .returned (.tuple #[.agg #[.int .i64 x,.int .i64 y],.agg #[.slice ra n rc,.int .i64 k],.bool bb,.int .i64 (xErr c l true)]) ∧
   BestIs c l x y ra n k bb w'∧Below w.heap.size w w':=
 (bestX_any c hsm pa pc l qa qc w hp hq).mono fun e w' ⟨hb,h⟩=>by
  rcases h with ⟨h1,rfl⟩|⟨z,h0,h1,h2,rfl⟩
  ·exact⟨0,0,none,0,0,0,false,rfl,.inl ⟨h1,rfl,rfl,rfl,rfl,rfl⟩,hb⟩
  ·refine⟨z.p1,z.p2,z.sa,z.s.length,z.sc,z.n,true,by rw[h0],.inr ⟨z.s,h0,h1,rfl,rfl,h2.n,h2.at_⟩,hb⟩
end
theorem plans_same {s:List Nat}{k:Int}{w:World}{ra sa:Option Addr}{rc sc:Nat}(h1:Ints w ra (natInts s))(h2:Ints w sa (natInts s))(hl:s.length≤1000000):Calls Tryz.prog 27 #[.agg #[.slice ra s.length rc,.int .i64 k],.agg #[.slice sa s.length sc,.int .i64 k]] w fun e w'=>e = .returned (.bool true)∧Below w.heap.size w w':=by
 have h:=samePlanR9_any ra sa rc sc (natInts s) (natInts s) k k w h1 h2 (by rw[nat_len];exact hl) (by rw[nat_len];exact hl)
 rw[nat_len] at h
 exact h.mono (by rintro e w' ⟨rfl,h⟩;exact⟨by simp,h⟩)
theorem two_ne {n x y:Nat}(h:twoB n (x:Int) (y:Int)=true):x≠y:=by
 simp only[twoB,Bool.and_eq_true,bne_iff_ne] at h
 intro e
 exact h.2 (by rw[e])
theorem two_of {n x y:Nat}(hx:x<n)(hy:y<n)(h:x≠y):twoB n (x:Int) (y:Int)=true:=by
 simp only[twoB,inB,Bool.and_eq_true,bne_iff_ne,decide_eq_true_eq]
 omega
theorem short_two {a:Option Addr}{cap:Nat}{w:World}{sa fa:Option Addr}{n m sc fc:Nat}(h:Row w a [.slice sa n sc,.slice fa m fc])(hn:n≤maxLen)(hm:m≤maxLen):
 Calls Tryz.prog 14 #[.slice a 2 cap] w fun e w'=>e = .returned (.bool (decide (n≤20)&&decide (m≤20)))∧Below w.heap.size w w':=
 (short9_any a [(sa,n,sc),(fa,m,fc)] cap (by simp) (by simp;exact⟨hn,hm⟩) w h).mono (by rintro e w' ⟨rfl,rfl⟩;exact⟨by simp[shortB],Below.refl _ _⟩)
theorem short_one {a:Option Addr}{cap:Nat}{w:World}{sa:Option Addr}{n sc:Nat}(h:Row w a [.slice sa n sc])(hn:n≤maxLen):
 Calls Tryz.prog 14 #[.slice a 1 cap] w fun e w'=>e = .returned (.bool (decide (n≤20)))∧Below w.heap.size w w':=
 (short9_any a [(sa,n,sc)] cap (by simp) (by simp;exact hn) w h).mono (by rintro e w' ⟨rfl,rfl⟩;exact⟨by simp[shortB],Below.refl _ _⟩)
theorem after_tup {c d:Cs}{l:List Prb}{w:World}{pa:Option Addr}{pc:Nat}{qa:Option Addr}{qc:Nat}(hsm:c.Small)(sa:Option Addr)(S:List Int)(sc:Nat)(fa:Option Addr)(F:List Int)(fc:Nat)(hSl:S.length≤1000)(hFl:F.length≤1000)(hx:xErr c l (foundB c l S F)=0)(hd:afterC c l (nats S) (nats F)=some d)(hp:PartsAt w pa c.parts)(hq:PrbsAt w qa l)(hS:Ints w sa S)(hF:Ints w fa F):
 Calls Tryz.prog 16 #[.agg #[.string c.ware,.int .i64 c.limit,.int .i64 c.by_,.slice pa c.parts.length pc],.slice qa l.length qc,.slice sa S.length sc,.slice fa F.length fc] w fun e w'=>
  ∃ba bc,e = .returned (.tuple #[.agg #[.string d.ware,.int .i64 d.limit,.int .i64 d.by_,.slice ba d.parts.length bc],.bool true,.int .i64 0])∧PartsAt w' ba d.parts∧Below w.heap.size w w':=
 (afterX_any c hsm pa pc l qa qc sa S sc fa F fc hSl hFl w hp hq hS hF).mono (by
  rintro e w' ⟨hb,cs,bb,rfl,h⟩
  rw[hx,hd,if_pos rfl] at h
  rw[hx]
  rcases h with ⟨h,_⟩|⟨d',ba,k,h1,rfl,rfl,h2⟩
  ·cases h
  ·cases h1
   exact⟨ba,k,rfl,h2.at_,hb⟩)
theorem box_case9 (w:World)(c:Cs)(pa:Option Addr)(pc:Nat):∃w1,w.alloc (.cells #[.string c.ware,.int .i64 c.limit,.int .i64 c.by_,.slice pa c.parts.length pc] 24)=w1∧Below w.heap.size w w1∧Box w1 w.heap.size (csCells c pa pc) 24:=
 ⟨_,rfl,by go_grown,Box.new _ _ _⟩
theorem xErr_zero {c:Cs}{l:List Prb}{ok:Bool}(h:xErr c l ok=0):probesErr c l=0∧ok=true∧(allR c).isEmpty=false:=by
 unfold xErr at h
 by_cases h1:probesErr c l=0
 ·rw[if_neg (by simp[h1])] at h
  cases ok
  ·simp at h
  ·refine⟨h1,rfl,?_⟩
   cases hL:(allR c).isEmpty
   ·rfl
   ·rw[hL] at h;simp at h
 ·rw[if_pos h1] at h
  exact absurd h h1
end Go.Proofs.YtjgldeeianionaaGreat
