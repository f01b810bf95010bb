/- Walks and plain laws. No condition. -/
import Derived.Test.YtjgldeeianionaaGreatV31
import Derived.Test.YtjgldeeianionaaGreatV32
set_option maxHeartbeats 4000000
set_option maxRecDepth 100000
set_option linter.unusedSimpArgs false
set_option linter.unusedVariables false
namespace Go.Proofs.YtjgldeeianionaaGreat
open Go.RowKit
section
attribute [local go_sem] Oper.semAt_some
def PlanCells (l:List Prb)(o:Option (List Nat))(B M:Nat)(W:World)(cs:Array Value)(b:Bool):Prop:=
 (o=none∧b=false∧cs = #[.slice none 0 0,.int .i64 0])∨∃x ra rc,o=some x∧b=true∧cs = #[.slice ra x.length rc,.int .i64 (costOf l x)]∧IntsHi B M W ra (natInts x)∧x.length≤rc
theorem PlanCells.keep {l:List Prb}{o:Option (List Nat)}{B M:Nat}{W W':World}{cs:Array Value}{b:Bool}(h:PlanCells l o B M W cs b)(hk:Keep (fun k=>B≤k∧k<M) W W'):PlanCells l o B M W' cs b:=by
 rcases h with h|⟨x,ra,rc,h1,h2,h3,h4,h5⟩
 ·exact .inl h
 ·exact .inr ⟨x,ra,rc,h1,h2,h3,h4.keep hk,h5⟩
theorem PlanCells.mono {l:List Prb}{o:Option (List Nat)}{B B' M M':Nat}{W:World}{cs:Array Value}{b:Bool}(h:PlanCells l o B M W cs b)(hB:B'≤B)(hM:M≤M'):PlanCells l o B' M' W cs b:=by
 rcases h with h|⟨x,ra,rc,h1,h2,h3,h4,h5⟩
 ·exact .inl h
 ·exact .inr ⟨x,ra,rc,h1,h2,h3,h4.mono hB hM,h5⟩
theorem PlanCells.two {l:List Prb}{o:Option (List Nat)}{B M:Nat}{W:World}{cs:Array Value}{b:Bool}(h:PlanCells l o B M W cs b):∃u1 u2 u3 u4,cs = #[.slice u1 u2 u3,.int .i64 u4]:=by
 rcases h with ⟨_,_,rfl⟩|⟨x,ra,rc,_,_,rfl,_⟩<;>exact⟨_,_,_,_,rfl⟩
theorem two_nats {n:Nat}{a b:Int}(h:twoB n a b=true):∃x y:Nat,a=x∧b=y∧x<n∧y<n:=by
 simp only[twoB,inB,Bool.and_eq_true,decide_eq_true_eq] at h;exact⟨a.toNat,b.toNat,zO,zO,zO,zO⟩
section
variable {t:Nat}{c:Cs}{pa:Option Addr}{pc:Nat}{l:List Prb}{qa:Option Addr}{qc:Nat}
theorem cheapest2_any (hsm:c.Small)(hpr:probesErr c l=0)(g1 g2 g3:Nat)(hg:g3+2≤t)(a b:Nat)(ha:a<c.parts.length)(hb:b<c.parts.length)(w:World)(h:LabAt w t c pa pc l qa qc)
 (h1:Box w g1 #[.int .i64 a] 3) (h2:Box w g2 #[.int .i64 b] 3) (h3:Box w g3 #[.slice none 0 0,.int .i64 0] 42) (h4:Box w (g3+1) #[.bool false] 4):
 Calls Tryz.prog 80 #[.pointer (some ⟨t,0,none⟩),.pointer (some ⟨g1,0,none⟩),.pointer (some ⟨g2,0,none⟩),.pointer (some ⟨g3,0,none⟩),.pointer (some ⟨g3+1,0,none⟩)] w fun e w'=>e = .returned (.int .i64 0)∧Keep (fun k=>k≠g3∧k≠g3+1) w w'∧∃cs b',Box w' g3 cs 42∧Box w' (g3+1) #[.bool b'] 4∧PlanCells l (cheapestOf c l a b) t w'.heap.size w' cs b':=by
 have htl:t<w.heap.size:=h.box.lt;have HC:=zh (cheapest_any hsm hpr a b ha hb w h);have e1:=h1.cell;have e2:=h2.cell;have H3:=zh h3;have H4:=zh h4;clear hpr h h1 h2 h3 h4
 go_enter Tryz.func80,Tryz.ntmps80
 go_wp2_with fail
 refine zM HC ?_;rintro e w2 ⟨hb2,(⟨ho,rfl⟩|⟨x,ra,rc,ho,rfl,hi,hrc⟩)⟩
 ·have HX:=zh (H3.out.below' hb2);have HY:=zh (H4.out.below' hb2);have HB:=zh hb2;have HO:=zh ho;obtain⟨z1,z2⟩:=HX.out.rules;obtain⟨y1,y2⟩:=HY.out.rules;clear hb2 ho e1 e2
  go_wp2_with fail
  go_ret
  refine⟨rfl,?_,_,_,((HX.out.set_ 0 _).set_ 1 _).far zS _,((HY.out.far zS _).far zS _).set_ 0 _,.inl ⟨HO.out,rfl,rfl⟩⟩;exact(((Keep.of_below' HB.out).setCell (.inl zS) _).setCell (.inl zS) _).setCell (.inl zS) _
 ·have HX:=zh (H3.out.below' hb2);have HY:=zh (H4.out.below' hb2);have HB:=zh hb2;have HO:=zh ho;have HI:=zh (hi.mono (Nat.le_of_lt htl) (Nat.le_refl _));obtain⟨z1,z2⟩:=HX.out.rules;obtain⟨y1,y2⟩:=HY.out.rules;clear hb2 ho hi e1 e2
  go_wp2_with fail
  go_ret
  refine⟨rfl,?_,_,_,((HX.out.set_ 0 _).set_ 1 _).far zS _,((HY.out.far zS _).far zS _).set_ 0 _,.inr ⟨x,ra,rc,HO.out,rfl,rfl,?_,hrc⟩⟩
  ·exact(((Keep.of_below' HB.out).setCell (.inl zS) _).setCell (.inl zS) _).setCell (.inl zS) _
  ·exact(HI.out.keep ((((Keep.refl _ w2).setCell (.inl zT) _).setCell (.inl zT) _).setCell (.inl zT) _)).mono (Nat.le_refl _) zS
end
def PlanX (l:List Prb)(o:Option (List Nat))(er:Int)(w:World)(e:Ending)(w':World):Prop:=
 Below w.heap.size w w'∧∃cs bb,e = .returned (.tuple #[.agg cs,.bool bb,.int .i64 er])∧PlanCells l (if er=0 then o else none) w.heap.size w'.heap.size w' cs bb
theorem cheapestX_any (c:Cs)(hsm:c.Small)(pa:Option Addr)(pc:Nat)(l:List Prb)(qa:Option Addr)(qc:Nat)(a b:Int)(w:World)(hp:PartsAt w pa c.parts)(hq:PrbsAt w qa l):
 Calls Tryz.prog 24 #[.agg #[.string c.ware,.int .i64 c.limit,.int .i64 c.by_,.slice pa c.parts.length pc],.slice qa l.length qc,.int .i64 a,.int .i64 b] w (PlanX l (cheapestOf c l a.toNat b.toNat) (xErr c l (twoB c.parts.length a b)) w):=by
 have hmf:=run_mf Tryz.prog;obtain⟨w4,hw4⟩:=zx ((((((w.alloc (.cells #[.string c.ware,.int .i64 c.limit,.int .i64 c.by_,.slice pa c.parts.length pc] 24)).alloc (.cells #[.int .i64 a] 3)).alloc (.cells #[.int .i64 b] 3)).alloc (.cells #[.slice none 0 0,.int .i64 0] 42)).alloc (.cells #[.slice none 0 0,.int .i64 0] 42)).alloc (.cells #[.bool false] 4));have hB4:Below w.heap.size w w4:=by rw[←hw4];go_grown
 have hs4:w4.heap.size=w.heap.size+6:=by rw[←hw4];simp
 have b0:Box w4 w.heap.size (csCells c pa pc) 24:=by rw[←hw4];exact(((((Box.new _ _ _).alloc _).alloc _).alloc _).alloc _).alloc _
 have b1:Box w4 (w.heap.size+1) #[.int .i64 a] 3:=by rw[←hw4];exact((((Box.new' zS).alloc _).alloc _).alloc _).alloc _
 have b2:Box w4 (w.heap.size+2) #[.int .i64 b] 3:=by rw[←hw4];exact(((Box.new' zS).alloc _).alloc _).alloc _
 have b3:Box w4 (w.heap.size+3) #[.slice none 0 0,.int .i64 0] 42:=by rw[←hw4];exact((Box.new' zS).alloc _).alloc _
 have b4:Box w4 (w.heap.size+4) #[.slice none 0 0,.int .i64 0] 42:=by rw[←hw4];exact(Box.new' zS).alloc _
 have b5:Box w4 (w.heap.size+5) #[.bool false] 4:=by rw[←hw4];exact Box.new' zS
 have hask:=asked9_any c hsm pa pc l qa qc 78 #[.pointer (some ⟨w.heap.size+1,0,none⟩),.pointer (some ⟨w.heap.size+2,0,none⟩)] 80 #[.pointer (some ⟨w.heap.size+1,0,none⟩),.pointer (some ⟨w.heap.size+2,0,none⟩),.pointer (some ⟨w.heap.size+4,0,none⟩),.pointer (some ⟨w.heap.size+5,0,none⟩)] (twoB c.parts.length a b)
  (fun er W'=>er=0∧Below w.heap.size w W'∧Box W' (w.heap.size+3) #[.slice none 0 0,.int .i64 0] 42∧∃cs bb,Box W' (w.heap.size+4) cs 42∧Box W' (w.heap.size+5) #[.bool bb] 4∧PlanCells l (cheapestOf c l a.toNat b.toNat) (w.heap.size+6) W'.heap.size W' cs bb) w4 (hp.below hB4) (hq.below hB4)
  (fun hpr=>⟨fun args W=>by simp[go_sem],fun W t hW ht hlab=>cheapest1_arg hsm _ _ a b W hlab (b1.below' hW) (b2.below' hW)⟩)
  (fun hpr hok _=>⟨fun args W=>by simp[go_sem],fun W t hW ht hlab=>by
   obtain⟨x,y,rfl,rfl,hx,hy⟩:=two_nats hok;refine(cheapest2_any hsm hpr (w.heap.size+1) (w.heap.size+2) (w.heap.size+4) zO x y hx hy W hlab (b1.below' hW) (b2.below' hW) (b4.below' hW) (b5.below' hW)).mono ?_;rintro e W' ⟨rfl,hk,cs,bb,h1,h2,h3⟩;exact⟨0,rfl,rfl,(hB4.trans (hW.mono hB4.size)).trans ((hk.mono fun k (hk:k<w.heap.size)=>by omega).below (Nat.le_trans hB4.size hW.size)),hk.heap zO (b3.below' hW),cs,bb,h1,h2,h3.mono zO (Nat.le_refl _)⟩⟩)
 have HA:=zh hask;have HW:=zh hw4;have HB4:=zh hB4;have H3:=zh b3;have H4:=zh b4;have H5:=zh b5;have e0:=zC (b0);obtain⟨er0,her⟩:=zx (xErr c l (twoB c.parts.length a b));have HER:=zh her;clear hask hw4 hB4 b0 b1 b2 b3 b4 b5 hp hq her hs4
 go_enter Tryz.func24,Tryz.ntmps24
 go_upto_region 3 with fail
 simp only[HW.out]
 go_wp2_with fail
 refine zM HA ?_;rintro e w5 hpost;obtain⟨er,rfl,hcs⟩:=ask_cases hpost;have hcom:Below w.heap.size w w5∧Box w5 (w.heap.size+3) #[.slice none 0 0,.int .i64 0] 42∧er=xErr c l (twoB c.parts.length a b)∧∃cs bb,Box w5 (w.heap.size+4) cs 42∧Box w5 (w.heap.size+5) #[.bool bb] 4∧PlanCells l (if er=0 then cheapestOf c l a.toNat b.toNat else none) (w.heap.size+6) w5.heap.size w5 cs bb:=by
  rcases hcs with ⟨h1,rfl,hb5⟩|⟨h1,rfl,hb5,h3,cs,bb,h4,h5,h6⟩
  ·exact⟨HB4.out.trans (hb5.mono HB4.out.size),H3.out.below' hb5,rfl,_,_,H4.out.below' hb5,H5.out.below' hb5,.inl ⟨if_neg h1,rfl,rfl⟩⟩
  ·exact⟨hb5,h3,h1.symm,cs,bb,h4,h5,by simpa using h6⟩
 obtain⟨hb5,h3,her,cs,bb,h4,h5,h6⟩:=hcom;obtain⟨u1,u2,u3,u4,hcse⟩:=h6.two;subst hcse;have HB5:=zh hb5;have HR:=zh h3;have HX:=zh h4;have HY:=zh h5;have HC:=zh h6;have HE:=zh her;clear hcs hpost e0 hb5 h3 h4 h5 h6 her HA
 go_wp2_with fail
 have K0:Hid (∀A,Box A (w.heap.size+4) #[.slice u1 u2 u3,.int .i64 u4] 42∧Box A (w.heap.size+5) #[.bool bb] 4→(∀j,A.cell? ⟨w.heap.size+4,j,none⟩=(#[.slice u1 u2 u3,.int .i64 u4]:Array Value)[j]?)∧(∀j,A.cell? ⟨w.heap.size+5,j,none⟩=(#[.bool bb]:Array Value)[j]?)):=zh fun A hA=>⟨hA.1.cell,hA.2.cell⟩
 refine wp_region_L (fun A=>Box A (w.heap.size+4) #[.slice u1 u2 u3,.int .i64 u4] 42∧Box A (w.heap.size+5) #[.bool bb] 4) 6 zK ?_;have hSS:Box w5.drew (w.heap.size+4) #[.slice u1 u2 u3,.int .i64 u4] 42∧Box w5.drew (w.heap.size+5) #[.bool bb] 4:=⟨HX.out,HY.out⟩
 have hR:Box w5.drew (w.heap.size+3) #[.slice none 0 0,.int .i64 0] 42:=HR.out;have hB:Below w.heap.size w w5.drew:=HB5.out.drew;obtain⟨M6,hM6⟩:=zx (w5.heap.size);have hC:PlanCells l (if er=0 then cheapestOf c l a.toNat b.toNat else none) (w.heap.size+6) M6 w5.drew #[.slice u1 u2 u3,.int .i64 u4] bb:=by
  have:=HC.out.keep (Keep.refl _ w5).drew
  rwa [hM6] at this
 have HM6:=zh (show w5.drew.heap.size=M6 by rw[World.size_drew];exact hM6);clear hM6;generalize w5.drew=w6 at *;refine tM K0 0 hSS ?_;refine tM K0 1 hSS ?_;refine tM K0 2 hSS ?_;obtain⟨z1,z2⟩:=hR.rules;have hS2:Box ((w6.setCell ⟨w.heap.size+3,0,none⟩ (.slice u1 u2 u3)).setCell ⟨w.heap.size+3,1,none⟩ (.int .i64 u4)) (w.heap.size+4) #[.slice u1 u2 u3,.int .i64 u4] 42∧Box ((w6.setCell ⟨w.heap.size+3,0,none⟩ (.slice u1 u2 u3)).setCell ⟨w.heap.size+3,1,none⟩ (.int .i64 u4)) (w.heap.size+5) #[.bool bb] 4:=
  ⟨(hSS.1.far zS _).far zS _,(hSS.2.far zS _).far zS _⟩
 refine anyL_skip (i:=3) (w':=(w6.setCell ⟨w.heap.size+3,0,none⟩ (.slice u1 u2 u3)).setCell ⟨w.heap.size+3,1,none⟩ (.int .i64 u4)) rfl zK (by rfl) ?_ (.inr hS2) ?_
 ·go_simp
  try with_reducible rfl
 try simp only[pZ]
 refine anyL_run (i:=4) (v:=.bool bb) (w':=(w6.setCell ⟨w.heap.size+3,0,none⟩ (.slice u1 u2 u3)).setCell ⟨w.heap.size+3,1,none⟩ (.int .i64 u4)) rfl zK (by rfl) (by go_simp) (.inr hS2) ?_
 try simp only[pZ]
 refine anyL_run (i:=5) (v:=.int .i64 er) (w':=(w6.setCell ⟨w.heap.size+3,0,none⟩ (.slice u1 u2 u3)).setCell ⟨w.heap.size+3,1,none⟩ (.int .i64 u4)) rfl zK (by rfl) (by go_simp) (.inr hS2) ?_
 try simp only[pZ]
 refine anyL_done zK ?_ _;have HR6:=zh ((hR.set_ 0 (.slice u1 u2 u3)).set_ 1 (.int .i64 u4));have HB6:=zh ((hB.setCell (p:=⟨w.heap.size+3,0,none⟩) zS (.slice u1 u2 u3)).setCell (p:=⟨w.heap.size+3,1,none⟩) zS (.int .i64 u4));have HC6:=zh (hC.keep (((Keep.refl (fun k=>w.heap.size+6≤k∧k<M6) w6).setCell (p:=⟨w.heap.size+3,0,none⟩) (.inl zS) (.slice u1 u2 u3)).setCell (p:=⟨w.heap.size+3,1,none⟩) (.inl zS) (.int .i64 u4)));have HSZ:=zh (show((w6.setCell ⟨w.heap.size+3,0,none⟩ (.slice u1 u2 u3)).setCell ⟨w.heap.size+3,1,none⟩ (.int .i64 u4)).heap.size=w6.heap.size by simp);clear hSS hS2 hR hB hC z1 z2 K0 HC;generalize (w6.setCell ⟨w.heap.size+3,0,none⟩ (.slice u1 u2 u3)).setCell ⟨w.heap.size+3,1,none⟩ (.int .i64 u4)=w7 at *
 go_wp2_with fail
 refine bodyPost_ret (results_ctt rfl rfl (run_loadVar_row _ _ 42 42 _ (0,0) _ HR6.out Tryz.underlying42 rfl plan_size)) rfl ?_;refine⟨HB6.out,_,bb,by rw[←HE.out];rfl,?_⟩;rw[←HE.out];exact HC6.out.mono zO (by rw[HSZ.out,HM6.out];exact Nat.le_refl _)
def XPost (xe:Int)(init:Value)(OUT:Int→Value→World→Prop)(w:World)(e:Ending)(w':World):Prop:=
 Below w.heap.size w w'∧∃v er,e = .returned (.tuple #[v,.int .i64 er])∧((xe≠0∧er=xe∧v=init)∨(xe=0∧OUT er v w'))
def BoolOut (b:Bool)(er:Int)(v:Value)(_:World):Prop:=er=0∧v = .bool b
theorem XPost.bool {xe:Int}{b:Bool}{w w':World}{e:Ending}(h:XPost xe (.bool false) (BoolOut b) w e w'):Below w.heap.size w w'∧e = .returned (.tuple #[.bool (xe==0&&b),.int .i64 xe]):=by
 obtain⟨hb,v,er,rfl,(⟨h1,rfl,rfl⟩|⟨h1,rfl,rfl⟩)⟩:=h
 ·exact⟨hb,by rw[show(er==0)=false from beq_eq_false_iff_ne.2 h1];rfl⟩
 ·exact⟨hb,by rw[h1];simp⟩
section
variable {t:Nat}{c:Cs}{pa:Option Addr}{pc:Nat}{l:List Prb}{qa:Option Addr}{qc:Nat}
theorem checkDoubt2_any (hsm:c.Small)(hpr:probesErr c l=0)(g1 g2 g3 a b:Nat)(ha:a<c.parts.length)(hb:b<c.parts.length)(d:Opn)(hd:d.Small)(a1 a2 a3 a4:Option Addr)(c1 c2 c3 c4:Nat)(w:World)(g:Nat)(h:LabAt w t c pa pc l qa qc)(hv:OpnAt w d (.agg #[.slice a1 d.probes.length c1,.slice a2 d.found.length c2,.slice a3 d.tog.length c3,.slice a4 d.apt.length c4]))(h1:Box w g1 #[.int .i64 a] 3)(h2:Box w g2 #[.int .i64 b] 3)(h3:Box w g3 #[.slice a1 d.probes.length c1,.slice a2 d.found.length c2,.slice a3 d.tog.length c3,.slice a4 d.apt.length c4] 53)(hg:Box w g #[.bool false] 4):
 Calls Tryz.prog 128 #[.pointer (some ⟨t,0,none⟩),.pointer (some ⟨g1,0,none⟩),.pointer (some ⟨g2,0,none⟩),.pointer (some ⟨g3,0,none⟩),.pointer (some ⟨g,0,none⟩)] w fun e w'=>∃er v,e = .returned (.int .i64 er)∧Keep (fun k=>k≠g) w w'∧Box w' g #[v] 4∧BoolOut (doubtedB c l a b d) er v w':=by
 have HC:=zh (doubted_any hsm hpr a b ha hb d hd _ w h hv);have H3:=zh hg;have e1:=h1.cell;have e2:=h2.cell;have e3:=h3.cell;clear hpr h hv h1 h2 h3 hg;obtain⟨r,hr⟩:=zx ((doubtedB c l a b d));rw[hr] at HC ⊢
 go_enter Tryz.func128,Tryz.ntmps128
 go_wp2_with fail
 refine zM HC ?_;rintro e w2 ⟨rfl,hb2⟩;have HX:=zh (H3.out.below' hb2);have HB:=zh hb2;obtain⟨z1,z2⟩:=HX.out.rules;clear hb2
 go_wp2_with fail
 go_ret
 exact⟨0,.bool r,rfl,(Keep.of_below' HB.out).setCell (.inl zS) _,HX.out.set_ 0 _,rfl,rfl⟩
end
theorem checkDoubtX_any (c:Cs)(hsm:c.Small)(pa:Option Addr)(pc:Nat)(l:List Prb)(qa:Option Addr)(qc:Nat)(a:Int)(b:Int)(d:Opn)(hd:d.Small)(a1 a2 a3 a4:Option Addr)(c1 c2 c3 c4:Nat)(w:World)(hp:PartsAt w pa c.parts)(hq:PrbsAt w qa l)(hv:OpnAt w d (.agg #[.slice a1 d.probes.length c1,.slice a2 d.found.length c2,.slice a3 d.tog.length c3,.slice a4 d.apt.length c4])):
 Calls Tryz.prog 43 #[.agg #[.string c.ware,.int .i64 c.limit,.int .i64 c.by_,.slice pa c.parts.length pc],.slice qa l.length qc,.int .i64 a,.int .i64 b,.agg #[.slice a1 d.probes.length c1,.slice a2 d.found.length c2,.slice a3 d.tog.length c3,.slice a4 d.apt.length c4]] w (XPost (xErr c l (twoB c.parts.length a b)) (.bool false) (BoolOut (doubtedB c l a.toNat b.toNat d)) w):=by
 have hmf:=run_mf Tryz.prog;obtain⟨w4,hw4⟩:=zx (((((w.alloc (.cells #[.string c.ware,.int .i64 c.limit,.int .i64 c.by_,.slice pa c.parts.length pc] 24)).alloc (.cells #[.int .i64 a] 3)).alloc (.cells #[.int .i64 b] 3)).alloc (.cells #[.slice a1 d.probes.length c1,.slice a2 d.found.length c2,.slice a3 d.tog.length c3,.slice a4 d.apt.length c4] 53)).alloc (.cells #[.bool false] 4));have hB4:Below w.heap.size w w4:=by rw[←hw4];go_grown
 have hs4:w4.heap.size=w.heap.size+5:=by rw[←hw4];simp
 have b0:Box w4 w.heap.size (csCells c pa pc) 24:=by rw[←hw4];exact((((Box.new _ _ _).alloc _).alloc _).alloc _).alloc _
 have b1:Box w4 (w.heap.size+1) #[.int .i64 a] 3:=by rw[←hw4];exact(((Box.new' zS).alloc _).alloc _).alloc _
 have b2:Box w4 (w.heap.size+2) #[.int .i64 b] 3:=by rw[←hw4];exact((Box.new' zS).alloc _).alloc _
 have b3:Box w4 (w.heap.size+3) #[.slice a1 d.probes.length c1,.slice a2 d.found.length c2,.slice a3 d.tog.length c3,.slice a4 d.apt.length c4] 53:=by rw[←hw4];exact(Box.new' zS).alloc _
 have b4:Box w4 (w.heap.size+4) #[.bool false] 4:=by rw[←hw4];exact Box.new' zS
 have hv4:=hv.below hB4;have hask:=asked9_any c hsm pa pc l qa qc 127 #[.pointer (some ⟨w.heap.size+1,0,none⟩),.pointer (some ⟨w.heap.size+2,0,none⟩)] 128 #[.pointer (some ⟨w.heap.size+1,0,none⟩),.pointer (some ⟨w.heap.size+2,0,none⟩),.pointer (some ⟨w.heap.size+3,0,none⟩),.pointer (some ⟨w.heap.size+4,0,none⟩)] (twoB c.parts.length a b)
  (fun er W'=>Below w.heap.size w W'∧∃v,Box W' (w.heap.size+4) #[v] 4∧(BoolOut (doubtedB c l a.toNat b.toNat d)) er v W') w4 (hp.below hB4) (hq.below hB4)
  (fun hpr=>⟨fun args W=>by simp[go_sem],fun W t hW ht hlab=>checkDoubt1_arg hsm _ _ a b W hlab (b1.below' hW) (b2.below' hW)⟩)
  (fun hpr hok hne=>⟨fun args W=>by simp[go_sem],fun W t hW ht hlab=>by
   obtain⟨x,y,rfl,rfl,hx,hy⟩:=two_nats hok;refine(checkDoubt2_any hsm hpr _ _ _ x y hx hy d hd a1 a2 a3 a4 c1 c2 c3 c4 W _ hlab (hv4.below hW) (b1.below' hW) (b2.below' hW) (b3.below' hW) (b4.below' hW)).mono ?_;rintro e W' ⟨er,v,rfl,hk,hb,ho⟩;exact⟨er,rfl,(hB4.trans (hW.mono hB4.size)).trans ((hk.mono fun k (hk:k<w.heap.size)=>by omega).below (Nat.le_trans hB4.size hW.size)),v,hb,ho⟩⟩)
 have HA:=zh hask;have HW:=zh hw4;have HB4:=zh hB4;have H3:=zh b4;have e0:=zC (b0);clear hask hw4 hB4 b0 b1 b2 b3 b4 hp hq hs4 hv hv4
 go_enter Tryz.func43,Tryz.ntmps43
 go_upto_region 2 with fail
 simp only[HW.out]
 go_wp2_with fail
 refine zM HA ?_;rintro e w5 hpost;obtain⟨er,rfl,(⟨h1,h2,hb5⟩|⟨h1,hb5,v5,hbx,hout⟩)⟩:=ask_cases hpost
 ·have HB5:=zh (HB4.out.trans (hb5.mono HB4.out.size));have e3:=(H3.out.below' hb5).cell;have H1:=zh (And.intro h1 h2);clear hpost hb5 e0 h1 h2 HA H3
  go_wp2_with fail
  go_ret2
  exact⟨HB5.out,_,er,rfl,.inl ⟨H1.out.1,H1.out.2,rfl⟩⟩
 ·have HB5:=zh hb5;have e3:=hbx.cell;have H1:=zh (And.intro h1 hout);clear hpost hb5 e0 h1 hout hbx HA H3
  go_wp2_with fail
  go_ret2
  exact⟨HB5.out,v5,er,rfl,.inr ⟨H1.out.1,H1.out.2⟩⟩
theorem set_nats {m:Nat}{S:List Int}(h:setB m S=true):S=natInts (nats S)∧∀v∈nats S,v<m:=by
 refine⟨?_,fun v hv=>?_⟩
 ·apply List.ext_getElem?
  intro i
  rcases hi:S[i]? with _|x
  ·simp[natInts,nats,hi]
  ·obtain⟨v,rfl,_⟩:=set_val h hi
   simp[natInts,nats,hi]
 ·obtain⟨i,hi⟩:=List.mem_iff_getElem?.1 hv;simp only[nats,List.getElem?_map] at hi;obtain⟨x,hx,rfl⟩:=Option.map_eq_some_iff.1 hi;obtain⟨u,rfl,hu⟩:=set_val h hx
  simpa using hu
def setlC (c d:Cs):List (Nat×Nat):=(openOf c).filter fun p=>!((openOf d).any fun q=>p==q)
def SettledOut (c:Cs)(o:Option Cs)(er:Int)(v:Value)(w:World):Prop:=
 (o=none∧er=90∧v = .slice none 0 0)∨∃d a cap,o=some d∧er=0∧v = .slice a (setlC c d).length cap∧PairsAt w a (setlC c d)∧(setlC c d).length≤cap
theorem openOf_len (c:Cs)(h8:c.parts.length≤8):(openOf c).length≤100000:=by
 have h2:=pairsOf_len h8;have h4:=List.length_filter_le (fun p:Nat×Nat=>ansAt c p.1 p.2==3) (pairsOf c.parts.length);unfold openOf
 omega
theorem ask_nil {d:Cs}(h:checkCase d=0)(hne:(allR d).isEmpty=false):askErr d []=0:=by
 have ho:openErr d []=0:=by simp[openErr,h]
 unfold askErr;rw[if_pos ho,hne];simp
section
variable {t:Nat}{c:Cs}{pa:Option Addr}{pc:Nat}{l:List Prb}{qa:Option Addr}{qc:Nat}
theorem settled21_any (g:Nat)(a:Option Addr)(n:Nat)(L:List (Nat×Nat))(x:Nat×Nat)(w:World)(hg:Box w g #[.slice a L.length n] 35)(h:PairsAt w a L)(hl:L.length≤100000):
 Calls Tryz.prog 73 #[.agg #[.int .i64 (x.1:Int),.int .i64 (x.2:Int)],.pointer (some ⟨g,0,none⟩)] w fun e w'=>e = .returned (.bool (L.any fun q=>x==q))∧Below w.heap.size w w':=by
 obtain⟨w1,hw1⟩:=zx (w.alloc (.cells #[.int .i64 (x.1:Int),.int .i64 (x.2:Int)] 57));have hB1:Below w.heap.size w w1:=by rw[←hw1];go_grown
 have hg1:Box w1 w.heap.size #[.int .i64 (x.1:Int),.int .i64 (x.2:Int)] 57:=by rw[←hw1];exact Box.new _ _ _
 have HC:=zh (containsPair_any a n L x w1 (h.below hB1) hl);have e0:=(hg.below' hB1).cell;have e1:=hg1.cell;have HW:=zh hw1;have HB:=zh hB1;obtain⟨r,hr⟩:=zx ((L.any fun q=>x==q));rw[hr] at HC ⊢;clear hw1 hB1 hg hg1 h hr
 go_enter Tryz.func73,Tryz.ntmps73
 go_upto_region 1 with fail
 simp only[HW.out]
 go_wp2_with fail
 refine zM HC ?_;rintro e w2 ⟨rfl,hb2⟩;have HB2:=zh (HB.out.trans (hb2.mono HB.out.size));clear hb2 e0 e1
 go_wp2_with fail
 go_ret
 exact⟨rfl,HB2.out⟩
theorem settled2_any (hsm:c.Small)(hpr:probesErr c l=0)(hne:(allR c).isEmpty=false)(g0 g1 g2 g3:Nat)(sa:Option Addr)(s:List Nat)(sc:Nat)(fa:Option Addr)(fs:List Nat)(fc:Nat)(hs:∀v∈s,v<l.length)(hff:FoundFor c l s fs)(hsl:s.length≤1000)(w:World)(h:LabAt w t c pa pc l qa qc)(hS:Ints w sa (natInts s))(hF:Ints w fa (natInts fs))
 (h1:Box w g1 #[.slice sa s.length sc] 26) (h2:Box w g2 #[.slice fa fs.length fc] 26) (h0:Box w g0 (csCells c pa pc) 24) (h3:Box w g3 #[.slice none 0 0] 35):
 Calls Tryz.prog 70 #[.pointer (some ⟨t,0,none⟩),.pointer (some ⟨g1,0,none⟩),.pointer (some ⟨g2,0,none⟩),.pointer (some ⟨g0,0,none⟩),.pointer (some ⟨g3,0,none⟩)] w fun e w'=>∃er v,e = .returned (.int .i64 er)∧Keep (fun k=>k≠g3) w w'∧Box w' g3 #[v] 35∧SettledOut c (canC c l s fs) er v w':=by
 have HC:=zh (can_any hsm hpr sa s sc fa fs fc w h hS hF hsl hff.1 hff.2);have hz:=ask_nil (probes_ok hpr).1 hne;have HLB:=zh h;have e1:=h1.cell;have e2:=h2.cell;have H0:=zh h0;have H3:=zh h3;have HPR:=zh hpr;have hlen:=openOf_len c (check_small (ask_open hz));clear h hS hF h1 h2 h0 h3 hs hff hpr
 go_enter Tryz.func70,Tryz.ntmps70
 go_wp2_with fail
 refine zM HC ?_;rintro e w2 ⟨hb2,(⟨ho,u1,u2,u3,u4,u5,u6,rfl⟩|⟨d,ba,pc',ho,rfl,hpt⟩)⟩
 ·have HX:=zh (H3.out.below' hb2);have HB:=zh hb2;have HO:=zh ho;clear hb2 ho e1 e2
  go_wp2_with fail
  go_ret
  exact⟨90,_,rfl,(Keep.of_below' HB.out).alloc _,HX.out.alloc _,.inl ⟨HO.out,rfl,rfl⟩⟩
 ·obtain⟨w3,hw3⟩:=zx (w2.alloc (.cells #[.string d.ware,.int .i64 d.limit,.int .i64 d.by_,.slice ba d.parts.length pc'] 24));have hB3:Below w2.heap.size w2 w3:=by rw[←hw3];go_grown
  have b3:Box w3 w2.heap.size #[.string d.ware,.int .i64 d.limit,.int .i64 d.by_,.slice ba d.parts.length pc'] 24:=by rw[←hw3];exact Box.new _ _ _
  have hb3:Below w.heap.size w w3:=hb2.trans (hB3.mono hb2.size);have HLB3:=zh (HLB.out.below hb3);have e0:=zC ((H0.out.below' hb3));have HO1:=zh (open9_any c hsm hz pa pc w3 HLB3.out.parts);obtain⟨hok,hned,_⟩:=canC_ok HPR.out ho;have hsd:=small_of hok.chk;have hzd:=ask_nil hok.chk hned;have hlend:=openOf_len d (check_small (ask_open hzd));have HX:=zh (H3.out.below' hb3);have HB:=zh hb3;have HO:=zh ho;have HPT:=zh (hpt.below hB3);have HW3:=zh hw3;have HY:=zh b3;have hlt2:w2.heap.size<w3.heap.size:=b3.lt;clear hb2 ho e1 e2 hw3 hB3 b3 hb3 hok hned HLB HC H0 H3 hpt
  go_upto_region 4 with fail
  simp only[HW3.out]
  go_wp2_with fail
  refine zM HO1 ?_;rintro e w4 ⟨a4,cap4,rfl,hr4,hc4,hb4⟩;have e5:∀i,w4.cell? ⟨w2.heap.size,i,none⟩=(#[.string d.ware,.int .i64 d.limit,.int .i64 d.by_,.slice ba d.parts.length pc']:Array Value)[i]?:=(HY.out.below' hb4).cell;have HO2:=zh (open9_any d hsd hzd ba pc' w4 (HPT.out.below hb4).at_);have HR4:=zh hr4;have HX4:=zh (HX.out.below' hb4);have hg3:=HX.out.lt;have HB4:=zh (HB.out.trans (hb4.mono HB.out.size));clear hb4 hr4 e0 HO1 HW3 HY HPT HX HLB3
  go_wp2_with fail
  refine zM HO2 ?_;rintro e w5 ⟨a5,cap5,rfl,hr5,hc5,hb5⟩;obtain⟨w6,hw6⟩:=zx (w5.alloc (.cells #[.slice a5 (openOf d).length cap5] 35));have hB6:Below w5.heap.size w5 w6:=by rw[←hw6];go_grown
  have b6:Box w6 w5.heap.size #[.slice a5 (openOf d).length cap5] 35:=by rw[←hw6];exact Box.new _ _ _
  have hb6:Below w4.heap.size w4 w6:=hb5.trans (hB6.mono hb5.size);have hr5':=hr5.below hB6;have hr4':=HR4.out.below hb6;have h45:=hb5.size;have h56:=hB6.size;have h3:=HB.out.size;have hB4s:=HB4.out.size;have hlt34:∀b o,a4=some ⟨b,o,none⟩→0<(openOf c).length→b<w4.heap.size:=fun b o ha h0=>by
   obtain⟨x,hx⟩:=get_of_lt (openOf c) h0;obtain⟨b',o',e',_,c1,_⟩:=HR4.out.pair hx;rw[ha] at e';cases e';exact lt_of_cell c1
  have HD:=zh (deletePair_any (K:=73) (caps:=#[.pointer (some ⟨w5.heap.size,0,none⟩)]) (Z:=fun k=>w4.heap.size≤k) (w0:=w6) (p:=fun x=>(openOf d).any fun q=>x==q)
   ⟨fun args W=>by simp[go_sem],fun W x hW=>settled21_any _ a5 cap5 (openOf d) x W (hW.heap zO b6) (hr5'.keep hW (fun k hk=>hk)).row hlend⟩ a4 cap4 (openOf c) w6 (Keep.refl _ _) hr4' hc4 (fun b o ha h0 hk=>absurd (hlt34 b o ha h0) zO) hlen)
  have HX6:=zh (HX4.out.below' hb6);have HB6:=zh (HB4.out.trans (hb6.mono HB4.out.size));have HW6:=zh hw6;clear hw6 hB6 hb6 hb5 hr5 hr5' b6 HO2 e5 hr4' HX4 HB4
  go_upto_region 6 with fail
  simp only[HW6.out]
  go_wp2_with fail
  refine zM HD ?_;rintro e w7 ⟨a7,c7,rfl,hr7,hc7,hk7⟩;have hk:=hk7 (fun k=>k<w3.heap.size) (fun b o _ h1 h2=>by omega);have hx7:Box w7 g3 #[.slice none 0 0] 35:=hk.heap hg3 HX6.out;obtain⟨z1,z2⟩:=hx7.rules;have HK:=zh hk;have HX7:=zh hx7;have HR7:=zh hr7;clear hk hx7 hr7 hk7
  go_wp2_with fail
  go_ret
  have hbw7:Below w.heap.size w w7:=HB6.out.trans ((HK.out.mono fun k (hk:k<w.heap.size)=>by omega).below zO);have kS:Keep (fun k=>w3.heap.size≤k) w7 (w7.setCell ⟨g3,0,none⟩ (.slice a7 (setlC c d).length c7)):=(Keep.refl _ w7).setCell (.inl zT) _;exact⟨0,_,rfl,(Keep.of_below' hbw7).setCell (.inl zS) _,HX7.out.set_ 0 _,.inr ⟨d,a7,c7,HO.out,rfl,rfl,(HR7.out.keep kS (fun k hk=>hk)).row,hc7⟩⟩
end
theorem settledX_any (c:Cs)(hsm:c.Small)(pa:Option Addr)(pc:Nat)(l:List Prb)(qa:Option Addr)(qc:Nat)(sa:Option Addr)(S:List Int)(sc:Nat)(fa:Option Addr)(F:List Int)(fc:Nat)(w:World)(hp:PartsAt w pa c.parts)(hq:PrbsAt w qa l)(hSl:S.length≤1000)(hFl:F.length≤1000)(hS:Ints w sa S)(hF:Ints w fa F):
 Calls Tryz.prog 20 #[.agg #[.string c.ware,.int .i64 c.limit,.int .i64 c.by_,.slice pa c.parts.length pc],.slice qa l.length qc,.slice sa S.length sc,.slice fa F.length fc] w (XPost (xErr c l (foundB c l S F)) (.slice none 0 0) (SettledOut c (canC c l (nats S) (nats F))) w):=by
 have hmf:=run_mf Tryz.prog;obtain⟨w4,hw4⟩:=zx ((((w.alloc (.cells #[.string c.ware,.int .i64 c.limit,.int .i64 c.by_,.slice pa c.parts.length pc] 24)).alloc (.cells #[.slice sa S.length sc] 26)).alloc (.cells #[.slice fa F.length fc] 26)).alloc (.cells #[.slice none 0 0] 35));have hB4:Below w.heap.size w w4:=by rw[←hw4];go_grown
 have hs4:w4.heap.size=w.heap.size+4:=by rw[←hw4];simp
 have b0:Box w4 w.heap.size (csCells c pa pc) 24:=by rw[←hw4];exact(((Box.new _ _ _).alloc _).alloc _).alloc _
 have b1:Box w4 (w.heap.size+1) #[.slice sa S.length sc] 26:=by rw[←hw4];exact((Box.new' zS).alloc _).alloc _
 have b2:Box w4 (w.heap.size+2) #[.slice fa F.length fc] 26:=by rw[←hw4];exact(Box.new' zS).alloc _
 have b3:Box w4 (w.heap.size+3) #[.slice none 0 0] 35:=by rw[←hw4];exact Box.new' zS
 have hS4:=hS.below hB4;have hF4:=hF.below hB4;have hask:=asked9_any c hsm pa pc l qa qc 69 #[.pointer (some ⟨w.heap.size+1,0,none⟩),.pointer (some ⟨w.heap.size+2,0,none⟩)] 70 #[.pointer (some ⟨w.heap.size+1,0,none⟩),.pointer (some ⟨w.heap.size+2,0,none⟩),.pointer (some ⟨w.heap.size,0,none⟩),.pointer (some ⟨w.heap.size+3,0,none⟩)] (foundB c l S F)
  (fun er W'=>Below w.heap.size w W'∧∃v,Box W' (w.heap.size+3) #[v] 35∧(SettledOut c (canC c l (nats S) (nats F))) er v W') w4 (hp.below hB4) (hq.below hB4)
  (fun hpr=>⟨fun args W=>by simp[go_sem],fun W t hW ht hlab=>settled1_arg hpr _ _ sa S sc fa F fc W hlab (hS4.below hW) (hF4.below hW) zO zO (b1.below' hW) (b2.below' hW)⟩)
  (fun hpr hok hne=>⟨fun args W=>by simp[go_sem],fun W t hW ht hlab=>by
   obtain⟨e1,e2,hsv,hff⟩:=found_nats hok;have hl1:(nats S).length=S.length:=by simp[nats]
   have hl2:(nats F).length=F.length:=by simp[nats]
   refine(settled2_any hsm hpr hne _ _ _ _ sa (nats S) sc fa (nats F) fc hsv hff zO W hlab (by rw[←e1];exact hS4.below hW) (by rw[←e2];exact hF4.below hW) (by rw[hl1];exact b1.below' hW) (by rw[hl2];exact b2.below' hW) (b0.below' hW) (b3.below' hW)).mono ?_;rintro e W' ⟨er,v,rfl,hk,hb,ho⟩;exact⟨er,rfl,(hB4.trans (hW.mono hB4.size)).trans ((hk.mono fun k (hk:k<w.heap.size)=>by omega).below (Nat.le_trans hB4.size hW.size)),v,hb,ho⟩⟩)
 have HA:=zh hask;have HW:=zh hw4;have HB4:=zh hB4;have H3:=zh b3;have e0:=zC (b0);clear hask hw4 hB4 b0 b1 b2 b3 hp hq hs4 hS hF hS4 hF4
 go_enter Tryz.func20,Tryz.ntmps20
 go_upto_region 2 with fail
 simp only[HW.out]
 go_wp2_with fail
 refine zM HA ?_;rintro e w5 hpost;obtain⟨er,rfl,(⟨h1,h2,hb5⟩|⟨h1,hb5,v5,hbx,hout⟩)⟩:=ask_cases hpost
 ·have HB5:=zh (HB4.out.trans (hb5.mono HB4.out.size));have e3:=(H3.out.below' hb5).cell;have H1:=zh (And.intro h1 h2);clear hpost hb5 e0 h1 h2 HA H3
  go_wp2_with fail
  go_ret2
  exact⟨HB5.out,_,er,rfl,.inl ⟨H1.out.1,H1.out.2,rfl⟩⟩
 ·have HB5:=zh hb5;have e3:=hbx.cell;have H1:=zh (And.intro h1 hout);clear hpost hb5 e0 h1 hout hbx HA H3
  go_wp2_with fail
  go_ret2
  exact⟨HB5.out,v5,er,rfl,.inr ⟨H1.out.1,H1.out.2⟩⟩
theorem equalInts_any (a b:Option Addr)(ca cb:Nat)(l m:List Int)(w:World)(ha:Ints w a l)(hb:Ints w b m)(hl:l.length≤1000000)(hm:m.length≤1000000):
 Calls Tryz.prog 116 #[.slice a l.length ca,.slice b m.length cb] w fun e w'=>e = .returned (.bool (decide (l=m)))∧Below w.heap.size w w':=by
 by_cases hlen:l.length=m.length
 ·have hlb:((l.length:Int) != (m.length:Int))=false:=by simp[hlen]
  have HL:=zh hlen;clear hlen
  go_enter Tryz.func116,Tryz.ntmps116
  go_wp2
  go_loopw [13] (fun i wr=>∃k:Nat,k≤l.length∧i = .int .i64 k∧l.take k=m.take k∧Below w.heap.size w wr) (fun i _=>l.length-(intOf i).toNat)
  case atStart=>exact⟨0,Nat.zero_le _,rfl,by simp,Below.refl _ _⟩
  case round=>
   obtain⟨k,hk,rfl,hall,hB⟩:=hrel;have HA:=zh hall;have HB:=zh hB;clear hall
   by_cases hlt:k<l.length
   ·have hltm:k<m.length:=by have:=HL.out;omega
    obtain⟨b1,o1,rfl,hb1⟩:=(ha.below hB).base zO;obtain⟨b2,o2,rfl,hb2⟩:=(hb.below hB).base zO;obtain⟨x,hx⟩:=get_of_lt l hlt;obtain⟨y,hy⟩:=get_of_lt m hltm;have c1:=hb1 _ _ hx;have c2:=hb2 _ _ hy;have HX:=zh hx;have HY:=zh hy;have hki:(k:Int)<m.length:=by omega
    clear hx hy hb1 hb2 hB
    by_cases hxy:x=y
    ·have hxb:(x != y)=false:=by simp[hxy]
     have HXY:=zh hxy;clear hxy
     go_wp2_with fail
     go_quiet (fail)
     go_wp2_with fail
     go_roundw
     case rel=>exact⟨k+1,zO,zN,(same_take HX.out HY.out HA.out).2 HXY.out,below_drewN HB.out _⟩
     case measure=>exact zJ
    ·have hxb:(x != y)=true:=by simp[hxy]
     have HXY:=zh hxy;clear hxy
     go_wp2_with fail
     go_quiet (fail)
     go_wp2_with fail
     go_ret
     refine⟨ret_bool ?_,below_drewN HB.out _⟩
     symm
     simp only[decide_eq_false_iff_not];intro e;subst e;have:=HX.out.symm.trans HY.out;exact HXY.out (Option.some.inj this)
   ·clear hB
    go_wp2_with fail
    go_ret
    refine⟨ret_bool ?_,HB.out⟩;have h1:=HA.out;have h2:=HL.out;rw[List.take_of_length_le zO,List.take_of_length_le zO] at h1
    simp[h1]
 ·have hlb:((l.length:Int) != (m.length:Int))=true:=by simp;omega
  have HL:=zh hlen;clear hlen
  go_enter Tryz.func116,Tryz.ntmps116
  go_wp2
  go_ret
  exact⟨ret_bool (by symm;simp only[decide_eq_false_iff_not];exact fun e=>HL.out (by rw[e])),Below.refl _ _⟩
def Ver.Small (v:Ver):Prop:=v.ans<256∧v.found.length≤1000∧v.proof.length≤1000000∧∀z∈v.proof,z.Small
def VersAt (w:World)(a:Option Addr)(vs:List Ver):Prop:=∀k v,vs[k]?=some v→∃b o fa fc ra rc,a=some ⟨b,o,none⟩ ∧
 w.cell? ⟨b,o+k*3,none⟩=some (.slice fa v.found.length fc)∧w.cell? ⟨b,o+k*3+1,none⟩=some (.int .u8 v.ans)∧w.cell? ⟨b,o+k*3+2,none⟩=some (.slice ra v.proof.length rc)∧Ints w fa v.found∧BrsAt w ra v.proof∧v.proof.length≤rc
theorem VersAt.below {w w':World}{a:Option Addr}{vs:List Ver}(h:VersAt w a vs)(hb:Below w.heap.size w w'):VersAt w' a vs:=fun k v hv=>by
 obtain⟨b,o,fa,fc,ra,rc,h1,h2,h3,h4,h5,h6,h7⟩:=h k v hv;exact⟨b,o,fa,fc,ra,rc,h1,below_cell hb h2,below_cell hb h3,below_cell hb h4,h5.below hb,h6.below hb,h7⟩
theorem VersAt.tail {w:World}{b o:Nat}{v:Ver}{vs:List Ver}(h:VersAt w (some ⟨b,o,none⟩) (v::vs)):VersAt w (some ⟨b,o+3,none⟩) vs:=fun k u hu=>by
 obtain⟨b',o',fa,fc,ra,rc,h1,h2,h3,h4,h5⟩:=h (k+1) u (by simpa using hu);cases h1;have e:o+(k+1)*3=o+3+k*3:=by omega
 rw[e] at h2 h3 h4;exact⟨b,o+3,fa,fc,ra,rc,rfl,h2,h3,h4,h5⟩
def verGo (c:Cs)(l:List Prb)(a b:Nat)(s:List Nat):List (List Nat)→List Ver→Bool
 |[],vs=>vs.isEmpty
 |_::_,[]=>false
 |x::xs,v::vs=>decide (v.found=natInts x)&&provedB c l a b s x v.ans v.proof&&verGo c l a b s xs vs
def checkVersB (c:Cs)(l:List Prb)(a b:Nat)(s:List Nat)(vs:List Ver):Bool:=verGo c l a b s (outsOf (cntsOf c l s)) vs
structure VI (c:Cs) (l:List Prb) (t a b:Nat) (sa:Option Addr) (s:List Nat) (sc:Nat) (vs:List Ver) (g:Nat) (w:World) (pre:List (List Nat)) (A:World):Prop where
 old:Keep (fun k=>k≠g) w A
 lb:Box A w.heap.size #[.pointer (some ⟨t,0,none⟩)] 104
 er:Box A (w.heap.size+1) #[.int .i64 0] 30
 rs:∃ra rc,Box A (w.heap.size+2) #[.slice ra (vs.drop pre.length).length rc] 70∧(vs.drop pre.length).length≤rc∧∀W',Keep (fun k=>k≠g) w W'→VersAt W' ra (vs.drop pre.length)
 tb:Box A (w.heap.size+3) #[.pointer (some ⟨t,0,none⟩)] 104
 sb:Box A (w.heap.size+4) #[.slice sa s.length sc] 26
 ok:Box A g #[.bool true] 4
 all:∀r,verGo c l a b s (pre++r) vs=verGo c l a b s r (vs.drop pre.length)
structure VX (c:Cs) (l:List Prb) (a b:Nat) (s:List Nat) (vs:List Ver) (g:Nat) (w:World) (A:World):Prop where
 old:Keep (fun k=>k≠g) w A
 er:Box A (w.heap.size+1) #[.int .i64 0] 30
 ok:Box A g #[.bool false] 4
 no:checkVersB c l a b s vs=false
section
variable {c:Cs}{l:List Prb}{t a b:Nat}{sa:Option Addr}{s:List Nat}{sc:Nat}{vs:List Ver}{g:Nat}{w:World}{pre:List (List Nat)}{A B:World}
theorem VI.below (hi:VI c l t a b sa s sc vs g w pre A)(hb:Below A.heap.size A B):VI c l t a b sa s sc vs g w pre B:=by
 obtain⟨ra,rc,h1,h2⟩:=hi.rs;exact⟨hi.old.trans (Keep.of_below' hb),hi.lb.below' hb,hi.er.below' hb,⟨ra,rc,h1.below' hb,h2⟩,hi.tb.below' hb,hi.sb.below' hb,hi.ok.below' hb,hi.all⟩
theorem VX.below (hi:VX c l a b s vs g w A)(hb:Below A.heap.size A B):VX c l a b s vs g w B:=⟨hi.old.trans (Keep.of_below' hb),hi.er.below' hb,hi.ok.below' hb,hi.no⟩
theorem VI.no_end (hi:VI c l t a b sa s sc vs g w pre A){x:List Nat}(hpre:(pre++[x]) <+: outsOf (cntsOf c l s))(hn:∀r,verGo c l a b s (x::r) (vs.drop pre.length)=false):checkVersB c l a b s vs=false:=by
 obtain⟨r,hr⟩:=hpre;unfold checkVersB;rw[←hr,List.append_assoc,hi.all];exact hn r
end
def VC (g:Nat)(w:World)(_:World)(k:Nat):Prop:=k=g∨k=w.heap.size+1∨k=w.heap.size+2
def VAs (t:Nat)(va:Option Addr)(n vc:Nat)(sa:Option Addr)(m sc:Nat)(g g1 g2 g3 g4:Nat)(w:World)(x:List Nat)(_:Array Value)(act:Act)(A:World):Prop:=
 ∃fa fc,RowOwn (w.heap.size+7) A fa ((natInts x).map (Value.int .i64))∧x.length≤fc ∧
  act={tmps:=#[.pointer (some ⟨t,0,none⟩),.pointer (some ⟨g4,0,none⟩),.pointer (some ⟨g,0,none⟩),.pointer (some ⟨g3,0,none⟩),.pointer (some ⟨g1,0,none⟩),.pointer (some ⟨g2,0,none⟩),
   .pointer (some ⟨w.heap.size,0,none⟩),.pointer (some ⟨w.heap.size+1,0,none⟩),.pointer (some ⟨w.heap.size+2,0,none⟩),.slice fa x.length fc,.slice va n vc,.pointer (some ⟨t,0,none⟩),.slice sa m sc,
   .func (.func 176) #[] #[.pointer (some ⟨w.heap.size+4,0,none⟩),.pointer (some ⟨w.heap.size+3,0,none⟩)],.slice fa x.length fc,
   undef,undef,undef,undef,undef,undef,undef,undef,undef,undef,undef,undef,undef,undef,undef,undef,undef,undef,undef,undef,undef,undef,undef,undef,undef,undef,undef,undef,undef,undef,undef],defers:=[]}
theorem load_errno9 {w:World}{g:Nat}{v:Value}(h:Box w g #[v] 30):(loadVar 30 ⟨g,0,none⟩).run Tryz.prog w = .ok v w:=by
 have:=h.cell 0;simp at this
 simp[go_sem,this]
theorem checkVers2_any {t:Nat}{c:Cs}{pa:Option Addr}{pc:Nat}{l:List Prb}{qa:Option Addr}{qc:Nat}(hsm:c.Small)(hpr:probesErr c l=0)(g1 g2 g3 g4 a b:Nat)(ha:a<c.parts.length)(hb:b<c.parts.length)(sa:Option Addr)(s:List Nat)(sc:Nat)(hs:∀v∈s,v<l.length)(hsl:s.length≤1000)
 (va:Option Addr) (vs:List Ver) (vc:Nat) (hvs:∀v∈vs,v.Small) (hvl:vs.length≤1000000) (hvc:vs.length≤vc) (w:World) (g:Nat)
 (h:∀W',Keep (fun k=>k≠g) w W'→LabAt W' t c pa pc l qa qc∧Ints W' sa (natInts s)∧VersAt W' va vs)
 (h1:Box w g1 #[.int .i64 a] 3) (h2:Box w g2 #[.int .i64 b] 3) (h3:Box w g3 #[.slice sa s.length sc] 26) (h4:Box w g4 #[.slice va vs.length vc] 70) (hg:Box w g #[.bool false] 4) (hn1:g1≠g) (hn2:g2≠g) (hn3:g3≠g):
 Calls Tryz.prog 114 #[.pointer (some ⟨t,0,none⟩),.pointer (some ⟨g4,0,none⟩),.pointer (some ⟨g,0,none⟩),.pointer (some ⟨g3,0,none⟩),.pointer (some ⟨g1,0,none⟩),.pointer (some ⟨g2,0,none⟩)] w fun e w'=>∃er v,e = .returned (.int .i64 er)∧Keep (fun k=>k≠g) w w'∧Box w' g #[v] 4∧BoolOut (checkVersB c l a b s vs) er v w':=by
 have hmf:=run_mf Tryz.prog;have e4:=h4.cell;have hgl:=hg.lt;have hg4l:=h4.lt;obtain⟨w1,hw1⟩:=zx ((((w.alloc (.cells #[.pointer (some ⟨t,0,none⟩)] 104)).alloc (.cells #[.int .i64 0] 30)).alloc (.cells #[.slice va vs.length vc] 70)));have hB1:Below w.heap.size w w1:=by rw[←hw1];go_grown
 have hs1:w1.heap.size=w.heap.size+3:=by rw[←hw1];simp
 have c0:Box w1 w.heap.size #[.pointer (some ⟨t,0,none⟩)] 104:=by rw[←hw1];exact((Box.new _ _ _).alloc _).alloc _
 have c1:Box w1 (w.heap.size+1) #[.int .i64 0] 30:=by rw[←hw1];exact(Box.new' zS).alloc _
 have c2:Box w1 (w.heap.size+2) #[.slice va vs.length vc] 70:=by rw[←hw1];exact Box.new' zS
 have cg:=hg.below' hB1;have e3:=(h3.below' hB1).cell;have e6:=c0.cell;obtain⟨z1,z2⟩:=cg.rules;have HW1:=zh hw1;clear hw1;refine(callsIn_wide (n:=0)).1 (callsIn_of_wp_marks Tryz.func114 rfl trivial ?_ rfl);simp only[Tryz.ntmps114,List.size_toArray,List.length_cons,List.length_nil,Nat.reduceAdd,Nat.reduceSub,Array.replicate_succ,Array.replicate_zero,List.push_toArray,List.append_toArray,List.nil_append,List.cons_append]
 gi_upto_region 2 with fail
 simp only[HW1.out];have e3':∀i,(w1.setCell ⟨g,0,none⟩ (.bool true)).cell? ⟨g3,i,none⟩=(#[.slice sa s.length sc]:Array Value)[i]?:=((h3.below' hB1).far (by simpa using hn3) _).cell;have e6':∀i,(w1.setCell ⟨g,0,none⟩ (.bool true)).cell? ⟨w.heap.size,i,none⟩=(#[.pointer (some ⟨t,0,none⟩)]:Array Value)[i]?:=(c0.far zT _).cell
 gi_wp2_with (gi_at_call 115;(with_reducible refine(callsIn_wide.2 (outcomes_any _ _ _ _ _)).mono ?_);rintro e w' ⟨rfl,rfl⟩)
 obtain⟨w4,hw4⟩:=zx (((w1.setCell ⟨g,0,none⟩ (.bool true)).alloc (.cells #[.pointer (some ⟨t,0,none⟩)] 104)).alloc (.cells #[.slice sa s.length sc] 26));have gs:w4.heap.size=w.heap.size+5:=by rw[←hw4];simp[hs1]
 have gI:VI c l t a b sa s sc vs g w [] w4:=by
  rw[←hw4];refine⟨(((Keep.of_below' hB1).setCell (.inl zS) _).alloc _).alloc _,((c0.far zT _).alloc _).alloc _,((c1.far zT _).alloc _).alloc _,⟨va,vc,((c2.far zT _).alloc _).alloc _,hvc,fun W' hW=>(h W' hW).2.2⟩,(Box.new' (by simp[hs1])).alloc _,Box.new' (by simp[hs1]),((cg.set_ 0 _).alloc _).alloc _,fun r=>rfl⟩
 simp only[hs1,Nat.add_assoc,Nat.reduceAdd];simp only[hw4];clear hw4 e3 e6 e3' e6' e4 z1 z2 c0 c1 c2 cg hB1 HW1;have HGN:=zh (And.intro hgl (show True from trivial));refine wpIn_rangeD (gf:=176) (lb:=#[.pointer (some ⟨w.heap.size+4,0,none⟩),.pointer (some ⟨w.heap.size+3,0,none⟩)]) (Rd:=OutRd (w.heap.size+7)) (xs:=outsOf (cntsOf c l s)) rfl (enters_of Tryz.func176 zK rfl)
  (fun o1 o2=>outs_gives (t:=t) (pa:=pa) (pc:=pc) (qa:=qa) (qc:=qc) hpr sa s sc (w.heap.size+3) (w.heap.size+4) (w.heap.size+7) hs hsl _ zT) ?ps
  (VC g w) (VI c l t a b sa s sc vs g w) (fun co _ A=>co = .ret∧VX c l a b s vs g w A) ?hC1 ?hC2 ?hC3 ?hC4 ?hOk ?hI ?hI2 ?hX ?hX2 gI (VAs t va vs.length vc sa s.length sc g g1 g2 g3 g4 w) ?hAs ?assign ?body ?done ?stop
 case ps=>rintro D x args W ⟨fa,fc,rfl,_⟩;rfl
 case hC1=>intro s A B k _ _ _ h;exact h
 case hC2=>
  intro s A k hi _ hk
  rcases hk with rfl|rfl|rfl
  ·exact hi.ok.lt
  ·exact hi.er.lt
  ·obtain⟨ra,rc,h1,_⟩:=hi.rs;exact h1.lt
 case hC3=>intro A o;rfl
 case hC4=>intro s A hi _;rw[gs];unfold VC;omega
 case hOk=>intro rec pre A hi;exact⟨(h A hi.1.old).1,(h A hi.1.old).2.1,hi.1.tb,hi.1.sb⟩
 case hI=>intro s A B hi hb;exact hi.below hb
 case hI2=>
  intro s A o hi;have hk:Keep (fun k=>k≠w4.heap.size+1) A (A.putObj (w4.heap.size+1) o):=(Keep.refl _ A).putObj (fun h=>h rfl) _;rw[gs] at hk ⊢;obtain⟨ra,rc,h1,h2⟩:=hi.rs;have hko:Keep (fun k=>k≠g) w (A.putObj (w.heap.size+5+1) o):=⟨hk.os.trans hi.old.os,hk.tape.trans hi.old.tape,hk.output.trans hi.old.output,Nat.le_trans hi.old.size hk.size,fun k hkg hl=>(hk.block k zO (Nat.lt_of_lt_of_le hl hi.old.size)).trans (hi.old.block k hkg hl)⟩
  exact⟨hko,hk.heap zO hi.lb,hk.heap zO hi.er,⟨ra,rc,hk.heap zO h1,h2⟩,hk.heap zO hi.tb,hk.heap zO hi.sb,hk.heap zO hi.ok,hi.all⟩
 case hX=>
  rintro co s A B ⟨hc,hx⟩ hb;exact⟨hc,hx.below hb⟩
 case hX2=>
  rintro co s A o ⟨hc,hx⟩;have hk:Keep (fun k=>k≠w4.heap.size+1) A (A.putObj (w4.heap.size+1) o):=(Keep.refl _ A).putObj (fun h=>h rfl) _;rw[gs] at hk ⊢;have hko:Keep (fun k=>k≠g) w (A.putObj (w.heap.size+5+1) o):=⟨hk.os.trans hx.old.os,hk.tape.trans hx.old.tape,hk.output.trans hx.old.output,Nat.le_trans hx.old.size hk.size,fun k hkg hl=>(hk.block k zO (Nat.lt_of_lt_of_le hl hx.old.size)).trans (hx.old.block k hkg hl)⟩
  exact⟨hc,hko,hk.heap zO hx.er,hk.heap zO hx.ok,hx.no⟩
 case hAs=>
  rintro x args act A o ⟨fa,fc,h1,h2,h3⟩;have hk:Keep (fun k=>k≠w4.heap.size+1) A (A.putObj (w4.heap.size+1) o):=(Keep.refl _ A).putObj (fun h=>h rfl) _;rw[gs] at hk ⊢;exact⟨fa,fc,rowOwn_keep h1 hk (fun k hk=>by omega),h2,h3⟩
 case assign=>
  rintro l pre x args W Kk hi ⟨fa,fc,rfl,hro,hfc,_⟩ hlt hk
  gi_wp2_with fail
  exact hk _ _ ⟨fa,fc,hro,hfc,rfl⟩ (Below.refl _ _)
 case body=>
  rintro lo pre x args act W hi ⟨fa,fc,hro,hfc,rfl⟩ hpre hlt rfl hlp;have hx:=(mem_outs hs).1 (hpre.subset (by simp:x∈pre++[x]));obtain⟨ra,rc,r1,r2,r3⟩:=hi.rs;have hnoend:=hi.no_end hpre;have bb1:Box W g1 #[.int .i64 a] 3:=hi.old.heap hn1 h1;have bb2:Box W g2 #[.int .i64 b] 3:=hi.old.heap hn2 h2;have bb3:Box W g3 #[.slice sa s.length sc] 26:=hi.old.heap hn3 h3
  rcases hv:vs.drop pre.length with _|⟨v,vs'⟩
  ·rw[hv] at r1 hnoend;have hnoend:=hnoend fun r=>rfl
   gi_wp2_with fail
   rename_i K3 hK3
   refine wpIn_region_L_round (fun A=>Below W.drew.heap.size W.drew A) 24 zK zK ?_;have hbd:Below W.heap.size W W.drew:=(Below.refl _ W).drew;have K0:Hid (∀A,Below W.drew.heap.size W.drew A→(∀j,A.cell? ⟨g,j,none⟩=(#[.bool true]:Array Value)[j]?)∧(∀j,A.cell? ⟨w.heap.size+2,j,none⟩=(#[.slice ra 0 rc]:Array Value)[j]?)):=zh fun A hA=>⟨(hi.ok.below' (hbd.trans hA)).cell,(r1.below' (hbd.trans hA)).cell⟩
   have hSS:Below W.drew.heap.size W.drew W.drew:=Below.refl _ _;have hi5:=hi.below hbd;have HI5:=zh hi5;have HNE:=zh hnoend;clear r1 r2 r3 bb1 bb2 bb3 hx hpre hnoend hro hi hi5;have HBQ:=zh hbd;have HIQ:=HI5;clear hbd;generalize W.drew=wq at *;refine tM K0 0 hSS ?_;refine tM K0 1 hSS ?_;refine tM K0 2 hSS ?_;refine tM K0 3 hSS ?_;refine tM K0 4 hSS ?_;refine tM K0 5 hSS ?_;refine tM K0 6 hSS ?_;refine tN 7 hSS ?_;refine tN 8 hSS ?_;refine tN 9 hSS ?_;refine tN 10 hSS ?_;refine tN 11 hSS ?_;refine tN 12 hSS ?_;refine tM K0 13 hSS ?_;refine tM K0 14 hSS ?_;refine tN 15 hSS ?_;refine tN 16 hSS ?_;refine tN 17 hSS ?_;refine tN 18 hSS ?_;refine tN 19 hSS ?_;refine tN 20 hSS ?_;refine tN 21 hSS ?_;refine tN 22 hSS ?_;refine tM K0 23 hSS ?_;obtain⟨z1,z2⟩:=HIQ.out.ok.rules
   refine anyL_skip (i:=24) (w':=wq.setCell ⟨g,0,none⟩ (.bool false)) rfl zK (by rfl) ?_ (.inl rfl) ?_
   ·go_simp
    try with_reducible rfl
   try simp only[pZ]
   refine anyL_done zK ?_ _;have hg0:Box (wq.setCell ⟨g,0,none⟩ (.bool false)) g #[.bool false] 4:=HIQ.out.ok.set_ 0 _;have he0:Box (wq.setCell ⟨g,0,none⟩ (.bool false)) (w.heap.size+1) #[.int .i64 0] 30:=HIQ.out.er.far zT _;have hk0:Keep (fun k=>¬VC g w W k) W (wq.setCell ⟨g,0,none⟩ (.bool false)):=(Keep.of_below' HBQ.out).setCell (.inl (by simp[VC])) _;have ho0:Keep (fun k=>k≠g) w (wq.setCell ⟨g,0,none⟩ (.bool false)):=HIQ.out.old.setCell (.inl zS) _;clear z1 z2 hSS K0;generalize wq.setCell ⟨g,0,none⟩ (.bool false)=wz at *;have HG0:=zh hg0;have HE0:=zh he0;have HK0:=zh hk0;have HO0:=zh ho0;have eg:=hg0.cell;obtain⟨z1,z2⟩:=he0.rules;clear hg0 he0 hk0 ho0;refine hK3 _ _ ?_
   gi_wp2_with fail
   exact⟨HK0.out.setCell (.inl (by simp[VC])) _,fun k hk=>.inl hk,rfl,HO0.out.setCell (.inr zS) _,HE0.out.set_ 0 _,HG0.out.far zT _,HNE.out⟩
  ·have hvm:v∈vs:=List.mem_of_mem_drop (by rw[hv];simp);have hvsm:=hvs v hvm;obtain⟨b0,o0,va0,vc0,ra0,rc0,rfl,q1,q2,q3,q4,q5,q6⟩:=r3 W hi.old 0 v (by rw[hv];rfl);have hhl:LabAt W t c pa pc l qa qc∧Ints W sa (natInts s)∧VersAt W va vs:=h W hi.old;have hN:0<(vs.drop pre.length).length:=by rw[hv];simp
   have hsd:vs.drop (pre++[x]).length=vs':=by
    have:=congrArg (List.drop 1) hv
    simpa[List.drop_drop,Nat.add_comm] using this
   have hNl:(vs.drop pre.length).length=vs'.length+1:=by rw[hv];rfl
   generalize hNN:(vs.drop pre.length).length=N at *
   gi_wp2_with fail
   rename_i K3 hK3
   refine wpIn_region_L_round (fun A=>Below W.drew.heap.size W.drew A) 24 zK zK ?_;have hbd:Below W.heap.size W W.drew:=(Below.refl _ W).drew;have K0:Hid (∀A,Below W.drew.heap.size W.drew A→(∀j,A.cell? ⟨g,j,none⟩=(#[.bool true]:Array Value)[j]?)∧(∀j,A.cell? ⟨w.heap.size+2,j,none⟩=(#[.slice (some ⟨b0,o0,none⟩) N rc]:Array Value)[j]?) ∧
    A.cell? ⟨b0,o0,none⟩=some (.slice va0 v.found.length vc0)∧A.cell? ⟨b0,o0+1,none⟩=some (.int .u8 v.ans)∧A.cell? ⟨b0,o0+2,none⟩=some (.slice ra0 v.proof.length rc0) ∧
    (∀j,A.cell? ⟨w.heap.size,j,none⟩=(#[.pointer (some ⟨t,0,none⟩)]:Array Value)[j]?)∧(∀j,A.cell? ⟨g1,j,none⟩=(#[.int .i64 (a:Int)]:Array Value)[j]?)∧(∀j,A.cell? ⟨g2,j,none⟩=(#[.int .i64 (b:Int)]:Array Value)[j]?)∧(∀j,A.cell? ⟨g3,j,none⟩=(#[.slice sa s.length sc]:Array Value)[j]?)):=zh fun A hA=>by
    have hbA:=hbd.trans hA;exact⟨(hi.ok.below' hbA).cell,(r1.below' hbA).cell,below_cell hbA (by simpa using q1),below_cell hbA (by simpa using q2),below_cell hbA (by simpa using q3),(hi.lb.below' hbA).cell,(bb1.below' hbA).cell,(bb2.below' hbA).cell,(bb3.below' hbA).cell⟩
   have hSS:Below W.drew.heap.size W.drew W.drew:=Below.refl _ _;have HEQ:=zh (equalInts_any va0 fa vc0 fc v.found (natInts x) W.drew (q4.below hbd) (ints_rowOwn hro |>.below hbd) (by have:=hvsm.2.1;omega) (by rw[nat_len,hx.1];omega));have HPV:=zh (fun(A:World) (hA:Below W.drew.heap.size W.drew A) (he:v.found=natInts x)=>proved_any hsm hpr a b ha hb sa s sc va0 x vc0 v.ans hvsm.1 ra0 v.proof rc0 hvsm.2.2.1 hvsm.2.2.2 q6 A (hhl.1.below (hbd.trans hA)) (hhl.2.1.below (hbd.trans hA)) (by rw[←he];exact q4.below (hbd.trans hA)) (q5.below (hbd.trans hA)) hsl hx);have hi5:=hi.below hbd;have HI5:=zh hi5;have HNE:=zh hnoend;have HR1:=zh r1;have HRO:=zh hro;have HPRE:=zh hpre;have HR3:=zh r3;have HBD:=zh hbd;have HSD:=zh hsd;have hlx:=nat_len x;clear r1 r3 bb1 bb2 bb3 hx hpre hnoend hro hi hi5 q1 q2 q3 q4 q5 hhl hsd hbd;rw[hlx] at HEQ
   generalize W.drew=wd at *;refine tM K0 0 hSS ?_;refine tM K0 1 hSS ?_;refine tM K0 2 hSS ?_;refine tM K0 3 hSS ?_;refine tM K0 4 hSS ?_;refine tM K0 5 hSS ?_;refine tM K0 6 hSS ?_;refine tM K0 7 hSS ?_;refine tM K0 8 hSS ?_;refine tM K0 9 hSS ?_;refine tM K0 10 hSS ?_;refine tM K0 11 hSS ?_;refine anyL_call (i:=12) (f:=116) (args:=#[.slice va0 v.found.length vc0,.slice fa x.length fc]) rfl zK (by rfl) (by go_simp) HEQ.out ?_;rintro e w5 ⟨rfl,hb5⟩;refine .inl ⟨_,rfl,.inr hb5,?_⟩
   try simp only[pZ]
   have hSS:=hb5
   rcases hd:decide (v.found=natInts x) with _|_
   ·have HNE:=zh (HNE.out fun r=>by rw[hv];simp[verGo,hd]);have HBQ:=zh (HBD.out.trans (hb5.mono HBD.out.size));have HIQ:=zh (HI5.out.below hb5);clear hd hb5 HPV HEQ;generalize w5=wq at *;refine tM K0 13 hSS ?_;refine tM K0 14 hSS ?_;refine tN 15 hSS ?_;refine tN 16 hSS ?_;refine tN 17 hSS ?_;refine tN 18 hSS ?_;refine tN 19 hSS ?_;refine tN 20 hSS ?_;refine tN 21 hSS ?_;refine tN 22 hSS ?_;refine tM K0 23 hSS ?_;obtain⟨z1,z2⟩:=HIQ.out.ok.rules;refine anyL_skip (i:=24) (w':=wq.setCell ⟨g,0,none⟩ (.bool false)) rfl zK (by rfl) ?_ (.inl rfl) ?_
    ·go_simp
     try with_reducible rfl
    try simp only[pZ]
    refine anyL_done zK ?_ _;have hg0:Box (wq.setCell ⟨g,0,none⟩ (.bool false)) g #[.bool false] 4:=HIQ.out.ok.set_ 0 _;have he0:Box (wq.setCell ⟨g,0,none⟩ (.bool false)) (w.heap.size+1) #[.int .i64 0] 30:=HIQ.out.er.far zT _;have hk0:Keep (fun k=>¬VC g w W k) W (wq.setCell ⟨g,0,none⟩ (.bool false)):=(Keep.of_below' HBQ.out).setCell (.inl (by simp[VC])) _;have ho0:Keep (fun k=>k≠g) w (wq.setCell ⟨g,0,none⟩ (.bool false)):=HIQ.out.old.setCell (.inl zS) _;clear z1 z2 hSS K0;generalize wq.setCell ⟨g,0,none⟩ (.bool false)=wz at *;have HG0:=zh hg0;have HE0:=zh he0;have HK0:=zh hk0;have HO0:=zh ho0;have eg:=hg0.cell;obtain⟨z1,z2⟩:=he0.rules;clear hg0 he0 hk0 ho0;refine hK3 _ _ ?_
    gi_wp2_with fail
    exact⟨HK0.out.setCell (.inl (by simp[VC])) _,fun k hk=>.inl hk,rfl,HO0.out.setCell (.inr zS) _,HE0.out.set_ 0 _,HG0.out.far zT _,HNE.out⟩
   ·have he:v.found=natInts x:=of_decide_eq_true hd;have hle:v.found.length=x.length:=by rw[he,hlx]
    have hpv:=HPV.out w5 hb5 he;rw[←hle] at hpv;have HP5:=zh hpv;refine tM K0 13 hSS ?_;refine tM K0 14 hSS ?_;refine tM K0 15 hSS ?_;refine tM K0 16 hSS ?_;refine tM K0 17 hSS ?_;refine tM K0 18 hSS ?_;refine tM K0 19 hSS ?_;refine tM K0 20 hSS ?_;refine tM K0 21 hSS ?_;refine anyL_call (i:=22) (f:=117) (args:=#[.pointer (some ⟨t,0,none⟩),.int .i64 a,.int .i64 b,.slice sa s.length sc,.agg #[.slice va0 v.found.length vc0,.int .u8 v.ans,.slice ra0 v.proof.length rc0]]) rfl zK (by rfl) (by go_simp) HP5.out ?_;rintro e w6 ⟨rfl,hb6⟩;have hb7:=hb5.trans (hb6.mono hb5.size);refine .inl ⟨_,rfl,.inr hb7,?_⟩
    try simp only[pZ]
    have hSS:=hb7;have HBQ:=zh (HBD.out.trans (hb7.mono HBD.out.size));have HIQ:=zh (HI5.out.below hb7)
    rcases hp:provedB c l a b s x v.ans v.proof with _|_
    ·have HNE:=zh (HNE.out fun r=>by rw[hv];simp[verGo,hp]);clear hd he hp hb5 hb6 hb7 hpv HP5 HPV HEQ;generalize w6=wq at *;refine tM K0 23 hSS ?_;obtain⟨z1,z2⟩:=HIQ.out.ok.rules;refine anyL_skip (i:=24) (w':=wq.setCell ⟨g,0,none⟩ (.bool false)) rfl zK (by rfl) ?_ (.inl rfl) ?_
     ·go_simp
      try with_reducible rfl
     try simp only[pZ]
     refine anyL_done zK ?_ _;have hg0:Box (wq.setCell ⟨g,0,none⟩ (.bool false)) g #[.bool false] 4:=HIQ.out.ok.set_ 0 _;have he0:Box (wq.setCell ⟨g,0,none⟩ (.bool false)) (w.heap.size+1) #[.int .i64 0] 30:=HIQ.out.er.far zT _;have hk0:Keep (fun k=>¬VC g w W k) W (wq.setCell ⟨g,0,none⟩ (.bool false)):=(Keep.of_below' HBQ.out).setCell (.inl (by simp[VC])) _;have ho0:Keep (fun k=>k≠g) w (wq.setCell ⟨g,0,none⟩ (.bool false)):=HIQ.out.old.setCell (.inl zS) _;clear z1 z2 hSS K0;generalize wq.setCell ⟨g,0,none⟩ (.bool false)=wz at *;have HG0:=zh hg0;have HE0:=zh he0;have HK0:=zh hk0;have HO0:=zh ho0;have eg:=hg0.cell;obtain⟨z1,z2⟩:=he0.rules;clear hg0 he0 hk0 ho0;refine hK3 _ _ ?_
     gi_wp2_with fail
     exact⟨HK0.out.setCell (.inl (by simp[VC])) _,fun k hk=>.inl hk,rfl,HO0.out.setCell (.inr zS) _,HE0.out.set_ 0 _,HG0.out.far zT _,HNE.out⟩
    ·clear hb5 hb6 hb7 hpv HP5 HPV HEQ;generalize w6=wq at *;refine tM K0 23 hSS ?_;have HALL:=zh (fun r=>(show verGo c l a b s (x::r) (vs.drop pre.length)=verGo c l a b s r vs' by rw[hv];simp[verGo,hd,hp]));obtain⟨z1,z2⟩:=HIQ.out.ok.rules;refine anyL_skip (i:=24) (w':=wq.setCell ⟨g,0,none⟩ (.bool true)) rfl zK (by rfl) ?_ (.inl rfl) ?_
     ·go_simp
      try with_reducible rfl
     try simp only[pZ]
     refine anyL_done zK ?_ _;have hr0:Box (wq.setCell ⟨g,0,none⟩ (.bool true)) (w.heap.size+2) #[.slice (some ⟨b0,o0,none⟩) N rc] 70:=(HR1.out.below' HBQ.out).far zT _;have hg0:Box (wq.setCell ⟨g,0,none⟩ (.bool true)) g #[.bool true] 4:=HIQ.out.ok.set_ 0 _;have hk0:Keep (fun k=>¬VC g w W k) W (wq.setCell ⟨g,0,none⟩ (.bool true)):=(Keep.of_below' HBQ.out).setCell (.inl (by simp[VC])) _;have ho0:Keep (fun k=>k≠g) w (wq.setCell ⟨g,0,none⟩ (.bool true)):=HIQ.out.old.setCell (.inl zS) _;have hl0:Box (wq.setCell ⟨g,0,none⟩ (.bool true)) w.heap.size #[.pointer (some ⟨t,0,none⟩)] 104:=HIQ.out.lb.far zT _;have he0:Box (wq.setCell ⟨g,0,none⟩ (.bool true)) (w.heap.size+1) #[.int .i64 0] 30:=HIQ.out.er.far zT _;have ht0:Box (wq.setCell ⟨g,0,none⟩ (.bool true)) (w.heap.size+3) #[.pointer (some ⟨t,0,none⟩)] 104:=HIQ.out.tb.far zT _
     have hs0:Box (wq.setCell ⟨g,0,none⟩ (.bool true)) (w.heap.size+4) #[.slice sa s.length sc] 26:=HIQ.out.sb.far zT _;have HAL2:=zh HIQ.out.all;clear z1 z2 hSS K0 HI5 HIQ HBQ;generalize wq.setCell ⟨g,0,none⟩ (.bool true)=wz at *;have HR0:=zh hr0;have HG0:=zh hg0;have HK0:=zh hk0;have HO0:=zh ho0;have HL0:=zh hl0;have HE0:=zh he0;have HT0:=zh ht0;have HS0:=zh hs0;have eg:=hg0.cell;have er:=hr0.cell;obtain⟨z1,z2⟩:=hr0.rules;clear hr0 hg0 hk0 ho0 hl0 he0 ht0 hs0 hd he hp;refine hK3 _ _ ?_
     gi_wp2_with fail
     ·have hNv:vs'.length=N-1:=by omega
      refine⟨HK0.out.setCell (.inl (by simp[VC])) _,fun k hk=>.inl hk,HO0.out.setCell (.inr zS) _,HL0.out.far zS _,HE0.out.far zS _,⟨some ⟨b0,o0,none⟩,0,?_,?_,?_⟩,HT0.out.far zS _,HS0.out.far zS _,HG0.out.far zT _,fun r=>?_⟩
      ·rw[HSD.out]
       first|exact HR0.out.set_ 0 _|(rw[hNv];exact HR0.out.set_ 0 _)
      ·rw[HSD.out];omega
      ·intro W' hW';rw[HSD.out];obtain rfl:vs'=[]:=List.eq_nil_of_length_eq_zero zO;intro k v hv;simp at hv
      ·rw[List.append_assoc,HAL2.out,HSD.out];exact HALL.out r
     ·have hNv:vs'.length=N-1:=by omega
      refine⟨HK0.out.setCell (.inl (by simp[VC])) _,fun k hk=>.inl hk,HO0.out.setCell (.inr zS) _,HL0.out.far zS _,HE0.out.far zS _,⟨some ⟨b0,o0+3,none⟩,rc-1,?_,?_,?_⟩,HT0.out.far zS _,HS0.out.far zS _,HG0.out.far zT _,fun r=>?_⟩
      ·rw[HSD.out]
       first|exact HR0.out.set_ 0 _|(rw[hNv];exact HR0.out.set_ 0 _)
      ·rw[HSD.out];omega
      ·intro W' hW';rw[HSD.out];have h3:=HR3.out W' hW';rw[hv] at h3;exact h3.tail
      ·rw[List.append_assoc,HAL2.out,HSD.out];exact HALL.out r
 case done=>
  intro W hi hD;have HI:=zh hi;have HD:=zh hD;obtain⟨ra,rc,r1,r2,r3⟩:=hi.rs;have e2:=r1.cell;obtain⟨z1,z2⟩:=hi.ok.rules;obtain⟨y1,y2⟩:=hi.er.rules;have hfin:checkVersB c l a b s vs=(((vs.drop (outsOf (cntsOf c l s)).length).length:Int)==0):=by
   have:=hi.all [];rw[List.append_nil] at this;unfold checkVersB;rw[this,verGo];cases vs.drop (outsOf (cntsOf c l s)).length<;>simp
   omega
  have HF:=zh hfin;generalize (vs.drop (outsOf (cntsOf c l s)).length).length=n at *;clear hi hD hfin r1 r3
  gi_wp2_with fail
  have hd0:W.heap[w.heap.size+5]?=some (.deferred (some [])):=by have:=HD.out;rwa [gs] at this
  have hd1:((W.setCell ⟨g,0,none⟩ (.bool ((n:Int)==0))).setCell ⟨w.heap.size+1,0,none⟩ (.int .i64 0)).heap[w.heap.size+5]?=some (.deferred (some [])):=(((Keep.refl (fun k=>k=w.heap.size+5) W).setCell (.inl zT) _).setCell (.inl zS) _).heap rfl hd0;have hbx:Box ((W.setCell ⟨g,0,none⟩ (.bool ((n:Int)==0))).setCell ⟨w.heap.size+1,0,none⟩ (.int .i64 0)) g #[.bool ((n:Int)==0)] 4:=(HI.out.ok.set_ 0 _).far zT _;have her:Box ((W.setCell ⟨g,0,none⟩ (.bool ((n:Int)==0))).setCell ⟨w.heap.size+1,0,none⟩ (.int .i64 0)) (w.heap.size+1) #[.int .i64 0] 30:=(HI.out.er.far zT _).set_ 0 _;have hko:Keep (fun k=>k≠g) w ((W.setCell ⟨g,0,none⟩ (.bool ((n:Int)==0))).setCell ⟨w.heap.size+1,0,none⟩ (.int .i64 0)):=((HI.out.old.setCell (.inl zS) _).setCell (.inr zS) _)
  generalize (W.setCell ⟨g,0,none⟩ (.bool ((n:Int)==0))).setCell ⟨w.heap.size+1,0,none⟩ (.int .i64 0)=WE at *;refine⟨by simp,.inl ⟨_,_,rfl,run_takeDeferred (by rw[gs];exact hd1),?_⟩⟩;rw[gs];have hk:Keep (fun k=>k≠w.heap.size+5) WE (WE.putObj (w.heap.size+5) (.deferred none)):=(Keep.refl _ WE).putObj (fun h=>h rfl) _;refine⟨_,results_cell rfl rfl (load_errno9 (hk.heap zO her)),?_⟩;exact⟨0,.bool ((n:Int)==0),rfl,⟨hk.os.trans hko.os,hk.tape.trans hko.tape,hk.output.trans hko.output,Nat.le_trans hko.size hk.size,fun k hkg hl=>(hk.block k zO (Nat.lt_of_lt_of_le hl hko.size)).trans (hko.block k hkg hl)⟩,hk.heap zO hbx,rfl,by rw[HF.out]⟩
 case stop=>
  rintro co pre W hpre ⟨rfl,hx⟩ hD;have HX:=zh hx;have HD:=zh hD;clear hx hD
  gi_wp2_with fail
  have hd1:W.heap[w.heap.size+5]?=some (.deferred (some [])):=by have:=HD.out;rwa [gs] at this
  refine⟨by simp,.inl ⟨_,_,rfl,run_takeDeferred (by rw[gs];exact hd1),?_⟩⟩;rw[gs];have hk:Keep (fun k=>k≠w.heap.size+5) W (W.putObj (w.heap.size+5) (.deferred none)):=(Keep.refl _ W).putObj (fun h=>h rfl) _;have hx:=HX.out.old;refine⟨_,results_cell rfl rfl (load_errno9 (hk.heap zO HX.out.er)),?_⟩;exact⟨0,.bool false,rfl,⟨hk.os.trans hx.os,hk.tape.trans hx.tape,hk.output.trans hx.output,Nat.le_trans hx.size hk.size,fun k hkg hl=>(hk.block k zO (Nat.lt_of_lt_of_le hl hx.size)).trans (hx.block k hkg hl)⟩,hk.heap zO HX.out.ok,rfl,by rw[HX.out.no]⟩
theorem checkVersX_any (c:Cs)(hsm:c.Small)(pa:Option Addr)(pc:Nat)(l:List Prb)(qa:Option Addr)(qc:Nat)(a:Int)(b:Int)(sa:Option Addr)(S:List Int)(sc:Nat)(va:Option Addr)(vs:List Ver)(vc:Nat)(hvs:∀v∈vs,v.Small)(hvl:vs.length≤1000000)(hvc:vs.length≤vc)(w:World)(hp:PartsAt w pa c.parts)(hq:PrbsAt w qa l)(hSl:S.length≤1000)(hS:Ints w sa S)(hv:VersAt w va vs):
 Calls Tryz.prog 39 #[.agg #[.string c.ware,.int .i64 c.limit,.int .i64 c.by_,.slice pa c.parts.length pc],.slice qa l.length qc,.int .i64 a,.int .i64 b,.slice sa S.length sc,.slice va vs.length vc] w (XPost (xErr c l (twoB c.parts.length a b&&setB l.length S)) (.bool false) (BoolOut (checkVersB c l a.toNat b.toNat (nats S) vs)) w):=by
 have hmf:=run_mf Tryz.prog;obtain⟨w4,hw4⟩:=zx ((((((w.alloc (.cells #[.string c.ware,.int .i64 c.limit,.int .i64 c.by_,.slice pa c.parts.length pc] 24)).alloc (.cells #[.int .i64 a] 3)).alloc (.cells #[.int .i64 b] 3)).alloc (.cells #[.slice sa S.length sc] 26)).alloc (.cells #[.slice va vs.length vc] 70)).alloc (.cells #[.bool false] 4));have hB4:Below w.heap.size w w4:=by rw[←hw4];go_grown
 have hs4:w4.heap.size=w.heap.size+6:=by rw[←hw4];simp
 have b0:Box w4 w.heap.size (csCells c pa pc) 24:=by rw[←hw4];exact(((((Box.new _ _ _).alloc _).alloc _).alloc _).alloc _).alloc _
 have b1:Box w4 (w.heap.size+1) #[.int .i64 a] 3:=by rw[←hw4];exact((((Box.new' zS).alloc _).alloc _).alloc _).alloc _
 have b2:Box w4 (w.heap.size+2) #[.int .i64 b] 3:=by rw[←hw4];exact(((Box.new' zS).alloc _).alloc _).alloc _
 have b3:Box w4 (w.heap.size+3) #[.slice sa S.length sc] 26:=by rw[←hw4];exact((Box.new' zS).alloc _).alloc _
 have b4:Box w4 (w.heap.size+4) #[.slice va vs.length vc] 70:=by rw[←hw4];exact(Box.new' zS).alloc _
 have b5:Box w4 (w.heap.size+5) #[.bool false] 4:=by rw[←hw4];exact Box.new' zS
 have hS4:=hS.below hB4;have hask:=asked9_any c hsm pa pc l qa qc 113 #[.pointer (some ⟨w.heap.size+1,0,none⟩),.pointer (some ⟨w.heap.size+2,0,none⟩),.pointer (some ⟨w.heap.size+3,0,none⟩)] 114 #[.pointer (some ⟨w.heap.size+4,0,none⟩),.pointer (some ⟨w.heap.size+5,0,none⟩),.pointer (some ⟨w.heap.size+3,0,none⟩),.pointer (some ⟨w.heap.size+1,0,none⟩),.pointer (some ⟨w.heap.size+2,0,none⟩)] (twoB c.parts.length a b&&setB l.length S)
  (fun er W'=>Below w.heap.size w W'∧∃v,Box W' (w.heap.size+5) #[v] 4∧(BoolOut (checkVersB c l a.toNat b.toNat (nats S) vs)) er v W') w4 (hp.below hB4) (hq.below hB4)
  (fun hpr=>⟨fun args W=>by simp[go_sem],fun W t hW ht hlab=>checkVerdicts1_arg hsm hpr _ _ _ a b sa S sc W hlab (hS4.below hW) zO (b1.below' hW) (b2.below' hW) (b3.below' hW)⟩)
  (fun hpr hok hne=>⟨fun args W=>by simp[go_sem],fun W t hW ht hlab=>by
   simp only[Bool.and_eq_true] at hok;obtain⟨x,y,rfl,rfl,hx,hy⟩:=two_nats hok.1;obtain⟨e1,hsv⟩:=set_nats hok.2;have hl1:(nats S).length=S.length:=by simp[nats]
   refine(checkVers2_any (t:=t) (pa:=pa) (pc:=pc) (qa:=qa) (qc:=qc) hsm hpr (w.heap.size+1) (w.heap.size+2) (w.heap.size+3) (w.heap.size+4) x y hx hy sa (nats S) sc hsv zO va vs vc hvs hvl hvc W (w.heap.size+5) (fun W' hk=>by
    have h4:=hB4.size;have h5:=hW.size;have hbw:Below w.heap.size w W':=(hB4.trans (hW.mono h4)).trans ((hk.mono fun k (hk:k<w.heap.size)=>by omega).below zO);exact⟨⟨hk.heap zO hlab.box,hp.below hbw,hq.below hbw⟩,by rw[←e1];exact hS.below hbw,hv.below hbw⟩) (b1.below' hW) (b2.below' hW) (by rw[hl1];exact b3.below' hW) (b4.below' hW) (b5.below' hW) zO zO zO).mono ?_
   rintro e W' ⟨er,v,rfl,hk,hb,ho⟩;exact⟨er,rfl,(hB4.trans (hW.mono hB4.size)).trans ((hk.mono fun k (hk:k<w.heap.size)=>by omega).below (Nat.le_trans hB4.size hW.size)),v,hb,ho⟩⟩)
 have HA:=zh hask;have HW:=zh hw4;have HB4:=zh hB4;have H3:=zh b5;have e0:=zC (b0);clear hask hw4 hB4 b0 b1 b2 b3 b4 b5 hp hq hs4 hS hS4 hv
 go_enter Tryz.func39,Tryz.ntmps39
 go_upto_region 2 with fail
 simp only[HW.out]
 go_wp2_with fail
 refine zM HA ?_;rintro e w5 hpost;obtain⟨er,rfl,(⟨h1,h2,hb5⟩|⟨h1,hb5,v5,hbx,hout⟩)⟩:=ask_cases hpost
 ·have HB5:=zh (HB4.out.trans (hb5.mono HB4.out.size));have e3:=(H3.out.below' hb5).cell;have H1:=zh (And.intro h1 h2);clear hpost hb5 e0 h1 h2 HA H3
  go_wp2_with fail
  go_ret2
  exact⟨HB5.out,_,er,rfl,.inl ⟨H1.out.1,H1.out.2,rfl⟩⟩
 ·have HB5:=zh hb5;have e3:=hbx.cell;have H1:=zh (And.intro h1 hout);clear hpost hb5 e0 h1 hout hbx HA H3
  go_wp2_with fail
  go_ret2
  exact⟨HB5.out,v5,er,rfl,.inr ⟨H1.out.1,H1.out.2⟩⟩
end
