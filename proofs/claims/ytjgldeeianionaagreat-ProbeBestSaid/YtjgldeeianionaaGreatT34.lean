/- The walks and plain laws of: MQXCan MQXAfter MQXCheap MQXBool MQXSettled. No condition. -/
import Derived.Test.YtjgldeeianionaaGreatT32
import Derived.Test.YtjgldeeianionaaGreatT33
import Derived.Test.YtjgldeeianionaaGreatT01
set_option maxHeartbeats 2000000
set_option maxRecDepth 100000
set_option linter.unusedSimpArgs false
set_option linter.unusedVariables false
namespace Go.Proofs.YtjgldeeianionaaGreat
open Go.RowKit
attribute [local go_sem] Oper.semAt_some
def xErr (c:Cs)(l:List Prb)(okA:Bool):Int:=if probesErr c l≠0 then probesErr c l else if okA then(if(allR c).isEmpty then 61 else 0) else 1
theorem xErr_ok {c:Cs}{l:List Prb}{okA:Bool}(h1:probesErr c l=0)(h2:okA=true)(h3:(allR c).isEmpty=false):xErr c l okA=0:=by simp[xErr,h1,h2,h3]
theorem ask_cases {c:Cs}{l:List Prb}{okA:Bool}{Q:Int→World→Prop}{w w':World}{e:Ending}(h:AskPost c l okA Q w e w'):
 ∃er:Int,e = .returned (.int .i64 er)∧((xErr c l okA≠0∧er=xErr c l okA∧Below w.heap.size w w')∨(xErr c l okA=0∧Q er w')):=by
 obtain⟨er,rfl,h⟩:=h;refine⟨er,rfl,?_⟩
 rcases h with ⟨h1,rfl,hb⟩|⟨h1,h2,rfl,hb⟩|⟨h1,h2,h3,rfl,hb⟩|⟨h1,h2,h3,hq⟩
 ·exact .inl ⟨by simp[xErr,h1],by simp[xErr,h1],hb⟩
 ·exact .inl ⟨by simp[xErr,h1,h2],by simp[xErr,h1,h2],hb⟩
 ·exact .inl ⟨by simp[xErr,h1,h2,h3],by simp[xErr,h1,h2,h3],hb⟩
 ·exact .inr ⟨xErr_ok h1 h2 h3,hq⟩
section
variable {t:Nat}{c:Cs}{pa:Option Addr}{pc:Nat}{l:List Prb}{qa:Option Addr}{qc:Nat}
theorem can2_any (hsm:c.Small)(hpr:probesErr c l=0)(g1 g2 g3:Nat)(sa:Option Addr)(s:List Nat)(sc:Nat)(fa:Option Addr)(fs:List Nat)(fc:Nat)(hs:∀v∈s,v<l.length)(hff:FoundFor c l s fs)(hsl:s.length≤1000)(w:World)(h:LabAt w t c pa pc l qa qc)(hS:Ints w sa (natInts s))(hF:Ints w fa (natInts fs))
 (h1:Box w g1 #[.slice sa s.length sc] 26) (h2:Box w g2 #[.slice fa fs.length fc] 26) (h3:Box w g3 #[.bool false] 4):
 Calls Tryz.prog 66 #[.pointer (some ⟨t,0,none⟩),.pointer (some ⟨g1,0,none⟩),.pointer (some ⟨g2,0,none⟩),.pointer (some ⟨g3,0,none⟩)] w fun e w'=>e = .returned (.int .i64 0)∧Keep (fun k=>k≠g3) w w'∧Box w' g3 #[.bool (canC c l s fs).isSome] 4:=by
 have HC:=zh (can_any hsm hpr sa s sc fa fs fc w h hS hF hsl hff.1 hff.2);have e1:=h1.cell;have e2:=h2.cell;have H3:=zh h3;clear hpr h hS hF h1 h2 h3 hs hff
 go_enter Tryz.func66,Tryz.ntmps66
 go_wp2_with fail
 refine zM HC ?_;rintro e w2 ⟨hb2,(⟨ho,u1,u2,u3,u4,u5,u6,rfl⟩|⟨d,ba,pc',ho,rfl,-⟩)⟩
 ·have HX:=zh (H3.out.below' hb2);have HB:=zh hb2;have HO:=zh ho;obtain⟨z1,z2⟩:=HX.out.rules;clear hb2 ho e1 e2
  go_wp2_with fail
  go_ret
  exact⟨rfl,(Keep.of_below' HB.out).setCell (.inl zS) _,by rw[HO.out];exact HX.out.set_ 0 _⟩
 ·have HX:=zh (H3.out.below' hb2);have HB:=zh hb2;have HO:=zh ho;obtain⟨z1,z2⟩:=HX.out.rules;clear hb2 ho e1 e2
  go_wp2_with fail
  go_ret
  exact⟨rfl,(Keep.of_below' HB.out).setCell (.inl zS) _,by rw[HO.out];exact HX.out.set_ 0 _⟩
end
def BoolE (b:Bool)(er:Int)(w:World)(e:Ending)(w':World):Prop:=Below w.heap.size w w'∧e = .returned (.tuple #[.bool (er==0&&b),.int .i64 er])
theorem canX_any (c:Cs)(hsm:c.Small)(pa:Option Addr)(pc:Nat)(l:List Prb)(qa:Option Addr)(qc:Nat)(sa:Option Addr)(S:List Int)(sc:Nat)(fa:Option Addr)(F:List Int)(fc:Nat)(hSl:S.length≤1000)(hFl:F.length≤1000)(w:World)(hp:PartsAt w pa c.parts)(hq:PrbsAt w qa l)(hS:Ints w sa S)(hF:Ints w fa F):
 Calls Tryz.prog 18 #[.agg #[.string c.ware,.int .i64 c.limit,.int .i64 c.by_,.slice pa c.parts.length pc],.slice qa l.length qc,.slice sa S.length sc,.slice fa F.length fc] w (BoolE (canC c l (nats S) (nats F)).isSome (xErr c l (foundB c l S F)) w):=by
 have hmf:=run_mf Tryz.prog;obtain⟨w4,hw4⟩:=zx ((((w.alloc (.cells #[.string c.ware,.int .i64 c.limit,.int .i64 c.by_,.slice pa c.parts.length pc] 24)).alloc (.cells #[.slice sa S.length sc] 26)).alloc (.cells #[.slice fa F.length fc] 26)).alloc (.cells #[.bool false] 4));have hB4:Below w.heap.size w w4:=by rw[←hw4];go_grown
 have b0:Box w4 w.heap.size (csCells c pa pc) 24:=by rw[←hw4];exact(((Box.new _ _ _).alloc _).alloc _).alloc _
 have b1:Box w4 (w.heap.size+1) #[.slice sa S.length sc] 26:=by rw[←hw4];exact((Box.new' zS).alloc _).alloc _
 have b2:Box w4 (w.heap.size+2) #[.slice fa F.length fc] 26:=by rw[←hw4];exact(Box.new' zS).alloc _
 have b3:Box w4 (w.heap.size+3) #[.bool false] 4:=by rw[←hw4];exact Box.new' zS
 have hS4:=hS.below hB4;have hF4:=hF.below hB4;have hask:=asked9_any c hsm pa pc l qa qc 65 #[.pointer (some ⟨w.heap.size+1,0,none⟩),.pointer (some ⟨w.heap.size+2,0,none⟩)] 66 #[.pointer (some ⟨w.heap.size+1,0,none⟩),.pointer (some ⟨w.heap.size+2,0,none⟩),.pointer (some ⟨w.heap.size+3,0,none⟩)] (foundB c l S F)
  (fun er W'=>er=0∧Box W' (w.heap.size+3) #[.bool (canC c l (nats S) (nats F)).isSome] 4∧Below w.heap.size w W') w4 (hp.below hB4) (hq.below hB4)
  (fun hpr=>⟨fun args W=>by simp[go_sem],fun W t hW ht hlab=>can1_arg hpr _ _ sa S sc fa F fc W hlab (hS4.below hW) (hF4.below hW) zO zO (b1.below' hW) (b2.below' hW)⟩)
  (fun hpr hok _=>⟨fun args W=>by simp[go_sem],fun W t hW ht hlab=>by
   obtain⟨e1,e2,hsv,hff⟩:=found_nats hok;have hl1:(nats S).length=S.length:=by simp[nats]
   have hl2:(nats F).length=F.length:=by simp[nats]
   refine(can2_any hsm hpr _ _ _ sa (nats S) sc fa (nats F) fc hsv hff zO W hlab (by rw[←e1];exact hS4.below hW) (by rw[←e2];exact hF4.below hW) (by rw[hl1];exact b1.below' hW) (by rw[hl2];exact b2.below' hW) (b3.below' hW)).mono ?_;rintro e W' ⟨rfl,hk,hb⟩;exact⟨0,rfl,rfl,hb,hB4.trans (hW.mono hB4.size) |>.trans ((hk.mono fun k (hk:k<w.heap.size)=>by omega).below (Nat.le_trans hB4.size hW.size))⟩⟩)
 have HA:=zh hask;have HW:=zh hw4;have HB4:=zh hB4;have H3:=zh b3;have e0:=zC (b0);obtain⟨er0,her⟩:=zx (xErr c l (foundB c l S F));have HER:=zh her;clear hask hw4 hB4 b0 b1 b2 b3 hp hq hS hF hS4 hF4 her
 go_enter Tryz.func18,Tryz.ntmps18
 go_upto_region 2 with fail
 simp only[HW.out]
 go_wp2_with fail
 refine zM HA ?_;rintro e w5 hpost;obtain⟨er,rfl,(⟨h1,rfl,hb5⟩|⟨h1,rfl,hbx,hb5⟩)⟩:=ask_cases hpost
 ·have HB5:=zh (HB4.out.trans (hb5.mono HB4.out.size));have e3:=(H3.out.below' hb5).cell;have H1:=zh h1;clear hpost hb5 e0 h1
  go_wp2_with fail
  go_ret2
  refine⟨HB5.out,?_⟩;rw[show(xErr c l (foundB c l S F)==0)=false from beq_eq_false_iff_ne.2 H1.out]
  rfl
 ·have HB5:=zh hb5;have e3:=hbx.cell;have H1:=zh h1;clear hpost hb5 e0 h1
  go_wp2_with fail
  go_ret2
  refine⟨HB5.out,?_⟩;rw[H1.out]
  simp
theorem results_ctt {P:Program}{fn:Func}{t u x:Tmp}{ty:TypeId}(h:fn.results = #[.cell t ty,.tmp u,.tmp x]){tmps:Array Value}{w:World}{p:Addr}{v:Value}(hp:tmps.getD t undef = .pointer (some p))
 (hr:(loadVar ty p).run P w = .ok v w):(results fn tmps).run P w = .ok (.tuple #[v,tmps.getD u undef,tmps.getD x undef]) w:=by
 have hp':tmps[t]?.getD undef = .pointer (some p):=by simpa using hp
 simp[results,h,hp',asAddr,hr]
def AftCells (o:Option Cs)(B:Nat)(W:World)(cs:Array Value)(b:Bool):Prop:=
 (o=none∧b=false∧cs = #[.string ⟨#[]⟩,.int .i64 0,.int .i64 0,.slice none 0 0])∨∃d ba pc',o=some d∧b=true∧cs = #[.string d.ware,.int .i64 d.limit,.int .i64 d.by_,.slice ba d.parts.length pc']∧PartsHi B W ba d.parts
theorem AftCells.keep {o:Option Cs}{B:Nat}{W W':World}{cs:Array Value}{b:Bool}(h:AftCells o B W cs b)(hk:Keep (fun k=>B≤k) W W'):AftCells o B W' cs b:=by
 rcases h with h|⟨d,ba,pc',h1,h2,h3,h4⟩
 ·exact .inl h
 ·exact .inr ⟨d,ba,pc',h1,h2,h3,h4.keep hk⟩
theorem AftCells.mono {o:Option Cs}{B B':Nat}{W:World}{cs:Array Value}{b:Bool}(h:AftCells o B W cs b)(hB:B'≤B):AftCells o B' W cs b:=by
 rcases h with h|⟨d,ba,pc',h1,h2,h3,h4⟩
 ·exact .inl h
 ·exact .inr ⟨d,ba,pc',h1,h2,h3,h4.mono hB⟩
theorem AftCells.four {o:Option Cs}{B:Nat}{W:World}{cs:Array Value}{b:Bool}(h:AftCells o B W cs b):∃u1 u2 u3 u4 u5 u6,cs = #[.string u1,.int .i64 u2,.int .i64 u3,.slice u4 u5 u6]:=by
 rcases h with ⟨_,_,rfl⟩|⟨d,ba,pc',_,_,rfl,_⟩<;>exact⟨_,_,_,_,_,_,rfl⟩
section
variable {t:Nat}{c:Cs}{pa:Option Addr}{pc:Nat}{l:List Prb}{qa:Option Addr}{qc:Nat}
theorem after2_any (hsm:c.Small)(hpr:probesErr c l=0)(g1 g2 g3:Nat)(hg:g3+2≤t)(sa:Option Addr)(s:List Nat)(sc:Nat)(fa:Option Addr)(fs:List Nat)(fc:Nat)(hff:FoundFor c l s fs)(hsl:s.length≤1000)(w:World)(h:LabAt w t c pa pc l qa qc)(hS:Ints w sa (natInts s))(hF:Ints w fa (natInts fs))
 (h1:Box w g1 #[.slice sa s.length sc] 26) (h2:Box w g2 #[.slice fa fs.length fc] 26) (h3:Box w g3 #[.string ⟨#[]⟩,.int .i64 0,.int .i64 0,.slice none 0 0] 24) (h4:Box w (g3+1) #[.bool false] 4):
 Calls Tryz.prog 61 #[.pointer (some ⟨t,0,none⟩),.pointer (some ⟨g1,0,none⟩),.pointer (some ⟨g2,0,none⟩),.pointer (some ⟨g3,0,none⟩),.pointer (some ⟨g3+1,0,none⟩)] w fun e w'=>e = .returned (.int .i64 0)∧Keep (fun k=>k≠g3∧k≠g3+1) w w'∧∃cs b,Box w' g3 cs 24∧Box w' (g3+1) #[.bool b] 4∧AftCells (afterC c l s fs) t w' cs b:=by
 have htl:t<w.heap.size:=h.box.lt;have HC:=zh (after_all hsm hpr sa s sc fa fs fc w h hS hF hsl hff.1 hff.2);have e1:=h1.cell;have e2:=h2.cell;have H3:=zh h3;have H4:=zh h4;clear hpr h hS hF h1 h2 h3 h4 hff
 go_enter Tryz.func61,Tryz.ntmps61
 go_wp2_with fail
 refine zM HC ?_;rintro e w2 hpost;obtain⟨hb2,(⟨ho,rfl⟩|⟨d,ba,pc',ho,rfl,hpt⟩)⟩:=hpost.some_
 ·have HX:=zh (H3.out.below' hb2);have HY:=zh (H4.out.below' hb2);have HB:=zh hb2;have HO:=zh ho;obtain⟨z1,z2⟩:=HX.out.rules;obtain⟨y1,y2⟩:=HY.out.rules;clear hb2 ho hpost e1 e2
  go_wp2_with fail
  go_ret
  refine⟨rfl,?_,_,_,((((HX.out.set_ 0 _).set_ 1 _).set_ 2 _).set_ 3 _).far zS _,((((HY.out.far zS _).far zS _).far zS _).far zS _).set_ 0 _,.inl ⟨HO.out,rfl,rfl⟩⟩;exact(((((Keep.of_below' HB.out).setCell (.inl zS) _).setCell (.inl zS) _).setCell (.inl zS) _).setCell (.inl zS) _).setCell (.inl zS) _
 ·have HX:=zh (H3.out.below' hb2);have HY:=zh (H4.out.below' hb2);have HB:=zh hb2;have HO:=zh ho;have HPT:=zh (hpt.mono (Nat.le_of_lt htl));obtain⟨z1,z2⟩:=HX.out.rules;obtain⟨y1,y2⟩:=HY.out.rules;clear hb2 ho hpost hpt e1 e2
  go_wp2_with fail
  go_ret
  refine⟨rfl,?_,_,_,((((HX.out.set_ 0 _).set_ 1 _).set_ 2 _).set_ 3 _).far zS _,((((HY.out.far zS _).far zS _).far zS _).far zS _).set_ 0 _,.inr ⟨d,ba,pc',HO.out,rfl,rfl,?_⟩⟩
  ·exact(((((Keep.of_below' HB.out).setCell (.inl zS) _).setCell (.inl zS) _).setCell (.inl zS) _).setCell (.inl zS) _).setCell (.inl zS) _
  ·exact HPT.out.keep ((((((Keep.refl _ w2).setCell (.inl zT) _).setCell (.inl zT) _).setCell (.inl zT) _).setCell (.inl zT) _).setCell (.inl zT) _)
end
def AfterPost (o:Option Cs)(er:Int)(w:World)(e:Ending)(w':World):Prop:=
 Below w.heap.size w w'∧∃cs b,e = .returned (.tuple #[.agg cs,.bool b,.int .i64 er])∧AftCells (if er=0 then o else none) w.heap.size w' cs b
theorem afterX_any (c:Cs)(hsm:c.Small)(pa:Option Addr)(pc:Nat)(l:List Prb)(qa:Option Addr)(qc:Nat)(sa:Option Addr)(S:List Int)(sc:Nat)(fa:Option Addr)(F:List Int)(fc:Nat)(hSl:S.length≤1000)(hFl:F.length≤1000)(w:World)(hp:PartsAt w pa c.parts)(hq:PrbsAt w qa l)(hS:Ints w sa S)(hF:Ints w fa F):
 Calls Tryz.prog 16 #[.agg #[.string c.ware,.int .i64 c.limit,.int .i64 c.by_,.slice pa c.parts.length pc],.slice qa l.length qc,.slice sa S.length sc,.slice fa F.length fc] w (AfterPost (afterC c l (nats S) (nats F)) (xErr c l (foundB c l S F)) w):=by
 have hmf:=run_mf Tryz.prog;obtain⟨w4,hw4⟩:=zx ((((((w.alloc (.cells #[.string c.ware,.int .i64 c.limit,.int .i64 c.by_,.slice pa c.parts.length pc] 24)).alloc (.cells #[.slice sa S.length sc] 26)).alloc (.cells #[.slice fa F.length fc] 26)).alloc (.cells #[.string ⟨#[]⟩,.int .i64 0,.int .i64 0,.slice none 0 0] 24)).alloc (.cells #[.string ⟨#[]⟩,.int .i64 0,.int .i64 0,.slice none 0 0] 24)).alloc (.cells #[.bool false] 4));have hB4:Below w.heap.size w w4:=by rw[←hw4];go_grown
 have hs4:w4.heap.size=w.heap.size+6:=by rw[←hw4];simp
 have b0:Box w4 w.heap.size (csCells c pa pc) 24:=by rw[←hw4];exact(((((Box.new _ _ _).alloc _).alloc _).alloc _).alloc _).alloc _
 have b1:Box w4 (w.heap.size+1) #[.slice sa S.length sc] 26:=by rw[←hw4];exact((((Box.new' zS).alloc _).alloc _).alloc _).alloc _
 have b2:Box w4 (w.heap.size+2) #[.slice fa F.length fc] 26:=by rw[←hw4];exact(((Box.new' zS).alloc _).alloc _).alloc _
 have b3:Box w4 (w.heap.size+3) #[.string ⟨#[]⟩,.int .i64 0,.int .i64 0,.slice none 0 0] 24:=by rw[←hw4];exact((Box.new' zS).alloc _).alloc _
 have b4:Box w4 (w.heap.size+4) #[.string ⟨#[]⟩,.int .i64 0,.int .i64 0,.slice none 0 0] 24:=by rw[←hw4];exact(Box.new' zS).alloc _
 have b5:Box w4 (w.heap.size+5) #[.bool false] 4:=by rw[←hw4];exact Box.new' zS
 have hS4:=hS.below hB4;have hF4:=hF.below hB4;have hask:=asked9_any c hsm pa pc l qa qc 59 #[.pointer (some ⟨w.heap.size+1,0,none⟩),.pointer (some ⟨w.heap.size+2,0,none⟩)] 61 #[.pointer (some ⟨w.heap.size+1,0,none⟩),.pointer (some ⟨w.heap.size+2,0,none⟩),.pointer (some ⟨w.heap.size+4,0,none⟩),.pointer (some ⟨w.heap.size+5,0,none⟩)] (foundB c l S F)
  (fun er W'=>er=0∧Below w.heap.size w W'∧Box W' (w.heap.size+3) #[.string ⟨#[]⟩,.int .i64 0,.int .i64 0,.slice none 0 0] 24∧∃cs b,Box W' (w.heap.size+4) cs 24∧Box W' (w.heap.size+5) #[.bool b] 4∧AftCells (afterC c l (nats S) (nats F)) (w.heap.size+6) W' cs b) w4 (hp.below hB4) (hq.below hB4)
  (fun hpr=>⟨fun args W=>by simp[go_sem],fun W t hW ht hlab=>after1_arg hpr _ _ sa S sc fa F fc W hlab (hS4.below hW) (hF4.below hW) zO zO (b1.below' hW) (b2.below' hW)⟩)
  (fun hpr hok _=>⟨fun args W=>by simp[go_sem],fun W t hW ht hlab=>by
   obtain⟨e1,e2,hsv,hff⟩:=found_nats hok;have hl1:(nats S).length=S.length:=by simp[nats]
   have hl2:(nats F).length=F.length:=by simp[nats]
   refine(after2_any hsm hpr (w.heap.size+1) (w.heap.size+2) (w.heap.size+4) zO sa (nats S) sc fa (nats F) fc hff zO W hlab (by rw[←e1];exact hS4.below hW) (by rw[←e2];exact hF4.below hW) (by rw[hl1];exact b1.below' hW) (by rw[hl2];exact b2.below' hW) (b4.below' hW) (b5.below' hW)).mono ?_;rintro e W' ⟨rfl,hk,cs,b,h1,h2,h3⟩;exact⟨0,rfl,rfl,(hB4.trans (hW.mono hB4.size)).trans ((hk.mono fun k (hk:k<w.heap.size)=>by omega).below (Nat.le_trans hB4.size hW.size)),hk.heap zO (b3.below' hW),cs,b,h1,h2,h3.mono zO⟩⟩)
 have HA:=zh hask;have HW:=zh hw4;have HB4:=zh hB4;have H3:=zh b3;have H4:=zh b4;have H5:=zh b5;have e0:=zC (b0);obtain⟨er0,her⟩:=zx (xErr c l (foundB c l S F));have HER:=zh her;clear hask hw4 hB4 b0 b1 b2 b3 b4 b5 hp hq hS hF hS4 hF4 her hs4
 go_enter Tryz.func16,Tryz.ntmps16
 go_upto_region 3 with fail
 simp only[HW.out]
 go_wp2_with fail
 refine zM HA ?_;rintro e w5 hpost;obtain⟨er,rfl,hcs⟩:=ask_cases hpost;have hcom:Below w.heap.size w w5∧Box w5 (w.heap.size+3) #[.string ⟨#[]⟩,.int .i64 0,.int .i64 0,.slice none 0 0] 24∧er=xErr c l (foundB c l S F)∧∃cs b,Box w5 (w.heap.size+4) cs 24∧Box w5 (w.heap.size+5) #[.bool b] 4∧AftCells (if er=0 then afterC c l (nats S) (nats F) else none) (w.heap.size+6) w5 cs b:=by
  rcases hcs with ⟨h1,rfl,hb5⟩|⟨h1,rfl,hb5,h3,cs,b,h4,h5,h6⟩
  ·exact⟨HB4.out.trans (hb5.mono HB4.out.size),H3.out.below' hb5,rfl,_,_,H4.out.below' hb5,H5.out.below' hb5,.inl ⟨if_neg h1,rfl,rfl⟩⟩
  ·exact⟨hb5,h3,h1.symm,cs,b,h4,h5,by simpa using h6⟩
 obtain⟨hb5,h3,her,cs,b,h4,h5,h6⟩:=hcom;obtain⟨u1,u2,u3,u4,u5,u6,hcse⟩:=h6.four;subst hcse;have HB5:=zh hb5;have HR:=zh h3;have HX:=zh h4;have HY:=zh h5;have HC:=zh h6;have HE:=zh her;clear hcs hpost e0 hb5 h3 h4 h5 h6 her HA
 go_wp2_with fail
 have K0:Hid (∀A,Box A (w.heap.size+4) #[.string u1,.int .i64 u2,.int .i64 u3,.slice u4 u5 u6] 24∧Box A (w.heap.size+5) #[.bool b] 4→(∀j,A.cell? ⟨w.heap.size+4,j,none⟩=(#[.string u1,.int .i64 u2,.int .i64 u3,.slice u4 u5 u6]:Array Value)[j]?)∧(∀j,A.cell? ⟨w.heap.size+5,j,none⟩=(#[.bool b]:Array Value)[j]?)):=zh fun A hA=>⟨hA.1.cell,hA.2.cell⟩
 refine wp_region_L (fun A=>Box A (w.heap.size+4) #[.string u1,.int .i64 u2,.int .i64 u3,.slice u4 u5 u6] 24∧Box A (w.heap.size+5) #[.bool b] 4) 6 zK ?_;have hSS:Box w5.drew (w.heap.size+4) #[.string u1,.int .i64 u2,.int .i64 u3,.slice u4 u5 u6] 24∧Box w5.drew (w.heap.size+5) #[.bool b] 4:=⟨HX.out,HY.out⟩
 have hR:Box w5.drew (w.heap.size+3) #[.string ⟨#[]⟩,.int .i64 0,.int .i64 0,.slice none 0 0] 24:=HR.out;have hB:Below w.heap.size w w5.drew:=HB5.out.drew;have hC:AftCells (if er=0 then afterC c l (nats S) (nats F) else none) (w.heap.size+6) w5.drew #[.string u1,.int .i64 u2,.int .i64 u3,.slice u4 u5 u6] b:=HC.out.keep (Keep.refl _ w5).drew;generalize w5.drew=w6 at *;refine tM K0 0 hSS ?_;refine tM K0 1 hSS ?_;refine tM K0 2 hSS ?_;obtain⟨z1,z2⟩:=hR.rules
 have hS2:Box ((((w6.setCell ⟨w.heap.size+3,0,none⟩ (.string u1)).setCell ⟨w.heap.size+3,1,none⟩ (.int .i64 u2)).setCell ⟨w.heap.size+3,2,none⟩ (.int .i64 u3)).setCell ⟨w.heap.size+3,3,none⟩ (.slice u4 u5 u6)) (w.heap.size+4) #[.string u1,.int .i64 u2,.int .i64 u3,.slice u4 u5 u6] 24∧Box ((((w6.setCell ⟨w.heap.size+3,0,none⟩ (.string u1)).setCell ⟨w.heap.size+3,1,none⟩ (.int .i64 u2)).setCell ⟨w.heap.size+3,2,none⟩ (.int .i64 u3)).setCell ⟨w.heap.size+3,3,none⟩ (.slice u4 u5 u6)) (w.heap.size+5) #[.bool b] 4:=
  ⟨(((hSS.1.far zS _).far zS _).far zS _).far zS _,(((hSS.2.far zS _).far zS _).far zS _).far zS _⟩
 refine anyL_skip (i:=3) (w':=(((w6.setCell ⟨w.heap.size+3,0,none⟩ (.string u1)).setCell ⟨w.heap.size+3,1,none⟩ (.int .i64 u2)).setCell ⟨w.heap.size+3,2,none⟩ (.int .i64 u3)).setCell ⟨w.heap.size+3,3,none⟩ (.slice u4 u5 u6)) rfl zK (by rfl) ?_ (.inr hS2) ?_
 ·go_simp
  try with_reducible rfl
 try simp only[pZ]
 refine anyL_run (i:=4) (v:=.bool b) (w':=(((w6.setCell ⟨w.heap.size+3,0,none⟩ (.string u1)).setCell ⟨w.heap.size+3,1,none⟩ (.int .i64 u2)).setCell ⟨w.heap.size+3,2,none⟩ (.int .i64 u3)).setCell ⟨w.heap.size+3,3,none⟩ (.slice u4 u5 u6)) rfl zK (by rfl) (by go_simp) (.inr hS2) ?_
 try simp only[pZ]
 refine anyL_run (i:=5) (v:=.int .i64 er) (w':=(((w6.setCell ⟨w.heap.size+3,0,none⟩ (.string u1)).setCell ⟨w.heap.size+3,1,none⟩ (.int .i64 u2)).setCell ⟨w.heap.size+3,2,none⟩ (.int .i64 u3)).setCell ⟨w.heap.size+3,3,none⟩ (.slice u4 u5 u6)) rfl zK (by rfl) (by go_simp) (.inr hS2) ?_
 try simp only[pZ]
 refine anyL_done zK ?_ _;have HR6:=zh ((((hR.set_ 0 (.string u1)).set_ 1 (.int .i64 u2)).set_ 2 (.int .i64 u3)).set_ 3 (.slice u4 u5 u6));have HB6:=zh ((((hB.setCell (p:=⟨w.heap.size+3,0,none⟩) zS (.string u1)).setCell (p:=⟨w.heap.size+3,1,none⟩) zS (.int .i64 u2)).setCell (p:=⟨w.heap.size+3,2,none⟩) zS (.int .i64 u3)).setCell (p:=⟨w.heap.size+3,3,none⟩) zS (.slice u4 u5 u6));have HC6:=zh (hC.keep ((((Keep.refl (fun k=>w.heap.size+6≤k) w6).setCell (p:=⟨w.heap.size+3,0,none⟩) (.inl zS) (.string u1)).setCell (p:=⟨w.heap.size+3,1,none⟩) (.inl zS) (.int .i64 u2)).setCell (p:=⟨w.heap.size+3,2,none⟩) (.inl zS) (.int .i64 u3) |>.setCell (p:=⟨w.heap.size+3,3,none⟩) (.inl zS) (.slice u4 u5 u6)));clear hSS hS2 hR hB hC z1 z2 K0 HC
 generalize (((w6.setCell ⟨w.heap.size+3,0,none⟩ (.string u1)).setCell ⟨w.heap.size+3,1,none⟩ (.int .i64 u2)).setCell ⟨w.heap.size+3,2,none⟩ (.int .i64 u3)).setCell ⟨w.heap.size+3,3,none⟩ (.slice u4 u5 u6)=w7 at *
 go_wp2_with fail
 refine bodyPost_ret (results_ctt rfl rfl (run_loadVar_row _ _ 24 24 _ (0,0) _ HR6.out Tryz.underlying24 rfl case_size)) rfl ?_;refine⟨HB6.out,_,b,by rw[←HE.out];rfl,?_⟩;rw[←HE.out];exact HC6.out.mono zO
def PlanCells (l:List Prb)(o:Option (List Nat))(B M:Nat)(W:World)(cs:Array Value)(b:Bool):Prop:=
 (o=none∧b=false∧cs = #[.slice none 0 0,.int .i64 0])∨∃x ra rc,o=some x∧b=true∧cs = #[.slice ra x.length rc,.int .i64 (costOf l x)]∧IntsHi B M W ra (natInts x)∧x.length≤rc
theorem PlanCells.keep {l:List Prb}{o:Option (List Nat)}{B M:Nat}{W W':World}{cs:Array Value}{b:Bool}(h:PlanCells l o B M W cs b)(hk:Keep (fun k=>B≤k∧k<M) W W'):PlanCells l o B M W' cs b:=by
 rcases h with h|⟨x,ra,rc,h1,h2,h3,h4,h5⟩
 ·exact .inl h
 ·exact .inr ⟨x,ra,rc,h1,h2,h3,h4.keep hk,h5⟩
theorem PlanCells.mono {l:List Prb}{o:Option (List Nat)}{B B' M M':Nat}{W:World}{cs:Array Value}{b:Bool}(h:PlanCells l o B M W cs b)(hB:B'≤B)(hM:M≤M'):PlanCells l o B' M' W cs b:=by
 rcases h with h|⟨x,ra,rc,h1,h2,h3,h4,h5⟩
 ·exact .inl h
 ·exact .inr ⟨x,ra,rc,h1,h2,h3,h4.mono hB hM,h5⟩
theorem PlanCells.two {l:List Prb}{o:Option (List Nat)}{B M:Nat}{W:World}{cs:Array Value}{b:Bool}(h:PlanCells l o B M W cs b):∃u1 u2 u3 u4,cs = #[.slice u1 u2 u3,.int .i64 u4]:=by
 rcases h with ⟨_,_,rfl⟩|⟨x,ra,rc,_,_,rfl,_⟩<;>exact⟨_,_,_,_,rfl⟩
theorem two_nats {n:Nat}{a b:Int}(h:twoB n a b=true):∃x y:Nat,a=x∧b=y∧x<n∧y<n:=by
 simp only[twoB,inB,Bool.and_eq_true,decide_eq_true_eq] at h;exact⟨a.toNat,b.toNat,zO,zO,zO,zO⟩
section
variable {t:Nat}{c:Cs}{pa:Option Addr}{pc:Nat}{l:List Prb}{qa:Option Addr}{qc:Nat}
theorem cheapest2_any (hsm:c.Small)(hpr:probesErr c l=0)(g1 g2 g3:Nat)(hg:g3+2≤t)(a b:Nat)(ha:a<c.parts.length)(hb:b<c.parts.length)(w:World)(h:LabAt w t c pa pc l qa qc)
 (h1:Box w g1 #[.int .i64 a] 3) (h2:Box w g2 #[.int .i64 b] 3) (h3:Box w g3 #[.slice none 0 0,.int .i64 0] 42) (h4:Box w (g3+1) #[.bool false] 4):
 Calls Tryz.prog 80 #[.pointer (some ⟨t,0,none⟩),.pointer (some ⟨g1,0,none⟩),.pointer (some ⟨g2,0,none⟩),.pointer (some ⟨g3,0,none⟩),.pointer (some ⟨g3+1,0,none⟩)] w fun e w'=>e = .returned (.int .i64 0)∧Keep (fun k=>k≠g3∧k≠g3+1) w w'∧∃cs b',Box w' g3 cs 42∧Box w' (g3+1) #[.bool b'] 4∧PlanCells l (cheapestOf c l a b) t w'.heap.size w' cs b':=by
 have htl:t<w.heap.size:=h.box.lt;have HC:=zh (cheapest_any hsm hpr a b ha hb w h);have e1:=h1.cell;have e2:=h2.cell;have H3:=zh h3;have H4:=zh h4;clear hpr h h1 h2 h3 h4
 go_enter Tryz.func80,Tryz.ntmps80
 go_wp2_with fail
 refine zM HC ?_;rintro e w2 ⟨hb2,(⟨ho,rfl⟩|⟨x,ra,rc,ho,rfl,hi,hrc⟩)⟩
 ·have HX:=zh (H3.out.below' hb2);have HY:=zh (H4.out.below' hb2);have HB:=zh hb2;have HO:=zh ho;obtain⟨z1,z2⟩:=HX.out.rules;obtain⟨y1,y2⟩:=HY.out.rules;clear hb2 ho e1 e2
  go_wp2_with fail
  go_ret
  refine⟨rfl,?_,_,_,((HX.out.set_ 0 _).set_ 1 _).far zS _,((HY.out.far zS _).far zS _).set_ 0 _,.inl ⟨HO.out,rfl,rfl⟩⟩;exact(((Keep.of_below' HB.out).setCell (.inl zS) _).setCell (.inl zS) _).setCell (.inl zS) _
 ·have HX:=zh (H3.out.below' hb2);have HY:=zh (H4.out.below' hb2);have HB:=zh hb2;have HO:=zh ho;have HI:=zh (hi.mono (Nat.le_of_lt htl) (Nat.le_refl _));obtain⟨z1,z2⟩:=HX.out.rules;obtain⟨y1,y2⟩:=HY.out.rules;clear hb2 ho hi e1 e2
  go_wp2_with fail
  go_ret
  refine⟨rfl,?_,_,_,((HX.out.set_ 0 _).set_ 1 _).far zS _,((HY.out.far zS _).far zS _).set_ 0 _,.inr ⟨x,ra,rc,HO.out,rfl,rfl,?_,hrc⟩⟩
  ·exact(((Keep.of_below' HB.out).setCell (.inl zS) _).setCell (.inl zS) _).setCell (.inl zS) _
  ·exact(HI.out.keep ((((Keep.refl _ w2).setCell (.inl zT) _).setCell (.inl zT) _).setCell (.inl zT) _)).mono (Nat.le_refl _) zS
end
def PlanX (l:List Prb)(o:Option (List Nat))(er:Int)(w:World)(e:Ending)(w':World):Prop:=
 Below w.heap.size w w'∧∃cs bb,e = .returned (.tuple #[.agg cs,.bool bb,.int .i64 er])∧PlanCells l (if er=0 then o else none) w.heap.size w'.heap.size w' cs bb
theorem cheapestX_any (c:Cs)(hsm:c.Small)(pa:Option Addr)(pc:Nat)(l:List Prb)(qa:Option Addr)(qc:Nat)(a b:Int)(w:World)(hp:PartsAt w pa c.parts)(hq:PrbsAt w qa l):
 Calls Tryz.prog 24 #[.agg #[.string c.ware,.int .i64 c.limit,.int .i64 c.by_,.slice pa c.parts.length pc],.slice qa l.length qc,.int .i64 a,.int .i64 b] w (PlanX l (cheapestOf c l a.toNat b.toNat) (xErr c l (twoB c.parts.length a b)) w):=by
 have hmf:=run_mf Tryz.prog;obtain⟨w4,hw4⟩:=zx ((((((w.alloc (.cells #[.string c.ware,.int .i64 c.limit,.int .i64 c.by_,.slice pa c.parts.length pc] 24)).alloc (.cells #[.int .i64 a] 3)).alloc (.cells #[.int .i64 b] 3)).alloc (.cells #[.slice none 0 0,.int .i64 0] 42)).alloc (.cells #[.slice none 0 0,.int .i64 0] 42)).alloc (.cells #[.bool false] 4));have hB4:Below w.heap.size w w4:=by rw[←hw4];go_grown
 have hs4:w4.heap.size=w.heap.size+6:=by rw[←hw4];simp
 have b0:Box w4 w.heap.size (csCells c pa pc) 24:=by rw[←hw4];exact(((((Box.new _ _ _).alloc _).alloc _).alloc _).alloc _).alloc _
 have b1:Box w4 (w.heap.size+1) #[.int .i64 a] 3:=by rw[←hw4];exact((((Box.new' zS).alloc _).alloc _).alloc _).alloc _
 have b2:Box w4 (w.heap.size+2) #[.int .i64 b] 3:=by rw[←hw4];exact(((Box.new' zS).alloc _).alloc _).alloc _
 have b3:Box w4 (w.heap.size+3) #[.slice none 0 0,.int .i64 0] 42:=by rw[←hw4];exact((Box.new' zS).alloc _).alloc _
 have b4:Box w4 (w.heap.size+4) #[.slice none 0 0,.int .i64 0] 42:=by rw[←hw4];exact(Box.new' zS).alloc _
 have b5:Box w4 (w.heap.size+5) #[.bool false] 4:=by rw[←hw4];exact Box.new' zS
 have hask:=asked9_any c hsm pa pc l qa qc 78 #[.pointer (some ⟨w.heap.size+1,0,none⟩),.pointer (some ⟨w.heap.size+2,0,none⟩)] 80 #[.pointer (some ⟨w.heap.size+1,0,none⟩),.pointer (some ⟨w.heap.size+2,0,none⟩),.pointer (some ⟨w.heap.size+4,0,none⟩),.pointer (some ⟨w.heap.size+5,0,none⟩)] (twoB c.parts.length a b)
  (fun er W'=>er=0∧Below w.heap.size w W'∧Box W' (w.heap.size+3) #[.slice none 0 0,.int .i64 0] 42∧∃cs bb,Box W' (w.heap.size+4) cs 42∧Box W' (w.heap.size+5) #[.bool bb] 4∧PlanCells l (cheapestOf c l a.toNat b.toNat) (w.heap.size+6) W'.heap.size W' cs bb) w4 (hp.below hB4) (hq.below hB4)
  (fun hpr=>⟨fun args W=>by simp[go_sem],fun W t hW ht hlab=>cheapest1_arg hsm _ _ a b W hlab (b1.below' hW) (b2.below' hW)⟩)
  (fun hpr hok _=>⟨fun args W=>by simp[go_sem],fun W t hW ht hlab=>by
   obtain⟨x,y,rfl,rfl,hx,hy⟩:=two_nats hok;refine(cheapest2_any hsm hpr (w.heap.size+1) (w.heap.size+2) (w.heap.size+4) zO x y hx hy W hlab (b1.below' hW) (b2.below' hW) (b4.below' hW) (b5.below' hW)).mono ?_;rintro e W' ⟨rfl,hk,cs,bb,h1,h2,h3⟩;exact⟨0,rfl,rfl,(hB4.trans (hW.mono hB4.size)).trans ((hk.mono fun k (hk:k<w.heap.size)=>by omega).below (Nat.le_trans hB4.size hW.size)),hk.heap zO (b3.below' hW),cs,bb,h1,h2,h3.mono zO (Nat.le_refl _)⟩⟩)
 have HA:=zh hask;have HW:=zh hw4;have HB4:=zh hB4;have H3:=zh b3;have H4:=zh b4;have H5:=zh b5;have e0:=zC (b0);obtain⟨er0,her⟩:=zx (xErr c l (twoB c.parts.length a b));have HER:=zh her;clear hask hw4 hB4 b0 b1 b2 b3 b4 b5 hp hq her hs4
 go_enter Tryz.func24,Tryz.ntmps24
 go_upto_region 3 with fail
 simp only[HW.out]
 go_wp2_with fail
 refine zM HA ?_;rintro e w5 hpost;obtain⟨er,rfl,hcs⟩:=ask_cases hpost;have hcom:Below w.heap.size w w5∧Box w5 (w.heap.size+3) #[.slice none 0 0,.int .i64 0] 42∧er=xErr c l (twoB c.parts.length a b)∧∃cs bb,Box w5 (w.heap.size+4) cs 42∧Box w5 (w.heap.size+5) #[.bool bb] 4∧PlanCells l (if er=0 then cheapestOf c l a.toNat b.toNat else none) (w.heap.size+6) w5.heap.size w5 cs bb:=by
  rcases hcs with ⟨h1,rfl,hb5⟩|⟨h1,rfl,hb5,h3,cs,bb,h4,h5,h6⟩
  ·exact⟨HB4.out.trans (hb5.mono HB4.out.size),H3.out.below' hb5,rfl,_,_,H4.out.below' hb5,H5.out.below' hb5,.inl ⟨if_neg h1,rfl,rfl⟩⟩
  ·exact⟨hb5,h3,h1.symm,cs,bb,h4,h5,by simpa using h6⟩
 obtain⟨hb5,h3,her,cs,bb,h4,h5,h6⟩:=hcom;obtain⟨u1,u2,u3,u4,hcse⟩:=h6.two;subst hcse;have HB5:=zh hb5;have HR:=zh h3;have HX:=zh h4;have HY:=zh h5;have HC:=zh h6;have HE:=zh her;clear hcs hpost e0 hb5 h3 h4 h5 h6 her HA
 go_wp2_with fail
 have K0:Hid (∀A,Box A (w.heap.size+4) #[.slice u1 u2 u3,.int .i64 u4] 42∧Box A (w.heap.size+5) #[.bool bb] 4→(∀j,A.cell? ⟨w.heap.size+4,j,none⟩=(#[.slice u1 u2 u3,.int .i64 u4]:Array Value)[j]?)∧(∀j,A.cell? ⟨w.heap.size+5,j,none⟩=(#[.bool bb]:Array Value)[j]?)):=zh fun A hA=>⟨hA.1.cell,hA.2.cell⟩
 refine wp_region_L (fun A=>Box A (w.heap.size+4) #[.slice u1 u2 u3,.int .i64 u4] 42∧Box A (w.heap.size+5) #[.bool bb] 4) 6 zK ?_;have hSS:Box w5.drew (w.heap.size+4) #[.slice u1 u2 u3,.int .i64 u4] 42∧Box w5.drew (w.heap.size+5) #[.bool bb] 4:=⟨HX.out,HY.out⟩
 have hR:Box w5.drew (w.heap.size+3) #[.slice none 0 0,.int .i64 0] 42:=HR.out;have hB:Below w.heap.size w w5.drew:=HB5.out.drew;obtain⟨M6,hM6⟩:=zx (w5.heap.size);have hC:PlanCells l (if er=0 then cheapestOf c l a.toNat b.toNat else none) (w.heap.size+6) M6 w5.drew #[.slice u1 u2 u3,.int .i64 u4] bb:=by
  have:=HC.out.keep (Keep.refl _ w5).drew
  rwa [hM6] at this
 have HM6:=zh (show w5.drew.heap.size=M6 by rw[World.size_drew];exact hM6);clear hM6;generalize w5.drew=w6 at *;refine tM K0 0 hSS ?_;refine tM K0 1 hSS ?_;refine tM K0 2 hSS ?_;obtain⟨z1,z2⟩:=hR.rules;have hS2:Box ((w6.setCell ⟨w.heap.size+3,0,none⟩ (.slice u1 u2 u3)).setCell ⟨w.heap.size+3,1,none⟩ (.int .i64 u4)) (w.heap.size+4) #[.slice u1 u2 u3,.int .i64 u4] 42∧Box ((w6.setCell ⟨w.heap.size+3,0,none⟩ (.slice u1 u2 u3)).setCell ⟨w.heap.size+3,1,none⟩ (.int .i64 u4)) (w.heap.size+5) #[.bool bb] 4:=
  ⟨(hSS.1.far zS _).far zS _,(hSS.2.far zS _).far zS _⟩
 refine anyL_skip (i:=3) (w':=(w6.setCell ⟨w.heap.size+3,0,none⟩ (.slice u1 u2 u3)).setCell ⟨w.heap.size+3,1,none⟩ (.int .i64 u4)) rfl zK (by rfl) ?_ (.inr hS2) ?_
 ·go_simp
  try with_reducible rfl
 try simp only[pZ]
 refine anyL_run (i:=4) (v:=.bool bb) (w':=(w6.setCell ⟨w.heap.size+3,0,none⟩ (.slice u1 u2 u3)).setCell ⟨w.heap.size+3,1,none⟩ (.int .i64 u4)) rfl zK (by rfl) (by go_simp) (.inr hS2) ?_
 try simp only[pZ]
 refine anyL_run (i:=5) (v:=.int .i64 er) (w':=(w6.setCell ⟨w.heap.size+3,0,none⟩ (.slice u1 u2 u3)).setCell ⟨w.heap.size+3,1,none⟩ (.int .i64 u4)) rfl zK (by rfl) (by go_simp) (.inr hS2) ?_
 try simp only[pZ]
 refine anyL_done zK ?_ _;have HR6:=zh ((hR.set_ 0 (.slice u1 u2 u3)).set_ 1 (.int .i64 u4));have HB6:=zh ((hB.setCell (p:=⟨w.heap.size+3,0,none⟩) zS (.slice u1 u2 u3)).setCell (p:=⟨w.heap.size+3,1,none⟩) zS (.int .i64 u4));have HC6:=zh (hC.keep (((Keep.refl (fun k=>w.heap.size+6≤k∧k<M6) w6).setCell (p:=⟨w.heap.size+3,0,none⟩) (.inl zS) (.slice u1 u2 u3)).setCell (p:=⟨w.heap.size+3,1,none⟩) (.inl zS) (.int .i64 u4)));have HSZ:=zh (show((w6.setCell ⟨w.heap.size+3,0,none⟩ (.slice u1 u2 u3)).setCell ⟨w.heap.size+3,1,none⟩ (.int .i64 u4)).heap.size=w6.heap.size by simp);clear hSS hS2 hR hB hC z1 z2 K0 HC;generalize (w6.setCell ⟨w.heap.size+3,0,none⟩ (.slice u1 u2 u3)).setCell ⟨w.heap.size+3,1,none⟩ (.int .i64 u4)=w7 at *
 go_wp2_with fail
 refine bodyPost_ret (results_ctt rfl rfl (run_loadVar_row _ _ 42 42 _ (0,0) _ HR6.out Tryz.underlying42 rfl plan_size)) rfl ?_;refine⟨HB6.out,_,bb,by rw[←HE.out];rfl,?_⟩;rw[←HE.out];exact HC6.out.mono zO (by rw[HSZ.out,HM6.out];exact Nat.le_refl _)
def XPost (xe:Int)(init:Value)(OUT:Int→Value→World→Prop)(w:World)(e:Ending)(w':World):Prop:=
 Below w.heap.size w w'∧∃v er,e = .returned (.tuple #[v,.int .i64 er])∧((xe≠0∧er=xe∧v=init)∨(xe=0∧OUT er v w'))
def BoolOut (b:Bool)(er:Int)(v:Value)(_:World):Prop:=er=0∧v = .bool b
theorem XPost.bool {xe:Int}{b:Bool}{w w':World}{e:Ending}(h:XPost xe (.bool false) (BoolOut b) w e w'):Below w.heap.size w w'∧e = .returned (.tuple #[.bool (xe==0&&b),.int .i64 xe]):=by
 obtain⟨hb,v,er,rfl,(⟨h1,rfl,rfl⟩|⟨h1,rfl,rfl⟩)⟩:=h
 ·exact⟨hb,by rw[show(er==0)=false from beq_eq_false_iff_ne.2 h1];rfl⟩
 ·exact⟨hb,by rw[h1];simp⟩
section
variable {t:Nat}{c:Cs}{pa:Option Addr}{pc:Nat}{l:List Prb}{qa:Option Addr}{qc:Nat}
theorem checkDoubt2_any (hsm:c.Small)(hpr:probesErr c l=0)(g1 g2 g3 a b:Nat)(ha:a<c.parts.length)(hb:b<c.parts.length)(d:Opn)(hd:d.Small)(a1 a2 a3 a4:Option Addr)(c1 c2 c3 c4:Nat)(w:World)(g:Nat)(h:LabAt w t c pa pc l qa qc)(hv:OpnAt w d (.agg #[.slice a1 d.probes.length c1,.slice a2 d.found.length c2,.slice a3 d.tog.length c3,.slice a4 d.apt.length c4]))(h1:Box w g1 #[.int .i64 a] 3)(h2:Box w g2 #[.int .i64 b] 3)(h3:Box w g3 #[.slice a1 d.probes.length c1,.slice a2 d.found.length c2,.slice a3 d.tog.length c3,.slice a4 d.apt.length c4] 53)(hg:Box w g #[.bool false] 4):
 Calls Tryz.prog 128 #[.pointer (some ⟨t,0,none⟩),.pointer (some ⟨g1,0,none⟩),.pointer (some ⟨g2,0,none⟩),.pointer (some ⟨g3,0,none⟩),.pointer (some ⟨g,0,none⟩)] w fun e w'=>∃er v,e = .returned (.int .i64 er)∧Keep (fun k=>k≠g) w w'∧Box w' g #[v] 4∧BoolOut (doubtedB c l a b d) er v w':=by
 have HC:=zh (doubted_any hsm hpr a b ha hb d hd _ w h hv);have H3:=zh hg;have e1:=h1.cell;have e2:=h2.cell;have e3:=h3.cell;clear hpr h hv h1 h2 h3 hg;obtain⟨r,hr⟩:=zx ((doubtedB c l a b d));rw[hr] at HC ⊢
 go_enter Tryz.func128,Tryz.ntmps128
 go_wp2_with fail
 refine zM HC ?_;rintro e w2 ⟨rfl,hb2⟩;have HX:=zh (H3.out.below' hb2);have HB:=zh hb2;obtain⟨z1,z2⟩:=HX.out.rules;clear hb2
 go_wp2_with fail
 go_ret
 exact⟨0,.bool r,rfl,(Keep.of_below' HB.out).setCell (.inl zS) _,HX.out.set_ 0 _,rfl,rfl⟩
end
theorem checkDoubtX_any (c:Cs)(hsm:c.Small)(pa:Option Addr)(pc:Nat)(l:List Prb)(qa:Option Addr)(qc:Nat)(a:Int)(b:Int)(d:Opn)(hd:d.Small)(a1 a2 a3 a4:Option Addr)(c1 c2 c3 c4:Nat)(w:World)(hp:PartsAt w pa c.parts)(hq:PrbsAt w qa l)(hv:OpnAt w d (.agg #[.slice a1 d.probes.length c1,.slice a2 d.found.length c2,.slice a3 d.tog.length c3,.slice a4 d.apt.length c4])):
 Calls Tryz.prog 43 #[.agg #[.string c.ware,.int .i64 c.limit,.int .i64 c.by_,.slice pa c.parts.length pc],.slice qa l.length qc,.int .i64 a,.int .i64 b,.agg #[.slice a1 d.probes.length c1,.slice a2 d.found.length c2,.slice a3 d.tog.length c3,.slice a4 d.apt.length c4]] w (XPost (xErr c l (twoB c.parts.length a b)) (.bool false) (BoolOut (doubtedB c l a.toNat b.toNat d)) w):=by
 have hmf:=run_mf Tryz.prog;obtain⟨w4,hw4⟩:=zx (((((w.alloc (.cells #[.string c.ware,.int .i64 c.limit,.int .i64 c.by_,.slice pa c.parts.length pc] 24)).alloc (.cells #[.int .i64 a] 3)).alloc (.cells #[.int .i64 b] 3)).alloc (.cells #[.slice a1 d.probes.length c1,.slice a2 d.found.length c2,.slice a3 d.tog.length c3,.slice a4 d.apt.length c4] 53)).alloc (.cells #[.bool false] 4));have hB4:Below w.heap.size w w4:=by rw[←hw4];go_grown
 have hs4:w4.heap.size=w.heap.size+5:=by rw[←hw4];simp
 have b0:Box w4 w.heap.size (csCells c pa pc) 24:=by rw[←hw4];exact((((Box.new _ _ _).alloc _).alloc _).alloc _).alloc _
 have b1:Box w4 (w.heap.size+1) #[.int .i64 a] 3:=by rw[←hw4];exact(((Box.new' zS).alloc _).alloc _).alloc _
 have b2:Box w4 (w.heap.size+2) #[.int .i64 b] 3:=by rw[←hw4];exact((Box.new' zS).alloc _).alloc _
 have b3:Box w4 (w.heap.size+3) #[.slice a1 d.probes.length c1,.slice a2 d.found.length c2,.slice a3 d.tog.length c3,.slice a4 d.apt.length c4] 53:=by rw[←hw4];exact(Box.new' zS).alloc _
 have b4:Box w4 (w.heap.size+4) #[.bool false] 4:=by rw[←hw4];exact Box.new' zS
 have hv4:=hv.below hB4;have hask:=asked9_any c hsm pa pc l qa qc 127 #[.pointer (some ⟨w.heap.size+1,0,none⟩),.pointer (some ⟨w.heap.size+2,0,none⟩)] 128 #[.pointer (some ⟨w.heap.size+1,0,none⟩),.pointer (some ⟨w.heap.size+2,0,none⟩),.pointer (some ⟨w.heap.size+3,0,none⟩),.pointer (some ⟨w.heap.size+4,0,none⟩)] (twoB c.parts.length a b)
  (fun er W'=>Below w.heap.size w W'∧∃v,Box W' (w.heap.size+4) #[v] 4∧(BoolOut (doubtedB c l a.toNat b.toNat d)) er v W') w4 (hp.below hB4) (hq.below hB4)
  (fun hpr=>⟨fun args W=>by simp[go_sem],fun W t hW ht hlab=>checkDoubt1_arg hsm _ _ a b W hlab (b1.below' hW) (b2.below' hW)⟩)
  (fun hpr hok hne=>⟨fun args W=>by simp[go_sem],fun W t hW ht hlab=>by
   obtain⟨x,y,rfl,rfl,hx,hy⟩:=two_nats hok;refine(checkDoubt2_any hsm hpr _ _ _ x y hx hy d hd a1 a2 a3 a4 c1 c2 c3 c4 W _ hlab (hv4.below hW) (b1.below' hW) (b2.below' hW) (b3.below' hW) (b4.below' hW)).mono ?_;rintro e W' ⟨er,v,rfl,hk,hb,ho⟩;exact⟨er,rfl,(hB4.trans (hW.mono hB4.size)).trans ((hk.mono fun k (hk:k<w.heap.size)=>by omega).below (Nat.le_trans hB4.size hW.size)),v,hb,ho⟩⟩)
 have HA:=zh hask;have HW:=zh hw4;have HB4:=zh hB4;have H3:=zh b4;have e0:=zC (b0);clear hask hw4 hB4 b0 b1 b2 b3 b4 hp hq hs4 hv hv4
 go_enter Tryz.func43,Tryz.ntmps43
 go_upto_region 2 with fail
 simp only[HW.out]
 go_wp2_with fail
 refine zM HA ?_;rintro e w5 hpost;obtain⟨er,rfl,(⟨h1,h2,hb5⟩|⟨h1,hb5,v5,hbx,hout⟩)⟩:=ask_cases hpost
 ·have HB5:=zh (HB4.out.trans (hb5.mono HB4.out.size));have e3:=(H3.out.below' hb5).cell;have H1:=zh (And.intro h1 h2);clear hpost hb5 e0 h1 h2 HA H3
  go_wp2_with fail
  go_ret2
  exact⟨HB5.out,_,er,rfl,.inl ⟨H1.out.1,H1.out.2,rfl⟩⟩
 ·have HB5:=zh hb5;have e3:=hbx.cell;have H1:=zh (And.intro h1 hout);clear hpost hb5 e0 h1 hout hbx HA H3
  go_wp2_with fail
  go_ret2
  exact⟨HB5.out,v5,er,rfl,.inr ⟨H1.out.1,H1.out.2⟩⟩
theorem set_nats {m:Nat}{S:List Int}(h:setB m S=true):S=natInts (nats S)∧∀v∈nats S,v<m:=by
 refine⟨?_,fun v hv=>?_⟩
 ·apply List.ext_getElem?
  intro i
  rcases hi:S[i]? with _|x
  ·simp[natInts,nats,hi]
  ·obtain⟨v,rfl,_⟩:=set_val h hi
   simp[natInts,nats,hi]
 ·obtain⟨i,hi⟩:=List.mem_iff_getElem?.1 hv;simp only[nats,List.getElem?_map] at hi;obtain⟨x,hx,rfl⟩:=Option.map_eq_some_iff.1 hi;obtain⟨u,rfl,hu⟩:=set_val h hx
  simpa using hu
def setlC (c d:Cs):List (Nat×Nat):=(openOf c).filter fun p=>!((openOf d).any fun q=>p==q)
def SettledOut (c:Cs)(o:Option Cs)(er:Int)(v:Value)(w:World):Prop:=
 (o=none∧er=90∧v = .slice none 0 0)∨∃d a cap,o=some d∧er=0∧v = .slice a (setlC c d).length cap∧PairsAt w a (setlC c d)∧(setlC c d).length≤cap
theorem openOf_len (c:Cs)(h8:c.parts.length≤8):(openOf c).length≤100000:=by
 have h2:=pairsOf_len h8;have h4:=List.length_filter_le (fun p:Nat×Nat=>ansAt c p.1 p.2==3) (pairsOf c.parts.length);unfold openOf
 omega
theorem ask_nil {d:Cs}(h:checkCase d=0)(hne:(allR d).isEmpty=false):askErr d []=0:=by
 have ho:openErr d []=0:=by simp[openErr,h]
 unfold askErr;rw[if_pos ho,hne];simp
section
variable {t:Nat}{c:Cs}{pa:Option Addr}{pc:Nat}{l:List Prb}{qa:Option Addr}{qc:Nat}
theorem settled21_any (g:Nat)(a:Option Addr)(n:Nat)(L:List (Nat×Nat))(x:Nat×Nat)(w:World)(hg:Box w g #[.slice a L.length n] 35)(h:PairsAt w a L)(hl:L.length≤100000):
 Calls Tryz.prog 73 #[.agg #[.int .i64 (x.1:Int),.int .i64 (x.2:Int)],.pointer (some ⟨g,0,none⟩)] w fun e w'=>e = .returned (.bool (L.any fun q=>x==q))∧Below w.heap.size w w':=by
 obtain⟨w1,hw1⟩:=zx (w.alloc (.cells #[.int .i64 (x.1:Int),.int .i64 (x.2:Int)] 57));have hB1:Below w.heap.size w w1:=by rw[←hw1];go_grown
 have hg1:Box w1 w.heap.size #[.int .i64 (x.1:Int),.int .i64 (x.2:Int)] 57:=by rw[←hw1];exact Box.new _ _ _
 have HC:=zh (containsPair_any a n L x w1 (h.below hB1) hl);have e0:=(hg.below' hB1).cell;have e1:=hg1.cell;have HW:=zh hw1;have HB:=zh hB1;obtain⟨r,hr⟩:=zx ((L.any fun q=>x==q));rw[hr] at HC ⊢;clear hw1 hB1 hg hg1 h hr
 go_enter Tryz.func73,Tryz.ntmps73
 go_upto_region 1 with fail
 simp only[HW.out]
 go_wp2_with fail
 refine zM HC ?_;rintro e w2 ⟨rfl,hb2⟩;have HB2:=zh (HB.out.trans (hb2.mono HB.out.size));clear hb2 e0 e1
 go_wp2_with fail
 go_ret
 exact⟨rfl,HB2.out⟩
theorem settled2_any (hsm:c.Small)(hpr:probesErr c l=0)(hne:(allR c).isEmpty=false)(g0 g1 g2 g3:Nat)(sa:Option Addr)(s:List Nat)(sc:Nat)(fa:Option Addr)(fs:List Nat)(fc:Nat)(hs:∀v∈s,v<l.length)(hff:FoundFor c l s fs)(hsl:s.length≤1000)(w:World)(h:LabAt w t c pa pc l qa qc)(hS:Ints w sa (natInts s))(hF:Ints w fa (natInts fs))
 (h1:Box w g1 #[.slice sa s.length sc] 26) (h2:Box w g2 #[.slice fa fs.length fc] 26) (h0:Box w g0 (csCells c pa pc) 24) (h3:Box w g3 #[.slice none 0 0] 35):
 Calls Tryz.prog 70 #[.pointer (some ⟨t,0,none⟩),.pointer (some ⟨g1,0,none⟩),.pointer (some ⟨g2,0,none⟩),.pointer (some ⟨g0,0,none⟩),.pointer (some ⟨g3,0,none⟩)] w fun e w'=>∃er v,e = .returned (.int .i64 er)∧Keep (fun k=>k≠g3) w w'∧Box w' g3 #[v] 35∧SettledOut c (canC c l s fs) er v w':=by
 have HC:=zh (can_any hsm hpr sa s sc fa fs fc w h hS hF hsl hff.1 hff.2);have hz:=ask_nil (probes_ok hpr).1 hne;have HLB:=zh h;have e1:=h1.cell;have e2:=h2.cell;have H0:=zh h0;have H3:=zh h3;have HPR:=zh hpr;have hlen:=openOf_len c (check_small (ask_open hz));clear h hS hF h1 h2 h0 h3 hs hff hpr
 go_enter Tryz.func70,Tryz.ntmps70
 go_wp2_with fail
 refine zM HC ?_;rintro e w2 ⟨hb2,(⟨ho,u1,u2,u3,u4,u5,u6,rfl⟩|⟨d,ba,pc',ho,rfl,hpt⟩)⟩
 ·have HX:=zh (H3.out.below' hb2);have HB:=zh hb2;have HO:=zh ho;clear hb2 ho e1 e2
  go_wp2_with fail
  go_ret
  exact⟨90,_,rfl,(Keep.of_below' HB.out).alloc _,HX.out.alloc _,.inl ⟨HO.out,rfl,rfl⟩⟩
 ·obtain⟨w3,hw3⟩:=zx (w2.alloc (.cells #[.string d.ware,.int .i64 d.limit,.int .i64 d.by_,.slice ba d.parts.length pc'] 24));have hB3:Below w2.heap.size w2 w3:=by rw[←hw3];go_grown
  have b3:Box w3 w2.heap.size #[.string d.ware,.int .i64 d.limit,.int .i64 d.by_,.slice ba d.parts.length pc'] 24:=by rw[←hw3];exact Box.new _ _ _
  have hb3:Below w.heap.size w w3:=hb2.trans (hB3.mono hb2.size);have HLB3:=zh (HLB.out.below hb3);have e0:=zC ((H0.out.below' hb3));have HO1:=zh (open9_any c hsm hz pa pc w3 HLB3.out.parts);obtain⟨hok,hned,_⟩:=canC_ok HPR.out ho;have hsd:=small_of hok.chk;have hzd:=ask_nil hok.chk hned;have hlend:=openOf_len d (check_small (ask_open hzd));have HX:=zh (H3.out.below' hb3);have HB:=zh hb3;have HO:=zh ho;have HPT:=zh (hpt.below hB3);have HW3:=zh hw3;have HY:=zh b3;have hlt2:w2.heap.size<w3.heap.size:=b3.lt;clear hb2 ho e1 e2 hw3 hB3 b3 hb3 hok hned HLB HC H0 H3 hpt
  go_upto_region 4 with fail
  simp only[HW3.out]
  go_wp2_with fail
  refine zM HO1 ?_;rintro e w4 ⟨a4,cap4,rfl,hr4,hc4,hb4⟩;have e5:∀i,w4.cell? ⟨w2.heap.size,i,none⟩=(#[.string d.ware,.int .i64 d.limit,.int .i64 d.by_,.slice ba d.parts.length pc']:Array Value)[i]?:=(HY.out.below' hb4).cell;have HO2:=zh (open9_any d hsd hzd ba pc' w4 (HPT.out.below hb4).at_);have HR4:=zh hr4;have HX4:=zh (HX.out.below' hb4);have hg3:=HX.out.lt;have HB4:=zh (HB.out.trans (hb4.mono HB.out.size));clear hb4 hr4 e0 HO1 HW3 HY HPT HX HLB3
  go_wp2_with fail
  refine zM HO2 ?_;rintro e w5 ⟨a5,cap5,rfl,hr5,hc5,hb5⟩;obtain⟨w6,hw6⟩:=zx (w5.alloc (.cells #[.slice a5 (openOf d).length cap5] 35));have hB6:Below w5.heap.size w5 w6:=by rw[←hw6];go_grown
  have b6:Box w6 w5.heap.size #[.slice a5 (openOf d).length cap5] 35:=by rw[←hw6];exact Box.new _ _ _
  have hb6:Below w4.heap.size w4 w6:=hb5.trans (hB6.mono hb5.size);have hr5':=hr5.below hB6;have hr4':=HR4.out.below hb6;have h45:=hb5.size;have h56:=hB6.size;have h3:=HB.out.size;have hB4s:=HB4.out.size;have hlt34:∀b o,a4=some ⟨b,o,none⟩→0<(openOf c).length→b<w4.heap.size:=fun b o ha h0=>by
   obtain⟨x,hx⟩:=get_of_lt (openOf c) h0;obtain⟨b',o',e',_,c1,_⟩:=HR4.out.pair hx;rw[ha] at e';cases e';exact lt_of_cell c1
  have HD:=zh (deletePair_any (K:=73) (caps:=#[.pointer (some ⟨w5.heap.size,0,none⟩)]) (Z:=fun k=>w4.heap.size≤k) (w0:=w6) (p:=fun x=>(openOf d).any fun q=>x==q)
   ⟨fun args W=>by simp[go_sem],fun W x hW=>settled21_any _ a5 cap5 (openOf d) x W (hW.heap zO b6) (hr5'.keep hW (fun k hk=>hk)).row hlend⟩ a4 cap4 (openOf c) w6 (Keep.refl _ _) hr4' hc4 (fun b o ha h0 hk=>absurd (hlt34 b o ha h0) zO) hlen)
  have HX6:=zh (HX4.out.below' hb6);have HB6:=zh (HB4.out.trans (hb6.mono HB4.out.size));have HW6:=zh hw6;clear hw6 hB6 hb6 hb5 hr5 hr5' b6 HO2 e5 hr4' HX4 HB4
  go_upto_region 6 with fail
  simp only[HW6.out]
  go_wp2_with fail
  refine zM HD ?_;rintro e w7 ⟨a7,c7,rfl,hr7,hc7,hk7⟩;have hk:=hk7 (fun k=>k<w3.heap.size) (fun b o _ h1 h2=>by omega);have hx7:Box w7 g3 #[.slice none 0 0] 35:=hk.heap hg3 HX6.out;obtain⟨z1,z2⟩:=hx7.rules;have HK:=zh hk;have HX7:=zh hx7;have HR7:=zh hr7;clear hk hx7 hr7 hk7
  go_wp2_with fail
  go_ret
  have hbw7:Below w.heap.size w w7:=HB6.out.trans ((HK.out.mono fun k (hk:k<w.heap.size)=>by omega).below zO);have kS:Keep (fun k=>w3.heap.size≤k) w7 (w7.setCell ⟨g3,0,none⟩ (.slice a7 (setlC c d).length c7)):=(Keep.refl _ w7).setCell (.inl zT) _;exact⟨0,_,rfl,(Keep.of_below' hbw7).setCell (.inl zS) _,HX7.out.set_ 0 _,.inr ⟨d,a7,c7,HO.out,rfl,rfl,(HR7.out.keep kS (fun k hk=>hk)).row,hc7⟩⟩
end
theorem settledX_any (c:Cs)(hsm:c.Small)(pa:Option Addr)(pc:Nat)(l:List Prb)(qa:Option Addr)(qc:Nat)(sa:Option Addr)(S:List Int)(sc:Nat)(fa:Option Addr)(F:List Int)(fc:Nat)(w:World)(hp:PartsAt w pa c.parts)(hq:PrbsAt w qa l)(hSl:S.length≤1000)(hFl:F.length≤1000)(hS:Ints w sa S)(hF:Ints w fa F):
 Calls Tryz.prog 20 #[.agg #[.string c.ware,.int .i64 c.limit,.int .i64 c.by_,.slice pa c.parts.length pc],.slice qa l.length qc,.slice sa S.length sc,.slice fa F.length fc] w (XPost (xErr c l (foundB c l S F)) (.slice none 0 0) (SettledOut c (canC c l (nats S) (nats F))) w):=by
 have hmf:=run_mf Tryz.prog;obtain⟨w4,hw4⟩:=zx ((((w.alloc (.cells #[.string c.ware,.int .i64 c.limit,.int .i64 c.by_,.slice pa c.parts.length pc] 24)).alloc (.cells #[.slice sa S.length sc] 26)).alloc (.cells #[.slice fa F.length fc] 26)).alloc (.cells #[.slice none 0 0] 35));have hB4:Below w.heap.size w w4:=by rw[←hw4];go_grown
 have hs4:w4.heap.size=w.heap.size+4:=by rw[←hw4];simp
 have b0:Box w4 w.heap.size (csCells c pa pc) 24:=by rw[←hw4];exact(((Box.new _ _ _).alloc _).alloc _).alloc _
 have b1:Box w4 (w.heap.size+1) #[.slice sa S.length sc] 26:=by rw[←hw4];exact((Box.new' zS).alloc _).alloc _
 have b2:Box w4 (w.heap.size+2) #[.slice fa F.length fc] 26:=by rw[←hw4];exact(Box.new' zS).alloc _
 have b3:Box w4 (w.heap.size+3) #[.slice none 0 0] 35:=by rw[←hw4];exact Box.new' zS
 have hS4:=hS.below hB4;have hF4:=hF.below hB4;have hask:=asked9_any c hsm pa pc l qa qc 69 #[.pointer (some ⟨w.heap.size+1,0,none⟩),.pointer (some ⟨w.heap.size+2,0,none⟩)] 70 #[.pointer (some ⟨w.heap.size+1,0,none⟩),.pointer (some ⟨w.heap.size+2,0,none⟩),.pointer (some ⟨w.heap.size,0,none⟩),.pointer (some ⟨w.heap.size+3,0,none⟩)] (foundB c l S F)
  (fun er W'=>Below w.heap.size w W'∧∃v,Box W' (w.heap.size+3) #[v] 35∧(SettledOut c (canC c l (nats S) (nats F))) er v W') w4 (hp.below hB4) (hq.below hB4)
  (fun hpr=>⟨fun args W=>by simp[go_sem],fun W t hW ht hlab=>settled1_arg hpr _ _ sa S sc fa F fc W hlab (hS4.below hW) (hF4.below hW) zO zO (b1.below' hW) (b2.below' hW)⟩)
  (fun hpr hok hne=>⟨fun args W=>by simp[go_sem],fun W t hW ht hlab=>by
   obtain⟨e1,e2,hsv,hff⟩:=found_nats hok;have hl1:(nats S).length=S.length:=by simp[nats]
   have hl2:(nats F).length=F.length:=by simp[nats]
   refine(settled2_any hsm hpr hne _ _ _ _ sa (nats S) sc fa (nats F) fc hsv hff zO W hlab (by rw[←e1];exact hS4.below hW) (by rw[←e2];exact hF4.below hW) (by rw[hl1];exact b1.below' hW) (by rw[hl2];exact b2.below' hW) (b0.below' hW) (b3.below' hW)).mono ?_;rintro e W' ⟨er,v,rfl,hk,hb,ho⟩;exact⟨er,rfl,(hB4.trans (hW.mono hB4.size)).trans ((hk.mono fun k (hk:k<w.heap.size)=>by omega).below (Nat.le_trans hB4.size hW.size)),v,hb,ho⟩⟩)
 have HA:=zh hask;have HW:=zh hw4;have HB4:=zh hB4;have H3:=zh b3;have e0:=zC (b0);clear hask hw4 hB4 b0 b1 b2 b3 hp hq hs4 hS hF hS4 hF4
 go_enter Tryz.func20,Tryz.ntmps20
 go_upto_region 2 with fail
 simp only[HW.out]
 go_wp2_with fail
 refine zM HA ?_;rintro e w5 hpost;obtain⟨er,rfl,(⟨h1,h2,hb5⟩|⟨h1,hb5,v5,hbx,hout⟩)⟩:=ask_cases hpost
 ·have HB5:=zh (HB4.out.trans (hb5.mono HB4.out.size));have e3:=(H3.out.below' hb5).cell;have H1:=zh (And.intro h1 h2);clear hpost hb5 e0 h1 h2 HA H3
  go_wp2_with fail
  go_ret2
  exact⟨HB5.out,_,er,rfl,.inl ⟨H1.out.1,H1.out.2,rfl⟩⟩
 ·have HB5:=zh hb5;have e3:=hbx.cell;have H1:=zh (And.intro h1 hout);clear hpost hb5 e0 h1 hout hbx HA H3
  go_wp2_with fail
  go_ret2
  exact⟨HB5.out,v5,er,rfl,.inr ⟨H1.out.1,H1.out.2⟩⟩
end Go.Proofs.YtjgldeeianionaaGreat
