/- The walks and plain laws of: MQXCost. No condition. -/
import Derived.Test.YtjgldeeianionaaGreatS33
import Derived.Test.YtjgldeeianionaaGreatS01
set_option maxHeartbeats 2000000
set_option maxRecDepth 100000
set_option linter.unusedSimpArgs false
set_option linter.unusedVariables false
namespace Go.Proofs.YtjgldeeianionaaGreat
open Go.RowKit
attribute [local go_sem] Oper.semAt_some
def IntOut (n:Int)(er:Int)(v:Value)(_:World):Prop:=er=0∧v = .int .i64 n
def stepsL (c:Cs)(l:List Prb)(v:Nat):List (Int×Int):=match l[v]? with|some p=>stepsOf (spanOf c p) p.width|none=>[]
def StepsOut (L:List (Int×Int))(er:Int)(v:Value)(w:World):Prop:=er=0∧∃a cap,v = .slice a L.length cap∧Row w a (rangeCells L)∧L.length≤cap
section
variable {t:Nat}{c:Cs}{pa:Option Addr}{pc:Nat}{l:List Prb}{qa:Option Addr}{qc:Nat}
theorem cost2_any (hpr:probesErr c l=0)(g1:Nat)(sa:Option Addr)(s:List Nat)(sc:Nat)(hs:∀v∈s,v<l.length)(hsl:s.length≤1000)(w:World)(g:Nat)(h:LabAt w t c pa pc l qa qc)(hS:Ints w sa (natInts s))(h1:Box w g1 #[.slice sa s.length sc] 26)(hg:Box w g #[.int .i64 0] 3):
 Calls Tryz.prog 133 #[.pointer (some ⟨t,0,none⟩),.pointer (some ⟨g1,0,none⟩),.pointer (some ⟨g,0,none⟩)] w fun e w'=>∃er v,e = .returned (.int .i64 er)∧Keep (fun k=>k≠g) w w'∧Box w' g #[v] 3∧IntOut (costOf l s) er v w':=by
 have HC:=zh (cost_any hpr sa s sc w h hS hs hsl)
 have H3:=zh hg
 have e1:=h1.cell
 clear hpr h hS h1 hg hs
 obtain⟨r,hr⟩:=zx (costOf l s)
 rw[hr] at HC ⊢
 go_enter Tryz.func133,Tryz.ntmps133
 go_wp2_with fail
 (with_reducible refine HC.out.mono ?_)
 rintro e w2 ⟨rfl,rfl⟩
 obtain⟨z1,z2⟩:=H3.out.rules
 go_wp2_with fail
 go_ret
 exact⟨0,.int .i64 r,rfl,(Keep.refl _ _).setCell (.inl (by simp)) _,H3.out.set_ 0 _,rfl,rfl⟩
theorem steps2_any (hpr:probesErr c l=0)(g1 v:Nat)(hv:v<l.length)(w:World)(g:Nat)(h:LabAt w t c pa pc l qa qc)(h1:Box w g1 #[.int .i64 v] 3)(hg:Box w g #[.slice none 0 0] 84):
 Calls Tryz.prog 136 #[.pointer (some ⟨t,0,none⟩),.pointer (some ⟨g1,0,none⟩),.pointer (some ⟨g,0,none⟩)] w fun e w'=>∃er v',e = .returned (.int .i64 er)∧Keep (fun k=>k≠g) w w'∧Box w' g #[v'] 84∧StepsOut (stepsL c l v) er v' w':=by
 obtain⟨p,hp⟩:=get_of_lt l hv
 have HC:=zh (labSteps_any hpr v p hp w h)
 have HL:=zh (show stepsL c l v=stepsOf (spanOf c p) p.width by simp[stepsL,hp])
 have H3:=zh hg
 have e1:=h1.cell
 have hgl:=hg.lt
 clear hpr h h1 hg hp
 go_enter Tryz.func136,Tryz.ntmps136
 go_wp2_with fail
 (with_reducible refine HC.out.mono ?_)
 rintro e w2 ⟨v2,rfl,hown,hb2⟩
 obtain⟨sa,sc,rfl,hro,hlc⟩:=ownsRow_own hown
 rw[←HL.out] at hro hlc ⊢
 have HX:=zh (H3.out.below' hb2)
 have HB:=zh hb2
 have HR:=zh hro
 obtain⟨z1,z2⟩:=HX.out.rules
 clear hb2 hown hro HC
 go_wp2_with fail
 go_ret
 have kS:Keep (fun k=>w.heap.size≤k) w2 (w2.setCell ⟨g,0,none⟩ (.slice sa (stepsL c l v).length sc)):=(Keep.refl _ w2).setCell (.inl (by simp;omega)) _
 exact⟨0,_,rfl,(Keep.of_below' HB.out).setCell (.inl (by simp)) _,HX.out.set_ 0 _,rfl,sa,sc,rfl,(HR.out.keep kS (fun k hk=>hk)).row,hlc⟩
end
theorem costX_any (c:Cs)(hsm:c.Small)(pa:Option Addr)(pc:Nat)(l:List Prb)(qa:Option Addr)(qc:Nat)(sa:Option Addr)(S:List Int)(sc:Nat)(w:World)(hp:PartsAt w pa c.parts)(hq:PrbsAt w qa l)(hSl:S.length≤1000)(hS:Ints w sa S):
 Calls Tryz.prog 45 #[.agg #[.string c.ware,.int .i64 c.limit,.int .i64 c.by_,.slice pa c.parts.length pc],.slice qa l.length qc,.slice sa S.length sc] w (XPost (xErr c l (setB l.length S)) (.int .i64 0) (IntOut (costOf l (nats S))) w):=by
 have hmf:=run_mf Tryz.prog
 obtain⟨w4,hw4⟩:=zx (((w.alloc (.cells #[.string c.ware,.int .i64 c.limit,.int .i64 c.by_,.slice pa c.parts.length pc] 24)).alloc (.cells #[.slice sa S.length sc] 26)).alloc (.cells #[.int .i64 0] 3))
 have hB4:Below w.heap.size w w4:=by rw[←hw4];go_grown
 have hs4:w4.heap.size=w.heap.size+3:=by rw[←hw4];simp
 have b0:Box w4 w.heap.size (csCells c pa pc) 24:=by rw[←hw4];exact((Box.new _ _ _).alloc _).alloc _
 have b1:Box w4 (w.heap.size+1) #[.slice sa S.length sc] 26:=by rw[←hw4];exact(Box.new' (by simp)).alloc _
 have b2:Box w4 (w.heap.size+2) #[.int .i64 0] 3:=by rw[←hw4];exact Box.new' (by simp)
 have hS4:=hS.below hB4
 have hask:=asked9_any c hsm pa pc l qa qc 132 #[.pointer (some ⟨w.heap.size+1,0,none⟩)] 133 #[.pointer (some ⟨w.heap.size+1,0,none⟩),.pointer (some ⟨w.heap.size+2,0,none⟩)] (setB l.length S)
  (fun er W'=>Below w.heap.size w W'∧∃v,Box W' (w.heap.size+2) #[v] 3∧(IntOut (costOf l (nats S))) er v W') w4 (hp.below hB4) (hq.below hB4)
  (fun hpr=>⟨fun args W=>by simp[go_sem],fun W t hW ht hlab=>cost1_arg hpr _ sa S sc W hlab (hS4.below hW) (by omega) (b1.below' hW)⟩)
  (fun hpr hok hne=>⟨fun args W=>by simp[go_sem],fun W t hW ht hlab=>by
   obtain⟨e1,hsv⟩:=set_nats hok
   have hl1:(nats S).length=S.length:=by simp[nats]
   refine(cost2_any hpr _ sa (nats S) sc hsv (by omega) W _ hlab (by rw[←e1];exact hS4.below hW) (by rw[hl1];exact b1.below' hW) (b2.below' hW)).mono ?_
   rintro e W' ⟨er,v,rfl,hk,hb,ho⟩
   exact⟨er,rfl,(hB4.trans (hW.mono hB4.size)).trans ((hk.mono fun k (hk:k<w.heap.size)=>by omega).below (Nat.le_trans hB4.size hW.size)),v,hb,ho⟩⟩)
 have HA:=zh hask
 have HW:=zh hw4
 have HB4:=zh hB4
 have H3:=zh b2
 have e0:∀i,w4.cell? ⟨w.heap.size,i,none⟩=(#[.string c.ware,.int .i64 c.limit,.int .i64 c.by_,.slice pa c.parts.length pc]:Array Value)[i]?:=b0.cell
 clear hask hw4 hB4 b0 b1 b2 hp hq hs4 hS hS4
 go_enter Tryz.func45,Tryz.ntmps45
 go_upto_region 2 with fail
 simp only[HW.out]
 go_wp2_with fail
 (with_reducible refine HA.out.mono ?_)
 rintro e w5 hpost
 obtain⟨er,rfl,(⟨h1,h2,hb5⟩|⟨h1,hb5,v5,hbx,hout⟩)⟩:=ask_cases hpost
 ·have HB5:=zh (HB4.out.trans (hb5.mono HB4.out.size))
  have e3:=(H3.out.below' hb5).cell
  have H1:=zh (And.intro h1 h2)
  clear hpost hb5 e0 h1 h2 HA H3
  go_wp2_with fail
  go_ret2
  exact⟨HB5.out,_,er,rfl,.inl ⟨H1.out.1,H1.out.2,rfl⟩⟩
 ·have HB5:=zh hb5
  have e3:=hbx.cell
  have H1:=zh (And.intro h1 hout)
  clear hpost hb5 e0 h1 hout hbx HA H3
  go_wp2_with fail
  go_ret2
  exact⟨HB5.out,v5,er,rfl,.inr ⟨H1.out.1,H1.out.2⟩⟩
theorem stepsX_any (c:Cs)(hsm:c.Small)(pa:Option Addr)(pc:Nat)(l:List Prb)(qa:Option Addr)(qc:Nat)(p:Int)(w:World)(hp:PartsAt w pa c.parts)(hq:PrbsAt w qa l)  :
 Calls Tryz.prog 46 #[.agg #[.string c.ware,.int .i64 c.limit,.int .i64 c.by_,.slice pa c.parts.length pc],.slice qa l.length qc,.int .i64 p] w (XPost (xErr c l (setB l.length [p])) (.slice none 0 0) (StepsOut (stepsL c l p.toNat)) w):=by
 have hmf:=run_mf Tryz.prog
 obtain⟨w4,hw4⟩:=zx (((w.alloc (.cells #[.string c.ware,.int .i64 c.limit,.int .i64 c.by_,.slice pa c.parts.length pc] 24)).alloc (.cells #[.int .i64 p] 3)).alloc (.cells #[.slice none 0 0] 84))
 have hB4:Below w.heap.size w w4:=by rw[←hw4];go_grown
 have hs4:w4.heap.size=w.heap.size+3:=by rw[←hw4];simp
 have b0:Box w4 w.heap.size (csCells c pa pc) 24:=by rw[←hw4];exact((Box.new _ _ _).alloc _).alloc _
 have b1:Box w4 (w.heap.size+1) #[.int .i64 p] 3:=by rw[←hw4];exact(Box.new' (by simp)).alloc _
 have b2:Box w4 (w.heap.size+2) #[.slice none 0 0] 84:=by rw[←hw4];exact Box.new' (by simp)
 have hask:=asked9_any c hsm pa pc l qa qc 135 #[.pointer (some ⟨w.heap.size+1,0,none⟩)] 136 #[.pointer (some ⟨w.heap.size+1,0,none⟩),.pointer (some ⟨w.heap.size+2,0,none⟩)] (setB l.length [p])
  (fun er W'=>Below w.heap.size w W'∧∃v,Box W' (w.heap.size+2) #[v] 84∧(StepsOut (stepsL c l p.toNat)) er v W') w4 (hp.below hB4) (hq.below hB4)
  (fun hpr=>⟨fun args W=>by simp[go_sem],fun W t hW ht hlab=>steps1_arg hpr _ p W hlab (b1.below' hW)⟩)
  (fun hpr hok hne=>⟨fun args W=>by simp[go_sem],fun W t hW ht hlab=>by
   obtain⟨e1,hsv⟩:=set_nats hok
   have hpn:p=(p.toNat:Int):=by simpa[nats,natInts] using e1
   have hpl:p.toNat<l.length:=hsv _ (by simp[nats])
   obtain⟨v,rfl⟩:∃v:Nat,p=(v:Int):=⟨_,hpn⟩
   refine(steps2_any hpr _ v (by simpa using hpl) W _ hlab (b1.below' hW) (b2.below' hW)).mono ?_
   rintro e W' ⟨er,v,rfl,hk,hb,ho⟩
   exact⟨er,rfl,(hB4.trans (hW.mono hB4.size)).trans ((hk.mono fun k (hk:k<w.heap.size)=>by omega).below (Nat.le_trans hB4.size hW.size)),v,hb,ho⟩⟩)
 have HA:=zh hask
 have HW:=zh hw4
 have HB4:=zh hB4
 have H3:=zh b2
 have e0:∀i,w4.cell? ⟨w.heap.size,i,none⟩=(#[.string c.ware,.int .i64 c.limit,.int .i64 c.by_,.slice pa c.parts.length pc]:Array Value)[i]?:=b0.cell
 clear hask hw4 hB4 b0 b1 b2 hp hq hs4 
 go_enter Tryz.func46,Tryz.ntmps46
 go_upto_region 2 with fail
 simp only[HW.out]
 go_wp2_with fail
 (with_reducible refine HA.out.mono ?_)
 rintro e w5 hpost
 obtain⟨er,rfl,(⟨h1,h2,hb5⟩|⟨h1,hb5,v5,hbx,hout⟩)⟩:=ask_cases hpost
 ·have HB5:=zh (HB4.out.trans (hb5.mono HB4.out.size))
  have e3:=(H3.out.below' hb5).cell
  have H1:=zh (And.intro h1 h2)
  clear hpost hb5 e0 h1 h2 HA H3
  go_wp2_with fail
  go_ret2
  exact⟨HB5.out,_,er,rfl,.inl ⟨H1.out.1,H1.out.2,rfl⟩⟩
 ·have HB5:=zh hb5
  have e3:=hbx.cell
  have H1:=zh (And.intro h1 hout)
  clear hpost hb5 e0 h1 hout hbx HA H3
  go_wp2_with fail
  go_ret2
  exact⟨HB5.out,v5,er,rfl,.inr ⟨H1.out.1,H1.out.2⟩⟩
end Go.Proofs.YtjgldeeianionaaGreat
