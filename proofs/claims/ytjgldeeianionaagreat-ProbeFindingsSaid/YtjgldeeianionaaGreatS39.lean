/- The walks and plain laws of: MQXOut. No condition. -/
import Derived.Test.YtjgldeeianionaaGreatS22
import Derived.Test.YtjgldeeianionaaGreatS33
import Derived.Test.YtjgldeeianionaaGreatS51
import Derived.Test.YtjgldeeianionaaGreatS01
set_option maxHeartbeats 2000000
set_option maxRecDepth 100000
set_option linter.unusedSimpArgs false
set_option linter.unusedVariables false
namespace Go.Proofs.YtjgldeeianionaaGreat
open Go.RowKit
attribute [local go_sem] Oper.semAt_some
theorem flat_len {α β:Type}{f:α→List β}{B:Nat}:∀(L:List α),(∀x,(f x).length≤B)→(L.flatMap f).length≤L.length*B
 |[],_=>by simp
 |x::L,h=>by
  have ih:=flat_len L h
  have h1:=h x
  rw[List.flatMap_cons,List.length_append,List.length_cons,Nat.succ_mul]
  omega
theorem outGo_len:∀(ns pre:List Nat),(∀n∈ns,n≤4)→(outGo ns pre).length≤4^ns.length
 |[],pre,_=>by simp[outGo]
 |n::ns,pre,h=>by
  rw[outGo]
  have h1:=flat_len (f:=fun k=>outGo ns (pre++[k])) (B:=4^ns.length) (List.range n) (fun k=>outGo_len ns _ (fun m hm=>h m (by simp[hm])))
  rw[List.length_range] at h1
  have h2:=h n (by simp)
  have h3:=Nat.mul_le_mul_right (4^ns.length) h2
  rw[List.length_cons,Nat.pow_succ,Nat.mul_comm _ 4]
  omega
theorem outs_len {c:Cs}{l:List Prb}(hp:probesErr c l=0){s:List Nat}(hs:s.length≤5):(outsOf (cntsOf c l s)).length≤1024:=by
 have h1:=outGo_len (cntsOf c l s) [] (fun n hn=>by
  obtain⟨v,_,rfl⟩:=List.mem_map.1 hn
  rcases hv:l[v]? with _|p
  ·simp
  ·exact((probes_ok hp).2.2 p (List.mem_of_getElem? hv)).2.2)
 have h2:(cntsOf c l s).length=s.length:=by simp[cntsOf]
 rw[h2] at h1
 exact Nat.le_trans h1 (Nat.le_trans (Nat.pow_le_pow_right (by omega) hs) (by decide))
theorem set_ge {m:Nat}{S:List Int}(h:setB m S=true):∀(k:Nat) (x:Int),S[k]?=some x→(k:Int)≤x
 |0,x,hx=>by
  obtain⟨v,rfl,_⟩:=set_val h hx
  omega
 |k+1,x,hx=>by
  have hk:=(List.getElem?_eq_some_iff.1 hx).1
  obtain⟨y,hy⟩:=get_of_lt S (k:=k) (by omega)
  have ih:=set_ge h k y hy
  have h1:=upto_iff.1 h (k+1) hk
  rw[setAt_succ hx hy] at h1
  simp at h1
  omega
theorem set_len {m:Nat}{S:List Int}(h:setB m S=true):S.length≤m:=by
 rcases hn:S.length with _|n
 ·omega
 ·obtain⟨x,hx⟩:=get_of_lt S (k:=n) (by omega)
  have h1:=set_ge h n x hx
  obtain⟨v,rfl,hv⟩:=set_val h hx
  omega
def OutsOut (L:List (List Nat))(er:Int)(v:Value)(w:World):Prop:=er=0∧∃a cap,v = .slice a L.length cap∧RowsAt w a L
section
variable {t:Nat}{c:Cs}{pa:Option Addr}{pc:Nat}{l:List Prb}{qa:Option Addr}{qc:Nat}
theorem outcomes2_any (hpr:probesErr c l=0)(g1:Nat)(sa:Option Addr)(s:List Nat)(sc:Nat)(hs:∀v∈s,v<l.length)(hsl:s.length≤5)(w:World)(g:Nat)(h:LabAt w t c pa pc l qa qc)(hS:Ints w sa (natInts s))(h1:Box w g1 #[.slice sa s.length sc] 26)(hg:Box w g #[.slice none 0 0] 49):
 Calls Tryz.prog 130 #[.pointer (some ⟨t,0,none⟩),.pointer (some ⟨g1,0,none⟩),.pointer (some ⟨g,0,none⟩)] w fun e w'=>∃er v,e = .returned (.int .i64 er)∧Keep (fun k=>k≠g) w w'∧Box w' g #[v] 49∧OutsOut (outsOf (cntsOf c l s)) er v w':=by
 have hol:=outs_len hpr hsl
 obtain⟨w2,hw2⟩:=zx ((w.alloc (.cells #[.pointer (some ⟨t,0,none⟩)] 104)).alloc (.cells #[.slice sa s.length sc] 26))
 have hB2:Below w.heap.size w w2:=by rw[←hw2];go_grown
 have b1:Box w2 w.heap.size #[.pointer (some ⟨t,0,none⟩)] 104:=by rw[←hw2];exact(Box.new _ _ _).alloc _
 have b2:Box w2 (w.heap.size+1) #[.slice sa s.length sc] 26:=by rw[←hw2];exact Box.new' (by simp)
 have HA:=zh (appendSeq_any hpr sa s sc w.heap.size (w.heap.size+1) hs (by omega) (by omega) w2 (h.below hB2) (hS.below hB2) b1 b2)
 have H3:=zh (hg.below' hB2)
 have HB2:=zh hB2
 have HW2:=zh hw2
 have e1:=h1.cell
 have hgl:=hg.lt
 generalize outsOf (cntsOf c l s)=L at *
 have HCO:Hid (Calls Tryz.prog 131 #[.func (.func 176) #[] #[.pointer (some ⟨w.heap.size+1,0,none⟩),.pointer (some ⟨w.heap.size,0,none⟩)]] w2 fun e w'=>∃a cap,e = .returned (.slice a L.length cap)∧RowsG 26 w2.heap.size (fun b=>w2.heap.size≤b) w' (.slice a L.length cap) (rowsN L)∧Below w2.heap.size w2 w'):=by
  refine zh ?_
  go_enter Tryz.func131,Tryz.ntmps131
  go_wp2_with fail
  (with_reducible refine HA.out.mono ?_)
  rintro e w' ⟨a,cap,rfl,hr,hb⟩
  have HR:=zh hr
  have HB:=zh hb
  clear hr hb
  go_wp2_with fail
  go_ret
  exact⟨a,cap,rfl,HR.out,HB.out⟩
 clear hpr h hS h1 hg hs hw2 hB2 b1 b2 HA
 have HO:=zh (outcomes_any t sa s.length sc w)
 go_enter Tryz.func130,Tryz.ntmps130
 go_wp2_with fail
 (with_reducible refine HO.out.mono ?_)
 rintro e w' ⟨rfl,rfl⟩
 simp only[HW2.out]
 go_wp2_with fail
 (with_reducible refine HCO.out.mono ?_)
 rintro e w3 ⟨a,cap,rfl,hr,hb3⟩
 have hsz:=HB2.out.size
 have hrl:=hr.less (B':=w.heap.size) (Q':=fun b=>w.heap.size≤b) hsz (fun b hb=>Nat.le_trans hsz hb)
 have HR:=zh hrl
 have HX:=zh (H3.out.below' hb3)
 have HB:=zh (HB2.out.trans (hb3.mono hsz))
 obtain⟨z1,z2⟩:=HX.out.rules
 clear hr hb3 hrl e1 HCO HO
 go_wp2_with fail
 go_ret
 have kS:Keep (fun k=>k≠g) w3 (w3.setCell ⟨g,0,none⟩ (.slice a L.length cap)):=(Keep.refl _ w3).setCell (.inl (by simp)) _
 obtain⟨a',cap',he,hra⟩:=(HR.out.keepB kS (fun k hk=>by omega) (fun b hb=>hb)).read
 cases he
 exact⟨0,_,rfl,(Keep.of_below' HB.out).setCell (.inl (by simp)) _,HX.out.set_ 0 _,rfl,a,cap,rfl,hra⟩
end
theorem outcomesX_any (c:Cs)(hsm:c.Small)(pa:Option Addr)(pc:Nat)(l:List Prb)(qa:Option Addr)(qc:Nat)(sa:Option Addr)(S:List Int)(sc:Nat)(w:World)(hp:PartsAt w pa c.parts)(hq:PrbsAt w qa l)(hSl:S.length≤1000)(hS:Ints w sa S):
 Calls Tryz.prog 44 #[.agg #[.string c.ware,.int .i64 c.limit,.int .i64 c.by_,.slice pa c.parts.length pc],.slice qa l.length qc,.slice sa S.length sc] w (XPost (xErr c l (setB l.length S)) (.slice none 0 0) (OutsOut (outsOf (cntsOf c l (nats S)))) w):=by
 have hmf:=run_mf Tryz.prog
 obtain⟨w4,hw4⟩:=zx (((w.alloc (.cells #[.string c.ware,.int .i64 c.limit,.int .i64 c.by_,.slice pa c.parts.length pc] 24)).alloc (.cells #[.slice sa S.length sc] 26)).alloc (.cells #[.slice none 0 0] 49))
 have hB4:Below w.heap.size w w4:=by rw[←hw4];go_grown
 have hs4:w4.heap.size=w.heap.size+3:=by rw[←hw4];simp
 have b0:Box w4 w.heap.size (csCells c pa pc) 24:=by rw[←hw4];exact((Box.new _ _ _).alloc _).alloc _
 have b1:Box w4 (w.heap.size+1) #[.slice sa S.length sc] 26:=by rw[←hw4];exact(Box.new' (by simp)).alloc _
 have b2:Box w4 (w.heap.size+2) #[.slice none 0 0] 49:=by rw[←hw4];exact Box.new' (by simp)
 have hS4:=hS.below hB4
 have hask:=asked9_any c hsm pa pc l qa qc 129 #[.pointer (some ⟨w.heap.size+1,0,none⟩)] 130 #[.pointer (some ⟨w.heap.size+1,0,none⟩),.pointer (some ⟨w.heap.size+2,0,none⟩)] (setB l.length S)
  (fun er W'=>Below w.heap.size w W'∧∃v,Box W' (w.heap.size+2) #[v] 49∧(OutsOut (outsOf (cntsOf c l (nats S)))) er v W') w4 (hp.below hB4) (hq.below hB4)
  (fun hpr=>⟨fun args W=>by simp[go_sem],fun W t hW ht hlab=>outcomes1_arg hpr _ sa S sc W hlab (hS4.below hW) (by omega) (b1.below' hW)⟩)
  (fun hpr hok hne=>⟨fun args W=>by simp[go_sem],fun W t hW ht hlab=>by
   obtain⟨e1,hsv⟩:=set_nats hok
   have hl1:(nats S).length=S.length:=by simp[nats]
   have hl5:=(probes_ok hpr).2.1
   have hl2:=set_len hok
   refine(outcomes2_any hpr _ sa (nats S) sc hsv (by omega) W _ hlab (by rw[←e1];exact hS4.below hW) (by rw[hl1];exact b1.below' hW) (b2.below' hW)).mono ?_
   rintro e W' ⟨er,v,rfl,hk,hb,ho⟩
   exact⟨er,rfl,(hB4.trans (hW.mono hB4.size)).trans ((hk.mono fun k (hk:k<w.heap.size)=>by omega).below (Nat.le_trans hB4.size hW.size)),v,hb,ho⟩⟩)
 have HA:=zh hask
 have HW:=zh hw4
 have HB4:=zh hB4
 have H3:=zh b2
 have e0:∀i,w4.cell? ⟨w.heap.size,i,none⟩=(#[.string c.ware,.int .i64 c.limit,.int .i64 c.by_,.slice pa c.parts.length pc]:Array Value)[i]?:=b0.cell
 clear hask hw4 hB4 b0 b1 b2 hp hq hs4 hS hS4
 go_enter Tryz.func44,Tryz.ntmps44
 go_upto_region 2 with fail
 simp only[HW.out]
 go_wp2_with fail
 (with_reducible refine HA.out.mono ?_)
 rintro e w5 hpost
 obtain⟨er,rfl,(⟨h1,h2,hb5⟩|⟨h1,hb5,v5,hbx,hout⟩)⟩:=ask_cases hpost
 ·have HB5:=zh (HB4.out.trans (hb5.mono HB4.out.size))
  have e3:=(H3.out.below' hb5).cell
  have H1:=zh (And.intro h1 h2)
  clear hpost hb5 e0 h1 h2 HA H3
  go_wp2_with fail
  go_ret2
  exact⟨HB5.out,_,er,rfl,.inl ⟨H1.out.1,H1.out.2,rfl⟩⟩
 ·have HB5:=zh hb5
  have e3:=hbx.cell
  have H1:=zh (And.intro h1 hout)
  clear hpost hb5 e0 h1 hout hbx HA H3
  go_wp2_with fail
  go_ret2
  exact⟨HB5.out,v5,er,rfl,.inr ⟨H1.out.1,H1.out.2⟩⟩
end Go.Proofs.YtjgldeeianionaaGreat
