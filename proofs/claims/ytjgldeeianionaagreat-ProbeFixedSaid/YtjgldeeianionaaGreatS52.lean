/- The walks and plain laws of: MQXProof. No condition. -/
import Derived.Test.YtjgldeeianionaaGreatS29
import Derived.Test.YtjgldeeianionaaGreatS33
import Derived.Test.YtjgldeeianionaaGreatS40
import Derived.Test.YtjgldeeianionaaGreatS01
set_option maxHeartbeats 2000000
set_option maxRecDepth 100000
set_option linter.unusedSimpArgs false
set_option linter.unusedVariables false
namespace Go.Proofs.YtjgldeeianionaaGreat
open Go.RowKit
attribute [local go_sem] Oper.semAt_some
def checkProofB (c:Cs)(l:List Prb)(a b:Nat)(n:Int)(ds:List Opn):Bool:=!(ds.any fun d=>!doubtedB c l a b d) && !((belowOf l n).any fun s=>!(ds.any fun d=>isInB s (nats d.probes)))
section
variable {t:Nat}{c:Cs}{pa:Option Addr}{pc:Nat}{l:List Prb}{qa:Option Addr}{qc:Nat}
theorem proof21_any (hsm:c.Small)(hpr:probesErr c l=0)(g0 g1 g2 a b:Nat)(ha:a<c.parts.length)(hb:b<c.parts.length)(d:Opn)(hd:d.Small)(a1 a2 a3 a4:Option Addr)(c1 c2 c3 c4:Nat)(w:World)
 (h:LabAt w t c pa pc l qa qc) (hv:OpnAt w d (.agg #[.slice a1 d.probes.length c1,.slice a2 d.found.length c2,.slice a3 d.tog.length c3,.slice a4 d.apt.length c4])) (h0:Box w g0 #[.pointer (some ⟨t,0,none⟩)] 104) (h1:Box w g1 #[.int .i64 a] 3) (h2:Box w g2 #[.int .i64 b] 3):
 Calls Tryz.prog 122 #[.agg #[.slice a1 d.probes.length c1,.slice a2 d.found.length c2,.slice a3 d.tog.length c3,.slice a4 d.apt.length c4],.pointer (some ⟨g0,0,none⟩),.pointer (some ⟨g1,0,none⟩),.pointer (some ⟨g2,0,none⟩)] w fun e w'=>e = .returned (.bool (!doubtedB c l a b d))∧Below w.heap.size w w':=by
 obtain⟨w1,hw1⟩:=zx (w.alloc (.cells #[.slice a1 d.probes.length c1,.slice a2 d.found.length c2,.slice a3 d.tog.length c3,.slice a4 d.apt.length c4] 53))
 have hB1:Below w.heap.size w w1:=by rw[←hw1];go_grown
 have e4:∀i,w1.cell? ⟨w.heap.size,i,none⟩=(#[.slice a1 d.probes.length c1,.slice a2 d.found.length c2,.slice a3 d.tog.length c3,.slice a4 d.apt.length c4]:Array Value)[i]?:=by rw[←hw1];exact(Box.new _ _ _).cell
 have HC:=zh (doubted_any hsm hpr a b ha hb d hd _ w1 (h.below hB1) (hv.below hB1))
 have e1:=(h0.below' hB1).cell
 have e2:=(h1.below' hB1).cell
 have e3:=(h2.below' hB1).cell
 have HW:=zh hw1
 have HB:=zh hB1
 obtain⟨r,hr⟩:=zx (doubtedB c l a b d)
 rw[hr] at HC ⊢
 clear hw1 hB1 h hv h0 h1 h2 hpr hr
 go_enter Tryz.func122,Tryz.ntmps122
 go_upto_region 1 with fail
 simp only[HW.out]
 go_wp2_with fail
 (with_reducible refine HC.out.mono ?_)
 rintro e w2 ⟨rfl,hb2⟩
 have HB2:=zh (HB.out.trans (hb2.mono HB.out.size))
 clear hb2 e1 e2 e3 e4
 go_wp2_with fail
 go_ret
 exact⟨rfl,HB2.out⟩
theorem proof221_any (g:Nat)(sa:Option Addr)(s:List Nat)(sc:Nat)(hsl:s.length≤1000)(d:Opn)(hd:d.Small)(hdn:d.probes=natInts (nats d.probes))(a1 a2 a3 a4:Option Addr)(c1 c2 c3 c4:Nat)(w:World)
 (hv:Ints w a1 d.probes) (hS:Ints w sa (natInts s)) (h0:Box w g #[.slice sa s.length sc] 26):
 Calls Tryz.prog 126 #[.agg #[.slice a1 d.probes.length c1,.slice a2 d.found.length c2,.slice a3 d.tog.length c3,.slice a4 d.apt.length c4],.pointer (some ⟨g,0,none⟩)] w fun e w'=>e = .returned (.bool (isInB s (nats d.probes)))∧Below w.heap.size w w':=by
 obtain⟨w1,hw1⟩:=zx (w.alloc (.cells #[.slice a1 d.probes.length c1,.slice a2 d.found.length c2,.slice a3 d.tog.length c3,.slice a4 d.apt.length c4] 53))
 have hB1:Below w.heap.size w w1:=by rw[←hw1];go_grown
 have e4:∀i,w1.cell? ⟨w.heap.size,i,none⟩=(#[.slice a1 d.probes.length c1,.slice a2 d.found.length c2,.slice a3 d.tog.length c3,.slice a4 d.apt.length c4]:Array Value)[i]?:=by rw[←hw1];exact(Box.new _ _ _).cell
 have hl1:(nats d.probes).length=d.probes.length:=by simp[nats]
 have hc:=isIn_any sa s sc a1 (nats d.probes) c1 w1 (hS.below hB1) (by rw[←hdn];exact hv.below hB1) hsl (by rw[hl1];exact hd.1)
 rw[hl1] at hc
 have HC:=zh hc
 have e1:=(h0.below' hB1).cell
 have HW:=zh hw1
 have HB:=zh hB1
 obtain⟨r,hr⟩:=zx (isInB s (nats d.probes))
 rw[hr] at HC ⊢
 clear hw1 hB1 hv h0 hS hr hc hdn hl1
 go_enter Tryz.func126,Tryz.ntmps126
 go_upto_region 1 with fail
 simp only[HW.out]
 go_wp2_with fail
 (with_reducible refine HC.out.mono ?_)
 rintro e w2 ⟨rfl,hb2⟩
 have HB2:=zh (HB.out.trans (hb2.mono HB.out.size))
 clear hb2 e1 e4
 go_wp2_with fail
 go_ret
 exact⟨rfl,HB2.out⟩
theorem proof22_any (g:Nat)(oa:Option Addr)(ds:List Opn)(oc:Nat)(hdl:ds.length≤1000)(hds:∀d∈ds,d.Small∧d.probes=natInts (nats d.probes))(sa:Option Addr)(s:List Nat)(sc:Nat)(hsl:s.length≤1000)(w:World)
 (hv:OpnsAt w oa ds) (hS:Ints w sa (natInts s)) (h0:Box w g #[.slice oa ds.length oc] 45):
 Calls Tryz.prog 125 #[.slice sa s.length sc,.pointer (some ⟨g,0,none⟩)] w fun e w'=>e = .returned (.bool (!(ds.any fun d=>isInB s (nats d.probes))))∧Below w.heap.size w w':=by
 have hmf:=run_mf Tryz.prog
 obtain⟨w1,hw1⟩:=zx (w.alloc (.cells #[.slice sa s.length sc] 26))
 have hB1:Below w.heap.size w w1:=by rw[←hw1];go_grown
 have b1:Box w1 w.heap.size #[.slice sa s.length sc] 26:=by rw[←hw1];exact Box.new _ _ _
 have HC:=zh (containsOpns_any (K:=126) (caps:=#[.pointer (some ⟨w.heap.size,0,none⟩)]) (w0:=w1) (p:=fun d=>isInB s (nats d.probes)) (L:=ds)
  ⟨fun args W=>by simp[go_sem],fun W d a1 c1 a2 c2 a3 c3 a4 c4 hW hd hv=>by
   obtain⟨x1,y1,x2,y2,x3,y3,x4,y4,he,i1,i2,i3,i4⟩:=hv.at_
   cases he
   exact proof221_any _ sa s sc hsl d (hds d hd).1 (hds d hd).2 _ _ _ _ _ _ _ _ W i1 (hS.below (hB1.trans (hW.mono hB1.size))) (b1.below' hW)⟩ oa oc w1 (Below.refl _ _) (hv.below hB1) (by omega))
 have e1:=(h0.below' hB1).cell
 have HW:=zh hw1
 have HB:=zh hB1
 obtain⟨r,hr⟩:=zx ((ds.any fun d=>isInB s (nats d.probes)))
 rw[hr] at HC ⊢
 clear hw1 hB1 hv h0 hS hr b1 hds
 go_enter Tryz.func125,Tryz.ntmps125
 go_upto_region 1 with fail
 simp only[HW.out]
 go_wp2_with fail
 (with_reducible refine HC.out.mono ?_)
 rintro e w2 ⟨rfl,hb2⟩
 have HB2:=zh (HB.out.trans (hb2.mono HB.out.size))
 clear hb2 e1
 go_wp2_with fail
 go_ret
 exact⟨rfl,HB2.out⟩
theorem checkProof2_any (hsm:c.Small)(hpr:probesErr c l=0)(g1 g2 g3 g4 a b:Nat)(ha:a<c.parts.length)(hb:b<c.parts.length)(n:Int)(oa:Option Addr)(ds:List Opn)(oc:Nat)(hdl:ds.length≤1000)(hds:∀d∈ds,d.Small)(w:World)(g:Nat)
 (h:LabAt w t c pa pc l qa qc) (hv:OpnsAt w oa ds) (h1:Box w g1 #[.int .i64 a] 3) (h2:Box w g2 #[.int .i64 b] 3) (h3:Box w g3 #[.int .i64 n] 3) (h4:Box w g4 #[.slice oa ds.length oc] 45) (hg:Box w g #[.bool false] 4):
 Calls Tryz.prog 120 #[.pointer (some ⟨t,0,none⟩),.pointer (some ⟨g4,0,none⟩),.pointer (some ⟨g1,0,none⟩),.pointer (some ⟨g2,0,none⟩),.pointer (some ⟨g3,0,none⟩),.pointer (some ⟨g,0,none⟩)] w fun e w'=>∃er v,e = .returned (.int .i64 er)∧Keep (fun k=>k≠g) w w'∧Box w' g #[v] 4∧BoolOut (checkProofB c l a b n ds) er v w':=by
 have hmf:=run_mf Tryz.prog
 obtain⟨w1,hw1⟩:=zx (w.alloc (.cells #[.pointer (some ⟨t,0,none⟩)] 104))
 have hB1:Below w.heap.size w w1:=by rw[←hw1];go_grown
 have b1:Box w1 w.heap.size #[.pointer (some ⟨t,0,none⟩)] 104:=by rw[←hw1];exact Box.new _ _ _
 have hl5:=(probes_ok hpr).2.1
 have HC:=zh (containsOpns_any (K:=122) (caps:=#[.pointer (some ⟨w.heap.size,0,none⟩),.pointer (some ⟨g1,0,none⟩),.pointer (some ⟨g2,0,none⟩)]) (w0:=w1) (p:=fun d=>!doubtedB c l a b d) (L:=ds)
  ⟨fun args W=>by simp[go_sem],fun W d a1 c1 a2 c2 a3 c3 a4 c4 hW hd hv=>proof21_any hsm hpr _ _ _ a b ha hb d (hds d hd) _ _ _ _ _ _ _ _ W (h.below (hB1.trans (hW.mono hB1.size))) hv (b1.below' hW) (h1.below' (hB1.trans (hW.mono hB1.size))) (h2.below' (hB1.trans (hW.mono hB1.size)))⟩ oa oc w1 (Below.refl _ _) (hv.below hB1) (by omega))
 have HLB:=zh (h.below hB1)
 have HV:=zh (hv.below hB1)
 have H3:=zh (h3.below' hB1)
 have H4:=zh (h4.below' hB1)
 have HG:=zh (hg.below' hB1)
 have e4:=H4.out.cell
 have e1:=b1.cell
 have HX:=zh b1
 have HW:=zh hw1
 have HB:=zh hB1
 have HPR:=zh hpr
 have HDS:=zh hds
 have hxx:checkProofB c l a b n ds=(!(ds.any fun d=>!doubtedB c l a b d) && !((belowOf l n).any fun s=>!(ds.any fun d=>isInB s (nats d.probes)))):=rfl
 clear hw1 hB1 h hv h1 h2 h3 h4 hg b1 hpr hds
 rcases hany:(ds.any fun d=>!doubtedB c l a b d) with _|_
 ·rw[hany] at HC hxx
  have hdn:∀d∈ds,d.Small∧d.probes=natInts (nats d.probes):=fun d hd=>by
   refine⟨HDS.out d hd,?_⟩
   rw[List.any_eq_false] at hany
   have h1:=hany d hd
   simp only[Bool.not_eq_true',Bool.not_eq_false] at h1
   unfold doubtedB at h1
   rw[Bool.and_eq_true] at h1
   exact(found_nats h1.1).1
  have HDN:=zh hdn
  have HXX:=zh hxx
  clear hany hdn hxx
  go_enter Tryz.func120,Tryz.ntmps120
  go_upto_region 1 with fail
  simp only[HW.out]
  go_wp2_with fail
  (with_reducible refine HC.out.mono ?_)
  rintro e w2 ⟨rfl,hb2⟩
  have HBL:=zh (below9_any HPR.out n w2 (HLB.out.below hb2))
  have HV2:=zh (HV.out.below hb2)
  have e5:=(H3.out.below' hb2).cell
  have e6:=(HX.out.below' hb2).cell
  have H42:=zh (H4.out.below' hb2)
  have HG2:=zh (HG.out.below' hb2)
  have HB2:=zh (HB.out.trans (hb2.mono HB.out.size))
  clear hb2 e1 e4 HC HLB HV H3 H4 HG HX
  go_wp2_with fail
  (with_reducible refine HBL.out.mono ?_)
  rintro e w3 ⟨a3,c3,rfl,hr3,hb3⟩
  have hv3:=HV2.out.below hb3
  have h43:=H42.out.below' hb3
  have HCR:=zh (containsRows_any (K:=125) (caps:=#[.pointer (some ⟨g4,0,none⟩)]) (w0:=w3) (B:=w3.heap.size) (p:=fun s=>!(ds.any fun d=>isInB s (nats d.probes))) (L:=belowOf l n)
   ⟨fun args W=>by simp[go_sem],fun W s sa sc hW hs hi hsc=>by
    have hbW:=hW.below (Nat.le_refl _)
    exact proof22_any g4 oa ds oc hdl HDN.out sa s sc (by
     have h1:=(List.mem_filter.1 hs).1
     have:=(sets_in h1).2
     omega) W (hv3.below hbW) hi (h43.below' hbW)⟩ a3 c3 w3 (Keep.refl _ _) hr3.at_ (by
      have h1:=List.length_filter_le (fun s=>decide (costOf l s<n)) (setsOf l.length)
      have h2:=sets_len (m:=l.length) (by omega)
      unfold belowOf
      omega))
  have HG3:=zh (HG2.out.below' hb3)
  have HB3:=zh (HB2.out.trans (hb3.mono HB2.out.size))
  obtain⟨r,hr⟩:=zx (((belowOf l n).any fun s=>!(ds.any fun d=>isInB s (nats d.probes))))
  rw[hr] at HCR HXX
  clear hr hb3 hr3 hv3 h43 e5 e6 HBL HV2 H42 HG2 HB2
  go_wp2_with fail
  (with_reducible refine HCR.out.mono ?_)
  rintro e w4 ⟨rfl,hb4⟩
  have HG4:=zh (HG3.out.below' hb4)
  have HB4:=zh (HB3.out.trans (hb4.mono HB3.out.size))
  obtain⟨z1,z2⟩:=HG4.out.rules
  clear hb4
  go_wp2_with fail
  go_ret
  exact⟨0,.bool (!r),rfl,(Keep.of_below' HB4.out).setCell (.inl (by simp)) _,HG4.out.set_ 0 _,rfl,by rw[HXX.out];rfl⟩
 ·rw[hany] at HC hxx
  have HXX:=zh hxx
  clear hany hxx
  go_enter Tryz.func120,Tryz.ntmps120
  go_upto_region 1 with fail
  simp only[HW.out]
  go_wp2_with fail
  (with_reducible refine HC.out.mono ?_)
  rintro e w2 ⟨rfl,hb2⟩
  have HG2:=zh (HG.out.below' hb2)
  have HB2:=zh (HB.out.trans (hb2.mono HB.out.size))
  clear hb2 e1 e4
  go_wp2_with fail
  go_ret
  exact⟨0,_,rfl,Keep.of_below' HB2.out,HG2.out,rfl,by rw[HXX.out];rfl⟩
end
theorem checkProofX_any (c:Cs)(hsm:c.Small)(pa:Option Addr)(pc:Nat)(l:List Prb)(qa:Option Addr)(qc:Nat)(a:Int)(b:Int)(n:Int)(oa:Option Addr)(ds:List Opn)(oc:Nat)(hdl:ds.length≤1000)(hds:∀d∈ds,d.Small)(w:World)(hp:PartsAt w pa c.parts)(hq:PrbsAt w qa l)(hv:OpnsAt w oa ds):
 Calls Tryz.prog 41 #[.agg #[.string c.ware,.int .i64 c.limit,.int .i64 c.by_,.slice pa c.parts.length pc],.slice qa l.length qc,.int .i64 a,.int .i64 b,.int .i64 n,.slice oa ds.length oc] w (XPost (xErr c l (twoB c.parts.length a b)) (.bool false) (BoolOut (checkProofB c l a.toNat b.toNat n ds)) w):=by
 have hmf:=run_mf Tryz.prog
 obtain⟨w4,hw4⟩:=zx ((((((w.alloc (.cells #[.string c.ware,.int .i64 c.limit,.int .i64 c.by_,.slice pa c.parts.length pc] 24)).alloc (.cells #[.int .i64 a] 3)).alloc (.cells #[.int .i64 b] 3)).alloc (.cells #[.int .i64 n] 3)).alloc (.cells #[.slice oa ds.length oc] 45)).alloc (.cells #[.bool false] 4))
 have hB4:Below w.heap.size w w4:=by rw[←hw4];go_grown
 have hs4:w4.heap.size=w.heap.size+6:=by rw[←hw4];simp
 have b0:Box w4 w.heap.size (csCells c pa pc) 24:=by rw[←hw4];exact(((((Box.new _ _ _).alloc _).alloc _).alloc _).alloc _).alloc _
 have b1:Box w4 (w.heap.size+1) #[.int .i64 a] 3:=by rw[←hw4];exact((((Box.new' (by simp)).alloc _).alloc _).alloc _).alloc _
 have b2:Box w4 (w.heap.size+2) #[.int .i64 b] 3:=by rw[←hw4];exact(((Box.new' (by simp)).alloc _).alloc _).alloc _
 have b3:Box w4 (w.heap.size+3) #[.int .i64 n] 3:=by rw[←hw4];exact((Box.new' (by simp)).alloc _).alloc _
 have b4:Box w4 (w.heap.size+4) #[.slice oa ds.length oc] 45:=by rw[←hw4];exact(Box.new' (by simp)).alloc _
 have b5:Box w4 (w.heap.size+5) #[.bool false] 4:=by rw[←hw4];exact Box.new' (by simp)
 have hv4:=hv.below hB4
 have hask:=asked9_any c hsm pa pc l qa qc 119 #[.pointer (some ⟨w.heap.size+1,0,none⟩),.pointer (some ⟨w.heap.size+2,0,none⟩)] 120 #[.pointer (some ⟨w.heap.size+4,0,none⟩),.pointer (some ⟨w.heap.size+1,0,none⟩),.pointer (some ⟨w.heap.size+2,0,none⟩),.pointer (some ⟨w.heap.size+3,0,none⟩),.pointer (some ⟨w.heap.size+5,0,none⟩)] (twoB c.parts.length a b)
  (fun er W'=>Below w.heap.size w W'∧∃v,Box W' (w.heap.size+5) #[v] 4∧(BoolOut (checkProofB c l a.toNat b.toNat n ds)) er v W') w4 (hp.below hB4) (hq.below hB4)
  (fun hpr=>⟨fun args W=>by simp[go_sem],fun W t hW ht hlab=>checkProof1_arg hsm _ _ a b W hlab (b1.below' hW) (b2.below' hW)⟩)
  (fun hpr hok hne=>⟨fun args W=>by simp[go_sem],fun W t hW ht hlab=>by
   obtain⟨x,y,rfl,rfl,hx,hy⟩:=two_nats hok
   refine(checkProof2_any hsm hpr _ _ _ _ x y hx hy n oa ds oc hdl hds W _ hlab (hv4.below hW) (b1.below' hW) (b2.below' hW) (b3.below' hW) (b4.below' hW) (b5.below' hW)).mono ?_
   rintro e W' ⟨er,v,rfl,hk,hb,ho⟩
   exact⟨er,rfl,(hB4.trans (hW.mono hB4.size)).trans ((hk.mono fun k (hk:k<w.heap.size)=>by omega).below (Nat.le_trans hB4.size hW.size)),v,hb,ho⟩⟩)
 have HA:=zh hask
 have HW:=zh hw4
 have HB4:=zh hB4
 have H3:=zh b5
 have e0:∀i,w4.cell? ⟨w.heap.size,i,none⟩=(#[.string c.ware,.int .i64 c.limit,.int .i64 c.by_,.slice pa c.parts.length pc]:Array Value)[i]?:=b0.cell
 clear hask hw4 hB4 b0 b1 b2 b3 b4 b5 hp hq hs4 hv hv4
 go_enter Tryz.func41,Tryz.ntmps41
 go_upto_region 2 with fail
 simp only[HW.out]
 go_wp2_with fail
 (with_reducible refine HA.out.mono ?_)
 rintro e w5 hpost
 obtain⟨er,rfl,(⟨h1,h2,hb5⟩|⟨h1,hb5,v5,hbx,hout⟩)⟩:=ask_cases hpost
 ·have HB5:=zh (HB4.out.trans (hb5.mono HB4.out.size))
  have e3:=(H3.out.below' hb5).cell
  have H1:=zh (And.intro h1 h2)
  clear hpost hb5 e0 h1 h2 HA H3
  go_wp2_with fail
  go_ret2
  exact⟨HB5.out,_,er,rfl,.inl ⟨H1.out.1,H1.out.2,rfl⟩⟩
 ·have HB5:=zh hb5
  have e3:=hbx.cell
  have H1:=zh (And.intro h1 hout)
  clear hpost hb5 e0 h1 hout hbx HA H3
  go_wp2_with fail
  go_ret2
  exact⟨HB5.out,v5,er,rfl,.inr ⟨H1.out.1,H1.out.2⟩⟩
end Go.Proofs.YtjgldeeianionaaGreat
