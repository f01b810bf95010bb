/- The walks and plain laws of: MQChk MQAsk. No condition. -/
import Derived.Test.YtjgldeeianionaaGreatS02
import Derived.Test.YtjgldeeianionaaGreatS04
import Derived.Test.YtjgldeeianionaaGreatS14
import Derived.Test.YtjgldeeianionaaGreatS15
import Derived.Test.YtjgldeeianionaaGreatS01
set_option maxHeartbeats 2000000
set_option maxRecDepth 100000
set_option linter.unusedSimpArgs false
set_option linter.unusedVariables false
namespace Go.Proofs.YtjgldeeianionaaGreat
open Go.RowKit
attribute [local go_sem] Oper.semAt_some
theorem SeenAt.lt {w:World}{b:Nat}{l:List Int}(h:SeenAt w b l):b<w.heap.size:=by
 obtain⟨es,clock,h1,_⟩:=h.2
 rcases Nat.lt_or_ge b w.heap.size with h0|h0
 ·exact h0
 ·rw[Array.getElem?_eq_none h0] at h1;cases h1
structure PrInv (c:Cs) (pa:Option Addr) (pc:Nat) (w:World) (M:Nat) (seen:List Int) (wr:World):Prop where
 box:Box wr w.heap.size (csCells c pa pc) 24
 seen:SeenAt wr M seen
 old:Below w.heap.size w wr
theorem PrInv.below {c:Cs}{pa:Option Addr}{pc:Nat}{w:World}{M:Nat}{seen:List Int}{wr w':World}(h:PrInv c pa pc w M seen wr)(hb:Below wr.heap.size wr w'):PrInv c pa pc w M seen w':=
 ⟨h.box.below' hb,h.seen.below hb,h.old.trans (hb.mono h.old.size)⟩
theorem probesErr_go {c:Cs}{l:List Prb}(h0:checkCase c=0)(h5:l.length≤5):probesErr c l=prbGo c [] l:=by
 unfold probesErr;rw[if_neg (by simp[h0]),if_neg (by omega)]
theorem probesErr_at {c:Cs}{l:List Prb}(h0:checkCase c=0)(h5:l.length≤5){k:Nat}(h:∀j p,j<k→l[j]?=some p→prbErr c ((l.take j).map (·.id)) p=0){p:Prb}(hp:l[k]?=some p)(hne:prbErr c ((l.take k).map (·.id)) p≠0):probesErr c l=prbErr c ((l.take k).map (·.id)) p:=by
 rw[probesErr_go h0 h5]
 have:=(prbGo_at (c:=c) l [] k (by simpa using h)).1 p hp
 simpa using this (by simpa using hne)
theorem probesErr_end {c:Cs}{l:List Prb}(h0:checkCase c=0)(h5:l.length≤5)(h:∀j p,j<l.length→l[j]?=some p→prbErr c ((l.take j).map (·.id)) p=0):probesErr c l=0:=by
 rw[probesErr_go h0 h5]
 exact(prbGo_at (c:=c) l [] l.length (by simpa using h)).2 (Nat.le_refl _)
theorem checkProbes_any (c:Cs)(hsm:c.Small)(pa:Option Addr)(pc:Nat)(l:List Prb)(qa:Option Addr)(qc:Nat)(w:World)(hp:PartsAt w pa c.parts)(hq:PrbsAt w qa l):
 Calls Tryz.prog 50 #[.agg #[.string c.ware,.int .i64 c.limit,.int .i64 c.by_,.slice pa c.parts.length pc],.slice qa l.length qc] w fun e w'=>e = .returned (.int .i64 (probesErr c l))∧Below w.heap.size w w':=by
 obtain⟨w1,hw1⟩:=zx (w.alloc (.cells #[.string c.ware,.int .i64 c.limit,.int .i64 c.by_,.slice pa c.parts.length pc] 24))
 have hB1:Below w.heap.size w w1:=by rw[←hw1];go_grown
 have b1:Box w1 w.heap.size (csCells c pa pc) 24:=by rw[←hw1];exact Box.new _ _ _
 have e1:∀i,w1.cell? ⟨w.heap.size,i,none⟩=(#[.string c.ware,.int .i64 c.limit,.int .i64 c.by_,.slice pa c.parts.length pc]:Array Value)[i]?:=b1.cell
 have HCC:=zh (checkCase_any c hsm pa pc w1 (hp.below hB1))
 have h10:=hsm.1
 have HP:=zh hp
 have HQ:=zh hq
 have HW:=zh hw1
 have HB1:=zh hB1
 have HX:=zh b1
 have hmm:=@run_makeMap Tryz.prog
 clear hw1 hB1 b1 hp hq
 by_cases hz:checkCase c=0
 rotate_left
 ·have HER:=zh (show probesErr c l=checkCase c by unfold probesErr;rw[if_pos hz])
  have hzz:(checkCase c != 0)=true:=by simpa using hz
  clear hz
  go_enter Tryz.func50,Tryz.ntmps50
  go_upto_region 1 with fail
  simp only[HW.out]
  go_wp2_with fail
  (with_reducible refine HCC.out.mono ?_)
  rintro e w3 ⟨rfl,hb3⟩
  have HW3:=zh (HB1.out.trans (hb3.mono HB1.out.size))
  clear hb3 e1
  go_wp2_with fail
  go_ret
  exact⟨ret_int (by rw[HER.out]),HW3.out⟩
 rw[hz] at HCC
 by_cases h5:l.length≤5
 rotate_left
 ·have HER:=zh (show probesErr c l=2 by unfold probesErr;rw[if_neg (by simp[hz]),if_pos (by omega)])
  have hlb:decide ((5:Int)<(l.length:Int))=true:=by simp;omega
  clear hz
  go_enter Tryz.func50,Tryz.ntmps50
  go_upto_region 1 with fail
  simp only[HW.out]
  go_wp2_with fail
  (with_reducible refine HCC.out.mono ?_)
  rintro e w3 ⟨rfl,hb3⟩
  have HW3:=zh (HB1.out.trans (hb3.mono HB1.out.size))
  clear hb3 e1
  go_wp2_with fail
  go_ret
  exact⟨ret_int (by rw[HER.out]),HW3.out⟩
 have HZ:=zh hz
 clear hz
 have hlb:decide ((5:Int)<(l.length:Int))=false:=by simp;omega
 go_enter Tryz.func50,Tryz.ntmps50
 go_upto_region 1 with fail
 simp only[HW.out]
 go_wp2_with fail
 (with_reducible refine HCC.out.mono ?_)
 rintro e w2 ⟨rfl,hb2⟩
 have HB2:=zh (HB1.out.trans (hb2.mono HB1.out.size))
 have HX2:=zh (HX.out.below' hb2)
 clear hb2 e1
 go_wp2_with fail
 have hin:PrInv c pa pc w w2.heap.size [] (w2.alloc (.map #[] 0)):=by
  have hb:Below w2.heap.size w2 (w2.alloc (.map #[] 0)):=(Below.refl _ _).alloc (Nat.le_refl _) _
  exact⟨HX2.out.below' hb,SeenAt.made w2,HB2.out.trans (hb.mono HB2.out.size)⟩
 have hMw:w.heap.size<w2.heap.size:=HX2.out.lt
 generalize w2.alloc (.map #[] 0)=w3 at *
 generalize w2.heap.size=M at *
 have HIN:=zh hin
 clear hin
 go_loopw [20] (fun iv wr=>∃k:Nat,k≤l.length∧iv = .int .i64 k∧Hid (∀j p,j<k→l[j]?=some p→prbErr c ((l.take j).map (·.id)) p=0)∧PrInv c pa pc w M ((l.take k).map (·.id)) wr) (fun iv _=>l.length-(intOf iv).toNat)
 case atStart=>exact⟨0,Nat.zero_le _,rfl,zh (fun j p hj=>absurd hj (Nat.not_lt_zero j)),HIN.out⟩
 case round=>
  clear HIN HX2 HB2
  obtain⟨k,hk,rfl,HA,hinv⟩:=hrel
  have HI:=zh hinv
  clear hinv
  by_cases hlt:k<l.length
  ·obtain⟨g,e,p,rfl,hv,hG⟩:=(HQ.out.below HI.out.old).at_ hlt
   obtain⟨c0,c1,c2,c3⟩:=hG.open
   have hkn:(k:Int)<(l.length:Int):=by omega
   have HV:=zh hv
   have hRT:=fun W=>right_any p W
   have HRT:=zh hRT
   clear hG hv hRT
   go_upto_region 10 with fail
   have hb3:Below wr.heap.size wr (wr.alloc (.cells #[.int .i64 p.id,.int .i64 p.part,.int .i64 p.width,.int .i64 p.cost] 93)):=(Below.refl _ _).alloc (Nat.le_refl _) _
   have g3:Box (wr.alloc (.cells #[.int .i64 p.id,.int .i64 p.part,.int .i64 p.width,.int .i64 p.cost] 93)) wr.heap.size #[.int .i64 p.id,.int .i64 p.part,.int .i64 p.width,.int .i64 p.cost] 93:=Box.new _ _ _
   have HI3:=zh (HI.out.below hb3)
   generalize wr.alloc (.cells #[.int .i64 p.id,.int .i64 p.part,.int .i64 p.width,.int .i64 p.cost] 93)=w5 at *
   obtain⟨Pb,hPb⟩:=zx (wr.heap.size)
   have hMP:M<Pb:=by rw[←hPb];exact HI.out.seen.lt
   rw[hPb] at g3
   simp only[hPb]
   have HG3:=zh g3
   have e3:=g3.cell
   clear hb3 g3 hPb c0 c1 c2 c3 HI
   go_wp2_with fail
   (with_reducible refine(HRT.out _).mono ?_)
   rintro e5 w6 ⟨rfl,hb6⟩
   have HI6:=zh (HI3.out.below hb6)
   have HG6:=zh (HG3.out.below' hb6)
   have HW3:=zh HI6.out.old
   clear hb6 HI3 HG3 e3
   have e3:=HG6.out.cell
   have e1:∀i,w6.cell? ⟨w.heap.size,i,none⟩=(#[.string c.ware,.int .i64 c.limit,.int .i64 c.by_,.slice pa c.parts.length pc]:Array Value)[i]?:=HI6.out.box.cell
   rcases hr:rightB p with _|_
   ·have HER:=zh (show probesErr c l=1 by
     have h1:prbErr c ((l.take k).map (·.id)) p=1:=by simp[prbErr,hr]
     rw[probesErr_at HZ.out h5 HA.out HV.out (by rw[h1];decide),h1])
    clear hr
    go_wp2_with fail
    go_ret
    exact⟨ret_int (by rw[HER.out]),HW3.out⟩
   ·have rv:=right_vals hr
    have hlk:=HI6.out.seen.look rv.1
    have HR:=zh hr
    have HRV:=zh rv
    clear hr rv
    go_wp2_with fail
    (with_reducible refine(within9_any _ _ _ _).mono ?_)
    rintro e5 w' ⟨rfl,rfl⟩
    rcases hin:inB p.part 0 ((c.parts.length:Int)-1) with _|_
    ·have HER:=zh (show probesErr c l=1 by
      have h1:prbErr c ((l.take k).map (·.id)) p=1:=by simp[prbErr,HR.out,hin]
      rw[probesErr_at HZ.out h5 HA.out HV.out (by rw[h1];decide),h1])
     clear hin
     go_wp2_with fail
     go_ret
     exact⟨ret_int (by rw[HER.out]),HW3.out⟩
    ·rcases hsn:((l.take k).map (·.id)).contains p.id with _|_
     ·rw[hsn] at hlk
      have HER:=zh (show prbErr c ((l.take k).map (·.id)) p=if 4<cntN (spanOf c p) p.width then 2 else 0 by unfold prbErr;rw[HR.out,hin,hsn];rfl)
      have hp0:0≤p.part∧p.part≤(c.parts.length:Int)-1:=by simpa[inB] using hin
      obtain⟨i,hi⟩:=Int.eq_ofNat_of_zero_le hp0.1
      have hil:i<c.parts.length:=by omega
      obtain⟨w7,hput,hs7,hg7⟩:=HI6.out.seen.put HRV.out.1 (by rw[List.length_map];have:=List.length_take_le k l;omega)
      have hI7:PrInv c pa pc w M ((l.take k).map (·.id)++[p.id]) w7:=⟨HI6.out.box.grown hg7 (by simp;omega),hs7,HI6.out.old.grown hg7 HI6.out.old.size (fun k e=>by cases e;omega)⟩
      have g7:Box w7 Pb #[.int .i64 p.id,.int .i64 (i:Int),.int .i64 p.width,.int .i64 p.cost] 93:=by rw[←hi];exact HG6.out.grown hg7 (by simp;omega)
      have hid:(l.take k).map (·.id)++[p.id]=(l.take (k+1)).map (·.id):=by rw[take_snoc HV.out,List.map_append];rfl
      rw[hid] at hI7
      obtain⟨b,o,q,rfl,hq,hP⟩:=(HP.out.below hI7.old).at_ hil
      have sp:=spanP_ok HZ.out (List.mem_of_getElem? hq)
      have hsq:=span_in hi hq
      rw[hsq] at HER
      have HST:=zh (fun W=>steps_any q.span p.width sp.1 sp.2.1 sp.2.2 HRV.out.2.1.1 HRV.out.2.1.2 W)
      have hcl:=cnt_le HRV.out.2.1.1 sp.2.1 sp.1 sp.2.2
      obtain⟨sa,sc,ra,rc,x0,x1,x2,x3,x4,x5,x6,x7,_⟩:=hP.open
      have hin2:(i:Int)<(c.parts.length:Int):=by omega
      have HI7:=zh hI7
      have k0:∀A,Below w7.heap.size w7 A→(∀j,A.cell? ⟨w.heap.size,j,none⟩=(#[.string c.ware,.int .i64 c.limit,.int .i64 c.by_,.slice (some ⟨b,o,none⟩) c.parts.length pc]:Array Value)[j]?) ∧
       (∀j,A.cell? ⟨Pb,j,none⟩=(#[.int .i64 p.id,.int .i64 (i:Int),.int .i64 p.width,.int .i64 p.cost]:Array Value)[j]?)∧A.cell? ⟨b,o+i*8+1,none⟩=some (.int .i64 q.span.low)∧A.cell? ⟨b,o+i*8+2,none⟩=some (.int .i64 q.span.high) ∧
       A.cell? ⟨b,o+i*8+3,none⟩=some (.int .i64 q.span.lowBy)∧A.cell? ⟨b,o+i*8+4,none⟩=some (.int .i64 q.span.highBy):=fun A hA=>
       ⟨(hI7.box.below' hA).cell,(g7.below' hA).cell,below_cell hA x1,below_cell hA x2,below_cell hA x3,below_cell hA x4⟩
      have K0:=zh k0
      clear k0 x0 x1 x2 x3 x4 x5 x6 x7 hP hq sp hsq hI7 g7 hid hs7 hg7 hin hsn hp0 hi
      go_upto_region 13 with fail
      clear hput hlk e1 e3
      refine wp_region_L (fun A=>Below w7.heap.size w7 A) 12 zK ?_
      have hSS:Below w7.heap.size w7 w7.drew:=(Below.refl _ w7).drew
      refine tkL 0 ?_ rfl ?_ hSS ?_
      rotate_left
      ·(intro W hW;obtain⟨q0,q1,q2,q3,q4,q5⟩:=K0.out W hW;go_simp;try with_reducible rfl)
      try simp only[pA,pN,sA,sB]
      refine tkL 1 ?_ rfl ?_ hSS ?_
      rotate_left
      ·(intro W hW;obtain⟨q0,q1,q2,q3,q4,q5⟩:=K0.out W hW;go_simp;try with_reducible rfl)
      try simp only[pA,pN,sA,sB]
      refine tkL 2 ?_ rfl ?_ hSS ?_
      rotate_left
      ·(intro W hW;obtain⟨q0,q1,q2,q3,q4,q5⟩:=K0.out W hW;go_simp;try with_reducible rfl)
      try simp only[pA,pN,sA,sB]
      refine tkL 3 ?_ rfl ?_ hSS ?_
      rotate_left
      ·(intro W hW;obtain⟨q0,q1,q2,q3,q4,q5⟩:=K0.out W hW;go_simp;try with_reducible rfl)
      try simp only[pA,pN,sA,sB]
      refine tkL 4 ?_ rfl ?_ hSS ?_
      rotate_left
      ·(intro W hW;obtain⟨q0,q1,q2,q3,q4,q5⟩:=K0.out W hW;go_simp;try with_reducible rfl)
      try simp only[pA,pN,sA,sB]
      refine tkL 5 ?_ rfl ?_ hSS ?_
      rotate_left
      ·(intro W hW;obtain⟨q0,q1,q2,q3,q4,q5⟩:=K0.out W hW;go_simp;try with_reducible rfl)
      try simp only[pA,pN,sA,sB]
      refine tkL 6 ?_ rfl ?_ hSS ?_
      rotate_left
      ·(intro W hW;obtain⟨q0,q1,q2,q3,q4,q5⟩:=K0.out W hW;go_simp;try with_reducible rfl)
      try simp only[pA,pN,sA,sB]
      refine tkL 7 ?_ rfl ?_ hSS ?_
      rotate_left
      ·(intro W hW;obtain⟨q0,q1,q2,q3,q4,q5⟩:=K0.out W hW;go_simp;try with_reducible rfl)
      try simp only[pA,pN,sA,sB]
      refine tkL 8 ?_ rfl ?_ hSS ?_
      rotate_left
      ·(intro W hW;obtain⟨q0,q1,q2,q3,q4,q5⟩:=K0.out W hW;go_simp;try with_reducible rfl)
      try simp only[pA,pN,sA,sB]
      refine anyL_call (i:=9) (f:=142) (args:=#[.agg #[.int .i64 q.span.low,.int .i64 q.span.high,.int .i64 q.span.lowBy,.int .i64 q.span.highBy],.int .i64 p.width]) rfl zK (by rfl) ?_ (HST.out w7.drew) ?_
      ·go_simp
      rintro e9 w9 ⟨v9,rfl,ho,hb⟩
      obtain⟨a9,cap9,rfl,_,_⟩:=ownsRow_own ho
      have hb9:Below w7.heap.size w7 w9:=hSS.trans hb
      have hsl:(stepsOf q.span p.width).length=cntN q.span p.width:=stepsTo_len _ _ _
      rw[hsl]
      refine .inl ⟨_,rfl,.inr hb9,?_⟩
      try simp only[pA,pN,sA,sB]
      generalize cntN q.span p.width=m at *
      refine anyL_run (i:=10) (v:=.int .i64 (m:Int)) (w':=w9) rfl zK (by rfl) (by go_simp) (.inr hb9) ?_
      try simp only[pA,pN,sA,sB]
      by_cases hm:4<m
      ·rw[if_pos hm] at HER
       have HER:=zh (show probesErr c l=2 by rw[probesErr_at HZ.out h5 HA.out HV.out (by rw[HER.out];decide),HER.out])
       have hmb:decide ((4:Int)<(m:Int))=true:=by simp;omega
       refine anyL_run (i:=11) (v:=.bool true) (w':=w9) rfl zK (by rfl) (by go_simp) (.inr hb9) ?_
       try simp only[pA,pN,sA,sB]
       refine anyL_done zK ?_ _
       have HW3:=zh ((HI7.out.below hb9).old)
       clear hb hb9 ho hSS K0 hsl
       go_wp2_with fail
       go_ret
       exact⟨ret_int (by rw[HER.out]),HW3.out⟩
      ·rw[if_neg hm] at HER
       have hmb:decide ((4:Int)<(m:Int))=false:=by simp;omega
       refine anyL_run (i:=11) (v:=.bool false) (w':=w9) rfl zK (by rfl) (by go_simp) (.inr hb9) ?_
       try simp only[pA,pN,sA,sB]
       refine anyL_done zK ?_ _
       have HI9:=zh (HI7.out.below hb9)
       clear hb hb9 ho hSS K0 hsl
       go_wp2_with fail
       go_roundw
       case rel=>
        refine⟨k+1,by omega,by go_num,zh (fun j p' hj hp'=>?_),HI9.out⟩
        rcases Nat.lt_or_ge j k with h|h
        ·exact HA.out j p' h hp'
        ·have hjk:j=k:=by omega
         subst hjk
         rw[HV.out] at hp';cases hp'
         exact HER.out
       case measure=>simp[intOf];omega
     ·rw[hsn] at hlk
      have HER:=zh (show probesErr c l=1 by
       have h1:prbErr c ((l.take k).map (·.id)) p=1:=by unfold prbErr;rw[HR.out,hin,hsn];rfl
       rw[probesErr_at HZ.out h5 HA.out HV.out (by rw[h1];decide),h1])
      clear hin hsn
      go_wp2_with fail
      go_ret
      exact⟨ret_int (by rw[HER.out]),HW3.out⟩
  ·have hke:k=l.length:=by omega
   have HER:=zh (show probesErr c l=0 from probesErr_end HZ.out h5 (fun j p hj=>HA.out j p (by omega)))
   have HW3:=zh HI.out.old
   have hkn:decide ((k:Int)<(l.length:Int))=false:=by simp;omega
   clear hke
   go_wp2_with fail
   go_ret
   exact⟨ret_int (by rw[HER.out]),HW3.out⟩
theorem costOf_snoc (l:List Prb)(s:List Nat)(v:Nat):costOf l (s++[v])=costOf l s+((l[v]?).map (·.cost)).getD 0:=by simp[costOf,List.foldl_append]
theorem costOf_in {c:Cs}{l:List Prb}(hp:probesErr c l=0):∀s:List Nat,0≤costOf l s∧costOf l s≤1000*s.length:=by
 intro s
 have key:∀r:List Nat,0≤costOf l r.reverse∧costOf l r.reverse≤1000*r.length:=by
  intro r
  induction r with
  |nil=>simp[costOf]
  |cons v r ih=>
   rw[List.reverse_cons,costOf_snoc,List.length_cons]
   rcases hv:l[v]? with _|p
   ·simp only[Option.map_none,Option.getD_none];omega
   ·have:=(right_vals ((probes_ok hp).2.2 p (List.mem_of_getElem? hv)).1).2.2
    simp only[Option.map_some,Option.getD_some];omega
 have:=key s.reverse
 simpa using this
theorem cost_any {t:Nat}{c:Cs}{pa:Option Addr}{pc:Nat}{l:List Prb}{qa:Option Addr}{qc:Nat}(hp:probesErr c l=0)(sa:Option Addr)(s:List Nat)(sc:Nat)(w:World)(h:LabAt w t c pa pc l qa qc)(hS:Ints w sa (natInts s))(hs:∀v∈s,v<l.length)(hsl:s.length≤1000):
 Calls Tryz.prog 134 #[.pointer (some ⟨t,0,none⟩),.slice sa s.length sc] w fun e w'=>e = .returned (.int .i64 (costOf l s))∧w=w':=by
 have e1:=h.cells
 have HS:=zh hs
 have HC:=zh (costOf_in hp)
 have HPR:=zh h.probes
 have hl5:=(probes_ok hp).2.1
 have HRV:=zh (fun(v:Nat) (p:Prb) (hv:l[v]?=some p)=>(right_vals ((probes_ok hp).2.2 p (List.mem_of_getElem? hv)).1).2.2)
 clear hs h hp
 go_enter Tryz.func134,Tryz.ntmps134
 go_wp2_with fail
 go_loop [5,10] (fun nv iv=>∃k:Nat,k≤s.length∧iv = .int .i64 k∧nv = .int .i64 (costOf l (s.take k))) (fun _ iv=>s.length-(intOf iv).toNat)
 case atStart=>exact⟨0,Nat.zero_le _,rfl,by simp[costOf]⟩
 case round=>
  obtain⟨k,hk,rfl,rfl⟩:=hrel
  by_cases hlt:k<s.length
  ·obtain⟨v,hv⟩:=get_of_lt s hlt
   have hvl:=HS.out v (List.mem_of_getElem? hv)
   obtain⟨p,hp⟩:=get_of_lt l hvl
   have hvi:(natInts s)[k]?=some (v:Int):=by simp[natInts,hv]
   obtain⟨b,o,rfl,hb⟩:=hS.base (by simp[natInts];omega)
   have c1:=hb _ _ hvi
   obtain⟨g,e,p',rfl,hp',hG⟩:=HPR.out.at_ hvl
   rw[hp] at hp';cases hp'
   have c2:=hG.open.2.2.2
   have hr:=HRV.out v p hp
   have h1:=HC.out (s.take k)
   have htl:(s.take k).length≤1000:=by have:=List.length_take_le k s;omega
   have hkn:(k:Int)<(s.length:Int):=by omega
   have hvn:(v:Int)<(l.length:Int):=by omega
   have hnx:costOf l (s.take (k+1))=costOf l (s.take k)+p.cost:=by rw[take_snoc hv,costOf_snoc,hp];rfl
   have HNX:=zh hnx
   obtain⟨n,hn⟩:=zx (costOf l (s.take k))
   rw[hn] at h1 HNX
   simp only[hn]
   have hn1:n≤1000000:=by omega
   clear hv hp hvi hb hG hnx hn
   go_wp2_with fail
   go_round
   case rel=>exact⟨k+1,by omega,by go_num,by rw[HNX.out]⟩
   case measure=>simp[intOf];omega
  ·have hkn:decide ((k:Int)<(s.length:Int))=false:=by simp;omega
   have HT:=zh (show s.take k=s by rw[List.take_of_length_le (by omega)])
   simp only[HT.out]
   go_wp2_with fail
   go_ret
   exact⟨rfl,rfl⟩
def AskPost (c:Cs)(l:List Prb)(okA:Bool)(Q:Int→World→Prop)(w:World)(e:Ending)(w':World):Prop:=
 ∃er:Int,e = .returned (.int .i64 er)∧((probesErr c l≠0∧er=probesErr c l∧Below w.heap.size w w')∨(probesErr c l=0∧okA=false∧er=1∧Below w.heap.size w w') ∨
  (probesErr c l=0∧okA=true∧(allR c).isEmpty=true∧er=61∧Below w.heap.size w w')∨(probesErr c l=0∧okA=true∧(allR c).isEmpty=false∧Q er w'))
def ArgFn (K:Nat)(caps:Array Value)(c:Cs)(pa:Option Addr)(pc:Nat)(l:List Prb)(qa:Option Addr)(qc:Nat)(w:World)(okA:Bool):Prop:=
 (∀args W,(callFunc K args).run Tryz.prog W = .ok (.enter K args) W)∧∀W t,Below w.heap.size w W→w.heap.size≤t→LabAt W t c pa pc l qa qc→Calls Tryz.prog K (#[.pointer (some ⟨t,0,none⟩)]++caps) W (NeedPost okA W)
def WhatFn (K:Nat)(caps:Array Value)(c:Cs)(pa:Option Addr)(pc:Nat)(l:List Prb)(qa:Option Addr)(qc:Nat)(w:World)(Q:Int→World→Prop):Prop:=
 (∀args W,(callFunc K args).run Tryz.prog W = .ok (.enter K args) W)∧∀W t,Below w.heap.size w W→w.heap.size≤t→LabAt W t c pa pc l qa qc→Calls Tryz.prog K (#[.pointer (some ⟨t,0,none⟩)]++caps) W fun e W'=>∃er,e = .returned (.int .i64 er)∧Q er W'
theorem asked1_any {KA:Nat}{capsA:Array Value}{okA:Bool}{t g h:Nat}(W:World)(hent:∀args W,(callFunc KA args).run Tryz.prog W = .ok (.enter KA args) W)
 (hg:Box W g #[.func (.func KA) #[] capsA] 106) (hh:Box W h #[.pointer (some ⟨t,0,none⟩)] 104) (hc:Calls Tryz.prog KA (#[.pointer (some ⟨t,0,none⟩)]++capsA) W (NeedPost okA W)):
 Calls Tryz.prog 148 #[.pointer (some ⟨g,0,none⟩),.pointer (some ⟨h,0,none⟩)] W (NeedPost okA W):=by
 have hmf:=run_mf Tryz.prog
 obtain⟨u1,-⟩:=hg.rules
 obtain⟨u2,-⟩:=hh.rules
 have HD:=zh hc
 clear hc hg hh
 go_enter Tryz.func148,Tryz.ntmps148
 go_wp2_with fail
 (with_reducible refine HD.out.mono ?_)
 rintro e W' ⟨hb,(⟨hok,rfl⟩|⟨hok,rfl⟩)⟩
 ·go_wp2_with fail
  go_end0
  exact needPost_ok hok hb
 ·go_wp2_with fail
  exact⟨rfl,needPost_no rfl hb⟩
theorem asked9_any (c:Cs)(hsm:c.Small)(pa:Option Addr)(pc:Nat)(l:List Prb)(qa:Option Addr)(qc:Nat)(KA:Nat)(capsA:Array Value)(KW:Nat)(capsW:Array Value)(okA:Bool)(Q:Int→World→Prop)(w:World)(hp:PartsAt w pa c.parts)(hq:PrbsAt w qa l)
 (hA:probesErr c l=0→ArgFn KA capsA c pa pc l qa qc w okA) (hW:probesErr c l=0→okA=true→(allR c).isEmpty=false→WhatFn KW capsW c pa pc l qa qc w Q):
 Calls Tryz.prog 58 #[.agg #[.string c.ware,.int .i64 c.limit,.int .i64 c.by_,.slice pa c.parts.length pc],.slice qa l.length qc,.func (.func KA) #[] capsA,.func (.func KW) #[] capsW] w (AskPost c l okA Q w):=by
 have hmf:=run_mf Tryz.prog
 obtain⟨w1,hw1⟩:=zx ((w.alloc (.cells #[.string c.ware,.int .i64 c.limit,.int .i64 c.by_,.slice pa c.parts.length pc] 24)).alloc (.cells #[.func (.func KA) #[] capsA] 106))
 have hB1:Below w.heap.size w w1:=by rw[←hw1];go_grown
 have b1:Box w1 w.heap.size (csCells c pa pc) 24:=by rw[←hw1];exact(Box.new _ _ _).alloc _
 have b2:Box w1 (w.heap.size+1) #[.func (.func KA) #[] capsA] 106:=by rw[←hw1];exact Box.new' (by simp)
 have e1:∀i,w1.cell? ⟨w.heap.size,i,none⟩=(#[.string c.ware,.int .i64 c.limit,.int .i64 c.by_,.slice pa c.parts.length pc]:Array Value)[i]?:=b1.cell
 have HCP:=zh (checkProbes_any c hsm pa pc l qa qc w1 (hp.below hB1) (hq.below hB1))
 have HP:=zh hp
 have HQ:=zh hq
 have HW:=zh hw1
 have HB1:=zh hB1
 have HX:=zh b1
 have HY:=zh b2
 clear hw1 hB1 b1 b2 hp hq
 by_cases hz:probesErr c l=0
 rotate_left
 ·have HZ:=zh hz
  have hzz:(probesErr c l != 0)=true:=by simpa using hz
  clear hz hA hW
  go_enter Tryz.func58,Tryz.ntmps58
  go_upto_region 1 with fail
  simp only[HW.out]
  go_wp2_with fail
  (with_reducible refine HCP.out.mono ?_)
  rintro e w3 ⟨rfl,hb3⟩
  have HB3:=zh (HB1.out.trans (hb3.mono HB1.out.size))
  clear hb3 e1
  go_wp2_with fail
  go_ret
  exact⟨_,rfl,.inl ⟨HZ.out,rfl,HB3.out⟩⟩
 rw[hz] at HCP
 have HAF:=zh (hA hz)
 have HWF:=zh (hW hz)
 have HZ:=zh hz
 clear hz hA hW
 go_enter Tryz.func58,Tryz.ntmps58
 go_upto_region 1 with fail
 simp only[HW.out]
 go_wp2_with fail
 (with_reducible refine HCP.out.mono ?_)
 rintro e w3 ⟨rfl,hb3⟩
 have HB3:=zh (HB1.out.trans (hb3.mono HB1.out.size))
 have HX3:=zh (HX.out.below' hb3)
 have HY3:=zh (HY.out.below' hb3)
 clear hb3 e1
 have e1:∀i,w3.cell? ⟨w.heap.size,i,none⟩=(#[.string c.ware,.int .i64 c.limit,.int .i64 c.by_,.slice pa c.parts.length pc]:Array Value)[i]?:=HX3.out.cell
 go_upto_region 5 with fail
 obtain⟨w5,hw5⟩:=zx ((w3.alloc (.cells #[.string c.ware,.int .i64 c.limit,.int .i64 c.by_,.slice pa c.parts.length pc,.slice qa l.length qc] 171)).alloc (.cells #[.pointer (some ⟨w3.heap.size,0,none⟩)] 104))
 simp only[hw5]
 have hB35:Below w3.heap.size w3 w5:=by rw[←hw5];go_grown
 have hsz:w5.heap.size=w3.heap.size+2:=by rw[←hw5];simp
 have hB5:Below w.heap.size w w5:=HB3.out.trans (hB35.mono HB3.out.size)
 have hlab:LabAt w5 w3.heap.size c pa pc l qa qc:=⟨by rw[←hw5];exact(Box.new _ _ _).alloc _,HP.out.below hB5,HQ.out.below hB5⟩
 have hh:Box w5 (w3.heap.size+1) #[.pointer (some ⟨w3.heap.size,0,none⟩)] 104:=by rw[←hw5];exact Box.new' (by simp)
 have hX5:=HX3.out.below' hB35
 have hY5:=HY3.out.below' hB35
 clear hw5
 have hA5:Below w5.heap.size w5 (w5.alloc (.cells #[.bool false] 4)):=by go_grown
 have HFI:=zh (fine_any 148 #[.pointer (some ⟨w.heap.size+1,0,none⟩),.pointer (some ⟨w3.heap.size+1,0,none⟩)] w5 (fun W=>okA=true∧Below w5.heap.size w5 W) (fun W=>okA=false∧Below w5.heap.size w5 W) (fun args W=>by simp[go_sem])
  ((asked1_any (w5.alloc (.cells #[.bool false] 4)) HAF.out.1 (hY5.alloc _) (hh.alloc _) (HAF.out.2 _ w3.heap.size (hB5.trans (hA5.mono hB5.size)) HB3.out.size (hlab.below hA5))).mono (by
   rintro e W ⟨hb,hr⟩
   refine⟨(Box.new _ _ _).below' hb,?_⟩
   rcases hr with ⟨hok,rfl⟩|⟨hok,rfl⟩
   ·exact .inl ⟨rfl,hok,hA5.trans (hb.mono hA5.size)⟩
   ·exact .inr ⟨rfl,hok,hA5.trans (hb.mono hA5.size)⟩)))
 have HB5:=zh hB5
 have HL5:=zh hlab
 have HH5:=zh hh
 have HX5:=zh hX5
 clear hB35 hB5 hlab hh hX5 hY5 hA5 e1 hsz
 go_wp2_with fail
 (with_reducible refine HFI.out.mono ?_)
 rintro e w6 (⟨rfl,W,⟨hok,hbW⟩,hk⟩|⟨rfl,W,⟨hok,hbW⟩,hk⟩)
 rotate_left
 ·have HB6:=zh (HB5.out.trans ((hbW.trans ((hk.mono fun k (hl:k<w5.heap.size)=>Nat.ne_of_lt hl).below hbW.size)).mono HB5.out.size))
  clear hbW hk
  go_wp2_with fail
  go_ret
  exact⟨_,rfl,.inr (.inl ⟨HZ.out,hok,rfl,HB6.out⟩)⟩
 have hb56:=hbW.trans ((hk.mono fun k (hl:k<w5.heap.size)=>Nat.ne_of_lt hl).below hbW.size)
 have HB6:=zh (HB5.out.trans (hb56.mono HB5.out.size))
 have HX6:=zh (HX5.out.below' hb56)
 have HL6:=zh (HL5.out.below hb56)
 have HH6:=zh (HH5.out.below' hb56)
 have HOK:=zh hok
 have HLT:=zh HB3.out.size
 clear hb56 hbW hk hok W
 have e1:∀i,w6.cell? ⟨w.heap.size,i,none⟩=(#[.string c.ware,.int .i64 c.limit,.int .i64 c.by_,.slice pa c.parts.length pc]:Array Value)[i]?:=HX6.out.cell
 go_wp2_with fail
 have hfi:=first_any c hsm pa pc w6 (HP.out.below HB6.out)
 rw[(probes_ok HZ.out).1] at hfi
 (with_reducible refine hfi.mono ?_)
 clear hfi e1
 rintro e w7 ⟨hb7,(⟨hz,rfl⟩|⟨-,hno,rfl⟩|⟨-,x,v,hso,rfl,-⟩)⟩
 ·exact absurd rfl hz
 ·have HB7:=zh (HB6.out.trans (hb7.mono HB6.out.size))
  have HNO:=zh hno
  clear hb7 hno
  go_wp2_with fail
  go_ret
  refine⟨_,rfl,.inr (.inr (.inl ⟨HZ.out,HOK.out,?_,rfl,HB7.out⟩))⟩
  have:=HNO.out
  cases ha:allR c with
  |nil=>rfl
  |cons y ys=>rw[ha] at this;simp at this
 ·have hne:(allR c).isEmpty=false:=by
   cases ha:allR c with
   |nil=>rw[ha] at hso;simp at hso
   |cons y ys=>rfl
  obtain⟨hent,hcw⟩:=HWF.out HOK.out hne
  have HW7:=zh hcw
  have HB7:=zh (HB6.out.trans (hb7.mono HB6.out.size))
  have HL7:=zh (HL6.out.below hb7)
  obtain⟨u1,-⟩:=(HH6.out.below' hb7).rules
  have HNE:=zh hne
  clear hb7 hso hne hcw
  go_wp2_with fail
  (with_reducible refine(HW7.out _ _ HB7.out HLT.out HL7.out).mono ?_)
  rintro e w8 ⟨er,rfl,hq⟩
  have HQ8:=zh hq
  clear hq
  go_wp2_with fail
  go_ret
  exact⟨_,rfl,.inr (.inr (.inr ⟨HZ.out,HOK.out,HNE.out,HQ8.out⟩))⟩
end Go.Proofs.YtjgldeeianionaaGreat
