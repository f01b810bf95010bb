/- The walks and plain laws of: RefW MNoneR MQR6 MQR9 MQR13. No condition. -/
import Derived.Test.YtjgldeeianionaaGreatS12
import Derived.Test.YtjgldeeianionaaGreatS13
import Derived.Test.YtjgldeeianionaaGreatS20
import Derived.Test.YtjgldeeianionaaGreatS21
import Derived.Test.YtjgldeeianionaaGreatS23
import Derived.Test.YtjgldeeianionaaGreatS33
import Derived.Test.YtjgldeeianionaaGreatS34
import Derived.Test.YtjgldeeianionaaGreatS35
import Derived.Test.YtjgldeeianionaaGreatS36
import Derived.Test.YtjgldeeianionaaGreatS01
set_option maxHeartbeats 2000000
set_option maxRecDepth 100000
set_option linter.unusedSimpArgs false
set_option linter.unusedVariables false
namespace Go.Proofs.YtjgldeeianionaaGreat
open Go.RowKit
attribute [local go_sem] Oper.semAt_some
theorem PreOk.nil (c:Cs):PreOk c []:=fun p v hp=>by
 have:=List.prefix_nil.1 hp
 simp at this
def AllPost (c:Cs)(w:World)(e:Ending)(w':World):Prop:=
 ∃v,e = .returned v∧RowsV w.heap.size (fun b=>w.heap.size≤b) w' v (allR c)∧Below w.heap.size w w'
theorem allTop_ref (c:Cs)(hn8:c.parts.length≤8)(hlim:0≤c.limit)(pa:Option Addr)(pc:Nat)(w:World)(hp:PartsAt w pa c.parts):
 Calls Tryz.prog 159 #[.agg #[.string c.ware,.int .i64 c.limit,.int .i64 c.by_,.slice pa c.parts.length pc]] w (AllPost c w):=by
 obtain⟨w1,hw1⟩:=zx (w.alloc (.cells #[.string c.ware,.int .i64 c.limit,.int .i64 c.by_,.slice pa c.parts.length pc] 24))
 have hB1:Below w.heap.size w w1:=by rw[←hw1];go_grown
 have b1:Box w1 w.heap.size (csCells c pa pc) 24:=by rw[←hw1];exact Box.new _ _ _
 have hs1:w1.heap.size=w.heap.size+1:=by rw[←hw1];simp
 have e1:∀i,w1.cell? ⟨w.heap.size,i,none⟩=(#[.string c.ware,.int .i64 c.limit,.int .i64 c.by_,.slice pa c.parts.length pc]:Array Value)[i]?:=b1.cell
 have hB2:Below w.heap.size w (w1.alloc (.cells #[] 3)):=hB1.alloc (by omega) _
 have hall:=all_ref c hn8 hlim pa pc c.parts.length [] (some ⟨w1.heap.size,0,none⟩) 0 (w1.alloc (.cells #[] 3)) (by simp) (hp.below hB2) (Ints.nil _ _) (Nat.zero_le _) (PreOk.nil c)
 rw[List.length_nil] at hall
 have HS:=zh hs1
 have HW:=zh hw1
 have HB2:=zh hB2
 have HA:=zh hall
 clear hall hB2 hs1 hw1 hB1 b1 hp
 go_enter Tryz.func159,Tryz.ntmps159
 go_upto_region 1 with fail
 simp only[HW.out]
 go_wp2_with (go_at_call 199;(with_reducible refine HA.out.mono ?_);rintro e w3 ⟨v,rfl,hv,hb⟩;have HV:=zh hv;have HB3:=zh hb;clear hv hb)
 go_ret
 refine⟨v,rfl,HV.out.less (by simp;have:=HS.out;omega) (fun b hb=>?_),HB2.out.trans (HB3.out.mono HB2.out.size)⟩
 have:=HS.out
 rcases hb with hb|⟨o,hb⟩
 ·simp at hb;omega
 ·cases hb;omega
def LookPost (er:Int)(o:Option (List Nat))(w:World)(e:Ending)(w':World):Prop:=
 Below w.heap.size w w'∧((er≠0∧e = .returned (.tuple #[.slice none 0 0,.bool false,.int .i64 er]))∨(er=0∧o=none∧e = .returned (.tuple #[.slice none 0 0,.bool false,.int .i64 0])) ∨
  (er=0∧∃x a cap,o=some x∧e = .returned (.tuple #[.slice a x.length cap,.bool true,.int .i64 0])∧Ints w' a (natInts x)))
end Go.Proofs.YtjgldeeianionaaGreat
namespace Go.Proofs.YtjgldeeianionaaGreat
open Go.RowKit
attribute [local go_sem] Oper.semAt_some
end Go.Proofs.YtjgldeeianionaaGreat
namespace Go.Proofs.YtjgldeeianionaaGreat
open Go.RowKit
attribute [local go_sem] Oper.semAt_some
theorem first_ref (c:Cs)(hsm:c.Small)(pa:Option Addr)(pc:Nat)(w:World)(hp:PartsAt w pa c.parts):
 Calls Tryz.prog 175 #[.agg #[.string c.ware,.int .i64 c.limit,.int .i64 c.by_,.slice pa c.parts.length pc]] w (LookPost (checkCase c) ((allR c).find? fun _=>true) w):=by
 obtain⟨w1,hw1⟩:=zx (w.alloc (.cells #[.string c.ware,.int .i64 c.limit,.int .i64 c.by_,.slice pa c.parts.length pc] 24))
 have hB1:Below w.heap.size w w1:=by rw[←hw1];go_grown
 have b1:Box w1 w.heap.size (csCells c pa pc) 24:=by rw[←hw1];exact Box.new _ _ _
 have e1:∀i,w1.cell? ⟨w.heap.size,i,none⟩=(#[.string c.ware,.int .i64 c.limit,.int .i64 c.by_,.slice pa c.parts.length pc]:Array Value)[i]?:=b1.cell
 have hcc:=checkCase_ref c hsm pa pc w1 (hp.below hB1)
 have HP:=zh hp
 have HW:=zh hw1
 have HB1:=zh hB1
 have HX:=zh b1
 have HCC:=zh hcc
 clear hw1 hB1 b1 hcc hp
 by_cases hz:checkCase c=0
 ·have h8:c.parts.length≤8:=check_small (ps:=[]) (by unfold openErr;rw[if_pos hz];rfl)
  have hlim:=check_lim hz
  have hrl:=allR_len h8
  have HZ:=zh hz
  rw[hz] at HCC
  clear hz
  rcases hL:allR c with _|⟨l,L⟩
  all_goals
   have HL:=zh hL
   rw[hL] at hrl
   clear hL
   go_enter Tryz.func175,Tryz.ntmps175
   go_upto_region 1 with fail
   simp only[HW.out]
   go_wp2_with fail
   (with_reducible refine HCC.out.mono ?_)
   rintro e w2 ⟨rfl,hb2⟩
   have e2:∀i,w2.cell? ⟨w.heap.size,i,none⟩=(#[.string c.ware,.int .i64 c.limit,.int .i64 c.by_,.slice pa c.parts.length pc]:Array Value)[i]?:=(HX.out.below' hb2).cell
   have HB2:=zh (HB1.out.trans (hb2.mono HB1.out.size))
   have HAL:=zh (allTop_ref c h8 hlim.1 pa pc w2 (HP.out.below HB2.out))
   clear hb2 e1
   go_wp2_with fail
   (with_reducible refine HAL.out.mono ?_)
   rintro e w3 ⟨v,rfl,hv,hb3⟩
   rw[HL.out] at hv
   obtain⟨ra,rcap,rfl,hrd⟩:=hv.at_
   have HB3:=zh (HB2.out.trans (hb3.mono HB2.out.size))
   clear hb3 hv e2
  ·simp only[List.length_nil]
   clear hrd
   go_wp2_with fail
   go_ret3
   exact⟨HB3.out,.inr (.inl ⟨HZ.out,rfl,rfl⟩)⟩
  ·obtain⟨b,o,la,lc,rfl,hc,hi,_⟩:=hrd 0 l rfl
   have HI:=zh hi
   rw[Nat.add_zero] at hc
   obtain⟨N,hN⟩:=zx (L.length)
   simp only[List.length_cons,hN] at hrl ⊢
   clear hrd hi hN
   go_wp2_with fail
   go_ret3
   exact⟨HB3.out,.inr (.inr ⟨HZ.out,l,la,lc,rfl,rfl,HI.out⟩)⟩
 ·have hzz:(checkCase c != 0)=true:=by simpa using hz
  have HZ:=zh hz
  clear hz
  go_enter Tryz.func175,Tryz.ntmps175
  go_upto_region 1 with fail
  simp only[HW.out]
  go_wp2_with (go_at_call 143;(with_reducible refine HCC.out.mono ?_);rintro e w2 ⟨rfl,hb2⟩;have HB2:=zh hb2;clear hb2)
  go_ret3
  exact⟨HB1.out.trans (HB2.out.mono HB1.out.size),.inl ⟨HZ.out,rfl⟩⟩
end Go.Proofs.YtjgldeeianionaaGreat
namespace Go.Proofs.YtjgldeeianionaaGreat
open Go.RowKit
attribute [local go_sem] Oper.semAt_some
theorem find_true {α:Type}(L:List α):(L.find? fun _=>true)=L.head?:=by cases L<;>simp
def wholeE (c:Cs):Int:=if checkCase c≠0 then checkCase c else if(allR c).isEmpty then 61 else 0
theorem wholeR9_any (c:Cs)(hsm:c.Small)(pa:Option Addr)(pc:Nat)(w:World)(hp:PartsAt w pa c.parts):
 Calls Tryz.prog 110 #[.agg #[.string c.ware,.int .i64 c.limit,.int .i64 c.by_,.slice pa c.parts.length pc]] w fun e w'=>e = .returned (.int .i64 (wholeE c))∧Below w.heap.size w w':=by
 obtain⟨w1,hw1⟩:=zx (w.alloc (.cells #[.string c.ware,.int .i64 c.limit,.int .i64 c.by_,.slice pa c.parts.length pc] 24))
 have hB1:Below w.heap.size w w1:=by rw[←hw1];go_grown
 have b1:Box w1 w.heap.size (csCells c pa pc) 24:=by rw[←hw1];exact Box.new _ _ _
 have HF:=zh (first_ref c hsm pa pc w1 (hp.below hB1))
 have e1:∀i,w1.cell? ⟨w.heap.size,i,none⟩=(#[.string c.ware,.int .i64 c.limit,.int .i64 c.by_,.slice pa c.parts.length pc]:Array Value)[i]?:=b1.cell
 have HW:=zh hw1
 have HB1:=zh hB1
 clear hw1 b1 hB1 hp
 obtain⟨er,her⟩:=zx (checkCase c)
 have HER:=zh her
 rw[her] at HF
 clear her
 go_enter Tryz.func110,Tryz.ntmps110
 go_upto_region 1 with fail
 simp only[HW.out]
 go_wp2_with fail
 (with_reducible refine HF.out.mono ?_)
 rintro e w2 ⟨hb2,(⟨h1,rfl⟩|⟨rfl,h1,rfl⟩|⟨rfl,x,a,cap,h1,rfl,_⟩)⟩
 ·have HB2:=zh (HB1.out.trans (hb2.mono HB1.out.size))
  have hb1:(er==0)=false:=beq_eq_false_iff_ne.2 h1
  have HE:=zh (show wholeE c=er by unfold wholeE;rw[HER.out,if_pos h1])
  clear hb2 e1 h1
  go_wp2_with fail
  go_ret
  refine⟨?_,HB2.out⟩
  rw[HE.out];rfl
 ·have HB2:=zh (HB1.out.trans (hb2.mono HB1.out.size))
  have HE:=zh (show wholeE c=61 by
   unfold wholeE
   rw[HER.out,if_neg (by simp)]
   rw[find_true] at h1
   rw[List.head?_eq_none_iff.1 h1];rfl)
  clear hb2 e1 h1
  go_wp2_with fail
  go_ret
  refine⟨?_,HB2.out⟩
  rw[HE.out];rfl
 ·have HB2:=zh (HB1.out.trans (hb2.mono HB1.out.size))
  have HE:=zh (show wholeE c=0 by
   unfold wholeE
   rw[HER.out,if_neg (by simp)]
   rw[find_true] at h1
   cases hL:allR c with
   |nil=>rw[hL] at h1;cases h1
   |cons y L=>rfl)
  clear hb2 e1 h1
  go_wp2_with fail
  go_ret
  refine⟨?_,HB2.out⟩
  rw[HE.out];rfl
theorem xErr_whole {c:Cs}{l:List Prb}{ok:Bool}(h1:probesErr c l=0)(h2:ok=true):xErr c l ok=wholeE c:=by
 have h0:=(probes_ok h1).1
 unfold xErr wholeE
 rw[if_neg (show ¬probesErr c l≠0 from fun h=>h h1),if_pos h2,if_neg (show ¬checkCase c≠0 from fun h=>h h0)]
theorem askedSetR9_any (c:Cs)(hsm:c.Small)(pa:Option Addr)(pc:Nat)(l:List Prb)(qa:Option Addr)(qc:Nat)(sa:Option Addr)(S:List Int)(sc:Nat)(hSl:S.length≤1000000)(w:World)(hp:PartsAt w pa c.parts)(hq:PrbsAt w qa l)(hS:Ints w sa S):
 Calls Tryz.prog 100 #[.agg #[.string c.ware,.int .i64 c.limit,.int .i64 c.by_,.slice pa c.parts.length pc],.slice qa l.length qc,.slice sa S.length sc] w fun e w'=>e = .returned (.int .i64 (xErr c l (setB l.length S)))∧Below w.heap.size w w':=by
 obtain⟨w1,hw1⟩:=zx (w.alloc (.cells #[.string c.ware,.int .i64 c.limit,.int .i64 c.by_,.slice pa c.parts.length pc] 24))
 have hB1:Below w.heap.size w w1:=by rw[←hw1];go_grown
 have b1:Box w1 w.heap.size (csCells c pa pc) 24:=by rw[←hw1];exact Box.new _ _ _
 have HCP:=zh (checkProbesR_any c hsm pa pc l qa qc w1 (hp.below hB1) (hq.below hB1))
 have e1:∀i,w1.cell? ⟨w.heap.size,i,none⟩=(#[.string c.ware,.int .i64 c.limit,.int .i64 c.by_,.slice pa c.parts.length pc]:Array Value)[i]?:=b1.cell
 have HW:=zh hw1
 have HX:=zh b1
 have HB1:=zh hB1
 have HP:=zh (hp.below hB1)
 have HQ:=zh (hq.below hB1)
 have HS:=zh (hS.below hB1)
 clear hw1 b1 hB1 hp hq hS
 by_cases hz:probesErr c l=0
 ·have hl5:=(probes_ok hz).2.1
  have HXW:=zh (fun(h:setB l.length S=true)=>xErr_whole (ok:=setB l.length S) hz h)
  have HXN:=zh (fun(h:setB l.length S=false)=>show xErr c l (setB l.length S)=1 by simp[xErr,hz,h])
  rw[hz] at HCP
  clear hz
  go_enter Tryz.func100,Tryz.ntmps100
  go_upto_region 1 with fail
  simp only[HW.out]
  go_wp2_with fail
  (with_reducible refine HCP.out.mono ?_)
  rintro e w2 ⟨rfl,hb2⟩
  have HIS:=zh (isSetR9_any qa l.length qc (by omega) sa S sc w2 (HS.out.below hb2) hSl)
  have HX2:=zh (HX.out.below' hb2)
  have HP2:=zh (HP.out.below hb2)
  have HBW:=zh (HB1.out.trans (hb2.mono HB1.out.size))
  clear hb2 e1
  go_wp2_with fail
  (with_reducible refine HIS.out.mono ?_)
  rintro e w3 ⟨rfl,hb3⟩
  have HWH:=zh (wholeR9_any c hsm pa pc w3 (HP2.out.below hb3))
  have e3:∀i,w3.cell? ⟨w.heap.size,i,none⟩=(#[.string c.ware,.int .i64 c.limit,.int .i64 c.by_,.slice pa c.parts.length pc]:Array Value)[i]?:=(HX2.out.below' hb3).cell
  have HBW:=zh (HBW.out.trans (hb3.mono HBW.out.size))
  clear hb3
  rcases hset:setB l.length S with _|_
  ·have HER:=zh (HXN.out hset)
   clear hset
   go_wp2_with fail
   go_ret
   refine⟨?_,HBW.out⟩
   rw[HER.out];rfl
  ·have HER:=zh (HXW.out hset)
   clear hset
   go_wp2_with fail
   (with_reducible refine HWH.out.mono ?_)
   rintro e w4 ⟨rfl,hb4⟩
   have HBW:=zh (HBW.out.trans (hb4.mono HBW.out.size))
   clear hb4 e3
   go_wp2_with fail
   go_ret
   refine⟨?_,HBW.out⟩
   rw[HER.out];rfl
 ·have HER:=zh (show xErr c l (setB l.length S)=probesErr c l by simp[xErr,hz])
  obtain⟨er,her⟩:=zx (probesErr c l)
  rw[her] at hz HCP HER
  have hzb:(er != 0)=true:=by simpa using hz
  clear her
  go_enter Tryz.func100,Tryz.ntmps100
  go_upto_region 1 with fail
  simp only[HW.out]
  go_wp2_with fail
  (with_reducible refine HCP.out.mono ?_)
  rintro e w2 ⟨rfl,hb2⟩
  have HBW:=zh (HB1.out.trans (hb2.mono HB1.out.size))
  clear hb2 e1
  go_wp2_with fail
  go_ret
  refine⟨?_,HBW.out⟩
  rw[HER.out];rfl
theorem xErr_set {c:Cs}{l:List Prb}{ok:Bool}(h:xErr c l ok=0):probesErr c l=0∧ok=true∧(allR c).isEmpty=false:=by
 unfold xErr at h
 split at h
 ·rename_i h1;exact absurd h h1
 ·rename_i h1
  have h1:probesErr c l=0:=Decidable.not_not.1 h1
  cases ok
  ·simp at h
  ·refine⟨h1,rfl,?_⟩
   cases hL:(allR c).isEmpty
   ·rfl
   ·rw[hL] at h;simp at h
theorem costXR9_any (c:Cs)(hsm:c.Small)(pa:Option Addr)(pc:Nat)(l:List Prb)(qa:Option Addr)(qc:Nat)(sa:Option Addr)(S:List Int)(sc:Nat)(hSl:S.length≤1000)(w:World)(hp:PartsAt w pa c.parts)(hq:PrbsAt w qa l)(hS:Ints w sa S):
 Calls Tryz.prog 49 #[.agg #[.string c.ware,.int .i64 c.limit,.int .i64 c.by_,.slice pa c.parts.length pc],.slice qa l.length qc,.slice sa S.length sc] w fun e w'=>e = .returned (.tuple #[.int .i64 (if xErr c l (setB l.length S)=0 then costOf l (nats S) else 0),.int .i64 (xErr c l (setB l.length S))])∧Below w.heap.size w w':=by
 obtain⟨w1,hw1⟩:=zx (w.alloc (.cells #[.string c.ware,.int .i64 c.limit,.int .i64 c.by_,.slice pa c.parts.length pc] 24))
 have hB1:Below w.heap.size w w1:=by rw[←hw1];go_grown
 have b1:Box w1 w.heap.size (csCells c pa pc) 24:=by rw[←hw1];exact Box.new _ _ _
 have HAS:=zh (askedSetR9_any c hsm pa pc l qa qc sa S sc (by omega) w1 (hp.below hB1) (hq.below hB1) (hS.below hB1))
 have e1:∀i,w1.cell? ⟨w.heap.size,i,none⟩=(#[.string c.ware,.int .i64 c.limit,.int .i64 c.by_,.slice pa c.parts.length pc]:Array Value)[i]?:=b1.cell
 have HW:=zh hw1
 have HB1:=zh hB1
 have HQ:=zh (hq.below hB1)
 have HS:=zh (hS.below hB1)
 clear hw1 b1 hB1 hp hq hS
 have HXS:=zh (fun h=>xErr_set (c:=c) (l:=l) (ok:=setB l.length S) h)
 generalize xErr c l (setB l.length S)=er at *
 go_enter Tryz.func49,Tryz.ntmps49
 go_upto_region 1 with fail
 simp only[HW.out]
 go_wp2_with fail
 (with_reducible refine HAS.out.mono ?_)
 rintro e w2 ⟨rfl,hb2⟩
 have HBW:=zh (HB1.out.trans (hb2.mono HB1.out.size))
 have HQ2:=zh (HQ.out.below hb2)
 have HS2:=zh (HS.out.below hb2)
 clear hb2 e1
 by_cases hz:er=0
 ·obtain⟨h1,h2,_⟩:=HXS.out hz
  subst hz
  obtain⟨f1,f2⟩:=set_nats h2
  have hl1:(nats S).length=S.length:=by simp[nats]
  have hc:=costR9_any (c:=c) (qa:=qa) (qc:=qc) h1 sa (nats S) sc w2 HQ2.out (by rw[←f1];exact HS2.out) f2 (by omega)
  rw[hl1] at hc
  have HC:=zh hc
  clear h1 h2 f1 f2 hl1 hc
  go_wp2_with fail
  (with_reducible refine HC.out.mono ?_)
  rintro e w3 ⟨rfl,rfl⟩
  go_wp2_with fail
  go_ret2
  refine⟨?_,HBW.out⟩
  first|rfl|simp
 ·have hzb:(er != 0)=true:=by simpa using hz
  have HNZ:=zh hz
  clear hz
  go_wp2_with fail
  go_ret2
  refine⟨?_,HBW.out⟩
  have hz:=HNZ.out
  simp[hz]
theorem set_one {c:Cs}{l:List Prb}{p:Int}(h:setB l.length [p]=true):∃v:Nat,p=v∧v<l.length:=by
 obtain⟨v,hv,hl⟩:=set_val h (i:=0) (x:=p) rfl
 exact⟨v,hv,hl⟩
theorem stepsL_at {c:Cs}{l:List Prb}{v i:Nat}{pr:Prb}{q:Prt}(hv:l[v]?=some pr)(hi:pr.part=i)(hq:c.parts[i]?=some q):stepsL c l v=stepsOf q.span pr.width:=by
 unfold stepsL
 rw[hv]
 simp only
 rw[spanOf_at (q:=q) (by rw[hi];simpa using hq)]
theorem stepsXR9_any (c:Cs)(hsm:c.Small)(pa:Option Addr)(pc:Nat)(l:List Prb)(qa:Option Addr)(qc:Nat)(p:Int)(w:World)(hp:PartsAt w pa c.parts)(hq:PrbsAt w qa l):
 Calls Tryz.prog 47 #[.agg #[.string c.ware,.int .i64 c.limit,.int .i64 c.by_,.slice pa c.parts.length pc],.slice qa l.length qc,.int .i64 p] w (XPost (xErr c l (setB l.length [p])) (.slice none 0 0) (StepsOut (stepsL c l p.toNat)) w):=by
 obtain⟨w1,hw1⟩:=zx (w.alloc (.cells #[.string c.ware,.int .i64 c.limit,.int .i64 c.by_,.slice pa c.parts.length pc] 24))
 have hB1:Below w.heap.size w w1:=by rw[←hw1];go_grown
 have b1:Box w1 w.heap.size (csCells c pa pc) 24:=by rw[←hw1];exact Box.new _ _ _
 obtain⟨w2,hw2⟩:=zx (w1.alloc (.cells #[.int .i64 p] 3))
 have hB2:Below w1.heap.size w1 w2:=by rw[←hw2];go_grown
 have b2:Ints w2 (some ⟨w1.heap.size,0,none⟩) [p]:=by rw[←hw2];exact fun k v hv=>⟨w1.heap.size,0,rfl,by rw[(Box.new w1 #[.int .i64 p] 3).cell,Nat.zero_add];simpa using hv⟩
 have HAS:=zh (show Calls Tryz.prog 100 #[.agg #[.string c.ware,.int .i64 c.limit,.int .i64 c.by_,.slice pa c.parts.length pc],.slice qa l.length qc,.slice (some ⟨w1.heap.size,0,none⟩) 1 1] w2 fun e w'=>e = .returned (.int .i64 (xErr c l (setB l.length [p])))∧Below w2.heap.size w2 w' from askedSetR9_any c hsm pa pc l qa qc (some ⟨w1.heap.size,0,none⟩) [p] 1 (by simp) w2 ((hp.below hB1).below hB2) ((hq.below hB1).below hB2) b2)
 have e1:∀i,w1.cell? ⟨w.heap.size,i,none⟩=(#[.string c.ware,.int .i64 c.limit,.int .i64 c.by_,.slice pa c.parts.length pc]:Array Value)[i]?:=b1.cell
 have HW:=zh hw1
 have HW2:=zh hw2
 have HB:=zh (hB1.trans (hB2.mono hB1.size))
 have HX:=zh (b1.below' hB2)
 have HP:=zh ((hp.below hB1).below hB2)
 have HQ:=zh ((hq.below hB1).below hB2)
 have HXS:=zh (fun h=>xErr_set (c:=c) (l:=l) (ok:=setB l.length [p]) h)
 have HS1:=zh (fun h=>set_one (c:=c) (l:=l) (p:=p) h)
 clear hw1 hw2 hB1 hB2 b1 b2 hp hq
 generalize hset:setB l.length [p]=ok at *
 clear hset
 obtain⟨er,her⟩:=zx (xErr c l ok)
 rw[her] at HAS HXS ⊢
 clear her
 go_enter Tryz.func47,Tryz.ntmps47
 go_upto_region 1 with fail
 simp only[HW.out]
 go_wp2_with fail
 simp only[HW2.out]
 (with_reducible refine HAS.out.mono ?_)
 rintro e w3 ⟨rfl,hb3⟩
 have HB:=zh (HB.out.trans (hb3.mono HB.out.size))
 have HX:=zh (HX.out.below' hb3)
 have HP:=zh (HP.out.below hb3)
 have HQ:=zh (HQ.out.below hb3)
 clear hb3 e1
 by_cases hz:er=0
 ·obtain⟨z1,z2,_⟩:=HXS.out hz
  obtain⟨v,rfl,hvl⟩:=HS1.out z2
  subst hz
  obtain⟨pr,hpr⟩:=get_of_lt l hvl
  obtain⟨i,q,hi,hqq,⟨s1,s2,s3⟩,v1,v2⟩:=cnt_at9 z1 hpr
  have HSL:=zh (stepsL_at hpr hi hqq)
  have hcl:=cnt_le v1 s2 s1 s3
  have hcz:=cnt_toNat (s:=q.span) (v:=pr.width) (by omega) s2
  have HSN:=zh (fun k=>stepsTo_succ q.span pr.width k)
  have HCN:=zh (fun W h=>countR9_any hi hqq s1 s2 s3 v1 v2 pa pc W h)
  have HST:=zh (fun(k:Nat) (hk:k≤1001) W h=>stepR9_any hi hqq s1 s2 s3 v1 v2 k hk pa pc W h)
  rw[hcz] at HCN
  obtain⟨b,o,pr',rfl,hpr',hG⟩:=HQ.out.at_ hvl
  rw[hpr] at hpr';cases hpr'
  have HG:=zh hG
  have hvn:(v:Int)<(l.length:Int):=by omega
  clear z1 z2 hpr hi hqq s1 s2 s3 v1 v2 hcz hG HAS HXS HS1 hvl
  generalize hM:cntN q.span pr.width=M at *
  have HM:=zh hM
  clear hM
  go_wp2_with fail
  go_loopw [9,10] (fun ov kv wr=>∃k:Nat,k≤M∧kv = .int .i64 k∧wr.ownsRow w3.heap.size 164 2 ov k (rangeCells (stepsTo q.span pr.width k))∧Below w3.heap.size w3 wr) (fun _ kv _=>M-(intOf kv).toNat)
  case atStart=>exact⟨0,Nat.zero_le _,rfl,ownsRow_nil _ _ _ _,Below.refl _ _⟩
  case round=>
   obtain⟨k,hk,rfl,ho,hb⟩:=hrel
   have HBL:=zh hb
   have K0:Hid (∀A,Below w3.heap.size w3 A→(∀i,A.cell? ⟨w.heap.size,i,none⟩=(#[.string c.ware,.int .i64 c.limit,.int .i64 c.by_,.slice pa c.parts.length pc]:Array Value)[i]?)∧A.cell? ⟨b,o+v*4,none⟩=some (.int .i64 pr.id)∧A.cell? ⟨b,o+v*4+1,none⟩=some (.int .i64 pr.part)∧A.cell? ⟨b,o+v*4+2,none⟩=some (.int .i64 pr.width)∧A.cell? ⟨b,o+v*4+3,none⟩=some (.int .i64 pr.cost)):=zh fun A hA=>⟨(HX.out.below' hA).cell,(HG.out.below hA).open⟩
   go_upto_region 6 with fail
   refine wp_region_L (fun A=>Below w3.heap.size w3 A) 8 zK ?_
   have hSS:Below w3.heap.size w3 wr.drew:=hb.trans ((Below.refl _ wr).drew.mono hb.size)
   have HO:=zh (ownsRow_keep ho (K:=fun _=>True) (Keep.of_below' (Below.refl _ wr).drew) (fun _ _=>trivial))
   have hwd:wr.heap.size=wr.drew.heap.size:=rfl
   have HSZ:=zh hSS.size
   clear ho hb hwd
   generalize wr.drew=w5 at *
   refine tkL 0 ?_ rfl ?_ hSS ?_
   rotate_left
   ·(intro W hW;obtain⟨q0,q1,q2,q3,q4⟩:=K0.out W hW;go_simp;try with_reducible rfl)
   try simp only[pA,pN,sA,sB]
   refine tkL 1 ?_ rfl ?_ hSS ?_
   rotate_left
   ·(intro W hW;obtain⟨q0,q1,q2,q3,q4⟩:=K0.out W hW;go_simp;try with_reducible rfl)
   try simp only[pA,pN,sA,sB]
   refine tkL 2 ?_ rfl ?_ hSS ?_
   rotate_left
   ·(intro W hW;obtain⟨q0,q1,q2,q3,q4⟩:=K0.out W hW;go_simp;try with_reducible rfl)
   try simp only[pA,pN,sA,sB]
   refine tkL 3 ?_ rfl ?_ hSS ?_
   rotate_left
   ·(intro W hW;obtain⟨q0,q1,q2,q3,q4⟩:=K0.out W hW;go_simp;try with_reducible rfl)
   try simp only[pA,pN,sA,sB]
   refine tkL 4 ?_ rfl ?_ hSS ?_
   rotate_left
   ·(intro W hW;obtain⟨q0,q1,q2,q3,q4⟩:=K0.out W hW;go_simp;try with_reducible rfl)
   try simp only[pA,pN,sA,sB]
   refine tkL 5 ?_ rfl ?_ hSS ?_
   rotate_left
   ·(intro W hW;obtain⟨q0,q1,q2,q3,q4⟩:=K0.out W hW;go_simp;try with_reducible rfl)
   try simp only[pA,pN,sA,sB]
   refine anyL_call (i:=6) (f:=54) (args:=#[.agg #[.string c.ware,.int .i64 c.limit,.int .i64 c.by_,.slice pa c.parts.length pc],.agg #[.int .i64 pr.id,.int .i64 pr.part,.int .i64 pr.width,.int .i64 pr.cost]]) rfl zK (by rfl) (by go_simp) (HCN.out _ (HP.out.below hSS)) ?_
   rintro e7 w6 ⟨rfl,hb6⟩
   have hSS:=hSS.trans (hb6.mono hSS.size)
   refine .inl ⟨_,rfl,.inr hSS,?_⟩
   try simp only[pA,pN,sA,sB]
   have HO:=zh (ownsRow_keep HO.out (K:=fun _=>True) (Keep.of_below' hb6) (fun _ _=>trivial))
   clear hb6
   by_cases hkM:k<M
   ·have hkn:(k:Int)<(M:Int):=by omega
    refine tkL 7 ?_ rfl ?_ hSS ?_
    rotate_left
    ·(intro W hW;obtain⟨q0,q1,q2,q3,q4⟩:=K0.out W hW;go_simp;try with_reducible rfl)
    try simp only[pA,pN,sA,sB]
    refine anyL_done zK ?_ _
    have HS6:=zh hSS
    clear hSS
    go_upto_region 8 with fail
    refine wp_region_L (fun A=>Below w3.heap.size w3 A) 11 zK ?_
    have hSS:Below w3.heap.size w3 w6.drew:=HS6.out.trans ((Below.refl _ w6).drew.mono HS6.out.size)
    have HO:=zh (ownsRow_keep HO.out (K:=fun _=>True) (Keep.of_below' (Below.refl _ w6).drew) (fun _ _=>trivial))
    generalize w6.drew=w7 at *
    refine tkL 0 ?_ rfl ?_ hSS ?_
    rotate_left
    ·(intro W hW;obtain⟨q0,q1,q2,q3,q4⟩:=K0.out W hW;go_simp;try with_reducible rfl)
    try simp only[pA,pN,sA,sB]
    refine tkL 1 ?_ rfl ?_ hSS ?_
    rotate_left
    ·(intro W hW;obtain⟨q0,q1,q2,q3,q4⟩:=K0.out W hW;go_simp;try with_reducible rfl)
    try simp only[pA,pN,sA,sB]
    refine tkL 2 ?_ rfl ?_ hSS ?_
    rotate_left
    ·(intro W hW;obtain⟨q0,q1,q2,q3,q4⟩:=K0.out W hW;go_simp;try with_reducible rfl)
    try simp only[pA,pN,sA,sB]
    refine tkL 3 ?_ rfl ?_ hSS ?_
    rotate_left
    ·(intro W hW;obtain⟨q0,q1,q2,q3,q4⟩:=K0.out W hW;go_simp;try with_reducible rfl)
    try simp only[pA,pN,sA,sB]
    refine tkL 4 ?_ rfl ?_ hSS ?_
    rotate_left
    ·(intro W hW;obtain⟨q0,q1,q2,q3,q4⟩:=K0.out W hW;go_simp;try with_reducible rfl)
    try simp only[pA,pN,sA,sB]
    refine tkL 5 ?_ rfl ?_ hSS ?_
    rotate_left
    ·(intro W hW;obtain⟨q0,q1,q2,q3,q4⟩:=K0.out W hW;go_simp;try with_reducible rfl)
    try simp only[pA,pN,sA,sB]
    refine tkL 6 ?_ rfl ?_ hSS ?_
    rotate_left
    ·(intro W hW;obtain⟨q0,q1,q2,q3,q4⟩:=K0.out W hW;go_simp;try with_reducible rfl)
    try simp only[pA,pN,sA,sB]
    refine anyL_call (i:=7) (f:=138) (args:=#[.agg #[.string c.ware,.int .i64 c.limit,.int .i64 c.by_,.slice pa c.parts.length pc],.agg #[.int .i64 pr.id,.int .i64 pr.part,.int .i64 pr.width,.int .i64 pr.cost],.int .i64 k]) rfl zK (by rfl) (by go_simp) (HST.out k (by omega) _ (HP.out.below hSS)) ?_
    rintro e8 w8 ⟨rfl,hb8⟩
    have hSS:=hSS.trans (hb8.mono hSS.size)
    refine .inl ⟨_,rfl,.inr hSS,?_⟩
    try simp only[pA,pN,sA,sB]
    have ho:=ownsRow_keep HO.out (K:=fun _=>True) (Keep.of_below' hb8) (fun _ _=>trivial)
    obtain⟨v9,w9,hrun,hown,hb9⟩:=app_range ho (by omega) hSS.size (stepAt q.span pr.width k).1 (stepAt q.span pr.width k).2
    have hal:Below w3.heap.size w3 (w8.alloc (.cells #[.int .i64 (stepAt q.span pr.width k).1,.int .i64 (stepAt q.span pr.width k).2] 164)):=hSS.alloc hSS.size _
    refine anyL_run (i:=8) (v:=.slice (some ⟨w8.heap.size,0,none⟩) 1 1) (w':=w8.alloc (.cells #[.int .i64 (stepAt q.span pr.width k).1,.int .i64 (stepAt q.span pr.width k).2] 164)) rfl zK (by rfl) (by go_simp) (.inr hal) ?_
    try simp only[pA,pN,sA,sB]
    have hS9:=hSS.trans hb9
    refine anyL_run (i:=9) (v:=v9) (w':=w9) rfl zK (by rfl) ?_ (.inr hS9) ?_
    ·refine exec_app _ _ 84 rfl (by rfl) (by rfl) ?_
     exact hrun
    try simp only[pA,pN,sA,sB]
    refine anyL_run (i:=10) (v:=v9) (w':=w9) rfl zK (by rfl) (by go_simp) (.inr hS9) ?_
    try simp only[pA,pN,sA,sB]
    refine anyL_done zK ?_ _
    have HO9:=zh hown
    have HS9:=zh hS9
    clear hrun hown hb9 hal hSS ho hb8 hS9 K0
    go_wp2_with fail
    go_roundw
    case rel=>exact⟨k+1,by omega,by go_num,by rw[HSN.out,rangeCells_snoc];exact HO9.out,HS9.out⟩
    case measure=>simp[intOf];omega
   ·obtain rfl:k=M:=by omega
    have hkn:¬(k:Int)<(k:Int):=by omega
    refine tkL 7 ?_ rfl ?_ hSS ?_
    rotate_left
    ·(intro W hW;obtain⟨q0,q1,q2,q3,q4⟩:=K0.out W hW;go_simp;try with_reducible rfl)
    try simp only[pA,pN,sA,sB]
    refine anyL_done zK ?_ _
    have HS6:=zh hSS
    have HOF:=zh (show ∃a cap,u9=Value.slice a k cap∧Row w6 a (rangeCells (stepsTo q.span pr.width k))∧k≤cap by
     obtain⟨a,cap,h1,h2,h3⟩:=ownsRow_own HO.out
     exact⟨a,cap,h1,h2.row,h3⟩)
    clear hSS K0
    go_wp2_with fail
    go_ret2
    obtain⟨a,cap,h1,h2,h3⟩:=HOF.out
    have hL:stepsL c l v=stepsTo q.span pr.width k:=by rw[HSL.out,stepsOf,HM.out]
    have hLl:(stepsL c l v).length=k:=by rw[hL,stepsTo_len]
    refine⟨HB.out.trans (HS6.out.mono HB.out.size),_,_,rfl,.inr ⟨rfl,rfl,a,cap,?_,?_,?_⟩⟩
    ·rw[h1,hLl];rfl
    ·rw[hL];exact h2
    ·rw[hLl];exact h3
 ·have hzb:(er != 0)=true:=by simpa using hz
  have HNZ:=zh hz
  clear hz
  go_wp2_with fail
  go_ret2
  exact⟨HB.out,_,_,rfl,.inl ⟨HNZ.out,rfl,rfl⟩⟩
end Go.Proofs.YtjgldeeianionaaGreat
