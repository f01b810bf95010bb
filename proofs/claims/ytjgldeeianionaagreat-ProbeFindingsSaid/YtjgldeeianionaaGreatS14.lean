/- The walks and plain laws of: MQSteps MQPan MQLab MQClone MQAftM. No condition. -/
import Derived.IntWalk
import Derived.Test.YtjgldeeianionaaGreatS01
import Derived.Test.YtjgldeeianionaaGreatS06
import Derived.Test.YtjgldeeianionaaGreatS08
import Derived.Test.YtjgldeeianionaaGreatS13
set_option maxHeartbeats 1000000
set_option maxRecDepth 100000
set_option linter.unusedSimpArgs false
set_option linter.unusedVariables false
namespace Go.Proofs.YtjgldeeianionaaGreat
open Go.RowKit
attribute [local go_sem] Oper.semAt_some
def rangeCells (l:List (Int×Int)):List Value:=l.flatMap fun x=>[.int .i64 x.1,.int .i64 x.2]
theorem rangeCells_snoc (l:List (Int×Int))(x:Int×Int):rangeCells (l++[x])=rangeCells l++[.int .i64 x.1,.int .i64 x.2]:=by simp[rangeCells,List.flatMap_append]
theorem info_range:(Tryz.prog.info? 164).map (fun i=>(i.zero,i.size,i.bytes))=some (some (.agg #[.int .i64 0,.int .i64 0]),2,16):=zK
theorem range_row (w:World)(x y:Int)(t:TypeId):Row (w.alloc (.cells #[.int .i64 x,.int .i64 y] t)) (some ⟨w.heap.size,0,none⟩) [.int .i64 x,.int .i64 y]:=by
 have h:=Box.new w #[.int .i64 x,.int .i64 y] t
 intro k v hv
 refine⟨w.heap.size,0,rfl,?_⟩
 rw[Nat.zero_add,h.cell]
 rcases k with _|_|k
 ·simpa using hv
 ·simpa using hv
 ·simp at hv
theorem app_range {base:Nat}{W:World}{v:Value}{k:Nat}{xs:List Value}(h:W.ownsRow base 164 2 v k xs)(hk:k+1≤1000000)(hB:base≤W.heap.size)(x y:Int):
 ∃v' U,(Builtin.append_ #[84,84] 84 #[v,.slice (some ⟨W.heap.size,0,none⟩) 1 1]).run Tryz.prog (W.alloc (.cells #[.int .i64 x,.int .i64 y] 164)) = .ok v' U∧U.ownsRow base 164 2 v' (k+1) (xs++[.int .i64 x,.int .i64 y])∧Below base W U:=by
 obtain⟨v',U,hrun,hown,hg,_⟩:=run_append_row (P:=Tryz.prog) (W.alloc (.cells #[.int .i64 x,.int .i64 y] 164)) base 84 84 164 (.agg #[.int .i64 0,.int .i64 0]) 2 16 Tryz.underlying84 info_range rfl (by omega)
  _ _ _ (ownsRow_keep h ((Keep.refl (fun _=>True) W).alloc (.cells #[.int .i64 x,.int .i64 y] 164)) (fun _ _=>trivial)) (some ⟨W.heap.size,0,none⟩) 1 1 [.int .i64 x,.int .i64 y] rfl (range_row _ _ _ _) (by intro u hu;simp at hu;rcases hu with rfl|rfl<;>rfl) (by omega) (by omega) (by simp;omega)
 exact⟨v',U,hrun,hown,((Below.refl _ W).alloc hB (.cells #[.int .i64 x,.int .i64 y] 164)).grown hg (by simp;omega) (fun j hj=>(h.lt j hj).1)⟩
theorem ownsRow_low {w:World}{base B:Nat}{e:TypeId}{size n:Nat}{v:Value}{xs:List Value}(h:w.ownsRow base e size v n xs)(hB:B≤base):w.ownsRow B e size v n xs:=by
 refine⟨h.1,?_⟩
 rcases h.2 with h0|⟨g,cap,cur,h1,hg,hh,h3⟩
 ·exact .inl h0
 ·exact .inr ⟨g,cap,cur,h1,Nat.le_trans hB hg,hh,h3⟩
def StepsPost (L:List (Int×Int))(w:World)(e:Ending)(w':World):Prop:=∃v,e = .returned v∧w'.ownsRow w.heap.size 164 2 v L.length (rangeCells L)∧Below w.heap.size w w'
theorem steps_any (s:Spn)(width:Int)(h0:0≤s.low)(h1:s.low≤s.high)(h2:s.high≤1000)(hw1:1≤width)(hw2:width≤1001)(w:World):
 Calls Tryz.prog 142 #[.agg #[.int .i64 s.low,.int .i64 s.high,.int .i64 s.lowBy,.int .i64 s.highBy],.int .i64 width] w (StepsPost (stepsOf s width) w):=by
 have hb0:Box (w.alloc (.cells #[.int .i64 s.low,.int .i64 s.high,.int .i64 s.lowBy,.int .i64 s.highBy] 78)) w.heap.size #[.int .i64 s.low,.int .i64 s.high,.int .i64 s.lowBy,.int .i64 s.highBy] 78:=Box.new _ _ _
 have hB0:Below w.heap.size w (w.alloc (.cells #[.int .i64 s.low,.int .i64 s.high,.int .i64 s.lowBy,.int .i64 s.highBy] 78)):=(Below.refl _ w).alloc (Nat.le_refl _) _
 have hcl:=cnt_le hw1 h1 h0 h2
 go_enter Tryz.func142,Tryz.ntmps142
 go_upto_region 1 with fail
 generalize w.alloc (.cells #[.int .i64 s.low,.int .i64 s.high,.int .i64 s.lowBy,.int .i64 s.highBy] 78)=w1 at *
 have HX:=zh hb0
 have HB:=zh hB0
 clear hb0 hB0
 have e1:=HX.out.cell
 go_wp2_with fail
 clear e1
 go_loopw [5,6] (fun ov iv wr=>∃k:Nat,k≤cntN s width∧iv = .int .i64 (s.low+k*width)∧wr.ownsRow (w.heap.size+1) 164 2 ov k (rangeCells (stepsTo s width k))∧Box wr w.heap.size #[.int .i64 s.low,.int .i64 s.high,.int .i64 s.lowBy,.int .i64 s.highBy] 78∧Below w.heap.size w wr) (fun _ iv _=>(s.high+1-intOf iv).toNat)
 case atStart=>exact⟨0,Nat.zero_le _,by simp,ownsRow_nil _ _ _ _,HX.out,HB.out⟩
 case round=>
  clear HX HB
  obtain⟨k,hk,rfl,ho,hx,hB⟩:=hrel
  have hst:=step_lt (s:=s) (w:=width) (k:=k) (by omega) h1
  have hat:stepAt s width k=(s.low+k*width,min s.high (s.low+k*width+width-1)):=by
   unfold stepAt
   rw[Int.add_mul,Int.one_mul,←Int.add_assoc]
  have h0k:(0:Int)≤(k:Int)*width:=Int.mul_nonneg (by omega) (by omega)
  have HS:=zh hst
  have HSN:=zh (stepsTo_succ s width k)
  have hnx:s.low+((k+1:Nat):Int)*width=s.low+k*width+width:=by
   rw[show((k+1:Nat):Int)=(k:Int)+1 by omega,Int.add_mul,Int.one_mul,←Int.add_assoc]
  have HNX:=zh hnx
  clear hst hnx
  obtain⟨x,hxe⟩:=zx (s.low+(k:Int)*width)
  rw[hxe] at hat HS HNX
  simp only[hxe]
  have hx0:0≤x:=by rw[←hxe];exact Int.add_nonneg h0 h0k
  have HAT:=zh hat
  have HO:=zh ho
  have HX:=zh hx
  have HB:=zh hB
  have e1:=hx.cell
  clear hat hxe h0k hx hB ho
  by_cases hle:x≤s.high
  ·have hkl:=HS.out.1 hle
   by_cases hmn:x+width-1<s.high
   ·skip
    have HAT:=zh (show stepAt s width k=(x,x+width-1) by rw[HAT.out];congr 1;omega)
    have hmin:min s.high (x+width-1)=x+width-1:=by omega
    obtain⟨v',U,hrun,hown,hb⟩:=app_range HO.out (by omega) HX.out.lt x (x+width-1)
    have HRN:=zh hrun
    have HOW:=zh hown
    have HBU:=zh (HB.out.trans (hb.mono (Nat.le_succ _)))
    have HXU:=zh (HX.out.below hb (Nat.lt_succ_self _))
    clear hrun hown hb
    go_wp2_with (at_builtin;refine wpList_app rfl _ _ _ rfl rfl rfl HRN.out ?_)
    go_roundw
    case rel=>exact⟨k+1,by omega,by rw[HNX.out],by rw[HSN.out,rangeCells_snoc,HAT.out];exact HOW.out,HXU.out,HBU.out⟩
    case measure=>simp[intOf];omega
   ·skip
    have HAT:=zh (show stepAt s width k=(x,s.high) by rw[HAT.out];congr 1;omega)
    have hmin:min s.high (x+width-1)=s.high:=by omega
    obtain⟨v',U,hrun,hown,hb⟩:=app_range HO.out (by omega) HX.out.lt x (s.high)
    have HRN:=zh hrun
    have HOW:=zh hown
    have HBU:=zh (HB.out.trans (hb.mono (Nat.le_succ _)))
    have HXU:=zh (HX.out.below hb (Nat.lt_succ_self _))
    clear hrun hown hb
    go_wp2_with (at_builtin;refine wpList_app rfl _ _ _ rfl rfl rfl HRN.out ?_)
    go_roundw
    case rel=>exact⟨k+1,by omega,by rw[HNX.out],by rw[HSN.out,rangeCells_snoc,HAT.out];exact HOW.out,HXU.out,HBU.out⟩
    case measure=>simp[intOf];omega
  ·have hke:k=cntN s width:=by
    rcases Nat.lt_or_ge k (cntN s width) with h|h
    ·exact absurd (HS.out.2 h) hle
    ·omega
   have HKE:=zh hke
   clear hke
   go_wp2_with fail
   go_ret
   have h:=HO.out
   rw[HKE.out] at h
   exact⟨_,rfl,by rw[show(stepsOf s width).length=cntN s width from stepsTo_len _ _ _];exact ownsRow_low h (Nat.le_succ _),HB.out⟩
theorem needPost_no {ok:Bool}{w w':World}(h:ok=false)(hb:Below w.heap.size w w'):NeedPost ok w (.panicked [{v:=unfit,recovered:=false}]) w':=⟨hb,.inr ⟨h,rfl⟩⟩
theorem needPost_ok {ok:Bool}{w w':World}(h:ok=true)(hb:Below w.heap.size w w'):NeedPost ok w (.returned (.tuple #[])) w':=⟨hb,.inl ⟨h,rfl⟩⟩
def twoB (n:Nat)(a b:Int):Bool:=inB a 0 ((n:Int)-1)&&inB b 0 ((n:Int)-1)&&(a != b)
theorem two_any {t:Nat}{c:Cs}{pa:Option Addr}{pc:Nat}{l:List Prb}{qa:Option Addr}{qc:Nat}(hn:c.parts.length≤20)(a b:Int)(w:World)(h:LabAt w t c pa pc l qa qc):
 Calls Tryz.prog 79 #[.pointer (some ⟨t,0,none⟩),.int .i64 a,.int .i64 b] w (NeedPost (twoB c.parts.length a b) w):=by
 have e1:=h.cells
 unfold twoB
 rcases h1:inB a 0 ((c.parts.length:Int)-1) with _|_
 ·go_enter Tryz.func79,Tryz.ntmps79
  go_wp2_with fail
  (with_reducible refine(within9_any _ _ _ _).mono ?_)
  rintro e w' ⟨rfl,rfl⟩
  simp only[h1]
  go_wp2_with fail
  (with_reducible refine(need9_no _).mono ?_)
  rintro e w' ⟨rfl,rfl⟩
  go_wp2_with fail
  exact⟨rfl,needPost_no (by simp) (Below.refl _ _)⟩
 ·rcases h2:inB b 0 ((c.parts.length:Int)-1) with _|_
  ·go_enter Tryz.func79,Tryz.ntmps79
   go_wp2_with fail
   (with_reducible refine(within9_any _ _ _ _).mono ?_)
   rintro e w' ⟨rfl,rfl⟩
   simp only[h1]
   go_wp2_with fail
   (with_reducible refine(within9_any _ _ _ _).mono ?_)
   rintro e w' ⟨rfl,rfl⟩
   simp only[h2]
   go_wp2_with fail
   (with_reducible refine(need9_no _).mono ?_)
   rintro e w' ⟨rfl,rfl⟩
   go_wp2_with fail
   exact⟨rfl,needPost_no (by simp) (Below.refl _ _)⟩
  ·rcases h3:(a != b) with _|_
   ·go_enter Tryz.func79,Tryz.ntmps79
    go_wp2_with fail
    (with_reducible refine(within9_any _ _ _ _).mono ?_)
    rintro e w' ⟨rfl,rfl⟩
    simp only[h1]
    go_wp2_with fail
    (with_reducible refine(within9_any _ _ _ _).mono ?_)
    rintro e w' ⟨rfl,rfl⟩
    simp only[h2]
    go_wp2_with fail
    (with_reducible refine(need9_no _).mono ?_)
    rintro e w' ⟨rfl,rfl⟩
    go_wp2_with fail
    exact⟨rfl,needPost_no (by simp) (Below.refl _ _)⟩
   ·go_enter Tryz.func79,Tryz.ntmps79
    go_wp2_with fail
    (with_reducible refine(within9_any _ _ _ _).mono ?_)
    rintro e w' ⟨rfl,rfl⟩
    simp only[h1]
    go_wp2_with fail
    (with_reducible refine(within9_any _ _ _ _).mono ?_)
    rintro e w' ⟨rfl,rfl⟩
    simp only[h2]
    go_wp2_with fail
    (with_reducible refine(need9_ok _).mono ?_)
    rintro e w' ⟨rfl,rfl⟩
    go_wp2_with fail
    go_end0
    exact needPost_ok (by simp) (Below.refl _ _)
def setAt (m:Nat)(S:List Int)(j:Nat):Bool:=inB (S[j]?.getD 0) 0 ((m:Int)-1)&&(j==0||decide (S[j-1]?.getD 0<S[j]?.getD 0))
def setB (m:Nat)(S:List Int):Bool:=upto S.length (setAt m S)
theorem setAt_zero {m:Nat}{S:List Int}{x:Int}(hx:S[0]?=some x):setAt m S 0=inB x 0 ((m:Int)-1):=by simp[setAt,hx]
theorem setAt_succ {m:Nat}{S:List Int}{k:Nat}{x y:Int}(hx:S[k+1]?=some x)(hy:S[k]?=some y):setAt m S (k+1)=(inB x 0 ((m:Int)-1)&&decide (y<x)):=by simp[setAt,hx,hy]
theorem set_any {t:Nat}{c:Cs}{pa:Option Addr}{pc:Nat}{l:List Prb}{qa:Option Addr}{qc:Nat}(hl:l.length≤20)(la:Option Addr)(S:List Int)(sc:Nat)(w:World)(h:LabAt w t c pa pc l qa qc)(hS:Ints w la S)(hSl:S.length≤1000000):
 Calls Tryz.prog 102 #[.pointer (some ⟨t,0,none⟩),.slice la S.length sc] w (NeedPost (setB l.length S) w):=by
 have e1:=h.cells
 go_enter Tryz.func102,Tryz.ntmps102
 go_wp2_with fail
 go_loop [8] (fun iv=>∃k:Nat,k≤S.length∧iv = .int .i64 k∧∀j,j<k→setAt l.length S j=true) (fun iv=>S.length-(intOf iv).toNat)
 case atStart=>exact⟨0,Nat.zero_le _,rfl,all_none⟩
 case round=>
  obtain⟨k,hk,rfl,hall⟩:=hrel
  have HA:=zh hall
  clear hall
  by_cases hlt:k<S.length
  ·obtain⟨b,o,rfl,hb⟩:=hS.base (by omega)
   obtain⟨x,hx⟩:=get_of_lt S hlt
   have hc:=hb _ _ hx
   have hkn:(k:Int)<(S.length:Int):=by omega
   rcases h1:inB x 0 ((l.length:Int)-1) with _|_
   ·have HF:=zh (show setB l.length S=false from upto_false hlt (by simp[setAt,hx,h1]))
    clear hx hb
    go_wp2_with fail
    (with_reducible refine(within9_any _ _ _ _).mono ?_)
    rintro e w' ⟨rfl,rfl⟩
    simp only[h1]
    go_wp2_with fail
    (with_reducible refine(need9_no _).mono ?_)
    rintro e w' ⟨rfl,rfl⟩
    go_wp2_with fail
    exact⟨rfl,needPost_no HF.out (Below.refl _ _)⟩
   ·rcases k with _|k
    ·simp only[Nat.add_zero] at hc
     have HX:=zh (setAt_zero (m:=l.length) hx)
     have HH:=zh h1
     clear hx hb
     go_wp2_with fail
     (with_reducible refine(within9_any _ _ _ _).mono ?_)
     rintro e w' ⟨rfl,rfl⟩
     simp only[h1]
     go_wp2_with fail
     (with_reducible refine(need9_ok _).mono ?_)
     rintro e w' ⟨rfl,rfl⟩
     go_wp2_with fail
     go_round
     case rel=>exact⟨1,by omega,rfl,all_step HA.out (by rw[HX.out,HH.out])⟩
     case measure=>simp[intOf];omega
    ·obtain⟨y,hy⟩:=get_of_lt S (k:=k) (by omega)
     have hc':=hb _ _ hy
     have hk0:(((k:Int)+1)==0)=false:=by simp;omega
     have HX:=zh (setAt_succ (m:=l.length) hx hy)
     have HH:=zh h1
     by_cases hyx:y<x
     ·have HF:=zh hyx
      clear hx hb hy
      go_wp2_with fail
      (with_reducible refine(within9_any _ _ _ _).mono ?_)
      rintro e w' ⟨rfl,rfl⟩
      simp only[h1]
      go_wp2_with fail
      (with_reducible refine(need9_ok _).mono ?_)
      rintro e w' ⟨rfl,rfl⟩
      go_wp2_with fail
      go_round
      case rel=>exact⟨k+2,by omega,by go_num,all_step HA.out (by rw[HX.out,HH.out];simp[HF.out])⟩
      case measure=>simp[intOf];omega
     ·have HF:=zh (show setB l.length S=false from upto_false hlt (by rw[HX.out];simp[hyx]))
      have hyb:decide (y<x)=false:=by simpa using hyx
      clear hx hb hy
      go_wp2_with fail
      (with_reducible refine(within9_any _ _ _ _).mono ?_)
      rintro e w' ⟨rfl,rfl⟩
      simp only[h1]
      go_wp2_with fail
      (with_reducible refine(need9_no _).mono ?_)
      rintro e w' ⟨rfl,rfl⟩
      go_wp2_with fail
      exact⟨rfl,needPost_no HF.out (Below.refl _ _)⟩
  ·have HF:=zh (show setB l.length S=true from upto_true (fun j hj=>HA.out j (by omega)))
   have hkn:decide ((k:Int)<(S.length:Int))=false:=by simp;omega
   go_wp2_with fail
   go_end0
   exact needPost_ok HF.out (Below.refl _ _)
theorem span_in {c:Cs}{p:Prb}{i:Nat}{q:Prt}(hi:p.part=(i:Int))(hq:c.parts[i]?=some q):spanOf c p=q.span:=by simp[spanOf,hi,hq]
theorem spanP_ok {c:Cs}(hc:checkCase c=0){q:Prt}(hq:q∈c.parts):0≤q.span.low∧q.span.low≤q.span.high∧q.span.high≤1000:=by
 have h1:okCase c=true:=by
  unfold checkCase at hc
  split at hc
  ·cases hc
  ·split at hc
   ·rename_i h;exact h
   ·cases hc
 simp only[okCase,Bool.and_eq_true,List.all_eq_true] at h1
 have h2:=h1.1.2 q hq
 simp only[isPartB,Bool.and_eq_true,okSpn,decide_eq_true_eq] at h2
 exact⟨h2.1.1.1.2.1.1,h2.1.1.1.2.1.2,h2.1.1.1.2.2⟩
theorem labSteps_any {t:Nat}{c:Cs}{pa:Option Addr}{pc:Nat}{l:List Prb}{qa:Option Addr}{qc:Nat}(hp:probesErr c l=0)(v:Nat)(p:Prb)(hv:l[v]?=some p)(w:World)(h:LabAt w t c pa pc l qa qc):
 Calls Tryz.prog 137 #[.pointer (some ⟨t,0,none⟩),.int .i64 v] w (StepsPost (stepsOf (spanOf c p) p.width) w):=by
 obtain⟨hc,hl5,hall⟩:=probes_ok hp
 obtain⟨hr,⟨hp0,hp1⟩,_⟩:=hall p (List.mem_of_getElem? hv)
 have rv:=right_vals hr
 have hvl:=(List.getElem?_eq_some_iff.1 hv).1
 obtain⟨i,hi⟩:=Int.eq_ofNat_of_zero_le hp0
 have hil:i<c.parts.length:=by omega
 obtain⟨b,o,q,rfl,hq,hP⟩:=h.parts.at_ hil
 obtain⟨g,e,p',rfl,hv',hG⟩:=h.probes.at_ hvl
 rw[hv] at hv';cases hv'
 have sp:=spanP_ok hc (List.mem_of_getElem? hq)
 have hst:=fun W=>steps_any q.span p.width sp.1 sp.2.1 sp.2.2 rv.2.1.1 rv.2.1.2 W
 rw[span_in hi hq]
 obtain⟨sa,sc,ra,rc,x0,x1,x2,x3,x4,x5,x6,x7,_⟩:=hP.open
 obtain⟨c0,c1,c2,c3⟩:=hG.open
 rw[hi] at c1
 have e1:=h.cells
 have hvi:(v:Int)<(l.length:Int):=by omega
 have hin:(i:Int)<(c.parts.length:Int):=by omega
 have HST:=zh hst
 have HL:=zh h
 have HX:=zh (And.intro x1 (And.intro x2 (And.intro x3 x4)))
 have g0:Box (w.alloc (.cells #[.int .i64 p.id,.int .i64 (i:Int),.int .i64 p.width,.int .i64 p.cost] 93)) w.heap.size #[.int .i64 p.id,.int .i64 (i:Int),.int .i64 p.width,.int .i64 p.cost] 93:=Box.new _ _ _
 have hB0:Below w.heap.size w (w.alloc (.cells #[.int .i64 p.id,.int .i64 (i:Int),.int .i64 p.width,.int .i64 p.cost] 93)):=(Below.refl _ w).alloc (Nat.le_refl _) _
 clear x0 x1 x2 x3 x4 x5 x6 x7 hst hP hG h hv hall hr rv sp hq hi hp0 hp1 hp hc
 go_enter Tryz.func137,Tryz.ntmps137
 go_upto_region 2 with fail
 generalize w.alloc (.cells #[.int .i64 p.id,.int .i64 (i:Int),.int .i64 p.width,.int .i64 p.cost] 93)=w1 at *
 have k0:∀A,Below w1.heap.size w1 A→(∀j,A.cell? ⟨t,j,none⟩=(#[.string c.ware,.int .i64 c.limit,.int .i64 c.by_,.slice (some ⟨b,o,none⟩) c.parts.length pc,.slice (some ⟨g,e,none⟩) l.length qc]:Array Value)[j]?) ∧
  (∀j,A.cell? ⟨w.heap.size,j,none⟩=(#[.int .i64 p.id,.int .i64 (i:Int),.int .i64 p.width,.int .i64 p.cost]:Array Value)[j]?)∧A.cell? ⟨b,o+i*8+1,none⟩=some (.int .i64 q.span.low)∧A.cell? ⟨b,o+i*8+2,none⟩=some (.int .i64 q.span.high) ∧
  A.cell? ⟨b,o+i*8+3,none⟩=some (.int .i64 q.span.lowBy)∧A.cell? ⟨b,o+i*8+4,none⟩=some (.int .i64 q.span.highBy):=fun A hA=>by
  have hb:=hB0.trans (hA.mono hB0.size)
  exact⟨(HL.out.below hb).cells,(g0.below' hA).cell,below_cell hb HX.out.1,below_cell hb HX.out.2.1,below_cell hb HX.out.2.2.1,below_cell hb HX.out.2.2.2⟩
 have K0:=zh k0
 have HB0:=zh hB0
 clear k0 c0 c1 c2 c3 e1 HX HL g0 hB0
 refine wp_region_L (fun A=>Below w1.heap.size w1 A) 13 zK ?_
 have hSS:Below w1.heap.size w1 w1.drew:=(Below.refl _ w1).drew
 refine tkL 0 ?_ rfl ?_ hSS ?_
 rotate_left
 ·(intro W hW;obtain⟨q0,q1,q2,q3,q4,q5⟩:=K0.out W hW;go_simp;try with_reducible rfl)
 try simp only[pA,pN,sA,sB]
 refine tkL 1 ?_ rfl ?_ hSS ?_
 rotate_left
 ·(intro W hW;obtain⟨q0,q1,q2,q3,q4,q5⟩:=K0.out W hW;go_simp;try with_reducible rfl)
 try simp only[pA,pN,sA,sB]
 refine tkL 2 ?_ rfl ?_ hSS ?_
 rotate_left
 ·(intro W hW;obtain⟨q0,q1,q2,q3,q4,q5⟩:=K0.out W hW;go_simp;try with_reducible rfl)
 try simp only[pA,pN,sA,sB]
 refine tkL 3 ?_ rfl ?_ hSS ?_
 rotate_left
 ·(intro W hW;obtain⟨q0,q1,q2,q3,q4,q5⟩:=K0.out W hW;go_simp;try with_reducible rfl)
 try simp only[pA,pN,sA,sB]
 refine tkL 4 ?_ rfl ?_ hSS ?_
 rotate_left
 ·(intro W hW;obtain⟨q0,q1,q2,q3,q4,q5⟩:=K0.out W hW;go_simp;try with_reducible rfl)
 try simp only[pA,pN,sA,sB]
 refine tkL 5 ?_ rfl ?_ hSS ?_
 rotate_left
 ·(intro W hW;obtain⟨q0,q1,q2,q3,q4,q5⟩:=K0.out W hW;go_simp;try with_reducible rfl)
 try simp only[pA,pN,sA,sB]
 refine tkL 6 ?_ rfl ?_ hSS ?_
 rotate_left
 ·(intro W hW;obtain⟨q0,q1,q2,q3,q4,q5⟩:=K0.out W hW;go_simp;try with_reducible rfl)
 try simp only[pA,pN,sA,sB]
 refine tkL 7 ?_ rfl ?_ hSS ?_
 rotate_left
 ·(intro W hW;obtain⟨q0,q1,q2,q3,q4,q5⟩:=K0.out W hW;go_simp;try with_reducible rfl)
 try simp only[pA,pN,sA,sB]
 refine tkL 8 ?_ rfl ?_ hSS ?_
 rotate_left
 ·(intro W hW;obtain⟨q0,q1,q2,q3,q4,q5⟩:=K0.out W hW;go_simp;try with_reducible rfl)
 try simp only[pA,pN,sA,sB]
 refine tkL 9 ?_ rfl ?_ hSS ?_
 rotate_left
 ·(intro W hW;obtain⟨q0,q1,q2,q3,q4,q5⟩:=K0.out W hW;go_simp;try with_reducible rfl)
 try simp only[pA,pN,sA,sB]
 refine tkL 10 ?_ rfl ?_ hSS ?_
 rotate_left
 ·(intro W hW;obtain⟨q0,q1,q2,q3,q4,q5⟩:=K0.out W hW;go_simp;try with_reducible rfl)
 try simp only[pA,pN,sA,sB]
 refine tkL 11 ?_ rfl ?_ hSS ?_
 rotate_left
 ·(intro W hW;obtain⟨q0,q1,q2,q3,q4,q5⟩:=K0.out W hW;go_simp;try with_reducible rfl)
 try simp only[pA,pN,sA,sB]
 refine anyL_call (i:=12) (f:=142) (args:=#[.agg #[.int .i64 q.span.low,.int .i64 q.span.high,.int .i64 q.span.lowBy,.int .i64 q.span.highBy],.int .i64 p.width]) rfl zK (by rfl) ?_ (HST.out w1.drew) ?_
 ·go_simp
 rintro e2 w2 ⟨v2,rfl,ho,hb⟩
 have hb2:Below w1.heap.size w1 w2:=hSS.trans hb
 refine .inl ⟨_,rfl,.inr hb2,?_⟩
 try simp only[pA,pN,sA,sB]
 refine anyL_run (i:=13) (v:=v2) (w':=w2) rfl zK (by rfl) (by go_simp) (.inl rfl) ?_
 try simp only[pA,pN,sA,sB]
 refine anyL_done zK ?_ _
 have HO:=zh ho
 have HB2:=zh (HB0.out.trans (hb2.mono HB0.out.size))
 have HSZ:=zh HB0.out.size
 clear ho hb hb2 hSS K0
 go_wp2_with fail
 go_ret
 exact⟨v2,rfl,ownsRow_low HO.out HSZ.out,HB2.out⟩
def cntAt (c:Cs)(l:List Prb)(v:Int):Int:=match l[v.toNat]? with|some p=>(cntN (spanOf c p) p.width:Int)|none=>0
def foundAt (c:Cs)(l:List Prb)(S F:List Int)(i:Nat):Bool:=inB (F[i]?.getD 0) 0 (cntAt c l (S[i]?.getD 0)-1)
def foundB (c:Cs)(l:List Prb)(S F:List Int):Bool:=setB l.length S&&decide (F.length=S.length)&&upto F.length (foundAt c l S F)
theorem set_val {m:Nat}{S:List Int}(h:setB m S=true){i:Nat}{x:Int}(hx:S[i]?=some x):∃v:Nat,x=v∧v<m:=by
 have h1:=upto_iff.1 h i (List.getElem?_eq_some_iff.1 hx).1
 simp only[setAt,hx,Option.getD_some,Bool.and_eq_true,inB,decide_eq_true_eq] at h1
 exact⟨x.toNat,by omega,by omega⟩
theorem found_any {t:Nat}{c:Cs}{pa:Option Addr}{pc:Nat}{l:List Prb}{qa:Option Addr}{qc:Nat}(hp:probesErr c l=0)(sa:Option Addr)(S:List Int)(sc:Nat)(fa:Option Addr)(F:List Int)(fc:Nat)(w:World)(h:LabAt w t c pa pc l qa qc)(hS:Ints w sa S)(hF:Ints w fa F)(hSl:S.length≤1000000)(hFl:F.length≤1000000):
 Calls Tryz.prog 60 #[.pointer (some ⟨t,0,none⟩),.slice sa S.length sc,.slice fa F.length fc] w (NeedPost (foundB c l S F) w):=by
 have hl5:=(probes_ok hp).2.1
 have HSE:=zh (set_any (by omega) sa S sc w h hS hSl)
 have HL:=zh h
 have HS:=zh hS
 have HF:=zh hF
 have HPE:=zh hp
 clear h hS hF hp
 rcases h1:setB l.length S with _|_
 ·have HFB:=zh (show foundB c l S F=false by simp[foundB,h1])
  rw[h1] at HSE
  clear h1
  go_enter Tryz.func60,Tryz.ntmps60
  go_wp2_with fail
  (with_reducible refine HSE.out.mono ?_)
  rintro e w1 ⟨hb,⟨h,_⟩|⟨_,rfl⟩⟩
  ·cases h
  ·have HB:=zh hb
   clear hb
   go_wp2_with fail
   exact⟨rfl,needPost_no HFB.out HB.out⟩
 ·rw[h1] at HSE
  have HSV:=zh (fun(i:Nat) (x:Int) (hx:S[i]?=some x)=>set_val h1 hx)
  have H1:=zh h1
  clear h1
  by_cases hlen:F.length=S.length
  ·have hlb:((F.length:Int)==(S.length:Int))=true:=by simp;omega
   have HLE:=zh hlen
   clear hlen
   go_enter Tryz.func60,Tryz.ntmps60
   go_wp2_with fail
   (with_reducible refine HSE.out.mono ?_)
   rintro e w1 ⟨hb,⟨_,rfl⟩|⟨h,_⟩⟩
   rotate_left
   ·cases h
   have HB1:=zh hb
   clear hb
   go_wp2_with fail
   (with_reducible refine(need9_ok _).mono ?_)
   rintro e w' ⟨rfl,rfl⟩
   go_wp2_with fail
   go_loopw [19] (fun iv wr=>∃k:Nat,k≤F.length∧iv = .int .i64 k∧Hid (∀j,j<k→foundAt c l S F j=true)∧Below w.heap.size w wr) (fun iv _=>F.length-(intOf iv).toNat)
   case atStart=>exact⟨0,Nat.zero_le _,rfl,zh all_none,HB1.out⟩
   case round=>
    clear HB1
    obtain⟨k,hk,rfl,HA,hB⟩:=hrel
    have HB:=zh hB
    clear hB
    by_cases hlt:k<F.length
    ·have hlk:k<S.length:=by have:=HLE.out;omega
     obtain⟨b,o,rfl,hb⟩:=(HF.out.below HB.out).base (by omega)
     obtain⟨x,hx⟩:=get_of_lt F hlt
     have c1:=hb _ _ hx
     obtain⟨g,e,rfl,hg⟩:=(HS.out.below HB.out).base (by omega)
     obtain⟨y,hy⟩:=get_of_lt S hlk
     have c2:=hg _ _ hy
     obtain⟨v,rfl,hvm⟩:=HSV.out k y hy
     obtain⟨p,hp⟩:=get_of_lt l hvm
     have hkn:(k:Int)<(F.length:Int):=by omega
     have hks:(k:Int)<(S.length:Int):=by omega
     have hat:foundAt c l S F k=inB x 0 ((cntN (spanOf c p) p.width:Int)-1):=by simp[foundAt,hx,hy,cntAt,hp]
     have HAT:=zh hat
     have hm4:=((probes_ok HPE.out).2.2 p (List.mem_of_getElem? hp)).2.2
     have hst:=labSteps_any HPE.out v p hp wr (HL.out.below HB.out)
     have HST:=zh hst
     clear hb hx hg hy hp hat hst
     go_wp2_with fail
     (with_reducible refine HST.out.mono ?_)
     rintro e2 w2 ⟨v2,rfl,ho,hb2⟩
     obtain⟨a2,cap2,rfl,_,_⟩:=ownsRow_own ho
     have hsl:(stepsOf (spanOf c p) p.width).length=cntN (spanOf c p) p.width:=stepsTo_len _ _ _
     rw[hsl]
     have HB2:=zh (HB.out.trans (hb2.mono HB.out.size))
     generalize cntN (spanOf c p) p.width=m at *
     clear ho hb2 hsl
     go_wp2_with fail
     (with_reducible refine(within9_any _ _ _ _).mono ?_)
     rintro e3 w' ⟨rfl,rfl⟩
     rcases hin:inB x 0 ((m:Int)-1) with _|_
     ·have HFB:=zh (show foundB c l S F=false by unfold foundB;rw[upto_false hlt (by rw[HAT.out,hin]),Bool.and_false])
      go_wp2_with fail
      (with_reducible refine(need9_no _).mono ?_)
      rintro e3 w' ⟨rfl,rfl⟩
      go_wp2_with fail
      exact⟨rfl,needPost_no HFB.out HB2.out⟩
     ·have HIN:=zh hin
      go_wp2_with fail
      (with_reducible refine(need9_ok _).mono ?_)
      rintro e3 w' ⟨rfl,rfl⟩
      go_wp2_with fail
      go_roundw
      case rel=>exact⟨k+1,by omega,by go_num,zh (all_step HA.out (by rw[HAT.out,HIN.out])),HB2.out⟩
      case measure=>simp[intOf];omega
    ·have HFB:=zh (show foundB c l S F=true by unfold foundB;rw[H1.out,upto_true (fun j hj=>HA.out j (by omega))];simp[HLE.out])
     have hkn:decide ((k:Int)<(F.length:Int))=false:=by simp;omega
     go_wp2_with fail
     go_end0
     exact needPost_ok HFB.out HB.out
  ·have hlb:((F.length:Int)==(S.length:Int))=false:=by simp;omega
   have HFB:=zh (show foundB c l S F=false by simp[foundB,hlen])
   clear hlen
   go_enter Tryz.func60,Tryz.ntmps60
   go_wp2_with fail
   (with_reducible refine HSE.out.mono ?_)
   rintro e w1 ⟨hb,⟨_,rfl⟩|⟨h,_⟩⟩
   rotate_left
   ·cases h
   have HB1:=zh hb
   clear hb
   go_wp2_with fail
   (with_reducible refine(need9_no _).mono ?_)
   rintro e w' ⟨rfl,rfl⟩
   go_wp2_with fail
   exact⟨rfl,needPost_no HFB.out HB1.out⟩
theorem clone2_any (a:Option Addr)(c:Nat)(l:List Int)(w:World)(h:Ints w a l)(hl:l.length≤100000):
 Calls Tryz.prog 152 #[.slice a l.length c] w (Copy2Post w.heap.size l w):=by
 rcases a with _|ad
 ·have hn:l=[]:=by
   cases l with
   |nil=>rfl
   |cons u r=>obtain⟨b,o,h,_⟩:=h 0 (.int .i64 u) rfl;cases h
  subst hn
  have hnil:∀w:World,(binOp .eql 26 (.slice none 0 c) (.slice none 0 0)).run Tryz.prog w = .ok (.bool true) w:=fun w=>by kernel_rfl
  go_enter Tryz.func152,Tryz.ntmps152
  go_wp2_with fail
  go_ret
  exact⟨none,0,rfl,fun k v hv=>by simp at hv,by simp,Below.refl _ _⟩
 obtain⟨v',w',hrun,hown,hg,_⟩:=run_append_row (P:=Tryz.prog) (w.alloc (.cells #[] 3)) w.heap.size 26 26 3 (.int .i64 0) 1 8 Tryz.underlying26 info_int rfl (by omega)
  (.slice (some ⟨w.heap.size,0,none⟩) 0 0) 0 [] (ownsRow_empty w _ _ _ (Nat.le_refl _)) (some ad) l.length c (l.map (.int .i64)) (by simp) (h.below ((Below.refl _ w).alloc (Nat.le_refl _) _)) (ints_one l) (by omega) (by omega) (by simp)
 have hnil:∀w:World,(binOp .eql 26 (.slice (some ad) l.length c) (.slice none 0 0)).run Tryz.prog w = .ok (.bool false) w:=fun w=>by kernel_rfl
 have HO:=zh hown
 have HG:=zh hg
 have HR:=zh hrun
 clear hown hg hrun
 go_enter Tryz.func152,Tryz.ntmps152
 go_wp2_with (at_builtin;refine wpList_app rfl _ _ _ rfl rfl rfl HR.out ?_)
 go_ret
 obtain⟨a',c',rfl,hr,hcap⟩:=ownsRow_own HO.out
 refine⟨a',c',by simp,by simpa using hr,by simpa using hcap,?_⟩
 exact((Below.refl _ w).alloc (Nat.le_refl _) _).trans ((grown_below (ownsRow_empty w w.heap.size _ 1 (Nat.le_refl _)) HG.out (Nat.le_refl _) (by simp)))
theorem cloneP_any (a:Option Addr)(c:Nat)(l:List Prt)(w0 w:World)(h:PartsAt w0 a l)(hw0:Below w0.heap.size w0 w)(hl:l.length≤1000)(hsm:a.isSome=true):
 Calls Tryz.prog 151 #[.slice a l.length c] w (CopyPPost l w0 w):=by
 obtain⟨ad,rfl⟩:=Option.isSome_iff_exists.1 hsm
 obtain⟨news,hn1,hn2,hn3,hn4⟩:=parts_row h
 have hB:Below w.heap.size w (w.alloc (.cells #[] 80)):=(Below.refl _ w).alloc (Nat.le_refl _) _
 have hE:=ownsRow_empty w w.heap.size 80 8 (Nat.le_refl _)
 obtain⟨v',w',hrun,hown,hg,hvb⟩:=run_append_row (P:=Tryz.prog) (w.alloc (.cells #[] 80)) w.heap.size 22 22 80 zeroPart 8 96 Tryz.underlying22 info_partz rfl (by omega)
  (.slice (some ⟨w.heap.size,0,none⟩) 0 0) 0 [] hE (some ad) l.length c news hn1 ((Row.below hn2 hw0).below hB) hn3 (by omega) (by omega) (by simp)
 have hnil:∀w:World,(binOp .eql 22 (.slice (some ad) l.length c) (.slice none 0 0)).run Tryz.prog w = .ok (.bool false) w:=fun w=>by kernel_rfl
 have HO:=zh hown
 have HG:=zh hg
 have HR:=zh hrun
 clear hown hg hrun
 go_enter Tryz.func151,Tryz.ntmps151
 go_wp2_with (at_builtin;refine wpList_app rfl _ _ _ rfl rfl rfl HR.out ?_)
 go_ret
 have hbel:Below w.heap.size w w':=hB.trans ((grown_below hE HG.out (Nat.le_refl _) (by simp)))
 obtain⟨ho1,ho2⟩:=HO.out
 rcases ho2 with ⟨rfl,_⟩|⟨g,cap,cur,rfl,hgb,hh,hcap,_,hcs,htake⟩
 ·rcases hvb with hvb|hvb<;>simp[Value.ownBlock] at hvb
 ·simp only[Nat.zero_add,List.nil_append] at hcap htake ⊢
  refine⟨g,cap,cur,rfl,hcap,hgb,hh,fun i p hp=>?_,hbel⟩
  obtain⟨sa,sc,ra,rc,h1,h2,h3,h4,h5⟩:=hn4 i p hp
  have hi:i<l.length:=(List.getElem?_eq_some_iff.1 hp).1
  refine⟨sa,sc,ra,rc,fun j v hv=>?_,(h2.below hw0).below hbel,(h3.below hw0).below hbel,h4,h5,fun b o ha hl=>⟨?_,ints_block h2 ha hl⟩,fun b o ha hl=>⟨?_,ints_block h3 ha hl⟩⟩
  ·have hj:j<8:=(List.getElem?_eq_some_iff.1 hv).1
   have:=h1 j v hv
   rw[←htake,List.getElem?_take,if_pos (by omega)] at this
   simpa using this
  ·have:=ints_block h2 ha hl;have:=hw0.size;omega
  ·have:=ints_block h3 ha hl;have:=hw0.size;omega
theorem cloneP_nil (c:Nat)(w:World):Calls Tryz.prog 151 #[.slice none 0 c] w fun e w'=>e = .returned (.slice none 0 0)∧w=w':=by
 have hnil:∀w:World,(binOp .eql 22 (.slice none 0 c) (.slice none 0 0)).run Tryz.prog w = .ok (.bool true) w:=fun w=>by kernel_rfl
 go_enter Tryz.func151,Tryz.ntmps151
 go_wp2_with fail
 go_ret
 exact⟨rfl,rfl⟩
structure AftSt (c:Cs) (w:World) (n PB pc':Nat) (l:List Prt) (W:World):Prop where
 box:Box W (w.heap.size+1) #[.string c.ware,.int .i64 c.limit,.int .i64 c.by_,.slice (some ⟨PB,0,none⟩) n pc'] 24
 res:Box W w.heap.size #[.string ⟨#[]⟩,.int .i64 0,.int .i64 0,.slice none 0 0] 24
 parts:∃cells M,PartsB w.heap.size M W PB cells l
 old:Below w.heap.size w W
section
variable {c:Cs}{w W W':World}{n PB pc' i:Nat}{l:List Prt}{p:Prt}{v id:Int}
theorem AftSt.far (h:AftSt c w n PB pc' l W):w.heap.size+2≤PB:=by
 obtain⟨cells,M,hb⟩:=h.parts
 exact hb.far
theorem AftSt.low (h:AftSt c w n PB pc' l W)(hp:l[i]?=some p):AftSt c w n PB pc' (l.modify i (setLow v id)) ((W.setCell ⟨PB,i*8+1,none⟩ (.int .i64 v)).setCell ⟨PB,i*8+3,none⟩ (.int .i64 id)):=by
 have h2:=h.far
 obtain⟨cells,M,hb⟩:=h.parts
 obtain⟨cells',hb'⟩:=set_low (v:=v) (id:=id) hb hp
 exact⟨(h.box.far (by simp;omega) _).far (by simp;omega) _,(h.res.far (by simp;omega) _).far (by simp;omega) _,⟨cells',M,hb'⟩,(h.old.setCell (by simp;omega) _).setCell (by simp;omega) _⟩
theorem AftSt.high (h:AftSt c w n PB pc' l W)(hp:l[i]?=some p):AftSt c w n PB pc' (l.modify i (setHigh v id)) ((W.setCell ⟨PB,i*8+2,none⟩ (.int .i64 v)).setCell ⟨PB,i*8+4,none⟩ (.int .i64 id)):=by
 have h2:=h.far
 obtain⟨cells,M,hb⟩:=h.parts
 obtain⟨cells',hb'⟩:=set_high (v:=v) (id:=id) hb hp
 exact⟨(h.box.far (by simp;omega) _).far (by simp;omega) _,(h.res.far (by simp;omega) _).far (by simp;omega) _,⟨cells',M,hb'⟩,(h.old.setCell (by simp;omega) _).setCell (by simp;omega) _⟩
theorem AftSt.at_ (h:AftSt c w n PB pc' l W)(hp:l[i]?=some p):W.cell? ⟨PB,i*8+1,none⟩=some (.int .i64 p.span.low)∧W.cell? ⟨PB,i*8+2,none⟩=some (.int .i64 p.span.high) ∧
 W.cell? ⟨PB,i*8+3,none⟩=some (.int .i64 p.span.lowBy)∧W.cell? ⟨PB,i*8+4,none⟩=some (.int .i64 p.span.highBy):=by
 obtain⟨cells,M,hb⟩:=h.parts
 exact own_at hb hp
theorem AftSt.free (h:AftSt c w n PB pc' l W)(i:Nat):W.frozen? ⟨PB,i,none⟩=false:=by
 obtain⟨cells,M,hb⟩:=h.parts
 exact hb.box.frozen i
theorem AftSt.lt (h:AftSt c w n PB pc' l W):PB<W.heap.size:=by
 obtain⟨cells,M,hb⟩:=h.parts
 exact hb.box.lt
theorem AftSt.drewN (h:AftSt c w n PB pc' l W)(k:Nat):AftSt c w n PB pc' l (W.drewN k):=by
 obtain⟨cells,M,hb⟩:=h.parts
 exact⟨h.box,h.res,⟨cells,M,⟨hb.box,hb.far,hb.one⟩⟩,below_drewN h.old k⟩
theorem AftSt.below (h:AftSt c w n PB pc' l W)(hb:Below W.heap.size W W'):AftSt c w n PB pc' l W':=by
 obtain⟨cells,M,hp⟩:=h.parts
 exact⟨h.box.below' hb,h.res.below' hb,⟨cells,M,hp.below hb⟩,h.old.trans (hb.mono h.old.size)⟩
end
def aftTo (c:Cs)(l:List Prb)(s fs:List Nat)(k:Nat):Option Cs:=aftGo c l ((s.zip fs).take k) c
theorem aftGo_append (c:Cs)(l:List Prb):∀(xs ys:List (Nat×Nat)) (d:Cs),aftGo c l (xs++ys) d=(aftGo c l xs d).bind (aftGo c l ys)
 |[],ys,d=>rfl
 |(v,k)::xs,ys,d=>by
  rw[List.cons_append,aftGo,aftGo]
  split
  ·rfl
  ·split
   ·rfl
   ·exact aftGo_append c l xs ys _
theorem aftTo_step {c:Cs}{l:List Prb}{s fs:List Nat}{k v f:Nat}{p:Prb}{d:Cs}(h:aftTo c l s fs k=some d)(hv:s[k]?=some v)(hf:fs[k]?=some f)(hp:l[v]?=some p):aftTo c l s fs (k+1)=aftStep c d p f:=by
 have hz:(s.zip fs)[k]?=some (v,f):=by rw[List.getElem?_zip_eq_some];exact⟨hv,hf⟩
 unfold aftTo at h ⊢
 rw[take_snoc hz,aftGo_append,h]
 simp only[Option.bind_some]
 rw[aftGo,hp]
 simp only[aftGo]
 cases aftStep c d p f<;>rfl
theorem aftTo_none {c:Cs}{l:List Prb}{s fs:List Nat}{k:Nat}(h:aftTo c l s fs k=none):afterC c l s fs=none:=by
 unfold aftTo at h
 unfold afterC
 conv=>lhs;rw[←List.take_append_drop k (s.zip fs)]
 rw[aftGo_append,h];rfl
theorem aftTo_all {c:Cs}{l:List Prb}{s fs:List Nat}{k:Nat}(hk:s.length≤k):aftTo c l s fs k=afterC c l s fs:=by
 unfold aftTo afterC
 rw[List.take_of_length_le (by rw[List.length_zip];omega)]
theorem rangeCells_at:∀{L:List (Int×Int)} {k:Nat} {x:Int×Int},L[k]?=some x→(rangeCells L)[k*2]?=some (.int .i64 x.1)∧(rangeCells L)[k*2+1]?=some (.int .i64 x.2)
 |[],k,x,h=>by simp at h
 |y::L,0,x,h=>by
  simp at h;subst h
  simp[rangeCells]
 |y::L,k+1,x,h=>by
  have ih:=rangeCells_at (L:=L) (k:=k) (x:=x) (by simpa using h)
  have e:rangeCells (y::L) = .int .i64 y.1 :: .int .i64 y.2::rangeCells L:=rfl
  rw[e,show(k+1)*2=k*2+1+1 by omega,show k*2+1+1+1=(k*2+1)+1+1 by omega]
  simpa using ih
theorem stepsOf_at {s:Spn}{w:Int}{k:Nat}(h:k<cntN s w):(stepsOf s w)[k]?=some (stepAt s w k):=by
 unfold stepsOf stepsTo
 rw[List.getElem?_map,List.getElem?_range h];rfl
def AftPost (o:Option Cs)(w:World)(e:Ending)(w':World):Prop:=
 Below w.heap.size w w'∧((o=none∧e = .returned (.tuple #[.agg #[.string ⟨#[]⟩,.int .i64 0,.int .i64 0,.slice none 0 0],.bool false])) ∨
  ∃d ba pc',o=some d∧e = .returned (.tuple #[.agg #[.string d.ware,.int .i64 d.limit,.int .i64 d.by_,.slice ba d.parts.length pc'],.bool true])∧d.parts.length≤pc' ∧
   ((∃PB cells,ba=some ⟨PB,0,none⟩∧PartsOwn w.heap.size w' PB cells d.parts.length d.parts)∨(ba=none∧d.parts=[])))
def lowIf (b:Bool)(i:Nat)(v id:Int)(l:List Prt):List Prt:=if b then l.modify i (setLow v id) else l
def highIf (b:Bool)(i:Nat)(v id:Int)(l:List Prt):List Prt:=if b then l.modify i (setHigh v id) else l
def lowP (b:Bool)(v id:Int)(p:Prt):Prt:=if b then setLow v id p else p
theorem lowIf_at {b:Bool}{l:List Prt}{i:Nat}{v id:Int}{p:Prt}(h:l[i]?=some p):(lowIf b i v id l)[i]?=some (lowP b v id p):=by
 cases b<;>simp[lowIf,lowP,List.getElem?_modify,h]
theorem lowP_high (b:Bool)(v id:Int)(p:Prt):(lowP b v id p).span.high=p.span.high:=by cases b<;>rfl
theorem two_narrow {d:Cs}{i:Nat}{q:Prt}{lo hi id:Int}{b1 b2:Bool}(hq:d.parts[i]?=some q)(h1:decide (q.span.low<lo)=b1)(h2:decide (hi<q.span.high)=b2):
 highIf b2 i hi id (lowIf b1 i lo id d.parts)=(narrowC d i lo hi id).parts:=by
 subst h1 h2
 unfold narrowC
 by_cases g1:q.span.low<lo<;>by_cases g2:hi<q.span.high
 ·simp only[lowIf,highIf,decide_eq_true g1,decide_eq_true g2,if_true]
  exact modify2 hq (by simp[setLow,setHigh,narrowP,g1,g2])
 ·simp only[lowIf,highIf,decide_eq_true g1,decide_eq_false g2,if_true]
  exact modify_at hq (by simp[setLow,narrowP,g1,g2])
 ·simp only[lowIf,highIf,decide_eq_false g1,decide_eq_true g2,if_true]
  exact modify_at hq (by simp[setHigh,narrowP,g1,g2])
 ·simp only[lowIf,highIf,decide_eq_false g1,decide_eq_false g2]
  have:=modify_at (f:=_root_.id) (g:=narrowP lo hi id) hq (by simp[narrowP,g1,g2])
  exact(List.modify_id i d.parts).symm.trans this
structure AftIn (c:Cs) (w:World) (n PB pc':Nat) (l:List Prt) (G P0:Nat) (rc pcs:Array Value) (W:World):Prop where
 st:AftSt c w n PB pc' l W
 g:Box W G rc 164
 p:Box W P0 pcs 93
section
variable {c:Cs}{w W:World}{n PB pc' i G P0:Nat}{l:List Prt}{p:Prt}{v id:Int}{rc pcs:Array Value}
theorem AftIn.drewN (h:AftIn c w n PB pc' l G P0 rc pcs W)(k:Nat):AftIn c w n PB pc' l G P0 rc pcs (W.drewN k):=⟨h.st.drewN k,h.g,h.p⟩
theorem AftIn.low (h:AftIn c w n PB pc' l G P0 rc pcs W)(hG:G≠PB)(hP:P0≠PB)(hp:l[i]?=some p):AftIn c w n PB pc' (lowIf true i v id l) G P0 rc pcs ((W.setCell ⟨PB,i*8+1,none⟩ (.int .i64 v)).setCell ⟨PB,i*8+1+2,none⟩ (.int .i64 id)):=
 ⟨h.st.low hp,(h.g.far (by simpa using hG) _).far (by simpa using hG) _,(h.p.far (by simpa using hP) _).far (by simpa using hP) _⟩
theorem AftIn.high (h:AftIn c w n PB pc' l G P0 rc pcs W)(hG:G≠PB)(hP:P0≠PB)(hp:l[i]?=some p):AftIn c w n PB pc' (highIf true i v id l) G P0 rc pcs ((W.setCell ⟨PB,i*8+1+1,none⟩ (.int .i64 v)).setCell ⟨PB,i*8+1+3,none⟩ (.int .i64 id)):=
 ⟨h.st.high hp,(h.g.far (by simpa using hG) _).far (by simpa using hG) _,(h.p.far (by simpa using hP) _).far (by simpa using hP) _⟩
end
end Go.Proofs.YtjgldeeianionaaGreat
