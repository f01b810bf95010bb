/- Walks and plain laws. No condition. -/
import Derived.Test.YtjgldeeianionaaGreatV17
set_option maxHeartbeats 2000000
set_option maxRecDepth 100000
set_option linter.unusedSimpArgs false
set_option linter.unusedVariables false
namespace Go.Proofs.YtjgldeeianionaaGreat
open Go.RowKit
section
attribute [local go_sem] Oper.semAt_some
theorem needPost_no {ok:Bool}{w w':World}(h:ok=false)(hb:Below w.heap.size w w'):NeedPost ok w (.panicked [{v:=unfit,recovered:=false}]) w':=⟨hb,.inr ⟨h,rfl⟩⟩
theorem needPost_ok {ok:Bool}{w w':World}(h:ok=true)(hb:Below w.heap.size w w'):NeedPost ok w (.returned (.tuple #[])) w':=⟨hb,.inl ⟨h,rfl⟩⟩
def twoB (n:Nat)(a b:Int):Bool:=inB a 0 ((n:Int)-1)&&inB b 0 ((n:Int)-1)&&(a != b)
theorem two_any {t:Nat}{c:Cs}{pa:Option Addr}{pc:Nat}{l:List Prb}{qa:Option Addr}{qc:Nat}(hn:c.parts.length≤20)(a b:Int)(w:World)(h:LabAt w t c pa pc l qa qc):
 Calls Tryz.prog 79 #[.pointer (some ⟨t,0,none⟩),.int .i64 a,.int .i64 b] w (NeedPost (twoB c.parts.length a b) w):=by
 have e1:=h.cells;unfold twoB
 rcases h1:inB a 0 ((c.parts.length:Int)-1) with _|_
 ·go_enter Tryz.func79,Tryz.ntmps79
  go_wp2_with fail
  (with_reducible refine(within9_any _ _ _ _).mono ?_)
  rintro e w' ⟨rfl,rfl⟩;simp only[h1]
  go_wp2_with fail
  (with_reducible refine(need9_no _).mono ?_)
  rintro e w' ⟨rfl,rfl⟩
  go_wp2_with fail
  exact⟨rfl,needPost_no zS (Below.refl _ _)⟩
 ·rcases h2:inB b 0 ((c.parts.length:Int)-1) with _|_
  ·go_enter Tryz.func79,Tryz.ntmps79
   go_wp2_with fail
   (with_reducible refine(within9_any _ _ _ _).mono ?_)
   rintro e w' ⟨rfl,rfl⟩;simp only[h1]
   go_wp2_with fail
   (with_reducible refine(within9_any _ _ _ _).mono ?_)
   rintro e w' ⟨rfl,rfl⟩;simp only[h2]
   go_wp2_with fail
   (with_reducible refine(need9_no _).mono ?_)
   rintro e w' ⟨rfl,rfl⟩
   go_wp2_with fail
   exact⟨rfl,needPost_no zS (Below.refl _ _)⟩
  ·rcases h3:(a != b) with _|_
   ·go_enter Tryz.func79,Tryz.ntmps79
    go_wp2_with fail
    (with_reducible refine(within9_any _ _ _ _).mono ?_)
    rintro e w' ⟨rfl,rfl⟩;simp only[h1]
    go_wp2_with fail
    (with_reducible refine(within9_any _ _ _ _).mono ?_)
    rintro e w' ⟨rfl,rfl⟩;simp only[h2]
    go_wp2_with fail
    (with_reducible refine(need9_no _).mono ?_)
    rintro e w' ⟨rfl,rfl⟩
    go_wp2_with fail
    exact⟨rfl,needPost_no zS (Below.refl _ _)⟩
   ·go_enter Tryz.func79,Tryz.ntmps79
    go_wp2_with fail
    (with_reducible refine(within9_any _ _ _ _).mono ?_)
    rintro e w' ⟨rfl,rfl⟩;simp only[h1]
    go_wp2_with fail
    (with_reducible refine(within9_any _ _ _ _).mono ?_)
    rintro e w' ⟨rfl,rfl⟩;simp only[h2]
    go_wp2_with fail
    (with_reducible refine(need9_ok _).mono ?_)
    rintro e w' ⟨rfl,rfl⟩
    go_wp2_with fail
    go_end0
    exact needPost_ok zS (Below.refl _ _)
def setAt (m:Nat)(S:List Int)(j:Nat):Bool:=inB (S[j]?.getD 0) 0 ((m:Int)-1)&&(j==0||decide (S[j-1]?.getD 0<S[j]?.getD 0))
def setB (m:Nat)(S:List Int):Bool:=upto S.length (setAt m S)
theorem setAt_zero {m:Nat}{S:List Int}{x:Int}(hx:S[0]?=some x):setAt m S 0=inB x 0 ((m:Int)-1):=by simp[setAt,hx]
theorem setAt_succ {m:Nat}{S:List Int}{k:Nat}{x y:Int}(hx:S[k+1]?=some x)(hy:S[k]?=some y):setAt m S (k+1)=(inB x 0 ((m:Int)-1)&&decide (y<x)):=by simp[setAt,hx,hy]
theorem set_any {t:Nat}{c:Cs}{pa:Option Addr}{pc:Nat}{l:List Prb}{qa:Option Addr}{qc:Nat}(hl:l.length≤20)(la:Option Addr)(S:List Int)(sc:Nat)(w:World)(h:LabAt w t c pa pc l qa qc)(hS:Ints w la S)(hSl:S.length≤1000000):
 Calls Tryz.prog 102 #[.pointer (some ⟨t,0,none⟩),.slice la S.length sc] w (NeedPost (setB l.length S) w):=by
 have e1:=h.cells
 go_enter Tryz.func102,Tryz.ntmps102
 go_wp2_with fail
 go_loop [8] (fun iv=>∃k:Nat,k≤S.length∧iv = .int .i64 k∧∀j,j<k→setAt l.length S j=true) (fun iv=>S.length-(intOf iv).toNat)
 case atStart=>exact⟨0,Nat.zero_le _,rfl,all_none⟩
 case round=>
  obtain⟨k,hk,rfl,hall⟩:=hrel;have HA:=zh hall;clear hall
  by_cases hlt:k<S.length
  ·obtain⟨b,o,rfl,hb⟩:=hS.base zO;obtain⟨x,hx⟩:=get_of_lt S hlt;have hc:=hb _ _ hx;have hkn:(k:Int)<(S.length:Int):=by omega
   rcases h1:inB x 0 ((l.length:Int)-1) with _|_
   ·have HF:=zh (show setB l.length S=false from upto_false hlt (by simp[setAt,hx,h1]));clear hx hb
    go_wp2_with fail
    (with_reducible refine(within9_any _ _ _ _).mono ?_)
    rintro e w' ⟨rfl,rfl⟩;simp only[h1]
    go_wp2_with fail
    (with_reducible refine(need9_no _).mono ?_)
    rintro e w' ⟨rfl,rfl⟩
    go_wp2_with fail
    exact⟨rfl,needPost_no HF.out (Below.refl _ _)⟩
   ·rcases k with _|k
    ·simp only[Nat.add_zero] at hc;have HX:=zh (setAt_zero (m:=l.length) hx);have HH:=zh h1;clear hx hb
     go_wp2_with fail
     (with_reducible refine(within9_any _ _ _ _).mono ?_)
     rintro e w' ⟨rfl,rfl⟩;simp only[h1]
     go_wp2_with fail
     (with_reducible refine(need9_ok _).mono ?_)
     rintro e w' ⟨rfl,rfl⟩
     go_wp2_with fail
     go_round
     case rel=>exact⟨1,zO,rfl,all_step HA.out (by rw[HX.out,HH.out])⟩
     case measure=>exact zJ
    ·obtain⟨y,hy⟩:=get_of_lt S (k:=k) zO;have hc':=hb _ _ hy;have hk0:(((k:Int)+1)==0)=false:=by simp;omega
     have HX:=zh (setAt_succ (m:=l.length) hx hy);have HH:=zh h1
     by_cases hyx:y<x
     ·have HF:=zh hyx;clear hx hb hy
      go_wp2_with fail
      (with_reducible refine(within9_any _ _ _ _).mono ?_)
      rintro e w' ⟨rfl,rfl⟩;simp only[h1]
      go_wp2_with fail
      (with_reducible refine(need9_ok _).mono ?_)
      rintro e w' ⟨rfl,rfl⟩
      go_wp2_with fail
      go_round
      case rel=>exact⟨k+2,zO,zN,all_step HA.out (by rw[HX.out,HH.out];simp[HF.out])⟩
      case measure=>exact zJ
     ·have HF:=zh (show setB l.length S=false from upto_false hlt (by rw[HX.out];simp[hyx]));have hyb:decide (y<x)=false:=by simpa using hyx
      clear hx hb hy
      go_wp2_with fail
      (with_reducible refine(within9_any _ _ _ _).mono ?_)
      rintro e w' ⟨rfl,rfl⟩;simp only[h1]
      go_wp2_with fail
      (with_reducible refine(need9_no _).mono ?_)
      rintro e w' ⟨rfl,rfl⟩
      go_wp2_with fail
      exact⟨rfl,needPost_no HF.out (Below.refl _ _)⟩
  ·have HF:=zh (show setB l.length S=true from upto_true (fun j hj=>HA.out j zO));have hkn:decide ((k:Int)<(S.length:Int))=false:=by simp;omega
   go_wp2_with fail
   go_end0
   exact needPost_ok HF.out (Below.refl _ _)
theorem span_in {c:Cs}{p:Prb}{i:Nat}{q:Prt}(hi:p.part=(i:Int))(hq:c.parts[i]?=some q):spanOf c p=q.span:=by simp[spanOf,hi,hq]
theorem spanP_ok {c:Cs}(hc:checkCase c=0){q:Prt}(hq:q∈c.parts):0≤q.span.low∧q.span.low≤q.span.high∧q.span.high≤1000:=by
 have h1:okCase c=true:=by
  unfold checkCase at hc
  split at hc
  ·cases hc
  ·split at hc
   ·rename_i h;exact h
   ·cases hc
 simp only[okCase,Bool.and_eq_true,List.all_eq_true] at h1;have h2:=h1.1.2 q hq;simp only[isPartB,Bool.and_eq_true,okSpn,decide_eq_true_eq] at h2;exact⟨h2.1.1.1.2.1.1,h2.1.1.1.2.1.2,h2.1.1.1.2.2⟩
theorem labSteps_any {t:Nat}{c:Cs}{pa:Option Addr}{pc:Nat}{l:List Prb}{qa:Option Addr}{qc:Nat}(hp:probesErr c l=0)(v:Nat)(p:Prb)(hv:l[v]?=some p)(w:World)(h:LabAt w t c pa pc l qa qc):
 Calls Tryz.prog 137 #[.pointer (some ⟨t,0,none⟩),.int .i64 v] w (StepsPost (stepsOf (spanOf c p) p.width) w):=by
 obtain⟨hc,hl5,hall⟩:=probes_ok hp;obtain⟨hr,⟨hp0,hp1⟩,_⟩:=hall p (List.mem_of_getElem? hv);have rv:=right_vals hr;have hvl:=(List.getElem?_eq_some_iff.1 hv).1;obtain⟨i,hi⟩:=Int.eq_ofNat_of_zero_le hp0;have hil:i<c.parts.length:=by omega
 obtain⟨b,o,q,rfl,hq,hP⟩:=h.parts.at_ hil;obtain⟨g,e,p',rfl,hv',hG⟩:=h.probes.at_ hvl;rw[hv] at hv';cases hv';have sp:=spanP_ok hc (List.mem_of_getElem? hq);have hst:=fun W=>steps_any q.span p.width sp.1 sp.2.1 sp.2.2 rv.2.1.1 rv.2.1.2 W
 rw[span_in hi hq];obtain⟨sa,sc,ra,rc,x0,x1,x2,x3,x4,x5,x6,x7,_⟩:=hP.open;obtain⟨c0,c1,c2,c3⟩:=hG.open;rw[hi] at c1;have e1:=h.cells;have hvi:(v:Int)<(l.length:Int):=by omega
 have hin:(i:Int)<(c.parts.length:Int):=by omega
 have HST:=zh hst;have HL:=zh h;have HX:=zh (And.intro x1 (And.intro x2 (And.intro x3 x4)));have g0:Box (w.alloc (.cells #[.int .i64 p.id,.int .i64 (i:Int),.int .i64 p.width,.int .i64 p.cost] 93)) w.heap.size #[.int .i64 p.id,.int .i64 (i:Int),.int .i64 p.width,.int .i64 p.cost] 93:=Box.new _ _ _;have hB0:Below w.heap.size w (w.alloc (.cells #[.int .i64 p.id,.int .i64 (i:Int),.int .i64 p.width,.int .i64 p.cost] 93)):=(Below.refl _ w).alloc (Nat.le_refl _) _;clear x0 x1 x2 x3 x4 x5 x6 x7 hst hP hG h hv hall hr rv sp hq hi hp0 hp1 hp hc
 go_enter Tryz.func137,Tryz.ntmps137
 go_upto_region 2 with fail
 generalize w.alloc (.cells #[.int .i64 p.id,.int .i64 (i:Int),.int .i64 p.width,.int .i64 p.cost] 93)=w1 at *;have k0:∀A,Below w1.heap.size w1 A→(∀j,A.cell? ⟨t,j,none⟩=(#[.string c.ware,.int .i64 c.limit,.int .i64 c.by_,.slice (some ⟨b,o,none⟩) c.parts.length pc,.slice (some ⟨g,e,none⟩) l.length qc]:Array Value)[j]?) ∧
  (∀j,A.cell? ⟨w.heap.size,j,none⟩=(#[.int .i64 p.id,.int .i64 (i:Int),.int .i64 p.width,.int .i64 p.cost]:Array Value)[j]?)∧A.cell? ⟨b,o+i*8+1,none⟩=some (.int .i64 q.span.low)∧A.cell? ⟨b,o+i*8+2,none⟩=some (.int .i64 q.span.high) ∧
  A.cell? ⟨b,o+i*8+3,none⟩=some (.int .i64 q.span.lowBy)∧A.cell? ⟨b,o+i*8+4,none⟩=some (.int .i64 q.span.highBy):=fun A hA=>by
  have hb:=hB0.trans (hA.mono hB0.size);exact⟨(HL.out.below hb).cells,(g0.below' hA).cell,below_cell hb HX.out.1,below_cell hb HX.out.2.1,below_cell hb HX.out.2.2.1,below_cell hb HX.out.2.2.2⟩
 have K0:=zh k0;have HB0:=zh hB0;clear k0 c0 c1 c2 c3 e1 HX HL g0 hB0;refine wp_region_L (fun A=>Below w1.heap.size w1 A) 13 zK ?_;have hSS:Below w1.heap.size w1 w1.drew:=(Below.refl _ w1).drew;refine tM K0 0 hSS ?_;refine tM K0 1 hSS ?_;refine tM K0 2 hSS ?_;refine tM K0 3 hSS ?_;refine tM K0 4 hSS ?_;refine tM K0 5 hSS ?_;refine tM K0 6 hSS ?_;refine tM K0 7 hSS ?_;refine tM K0 8 hSS ?_;refine tM K0 9 hSS ?_;refine tM K0 10 hSS ?_;refine tM K0 11 hSS ?_;refine anyL_call (i:=12) (f:=142) (args:=#[.agg #[.int .i64 q.span.low,.int .i64 q.span.high,.int .i64 q.span.lowBy,.int .i64 q.span.highBy],.int .i64 p.width]) rfl zK (by rfl) ?_ (HST.out w1.drew) ?_
 ·go_simp
 rintro e2 w2 ⟨v2,rfl,ho,hb⟩;have hb2:Below w1.heap.size w1 w2:=hSS.trans hb;refine .inl ⟨_,rfl,.inr hb2,?_⟩
 try simp only[pZ]
 refine anyL_run (i:=13) (v:=v2) (w':=w2) rfl zK (by rfl) (by go_simp) (.inl rfl) ?_
 try simp only[pZ]
 refine anyL_done zK ?_ _;have HO:=zh ho;have HB2:=zh (HB0.out.trans (hb2.mono HB0.out.size));have HSZ:=zh HB0.out.size;clear ho hb hb2 hSS K0
 go_wp2_with fail
 go_ret
 exact⟨v2,rfl,ownsRow_low HO.out HSZ.out,HB2.out⟩
def cntAt (c:Cs)(l:List Prb)(v:Int):Int:=match l[v.toNat]? with|some p=>(cntN (spanOf c p) p.width:Int)|none=>0
def foundAt (c:Cs)(l:List Prb)(S F:List Int)(i:Nat):Bool:=inB (F[i]?.getD 0) 0 (cntAt c l (S[i]?.getD 0)-1)
def foundB (c:Cs)(l:List Prb)(S F:List Int):Bool:=setB l.length S&&decide (F.length=S.length)&&upto F.length (foundAt c l S F)
theorem set_val {m:Nat}{S:List Int}(h:setB m S=true){i:Nat}{x:Int}(hx:S[i]?=some x):∃v:Nat,x=v∧v<m:=by
 have h1:=upto_iff.1 h i (List.getElem?_eq_some_iff.1 hx).1;simp only[setAt,hx,Option.getD_some,Bool.and_eq_true,inB,decide_eq_true_eq] at h1;exact⟨x.toNat,zO,zO⟩
theorem found_any {t:Nat}{c:Cs}{pa:Option Addr}{pc:Nat}{l:List Prb}{qa:Option Addr}{qc:Nat}(hp:probesErr c l=0)(sa:Option Addr)(S:List Int)(sc:Nat)(fa:Option Addr)(F:List Int)(fc:Nat)(w:World)(h:LabAt w t c pa pc l qa qc)(hS:Ints w sa S)(hF:Ints w fa F)(hSl:S.length≤1000000)(hFl:F.length≤1000000):
 Calls Tryz.prog 60 #[.pointer (some ⟨t,0,none⟩),.slice sa S.length sc,.slice fa F.length fc] w (NeedPost (foundB c l S F) w):=by
 have hl5:=(probes_ok hp).2.1;have HSE:=zh (set_any zO sa S sc w h hS hSl);have HL:=zh h;have HS:=zh hS;have HF:=zh hF;have HPE:=zh hp;clear h hS hF hp
 rcases h1:setB l.length S with _|_
 ·have HFB:=zh (show foundB c l S F=false by simp[foundB,h1]);rw[h1] at HSE;clear h1
  go_enter Tryz.func60,Tryz.ntmps60
  go_wp2_with fail
  refine zM HSE ?_;rintro e w1 ⟨hb,⟨h,_⟩|⟨_,rfl⟩⟩
  ·cases h
  ·have HB:=zh hb;clear hb
   go_wp2_with fail
   exact⟨rfl,needPost_no HFB.out HB.out⟩
 ·rw[h1] at HSE;have HSV:=zh (fun(i:Nat) (x:Int) (hx:S[i]?=some x)=>set_val h1 hx);have H1:=zh h1;clear h1
  by_cases hlen:F.length=S.length
  ·have hlb:((F.length:Int)==(S.length:Int))=true:=by simp;omega
   have HLE:=zh hlen;clear hlen
   go_enter Tryz.func60,Tryz.ntmps60
   go_wp2_with fail
   refine zM HSE ?_;rintro e w1 ⟨hb,⟨_,rfl⟩|⟨h,_⟩⟩;rotate_left
   ·cases h
   have HB1:=zh hb;clear hb
   go_wp2_with fail
   (with_reducible refine(need9_ok _).mono ?_)
   rintro e w' ⟨rfl,rfl⟩
   go_wp2_with fail
   go_loopw [19] (fun iv wr=>∃k:Nat,k≤F.length∧iv = .int .i64 k∧Hid (∀j,j<k→foundAt c l S F j=true)∧Below w.heap.size w wr) (fun iv _=>F.length-(intOf iv).toNat)
   case atStart=>exact⟨0,Nat.zero_le _,rfl,zh all_none,HB1.out⟩
   case round=>
    clear HB1;obtain⟨k,hk,rfl,HA,hB⟩:=hrel;have HB:=zh hB;clear hB
    by_cases hlt:k<F.length
    ·have hlk:k<S.length:=by have:=HLE.out;omega
     obtain⟨b,o,rfl,hb⟩:=(HF.out.below HB.out).base zO;obtain⟨x,hx⟩:=get_of_lt F hlt;have c1:=hb _ _ hx;obtain⟨g,e,rfl,hg⟩:=(HS.out.below HB.out).base zO;obtain⟨y,hy⟩:=get_of_lt S hlk;have c2:=hg _ _ hy;obtain⟨v,rfl,hvm⟩:=HSV.out k y hy;obtain⟨p,hp⟩:=get_of_lt l hvm;have hkn:(k:Int)<(F.length:Int):=by omega
     have hks:(k:Int)<(S.length:Int):=by omega
     have hat:foundAt c l S F k=inB x 0 ((cntN (spanOf c p) p.width:Int)-1):=by simp[foundAt,hx,hy,cntAt,hp]
     have HAT:=zh hat;have hm4:=((probes_ok HPE.out).2.2 p (List.mem_of_getElem? hp)).2.2;have hst:=labSteps_any HPE.out v p hp wr (HL.out.below HB.out);have HST:=zh hst;clear hb hx hg hy hp hat hst
     go_wp2_with fail
     refine zM HST ?_;rintro e2 w2 ⟨v2,rfl,ho,hb2⟩;obtain⟨a2,cap2,rfl,_,_⟩:=ownsRow_own ho;have hsl:(stepsOf (spanOf c p) p.width).length=cntN (spanOf c p) p.width:=stepsTo_len _ _ _;rw[hsl];have HB2:=zh (HB.out.trans (hb2.mono HB.out.size));generalize cntN (spanOf c p) p.width=m at *;clear ho hb2 hsl
     go_wp2_with fail
     (with_reducible refine(within9_any _ _ _ _).mono ?_)
     rintro e3 w' ⟨rfl,rfl⟩
     rcases hin:inB x 0 ((m:Int)-1) with _|_
     ·have HFB:=zh (show foundB c l S F=false by unfold foundB;rw[upto_false hlt (by rw[HAT.out,hin]),Bool.and_false])
      go_wp2_with fail
      (with_reducible refine(need9_no _).mono ?_)
      rintro e3 w' ⟨rfl,rfl⟩
      go_wp2_with fail
      exact⟨rfl,needPost_no HFB.out HB2.out⟩
     ·have HIN:=zh hin
      go_wp2_with fail
      (with_reducible refine(need9_ok _).mono ?_)
      rintro e3 w' ⟨rfl,rfl⟩
      go_wp2_with fail
      go_roundw
      case rel=>exact⟨k+1,zO,zN,zh (all_step HA.out (by rw[HAT.out,HIN.out])),HB2.out⟩
      case measure=>exact zJ
    ·have HFB:=zh (show foundB c l S F=true by unfold foundB;rw[H1.out,upto_true (fun j hj=>HA.out j zO)];simp[HLE.out]);have hkn:decide ((k:Int)<(F.length:Int))=false:=by simp;omega
     go_wp2_with fail
     go_end0
     exact needPost_ok HFB.out HB.out
  ·have hlb:((F.length:Int)==(S.length:Int))=false:=by simp;omega
   have HFB:=zh (show foundB c l S F=false by simp[foundB,hlen]);clear hlen
   go_enter Tryz.func60,Tryz.ntmps60
   go_wp2_with fail
   refine zM HSE ?_;rintro e w1 ⟨hb,⟨_,rfl⟩|⟨h,_⟩⟩;rotate_left
   ·cases h
   have HB1:=zh hb;clear hb
   go_wp2_with fail
   (with_reducible refine(need9_no _).mono ?_)
   rintro e w' ⟨rfl,rfl⟩
   go_wp2_with fail
   exact⟨rfl,needPost_no HFB.out HB1.out⟩
theorem SeenAt.lt {w:World}{b:Nat}{l:List Int}(h:SeenAt w b l):b<w.heap.size:=by
 obtain⟨es,clock,h1,_⟩:=h.2
 rcases Nat.lt_or_ge b w.heap.size with h0|h0
 ·exact h0
 ·rw[Array.getElem?_eq_none h0] at h1;cases h1
structure PrInv (c:Cs) (pa:Option Addr) (pc:Nat) (w:World) (M:Nat) (seen:List Int) (wr:World):Prop where
 box:Box wr w.heap.size (csCells c pa pc) 24
 seen:SeenAt wr M seen
 old:Below w.heap.size w wr
theorem PrInv.below {c:Cs}{pa:Option Addr}{pc:Nat}{w:World}{M:Nat}{seen:List Int}{wr w':World}(h:PrInv c pa pc w M seen wr)(hb:Below wr.heap.size wr w'):PrInv c pa pc w M seen w':=
 ⟨h.box.below' hb,h.seen.below hb,h.old.trans (hb.mono h.old.size)⟩
theorem probesErr_go {c:Cs}{l:List Prb}(h0:checkCase c=0)(h5:l.length≤5):probesErr c l=prbGo c [] l:=by
 unfold probesErr;rw[if_neg (by simp[h0]),if_neg zO]
theorem probesErr_at {c:Cs}{l:List Prb}(h0:checkCase c=0)(h5:l.length≤5){k:Nat}(h:∀j p,j<k→l[j]?=some p→prbErr c ((l.take j).map (·.id)) p=0){p:Prb}(hp:l[k]?=some p)(hne:prbErr c ((l.take k).map (·.id)) p≠0):probesErr c l=prbErr c ((l.take k).map (·.id)) p:=by
 rw[probesErr_go h0 h5];have:=(prbGo_at (c:=c) l [] k (by simpa using h)).1 p hp
 simpa using this (by simpa using hne)
theorem probesErr_end {c:Cs}{l:List Prb}(h0:checkCase c=0)(h5:l.length≤5)(h:∀j p,j<l.length→l[j]?=some p→prbErr c ((l.take j).map (·.id)) p=0):probesErr c l=0:=by
 rw[probesErr_go h0 h5];exact(prbGo_at (c:=c) l [] l.length (by simpa using h)).2 (Nat.le_refl _)
theorem checkProbes_any (c:Cs)(hsm:c.Small)(pa:Option Addr)(pc:Nat)(l:List Prb)(qa:Option Addr)(qc:Nat)(w:World)(hp:PartsAt w pa c.parts)(hq:PrbsAt w qa l):
 Calls Tryz.prog 50 #[.agg #[.string c.ware,.int .i64 c.limit,.int .i64 c.by_,.slice pa c.parts.length pc],.slice qa l.length qc] w fun e w'=>e = .returned (.int .i64 (probesErr c l))∧Below w.heap.size w w':=by
 obtain⟨w1,hw1⟩:=zx (w.alloc (.cells #[.string c.ware,.int .i64 c.limit,.int .i64 c.by_,.slice pa c.parts.length pc] 24));have hB1:Below w.heap.size w w1:=by rw[←hw1];go_grown
 have b1:Box w1 w.heap.size (csCells c pa pc) 24:=by rw[←hw1];exact Box.new _ _ _
 have e1:=zC (b1);have HCC:=zh (checkCase_any c hsm pa pc w1 (hp.below hB1));have h10:=hsm.1;have HP:=zh hp;have HQ:=zh hq;have HW:=zh hw1;have HB1:=zh hB1;have HX:=zh b1;have hmm:=@run_makeMap Tryz.prog;clear hw1 hB1 b1 hp hq
 by_cases hz:checkCase c=0
 rotate_left
 ·have HER:=zh (show probesErr c l=checkCase c by unfold probesErr;rw[if_pos hz]);have hzz:(checkCase c != 0)=true:=by simpa using hz
  clear hz
  go_enter Tryz.func50,Tryz.ntmps50
  go_upto_region 1 with fail
  simp only[HW.out]
  go_wp2_with fail
  refine zM HCC ?_;rintro e w3 ⟨rfl,hb3⟩;have HW3:=zh (HB1.out.trans (hb3.mono HB1.out.size));clear hb3 e1
  go_wp2_with fail
  go_ret
  exact⟨ret_int (by rw[HER.out]),HW3.out⟩
 rw[hz] at HCC
 by_cases h5:l.length≤5
 rotate_left
 ·have HER:=zh (show probesErr c l=2 by unfold probesErr;rw[if_neg (by simp[hz]),if_pos zO]);have hlb:decide ((5:Int)<(l.length:Int))=true:=by simp;omega
  clear hz
  go_enter Tryz.func50,Tryz.ntmps50
  go_upto_region 1 with fail
  simp only[HW.out]
  go_wp2_with fail
  refine zM HCC ?_;rintro e w3 ⟨rfl,hb3⟩;have HW3:=zh (HB1.out.trans (hb3.mono HB1.out.size));clear hb3 e1
  go_wp2_with fail
  go_ret
  exact⟨ret_int (by rw[HER.out]),HW3.out⟩
 have HZ:=zh hz;clear hz;have hlb:decide ((5:Int)<(l.length:Int))=false:=by simp;omega
 go_enter Tryz.func50,Tryz.ntmps50
 go_upto_region 1 with fail
 simp only[HW.out]
 go_wp2_with fail
 refine zM HCC ?_;rintro e w2 ⟨rfl,hb2⟩;have HB2:=zh (HB1.out.trans (hb2.mono HB1.out.size));have HX2:=zh (HX.out.below' hb2);clear hb2 e1
 go_wp2_with fail
 have hin:PrInv c pa pc w w2.heap.size [] (w2.alloc (.map #[] 0)):=by
  have hb:Below w2.heap.size w2 (w2.alloc (.map #[] 0)):=(Below.refl _ _).alloc (Nat.le_refl _) _;exact⟨HX2.out.below' hb,SeenAt.made w2,HB2.out.trans (hb.mono HB2.out.size)⟩
 have hMw:w.heap.size<w2.heap.size:=HX2.out.lt;generalize w2.alloc (.map #[] 0)=w3 at *;generalize w2.heap.size=M at *;have HIN:=zh hin;clear hin
 go_loopw [20] (fun iv wr=>∃k:Nat,k≤l.length∧iv = .int .i64 k∧Hid (∀j p,j<k→l[j]?=some p→prbErr c ((l.take j).map (·.id)) p=0)∧PrInv c pa pc w M ((l.take k).map (·.id)) wr) (fun iv _=>l.length-(intOf iv).toNat)
 case atStart=>exact⟨0,Nat.zero_le _,rfl,zh (fun j p hj=>absurd hj (Nat.not_lt_zero j)),HIN.out⟩
 case round=>
  clear HIN HX2 HB2;obtain⟨k,hk,rfl,HA,hinv⟩:=hrel;have HI:=zh hinv;clear hinv
  by_cases hlt:k<l.length
  ·obtain⟨g,e,p,rfl,hv,hG⟩:=(HQ.out.below HI.out.old).at_ hlt;obtain⟨c0,c1,c2,c3⟩:=hG.open;have hkn:(k:Int)<(l.length:Int):=by omega
   have HV:=zh hv;have hRT:=fun W=>right_any p W
   have HRT:=zh hRT;clear hG hv hRT
   go_upto_region 10 with fail
   have hb3:Below wr.heap.size wr (wr.alloc (.cells #[.int .i64 p.id,.int .i64 p.part,.int .i64 p.width,.int .i64 p.cost] 93)):=(Below.refl _ _).alloc (Nat.le_refl _) _;have g3:Box (wr.alloc (.cells #[.int .i64 p.id,.int .i64 p.part,.int .i64 p.width,.int .i64 p.cost] 93)) wr.heap.size #[.int .i64 p.id,.int .i64 p.part,.int .i64 p.width,.int .i64 p.cost] 93:=Box.new _ _ _;have HI3:=zh (HI.out.below hb3);generalize wr.alloc (.cells #[.int .i64 p.id,.int .i64 p.part,.int .i64 p.width,.int .i64 p.cost] 93)=w5 at *;obtain⟨Pb,hPb⟩:=zx (wr.heap.size);have hMP:M<Pb:=by rw[←hPb];exact HI.out.seen.lt
   rw[hPb] at g3;simp only[hPb];have HG3:=zh g3;have e3:=g3.cell;clear hb3 g3 hPb c0 c1 c2 c3 HI
   go_wp2_with fail
   (with_reducible refine(HRT.out _).mono ?_)
   rintro e5 w6 ⟨rfl,hb6⟩;have HI6:=zh (HI3.out.below hb6);have HG6:=zh (HG3.out.below' hb6);have HW3:=zh HI6.out.old;clear hb6 HI3 HG3 e3;have e3:=HG6.out.cell;have e1:=zC (HI6.out.box)
   rcases hr:rightB p with _|_
   ·have HER:=zh (show probesErr c l=1 by
     have h1:prbErr c ((l.take k).map (·.id)) p=1:=by simp[prbErr,hr]
     rw[probesErr_at HZ.out h5 HA.out HV.out (by rw[h1];decide),h1])
    clear hr
    go_wp2_with fail
    go_ret
    exact⟨ret_int (by rw[HER.out]),HW3.out⟩
   ·have rv:=right_vals hr;have hlk:=HI6.out.seen.look rv.1;have HR:=zh hr;have HRV:=zh rv;clear hr rv
    go_wp2_with fail
    (with_reducible refine(within9_any _ _ _ _).mono ?_)
    rintro e5 w' ⟨rfl,rfl⟩
    rcases hin:inB p.part 0 ((c.parts.length:Int)-1) with _|_
    ·have HER:=zh (show probesErr c l=1 by
      have h1:prbErr c ((l.take k).map (·.id)) p=1:=by simp[prbErr,HR.out,hin]
      rw[probesErr_at HZ.out h5 HA.out HV.out (by rw[h1];decide),h1])
     clear hin
     go_wp2_with fail
     go_ret
     exact⟨ret_int (by rw[HER.out]),HW3.out⟩
    ·rcases hsn:((l.take k).map (·.id)).contains p.id with _|_
     ·rw[hsn] at hlk;have HER:=zh (show prbErr c ((l.take k).map (·.id)) p=if 4<cntN (spanOf c p) p.width then 2 else 0 by unfold prbErr;rw[HR.out,hin,hsn];rfl);have hp0:0≤p.part∧p.part≤(c.parts.length:Int)-1:=by simpa[inB] using hin
      obtain⟨i,hi⟩:=Int.eq_ofNat_of_zero_le hp0.1;have hil:i<c.parts.length:=by omega
      obtain⟨w7,hput,hs7,hg7⟩:=HI6.out.seen.put HRV.out.1 (by rw[List.length_map];have:=List.length_take_le k l;omega);have hI7:PrInv c pa pc w M ((l.take k).map (·.id)++[p.id]) w7:=⟨HI6.out.box.grown hg7 zT,hs7,HI6.out.old.grown hg7 HI6.out.old.size (fun k e=>by cases e;omega)⟩
      have g7:Box w7 Pb #[.int .i64 p.id,.int .i64 (i:Int),.int .i64 p.width,.int .i64 p.cost] 93:=by rw[←hi];exact HG6.out.grown hg7 zT
      have hid:(l.take k).map (·.id)++[p.id]=(l.take (k+1)).map (·.id):=by rw[take_snoc HV.out,List.map_append];rfl
      rw[hid] at hI7;obtain⟨b,o,q,rfl,hq,hP⟩:=(HP.out.below hI7.old).at_ hil;have sp:=spanP_ok HZ.out (List.mem_of_getElem? hq);have hsq:=span_in hi hq;rw[hsq] at HER;have HST:=zh (fun W=>steps_any q.span p.width sp.1 sp.2.1 sp.2.2 HRV.out.2.1.1 HRV.out.2.1.2 W);have hcl:=cnt_le HRV.out.2.1.1 sp.2.1 sp.1 sp.2.2;obtain⟨sa,sc,ra,rc,x0,x1,x2,x3,x4,x5,x6,x7,_⟩:=hP.open;have hin2:(i:Int)<(c.parts.length:Int):=by omega
      have HI7:=zh hI7;have k0:∀A,Below w7.heap.size w7 A→(∀j,A.cell? ⟨w.heap.size,j,none⟩=(#[.string c.ware,.int .i64 c.limit,.int .i64 c.by_,.slice (some ⟨b,o,none⟩) c.parts.length pc]:Array Value)[j]?) ∧
       (∀j,A.cell? ⟨Pb,j,none⟩=(#[.int .i64 p.id,.int .i64 (i:Int),.int .i64 p.width,.int .i64 p.cost]:Array Value)[j]?)∧A.cell? ⟨b,o+i*8+1,none⟩=some (.int .i64 q.span.low)∧A.cell? ⟨b,o+i*8+2,none⟩=some (.int .i64 q.span.high) ∧
       A.cell? ⟨b,o+i*8+3,none⟩=some (.int .i64 q.span.lowBy)∧A.cell? ⟨b,o+i*8+4,none⟩=some (.int .i64 q.span.highBy):=fun A hA=>
       ⟨(hI7.box.below' hA).cell,(g7.below' hA).cell,below_cell hA x1,below_cell hA x2,below_cell hA x3,below_cell hA x4⟩
      have K0:=zh k0;clear k0 x0 x1 x2 x3 x4 x5 x6 x7 hP hq sp hsq hI7 g7 hid hs7 hg7 hin hsn hp0 hi
      go_upto_region 13 with fail
      clear hput hlk e1 e3;refine wp_region_L (fun A=>Below w7.heap.size w7 A) 12 zK ?_;have hSS:Below w7.heap.size w7 w7.drew:=(Below.refl _ w7).drew;refine tM K0 0 hSS ?_;refine tM K0 1 hSS ?_;refine tM K0 2 hSS ?_;refine tM K0 3 hSS ?_;refine tM K0 4 hSS ?_;refine tM K0 5 hSS ?_;refine tM K0 6 hSS ?_;refine tM K0 7 hSS ?_;refine tM K0 8 hSS ?_;refine anyL_call (i:=9) (f:=142) (args:=#[.agg #[.int .i64 q.span.low,.int .i64 q.span.high,.int .i64 q.span.lowBy,.int .i64 q.span.highBy],.int .i64 p.width]) rfl zK (by rfl) ?_ (HST.out w7.drew) ?_
      ·go_simp
      rintro e9 w9 ⟨v9,rfl,ho,hb⟩;obtain⟨a9,cap9,rfl,_,_⟩:=ownsRow_own ho;have hb9:Below w7.heap.size w7 w9:=hSS.trans hb;have hsl:(stepsOf q.span p.width).length=cntN q.span p.width:=stepsTo_len _ _ _;rw[hsl];refine .inl ⟨_,rfl,.inr hb9,?_⟩
      try simp only[pZ]
      generalize cntN q.span p.width=m at *;refine anyL_run (i:=10) (v:=.int .i64 (m:Int)) (w':=w9) rfl zK (by rfl) (by go_simp) (.inr hb9) ?_
      try simp only[pZ]
      by_cases hm:4<m
      ·rw[if_pos hm] at HER;have HER:=zh (show probesErr c l=2 by rw[probesErr_at HZ.out h5 HA.out HV.out (by rw[HER.out];decide),HER.out]);have hmb:decide ((4:Int)<(m:Int))=true:=by simp;omega
       refine anyL_run (i:=11) (v:=.bool true) (w':=w9) rfl zK (by rfl) (by go_simp) (.inr hb9) ?_
       try simp only[pZ]
       refine anyL_done zK ?_ _;have HW3:=zh ((HI7.out.below hb9).old);clear hb hb9 ho hSS K0 hsl
       go_wp2_with fail
       go_ret
       exact⟨ret_int (by rw[HER.out]),HW3.out⟩
      ·rw[if_neg hm] at HER;have hmb:decide ((4:Int)<(m:Int))=false:=by simp;omega
       refine anyL_run (i:=11) (v:=.bool false) (w':=w9) rfl zK (by rfl) (by go_simp) (.inr hb9) ?_
       try simp only[pZ]
       refine anyL_done zK ?_ _;have HI9:=zh (HI7.out.below hb9);clear hb hb9 ho hSS K0 hsl
       go_wp2_with fail
       go_roundw
       case rel=>
        refine⟨k+1,zO,zN,zh (fun j p' hj hp'=>?_),HI9.out⟩
        rcases Nat.lt_or_ge j k with h|h
        ·exact HA.out j p' h hp'
        ·have hjk:j=k:=by omega
         subst hjk;rw[HV.out] at hp';cases hp';exact HER.out
       case measure=>exact zJ
     ·rw[hsn] at hlk;have HER:=zh (show probesErr c l=1 by
       have h1:prbErr c ((l.take k).map (·.id)) p=1:=by unfold prbErr;rw[HR.out,hin,hsn];rfl
       rw[probesErr_at HZ.out h5 HA.out HV.out (by rw[h1];decide),h1])
      clear hin hsn
      go_wp2_with fail
      go_ret
      exact⟨ret_int (by rw[HER.out]),HW3.out⟩
  ·have hke:k=l.length:=by omega
   have HER:=zh (show probesErr c l=0 from probesErr_end HZ.out h5 (fun j p hj=>HA.out j p zO));have HW3:=zh HI.out.old;have hkn:decide ((k:Int)<(l.length:Int))=false:=by simp;omega
   clear hke
   go_wp2_with fail
   go_ret
   exact⟨ret_int (by rw[HER.out]),HW3.out⟩
end
