/- Walks and plain laws. No condition. -/
import Derived.Test.YtjgldeeianionaaGreatV12
set_option maxHeartbeats 4000000
set_option maxRecDepth 100000
set_option linter.unusedSimpArgs false
set_option linter.unusedVariables false
namespace Go.Proofs.YtjgldeeianionaaGreat
open Go.RowKit
theorem within_any (a b c:Int)(w:World):
 Calls Tryz.prog 192 #[.int .i64 a,.int .i64 b,.int .i64 c] w fun e w'=>e = .returned (.bool (inB a b c))∧w=w':=by
 go_enter Tryz.func192,Tryz.ntmps192
 go_wp2
 all_goals go_ret
 all_goals (refine⟨ret_bool ?_,rfl⟩;rw[Bool.eq_iff_iff];simp[inB];omega)
theorem within_held {a b c:Int}{v:Bool}(h:inB a b c=v)(W:World):Calls Tryz.prog 192 #[.int .i64 a,.int .i64 b,.int .i64 c] W fun e W'=>e = .returned (.bool v)∧Below W.heap.size W W':=
 (within_any a b c W).mono (by rintro e w' ⟨rfl,rfl⟩;exact⟨by rw[h],Below.refl _ _⟩)
theorem how_any (t:Bool)(w:World):Calls Tryz.prog 209 #[.bool t] w fun e w'=>e = .returned (.int .i64 (if t then 1 else 2))∧w=w':=by
 cases t
 all_goals
  go_enter Tryz.func209,Tryz.ntmps209
  go_wp2
  go_ret
  exact⟨rfl,rfl⟩
theorem has_any (a:Option Addr)(c:Nat)(l:List Int)(x:Int)(w:World)(h:Ints w a l)(hl:l.length≤1000000):
 Calls Tryz.prog 194 #[.slice a l.length c,.int .i64 x] w fun e w'=>e = .returned (.bool (l.contains x))∧w=w':=by
 go_enter Tryz.func194,Tryz.ntmps194
 go_wp2
 go_loop [5] (fun i=>∃k:Nat,k≤l.length∧i = .int .i64 k∧(l.take k).contains x=false) (fun i=>l.length-(intOf i).toNat)
 case atStart=>exact⟨0,Nat.zero_le _,rfl,by simp⟩
 case round=>
  obtain⟨k,hk,rfl,hall⟩:=hrel;have HA:=zh hall;clear hall
  by_cases hlt:k<l.length
  ·obtain⟨b,o,rfl,hb⟩:=h.base zO;obtain⟨y,hy⟩:=get_of_lt l hlt;have hc:=hb _ _ hy;have HY:=zh hy;clear hy hb
   by_cases hyx:y=x
   ·have hyb:(y==x)=true:=by simp[hyx]
    have HX:=zh hyx;clear hyx
    go_wp2
    go_ret
    refine⟨ret_bool ?_,rfl⟩;have:x∈l:=by rw[←HX.out];exact List.mem_of_getElem? HY.out
    simp[this]
   ·have hyb:(y==x)=false:=by simp[hyx]
    have HX:=zh hyx;clear hyx
    go_wp2
    go_round
    case rel=>exact⟨k+1,zO,zN,by rw[take_snoc HY.out];simp only[List.contains_append,HA.out];simp;exact fun e=>HX.out e.symm⟩
    case measure=>exact zJ
  ·go_wp2
   go_ret
   refine⟨ret_bool ?_,rfl⟩;have h1:=HA.out;rw[List.take_of_length_le zO] at h1;have h2:¬x∈l:=by simpa using h1
   simp[h2]
theorem same_take {l m:List Int}{k:Nat}{x y:Int}(hx:l[k]?=some x)(hy:m[k]?=some y)(h:l.take k=m.take k):(l.take (k+1)=m.take (k+1))↔x=y:=by
 rw[take_snoc hx,take_snoc hy,h];simp
theorem same_ref (a b:Option Addr)(ca cb:Nat)(l m:List Int)(w:World)(ha:Ints w a l)(hb:Ints w b m)(hl:l.length≤1000000)(hm:m.length≤1000000):
 Calls Tryz.prog 30 #[.slice a l.length ca,.slice b m.length cb] w fun e w'=>e = .returned (.bool (decide (l=m)))∧Below w.heap.size w w':=by
 by_cases hlen:l.length=m.length
 ·have hlb:((l.length:Int) != (m.length:Int))=false:=by simp[hlen]
  have HL:=zh hlen;clear hlen
  go_enter Tryz.func30,Tryz.ntmps30
  go_wp2
  go_loopw [5] (fun i wr=>∃k:Nat,k≤l.length∧i = .int .i64 k∧l.take k=m.take k∧Below w.heap.size w wr) (fun i _=>l.length-(intOf i).toNat)
  case atStart=>exact⟨0,Nat.zero_le _,rfl,by simp,Below.refl _ _⟩
  case round=>
   obtain⟨k,hk,rfl,hall,hB⟩:=hrel;have HA:=zh hall;have HB:=zh hB;clear hall
   by_cases hlt:k<l.length
   ·have hltm:k<m.length:=by have:=HL.out;omega
    obtain⟨b1,o1,rfl,hb1⟩:=(ha.below hB).base zO;obtain⟨b2,o2,rfl,hb2⟩:=(hb.below hB).base zO;obtain⟨x,hx⟩:=get_of_lt l hlt;obtain⟨y,hy⟩:=get_of_lt m hltm;have c1:=hb1 _ _ hx;have c2:=hb2 _ _ hy;have HX:=zh hx;have HY:=zh hy;have hki:(k:Int)<m.length:=by omega
    clear hx hy hb1 hb2 hB
    by_cases hxy:x=y
    ·have hxb:(x != y)=false:=by simp[hxy]
     have HXY:=zh hxy;clear hxy
     go_wp2_with fail
     go_quiet (fail)
     go_wp2_with fail
     go_roundw
     case rel=>exact⟨k+1,zO,zN,(same_take HX.out HY.out HA.out).2 HXY.out,below_drewN HB.out _⟩
     case measure=>exact zJ
    ·have hxb:(x != y)=true:=by simp[hxy]
     have HXY:=zh hxy;clear hxy
     go_wp2_with fail
     go_quiet (fail)
     go_wp2_with fail
     go_ret
     refine⟨ret_bool ?_,below_drewN HB.out _⟩
     symm
     simp only[decide_eq_false_iff_not];intro e;subst e;have:=HX.out.symm.trans HY.out;exact HXY.out (Option.some.inj this)
   ·clear hB
    go_wp2_with fail
    go_ret
    refine⟨ret_bool ?_,HB.out⟩;have h1:=HA.out;have h2:=HL.out;rw[List.take_of_length_le zO,List.take_of_length_le zO] at h1
    simp[h1]
 ·have hlb:((l.length:Int) != (m.length:Int))=true:=by simp;omega
  have HL:=zh hlen;clear hlen
  go_enter Tryz.func30,Tryz.ntmps30
  go_wp2
  go_ret
  exact⟨ret_bool (by symm;simp only[decide_eq_false_iff_not];exact fun e=>HL.out (by rw[e])),Below.refl _ _⟩
def risingB (l:List Int)(m:Int):Bool:=decide ((l.length:Int)≤m)&&idsB l
theorem rising_no {l:List Int}{m:Int}{k:Nat}(_:(l.length:Int)≤m)(hk:k<l.length)(h:idAt l k=false):false=risingB l m:=by
 rw[risingB,idsB,upto_false hk h,Bool.and_false]
theorem rising_any (a:Option Addr)(c:Nat)(l:List Int)(m:Int)(w:World)(h:Ints w a l)(hl:l.length≤1000000):
 Calls Tryz.prog 214 #[.slice a l.length c,.int .i64 m] w fun e w'=>e = .returned (.bool (risingB l m))∧Below w.heap.size w w':=by
 by_cases hlen:(l.length:Int)≤m
 ·have hnl:¬m<(l.length:Int):=by omega
  have HL:=zh hlen;clear hlen
  go_enter Tryz.func214,Tryz.ntmps214
  go_wp2
  go_loopw [5] (fun i wr=>∃k:Nat,k≤l.length∧i = .int .i64 k∧(∀j,j<k→idAt l j=true)∧Below w.heap.size w wr) (fun i _=>l.length-(intOf i).toNat)
  case atStart=>exact⟨0,Nat.zero_le _,rfl,all_none,Below.refl _ _⟩
  case round=>
   obtain⟨k,hk,rfl,hall,hB⟩:=hrel;have HA:=zh hall;have HB:=zh hB;clear hall
   by_cases hlt:k<l.length
   ·obtain⟨b,o,rfl,hb⟩:=(h.below hB).base zO;obtain⟨x,hx⟩:=get_of_lt l hlt;have c1:=hb _ _ hx;have HX:=zh hx;have HBA:=zh hb;clear hx hb hB
    rcases h1:inB x 1 1000000 with _|_
    ·have HH1:=zh h1;clear h1
     go_wp2_with fail
     refine wp_region_heldB 22 [] zK zK zK zS ?_;intro S hS;have k0:∀W,S W→W.cell? ⟨b,o+k,none⟩=some (.int .i64 x):=fun W h=>below_cell (hS W h) c1
     have K0:=zh k0;have HS:=zh hS;clear k0 hS c1;simp only[pT]
     repeat (first
      |refine xN ?_
      |refine xV K0 ?_
      |(refine held_skip rfl (by rfl) ?_ ?_;(· (intro W hW;have q0:=K0.out W hW;go_simp;try with_reducible rfl));try simp only[pZ])
      |(refine xC (fun W hW=>within_held HH1.out W) ?_ ?_;(· (intro W hW;go_simp;done))))
     refine held_nil ?_;intro τ hτ wn hW hO;obtain rfl:=laid0 hτ;have HBW:=zh (HS.out wn hW);clear hτ hO hW K0 HS;simp only[overs,List.foldl_nil]
     go_wp2_with fail
     go_ret
     exact⟨ret_bool (rising_no HL.out hlt (by simp[idAt,HX.out,HH1.out])),HB.out.trans (HBW.out.mono HB.out.size)⟩
    ·have HH1:=zh h1;clear h1
     by_cases hk0:k=0
     ·have hneg:¬(0<(k:Int)):=by omega
      have hdk:decide (0<k)=false:=by simp;omega
      have HK0:=zh hk0;clear hk0
      go_wp2_with fail
      refine wp_region_heldB 22 [] zK zK zK zS ?_;intro S hS;have k0:∀W,S W→W.cell? ⟨b,o+k,none⟩=some (.int .i64 x):=fun W h=>below_cell (hS W h) c1
      have K0:=zh k0;have HS:=zh hS;clear k0 hS c1;simp only[pT]
      repeat (first
       |refine xN ?_
       |refine xV K0 ?_
       |(refine held_skip rfl (by rfl) ?_ ?_;(· (intro W hW;have q0:=K0.out W hW;go_simp;try with_reducible rfl));try simp only[pZ])
       |(refine xC (fun W hW=>within_held HH1.out W) ?_ ?_;(· (intro W hW;go_simp;done))))
      refine held_nil ?_;intro τ hτ wn hW hO;obtain rfl:=laid0 hτ;have HBW:=zh (HS.out wn hW);clear hτ hO hW K0 HS;simp only[overs,List.foldl_nil]
      go_wp2_with fail
      go_roundw
      case rel=>exact⟨k+1,zO,zN,all_step HA.out (by have h0:=HK0.out;have h1:=HX.out;rw[h0] at h1 ⊢;rw[idAt_zero h1];exact HH1.out),HB.out.trans (HBW.out.mono HB.out.size)⟩
      case measure=>exact zJ
     ·have hpos:0<(k:Int):=by omega
      have hdk:decide (0<k)=true:=by simp;omega
      have hm1:((k:Int)-1).toNat=k-1:=by omega
      have hwr:IntKind.i64.wrap ((k:Int)-1)=(k:Int)-1:=IntWalk.i64_in _ zO;have h0k:(0:Int)≤(k:Int)-1:=by omega
      have hk1l:(k:Int)-1<(l.length:Int):=by omega
      have hk1g:¬((k:Int)<1):=by omega
      obtain⟨y,hy⟩:=get_of_lt l (k:=k-1) zO;have c2:=HBA.out _ _ hy;have HY:=zh hy;have HK0:=zh hk0;clear hy hk0
      by_cases hyx:y<x
      ·have hyb:decide (x≤y)=false:=by simp;omega
       have HYX:=zh hyx;clear hyx
       go_wp2_with fail
       refine wp_region_heldB 22 [] zK zK zK zS ?_;intro S hS;have k0:∀W,S W→W.cell? ⟨b,o+k,none⟩=some (.int .i64 x)∧W.cell? ⟨b,o+(k-1),none⟩=some (.int .i64 y):=fun W h=>⟨below_cell (hS W h) c1,below_cell (hS W h) c2⟩
       have K0:=zh k0;have HS:=zh hS;clear k0 hS c1 c2;simp only[pT]
       repeat (first
        |refine xN ?_
        |refine xV K0 ?_
        |(refine held_skip rfl (by rfl) ?_ ?_;(· (intro W hW;obtain⟨q0,q1⟩:=K0.out W hW;go_simp;try with_reducible rfl));try simp only[pZ])
        |(refine xC (fun W hW=>within_held HH1.out W) ?_ ?_;(· (intro W hW;go_simp;done))))
       refine held_nil ?_;intro τ hτ wn hW hO;obtain rfl:=laid0 hτ;have HBW:=zh (HS.out wn hW);clear hτ hO hW K0 HS;simp only[overs,List.foldl_nil]
       go_wp2_with fail
       go_roundw
       case rel=>exact⟨k+1,zO,zN,all_step HA.out (by simp[idAt,HX.out,HY.out,HH1.out,HYX.out]),HB.out.trans (HBW.out.mono HB.out.size)⟩
       case measure=>exact zJ
      ·have hyb:decide (x≤y)=true:=by simp;omega
       have HYX:=zh hyx;clear hyx
       go_wp2_with fail
       refine wp_region_heldB 22 [] zK zK zK zS ?_;intro S hS;have k0:∀W,S W→W.cell? ⟨b,o+k,none⟩=some (.int .i64 x)∧W.cell? ⟨b,o+(k-1),none⟩=some (.int .i64 y):=fun W h=>⟨below_cell (hS W h) c1,below_cell (hS W h) c2⟩
       have K0:=zh k0;have HS:=zh hS;clear k0 hS c1 c2;simp only[pT]
       repeat (first
        |refine xN ?_
        |refine xV K0 ?_
        |(refine held_skip rfl (by rfl) ?_ ?_;(· (intro W hW;obtain⟨q0,q1⟩:=K0.out W hW;go_simp;try with_reducible rfl));try simp only[pZ])
        |(refine xC (fun W hW=>within_held HH1.out W) ?_ ?_;(· (intro W hW;go_simp;done))))
       refine held_nil ?_;intro τ hτ wn hW hO;obtain rfl:=laid0 hτ;have HBW:=zh (HS.out wn hW);clear hτ hO hW K0 HS;simp only[overs,List.foldl_nil]
       go_wp2_with fail
       go_ret
       exact⟨ret_bool (rising_no HL.out hlt (by simp[idAt,HX.out,HY.out,HH1.out,HYX.out,HK0.out])),HB.out.trans (HBW.out.mono HB.out.size)⟩
   ·clear hB
    go_wp2_with fail
    go_ret
    exact⟨ret_bool (by rw[risingB,decide_eq_true HL.out,idsB,upto_true (fun j hj=>HA.out j zO)];rfl),HB.out⟩
 ·have hnl:m<(l.length:Int):=by omega
  have HL:=zh hlen;clear hlen
  go_enter Tryz.func214,Tryz.ntmps214
  go_wp2
  go_ret
  exact⟨ret_bool (by have h1:=HL.out;rw[risingB,decide_eq_false zO];rfl),Below.refl _ _⟩
section
attribute [local go_sem] Oper.semAt_some
theorem index_any (a:Option Addr)(c:Nat)(l:List Int)(x:Int)(w:World)(h:Ints w a l)(hl:l.length≤1000000):
 Calls Tryz.prog 201 #[.slice a l.length c,.int .i64 x] w fun e w'=>(∃v:Int,e = .returned (.int .i64 v)∧(decide (0≤v))=l.contains x)∧Below w.heap.size w w':=by
 go_enter Tryz.func201,Tryz.ntmps201
 go_wp2_with fail
 go_loopw [8] (fun i wr=>∃k:Nat,k≤l.length∧i = .int .i64 k∧(l.take k).contains x=false∧Below w.heap.size w wr) (fun i _=>l.length-(intOf i).toNat)
 case atStart=>exact⟨0,Nat.zero_le _,rfl,by simp,Below.refl _ _⟩
 case round=>
  obtain⟨k,hk,rfl,hall,hb⟩:=hrel;have HA:=zh hall;have HB:=zh hb;clear hall hb
  by_cases hlt:k<l.length
  ·obtain⟨b,o,rfl,hc0⟩:=(h.below HB.out).base zO;obtain⟨y,hy⟩:=get_of_lt l hlt;have hc:=hc0 _ _ hy;have hkn:(k:Int)<(l.length:Int):=by omega
   have HY:=zh hy;clear hy hc0
   by_cases hyx:x=y
   ·have hyb:(x==y)=true:=by simp[hyx]
    have HX:=zh hyx;clear hyx
    go_wp2_with fail
    try (go_quiet (fail);go_wp2_with fail)
    go_ret
    have:x∈l:=by rw[HX.out];exact List.mem_of_getElem? HY.out
    first
     |exact⟨⟨_,rfl,by simp[this]⟩,HB.out⟩
     |exact⟨⟨_,rfl,by simp[this]⟩,below_drewN HB.out _⟩
   ·have hyb:(x==y)=false:=by simp[hyx]
    have HX:=zh hyx;clear hyx
    go_wp2_with fail
    try (go_quiet (fail);go_wp2_with fail)
    go_roundw
    case rel=>
     have e:(l.take (k+1)).contains x=false:=by rw[take_snoc HY.out];simp only[List.contains_append,HA.out];simp;exact HX.out
     first
      |exact⟨k+1,zO,zN,e,HB.out⟩
      |exact⟨k+1,zO,zN,e,below_drewN HB.out _⟩
    case measure=>exact zJ
  ·go_wp2_with fail
   go_ret
   have h1:=HA.out;rw[List.take_of_length_le zO] at h1;have h2:¬x∈l:=by simpa using h1
   exact⟨⟨_,rfl,by simp[h2]⟩,HB.out⟩
theorem contains_any (a:Option Addr)(c:Nat)(l:List Int)(x:Int)(w:World)(h:Ints w a l)(hl:l.length≤1000000):
 Calls Tryz.prog 169 #[.slice a l.length c,.int .i64 x] w fun e w'=>e = .returned (.bool (l.contains x))∧Below w.heap.size w w':=by
 have HI:=zh (index_any a c l x w h hl);clear h
 go_enter Tryz.func169,Tryz.ntmps169
 go_wp2_with fail
 refine zM HI ?_;rintro e w2 ⟨⟨v,rfl,hv⟩,hb⟩;have HV:=zh hv;have HB:=zh hb;clear hv hb
 by_cases h0:0≤v
 ·go_wp2_with fail
  go_ret
  exact⟨by rw[←HV.out];simp[h0],HB.out⟩
 ·go_wp2_with fail
  go_ret
  exact⟨by rw[←HV.out];simp[h0],HB.out⟩
theorem samePart_ref (p:Prt)(a1:Option Addr)(c1:Nat)(a2:Option Addr)(c2:Nat)(b1:Option Addr)(d1:Nat)(b2:Option Addr)(d2:Nat)(w:World)(h1:Ints w a1 p.sherds)(h2:Ints w a2 p.rests)(k1:Ints w b1 p.sherds)(k2:Ints w b2 p.rests)(hl1:p.sherds.length≤1000000)(hl2:p.rests.length≤1000000):
 Calls Tryz.prog 77 #[.agg (prtCells p a1 c1 a2 c2).toArray,.agg (prtCells p b1 d1 b2 d2).toArray] w fun e w'=>e = .returned (.bool true)∧Below w.heap.size w w':=by
 obtain⟨w1,hw1⟩:=zx ((w.alloc (.cells #[.slice a1 p.sherds.length c1,.int .i64 p.span.low,.int .i64 p.span.high,.int .i64 p.span.lowBy,.int .i64 p.span.highBy,.bool p.foot,.int .i64 p.footBy,.slice a2 p.rests.length c2] 80)).alloc (.cells #[.slice b1 p.sherds.length d1,.int .i64 p.span.low,.int .i64 p.span.high,.int .i64 p.span.lowBy,.int .i64 p.span.highBy,.bool p.foot,.int .i64 p.footBy,.slice b2 p.rests.length d2] 80));have hB1:Below w.heap.size w w1:=by rw[←hw1];go_grown
 have g1:Box w1 w.heap.size #[.slice a1 p.sherds.length c1,.int .i64 p.span.low,.int .i64 p.span.high,.int .i64 p.span.lowBy,.int .i64 p.span.highBy,.bool p.foot,.int .i64 p.footBy,.slice a2 p.rests.length c2] 80:=by rw[←hw1];exact(Box.new _ _ _).alloc _
 have g2:Box w1 (w.heap.size+1) #[.slice b1 p.sherds.length d1,.int .i64 p.span.low,.int .i64 p.span.high,.int .i64 p.span.lowBy,.int .i64 p.span.highBy,.bool p.foot,.int .i64 p.footBy,.slice b2 p.rests.length d2] 80:=by rw[←hw1];exact Box.new' zS
 have HS1:=zh (fun W (hB:Below w.heap.size w W)=>(same_ref a1 b1 c1 d1 p.sherds p.sherds W (h1.below hB) (k1.below hB) hl1 hl1).mono (fun(e:Ending) (w':World) hh=>(by rw[decide_eq_true rfl] at hh;exact hh:e = .returned (.bool true)∧Below W.heap.size W w')));have HS2:=zh (fun W (hB:Below w.heap.size w W)=>(same_ref a2 b2 c2 d2 p.rests p.rests W (h2.below hB) (k2.below hB) hl2 hl2).mono (fun(e:Ending) (w':World) hh=>(by rw[decide_eq_true rfl] at hh;exact hh:e = .returned (.bool true)∧Below W.heap.size W w')));have e1:=g1.cell;have e2:=g2.cell;have HW:=zh hw1;have HB1:=zh hB1;have G1:=zh g1;have G2:=zh g2;clear hw1 hB1 g1 g2 h1 h2 k1 k2 hl1 hl2;simp only[prtCells]
 go_enter Tryz.func77,Tryz.ntmps77
 go_upto_region 1 with fail
 simp only[HW.out]
 go_upto_region 2 with (go_at_call 30;(with_reducible refine(HS1.out _ HB1.out).mono ?_);rintro e w2 ⟨rfl,hb2⟩;have HB2:=zh (HB1.out.trans (hb2.mono HB1.out.size));have G1:=zh (G1.out.below' hb2);have G2:=zh (G2.out.below' hb2);clear hb2 e1 e2)
 have e1:=G1.out.cell;have e2:=G2.out.cell
 go_upto_region 3 with (go_at_call 30;(with_reducible refine(HS2.out _ HB2.out).mono ?_);rintro e w3 ⟨rfl,hb3⟩;have HB3:=zh (HB2.out.trans (hb3.mono HB2.out.size));have G1:=zh (G1.out.below' hb3);have G2:=zh (G2.out.below' hb3);clear hb3 e1 e2)
 have e1:=G1.out.cell;have e2:=G2.out.cell
 go_wp2_with fail
 go_ret
 exact⟨by simp,HB3.out⟩
theorem part_info (p:Prt)(sa:Option Addr)(sc:Nat)(ra:Option Addr)(rc:Nat):(Tryz.prog.info? 80).map (·.size)=some (prtCells p sa sc ra rc).toArray.size:=by
 have:=info_part
 rcases h:Tryz.prog.info? 80 with _|i
 ·rw[h] at this;cases this
 ·rw[h] at this;simp only[Option.map_some,Option.some.injEq,Prod.mk.injEq] at this
  simp[prtCells,this.2]
theorem sameCase_ref (c:Cs)(hsm:c.Small)(pa:Option Addr)(pc:Nat)(pb:Option Addr)(qc:Nat)(w:World)(hp:PartsAt w pa c.parts)(hq:PartsAt w pb c.parts):
 Calls Tryz.prog 22 #[.agg #[.string c.ware,.int .i64 c.limit,.int .i64 c.by_,.slice pa c.parts.length pc],.agg #[.string c.ware,.int .i64 c.limit,.int .i64 c.by_,.slice pb c.parts.length qc]] w fun e w'=>e = .returned (.bool true)∧Below w.heap.size w w':=by
 obtain⟨hs1,hs2,hs3⟩:=hsm;obtain⟨w1,hw1⟩:=zx ((w.alloc (.cells #[.string c.ware,.int .i64 c.limit,.int .i64 c.by_,.slice pa c.parts.length pc] 24)).alloc (.cells #[.string c.ware,.int .i64 c.limit,.int .i64 c.by_,.slice pb c.parts.length qc] 24));have hB1:Below w.heap.size w w1:=by rw[←hw1];go_grown
 have g1:Box w1 w.heap.size #[.string c.ware,.int .i64 c.limit,.int .i64 c.by_,.slice pa c.parts.length pc] 24:=by rw[←hw1];exact(Box.new _ _ _).alloc _
 have g2:Box w1 (w.heap.size+1) #[.string c.ware,.int .i64 c.limit,.int .i64 c.by_,.slice pb c.parts.length qc] 24:=by rw[←hw1];exact Box.new' zS
 have e1:=g1.cell;have e2:=g2.cell;have HW:=zh hw1;have HB1:=zh hB1;have G1:=zh g1;have G2:=zh g2;have HP:=zh hp;have HQ:=zh hq;have HS3:=zh hs3;clear hw1 hB1 g1 g2 hp hq hs3
 go_enter Tryz.func22,Tryz.ntmps22
 go_upto_region 1 with fail
 simp only[HW.out]
 go_upto_region 3 with fail
 clear e1 e2
 go_wp2_with fail
 go_loopw [5] (fun iv wr=>∃i:Nat,i≤c.parts.length∧iv = .int .i64 i∧Below w1.heap.size w1 wr) (fun iv _=>c.parts.length-(intOf iv).toNat)
 case atStart=>exact⟨0,Nat.zero_le _,rfl,Below.refl _ _⟩
 case round=>
  obtain⟨i,hi,rfl,hB⟩:=hrel;have HB:=zh hB;have e1:=(G1.out.below' hB).cell;clear hB
  by_cases hil:i<c.parts.length
  ·have hbw:=HB1.out.trans (HB.out.mono HB1.out.size);obtain⟨b,o,p,rfl,hp,sa,sc,ra,rc,x1,x2,x3,x4,x5⟩:=(HP.out.below hbw).at_ hil;obtain⟨b',o',p',rfl,hp',ya,yc,za,zc,y1,y2,y3,y4,y5⟩:=(HQ.out.below hbw).at_ hil;rw[hp] at hp';cases hp';have hin:(i:Int)<(c.parts.length:Int):=by omega
   have hsp:=HS3.out p (List.mem_of_getElem? hp);have hc1:wr.cell? ⟨w.heap.size,3,none⟩=some (.slice (some ⟨b,o,none⟩) c.parts.length pc):=e1 3;have hc2:wr.cell? ⟨w.heap.size+1,3,none⟩=some (.slice (some ⟨b',o',none⟩) c.parts.length qc):=(G2.out.below' HB.out).cell 3
   go_upto_region 6 with fail
   refine wp_region_heldB 12 [] zK zK zK zS ?_;intro S hS;have k0:∀A,S A→A.cell? ⟨w.heap.size,3,none⟩=some (.slice (some ⟨b,o,none⟩) c.parts.length pc)∧A.cell? ⟨w.heap.size+1,3,none⟩=some (.slice (some ⟨b',o',none⟩) c.parts.length qc):=fun A h=>⟨below_cell (hS A h) hc1,below_cell (hS A h) hc2⟩
   have k1:∀A,S A→(Instr.loadAt 80 (.pointer (some ⟨b,o+i*8,none⟩))).run Tryz.prog A = .ok (.agg (prtCells p sa sc ra rc).toArray) A:=fun A h=>run_load_at (fun j v hv=>below_cell (hS A h) (x1 j v (by simpa using hv))) Tryz.underlying80 rfl (part_info _ _ _ _ _)
   have k2:∀A,S A→(Instr.loadAt 80 (.pointer (some ⟨b',o'+i*8,none⟩))).run Tryz.prog A = .ok (.agg (prtCells p ya yc za zc).toArray) A:=fun A h=>run_load_at (fun j v hv=>below_cell (hS A h) (y1 j v (by simpa using hv))) Tryz.underlying80 rfl (part_info _ _ _ _ _)
   have K0:=zh k0;have K1:=zh k1;have K2:=zh k2;have HS:=zh hS;have HC:=zh (fun W (h:Below wr.heap.size wr W)=>samePart_ref p sa sc ra rc ya yc za zc W (x2.below h) (x3.below h) (y2.below h) (y3.below h) zO zO);clear k0 k1 k2 hS hc1 hc2 e1 x1 x2 x3 y1 y2 y3 hbw;simp only[pT]
   repeat (first
    |(refine held_load 80 _ (by rfl) rfl rfl K1.out ?_;try simp only[pZ])
    |(refine held_load 80 _ (by rfl) rfl rfl K2.out ?_;try simp only[pZ])
    |refine xN ?_
    |refine xV K0 ?_
    |(refine held_skip rfl (by rfl) ?_ ?_;(· (intro W hW;obtain⟨q0,q1⟩:=K0.out W hW;go_simp;try with_reducible rfl));try simp only[pZ])
    |(refine xC (fun W hW=>HC.out W (HS.out W hW)) ?_ ?_;(· (intro W hW;go_simp;done))))
   refine held_nil ?_;intro τ hτ w3 hW hO;obtain rfl:=laid0 hτ;have HB3:=zh (HS.out w3 hW);clear hτ hO hW K0 K1 K2 HS;simp only[overs,List.foldl_nil]
   go_wp2_with fail
   go_roundw
   case rel=>exact⟨i+1,zO,zN,HB.out.trans (HB3.out.mono HB.out.size)⟩
   case measure=>exact zJ
  ·have hie:i=c.parts.length:=by omega
   subst hie
   go_wp2_with fail
   go_ret
   exact⟨rfl,HB1.out.trans (HB.out.mono HB1.out.size)⟩
abbrev PrtM:=Prt×(Option Addr×Nat)×(Option Addr×Nat)
def prtRow (z:PrtM):List Value:=prtCells z.1 z.2.1.1 z.2.1.2 z.2.2.1 z.2.2.2
theorem prtRow_len (z:PrtM):(prtRow z).length=8:=rfl
theorem prtRow_one (z:PrtM):∀u∈prtRow z,u.oneCell'=true:=prt_one _ _ _ _ _
def PrtLists (B:Nat)(v:Value)(W:World)(z:PrtM):Prop:=
 Ints W z.2.1.1 z.1.sherds∧Ints W z.2.2.1 z.1.rests∧z.1.sherds.length≤z.2.1.2∧z.1.rests.length≤z.2.2.2∧(∀b o,z.2.1.1=some ⟨b,o,none⟩→0<z.1.sherds.length→B≤b∧v.ownBlock≠some b)∧(∀b o,z.2.2.1=some ⟨b,o,none⟩→0<z.1.rests.length→B≤b∧v.ownBlock≠some b)
def PartsV (B:Nat)(W:World)(v:Value)(l:List Prt):Prop:=
 ∃zs:List PrtM,zs.map (·.1)=l∧W.ownsRow B 80 8 v l.length (zs.flatMap prtRow)∧∀z∈zs,PrtLists B v W z
theorem PrtLists.keep {K:Nat→Prop}{B:Nat}{v:Value}{W W':World}{z:PrtM}(h:PrtLists B v W z)(hk:Keep K W W')(hK:∀k,B≤k→v.ownBlock≠some k→K k):PrtLists B v W' z:=by
 obtain⟨h1,h2,h3,h4,h5,h6⟩:=h;exact⟨ints_keep h1 hk (fun b o ha hl=>hK b (h5 b o ha hl).1 (h5 b o ha hl).2),ints_keep h2 hk (fun b o ha hl=>hK b (h6 b o ha hl).1 (h6 b o ha hl).2),h3,h4,h5,h6⟩
theorem PartsV.keep {K:Nat→Prop}{B:Nat}{W W':World}{v:Value}{l:List Prt}(h:PartsV B W v l)(hk:Keep K W W')(hK:∀k,B≤k→K k):PartsV B W' v l:=by
 obtain⟨zs,h1,h2,h3⟩:=h;exact⟨zs,h1,ownsRow_keep h2 hk hK,fun z hz=>(h3 z hz).keep hk (fun k hk _=>hK k hk)⟩
theorem PartsV.below {B:Nat}{W W':World}{v:Value}{l:List Prt}(h:PartsV B W v l)(hb:Below W.heap.size W W'):PartsV B W' v l:=h.keep (K:=fun _=>True) (Keep.of_below' hb) (fun _ _=>trivial)
theorem PartsV.slice {B:Nat}{W:World}{v:Value}{l:List Prt}(h:PartsV B W v l):∃a cap,v = .slice a l.length cap∧l.length≤cap:=by
 obtain⟨zs,h1,h2,h3⟩:=h;obtain⟨a,c,h4,_,h5⟩:=ownsRow_own h2;exact⟨a,c,h4,h5⟩
theorem PartsV.mono {B B':Nat}{W:World}{v:Value}{l:List Prt}(h:PartsV B W v l)(hB:B'≤B):PartsV B' W v l:=by
 obtain⟨zs,h1,h2,h3⟩:=h;exact⟨zs,h1,⟨h2.1,h2.2.imp id (fun⟨g,cap,cur,e,hb,r⟩=>⟨g,cap,cur,e,Nat.le_trans hB hb,r⟩)⟩,fun z hz=>by
  obtain⟨q1,q2,q3,q4,q5,q6⟩:=h3 z hz;exact⟨q1,q2,q3,q4,fun b o ha hl=>⟨Nat.le_trans hB (q5 b o ha hl).1,(q5 b o ha hl).2⟩,fun b o ha hl=>⟨Nat.le_trans hB (q6 b o ha hl).1,(q6 b o ha hl).2⟩⟩⟩
theorem PartsV.nil (B:Nat)(W:World):PartsV B W (.slice none 0 0) []:=⟨[],rfl,World.ownsRow_nil _ _ _ _,fun _ h=>absurd h zS⟩
theorem flat8_at {zs:List PrtM}:∀{i j:Nat} {z:PrtM},zs[i]?=some z→j<8→(zs.flatMap prtRow)[i*8+j]?=(prtRow z)[j]?:=by
 induction zs with
 |nil=>intro i j z h;simp at h
 |cons y ys ih=>
  intro i j z h hj
  rcases i with _|i
  ·simp at h;subst h;rw[List.flatMap_cons,List.getElem?_append_left (by rw[prtRow_len];omega)];congr 1;omega
  ·rw[List.flatMap_cons,List.getElem?_append_right (by rw[prtRow_len];omega),prtRow_len,show(i+1)*8+j-8=i*8+j by omega];exact ih (by simpa using h) hj
theorem part_push {B:Nat}{W:World}{v:Value}{l:List Prt}{z:PrtM}(h:PartsV B W v l)(hl:l.length+1≤1000)(hB:B≤W.heap.size)(hz:PrtLists B v W z):
 ∃a c U,(Builtin.append_ #[22,22] 22 #[v,.slice (some ⟨W.heap.size,0,none⟩) 1 1]).run Tryz.prog (W.alloc (.cells (prtRow z).toArray 80)) = .ok (.slice a (l.length+1) c) U∧PartsV B U (.slice a (l.length+1) c) (l++[z.1])∧Below B W U:=by
 obtain⟨zs,h1,h2,h3⟩:=h;have hrow:Row (W.alloc (.cells (prtRow z).toArray 80)) (some ⟨W.heap.size,0,none⟩) (prtRow z):=fun k u hu=>⟨W.heap.size,0,rfl,by rw[(Box.new W (prtRow z).toArray 80).cell,Nat.zero_add];simpa using hu⟩
 have hbl:Below W.heap.size W (W.alloc (.cells (prtRow z).toArray 80)):=(Below.refl _ W).alloc (Nat.le_refl _) _;have h2':=h2.alloc (.cells (prtRow z).toArray 80);obtain⟨v',U,hrun,hown,hgr,hvb⟩:=run_append_row (P:=Tryz.prog) _ B 22 22 80 zeroPart 8 96 Tryz.underlying22 info_partz rfl zO v _ _ h2' (some ⟨W.heap.size,0,none⟩) 1 1 (prtRow z) rfl hrow (prtRow_one z) zO zO (by have:=hbl.size;omega);have kU:Keep (fun k=>v.ownBlock≠some k) W U:=((Keep.refl _ W).alloc _).trans ((Keep.refl _ _).grown hgr (fun k hk=>.inl (fun h=>h hk)));obtain⟨a,c,rfl,_,_⟩:=ownsRow_own hown;refine⟨a,c,U,hrun,⟨zs++[z],by simp[h1],by rw[List.flatMap_append,List.length_append,List.length_singleton];simpa using hown,fun y hy=>?_⟩,(hbl.mono hB).trans (grown_below h2' hgr (Nat.le_refl _) (by have:=hbl.size;omega))⟩;have hy':PrtLists B v W y:=by
  rcases List.mem_append.1 hy with hy|hy
  ·exact h3 y hy
  ·rw[List.mem_singleton.1 hy];exact hz
 obtain⟨q1,q2,q3,q4,q5,q6⟩:=hy'.keep kU (fun k _ hk=>hk);have far:∀b,b<W.heap.size→v.ownBlock≠some b→(Value.slice a (l.length+1) c).ownBlock≠some b:=fun b hb hne he=>by
  rcases hvb with h|h
  ·exact hne (h▸he)
  ·rw[h] at he;have:=Option.some.inj he;simp at this;omega
 exact⟨q1,q2,q3,q4,fun b o ha hl=>⟨(q5 b o ha hl).1,far b (ints_block hy'.1 ha hl) (q5 b o ha hl).2⟩,fun b o ha hl=>⟨(q6 b o ha hl).1,far b (ints_block hy'.2.1 ha hl) (q6 b o ha hl).2⟩⟩
theorem app_new {W:World}{a:Option Addr}{c:Nat}{l:List Int}(h:Ints W a l)(hl:l.length≤100000):
 ∃a' c' U,(Builtin.append_ #[26,26] 26 #[.slice (some ⟨W.heap.size,0,none⟩) 0 0,.slice a l.length c]).run Tryz.prog (W.alloc (.cells #[] 3)) = .ok (.slice a' l.length c') U∧Ints U a' l∧l.length≤c'∧(∀b o,a'=some ⟨b,o,none⟩→0<l.length→W.heap.size≤b)∧Below W.heap.size W U:=by
 obtain⟨v',U,hrun,hown,hg,_⟩:=run_append_row (P:=Tryz.prog) (W.alloc (.cells #[] 3)) W.heap.size 26 26 3 (.int .i64 0) 1 8 Tryz.underlying26 info_int rfl zO
  (.slice (some ⟨W.heap.size,0,none⟩) 0 0) 0 [] (ownsRow_empty W _ _ _ (Nat.le_refl _)) a l.length c (l.map (.int .i64)) zS (h.below ((Below.refl _ W).alloc (Nat.le_refl _) _)) (ints_one l) zO zO zS
 obtain⟨a',c',rfl,hr,hcap⟩:=ownsRow_own hown;have hr':RowOwn W.heap.size U a' (l.map (Value.int .i64)):=by simpa using hr
 refine⟨a',c',U,by simpa using hrun,ints_rowOwn hr',by simpa using hcap,fun b o ha hl=>rowOwn_block hr' ha hl,?_⟩;exact((Below.refl _ W).alloc (Nat.le_refl _) _).trans ((grown_below (ownsRow_empty W W.heap.size _ 1 (Nat.le_refl _)) hg (Nat.le_refl _) zS))
def CopiedPost (c:Cs)(w:World)(e:Ending)(w':World):Prop:=∃a cap,e = .returned (.agg #[.string c.ware,.int .i64 c.limit,.int .i64 c.by_,.slice a c.parts.length cap])∧c.parts.length≤cap∧PartsV w.heap.size w' (.slice a c.parts.length cap) c.parts∧Below w.heap.size w w'
theorem copied_ref (c:Cs)(hsm:c.Small)(pa:Option Addr)(pc:Nat)(w:World)(hp:PartsAt w pa c.parts):
 Calls Tryz.prog 153 #[.agg #[.string c.ware,.int .i64 c.limit,.int .i64 c.by_,.slice pa c.parts.length pc]] w (CopiedPost c w):=by
 obtain⟨hs1,hs2,hs3⟩:=hsm;obtain⟨w1,hw1⟩:=zx ((w.alloc (.cells #[.string c.ware,.int .i64 c.limit,.int .i64 c.by_,.slice pa c.parts.length pc] 24)).alloc (.cells #[.string ⟨#[]⟩,.int .i64 0,.int .i64 0,.slice none 0 0] 24));have hB1:Below w.heap.size w w1:=by rw[←hw1];go_grown
 have hz1:w1.heap.size=w.heap.size+2:=by rw[←hw1];simp
 have g1:Box w1 w.heap.size #[.string c.ware,.int .i64 c.limit,.int .i64 c.by_,.slice pa c.parts.length pc] 24:=by rw[←hw1];exact(Box.new _ _ _).alloc _
 have g2:Box w1 (w.heap.size+1) #[.string ⟨#[]⟩,.int .i64 0,.int .i64 0,.slice none 0 0] 24:=by rw[←hw1];exact Box.new' zS
 have e1:=g1.cell;have HW:=zh hw1;have HP:=zh hp;have HS3:=zh hs3;have HZ1:=zh hz1;clear hw1 hp hs3 hz1
 go_enter Tryz.func153,Tryz.ntmps153
 go_upto_region 1 with fail
 simp only[HW.out]
 go_upto_region 2 with fail
 have g3:Box ((w1.alloc (.cells #[.string ⟨#[]⟩,.int .i64 0,.int .i64 0,.slice none 0 0] 24))) w1.heap.size #[.string ⟨#[]⟩,.int .i64 0,.int .i64 0,.slice none 0 0] 24:=Box.new _ _ _;have hB2:Below w.heap.size w (w1.alloc (.cells #[.string c.ware,.int .i64 c.limit,.int .i64 c.by_,.slice none 0 0] 24)):=hB1.alloc hB1.size _;have g3:Box (w1.alloc (.cells #[.string c.ware,.int .i64 c.limit,.int .i64 c.by_,.slice none 0 0] 24)) w1.heap.size #[.string c.ware,.int .i64 c.limit,.int .i64 c.by_,.slice none 0 0] 24:=Box.new _ _ _;have g1':=g1.alloc (.cells #[.string c.ware,.int .i64 c.limit,.int .i64 c.by_,.slice none 0 0] 24);have g2':=g2.alloc (.cells #[.string c.ware,.int .i64 c.limit,.int .i64 c.by_,.slice none 0 0] 24);generalize w1.alloc (.cells #[.string c.ware,.int .i64 c.limit,.int .i64 c.by_,.slice none 0 0] 24)=w2 at *
 obtain⟨D,hD⟩:=zx (w1.heap.size);rw[hD] at g3;simp only[hD];have hDw:D=w.heap.size+2:=by rw[←hD,HZ1.out]
 have HD:=zh hDw;have G1:=zh g1';have G2:=zh g2';have G3:=zh g3;have HB2:=zh hB2;clear g1 g2 g3 g1' g2' hB1 hB2 e1 hD hDw HZ1
 go_wp2_with fail
 go_loopw [4] (fun iv wr=>∃(i:Nat) (v:Value),i≤c.parts.length∧iv = .int .i64 i∧PartsV (w.heap.size+3) wr v (c.parts.take i)∧Box wr D #[.string c.ware,.int .i64 c.limit,.int .i64 c.by_,v] 24∧Box wr w.heap.size #[.string c.ware,.int .i64 c.limit,.int .i64 c.by_,.slice pa c.parts.length pc] 24∧Box wr (w.heap.size+1) #[.string ⟨#[]⟩,.int .i64 0,.int .i64 0,.slice none 0 0] 24∧Below w.heap.size w wr) (fun iv _=>c.parts.length-(intOf iv).toNat)
 case atStart=>exact⟨0,_,Nat.zero_le _,rfl,PartsV.nil _ _,G3.out,G1.out,G2.out,HB2.out⟩
 case round=>
  clear G1 G2 G3 HB2;obtain⟨i,v,hi,rfl,hv,hd,hc,hr,hB⟩:=hrel;have HV:=zh hv;have HD3:=zh hd;have HC:=zh hc;have HR:=zh hr;have HB:=zh hB;have hsz:w.heap.size+3≤wr.heap.size:=by have:=hd.lt;have:=HD.out;omega
  by_cases hil:i<c.parts.length
  ·obtain⟨b,o,p,rfl,hpi,hP⟩:=(HP.out.below hB).at_ hil;obtain⟨sa,sc,ra,rc,c0,c1,c2,c3,c4,c5,c6,c7,x1,x2,x3,x4⟩:=hP.open;have hin:(i:Int)<(c.parts.length:Int):=by omega
   have hsp:=HS3.out p (List.mem_of_getElem? hpi);have hlen:(c.parts.take i).length=i:=by rw[List.length_take];omega
   have HPI:=zh hpi;have HLEN:=zh hlen;have e1:=hc.cell;clear hv hd hc hr hB hP hpi hlen
   go_upto_region 6 with fail
   have bx:Box (wr.alloc (.cells #[.slice sa p.sherds.length sc,.int .i64 p.span.low,.int .i64 p.span.high,.int .i64 p.span.lowBy,.int .i64 p.span.highBy,.bool p.foot,.int .i64 p.footBy,.slice ra p.rests.length rc] 80)) wr.heap.size #[.slice sa p.sherds.length sc,.int .i64 p.span.low,.int .i64 p.span.high,.int .i64 p.span.lowBy,.int .i64 p.span.highBy,.bool p.foot,.int .i64 p.footBy,.slice ra p.rests.length rc] 80:=Box.new _ _ _;have hb5:Below wr.heap.size wr (wr.alloc (.cells #[.slice sa p.sherds.length sc,.int .i64 p.span.low,.int .i64 p.span.high,.int .i64 p.span.lowBy,.int .i64 p.span.highBy,.bool p.foot,.int .i64 p.footBy,.slice ra p.rests.length rc] 80)):=(Below.refl _ wr).alloc (Nat.le_refl _) _
   generalize wr.alloc (.cells #[.slice sa p.sherds.length sc,.int .i64 p.span.low,.int .i64 p.span.high,.int .i64 p.span.lowBy,.int .i64 p.span.highBy,.bool p.foot,.int .i64 p.footBy,.slice ra p.rests.length rc] 80)=w5 at *;obtain⟨g,hg⟩:=zx (wr.heap.size);have HG:=zh hg;rw[hg] at bx;simp only[hg];clear hg c0 c1 c2 c3 c4 c5 c6 c7 e1;obtain⟨a1,k1,U1,hrun1,hi1,hl1,hn1,hbU1⟩:=app_new (W:=w5) (c:=sc) (x1.below hb5) zO;have bU1:=bx.below' hbU1;obtain⟨z1,z2⟩:=bU1.rules;have e5:=bx.cell;have HRU:=zh hrun1;have hg5:g<w5.heap.size:=bx.lt
   go_upto_region 7 with (at_builtin;refine wpList_app rfl _ _ _ rfl rfl rfl HRU.out ?_)
   have b6:Box (U1.setCell ⟨g,0,none⟩ (.slice a1 p.sherds.length k1)) g #[.slice a1 p.sherds.length k1,.int .i64 p.span.low,.int .i64 p.span.high,.int .i64 p.span.lowBy,.int .i64 p.span.highBy,.bool p.foot,.int .i64 p.footBy,.slice ra p.rests.length rc] 80:=bU1.set_ 0 _;have hb6:Below wr.heap.size wr (U1.setCell ⟨g,0,none⟩ (.slice a1 p.sherds.length k1)):=(hb5.trans (hbU1.mono hb5.size)).setCell (by simp;rw[HG.out];exact Nat.le_refl _) _;have hi6:Ints (U1.setCell ⟨g,0,none⟩ (.slice a1 p.sherds.length k1)) a1 p.sherds:=ints_far hi1 (fun b o ha hl=>by have:=hn1 b o ha hl;simp;omega) _;have hs6:w5.heap.size≤(U1.setCell ⟨g,0,none⟩ (.slice a1 p.sherds.length k1)).heap.size:=by have:=hbU1.size;simpa using this
   have hn6:∀b o,a1=some ⟨b,o,none⟩→0<p.sherds.length→g<b:=fun b o ha hl=>by have:=hn1 b o ha hl;omega
   generalize U1.setCell ⟨g,0,none⟩ (.slice a1 p.sherds.length k1)=w6 at *;clear hrun1 HRU bU1 z1 z2 e5 hi1 hn1 hbU1 bx hb5;obtain⟨a2,k2,U2,hrun2,hi2,hl2,hn2,hbU2⟩:=app_new (W:=w6) (c:=rc) (x2.below hb6) zO;have bU2:=b6.below' hbU2;obtain⟨z1,z2⟩:=bU2.rules;have e5:=b6.cell;have HRU:=zh hrun2;have hi6:=hi6.below hbU2;have hg5:g<w6.heap.size:=b6.lt
   go_upto_region 8 with (at_builtin;refine wpList_app rfl _ _ _ rfl rfl rfl HRU.out ?_)
   have b7:Box (U2.setCell ⟨g,7,none⟩ (.slice a2 p.rests.length k2)) g #[.slice a1 p.sherds.length k1,.int .i64 p.span.low,.int .i64 p.span.high,.int .i64 p.span.lowBy,.int .i64 p.span.highBy,.bool p.foot,.int .i64 p.footBy,.slice a2 p.rests.length k2] 80:=bU2.set_ 7 _;have hb7:Below wr.heap.size wr (U2.setCell ⟨g,7,none⟩ (.slice a2 p.rests.length k2)):=(hb6.trans (hbU2.mono hb6.size)).setCell (by simp;rw[HG.out];exact Nat.le_refl _) _;have hi7:Ints (U2.setCell ⟨g,7,none⟩ (.slice a2 p.rests.length k2)) a1 p.sherds:=ints_far hi6 (fun b o ha hl=>by have:=hn6 b o ha hl;simp;omega) _;have hj7:Ints (U2.setCell ⟨g,7,none⟩ (.slice a2 p.rests.length k2)) a2 p.rests:=ints_far hi2 (fun b o ha hl=>by have:=hn2 b o ha hl;simp;omega) _;have hn7:∀b o,a2=some ⟨b,o,none⟩→0<p.rests.length→g<b:=fun b o ha hl=>by have:=hn2 b o ha hl;omega
   generalize U2.setCell ⟨g,7,none⟩ (.slice a2 p.rests.length k2)=w7 at *;clear hrun2 HRU bU2 z1 z2 e5 hi2 hn2 hbU2 b6 hb6 hi6 x1 x2 x3 x4;have hzl:PrtLists (w.heap.size+3) v w7 (p,(a1,k1),(a2,k2)):=⟨hi7,hj7,hl1,hl2,fun b o ha hl=>⟨by have:=hn6 b o ha hl;have:=HG.out;omega,fun he=>by
    obtain⟨zs,_,ho,_⟩:=HV.out;have:=(ho.lt b he).2;have:=hn6 b o ha hl;have:=HG.out;omega⟩,fun b o ha hl=>⟨by have:=hn7 b o ha hl;have:=HG.out;omega,fun he=>by
    obtain⟨zs,_,ho,_⟩:=HV.out;have:=(ho.lt b he).2;have:=hn7 b o ha hl;have:=HG.out;omega⟩⟩
   obtain⟨a3,k3,U3,hrun3,hv3,hbU3⟩:=part_push (HV.out.below hb7) (by rw[HLEN.out];omega) (by have:=hb7.size;omega) hzl;rw[HLEN.out] at hrun3 hv3;simp only[prtRow,prtCells] at hrun3;have e7:=b7.cell;have e8:=(HD3.out.below' hb7).cell;have hg5:g<w7.heap.size:=b7.lt;have hg6:D<w7.heap.size:=(HD3.out.below' hb7).lt;have bU3:Box U3 D #[.string c.ware,.int .i64 c.limit,.int .i64 c.by_,v] 24:=(HD3.out.below' hb7).below hbU3 (by have:=HD.out;omega);obtain⟨z1,z2⟩:=bU3.rules;have HRU:=zh hrun3;have HV3:=zh hv3;have HBU3:=zh hbU3;have HB7:=zh hb7;have HBX3:=zh bU3;obtain⟨va,vc,hvv,hvc⟩:=HV.out.slice;rw[HLEN.out] at hvv;clear hrun3 hv3 hbU3 hb7 b7 hi7 hj7 hn7 hn6 hzl bU3 hs6;subst hvv
   go_wp2_with (at_builtin;refine wpList_app rfl _ _ _ rfl rfl rfl HRU.out ?_)
   go_roundw
   case rel=>
    refine⟨i+1,.slice a3 (i+1) k3,zO,zN,?_,HBX3.out.set_ 3 _,?_,?_,?_⟩
    ·rw[take_snoc HPI.out];exact HV3.out.keep (K:=fun k=>k≠D) ((Keep.refl _ U3).setCell (.inl zS) _) (fun k hk=>by have:=HD.out;omega)
    ·exact(((HC.out.below' HB7.out).below HBU3.out zO).far (by simp;have:=HD.out;omega) _)
    ·exact(((HR.out.below' HB7.out).below HBU3.out zO).far (by simp;have:=HD.out;omega) _)
    ·exact((HB.out.trans (HB7.out.mono HB.out.size)).trans (HBU3.out.mono zO)).setCell (by simp;have:=HD.out;omega) _
   case measure=>exact zJ
  ·have hie:i=c.parts.length:=by omega
   subst hie;rw[List.take_length] at HV;obtain⟨va,vc,rfl,hvc⟩:=HV.out.slice;have e1:=hc.cell;have e3:=hd.cell;have e4:=hr.rules;obtain⟨z1,z2⟩:=e4;clear hv hd hc hr hB
   go_wp2_with fail
   have hf:=(((HR.out.set_ 0 (.string c.ware)).set_ 1 (.int .i64 c.limit)).set_ 2 (.int .i64 c.by_)).set_ 3 (.slice va c.parts.length vc);refine bodyPost_ret (results_cell rfl rfl (run_loadVar_row _ _ 24 24 _ (0,0) _ hf Tryz.underlying24 rfl case_size)) rfl ?_;refine⟨va,vc,rfl,hvc,?_,(((HB.out.setCell zS _).setCell zS _).setCell zS _).setCell zS _⟩;have hk:Keep (fun k=>w.heap.size+3≤k) wr ((((wr.setCell ⟨w.heap.size+1,0,none⟩ (.string c.ware)).setCell ⟨w.heap.size+1,1,none⟩ (.int .i64 c.limit)).setCell ⟨w.heap.size+1,2,none⟩ (.int .i64 c.by_)).setCell ⟨w.heap.size+1,3,none⟩ (.slice va c.parts.length vc)):=
    ((((Keep.refl _ wr).setCell (.inl zS) _).setCell (.inl zS) _).setCell (.inl zS) _).setCell (.inl zS) _
   exact(HV.out.keep hk (fun _ h=>h)).mono zO
end
