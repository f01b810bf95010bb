/- The walks and plain laws of: MRefA MContains MQR1 MQR3 MQR4 MQR12. No condition. -/
import Derived.BigQuiet
import Derived.Deep.QuietTactic
import Derived.WalkMore
import Derived.IntWalk
import Derived.WalkKit
import Derived.WalkSpells
import Derived.WalkLawsBesides
import Derived.RangeFuncKeeps
import Derived.Deep.Draws
import Derived.Sort.CutIn
import Derived.Maps.AppendAt
import Derived.OwnWalk
import Derived.OwnWalkIn
import Derived.Shelf.Abstract
import Derived.Deep.DeepCutAuto
import Derived.Deep.OwnRows
import Derived.Laws.EntriesVeiled
import Derived.Deep.RegionHeld3
import Derived.Test.YtjgldeeianionaaGreatProg
import Derived.Maps.OwnSet
import Derived.Maps.OwnOps
import Derived.Deep.LoopGhost
import Derived.Handy
import Derived.Lib.Hide
import Derived.Lib.ConvBytes
import Derived.RangeFuncNested
import Derived.RangeFuncBound
import Derived.RangeFuncCalls
import Derived.RangeFuncLeaves
import Derived.RangeFuncRecord
import Derived.TacticsInMore
import Derived.LoopNIn
import Derived.LoopIn
import Derived.Scope
import Derived.Deep.Quiet
import Derived.OrdersIn
import Derived.StillTail
import Derived.StillTailTactics
import Derived.OrdersHeld
import Derived.Deep.RegionHeld
import Derived.Tactics2
import Derived.Defers
import Derived.Recover
import Derived.Laws.Pointers
import Derived.ChangeKeysEq
import Derived.Deep.MidRow
import Derived.Sort.QuietIn
import Derived.Lib.SliceRun
import Derived.Shelf.Sort.Plain
import Derived.Shelf.Slices.CompactI
import Derived.Shelf.Slices.Reverse
import Derived.Test.YtjgldeeianionaaGreatS01
import Derived.Test.YtjgldeeianionaaGreatS13
import Derived.Test.YtjgldeeianionaaGreatS14
import Derived.Test.YtjgldeeianionaaGreatS16
set_option maxHeartbeats 2000000
set_option maxRecDepth 100000
set_option linter.unusedSimpArgs false
set_option linter.unusedVariables false
namespace Go.Proofs.YtjgldeeianionaaGreat
open Go.RowKit
theorem within_any (a b c:Int)(w:World):
 Calls Tryz.prog 192 #[.int .i64 a,.int .i64 b,.int .i64 c] w fun e w'=>e = .returned (.bool (inB a b c))∧w=w':=by
 go_enter Tryz.func192,Tryz.ntmps192
 go_wp2
 all_goals go_ret
 all_goals (refine⟨ret_bool ?_,rfl⟩;rw[Bool.eq_iff_iff];simp[inB];omega)
theorem within_held {a b c:Int}{v:Bool}(h:inB a b c=v)(W:World):Calls Tryz.prog 192 #[.int .i64 a,.int .i64 b,.int .i64 c] W fun e W'=>e = .returned (.bool v)∧Below W.heap.size W W':=
 (within_any a b c W).mono (by rintro e w' ⟨rfl,rfl⟩;exact⟨by rw[h],Below.refl _ _⟩)
theorem has_any (a:Option Addr)(c:Nat)(l:List Int)(x:Int)(w:World)(h:Ints w a l)(hl:l.length≤1000000):
 Calls Tryz.prog 194 #[.slice a l.length c,.int .i64 x] w fun e w'=>e = .returned (.bool (l.contains x))∧w=w':=by
 go_enter Tryz.func194,Tryz.ntmps194
 go_wp2
 go_loop [5] (fun i=>∃k:Nat,k≤l.length∧i = .int .i64 k∧(l.take k).contains x=false) (fun i=>l.length-(intOf i).toNat)
 case atStart=>exact⟨0,Nat.zero_le _,rfl,by simp⟩
 case round=>
  obtain⟨k,hk,rfl,hall⟩:=hrel
  have HA:=zh hall
  clear hall
  by_cases hlt:k<l.length
  ·obtain⟨b,o,rfl,hb⟩:=h.base (by omega)
   obtain⟨y,hy⟩:=get_of_lt l hlt
   have hc:=hb _ _ hy
   have HY:=zh hy
   clear hy hb
   by_cases hyx:y=x
   ·have hyb:(y==x)=true:=by simp[hyx]
    have HX:=zh hyx
    clear hyx
    go_wp2
    go_ret
    refine⟨ret_bool ?_,rfl⟩
    have:x∈l:=by rw[←HX.out];exact List.mem_of_getElem? HY.out
    simp[this]
   ·have hyb:(y==x)=false:=by simp[hyx]
    have HX:=zh hyx
    clear hyx
    go_wp2
    go_round
    case rel=>exact⟨k+1,by omega,by go_num,by rw[take_snoc HY.out];simp only[List.contains_append,HA.out];simp;exact fun e=>HX.out e.symm⟩
    case measure=>simp[intOf];omega
  ·go_wp2
   go_ret
   refine⟨ret_bool ?_,rfl⟩
   have h1:=HA.out
   rw[List.take_of_length_le (by omega)] at h1
   have h2:¬x∈l:=by simpa using h1
   simp[h2]
theorem same_take {l m:List Int}{k:Nat}{x y:Int}(hx:l[k]?=some x)(hy:m[k]?=some y)(h:l.take k=m.take k):(l.take (k+1)=m.take (k+1))↔x=y:=by
 rw[take_snoc hx,take_snoc hy,h];simp
theorem same_ref (a b:Option Addr)(ca cb:Nat)(l m:List Int)(w:World)(ha:Ints w a l)(hb:Ints w b m)(hl:l.length≤1000000)(hm:m.length≤1000000):
 Calls Tryz.prog 30 #[.slice a l.length ca,.slice b m.length cb] w fun e w'=>e = .returned (.bool (decide (l=m)))∧Below w.heap.size w w':=by
 by_cases hlen:l.length=m.length
 ·have hlb:((l.length:Int) != (m.length:Int))=false:=by simp[hlen]
  have HL:=zh hlen
  clear hlen
  go_enter Tryz.func30,Tryz.ntmps30
  go_wp2
  go_loopw [5] (fun i wr=>∃k:Nat,k≤l.length∧i = .int .i64 k∧l.take k=m.take k∧Below w.heap.size w wr) (fun i _=>l.length-(intOf i).toNat)
  case atStart=>exact⟨0,Nat.zero_le _,rfl,by simp,Below.refl _ _⟩
  case round=>
   obtain⟨k,hk,rfl,hall,hB⟩:=hrel
   have HA:=zh hall
   have HB:=zh hB
   clear hall
   by_cases hlt:k<l.length
   ·have hltm:k<m.length:=by have:=HL.out;omega
    obtain⟨b1,o1,rfl,hb1⟩:=(ha.below hB).base (by omega)
    obtain⟨b2,o2,rfl,hb2⟩:=(hb.below hB).base (by omega)
    obtain⟨x,hx⟩:=get_of_lt l hlt
    obtain⟨y,hy⟩:=get_of_lt m hltm
    have c1:=hb1 _ _ hx
    have c2:=hb2 _ _ hy
    have HX:=zh hx
    have HY:=zh hy
    have hki:(k:Int)<m.length:=by omega
    clear hx hy hb1 hb2 hB
    by_cases hxy:x=y
    ·have hxb:(x != y)=false:=by simp[hxy]
     have HXY:=zh hxy
     clear hxy
     go_wp2_with fail
     go_quiet (fail)
     go_wp2_with fail
     go_roundw
     case rel=>exact⟨k+1,by omega,by go_num,(same_take HX.out HY.out HA.out).2 HXY.out,below_drewN HB.out _⟩
     case measure=>simp[intOf];omega
    ·have hxb:(x != y)=true:=by simp[hxy]
     have HXY:=zh hxy
     clear hxy
     go_wp2_with fail
     go_quiet (fail)
     go_wp2_with fail
     go_ret
     refine⟨ret_bool ?_,below_drewN HB.out _⟩
     symm
     simp only[decide_eq_false_iff_not]
     intro e
     subst e
     have:=HX.out.symm.trans HY.out
     exact HXY.out (Option.some.inj this)
   ·clear hB
    go_wp2_with fail
    go_ret
    refine⟨ret_bool ?_,HB.out⟩
    have h1:=HA.out
    have h2:=HL.out
    rw[List.take_of_length_le (by omega),List.take_of_length_le (by omega)] at h1
    simp[h1]
 ·have hlb:((l.length:Int) != (m.length:Int))=true:=by simp;omega
  have HL:=zh hlen
  clear hlen
  go_enter Tryz.func30,Tryz.ntmps30
  go_wp2
  go_ret
  exact⟨ret_bool (by symm;simp only[decide_eq_false_iff_not];exact fun e=>HL.out (by rw[e])),Below.refl _ _⟩
end Go.Proofs.YtjgldeeianionaaGreat
namespace Go.Proofs.YtjgldeeianionaaGreat
open Go.RowKit
def risingB (l:List Int)(m:Int):Bool:=decide ((l.length:Int)≤m)&&idsB l
theorem rising_no {l:List Int}{m:Int}{k:Nat}(_:(l.length:Int)≤m)(hk:k<l.length)(h:idAt l k=false):false=risingB l m:=by
 rw[risingB,idsB,upto_false hk h,Bool.and_false]
theorem rising_any (a:Option Addr)(c:Nat)(l:List Int)(m:Int)(w:World)(h:Ints w a l)(hl:l.length≤1000000):
 Calls Tryz.prog 214 #[.slice a l.length c,.int .i64 m] w fun e w'=>e = .returned (.bool (risingB l m))∧Below w.heap.size w w':=by
 by_cases hlen:(l.length:Int)≤m
 ·have hnl:¬m<(l.length:Int):=by omega
  have HL:=zh hlen
  clear hlen
  go_enter Tryz.func214,Tryz.ntmps214
  go_wp2
  go_loopw [5] (fun i wr=>∃k:Nat,k≤l.length∧i = .int .i64 k∧(∀j,j<k→idAt l j=true)∧Below w.heap.size w wr) (fun i _=>l.length-(intOf i).toNat)
  case atStart=>exact⟨0,Nat.zero_le _,rfl,all_none,Below.refl _ _⟩
  case round=>
   obtain⟨k,hk,rfl,hall,hB⟩:=hrel
   have HA:=zh hall
   have HB:=zh hB
   clear hall
   by_cases hlt:k<l.length
   ·obtain⟨b,o,rfl,hb⟩:=(h.below hB).base (by omega)
    obtain⟨x,hx⟩:=get_of_lt l hlt
    have c1:=hb _ _ hx
    have HX:=zh hx
    have HBA:=zh hb
    clear hx hb hB
    rcases h1:inB x 1 1000000 with _|_
    ·have HH1:=zh h1
     clear h1
     go_wp2_with fail
     refine wp_region_heldB 22 [] zK zK zK (by simp) ?_
     intro S hS
     have k0:∀W,S W→W.cell? ⟨b,o+k,none⟩=some (.int .i64 x):=fun W h=>below_cell (hS W h) c1
     have K0:=zh k0
     have HS:=zh hS
     clear k0 hS c1
     simp only[List.take_succ_cons,List.take_zero,List.drop_succ_cons,List.drop_zero]
     repeat (first
      |(refine held_not rfl (by rfl) ?_;try simp only[pA,pN,sA,sB])
      |(refine held_val (v:=?_) rfl (by rfl) ?_ ?_;rotate_left;(· (intro W hW;have q0:=K0.out W hW;go_simp;try with_reducible rfl));try simp only[pA,pN,sA,sB])
      |(refine held_skip rfl (by rfl) ?_ ?_;(· (intro W hW;have q0:=K0.out W hW;go_simp;try with_reducible rfl));try simp only[pA,pN,sA,sB])
      |(refine held_call (v:=.bool false) (f:=192) (args:=#[.int .i64 x,.int .i64 1,.int .i64 1000000]) rfl (by rfl) ?_ ?_ ?_;(· (intro W hW;go_simp;done));(· exact(fun W hW=>within_held HH1.out W));try simp only[pA,pN,sA,sB]))
     refine held_nil ?_
     intro τ hτ wn hW hO
     obtain rfl:=laid0 hτ
     have HBW:=zh (HS.out wn hW)
     clear hτ hO hW K0 HS
     simp only[overs,List.foldl_nil]
     go_wp2_with fail
     go_ret
     exact⟨ret_bool (rising_no HL.out hlt (by simp[idAt,HX.out,HH1.out])),HB.out.trans (HBW.out.mono HB.out.size)⟩
    ·have HH1:=zh h1
     clear h1
     by_cases hk0:k=0
     ·have hneg:¬(0<(k:Int)):=by omega
      have hdk:decide (0<k)=false:=by simp;omega
      have HK0:=zh hk0
      clear hk0
      go_wp2_with fail
      refine wp_region_heldB 22 [] zK zK zK (by simp) ?_
      intro S hS
      have k0:∀W,S W→W.cell? ⟨b,o+k,none⟩=some (.int .i64 x):=fun W h=>below_cell (hS W h) c1
      have K0:=zh k0
      have HS:=zh hS
      clear k0 hS c1
      simp only[List.take_succ_cons,List.take_zero,List.drop_succ_cons,List.drop_zero]
      repeat (first
       |(refine held_not rfl (by rfl) ?_;try simp only[pA,pN,sA,sB])
       |(refine held_val (v:=?_) rfl (by rfl) ?_ ?_;rotate_left;(· (intro W hW;have q0:=K0.out W hW;go_simp;try with_reducible rfl));try simp only[pA,pN,sA,sB])
       |(refine held_skip rfl (by rfl) ?_ ?_;(· (intro W hW;have q0:=K0.out W hW;go_simp;try with_reducible rfl));try simp only[pA,pN,sA,sB])
       |(refine held_call (v:=.bool true) (f:=192) (args:=#[.int .i64 x,.int .i64 1,.int .i64 1000000]) rfl (by rfl) ?_ ?_ ?_;(· (intro W hW;go_simp;done));(· exact(fun W hW=>within_held HH1.out W));try simp only[pA,pN,sA,sB]))
      refine held_nil ?_
      intro τ hτ wn hW hO
      obtain rfl:=laid0 hτ
      have HBW:=zh (HS.out wn hW)
      clear hτ hO hW K0 HS
      simp only[overs,List.foldl_nil]
      go_wp2_with fail
      go_roundw
      case rel=>exact⟨k+1,by omega,by go_num,all_step HA.out (by have h0:=HK0.out;have h1:=HX.out;rw[h0] at h1 ⊢;rw[idAt_zero h1];exact HH1.out),HB.out.trans (HBW.out.mono HB.out.size)⟩
      case measure=>simp[intOf];omega
     ·have hpos:0<(k:Int):=by omega
      have hdk:decide (0<k)=true:=by simp;omega
      have hm1:((k:Int)-1).toNat=k-1:=by omega
      have hwr:IntKind.i64.wrap ((k:Int)-1)=(k:Int)-1:=IntWalk.i64_in _ (by omega)
      have h0k:(0:Int)≤(k:Int)-1:=by omega
      have hk1l:(k:Int)-1<(l.length:Int):=by omega
      have hk1g:¬((k:Int)<1):=by omega
      obtain⟨y,hy⟩:=get_of_lt l (k:=k-1) (by omega)
      have c2:=HBA.out _ _ hy
      have HY:=zh hy
      have HK0:=zh hk0
      clear hy hk0
      by_cases hyx:y<x
      ·have hyb:decide (x≤y)=false:=by simp;omega
       have HYX:=zh hyx
       clear hyx
       go_wp2_with fail
       refine wp_region_heldB 22 [] zK zK zK (by simp) ?_
       intro S hS
       have k0:∀W,S W→W.cell? ⟨b,o+k,none⟩=some (.int .i64 x)∧W.cell? ⟨b,o+(k-1),none⟩=some (.int .i64 y):=fun W h=>⟨below_cell (hS W h) c1,below_cell (hS W h) c2⟩
       have K0:=zh k0
       have HS:=zh hS
       clear k0 hS c1 c2
       simp only[List.take_succ_cons,List.take_zero,List.drop_succ_cons,List.drop_zero]
       repeat (first
        |(refine held_not rfl (by rfl) ?_;try simp only[pA,pN,sA,sB])
        |(refine held_val (v:=?_) rfl (by rfl) ?_ ?_;rotate_left;(· (intro W hW;obtain⟨q0,q1⟩:=K0.out W hW;go_simp;try with_reducible rfl));try simp only[pA,pN,sA,sB])
        |(refine held_skip rfl (by rfl) ?_ ?_;(· (intro W hW;obtain⟨q0,q1⟩:=K0.out W hW;go_simp;try with_reducible rfl));try simp only[pA,pN,sA,sB])
        |(refine held_call (v:=.bool true) (f:=192) (args:=#[.int .i64 x,.int .i64 1,.int .i64 1000000]) rfl (by rfl) ?_ ?_ ?_;(· (intro W hW;go_simp;done));(· exact(fun W hW=>within_held HH1.out W));try simp only[pA,pN,sA,sB]))
       refine held_nil ?_
       intro τ hτ wn hW hO
       obtain rfl:=laid0 hτ
       have HBW:=zh (HS.out wn hW)
       clear hτ hO hW K0 HS
       simp only[overs,List.foldl_nil]
       go_wp2_with fail
       go_roundw
       case rel=>exact⟨k+1,by omega,by go_num,all_step HA.out (by simp[idAt,HX.out,HY.out,HH1.out,HYX.out]),HB.out.trans (HBW.out.mono HB.out.size)⟩
       case measure=>simp[intOf];omega
      ·have hyb:decide (x≤y)=true:=by simp;omega
       have HYX:=zh hyx
       clear hyx
       go_wp2_with fail
       refine wp_region_heldB 22 [] zK zK zK (by simp) ?_
       intro S hS
       have k0:∀W,S W→W.cell? ⟨b,o+k,none⟩=some (.int .i64 x)∧W.cell? ⟨b,o+(k-1),none⟩=some (.int .i64 y):=fun W h=>⟨below_cell (hS W h) c1,below_cell (hS W h) c2⟩
       have K0:=zh k0
       have HS:=zh hS
       clear k0 hS c1 c2
       simp only[List.take_succ_cons,List.take_zero,List.drop_succ_cons,List.drop_zero]
       repeat (first
        |(refine held_not rfl (by rfl) ?_;try simp only[pA,pN,sA,sB])
        |(refine held_val (v:=?_) rfl (by rfl) ?_ ?_;rotate_left;(· (intro W hW;obtain⟨q0,q1⟩:=K0.out W hW;go_simp;try with_reducible rfl));try simp only[pA,pN,sA,sB])
        |(refine held_skip rfl (by rfl) ?_ ?_;(· (intro W hW;obtain⟨q0,q1⟩:=K0.out W hW;go_simp;try with_reducible rfl));try simp only[pA,pN,sA,sB])
        |(refine held_call (v:=.bool true) (f:=192) (args:=#[.int .i64 x,.int .i64 1,.int .i64 1000000]) rfl (by rfl) ?_ ?_ ?_;(· (intro W hW;go_simp;done));(· exact(fun W hW=>within_held HH1.out W));try simp only[pA,pN,sA,sB]))
       refine held_nil ?_
       intro τ hτ wn hW hO
       obtain rfl:=laid0 hτ
       have HBW:=zh (HS.out wn hW)
       clear hτ hO hW K0 HS
       simp only[overs,List.foldl_nil]
       go_wp2_with fail
       go_ret
       exact⟨ret_bool (rising_no HL.out hlt (by simp[idAt,HX.out,HY.out,HH1.out,HYX.out,HK0.out])),HB.out.trans (HBW.out.mono HB.out.size)⟩
   ·clear hB
    go_wp2_with fail
    go_ret
    exact⟨ret_bool (by rw[risingB,decide_eq_true HL.out,idsB,upto_true (fun j hj=>HA.out j (by omega))];rfl),HB.out⟩
 ·have hnl:m<(l.length:Int):=by omega
  have HL:=zh hlen
  clear hlen
  go_enter Tryz.func214,Tryz.ntmps214
  go_wp2
  go_ret
  exact⟨ret_bool (by have h1:=HL.out;rw[risingB,decide_eq_false (by omega)];rfl),Below.refl _ _⟩
end Go.Proofs.YtjgldeeianionaaGreat
namespace Go.Proofs.YtjgldeeianionaaGreat
open Go.RowKit
attribute [local go_sem] Oper.semAt_some
theorem index_any (a:Option Addr)(c:Nat)(l:List Int)(x:Int)(w:World)(h:Ints w a l)(hl:l.length≤1000000):
 Calls Tryz.prog 201 #[.slice a l.length c,.int .i64 x] w fun e w'=>(∃v:Int,e = .returned (.int .i64 v)∧(decide (0≤v))=l.contains x)∧Below w.heap.size w w':=by
 go_enter Tryz.func201,Tryz.ntmps201
 go_wp2_with fail
 go_loopw [8] (fun i wr=>∃k:Nat,k≤l.length∧i = .int .i64 k∧(l.take k).contains x=false∧Below w.heap.size w wr) (fun i _=>l.length-(intOf i).toNat)
 case atStart=>exact⟨0,Nat.zero_le _,rfl,by simp,Below.refl _ _⟩
 case round=>
  obtain⟨k,hk,rfl,hall,hb⟩:=hrel
  have HA:=zh hall
  have HB:=zh hb
  clear hall hb
  by_cases hlt:k<l.length
  ·obtain⟨b,o,rfl,hc0⟩:=(h.below HB.out).base (by omega)
   obtain⟨y,hy⟩:=get_of_lt l hlt
   have hc:=hc0 _ _ hy
   have hkn:(k:Int)<(l.length:Int):=by omega
   have HY:=zh hy
   clear hy hc0
   by_cases hyx:x=y
   ·have hyb:(x==y)=true:=by simp[hyx]
    have HX:=zh hyx
    clear hyx
    go_wp2_with fail
    try (go_quiet (fail);go_wp2_with fail)
    go_ret
    have:x∈l:=by rw[HX.out];exact List.mem_of_getElem? HY.out
    first
     |exact⟨⟨_,rfl,by simp[this]⟩,HB.out⟩
     |exact⟨⟨_,rfl,by simp[this]⟩,below_drewN HB.out _⟩
   ·have hyb:(x==y)=false:=by simp[hyx]
    have HX:=zh hyx
    clear hyx
    go_wp2_with fail
    try (go_quiet (fail);go_wp2_with fail)
    go_roundw
    case rel=>
     have e:(l.take (k+1)).contains x=false:=by rw[take_snoc HY.out];simp only[List.contains_append,HA.out];simp;exact HX.out
     first
      |exact⟨k+1,by omega,by go_num,e,HB.out⟩
      |exact⟨k+1,by omega,by go_num,e,below_drewN HB.out _⟩
    case measure=>simp[intOf];omega
  ·go_wp2_with fail
   go_ret
   have h1:=HA.out
   rw[List.take_of_length_le (by omega)] at h1
   have h2:¬x∈l:=by simpa using h1
   exact⟨⟨_,rfl,by simp[h2]⟩,HB.out⟩
theorem contains_any (a:Option Addr)(c:Nat)(l:List Int)(x:Int)(w:World)(h:Ints w a l)(hl:l.length≤1000000):
 Calls Tryz.prog 169 #[.slice a l.length c,.int .i64 x] w fun e w'=>e = .returned (.bool (l.contains x))∧Below w.heap.size w w':=by
 have HI:=zh (index_any a c l x w h hl)
 clear h
 go_enter Tryz.func169,Tryz.ntmps169
 go_wp2_with fail
 (with_reducible refine HI.out.mono ?_)
 rintro e w2 ⟨⟨v,rfl,hv⟩,hb⟩
 have HV:=zh hv
 have HB:=zh hb
 clear hv hb
 by_cases h0:0≤v
 ·go_wp2_with fail
  go_ret
  exact⟨by rw[←HV.out];simp[h0],HB.out⟩
 ·go_wp2_with fail
  go_ret
  exact⟨by rw[←HV.out];simp[h0],HB.out⟩
theorem withinR9_any (a b c:Int)(w:World):
 Calls Tryz.prog 109 #[.int .i64 a,.int .i64 b,.int .i64 c] w fun e w'=>e = .returned (.bool (inB a b c))∧w=w':=by
 go_enter Tryz.func109,Tryz.ntmps109
 go_wp2
 all_goals go_ret
 all_goals (refine⟨ret_bool ?_,rfl⟩;rw[Bool.eq_iff_iff];simp[inB];omega)
theorem costR9_any {c:Cs}{l:List Prb}{qa:Option Addr}{qc:Nat}(hp:probesErr c l=0)(sa:Option Addr)(s:List Nat)(sc:Nat)(w:World)(hq:PrbsAt w qa l)(hS:Ints w sa (natInts s))(hs:∀v∈s,v<l.length)(hsl:s.length≤1000):
 Calls Tryz.prog 90 #[.slice qa l.length qc,.slice sa s.length sc] w fun e w'=>e = .returned (.int .i64 (costOf l s))∧w=w':=by
 have HS:=zh hs
 have HC:=zh (costOf_in hp)
 have HPR:=zh hq
 have hl5:=(probes_ok hp).2.1
 have HRV:=zh (fun(v:Nat) (p:Prb) (hv:l[v]?=some p)=>(right_vals ((probes_ok hp).2.2 p (List.mem_of_getElem? hv)).1).2.2)
 clear hs hq hp
 go_enter Tryz.func90,Tryz.ntmps90
 go_wp2_with fail
 go_loop [5,6] (fun nv iv=>∃k:Nat,k≤s.length∧iv = .int .i64 k∧nv = .int .i64 (costOf l (s.take k))) (fun _ iv=>s.length-(intOf iv).toNat)
 case atStart=>exact⟨0,Nat.zero_le _,rfl,by simp[costOf]⟩
 case round=>
  obtain⟨k,hk,rfl,rfl⟩:=hrel
  by_cases hlt:k<s.length
  ·obtain⟨v,hv⟩:=get_of_lt s hlt
   have hvl:=HS.out v (List.mem_of_getElem? hv)
   obtain⟨p,hp⟩:=get_of_lt l hvl
   have hvi:(natInts s)[k]?=some (v:Int):=by simp[natInts,hv]
   obtain⟨b,o,rfl,hb⟩:=hS.base (by simp[natInts];omega)
   have c1:=hb _ _ hvi
   obtain⟨g,e,p',rfl,hp',hG⟩:=HPR.out.at_ hvl
   rw[hp] at hp';cases hp'
   have c2:=hG.open.2.2.2
   have hr:=HRV.out v p hp
   have h1:=HC.out (s.take k)
   have htl:(s.take k).length≤1000:=by have:=List.length_take_le k s;omega
   have hkn:(k:Int)<(s.length:Int):=by omega
   have hvn:(v:Int)<(l.length:Int):=by omega
   have hnx:costOf l (s.take (k+1))=costOf l (s.take k)+p.cost:=by rw[take_snoc hv,costOf_snoc,hp];rfl
   have HNX:=zh hnx
   obtain⟨n,hn⟩:=zx (costOf l (s.take k))
   rw[hn] at h1 HNX
   simp only[hn]
   have hn1:n≤1000000:=by omega
   clear hv hp hvi hb hG hnx hn
   go_wp2_with fail
   go_round
   case rel=>exact⟨k+1,by omega,by go_num,by rw[HNX.out]⟩
   case measure=>simp[intOf];omega
  ·have hks:s.take k=s:=List.take_of_length_le (by omega)
   have HK:=zh hks
   clear hks
   go_wp2_with fail
   go_ret
   exact⟨by rw[HK.out];rfl,rfl⟩
theorem countR9_any {c:Cs}{p:Prb}{q:Prt}{i:Nat}(hi:p.part=i)(hq:c.parts[i]?=some q)(h0:0≤q.span.low)(h1:q.span.low≤q.span.high)(h2:q.span.high≤1000)(hw1:1≤p.width)(hw2:p.width≤1001)(pa:Option Addr)(pc:Nat)(w:World)(hp:PartsAt w pa c.parts):
 Calls Tryz.prog 54 #[.agg #[.string c.ware,.int .i64 c.limit,.int .i64 c.by_,.slice pa c.parts.length pc],.agg #[.int .i64 p.id,.int .i64 p.part,.int .i64 p.width,.int .i64 p.cost]] w fun e w'=>e = .returned (.int .i64 (cntZ q.span p.width))∧Below w.heap.size w w':=by
 rw[hi]
 have hil:=(List.getElem?_eq_some_iff.1 hq).1
 have hin:(i:Int)<(c.parts.length:Int):=by omega
 obtain⟨b,o,q',rfl,hq',hP⟩:=hp.at_ hil
 rw[hq] at hq';cases hq'
 obtain⟨w2,hw2'⟩:∃w2,(w.alloc (.cells #[.string c.ware,.int .i64 c.limit,.int .i64 c.by_,.slice (some ⟨b,o,none⟩) c.parts.length pc] 24)).alloc (.cells #[.int .i64 p.id,.int .i64 i,.int .i64 p.width,.int .i64 p.cost] 93)=w2:=⟨_,rfl⟩
 have hB2:Below w.heap.size w w2:=by rw[←hw2'];go_grown
 have hs2:w2.heap.size=w.heap.size+2:=by rw[←hw2'];simp
 have e0:∀j,w2.cell? ⟨w.heap.size,j,none⟩=(#[.string c.ware,.int .i64 c.limit,.int .i64 c.by_,.slice (some ⟨b,o,none⟩) c.parts.length pc]:Array Value)[j]?:=by rw[←hw2'];exact((Box.new _ _ _).alloc _).cell
 have b3:Box w2 (w.heap.size+1) #[.int .i64 p.id,.int .i64 i,.int .i64 p.width,.int .i64 p.cost] 93:=by rw[←hw2'];exact Box.new' (by simp)
 have e1:=b3.cell
 obtain⟨sa,sc,ra,rc,x0,x1,x2,x3,x4,x5,x6,x7,_⟩:=hP.open
 have y1:=below_cell hB2 x1
 have y2:=below_cell hB2 x2
 have y3:=below_cell hB2 x3
 have y4:=below_cell hB2 x4
 have HW:=zh hw2'
 obtain⟨w3,hw3⟩:=zx (w2.alloc (.cells #[.int .i64 q.span.low,.int .i64 q.span.high,.int .i64 q.span.lowBy,.int .i64 q.span.highBy] 78))
 have hB3:Below w2.heap.size w2 w3:=by rw[←hw3];go_grown
 have b4:Box w3 w2.heap.size #[.int .i64 q.span.low,.int .i64 q.span.high,.int .i64 q.span.lowBy,.int .i64 q.span.highBy] 78:=by rw[←hw3];exact Box.new _ _ _
 have e3:=(b3.below' hB3).cell
 rw[hs2] at b4
 have e4:=b4.cell
 have HB3:=zh (hB2.trans (hB3.mono hB2.size))
 have HW3:=zh hw3
 have hwz:(p.width==0)=false:=by simp;omega
 have hwz2:p.width≠0:=by omega
 have hs1:IntKind.i64.wrap (q.span.high-q.span.low)=q.span.high-q.span.low:=IntWalk.i64_in _ (by omega)
 have hs3:IntKind.i64.wrap (q.span.high-q.span.low+p.width)=q.span.high-q.span.low+p.width:=IntWalk.i64_in _ (by omega)
 clear hP hw2' x0 x1 x2 x3 x4 x5 x6 x7 hp b3 hw3 hB3 b4 hB2 hq hi
 go_enter Tryz.func54,Tryz.ntmps54
 go_upto_region 1 with fail
 simp only[HW.out]
 go_upto_region 2 with fail
 simp only[HW3.out]
 clear e0 e1 y1 y2 y3 y4
 go_wp2_with fail
 go_ret
 exact⟨rfl,HB3.out⟩
theorem cnt_toNat {s:Spn}{v:Int}(hw:0<v)(hs:s.low≤s.high):cntZ s v=(cntN s v:Int):=by
 have:=cnt_pos hw hs
 unfold cntN
 omega
theorem samePlanR9_any (a b:Option Addr)(ca cb:Nat)(l m:List Int)(n k:Int)(w:World)(ha:Ints w a l)(hb:Ints w b m)(hl:l.length≤1000000)(hm:m.length≤1000000):
 Calls Tryz.prog 27 #[.agg #[.slice a l.length ca,.int .i64 n],.agg #[.slice b m.length cb,.int .i64 k]] w fun e w'=>e = .returned (.bool ((n==k)&&decide (l=m)))∧Below w.heap.size w w':=by
 obtain⟨w2,hw2⟩:=zx ((w.alloc (.cells #[.slice a l.length ca,.int .i64 n] 42)).alloc (.cells #[.slice b m.length cb,.int .i64 k] 42))
 have hB2:Below w.heap.size w w2:=by rw[←hw2];go_grown
 have e0:∀j,w2.cell? ⟨w.heap.size,j,none⟩=(#[.slice a l.length ca,.int .i64 n]:Array Value)[j]?:=by rw[←hw2];exact((Box.new _ _ _).alloc _).cell
 have e1:∀j,w2.cell? ⟨w.heap.size+1,j,none⟩=(#[.slice b m.length cb,.int .i64 k]:Array Value)[j]?:=by rw[←hw2];exact(Box.new' (t:=42) (by simp)).cell
 have HS:=zh (same_ref a b ca cb l m w2 (ha.below hB2) (hb.below hB2) hl hm)
 have HW:=zh hw2
 have HB:=zh hB2
 clear hw2 hB2 ha hb
 obtain⟨r,hr⟩:=zx (decide (l=m))
 rw[hr] at HS ⊢
 clear hr
 by_cases hnk:n=k
 ·have h1:(n==k)=true:=beq_iff_eq.2 hnk
  rw[h1]
  clear hnk
  go_enter Tryz.func27,Tryz.ntmps27
  go_upto_region 1 with fail
  simp only[HW.out]
  go_wp2_with fail
  (with_reducible refine HS.out.mono ?_)
  rintro e w3 ⟨rfl,hb3⟩
  have HB3:=zh (HB.out.trans (hb3.mono HB.out.size))
  clear hb3 e0 e1
  go_wp2_with fail
  go_ret
  exact⟨by simp,HB3.out⟩
 ·have h1:(n==k)=false:=beq_eq_false_iff_ne.2 hnk
  rw[h1]
  clear hnk
  go_enter Tryz.func27,Tryz.ntmps27
  go_upto_region 1 with fail
  simp only[HW.out]
  go_wp2_with fail
  go_ret
  exact⟨by simp,HB.out⟩
end Go.Proofs.YtjgldeeianionaaGreat
