/- The walks and plain laws of: MQSetsP. No condition. -/
import Derived.ArgAppend
import Derived.RangeFuncNested
import Derived.RangeFuncBound
import Derived.RangeFuncCalls
import Derived.RangeFuncLeaves
import Derived.RangeFuncRecord
import Derived.WalkKit
import Derived.OwnWalkIn
import Derived.TacticsInMore
import Derived.LoopNIn
import Derived.LoopIn
import Derived.Scope
import Derived.WalkMore
import Derived.Sort.CutIn
import Derived.Maps.AppendAt
import Derived.OwnWalk
import Derived.Shelf.Abstract
import Derived.WalkSpells
import Derived.WalkLawsBesides
import Derived.RangeFuncKeeps
import Derived.Deep.Draws
import Derived.Deep.DeepCutAuto
import Derived.Deep.OwnRows
import Derived.Laws.EntriesVeiled
import Derived.Deep.RegionHeld3
import Derived.Test.YtjgldeeianionaaGreatProg
import Derived.Maps.OwnSet
import Derived.Maps.OwnOps
import Derived.Deep.LoopGhost
import Derived.Deep.QuietTactic
import Derived.BigQuiet
import Derived.Handy
import Derived.Lib.Hide
import Derived.Lib.ConvBytes
import Derived.Deep.Quiet
import Derived.OrdersIn
import Derived.StillTail
import Derived.StillTailTactics
import Derived.OrdersHeld
import Derived.Deep.RegionHeld
import Derived.ChangeKeysEq
import Derived.IntWalk
import Derived.Tactics2
import Derived.Defers
import Derived.Recover
import Derived.Laws.Pointers
import Derived.Deep.MidRow
import Derived.Sort.QuietIn
import Derived.Lib.SliceRun
import Derived.Shelf.Sort.Plain
import Derived.Shelf.Slices.CompactI
import Derived.Shelf.Slices.Reverse
import Derived.Test.YtjgldeeianionaaGreatS13
import Derived.Test.YtjgldeeianionaaGreatS22
import Derived.Test.YtjgldeeianionaaGreatS25
import Derived.Test.YtjgldeeianionaaGreatS26
import Derived.Test.YtjgldeeianionaaGreatS29
import Derived.Test.YtjgldeeianionaaGreatS30
import Derived.Test.YtjgldeeianionaaGreatS33
import Derived.Test.YtjgldeeianionaaGreatS38
import Derived.Test.YtjgldeeianionaaGreatS01
set_option linter.unusedSimpArgs false
set_option linter.unusedVariables false
namespace Go.Proofs.YtjgldeeianionaaGreat
open Go.RowKit
def Inc:Nat→Nat→List Nat→Prop
 |_,_,[]=>True
 |a,m,v::y=>a≤v∧v<m∧Inc (v+1) m y
theorem Inc.len:∀{a m:Nat} {y:List Nat},Inc a m y→y.length≤m-a
 |_,_,[],_=>Nat.zero_le _
 |a,m,v::y,h=>by
  have:=Inc.len h.2.2
  have h1:=h.1
  have h2:=h.2.1
  simp only[List.length_cons];omega
theorem Inc.lt:∀{a m:Nat} {y:List Nat},Inc a m y→∀v∈y,a≤v∧v<m
 |_,_,[],_,v,hv=>by cases hv
 |a,m,u::y,h,v,hv=>by
  rcases List.mem_cons.1 hv with rfl|hv
  ·exact⟨h.1,h.2.1⟩
  ·have:=Inc.lt h.2.2 v hv
   have h1:=h.1
   omega
theorem mem_setGo (m:Nat):∀(r:Nat) (s:List Nat) (a:Nat) (x:List Nat),m-a≤r→(x∈setGo m r s a↔∃y,x=s++y∧Inc a m y)
 |0,s,a,x,h=>by
  simp only[setGo,List.mem_singleton]
  constructor
  ·rintro rfl;exact⟨[],by simp,trivial⟩
  ·rintro⟨y,rfl,hy⟩
   have:y=[]:=List.eq_nil_of_length_eq_zero (by have:=hy.len;omega)
   simp[this]
 |r+1,s,a,x,h=>by
  simp only[setGo,List.mem_cons,List.mem_flatMap,List.mem_range]
  constructor
  ·rintro (rfl|⟨k,hk,hx⟩)
   ·exact⟨[],by simp,trivial⟩
   ·obtain⟨y,rfl,hy⟩:=(mem_setGo m r _ _ x (by omega)).1 hx
    exact⟨(a+k)::y,by simp,by omega,by omega,hy⟩
  ·rintro⟨y,rfl,hy⟩
   cases y with
   |nil=>exact .inl (by simp)
   |cons v y=>
    have h1:=hy.1
    have h2:=hy.2.1
    refine .inr ⟨v-a,by omega,(mem_setGo m r _ _ _ (by omega)).2 ⟨y,?_,?_⟩⟩
    ·rw[show a+(v-a)=v by omega];simp
    ·rw[show a+(v-a)=v by omega];exact hy.2.2
theorem mem_setsOf {m:Nat}{x:List Nat}:x∈setsOf m↔Inc 0 m x:=by
 unfold setsOf
 rw[mem_setGo m m [] 0 x (by omega)]
 simp
theorem inc_iff:∀{y:List Nat} {a m:Nat},Inc a m y↔∀(i v:Nat),y[i]?=some v→a≤v∧v<m∧∀u,0<i→y[i-1]?=some u→u<v
 |[],a,m=>⟨fun _ i v h=>by simp at h,fun _=>trivial⟩
 |w::y,a,m=>by
  constructor
  ·rintro h i v hv
   cases i with
   |zero=>simp at hv;subst hv;exact⟨h.1,h.2.1,fun u hu=>absurd hu (by omega)⟩
   |succ i=>
    have h3:=inc_iff.1 h.2.2 i v (by simpa using hv)
    have h1:=h.1
    refine⟨by omega,h3.2.1,fun u _ hu=>?_⟩
    rw[Nat.add_sub_cancel] at hu
    cases i with
    |zero=>simp at hu;subst hu;omega
    |succ i=>exact h3.2.2 u (by omega) (by simpa using hu)
  ·intro h
   have h0:=h 0 w rfl
   refine⟨h0.1,h0.2.1,inc_iff.2 fun i v hv=>?_⟩
   have h1:=h (i+1) v (by simpa using hv)
   refine⟨?_,h1.2.1,fun u hi hu=>?_⟩
   ·cases i with
    |zero=>exact h1.2.2 w (by omega) rfl
    |succ i=>
     have hi:i<y.length:=by have:=(List.getElem?_eq_some_iff.1 hv).1;omega
     have key:∀(j u:Nat),y[j]?=some u→w<u:=by
      intro j
      induction j with
      |zero=>intro u hu;exact(h 1 u (by simpa using hu)).2.2 w (by omega) rfl
      |succ j ih=>
       intro u hu
       obtain⟨t,ht⟩:=get_of_lt y (k:=j) (by have:=(List.getElem?_eq_some_iff.1 hu).1;omega)
       have:=(h (j+1+1) u (by simpa using hu)).2.2 t (by omega) (by simpa using ht)
       have:=ih t ht
       omega
     exact key _ v hv
   ·obtain⟨j,rfl⟩:∃j,i=j+1:=⟨i-1,by omega⟩
    exact h1.2.2 u (by omega) (by simpa using hu)
theorem setB_inc {m:Nat}{s:List Nat}:setB m (natInts s)=true↔Inc 0 m s:=by
 unfold setB
 rw[upto_iff,inc_iff]
 have hg:∀(i v:Nat),s[i]?=some v→(natInts s)[i]?=some (v:Int):=fun i v h=>by simp[natInts,h]
 constructor
 ·intro h i v hv
  have h1:=h i (by have:=(List.getElem?_eq_some_iff.1 hv).1;simpa[natInts] using this)
  cases i with
  |zero=>
   rw[setAt_zero (hg 0 v hv)] at h1
   simp only[inB,Bool.and_eq_true,decide_eq_true_eq] at h1
   exact⟨Nat.zero_le _,by omega,fun u hu=>absurd hu (by omega)⟩
  |succ i=>
   obtain⟨t,ht⟩:=get_of_lt s (k:=i) (by have:=(List.getElem?_eq_some_iff.1 hv).1;omega)
   rw[setAt_succ (hg _ v hv) (hg i t ht)] at h1
   simp only[inB,Bool.and_eq_true,decide_eq_true_eq] at h1
   refine⟨Nat.zero_le _,by omega,fun u _ hu=>?_⟩
   rw[Nat.add_sub_cancel,ht] at hu
   cases hu
   omega
 ·intro h i hi
  have hi':i<s.length:=by simpa[natInts] using hi
  obtain⟨v,hv⟩:=get_of_lt s hi'
  have h1:=h i v hv
  cases i with
  |zero=>
   rw[setAt_zero (hg 0 v hv)]
   simp only[inB,Bool.and_eq_true,decide_eq_true_eq];omega
  |succ i=>
   obtain⟨t,ht⟩:=get_of_lt s (k:=i) (by omega)
   rw[setAt_succ (hg _ v hv) (hg i t ht)]
   have:=h1.2.2 t (by omega) (by simpa using ht)
   simp only[inB,Bool.and_eq_true,decide_eq_true_eq];omega
theorem set_mem {m:Nat}{S:List Int}(h:setB m S=true):nats S∈setsOf m:=by
 rw[mem_setsOf,←setB_inc,←(set_nats h).1]
 exact h
theorem setB_of {m:Nat}{s:List Nat}(h:s∈setsOf m):setB m (natInts s)=true:=setB_inc.2 (mem_setsOf.1 h)
theorem setB_nil (m:Nat):setB m []=true:=rfl
theorem cost_pos {c:Cs}{l:List Prb}(hp:probesErr c l=0){s:List Nat}(hs:∀v∈s,v<l.length)(hne:s≠[]):0<costOf l s:=by
 obtain⟨r,v,rfl⟩:∃r v,s=r++[v]:=⟨s.dropLast,s.getLast hne,(List.dropLast_concat_getLast hne).symm⟩
 rw[costOf_snoc]
 obtain⟨p,hv⟩:=get_of_lt l (hs v (by simp))
 have h1:=(right_vals ((probes_ok hp).2.2 p (List.mem_of_getElem? hv)).1).2.2
 have h2:=costOf_in hp r
 rw[hv]
 simp only[Option.map_some,Option.getD_some]
 omega
theorem cheapest_some {c:Cs}{l:List Prb}{a b:Nat}{s:List Nat}(h:cheapestOf c l a b=some s):s∈setsOf l.length∧decidesB c l a b s=true∧∀x∈setsOf l.length,decidesB c l a b x=true→costOf l s≤costOf l x:=(leastOf_some _).1 s h
theorem cheapest_none {c:Cs}{l:List Prb}{a b:Nat}(h:cheapestOf c l a b=none):∀x∈setsOf l.length,decidesB c l a b x=false:=(leastOf_some _).2 h
theorem nil_mem (m:Nat):([]:List Nat)∈setsOf m:=mem_setsOf.2 trivial
theorem cheapest_nil {c:Cs}{l:List Prb}{a b:Nat}(hp:probesErr c l=0)(h:decidesB c l a b []=true):cheapestOf c l a b=some []:=by
 rcases hc:cheapestOf c l a b with _|s
 ·have:=cheapest_none hc [] (nil_mem _)
  rw[h] at this;cases this
 ·obtain⟨h1,_,h3⟩:=cheapest_some hc
  have h4:=h3 [] (nil_mem _) h
  have h5:costOf l []=0:=rfl
  by_cases hn:s=[]
  ·rw[hn]
  ·have:=cost_pos hp (sets_in h1).1 hn
   omega
theorem cheapest_symm {c:Cs}{l:List Prb}{a b:Nat}(hp:probesErr c l=0)(ha:a<c.parts.length)(hb:b<c.parts.length):cheapestOf c l a b=cheapestOf c l b a:=by
 unfold cheapestOf
 have:decidesB c l a b=decidesB c l b a:=by funext s;exact decides_symm hp ha hb
 rw[this]
theorem doubted_open {c:Cs}{l:List Prb}{a b:Nat}{d:Opn}(hp:probesErr c l=0)(ha:a<c.parts.length)(hb:b<c.parts.length)(h:doubtedB c l a b d=true):setB l.length d.probes=true∧decidesB c l a b (nats d.probes)=false:=by
 unfold doubtedB at h
 simp only[Bool.and_eq_true] at h
 obtain⟨h1,h2⟩:=h
 obtain⟨_,_,h3,h4⟩:=found_nats h1
 refine⟨by simp only[foundB,Bool.and_eq_true] at h1;exact h1.1.1,?_⟩
 split at h2
 ·cases h2
 ·rename_i e he
  simp only[Bool.and_eq_true] at h2
  obtain⟨⟨⟨k1,k2⟩,k3⟩,k4⟩:=h2
  have ok:=after_ok hp he
  have hl:=ok.len
  obtain⟨x,hx,ex⟩:=fitsB_iff.1 k1
  obtain⟨y,hy,ey⟩:=fitsB_iff.1 k2
  have at_:∀(z:List Nat) (i:Nat),Reas e z→i<c.parts.length→(natInts z)[i]?.getD 0=(nth z i:Int):=fun z i hz hi=>by
   have hzl:=hz.len
   obtain⟨v,hv⟩:=get_of_lt z (k:=i) (by omega)
   simp[natInts,nth,hv]
  rw[←ex,at_ x a hx ha,at_ x b hx hb] at k3
  rw[←ey,at_ y a hy ha,at_ y b hy hb] at k4
  have h5:nth x a=nth x b:=by have:=beq_iff_eq.1 k3;omega
  have h6:nth y a≠nth y b:=by have:=bne_iff_ne.1 k4;omega
  have hne:(allR e).isEmpty=false:=by
   have:=mem_allR.2 hx
   rcases hc:allR e with _|_
   ·rw[hc] at this;simp at this
   ·rfl
  have ht:togB e.parts.length (allR e) a b=true:=(tog_iff (by omega) (by omega)).2 ⟨x,hx,h5⟩
  have hpt:aptB e.parts.length (allR e) a b=true:=(apt_iff (by omega) (by omega)).2 ⟨y,hy,h6⟩
  have hans:ansAt e a b=3:=by rw[ans_iff,if_pos hpt,if_pos ht]
  have hcan:canC c l (nats d.probes) (nats d.found)=some e:=by
   unfold canC
   rw[he]
   simp only[hne,Bool.false_eq_true,if_false]
  rw[Bool.eq_false_iff]
  intro hd
  have:=decides_iff.1 hd _ ((mem_outs h3).2 h4)
  rw[sure_some hcan,hans] at this
  cases this
end Go.Proofs.YtjgldeeianionaaGreat
