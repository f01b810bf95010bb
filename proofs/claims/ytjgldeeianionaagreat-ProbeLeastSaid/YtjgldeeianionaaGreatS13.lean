/- The walks and plain laws of: MPlain MPlainA MPlainB MQPlain MQPlainB MQLeast. No condition. -/
import Derived.Test.YtjgldeeianionaaGreatS01
import Derived.Test.YtjgldeeianionaaGreatS04
import Derived.Test.YtjgldeeianionaaGreatS05
import Derived.Test.YtjgldeeianionaaGreatS06
import Derived.Test.YtjgldeeianionaaGreatS07
import Derived.Test.YtjgldeeianionaaGreatS08
import Derived.Test.YtjgldeeianionaaGreatS12
set_option linter.unusedSimpArgs false
set_option linter.unusedVariables false
namespace Go.Proofs.YtjgldeeianionaaGreat
open Go.RowKit
def OkExt (c:Cs):List Nat→List Nat→Prop
 |_,[]=>True
 |pre,v::e=>v≤manyOf pre∧freeB c pre v=true∧OkExt c (pre++[v]) e
theorem mem_allGo (c:Cs):∀(r:Nat) (pre x:List Nat),x∈allGo c r pre↔∃e,x=pre++e∧e.length=r∧OkExt c pre e
 |0,pre,x=>by
  simp only[allGo,List.mem_singleton]
  constructor
  ·rintro rfl;exact⟨[],by simp,rfl,trivial⟩
  ·rintro⟨e,rfl,he,_⟩
   rw[List.eq_nil_of_length_eq_zero he];simp
 |r+1,pre,x=>by
  simp only[allGo,List.mem_flatMap,List.mem_range]
  constructor
  ·rintro⟨v,hv,h⟩
   split at h
   ·rename_i hf
    obtain⟨e,rfl,he,ho⟩:=(mem_allGo c r (pre++[v]) x).1 h
    exact⟨v::e,by simp,by simp[he],by omega,hf,ho⟩
   ·simp at h
  ·rintro⟨e,rfl,he,ho⟩
   rcases e with _|⟨v,e⟩
   ·simp at he
   ·obtain⟨h1,h2,h3⟩:=ho
    refine⟨v,by omega,?_⟩
    rw[if_pos h2]
    exact(mem_allGo c r (pre++[v]) _).2 ⟨e,by simp,by simpa using he,h3⟩
theorem okExt_at {c:Cs}:∀{e pre:List Nat},OkExt c pre e↔∀i (h:i<e.length),e[i]≤manyOf (pre++e.take i)∧freeB c (pre++e.take i) e[i]=true
 |[],pre=>by simp[OkExt]
 |v::e,pre=>by
  simp only[OkExt]
  rw[okExt_at (e:=e) (pre:=pre++[v])]
  constructor
  ·rintro⟨h1,h2,h3⟩ i hi
   rcases i with _|i
   ·simpa using⟨h1,h2⟩
   ·have:=h3 i (by simpa using hi)
    simpa using this
  ·intro h
   have h0:=h 0 (by simp)
   refine⟨by simpa using h0.1,by simpa using h0.2,fun i hi=>?_⟩
   have:=h (i+1) (by simpa using hi)
   simpa using this
structure Reas (c:Cs) (x:List Nat):Prop where
 len:x.length=c.parts.length
 grow:∀i (h:i<x.length),x[i]≤manyOf (x.take i)
 apart:∀p q (hp:p<x.length) (hq:q<p),x[q]=x[p]→clashB c p q=false
 lim:∀v∈x,limB c v=true
theorem noClash_at {c:Cs}{x:List Nat}{i:Nat}(hi:i<x.length):noClash c (x.take i) x[i]=true↔∀q (hq:q<i),x[q]=x[i]→clashB c i q=false:=by
 unfold noClash
 rw[upto_iff,List.length_take,Nat.min_eq_left (by omega)]
 constructor
 ·intro h q hq e
  have h1:=h q hq
  rw[List.getElem?_take_of_lt hq,List.getElem?_eq_getElem (by omega)] at h1
  simp[e] at h1
  exact h1
 ·intro h q hq
  rw[List.getElem?_take_of_lt hq,List.getElem?_eq_getElem (by omega)]
  by_cases e:x[q]=x[i]
  ·simp[e,h q hq e]
  ·simp[e]
theorem mem_allR {c:Cs}{x:List Nat}:x∈allR c↔Reas c x:=by
 unfold allR
 rw[mem_allGo]
 constructor
 ·rintro⟨e,rfl,he,ho⟩
  rw[okExt_at] at ho
  simp only[List.nil_append] at ho ⊢
  refine⟨he,fun i h=>(ho i h).1,fun p q hp hq=>?_,fun v hv=>?_⟩
  ·have:=(ho p hp).2
   simp only[freeB,Bool.and_eq_true] at this
   exact(noClash_at hp).1 this.2 q hq
  ·obtain⟨i,hi,rfl⟩:=List.getElem_of_mem hv
   have:=(ho i hi).2
   simp only[freeB,Bool.and_eq_true] at this
   exact this.1
 ·intro h
  refine⟨x,by simp,h.len,?_⟩
  rw[okExt_at]
  intro i hi
  simp only[List.nil_append,freeB,Bool.and_eq_true]
  exact⟨h.grow i hi,h.lim _ (List.getElem_mem hi),(noClash_at hi).2 fun q hq=>h.apart i q hi hq⟩
end Go.Proofs.YtjgldeeianionaaGreat
namespace Go.Proofs.YtjgldeeianionaaGreat
open Go.RowKit
section
variable {d:Nat→Nat→Nat}{n:Nat}
end
end Go.Proofs.YtjgldeeianionaaGreat
namespace Go.Proofs.YtjgldeeianionaaGreat
open Go.RowKit
section
variable {c:Cs}{d:Dec}{n:Nat}{z:Nat→Nat}
end
end Go.Proofs.YtjgldeeianionaaGreat
namespace Go.Proofs.YtjgldeeianionaaGreat
open Go.RowKit
def fitsB (c:Cs)(l:List Int):Bool:=(allR c).any fun x=>natInts x==l
theorem fitsB_iff {c:Cs}{l:List Int}:fitsB c l=true↔∃x,Reas c x∧natInts x=l:=by
 simp only[fitsB,List.any_eq_true,beq_iff_eq]
 exact⟨fun⟨x,h,e⟩=>⟨x,mem_allR.1 h,e⟩,fun⟨x,h,e⟩=>⟨x,mem_allR.2 h,e⟩⟩
theorem manyOf_le_iff {m:Nat}:∀{x:List Nat},manyOf x≤m↔∀v∈x,v+1≤m:=by
 intro x
 have h:∀(x:List Nat) (a:Nat),x.foldl (fun m v=>max m (v+1)) a≤m↔a≤m∧∀v∈x,v+1≤m:=by
  intro x
  induction x with
  |nil=>intro a;simp
  |cons v x ih=>
   intro a
   rw[List.foldl_cons,ih]
   simp only[List.mem_cons,forall_eq_or_imp,Nat.max_le,and_assoc]
 rw[manyOf,h]
 simp
theorem natInts_inj {x y:List Nat}(h:natInts x=natInts y):x=y:=by
 induction x generalizing y with
 |nil=>cases y with
  |nil=>rfl
  |cons b y=>simp[natInts] at h
 |cons a x ih=>cases y with
  |nil=>simp[natInts] at h
  |cons b y=>
   simp only[natInts,List.map_cons,List.cons.injEq] at h
   rw[ih (y:=y) h.2]
   congr 1
   omega
structure FitTo (c:Cs) (l:List Int) (k:Nat) (pre:List Nat):Prop where
 eq:l.take k=natInts pre
 len:pre.length=k
 le:k≤c.parts.length
 grow:∀i (h:i<pre.length),pre[i]≤manyOf (pre.take i)
 apart:∀p q (hp:p<pre.length) (hq:q<p),pre[q]=pre[p]→clashB c p q=false
theorem FitTo.nil (c:Cs)(l:List Int):FitTo c l 0 []:=⟨by simp[natInts],rfl,Nat.zero_le _,by simp,by simp⟩
theorem natInts_take (x:List Nat)(k:Nat):(natInts x).take k=natInts (x.take k):=by simp[natInts,List.map_take]
theorem FitTo.pre_eq {c:Cs}{l:List Int}{k:Nat}{pre:List Nat}(h:FitTo c l k pre){x:List Nat}(hx:natInts x=l):x.take k=pre:=by
 apply natInts_inj
 rw[←natInts_take,hx,h.eq]
theorem natInts_get {x:List Nat}{k:Nat}{v:Int}(h:(natInts x)[k]?=some v):∃u:Nat,x[k]?=some u∧v=u:=by
 simp only[natInts,List.getElem?_map,Option.map_eq_some_iff] at h
 obtain⟨u,hu,rfl⟩:=h
 exact⟨u,hu,rfl⟩
theorem FitTo.long {c:Cs}{l:List Int}{k:Nat}(hk:k<l.length)(hn:c.parts.length≤k):fitsB c l=false:=by
 rw[Bool.eq_false_iff]
 intro h
 obtain⟨x,hx,rfl⟩:=fitsB_iff.1 h
 have:=hx.len
 simp[natInts] at hk
 omega
theorem FitTo.out {c:Cs}{l:List Int}{k:Nat}{pre:List Nat}(h:FitTo c l k pre){v:Int}(hv:l[k]?=some v)(hb:inB v 0 (manyOf pre)=false):fitsB c l=false:=by
 rw[Bool.eq_false_iff]
 intro hf
 obtain⟨x,hx,rfl⟩:=fitsB_iff.1 hf
 have hp:=h.pre_eq rfl
 obtain⟨u,hu,rfl⟩:=natInts_get hv
 obtain⟨hk,hu⟩:=List.getElem?_eq_some_iff.1 hu
 have:=hx.grow k hk
 rw[hp,hu] at this
 simp[inB] at hb
 omega
theorem FitTo.clash {c:Cs}{l:List Int}{k q:Nat}{pre:List Nat}(h:FitTo c l k pre){v:Nat}(hv:l[k]?=some (v:Int))(hq:q<k)(hqv:pre[q]?=some v)(hc:clashB c k q=true):fitsB c l=false:=by
 rw[Bool.eq_false_iff]
 intro hf
 obtain⟨x,hx,rfl⟩:=fitsB_iff.1 hf
 have hp:=h.pre_eq rfl
 obtain⟨u,hu,hvu⟩:=natInts_get hv
 obtain⟨hk,hu⟩:=List.getElem?_eq_some_iff.1 hu
 have h1:=hx.apart k q hk hq (by
  rw[←hp,List.getElem?_take_of_lt hq] at hqv
  obtain⟨_,hqv⟩:=List.getElem?_eq_some_iff.1 hqv
  rw[hqv,hu];omega)
 rw[hc] at h1
 cases h1
theorem FitTo.step {c:Cs}{l:List Int}{k:Nat}{pre:List Nat}(h:FitTo c l k pre){v:Nat}(hv:l[k]?=some (v:Int))(hk:k<c.parts.length)(hb:v≤manyOf pre)(hc:∀q,q<k→pre[q]?=some v→clashB c k q=false):FitTo c l (k+1) (pre++[v]):=by
 refine⟨by rw[take_snoc hv,h.eq];simp[natInts],by simp[h.len],by omega,fun i hi=>?_,fun p q hp hq e=>?_⟩
 ·rcases Nat.lt_or_ge i pre.length with hlt|hge
  ·rw[List.getElem_append_left hlt,List.take_append_of_le_length (by omega)]
   exact h.grow i hlt
  ·have:i=pre.length:=by simp at hi;omega
   subst this
   simpa using hb
 ·rcases Nat.lt_or_ge p pre.length with hlt|hge
  ·rw[List.getElem_append_left hlt,List.getElem_append_left (by omega)] at e
   exact h.apart p q hlt hq e
  ·have:p=pre.length:=by simp at hp;omega
   subst this
   rw[h.len] at hq ⊢
   refine hc q hq ?_
   rw[List.getElem?_eq_getElem (by rw[h.len];omega)]
   simp at e
   rw[List.getElem_append_left (by rw[h.len];omega)] at e
   rw[e]
theorem FitTo.done {c:Cs}{l:List Int}{k:Nat}{pre:List Nat}(h:FitTo c l k pre)(hk:¬k<l.length)(hl:0≤c.limit):fitsB c l=(((l.length:Int)==(c.parts.length:Int))&&((c.limit==0)||decide ((manyOf pre:Int)≤c.limit))):=by
 have he:natInts pre=l:=by rw[←h.eq,List.take_of_length_le (by omega)]
 have hlen:l.length=pre.length:=by rw[←he];simp[natInts]
 rw[Bool.eq_iff_iff,fitsB_iff]
 simp only[Bool.and_eq_true,beq_iff_eq,Bool.or_eq_true,decide_eq_true_eq]
 have hlim:(∀v∈pre,limB c v=true)↔c.limit=0∨(manyOf pre:Int)≤c.limit:=by
  have h1:(manyOf pre:Int)≤c.limit↔manyOf pre≤c.limit.toNat:=by omega
  rw[h1,manyOf_le_iff]
  constructor
  ·intro h2
   by_cases h0:c.limit=0
   ·exact .inl h0
   ·refine .inr fun v hv=>?_
    have:=h2 v hv
    simp[limB] at this
    omega
  ·rintro (h0|h2) v hv
   ·simp[limB,h0]
   ·have:=h2 v hv
    simp[limB];omega
 constructor
 ·rintro⟨x,hx,hxe⟩
  have:x=pre:=natInts_inj (hxe.trans he.symm)
  subst this
  exact⟨by have:=hx.len;omega,hlim.1 hx.lim⟩
 ·rintro⟨h1,h2⟩
  exact⟨pre,⟨by omega,h.grow,h.apart,hlim.2 h2⟩,he⟩
end Go.Proofs.YtjgldeeianionaaGreat
namespace Go.Proofs.YtjgldeeianionaaGreat
open Go.RowKit
def nth (x:List Nat)(a:Nat):Nat:=x[a]?.getD 0
end Go.Proofs.YtjgldeeianionaaGreat
namespace Go.Proofs.YtjgldeeianionaaGreat
open Go.RowKit
theorem nth_eq' {x:List Nat}{a b:Nat}(ha:a<x.length)(hb:b<x.length):(x[a]?==x[b]?)=(nth x a==nth x b):=by
 unfold nth
 rw[List.getElem?_eq_getElem ha,List.getElem?_eq_getElem hb]
 simp
theorem tog_iff {c:Cs}{a b:Nat}(ha:a<c.parts.length)(hb:b<c.parts.length):togB c.parts.length (allR c) a b=true↔∃x,Reas c x∧nth x a=nth x b:=by
 simp only[togB,Bool.and_eq_true,decide_eq_true_eq,List.any_eq_true]
 constructor
 ·rintro⟨_,x,hx,e⟩
  have hr:=mem_allR.1 hx
  rw[nth_eq' (by rw[hr.len];exact ha) (by rw[hr.len];exact hb)] at e
  exact⟨x,hr,by simpa using e⟩
 ·rintro⟨x,hr,e⟩
  exact⟨⟨ha,hb⟩,x,mem_allR.2 hr,by rw[nth_eq' (by rw[hr.len];exact ha) (by rw[hr.len];exact hb)];simpa using e⟩
theorem apt_iff {c:Cs}{a b:Nat}(ha:a<c.parts.length)(hb:b<c.parts.length):aptB c.parts.length (allR c) a b=true↔∃x,Reas c x∧nth x a≠nth x b:=by
 simp only[aptB,Bool.and_eq_true,decide_eq_true_eq,List.any_eq_true]
 constructor
 ·rintro⟨_,x,hx,e⟩
  have hr:=mem_allR.1 hx
  rw[bne,nth_eq' (by rw[hr.len];exact ha) (by rw[hr.len];exact hb)] at e
  exact⟨x,hr,by simpa using e⟩
 ·rintro⟨x,hr,e⟩
  exact⟨⟨ha,hb⟩,x,mem_allR.2 hr,by rw[bne,nth_eq' (by rw[hr.len];exact ha) (by rw[hr.len];exact hb)];simpa using e⟩
end Go.Proofs.YtjgldeeianionaaGreat
namespace Go.Proofs.YtjgldeeianionaaGreat
open Go.RowKit
theorem ans_iff (c:Cs)(a b:Nat):ansAt c a b=if aptB c.parts.length (allR c) a b then(if togB c.parts.length (allR c) a b then 3 else 2) else 1:=rfl
end Go.Proofs.YtjgldeeianionaaGreat
namespace Go.Proofs.YtjgldeeianionaaGreat
open Go.RowKit
structure Tight (c d:Cs):Prop where
 len:d.parts.length=c.parts.length
 clash:∀a b,a<c.parts.length→b<c.parts.length→clashB c a b=true→clashB d a b=true
 lim:0<c.limit→0<d.limit∧d.limit≤c.limit
section
variable {c d:Cs}
theorem Tight.reas (T:Tight c d){x:List Nat}(h:Reas d x):Reas c x:=by
 refine⟨h.len.trans T.len,h.grow,fun p q hp hq e=>?_,fun v hv=>?_⟩
 ·rcases hc:clashB c p q with _|_
  ·rfl
  ·have hl:=h.len
   rw[T.len] at hl
   have:=h.apart p q hp hq e
   rw[T.clash p q (by omega) (by omega) hc] at this
   cases this
 ·have h1:=h.lim v hv
  simp[limB] at h1 ⊢
  by_cases h2:0<c.limit
  ·have:=T.lim h2;omega
  ·omega
theorem Tight.ans (T:Tight c d)(hne:(allR d).isEmpty=false){a b:Nat}(ha:a<c.parts.length)(hb:b<c.parts.length)(h:ansAt c a b≠3):ansAt d a b=ansAt c a b:=by
 have ha':a<d.parts.length:=by rw[T.len];exact ha
 have hb':b<d.parts.length:=by rw[T.len];exact hb
 rw[ans_iff,ans_iff]
 rw[ans_iff] at h
 by_cases h1:aptB c.parts.length (allR c) a b=true
 ·rw[if_pos h1] at h ⊢
  have h2:¬togB c.parts.length (allR c) a b=true:=fun k=>by rw[if_pos k] at h;exact h rfl
  have h3:¬togB d.parts.length (allR d) a b=true:=fun k=>by
   obtain⟨x,hx,e⟩:=(tog_iff ha' hb').1 k
   exact h2 ((tog_iff ha hb).2 ⟨x,T.reas hx,e⟩)
  have h4:aptB d.parts.length (allR d) a b=true:=by
   rcases hr:allR d with _|⟨x,l⟩
   ·rw[hr] at hne;cases hne
   ·have hx:=mem_allR.1 (show x∈allR d by rw[hr];simp)
    rw[←hr]
    exact(apt_iff ha' hb').2 ⟨x,hx,fun e=>h3 ((tog_iff ha' hb').2 ⟨x,hx,e⟩)⟩
  rw[if_neg h2,if_pos h4,if_neg h3]
 ·have h4:¬aptB d.parts.length (allR d) a b=true:=fun k=>by
   obtain⟨x,hx,e⟩:=(apt_iff ha' hb').1 k
   exact h1 ((apt_iff ha hb).2 ⟨x,T.reas hx,e⟩)
  rw[if_neg h1,if_neg h4]
theorem Tight.some_ (T:Tight c d)(hne:(allR d).isEmpty=false):(allR c).isEmpty=false:=by
 rcases hr:allR d with _|⟨x,l⟩
 ·rw[hr] at hne;cases hne
 ·have hx:=mem_allR.2 (T.reas (mem_allR.1 (show x∈allR d by rw[hr];simp)))
  rcases hc:allR c with _|_
  ·rw[hc] at hx;simp at hx
  ·rfl
end
def valP (j:Nat)(p:Prt):Int:=if j=0 then p.span.lowBy else if j=1 then p.span.highBy else p.footBy
def stepP (gone:Int→Bool)(j:Nat)(p:Prt):Prt:=if hitB gone (valP j p) then clearP j p else p
def woutP (gone:Int→Bool)(p:Prt):Prt:=stepP gone 2 (stepP gone 1 (stepP gone 0 p))
theorem modify_at {α:Type}{l:List α}{i:Nat}{x:α}(h:l[i]?=some x){f g:α→α}(hf:f x=g x):l.modify i f=l.modify i g:=by
 apply List.ext_getElem?
 intro k
 rw[List.getElem?_modify,List.getElem?_modify]
 by_cases e:i=k
 ·subst e;rw[h];simp[hf]
 ·simp[e]
theorem woutP_eq (gone:Int→Bool)(p:Prt):woutP gone p=⟨p.sherds,⟨if hitB gone p.span.lowBy then 0 else p.span.low,if hitB gone p.span.highBy then 1000 else p.span.high,if hitB gone p.span.lowBy then 0 else p.span.lowBy,if hitB gone p.span.highBy then 0 else p.span.highBy⟩,
 if hitB gone p.footBy then false else p.foot,if hitB gone p.footBy then 0 else p.footBy,p.rests⟩:=by
 unfold woutP
 rcases h0:hitB gone p.span.lowBy with _|_<;>rcases h1:hitB gone p.span.highBy with _|_<;>rcases h2:hitB gone p.footBy with _|_ <;>
  simp[stepP,valP,clearP,h0,h1,h2]
theorem okSpn_of {p:Prt}(h:isPartB p=true):0≤p.span.low∧p.span.low≤p.span.high∧p.span.high≤1000:=by
 simp[isPartB,okSpn] at h
 omega
theorem clash_wout (gone:Int→Bool){p q:Prt}{x y:Nat}(hp:isPartB p=true)(hq:isPartB q=true)(h:clashP x y (woutP gone p) (woutP gone q)=true):clashP x y p q=true:=by
 have a:=okSpn_of hp
 have b:=okSpn_of hq
 rw[woutP_eq,woutP_eq] at h
 simp only[clashP,feetB,Bool.and_eq_true,Bool.or_eq_true,decide_eq_true_eq,bne_iff_ne] at h ⊢
 obtain⟨h1,h2⟩:=h
 refine⟨h1,?_⟩
 rcases h2 with (⟨f1,f2⟩|h2)|h2
 ·refine .inl (.inl ⟨?_,?_⟩)
  ·split at f1
   ·cases f1
   ·exact f1
  ·split at f2
   ·cases f2
   ·exact f2
 ·refine .inl (.inr ?_)
  split at h2<;>split at h2<;>omega
 ·refine .inr ?_
  split at h2<;>split at h2<;>omega
theorem check_okCase {c:Cs}(h:checkCase c=0):c.parts.length≤8∧ok0 c=true∧(∀p∈c.parts,isPartB p=true)∧noDup (allIds c.parts)=true:=by
 unfold checkCase at h
 split at h
 ·cases h
 ·split at h
  ·rename_i h1
   simp only[okCase,Bool.and_eq_true,List.all_eq_true] at h1
   exact⟨by omega,h1.1.1,h1.1.2,h1.2⟩
  ·cases h
theorem okCase_check {c:Cs}(h8:c.parts.length≤8)(h0:ok0 c=true)(h1:∀p∈c.parts,isPartB p=true)(h2:noDup (allIds c.parts)=true):checkCase c=0:=by
 unfold checkCase
 rw[if_neg (by omega),if_pos]
 simp only[okCase,Bool.and_eq_true,List.all_eq_true]
 exact⟨⟨h0,h1⟩,h2⟩
theorem clashB_at {c:Cs}{a b:Nat}{p q:Prt}(ha:c.parts[a]?=some p)(hb:c.parts[b]?=some q):clashB c a b=clashP a b p q:=clashB_eq ha hb
end Go.Proofs.YtjgldeeianionaaGreat
namespace Go.Proofs.YtjgldeeianionaaGreat
open Go.RowKit
theorem narrowP_part {p:Prt}{low high id:Int}(h:isPartB p=true)(h1:0≤low)(h2:high≤1000)(h3:1≤id∧id≤1000000)(h4:(narrowP low high id p).span.low≤(narrowP low high id p).span.high):isPartB (narrowP low high id p)=true:=by
 simp only[isPartB,Bool.and_eq_true] at h ⊢
 obtain⟨⟨⟨⟨⟨⟨⟨a1,a2⟩,a3⟩,a4⟩,a5⟩,a6⟩,a7⟩,a8⟩:=h
 simp only[okSpn,Bool.and_eq_true,decide_eq_true_eq] at a5
 refine⟨⟨⟨⟨⟨⟨⟨a1,a2⟩,a3⟩,a4⟩,?_⟩,?_⟩,?_⟩,a8⟩
 ·simp only[okSpn,Bool.and_eq_true,decide_eq_true_eq]
  refine⟨⟨?_,h4⟩,?_⟩
  ·simp only[narrowP];split<;>omega
  ·simp only[narrowP];split<;>omega
 ·simp only[narrowP]
  split
  ·simp[byB,inB];omega
  ·exact a6
 ·simp only[narrowP]
  split
  ·simp[byB,inB];omega
  ·exact a7
theorem narrow_at {c:Cs}{i a:Nat}{low high id:Int}{p:Prt}(ha:c.parts[a]?=some p):(narrowC c i low high id).parts[a]?=some (if i=a then narrowP low high id p else p):=by
 simp only[narrowC,List.getElem?_modify,ha]
 split<;>simp
theorem narrow_check {c:Cs}{i:Nat}{low high id:Int}{p:Prt}(h:checkCase c=0)(hp:c.parts[i]?=some p)(h1:0≤low)(h2:high≤1000)(h3:1≤id∧id≤1000000)
 (h4:(narrowP low high id p).span.low≤(narrowP low high id p).span.high):checkCase (narrowC c i low high id)=0:=by
 obtain⟨h8,k0,k1,k2⟩:=check_okCase h
 refine okCase_check (by simpa[narrowC] using h8) k0 (fun q hq=>?_) ?_
 ·obtain⟨a,hal,rfl⟩:=List.getElem_of_mem hq
  have hal':a<c.parts.length:=by simpa[narrowC] using hal
  obtain⟨r,hr⟩:=get_of_lt c.parts hal'
  have e:=narrow_at (i:=i) (low:=low) (high:=high) (id:=id) hr
  rw[List.getElem?_eq_getElem hal] at e
  rw[Option.some.inj e]
  split
  ·rename_i hia
   subst hia
   rw[hp] at hr;cases hr
   exact narrowP_part (k1 p (List.mem_of_getElem? hp)) h1 h2 h3 h4
  ·exact k1 r (List.mem_of_getElem? hr)
 ·have e:allIds (narrowC c i low high id).parts=allIds c.parts:=by
   simp only[allIds,narrowC,List.flatMap_def]
   congr 1
   apply List.ext_getElem?
   intro k
   rw[List.getElem?_map,List.getElem?_map,List.getElem?_modify]
   rcases c.parts[k]? with _|r
   ·rfl
   ·simp only[Option.map_eq_map,Option.map_some]
    split<;>rfl
  rw[e];exact k2
theorem narrow_tight (c:Cs)(i:Nat)(low high id:Int):Tight c (narrowC c i low high id):=by
 refine⟨by simp[narrowC],fun a b ha hb k=>?_,fun hl=>⟨hl,Int.le_refl _⟩⟩
 obtain⟨p,hp⟩:=get_of_lt c.parts ha
 obtain⟨q,hq⟩:=get_of_lt c.parts hb
 rw[clashB_at hp hq] at k
 rw[clashB_at (narrow_at hp) (narrow_at hq)]
 simp only[clashP,feetB,Bool.and_eq_true,Bool.or_eq_true,decide_eq_true_eq,bne_iff_ne] at k ⊢
 obtain⟨k1,k2⟩:=k
 have lo:∀r:Prt,r.span.low≤(narrowP low high id r).span.low:=fun r=>by simp only[narrowP];split<;>omega
 have hi:∀r:Prt,(narrowP low high id r).span.high≤r.span.high:=fun r=>by simp only[narrowP];split<;>omega
 have ft:∀r:Prt,(narrowP low high id r).foot=r.foot:=fun r=>rfl
 have lo':∀(r:Prt) (j:Nat),r.span.low≤(if i=j then narrowP low high id r else r).span.low:=fun r j=>by
  split
  ·exact lo r
  ·exact Int.le_refl _
 have hi':∀(r:Prt) (j:Nat),(if i=j then narrowP low high id r else r).span.high≤r.span.high:=fun r j=>by
  split
  ·exact hi r
  ·exact Int.le_refl _
 have ft':∀(r:Prt) (j:Nat),(if i=j then narrowP low high id r else r).foot=r.foot:=fun r j=>by split<;>rfl
 rw[ft',ft']
 refine⟨k1,?_⟩
 have l1:=lo' p a
 have l2:=lo' q b
 have u1:=hi' p a
 have u2:=hi' q b
 rcases k2 with (k2|k2)|k2
 ·exact .inl (.inl k2)
 ·exact .inl (.inr (by omega))
 ·exact .inr (by omega)
theorem ans_congr {c:Cs}{a b a' b':Nat}(ha:a<c.parts.length)(hb:b<c.parts.length)(ha':a'<c.parts.length)(hb':b'<c.parts.length)(h:∀x,Reas c x→(nth x a=nth x b↔nth x a'=nth x b')):ansAt c a b=ansAt c a' b':=by
 have h1:togB c.parts.length (allR c) a b=togB c.parts.length (allR c) a' b':=by
  rw[Bool.eq_iff_iff,tog_iff ha hb,tog_iff ha' hb']
  exact⟨fun⟨x,hx,e⟩=>⟨x,hx,(h x hx).1 e⟩,fun⟨x,hx,e⟩=>⟨x,hx,(h x hx).2 e⟩⟩
 have h2:aptB c.parts.length (allR c) a b=aptB c.parts.length (allR c) a' b':=by
  rw[Bool.eq_iff_iff,apt_iff ha hb,apt_iff ha' hb']
  exact⟨fun⟨x,hx,e⟩=>⟨x,hx,fun k=>e ((h x hx).2 k)⟩,fun⟨x,hx,e⟩=>⟨x,hx,fun k=>e ((h x hx).1 k)⟩⟩
 rw[ans_iff,ans_iff,h1,h2]
theorem ans_symm {c:Cs}{a b:Nat}(ha:a<c.parts.length)(hb:b<c.parts.length):ansAt c a b=ansAt c b a:=ans_congr ha hb hb ha fun _ _=>⟨fun e=>e.symm,fun e=>e.symm⟩
theorem with_isSome {c:Cs}{a b:Nat}{t:Bool}(ha:a<c.parts.length)(hb:b<c.parts.length):((allR c).find? (asPair a b t)).isSome=if t then togB c.parts.length (allR c) a b else aptB c.parts.length (allR c) a b:=by
 rw[Bool.eq_iff_iff,List.find?_isSome]
 have key:∀x,Reas c x→(asPair a b t x=true↔(nth x a==nth x b)=t):=fun x hx=>by
  rw[asPair,nth_eq' (by rw[hx.len];exact ha) (by rw[hx.len];exact hb),beq_iff_eq]
 cases t
 ·simp only[Bool.false_eq_true,if_false]
  rw[apt_iff ha hb]
  exact⟨fun⟨x,hx,e⟩=>⟨x,mem_allR.1 hx,by simpa using(key x (mem_allR.1 hx)).1 e⟩,fun⟨x,hx,e⟩=>⟨x,mem_allR.2 hx,(key x hx).2 (by simpa using e)⟩⟩
 ·simp only[if_true]
  rw[tog_iff ha hb]
  exact⟨fun⟨x,hx,e⟩=>⟨x,mem_allR.1 hx,by simpa using(key x (mem_allR.1 hx)).1 e⟩,fun⟨x,hx,e⟩=>⟨x,mem_allR.2 hx,(key x hx).2 (by simpa using e)⟩⟩
end Go.Proofs.YtjgldeeianionaaGreat
namespace Go.Proofs.YtjgldeeianionaaGreat
open Go.RowKit
def okAll (d:Cs):Bool:=d.parts.all fun q=>decide (q.span.low≤q.span.high)
theorem okAll_iff {d:Cs}:okAll d=true↔∀(a:Nat) q,d.parts[a]?=some q→q.span.low≤q.span.high:=by
 unfold okAll
 rw[List.all_eq_true]
 constructor
 ·intro h a q hq;simpa using h q (List.mem_of_getElem? hq)
 ·intro h q hq
  obtain⟨a,ha⟩:=List.mem_iff_getElem?.1 hq
  simpa using h a q ha
theorem narrow_len (d:Cs)(i:Nat)(lo hi id:Int):(narrowC d i lo hi id).parts.length=d.parts.length:=by simp[narrowC]
theorem narrow_worse {d:Cs}{i:Nat}{lo hi id:Int}(h:okAll (narrowC d i lo hi id)=true):okAll d=true:=by
 rw[okAll_iff] at h ⊢
 intro a q hq
 have h1:=h a _ (narrow_at (i:=i) (low:=lo) (high:=hi) (id:=id) hq)
 split at h1
 ·simp only[narrowP] at h1
  split at h1<;>split at h1<;>omega
 ·exact h1
theorem narrow_ok2 {d:Cs}{i:Nat}{lo hi id:Int}(h:okAll d=true)(h2:∀q,(narrowC d i lo hi id).parts[i]?=some q→q.span.low≤q.span.high):okAll (narrowC d i lo hi id)=true:=by
 rw[okAll_iff] at h ⊢
 intro a q hq
 by_cases ha:i=a
 ·subst ha;exact h2 q hq
 ·have hal:a<d.parts.length:=by
   have:=(List.getElem?_eq_some_iff.1 hq).1
   rwa [narrow_len] at this
  obtain⟨r,hr⟩:=get_of_lt d.parts hal
  have h1:=narrow_at (i:=i) (low:=lo) (high:=hi) (id:=id) hr
  rw[hq,if_neg ha] at h1
  cases h1
  exact h a q hr
theorem spanOf_at {d:Cs}{p:Prb}{q:Prt}(h:d.parts[p.part.toNat]?=some q):spanOf d p=q.span:=by simp[spanOf,h]
def narrowOf (c d:Cs)(p:Prb)(k:Nat):Cs:=narrowC d p.part.toNat (stepAt (spanOf c p) p.width k).1 (stepAt (spanOf c p) p.width k).2 p.id
theorem aftStep_eq (c d:Cs)(p:Prb)(k:Nat):aftStep c d p k=if(spanOf (narrowOf c d p k) p).low≤(spanOf (narrowOf c d p k) p).high then some (narrowOf c d p k) else none:=rfl
def refAft (c:Cs)(l:List Prb):List (Nat×Nat)→Cs→Cs
 |[],d=>d
 |(v,k)::xs,d=>match l[v]? with
  |none=>refAft c l xs d
  |some p=>refAft c l xs (narrowOf c d p k)
theorem refAft_len (c:Cs)(l:List Prb):∀(xs:List (Nat×Nat)) (d:Cs),(refAft c l xs d).parts.length=d.parts.length
 |[],d=>rfl
 |(v,k)::xs,d=>by
  rw[refAft]
  split
  ·exact refAft_len c l xs d
  ·rw[refAft_len c l xs _];exact narrow_len _ _ _ _ _
theorem refAft_worse {c:Cs}{l:List Prb}:∀(xs:List (Nat×Nat)) (d:Cs),okAll (refAft c l xs d)=true→okAll d=true
 |[],d,h=>h
 |(v,k)::xs,d,h=>by
  rw[refAft] at h
  split at h
  ·exact refAft_worse xs d h
  ·exact narrow_worse (refAft_worse xs _ h)
theorem aft_ref {c:Cs}{l:List Prb}:∀(xs:List (Nat×Nat)) (d:Cs),(∀x∈xs,∃p,l[x.1]?=some p∧p.part.toNat<d.parts.length)→okAll d=true →
 aftGo c l xs d=if okAll (refAft c l xs d) then some (refAft c l xs d) else none
 |[],d,_,h=>by rw[aftGo,refAft,if_pos h]
 |(v,k)::xs,d,hx,h=>by
  obtain⟨p,hp,hpl⟩:=hx (v,k) (by simp)
  dsimp only at hp
  rw[aftGo,refAft,hp]
  dsimp only
  rw[aftStep_eq]
  have hl:(narrowOf c d p k).parts.length=d.parts.length:=narrow_len _ _ _ _ _
  obtain⟨q,hq⟩:=get_of_lt (narrowOf c d p k).parts (k:=p.part.toNat) (by omega)
  by_cases h1:(spanOf (narrowOf c d p k) p).low≤(spanOf (narrowOf c d p k) p).high
  ·rw[if_pos h1]
   dsimp only
   have hok:okAll (narrowOf c d p k)=true:=narrow_ok2 h (fun r hr=>by
    have e:=spanOf_at hq
    unfold narrowOf at hq
    rw[hr] at hq;cases hq
    rw[←e];exact h1)
   exact aft_ref xs _ (fun x hx'=>by obtain⟨p',h2,h3⟩:=hx x (by simp[hx']);exact⟨p',h2,by omega⟩) hok
  ·rw[if_neg h1]
   dsimp only
   rw[if_neg]
   intro hok
   have h2:=okAll_iff.1 (refAft_worse xs _ hok) _ q hq
   rw[←spanOf_at hq] at h2
   exact h1 h2
theorem Tight.trans {a b c:Cs}(h:Tight a b)(k:Tight b c):Tight a c:=
 ⟨k.len.trans h.len,fun x y hx hy hc=>k.clash x y (by rw[h.len];exact hx) (by rw[h.len];exact hy) (h.clash x y hx hy hc),fun hl=>by
  obtain⟨h1,h2⟩:=h.lim hl
  obtain⟨k1,k2⟩:=k.lim h1
  exact⟨k1,Int.le_trans k2 h2⟩⟩
theorem Tight.self (a:Cs):Tight a a:=⟨rfl,fun _ _ _ _ h=>h,fun h=>⟨h,Int.le_refl _⟩⟩
structure AftOk (c d:Cs):Prop where
 chk:checkCase d=0
 len:d.parts.length=c.parts.length
 tight:Tight c d
theorem span_ok {c:Cs}{p:Prb}(hc:checkCase c=0)(h0:0≤p.part)(h1:p.part≤(c.parts.length:Int)-1):0≤(spanOf c p).low∧(spanOf c p).low≤(spanOf c p).high∧(spanOf c p).high≤1000:=by
 obtain⟨q,hq⟩:=get_of_lt c.parts (k:=p.part.toNat) (by omega)
 rw[spanOf_at hq]
 exact okSpn_of ((check_okCase hc).2.2.1 q (List.mem_of_getElem? hq))
theorem aftGo_ok {c:Cs}{l:List Prb}(hp:probesErr c l=0):∀(xs:List (Nat×Nat)) (d e:Cs),AftOk c d→aftGo c l xs d=some e→AftOk c e
 |[],d,e,h,he=>by rw[aftGo] at he;cases he;exact h
 |(v,k)::xs,d,e,h,he=>by
  obtain⟨hc,_,hall⟩:=probes_ok hp
  rw[aftGo] at he
  split at he
  ·cases he
  ·rename_i p hv
   obtain⟨hr,hpt,_⟩:=hall p (List.mem_of_getElem? hv)
   have rv:=right_vals hr
   rw[aftStep_eq] at he
   have hl:=h.len
   obtain⟨q,hq⟩:=get_of_lt d.parts (k:=p.part.toNat) (by omega)
   have hs:=span_ok hc hpt.1 hpt.2
   split at he
   ·cases he
   ·rename_i e' hst
    split at hst
    ·rename_i h1
     cases hst
     have hn:=narrow_at (i:=p.part.toNat) (low:=(stepAt (spanOf c p) p.width k).1) (high:=(stepAt (spanOf c p) p.width k).2) (id:=p.id) hq
     rw[if_pos rfl] at hn
     have h2:=spanOf_at (d:=narrowOf c d p k) hn
     rw[h2] at h1
     refine aftGo_ok hp xs _ e ⟨narrow_check h.chk hq ?_ ?_ rv.1 h1,(narrow_len _ _ _ _ _).trans hl,h.tight.trans (narrow_tight _ _ _ _ _)⟩ he
     ·have:(0:Int)≤(k:Int)*p.width:=Int.mul_nonneg (by omega) (by omega)
      simp only[stepAt];omega
     ·simp only[stepAt];omega
    ·cases hst
theorem after_ok {c d:Cs}{l:List Prb}{set fs:List Nat}(hp:probesErr c l=0)(h:afterC c l set fs=some d):AftOk c d:=
 aftGo_ok hp _ c d ⟨(probes_ok hp).1,rfl,Tight.self c⟩ h
theorem mem_outGo:∀(ns pre x:List Nat),x∈outGo ns pre↔∃y,x=pre++y∧y.length=ns.length∧∀(i n f:Nat),ns[i]?=some n→y[i]?=some f→f<n
 |[],pre,x=>by
  simp only[outGo,List.mem_singleton]
  constructor
  ·rintro rfl;exact⟨[],by simp,rfl,fun i n f h=>by simp at h⟩
  ·rintro⟨y,rfl,hl,_⟩
   have:y=[]:=List.eq_nil_of_length_eq_zero (by simpa using hl)
   simp[this]
 |m::ns,pre,x=>by
  simp only[outGo,List.mem_flatMap,List.mem_range]
  constructor
  ·rintro⟨k,hk,hx⟩
   obtain⟨y,rfl,hl,hy⟩:=(mem_outGo ns _ x).1 hx
   refine⟨k::y,by simp,by simp[hl],fun i n f h1 h2=>?_⟩
   rcases i with _|i
   ·simp at h1 h2;omega
   ·exact hy i n f (by simpa using h1) (by simpa using h2)
  ·rintro⟨y,rfl,hl,hy⟩
   rcases y with _|⟨k,y⟩
   ·simp at hl
   ·exact⟨k,hy 0 m k rfl rfl,(mem_outGo ns _ _).2 ⟨y,by simp,by simpa using hl,fun i n f h1 h2=>hy (i+1) n f (by simpa using h1) (by simpa using h2)⟩⟩
def FoundFor (c:Cs)(l:List Prb)(s x:List Nat):Prop:=x.length=s.length∧∀(i v:Nat),s[i]?=some v→∃(p:Prb) (f:Nat),l[v]?=some p∧x[i]?=some f∧f<cntN (spanOf c p) p.width
theorem mem_outs {c:Cs}{l:List Prb}{s x:List Nat}(hs:∀v∈s,v<l.length):x∈outsOf (cntsOf c l s)↔FoundFor c l s x:=by
 unfold outsOf
 rw[mem_outGo]
 constructor
 ·rintro⟨y,hx,hl,hy⟩
  simp only[List.nil_append] at hx
  subst hx
  have hl':x.length=s.length:=by simpa[cntsOf] using hl
  refine⟨hl',fun i v hv=>?_⟩
  have hi:i<x.length:=by rw[hl'];exact(List.getElem?_eq_some_iff.1 hv).1
  obtain⟨p,hp⟩:∃p,l[v]?=some p:=⟨l[v]'(hs v (List.mem_of_getElem? hv)),by simp[hs v (List.mem_of_getElem? hv)]⟩
  refine⟨p,x[i],hp,by simp[hi],?_⟩
  exact hy i _ _ (by simp[cntsOf,hv,hp]) (by simp[hi])
 ·rintro⟨hl,hx⟩
  refine⟨x,rfl,by simpa[cntsOf] using hl,fun i n f h1 h2=>?_⟩
  obtain⟨v,hv⟩:∃v,s[i]?=some v:=by
   have hi:i<s.length:=by rw[←hl];exact(List.getElem?_eq_some_iff.1 h2).1
   exact⟨s[i],by simp[hi]⟩
  obtain⟨p,g,hp,hg,hlt⟩:=hx i v hv
  rw[h2] at hg;cases hg
  simp[cntsOf,hv,hp] at h1
  omega
theorem canC_ok {c d:Cs}{l:List Prb}{s x:List Nat}(hp:probesErr c l=0)(h:canC c l s x=some d):AftOk c d∧(allR d).isEmpty=false∧afterC c l s x=some d:=by
 unfold canC at h
 split at h
 ·rename_i d' ha
  split at h
  ·cases h
  ·rename_i hne
   cases h
   exact⟨after_ok hp ha,by simpa using hne,ha⟩
 ·cases h
theorem ask_two {d:Cs}(h:checkCase d=0)(hne:(allR d).isEmpty=false){a b:Nat}(ha:a<d.parts.length)(hb:b<d.parts.length):askErr d [(a:Int),(b:Int)]=0:=by
 have ho:openErr d [(a:Int),(b:Int)]=0:=by
  unfold openErr
  rw[if_pos h,if_pos]
  simp[inB];omega
 unfold askErr
 rw[if_pos ho,hne];simp
theorem find_at {α:Type}{f:α→Bool}{pre L:List α}{x:α}(h:(pre++[x]) <+: L)(hp:∀y∈pre,f y=false)(hx:f x=true):L.find? f=some x:=by
 obtain⟨r,rfl⟩:=h
 rw[List.append_assoc,List.find?_append,List.find?_eq_none.2 (fun y hy=>by simp[hp y hy])]
 simp[hx]
theorem doubt_at {c:Cs}{l:List Prb}{a b:Nat}{s x:List Nat}{pre:List (List Nat)}(h:(pre++[x]) <+: outsOf (cntsOf c l s))(hp:∀y∈pre,sureB c l a b s y=true)(hx:sureB c l a b s x=false):doubtOf c l a b s=some x:=
 find_at h (fun y hy=>by simp[hp y hy]) (by simp[hx])
theorem doubt_none {c:Cs}{l:List Prb}{a b:Nat}{s:List Nat}(hp:∀y∈outsOf (cntsOf c l s),sureB c l a b s y=true):doubtOf c l a b s=none:=by
 unfold doubtOf
 rw[List.find?_eq_none]
 intro y hy;simp[hp y hy]
theorem sure_none {c:Cs}{l:List Prb}{a b:Nat}{s x:List Nat}(h:canC c l s x=none):sureB c l a b s x=true:=by simp[sureB,h]
theorem sure_some {c d:Cs}{l:List Prb}{a b:Nat}{s x:List Nat}(h:canC c l s x=some d):sureB c l a b s x=(ansAt d a b != 3):=by simp[sureB,h]
theorem snoc_ind9 {α:Type}{P:List α→Prop}(h0:P [])(hs:∀l x,P l→P (l++[x]))(l:List α):P l:=by
 have h:∀m:List α,P m.reverse:=by
  intro m
  induction m with
  |nil=>exact h0
  |cons x m ih=>rw[List.reverse_cons];exact hs _ _ ih
 simpa using h l.reverse
def leastStep {α:Type}(cost:α→Int)(wanted:α→Bool)(o:Option α)(x:α):Option α:=
 if(match o with|none=>true|some b=>decide (cost x<cost b))&&wanted x then some x else o
def leastOf {α:Type}(cost:α→Int)(wanted:α→Bool)(l:List α):Option α:=l.foldl (leastStep cost wanted) none
theorem leastOf_snoc {α:Type}(cost:α→Int)(wanted:α→Bool)(l:List α)(x:α):leastOf cost wanted (l++[x])=leastStep cost wanted (leastOf cost wanted l) x:=by simp[leastOf,List.foldl_append]
theorem leastOf_some {α:Type}{cost:α→Int}{wanted:α→Bool}:∀(l:List α),(∀b,leastOf cost wanted l=some b→b∈l∧wanted b=true∧∀x∈l,wanted x=true→cost b≤cost x)∧(leastOf cost wanted l=none→∀x∈l,wanted x=false):=by
 refine snoc_ind9 ⟨fun b h=>by simp[leastOf] at h,fun _ x hx=>by simp at hx⟩ (fun l y ih=>?_)
 rw[leastOf_snoc]
 obtain⟨ih1,ih2⟩:=ih
 rcases ho:leastOf cost wanted l with _|b
 ·have h0:=ih2 ho
  unfold leastStep
  rcases hw:wanted y with _|_
  ·simp only[Bool.and_false,Bool.false_eq_true,if_false]
   refine⟨fun b h=>by simp at h,fun _ x hx=>?_⟩
   rcases List.mem_append.1 hx with h|h
   ·exact h0 x h
   ·rw[List.mem_singleton.1 h];exact hw
  ·simp only[Bool.and_self,if_true]
   refine⟨fun b h=>?_,fun h=>by simp at h⟩
   cases h
   refine⟨by simp,hw,fun x hx hwx=>?_⟩
   rcases List.mem_append.1 hx with h|h
   ·rw[h0 x h] at hwx;cases hwx
   ·rw[List.mem_singleton.1 h];exact Int.le_refl _
 ·obtain⟨h1,h2,h3⟩:=ih1 b ho
  unfold leastStep
  by_cases hc:cost y<cost b
  ·rcases hw:wanted y with _|_
   ·simp only[Bool.and_false,Bool.false_eq_true,if_false]
    refine⟨fun b' h=>?_,fun h=>by simp at h⟩
    cases h
    refine⟨List.mem_append_left _ h1,h2,fun x hx hwx=>?_⟩
    rcases List.mem_append.1 hx with h|h
    ·exact h3 x h hwx
    ·rw[List.mem_singleton.1 h,hw] at hwx;cases hwx
   ·simp only[hc,decide_true,Bool.and_self,if_true]
    refine⟨fun b' h=>?_,fun h=>by simp at h⟩
    cases h
    refine⟨by simp,hw,fun x hx hwx=>?_⟩
    rcases List.mem_append.1 hx with h|h
    ·have:=h3 x h hwx;omega
    ·rw[List.mem_singleton.1 h];exact Int.le_refl _
  ·simp only[hc,decide_false,Bool.false_and,Bool.false_eq_true,if_false]
   refine⟨fun b' h=>?_,fun h=>by simp at h⟩
   cases h
   refine⟨List.mem_append_left _ h1,h2,fun x hx hwx=>?_⟩
   rcases List.mem_append.1 hx with h|h
   ·exact h3 x h hwx
   ·rw[List.mem_singleton.1 h];omega
def cheapestOf (c:Cs)(l:List Prb)(a b:Nat):Option (List Nat):=leastOf (costOf l) (decidesB c l a b) (setsOf l.length)
def isInB (s t:List Nat):Bool:=s.all fun x=>t.contains x
def belowOf (l:List Prb)(n:Int):List (List Nat):=(setsOf l.length).filter fun s=>decide (costOf l s<n)
def proofAll (c:Cs)(l:List Prb)(a b:Nat):List (List Nat):=match cheapestOf c l a b with|some p=>belowOf l (costOf l p)|none=>setsOf l.length
def proofSets (c:Cs)(l:List Prb)(a b:Nat):List (List Nat):=(proofAll c l a b).filter fun s=>!((proofAll c l a b).any fun o=>decide (s.length<o.length)&&isInB s o)
def bestOf (c:Cs)(l:List Prb):Option ((Nat×Nat)×List Nat):=
 leastOf (fun x=>costOf l x.2) (fun _=>true) ((openOf c).filterMap fun p=>(cheapestOf c l p.1 p.2).map fun s=>(p,s))
end Go.Proofs.YtjgldeeianionaaGreat
