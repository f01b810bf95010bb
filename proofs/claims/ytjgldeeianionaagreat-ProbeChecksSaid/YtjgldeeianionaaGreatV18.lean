/- Walks and plain laws. No condition. -/
import Derived.Test.YtjgldeeianionaaGreatV16
import Derived.Test.YtjgldeeianionaaGreatV17
set_option maxHeartbeats 2000000
set_option maxRecDepth 100000
set_option linter.unusedSimpArgs false
set_option linter.unusedVariables false
namespace Go.Proofs.YtjgldeeianionaaGreat
open Go.RowKit
def OkExt (c:Cs):List Nat→List Nat→Prop
 |_,[]=>True
 |pre,v::e=>v≤manyOf pre∧freeB c pre v=true∧OkExt c (pre++[v]) e
theorem mem_allGo (c:Cs):∀(r:Nat) (pre x:List Nat),x∈allGo c r pre↔∃e,x=pre++e∧e.length=r∧OkExt c pre e
 |0,pre,x=>by
  simp only[allGo,List.mem_singleton];constructor
  ·rintro rfl;exact⟨[],by simp,rfl,trivial⟩
  ·rintro⟨e,rfl,he,_⟩;rw[List.eq_nil_of_length_eq_zero he];simp
 |r+1,pre,x=>by
  simp only[allGo,List.mem_flatMap,List.mem_range];constructor
  ·rintro⟨v,hv,h⟩
   split at h
   ·rename_i hf
    obtain⟨e,rfl,he,ho⟩:=(mem_allGo c r (pre++[v]) x).1 h;exact⟨v::e,by simp,by simp[he],zO,hf,ho⟩
   ·simp at h
  ·rintro⟨e,rfl,he,ho⟩
   rcases e with _|⟨v,e⟩
   ·simp at he
   ·obtain⟨h1,h2,h3⟩:=ho;refine⟨v,zO,?_⟩;rw[if_pos h2];exact(mem_allGo c r (pre++[v]) _).2 ⟨e,by simp,by simpa using he,h3⟩
theorem okExt_at {c:Cs}:∀{e pre:List Nat},OkExt c pre e↔∀i (h:i<e.length),e[i]≤manyOf (pre++e.take i)∧freeB c (pre++e.take i) e[i]=true
 |[],pre=>by simp[OkExt]
 |v::e,pre=>by
  simp only[OkExt];rw[okExt_at (e:=e) (pre:=pre++[v])];constructor
  ·rintro⟨h1,h2,h3⟩ i hi
   rcases i with _|i
   ·simpa using⟨h1,h2⟩
   ·have:=h3 i (by simpa using hi)
    simpa using this
  ·intro h;have h0:=h 0 zS;refine⟨by simpa using h0.1,by simpa using h0.2,fun i hi=>?_⟩;have:=h (i+1) (by simpa using hi)
   simpa using this
structure Reas (c:Cs) (x:List Nat):Prop where
 len:x.length=c.parts.length
 grow:∀i (h:i<x.length),x[i]≤manyOf (x.take i)
 apart:∀p q (hp:p<x.length) (hq:q<p),x[q]=x[p]→clashB c p q=false
 lim:∀v∈x,limB c v=true
theorem noClash_at {c:Cs}{x:List Nat}{i:Nat}(hi:i<x.length):noClash c (x.take i) x[i]=true↔∀q (hq:q<i),x[q]=x[i]→clashB c i q=false:=by
 unfold noClash;rw[upto_iff,List.length_take,Nat.min_eq_left zO];constructor
 ·intro h q hq e;have h1:=h q hq;rw[List.getElem?_take_of_lt hq,List.getElem?_eq_getElem zO] at h1
  simp[e] at h1
  exact h1
 ·intro h q hq;rw[List.getElem?_take_of_lt hq,List.getElem?_eq_getElem zO]
  by_cases e:x[q]=x[i]
  ·simp[e,h q hq e]
  ·simp[e]
theorem mem_allR {c:Cs}{x:List Nat}:x∈allR c↔Reas c x:=by
 unfold allR;rw[mem_allGo];constructor
 ·rintro⟨e,rfl,he,ho⟩;rw[okExt_at] at ho;simp only[List.nil_append] at ho ⊢;refine⟨he,fun i h=>(ho i h).1,fun p q hp hq=>?_,fun v hv=>?_⟩
  ·have:=(ho p hp).2;simp only[freeB,Bool.and_eq_true] at this;exact(noClash_at hp).1 this.2 q hq
  ·obtain⟨i,hi,rfl⟩:=List.getElem_of_mem hv;have:=(ho i hi).2;simp only[freeB,Bool.and_eq_true] at this;exact this.1
 ·intro h;refine⟨x,by simp,h.len,?_⟩;rw[okExt_at];intro i hi;simp only[List.nil_append,freeB,Bool.and_eq_true];exact⟨h.grow i hi,h.lim _ (List.getElem_mem hi),(noClash_at hi).2 fun q hq=>h.apart i q hi hq⟩
section
def EdgeB (d:Nat→Nat→Nat)(n a b:Nat):Prop:=a<n∧b<n∧d a b &&& 1≠0
inductive Conn (d:Nat→Nat→Nat) (n:Nat):Nat→Nat→Prop
 |refl (a:Nat):Conn d n a a
 |step {a b c:Nat} (h:EdgeB d n a b) (r:Conn d n b c):Conn d n a c
def SymD (d:Nat→Nat→Nat):Prop:=∀a b,d a b=d b a
section
variable {d:Nat→Nat→Nat}{n:Nat}
theorem EdgeB.symm (hs:SymD d){a b:Nat}(h:EdgeB d n a b):EdgeB d n b a:=⟨h.2.1,h.1,by rw[hs b a];exact h.2.2⟩
theorem Conn.one {a b:Nat}(h:EdgeB d n a b):Conn d n a b:=.step h (.refl _)
theorem Conn.trans {a b c:Nat}(h:Conn d n a b)(k:Conn d n b c):Conn d n a c:=by
 induction h with
 |refl=>exact k
 |step e _ ih=>exact .step e (ih k)
theorem Conn.symm (hs:SymD d){a b:Nat}(h:Conn d n a b):Conn d n b a:=by
 induction h with
 |refl=>exact .refl _
 |step e _ ih=>exact ih.trans (.one (e.symm hs))
theorem step_conn (hs:SymD d){f:Nat→Nat}(hf:∀i,Conn d n i (f i)){x y:Nat}(hx:x<n)(hy:y<n):∀i,Conn d n i (stepOf d f x y i):=by
 intro i;unfold stepOf
 split
 ·rename_i he
  have e:EdgeB d n x y:=⟨hx,hy,he⟩
  simp only[upd]
  split
  ·rename_i h;subst h
   rcases Nat.le_total (f x) (f i) with h1|h1
   ·rw[Nat.min_eq_left h1];exact .step (e.symm hs) (hf x)
   ·rw[Nat.min_eq_right h1];exact hf i
  ·split
   ·rename_i h;subst h
    rcases Nat.le_total (f i) (f y) with h1|h1
    ·rw[Nat.min_eq_left h1];exact hf i
    ·rw[Nat.min_eq_right h1];exact .step e (hf y)
   ·exact hf i
 ·exact hf i
theorem row_conn (hs:SymD d){f:Nat→Nat}(hf:∀i,Conn d n i (f i)){x:Nat}(hx:x<n):∀y,y≤n→∀i,Conn d n i (rowP d x f y i)
 |0,_=>hf
 |y+1,hy=>step_conn hs (row_conn hs hf hx y zO) hx zO
theorem pass_conn (hs:SymD d){f:Nat→Nat}(hf:∀i,Conn d n i (f i)):∀x,x≤n→∀i,Conn d n i (passP d n f x i)
 |0,_=>hf
 |x+1,hx=>row_conn hs (pass_conn hs hf x zO) zO n (Nat.le_refl _)
theorem go_conn (hs:SymD d):∀k i,Conn d n i (clsGo d n k i)
 |0,i=>.refl i
 |k+1,i=>pass_conn hs (go_conn hs k) n (Nat.le_refl _) i
theorem rowP_anti (d:Nat→Nat→Nat)(x:Nat)(f:Nat→Nat){y z:Nat}(h:y≤z):Low (rowP d x f z) (rowP d x f y):=by
 obtain⟨j,rfl⟩:=Nat.exists_eq_add_of_le h
 induction j with
 |zero=>exact Low.refl _
 |succ j ih=>exact(stepOf_low d _ x (y+j)).trans (ih zO)
theorem passP_anti (d:Nat→Nat→Nat)(n:Nat)(f:Nat→Nat){x z:Nat}(h:x≤z):Low (passP d n f z) (passP d n f x):=by
 obtain⟨j,rfl⟩:=Nat.exists_eq_add_of_le h
 induction j with
 |zero=>exact Low.refl _
 |succ j ih=>exact(rowP_low d (x+j) _ n).trans (ih zO)
theorem pass_edge (hn:n≤8){F:Nat→Nat}(hF:∀i,i<8→passP d n F n i=F i){x y:Nat}(e:EdgeB d n x y):F x=F y:=by
 obtain⟨hx,hy,he⟩:=e;have lo:∀j,j≤n→∀i,i<8→rowP d x (passP d n F x) j i=F i:=fun j hj i hi=>by
  have h1:=(rowP_low d x (passP d n F x) j).trans (passP_low d n F x) i;have h2:Low (passP d n F n) (rowP d x (passP d n F x) j):=(passP_anti d n F (show x+1≤n by omega)).trans (rowP_anti d x _ hj);have h3:=h2 i;rw[hF i hi] at h3
  omega
 have h1:=lo (y+1) zO;have h0:=lo y zO;have hx1:=h1 x zO;have hy1:=h1 y zO;have e1:rowP d x (passP d n F x) (y+1)=stepOf d (rowP d x (passP d n F x) y) x y:=rfl;rw[e1] at hx1 hy1;unfold stepOf at hx1 hy1;rw[if_pos he] at hx1 hy1;simp only[upd,if_true,h0 x zO,h0 y zO] at hx1 hy1
 split at hx1
 ·rename_i h;rw[h]
 ·omega
theorem cls_fixed (hn:n≤8):∀i,i<8→passP d n (clsOf d n) n i=clsOf d n i:=by
 by_cases h:∃j,j<29∧ofCells (clsGo d n (j+1))=ofCells (clsGo d n j)
 ·obtain⟨j,hj,he⟩:=h;have h1:=of_ext he;have h2:∀i,i<8→clsOf d n i=clsGo d n j i:=fun i hi=>cls_stay hn h1 60 zO i hi
  intro i hi;rw[passP_congr d hn h2 n (Nat.le_refl _) i hi,h2 i hi];exact h1 i (by simpa using hi)
 ·have:=cls_done (d:=d) hn 29 (fun j hj he=>h ⟨j,hj,he⟩)
  omega
theorem cls_iff (hn:n≤8)(hs:SymD d){a b:Nat}:clsOf d n a=clsOf d n b↔Conn d n a b:=by
 constructor
 ·intro h;have h1:=go_conn (n:=n) hs 60 a
  have h2:=go_conn (n:=n) hs 60 b
  change clsGo d n 60 a=clsGo d n 60 b at h
  rw[h] at h1;exact h1.trans (h2.symm hs)
 ·intro h
  induction h with
  |refl=>rfl
  |step e _ ih=>exact(pass_edge hn (cls_fixed hn) e).trans ih
theorem Conn.widen {m:Nat}(hm:n≤m){a b:Nat}(h:Conn d n a b):Conn d m a b:=by
 induction h with
 |refl=>exact .refl _
 |step e _ ih=>exact .step ⟨by have:=e.1;omega,by have:=e.2.1;omega,e.2.2⟩ ih
theorem Conn.narrow {m:Nat}(hd:∀a b,d a b &&& 1≠0→a<n∧b<n){a b:Nat}(h:Conn d m a b):Conn d n a b:=by
 induction h with
 |refl=>exact .refl _
 |step e _ ih=>exact .step ⟨(hd _ _ e.2.2).1,(hd _ _ e.2.2).2,e.2.2⟩ ih
end
end
section
theorem nodup_le {α:Type}[BEq α][LawfulBEq α]:∀{l m:List α},l.Nodup→(∀a∈l,a∈m)→l.length≤m.length
 |[],_,_,_=>Nat.zero_le _
 |a::l,m,h,hs=>by
  have ha:=hs a List.mem_cons_self;have h1:=List.nodup_cons.1 h;have h2:=nodup_le (l:=l) (m:=m.erase a) h1.2 (fun b hb=>(List.mem_erase_of_ne (fun e=>by subst e;exact h1.1 hb)).2 (hs b (List.mem_cons_of_mem _ hb)));rw[List.length_erase_of_mem ha] at h2;have:=List.length_pos_of_mem ha;simp only[List.length_cons];omega
structure GoodZ (c:Cs) (n:Nat) (z:Nat→Nat):Prop where
 clash:∀p q,p<n→q<n→clashB c p q=true→z p≠z q
 lim:0<c.limit→∀ps:List Nat,(∀p∈ps,p<n)→ps.Pairwise (fun p q=>z p≠z q)→(ps.length:Int)≤c.limit
theorem clashB_ne {c:Cs}{p q:Nat}(h:clashB c p q=true):p≠q:=by
 intro e;subst e;unfold clashB at h
 rcases hp:c.parts[p]? with _|a
 ·simp[hp] at h
 ·simp[hp,clashP] at h
theorem clashB_sym (c:Cs)(x y:Nat):clashB c x y=clashB c y x:=by
 unfold clashB
 rcases c.parts[x]? with _|p<;>rcases c.parts[y]? with _|q<;>try rfl
 simp only[clashP,feetB];rw[Bool.eq_iff_iff]
 simp
 grind
theorem pairwise_nodup {ps:List Nat}{z:Nat→Nat}(h:ps.Pairwise (fun p q=>z p≠z q)):(ps.map z).Nodup:=by
 rw[List.Nodup,List.pairwise_map];exact h
theorem Reas.good {c:Cs}{x:List Nat}(h:Reas c x):GoodZ c c.parts.length (fun a=>x[a]?.getD 0):=by
 refine⟨fun p q hp hq hc e=>?_,fun hl ps hps hpw=>?_⟩
 ·have hne:=clashB_ne hc;rw[List.getElem?_eq_getElem (by rw[h.len];exact hp),List.getElem?_eq_getElem (by rw[h.len];exact hq)] at e;simp only[Option.getD_some] at e
  rcases Nat.lt_or_ge q p with h1|h1
  ·have:=h.apart p q (by rw[h.len];exact hp) h1 e.symm;rw[hc] at this;cases this
  ·have:=h.apart q p (by rw[h.len];exact hq) zO e;rw[clashB_sym,hc] at this;cases this
 ·have h1:=nodup_le (m:=List.range c.limit.toNat) (pairwise_nodup hpw) (fun v hv=>by
   simp only[List.mem_map] at hv;obtain⟨p,hp,rfl⟩:=hv;have hp':=hps p hp;rw[List.getElem?_eq_getElem (by rw[h.len];exact hp')];have:=h.lim _ (List.getElem_mem (l:=x) (n:=p) (by rw[h.len];exact hp'))
   simp[limB] at this
   simp;omega)
  simp at h1
  omega
section
variable {c:Cs}{d:Dec}{n:Nat}{z:Nat→Nat}
def Opp (c:Cs)(d:Dec)(n x y:Nat):Prop:=∃p q,p<n∧q<n∧Conn d n p x∧Conn d n q y∧(clashB c p q=true∨d p q &&& 2≠0)
theorem mem_cls (hn:n≤8)(hs:SymD d){p x:Nat}:p∈clsList d n x n↔p<n∧Conn d n p x:=by
 simp only[clsList,List.mem_filter,List.mem_range,beq_iff_eq,cls_iff hn hs]
theorem opp_iff (hn:n≤8)(hs:SymD d){x y:Nat}:oppB c d n x y=true↔Opp c d n x y:=by
 simp only[oppB,rivalsOf,List.find?_isSome,List.mem_flatMap,List.mem_map,oppF,apartB,Bool.or_eq_true,bne_iff_ne];constructor
 ·rintro⟨_,⟨p,hp,q,hq,rfl⟩,h⟩;obtain⟨p1,p2⟩:=(mem_cls hn hs).1 hp;obtain⟨q1,q2⟩:=(mem_cls hn hs).1 hq;exact⟨p,q,p1,q1,p2,q2,h⟩
 ·rintro⟨p,q,p1,q1,p2,q2,h⟩;exact⟨(p,q),⟨p,(mem_cls hn hs).2 ⟨p1,p2⟩,q,(mem_cls hn hs).2 ⟨q1,q2⟩,rfl⟩,h⟩
theorem decWith_eq (hs:SymD d)(x y w a b:Nat):decWith d x y w a b=if(a=x∧b=y)∨(a=y∧b=x) then d a b ||| w else d a b:=by
 unfold decWith;simp only[decOr]
 by_cases h1:a=y∧b=x
 ·obtain⟨rfl,rfl⟩:=h1;simp only[and_self,or_true,if_true]
  split
  ·rename_i h;obtain⟨rfl,_⟩:=h
   rw[Nat.or_assoc,Nat.or_self]
  ·rfl
 ·rw[if_neg h1]
  by_cases h2:a=x∧b=y
  ·rw[if_pos h2,if_pos (.inl h2),h2.1,h2.2]
  ·rw[if_neg h2,if_neg (fun h=>h.elim h2 h1)]
theorem decWith_sym (hs:SymD d)(x y w:Nat):SymD (decWith d x y w):=fun a b=>by
 rw[decWith_eq hs,decWith_eq hs,hs a b]
 by_cases h:(a=x∧b=y)∨(a=y∧b=x)
 ·rw[if_pos h,if_pos (by rcases h with ⟨h1,h2⟩|⟨h1,h2⟩<;>simp[h1,h2])]
 ·rw[if_neg h,if_neg (fun k=>h (by rcases k with ⟨h1,h2⟩|⟨h1,h2⟩<;>simp[h1,h2]))]
end
theorem zero_sym:SymD (fun _ _=>0):=fun _ _=>rfl
end
def fitsB (c:Cs)(l:List Int):Bool:=(allR c).any fun x=>natInts x==l
theorem fitsB_iff {c:Cs}{l:List Int}:fitsB c l=true↔∃x,Reas c x∧natInts x=l:=by
 simp only[fitsB,List.any_eq_true,beq_iff_eq];exact⟨fun⟨x,h,e⟩=>⟨x,mem_allR.1 h,e⟩,fun⟨x,h,e⟩=>⟨x,mem_allR.2 h,e⟩⟩
theorem manyOf_le_iff {m:Nat}:∀{x:List Nat},manyOf x≤m↔∀v∈x,v+1≤m:=by
 intro x;have h:∀(x:List Nat) (a:Nat),x.foldl (fun m v=>max m (v+1)) a≤m↔a≤m∧∀v∈x,v+1≤m:=by
  intro x
  induction x with
  |nil=>intro a;simp
  |cons v x ih=>
   intro a;rw[List.foldl_cons,ih];simp only[List.mem_cons,forall_eq_or_imp,Nat.max_le,and_assoc]
 rw[manyOf,h]
 simp
theorem natInts_inj {x y:List Nat}(h:natInts x=natInts y):x=y:=by
 induction x generalizing y with
 |nil=>cases y with
  |nil=>rfl
  |cons b y=>simp[natInts] at h
 |cons a x ih=>cases y with
  |nil=>simp[natInts] at h
  |cons b y=>
   simp only[natInts,List.map_cons,List.cons.injEq] at h;rw[ih (y:=y) h.2]
   congr 1
   omega
structure FitTo (c:Cs) (l:List Int) (k:Nat) (pre:List Nat):Prop where
 eq:l.take k=natInts pre
 len:pre.length=k
 le:k≤c.parts.length
 grow:∀i (h:i<pre.length),pre[i]≤manyOf (pre.take i)
 apart:∀p q (hp:p<pre.length) (hq:q<p),pre[q]=pre[p]→clashB c p q=false
theorem FitTo.nil (c:Cs)(l:List Int):FitTo c l 0 []:=⟨by simp[natInts],rfl,Nat.zero_le _,by simp,by simp⟩
theorem natInts_take (x:List Nat)(k:Nat):(natInts x).take k=natInts (x.take k):=by simp[natInts,List.map_take]
theorem FitTo.pre_eq {c:Cs}{l:List Int}{k:Nat}{pre:List Nat}(h:FitTo c l k pre){x:List Nat}(hx:natInts x=l):x.take k=pre:=by
 apply natInts_inj
 rw[←natInts_take,hx,h.eq]
theorem natInts_get {x:List Nat}{k:Nat}{v:Int}(h:(natInts x)[k]?=some v):∃u:Nat,x[k]?=some u∧v=u:=by
 simp only[natInts,List.getElem?_map,Option.map_eq_some_iff] at h;obtain⟨u,hu,rfl⟩:=h;exact⟨u,hu,rfl⟩
theorem FitTo.long {c:Cs}{l:List Int}{k:Nat}(hk:k<l.length)(hn:c.parts.length≤k):fitsB c l=false:=by
 rw[Bool.eq_false_iff];intro h;obtain⟨x,hx,rfl⟩:=fitsB_iff.1 h;have:=hx.len
 simp[natInts] at hk
 omega
theorem FitTo.out {c:Cs}{l:List Int}{k:Nat}{pre:List Nat}(h:FitTo c l k pre){v:Int}(hv:l[k]?=some v)(hb:inB v 0 (manyOf pre)=false):fitsB c l=false:=by
 rw[Bool.eq_false_iff];intro hf;obtain⟨x,hx,rfl⟩:=fitsB_iff.1 hf;have hp:=h.pre_eq rfl;obtain⟨u,hu,rfl⟩:=natInts_get hv;obtain⟨hk,hu⟩:=List.getElem?_eq_some_iff.1 hu;have:=hx.grow k hk;rw[hp,hu] at this
 simp[inB] at hb
 omega
theorem FitTo.clash {c:Cs}{l:List Int}{k q:Nat}{pre:List Nat}(h:FitTo c l k pre){v:Nat}(hv:l[k]?=some (v:Int))(hq:q<k)(hqv:pre[q]?=some v)(hc:clashB c k q=true):fitsB c l=false:=by
 rw[Bool.eq_false_iff];intro hf;obtain⟨x,hx,rfl⟩:=fitsB_iff.1 hf;have hp:=h.pre_eq rfl;obtain⟨u,hu,hvu⟩:=natInts_get hv;obtain⟨hk,hu⟩:=List.getElem?_eq_some_iff.1 hu;have h1:=hx.apart k q hk hq (by
  rw[←hp,List.getElem?_take_of_lt hq] at hqv;obtain⟨_,hqv⟩:=List.getElem?_eq_some_iff.1 hqv;rw[hqv,hu];omega)
 rw[hc] at h1;cases h1
theorem FitTo.step {c:Cs}{l:List Int}{k:Nat}{pre:List Nat}(h:FitTo c l k pre){v:Nat}(hv:l[k]?=some (v:Int))(hk:k<c.parts.length)(hb:v≤manyOf pre)(hc:∀q,q<k→pre[q]?=some v→clashB c k q=false):FitTo c l (k+1) (pre++[v]):=by
 refine⟨by rw[take_snoc hv,h.eq];simp[natInts],by simp[h.len],zO,fun i hi=>?_,fun p q hp hq e=>?_⟩
 ·rcases Nat.lt_or_ge i pre.length with hlt|hge
  ·rw[List.getElem_append_left hlt,List.take_append_of_le_length zO];exact h.grow i hlt
  ·have:i=pre.length:=by simp at hi;omega
   subst this
   simpa using hb
 ·rcases Nat.lt_or_ge p pre.length with hlt|hge
  ·rw[List.getElem_append_left hlt,List.getElem_append_left zO] at e;exact h.apart p q hlt hq e
  ·have:p=pre.length:=by simp at hp;omega
   subst this;rw[h.len] at hq ⊢;refine hc q hq ?_;rw[List.getElem?_eq_getElem (by rw[h.len];omega)];simp at e;rw[List.getElem_append_left (by rw[h.len];omega)] at e;rw[e]
theorem FitTo.done {c:Cs}{l:List Int}{k:Nat}{pre:List Nat}(h:FitTo c l k pre)(hk:¬k<l.length)(hl:0≤c.limit):fitsB c l=(((l.length:Int)==(c.parts.length:Int))&&((c.limit==0)||decide ((manyOf pre:Int)≤c.limit))):=by
 have he:natInts pre=l:=by rw[←h.eq,List.take_of_length_le zO]
 have hlen:l.length=pre.length:=by rw[←he];simp[natInts]
 rw[Bool.eq_iff_iff,fitsB_iff];simp only[Bool.and_eq_true,beq_iff_eq,Bool.or_eq_true,decide_eq_true_eq];have hlim:(∀v∈pre,limB c v=true)↔c.limit=0∨(manyOf pre:Int)≤c.limit:=by
  have h1:(manyOf pre:Int)≤c.limit↔manyOf pre≤c.limit.toNat:=by omega
  rw[h1,manyOf_le_iff];constructor
  ·intro h2
   by_cases h0:c.limit=0
   ·exact .inl h0
   ·refine .inr fun v hv=>?_
    have:=h2 v hv
    simp[limB] at this
    omega
  ·rintro (h0|h2) v hv
   ·simp[limB,h0]
   ·have:=h2 v hv
    simp[limB];omega
 constructor
 ·rintro⟨x,hx,hxe⟩;have:x=pre:=natInts_inj (hxe.trans he.symm);subst this;exact⟨by have:=hx.len;omega,hlim.1 hx.lim⟩
 ·rintro⟨h1,h2⟩;exact⟨pre,⟨zO,h.grow,h.apart,hlim.2 h2⟩,he⟩
def nth (x:List Nat)(a:Nat):Nat:=x[a]?.getD 0
theorem nth_get {x:List Nat}{a:Nat}(h:a<x.length):nth x a=x[a]:=by
 unfold nth;rw[List.getElem?_eq_getElem h];rfl
section
attribute [local go_sem] Oper.semAt_some
theorem neq_pair (a b c d:Int)(w:World):(binOp .neq 57 (.agg #[.int .i64 a,.int .i64 b]) (.agg #[.int .i64 c,.int .i64 d])).run Tryz.prog w = .ok (.bool (!(a==c&&b==d))) w:=by
 have hf:(Tryz.prog.fieldsOf 57).toList=[{name := "A",type:=3,offset:=0,embedded:=false,tag := "",pkgPath := "",byteOffset:=0},{name := "B",type:=3,offset:=1,embedded:=false,tag := "",pkgPath := "",byteOffset:=8}]:=by
  simp[Program.fieldsOf,Tryz.underlying57]
 have p1:∀(x y:Int) (W:World),(part 3 #[.int .i64 x,.int .i64 y] 0).run Tryz.prog W = .ok (.int .i64 x) W:=fun x y W=>run_part_plain W zK rfl
 have p2:∀(x y:Int) (W:World),(part 3 #[.int .i64 x,.int .i64 y] 1).run Tryz.prog W = .ok (.int .i64 y) W:=fun x y W=>run_part_plain W zK rfl
 have q:∀(x y:Int) (W:World),(Op.equalIn 9999 3 (.int .i64 x) (.int .i64 y)).run Tryz.prog W = .ok (x==y) W:=fun x y W=>run_equalIn_int W 9998 3 .i64 .i64 x y Tryz.underlying3
 rw[run_neq_struct,show(10000:Nat)=9999+1 from rfl,run_equalIn_struct w 9999 57 _ _ zK zK,hf];simp only[Op.eqFields,Sem.run_bind,Sem.run_ite,p1,p2,q,Result.andThen_ok]
 rcases h1:(a==c) with _|_<;>rcases h2:(b==d) with _|_<;>simp[Sem.run_pure,Result.andThen_ok]
theorem pairs_at {w:World}{a:Option Addr}{l:List (Nat×Nat)}(h:Row w a (pairCells l)){k:Nat}{p:Nat×Nat}(hp:l[k]?=some p):
 ∃b o,a=some ⟨b,o,none⟩∧w.cell? ⟨b,o+k*2,none⟩=some (.int .i64 p.1)∧w.cell? ⟨b,o+k*2+1,none⟩=some (.int .i64 p.2):=by
 have e:∀(l:List (Nat×Nat)) (k:Nat) (p:Nat×Nat),l[k]?=some p→(pairCells l)[k*2]?=some (.int .i64 p.1)∧(pairCells l)[k*2+1]?=some (.int .i64 p.2):=by
  intro l
  induction l with
  |nil=>intro k p h;simp at h
  |cons q l ih=>
   intro k p h
   rcases k with _|k
   ·simp at h;subst h;simp[pairCells]
   ·have:=ih k p (by simpa using h);rw[show(k+1)*2=k*2+1+1 by omega]
    simpa[pairCells] using this
 obtain⟨h1,h2⟩:=e l k p hp;obtain⟨b,o,rfl,c1⟩:=h _ _ h1;obtain⟨b',o',ha,c2⟩:=h _ _ h2;cases ha;exact⟨b,o,rfl,c1,by rw[Nat.add_assoc];exact c2⟩
theorem pair_take {l m:List (Nat×Nat)}{k:Nat}{x y:Nat×Nat}(hx:l[k]?=some x)(hy:m[k]?=some y)(h:l.take k=m.take k):(l.take (k+1)=m.take (k+1))↔x=y:=by
 rw[take_snoc hx,take_snoc hy,h];simp
theorem samePairs_ref (a b:Option Addr)(ca cb:Nat)(l m:List (Nat×Nat))(w:World)(ha:Row w a (pairCells l))(hb:Row w b (pairCells m))(hl:l.length≤1000000)(hm:m.length≤1000000):
 Calls Tryz.prog 23 #[.slice a l.length ca,.slice b m.length cb] w fun e w'=>e = .returned (.bool (decide (l=m)))∧Below w.heap.size w w':=by
 by_cases hlen:l.length=m.length
 ·have hlb:((l.length:Int) != (m.length:Int))=false:=by simp[hlen]
  have HL:=zh hlen;clear hlen
  go_enter Tryz.func23,Tryz.ntmps23
  go_wp2
  go_wp2
  go_loopw [5] (fun i wr=>∃k:Nat,k≤l.length∧i = .int .i64 k∧l.take k=m.take k∧Below w.heap.size w wr) (fun i _=>l.length-(intOf i).toNat)
  case atStart=>exact⟨0,Nat.zero_le _,rfl,by simp,Below.refl _ _⟩
  case round=>
   obtain⟨k,hk,rfl,hall,hB⟩:=hrel;have HA:=zh hall;have HB:=zh hB;clear hall
   by_cases hlt:k<l.length
   ·have hltm:k<m.length:=by have:=HL.out;omega
    obtain⟨x,hx⟩:=get_of_lt l hlt;obtain⟨y,hy⟩:=get_of_lt m hltm;obtain⟨b1,o1,rfl,c1,c2⟩:=pairs_at (ha.below hB) hx;obtain⟨b2,o2,rfl,c3,c4⟩:=pairs_at (hb.below hB) hy;have HX:=zh hx;have HY:=zh hy;have hki:(k:Int)<m.length:=by omega
    have hki':(k:Int)<l.length:=by omega
    have hnq:=fun W=>neq_pair (x.1:Int) (x.2:Int) (y.1:Int) (y.2:Int) W
    clear hx hy hB
    by_cases hxy:x=y
    ·rw[show(!(((x.1:Nat):Int)==((y.1:Nat):Int)&&((x.2:Nat):Int)==((y.2:Nat):Int)))=false by simp[hxy]] at hnq;have HXY:=zh hxy;clear hxy
     go_wp2_with fail
     go_quiet (fail)
     go_wp2_with fail
     go_roundw
     case rel=>exact⟨k+1,zO,zN,(pair_take HX.out HY.out HA.out).2 HXY.out,below_drewN HB.out _⟩
     case measure=>exact zJ
    ·rw[show(!(((x.1:Nat):Int)==((y.1:Nat):Int)&&((x.2:Nat):Int)==((y.2:Nat):Int)))=true by rw[Bool.not_eq_true',Bool.eq_false_iff];intro h;simp at h;exact hxy (Prod.ext zO zO)] at hnq;have HXY:=zh hxy;clear hxy
     go_wp2_with fail
     go_quiet (fail)
     go_wp2_with fail
     go_ret
     refine⟨ret_bool ?_,below_drewN HB.out _⟩
     symm
     simp only[decide_eq_false_iff_not];intro e;subst e;have:=HX.out.symm.trans HY.out;exact HXY.out (Option.some.inj this)
   ·clear hB
    go_wp2_with fail
    go_ret
    refine⟨ret_bool ?_,HB.out⟩;have h1:=HA.out;have h2:=HL.out;rw[List.take_of_length_le zO,List.take_of_length_le zO] at h1
    simp[h1]
 ·have hlb:((l.length:Int) != (m.length:Int))=true:=by simp;omega
  have HL:=zh hlen;clear hlen
  go_enter Tryz.func23,Tryz.ntmps23
  go_wp2
  go_ret
  exact⟨ret_bool (by symm;simp only[decide_eq_false_iff_not];exact fun e=>HL.out (by rw[e])),Below.refl _ _⟩
theorem PreOk.nil (c:Cs):PreOk c []:=fun p v hp=>by
 have:=List.prefix_nil.1 hp;simp at this
def AllPost (c:Cs)(w:World)(e:Ending)(w':World):Prop:=
 ∃v,e = .returned v∧RowsV w.heap.size (fun b=>w.heap.size≤b) w' v (allR c)∧Below w.heap.size w w'
theorem allTop_ref (c:Cs)(hn8:c.parts.length≤8)(hlim:0≤c.limit)(pa:Option Addr)(pc:Nat)(w:World)(hp:PartsAt w pa c.parts):
 Calls Tryz.prog 159 #[.agg #[.string c.ware,.int .i64 c.limit,.int .i64 c.by_,.slice pa c.parts.length pc]] w (AllPost c w):=by
 obtain⟨w1,hw1⟩:=zx (w.alloc (.cells #[.string c.ware,.int .i64 c.limit,.int .i64 c.by_,.slice pa c.parts.length pc] 24));have hB1:Below w.heap.size w w1:=by rw[←hw1];go_grown
 have b1:Box w1 w.heap.size (csCells c pa pc) 24:=by rw[←hw1];exact Box.new _ _ _
 have hs1:w1.heap.size=w.heap.size+1:=by rw[←hw1];simp
 have e1:=zC (b1);have hB2:Below w.heap.size w (w1.alloc (.cells #[] 3)):=hB1.alloc zO _;have hall:=all_ref c hn8 hlim pa pc c.parts.length [] (some ⟨w1.heap.size,0,none⟩) 0 (w1.alloc (.cells #[] 3)) zS (hp.below hB2) (Ints.nil _ _) (Nat.zero_le _) (PreOk.nil c);rw[List.length_nil] at hall;have HS:=zh hs1;have HW:=zh hw1;have HB2:=zh hB2;have HA:=zh hall;clear hall hB2 hs1 hw1 hB1 b1 hp
 go_enter Tryz.func159,Tryz.ntmps159
 go_upto_region 1 with fail
 simp only[HW.out]
 go_wp2_with (go_at_call 199;refine zM HA ?_;rintro e w3 ⟨v,rfl,hv,hb⟩;have HV:=zh hv;have HB3:=zh hb;clear hv hb)
 go_ret
 refine⟨v,rfl,HV.out.less (by simp;have:=HS.out;omega) (fun b hb=>?_),HB2.out.trans (HB3.out.mono HB2.out.size)⟩;have:=HS.out
 rcases hb with hb|⟨o,hb⟩
 ·simp at hb;omega
 ·cases hb;omega
theorem allGo_size (c:Cs):∀(r:Nat) (pre:List Nat),∀x∈allGo c r pre,x.length=pre.length+r
 |0,pre,x,h=>by simp[allGo] at h;subst h;rfl
 |r+1,pre,x,h=>by
  simp only[allGo,List.mem_flatMap] at h;obtain⟨v,_,h⟩:=h
  split at h
  ·have:=allGo_size c r (pre++[v]) x h;rw[this,List.length_append,List.length_singleton];omega
  ·simp at h
theorem allR_size {c:Cs}{x:List Nat}(h:x∈allR c):x.length=c.parts.length:=by
 have:=allGo_size c c.parts.length [] x h
 simpa using this
def LookPost (er:Int)(o:Option (List Nat))(w:World)(e:Ending)(w':World):Prop:=
 Below w.heap.size w w'∧((er≠0∧e = .returned (.tuple #[.slice none 0 0,.bool false,.int .i64 er]))∨(er=0∧o=none∧e = .returned (.tuple #[.slice none 0 0,.bool false,.int .i64 0])) ∨
  (er=0∧∃x a cap,o=some x∧e = .returned (.tuple #[.slice a x.length cap,.bool true,.int .i64 0])∧Ints w' a (natInts x)))
theorem any_at {α:Type}{l:List α}{k:Nat}{x:α}{p:α→Bool}(hx:l[k]?=some x)(hp:p x=true):l.any p=true:=by
 rw[List.any_eq_true];exact⟨x,List.mem_of_getElem? hx,hp⟩
theorem any_snoc {α:Type}{l:List α}{k:Nat}{x:α}{p:α→Bool}(hx:l[k]?=some x)(h:(l.take k).any p=false)(hp:p x=false):(l.take (k+1)).any p=false:=by
 rw[take_snoc hx,List.any_append,h];simp[hp]
theorem fits_ref (c:Cs)(hsm:c.Small)(pa:Option Addr)(pc:Nat)(na:Option Addr)(l:List Int)(nc:Nat)(hll:l.length≤1000000)(w:World)(hp:PartsAt w pa c.parts)(hi:Ints w na l):
 Calls Tryz.prog 94 #[.agg #[.string c.ware,.int .i64 c.limit,.int .i64 c.by_,.slice pa c.parts.length pc],.slice na l.length nc] w (BoolPost (checkCase c) (checkCase c==0&&fitsB c l) w):=by
 obtain⟨w1,hw1⟩:=zx (w.alloc (.cells #[.string c.ware,.int .i64 c.limit,.int .i64 c.by_,.slice pa c.parts.length pc] 24));have hB1:Below w.heap.size w w1:=by rw[←hw1];go_grown
 have b1:Box w1 w.heap.size (csCells c pa pc) 24:=by rw[←hw1];exact Box.new _ _ _
 have e1:=zC (b1);have hcc:=checkCase_ref c hsm pa pc w1 (hp.below hB1);have HP:=zh hp;have HI:=zh hi;have HW:=zh hw1;have HB1:=zh hB1;have HX:=zh b1;have HCC:=zh hcc;clear hw1 hB1 b1 hcc hp hi
 by_cases hz:checkCase c=0
 ·have h8:c.parts.length≤8:=check_small (ps:=[]) (by unfold openErr;rw[if_pos hz];rfl);have hlim:=check_lim hz;have hrl:=allR_len h8;have HZ:=zh hz;rw[hz] at HCC;clear hz;obtain⟨R,hR⟩:=zx (allR c);have hfb:fitsB c l=R.any fun x=>natInts x==l:=by rw[←hR];rfl
  rw[hR] at hrl;have HR:=zh hR;have HF:=zh hfb;clear hR hfb
  go_enter Tryz.func94,Tryz.ntmps94
  go_upto_region 1 with fail
  simp only[HW.out]
  go_wp2_with fail
  refine zM HCC ?_;rintro e w2 ⟨rfl,hb2⟩;have e2:=zC ((HX.out.below' hb2));have HB2:=zh (HB1.out.trans (hb2.mono HB1.out.size));have HAL:=zh (allTop_ref c h8 hlim.1 pa pc w2 (HP.out.below HB2.out));clear hb2 e1
  go_wp2_with fail
  refine zM HAL ?_;rintro e w3 ⟨v,rfl,hv,hb3⟩;rw[HR.out] at hv;have HV:=zh hv;obtain⟨ra,rcap,rfl,-⟩:=hv.at_;have HB3:=zh (HB2.out.trans (hb3.mono HB2.out.size));clear hb3 hv e2
  go_wp2_with fail
  go_loopw [8] (fun i wr=>∃k:Nat,k≤R.length∧i = .int .i64 k∧Hid ((R.take k).any (fun x=>natInts x==l)=false)∧Below w3.heap.size w3 wr) (fun i _=>R.length-(intOf i).toNat)
  case atStart=>exact⟨0,Nat.zero_le _,rfl,zh rfl,Below.refl _ _⟩
  case round=>
   obtain⟨k,hk,rfl,HNO,hb⟩:=hrel;have HB:=zh hb;clear hb
   by_cases hlt:k<R.length
   ·obtain⟨x,hx⟩:=get_of_lt R hlt;obtain⟨_,_,hva,hrd⟩:=(HV.out.below HB.out).at_
    injection hva with hva1 _ hva2
    subst hva1 hva2;obtain⟨rb,ro,la,lc,rfl,hc,hix,hic⟩:=hrd k x hx;have hxn:x.length≤1000000:=by
     have:=allR_size (c:=c) (x:=x) (by rw[HR.out];exact List.mem_of_getElem? hx)
     omega
    have hki:(k:Int)<(R.length:Int):=by omega
    have hsa:=same_ref la na lc nc (natInts x) l wr hix ((HI.out.below HB3.out).below HB.out) (by rw[natInts_len];exact hxn) hll;rw[natInts_len] at hsa;have HXX:=zh hx;clear hx hrd hix hic
    rcases hsm:decide (natInts x=l) with _|_
    ·rw[hsm] at hsa;have HSA:=zh hsa;have HNE:=zh (show(natInts x==l)=false by simpa using hsm);clear hsa hsm
     go_wp2_with (go_at_call 30;refine zM HSA ?_;rintro e w4 ⟨rfl,hb4⟩;have HB4:=zh (HB.out.trans (hb4.mono HB.out.size));clear hb4)
     go_roundw
     case rel=>exact⟨k+1,zO,zN,zh (any_snoc HXX.out HNO.out HNE.out),HB4.out⟩
     case measure=>exact zJ
    ·rw[hsm] at hsa;have HSA:=zh hsa;have HEQ:=zh (show(natInts x==l)=true by simpa using hsm);clear hsa hsm
     go_wp2_with (go_at_call 30;refine zM HSA ?_;rintro e w4 ⟨rfl,hb4⟩;have HB4:=zh (HB.out.trans (hb4.mono HB.out.size));clear hb4)
     go_ret2
     exact⟨HB3.out.trans (HB4.out.mono HB3.out.size),by rw[HZ.out,HF.out,any_at (p:=fun x=>natInts x==l) HXX.out HEQ.out];rfl⟩
   ·go_wp2_with fail
    go_ret2
    refine⟨HB3.out.trans (HB.out.mono HB3.out.size),?_⟩;have h1:=HNO.out;rw[List.take_of_length_le zO] at h1;rw[HZ.out,HF.out,h1];rfl
 ·have hzz:(checkCase c != 0)=true:=by simpa using hz
  have HZ:=zh hz;clear hz
  go_enter Tryz.func94,Tryz.ntmps94
  go_upto_region 1 with fail
  simp only[HW.out]
  go_wp2_with (go_at_call 143;refine zM HCC ?_;rintro e w2 ⟨rfl,hb2⟩;have HB2:=zh hb2;clear hb2)
  go_ret2
  exact⟨HB1.out.trans (HB2.out.mono HB1.out.size),by rw[show(checkCase c==0)=false by simpa using HZ.out];rfl⟩
end
theorem nth_eq' {x:List Nat}{a b:Nat}(ha:a<x.length)(hb:b<x.length):(x[a]?==x[b]?)=(nth x a==nth x b):=by
 unfold nth;rw[List.getElem?_eq_getElem ha,List.getElem?_eq_getElem hb]
 simp
theorem tog_iff {c:Cs}{a b:Nat}(ha:a<c.parts.length)(hb:b<c.parts.length):togB c.parts.length (allR c) a b=true↔∃x,Reas c x∧nth x a=nth x b:=by
 simp only[togB,Bool.and_eq_true,decide_eq_true_eq,List.any_eq_true];constructor
 ·rintro⟨_,x,hx,e⟩;have hr:=mem_allR.1 hx;rw[nth_eq' (by rw[hr.len];exact ha) (by rw[hr.len];exact hb)] at e;exact⟨x,hr,by simpa using e⟩
 ·rintro⟨x,hr,e⟩;exact⟨⟨ha,hb⟩,x,mem_allR.2 hr,by rw[nth_eq' (by rw[hr.len];exact ha) (by rw[hr.len];exact hb)];simpa using e⟩
theorem apt_iff {c:Cs}{a b:Nat}(ha:a<c.parts.length)(hb:b<c.parts.length):aptB c.parts.length (allR c) a b=true↔∃x,Reas c x∧nth x a≠nth x b:=by
 simp only[aptB,Bool.and_eq_true,decide_eq_true_eq,List.any_eq_true];constructor
 ·rintro⟨_,x,hx,e⟩;have hr:=mem_allR.1 hx;rw[bne,nth_eq' (by rw[hr.len];exact ha) (by rw[hr.len];exact hb)] at e;exact⟨x,hr,by simpa using e⟩
 ·rintro⟨x,hr,e⟩;exact⟨⟨ha,hb⟩,x,mem_allR.2 hr,by rw[bne,nth_eq' (by rw[hr.len];exact ha) (by rw[hr.len];exact hb)];simpa using e⟩
theorem ans_iff (c:Cs)(a b:Nat):ansAt c a b=if aptB c.parts.length (allR c) a b then(if togB c.parts.length (allR c) a b then 3 else 2) else 1:=rfl
section
structure Tight (c d:Cs):Prop where
 len:d.parts.length=c.parts.length
 clash:∀a b,a<c.parts.length→b<c.parts.length→clashB c a b=true→clashB d a b=true
 lim:0<c.limit→0<d.limit∧d.limit≤c.limit
section
variable {c d:Cs}
end
def valP (j:Nat)(p:Prt):Int:=if j=0 then p.span.lowBy else if j=1 then p.span.highBy else p.footBy
def stepP (gone:Int→Bool)(j:Nat)(p:Prt):Prt:=if hitB gone (valP j p) then clearP j p else p
def woutP (gone:Int→Bool)(p:Prt):Prt:=stepP gone 2 (stepP gone 1 (stepP gone 0 p))
theorem modify_at {α:Type}{l:List α}{i:Nat}{x:α}(h:l[i]?=some x){f g:α→α}(hf:f x=g x):l.modify i f=l.modify i g:=by
 apply List.ext_getElem?
 intro k;rw[List.getElem?_modify,List.getElem?_modify]
 by_cases e:i=k
 ·subst e;rw[h];simp[hf]
 ·simp[e]
theorem woutP_eq (gone:Int→Bool)(p:Prt):woutP gone p=⟨p.sherds,⟨if hitB gone p.span.lowBy then 0 else p.span.low,if hitB gone p.span.highBy then 1000 else p.span.high,if hitB gone p.span.lowBy then 0 else p.span.lowBy,if hitB gone p.span.highBy then 0 else p.span.highBy⟩,
 if hitB gone p.footBy then false else p.foot,if hitB gone p.footBy then 0 else p.footBy,p.rests⟩:=by
 unfold woutP
 rcases h0:hitB gone p.span.lowBy with _|_<;>rcases h1:hitB gone p.span.highBy with _|_<;>rcases h2:hitB gone p.footBy with _|_ <;>
  simp[stepP,valP,clearP,h0,h1,h2]
theorem okSpn_of {p:Prt}(h:isPartB p=true):0≤p.span.low∧p.span.low≤p.span.high∧p.span.high≤1000:=by
 simp[isPartB,okSpn] at h
 omega
theorem clash_wout (gone:Int→Bool){p q:Prt}{x y:Nat}(hp:isPartB p=true)(hq:isPartB q=true)(h:clashP x y (woutP gone p) (woutP gone q)=true):clashP x y p q=true:=by
 have a:=okSpn_of hp;have b:=okSpn_of hq;rw[woutP_eq,woutP_eq] at h;simp only[clashP,feetB,Bool.and_eq_true,Bool.or_eq_true,decide_eq_true_eq,bne_iff_ne] at h ⊢;obtain⟨h1,h2⟩:=h;refine⟨h1,?_⟩
 rcases h2 with (⟨f1,f2⟩|h2)|h2
 ·refine .inl (.inl ⟨?_,?_⟩)
  ·split at f1
   ·cases f1
   ·exact f1
  ·split at f2
   ·cases f2
   ·exact f2
 ·refine .inl (.inr ?_)
  split at h2<;>split at h2<;>omega
 ·refine .inr ?_
  split at h2<;>split at h2<;>omega
theorem check_okCase {c:Cs}(h:checkCase c=0):c.parts.length≤8∧ok0 c=true∧(∀p∈c.parts,isPartB p=true)∧noDup (allIds c.parts)=true:=by
 unfold checkCase at h
 split at h
 ·cases h
 ·split at h
  ·rename_i h1
   simp only[okCase,Bool.and_eq_true,List.all_eq_true] at h1;exact⟨zO,h1.1.1,h1.1.2,h1.2⟩
  ·cases h
theorem okCase_check {c:Cs}(h8:c.parts.length≤8)(h0:ok0 c=true)(h1:∀p∈c.parts,isPartB p=true)(h2:noDup (allIds c.parts)=true):checkCase c=0:=by
 unfold checkCase;rw[if_neg zO,if_pos];simp only[okCase,Bool.and_eq_true,List.all_eq_true];exact⟨⟨h0,h1⟩,h2⟩
theorem clashB_at {c:Cs}{a b:Nat}{p q:Prt}(ha:c.parts[a]?=some p)(hb:c.parts[b]?=some q):clashB c a b=clashP a b p q:=clashB_eq ha hb
end
theorem narrowP_part {p:Prt}{low high id:Int}(h:isPartB p=true)(h1:0≤low)(h2:high≤1000)(h3:1≤id∧id≤1000000)(h4:(narrowP low high id p).span.low≤(narrowP low high id p).span.high):isPartB (narrowP low high id p)=true:=by
 simp only[isPartB,Bool.and_eq_true] at h ⊢;obtain⟨⟨⟨⟨⟨⟨⟨a1,a2⟩,a3⟩,a4⟩,a5⟩,a6⟩,a7⟩,a8⟩:=h;simp only[okSpn,Bool.and_eq_true,decide_eq_true_eq] at a5;refine⟨⟨⟨⟨⟨⟨⟨a1,a2⟩,a3⟩,a4⟩,?_⟩,?_⟩,?_⟩,a8⟩
 ·simp only[okSpn,Bool.and_eq_true,decide_eq_true_eq];refine⟨⟨?_,h4⟩,?_⟩
  ·simp only[narrowP];split<;>omega
  ·simp only[narrowP];split<;>omega
 ·simp only[narrowP]
  split
  ·simp[byB,inB];omega
  ·exact a6
 ·simp only[narrowP]
  split
  ·simp[byB,inB];omega
  ·exact a7
theorem narrow_at {c:Cs}{i a:Nat}{low high id:Int}{p:Prt}(ha:c.parts[a]?=some p):(narrowC c i low high id).parts[a]?=some (if i=a then narrowP low high id p else p):=by
 simp only[narrowC,List.getElem?_modify,ha]
 split<;>simp
theorem narrow_check {c:Cs}{i:Nat}{low high id:Int}{p:Prt}(h:checkCase c=0)(hp:c.parts[i]?=some p)(h1:0≤low)(h2:high≤1000)(h3:1≤id∧id≤1000000)
 (h4:(narrowP low high id p).span.low≤(narrowP low high id p).span.high):checkCase (narrowC c i low high id)=0:=by
 obtain⟨h8,k0,k1,k2⟩:=check_okCase h;refine okCase_check (by simpa[narrowC] using h8) k0 (fun q hq=>?_) ?_
 ·obtain⟨a,hal,rfl⟩:=List.getElem_of_mem hq;have hal':a<c.parts.length:=by simpa[narrowC] using hal
  obtain⟨r,hr⟩:=get_of_lt c.parts hal';have e:=narrow_at (i:=i) (low:=low) (high:=high) (id:=id) hr;rw[List.getElem?_eq_getElem hal] at e;rw[Option.some.inj e]
  split
  ·rename_i hia
   subst hia;rw[hp] at hr;cases hr;exact narrowP_part (k1 p (List.mem_of_getElem? hp)) h1 h2 h3 h4
  ·exact k1 r (List.mem_of_getElem? hr)
 ·have e:allIds (narrowC c i low high id).parts=allIds c.parts:=by
   simp only[allIds,narrowC,List.flatMap_def]
   congr 1
   apply List.ext_getElem?
   intro k;rw[List.getElem?_map,List.getElem?_map,List.getElem?_modify]
   rcases c.parts[k]? with _|r
   ·rfl
   ·simp only[Option.map_eq_map,Option.map_some]
    split<;>rfl
  rw[e];exact k2
theorem narrow_tight (c:Cs)(i:Nat)(low high id:Int):Tight c (narrowC c i low high id):=by
 refine⟨by simp[narrowC],fun a b ha hb k=>?_,fun hl=>⟨hl,Int.le_refl _⟩⟩;obtain⟨p,hp⟩:=get_of_lt c.parts ha;obtain⟨q,hq⟩:=get_of_lt c.parts hb;rw[clashB_at hp hq] at k;rw[clashB_at (narrow_at hp) (narrow_at hq)];simp only[clashP,feetB,Bool.and_eq_true,Bool.or_eq_true,decide_eq_true_eq,bne_iff_ne] at k ⊢;obtain⟨k1,k2⟩:=k;have lo:∀r:Prt,r.span.low≤(narrowP low high id r).span.low:=fun r=>by simp only[narrowP];split<;>omega
 have hi:∀r:Prt,(narrowP low high id r).span.high≤r.span.high:=fun r=>by simp only[narrowP];split<;>omega
 have ft:∀r:Prt,(narrowP low high id r).foot=r.foot:=fun r=>rfl
 have lo':∀(r:Prt) (j:Nat),r.span.low≤(if i=j then narrowP low high id r else r).span.low:=fun r j=>by
  split
  ·exact lo r
  ·exact Int.le_refl _
 have hi':∀(r:Prt) (j:Nat),(if i=j then narrowP low high id r else r).span.high≤r.span.high:=fun r j=>by
  split
  ·exact hi r
  ·exact Int.le_refl _
 have ft':∀(r:Prt) (j:Nat),(if i=j then narrowP low high id r else r).foot=r.foot:=fun r j=>by split<;>rfl
 rw[ft',ft'];refine⟨k1,?_⟩;have l1:=lo' p a;have l2:=lo' q b;have u1:=hi' p a;have u2:=hi' q b
 rcases k2 with (k2|k2)|k2
 ·exact .inl (.inl k2)
 ·exact .inl (.inr zO)
 ·exact .inr zO
theorem ans_congr {c:Cs}{a b a' b':Nat}(ha:a<c.parts.length)(hb:b<c.parts.length)(ha':a'<c.parts.length)(hb':b'<c.parts.length)(h:∀x,Reas c x→(nth x a=nth x b↔nth x a'=nth x b')):ansAt c a b=ansAt c a' b':=by
 have h1:togB c.parts.length (allR c) a b=togB c.parts.length (allR c) a' b':=by
  rw[Bool.eq_iff_iff,tog_iff ha hb,tog_iff ha' hb'];exact⟨fun⟨x,hx,e⟩=>⟨x,hx,(h x hx).1 e⟩,fun⟨x,hx,e⟩=>⟨x,hx,(h x hx).2 e⟩⟩
 have h2:aptB c.parts.length (allR c) a b=aptB c.parts.length (allR c) a' b':=by
  rw[Bool.eq_iff_iff,apt_iff ha hb,apt_iff ha' hb'];exact⟨fun⟨x,hx,e⟩=>⟨x,hx,fun k=>e ((h x hx).2 k)⟩,fun⟨x,hx,e⟩=>⟨x,hx,fun k=>e ((h x hx).1 k)⟩⟩
 rw[ans_iff,ans_iff,h1,h2]
theorem with_isSome {c:Cs}{a b:Nat}{t:Bool}(ha:a<c.parts.length)(hb:b<c.parts.length):((allR c).find? (asPair a b t)).isSome=if t then togB c.parts.length (allR c) a b else aptB c.parts.length (allR c) a b:=by
 rw[Bool.eq_iff_iff,List.find?_isSome];have key:∀x,Reas c x→(asPair a b t x=true↔(nth x a==nth x b)=t):=fun x hx=>by
  rw[asPair,nth_eq' (by rw[hx.len];exact ha) (by rw[hx.len];exact hb),beq_iff_eq]
 cases t
 ·simp only[Bool.false_eq_true,if_false];rw[apt_iff ha hb];exact⟨fun⟨x,hx,e⟩=>⟨x,mem_allR.1 hx,by simpa using(key x (mem_allR.1 hx)).1 e⟩,fun⟨x,hx,e⟩=>⟨x,mem_allR.2 hx,(key x hx).2 (by simpa using e)⟩⟩
 ·simp only[if_true];rw[tog_iff ha hb];exact⟨fun⟨x,hx,e⟩=>⟨x,mem_allR.1 hx,by simpa using(key x (mem_allR.1 hx)).1 e⟩,fun⟨x,hx,e⟩=>⟨x,mem_allR.2 hx,(key x hx).2 (by simpa using e)⟩⟩
def okAll (d:Cs):Bool:=d.parts.all fun q=>decide (q.span.low≤q.span.high)
theorem okAll_iff {d:Cs}:okAll d=true↔∀(a:Nat) q,d.parts[a]?=some q→q.span.low≤q.span.high:=by
 unfold okAll;rw[List.all_eq_true];constructor
 ·intro h a q hq;simpa using h q (List.mem_of_getElem? hq)
 ·intro h q hq;obtain⟨a,ha⟩:=List.mem_iff_getElem?.1 hq
  simpa using h a q ha
theorem narrow_len (d:Cs)(i:Nat)(lo hi id:Int):(narrowC d i lo hi id).parts.length=d.parts.length:=by simp[narrowC]
theorem narrow_worse {d:Cs}{i:Nat}{lo hi id:Int}(h:okAll (narrowC d i lo hi id)=true):okAll d=true:=by
 rw[okAll_iff] at h ⊢;intro a q hq;have h1:=h a _ (narrow_at (i:=i) (low:=lo) (high:=hi) (id:=id) hq)
 split at h1
 ·simp only[narrowP] at h1
  split at h1<;>split at h1<;>omega
 ·exact h1
theorem narrow_ok2 {d:Cs}{i:Nat}{lo hi id:Int}(h:okAll d=true)(h2:∀q,(narrowC d i lo hi id).parts[i]?=some q→q.span.low≤q.span.high):okAll (narrowC d i lo hi id)=true:=by
 rw[okAll_iff] at h ⊢;intro a q hq
 by_cases ha:i=a
 ·subst ha;exact h2 q hq
 ·have hal:a<d.parts.length:=by
   have:=(List.getElem?_eq_some_iff.1 hq).1
   rwa [narrow_len] at this
  obtain⟨r,hr⟩:=get_of_lt d.parts hal;have h1:=narrow_at (i:=i) (low:=lo) (high:=hi) (id:=id) hr;rw[hq,if_neg ha] at h1;cases h1;exact h a q hr
theorem spanOf_at {d:Cs}{p:Prb}{q:Prt}(h:d.parts[p.part.toNat]?=some q):spanOf d p=q.span:=by simp[spanOf,h]
def narrowOf (c d:Cs)(p:Prb)(k:Nat):Cs:=narrowC d p.part.toNat (stepAt (spanOf c p) p.width k).1 (stepAt (spanOf c p) p.width k).2 p.id
theorem aftStep_eq (c d:Cs)(p:Prb)(k:Nat):aftStep c d p k=if(spanOf (narrowOf c d p k) p).low≤(spanOf (narrowOf c d p k) p).high then some (narrowOf c d p k) else none:=rfl
def refAft (c:Cs)(l:List Prb):List (Nat×Nat)→Cs→Cs
 |[],d=>d
 |(v,k)::xs,d=>match l[v]? with
  |none=>refAft c l xs d
  |some p=>refAft c l xs (narrowOf c d p k)
theorem refAft_len (c:Cs)(l:List Prb):∀(xs:List (Nat×Nat)) (d:Cs),(refAft c l xs d).parts.length=d.parts.length
 |[],d=>rfl
 |(v,k)::xs,d=>by
  rw[refAft]
  split
  ·exact refAft_len c l xs d
  ·rw[refAft_len c l xs _];exact narrow_len _ _ _ _ _
theorem refAft_worse {c:Cs}{l:List Prb}:∀(xs:List (Nat×Nat)) (d:Cs),okAll (refAft c l xs d)=true→okAll d=true
 |[],d,h=>h
 |(v,k)::xs,d,h=>by
  rw[refAft] at h
  split at h
  ·exact refAft_worse xs d h
  ·exact narrow_worse (refAft_worse xs _ h)
theorem aft_ref {c:Cs}{l:List Prb}:∀(xs:List (Nat×Nat)) (d:Cs),(∀x∈xs,∃p,l[x.1]?=some p∧p.part.toNat<d.parts.length)→okAll d=true →
 aftGo c l xs d=if okAll (refAft c l xs d) then some (refAft c l xs d) else none
 |[],d,_,h=>by rw[aftGo,refAft,if_pos h]
 |(v,k)::xs,d,hx,h=>by
  obtain⟨p,hp,hpl⟩:=hx (v,k) zS;dsimp only at hp;rw[aftGo,refAft,hp];dsimp only;rw[aftStep_eq];have hl:(narrowOf c d p k).parts.length=d.parts.length:=narrow_len _ _ _ _ _;obtain⟨q,hq⟩:=get_of_lt (narrowOf c d p k).parts (k:=p.part.toNat) zO
  by_cases h1:(spanOf (narrowOf c d p k) p).low≤(spanOf (narrowOf c d p k) p).high
  ·rw[if_pos h1];dsimp only;have hok:okAll (narrowOf c d p k)=true:=narrow_ok2 h (fun r hr=>by
    have e:=spanOf_at hq;unfold narrowOf at hq;rw[hr] at hq;cases hq;rw[←e];exact h1)
   exact aft_ref xs _ (fun x hx'=>by obtain⟨p',h2,h3⟩:=hx x (by simp[hx']);exact⟨p',h2,zO⟩) hok
  ·rw[if_neg h1];dsimp only;rw[if_neg];intro hok;have h2:=okAll_iff.1 (refAft_worse xs _ hok) _ q hq;rw[←spanOf_at hq] at h2;exact h1 h2
theorem Tight.trans {a b c:Cs}(h:Tight a b)(k:Tight b c):Tight a c:=
 ⟨k.len.trans h.len,fun x y hx hy hc=>k.clash x y (by rw[h.len];exact hx) (by rw[h.len];exact hy) (h.clash x y hx hy hc),fun hl=>by
  obtain⟨h1,h2⟩:=h.lim hl;obtain⟨k1,k2⟩:=k.lim h1;exact⟨k1,Int.le_trans k2 h2⟩⟩
theorem Tight.self (a:Cs):Tight a a:=⟨rfl,fun _ _ _ _ h=>h,fun h=>⟨h,Int.le_refl _⟩⟩
structure AftOk (c d:Cs):Prop where
 chk:checkCase d=0
 len:d.parts.length=c.parts.length
 tight:Tight c d
theorem span_ok {c:Cs}{p:Prb}(hc:checkCase c=0)(h0:0≤p.part)(h1:p.part≤(c.parts.length:Int)-1):0≤(spanOf c p).low∧(spanOf c p).low≤(spanOf c p).high∧(spanOf c p).high≤1000:=by
 obtain⟨q,hq⟩:=get_of_lt c.parts (k:=p.part.toNat) zO;rw[spanOf_at hq];exact okSpn_of ((check_okCase hc).2.2.1 q (List.mem_of_getElem? hq))
theorem aftGo_ok {c:Cs}{l:List Prb}(hp:probesErr c l=0):∀(xs:List (Nat×Nat)) (d e:Cs),AftOk c d→aftGo c l xs d=some e→AftOk c e
 |[],d,e,h,he=>by rw[aftGo] at he;cases he;exact h
 |(v,k)::xs,d,e,h,he=>by
  obtain⟨hc,_,hall⟩:=probes_ok hp;rw[aftGo] at he
  split at he
  ·cases he
  ·rename_i p hv
   obtain⟨hr,hpt,_⟩:=hall p (List.mem_of_getElem? hv);have rv:=right_vals hr;rw[aftStep_eq] at he;have hl:=h.len;obtain⟨q,hq⟩:=get_of_lt d.parts (k:=p.part.toNat) zO;have hs:=span_ok hc hpt.1 hpt.2
   split at he
   ·cases he
   ·rename_i e' hst
    split at hst
    ·rename_i h1
     cases hst;have hn:=narrow_at (i:=p.part.toNat) (low:=(stepAt (spanOf c p) p.width k).1) (high:=(stepAt (spanOf c p) p.width k).2) (id:=p.id) hq;rw[if_pos rfl] at hn;have h2:=spanOf_at (d:=narrowOf c d p k) hn;rw[h2] at h1;refine aftGo_ok hp xs _ e ⟨narrow_check h.chk hq ?_ ?_ rv.1 h1,(narrow_len _ _ _ _ _).trans hl,h.tight.trans (narrow_tight _ _ _ _ _)⟩ he
     ·have:(0:Int)≤(k:Int)*p.width:=Int.mul_nonneg zO zO;simp only[stepAt];omega
     ·simp only[stepAt];omega
    ·cases hst
theorem after_ok {c d:Cs}{l:List Prb}{set fs:List Nat}(hp:probesErr c l=0)(h:afterC c l set fs=some d):AftOk c d:=
 aftGo_ok hp _ c d ⟨(probes_ok hp).1,rfl,Tight.self c⟩ h
