/- Walks and plain laws. No condition. -/
import Derived.Test.YtjgldeeianionaaGreatV37
set_option maxHeartbeats 4000000
set_option maxRecDepth 100000
set_option linter.unusedSimpArgs false
set_option linter.unusedVariables false
namespace Go.Proofs.YtjgldeeianionaaGreat
open Go.RowKit
section
section
variable {d:Dec}{n a b i:Nat}{L:List Nat}
def clsR (d:Dec)(a:Nat):List Nat:=clsList d 8 a 8
theorem mem_clsR (hs:SymD d):b∈clsR d a↔b<8∧Conn d 8 b a:=mem_cls (Nat.le_refl _) hs
def Supp (d:Dec)(n:Nat):Prop:=∀a b,d a b≠0→a<n∧b<n
theorem Supp.bit (h:Supp d n){m:Nat}{a b:Nat}(hb:d a b &&& m≠0):a<n∧b<n:=h a b fun e=>hb (by rw[e];simp)
theorem conn_in (hp:Supp d n){m a b:Nat}(h:Conn d m a b)(hb:b<n):a<n:=by
 induction h with
 |refl=>exact hb
 |step e _ _=>exact(hp.bit e.2.2).1
theorem conn_nm (hn:n≤8)(hp:Supp d n):Conn d 8 a b↔Conn d n a b:=⟨fun h=>h.narrow fun _ _ e=>hp.bit e,fun h=>h.widen hn⟩
structure Bfs (d:Dec) (a:Nat) (L:List Nat) (i b:Nat):Prop where
 mem:a∈L
 lt:∀x∈L,x<8
 nd:L.Nodup
 con:∀x∈L,Conn d 8 x a
 done:∀j,j<i→∀x,L[j]?=some x→∀y,y<8→d x y &&& 1≠0→y∈L
 now:∀x,L[i]?=some x→∀y,y<b→d x y &&& 1≠0→y∈L
theorem Bfs.start (ha:a<8):Bfs d a [a] 0 0:=
 ⟨by simp,by simpa using ha,by simp,fun x hx=>by rw[List.mem_singleton.1 hx];exact .refl _,fun j hj=>absurd hj (Nat.not_lt_zero j),fun _ _ y hy=>absurd hy (Nat.not_lt_zero y)⟩
theorem Bfs.len (h:Bfs d a L i b):L.length≤8:=by
 have:=nodup_le (m:=List.range 8) h.nd fun x hx=>List.mem_range.2 (h.lt x hx)
 simpa using this
theorem Bfs.skip (h:Bfs d a L i b){x:Nat}(hx:L[i]?=some x)(hb:d x b &&& 1=0∨b∈L):Bfs d a L i (b+1):=
 ⟨h.mem,h.lt,h.nd,h.con,h.done,fun y hy z hz hd=>by
  rw[hx] at hy;cases hy
  rcases Nat.lt_or_ge z b with hz'|hz'
  ·exact h.now x hx z hz' hd
  ·have:z=b:=by omega
   subst this
   rcases hb with hb|hb
   ·exact absurd hb hd
   ·exact hb⟩
theorem Bfs.push (hs:SymD d)(h:Bfs d a L i b){x:Nat}(hx:L[i]?=some x)(hb8:b<8)(hb:d x b &&& 1≠0)(hL:¬b∈L):Bfs d a (L++[b]) i (b+1):=by
 have hil:i<L.length:=(List.getElem?_eq_some_iff.1 hx).1;have hxm:x∈L:=List.mem_of_getElem? hx;refine⟨by simp[h.mem],fun y hy=>?_,?_,fun y hy=>?_,fun j hj y hy z hz hd=>?_,fun y hy z hz hd=>?_⟩
 ·rcases List.mem_append.1 hy with h1|h1
  ·exact h.lt y h1
  ·rw[List.mem_singleton.1 h1];exact hb8
 ·rw[List.nodup_append];exact⟨h.nd,by simp,fun u hu v hv e=>by rw[List.mem_singleton.1 hv] at e;subst e;exact hL hu⟩
 ·rcases List.mem_append.1 hy with h1|h1
  ·exact h.con y h1
  ·rw[List.mem_singleton.1 h1];exact .step ⟨hb8,h.lt x hxm,by rw[hs b x];exact hb⟩ (h.con x hxm)
 ·rw[List.getElem?_append_left zO] at hy;exact List.mem_append_left _ (h.done j hj y hy z hz hd)
 ·rw[List.getElem?_append_left hil,hx] at hy;cases hy
  rcases Nat.lt_or_ge z b with hz'|hz'
  ·exact List.mem_append_left _ (h.now x hx z hz' hd)
  ·have:z=b:=by omega
   subst this;simp
theorem Bfs.next (h:Bfs d a L i 8):Bfs d a L (i+1) 0:=
 ⟨h.mem,h.lt,h.nd,h.con,fun j hj x hx y hy hd=>by
  rcases Nat.lt_or_ge j i with hj'|hj'
  ·exact h.done j hj' x hx y hy hd
  ·have:j=i:=by omega
   subst this;exact h.now x hx y hy hd,fun _ _ y hy=>absurd hy (Nat.not_lt_zero y)⟩
theorem Bfs.all (hs:SymD d)(h:Bfs d a L i 0)(hi:¬i<L.length)(y:Nat)(hy:y<8):L.contains y=(clsOf d 8 y==clsOf d 8 a):=by
 rw[Bool.eq_iff_iff,beq_iff_eq,cls_iff (Nat.le_refl 8) hs,List.contains_iff_mem];constructor
 ·exact h.con y
 ·intro hc;have key:∀{x z:Nat},Conn d 8 x z→x∈L→z∈L:=by
   intro x z hc
   induction hc with
   |refl=>exact id
   |step e _ ih=>
    intro hx;obtain⟨j,hj,e2⟩:=List.getElem_of_mem hx;exact ih (h.done j zO _ (by rw[List.getElem?_eq_getElem hj,e2]) _ e.2.1 e.2.2)
  exact key (hc.symm hs) h.mem
def outDc (L:List Nat)(k:Nat):List Nat:=(List.range k).filter fun y=>L.contains y
theorem outDc_succ (L:List Nat)(k:Nat):outDc L (k+1)=outDc L k++if L.contains k then [k] else []:=by
 rw[outDc,List.range_succ,List.filter_append];simp only[List.filter_cons,List.filter_nil]
 rfl
theorem outTo_len (L:List Nat)(k:Nat):(outDc L k).length≤k:=by
 have:=List.length_filter_le (fun y=>L.contains y) (List.range k)
 simpa[outDc] using this
theorem Bfs.out (hs:SymD d)(h:Bfs d a L i 0)(hi:¬i<L.length):outDc L 8=clsR d a:=by
 unfold outDc clsR clsList
 apply List.filter_congr
 intro y hy;exact h.all hs hi y (List.mem_range.1 hy)
def partedR (d:Dec)(one two:List Nat):Bool:=one.any fun p=>two.any fun q=>decide (d p q &&& 2≠0)
def clashR (c:Cs)(one two:List Nat):Option (Nat×Nat):=(one.flatMap fun p=>two.map fun q=>(p,q)).find? fun z=>clashB c z.1 z.2
def causeP (p q:Prt):List Int:=
 if feetB p.foot q.foot then [p.footBy,q.footBy] else if q.span.low<p.span.low then [p.span.lowBy,q.span.highBy] else [q.span.lowBy,p.span.highBy]
def causeB (c:Cs)(x y:Nat):List Int:=match c.parts[x]?,c.parts[y]? with|some p,some q=>causeP p q|_,_=>[]
theorem causeB_eq {c:Cs}{x y:Nat}{p q:Prt}(hp:c.parts[x]?=some p)(hq:c.parts[y]?=some q):causeB c x y=causeP p q:=by simp[causeB,hp,hq]
end
end
section
section
variable {c:Cs}{d:Dec}{n:Nat}
theorem clsR_in (hs:SymD d)(hp:Supp d n){a:Nat}(ha:a<n):∀x∈clsR d a,x<n:=fun _ hx=>conn_in hp ((mem_clsR hs).1 hx).2 ha
theorem clsR_eight (hs:SymD d){a:Nat}:∀x∈clsR d a,x<8:=fun _ hx=>((mem_clsR hs).1 hx).1
theorem clsR_len (d:Dec)(a:Nat):(clsR d a).length≤8:=by
 have:=List.length_filter_le (fun p=>clsOf d 8 p==clsOf d 8 a) (List.range 8)
 simpa[clsR,clsList] using this
theorem opp_parts (hn:n≤8)(hs:SymD d)(hp:Supp d n){x y:Nat}(hx:x<n)(hy:y<n):oppB c d n x y=(partedR d (clsR d x) (clsR d y)||(clashR c (clsR d x) (clsR d y)).isSome):=by
 rw[Bool.eq_iff_iff,opp_iff hn hs,Bool.or_eq_true];simp only[partedR,clashR,List.any_eq_true,List.find?_isSome,List.mem_flatMap,List.mem_map,decide_eq_true_eq,mem_clsR hs];constructor
 ·rintro⟨p,q,p1,q1,p2,q2,h|h⟩
  ·exact .inr ⟨(p,q),⟨p,⟨zO,p2.widen hn⟩,q,⟨zO,q2.widen hn⟩,rfl⟩,h⟩
  ·exact .inl ⟨p,⟨zO,p2.widen hn⟩,q,⟨zO,q2.widen hn⟩,h⟩
 ·rintro (⟨p,⟨p1,p2⟩,q,⟨q1,q2⟩,h⟩|⟨_,⟨p,⟨p1,p2⟩,q,⟨q1,q2⟩,rfl⟩,h⟩)
  ·exact⟨p,q,conn_in hp p2 hx,conn_in hp q2 hy,(conn_nm hn hp).1 p2,(conn_nm hn hp).1 q2,.inr h⟩
  ·exact⟨p,q,conn_in hp p2 hx,conn_in hp q2 hy,(conn_nm hn hp).1 p2,(conn_nm hn hp).1 q2,.inl h⟩
theorem has_cls (hn:n≤8)(hs:SymD d)(hp:Supp d n){a b:Nat}(ha:a<n)(hb:b<n):(clsR d a).contains b=(clsOf d n a==clsOf d n b):=by
 rw[Bool.eq_iff_iff,List.contains_iff_mem,mem_clsR hs,beq_iff_eq,cls_iff hn hs];constructor
 ·rintro⟨_,h⟩;exact((conn_nm hn hp).1 h).symm hs
 ·intro h;exact⟨zO,(h.symm hs).widen hn⟩
def pairIds (c:Cs)(d:Dec)(x y:Nat):List Int:=if partedR d (clsR d x) (clsR d y) then [] else match clashR c (clsR d x) (clsR d y) with|some z=>causeB c z.1 z.2|none=>[]
def rowIds (c:Cs)(d:Dec)(l:List Nat)(i m:Nat):List Int:=(List.range m).flatMap fun k=>if i<k then pairIds c d (nth l i) (nth l k) else []
def manyIds (c:Cs)(d:Dec)(l:List Nat)(m:Nat):List Int:=(List.range m).flatMap fun i=>rowIds c d l i l.length
def leafIds (c:Cs)(d:Dec)(x:Br):List Int:=if x.kind=2 then causeB c x.a.toNat x.b.toNat else if x.kind=4 then c.by_::manyIds c d (x.many.map Int.toNat) x.many.length else []
theorem rowIds_succ (l:List Nat)(i m:Nat)(h:i<m):rowIds c d l i (m+1)=rowIds c d l i m++pairIds c d (nth l i) (nth l m):=by
 simp[rowIds,List.range_succ,List.flatMap_append,h]
theorem rowIds_start (l:List Nat)(i:Nat):rowIds c d l i (i+1)=[]:=by
 unfold rowIds;rw[List.flatMap_eq_nil_iff];intro k hk;rw[if_neg (by have:=List.mem_range.1 hk;omega)]
theorem manyIds_succ (l:List Nat)(m:Nat):manyIds c d l (m+1)=manyIds c d l m++rowIds c d l m l.length:=by
 simp[manyIds,List.range_succ,List.flatMap_append]
theorem cause_len (c:Cs)(x y:Nat):(causeB c x y).length≤2:=by
 unfold causeB causeP
 split
 ·split
  ·simp
  ·split<;>simp
 ·simp
theorem pairIds_len (c:Cs)(d:Dec)(x y:Nat):(pairIds c d x y).length≤2:=by
 unfold pairIds
 split
 ·simp
 ·split
  ·exact cause_len _ _ _
  ·simp
theorem rowIds_len (l:List Nat)(i:Nat):∀m,(rowIds c d l i m).length≤2*(m-(i+1))
 |0=>by simp[rowIds]
 |m+1=>by
  rcases Nat.lt_or_ge i m with h|h
  ·rw[rowIds_succ l i m h,List.length_append];have h1:=rowIds_len l i m;have h2:=pairIds_len c d (nth l i) (nth l m)
   omega
  ·have:rowIds c d l i (m+1)=[]:=by
    unfold rowIds;rw[List.flatMap_eq_nil_iff];intro k hk;rw[if_neg (by have:=List.mem_range.1 hk;omega)]
   rw[this];simp
theorem manyIds_len (l:List Nat):∀m,m≤l.length→(manyIds c d l m).length+(m*m+m)≤2*(l.length*m)
 |0,_=>by simp[manyIds]
 |m+1,hm=>by
  rw[manyIds_succ,List.length_append];have h1:=manyIds_len l m zO;have h2:=rowIds_len (c:=c) (d:=d) l m l.length;rw[show(m+1)*(m+1)=m*m+2*m+1 by rw[Nat.mul_succ,Nat.succ_mul];omega,Nat.mul_succ]
  omega
theorem manyIds_eight (l:List Nat)(h8:l.length≤8):(manyIds c d l l.length).length≤56:=by
 have h:=manyIds_len (c:=c) (d:=d) l l.length (Nat.le_refl _);generalize l.length=k at *;have:k=0∨k=1∨k=2∨k=3∨k=4∨k=5∨k=6∨k=7∨k=8:=by omega
 rcases this with rfl|rfl|rfl|rfl|rfl|rfl|rfl|rfl|rfl<;>omega
def riseTo (n:Nat)(many:List Int)(i:Nat):Bool:=upto i fun j=>inB (many[j]?.getD 0) 0 ((n:Int)-1)&&(j==0||decide (many[j-1]?.getD 0<many[j]?.getD 0))
theorem riseTo_succ (n:Nat)(many:List Int)(i:Nat):riseTo n many (i+1)=(riseTo n many i&&(inB (many[i]?.getD 0) 0 ((n:Int)-1)&&(i==0||decide (many[i-1]?.getD 0<many[i]?.getD 0)))):=by
 simp[riseTo,upto,List.range_succ]
theorem rise_at {many:List Int}{m:Nat}(h:riseTo n many m=true){j:Nat}(hj:j<m):0≤many[j]?.getD 0∧many[j]?.getD 0≤(n:Int)-1∧(0<j→many[j-1]?.getD 0<many[j]?.getD 0):=by
 have:=upto_iff.1 h j hj;simp only[inB,Bool.and_eq_true,decide_eq_true_eq,Bool.or_eq_true,beq_iff_eq] at this;exact⟨this.1.1,this.1.2,fun h0=>this.2.resolve_left zO⟩
theorem rise_lt {many:List Int}{m:Nat}(h:riseTo n many m=true):∀(e i:Nat),i+e+1<m→many[i]?.getD 0<many[i+e+1]?.getD 0
 |0,i,hm=>by
  have:=(rise_at h hm).2.2 zO
  simpa using this
 |e+1,i,hm=>by
  have h1:=rise_lt h e i zO;have h2:=(rise_at h (j:=i+(e+1)+1) hm).2.2 zO;have e1:i+(e+1)+1-1=i+e+1:=by omega
  rw[e1] at h2
  omega
theorem rise_len {many:List Int}(h:riseTo n many many.length=true):many.length≤n:=by
 have:=nodup_le (l:=(List.range many.length).map fun i=>(many[i]?.getD 0).toNat) (m:=List.range n) (by
  rw[List.Nodup,List.pairwise_map];refine List.Pairwise.imp_of_mem (fun {a b} ha hb hab e=>?_) (List.pairwise_lt_range (n:=many.length));have hb':=List.mem_range.1 hb;have h1:=rise_lt h (b-a-1) a zO;have e1:a+(b-a-1)+1=b:=by omega
  rw[e1] at h1;have h2:=(rise_at h (List.mem_range.1 ha)).1
  omega) (fun x hx=>by
  obtain⟨i,hi,rfl⟩:=List.mem_map.1 hx;have:=rise_at h (List.mem_range.1 hi);rw[List.mem_range];omega)
 simpa using this
theorem rise_val {many:List Int}{m:Nat}(h:riseTo n many m=true){i:Nat}(hi:i<m)(him:i<many.length):many[i]?=some ((nth (many.map Int.toNat) i:Nat):Int)∧nth (many.map Int.toNat) i<n:=by
 have h1:=rise_at h hi;rw[List.getElem?_eq_getElem him] at h1 ⊢;simp only[Option.getD_some] at h1;have e:nth (many.map Int.toNat) i=many[i].toNat:=by rw[nth_get (by simpa using him)];simp
 rw[e];exact⟨by rw[show((many[i].toNat:Nat):Int)=many[i] by omega],zO⟩
theorem many_rows (hn:n≤8)(hs:SymD d)(hp:Supp d n){A B:Int}{many:List Int}(hh:manyHead c A B many=true)(hr:riseTo n many many.length=true):
 manyB c d n A B many=true↔∀i k,i<k→k<many.length→(partedR d (clsR d (nth (many.map Int.toNat) i)) (clsR d (nth (many.map Int.toNat) k))||(clashR c (clsR d (nth (many.map Int.toNat) i)) (clsR d (nth (many.map Int.toNat) k))).isSome)=true:=by
 have hv:=fun {i:Nat} (hi:i<many.length)=>rise_val hr hi hi
 have hoB:∀i k,i<k→k<many.length→oppB c d n (many[i]?.getD 0).toNat (many[k]?.getD 0).toNat=(partedR d (clsR d (nth (many.map Int.toNat) i)) (clsR d (nth (many.map Int.toNat) k))||(clashR c (clsR d (nth (many.map Int.toNat) i)) (clsR d (nth (many.map Int.toNat) k))).isSome):=fun i k hik hk=>by
  rw[(hv (show i<many.length by omega)).1,(hv hk).1];simp only[Option.getD_some,Int.toNat_natCast];exact opp_parts hn hs hp (hv (show i<many.length by omega)).2 (hv hk).2
 unfold manyB;rw[hh,Bool.true_and,upto_iff];constructor
 ·intro h i k hik hk;have h1:=h k hk;simp only[manyAt,Bool.and_eq_true] at h1;rw[←hoB i k hik hk];exact upto_iff.1 h1.2 i hik
 ·intro h k hk;have h1:=upto_iff.1 hr k hk;simp only[Bool.and_eq_true] at h1;simp only[manyAt,Bool.and_eq_true];refine⟨⟨h1.1,h1.2⟩,upto_true fun i hi=>?_⟩;rw[hoB i k hi hk];exact h i k hi hk
theorem many_not {A B:Int}{many:List Int}(h:riseTo n many many.length=false):manyB c d n A B many=false:=by
 rcases hm:manyB c d n A B many with _|_
 ·rfl
 ·unfold manyB at hm;rw[Bool.and_eq_true,upto_iff] at hm;have:riseTo n many many.length=true:=upto_true fun j hj=>by
   have:=hm.2 j hj;simp only[manyAt,Bool.and_eq_true] at this;simp only[Bool.and_eq_true];exact this.1
  rw[h] at this;cases this
theorem rise_less {many:List Int}{m m':Nat}(h:riseTo n many m=false)(hm:m≤m'):riseTo n many m'=false:=by
 rcases hr:riseTo n many m' with _|_
 ·rfl
 ·have:riseTo n many m=true:=upto_true fun j hj=>upto_iff.1 hr j zO
  rw[h] at this;cases this
theorem leaf_many (c:Cs)(d:Dec)(n:Nat)(A B:Int)(many:List Int):leafB c d n ⟨4,A,B,many⟩=manyB c d n A B many:=rfl
theorem leafIds_len {x:Br}(hn:n≤8)(h:leafB c d n x=true):(leafIds c d x).length≤57:=by
 unfold leafIds
 split
 ·have:=cause_len c x.a.toNat x.b.toNat;omega
 ·split
  ·rename_i h2 h4
   have hm:manyB c d n x.a x.b x.many=true:=by
    unfold leafB at h;rw[if_neg h2,if_neg zO,if_pos h4] at h;exact h
   have hr:riseTo n x.many x.many.length=true:=by
    rcases hr:riseTo n x.many x.many.length with _|_
    ·rw[many_not hr] at hm;cases hm
    ·rfl
   have h1:=rise_len hr;have h3:=manyIds_eight (c:=c) (d:=d) (x.many.map Int.toNat) (by rw[List.length_map];omega);rw[List.length_map] at h3;rw[List.length_cons]
   omega
  ·simp
end
end
section
attribute [local go_sem] Oper.semAt_some
def dciCells (d:Nat→Nat→Nat):Array Value:=((List.range 64).map fun i=>Value.int .i64 (d (i / 8) (i % 8):Nat)).toArray
theorem dciCells_size (d:Nat→Nat→Nat):(dciCells d).size=64:=by simp[dciCells]
theorem dci_at (d:Nat→Nat→Nat)(i:Nat):(dciCells d)[i]?=if i<64 then some (.int .i64 (d (i / 8) (i % 8):Nat)) else none:=by
 unfold dciCells;rw[List.getElem?_toArray,List.getElem?_map]
 split
 ·rw[List.getElem?_range zO];rfl
 ·rw[List.getElem?_eq_none zT];rfl
theorem dciCells_at (d:Nat→Nat→Nat){x y:Nat}(hx:x<8)(hy:y<8):(dciCells d)[x*8+y]?=some (.int .i64 (d x y:Nat)):=by
 rw[dci_at,if_pos zO];have h1:(x*8+y) / 8=x:=by omega
 have h2:(x*8+y) % 8=y:=by omega
 rw[h1,h2]
theorem dci_set (d:Nat→Nat→Nat){x y:Nat}(hx:x<8)(hy:y<8)(v:Nat):(dciCells d).setIfInBounds (x*8+y) (.int .i64 (v:Nat))=dciCells (fun a b=>if a=x∧b=y then v else d a b):=by
 apply Array.ext_getElem?
 intro i;rw[Array.getElem?_setIfInBounds,dci_at,dci_at,dciCells_size]
 by_cases h:x*8+y=i
 ·subst h;have h1:(x*8+y) / 8=x:=by omega
  have h2:(x*8+y) % 8=y:=by omega
  rw[if_pos rfl,if_pos zO,if_pos zO]
  simp[h1,h2]
 ·rw[if_neg h];have h3:¬(i / 8=x∧i % 8=y):=by omega
  simp[h3]
theorem dci_one (d:Nat→Nat→Nat):(dciCells d).all (·.oneCell')=true:=by
 refine Array.all_eq_true_iff_forall_mem.2 fun v hv=>?_
 simp[dciCells] at hv
 obtain⟨i,_,rfl⟩:=hv
 rfl
theorem dci_info (d:Nat→Nat→Nat):(Tryz.prog.info? 232).map (·.size)=some (dciCells d).size:=by rw[dciCells_size];kernel_rfl
theorem zero_dci:(#[.int .i64 0,.int .i64 0,.int .i64 0,.int .i64 0,.int .i64 0,.int .i64 0,.int .i64 0,.int .i64 0,.int .i64 0,.int .i64 0,.int .i64 0,.int .i64 0,.int .i64 0,.int .i64 0,.int .i64 0,.int .i64 0,.int .i64 0,.int .i64 0,.int .i64 0,.int .i64 0,.int .i64 0,.int .i64 0,.int .i64 0,.int .i64 0,.int .i64 0,.int .i64 0,.int .i64 0,.int .i64 0,.int .i64 0,.int .i64 0,.int .i64 0,.int .i64 0,.int .i64 0,.int .i64 0,.int .i64 0,.int .i64 0,.int .i64 0,.int .i64 0,.int .i64 0,.int .i64 0,.int .i64 0,.int .i64 0,.int .i64 0,.int .i64 0,.int .i64 0,.int .i64 0,.int .i64 0,.int .i64 0,.int .i64 0,.int .i64 0,.int .i64 0,.int .i64 0,.int .i64 0,.int .i64 0,.int .i64 0,.int .i64 0,.int .i64 0,.int .i64 0,.int .i64 0,.int .i64 0,.int .i64 0,.int .i64 0,.int .i64 0,.int .i64 0]:Array Value)=dciCells (fun _ _=>0):=zK
theorem bits_ori {a b:Nat}(ha:a≤3)(hb:b≤3):bits .or .i64 (a:Int) (b:Int)=((a ||| b:Nat):Int):=by
 have h1:a=0∨a=1∨a=2∨a=3:=by omega
 have h2:b=0∨b=1∨b=2∨b=3:=by omega
 rcases h1 with rfl|rfl|rfl|rfl<;>rcases h2 with rfl|rfl|rfl|rfl<;>rfl
theorem bit_is {a m:Nat}(ha:a≤3)(hm:m=1∨m=2):(bits .and .i64 (a:Int) (m:Int)==(m:Int))=decide (a &&& m≠0):=by
 have h1:a=0∨a=1∨a=2∨a=3:=by omega
 rcases h1 with rfl|rfl|rfl|rfl<;>rcases hm with rfl|rfl<;>rfl
theorem dci_put {W:World}{B:Nat}{d:Nat→Nat→Nat}{x y v:Nat}(h:Box W B (dciCells d) 232)(hx:x<8)(hy:y<8):
 Box (W.setCell ⟨B,x*8+y,none⟩ (.int .i64 (v:Int))) B (dciCells fun a b=>if a=x∧b=y then v else d a b) 232:=by
 have:=h.set_ (x*8+y) (.int .i64 (v:Int));rw[dci_set d hx hy] at this;exact this
theorem withR_eq {d:Dec}(hs:SymD d)(x y how:Nat):(fun a b=>if a=y∧b=x then decOr d x y how x y else decOr d x y how a b)=decWith d x y how:=by
 funext a b
 unfold decWith decOr;have h1:=hs x y
 by_cases hxy:x=y
 ·subst hxy
  by_cases h:a=x∧b=x
  ·simp[h,Nat.or_assoc]
  ·simp[h]
 ·by_cases h:a=y∧b=x
  ·have h2:¬(y=x∧x=y):=fun e=>hxy e.2
   simp[h,h2,h1]
  ·simp[h]
theorem withR_any (d:Dec)(hs:SymD d)(x y how:Nat)(w:World)(hx:x<8)(hy:y<8)(hd:∀a b,d a b≤3)(hh:how≤3):
 Calls Tryz.prog 208 #[.agg (dciCells d),.int .i64 x,.int .i64 y,.int .i64 how] w (fun e w'=>e = .returned (.agg (dciCells (decWith d x y how)))∧Below w.heap.size w w'):=by
 have hx8:(x:Int)<8:=by omega
 have hy8:(y:Int)<8:=by omega
 obtain⟨w2,hw2⟩:=zx ((w.alloc (.cells (dciCells d) 232)).alloc (.cells #[.int .i64 0,.int .i64 0,.int .i64 0,.int .i64 0,.int .i64 0,.int .i64 0,.int .i64 0,.int .i64 0,.int .i64 0,.int .i64 0,.int .i64 0,.int .i64 0,.int .i64 0,.int .i64 0,.int .i64 0,.int .i64 0,.int .i64 0,.int .i64 0,.int .i64 0,.int .i64 0,.int .i64 0,.int .i64 0,.int .i64 0,.int .i64 0,.int .i64 0,.int .i64 0,.int .i64 0,.int .i64 0,.int .i64 0,.int .i64 0,.int .i64 0,.int .i64 0,.int .i64 0,.int .i64 0,.int .i64 0,.int .i64 0,.int .i64 0,.int .i64 0,.int .i64 0,.int .i64 0,.int .i64 0,.int .i64 0,.int .i64 0,.int .i64 0,.int .i64 0,.int .i64 0,.int .i64 0,.int .i64 0,.int .i64 0,.int .i64 0,.int .i64 0,.int .i64 0,.int .i64 0,.int .i64 0,.int .i64 0,.int .i64 0,.int .i64 0,.int .i64 0,.int .i64 0,.int .i64 0,.int .i64 0,.int .i64 0,.int .i64 0,.int .i64 0] 232))
 have hB2:Below w.heap.size w w2:=by rw[←hw2];go_grown
 have b0:Box w2 w.heap.size (dciCells d) 232:=by rw[←hw2];exact(Box.new _ _ _).alloc _
 have b1:Box w2 (w.heap.size+1) (dciCells fun _ _=>0) 232:=by rw[←hw2,zero_dci];exact Box.new' zS
 have c1:w2.cell? ⟨w.heap.size,x*8+y,none⟩=some (.int .i64 (d x y:Nat)):=by rw[b0.cell,dciCells_at _ hx hy]
 have HC1:=zh c1;have B0:=zh b0;have B1:=zh b1;have HW:=zh hw2;have hor:=bits_ori (hd x y) hh;have HE:=zh (withR_eq hs x y how);clear b0 b1 hw2 c1 hs
 go_enter Tryz.func208,Tryz.ntmps208
 go_upto_region 1 with fail
 simp only[HW.out];refine wp_region_heldB 11 [] zK zK zK zS ?_;intro S hS;have k0:∀W,S W→W.cell? ⟨w.heap.size,x*8+y,none⟩=some (.int .i64 (d x y:Nat)):=fun W h=>below_cell (hS W h) HC1.out
 have K0:=zh k0;have HS:=zh hS;clear k0 hS;simp only[pT]
 repeat (first
  |refine xN ?_
  |refine xV K0 ?_
  |(refine held_skip rfl (by rfl) ?_ ?_;(· (intro W hW;have q0:=K0.out W hW;go_simp;try with_reducible rfl));try simp only[pZ]))
 refine held_nil ?_;intro τ hτ w3 hW hO;obtain rfl:=laid0 hτ;have hb3:=HS.out w3 hW;have g0:=B0.out.below' hb3;have g1:=B1.out.below' hb3;have f1:=g0.frozen;have c1:w3.cell? ⟨w.heap.size,x*8+y,none⟩=some (.int .i64 (d x y:Nat)):=below_cell hb3 HC1.out;have HB3:=zh (hB2.trans (hb3.mono hB2.size));have G0:=zh g0;have G1:=zh g1;clear hτ hO hW K0 HS hb3 g0 g1 B0 B1 HC1;simp only[overs,List.foldl_nil]
 go_upto_region 2 with fail
 have g0:=dci_put (v:=d x y ||| how) G0.out hx hy;have g1:=G1.out.far (p:=⟨w.heap.size,x*8+y,none⟩) zS (.int .i64 ((d x y ||| how:Nat):Int));have gB:=HB3.out.setCell (p:=⟨w.heap.size,x*8+y,none⟩) zS (.int .i64 ((d x y ||| how:Nat):Int));have hvd:(fun a b=>if a=x∧b=y then d x y ||| how else d a b)=decOr d x y how:=rfl;rw[hvd] at g0;clear HB3 G0 G1 f1 c1 hor;generalize w3.setCell ⟨w.heap.size,x*8+y,none⟩ (.int .i64 ((d x y ||| how:Nat):Int))=w4 at *;have c1:w4.cell? ⟨w.heap.size,x*8+y,none⟩=some (.int .i64 (decOr d x y how x y:Nat)):=by rw[g0.cell,dciCells_at _ hx hy]
 have HC1:=zh c1;have B0:=zh g0;have B1:=zh g1;clear c1 g0 g1;refine wp_region_heldB 9 [] zK zK zK zS ?_;intro S hS;have k0:∀W,S W→W.cell? ⟨w.heap.size,x*8+y,none⟩=some (.int .i64 (decOr d x y how x y:Nat)):=fun W h=>below_cell (hS W h) HC1.out
 have K0:=zh k0;have HS:=zh hS;clear k0 hS;simp only[pT]
 repeat (first
  |refine xN ?_
  |refine xV K0 ?_
  |(refine held_skip rfl (by rfl) ?_ ?_;(· (intro W hW;have q0:=K0.out W hW;go_simp;try with_reducible rfl));try simp only[pZ]))
 refine held_nil ?_;intro τ hτ w5 hW hO;obtain rfl:=laid0 hτ;have hb5:=HS.out w5 hW;have g0:=B0.out.below' hb5;have g1:=B1.out.below' hb5;have f1:=g0.frozen;have c1:w5.cell? ⟨w.heap.size,y*8+x,none⟩=some (.int .i64 (decOr d x y how y x:Nat)):=by rw[g0.cell,dciCells_at _ hy hx]
 have hB5:=gB.trans (hb5.mono gB.size);have G0:=zh g0;have G1:=zh g1;clear hτ hO hW K0 HS hb5 g0 g1 B0 B1 HC1 gB;simp only[overs,List.foldl_nil]
 go_upto_region 3 with fail
 have g0:=dci_put (v:=decOr d x y how x y) G0.out hy hx;have g1:=G1.out.far (p:=⟨w.heap.size,y*8+x,none⟩) zS (.int .i64 ((decOr d x y how x y:Nat):Int));have gB:=hB5.setCell (p:=⟨w.heap.size,y*8+x,none⟩) zS (.int .i64 ((decOr d x y how x y:Nat):Int));rw[HE.out] at g0;clear hB5 G0 G1 f1 c1;generalize w5.setCell ⟨w.heap.size,y*8+x,none⟩ (.int .i64 ((decOr d x y how x y:Nat):Int))=w6 at *;have hL:=run_load_row (P:=Tryz.prog) g0 Tryz.underlying232 rfl (dci_info _);have hS:=run_store_row (P:=Tryz.prog) (T:=dciCells (decWith d x y how)) g1 (dci_info _) (by rw[dciCells_size,dciCells_size]) (dci_one _)
 go_wp2_with (first
  |(refine wpList_load_box rfl 232 _ rfl rfl hL ?_)
  |(refine wpList_store_box rfl 232 _ _ rfl rfl rfl hS ?_))
 refine bodyPost_ret (results_cell rfl rfl (run_loadVar_row _ _ 232 232 _ (0,0) _ g1.setRow_same Tryz.underlying232 rfl (dci_info _))) rfl ?_;exact⟨rfl,below_setRow gB zO _⟩
theorem natInts_contains (l:List Nat)(x:Nat):(natInts l).contains (x:Int)=l.contains x:=by
 rw[Bool.eq_iff_iff,List.contains_iff_mem,List.contains_iff_mem];simp only[natInts,List.mem_map];constructor
 ·rintro⟨a,ha,e⟩;have:a=x:=by omega
  exact this▸ha
 ·exact fun h=>⟨x,h,rfl⟩
theorem own_has {w:World}{base:Nat}{v:Value}{L:List Nat}(h:w.ownsRow base 3 1 v L.length ((natInts L).map (Value.int .i64))):∃a cap,v = .slice a L.length cap∧Ints w a (natInts L):=by
 obtain⟨a,cap,hv,hr,_⟩:=ownsRow_own h;exact⟨a,cap,hv,ints_rowOwn hr⟩
theorem has_nat (a:Option Addr)(c:Nat)(L:List Nat)(x:Nat)(w:World)(h:Ints w a (natInts L))(hl:L.length≤1000000):
 Calls Tryz.prog 194 #[.slice a L.length c,.int .i64 x] w fun e w'=>e = .returned (.bool (L.contains x))∧Below w.heap.size w w':=by
 have:=has_any a c (natInts L) x w h (by simpa[natInts] using hl);rw[natInts_contains,natInts_len] at this;exact this.mono fun e w' ⟨h1,h2⟩=>⟨h1,by rw[←h2];exact Below.refl _ _⟩
theorem classR_any (d:Dec)(hs:SymD d)(hd:∀a b,d a b≤3)(a:Nat)(ha:a<8)(w:World):
 Calls Tryz.prog 235 #[.agg (dciCells d),.int .i64 a] w fun e w'=>∃v,e = .returned v∧w'.ownsRow w.heap.size 3 1 v (clsR d a).length ((natInts (clsR d a)).map (Value.int .i64))∧Below w.heap.size w w':=by
 obtain⟨w1,hw1⟩:=zx (w.alloc (.cells (dciCells d) 232));have hB1:Below w.heap.size w w1:=by rw[←hw1];go_grown
 have b0:Box w1 w.heap.size (dciCells d) 232:=by rw[←hw1];exact Box.new _ _ _
 have hs1:w1.heap.size=w.heap.size+1:=by rw[←hw1];simp
 have HW:=zh hw1;have HS:=zh hs;have HD:=zh hd;clear hs hd hw1
 go_enter Tryz.func235,Tryz.ntmps235
 go_upto_region 1 with fail
 simp only[HW.out]
 go_upto_region 2 with fail
 have g0:Box (w1.alloc (.cells #[.int .i64 a] 3)) w.heap.size (dciCells d) 232:=b0.alloc _;have gb:Below w.heap.size w (w1.alloc (.cells #[.int .i64 a] 3)):=hB1.alloc zO _;have go:(w1.alloc (.cells #[.int .i64 a] 3)).ownsRow (w.heap.size+1) 3 1 (.slice (some ⟨w.heap.size+1,0,none⟩) 1 1) 1 [.int .i64 a]:=ownsRow_one (Box.new' hs1.symm) zO;have gs:w.heap.size+1≤(w1.alloc (.cells #[.int .i64 a] 3)).heap.size:=by simp;omega
 generalize w1.alloc (.cells #[.int .i64 a] 3)=w2 at *;have G0:=zh g0;have GB:=zh gb;have GO:=zh go;clear g0 gb go b0 hB1 hs1 HW
 go_wp2_with fail
 go_loopw [5,6] (fun lv iv wr=>∃(L:List Nat) (i:Nat),i≤L.length∧iv = .int .i64 i∧Bfs d a L i 0∧wr.ownsRow (w.heap.size+1) 3 1 lv L.length ((natInts L).map (Value.int .i64))∧Box wr w.heap.size (dciCells d) 232∧Below w.heap.size w wr∧w.heap.size+1≤wr.heap.size) (fun _ iv _=>8-(intOf iv).toNat)
 case atStart=>exact⟨[a],0,by simp,rfl,Bfs.start ha,GO.out,G0.out,GB.out,gs⟩
 case round=>
  clear G0 GB GO gs;obtain⟨L,i,hil,rfl,hbfs,hown,hbx,hbw,hgs⟩:=hrel;have HF:=zh hbfs;have HO:=zh hown;have HX:=zh hbx;have HBW:=zh hbw;clear hbfs hown hbx hbw;obtain⟨a5,c5,rfl,hi5⟩:=own_has HO.out;have hL8:=HF.out.len
  by_cases hlt:i<L.length
  ·have hlti:(i:Int)<(L.length:Int):=by omega
   clear hi5
   go_wp2_with fail
   go_loopw [5,7] (fun lv jv wx=>∃(M:List Nat) (b:Nat),b≤8∧jv = .int .i64 b∧i<M.length∧Bfs d a M i b∧wx.ownsRow (w.heap.size+1) 3 1 lv M.length ((natInts M).map (Value.int .i64))∧Box wx w.heap.size (dciCells d) 232∧Below w.heap.size w wx∧w.heap.size+1≤wx.heap.size) (fun _ jv _=>8-(intOf jv).toNat)
   case atStart=>exact⟨L,0,Nat.zero_le _,rfl,hlt,HF.out,HO.out,HX.out,HBW.out,hgs⟩
   case round=>
    clear HF HO HX HBW hgs hlti hlt hL8 hil;obtain⟨M,b,hb8,rfl,hlt,hbfs,hown,hbx,hbw,hgs⟩:=hrel;have HF:=zh hbfs;have HO:=zh hown;have HX:=zh hbx;have HBW:=zh hbw;clear hbfs hown hbx hbw;obtain⟨a6,c6,rfl,hi6⟩:=own_has HO.out;have hM8:=HF.out.len
    by_cases hbl:b<8
    ·have hbi:(b:Int)<8:=by omega
     obtain⟨x,hx⟩:=get_of_lt M hlt;have hx8:=HF.out.lt x (List.mem_of_getElem? hx);have hxi:(x:Int)<8:=by omega
     have hlti:(i:Int)<(M.length:Int):=by omega
     obtain⟨ba,oa,rfl,hcell⟩:=hi6.base (by simp[natInts];omega);have c1:=hcell i (x:Int) (by simp[natInts,hx]);have c2:wr.cell? ⟨w.heap.size,x*8+b,none⟩=some (.int .i64 (d x b:Nat)):=by rw[HX.out.cell,dciCells_at _ hx8 hbl]
     have HC1:=zh c1;have HC2:=zh c2;have HHAS:=zh (has_nat (some ⟨ba,oa,none⟩) c6 M b wr hi6 zO);have hbit:(bits .and .i64 (d x b:Int) 1==1)=decide (d x b &&& 1≠0):=bit_is (HD.out x b) (.inl rfl);have HXX:=zh hx;clear c1 c2 hcell hi6 hx
     by_cases he:d x b &&& 1≠0
     ·rw[decide_eq_true he] at hbit;have HE:=zh he;clear he
      rcases hc:M.contains b with _|_
      ·rw[hc] at HHAS;have HCC:=zh hc;clear hc
       go_upto_region 9 with (go_at_call 194;refine zM HHAS ?_;rintro e w3 ⟨rfl,hb3⟩;have c1:=below_cell hb3 HC1.out;have c2:=below_cell hb3 HC2.out;have HB3:=zh hb3;clear hb3)
       obtain⟨v7,w7,hrun,hown,hb7⟩:=app_one (E:=3) (TT:=26) Tryz.underlying26 info_int rfl zO (ownsRow_keep HO.out (K:=fun _=>True) (Keep.of_below' HB3.out) (fun _ _=>trivial)) zO (Nat.le_trans hgs HB3.out.size) (.int .i64 b) rfl;have HRN:=zh hrun;have HOW:=zh hown;have HK7:=zh hb7;clear hrun hown hb7
       go_wp2_with (at_builtin;refine wpList_app rfl _ _ _ rfl rfl rfl HRN.out ?_)
       go_roundw
       case rel=>
        refine⟨M++[b],b+1,zO,zN,by simp;omega,HF.out.push HS.out HXX.out hbl HE.out (fun h=>by rw[List.contains_iff_mem.2 h] at HCC;exact absurd HCC.out zS),?_,(HX.out.below' HB3.out).below HK7.out zO,(HBW.out.trans (HB3.out.mono HBW.out.size)).trans (HK7.out.mono zO),by have:=HK7.out.size;have:=HB3.out.size;omega⟩;rw[natInts_snoc,List.map_append,List.length_append,List.length_singleton];exact HOW.out
       case measure=>exact zJ
      ·rw[hc] at HHAS;have HCC:=zh hc;clear hc
       go_wp2_with (go_at_call 194;refine zM HHAS ?_;rintro e w3 ⟨rfl,hb3⟩;have c1:=below_cell hb3 HC1.out;have c2:=below_cell hb3 HC2.out;have HB3:=zh hb3;clear hb3)
       go_roundw
       case rel=>exact⟨M,b+1,zO,zN,hlt,HF.out.skip HXX.out (.inr (List.contains_iff_mem.1 HCC.out)),ownsRow_keep HO.out (K:=fun _=>True) (Keep.of_below' HB3.out) (fun _ _=>trivial),HX.out.below' HB3.out,HBW.out.trans (HB3.out.mono HBW.out.size),Nat.le_trans hgs HB3.out.size⟩
       case measure=>exact zJ
     ·rw[decide_eq_false he] at hbit;have HE:=zh (Classical.byContradiction fun h=>he h:d x b &&& 1=0);clear he
      go_wp2_with (go_at_call 194;refine zM HHAS ?_;rintro e w3 ⟨rfl,hb3⟩;have c1:=below_cell hb3 HC1.out;have c2:=below_cell hb3 HC2.out;have HB3:=zh hb3;clear hb3)
      go_roundw
      case rel=>exact⟨M,b+1,zO,zN,hlt,HF.out.skip HXX.out (.inl HE.out),ownsRow_keep HO.out (K:=fun _=>True) (Keep.of_below' HB3.out) (fun _ _=>trivial),HX.out.below' HB3.out,HBW.out.trans (HB3.out.mono HBW.out.size),Nat.le_trans hgs HB3.out.size⟩
      case measure=>exact zJ
    ·have hbe:b=8:=by omega
     subst hbe;clear hi6
     go_wp2_with fail
     go_roundw
     case rel=>exact⟨M,i+1,hlt,zN,HF.out.next,HO.out,HX.out,HBW.out,hgs⟩
     case measure=>exact zJ
  ·have hout:=HF.out.out HS.out hlt;have HOUT:=zh hout;have HI5:=zh hi5;clear hout hi5
   go_wp2_with fail
   obtain⟨wq,hwq⟩:∃wq:World,wq=wr:=⟨_,rfl⟩
   subst hwq
   go_loopw [9,10] (fun ov kv wx=>∃k:Nat,k≤8∧kv = .int .i64 k∧wx.ownsRow wq.heap.size 3 1 ov (outDc L k).length ((natInts (outDc L k)).map (Value.int .i64))∧Below wq.heap.size wq wx) (fun _ kv _=>8-(intOf kv).toNat)
   case atStart=>exact⟨0,Nat.zero_le _,rfl,ownsRow_nil _ _ _ _,Below.refl _ _⟩
   case round=>
    obtain⟨k,hk,rfl,hown,hbq⟩:=hrel;have HOQ:=zh hown;have HBQ:=zh hbq;have HHAS:=zh (has_nat a5 c5 L k wr (HI5.out.below hbq) zO);clear hown hbq
    by_cases hk8:k<8
    ·have hki:(k:Int)<8:=by omega
     have hol:=outTo_len L k
     rcases hc:L.contains k with _|_
     ·rw[hc] at HHAS
      go_wp2_with (go_at_call 194;refine zM HHAS ?_;rintro e w3 ⟨rfl,hb3⟩;have HB3:=zh hb3;clear hb3)
      go_roundw
      case rel=>
       refine⟨k+1,zO,zN,?_,HBQ.out.trans (HB3.out.mono HBQ.out.size)⟩;rw[outDc_succ,hc]
       simpa using ownsRow_keep HOQ.out (K:=fun _=>True) (Keep.of_below' HB3.out) (fun _ _=>trivial)
      case measure=>exact zJ
     ·rw[hc] at HHAS
      go_upto_region 17 with (go_at_call 194;refine zM HHAS ?_;rintro e w3 ⟨rfl,hb3⟩;have HB3:=zh hb3;clear hb3)
      obtain⟨v7,w7,hrun,hown,hb7⟩:=app_one (E:=3) (TT:=26) Tryz.underlying26 info_int rfl zO (ownsRow_keep HOQ.out (K:=fun _=>True) (Keep.of_below' HB3.out) (fun _ _=>trivial)) zO (Nat.le_trans HBQ.out.size HB3.out.size) (.int .i64 k) rfl;have HRN:=zh hrun;have HOW:=zh hown;have HK7:=zh hb7;clear hrun hown hb7
      go_wp2_with (at_builtin;refine wpList_app rfl _ _ _ rfl rfl rfl HRN.out ?_)
      go_roundw
      case rel=>
       refine⟨k+1,zO,zN,?_,(HBQ.out.trans (HB3.out.mono HBQ.out.size)).trans HK7.out⟩;rw[outDc_succ,hc];simp only[if_true];rw[natInts_snoc,List.map_append,List.length_append,List.length_singleton];exact HOW.out
      case measure=>exact zJ
    ·have hke:k=8:=by omega
     subst hke
     go_wp2_with fail
     go_ret
     have h:=HOQ.out;rw[HOUT.out] at h;exact⟨_,rfl,ownsRow_less h HBW.out.size,HBW.out.trans (HBQ.out.mono HBW.out.size)⟩
theorem any_upto {α:Type}{l:List α}{p:α→Bool}(h:∀(k:Nat) x,l[k]?=some x→p x=false):l.any p=false:=by
 rw[List.any_eq_false];intro x hx;obtain⟨k,hk⟩:=List.mem_iff_getElem?.1 hx
 simp[h k x hk]
theorem any_here {α:Type}{l:List α}{p:α→Bool}{k:Nat}{x:α}(hx:l[k]?=some x)(hp:p x=true):l.any p=true:=by
 rw[List.any_eq_true];exact⟨x,List.mem_of_getElem? hx,hp⟩
theorem below_next {α:Type}{l:List α}{P:α→Prop}{k:Nat}{x:α}(h:∀(j:Nat) y,j<k→l[j]?=some y→P y)(hx:l[k]?=some x)(hp:P x):∀(j:Nat) y,j<k+1→l[j]?=some y→P y:=fun j y hj hy=>by
 rcases Nat.lt_or_ge j k with h1|h1
 ·exact h j y h1 hy
 ·have:j=k:=by omega
  subst this;rw[hx] at hy;cases hy;exact hp
theorem below_end {α:Type}{l:List α}{P:α→Prop}{k:Nat}(h:∀(j:Nat) y,j<k→l[j]?=some y→P y)(hk:¬k<l.length):∀(j:Nat) y,l[j]?=some y→P y:=fun j y hy=>h j y (by have:=(List.getElem?_eq_some_iff.1 hy).1;omega) hy
theorem nat_cell {w:World}{a:Option Addr}{L:List Nat}(h:Ints w a (natInts L)){k x:Nat}(hx:L[k]?=some x):∃b o,a=some ⟨b,o,none⟩∧w.cell? ⟨b,o+k,none⟩=some (.int .i64 (x:Int)):=by
 obtain⟨b,o,ha,hc⟩:=h k (.int .i64 (x:Int)) (by simp[natInts,hx]);exact⟨b,o,ha,hc⟩
theorem partedR_any (d:Dec)(hd:∀a b,d a b≤3)(one two:List Nat)(h1:∀x∈one,x<8)(h2:∀x∈two,x<8)(l1:one.length≤1000000)(l2:two.length≤1000000)(a1 a2:Option Addr)(c1 c2:Nat)(w:World)(i1:Ints w a1 (natInts one))(i2:Ints w a2 (natInts two)):
 Calls Tryz.prog 236 #[.agg (dciCells d),.slice a1 one.length c1,.slice a2 two.length c2] w fun e w'=>e = .returned (.bool (partedR d one two))∧Below w.heap.size w w':=by
 obtain⟨w1,hw1⟩:=zx (w.alloc (.cells (dciCells d) 232));have hB1:Below w.heap.size w w1:=by rw[←hw1];go_grown
 have b0:Box w1 w.heap.size (dciCells d) 232:=by rw[←hw1];exact Box.new _ _ _
 have HW:=zh hw1;have HD:=zh hd;have H1:=zh h1;have H2:=zh h2;have I1:=zh (i1.below hB1);have I2:=zh (i2.below hB1);have HX:=zh b0;have HB:=zh hB1;clear hd hw1 h1 h2 i1 i2 b0 hB1
 go_enter Tryz.func236,Tryz.ntmps236
 go_upto_region 1 with fail
 simp only[HW.out];clear HW
 go_wp2_with fail
 go_loopw [7] (fun iv wr=>∃i:Nat,i≤one.length∧iv = .int .i64 i∧Hid (∀(j:Nat) p,j<i→one[j]?=some p→(two.any fun q=>decide (d p q &&& 2≠0))=false)∧Below w1.heap.size w1 wr) (fun iv _=>one.length-(intOf iv).toNat)
 case atStart=>exact⟨0,Nat.zero_le _,rfl,zh (fun j _ hj=>absurd hj (Nat.not_lt_zero j)),Below.refl _ _⟩
 case round=>
  obtain⟨i,hi,rfl,HA,hbw⟩:=hrel;have HBW:=zh hbw;clear hbw
  by_cases hil:i<one.length
  ·have hili:(i:Int)<(one.length:Int):=by omega
   obtain⟨p,hp⟩:=get_of_lt one hil;have HP:=zh hp;clear hp
   go_wp2_with fail
   go_loopw [8] (fun kv wx=>∃k:Nat,k≤two.length∧kv = .int .i64 k∧Hid (∀(j:Nat) q,j<k→two[j]?=some q→decide (d p q &&& 2≠0)=false)∧Below w1.heap.size w1 wx) (fun kv _=>two.length-(intOf kv).toNat)
   case atStart=>exact⟨0,Nat.zero_le _,rfl,zh (fun j _ hj=>absurd hj (Nat.not_lt_zero j)),HBW.out⟩
   case round=>
    clear HBW;obtain⟨k,hk,rfl,HK,hbw⟩:=hrel;have HBW:=zh hbw;clear hbw
    by_cases hkl:k<two.length
    ·have hkli:(k:Int)<(two.length:Int):=by omega
     obtain⟨q,hq⟩:=get_of_lt two hkl;obtain⟨b1,o1,ha1,e1⟩:=nat_cell (I1.out.below HBW.out) HP.out;obtain⟨b2,o2,ha2,e2⟩:=nat_cell (I2.out.below HBW.out) hq;subst ha1;subst ha2;have hp8:=H1.out p (List.mem_of_getElem? HP.out);have hq8:=H2.out q (List.mem_of_getElem? hq);have hpi:(p:Int)<8:=by omega
     have hqi:(q:Int)<8:=by omega
     have e3:wr.cell? ⟨w.heap.size,p*8+q,none⟩=some (.int .i64 (d p q:Nat)):=by rw[(HX.out.below' HBW.out).cell,dciCells_at _ hp8 hq8]
     have hbit:(bits .and .i64 (d p q:Int) 2==2)=decide (d p q &&& 2≠0):=bit_is (HD.out p q) (.inr rfl);have HC:=zh (And.intro e1 (And.intro e2 e3));have HQ:=zh hq;clear e1 e2 e3 hq
     rcases hc:decide (d p q &&& 2≠0) with _|_
     ·rw[hc] at hbit;have HCC:=zh hc;clear hc
      go_wp2_with fail
      refine wp_region_heldB 13 [] zK zK zK zS ?_;intro S hS;have k0:=fun W (h:S W)=>(⟨below_cell (hS W h) HC.out.1,below_cell (hS W h) HC.out.2.1,below_cell (hS W h) HC.out.2.2⟩:_∧_∧_)
      have K0:=zh k0;have HSS:=zh hS;clear k0 hS;simp only[pT]
      repeat (first
       |refine xN ?_
       |refine xV K0 ?_
       |(refine held_skip rfl (by rfl) ?_ ?_;(· (intro W hW;obtain⟨q0,q1,q2⟩:=K0.out W hW;go_simp;try with_reducible rfl));try simp only[pZ]))
      refine held_nil ?_;intro τ hτ wn hW hO;obtain rfl:=laid0 hτ;have HBN:=zh (HBW.out.trans ((HSS.out wn hW).mono HBW.out.size));clear hτ hO hW K0 HSS;simp only[overs,List.foldl_nil]
      go_wp2_with fail
      go_roundw
      case rel=>exact⟨k+1,zO,zN,zh (below_next HK.out HQ.out HCC.out),HBN.out⟩
      case measure=>exact zJ
     ·rw[hc] at hbit;have HCC:=zh hc;clear hc
      go_wp2_with fail
      refine wp_region_heldB 13 [] zK zK zK zS ?_;intro S hS;have k0:=fun W (h:S W)=>(⟨below_cell (hS W h) HC.out.1,below_cell (hS W h) HC.out.2.1,below_cell (hS W h) HC.out.2.2⟩:_∧_∧_)
      have K0:=zh k0;have HSS:=zh hS;clear k0 hS;simp only[pT]
      repeat (first
       |refine xN ?_
       |refine xV K0 ?_
       |(refine held_skip rfl (by rfl) ?_ ?_;(· (intro W hW;obtain⟨q0,q1,q2⟩:=K0.out W hW;go_simp;try with_reducible rfl));try simp only[pZ]))
      refine held_nil ?_;intro τ hτ wn hW hO;obtain rfl:=laid0 hτ;have HBN:=zh (HBW.out.trans ((HSS.out wn hW).mono HBW.out.size));clear hτ hO hW K0 HSS;simp only[overs,List.foldl_nil]
      go_wp2_with fail
      go_ret
      exact⟨ret_bool (any_here HP.out (any_here HQ.out HCC.out)).symm,HB.out.trans (HBN.out.mono HB.out.size)⟩
    ·have hno:(two.any fun q=>decide (d p q &&& 2≠0))=false:=any_upto (below_end HK.out hkl);have HNO:=zh hno;clear hno
     go_wp2_with fail
     go_roundw
     case rel=>exact⟨i+1,zO,zN,zh (below_next HA.out HP.out HNO.out),HBW.out⟩
     case measure=>exact zJ
  ·have hno:partedR d one two=false:=any_upto (below_end HA.out hil);have HNO:=zh hno;clear hno
   go_wp2_with fail
   go_ret
   exact⟨ret_bool HNO.out.symm,HB.out.trans (HBW.out.mono HB.out.size)⟩
theorem list_at {α:Type}{l:List α}{k:Nat}{x:α}(h:l[k]?=some x):l=l.take k++x::l.drop (k+1):=by
 obtain⟨hk,rfl⟩:=List.getElem?_eq_some_iff.1 h;rw[←List.drop_eq_getElem_cons hk,List.take_append_drop]
theorem take_all {α:Type}{l:List α}{k:Nat}{P:α→Prop}(h:∀(j:Nat) y,j<k→l[j]?=some y→P y):∀y∈l.take k,P y:=fun y hy=>by
 obtain⟨j,hj⟩:=List.mem_iff_getElem?.1 hy;have h1:=(List.getElem?_eq_some_iff.1 hj).1;rw[List.length_take] at h1;rw[List.getElem?_take_of_lt zO] at hj;exact h j y zO hj
theorem clashR_none {c:Cs}{one two:List Nat}(h:∀p∈one,∀q∈two,clashB c p q=false):clashR c one two=none:=by
 unfold clashR;rw[List.find?_eq_none];rintro⟨p,q⟩ hz;obtain⟨p',hp,hq⟩:=List.mem_flatMap.1 hz;obtain⟨q',hq',e⟩:=List.mem_map.1 hq;cases e
 simp[h p hp q hq']
theorem clashR_some {c:Cs}{one two:List Nat}{i k p q:Nat}(h1:∀(j:Nat) y,j<i→one[j]?=some y→∀z∈two,clashB c y z=false)(hp:one[i]?=some p)(h2:∀(j:Nat) z,j<k→two[j]?=some z→clashB c p z=false)(hq:two[k]?=some q)(hc:clashB c p q=true):clashR c one two=some (p,q):=by
 have e1:clashR c (one.take i) two=none:=clashR_none (take_all h1);unfold clashR at e1 ⊢;have e2:=list_at hp;have e3:=list_at hq;rw[e2,List.flatMap_append,List.find?_append,e1,Option.none_or,List.flatMap_cons,List.find?_append];have e4:(two.map fun q=>(p,q)).find? (fun z=>clashB c z.1 z.2)=some (p,q):=by
  rw[e3,List.map_append,List.find?_append];have e5:((two.take k).map fun q=>(p,q)).find? (fun z=>clashB c z.1 z.2)=none:=by
   rw[List.find?_eq_none];intro z hz;obtain⟨y,hy,rfl⟩:=List.mem_map.1 hz
   simp[take_all h2 y hy]
  rw[e5,Option.none_or,List.map_cons,List.find?_cons_of_pos (by simpa using hc)]
 rw[e4]
 rfl
def clashOut (o:Option (Nat×Nat)):Value:=.tuple #[.agg #[.int .i64 ((o.getD (0,0)).1:Nat),.int .i64 ((o.getD (0,0)).2:Nat)],.bool o.isSome]
theorem pair_size:(Tryz.prog.info? 57).map (·.size)=some 2:=zK
theorem clashingR_any (c:Cs)(hn:c.parts.length≤12)(pa:Option Addr)(pc:Nat)(one two:List Nat)(h1:∀x∈one,x<c.parts.length)(h2:∀x∈two,x<c.parts.length)(l1:one.length≤1000000)(l2:two.length≤1000000)(a1 a2:Option Addr)(c1 c2:Nat)(w:World)(hpa:PartsAt w pa c.parts)(i1:Ints w a1 (natInts one))(i2:Ints w a2 (natInts two)):
 Calls Tryz.prog 237 #[.agg #[.string c.ware,.int .i64 c.limit,.int .i64 c.by_,.slice pa c.parts.length pc],.slice a1 one.length c1,.slice a2 two.length c2] w fun e w'=>e = .returned (clashOut (clashR c one two))∧Below w.heap.size w w':=by
 obtain⟨w1,hw1⟩:=zx ((w.alloc (.cells #[.string c.ware,.int .i64 c.limit,.int .i64 c.by_,.slice pa c.parts.length pc] 24)).alloc (.cells #[.int .i64 0,.int .i64 0] 57));have hB1:Below w.heap.size w w1:=by rw[←hw1];go_grown
 have b0:Box w1 w.heap.size (csCells c pa pc) 24:=by rw[←hw1];exact(Box.new _ _ _).alloc _
 have b1:Box w1 (w.heap.size+1) #[.int .i64 0,.int .i64 0] 57:=by rw[←hw1];exact Box.new' zS
 have HW:=zh hw1;have H1:=zh h1;have H2:=zh h2;have HPA:=zh (hpa.below hB1);have I1:=zh (i1.below hB1);have I2:=zh (i2.below hB1);have HX:=zh b0;have HY:=zh b1;have HB:=zh hB1;clear hw1 h1 h2 i1 i2 b0 b1 hB1 hpa
 go_enter Tryz.func237,Tryz.ntmps237
 go_upto_region 1 with fail
 simp only[HW.out];clear HW
 go_wp2_with fail
 go_loopw [8] (fun iv wr=>∃i:Nat,i≤one.length∧iv = .int .i64 i∧Hid (∀(j:Nat) p,j<i→one[j]?=some p→∀q∈two,clashB c p q=false)∧Below w1.heap.size w1 wr) (fun iv _=>one.length-(intOf iv).toNat)
 case atStart=>exact⟨0,Nat.zero_le _,rfl,zh (fun j _ hj=>absurd hj (Nat.not_lt_zero j)),Below.refl _ _⟩
 case round=>
  obtain⟨i,hi,rfl,HA,hbw⟩:=hrel;have HBW:=zh hbw;clear hbw
  by_cases hil:i<one.length
  ·have hili:(i:Int)<(one.length:Int):=by omega
   obtain⟨p,hp⟩:=get_of_lt one hil;have HP:=zh hp;clear hp
   go_wp2_with fail
   go_loopw [9] (fun kv wx=>∃k:Nat,k≤two.length∧kv = .int .i64 k∧Hid (∀(j:Nat) q,j<k→two[j]?=some q→clashB c p q=false)∧Below w1.heap.size w1 wx) (fun kv _=>two.length-(intOf kv).toNat)
   case atStart=>exact⟨0,Nat.zero_le _,rfl,zh (fun j _ hj=>absurd hj (Nat.not_lt_zero j)),HBW.out⟩
   case round=>
    clear HBW;obtain⟨k,hk,rfl,HK,hbw⟩:=hrel;have HBW:=zh hbw;clear hbw
    by_cases hkl:k<two.length
    ·have hkli:(k:Int)<(two.length:Int):=by omega
     obtain⟨q,hq⟩:=get_of_lt two hkl;obtain⟨b1,o1,ha1,e1⟩:=nat_cell (I1.out.below HBW.out) HP.out;obtain⟨b2,o2,ha2,e2⟩:=nat_cell (I2.out.below HBW.out) hq;subst ha1;subst ha2;have hp8:=H1.out p (List.mem_of_getElem? HP.out);have hq8:=H2.out q (List.mem_of_getElem? hq);have HC:=zh (And.intro e1 e2);have HQ:=zh hq;have hcl:=fun W (h:Below wr.heap.size wr W)=>clash_ref c hn p q pa pc W (HPA.out.below (HBW.out.trans (h.mono HBW.out.size))) hp8 hq8
     clear e1 e2 hq
     rcases hc:clashB c p q with _|_
     ·rw[hc] at hcl;have HCL:=zh hcl;have HCC:=zh hc;clear hc hcl
      go_wp2_with fail
      obtain⟨cb,hcb⟩:∃cb:Bool,false=cb:=⟨_,rfl⟩
      rw[hcb] at HCL;have HCB:=zh hcb;clear hcb;refine wp_region_heldB 10 [] zK zK zK zS ?_;intro S hS;have k0:=fun W (h:S W)=>(⟨below_cell (hS W h) HC.out.1,below_cell (hS W h) HC.out.2,fun i=>by rw[(HX.out.below' (HBW.out.trans ((hS W h).mono HBW.out.size))).cell];rfl⟩:_∧_∧cC W (w.heap.size) c pa pc)
      have K0:=zh k0;have HSS:=zh hS;clear k0 hS;simp only[pT]
      repeat (first
       |refine xN ?_
       |refine xV K0 ?_
       |(refine held_skip rfl (by rfl) ?_ ?_;(· (intro W hW;obtain⟨q0,q1,q2⟩:=K0.out W hW;go_simp;try with_reducible rfl));try simp only[pZ])
       |(refine xC (fun W hW=>HCL.out W (HSS.out W hW)) ?_ ?_;(· (intro W hW;go_simp;done))))
      refine held_nil ?_;intro τ hτ wn hW hO;obtain rfl:=laid0 hτ;have hbn:=HSS.out wn hW;have HBN:=zh (HBW.out.trans (hbn.mono HBW.out.size));have HCN:=zh (And.intro (below_cell hbn HC.out.1) (below_cell hbn HC.out.2));clear hτ hO hW K0 HSS hbn;simp only[overs,List.foldl_nil];have hcb:=HCB.out;subst hcb;clear HCB
      go_wp2_with fail
      go_roundw
      case rel=>exact⟨k+1,zO,zN,zh (below_next HK.out HQ.out HCC.out),HBN.out⟩
      case measure=>exact zJ
     ·rw[hc] at hcl;have HCL:=zh hcl;have HOUT:=zh (clashR_some HA.out HP.out HK.out HQ.out hc);clear hc hcl
      go_wp2_with fail
      obtain⟨cb,hcb⟩:∃cb:Bool,true=cb:=⟨_,rfl⟩
      rw[hcb] at HCL;have HCB:=zh hcb;clear hcb;refine wp_region_heldB 10 [] zK zK zK zS ?_;intro S hS;have k0:=fun W (h:S W)=>(⟨below_cell (hS W h) HC.out.1,below_cell (hS W h) HC.out.2,fun i=>by rw[(HX.out.below' (HBW.out.trans ((hS W h).mono HBW.out.size))).cell];rfl⟩:_∧_∧cC W (w.heap.size) c pa pc)
      have K0:=zh k0;have HSS:=zh hS;clear k0 hS;simp only[pT]
      repeat (first
       |refine xN ?_
       |refine xV K0 ?_
       |(refine held_skip rfl (by rfl) ?_ ?_;(· (intro W hW;obtain⟨q0,q1,q2⟩:=K0.out W hW;go_simp;try with_reducible rfl));try simp only[pZ])
       |(refine xC (fun W hW=>HCL.out W (HSS.out W hW)) ?_ ?_;(· (intro W hW;go_simp;done))))
      refine held_nil ?_;intro τ hτ wn hW hO;obtain rfl:=laid0 hτ;have hbn:=HSS.out wn hW;have HBN:=zh (HBW.out.trans (hbn.mono HBW.out.size));have HCN:=zh (And.intro (below_cell hbn HC.out.1) (below_cell hbn HC.out.2));clear hτ hO hW K0 HSS hbn;simp only[overs,List.foldl_nil];have hcb:=HCB.out;subst hcb;clear HCB
      go_wp2_with fail
      refine wp_region_heldB 9 [] zK zK zK zS ?_;intro S hS;have k0:=fun W (h:S W)=>(⟨below_cell (hS W h) HCN.out.1,below_cell (hS W h) HCN.out.2⟩:_∧_)
      have K0:=zh k0;have HSS:=zh hS;clear k0 hS;simp only[pT]
      repeat (first
       |refine xN ?_
       |refine xV K0 ?_
       |(refine held_skip rfl (by rfl) ?_ ?_;(· (intro W hW;obtain⟨q0,q1⟩:=K0.out W hW;go_simp;try with_reducible rfl));try simp only[pZ]))
      refine held_nil ?_;intro τ hτ wm hW hO;obtain rfl:=laid0 hτ;have hbm:=HBN.out.trans ((HSS.out wm hW).mono HBN.out.size);have g1:=HY.out.below' hbm;obtain⟨f1,f2⟩:=g1.rules;have G1:=zh g1;have HBM:=zh (HB.out.trans (hbm.mono HB.out.size));clear hτ hO hW K0 HSS hbm g1;simp only[overs,List.foldl_nil]
      go_wp2_with fail
      refine bodyPost_ret (results_cell_tmp rfl rfl (run_loadVar_row _ _ 57 57 _ (0,0) _ ((G1.out.set_ 0 _).set_ 1 _) Tryz.underlying57 rfl pair_size)) rfl ?_;exact⟨by rw[HOUT.out];rfl,(HBM.out.setCell zS _).setCell zS _⟩
    ·have hno:∀q∈two,clashB c p q=false:=fun q hq=>by
      obtain⟨j,hj⟩:=List.mem_iff_getElem?.1 hq;exact below_end HK.out hkl j q hj
     have HNO:=zh hno;clear hno
     go_wp2_with fail
     go_roundw
     case rel=>exact⟨i+1,zO,zN,zh (below_next HA.out HP.out HNO.out),HBW.out⟩
     case measure=>exact zJ
  ·have hno:clashR c one two=none:=clashR_none fun p hp=>by
    obtain⟨j,hj⟩:=List.mem_iff_getElem?.1 hp;exact below_end HA.out hil j p hj
   have HNO:=zh hno;have g1:=HY.out.below' HBW.out;obtain⟨f1,f2⟩:=g1.rules;have G1:=zh g1;clear hno g1
   go_wp2_with fail
   refine bodyPost_ret (results_cell_tmp rfl rfl (run_loadVar_row _ _ 57 57 _ (0,0) _ ((G1.out.set_ 0 _).set_ 1 _) Tryz.underlying57 rfl pair_size)) rfl ?_;exact⟨by rw[HNO.out];rfl,((HB.out.trans (HBW.out.mono HB.out.size)).setCell zS _).setCell zS _⟩
theorem idsR_any (c:Cs)(hn:c.parts.length≤12)(x y:Nat)(pa:Option Addr)(pc:Nat)(w:World)(hpa:PartsAt w pa c.parts)(hx:x<c.parts.length)(hy:y<c.parts.length):
 Calls Tryz.prog 238 #[.agg #[.string c.ware,.int .i64 c.limit,.int .i64 c.by_,.slice pa c.parts.length pc],.int .i64 x,.int .i64 y] w fun e w'=>∃g,e = .returned (.slice (some ⟨g,0,none⟩) 2 2)∧Ints w' (some ⟨g,0,none⟩) (causeB c x y)∧(causeB c x y).length=2∧Below w.heap.size w w':=by
 obtain⟨b,o,p,rfl,hp,hP⟩:=hpa.at_ hx;obtain⟨b',o',q,hb',hq,hQ⟩:=hpa.at_ hy;cases hb';have HC:=zh (causeB_eq hp hq);obtain⟨w1,hw1⟩:=zx (w.alloc (.cells #[.string c.ware,.int .i64 c.limit,.int .i64 c.by_,.slice (some ⟨b,o,none⟩) c.parts.length pc] 24));have hB1:Below w.heap.size w w1:=by rw[←hw1];go_grown
 have b1:Box w1 w.heap.size (csCells c (some ⟨b,o,none⟩) pc) 24:=by rw[←hw1];exact Box.new _ _ _
 have e1:w1.cell? ⟨w.heap.size,3,none⟩=some (.slice (some ⟨b,o,none⟩) c.parts.length pc):=b1.cell 3;obtain⟨sa,sc,ra,rc,p0,p1,p2,p3,p4,p5,p6,p7,_⟩:=(hP.below hB1).open;have hxi:(x:Int)<(c.parts.length:Int):=by omega
 have hyi:(y:Int)<(c.parts.length:Int):=by omega
 have HW:=zh hw1;have HB:=zh hB1;have HQ:=zh (hQ.below hB1);have B1:=zh b1;clear hw1 hpa hp hq hP hQ b1
 go_enter Tryz.func238,Tryz.ntmps238
 go_upto_region 1 with fail
 simp only[HW.out]
 go_upto_region 2 with fail
 have hB2:Below w1.heap.size w1 (w1.alloc (.cells #[.slice sa p.sherds.length sc,.int .i64 p.span.low,.int .i64 p.span.high,.int .i64 p.span.lowBy,.int .i64 p.span.highBy,.bool p.foot,.int .i64 p.footBy,.slice ra p.rests.length rc] 80)):=(Below.refl _ _).alloc (Nat.le_refl _) _;have g1:Box (w1.alloc (.cells #[.slice sa p.sherds.length sc,.int .i64 p.span.low,.int .i64 p.span.high,.int .i64 p.span.lowBy,.int .i64 p.span.highBy,.bool p.foot,.int .i64 p.footBy,.slice ra p.rests.length rc] 80)) w1.heap.size #[.slice sa p.sherds.length sc,.int .i64 p.span.low,.int .i64 p.span.high,.int .i64 p.span.lowBy,.int .i64 p.span.highBy,.bool p.foot,.int .i64 p.footBy,.slice ra p.rests.length rc] 80:=Box.new _ _ _
 have e2:(w1.alloc (.cells #[.slice sa p.sherds.length sc,.int .i64 p.span.low,.int .i64 p.span.high,.int .i64 p.span.lowBy,.int .i64 p.span.highBy,.bool p.foot,.int .i64 p.footBy,.slice ra p.rests.length rc] 80)).cell? ⟨w.heap.size,3,none⟩=some (.slice (some ⟨b,o,none⟩) c.parts.length pc):=(B1.out.below' hB2).cell 3;obtain⟨sa',sc',ra',rc',d0,d1,d2,d3,d4,d5,d6,d7,_⟩:=(HQ.out.below hB2).open;generalize w1.alloc (.cells #[.slice sa p.sherds.length sc,.int .i64 p.span.low,.int .i64 p.span.high,.int .i64 p.span.lowBy,.int .i64 p.span.highBy,.bool p.foot,.int .i64 p.footBy,.slice ra p.rests.length rc] 80)=w2 at *;clear p0 p1 p2 p3 p4 p5 p6 p7 e1;have HB2:=zh hB2;have G1:=zh g1;clear g1 hB2
 go_upto_region 3 with fail
 have hB3:Below w2.heap.size w2 (w2.alloc (.cells #[.slice sa' q.sherds.length sc',.int .i64 q.span.low,.int .i64 q.span.high,.int .i64 q.span.lowBy,.int .i64 q.span.highBy,.bool q.foot,.int .i64 q.footBy,.slice ra' q.rests.length rc'] 80)):=(Below.refl _ _).alloc (Nat.le_refl _) _;have k1:=(G1.out.below' hB3).cell;have k2:=(Box.new w2 #[.slice sa' q.sherds.length sc',.int .i64 q.span.low,.int .i64 q.span.high,.int .i64 q.span.lowBy,.int .i64 q.span.highBy,.bool q.foot,.int .i64 q.footBy,.slice ra' q.rests.length rc'] 80).cell;have hB:Below w.heap.size w (w2.alloc (.cells #[.slice sa' q.sherds.length sc',.int .i64 q.span.low,.int .i64 q.span.high,.int .i64 q.span.lowBy,.int .i64 q.span.highBy,.bool q.foot,.int .i64 q.footBy,.slice ra' q.rests.length rc'] 80)):=HB.out.trans ((HB2.out.trans (hB3.mono HB2.out.size)).mono HB.out.size);have HBB:=zh hB
 clear hB3 hB d0 d1 d2 d3 d4 d5 d6 d7 e2;generalize w2.alloc (.cells #[.slice sa' q.sherds.length sc',.int .i64 q.span.low,.int .i64 q.span.high,.int .i64 q.span.lowBy,.int .i64 q.span.highBy,.bool q.foot,.int .i64 q.footBy,.slice ra' q.rests.length rc'] 80)=w3 at *
 rcases hf1:p.foot with _|_
 ·rw[hf1] at k1
  by_cases hlt:q.span.low<p.span.low
  ·have HE:=zh (show causeP p q=[p.span.lowBy,q.span.highBy] by simp[causeP,feetB,hf1,hlt]);clear hf1
   go_wp2_with fail
   go_ret
   exact⟨_,rfl,by rw[HC.out,HE.out];exact pair_ints _ _ _ _,by rw[HC.out,HE.out];rfl,HBB.out.alloc HBB.out.size _⟩
  ·have HE:=zh (show causeP p q=[q.span.lowBy,p.span.highBy] by simp[causeP,feetB,hf1,hlt]);clear hf1
   go_wp2_with fail
   go_ret
   exact⟨_,rfl,by rw[HC.out,HE.out];exact pair_ints _ _ _ _,by rw[HC.out,HE.out];rfl,HBB.out.alloc HBB.out.size _⟩
 ·rw[hf1] at k1
  rcases hf2:q.foot with _|_
  ·rw[hf2] at k2
   by_cases hlt:q.span.low<p.span.low
   ·have HE:=zh (show causeP p q=[p.span.lowBy,q.span.highBy] by simp[causeP,feetB,hf1,hf2,hlt]);clear hf1 hf2
    go_wp2_with fail
    go_ret
    exact⟨_,rfl,by rw[HC.out,HE.out];exact pair_ints _ _ _ _,by rw[HC.out,HE.out];rfl,HBB.out.alloc HBB.out.size _⟩
   ·have HE:=zh (show causeP p q=[q.span.lowBy,p.span.highBy] by simp[causeP,feetB,hf1,hf2,hlt]);clear hf1 hf2
    go_wp2_with fail
    go_ret
    exact⟨_,rfl,by rw[HC.out,HE.out];exact pair_ints _ _ _ _,by rw[HC.out,HE.out];rfl,HBB.out.alloc HBB.out.size _⟩
  ·rw[hf2] at k2;have HE:=zh (show causeP p q=[p.footBy,q.footBy] by simp[causeP,feetB,hf1,hf2]);clear hf1 hf2
   go_wp2_with fail
   go_ret
   exact⟨_,rfl,by rw[HC.out,HE.out];exact pair_ints _ _ _ _,by rw[HC.out,HE.out];rfl,HBB.out.alloc HBB.out.size _⟩
end
def PrtL (B M g:Nat)(W:World)(z:PrtM):Prop:=
 Ints W z.2.1.1 z.1.sherds∧Ints W z.2.2.1 z.1.rests∧z.1.sherds.length≤z.2.1.2∧z.1.rests.length≤z.2.2.2∧(∀b o,z.2.1.1=some ⟨b,o,none⟩→0<z.1.sherds.length→B≤b∧b<M∧b≠g)∧(∀b o,z.2.2.1=some ⟨b,o,none⟩→0<z.1.rests.length→B≤b∧b<M∧b≠g)
def PartsR (B M:Nat)(a:Option Addr)(W:World)(zs:List PrtM):Prop:=
 ∀i z,zs[i]?=some z→∃g,a=some ⟨g,0,none⟩∧B≤g∧g<M∧W.rangeAt g (i*8) (prtRow z)∧W.there g (i*8) 8∧PrtL B M g W z
theorem PartsV.toR {B:Nat}{W:World}{a:Option Addr}{k cap:Nat}{l:List Prt}(h:PartsV B W (.slice a k cap) l):∃zs,zs.map (·.1)=l∧PartsR B W.heap.size a W zs:=by
 obtain⟨zs,h1,h2,h3⟩:=h;refine⟨zs,h1,fun i z hz=>?_⟩;have hi:i<l.length:=by rw[←h1,List.length_map];exact(List.getElem?_eq_some_iff.1 hz).1
 obtain⟨q1,q2,q3,q4,q5,q6⟩:=h3 z (List.mem_of_getElem? hz);obtain⟨hlen,⟨_,h0⟩|⟨g,c,cur,hv,hBg,hg,hlc,hcm,hcs,htk⟩⟩:=id h2
 ·omega
 ·cases hv;have hgM:g<W.heap.size:=(h2.lt g rfl).2;have hrng:W.rangeAt g (i*8) (prtRow z):=fun j v hv=>by
   have hj:j<8:=(List.getElem?_eq_some_iff.1 hv).1;have:=h2.cells (g:=g) rfl (i*8+j) v (by rw[flat8_at hz hj];exact hv);rw[Addr.add_mid,Nat.zero_add] at this;exact this
  refine⟨g,rfl,hBg,hgM,hrng,fun j hj=>⟨?_,?_⟩,q1,q2,q3,q4,fun b o ha hl=>⟨(q5 b o ha hl).1,ints_block q1 ha hl,fun e=>(q5 b o ha hl).2 (by simp[Value.ownBlock,e])⟩,fun b o ha hl=>⟨(q6 b o ha hl).1,ints_block q2 ha hl,fun e=>(q6 b o ha hl).2 (by simp[Value.ownBlock,e])⟩⟩
  ·rw[hrng j _ (List.getElem?_eq_getElem (by rw[prtRow_len];exact hj))];rfl
  ·have hb:Box W g cur 80:=hg;exact hb.frozen _
theorem PartsR.keep {K:Nat→Prop}{B M:Nat}{a:Option Addr}{W W':World}{zs:List PrtM}(h:PartsR B M a W zs)(hk:Keep K W W')(hK:∀k,B≤k→k<M→K k):PartsR B M a W' zs:=fun i z hz=>by
 obtain⟨g,ha,hB,hM,h1,h2,q1,q2,q3,q4,q5,q6⟩:=h i z hz;have hlt:g<W.heap.size:=lt_of_cell (h1 0 _ rfl);have hb:W'.heap[g]?=W.heap[g]?:=hk.block g (hK g hB hM) hlt;exact⟨g,ha,hB,hM,fun j v hv=>hk.cell (hK g hB hM) (h1 j v hv),fun j hj=>by
  have:=h2 j hj;rw[World.cell?_of_block (a:=⟨g,i*8+j,none⟩) hb,World.frozen?_of_block (a:=⟨g,i*8+j,none⟩) hb];exact this,
  ints_keep q1 hk (fun b o ha hl=>hK b (q5 b o ha hl).1 (q5 b o ha hl).2.1),ints_keep q2 hk (fun b o ha hl=>hK b (q6 b o ha hl).1 (q6 b o ha hl).2.1),q3,q4,q5,q6⟩
theorem PartsR.below {B M:Nat}{a:Option Addr}{W W':World}{zs:List PrtM}(h:PartsR B M a W zs)(hb:Below W.heap.size W W'):PartsR B M a W' zs:=h.keep (K:=fun _=>True) (Keep.of_below' hb) (fun _ _ _=>trivial)
theorem PartsR.at_ {B M:Nat}{a:Option Addr}{W:World}{zs:List PrtM}(h:PartsR B M a W zs):PartsAt W a (zs.map (·.1)):=fun i p hp=>by
 rw[List.getElem?_map] at hp;obtain⟨z,hz,rfl⟩:=Option.map_eq_some_iff.1 hp;obtain⟨g,ha,hB,hM,h1,h2,q1,q2,q3,q4,q5,q6⟩:=h i z hz;exact⟨g,0,ha,z.2.1.1,z.2.1.2,z.2.2.1,z.2.2.2,fun j v hv=>by rw[Nat.zero_add];exact h1 j v hv,q1,q2,q3,q4⟩
theorem box_setCells {W:World}{b:Nat}{cs:Array Value}{t:TypeId}(h:Box W b cs t){g:Nat}(hg:b≠g):∀(o:Nat) (vs:List Value),Box (W.setCells g o vs) b cs t:=by
 intro o vs
 induction vs generalizing W o with
 |nil=>exact h
 |cons v vs ih=>unfold World.setCells;exact ih (h.far (by exact hg) _) _
theorem ints_cells {W:World}{a:Option Addr}{l:List Int}(h:Ints W a l){g:Nat}(hp:∀b o,a=some ⟨b,o,none⟩→0<l.length→b≠g)(o:Nat)(vs:List Value):Ints (W.setCells g o vs) a l:=fun k u hu=>by
 obtain⟨b,o',ha,hc⟩:=h k u hu;have hl:0<l.length:=by have:=(List.getElem?_eq_some_iff.1 hu).1;simp at this;omega
 refine⟨b,o',ha,?_⟩;rw[World.cell?_setCells_out g vs o W ⟨b,o'+k,none⟩ (fun e=>absurd e (hp b o' ha hl))];exact hc
def OwnP (Q:Nat→Prop)(W:World)(a:Option Addr)(l:List Prt):Prop:=∀W',Keep Q W W'→PartsAt W' a l
theorem OwnP.keep {Q:Nat→Prop}{W W':World}{a:Option Addr}{l:List Prt}(h:OwnP Q W a l)(hk:Keep Q W W'):OwnP Q W' a l:=fun W2 h2=>h W2 (hk.trans h2)
theorem OwnP.mono {Q Q':Nat→Prop}{W:World}{a:Option Addr}{l:List Prt}(h:OwnP Q W a l)(hq:∀k,Q k→Q' k):OwnP Q' W a l:=fun W2 h2=>h W2 (h2.mono hq)
theorem PartsR.own {B M:Nat}{W:World}{a:Option Addr}{zs:List PrtM}(h:PartsR B M a W zs):OwnP (fun k=>B≤k) W a (zs.map (·.1)):=fun W2 h2=>(h.keep h2 (fun k hk _=>hk)).at_
section
attribute [local go_sem] Oper.semAt_some
def spnCells (s:Spn):List Value:=[.int .i64 s.low,.int .i64 s.high,.int .i64 s.lowBy,.int .i64 s.highBy]
theorem span_size9:(Tryz.prog.info? 78).map (·.size)=some 4:=zK
theorem there_span {W:World}{g i:Nat}(h:W.there g (i*8) 8):W.there g (i*8+1) 4:=fun j hj=>by
 have:=h (1+j) zO
 rwa [←Nat.add_assoc] at this
theorem run_store_span {W:World}{g o:Nat}{s:Spn}(ht:W.there g o 4):
 (Instr.storeAt 78 (.pointer (some ⟨g,o,none⟩)) (.agg #[.int .i64 s.low,.int .i64 s.high,.int .i64 s.lowBy,.int .i64 s.highBy])).run Tryz.prog W = .ok () (W.setCells g o (spnCells s)):=
 run_storeAt_mid (P:=Tryz.prog) W g o 78 #[.int .i64 s.low,.int .i64 s.high,.int .i64 s.lowBy,.int .i64 s.highBy] ht span_size9 (by simp[Value.oneCell'])
theorem PartsR.span {B M:Nat}{a:Option Addr}{W:World}{zs:List PrtM}(h:PartsR B M a W zs){i:Nat}{z:PrtM}(hz:zs[i]?=some z){g:Nat}(hg:a=some ⟨g,0,none⟩)(s:Spn):
 PartsR B M a (W.setCells g (i*8+1) (spnCells s)) (zs.set i ({z.1 with span:=s},z.2)):=fun k y hy=>by
 have hth:W.there g (i*8) 8:=by
  obtain⟨g',ha,_,_,_,h2,_⟩:=h i z hz;rw[hg] at ha;cases ha;exact h2
 have lists:∀y:PrtM,PrtL B M g W y→PrtL B M g (W.setCells g (i*8+1) (spnCells s)) y:=fun y ⟨q1,q2,q3,q4,q5,q6⟩=>
  ⟨ints_cells q1 (fun b o ha hl=>(q5 b o ha hl).2.2) _ _,ints_cells q2 (fun b o ha hl=>(q6 b o ha hl).2.2) _ _,q3,q4,q5,q6⟩
 by_cases hki:k=i
 ·subst hki;obtain⟨g',ha,hB,hM,h1,h2,hq⟩:=h k z hz;rw[hg] at ha;cases ha;rw[List.getElem?_set_self (by exact(List.getElem?_eq_some_iff.1 hz).1)] at hy;cases hy;refine⟨g,hg,hB,hM,fun j v hv=>?_,World.there_setCells h2 _ _ _,lists z hq⟩;have hnew:=World.rangeAt_setCells_same W g (k*8+1) (spnCells s) (there_span hth);have hj:j<8:=(List.getElem?_eq_some_iff.1 hv).1;have out_:∀j,(j<1∨5≤j)→(W.setCells g (k*8+1) (spnCells s)).cell? ⟨g,k*8+j,none⟩=W.cell? ⟨g,k*8+j,none⟩:=fun j hj=>World.cell?_setCells_out g _ _ W ⟨g,k*8+j,none⟩ (fun _ _=>by simp only[spnCells,List.length_cons,List.length_nil];omega)
  match j,hj,hv with
  |0,_,hv=>exact(out_ 0 zO).trans (h1 0 v hv)
  |1,_,hv=>exact hnew 0 v hv
  |2,_,hv=>exact hnew 1 v hv
  |3,_,hv=>exact hnew 2 v hv
  |4,_,hv=>exact hnew 3 v hv
  |5,_,hv=>exact(out_ 5 zO).trans (h1 5 v hv)
  |6,_,hv=>exact(out_ 6 zO).trans (h1 6 v hv)
  |7,_,hv=>exact(out_ 7 zO).trans (h1 7 v hv)
 ·rw[List.getElem?_set_ne (fun e=>hki e.symm)] at hy;obtain⟨g',ha,hB,hM,h1,h2,hq⟩:=h k y hy;rw[hg] at ha;cases ha;refine⟨g,hg,hB,hM,World.rangeAt_setCells_apart h1 _ _ _ ?_,World.there_setCells h2 _ _ _,lists y hq⟩;rw[prtRow_len];simp only[spnCells,List.length_cons,List.length_nil]
  omega
theorem refAft_snoc (c:Cs)(l:List Prb):∀(xs:List (Nat×Nat)) (d:Cs) (v k:Nat) (p:Prb),l[v]?=some p→refAft c l (xs++[(v,k)]) d=narrowOf c (refAft c l xs d) p k
 |[],d,v,k,p,h=>by simp[refAft,h]
 |(u,j)::xs,d,v,k,p,h=>by
  rw[List.cons_append,refAft,refAft]
  split
  ·exact refAft_snoc c l xs d v k p h
  ·exact refAft_snoc c l xs _ v k p h
theorem narrow_set {d:Cs}{i:Nat}{lo hi id:Int}{zs:List PrtM}{z:PrtM}(hz:zs[i]?=some z)(hm:zs.map (·.1)=d.parts):(zs.set i ({z.1 with span:=(narrowP lo hi id z.1).span},z.2)).map (·.1)=(narrowC d i lo hi id).parts:=by
 rw[List.map_set,hm];unfold narrowC;simp only;have hq:d.parts[i]?=some z.1:=by rw[←hm,List.getElem?_map,hz];rfl
 apply List.ext_getElem?
 intro k;rw[List.getElem?_set,List.getElem?_modify]
 by_cases hk:i=k
 ·subst hk;have hl:=(List.getElem?_eq_some_iff.1 hq).1;rw[if_pos rfl,if_pos hl,hq]
  simp[narrowP]
 ·rw[if_neg hk]
  simp[hk]
theorem refAft_ware (c:Cs)(l:List Prb):∀(xs:List (Nat×Nat)) (d:Cs),(refAft c l xs d).ware=d.ware∧(refAft c l xs d).limit=d.limit∧(refAft c l xs d).by_=d.by_
 |[],d=>⟨rfl,rfl,rfl⟩
 |(v,k)::xs,d=>by
  rw[refAft]
  split
  ·exact refAft_ware c l xs d
  ·obtain⟨h1,h2,h3⟩:=refAft_ware c l xs (narrowOf c d _ k);exact⟨h1,h2,h3⟩
def AfterRPost (o:Option Cs)(w:World)(e:Ending)(w':World):Prop:=Below w.heap.size w w'∧∃cs b,e = .returned (.tuple #[.agg cs,.bool b])∧AftCells o w.heap.size w' cs b
theorem afterR9_any {c:Cs}{l:List Prb}(hsm:c.Small)(hz:probesErr c l=0)(pa:Option Addr)(pc:Nat)(qa:Option Addr)(qc:Nat)(sa:Option Addr)(s:List Nat)(sc:Nat)(fa:Option Addr)(fs:List Nat)(fc:Nat)(hs:∀v∈s,v<l.length)(hff:FoundFor c l s fs)(hsl:s.length≤1000)(w:World)(hp:PartsAt w pa c.parts)(hq:PrbsAt w qa l)(hS:Ints w sa (natInts s))(hF:Ints w fa (natInts fs)):
 Calls Tryz.prog 64 #[.agg #[.string c.ware,.int .i64 c.limit,.int .i64 c.by_,.slice pa c.parts.length pc],.slice qa l.length qc,.slice sa s.length sc,.slice fa fs.length fc] w (AfterRPost (afterC c l s fs) w):=by
 obtain⟨w1,hw1⟩:=zx ((w.alloc (.cells #[.string c.ware,.int .i64 c.limit,.int .i64 c.by_,.slice pa c.parts.length pc] 24)).alloc (.cells #[.string ⟨#[]⟩,.int .i64 0,.int .i64 0,.slice none 0 0] 24));have hB1:Below w.heap.size w w1:=by rw[←hw1];go_grown
 have hz1:w1.heap.size=w.heap.size+2:=by rw[←hw1];simp
 have g1:Box w1 w.heap.size (csCells c pa pc) 24:=by rw[←hw1];exact(Box.new _ _ _).alloc _
 have g2:Box w1 (w.heap.size+1) #[.string ⟨#[]⟩,.int .i64 0,.int .i64 0,.slice none 0 0] 24:=by rw[←hw1];exact Box.new' zS
 have e1:=zC (g1);have HCO:=zh (copied_ref c hsm pa pc w1 (hp.below hB1));have HAR:=zh (after_ref (fs:=fs) hz hs);have h8:=(check_okCase (probes_ok hz).1).1;have HPT:=zh (fun(k v:Nat) (pr:Prb) (hv:l[v]?=some pr)=>cnt_at9 hz hv);have HLV:=zh hs;have HFF:=zh hff;have HW:=zh hw1;have HB1:=zh hB1;have HG1:=zh g1;have HG2:=zh g2;have HZ1:=zh hz1;have HP:=zh hp;have HQ:=zh hq;have HS:=zh hS;have HF:=zh hF;have hfl:=hff.1;have HFL:=zh hfl;clear hw1 hB1 hz1 g1 g2 hp hq hS hF hz hs hff hfl hsm
 go_enter Tryz.func64,Tryz.ntmps64
 go_upto_region 1 with fail
 simp only[HW.out]
 go_wp2_with fail
 refine zM HCO ?_;rintro e w2 ⟨ca,cap,rfl,hcap,hpv,hb2⟩;obtain⟨zs0,hm0,hr0⟩:=hpv.toR;have HR0:=zh hr0;have HM0:=zh hm0;have HB2:=zh (HB1.out.trans (hb2.mono HB1.out.size));have HG1:=zh (HG1.out.below' hb2);have HG2:=zh (HG2.out.below' hb2);have HZ2:=zh (show w.heap.size+2≤w2.heap.size by have:=HZ1.out;have:=hb2.size;omega);clear hpv hr0 hm0 hb2 e1 HCO
 go_upto_region 2 with fail
 obtain⟨D,hD⟩:=zx (w2.heap.size);have hb3:Below w2.heap.size w2 (w2.alloc (.cells #[.string c.ware,.int .i64 c.limit,.int .i64 c.by_,.slice ca c.parts.length cap] 24)):=by go_grown
 have x3:Box (w2.alloc (.cells #[.string c.ware,.int .i64 c.limit,.int .i64 c.by_,.slice ca c.parts.length cap] 24)) w2.heap.size (csCells c ca cap) 24:=Box.new _ _ _;generalize w2.alloc (.cells #[.string c.ware,.int .i64 c.limit,.int .i64 c.by_,.slice ca c.parts.length cap] 24)=w3 at *;have HR:=zh (HR0.out.below hb3);have HB3:=zh (HB2.out.trans (hb3.mono HB2.out.size));have HG1:=zh (HG1.out.below' hb3);have HG2:=zh (HG2.out.below' hb3);rw[hD] at x3 HR HR0 ⊢;have HX3:=zh x3;have HD:=zh hD;clear hb3 x3 hD HR0
 go_wp2_with fail
 go_loopw [11] (fun iv wr=>∃(k:Nat) (zs:List PrtM),k≤s.length∧iv = .int .i64 k∧zs.map (·.1)=(refAft c l ((s.zip fs).take k) c).parts∧PartsR w1.heap.size D ca wr zs∧Box wr D (csCells c ca cap) 24∧Box wr w.heap.size (csCells c pa pc) 24∧Box wr (w.heap.size+1) #[.string ⟨#[]⟩,.int .i64 0,.int .i64 0,.slice none 0 0] 24∧Below w.heap.size w wr) (fun iv _=>s.length-(intOf iv).toNat)
 case atStart=>exact⟨0,zs0,Nat.zero_le _,rfl,by rw[HM0.out];rfl,HR.out,HX3.out,HG1.out,HG2.out,HB3.out⟩
 case round=>
  obtain⟨k,zs,hk,rfl,hm,hr,hx,hg1,hg2,hbw⟩:=hrel
  by_cases hlt:k<s.length
  ·obtain⟨v,hv⟩:=get_of_lt s hlt;have hvl:=HLV.out v (List.mem_of_getElem? hv);obtain⟨pr,f,hpr,hf,hfc⟩:=HFF.out.2 k v hv;obtain⟨i,q0,hi,hq0,⟨s1,s2,s3⟩,v1,v2⟩:=HPT.out v v pr hpr;have hspn:=spanOf_at (d:=c) (p:=pr) (q:=q0) (by rw[hi];simpa using hq0);rw[hspn] at hfc;have hf1:f≤1001:=by have:=cnt_le v1 s2 s1 s3;omega
   have hst0:=fun W h=>stepR9_any hi hq0 s1 s2 s3 v1 v2 f hf1 pa pc W h
   obtain⟨lo,hlo⟩:=zx ((stepAt q0.span pr.width f).1);obtain⟨hi',hhi⟩:∃hi',(stepAt q0.span pr.width f).2=hi':=⟨_,rfl⟩
   rw[hlo,hhi] at hst0;simp only[hi] at hst0;have HST:=zh hst0;have hil:i<c.parts.length:=(List.getElem?_eq_some_iff.1 hq0).1;have hzl:zs.length=c.parts.length:=by
    have:=congrArg List.length hm;rw[List.length_map,refAft_len] at this;exact this
   obtain⟨zp,hzp⟩:=get_of_lt zs (k:=i) zO;obtain⟨g,rfl,hBg,hgD,hrng,hth,_⟩:=hr i zp hzp;have hnx:refAft c l ((s.zip fs).take (k+1)) c=narrowC (refAft c l ((s.zip fs).take k) c) i lo hi' pr.id:=by
    rw[take_snoc (x:=(v,f)) (List.getElem?_zip_eq_some.2 ⟨hv,hf⟩),refAft_snoc c l _ _ _ _ _ hpr,narrowOf,hspn,hlo,hhi,hi]
    rfl
   have hset:=narrow_set (lo:=lo) (hi:=hi') (id:=pr.id) hzp hm;rw[←hnx] at hset;have HSET:=zh hset;have HZP:=zh hzp;have hsv:(natInts s)[k]?=some (v:Int):=by simp[natInts,hv]
   have hfv:(natInts fs)[k]?=some (f:Int):=by simp[natInts,hf]
   obtain⟨b1,o1,rfl,q1⟩:=(HS.out.below hbw).base (by simp[natInts];omega);have d1:=q1 _ _ hsv;obtain⟨b3,o3,rfl,q3⟩:=(HF.out.below hbw).base (by have:=HFL.out;simp[natInts];omega);have d3:=q3 _ _ hfv;obtain⟨b2,o2,pr',rfl,hpr',hG⟩:=(HQ.out.below hbw).at_ hvl;rw[hpr] at hpr';cases hpr';obtain⟨c0,c1,c2,c3⟩:=hG.open;rw[hi] at c1;have y1:=hrng 1 _ rfl;have y2:=hrng 2 _ rfl;have y3:=hrng 3 _ rfl;have y4:=hrng 4 _ rfl;have hkn:(k:Int)<(s.length:Int):=by omega
   have hkf:(k:Int)<(fs.length:Int):=by have:=HFL.out;omega
   have hvn:(v:Int)<(l.length:Int):=by omega
   have hin:(i:Int)<(c.parts.length:Int):=by omega
   have HPI:=zh hi;have HBW:=zh hbw;have HGW:=zh hg1;have HGR:=zh hg2;have HXD:=zh hx;have HRR:=zh hr;have HTH:=zh hth;have HBg:=zh hBg;have HY:=zh (⟨y1,y2,y3,y4⟩:wr.cell? ⟨g,i*8+1,none⟩=some (.int .i64 zp.1.span.low)∧wr.cell? ⟨g,i*8+2,none⟩=some (.int .i64 zp.1.span.high)∧wr.cell? ⟨g,i*8+3,none⟩=some (.int .i64 zp.1.span.lowBy)∧wr.cell? ⟨g,i*8+4,none⟩=some (.int .i64 zp.1.span.highBy));have HD3:=zh d3;have hxl:=hx.lt;clear hv hvl hpr hf hfc hq0 s1 s2 s3 v1 v2 hspn hst0 hlo hhi hzl hnx hset hzp hsv hfv q1 q3 hG hr hx hg1 hg2 hbw hrng hth y1 y2 y3 y4 d3 hm hBg hlt;obtain⟨w4,hw4⟩:=zx (wr.alloc (.cells #[.int .i64 pr.id,.int .i64 i,.int .i64 pr.width,.int .i64 pr.cost] 93));have hb4:Below wr.heap.size wr w4:=by rw[←hw4];go_grown
   have p4:Box w4 wr.heap.size #[.int .i64 pr.id,.int .i64 i,.int .i64 pr.width,.int .i64 pr.cost] 93:=by rw[←hw4];exact Box.new _ _ _
   have HW4:=zh hw4;have HB4:=zh hb4;have HP4:=zh p4;clear hw4 hb4 p4
   go_upto_region 6 with fail
   simp only[HW4.out];clear c0 c1 c2 c3 d1;refine wp_region_heldB 8 [(13,#[.int .i64 0,.int .i64 0],164)] zK zK zK zS ?_;intro S hSb;have K0:Hid (∀W,S W→cC W (w.heap.size) c pa pc∧(∀j,W.cell? ⟨wr.heap.size,j,none⟩=(#[.int .i64 pr.id,.int .i64 i,.int .i64 pr.width,.int .i64 pr.cost]:Array Value)[j]?)∧W.cell? ⟨b3,o3+k,none⟩=some (.int .i64 (f:Int))):=
    zh fun W hW=>⟨((HGW.out.below' HB4.out).below' (hSb W hW)).cell,(HP4.out.below' (hSb W hW)).cell,below_cell (hSb W hW) (below_cell HB4.out HD3.out)⟩
   have HSB:=zh hSb;clear hSb;simp only[pT]
   repeat (first
    |refine xN ?_
    |refine xV K0 ?_
    |(refine held_skip rfl (by rfl) ?_ ?_;(· (intro W hW;obtain⟨q0,q1,q2⟩:=K0.out W hW;go_simp;try with_reducible rfl));try simp only[pZ])
    |(refine xC (v:=.agg #[.int .i64 lo,.int .i64 hi']) (f:=138) (args:=#[.agg #[.string c.ware,.int .i64 c.limit,.int .i64 c.by_,.slice pa c.parts.length pc],.agg #[.int .i64 pr.id,.int .i64 i,.int .i64 pr.width,.int .i64 pr.cost],.int .i64 f]) (fun W hW=>HST.out W (HP.out.below ((HBW.out.trans (HB4.out.mono HBW.out.size)).trans ((HSB.out W hW).mono (by have:=HBW.out.size;have:=HB4.out.size;omega))))) ?_ ?_;(· (intro W hW;go_simp;done))))
   refine held_own (e:=(13,#[.int .i64 0,.int .i64 0],164)) rfl rfl zS rfl (fun b W=>by go_simp) ?_;refine held_nil ?_;intro τ hτ W4 hW hO;obtain⟨G,rfl⟩:=laid1 hτ;obtain⟨hG,hGN⟩:=hO.one;have hbW:=HSB.out W4 hW;have hst:=run_store_row (P:=Tryz.prog) (T:=#[.int .i64 lo,.int .i64 hi']) hG range_size9 rfl (by simp[Value.oneCell']);have hG5:Box (W4.setRow G #[.int .i64 lo,.int .i64 hi']) G #[.int .i64 lo,.int .i64 hi'] 164:=hG.setRow_same;have hb5:Below w4.heap.size w4 (W4.setRow G #[.int .i64 lo,.int .i64 hi']):=below_setRow hbW hGN _;have HG5:=zh hG5;have HB5:=zh (HB4.out.trans (hb5.mono HB4.out.size));have HP5:=zh (HP4.out.below' hb5);clear hτ hO hG hGN hW K0 HSB hbW hG5 hb5;simp only[overs,List.foldl_cons,List.foldl_nil,Act.put,List.setIfInBounds_toArray,List.set_cons_zero,List.set_cons_succ]
   generalize (W4.setRow G #[.int .i64 lo,.int .i64 hi'])=w5 at *;have eD:∀j,w5.cell? ⟨D,j,none⟩=(#[.string c.ware,.int .i64 c.limit,.int .i64 c.by_,.slice (some ⟨g,0,none⟩) c.parts.length cap]:Array Value)[j]?:=(HXD.out.below' HB5.out).cell;have eP:=HP5.out.cell;have y1:=below_cell HB5.out HY.out.1;have y2:=below_cell HB5.out HY.out.2.1;have y3:=below_cell HB5.out HY.out.2.2.1;have y4:=below_cell HB5.out HY.out.2.2.2;obtain⟨w6,hw6⟩:=zx (w5.alloc (.cells #[.int .i64 zp.1.span.low,.int .i64 zp.1.span.high,.int .i64 zp.1.span.lowBy,.int .i64 zp.1.span.highBy] 78))
   go_upto_region 8 with (first
    |(refine wpList_store_box rfl 164 _ _ rfl rfl rfl hst ?_))
   have hb6:Below w5.heap.size w5 w6:=by rw[←hw6];go_grown
   have x6:Box w6 w5.heap.size #[.int .i64 zp.1.span.low,.int .i64 zp.1.span.high,.int .i64 zp.1.span.lowBy,.int .i64 zp.1.span.highBy] 78:=by rw[←hw6];exact Box.new _ _ _
   have HB6:=zh (HB5.out.trans (hb6.mono HB5.out.size));have HN5:=zh (show wr.heap.size≤w5.heap.size from HB5.out.size);have hne:wr.heap.size≠w5.heap.size:=by have:=HP5.out.lt;omega
   have hne2:w5.heap.size≠wr.heap.size:=fun h=>hne h.symm
   have HP6:=zh (HP5.out.below' hb6);clear eP;have eP:=HP6.out.cell;have X6:=zh x6;have e6:=x6.cell;have eG:=(HG5.out.below' hb6).cell;obtain⟨u1,u2⟩:=x6.rules;clear hw6 hb6 x6 eD y1 y2 y3 y4 hst
   by_cases h1:zp.1.span.low<lo
   ·by_cases h2:hi'<zp.1.span.high
    ·have x9:Box ((((w6.setCell ⟨w5.heap.size,0,none⟩ (.int .i64 lo)).setCell ⟨w5.heap.size,2,none⟩ (.int .i64 pr.id)).setCell ⟨w5.heap.size,1,none⟩ (.int .i64 hi')).setCell ⟨w5.heap.size,3,none⟩ (.int .i64 pr.id)) w5.heap.size #[.int .i64 lo,.int .i64 hi',.int .i64 pr.id,.int .i64 pr.id] 78:=((((X6.out.set_ 0 (.int .i64 lo)).set_ 2 (.int .i64 pr.id)).set_ 1 (.int .i64 hi')).set_ 3 (.int .i64 pr.id))
     have hb9:Below wr.heap.size wr ((((w6.setCell ⟨w5.heap.size,0,none⟩ (.int .i64 lo)).setCell ⟨w5.heap.size,2,none⟩ (.int .i64 pr.id)).setCell ⟨w5.heap.size,1,none⟩ (.int .i64 hi')).setCell ⟨w5.heap.size,3,none⟩ (.int .i64 pr.id)):=((((HB6.out.setCell (by simp;exact HN5.out) _).setCell (by simp;exact HN5.out) _).setCell (by simp;exact HN5.out) _).setCell (by simp;exact HN5.out) _)
     have xp9:=zh (show Box ((((w6.setCell ⟨w5.heap.size,0,none⟩ (.int .i64 lo)).setCell ⟨w5.heap.size,2,none⟩ (.int .i64 pr.id)).setCell ⟨w5.heap.size,1,none⟩ (.int .i64 hi')).setCell ⟨w5.heap.size,3,none⟩ (.int .i64 pr.id)) wr.heap.size #[.int .i64 pr.id,.int .i64 i,.int .i64 pr.width,.int .i64 pr.cost] 93 from((((HP6.out.far hne _).far hne _).far hne _).far hne _));have hns:(narrowP lo hi' pr.id zp.1).span=⟨lo,hi',pr.id,pr.id⟩:=by simp[narrowP,h1,h2]
     go_upto_region 14 with fail
     generalize ((((w6.setCell ⟨w5.heap.size,0,none⟩ (.int .i64 lo)).setCell ⟨w5.heap.size,2,none⟩ (.int .i64 pr.id)).setCell ⟨w5.heap.size,1,none⟩ (.int .i64 hi')).setCell ⟨w5.heap.size,3,none⟩ (.int .i64 pr.id))=w9 at *;clear e6 eG eP;have eP:=xp9.out.cell;have e14:=x9.cell;have eD:∀j,w9.cell? ⟨D,j,none⟩=(#[.string c.ware,.int .i64 c.limit,.int .i64 c.by_,.slice (some ⟨g,0,none⟩) c.parts.length cap]:Array Value)[j]?:=(HXD.out.below' hb9).cell;have hr9:=HRR.out.below hb9;obtain⟨_,ha,_,_,_,hth9,_⟩:=hr9 i zp HZP.out;cases ha;have hS:=run_store_span (s:=⟨lo,hi',pr.id,pr.id⟩) (there_span hth9);have hset:=HSET.out;rw[hns] at hset;have HSE:=zh hset;have HRN:=zh (hr9.span HZP.out rfl ⟨lo,hi',pr.id,pr.id⟩);have HDN:=zh (box_setCells (HXD.out.below' hb9) (g:=g) (by have:=hgD;omega) (i*8+1) (spnCells ⟨lo,hi',pr.id,pr.id⟩))
     have HWN:=zh (box_setCells (HGW.out.below' hb9) (g:=g) (by have:=HBg.out;have:=HZ1.out;omega) (i*8+1) (spnCells ⟨lo,hi',pr.id,pr.id⟩));have HRS:=zh (box_setCells (HGR.out.below' hb9) (g:=g) (by have:=HBg.out;have:=HZ1.out;omega) (i*8+1) (spnCells ⟨lo,hi',pr.id,pr.id⟩));have HBN:=zh (show Below w.heap.size w (w9.setCells g (i*8+1) (spnCells ⟨lo,hi',pr.id,pr.id⟩)) from below_setCells (by have:=HBg.out;have:=HZ1.out;omega) _ _ (HBW.out.trans (hb9.mono HBW.out.size)));clear hns hset hr9 hth9 x9 hb9;generalize w9.setCells g (i*8+1) (spnCells ⟨lo,hi',pr.id,pr.id⟩)=w10 at *
     go_wp2_with (refine wpList_store_box rfl 78 _ _ rfl rfl rfl hS ?_)
     go_roundw
     case rel=>exact⟨k+1,_,zO,zN,HSE.out,HRN.out,HDN.out,HWN.out,HRS.out,HBN.out⟩
     case measure=>exact zJ
    ·have x9:Box ((w6.setCell ⟨w5.heap.size,0,none⟩ (.int .i64 lo)).setCell ⟨w5.heap.size,2,none⟩ (.int .i64 pr.id)) w5.heap.size #[.int .i64 lo,.int .i64 zp.1.span.high,.int .i64 pr.id,.int .i64 zp.1.span.highBy] 78:=((X6.out.set_ 0 (.int .i64 lo)).set_ 2 (.int .i64 pr.id))
     have hb9:Below wr.heap.size wr ((w6.setCell ⟨w5.heap.size,0,none⟩ (.int .i64 lo)).setCell ⟨w5.heap.size,2,none⟩ (.int .i64 pr.id)):=((HB6.out.setCell (by simp;exact HN5.out) _).setCell (by simp;exact HN5.out) _)
     have xp9:=zh (show Box ((w6.setCell ⟨w5.heap.size,0,none⟩ (.int .i64 lo)).setCell ⟨w5.heap.size,2,none⟩ (.int .i64 pr.id)) wr.heap.size #[.int .i64 pr.id,.int .i64 i,.int .i64 pr.width,.int .i64 pr.cost] 93 from((HP6.out.far hne _).far hne _));have hns:(narrowP lo hi' pr.id zp.1).span=⟨lo,zp.1.span.high,pr.id,zp.1.span.highBy⟩:=by simp[narrowP,h1,h2]
     go_upto_region 14 with fail
     generalize ((w6.setCell ⟨w5.heap.size,0,none⟩ (.int .i64 lo)).setCell ⟨w5.heap.size,2,none⟩ (.int .i64 pr.id))=w9 at *;clear e6 eG eP;have eP:=xp9.out.cell;have e14:=x9.cell;have eD:∀j,w9.cell? ⟨D,j,none⟩=(#[.string c.ware,.int .i64 c.limit,.int .i64 c.by_,.slice (some ⟨g,0,none⟩) c.parts.length cap]:Array Value)[j]?:=(HXD.out.below' hb9).cell;have hr9:=HRR.out.below hb9;obtain⟨_,ha,_,_,_,hth9,_⟩:=hr9 i zp HZP.out;cases ha;have hS:=run_store_span (s:=⟨lo,zp.1.span.high,pr.id,zp.1.span.highBy⟩) (there_span hth9);have hset:=HSET.out;rw[hns] at hset;have HSE:=zh hset;have HRN:=zh (hr9.span HZP.out rfl ⟨lo,zp.1.span.high,pr.id,zp.1.span.highBy⟩);have HDN:=zh (box_setCells (HXD.out.below' hb9) (g:=g) (by have:=hgD;omega) (i*8+1) (spnCells ⟨lo,zp.1.span.high,pr.id,zp.1.span.highBy⟩))
     have HWN:=zh (box_setCells (HGW.out.below' hb9) (g:=g) (by have:=HBg.out;have:=HZ1.out;omega) (i*8+1) (spnCells ⟨lo,zp.1.span.high,pr.id,zp.1.span.highBy⟩));have HRS:=zh (box_setCells (HGR.out.below' hb9) (g:=g) (by have:=HBg.out;have:=HZ1.out;omega) (i*8+1) (spnCells ⟨lo,zp.1.span.high,pr.id,zp.1.span.highBy⟩));have HBN:=zh (show Below w.heap.size w (w9.setCells g (i*8+1) (spnCells ⟨lo,zp.1.span.high,pr.id,zp.1.span.highBy⟩)) from below_setCells (by have:=HBg.out;have:=HZ1.out;omega) _ _ (HBW.out.trans (hb9.mono HBW.out.size)));clear hns hset hr9 hth9 x9 hb9;generalize w9.setCells g (i*8+1) (spnCells ⟨lo,zp.1.span.high,pr.id,zp.1.span.highBy⟩)=w10 at *
     go_wp2_with (refine wpList_store_box rfl 78 _ _ rfl rfl rfl hS ?_)
     go_roundw
     case rel=>exact⟨k+1,_,zO,zN,HSE.out,HRN.out,HDN.out,HWN.out,HRS.out,HBN.out⟩
     case measure=>exact zJ
   ·by_cases h2:hi'<zp.1.span.high
    ·have x9:Box ((w6.setCell ⟨w5.heap.size,1,none⟩ (.int .i64 hi')).setCell ⟨w5.heap.size,3,none⟩ (.int .i64 pr.id)) w5.heap.size #[.int .i64 zp.1.span.low,.int .i64 hi',.int .i64 zp.1.span.lowBy,.int .i64 pr.id] 78:=((X6.out.set_ 1 (.int .i64 hi')).set_ 3 (.int .i64 pr.id))
     have hb9:Below wr.heap.size wr ((w6.setCell ⟨w5.heap.size,1,none⟩ (.int .i64 hi')).setCell ⟨w5.heap.size,3,none⟩ (.int .i64 pr.id)):=((HB6.out.setCell (by simp;exact HN5.out) _).setCell (by simp;exact HN5.out) _)
     have xp9:=zh (show Box ((w6.setCell ⟨w5.heap.size,1,none⟩ (.int .i64 hi')).setCell ⟨w5.heap.size,3,none⟩ (.int .i64 pr.id)) wr.heap.size #[.int .i64 pr.id,.int .i64 i,.int .i64 pr.width,.int .i64 pr.cost] 93 from((HP6.out.far hne _).far hne _));have hns:(narrowP lo hi' pr.id zp.1).span=⟨zp.1.span.low,hi',zp.1.span.lowBy,pr.id⟩:=by simp[narrowP,h1,h2]
     go_upto_region 14 with fail
     generalize ((w6.setCell ⟨w5.heap.size,1,none⟩ (.int .i64 hi')).setCell ⟨w5.heap.size,3,none⟩ (.int .i64 pr.id))=w9 at *;clear e6 eG eP;have eP:=xp9.out.cell;have e14:=x9.cell;have eD:∀j,w9.cell? ⟨D,j,none⟩=(#[.string c.ware,.int .i64 c.limit,.int .i64 c.by_,.slice (some ⟨g,0,none⟩) c.parts.length cap]:Array Value)[j]?:=(HXD.out.below' hb9).cell;have hr9:=HRR.out.below hb9;obtain⟨_,ha,_,_,_,hth9,_⟩:=hr9 i zp HZP.out;cases ha;have hS:=run_store_span (s:=⟨zp.1.span.low,hi',zp.1.span.lowBy,pr.id⟩) (there_span hth9);have hset:=HSET.out;rw[hns] at hset;have HSE:=zh hset;have HRN:=zh (hr9.span HZP.out rfl ⟨zp.1.span.low,hi',zp.1.span.lowBy,pr.id⟩);have HDN:=zh (box_setCells (HXD.out.below' hb9) (g:=g) (by have:=hgD;omega) (i*8+1) (spnCells ⟨zp.1.span.low,hi',zp.1.span.lowBy,pr.id⟩))
     have HWN:=zh (box_setCells (HGW.out.below' hb9) (g:=g) (by have:=HBg.out;have:=HZ1.out;omega) (i*8+1) (spnCells ⟨zp.1.span.low,hi',zp.1.span.lowBy,pr.id⟩));have HRS:=zh (box_setCells (HGR.out.below' hb9) (g:=g) (by have:=HBg.out;have:=HZ1.out;omega) (i*8+1) (spnCells ⟨zp.1.span.low,hi',zp.1.span.lowBy,pr.id⟩));have HBN:=zh (show Below w.heap.size w (w9.setCells g (i*8+1) (spnCells ⟨zp.1.span.low,hi',zp.1.span.lowBy,pr.id⟩)) from below_setCells (by have:=HBg.out;have:=HZ1.out;omega) _ _ (HBW.out.trans (hb9.mono HBW.out.size)));clear hns hset hr9 hth9 x9 hb9;generalize w9.setCells g (i*8+1) (spnCells ⟨zp.1.span.low,hi',zp.1.span.lowBy,pr.id⟩)=w10 at *
     go_wp2_with (refine wpList_store_box rfl 78 _ _ rfl rfl rfl hS ?_)
     go_roundw
     case rel=>exact⟨k+1,_,zO,zN,HSE.out,HRN.out,HDN.out,HWN.out,HRS.out,HBN.out⟩
     case measure=>exact zJ
    ·have x9:Box w6 w5.heap.size #[.int .i64 zp.1.span.low,.int .i64 zp.1.span.high,.int .i64 zp.1.span.lowBy,.int .i64 zp.1.span.highBy] 78:=X6.out;have hb9:Below wr.heap.size wr w6:=HB6.out;have xp9:=zh (show Box w6 wr.heap.size #[.int .i64 pr.id,.int .i64 i,.int .i64 pr.width,.int .i64 pr.cost] 93 from HP6.out);have hns:(narrowP lo hi' pr.id zp.1).span=⟨zp.1.span.low,zp.1.span.high,zp.1.span.lowBy,zp.1.span.highBy⟩:=by simp[narrowP,h1,h2]
     go_upto_region 14 with fail
     generalize w6=w9 at *;clear e6 eG eP;have eP:=xp9.out.cell;have e14:=x9.cell;have eD:∀j,w9.cell? ⟨D,j,none⟩=(#[.string c.ware,.int .i64 c.limit,.int .i64 c.by_,.slice (some ⟨g,0,none⟩) c.parts.length cap]:Array Value)[j]?:=(HXD.out.below' hb9).cell;have hr9:=HRR.out.below hb9;obtain⟨_,ha,_,_,_,hth9,_⟩:=hr9 i zp HZP.out;cases ha;have hS:=run_store_span (s:=⟨zp.1.span.low,zp.1.span.high,zp.1.span.lowBy,zp.1.span.highBy⟩) (there_span hth9);have hset:=HSET.out;rw[hns] at hset;have HSE:=zh hset;have HRN:=zh (hr9.span HZP.out rfl ⟨zp.1.span.low,zp.1.span.high,zp.1.span.lowBy,zp.1.span.highBy⟩);have HDN:=zh (box_setCells (HXD.out.below' hb9) (g:=g) (by have:=hgD;omega) (i*8+1) (spnCells ⟨zp.1.span.low,zp.1.span.high,zp.1.span.lowBy,zp.1.span.highBy⟩))
     have HWN:=zh (box_setCells (HGW.out.below' hb9) (g:=g) (by have:=HBg.out;have:=HZ1.out;omega) (i*8+1) (spnCells ⟨zp.1.span.low,zp.1.span.high,zp.1.span.lowBy,zp.1.span.highBy⟩));have HRS:=zh (box_setCells (HGR.out.below' hb9) (g:=g) (by have:=HBg.out;have:=HZ1.out;omega) (i*8+1) (spnCells ⟨zp.1.span.low,zp.1.span.high,zp.1.span.lowBy,zp.1.span.highBy⟩));have HBN:=zh (show Below w.heap.size w (w9.setCells g (i*8+1) (spnCells ⟨zp.1.span.low,zp.1.span.high,zp.1.span.lowBy,zp.1.span.highBy⟩)) from below_setCells (by have:=HBg.out;have:=HZ1.out;omega) _ _ (HBW.out.trans (hb9.mono HBW.out.size)));clear hns hset hr9 hth9 x9 hb9;generalize w9.setCells g (i*8+1) (spnCells ⟨zp.1.span.low,zp.1.span.high,zp.1.span.lowBy,zp.1.span.highBy⟩)=w10 at *
     go_wp2_with (refine wpList_store_box rfl 78 _ _ rfl rfl rfl hS ?_)
     go_roundw
     case rel=>exact⟨k+1,_,zO,zN,HSE.out,HRN.out,HDN.out,HWN.out,HRS.out,HBN.out⟩
     case measure=>exact zJ
  ·obtain rfl:k=s.length:=by omega
   have hzt:(s.zip fs).take s.length=s.zip fs:=List.take_of_length_le (by rw[List.length_zip];omega);rw[hzt] at hm;have hzl:zs.length=c.parts.length:=by
    have:=congrArg List.length hm;rw[List.length_map,refAft_len] at this;exact this
   obtain⟨a1,a2,a3⟩:=refAft_ware c l (s.zip fs) c;have hdl:=refAft_len c l (s.zip fs) c;obtain⟨d,hd⟩:=zx (refAft c l (s.zip fs) c);rw[hd] at hm HAR a1 a2 a3 hdl;have HMD:=zh hm;have HZL:=zh hzl;have HDE:=zh (⟨a1,a2,a3,hdl⟩:d.ware=c.ware∧d.limit=c.limit∧d.by_=c.by_∧d.parts.length=c.parts.length);have hkn:¬(s.length:Int)<(s.length:Int):=by omega
   obtain⟨wo,hwo⟩:∃z:World,z=wr:=⟨_,rfl⟩
   subst hwo;have HRR:=zh hr;have HXD:=zh hx;have HGR:=zh hg2;have HBW:=zh hbw;clear hzt hm hzl a1 a2 a3 hdl hd hr hx hg1 hg2 hbw hlt hk
   go_wp2_with fail
   go_loopw [15] (fun iv wx=>∃j:Nat,j≤c.parts.length∧iv = .int .i64 j∧Hid (∀(i:Nat) q,i<j→d.parts[i]?=some q→q.span.low≤q.span.high)∧Below wo.heap.size wo wx) (fun iv _=>c.parts.length-(intOf iv).toNat)
   case atStart=>exact⟨0,Nat.zero_le _,rfl,zh (fun i q hi=>absurd hi (Nat.not_lt_zero i)),Below.refl _ _⟩
   case round=>
    obtain⟨j,hj,rfl,HA,hb⟩:=hrel;have HBX:=zh hb;have eD:∀j,wr.cell? ⟨D,j,none⟩=(#[.string c.ware,.int .i64 c.limit,.int .i64 c.by_,.slice ca c.parts.length cap]:Array Value)[j]?:=(HXD.out.below' hb).cell;have hgr:=HGR.out.below' hb;obtain⟨r1,r2⟩:=hgr.rules;have HGX:=zh hgr;have HBE:=zh (HBW.out.trans (hb.mono HBW.out.size))
    by_cases hjl:j<c.parts.length
    ·have hjn:(j:Int)<(c.parts.length:Int):=by omega
     obtain⟨z,hzj⟩:=get_of_lt zs (k:=j) (by have:=HZL.out;omega);obtain⟨g,rfl,hBg,hgD,hrng,_⟩:=(HRR.out.below hb) j z hzj;have y1:=hrng 1 _ rfl;have y2:=hrng 2 _ rfl;have hdj:d.parts[j]?=some z.1:=by rw[←HMD.out,List.getElem?_map,hzj];rfl
     have HDJ:=zh hdj;clear hzj hrng hdj hb hgr
     by_cases h:z.1.span.high<z.1.span.low
     ·have HNO:=zh (show afterC c l s fs=none by
       rw[HAR.out,if_neg];intro hok;have:=okAll_iff.1 hok _ _ HDJ.out
       omega)
      go_wp2_with fail
      go_quiet (fail)
      go_wp2_with fail
      refine bodyPost_ret (results_cell_tmp rfl rfl (run_loadVar_row _ _ 24 24 _ (0,0) _ (((((HGX.out.below' (below_drewN (Below.refl _ _) _)).set_ 0 _).set_ 1 _).set_ 2 _).set_ 3 _) Tryz.underlying24 rfl case_size)) rfl ?_;refine⟨((((below_drewN HBE.out _).setCell zS _).setCell zS _).setCell zS _).setCell zS _,_,_,rfl,.inl ⟨HNO.out,rfl,rfl⟩⟩
     ·have h':decide (z.1.span.high<z.1.span.low)=false:=decide_eq_false h
      go_wp2_with fail
      go_quiet (fail)
      go_wp2_with fail
      go_roundw
      case rel=>exact⟨j+1,zO,zN,zh (fun i q hi hq=>by
       rcases Nat.lt_or_ge i j with h1|h1
       ·exact HA.out i q h1 hq
       ·obtain rfl:i=j:=by omega
        rw[HDJ.out] at hq;cases hq
        omega),below_drewN HBX.out _⟩
      case measure=>exact zJ
    ·have hjn:¬(j:Int)<(c.parts.length:Int):=by omega
     have HYES:=zh (show afterC c l s fs=some d by
      rw[HAR.out,if_pos];rw[okAll_iff];intro i q hq;exact HA.out i q (by have:=(List.getElem?_eq_some_iff.1 hq).1;have:=HDE.out.2.2.2;omega) hq)
     clear hb hgr
     go_wp2_with fail
     refine bodyPost_ret (results_cell_tmp rfl rfl (run_loadVar_row _ _ 24 24 _ (0,0) _ ((((HGX.out.set_ 0 (.string c.ware)).set_ 1 (.int .i64 c.limit)).set_ 2 (.int .i64 c.by_)).set_ 3 (.slice ca c.parts.length cap)) Tryz.underlying24 rfl case_size)) rfl ?_;have hK:Keep (fun k=>w1.heap.size≤k) wo ((((wr.setCell ⟨w.heap.size+1,0,none⟩ (.string c.ware)).setCell ⟨w.heap.size+1,1,none⟩ (.int .i64 c.limit)).setCell ⟨w.heap.size+1,2,none⟩ (.int .i64 c.by_)).setCell ⟨w.heap.size+1,3,none⟩ (.slice ca c.parts.length cap)):=
      (((((Keep.of_below' HBX.out).setCell (.inl (by have:=HZ1.out;simp;omega)) _).setCell (.inl (by have:=HZ1.out;simp;omega)) _).setCell (.inl (by have:=HZ1.out;simp;omega)) _).setCell (.inl (by have:=HZ1.out;simp;omega)) _)
     have hown:=(HRR.out.own.keep hK).mono (Q':=fun k=>w.heap.size≤k) (fun k hk=>by have:=HZ1.out;omega);rw[HMD.out] at hown;obtain⟨a1,a2,a3,hdl⟩:=HDE.out;refine⟨(((HBE.out.setCell zS _).setCell zS _).setCell zS _).setCell zS _,_,_,rfl,.inr ⟨d,ca,cap,HYES.out,rfl,?_,hown⟩⟩;rw[a1,a2,a3,hdl]
     rfl
theorem askedPairR9_any (c:Cs)(hsm:c.Small)(pa:Option Addr)(pc:Nat)(l:List Prb)(qa:Option Addr)(qc:Nat)(a b:Int)(sa:Option Addr)(S:List Int)(sc:Nat)(hSl:S.length≤1000000)(w:World)(hp:PartsAt w pa c.parts)(hq:PrbsAt w qa l)(hS:Ints w sa S):
 Calls Tryz.prog 36 #[.agg #[.string c.ware,.int .i64 c.limit,.int .i64 c.by_,.slice pa c.parts.length pc],.slice qa l.length qc,.int .i64 a,.int .i64 b,.slice sa S.length sc] w fun e w'=>e = .returned (.int .i64 (xErr c l (twoB c.parts.length a b&&setB l.length S)))∧Below w.heap.size w w':=by
 obtain⟨w1,hw1⟩:=zx (w.alloc (.cells #[.string c.ware,.int .i64 c.limit,.int .i64 c.by_,.slice pa c.parts.length pc] 24));have hB1:Below w.heap.size w w1:=by rw[←hw1];go_grown
 have b1:Box w1 w.heap.size (csCells c pa pc) 24:=by rw[←hw1];exact Box.new _ _ _
 have e1:=zC (b1);have HW:=zh hw1;have HX:=zh b1;have HB1:=zh hB1;have HP:=zh (hp.below hB1);have HQ:=zh (hq.below hB1);have HS:=zh (hS.below hB1);have HCP:=zh (checkProbesR_any c hsm pa pc l qa qc w1 (hp.below hB1) (hq.below hB1));clear hw1 b1 hB1 hp hq hS
 by_cases hz:probesErr c l=0
 ·have hl5:=(probes_ok hz).2.1;have h8:=check_small (c:=c) (ps:=[]) (by simp[openErr,(probes_ok hz).1]);have HXW:=zh (fun(h:(twoB c.parts.length a b&&setB l.length S)=true)=>xErr_whole hz h);have HXN:=zh (fun(h:(inB a 0 ((c.parts.length:Int)-1)&&inB b 0 ((c.parts.length:Int)-1)&&(a != b)&&setB l.length S)=false)=>show xErr c l (twoB c.parts.length a b&&setB l.length S)=1 by simp only[xErr,hz,twoB,h];simp);rw[hz] at HCP;clear hz
  go_enter Tryz.func36,Tryz.ntmps36
  go_upto_region 1 with fail
  simp only[HW.out]
  go_wp2_with fail
  refine zM HCP ?_;rintro e w2 ⟨rfl,hb2⟩;have HIS:=zh (isSetR9_any qa l.length qc zO sa S sc w2 (HS.out.below hb2) hSl);have HX2:=zh (HX.out.below' hb2);have HP2:=zh (HP.out.below hb2);have HBW:=zh (HB1.out.trans (hb2.mono HB1.out.size));have e2:=zC (HX2.out);clear hb2 e1
  go_wp2_with fail
  (with_reducible refine(withinR9_any _ _ _ _).mono ?_)
  rintro e9 w9 ⟨rfl,rfl⟩
  rcases hA:inB a 0 ((c.parts.length:Int)-1) with _|_
  ·have HER:=zh (HXN.out (by simp[hA]));clear hA
   go_wp2_with fail
   go_ret
   refine⟨?_,HBW.out⟩;rw[HER.out];rfl
  have HA:=zh hA;clear hA
  go_wp2_with fail
  (with_reducible refine(withinR9_any _ _ _ _).mono ?_)
  rintro e9 w9 ⟨rfl,rfl⟩
  rcases hBb:inB b 0 ((c.parts.length:Int)-1) with _|_
  ·have HER:=zh (HXN.out (by simp[hBb]));clear hBb
   go_wp2_with fail
   go_ret
   refine⟨?_,HBW.out⟩;rw[HER.out];rfl
  have HBB:=zh hBb;clear hBb
  by_cases hab:a=b
  ·have HER:=zh (HXN.out (by simp[hab]));subst hab
   go_wp2_with fail
   go_ret
   refine⟨?_,HBW.out⟩;rw[HER.out];rfl
  have hne:(a==b)=false:=beq_eq_false_iff_ne.2 hab;have HNE:=zh (show(a != b)=true by simp[bne,hne]);clear hab
  go_wp2_with fail
  refine zM HIS ?_;rintro e w3 ⟨rfl,hb3⟩;have HWH:=zh (wholeR9_any c hsm pa pc w3 (HP2.out.below hb3));have e3:=zC ((HX2.out.below' hb3));have HBW:=zh (HBW.out.trans (hb3.mono HBW.out.size));clear hb3 e2
  rcases hset:setB l.length S with _|_
  ·have HER:=zh (HXN.out (by simp[hset]));clear hset
   go_wp2_with fail
   go_ret
   refine⟨?_,HBW.out⟩;rw[HER.out];rfl
  ·have HER:=zh (HXW.out (by simp only[twoB,HA.out,HBB.out,HNE.out,hset];rfl));clear hset
   go_wp2_with fail
   refine zM HWH ?_;rintro e w4 ⟨rfl,hb4⟩;have HBW:=zh (HBW.out.trans (hb4.mono HBW.out.size));clear hb4 e3
   go_wp2_with fail
   go_ret
   refine⟨?_,HBW.out⟩;rw[HER.out];rfl
 ·have HER:=zh (show xErr c l (twoB c.parts.length a b&&setB l.length S)=probesErr c l by simp[xErr,hz]);obtain⟨er,her⟩:=zx (probesErr c l);rw[her] at hz HCP HER;have hzb:(er != 0)=true:=by simpa using hz
  clear her
  go_enter Tryz.func36,Tryz.ntmps36
  go_upto_region 1 with fail
  simp only[HW.out]
  go_wp2_with fail
  refine zM HCP ?_;rintro e w2 ⟨rfl,hb2⟩;have HBW:=zh (HB1.out.trans (hb2.mono HB1.out.size));clear hb2 e1
  go_wp2_with fail
  go_ret
  refine⟨?_,HBW.out⟩;rw[HER.out];rfl
end
def evIds (c:Cs)(ev:List (Dec×Br)):List Int:=ev.flatMap fun z=>leafIds c z.1 z.2
theorem evIds_app (c:Cs)(e f:List (Dec×Br)):evIds c (e++f)=evIds c e++evIds c f:=by simp[evIds,List.flatMap_append]
theorem walkM_ev {c:Cs}{n:Nat}:∀(k:Nat) (d:Dec) (l:List Br) {r:List Br} {e:List (Dec×Br)},walkM c n k d l=some (r,e)→2*e.length+r.length=l.length+1∧∀z∈e,leafB c z.1 n z.2=true
 |0,_,_,_,_,h=>by simp[walkM] at h
 |_+1,_,[],_,_,h=>by simp[walkM] at h
 |k+1,d,x::l,r,e,h=>by
  by_cases hk:x.kind=1
  ·rcases hs:splitB n x with _|_
   ·rw[walkM_no hk hs] at h;cases h
   ·rcases h1:walkM c n k (decWith d x.a.toNat x.b.toNat 1) l with _|⟨l1,e1⟩
    ·rw[walkM_one hk hs h1] at h;cases h
    ·rcases h2:walkM c n k (decWith d x.a.toNat x.b.toNat 2) l1 with _|⟨l2,e2⟩
     ·rw[walkM_two hk hs h1 h2] at h;cases h
     ·rw[walkM_yes hk hs h1 h2] at h;cases h;obtain⟨a1,b1⟩:=walkM_ev k _ _ h1;obtain⟨a2,b2⟩:=walkM_ev k _ _ h2;refine⟨by rw[List.length_append,List.length_cons];omega,fun z hz=>?_⟩
      rcases List.mem_append.1 hz with hz|hz
      ·exact b1 z hz
      ·exact b2 z hz
  ·rw[walkM_leaf hk] at h
   split at h
   ·rename_i hl
    cases h;exact⟨by simp;omega,fun z hz=>by rw[List.mem_singleton.1 hz];exact hl⟩
   ·cases h
theorem evIds_len {c:Cs}{n:Nat}(hn:n≤8):∀{e:List (Dec×Br)},(∀z∈e,leafB c z.1 n z.2=true)→(evIds c e).length≤57*e.length
 |[],_=>by simp[evIds]
 |z::e,h=>by
  have h1:=evIds_len (c:=c) hn (e:=e) (fun y hy=>h y (by simp[hy]));have h2:=leafIds_len hn (h z zS);have h3:evIds c (z::e)=leafIds c z.1 z.2++evIds c e:=rfl;rw[h3,List.length_append,List.length_cons]
  omega
theorem supp_with {d:Dec}{n x y w:Nat}(h:Supp d n)(hs:SymD d)(hx:x<n)(hy:y<n):Supp (decWith d x y w) n:=fun a b hab=>by
 rw[decWith_eq hs] at hab
 split at hab
 ·rename_i he
  rcases he with ⟨rfl,rfl⟩|⟨rfl,rfl⟩
  ·exact⟨hx,hy⟩
  ·exact⟨hy,hx⟩
 ·exact h a b hab
theorem zero_supp (n:Nat):Supp (fun _ _=>0) n:=fun _ _ h=>absurd rfl h
theorem zero_le3:∀a b:Nat,(fun _ _=>0:Dec) a b≤3:=fun _ _=>Nat.zero_le _
