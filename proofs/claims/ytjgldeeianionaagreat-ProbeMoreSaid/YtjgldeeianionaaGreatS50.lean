/- The walks and plain laws of: MQMoreP. No condition. -/
import Derived.Test.YtjgldeeianionaaGreatS46
import Derived.Test.YtjgldeeianionaaGreatS01
set_option linter.unusedSimpArgs false
set_option linter.unusedVariables false
namespace Go.Proofs.YtjgldeeianionaaGreat
open Go.RowKit
theorem inc_pair:∀{y:List Nat} {a m:Nat},Inc a m y↔y.Pairwise (· < ·)∧∀v∈y,a≤v∧v<m
 |[],a,m=>⟨fun _=>⟨List.Pairwise.nil,by simp⟩,fun _=>trivial⟩
 |v::y,a,m=>by
  rw[List.pairwise_cons]
  constructor
  ·rintro⟨h1,h2,h3⟩
   obtain⟨k1,k2⟩:=inc_pair.1 h3
   refine⟨⟨fun u hu=>by have:=k2 u hu;omega,k1⟩,fun u hu=>?_⟩
   rcases List.mem_cons.1 hu with rfl|hu
   ·exact⟨h1,h2⟩
   ·have:=k2 u hu;omega
  ·rintro⟨⟨h1,h2⟩,h3⟩
   have h4:=h3 v List.mem_cons_self
   refine⟨h4.1,h4.2,inc_pair.2 ⟨h2,fun u hu=>?_⟩⟩
   have:=h1 u hu
   have:=h3 u (List.mem_cons_of_mem _ hu)
   omega
def MoreAt (p:Nat)(T:List Nat)(pl:Bool)(M:List Nat):Prop:=
 (pl=false∧M=T∧∀x∈T,x<p)∨(pl=true∧(∃x∈T,p≤x)∧∃A B,M=A++p::B∧(T=A++B∨T=A++p::B)∧(∀x∈A,x<p)∧∀x∈B,p<x)
theorem MoreAt.nil (p:Nat):MoreAt p [] false []:=.inl ⟨rfl,rfl,by simp⟩
theorem MoreAt.len {p:Nat}{T M:List Nat}{pl:Bool}(h:MoreAt p T pl M):M.length≤T.length+1:=by
 rcases h with ⟨_,rfl,_⟩|⟨_,_,A,B,rfl,rfl|rfl,_⟩<;>simp<;>omega
section
variable {p x:Nat}{T M:List Nat}
theorem MoreAt.low (h:MoreAt p T false M)(hx:x<p):MoreAt p (T++[x]) false (M++[x]):=by
 rcases h with ⟨_,rfl,h⟩|⟨h,_⟩
 ·refine .inl ⟨rfl,rfl,fun y hy=>?_⟩
  rcases List.mem_append.1 hy with hy|hy
  ·exact h y hy
  ·rw[List.mem_singleton.1 hy];exact hx
 ·cases h
theorem MoreAt.here (h:MoreAt p T false M)(hx:x=p):MoreAt p (T++[x]) true (M++[p]):=by
 rcases h with ⟨_,rfl,h⟩|⟨h,_⟩
 ·exact .inr ⟨rfl,⟨x,by simp,by omega⟩,M,[],rfl,.inr (by rw[hx]),h,by simp⟩
 ·cases h
theorem MoreAt.put (h:MoreAt p T false M)(hx:p<x):MoreAt p (T++[x]) true (M++[p]++[x]):=by
 rcases h with ⟨_,rfl,h⟩|⟨h,_⟩
 ·refine .inr ⟨rfl,⟨x,by simp,by omega⟩,M,[x],by simp,.inl rfl,h,fun y hy=>?_⟩
  rw[List.mem_singleton.1 hy];exact hx
 ·cases h
theorem MoreAt.behind (h:MoreAt p T true M)(hx:p<x):MoreAt p (T++[x]) true (M++[x]):=by
 rcases h with ⟨h,_⟩|⟨_,⟨z,hz,hzp⟩,A,B,rfl,h,h1,h2⟩
 ·cases h
 ·refine .inr ⟨rfl,⟨z,List.mem_append_left _ hz,hzp⟩,A,B++[x],by simp,?_,h1,fun y hy=>?_⟩
  ·rcases h with rfl|rfl
   ·exact .inl (by simp)
   ·exact .inr (by simp)
  ·rcases List.mem_append.1 hy with hy|hy
   ·exact h2 y hy
   ·rw[List.mem_singleton.1 hy];exact hx
theorem MoreAt.over (h:MoreAt p T true M)(hT:∀y∈T,y<x):p<x:=by
 rcases h with ⟨h,_⟩|⟨_,⟨z,hz,hzp⟩,_⟩
 ·cases h
 ·have:=hT z hz;omega
theorem MoreAt.end_ {pl:Bool}{m:Nat}(h:MoreAt p T pl M)(hT:Inc 0 m T)(hp:p<m):Inc 0 m (if pl then M else M++[p])∧∀v∈T,v∈(if pl then M else M++[p]):=by
 obtain⟨k1,k2⟩:=inc_pair.1 hT
 rcases h with ⟨rfl,rfl,h⟩|⟨rfl,_,A,B,rfl,h,h1,h2⟩
 ·simp only[Bool.false_eq_true,if_false]
  refine⟨inc_pair.2 ⟨?_,fun v hv=>?_⟩,fun v hv=>List.mem_append_left _ hv⟩
  ·rw[List.pairwise_append]
   exact⟨k1,by simp,fun a ha b hb=>by rw[List.mem_singleton.1 hb];exact h a ha⟩
  ·rcases List.mem_append.1 hv with hv|hv
   ·exact k2 v hv
   ·rw[List.mem_singleton.1 hv];omega
 ·simp only[if_true]
  have hA:A.Pairwise (· < ·)∧B.Pairwise (· < ·)∧(∀v∈A,v∈T)∧(∀v∈B,v∈T):=by
   rcases h with rfl|rfl
   ·rw[List.pairwise_append] at k1
    exact⟨k1.1,k1.2.1,fun v hv=>by simp[hv],fun v hv=>by simp[hv]⟩
   ·rw[List.pairwise_append,List.pairwise_cons] at k1
    exact⟨k1.1,k1.2.1.2,fun v hv=>by simp[hv],fun v hv=>by simp[hv]⟩
  obtain⟨a1,a2,a3,a4⟩:=hA
  refine⟨inc_pair.2 ⟨?_,fun v hv=>?_⟩,fun v hv=>?_⟩
  ·rw[List.pairwise_append,List.pairwise_cons]
   refine⟨a1,⟨h2,a2⟩,fun a ha b hb=>?_⟩
   have:=h1 a ha
   rcases List.mem_cons.1 hb with rfl|hb
   ·exact this
   ·have:=h2 b hb;omega
  ·rcases List.mem_append.1 hv with hv|hv
   ·exact k2 v (a3 v hv)
   ·rcases List.mem_cons.1 hv with rfl|hv
    ·omega
    ·exact k2 v (a4 v hv)
  ·rcases h with rfl|rfl
   ·simp only[List.mem_append,List.mem_cons] at hv ⊢
    rcases hv with hv|hv
    ·exact .inl hv
    ·exact .inr (.inr hv)
   ·exact hv
end
theorem inc_take {m k:Nat}{s:List Nat}{x:Nat}(h:Inc 0 m s)(hx:s[k]?=some x):∀y∈s.take k,y<x:=fun y hy=>by
 have h1:=(inc_pair.1 h).1
 rw[List.pairwise_iff_getElem] at h1
 obtain⟨i,hi⟩:=List.mem_iff_getElem?.1 hy
 rw[List.getElem?_take] at hi
 split at hi
 ·rename_i hik
  obtain⟨e1,e2⟩:=List.getElem?_eq_some_iff.1 hi
  obtain⟨e3,e4⟩:=List.getElem?_eq_some_iff.1 hx
  have:=h1 i k e1 e3 hik
  rw[e2,e4] at this
  exact this
 ·cases hi
end Go.Proofs.YtjgldeeianionaaGreat
