/- The walks and plain laws of: MQLeastP. No condition. -/
import Derived.Test.YtjgldeeianionaaGreatS42
import Derived.Test.YtjgldeeianionaaGreatS46
import Derived.Test.YtjgldeeianionaaGreatS52
import Derived.Test.YtjgldeeianionaaGreatS01
set_option linter.unusedSimpArgs false
set_option linter.unusedVariables false
namespace Go.Proofs.YtjgldeeianionaaGreat
open Go.RowKit
theorem pair_mem {n x y:Nat}:(x,y)∈pairsOf n↔x<y∧y<n:=by
 simp only[pairsOf,pairsTo,rowTo,List.mem_flatMap,List.mem_range,List.mem_map]
 constructor
 ·rintro⟨a,ha,d,hd,e⟩
  cases e;omega
 ·rintro⟨h1,h2⟩
  refine⟨x,by omega,y-(x+1),by omega,?_⟩
  rw[show x+1+(y-(x+1))=y by omega]
theorem isInB_iff {s t:List Nat}:isInB s t=true↔∀v∈s,v∈t:=by simp[isInB]
theorem proof_least {c:Cs}{l:List Prb}{a b:Nat}{n:Int}{ds:List Opn}{s:List Nat}(hp:probesErr c l=0)(ha:a<c.parts.length)(hb:b<c.parts.length)(h:checkProofB c l a b n ds=true)(hs:s∈setsOf l.length)(hd:decidesB c l a b s=true):n≤costOf l s:=by
 refine Classical.byContradiction fun hlt=>?_
 simp only[checkProofB,Bool.and_eq_true,Bool.not_eq_true',List.any_eq_false] at h
 obtain⟨h1,h2⟩:=h
 have h3:=h2 s (List.mem_filter.2 ⟨hs,by simp;omega⟩)
 have h3:(ds.any fun d=>isInB s (nats d.probes))=true:=by simpa using h3
 obtain⟨d,hdd,hin⟩:=List.any_eq_true.1 h3
 have h4:doubtedB c l a b d=true:=by simpa using h1 d hdd
 obtain⟨h5,h6⟩:=doubted_open hp ha hb h4
 rw[decides_more hp ha hb (set_nats h5).2 (isInB_iff.1 hin) hd] at h6
 cases h6
theorem find_pair {d:Cs}{a b:Nat}(ha:a<d.parts.length)(hb:b<d.parts.length)(h:ansAt d a b=3)(t:Bool):∃x,(allR d).find? (asPair a b t)=some x∧fitsB d (natInts x)=true∧((natInts x)[a]?.getD 0==(natInts x)[b]?.getD 0)=t:=by
 have h1:((allR d).find? (asPair a b t)).isSome=true:=by
  rw[with_isSome ha hb]
  rw[ans_iff] at h
  split at h
  ·rename_i k1
   split at h
   ·rename_i k2
    cases t
    ·simpa using k1
    ·simpa using k2
   ·cases h
  ·cases h
 obtain⟨x,hx⟩:=Option.isSome_iff_exists.1 h1
 have hm:=List.mem_of_find?_eq_some hx
 have hp:=List.find?_some hx
 have hr:=mem_allR.1 hm
 have hl:=hr.len
 obtain⟨u,hu⟩:=get_of_lt x (k:=a) (by omega)
 obtain⟨v,hv⟩:=get_of_lt x (k:=b) (by omega)
 refine⟨x,hx,fitsB_iff.2 ⟨x,hr,rfl⟩,?_⟩
 simp only[asPair,hu,hv,beq_iff_eq] at hp
 simp only[natInts,List.getElem?_map,hu,hv,Option.map_some,Option.getD_some]
 rw[←hp,Bool.eq_iff_iff]
 simp
 omega
theorem dbt_good {c:Cs}{l:List Prb}{a b:Nat}{s:List Nat}(hp:probesErr c l=0)(ha:a<c.parts.length)(hb:b<c.parts.length)(hs:s∈setsOf l.length)(hd:decidesB c l a b s=false):(dbtOf c l a b s).probes=natInts s∧doubtedB c l a b (dbtOf c l a b s)=true:=by
 have hin:=(sets_in hs).1
 rcases hx:doubtOf c l a b s with _|x
 ·simp[decidesB,hx] at hd
 ·have hm:=List.mem_of_find?_eq_some hx
  have hsure:=List.find?_some hx
  simp only[Bool.not_eq_true'] at hsure
  have hff:=(mem_outs hin).1 hm
  rcases hcn:canC c l s x with _|d
  ·rw[sure_none hcn] at hsure;cases hsure
  ·rw[sure_some hcn] at hsure
   have hans:ansAt d a b=3:=by simpa using hsure
   obtain⟨ok,hne,haf⟩:=canC_ok hp hcn
   have hl:=ok.len
   obtain⟨y,hy1,hy2,hy3⟩:=find_pair (d:=d) (by omega) (by omega) hans true
   obtain⟨z,hz1,hz2,hz3⟩:=find_pair (d:=d) (by omega) (by omega) hans false
   have e:dbtOf c l a b s=⟨natInts s,natInts x,natInts y,natInts z⟩:=by
    unfold dbtOf
    rw[hx]
    simp only[hcn,hy1,hz1,Option.getD_some]
   rw[e]
   refine⟨rfl,?_⟩
   unfold doubtedB
   simp only[nats_nat,haf,hy2,hz2,hy3,Bool.and_true,Bool.true_and]
   have hz4:((natInts z)[a]?.getD 0 != (natInts z)[b]?.getD 0)=true:=by rw[bne,hz3];rfl
   rw[hz4,Bool.and_true]
   simp only[foundB,Bool.and_eq_true,decide_eq_true_eq]
   refine⟨⟨setB_of hs,by simp[natInts,hff.1]⟩,upto_iff.2 fun i hi=>?_⟩
   have hi':i<s.length:=by rw[←hff.1];simpa[natInts] using hi
   obtain⟨v,hv⟩:=get_of_lt s hi'
   obtain⟨p,f,k1,k2,k3⟩:=hff.2 i v hv
   simp only[foundAt,natInts,List.getElem?_map,hv,k2,Option.map_some,Option.getD_some,cntAt,Int.toNat_natCast,k1,inB,Bool.and_eq_true,decide_eq_true_eq]
   omega
theorem held_max {L:List (List Nat)}{m:Nat}(hm:∀s∈L,s.length≤m):∀(n:Nat) (s:List Nat),s∈L→m-s.length≤n→∃t∈L.filter (fun s=>!heldB L s),∀v∈s,v∈t
 |n,s,hs,hn=>by
  rcases hh:heldB L s with _|_
  ·exact⟨s,List.mem_filter.2 ⟨hs,by simp[hh]⟩,fun v hv=>hv⟩
  ·simp only[heldB,List.any_eq_true,Bool.and_eq_true,decide_eq_true_eq] at hh
   obtain⟨o,ho,h1,h2⟩:=hh
   have h3:=hm o ho
   cases n with
   |zero=>omega
   |succ n=>
    obtain⟨t,ht,hv⟩:=held_max hm n o ho (by omega)
    exact⟨t,ht,fun v hv'=>hv v (isInB_iff.1 h2 v hv')⟩
def planCost (c:Cs)(l:List Prb)(a b:Nat):Int:=match cheapestOf c l a b with|some s=>costOf l s|none=>5001
theorem proofAll_open {c:Cs}{l:List Prb}{a b:Nat}{s:List Nat}(hs:s∈proofAll c l a b):s∈setsOf l.length∧decidesB c l a b s=false:=by
 refine⟨proofAll_mem s hs,?_⟩
 unfold proofAll at hs
 split at hs
 ·rename_i p hp
  obtain⟨h1,h2⟩:=List.mem_filter.1 hs
  rw[Bool.eq_false_iff]
  intro hd
  have:=(cheapest_some hp).2.2 s h1 hd
  simp only[decide_eq_true_eq] at h2
  omega
 ·rename_i hp
  exact cheapest_none hp s hs
theorem below_all {c:Cs}{l:List Prb}{a b:Nat}(hp:probesErr c l=0){s:List Nat}(hs:s∈belowOf l (planCost c l a b)):s∈proofAll c l a b:=by
 unfold planCost at hs
 unfold proofAll
 rcases hc:cheapestOf c l a b with _|p
 ·rw[hc] at hs
  exact(List.mem_filter.1 hs).1
 ·rw[hc] at hs
  exact hs
theorem proof_good {c:Cs}{l:List Prb}{a b:Nat}(hp:probesErr c l=0)(ha:a<c.parts.length)(hb:b<c.parts.length):checkProofB c l a b (planCost c l a b) (proofOf c l a b)=true:=by
 simp only[checkProofB,Bool.and_eq_true,Bool.not_eq_true',List.any_eq_false]
 constructor
 ·intro d hd
  simp only[proofOf,List.mem_map] at hd
  obtain⟨s,hs,rfl⟩:=hd
  rw[proofSets_eq] at hs
  obtain⟨h1,h2⟩:=proofAll_open (List.mem_filter.1 hs).1
  simp[(dbt_good hp ha hb h1 h2).2]
 ·intro s hs
  obtain⟨t,ht,hin⟩:=held_max (m:=l.length) (fun s hs=>(sets_in (proofAll_mem s hs)).2) l.length s (below_all hp hs) (by omega)
  obtain⟨h1,h2⟩:=proofAll_open (List.mem_filter.1 ht).1
  have h3:((proofOf c l a b).any fun d=>isInB s (nats d.probes))=true:=by
   refine List.any_eq_true.2 ⟨dbtOf c l a b t,?_,?_⟩
   ·simp only[proofOf,List.mem_map]
    exact⟨t,by rw[proofSets_eq];exact ht,rfl⟩
   ·rw[(dbt_good hp ha hb h1 h2).1,nats_nat]
    exact isInB_iff.2 hin
  intro hall
  obtain⟨d,hd,hx⟩:=List.any_eq_true.1 h3
  exact hall d hd hx
theorem best_least {c:Cs}{l:List Prb}{a b:Nat}{s:List Nat}(hp:probesErr c l=0)(ha:a<c.parts.length)(hb:b<c.parts.length)(hab:a≠b)(hopen:ansAt c a b=3)(h:cheapestOf c l a b=some s):
 ∃x y t,bestOf c l=some ((x,y),t)∧costOf l t≤costOf l s∧x<c.parts.length∧y<c.parts.length∧x≠y∧cheapestOf c l x y=some t:=by
 have hmem:∃p:Nat×Nat,p∈openOf c∧cheapestOf c l p.1 p.2=some s:=by
  rcases Nat.lt_or_ge a b with h1|h1
  ·exact⟨(a,b),List.mem_filter.2 ⟨pair_mem.2 ⟨h1,hb⟩,by simp[hopen]⟩,h⟩
  ·refine⟨(b,a),List.mem_filter.2 ⟨pair_mem.2 ⟨by omega,ha⟩,?_⟩,?_⟩
   ·simp only[ans_symm hb ha,hopen];rfl
   ·rw[←cheapest_symm hp ha hb];exact h
 obtain⟨p,h1,h2⟩:=hmem
 have h3:(p,s)∈chosOf c l:=List.mem_filterMap.2 ⟨p,h1,by simp[choF,h2]⟩
 have hb':bestOf c l=leastOf (fun x=>costOf l x.2) (fun _=>true) (chosOf c l):=rfl
 rcases hc:bestOf c l with _|⟨⟨x,y⟩,t⟩
 ·rw[hb'] at hc
  have:=(leastOf_some _).2 hc _ h3
  cases this
 ·rw[hb'] at hc
  obtain⟨k1,_,k2⟩:=(leastOf_some _).1 _ hc
  obtain⟨q,k3,k4⟩:=List.mem_filterMap.1 k1
  simp only[choF,Option.map_eq_some_iff] at k4
  obtain⟨t',k5,k6⟩:=k4
  cases k6
  have k8:=pair_mem.1 (List.mem_filter.1 k3).1
  exact⟨x,y,t,rfl,k2 _ h3 rfl,by omega,k8.2,by omega,k5⟩
end Go.Proofs.YtjgldeeianionaaGreat
