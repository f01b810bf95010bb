/- The walks and plain laws of: MQFindP MQLawF. No condition. -/
import Derived.Test.YtjgldeeianionaaGreatS39
import Derived.Test.YtjgldeeianionaaGreatS44
import Derived.Test.YtjgldeeianionaaGreatS46
import Derived.Test.YtjgldeeianionaaGreatS01
set_option linter.unusedSimpArgs false
set_option linter.unusedVariables false
namespace Go.Proofs.YtjgldeeianionaaGreat
open Go.RowKit
def InSpans (d:Cs)(z:List Int):Prop:=∀(i:Nat) q,d.parts[i]?=some q→q.span.low≤z[i]?.getD 0∧z[i]?.getD 0≤q.span.high
def inSpansB (d:Cs)(z:List Int):Bool:=upto d.parts.length fun i=>match d.parts[i]? with|some q=>decide (q.span.low≤z[i]?.getD 0)&&decide (z[i]?.getD 0≤q.span.high)|none=>true
theorem inSpansB_iff {d:Cs}{z:List Int}:inSpansB d z=true↔InSpans d z:=by
 unfold inSpansB
 rw[upto_iff]
 constructor
 ·intro h i q hq
  have:=h i (List.getElem?_eq_some_iff.1 hq).1
  simpa[hq] using this
 ·intro h i hi
  obtain⟨q,hq⟩:=get_of_lt d.parts hi
  have:=h i q hq
  simp[hq,this]
def fitsFound (c:Cs)(l:List Prb)(z:List Int)(s fs:List Nat):Bool:=match afterC c l s fs with|some d=>inSpansB d z|none=>false
def findOf (c:Cs)(l:List Prb)(z:List Int)(v:Nat):Nat:=match l[v]? with
 |some p=>((z[p.part.toNat]?.getD 0-(spanOf c p).low) / p.width).toNat
 |none=>0
theorem outs_nodup:∀(ns pre:List Nat),(outGo ns pre).Nodup
 |[],pre=>by simp[outGo]
 |n::ns,pre=>by
  rw[outGo,List.Nodup,List.pairwise_flatMap]
  refine⟨fun k _=>outs_nodup ns _,?_⟩
  refine(List.nodup_range (n:=n)).imp ?_
  intro a b hab x hx y hy hxy
  subst hxy
  obtain⟨y1,e1,_⟩:=(mem_outGo ns _ x).1 hx
  obtain⟨y2,e2,_⟩:=(mem_outGo ns _ x).1 hy
  rw[e1] at e2
  simp only[List.append_assoc,List.append_cancel_left_eq] at e2
  simp at e2
  exact hab e2.1
theorem step_in {s:Spn}{w:Int}{k:Nat}{v:Int}(hw:1≤w)(h1:s.low≤v)(h2:v≤s.high):((stepAt s w k).1≤v∧v≤(stepAt s w k).2)↔k=((v-s.low) / w).toNat:=by
 have hq:0≤(v-s.low) / w:=Int.ediv_nonneg (by omega) (by omega)
 have e:k=((v-s.low) / w).toNat↔(k:Int)=(v-s.low) / w:=by omega
 rw[e]
 have h3:=Int.emod_add_mul_ediv (v-s.low) w
 have h4:=Int.emod_nonneg (v-s.low) (show w≠0 by omega)
 have h5:=Int.emod_lt_of_pos (v-s.low) (show 0<w by omega)
 have h6:((k:Int)+1)*w=k*w+w:=by rw[Int.add_mul,Int.one_mul]
 simp only[stepAt]
 rw[h6]
 generalize hd:(v-s.low) / w=d at *
 generalize hm:(v-s.low) % w=m at *
 constructor
 ·rintro⟨a1,a2⟩
  rcases Int.lt_trichotomy (k:Int) d with hlt|heq|hgt
  ·have:((k:Int)+1)*w≤d*w:=Int.mul_le_mul_of_nonneg_right (by omega) (by omega)
   have e2:w*d=d*w:=Int.mul_comm _ _
   omega
  ·exact heq
  ·have:(d+1)*w≤(k:Int)*w:=Int.mul_le_mul_of_nonneg_right (by omega) (by omega)
   have e2:w*d=d*w:=Int.mul_comm _ _
   have e3:(d+1)*w=d*w+w:=by rw[Int.add_mul,Int.one_mul]
   omega
 ·rintro rfl
  have e2:w*(k:Int)=k*w:=Int.mul_comm _ _
  omega
theorem inSpans_ref {c:Cs}{l:List Prb}{z:List Int}{xs:List (Nat×Nat)}(hz:InSpans c z):
 InSpans (refAft c l xs c) z↔∀(i:Nat) r,i<c.parts.length→StepOn c l xs i r→r.1≤z[i]?.getD 0∧z[i]?.getD 0≤r.2:=by
 constructor
 ·intro h i r hi hr
  obtain⟨q,hq⟩:=get_of_lt c.parts hi
  obtain⟨q',h1,_,h3,h4⟩:=refAft_at c l i xs c q hq
  obtain⟨k1,k2⟩:=h i q' h1
  exact⟨((h3 _).1 k1).2 r hr,((h4 _).1 k2).2 r hr⟩
 ·intro h i q' hq'
  have hi:i<c.parts.length:=by
   have:=(List.getElem?_eq_some_iff.1 hq').1
   rwa [refAft_len] at this
  obtain⟨q,hq⟩:=get_of_lt c.parts hi
  obtain⟨q2,h1,_,h3,h4⟩:=refAft_at c l i xs c q hq
  rw[hq'] at h1;cases h1
  have h0:=hz i q hq
  exact⟨(h3 _).2 ⟨h0.1,fun r hr=>(h i r hi hr).1⟩,(h4 _).2 ⟨h0.2,fun r hr=>(h i r hi hr).2⟩⟩
theorem fits_iff {c:Cs}{l:List Prb}{z:List Int}{s fs:List Nat}(hp:probesErr c l=0)(hs:∀v∈s,v<l.length)(hz:InSpans c z)(hf:FoundFor c l s fs):fitsFound c l z s fs=true↔fs=s.map (findOf c l z):=by
 obtain⟨hc,_,hall⟩:=probes_ok hp
 have h1:fitsFound c l z s fs=true↔InSpans (refAft c l (s.zip fs) c) z:=by
  unfold fitsFound
  rw[after_ref hp hs]
  by_cases hok:okAll (refAft c l (s.zip fs) c)=true
  ·rw[if_pos hok]
   exact inSpansB_iff
  ·rw[if_neg hok]
   constructor
   ·intro h;cases h
   ·intro h
    exact absurd (okAll_iff.2 fun a q hq=>by have:=h a q hq;omega) hok
 rw[h1,inSpans_ref hz]
 have at_:∀(i v:Nat),s[i]?=some v→∃p,l[v]?=some p∧p.part.toNat<c.parts.length∧1≤p.width∧(spanOf c p).low≤z[p.part.toNat]?.getD 0∧z[p.part.toNat]?.getD 0≤(spanOf c p).high:=fun i v hv=>by
  obtain⟨p,hpp⟩:=get_of_lt l (hs v (List.mem_of_getElem? hv))
  obtain⟨r1,r2,_⟩:=hall p (List.mem_of_getElem? hpp)
  have hpl:p.part.toNat<c.parts.length:=by omega
  obtain⟨q,hq⟩:=get_of_lt c.parts hpl
  have hsp:=spanOf_at hq
  exact⟨p,hpp,hpl,(right_vals r1).2.1.1,by rw[hsp];exact(hz _ q hq).1,by rw[hsp];exact(hz _ q hq).2⟩
 constructor
 ·intro h
  apply List.ext_getElem?
  intro i
  rw[List.getElem?_map]
  rcases hv:s[i]? with _|v
  ·have:fs.length≤i:=by rw[hf.1];exact List.getElem?_eq_none_iff.1 hv
   simp[List.getElem?_eq_none_iff.2 this]
  ·obtain⟨p,f,k1,k2,_⟩:=hf.2 i v hv
   obtain⟨p',m1,m2,m3,m4,m5⟩:=at_ i v hv
   rw[k1] at m1;cases m1
   have hz':(v,f)∈s.zip fs:=List.mem_iff_getElem?.2 ⟨i,List.getElem?_zip_eq_some.2 ⟨hv,k2⟩⟩
   have h2:=h p.part.toNat _ m2 ⟨v,f,p,hz',k1,rfl,rfl⟩
   rw[step_in m3 m4 m5] at h2
   rw[k2]
   simp only[Option.map_some,findOf,k1]
   rw[h2]
 ·rintro rfl i r hi ⟨v,k,p,hm,hv,hpi,rfl⟩
  obtain⟨j,e1,e2⟩:=zip_at hm
  simp only at e1 e2
  obtain⟨p',m1,m2,m3,m4,m5⟩:=at_ j v e1
  rw[hv] at m1;cases m1
  subst hpi
  rw[step_in m3 m4 m5]
  rw[List.getElem?_map,e1] at e2
  simp only[Option.map_some,Option.some.injEq,findOf,hv] at e2
  exact e2.symm
theorem findOf_found {c:Cs}{l:List Prb}{z:List Int}{s:List Nat}(hp:probesErr c l=0)(hs:∀v∈s,v<l.length)(hz:InSpans c z):FoundFor c l s (s.map (findOf c l z)):=by
 obtain⟨hc,_,hall⟩:=probes_ok hp
 refine⟨by simp,fun i v hv=>?_⟩
 obtain⟨p,hpp⟩:=get_of_lt l (hs v (List.mem_of_getElem? hv))
 obtain⟨r1,r2,_⟩:=hall p (List.mem_of_getElem? hpp)
 obtain⟨q,hq⟩:=get_of_lt c.parts (k:=p.part.toNat) (by omega)
 have hzz:=hz _ q hq
 have hsp:=spanOf_at hq
 have hw:=(right_vals r1).2.1
 refine⟨p,findOf c l z v,hpp,by simp[hv],?_⟩
 rw[←step_lt (by omega) (by rw[hsp];omega)]
 have h1:=(step_in (s:=spanOf c p) (w:=p.width) (k:=findOf c l z v) (v:=z[p.part.toNat]?.getD 0) (by omega) (by rw[hsp];exact hzz.1) (by rw[hsp];exact hzz.2)).2 (by simp only[findOf,hpp])
 have h2:=h1.1
 simp only[stepAt] at h2
 rw[hsp] at h2 ⊢
 omega
theorem findings_one {c:Cs}{l:List Prb}{z:List Int}{s:List Nat}(hp:probesErr c l=0)(hs:∀v∈s,v<l.length)(hz:InSpans c z):(outsOf (cntsOf c l s)).countP (fitsFound c l z s)=1:=by
 have h1:(outsOf (cntsOf c l s)).countP (fitsFound c l z s)=(outsOf (cntsOf c l s)).count (s.map (findOf c l z)):=by
  unfold List.count
  refine List.countP_congr fun x hx=>?_
  rw[fits_iff hp hs hz ((mem_outs hs).1 hx),beq_iff_eq]
 rw[h1]
 have hm:s.map (findOf c l z)∈outsOf (cntsOf c l s):=(mem_outs hs).2 (findOf_found hp hs hz)
 have hn:(outsOf (cntsOf c l s)).Nodup:=outs_nodup _ _
 rw[hn.count,if_pos hm]
theorem outcomes_tup {c:Cs}{l:List Prb}{w:World}{pa:Option Addr}{pc:Nat}{qa:Option Addr}{qc:Nat}(hsm:c.Small)(sa:Option Addr)(S:List Int)(sc:Nat)(hSl:S.length≤1000)(hp:PartsAt w pa c.parts)(hq:PrbsAt w qa l)(hS:Ints w sa S):
 Calls Tryz.prog 44 #[.agg #[.string c.ware,.int .i64 c.limit,.int .i64 c.by_,.slice pa c.parts.length pc],.slice qa l.length qc,.slice sa S.length sc] w fun e w'=>
  ∃ra rn rc,e = .returned (.tuple #[.slice ra rn rc,.int .i64 (xErr c l (setB l.length S))])∧(xErr c l (setB l.length S)=0→rn=(outsOf (cntsOf c l (nats S))).length∧RowsAt w' ra (outsOf (cntsOf c l (nats S))))∧(xErr c l (setB l.length S)≠0→rn=0∧ra=none)∧Below w.heap.size w w':=
 (outcomesX_any c hsm pa pc l qa qc sa S sc w hp hq hSl hS).mono (by
  rintro e w' ⟨hb,v,er,rfl,(⟨h1,rfl,rfl⟩|⟨h1,rfl,x,k,rfl,h2⟩)⟩
  ·exact⟨none,0,0,rfl,fun h=>absurd h h1,fun _=>⟨rfl,rfl⟩,hb⟩
  ·rw[h1]
   exact⟨x,_,k,rfl,fun _=>⟨rfl,h2⟩,fun h=>absurd rfl h,hb⟩)
theorem found_of {c:Cs}{l:List Prb}{S:List Int}{x:List Nat}(hS:setB l.length S=true)(hf:FoundFor c l (nats S) x):foundB c l S (natInts x)=true:=by
 have hl:(nats S).length=S.length:=by simp[nats]
 have h1:=hf.1
 simp only[foundB,Bool.and_eq_true,decide_eq_true_eq]
 refine⟨⟨hS,by rw[nat_len];omega⟩,upto_iff.2 fun i hi=>?_⟩
 rw[nat_len] at hi
 obtain⟨v,hv⟩:=get_of_lt (nats S) (k:=i) (by omega)
 obtain⟨p,f,k1,k2,k3⟩:=hf.2 i v hv
 have e:=(set_nats hS).1
 have hSi:S[i]?=some (v:Int):=by rw[e];simp[natInts,hv]
 simp only[foundAt,hSi,natInts,List.getElem?_map,k2,Option.map_some,Option.getD_some,cntAt,Int.toNat_natCast,k1,inB,Bool.and_eq_true,decide_eq_true_eq]
 omega
theorem after_case {c:Cs}{l:List Prb}{w:World}{pa:Option Addr}{pc:Nat}{qa:Option Addr}{qc:Nat}(hsm:c.Small)(sa:Option Addr)(S:List Int)(sc:Nat)(fa:Option Addr)(x:List Nat)(fc:Nat)(hSl:S.length≤1000)(hFl:x.length≤1000)(hx:xErr c l (foundB c l S (natInts x))=0)(hp:PartsAt w pa c.parts)(hq:PrbsAt w qa l)(hS:Ints w sa S)(hF:Ints w fa (natInts x)):
 Calls Tryz.prog 16 #[.agg #[.string c.ware,.int .i64 c.limit,.int .i64 c.by_,.slice pa c.parts.length pc],.slice qa l.length qc,.slice sa S.length sc,.slice fa x.length fc] w fun e w'=>
  ∃cs b,e = .returned (.tuple #[.agg cs,.bool b,.int .i64 0])∧AftCells (afterC c l (nats S) x) w.heap.size w' cs b∧Below w.heap.size w w':=by
 have h:=afterX_any c hsm pa pc l qa qc sa S sc fa (natInts x) fc hSl (by rw[nat_len];exact hFl) w hp hq hS hF
 rw[nat_len,nats_nat,hx] at h
 refine h.mono ?_
 rintro e w' ⟨hb,cs,bb,rfl,h⟩
 rw[if_pos rfl] at h
 exact⟨cs,bb,rfl,h,hb⟩
def fitsO (o:Option Cs)(z:List Int):Bool:=match o with|some d=>inSpansB d z|none=>false
theorem fitsFound_eq (c:Cs)(l:List Prb)(z:List Int)(s fs:List Nat):fitsFound c l z s fs=fitsO (afterC c l s fs) z:=rfl
def spanAt (d:Cs)(z:List Int)(i:Nat):Bool:=match d.parts[i]? with|some q=>decide (q.span.low≤z[i]?.getD 0)&&decide (z[i]?.getD 0≤q.span.high)|none=>true
theorem spanAt_some {d:Cs}{z:List Int}{i:Nat}{q:Prt}{v:Int}(hq:d.parts[i]?=some q)(hv:z[i]?=some v):spanAt d z i=(decide (q.span.low≤v)&&decide (v≤q.span.high)):=by simp[spanAt,hq,hv]
theorem upto_next {n:Nat}{f:Nat→Bool}:upto (n+1) f=(upto n f&&f n):=by
 rw[Bool.eq_iff_iff,Bool.and_eq_true,upto_iff,upto_iff]
 constructor
 ·intro h;exact⟨fun k hk=>h k (by omega),h n (by omega)⟩
 ·rintro⟨h1,h2⟩ k hk
  rcases Nat.lt_or_ge k n with h|h
  ·exact h1 k h
  ·have:k=n:=by omega
   subst this;exact h2
theorem upto_stop {n m:Nat}{f:Nat→Bool}(h:upto n f=false)(hm:n≤m):upto m f=false:=by
 rw[Bool.eq_false_iff]
 intro h2
 rw[upto_iff] at h2
 have:upto n f=true:=upto_iff.2 fun k hk=>h2 k (by omega)
 rw[h] at this;cases this
end Go.Proofs.YtjgldeeianionaaGreat
