/- The walks and plain laws of: MQSpanP. No condition. -/
import Derived.Test.YtjgldeeianionaaGreatS13
import Derived.Test.YtjgldeeianionaaGreatS01
set_option linter.unusedSimpArgs false
set_option linter.unusedVariables false
namespace Go.Proofs.YtjgldeeianionaaGreat
open Go.RowKit
def StepOn (c:Cs)(l:List Prb)(xs:List (Nat×Nat))(i:Nat)(r:Int×Int):Prop:=∃v k p,(v,k)∈xs∧l[v]?=some p∧p.part.toNat=i∧r=stepAt (spanOf c p) p.width k
theorem stepOn_none {c:Cs}{l:List Prb}{v k:Nat}{xs:List (Nat×Nat)}{i:Nat}{r:Int×Int}(h:l[v]?=none):StepOn c l ((v,k)::xs) i r↔StepOn c l xs i r:=by
 constructor
 ·rintro⟨v',k',p,hm,hv,h1,h2⟩
  rcases List.mem_cons.1 hm with e|hm
  ·cases e;rw[h] at hv;cases hv
  ·exact⟨v',k',p,hm,hv,h1,h2⟩
 ·rintro⟨v',k',p,hm,hv,h1,h2⟩
  exact⟨v',k',p,List.mem_cons_of_mem _ hm,hv,h1,h2⟩
theorem stepOn_some {c:Cs}{l:List Prb}{v k:Nat}{p:Prb}{xs:List (Nat×Nat)}{i:Nat}{r:Int×Int}(h:l[v]?=some p):StepOn c l ((v,k)::xs) i r↔(p.part.toNat=i∧r=stepAt (spanOf c p) p.width k)∨StepOn c l xs i r:=by
 constructor
 ·rintro⟨v',k',p',hm,hv,h1,h2⟩
  rcases List.mem_cons.1 hm with e|hm
  ·cases e;rw[h] at hv;cases hv;exact .inl ⟨h1,h2⟩
  ·exact .inr ⟨v',k',p',hm,hv,h1,h2⟩
 ·rintro (⟨h1,h2⟩|⟨v',k',p',hm,hv,h1,h2⟩)
  ·exact⟨v,k,p,List.mem_cons_self,h,h1,h2⟩
  ·exact⟨v',k',p',List.mem_cons_of_mem _ hm,hv,h1,h2⟩
theorem refAft_at (c:Cs)(l:List Prb)(i:Nat):∀(xs:List (Nat×Nat)) (d:Cs) (q:Prt),d.parts[i]?=some q →
 ∃q',(refAft c l xs d).parts[i]?=some q'∧q'.foot=q.foot∧(∀t,q'.span.low≤t↔q.span.low≤t∧∀r,StepOn c l xs i r→r.1≤t)∧(∀t,t≤q'.span.high↔t≤q.span.high∧∀r,StepOn c l xs i r→t≤r.2)
 |[],d,q,hq=>⟨q,hq,rfl,fun t=>⟨fun h=>⟨h,fun r ⟨_,_,_,hm,_⟩=>by cases hm⟩,fun h=>h.1⟩,fun t=>⟨fun h=>⟨h,fun r ⟨_,_,_,hm,_⟩=>by cases hm⟩,fun h=>h.1⟩⟩
 |(v,k)::xs,d,q,hq=>by
  rw[refAft]
  split
  ·rename_i hv
   obtain⟨q',h1,h2,h3,h4⟩:=refAft_at c l i xs d q hq
   refine⟨q',h1,h2,fun t=>?_,fun t=>?_⟩
   ·simp only[stepOn_none hv];exact h3 t
   ·simp only[stepOn_none hv];exact h4 t
  ·rename_i p hv
   have hn:=narrow_at (i:=p.part.toNat) (low:=(stepAt (spanOf c p) p.width k).1) (high:=(stepAt (spanOf c p) p.width k).2) (id:=p.id) hq
   obtain⟨q',h1,h2,h3,h4⟩:=refAft_at c l i xs (narrowOf c d p k) _ hn
   refine⟨q',h1,?_,fun t=>?_,fun t=>?_⟩
   ·rw[h2];split<;>rfl
   ·rw[h3 t]
    by_cases hi:p.part.toNat=i
    ·rw[if_pos hi]
     have e:(narrowP (stepAt (spanOf c p) p.width k).1 (stepAt (spanOf c p) p.width k).2 p.id q).span.low≤t↔q.span.low≤t∧(stepAt (spanOf c p) p.width k).1≤t:=by simp only[narrowP];split<;>omega
     rw[e]
     constructor
     ·rintro⟨⟨a1,a2⟩,a3⟩
      refine⟨a1,fun r hr=>?_⟩
      rcases (stepOn_some hv).1 hr with ⟨_,rfl⟩|hr
      ·exact a2
      ·exact a3 r hr
     ·rintro⟨a1,a2⟩
      exact⟨⟨a1,a2 _ ((stepOn_some hv).2 (.inl ⟨hi,rfl⟩))⟩,fun r hr=>a2 r ((stepOn_some hv).2 (.inr hr))⟩
    ·rw[if_neg hi]
     constructor
     ·rintro⟨a1,a3⟩
      refine⟨a1,fun r hr=>?_⟩
      rcases (stepOn_some hv).1 hr with ⟨h,_⟩|hr
      ·exact absurd h hi
      ·exact a3 r hr
     ·rintro⟨a1,a2⟩
      exact⟨a1,fun r hr=>a2 r ((stepOn_some hv).2 (.inr hr))⟩
   ·rw[h4 t]
    by_cases hi:p.part.toNat=i
    ·rw[if_pos hi]
     have e:t≤(narrowP (stepAt (spanOf c p) p.width k).1 (stepAt (spanOf c p) p.width k).2 p.id q).span.high↔t≤q.span.high∧t≤(stepAt (spanOf c p) p.width k).2:=by simp only[narrowP];split<;>omega
     rw[e]
     constructor
     ·rintro⟨⟨a1,a2⟩,a3⟩
      refine⟨a1,fun r hr=>?_⟩
      rcases (stepOn_some hv).1 hr with ⟨_,rfl⟩|hr
      ·exact a2
      ·exact a3 r hr
     ·rintro⟨a1,a2⟩
      exact⟨⟨a1,a2 _ ((stepOn_some hv).2 (.inl ⟨hi,rfl⟩))⟩,fun r hr=>a2 r ((stepOn_some hv).2 (.inr hr))⟩
    ·rw[if_neg hi]
     constructor
     ·rintro⟨a1,a3⟩
      refine⟨a1,fun r hr=>?_⟩
      rcases (stepOn_some hv).1 hr with ⟨h,_⟩|hr
      ·exact absurd h hi
      ·exact a3 r hr
     ·rintro⟨a1,a2⟩
      exact⟨a1,fun r hr=>a2 r ((stepOn_some hv).2 (.inr hr))⟩
theorem refAft_limit (c:Cs)(l:List Prb):∀(xs:List (Nat×Nat)) (d:Cs),(refAft c l xs d).limit=d.limit
 |[],d=>rfl
 |(v,k)::xs,d=>by
  rw[refAft]
  split
  ·exact refAft_limit c l xs d
  ·rw[refAft_limit c l xs _];rfl
theorem StepOn.mono {c:Cs}{l:List Prb}{xs ys:List (Nat×Nat)}{i:Nat}{r:Int×Int}(h:StepOn c l xs i r)(hs:∀x∈xs,x∈ys):StepOn c l ys i r:=by
 obtain⟨v,k,p,hm,h1⟩:=h
 exact⟨v,k,p,hs _ hm,h1⟩
theorem refAft_two {c d:Cs}{l:List Prb}{xs ys:List (Nat×Nat)}(hs:∀x∈xs,x∈ys){i:Nat}{q:Prt}(hq:d.parts[i]?=some q):
 ∃q1 q2,(refAft c l xs d).parts[i]?=some q1∧(refAft c l ys d).parts[i]?=some q2∧q1.foot=q2.foot∧q1.span.low≤q2.span.low∧q2.span.high≤q1.span.high:=by
 obtain⟨q1,a1,a2,a3,a4⟩:=refAft_at c l i xs d q hq
 obtain⟨q2,b1,b2,b3,b4⟩:=refAft_at c l i ys d q hq
 refine⟨q1,q2,a1,b1,by rw[a2,b2],?_,?_⟩
 ·obtain⟨x1,x2⟩:=(b3 _).1 (Int.le_refl _)
  exact(a3 _).2 ⟨x1,fun r hr=>x2 r (hr.mono hs)⟩
 ·obtain⟨x1,x2⟩:=(b4 _).1 (Int.le_refl _)
  exact(a4 _).2 ⟨x1,fun r hr=>x2 r (hr.mono hs)⟩
theorem refAft_tight {c d:Cs}{l:List Prb}{xs ys:List (Nat×Nat)}(hs:∀x∈xs,x∈ys):Tight (refAft c l xs d) (refAft c l ys d):=by
 refine⟨by rw[refAft_len,refAft_len],fun a b ha hb k=>?_,fun h=>?_⟩
 ·rw[refAft_len] at ha hb
  obtain⟨p,hp⟩:=get_of_lt d.parts ha
  obtain⟨q,hq⟩:=get_of_lt d.parts hb
  obtain⟨p1,p2,e1,e2,e3,e4,e5⟩:=refAft_two (c:=c) (l:=l) hs hp
  obtain⟨q1,q2,f1,f2,f3,f4,f5⟩:=refAft_two (c:=c) (l:=l) hs hq
  rw[clashB_at e1 f1] at k
  rw[clashB_at e2 f2]
  simp only[clashP,feetB,Bool.and_eq_true,Bool.or_eq_true,decide_eq_true_eq,bne_iff_ne] at k ⊢
  obtain⟨k1,k2⟩:=k
  rw[←e3,←f3]
  refine⟨k1,?_⟩
  rcases k2 with (k2|k2)|k2
  ·exact .inl (.inl k2)
  ·exact .inl (.inr (by omega))
  ·exact .inr (by omega)
 ·rw[refAft_limit] at h ⊢
  rw[refAft_limit]
  exact⟨h,Int.le_refl _⟩
theorem refAft_okAll {c d:Cs}{l:List Prb}{xs ys:List (Nat×Nat)}(hs:∀x∈xs,x∈ys)(h:okAll (refAft c l ys d)=true):okAll (refAft c l xs d)=true:=by
 rw[okAll_iff] at h ⊢
 intro a q hq
 have ha:a<d.parts.length:=by
  have:=(List.getElem?_eq_some_iff.1 hq).1
  rwa [refAft_len] at this
 obtain⟨r,hr⟩:=get_of_lt d.parts ha
 obtain⟨p1,p2,e1,e2,_,e4,e5⟩:=refAft_two (c:=c) (l:=l) hs hr
 rw[hq] at e1;cases e1
 have:=h a p2 e2
 omega
theorem okAll_check {c:Cs}(h:checkCase c=0):okAll c=true:=by
 rw[okAll_iff]
 intro a q hq
 have:=okSpn_of ((check_okCase h).2.2.1 q (List.mem_of_getElem? hq))
 exact this.2.1
theorem zip_at {s fs:List Nat}{x:Nat×Nat}(h:x∈s.zip fs):∃i:Nat,s[i]?=some x.1∧fs[i]?=some x.2:=by
 obtain⟨i,hi⟩:=List.mem_iff_getElem?.1 h
 rw[List.getElem?_zip_eq_some] at hi
 exact⟨i,hi⟩
theorem after_ref {c:Cs}{l:List Prb}{s fs:List Nat}(hp:probesErr c l=0)(hs:∀v∈s,v<l.length):afterC c l s fs=if okAll (refAft c l (s.zip fs) c) then some (refAft c l (s.zip fs) c) else none:=by
 obtain⟨hc,_,hall⟩:=probes_ok hp
 refine aft_ref _ c (fun x hx=>?_) (okAll_check hc)
 obtain⟨i,h1,_⟩:=zip_at hx
 obtain⟨p,hpp⟩:=get_of_lt l (hs x.1 (List.mem_of_getElem? h1))
 have:=(hall p (List.mem_of_getElem? hpp)).2.1
 exact⟨p,hpp,by omega⟩
theorem after_more {c d':Cs}{l:List Prb}{s fs s' fs':List Nat}(hp:probesErr c l=0)(hs:∀v∈s,v<l.length)(hs':∀v∈s',v<l.length)(hsub:∀x∈s.zip fs,x∈s'.zip fs')(h:afterC c l s' fs'=some d'):∃d,afterC c l s fs=some d∧Tight d d':=by
 rw[after_ref hp hs'] at h
 split at h
 ·rename_i hok
  cases h
  refine⟨_,?_,refAft_tight hsub⟩
  rw[after_ref hp hs,if_pos (refAft_okAll hsub hok)]
 ·cases h
theorem can_more {c d':Cs}{l:List Prb}{s fs s' fs':List Nat}(hp:probesErr c l=0)(hs:∀v∈s,v<l.length)(hs':∀v∈s',v<l.length)(hsub:∀x∈s.zip fs,x∈s'.zip fs')(h:canC c l s' fs'=some d'):∃d,canC c l s fs=some d∧Tight d d':=by
 obtain⟨_,hne,ha⟩:=canC_ok hp h
 obtain⟨d,h1,h2⟩:=after_more hp hs hs' hsub ha
 refine⟨d,?_,h2⟩
 unfold canC
 rw[h1]
 simp only[h2.some_ hne,Bool.false_eq_true,if_false]
theorem sure_more {c:Cs}{l:List Prb}{a b:Nat}{s fs s' fs':List Nat}(hp:probesErr c l=0)(ha:a<c.parts.length)(hb:b<c.parts.length)(hs:∀v∈s,v<l.length)(hs':∀v∈s',v<l.length)(hsub:∀x∈s.zip fs,x∈s'.zip fs')
 (h:sureB c l a b s fs=true):sureB c l a b s' fs'=true:=by
 rcases hc:canC c l s' fs' with _|d'
 ·exact sure_none hc
 ·obtain⟨d,h1,h2⟩:=can_more hp hs hs' hsub hc
  obtain⟨ok',hne,_⟩:=canC_ok hp hc
  obtain⟨ok,_,_⟩:=canC_ok hp h1
  rw[sure_some h1] at h
  have hn:ansAt d a b≠3:=by simpa using h
  rw[sure_some hc,h2.ans hne (by rw[ok.len];exact ha) (by rw[ok.len];exact hb) hn]
  exact h
theorem decides_iff {c:Cs}{l:List Prb}{a b:Nat}{s:List Nat}:decidesB c l a b s=true↔∀y∈outsOf (cntsOf c l s),sureB c l a b s y=true:=by
 unfold decidesB doubtOf
 rw[Option.isNone_iff_eq_none,List.find?_eq_none]
 simp
theorem found_cut {c:Cs}{l:List Prb}{s s' fs':List Nat}(h:FoundFor c l s' fs')(hin:∀v∈s,v∈s'):∃fs,FoundFor c l s fs∧∀x∈s.zip fs,x∈s'.zip fs':=by
 have key:∀v∈s,∃k p,l[v]?=some p∧k<cntN (spanOf c p) p.width∧(v,k)∈s'.zip fs':=fun v hv=>by
  obtain⟨i,hi⟩:=List.mem_iff_getElem?.1 (hin v hv)
  obtain⟨p,f,h1,h2,h3⟩:=h.2 i v hi
  exact⟨f,p,h1,h3,List.mem_iff_getElem?.2 ⟨i,List.getElem?_zip_eq_some.2 ⟨hi,h2⟩⟩⟩
 clear hin
 induction s with
 |nil=>exact⟨[],⟨rfl,fun i v hv=>by simp at hv⟩,by simp⟩
 |cons v s ih=>
  obtain⟨fs,⟨hl,hf⟩,hz⟩:=ih (fun u hu=>key u (List.mem_cons_of_mem _ hu))
  obtain⟨k,p,h1,h2,h3⟩:=key v List.mem_cons_self
  refine⟨k::fs,⟨by simp[hl],fun i u hu=>?_⟩,fun x hx=>?_⟩
  ·cases i with
   |zero=>simp at hu;subst hu;exact⟨p,k,h1,rfl,h2⟩
   |succ i=>simpa using hf i u (by simpa using hu)
  ·rw[List.zip_cons_cons] at hx
   rcases List.mem_cons.1 hx with rfl|hx
   ·exact h3
   ·exact hz x hx
theorem decides_more {c:Cs}{l:List Prb}{a b:Nat}{s s':List Nat}(hp:probesErr c l=0)(ha:a<c.parts.length)(hb:b<c.parts.length)(hs':∀v∈s',v<l.length)(hin:∀v∈s,v∈s')(h:decidesB c l a b s=true):decidesB c l a b s'=true:=by
 have hs:∀v∈s,v<l.length:=fun v hv=>hs' v (hin v hv)
 rw[decides_iff] at h ⊢
 intro y hy
 obtain⟨fs,h1,h2⟩:=found_cut ((mem_outs hs').1 hy) hin
 exact sure_more hp ha hb hs hs' h2 (h fs ((mem_outs hs).2 h1))
theorem can_ans {c d:Cs}{l:List Prb}{a b:Nat}{s fs:List Nat}(hp:probesErr c l=0)(ha:a<c.parts.length)(hb:b<c.parts.length)(h:canC c l s fs=some d)(hn:ansAt c a b≠3):ansAt d a b=ansAt c a b:=by
 obtain⟨ok,hne,_⟩:=canC_ok hp h
 exact ok.tight.ans hne ha hb hn
theorem decides_nil {c:Cs}{l:List Prb}{a b:Nat}(hne:(allR c).isEmpty=false):decidesB c l a b []=(ansAt c a b != 3):=by
 have hc:canC c l [] []=some c:=by simp[canC,afterC,aftGo,hne]
 unfold decidesB doubtOf
 have ho:outsOf (cntsOf c l [])=[[]]:=rfl
 rw[ho]
 simp only[List.find?_cons,List.find?_nil,sure_some hc]
 rcases hx:(ansAt c a b != 3) with _|_<;>simp
theorem decides_symm {c:Cs}{l:List Prb}{a b:Nat}{s:List Nat}(hp:probesErr c l=0)(ha:a<c.parts.length)(hb:b<c.parts.length):decidesB c l a b s=decidesB c l b a s:=by
 have:(fun fs=>!sureB c l a b s fs)=(fun fs=>!sureB c l b a s fs):=by
  funext fs
  rcases hc:canC c l s fs with _|d
  ·rw[sure_none hc,sure_none hc]
  ·obtain⟨ok,_,_⟩:=canC_ok hp hc
   rw[sure_some hc,sure_some hc,ans_symm (by rw[ok.len];exact ha) (by rw[ok.len];exact hb)]
 unfold decidesB doubtOf
 rw[this]
end Go.Proofs.YtjgldeeianionaaGreat
