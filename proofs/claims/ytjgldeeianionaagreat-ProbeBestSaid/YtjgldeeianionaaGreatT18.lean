/- The walks and plain laws of: MPlainB RefW MAnsR MLawR MQPlain. No condition. -/
import Derived.Sort.CutIn
import Derived.Test.YtjgldeeianionaaGreatT01
import Derived.Test.YtjgldeeianionaaGreatT02
import Derived.Test.YtjgldeeianionaaGreatT04
import Derived.Test.YtjgldeeianionaaGreatT05
import Derived.Test.YtjgldeeianionaaGreatT06
import Derived.Test.YtjgldeeianionaaGreatT11
import Derived.Test.YtjgldeeianionaaGreatT12
import Derived.Test.YtjgldeeianionaaGreatT16
import Derived.Test.YtjgldeeianionaaGreatT17
set_option maxHeartbeats 4000000
set_option maxRecDepth 100000
set_option linter.unusedSimpArgs false
set_option linter.unusedVariables false
namespace Go.Proofs.YtjgldeeianionaaGreat
open Go.RowKit
theorem nth_eq' {x:List Nat}{a b:Nat}(ha:a<x.length)(hb:b<x.length):(x[a]?==x[b]?)=(nth x a==nth x b):=by
 unfold nth;rw[List.getElem?_eq_getElem ha,List.getElem?_eq_getElem hb]
 simp
theorem tog_iff {c:Cs}{a b:Nat}(ha:a<c.parts.length)(hb:b<c.parts.length):togB c.parts.length (allR c) a b=true↔∃x,Reas c x∧nth x a=nth x b:=by
 simp only[togB,Bool.and_eq_true,decide_eq_true_eq,List.any_eq_true];constructor
 ·rintro⟨_,x,hx,e⟩;have hr:=mem_allR.1 hx;rw[nth_eq' (by rw[hr.len];exact ha) (by rw[hr.len];exact hb)] at e;exact⟨x,hr,by simpa using e⟩
 ·rintro⟨x,hr,e⟩;exact⟨⟨ha,hb⟩,x,mem_allR.2 hr,by rw[nth_eq' (by rw[hr.len];exact ha) (by rw[hr.len];exact hb)];simpa using e⟩
theorem apt_iff {c:Cs}{a b:Nat}(ha:a<c.parts.length)(hb:b<c.parts.length):aptB c.parts.length (allR c) a b=true↔∃x,Reas c x∧nth x a≠nth x b:=by
 simp only[aptB,Bool.and_eq_true,decide_eq_true_eq,List.any_eq_true];constructor
 ·rintro⟨_,x,hx,e⟩;have hr:=mem_allR.1 hx;rw[bne,nth_eq' (by rw[hr.len];exact ha) (by rw[hr.len];exact hb)] at e;exact⟨x,hr,by simpa using e⟩
 ·rintro⟨x,hr,e⟩;exact⟨⟨ha,hb⟩,x,mem_allR.2 hr,by rw[bne,nth_eq' (by rw[hr.len];exact ha) (by rw[hr.len];exact hb)];simpa using e⟩
end Go.Proofs.YtjgldeeianionaaGreat
namespace Go.Proofs.YtjgldeeianionaaGreat
open Go.RowKit
theorem ans_iff (c:Cs)(a b:Nat):ansAt c a b=if aptB c.parts.length (allR c) a b then(if togB c.parts.length (allR c) a b then 3 else 2) else 1:=rfl
end Go.Proofs.YtjgldeeianionaaGreat
namespace Go.Proofs.YtjgldeeianionaaGreat
open Go.RowKit
structure Tight (c d:Cs):Prop where
 len:d.parts.length=c.parts.length
 clash:∀a b,a<c.parts.length→b<c.parts.length→clashB c a b=true→clashB d a b=true
 lim:0<c.limit→0<d.limit∧d.limit≤c.limit
section
variable {c d:Cs}
end
def valP (j:Nat)(p:Prt):Int:=if j=0 then p.span.lowBy else if j=1 then p.span.highBy else p.footBy
def stepP (gone:Int→Bool)(j:Nat)(p:Prt):Prt:=if hitB gone (valP j p) then clearP j p else p
def woutP (gone:Int→Bool)(p:Prt):Prt:=stepP gone 2 (stepP gone 1 (stepP gone 0 p))
theorem modify_at {α:Type}{l:List α}{i:Nat}{x:α}(h:l[i]?=some x){f g:α→α}(hf:f x=g x):l.modify i f=l.modify i g:=by
 apply List.ext_getElem?
 intro k;rw[List.getElem?_modify,List.getElem?_modify]
 by_cases e:i=k
 ·subst e;rw[h];simp[hf]
 ·simp[e]
theorem woutP_eq (gone:Int→Bool)(p:Prt):woutP gone p=⟨p.sherds,⟨if hitB gone p.span.lowBy then 0 else p.span.low,if hitB gone p.span.highBy then 1000 else p.span.high,if hitB gone p.span.lowBy then 0 else p.span.lowBy,if hitB gone p.span.highBy then 0 else p.span.highBy⟩,
 if hitB gone p.footBy then false else p.foot,if hitB gone p.footBy then 0 else p.footBy,p.rests⟩:=by
 unfold woutP
 rcases h0:hitB gone p.span.lowBy with _|_<;>rcases h1:hitB gone p.span.highBy with _|_<;>rcases h2:hitB gone p.footBy with _|_ <;>
  simp[stepP,valP,clearP,h0,h1,h2]
theorem okSpn_of {p:Prt}(h:isPartB p=true):0≤p.span.low∧p.span.low≤p.span.high∧p.span.high≤1000:=by
 simp[isPartB,okSpn] at h
 omega
theorem clash_wout (gone:Int→Bool){p q:Prt}{x y:Nat}(hp:isPartB p=true)(hq:isPartB q=true)(h:clashP x y (woutP gone p) (woutP gone q)=true):clashP x y p q=true:=by
 have a:=okSpn_of hp;have b:=okSpn_of hq;rw[woutP_eq,woutP_eq] at h;simp only[clashP,feetB,Bool.and_eq_true,Bool.or_eq_true,decide_eq_true_eq,bne_iff_ne] at h ⊢;obtain⟨h1,h2⟩:=h;refine⟨h1,?_⟩
 rcases h2 with (⟨f1,f2⟩|h2)|h2
 ·refine .inl (.inl ⟨?_,?_⟩)
  ·split at f1
   ·cases f1
   ·exact f1
  ·split at f2
   ·cases f2
   ·exact f2
 ·refine .inl (.inr ?_)
  split at h2<;>split at h2<;>omega
 ·refine .inr ?_
  split at h2<;>split at h2<;>omega
theorem check_okCase {c:Cs}(h:checkCase c=0):c.parts.length≤8∧ok0 c=true∧(∀p∈c.parts,isPartB p=true)∧noDup (allIds c.parts)=true:=by
 unfold checkCase at h
 split at h
 ·cases h
 ·split at h
  ·rename_i h1
   simp only[okCase,Bool.and_eq_true,List.all_eq_true] at h1;exact⟨zO,h1.1.1,h1.1.2,h1.2⟩
  ·cases h
theorem okCase_check {c:Cs}(h8:c.parts.length≤8)(h0:ok0 c=true)(h1:∀p∈c.parts,isPartB p=true)(h2:noDup (allIds c.parts)=true):checkCase c=0:=by
 unfold checkCase;rw[if_neg zO,if_pos];simp only[okCase,Bool.and_eq_true,List.all_eq_true];exact⟨⟨h0,h1⟩,h2⟩
theorem clashB_at {c:Cs}{a b:Nat}{p q:Prt}(ha:c.parts[a]?=some p)(hb:c.parts[b]?=some q):clashB c a b=clashP a b p q:=clashB_eq ha hb
end Go.Proofs.YtjgldeeianionaaGreat
namespace Go.Proofs.YtjgldeeianionaaGreat
open Go.RowKit
theorem narrowP_part {p:Prt}{low high id:Int}(h:isPartB p=true)(h1:0≤low)(h2:high≤1000)(h3:1≤id∧id≤1000000)(h4:(narrowP low high id p).span.low≤(narrowP low high id p).span.high):isPartB (narrowP low high id p)=true:=by
 simp only[isPartB,Bool.and_eq_true] at h ⊢;obtain⟨⟨⟨⟨⟨⟨⟨a1,a2⟩,a3⟩,a4⟩,a5⟩,a6⟩,a7⟩,a8⟩:=h;simp only[okSpn,Bool.and_eq_true,decide_eq_true_eq] at a5;refine⟨⟨⟨⟨⟨⟨⟨a1,a2⟩,a3⟩,a4⟩,?_⟩,?_⟩,?_⟩,a8⟩
 ·simp only[okSpn,Bool.and_eq_true,decide_eq_true_eq];refine⟨⟨?_,h4⟩,?_⟩
  ·simp only[narrowP];split<;>omega
  ·simp only[narrowP];split<;>omega
 ·simp only[narrowP]
  split
  ·simp[byB,inB];omega
  ·exact a6
 ·simp only[narrowP]
  split
  ·simp[byB,inB];omega
  ·exact a7
theorem narrow_at {c:Cs}{i a:Nat}{low high id:Int}{p:Prt}(ha:c.parts[a]?=some p):(narrowC c i low high id).parts[a]?=some (if i=a then narrowP low high id p else p):=by
 simp only[narrowC,List.getElem?_modify,ha]
 split<;>simp
theorem narrow_check {c:Cs}{i:Nat}{low high id:Int}{p:Prt}(h:checkCase c=0)(hp:c.parts[i]?=some p)(h1:0≤low)(h2:high≤1000)(h3:1≤id∧id≤1000000)
 (h4:(narrowP low high id p).span.low≤(narrowP low high id p).span.high):checkCase (narrowC c i low high id)=0:=by
 obtain⟨h8,k0,k1,k2⟩:=check_okCase h;refine okCase_check (by simpa[narrowC] using h8) k0 (fun q hq=>?_) ?_
 ·obtain⟨a,hal,rfl⟩:=List.getElem_of_mem hq;have hal':a<c.parts.length:=by simpa[narrowC] using hal
  obtain⟨r,hr⟩:=get_of_lt c.parts hal';have e:=narrow_at (i:=i) (low:=low) (high:=high) (id:=id) hr;rw[List.getElem?_eq_getElem hal] at e;rw[Option.some.inj e]
  split
  ·rename_i hia
   subst hia;rw[hp] at hr;cases hr;exact narrowP_part (k1 p (List.mem_of_getElem? hp)) h1 h2 h3 h4
  ·exact k1 r (List.mem_of_getElem? hr)
 ·have e:allIds (narrowC c i low high id).parts=allIds c.parts:=by
   simp only[allIds,narrowC,List.flatMap_def]
   congr 1
   apply List.ext_getElem?
   intro k;rw[List.getElem?_map,List.getElem?_map,List.getElem?_modify]
   rcases c.parts[k]? with _|r
   ·rfl
   ·simp only[Option.map_eq_map,Option.map_some]
    split<;>rfl
  rw[e];exact k2
theorem narrow_tight (c:Cs)(i:Nat)(low high id:Int):Tight c (narrowC c i low high id):=by
 refine⟨by simp[narrowC],fun a b ha hb k=>?_,fun hl=>⟨hl,Int.le_refl _⟩⟩;obtain⟨p,hp⟩:=get_of_lt c.parts ha;obtain⟨q,hq⟩:=get_of_lt c.parts hb;rw[clashB_at hp hq] at k;rw[clashB_at (narrow_at hp) (narrow_at hq)];simp only[clashP,feetB,Bool.and_eq_true,Bool.or_eq_true,decide_eq_true_eq,bne_iff_ne] at k ⊢;obtain⟨k1,k2⟩:=k;have lo:∀r:Prt,r.span.low≤(narrowP low high id r).span.low:=fun r=>by simp only[narrowP];split<;>omega
 have hi:∀r:Prt,(narrowP low high id r).span.high≤r.span.high:=fun r=>by simp only[narrowP];split<;>omega
 have ft:∀r:Prt,(narrowP low high id r).foot=r.foot:=fun r=>rfl
 have lo':∀(r:Prt) (j:Nat),r.span.low≤(if i=j then narrowP low high id r else r).span.low:=fun r j=>by
  split
  ·exact lo r
  ·exact Int.le_refl _
 have hi':∀(r:Prt) (j:Nat),(if i=j then narrowP low high id r else r).span.high≤r.span.high:=fun r j=>by
  split
  ·exact hi r
  ·exact Int.le_refl _
 have ft':∀(r:Prt) (j:Nat),(if i=j then narrowP low high id r else r).foot=r.foot:=fun r j=>by split<;>rfl
 rw[ft',ft'];refine⟨k1,?_⟩;have l1:=lo' p a;have l2:=lo' q b;have u1:=hi' p a;have u2:=hi' q b
 rcases k2 with (k2|k2)|k2
 ·exact .inl (.inl k2)
 ·exact .inl (.inr zO)
 ·exact .inr zO
theorem ans_one {c:Cs}{a b:Nat}(ha:a<c.parts.length)(hb:b<c.parts.length):ansAt c a b=1↔∀x,Reas c x→nth x a=nth x b:=by
 rw[ans_iff]
 by_cases h:aptB c.parts.length (allR c) a b=true
 ·rw[if_pos h];obtain⟨x,hx,e⟩:=(apt_iff ha hb).1 h;constructor
  ·intro k;split at k<;>cases k
  ·intro k;exact absurd (k x hx) e
 ·rw[if_neg h];exact⟨fun _ x hx=>Classical.byContradiction fun e=>h ((apt_iff ha hb).2 ⟨x,hx,e⟩),fun _=>rfl⟩
theorem ans_congr {c:Cs}{a b a' b':Nat}(ha:a<c.parts.length)(hb:b<c.parts.length)(ha':a'<c.parts.length)(hb':b'<c.parts.length)(h:∀x,Reas c x→(nth x a=nth x b↔nth x a'=nth x b')):ansAt c a b=ansAt c a' b':=by
 have h1:togB c.parts.length (allR c) a b=togB c.parts.length (allR c) a' b':=by
  rw[Bool.eq_iff_iff,tog_iff ha hb,tog_iff ha' hb'];exact⟨fun⟨x,hx,e⟩=>⟨x,hx,(h x hx).1 e⟩,fun⟨x,hx,e⟩=>⟨x,hx,(h x hx).2 e⟩⟩
 have h2:aptB c.parts.length (allR c) a b=aptB c.parts.length (allR c) a' b':=by
  rw[Bool.eq_iff_iff,apt_iff ha hb,apt_iff ha' hb'];exact⟨fun⟨x,hx,e⟩=>⟨x,hx,fun k=>e ((h x hx).2 k)⟩,fun⟨x,hx,e⟩=>⟨x,hx,fun k=>e ((h x hx).1 k)⟩⟩
 rw[ans_iff,ans_iff,h1,h2]
theorem with_isSome {c:Cs}{a b:Nat}{t:Bool}(ha:a<c.parts.length)(hb:b<c.parts.length):((allR c).find? (asPair a b t)).isSome=if t then togB c.parts.length (allR c) a b else aptB c.parts.length (allR c) a b:=by
 rw[Bool.eq_iff_iff,List.find?_isSome];have key:∀x,Reas c x→(asPair a b t x=true↔(nth x a==nth x b)=t):=fun x hx=>by
  rw[asPair,nth_eq' (by rw[hx.len];exact ha) (by rw[hx.len];exact hb),beq_iff_eq]
 cases t
 ·simp only[Bool.false_eq_true,if_false];rw[apt_iff ha hb];exact⟨fun⟨x,hx,e⟩=>⟨x,mem_allR.1 hx,by simpa using(key x (mem_allR.1 hx)).1 e⟩,fun⟨x,hx,e⟩=>⟨x,mem_allR.2 hx,(key x hx).2 (by simpa using e)⟩⟩
 ·simp only[if_true];rw[tog_iff ha hb];exact⟨fun⟨x,hx,e⟩=>⟨x,mem_allR.1 hx,by simpa using(key x (mem_allR.1 hx)).1 e⟩,fun⟨x,hx,e⟩=>⟨x,mem_allR.2 hx,(key x hx).2 (by simpa using e)⟩⟩
end Go.Proofs.YtjgldeeianionaaGreat
namespace Go.Proofs.YtjgldeeianionaaGreat
open Go.RowKit
attribute [local go_sem] Oper.semAt_some
theorem PreOk.nil (c:Cs):PreOk c []:=fun p v hp=>by
 have:=List.prefix_nil.1 hp;simp at this
def AllPost (c:Cs)(w:World)(e:Ending)(w':World):Prop:=
 ∃v,e = .returned v∧RowsV w.heap.size (fun b=>w.heap.size≤b) w' v (allR c)∧Below w.heap.size w w'
theorem allTop_ref (c:Cs)(hn8:c.parts.length≤8)(hlim:0≤c.limit)(pa:Option Addr)(pc:Nat)(w:World)(hp:PartsAt w pa c.parts):
 Calls Tryz.prog 159 #[.agg #[.string c.ware,.int .i64 c.limit,.int .i64 c.by_,.slice pa c.parts.length pc]] w (AllPost c w):=by
 obtain⟨w1,hw1⟩:=zx (w.alloc (.cells #[.string c.ware,.int .i64 c.limit,.int .i64 c.by_,.slice pa c.parts.length pc] 24));have hB1:Below w.heap.size w w1:=by rw[←hw1];go_grown
 have b1:Box w1 w.heap.size (csCells c pa pc) 24:=by rw[←hw1];exact Box.new _ _ _
 have hs1:w1.heap.size=w.heap.size+1:=by rw[←hw1];simp
 have e1:=zC (b1);have hB2:Below w.heap.size w (w1.alloc (.cells #[] 3)):=hB1.alloc zO _;have hall:=all_ref c hn8 hlim pa pc c.parts.length [] (some ⟨w1.heap.size,0,none⟩) 0 (w1.alloc (.cells #[] 3)) zS (hp.below hB2) (Ints.nil _ _) (Nat.zero_le _) (PreOk.nil c);rw[List.length_nil] at hall;have HS:=zh hs1;have HW:=zh hw1;have HB2:=zh hB2;have HA:=zh hall;clear hall hB2 hs1 hw1 hB1 b1 hp
 go_enter Tryz.func159,Tryz.ntmps159
 go_upto_region 1 with fail
 simp only[HW.out]
 go_wp2_with (go_at_call 199;refine zM HA ?_;rintro e w3 ⟨v,rfl,hv,hb⟩;have HV:=zh hv;have HB3:=zh hb;clear hv hb)
 go_ret
 refine⟨v,rfl,HV.out.less (by simp;have:=HS.out;omega) (fun b hb=>?_),HB2.out.trans (HB3.out.mono HB2.out.size)⟩;have:=HS.out
 rcases hb with hb|⟨o,hb⟩
 ·simp at hb;omega
 ·cases hb;omega
theorem allGo_size (c:Cs):∀(r:Nat) (pre:List Nat),∀x∈allGo c r pre,x.length=pre.length+r
 |0,pre,x,h=>by simp[allGo] at h;subst h;rfl
 |r+1,pre,x,h=>by
  simp only[allGo,List.mem_flatMap] at h;obtain⟨v,_,h⟩:=h
  split at h
  ·have:=allGo_size c r (pre++[v]) x h;rw[this,List.length_append,List.length_singleton];omega
  ·simp at h
theorem allR_size {c:Cs}{x:List Nat}(h:x∈allR c):x.length=c.parts.length:=by
 have:=allGo_size c c.parts.length [] x h
 simpa using this
def LookPost (er:Int)(o:Option (List Nat))(w:World)(e:Ending)(w':World):Prop:=
 Below w.heap.size w w'∧((er≠0∧e = .returned (.tuple #[.slice none 0 0,.bool false,.int .i64 er]))∨(er=0∧o=none∧e = .returned (.tuple #[.slice none 0 0,.bool false,.int .i64 0])) ∨
  (er=0∧∃x a cap,o=some x∧e = .returned (.tuple #[.slice a x.length cap,.bool true,.int .i64 0])∧Ints w' a (natInts x)))
end Go.Proofs.YtjgldeeianionaaGreat
namespace Go.Proofs.YtjgldeeianionaaGreat
open Go.RowKit
attribute [local go_sem] Oper.semAt_some
def sameN (L:List (List Nat))(a b k:Nat):Nat:=((L.take k).filter fun x=>nth x a==nth x b).length
theorem sameN_succ {L:List (List Nat)}{a b k:Nat}{x:List Nat}(h:L[k]?=some x):sameN L a b (k+1)=sameN L a b k+if nth x a==nth x b then 1 else 0:=by
 unfold sameN;rw[take_snoc h,List.filter_append,List.length_append]
 congr 1
 rcases hb:(nth x a==nth x b) with _|_<;>simp[hb]
theorem sameN_le (L:List (List Nat))(a b k:Nat):sameN L a b k≤k:=by
 have:=List.length_filter_le (fun x:List Nat=>nth x a==nth x b) (L.take k);rw[List.length_take] at this;unfold sameN
 omega
theorem sameN_all {L:List (List Nat)}{a b:Nat}:sameN L a b L.length=L.length↔∀x∈L,nth x a=nth x b:=by
 unfold sameN;rw[List.take_length,List.length_filter_eq_length_iff]
 simp
theorem sameN_none {L:List (List Nat)}{a b:Nat}:sameN L a b L.length=0↔∀x∈L,nth x a≠nth x b:=by
 unfold sameN;rw[List.take_length,List.length_eq_zero_iff,List.filter_eq_nil_iff]
 simp
theorem ans_count {c:Cs}(hne:(allR c).isEmpty=false){a b:Nat}(ha:a<c.parts.length)(hb:b<c.parts.length):
 ansAt c a b=if sameN (allR c) a b (allR c).length=(allR c).length then 1 else if sameN (allR c) a b (allR c).length=0 then 2 else 3:=by
 split
 ·rename_i h
  rw[sameN_all] at h;exact(ans_one ha hb).2 fun x hx=>h x (mem_allR.2 hx)
 ·rename_i h
  rw[sameN_all] at h;have h1:aptB c.parts.length (allR c) a b=true:=(apt_iff ha hb).2 (by
   refine Classical.byContradiction fun hn=>h fun x hx=>?_
   exact Classical.byContradiction fun hne=>hn ⟨x,mem_allR.1 hx,hne⟩)
  rw[ans_iff,h1,if_pos rfl]
  by_cases h2:sameN (allR c) a b (allR c).length=0
  ·rw[if_pos h2];rw[sameN_none] at h2;have h3:togB c.parts.length (allR c) a b=false:=by
    rw[Bool.eq_false_iff];intro ht;obtain⟨x,hx,e⟩:=(tog_iff ha hb).1 ht;exact h2 x (mem_allR.2 hx) e
   rw[h3];rfl
  ·rw[if_neg h2];rw[sameN_none] at h2;have h3:togB c.parts.length (allR c) a b=true:=(tog_iff ha hb).2 (by
    refine Classical.byContradiction fun hn=>h2 fun x hx e=>hn ⟨x,mem_allR.1 hx,e⟩)
   rw[h3];rfl
theorem row_val {w:World}{a:Option Addr}{x:List Nat}(h:Ints w a (natInts x)){k:Nat}(hk:k<x.length):∃b o,a=some ⟨b,o,none⟩∧w.cell? ⟨b,o+k,none⟩=some (.int .i64 (nth x k:Nat)):=
 nat_cell h (by rw[nth_get hk,List.getElem?_eq_getElem hk])
theorem answerR_any {B:Nat}{Q:Nat→Prop}(c:Cs)(h8:c.parts.length≤8)(hne:(allR c).isEmpty=false)(x y:Nat)(hx:x<c.parts.length)(hy:y<c.parts.length)(a:Option Addr)(cap:Nat)(w:World)(hR:RowsV B Q w (.slice a (allR c).length cap) (allR c)):
 Calls Tryz.prog 160 #[.slice a (allR c).length cap,.int .i64 x,.int .i64 y] w fun e w'=>e = .returned (.int .u8 (ansAt c x y))∧Below w.heap.size w w':=by
 have hrl:=allR_len h8;have HE:=zh (ans_count hne hx hy);have HSZ:=zh (fun z (hz:z∈allR c)=>allR_size hz);have HR:=zh hR;have hn0:0<(allR c).length:=by
  rcases h:allR c with _|⟨z,l⟩
  ·rw[h] at hne;cases hne
  ·simp
 obtain⟨n,hn⟩:=zx (c.parts.length);rw[hn] at hx hy HSZ;clear hR hne hn h8;generalize ansAt c x y=v at *;generalize allR c=R at *
 go_enter Tryz.func160,Tryz.ntmps160
 go_wp2_with fail
 go_loopw [7,8] (fun sv iv wr=>∃k:Nat,k≤R.length∧iv = .int .i64 k∧sv = .int .i64 (sameN R x y k:Nat)∧Below w.heap.size w wr) (fun _ iv _=>R.length-(intOf iv).toNat)
 case atStart=>exact⟨0,Nat.zero_le _,rfl,rfl,Below.refl _ _⟩
 case round=>
  obtain⟨k,hk,rfl,rfl,hb⟩:=hrel;have HB:=zh hb;clear hb;have hsl:=sameN_le R x y k
  by_cases hlt:k<R.length
  ·have hki:(k:Int)<(R.length:Int):=by omega
   obtain⟨l,hl⟩:=get_of_lt R hlt;obtain⟨_,_,hva,hrd⟩:=(HR.out.below HB.out).at_
   injection hva with hva1 _ hva2
   subst hva1 hva2;obtain⟨rb,ro,la,lc,rfl,hc,hi,hic⟩:=hrd k l hl;have hln:=HSZ.out l (List.mem_of_getElem? hl);obtain⟨b1,o1,rfl,d1⟩:=row_val hi (k:=x) zO;obtain⟨b2,o2,hb2,d2⟩:=row_val hi (k:=y) zO;cases hb2;have hxi:(x:Int)<(l.length:Int):=by omega
   have hyi:(y:Int)<(l.length:Int):=by omega
   have HC:=zh (And.intro hc (And.intro d1 d2));have HS:=zh (sameN_succ (a:=x) (b:=y) hl);clear hc d1 d2 hi hrd hl
   rcases he:(nth l x==nth l y) with _|_
   ·have hei:(((nth l x:Nat):Int)==((nth l y:Nat):Int))=false:=by
     rw[beq_eq_false_iff_ne] at he ⊢;omega
    rw[he] at HS;clear he
    go_wp2_with fail
    refine wp_region_heldB 15 [] zK zK zK zS ?_;intro S hS;have k0:=fun W (h:S W)=>(⟨below_cell (hS W h) HC.out.1,below_cell (hS W h) HC.out.2.1,below_cell (hS W h) HC.out.2.2⟩:_∧_∧_)
    have K0:=zh k0;have HSS:=zh hS;clear k0 hS;simp only[List.take_succ_cons,List.take_zero,List.drop_succ_cons,List.drop_zero]
    repeat (first
     |(refine held_not rfl (by rfl) ?_;try simp only[pZ])
     |(refine held_val (v:=?_) rfl (by rfl) ?_ ?_;rotate_left;(· (intro W hW;obtain⟨q0,q1,q2⟩:=K0.out W hW;go_simp;try with_reducible rfl));try simp only[pZ])
     |(refine held_skip rfl (by rfl) ?_ ?_;(· (intro W hW;obtain⟨q0,q1,q2⟩:=K0.out W hW;go_simp;try with_reducible rfl));try simp only[pZ]))
    refine held_nil ?_;intro τ hτ wn hW hO;obtain rfl:=laid0 hτ;have HBN:=zh (HB.out.trans ((HSS.out wn hW).mono HB.out.size));clear hτ hO hW K0 HSS;simp only[overs,List.foldl_nil]
    go_wp2_with fail
    go_roundw
    case rel=>exact⟨k+1,zO,zN,by rw[HS.out];rfl,HBN.out⟩
    case measure=>simp[intOf];omega
   ·have hei:(((nth l x:Nat):Int)==((nth l y:Nat):Int))=true:=by
     rw[beq_iff_eq] at he ⊢;omega
    rw[he] at HS;clear he
    go_wp2_with fail
    refine wp_region_heldB 15 [] zK zK zK zS ?_;intro S hS;have k0:=fun W (h:S W)=>(⟨below_cell (hS W h) HC.out.1,below_cell (hS W h) HC.out.2.1,below_cell (hS W h) HC.out.2.2⟩:_∧_∧_)
    have K0:=zh k0;have HSS:=zh hS;clear k0 hS;simp only[List.take_succ_cons,List.take_zero,List.drop_succ_cons,List.drop_zero]
    repeat (first
     |(refine held_not rfl (by rfl) ?_;try simp only[pZ])
     |(refine held_val (v:=?_) rfl (by rfl) ?_ ?_;rotate_left;(· (intro W hW;obtain⟨q0,q1,q2⟩:=K0.out W hW;go_simp;try with_reducible rfl));try simp only[pZ])
     |(refine held_skip rfl (by rfl) ?_ ?_;(· (intro W hW;obtain⟨q0,q1,q2⟩:=K0.out W hW;go_simp;try with_reducible rfl));try simp only[pZ]))
    refine held_nil ?_;intro τ hτ wn hW hO;obtain rfl:=laid0 hτ;have HBN:=zh (HB.out.trans ((HSS.out wn hW).mono HB.out.size));clear hτ hO hW K0 HSS;simp only[overs,List.foldl_nil]
    go_wp2_with fail
    go_roundw
    case rel=>exact⟨k+1,zO,zN,by rw[HS.out];go_num,HBN.out⟩
    case measure=>simp[intOf];omega
  ·have hke:k=R.length:=by omega
   subst hke
   by_cases h1:sameN R x y R.length=R.length
   ·have hb:(((sameN R x y R.length:Nat):Int)==(R.length:Int))=true:=by simp;omega
    have HV:=zh (HE.out.trans (if_pos h1));clear h1
    go_wp2_with fail
    go_ret
    exact⟨by rw[HV.out];rfl,HB.out⟩
   ·have hb:(((sameN R x y R.length:Nat):Int)==(R.length:Int))=false:=by simp;omega
    by_cases h2:sameN R x y R.length=0
    ·have hb2:(((sameN R x y R.length:Nat):Int)==0)=true:=by simp;omega
     have HV:=zh ((HE.out.trans (if_neg h1)).trans (if_pos h2));clear h1 h2
     go_wp2_with fail
     go_ret
     exact⟨by rw[HV.out];rfl,HB.out⟩
    ·have hb2:(((sameN R x y R.length:Nat):Int)==0)=false:=by simp;omega
     have HV:=zh ((HE.out.trans (if_neg h1)).trans (if_neg h2));clear h1 h2
     go_wp2_with fail
     go_ret
     exact⟨by rw[HV.out];rfl,HB.out⟩
theorem answerTop_ref (c:Cs)(hsm:c.Small)(pa:Option Addr)(pc:Nat)(x y:Int)(w:World)(hp:PartsAt w pa c.parts):
 Calls Tryz.prog 76 #[.agg #[.string c.ware,.int .i64 c.limit,.int .i64 c.by_,.slice pa c.parts.length pc],.int .i64 x,.int .i64 y] w (AnsPost (askErr c [x,y]) (ansAt c x.toNat y.toNat) w):=by
 obtain⟨w1,hw1⟩:=zx (w.alloc (.cells #[.string c.ware,.int .i64 c.limit,.int .i64 c.by_,.slice pa c.parts.length pc] 24));have hB1:Below w.heap.size w w1:=by rw[←hw1];go_grown
 have b1:Box w1 w.heap.size (csCells c pa pc) 24:=by rw[←hw1];exact Box.new _ _ _
 have e1:=zC (b1);have HP:=zh hp;have HW:=zh hw1;have HB1:=zh hB1;have HX:=zh b1;clear hw1 hB1 b1;have hak:=asked_ref c hsm pa pc x y w1 (hp.below HB1.out);have HAK:=zh hak;clear hak hp
 by_cases hz:openErr c [x,y]=0
 ·have h8:=check_small hz;have hlim:=check_lim (open_check hz);have hx:=open_in hz x zS;have hy:=open_in hz y zS;obtain⟨a,rfl⟩:=Int.eq_ofNat_of_zero_le hx.1;obtain⟨b,rfl⟩:=Int.eq_ofNat_of_zero_le hy.1;simp only[Int.toNat_natCast];have hae:=ask_eq0 hz;rw[hz] at HAK;have hxa:=hx.2;have hyb:=hy.2;clear hz hx hy
  go_enter Tryz.func76,Tryz.ntmps76
  go_upto_region 1 with fail
  simp only[HW.out]
  go_upto_region 4 with (go_at_call 158;refine zM HAK ?_;rintro e w2 ⟨rfl,hb2⟩;have e2:∀i,w2.cell? ⟨w.heap.size,i,none⟩=(#[.string c.ware,.int .i64 c.limit,.int .i64 c.by_,.slice pa c.parts.length pc]:Array Value)[i]?:=(HX.out.below' hb2).cell;have HB2:=zh hb2;clear hb2)
  clear e1;have hW2:Below w.heap.size w w2:=HB1.out.trans (HB2.out.mono HB1.out.size);have HAL:=zh (allTop_ref c h8 hlim.1 pa pc w2 (HP.out.below hW2));have HW2:=zh hW2;clear hW2
  go_upto_region 5 with (go_at_call 159;refine zM HAL ?_;rintro e w3 ⟨v,rfl,hv,hb⟩;have HB3:=zh hb;have HV:=zh hv;obtain⟨ra,rcap,rfl,-⟩:=hv.at_;clear hb)
  have HW3:=zh (HW2.out.trans (HB3.out.mono HW2.out.size));clear e2
  rcases hem:(allR c).isEmpty with _|_
  ·have hl0:(((allR c).length:Int)==0)=false:=by
    rw[beq_eq_false_iff_ne];intro e;rw[List.isEmpty_eq_false_iff] at hem;exact hem (List.length_eq_zero_iff.1 zO)
   rw[hem] at hae;have HAN:=zh (fun W (h:Below w3.heap.size w3 W)=>answerR_any c h8 hem a b zO zO ra rcap W (HV.out.below h));have HAE:=zh hae;clear hae hem
   go_wp2_with (go_at_call 160;(with_reducible refine(HAN.out _ (Below.refl _ _)).mono ?_);rintro e w4 ⟨rfl,hb4⟩;have HB4:=zh hb4;clear hb4)
   go_ret2
   refine⟨HW3.out.trans (HB4.out.mono HW3.out.size),?_⟩;rw[HAE.out];rfl
  ·have hl0:(((allR c).length:Int)==0)=true:=by
    rw[List.isEmpty_iff] at hem;rw[hem];rfl
   rw[hem] at hae;have HAE:=zh hae;clear hae hem
   go_wp2_with fail
   go_ret2
   refine⟨HW3.out,?_⟩;rw[HAE.out];rfl
 ·have HAE:=zh (ask_eq hz);have hzz:(openErr c [x,y] != 0)=true:=by simpa using hz
  have HZ:=zh hz;clear hz
  go_enter Tryz.func76,Tryz.ntmps76
  go_upto_region 1 with fail
  simp only[HW.out]
  go_wp2_with (go_at_call 158;refine zM HAK ?_;rintro e w2 ⟨rfl,hb2⟩;have HB2:=zh hb2;clear hb2)
  go_ret2
  refine⟨HB1.out.trans (HB2.out.mono HB1.out.size),?_⟩;rw[HAE.out,if_neg HZ.out];rfl
end Go.Proofs.YtjgldeeianionaaGreat
namespace Go.Proofs.YtjgldeeianionaaGreat
open Go.RowKit
attribute [local go_sem] Oper.semAt_some
theorem answers_ref (c:Cs)(hsm:c.Small)(pa:Option Addr)(pc:Nat)(w:World)(hp:PartsAt w pa c.parts):
 Calls Tryz.prog 157 #[.agg #[.string c.ware,.int .i64 c.limit,.int .i64 c.by_,.slice pa c.parts.length pc]] w (RowsPost 187 (askErr c []) (ansRows c) w):=by
 obtain⟨w1,hw1⟩:=zx (w.alloc (.cells #[.string c.ware,.int .i64 c.limit,.int .i64 c.by_,.slice pa c.parts.length pc] 24));have hB1:Below w.heap.size w w1:=by rw[←hw1];go_grown
 have b1:Box w1 w.heap.size (csCells c pa pc) 24:=by rw[←hw1];exact Box.new _ _ _
 have e1:=zC (b1);have hck:=checkCase_ref c hsm pa pc w1 (hp.below hB1);have HCK:=zh hck;have HP:=zh hp;have HW:=zh hw1;have HB1:=zh hB1;have HX:=zh b1;clear hw1 hB1 b1 hck hp;have heq:openErr c []=checkCase c:=by unfold openErr;split<;>simp[*]
 by_cases hz:checkCase c=0
 ·have h8:=check_small (heq.trans hz);have hlim:=check_lim hz;have hae:=ask_eq0 (heq.trans hz);rw[hz] at HCK;clear hz heq
  go_enter Tryz.func157,Tryz.ntmps157
  go_upto_region 1 with fail
  simp only[HW.out]
  go_upto_region 4 with (go_at_call 143;refine zM HCK ?_;rintro e w2 ⟨rfl,hb2⟩;have e2:∀i,w2.cell? ⟨w.heap.size,i,none⟩=(#[.string c.ware,.int .i64 c.limit,.int .i64 c.by_,.slice pa c.parts.length pc]:Array Value)[i]?:=(HX.out.below' hb2).cell;have HB2:=zh hb2;clear hb2)
  clear e1;have hW2:Below w.heap.size w w2:=HB1.out.trans (HB2.out.mono HB1.out.size);have HAL:=zh (allTop_ref c h8 hlim.1 pa pc w2 (HP.out.below hW2));have HX2:=zh (HX.out.below' HB2.out);have HW2:=zh hW2;clear hW2
  go_upto_region 5 with (go_at_call 159;refine zM HAL ?_;rintro e w3 ⟨v,rfl,hv,hb⟩;have HB3:=zh hb;have HV:=zh hv;obtain⟨ra,rcap,rfl,-⟩:=hv.at_;clear hb)
  have HW3:=zh (HW2.out.trans (HB3.out.mono HW2.out.size));have HX3:=zh (HX2.out.below' HB3.out);clear e2 HX2
  rcases hem:(allR c).isEmpty with _|_
  ·have hl0:(((allR c).length:Int)==0)=false:=by
    rw[beq_eq_false_iff_ne];intro e;rw[List.isEmpty_eq_false_iff] at hem;exact hem (List.length_eq_zero_iff.1 zO)
   rw[hem] at hae;have HAN:=zh (fun(i j:Nat) (hi:i<c.parts.length) (hj:j<c.parts.length) W (h:Below w3.heap.size w3 W)=>answerR_any c h8 hem i j hi hj ra rcap W (HV.out.below h));have HAE:=zh hae;have H8:=zh h8;clear hae hem
   go_wp2_with fail
   go_loopw [6,7] (fun ov iv wr=>∃i:Nat,i≤c.parts.length∧iv = .int .i64 i∧RowsG 187 w3.heap.size (fun b=>w3.heap.size≤b) wr ov (ansRowsTo c i)∧Below w3.heap.size w3 wr) (fun _ iv _=>c.parts.length-(intOf iv).toNat)
   case atStart=>exact⟨0,Nat.zero_le _,rfl,RowsG.nil _ _ _,Below.refl _ _⟩
   case round=>
    obtain⟨i,hi,rfl,hrows,hbw⟩:=hrel;have HR:=zh hrows;have HBW:=zh hbw;clear hrows hbw;have e5:=zC ((HX3.out.below' HBW.out))
    by_cases hil:i<c.parts.length
    ·have hin:(i:Int)<(c.parts.length:Int):=by omega
     go_wp2_with fail
     clear e5;obtain⟨wo,hwo⟩:∃wo:World,wo=wr:=⟨_,rfl⟩
     subst hwo
     go_loopw [8,9] (fun rv jv wx=>∃j:Nat,j≤c.parts.length∧jv = .int .i64 j∧wx.ownsRow wo.heap.size 5 1 rv j (ansRowTo c i j)∧Below wo.heap.size wo wx) (fun _ jv _=>c.parts.length-(intOf jv).toNat)
     case atStart=>exact⟨0,Nat.zero_le _,rfl,ownsRow_nil _ _ _ _,Below.refl _ _⟩
     case round=>
      obtain⟨j,hj,rfl,hrow,hbx⟩:=hrel;have HRW:=zh hrow;have HBO:=zh hbx;clear hrow hbx;have e6:=zC (((HX3.out.below' HBW.out).below' HBO.out))
      by_cases hjl:j<c.parts.length
      ·have hjn:(j:Int)<(c.parts.length:Int):=by omega
       go_wp2_with (first
        |(go_at_call 160;(with_reducible refine(HAN.out i j hil hjl _ (HBW.out.trans (HBO.out.mono HBW.out.size))).mono ?_);rintro e w5 ⟨rfl,hb5⟩;obtain⟨v6,w6,hrun,hown,hb6⟩:=app_one (E:=5) (TT:=187) Tryz.underlying187 info_u8 rfl zO (ownsRow_keep HRW.out (K:=fun _=>True) (Keep.of_below' hb5) (fun _ _=>trivial)) (by have:=H8.out;omega) (Nat.le_trans HBO.out.size hb5.size) (.int .u8 (ansAt c i j)) rfl;have HRN:=zh hrun;have HOW:=zh hown;have HB6:=zh ((HBO.out.trans (hb5.mono HBO.out.size)).trans hb6);clear hrun hown hb6 hb5)
        |(at_builtin;refine wpList_app rfl _ _ _ rfl rfl rfl HRN.out ?_))
       go_roundw
       case rel=>exact⟨j+1,zO,zN,by rw[ansRowTo_succ];exact HOW.out,HB6.out⟩
       case measure=>simp[intOf];omega
      ·have hje:j=c.parts.length:=by omega
       have HJE:=zh hje;obtain⟨qa,qcap,hrv,-,-⟩:=ownsRow_own HRW.out;subst hrv;obtain⟨v6,w6,hrun,hown,hb6⟩:=push_own (TT:=184) Tryz.underlying184 info_row8 HR.out HBO.out HRW.out (by rw[ansRowsTo_len];have:=H8.out;omega) HBW.out.size;have HRN:=zh hrun;have HOW:=zh hown;have HB6:=zh hb6;clear hrun hown hb6 hje
       go_wp2_with (at_builtin;refine wpList_app rfl _ _ _ rfl rfl rfl HRN.out ?_)
       go_roundw
       case rel=>
        have hbo:Below w3.heap.size wo w6:=(HBO.out.mono HBW.out.size).trans HB6.out;refine⟨i+1,zO,zN,?_,HBW.out.trans hbo⟩;rw[ansRowsTo_succ];have:=HOW.out;rw[HJE.out] at this;exact this
       case measure=>simp[intOf];omega
    ·have hie:i=c.parts.length:=by omega
     have HIE:=zh hie;clear hie
     go_wp2_with fail
     go_ret2
     refine⟨HW3.out.trans (HBW.out.mono HW3.out.size),.inr ⟨HAE.out,_,rfl,?_⟩⟩;have:=HR.out;rw[HIE.out] at this;exact this.less HW3.out.size (fun b hb=>by have:=HW3.out.size;omega)
  ·have hl0:(((allR c).length:Int)==0)=true:=by
    rw[List.isEmpty_iff] at hem;rw[hem];rfl
   rw[hem] at hae;have HAE:=zh hae;clear hae hem
   go_wp2_with fail
   go_ret2
   exact⟨HW3.out,.inl ⟨by rw[HAE.out];decide,by rw[HAE.out];rfl⟩⟩
 ·have HAE:=zh (show askErr c []=checkCase c by rw[ask_eq (by rw[heq];exact hz),heq]);have hzz:(checkCase c != 0)=true:=by simpa using hz
  have HZ:=zh hz;clear hz heq
  go_enter Tryz.func157,Tryz.ntmps157
  go_upto_region 1 with fail
  simp only[HW.out]
  go_wp2_with (go_at_call 143;refine zM HCK ?_;rintro e w2 ⟨rfl,hb2⟩;have HB2:=zh hb2;clear hb2)
  go_ret2
  exact⟨HB1.out.trans (HB2.out.mono HB1.out.size),.inl ⟨by rw[HAE.out];exact HZ.out,by rw[HAE.out];rfl⟩⟩
end Go.Proofs.YtjgldeeianionaaGreat
namespace Go.Proofs.YtjgldeeianionaaGreat
open Go.RowKit
end Go.Proofs.YtjgldeeianionaaGreat
namespace Go.Proofs.YtjgldeeianionaaGreat
open Go.RowKit
attribute [local go_sem] Oper.semAt_some
theorem first_ref (c:Cs)(hsm:c.Small)(pa:Option Addr)(pc:Nat)(w:World)(hp:PartsAt w pa c.parts):
 Calls Tryz.prog 175 #[.agg #[.string c.ware,.int .i64 c.limit,.int .i64 c.by_,.slice pa c.parts.length pc]] w (LookPost (checkCase c) ((allR c).find? fun _=>true) w):=by
 obtain⟨w1,hw1⟩:=zx (w.alloc (.cells #[.string c.ware,.int .i64 c.limit,.int .i64 c.by_,.slice pa c.parts.length pc] 24));have hB1:Below w.heap.size w w1:=by rw[←hw1];go_grown
 have b1:Box w1 w.heap.size (csCells c pa pc) 24:=by rw[←hw1];exact Box.new _ _ _
 have e1:=zC (b1);have hcc:=checkCase_ref c hsm pa pc w1 (hp.below hB1);have HP:=zh hp;have HW:=zh hw1;have HB1:=zh hB1;have HX:=zh b1;have HCC:=zh hcc;clear hw1 hB1 b1 hcc hp
 by_cases hz:checkCase c=0
 ·have h8:c.parts.length≤8:=check_small (ps:=[]) (by unfold openErr;rw[if_pos hz];rfl);have hlim:=check_lim hz;have hrl:=allR_len h8;have HZ:=zh hz;rw[hz] at HCC;clear hz
  rcases hL:allR c with _|⟨l,L⟩
  all_goals
   have HL:=zh hL;rw[hL] at hrl;clear hL
   go_enter Tryz.func175,Tryz.ntmps175
   go_upto_region 1 with fail
   simp only[HW.out]
   go_wp2_with fail
   refine zM HCC ?_;rintro e w2 ⟨rfl,hb2⟩;have e2:=zC ((HX.out.below' hb2));have HB2:=zh (HB1.out.trans (hb2.mono HB1.out.size));have HAL:=zh (allTop_ref c h8 hlim.1 pa pc w2 (HP.out.below HB2.out));clear hb2 e1
   go_wp2_with fail
   refine zM HAL ?_;rintro e w3 ⟨v,rfl,hv,hb3⟩;rw[HL.out] at hv;obtain⟨ra,rcap,rfl,hrd⟩:=hv.at_;have HB3:=zh (HB2.out.trans (hb3.mono HB2.out.size));clear hb3 hv e2
  ·simp only[List.length_nil];clear hrd
   go_wp2_with fail
   go_ret3
   exact⟨HB3.out,.inr (.inl ⟨HZ.out,rfl,rfl⟩)⟩
  ·obtain⟨b,o,la,lc,rfl,hc,hi,_⟩:=hrd 0 l rfl;have HI:=zh hi;rw[Nat.add_zero] at hc;obtain⟨N,hN⟩:=zx (L.length);simp only[List.length_cons,hN] at hrl ⊢;clear hrd hi hN
   go_wp2_with fail
   go_ret3
   exact⟨HB3.out,.inr (.inr ⟨HZ.out,l,la,lc,rfl,rfl,HI.out⟩)⟩
 ·have hzz:(checkCase c != 0)=true:=by simpa using hz
  have HZ:=zh hz;clear hz
  go_enter Tryz.func175,Tryz.ntmps175
  go_upto_region 1 with fail
  simp only[HW.out]
  go_wp2_with (go_at_call 143;refine zM HCC ?_;rintro e w2 ⟨rfl,hb2⟩;have HB2:=zh hb2;clear hb2)
  go_ret3
  exact⟨HB1.out.trans (HB2.out.mono HB1.out.size),.inl ⟨HZ.out,rfl⟩⟩
end Go.Proofs.YtjgldeeianionaaGreat
namespace Go.Proofs.YtjgldeeianionaaGreat
open Go.RowKit
attribute [local go_sem] Oper.semAt_some
theorem any_at {α:Type}{l:List α}{k:Nat}{x:α}{p:α→Bool}(hx:l[k]?=some x)(hp:p x=true):l.any p=true:=by
 rw[List.any_eq_true];exact⟨x,List.mem_of_getElem? hx,hp⟩
theorem any_snoc {α:Type}{l:List α}{k:Nat}{x:α}{p:α→Bool}(hx:l[k]?=some x)(h:(l.take k).any p=false)(hp:p x=false):(l.take (k+1)).any p=false:=by
 rw[take_snoc hx,List.any_append,h];simp[hp]
theorem fits_ref (c:Cs)(hsm:c.Small)(pa:Option Addr)(pc:Nat)(na:Option Addr)(l:List Int)(nc:Nat)(hll:l.length≤1000000)(w:World)(hp:PartsAt w pa c.parts)(hi:Ints w na l):
 Calls Tryz.prog 94 #[.agg #[.string c.ware,.int .i64 c.limit,.int .i64 c.by_,.slice pa c.parts.length pc],.slice na l.length nc] w (BoolPost (checkCase c) (checkCase c==0&&fitsB c l) w):=by
 obtain⟨w1,hw1⟩:=zx (w.alloc (.cells #[.string c.ware,.int .i64 c.limit,.int .i64 c.by_,.slice pa c.parts.length pc] 24));have hB1:Below w.heap.size w w1:=by rw[←hw1];go_grown
 have b1:Box w1 w.heap.size (csCells c pa pc) 24:=by rw[←hw1];exact Box.new _ _ _
 have e1:=zC (b1);have hcc:=checkCase_ref c hsm pa pc w1 (hp.below hB1);have HP:=zh hp;have HI:=zh hi;have HW:=zh hw1;have HB1:=zh hB1;have HX:=zh b1;have HCC:=zh hcc;clear hw1 hB1 b1 hcc hp hi
 by_cases hz:checkCase c=0
 ·have h8:c.parts.length≤8:=check_small (ps:=[]) (by unfold openErr;rw[if_pos hz];rfl);have hlim:=check_lim hz;have hrl:=allR_len h8;have HZ:=zh hz;rw[hz] at HCC;clear hz;obtain⟨R,hR⟩:=zx (allR c);have hfb:fitsB c l=R.any fun x=>natInts x==l:=by rw[←hR];rfl
  rw[hR] at hrl;have HR:=zh hR;have HF:=zh hfb;clear hR hfb
  go_enter Tryz.func94,Tryz.ntmps94
  go_upto_region 1 with fail
  simp only[HW.out]
  go_wp2_with fail
  refine zM HCC ?_;rintro e w2 ⟨rfl,hb2⟩;have e2:=zC ((HX.out.below' hb2));have HB2:=zh (HB1.out.trans (hb2.mono HB1.out.size));have HAL:=zh (allTop_ref c h8 hlim.1 pa pc w2 (HP.out.below HB2.out));clear hb2 e1
  go_wp2_with fail
  refine zM HAL ?_;rintro e w3 ⟨v,rfl,hv,hb3⟩;rw[HR.out] at hv;have HV:=zh hv;obtain⟨ra,rcap,rfl,-⟩:=hv.at_;have HB3:=zh (HB2.out.trans (hb3.mono HB2.out.size));clear hb3 hv e2
  go_wp2_with fail
  go_loopw [8] (fun i wr=>∃k:Nat,k≤R.length∧i = .int .i64 k∧Hid ((R.take k).any (fun x=>natInts x==l)=false)∧Below w3.heap.size w3 wr) (fun i _=>R.length-(intOf i).toNat)
  case atStart=>exact⟨0,Nat.zero_le _,rfl,zh rfl,Below.refl _ _⟩
  case round=>
   obtain⟨k,hk,rfl,HNO,hb⟩:=hrel;have HB:=zh hb;clear hb
   by_cases hlt:k<R.length
   ·obtain⟨x,hx⟩:=get_of_lt R hlt;obtain⟨_,_,hva,hrd⟩:=(HV.out.below HB.out).at_
    injection hva with hva1 _ hva2
    subst hva1 hva2;obtain⟨rb,ro,la,lc,rfl,hc,hix,hic⟩:=hrd k x hx;have hxn:x.length≤1000000:=by
     have:=allR_size (c:=c) (x:=x) (by rw[HR.out];exact List.mem_of_getElem? hx)
     omega
    have hki:(k:Int)<(R.length:Int):=by omega
    have hsa:=same_ref la na lc nc (natInts x) l wr hix ((HI.out.below HB3.out).below HB.out) (by rw[natInts_len];exact hxn) hll;rw[natInts_len] at hsa;have HXX:=zh hx;clear hx hrd hix hic
    rcases hsm:decide (natInts x=l) with _|_
    ·rw[hsm] at hsa;have HSA:=zh hsa;have HNE:=zh (show(natInts x==l)=false by simpa using hsm);clear hsa hsm
     go_wp2_with (go_at_call 30;refine zM HSA ?_;rintro e w4 ⟨rfl,hb4⟩;have HB4:=zh (HB.out.trans (hb4.mono HB.out.size));clear hb4)
     go_roundw
     case rel=>exact⟨k+1,zO,zN,zh (any_snoc HXX.out HNO.out HNE.out),HB4.out⟩
     case measure=>simp[intOf];omega
    ·rw[hsm] at hsa;have HSA:=zh hsa;have HEQ:=zh (show(natInts x==l)=true by simpa using hsm);clear hsa hsm
     go_wp2_with (go_at_call 30;refine zM HSA ?_;rintro e w4 ⟨rfl,hb4⟩;have HB4:=zh (HB.out.trans (hb4.mono HB.out.size));clear hb4)
     go_ret2
     exact⟨HB3.out.trans (HB4.out.mono HB3.out.size),by rw[HZ.out,HF.out,any_at (p:=fun x=>natInts x==l) HXX.out HEQ.out];rfl⟩
   ·go_wp2_with fail
    go_ret2
    refine⟨HB3.out.trans (HB.out.mono HB3.out.size),?_⟩;have h1:=HNO.out;rw[List.take_of_length_le zO] at h1;rw[HZ.out,HF.out,h1];rfl
 ·have hzz:(checkCase c != 0)=true:=by simpa using hz
  have HZ:=zh hz;clear hz
  go_enter Tryz.func94,Tryz.ntmps94
  go_upto_region 1 with fail
  simp only[HW.out]
  go_wp2_with (go_at_call 143;refine zM HCC ?_;rintro e w2 ⟨rfl,hb2⟩;have HB2:=zh hb2;clear hb2)
  go_ret2
  exact⟨HB1.out.trans (HB2.out.mono HB1.out.size),by rw[show(checkCase c==0)=false by simpa using HZ.out];rfl⟩
end Go.Proofs.YtjgldeeianionaaGreat
namespace Go.Proofs.YtjgldeeianionaaGreat
open Go.RowKit
def okAll (d:Cs):Bool:=d.parts.all fun q=>decide (q.span.low≤q.span.high)
theorem okAll_iff {d:Cs}:okAll d=true↔∀(a:Nat) q,d.parts[a]?=some q→q.span.low≤q.span.high:=by
 unfold okAll;rw[List.all_eq_true];constructor
 ·intro h a q hq;simpa using h q (List.mem_of_getElem? hq)
 ·intro h q hq;obtain⟨a,ha⟩:=List.mem_iff_getElem?.1 hq
  simpa using h a q ha
theorem narrow_len (d:Cs)(i:Nat)(lo hi id:Int):(narrowC d i lo hi id).parts.length=d.parts.length:=by simp[narrowC]
theorem narrow_worse {d:Cs}{i:Nat}{lo hi id:Int}(h:okAll (narrowC d i lo hi id)=true):okAll d=true:=by
 rw[okAll_iff] at h ⊢;intro a q hq;have h1:=h a _ (narrow_at (i:=i) (low:=lo) (high:=hi) (id:=id) hq)
 split at h1
 ·simp only[narrowP] at h1
  split at h1<;>split at h1<;>omega
 ·exact h1
theorem narrow_ok2 {d:Cs}{i:Nat}{lo hi id:Int}(h:okAll d=true)(h2:∀q,(narrowC d i lo hi id).parts[i]?=some q→q.span.low≤q.span.high):okAll (narrowC d i lo hi id)=true:=by
 rw[okAll_iff] at h ⊢;intro a q hq
 by_cases ha:i=a
 ·subst ha;exact h2 q hq
 ·have hal:a<d.parts.length:=by
   have:=(List.getElem?_eq_some_iff.1 hq).1
   rwa [narrow_len] at this
  obtain⟨r,hr⟩:=get_of_lt d.parts hal;have h1:=narrow_at (i:=i) (low:=lo) (high:=hi) (id:=id) hr;rw[hq,if_neg ha] at h1;cases h1;exact h a q hr
theorem spanOf_at {d:Cs}{p:Prb}{q:Prt}(h:d.parts[p.part.toNat]?=some q):spanOf d p=q.span:=by simp[spanOf,h]
def narrowOf (c d:Cs)(p:Prb)(k:Nat):Cs:=narrowC d p.part.toNat (stepAt (spanOf c p) p.width k).1 (stepAt (spanOf c p) p.width k).2 p.id
theorem aftStep_eq (c d:Cs)(p:Prb)(k:Nat):aftStep c d p k=if(spanOf (narrowOf c d p k) p).low≤(spanOf (narrowOf c d p k) p).high then some (narrowOf c d p k) else none:=rfl
def refAft (c:Cs)(l:List Prb):List (Nat×Nat)→Cs→Cs
 |[],d=>d
 |(v,k)::xs,d=>match l[v]? with
  |none=>refAft c l xs d
  |some p=>refAft c l xs (narrowOf c d p k)
theorem refAft_len (c:Cs)(l:List Prb):∀(xs:List (Nat×Nat)) (d:Cs),(refAft c l xs d).parts.length=d.parts.length
 |[],d=>rfl
 |(v,k)::xs,d=>by
  rw[refAft]
  split
  ·exact refAft_len c l xs d
  ·rw[refAft_len c l xs _];exact narrow_len _ _ _ _ _
theorem refAft_worse {c:Cs}{l:List Prb}:∀(xs:List (Nat×Nat)) (d:Cs),okAll (refAft c l xs d)=true→okAll d=true
 |[],d,h=>h
 |(v,k)::xs,d,h=>by
  rw[refAft] at h
  split at h
  ·exact refAft_worse xs d h
  ·exact narrow_worse (refAft_worse xs _ h)
theorem aft_ref {c:Cs}{l:List Prb}:∀(xs:List (Nat×Nat)) (d:Cs),(∀x∈xs,∃p,l[x.1]?=some p∧p.part.toNat<d.parts.length)→okAll d=true →
 aftGo c l xs d=if okAll (refAft c l xs d) then some (refAft c l xs d) else none
 |[],d,_,h=>by rw[aftGo,refAft,if_pos h]
 |(v,k)::xs,d,hx,h=>by
  obtain⟨p,hp,hpl⟩:=hx (v,k) zS;dsimp only at hp;rw[aftGo,refAft,hp];dsimp only;rw[aftStep_eq];have hl:(narrowOf c d p k).parts.length=d.parts.length:=narrow_len _ _ _ _ _;obtain⟨q,hq⟩:=get_of_lt (narrowOf c d p k).parts (k:=p.part.toNat) zO
  by_cases h1:(spanOf (narrowOf c d p k) p).low≤(spanOf (narrowOf c d p k) p).high
  ·rw[if_pos h1];dsimp only;have hok:okAll (narrowOf c d p k)=true:=narrow_ok2 h (fun r hr=>by
    have e:=spanOf_at hq;unfold narrowOf at hq;rw[hr] at hq;cases hq;rw[←e];exact h1)
   exact aft_ref xs _ (fun x hx'=>by obtain⟨p',h2,h3⟩:=hx x (by simp[hx']);exact⟨p',h2,zO⟩) hok
  ·rw[if_neg h1];dsimp only;rw[if_neg];intro hok;have h2:=okAll_iff.1 (refAft_worse xs _ hok) _ q hq;rw[←spanOf_at hq] at h2;exact h1 h2
theorem Tight.trans {a b c:Cs}(h:Tight a b)(k:Tight b c):Tight a c:=
 ⟨k.len.trans h.len,fun x y hx hy hc=>k.clash x y (by rw[h.len];exact hx) (by rw[h.len];exact hy) (h.clash x y hx hy hc),fun hl=>by
  obtain⟨h1,h2⟩:=h.lim hl;obtain⟨k1,k2⟩:=k.lim h1;exact⟨k1,Int.le_trans k2 h2⟩⟩
theorem Tight.self (a:Cs):Tight a a:=⟨rfl,fun _ _ _ _ h=>h,fun h=>⟨h,Int.le_refl _⟩⟩
structure AftOk (c d:Cs):Prop where
 chk:checkCase d=0
 len:d.parts.length=c.parts.length
 tight:Tight c d
theorem span_ok {c:Cs}{p:Prb}(hc:checkCase c=0)(h0:0≤p.part)(h1:p.part≤(c.parts.length:Int)-1):0≤(spanOf c p).low∧(spanOf c p).low≤(spanOf c p).high∧(spanOf c p).high≤1000:=by
 obtain⟨q,hq⟩:=get_of_lt c.parts (k:=p.part.toNat) zO;rw[spanOf_at hq];exact okSpn_of ((check_okCase hc).2.2.1 q (List.mem_of_getElem? hq))
theorem aftGo_ok {c:Cs}{l:List Prb}(hp:probesErr c l=0):∀(xs:List (Nat×Nat)) (d e:Cs),AftOk c d→aftGo c l xs d=some e→AftOk c e
 |[],d,e,h,he=>by rw[aftGo] at he;cases he;exact h
 |(v,k)::xs,d,e,h,he=>by
  obtain⟨hc,_,hall⟩:=probes_ok hp;rw[aftGo] at he
  split at he
  ·cases he
  ·rename_i p hv
   obtain⟨hr,hpt,_⟩:=hall p (List.mem_of_getElem? hv);have rv:=right_vals hr;rw[aftStep_eq] at he;have hl:=h.len;obtain⟨q,hq⟩:=get_of_lt d.parts (k:=p.part.toNat) zO;have hs:=span_ok hc hpt.1 hpt.2
   split at he
   ·cases he
   ·rename_i e' hst
    split at hst
    ·rename_i h1
     cases hst;have hn:=narrow_at (i:=p.part.toNat) (low:=(stepAt (spanOf c p) p.width k).1) (high:=(stepAt (spanOf c p) p.width k).2) (id:=p.id) hq;rw[if_pos rfl] at hn;have h2:=spanOf_at (d:=narrowOf c d p k) hn;rw[h2] at h1;refine aftGo_ok hp xs _ e ⟨narrow_check h.chk hq ?_ ?_ rv.1 h1,(narrow_len _ _ _ _ _).trans hl,h.tight.trans (narrow_tight _ _ _ _ _)⟩ he
     ·have:(0:Int)≤(k:Int)*p.width:=Int.mul_nonneg zO zO;simp only[stepAt];omega
     ·simp only[stepAt];omega
    ·cases hst
theorem after_ok {c d:Cs}{l:List Prb}{set fs:List Nat}(hp:probesErr c l=0)(h:afterC c l set fs=some d):AftOk c d:=
 aftGo_ok hp _ c d ⟨(probes_ok hp).1,rfl,Tight.self c⟩ h
end Go.Proofs.YtjgldeeianionaaGreat
