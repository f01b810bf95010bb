/- Walks and plain laws. No condition. -/
import Derived.Test.YtjgldeeianionaaGreatV29
set_option maxHeartbeats 4000000
set_option maxRecDepth 100000
set_option linter.unusedSimpArgs false
set_option linter.unusedVariables false
namespace Go.Proofs.YtjgldeeianionaaGreat
open Go.RowKit
section
attribute [local go_sem] Oper.semAt_some
theorem grow_many {x:List Nat}(g:∀i (h:i<x.length),x[i]≤manyOf (x.take i)):∀i,i≤x.length→manyOf (x.take i)≤i
 |0,_=>by simp[manyOf]
 |i+1,hi=>by
  have ih:=grow_many g i zO;have:=g i zO;rw[take_snoc (List.getElem?_eq_getElem (show i<x.length by omega)),manyOf_snoc]
  omega
theorem FitTo.many {c:Cs}{l:List Int}{k:Nat}{pre:List Nat}(h:FitTo c l k pre):manyOf pre≤k:=by
 have:=grow_many h.grow pre.length (Nat.le_refl _)
 rwa [List.take_length,h.len] at this
theorem FitTo.at_ {c:Cs}{l:List Int}{k:Nat}{pre:List Nat}(h:FitTo c l k pre){q:Nat}(hq:q<k):∃z:Nat,pre[q]?=some z∧l[q]?=some (z:Int):=by
 obtain⟨z,hz⟩:=get_of_lt pre (k:=q) (by rw[h.len];exact hq);refine⟨z,hz,?_⟩;have h1:=congrArg (fun l=>l[q]?) h.eq;simp only[List.getElem?_take_of_lt hq] at h1;rw[h1]
 simp[natInts,hz]
theorem open_nil (c:Cs):openErr c []=checkCase c:=by unfold openErr;split<;>simp[*]
theorem none_step {c:Cs}{k q u z:Nat}{pre:List Nat}(h:∀j,j<q→pre[j]?=some u→clashB c k j=false)(hz:pre[q]?=some z)(hn:z≠u∨clashB c k q=false):∀j,j<q+1→pre[j]?=some u→clashB c k j=false:=fun j hj hu=>by
 rcases Nat.lt_or_ge j q with h1|h1
 ·exact h j h1 hu
 ·have:j=q:=by omega
  subst this
  rcases hn with hn|hn
  ·rw[hz] at hu;exact absurd (Option.some.inj hu) hn
  ·exact hn
theorem fits_any (c:Cs)(hsm:c.Small)(pa:Option Addr)(pc:Nat)(na:Option Addr)(l:List Int)(nc:Nat)(hl:l.length≤1000000)(w:World)(hp:PartsAt w pa c.parts)(hi:Ints w na l):
 Calls Tryz.prog 184 #[.agg #[.string c.ware,.int .i64 c.limit,.int .i64 c.by_,.slice pa c.parts.length pc],.slice na l.length nc] w (BoolPost (checkCase c) (checkCase c==0&&fitsB c l) w):=by
 obtain⟨w1,hw1⟩:=zx (w.alloc (.cells #[.string c.ware,.int .i64 c.limit,.int .i64 c.by_,.slice pa c.parts.length pc] 24));have hB1:Below w.heap.size w w1:=by rw[←hw1];go_grown
 have b1:Box w1 w.heap.size (csCells c pa pc) 24:=by rw[←hw1];exact Box.new _ _ _
 have e1:=zC (b1);have ho:=opened_any c hsm pa pc [] none 0 w1 (hp.below hB1) (Ints.nil _ _) zS;rw[open_nil,List.length_nil] at ho;have HP:=zh hp;have HI:=zh hi;have HW:=zh hw1;have HB1:=zh hB1;clear hp hi hw1 hB1 b1
 by_cases hz:checkCase c=0
 ·have hoo:=opened_good ho hz;have h8:c.parts.length≤8:=check_small (ps:=[]) (by rw[open_nil];exact hz);have hlim:=check_lim hz;have hl0:=hlim.1;have HO:=zh hoo;have HZ:=zh hz;obtain⟨n,hn⟩:=zx (c.parts.length);have HN:=zh hn;rw[hn] at h8;clear ho hoo hz hn
  go_enter Tryz.func184,Tryz.ntmps184
  go_upto_region 1 with fail
  simp only[HW.out]
  go_wp2_with fail
  refine zM HO ?_;rintro e w2 ⟨bb,rfl,hbb,hbx,hb2⟩;have HBX:=zh hbx;have HB2:=zh (HB1.out.trans (hb2.mono HB1.out.size));clear hb2 hbx e1 hbb
  go_wp2_with fail
  go_loopw [8,22] (fun mv iv wr=>∃(k:Nat) (pre:List Nat),k≤l.length∧iv = .int .i64 k∧mv = .int .i64 (manyOf pre:Nat)∧Hid (FitTo c l k pre)∧Below w2.heap.size w2 wr) (fun _ iv _=>l.length-(intOf iv).toNat)
  case atStart=>exact⟨0,[],Nat.zero_le _,rfl,rfl,zh (FitTo.nil c l),Below.refl _ _⟩
  case round=>
   obtain⟨k,pre,hk,rfl,rfl,HF,hbw⟩:=hrel;have eb:=zC ((HBX.out.below' hbw));have HBW:=zh hbw;rw[HN.out] at eb;clear hbw
   by_cases hlt:k<l.length
   ·obtain⟨v,hv⟩:=get_of_lt l hlt;obtain⟨b,o,hna,hcell⟩:=((HI.out.below HB2.out).below HBW.out).base zO;subst hna;have c1:=hcell k v hv;have HV:=zh hv;have HC:=zh hcell;clear hv hcell
    by_cases hkn:k<n
    ·have hkn':¬((n:Int)≤(k:Int)):=by omega
     rcases hb:inB v 0 (manyOf pre) with _|_
     ·have HBB:=zh hb;clear hb
      go_wp2_with (go_at_call 188;(with_reducible refine(in_any _ _ _ _).mono ?_);rintro e w' ⟨rfl,rfl⟩;simp only[HBB.out])
      go_ret2
      exact⟨HB2.out.trans (HBW.out.mono HB2.out.size),by rw[HZ.out,HF.out.out HV.out HBB.out];rfl⟩
     ·obtain⟨u,rfl⟩:∃u:Nat,v=(u:Int):=⟨v.toNat,by simp[inB] at hb;omega⟩
      have hum:u≤manyOf pre:=by simp[inB] at hb;omega
      have hmk:=HF.out.many;have hwu:IntKind.i64.wrap ((u:Int)+1)=(u:Int)+1:=IntWalk.i64_in _ zO;have HBB:=zh hb;clear hb
      go_upto_region 10 with (go_at_call 188;(with_reducible refine(in_any _ _ _ _).mono ?_);rintro e w' ⟨rfl,rfl⟩;simp only[HBB.out])
      by_cases hmx:(manyOf pre:Int)<(u:Int)+1
      ·have hmx':¬((u:Int)+1≤(manyOf pre:Int)):=by omega
       have HMV:=zh (show(.int .i64 ((u:Int)+1):Value) = .int .i64 (manyOf (pre++[u]):Nat) by rw[manyOf_snoc,Nat.max_eq_right zO];go_num)
       go_wp2_with fail
       go_loopw [46] (fun qv wx=>∃q:Nat,q≤k∧qv = .int .i64 q∧Hid (∀j,j<q→pre[j]?=some u→clashB c k j=false)∧Below w2.heap.size w2 wx) (fun qv _=>k-(intOf qv).toNat)
       case atStart=>exact⟨0,Nat.zero_le _,rfl,zh (fun j hj=>absurd hj (Nat.not_lt_zero j)),HBW.out⟩
       case round=>
        clear HBW eb c1;obtain⟨q,hq,rfl,HQ,hbw⟩:=hrel;have eb:=zC ((HBX.out.below' hbw));have HBW:=zh hbw;rw[HN.out] at eb;clear hbw
        by_cases hqk:q<k
        ·obtain⟨z,hz,hzl⟩:=HF.out.at_ hqk;have hql:(q:Int)<(l.length:Int):=by omega
         obtain⟨b',o',hna,hcell⟩:=((HI.out.below HB2.out).below HBW.out).base zO;cases hna;have c2:=hcell q _ hzl;have HZZ:=zh hz;have HZL:=zh hzl;clear hz hzl hcell
         rcases hzu:((z:Int)==(u:Int)) with _|_
         ·have HZU:=zh (show z≠u by simp at hzu;omega)
          go_wp2_with fail
          go_roundw
          case rel=>exact⟨q+1,zO,zN,zh (none_step HQ.out HZZ.out (.inl HZU.out)),HBW.out⟩
          case measure=>exact zJ
         ·have HZU:=zh (show z=u by simp at hzu;omega);have HCL:=zh (clash_any c (by rw[HN.out];omega) bb k q pa pc wr (HBX.out.below' HBW.out) ((HP.out.below HB2.out).below HBW.out) (by rw[HN.out];omega) (by rw[HN.out];omega))
          rcases hcq:clashB c k q with _|_
          ·rw[hcq] at HCL;have HCQ:=zh hcq;clear hcq
           go_wp2_with (go_at_call 210;refine zM HCL ?_;rintro e w4 ⟨rfl,hb4⟩;have HB4:=zh (HBW.out.trans (hb4.mono HBW.out.size));clear hb4)
           go_roundw
           case rel=>exact⟨q+1,zO,zN,zh (none_step HQ.out HZZ.out (.inr HCQ.out)),HB4.out⟩
           case measure=>exact zJ
          ·rw[hcq] at HCL;have HCQ:=zh hcq;clear hcq
           go_wp2_with (go_at_call 210;refine zM HCL ?_;rintro e w4 ⟨rfl,hb4⟩;have HB4:=zh (HBW.out.trans (hb4.mono HBW.out.size));clear hb4)
           go_ret2
           exact⟨HB2.out.trans (HB4.out.mono HB2.out.size),by rw[HZ.out,HF.out.clash HV.out hqk (by rw[HZZ.out,HZU.out]) HCQ.out];rfl⟩
        ·have hqe:q=k:=by omega
         subst hqe
         go_wp2_with fail
         go_roundw
         case rel=>first
          |exact⟨q+1,pre++[u],zO,zN,HMV.out,zh (HF.out.step HV.out (by rw[HN.out];exact hkn) hum HQ.out),HBW.out⟩
          |exact⟨q+1,pre++[u],zO,zN,by rw[manyOf_snoc];congr 1;omega,zh (HF.out.step HV.out (by rw[HN.out];exact hkn) hum HQ.out),HBW.out⟩
         case measure=>exact zJ
      ·have hmx':(u:Int)+1≤(manyOf pre:Int):=by omega
       have HMV:=zh (show(.int .i64 (manyOf pre:Nat):Value) = .int .i64 (manyOf (pre++[u]):Nat) by rw[manyOf_snoc,Nat.max_eq_left zO])
       go_wp2_with fail
       go_loopw [46] (fun qv wx=>∃q:Nat,q≤k∧qv = .int .i64 q∧Hid (∀j,j<q→pre[j]?=some u→clashB c k j=false)∧Below w2.heap.size w2 wx) (fun qv _=>k-(intOf qv).toNat)
       case atStart=>exact⟨0,Nat.zero_le _,rfl,zh (fun j hj=>absurd hj (Nat.not_lt_zero j)),HBW.out⟩
       case round=>
        clear HBW eb c1;obtain⟨q,hq,rfl,HQ,hbw⟩:=hrel;have eb:=zC ((HBX.out.below' hbw));have HBW:=zh hbw;rw[HN.out] at eb;clear hbw
        by_cases hqk:q<k
        ·obtain⟨z,hz,hzl⟩:=HF.out.at_ hqk;have hql:(q:Int)<(l.length:Int):=by omega
         obtain⟨b',o',hna,hcell⟩:=((HI.out.below HB2.out).below HBW.out).base zO;cases hna;have c2:=hcell q _ hzl;have HZZ:=zh hz;have HZL:=zh hzl;clear hz hzl hcell
         rcases hzu:((z:Int)==(u:Int)) with _|_
         ·have HZU:=zh (show z≠u by simp at hzu;omega)
          go_wp2_with fail
          go_roundw
          case rel=>exact⟨q+1,zO,zN,zh (none_step HQ.out HZZ.out (.inl HZU.out)),HBW.out⟩
          case measure=>exact zJ
         ·have HZU:=zh (show z=u by simp at hzu;omega);have HCL:=zh (clash_any c (by rw[HN.out];omega) bb k q pa pc wr (HBX.out.below' HBW.out) ((HP.out.below HB2.out).below HBW.out) (by rw[HN.out];omega) (by rw[HN.out];omega))
          rcases hcq:clashB c k q with _|_
          ·rw[hcq] at HCL;have HCQ:=zh hcq;clear hcq
           go_wp2_with (go_at_call 210;refine zM HCL ?_;rintro e w4 ⟨rfl,hb4⟩;have HB4:=zh (HBW.out.trans (hb4.mono HBW.out.size));clear hb4)
           go_roundw
           case rel=>exact⟨q+1,zO,zN,zh (none_step HQ.out HZZ.out (.inr HCQ.out)),HB4.out⟩
           case measure=>exact zJ
          ·rw[hcq] at HCL;have HCQ:=zh hcq;clear hcq
           go_wp2_with (go_at_call 210;refine zM HCL ?_;rintro e w4 ⟨rfl,hb4⟩;have HB4:=zh (HBW.out.trans (hb4.mono HBW.out.size));clear hb4)
           go_ret2
           exact⟨HB2.out.trans (HB4.out.mono HB2.out.size),by rw[HZ.out,HF.out.clash HV.out hqk (by rw[HZZ.out,HZU.out]) HCQ.out];rfl⟩
        ·have hqe:q=k:=by omega
         subst hqe
         go_wp2_with fail
         go_roundw
         case rel=>first
          |exact⟨q+1,pre++[u],zO,zN,HMV.out,zh (HF.out.step HV.out (by rw[HN.out];exact hkn) hum HQ.out),HBW.out⟩
          |exact⟨q+1,pre++[u],zO,zN,by rw[manyOf_snoc];congr 1;omega,zh (HF.out.step HV.out (by rw[HN.out];exact hkn) hum HQ.out),HBW.out⟩
         case measure=>exact zJ
    ·have hkn':(n:Int)≤(k:Int):=by omega
     go_wp2_with fail
     go_ret2
     exact⟨HB2.out.trans (HBW.out.mono HB2.out.size),by rw[HZ.out,FitTo.long hlt (by rw[HN.out];omega)];rfl⟩
   ·have hd:=HF.out.done hlt hl0;rw[HN.out] at hd;have HD:=zh hd;clear hd
    rcases h1:((l.length:Int)==(n:Int)) with _|_
    ·have H1:=zh h1
     go_wp2_with fail
     go_ret2
     exact⟨HB2.out.trans (HBW.out.mono HB2.out.size),by rw[HZ.out,HD.out,H1.out];rfl⟩
    ·rcases h2:(c.limit==0) with _|_
     ·by_cases h3:(manyOf pre:Int)≤c.limit
      ·have H1:=zh h1;have H2:=zh h2
       go_wp2_with fail
       go_ret2
       exact⟨HB2.out.trans (HBW.out.mono HB2.out.size),by rw[HZ.out,HD.out,H1.out,H2.out,decide_eq_true h3];rfl⟩
      ·have H1:=zh h1;have H2:=zh h2
       go_wp2_with fail
       go_ret2
       exact⟨HB2.out.trans (HBW.out.mono HB2.out.size),by rw[HZ.out,HD.out,H1.out,H2.out,decide_eq_false (p:=(manyOf pre:Int)≤c.limit) zO];rfl⟩
     ·have H1:=zh h1;have H2:=zh h2
      go_wp2_with fail
      go_ret2
      exact⟨HB2.out.trans (HBW.out.mono HB2.out.size),by rw[HZ.out,HD.out,H1.out,H2.out];rfl⟩
 ·have hoo:=opened_bad ho hz;have HO:=zh hoo;have HZ:=zh hz;have hzz:(checkCase c != 0)=true:=by simpa using hz
  clear ho hoo hz
  go_enter Tryz.func184,Tryz.ntmps184
  go_upto_region 1 with fail
  simp only[HW.out]
  go_wp2_with (go_at_call 173;refine zM HO ?_;rintro e w' ⟨rfl,hb⟩;have HB:=zh (HB1.out.trans (hb.mono HB1.out.size));clear hb)
  go_ret2
  exact⟨HB.out,by rw[show(checkCase c==0)=false by simpa using HZ.out];rfl⟩
structure Opn where
 probes:List Int
 found:List Int
 tog:List Int
 apt:List Int
structure OpnAt (w:World) (d:Opn) (v:Value):Prop where
 at_:∃a1 c1 a2 c2 a3 c3 a4 c4,v = .agg #[.slice a1 d.probes.length c1,.slice a2 d.found.length c2,.slice a3 d.tog.length c3,.slice a4 d.apt.length c4]∧Ints w a1 d.probes∧Ints w a2 d.found∧Ints w a3 d.tog∧Ints w a4 d.apt
theorem OpnAt.below {w w':World}{d:Opn}{v:Value}(h:OpnAt w d v)(hb:Below w.heap.size w w'):OpnAt w' d v:=by
 obtain⟨a1,c1,a2,c2,a3,c3,a4,c4,h1,h2,h3,h4,h5⟩:=h.at_;exact⟨a1,c1,a2,c2,a3,c3,a4,c4,h1,h2.below hb,h3.below hb,h4.below hb,h5.below hb⟩
def Opn.Small (d:Opn):Prop:=d.probes.length≤1000∧d.found.length≤1000∧d.tog.length≤1000∧d.apt.length≤1000
def nats (l:List Int):List Nat:=l.map Int.toNat
def doubtedB (c:Cs)(l:List Prb)(a b:Nat)(d:Opn):Bool:=foundB c l d.probes d.found&&match afterC c l (nats d.probes) (nats d.found) with
 |none=>false
 |some e=>fitsB e d.tog&&fitsB e d.apt&&(d.tog[a]?.getD 0==d.tog[b]?.getD 0)&&(d.apt[a]?.getD 0 != d.apt[b]?.getD 0)
theorem found_nats {c:Cs}{l:List Prb}{S F:List Int}(h:foundB c l S F=true):S=natInts (nats S)∧F=natInts (nats F)∧(∀v∈nats S,v<l.length)∧FoundFor c l (nats S) (nats F):=by
 simp only[foundB,Bool.and_eq_true,decide_eq_true_eq] at h;obtain⟨⟨h1,h2⟩,h3⟩:=h;have hS:∀i x,S[i]?=some x→∃v:Nat,x=(v:Int)∧v<l.length:=fun i x hx=>set_val h1 hx
 have hF:∀i x,F[i]?=some x→0≤x∧x≤cntAt c l (S[i]?.getD 0)-1:=fun i x hx=>by
  have:=upto_iff.1 h3 i (List.getElem?_eq_some_iff.1 hx).1
  simpa[foundAt,hx,inB] using this
 have eS:S=natInts (nats S):=by
  apply List.ext_getElem?
  intro i
  rcases hi:S[i]? with _|x
  ·simp[natInts,nats,hi]
  ·obtain⟨v,rfl,_⟩:=hS i x hi
   simp[natInts,nats,hi]
 have eF:F=natInts (nats F):=by
  apply List.ext_getElem?
  intro i
  rcases hi:F[i]? with _|x
  ·simp[natInts,nats,hi]
  ·have:=hF i x hi
   simp[natInts,nats,hi];omega
 refine⟨eS,eF,fun v hv=>?_,by simpa[nats] using h2,fun i v hv=>?_⟩
 ·obtain⟨i,hi⟩:=List.mem_iff_getElem?.1 hv;simp only[nats,List.getElem?_map] at hi;obtain⟨x,hx,rfl⟩:=Option.map_eq_some_iff.1 hi;obtain⟨u,rfl,hu⟩:=hS i x hx
  simpa using hu
 ·simp only[nats,List.getElem?_map] at hv;obtain⟨x,hx,rfl⟩:=Option.map_eq_some_iff.1 hv;obtain⟨u,rfl,hu⟩:=hS i x hx;simp only[Int.toNat_natCast];obtain⟨p,hp⟩:=get_of_lt l hu;have hi:i<F.length:=by rw[h2];exact(List.getElem?_eq_some_iff.1 hx).1
  obtain⟨y,hy⟩:=get_of_lt F hi;have:=hF i y hy
  simp[hx,cntAt,hp] at this
  exact⟨p,y.toNat,hp,by simp[nats,hy],zO⟩
section
variable {t:Nat}{c:Cs}{pa:Option Addr}{pc:Nat}{l:List Prb}{qa:Option Addr}{qc:Nat}
theorem doubted1_any (hpr:probesErr c l=0)(g0 g1:Nat)(d:Opn)(hd:d.Small)(a1 a2 a3 a4:Option Addr)(c1 c2 c3 c4:Nat)(w:World)(h:LabAt w t c pa pc l qa qc)(h1:Ints w a1 d.probes)(h2:Ints w a2 d.found)
 (hg0:Box w g0 #[.pointer (some ⟨t,0,none⟩)] 104) (hg1:Box w g1 #[.slice a1 d.probes.length c1,.slice a2 d.found.length c2,.slice a3 d.tog.length c3,.slice a4 d.apt.length c4] 53):
 Calls Tryz.prog 183 #[.pointer (some ⟨g0,0,none⟩),.pointer (some ⟨g1,0,none⟩)] w (NeedPost (foundB c l d.probes d.found) w):=by
 have HF:=zh (found_any hpr a1 d.probes c1 a2 d.found c2 w h h1 h2 (by have:=hd.1;omega) (by have:=hd.2.1;omega));have e0:=hg0.cell;have e1:=hg1.cell;generalize foundB c l d.probes d.found=r at *;clear hpr h h1 h2 hg0 hg1 hd
 go_enter Tryz.func183,Tryz.ntmps183
 go_wp2_with fail
 refine zM HF ?_;rintro e w2 ⟨hb2,(⟨hok,rfl⟩|⟨hok,rfl⟩)⟩
 ·go_wp2_with fail
  go_end0
  exact needPost_ok hok hb2
 ·go_wp2_with fail
  exact⟨rfl,needPost_no zS hb2⟩
theorem fits_len {e:Cs}{x:List Int}(h:fitsB e x=true):x.length=e.parts.length:=by
 obtain⟨y,hy,rfl⟩:=fitsB_iff.1 h;rw[nat_len];exact hy.len
theorem doubted_any (hsm:c.Small)(hpr:probesErr c l=0)(a b:Nat)(ha:a<c.parts.length)(hb:b<c.parts.length)(d:Opn)(hd:d.Small)(v:Value)(w:World)(h:LabAt w t c pa pc l qa qc)(hv:OpnAt w d v):
 Calls Tryz.prog 123 #[.pointer (some ⟨t,0,none⟩),.int .i64 a,.int .i64 b,v] w fun e w'=>e = .returned (.bool (doubtedB c l a b d))∧Below w.heap.size w w':=by
 have hmf:=run_mf Tryz.prog;obtain⟨a1,c1,a2,c2,a3,c3,a4,c4,rfl,i1,i2,i3,i4⟩:=hv.at_;obtain⟨w2,hw2⟩:=zx ((w.alloc (.cells #[.pointer (some ⟨t,0,none⟩)] 104)).alloc (.cells #[.slice a1 d.probes.length c1,.slice a2 d.found.length c2,.slice a3 d.tog.length c3,.slice a4 d.apt.length c4] 53));have hB2:Below w.heap.size w w2:=by rw[←hw2];go_grown
 have hs2:w2.heap.size=w.heap.size+2:=by rw[←hw2];simp
 have b0:Box w2 w.heap.size #[.pointer (some ⟨t,0,none⟩)] 104:=by rw[←hw2];exact(Box.new _ _ _).alloc _
 have b1:Box w2 (w.heap.size+1) #[.slice a1 d.probes.length c1,.slice a2 d.found.length c2,.slice a3 d.tog.length c3,.slice a4 d.apt.length c4] 53:=by rw[←hw2];exact Box.new' zS
 have hA:Below w2.heap.size w2 (w2.alloc (.cells #[.bool false] 4)):=by go_grown
 have hfi:=fine_any 183 #[.pointer (some ⟨w.heap.size,0,none⟩),.pointer (some ⟨w.heap.size+1,0,none⟩)] w2 (fun W=>foundB c l d.probes d.found=true∧Below w2.heap.size w2 W) (fun W=>foundB c l d.probes d.found=false∧Below w2.heap.size w2 W) (fun args W=>by simp[go_sem])
  ((doubted1_any hpr _ _ d hd a1 a2 a3 a4 c1 c2 c3 c4 (w2.alloc (.cells #[.bool false] 4)) (h.below (hB2.trans (hA.mono hB2.size))) (i1.below (hB2.trans (hA.mono hB2.size))) (i2.below (hB2.trans (hA.mono hB2.size))) (b0.below' hA) (b1.below' hA)).mono (by
   rintro e W ⟨hb,hr⟩;refine⟨(Box.new _ _ _).below' hb,?_⟩
   rcases hr with ⟨hok,rfl⟩|⟨hok,rfl⟩
   ·exact .inl ⟨rfl,hok,hA.trans (hb.mono hA.size)⟩
   ·exact .inr ⟨rfl,hok,hA.trans (hb.mono hA.size)⟩))
 have HFI:=zh hfi;have HW:=zh hw2;have HB2:=zh hB2;have HX:=zh b0;have HY:=zh b1;have HL:=zh h;have HI:=zh (And.intro i1 (And.intro i2 (And.intro i3 i4)));have HPR:=zh hpr;have HD:=zh hd;have hS3:d.tog.length≤1000:=hd.2.2.1;have hS4:d.apt.length≤1000:=hd.2.2.2;clear hw2 hB2 b0 b1 hA h hv i1 i2 i3 i4 hpr hfi hd hs2
 go_enter Tryz.func123,Tryz.ntmps123
 go_upto_region 1 with fail
 simp only[HW.out]
 go_wp2_with fail
 refine zM HFI ?_;rintro e w3 (⟨rfl,W,⟨hok,hbW⟩,hk⟩|⟨rfl,W,⟨hok,hbW⟩,hk⟩);rotate_left
 ·have HB:=zh (HB2.out.trans ((hbW.trans ((hk.mono fun k (hl:k<w2.heap.size)=>Nat.ne_of_lt hl).below hbW.size)).mono HB2.out.size));have HFB:=zh (show doubtedB c l a b d=false by simp[doubtedB,hok]);clear hbW hk hok
  go_wp2_with fail
  go_ret
  exact⟨by rw[HFB.out];rfl,HB.out⟩
 have hb23:=hbW.trans ((hk.mono fun k (hl:k<w2.heap.size)=>Nat.ne_of_lt hl).below hbW.size);obtain⟨e1,e2,hsv,hff⟩:=found_nats hok;have HB3:=zh (HB2.out.trans (hb23.mono HB2.out.size));have hal:=after_all hsm HPR.out a1 (nats d.probes) c1 a2 (nats d.found) c2 w3 (HL.out.below HB3.out) (by rw[←e1];exact HI.out.1.below HB3.out) (by rw[←e2];exact HI.out.2.1.below HB3.out) (by have:=HD.out.1;simpa[nats] using this) hff.1 hff.2;rw[show(nats d.probes).length=d.probes.length by simp[nats],show(nats d.found).length=d.found.length by simp[nats]] at hal;have HAL:=zh hal;have HY3:=zh (HY.out.below' hb23);have HX3:=(HX.out.below' hb23).cell;have e7:=HY3.out.cell;have HOK:=zh hok;clear hbW hk hok hb23 e1 e2 hsv hff hal HFI
 go_wp2_with fail
 refine zM HAL ?_;rintro e w4 hpost;obtain⟨hb4,(⟨ho,rfl⟩|⟨dd,ba,pc',ho,rfl,hpt⟩)⟩:=hpost.some_
 ·have HB:=zh ((HB3.out.trans (hb4.mono HB3.out.size)).alloc (Nat.le_trans HB3.out.size hb4.size) (.cells #[.string ⟨#[]⟩,.int .i64 0,.int .i64 0,.slice none 0 0] 24));have HFB:=zh (show doubtedB c l a b d=false by simp[doubtedB,HOK.out,ho]);clear hb4 ho hpost e7 HX3
  go_wp2_with fail
  go_ret
  exact⟨by rw[HFB.out];rfl,HB.out⟩
 have hao:=after_ok HPR.out ho;obtain⟨w5,hw5⟩:=zx (w4.alloc (.cells #[.string dd.ware,.int .i64 dd.limit,.int .i64 dd.by_,.slice ba dd.parts.length pc'] 24));have hB5:Below w4.heap.size w4 w5:=by rw[←hw5];go_grown
 have g5:Box w5 w4.heap.size #[.string dd.ware,.int .i64 dd.limit,.int .i64 dd.by_,.slice ba dd.parts.length pc'] 24:=by rw[←hw5];exact Box.new _ _ _
 have HB5:=zh (HB3.out.trans ((hb4.trans (hB5.mono hb4.size)).mono HB3.out.size));have HY5:=zh ((HY3.out.below' hb4).below' hB5);have HF1:=zh (fun(W:World) (hW:Below w5.heap.size w5 W)=>by
  have:=fits_any dd (small_of hao.chk) ba pc' a3 d.tog c3 zO W (hpt.below (hB5.trans (hW.mono hB5.size))).at_ (HI.out.2.2.1.below (HB5.out.trans (hW.mono HB5.out.size)));rw[hao.chk] at this;exact this)
 have HF2:=zh (fun(W:World) (hW:Below w5.heap.size w5 W)=>by
  have:=fits_any dd (small_of hao.chk) ba pc' a4 d.apt c4 zO W (hpt.below (hB5.trans (hW.mono hB5.size))).at_ (HI.out.2.2.2.below (HB5.out.trans (hW.mono HB5.out.size)));rw[hao.chk] at this;exact this)
 have HO:=zh ho;have HLN:=zh hao.len;have HW5:=zh hw5;have HG5:=zh g5;clear hb4 ho hpost e7 HX3 hao hw5 hB5 g5 hpt;have eG:=HG5.out.cell;have e7:=HY5.out.cell
 go_upto_region 4 with fail
 simp only[HW5.out]
 go_wp2_with fail
 (with_reducible refine(HF1.out _ (Below.refl _ _)).mono ?_)
 rintro e w6 ⟨hb6,rfl⟩;have HB6:=zh hb6;have HF2':=zh (HF2.out w6 hb6);clear e7 eG hb6 HF1 HF2;have eG:=(HG5.out.below' HB6.out).cell;have e7:=(HY5.out.below' HB6.out).cell;obtain⟨f1,hf1⟩:=zx (((0:Int)==0&&fitsB dd d.tog));rw[hf1];have HE1:=zh (show fitsB dd d.tog=f1 by simpa using hf1);clear hf1
 go_wp2_with fail
 (with_reducible refine HF2'.out.mono ?_)
 rintro e w7 ⟨hb7,rfl⟩;have HB7:=zh (HB6.out.trans (hb7.mono HB6.out.size));obtain⟨f2,hf2⟩:=zx (((0:Int)==0&&fitsB dd d.apt));rw[hf2];have HE2:=zh (show fitsB dd d.apt=f2 by simpa using hf2);clear hf2 e7 eG hb7;have e7:=(HY5.out.below' HB7.out).cell;have HB:=zh (HB5.out.trans (HB7.out.mono HB5.out.size));have hdb:doubtedB c l a b d=(f1&&f2&&(d.tog[a]?.getD 0==d.tog[b]?.getD 0)&&(d.apt[a]?.getD 0 != d.apt[b]?.getD 0)):=by
  simp only[doubtedB,HOK.out,HO.out,HE1.out,HE2.out,Bool.true_and]
 have HDB:=zh hdb;clear hdb HF2';cases f1
 ·have HFB:=zh (show doubtedB c l a b d=false by rw[HDB.out];simp)
  go_wp2_with fail
  go_quiet (fail)
  go_wp2_with fail
  go_ret
  exact⟨by rw[HFB.out];rfl,below_drewN HB.out _⟩
 cases f2
 ·have HFB:=zh (show doubtedB c l a b d=false by rw[HDB.out];simp)
  go_wp2_with fail
  go_quiet (fail)
  go_wp2_with fail
  go_ret
  exact⟨by rw[HFB.out];rfl,below_drewN HB.out _⟩
 have hl3:=fits_len HE1.out;have hl4:=fits_len HE2.out;have hln:=HLN.out;obtain⟨b3,o3,rfl,hb3⟩:=(HI.out.2.2.1.below HB.out).base zO;obtain⟨b4,o4,rfl,hb4⟩:=(HI.out.2.2.2.below HB.out).base zO;obtain⟨x1,hx1⟩:=get_of_lt d.tog (k:=a) zO;obtain⟨x2,hx2⟩:=get_of_lt d.tog (k:=b) zO;obtain⟨y1,hy1⟩:=get_of_lt d.apt (k:=a) zO;obtain⟨y2,hy2⟩:=get_of_lt d.apt (k:=b) zO;have k1:=hb3 _ _ hx1;have k2:=hb3 _ _ hx2;have k3:=hb4 _ _ hy1;have k4:=hb4 _ _ hy2;have n1:(a:Int)<(d.tog.length:Int):=by omega
 have n2:(b:Int)<(d.tog.length:Int):=by omega
 have n3:(a:Int)<(d.apt.length:Int):=by omega
 have n4:(b:Int)<(d.apt.length:Int):=by omega
 have HV:=zh (show doubtedB c l a b d=((x1==x2)&&(y1 != y2)) by rw[HDB.out,hx1,hx2,hy1,hy2];simp);clear hb3 hb4 hx1 hx2 hy1 hy2 hl3 hl4 hln HDB HE1 HE2 HOK HO
 by_cases hx:x1=x2
 ·by_cases hy:y1=y2
  ·have HFB:=zh (show doubtedB c l a b d=false by rw[HV.out];simp[hy]);have hxb:(x1==x2)=true:=by simpa using hx
   have hyb:(y1 != y2)=false:=by simpa using hy
   clear hx hy
   go_wp2_with fail
   go_quiet (fail)
   go_wp2_with fail
   go_ret
   exact⟨by rw[HFB.out];rfl,below_drewN HB.out _⟩
  ·have HFB:=zh (show doubtedB c l a b d=true by rw[HV.out];simp[hx,hy]);have hxb:(x1==x2)=true:=by simpa using hx
   have hyb:(y1 != y2)=true:=by simpa using hy
   clear hx hy
   go_wp2_with fail
   go_quiet (fail)
   go_wp2_with fail
   go_ret
   exact⟨by rw[HFB.out];rfl,below_drewN HB.out _⟩
 ·have HFB:=zh (show doubtedB c l a b d=false by rw[HV.out];simp[hx]);have hxb:(x1==x2)=false:=by simpa using hx
  clear hx
  go_wp2_with fail
  go_quiet (fail)
  go_wp2_with fail
  go_ret
  exact⟨by rw[HFB.out];rfl,below_drewN HB.out _⟩
end
end
