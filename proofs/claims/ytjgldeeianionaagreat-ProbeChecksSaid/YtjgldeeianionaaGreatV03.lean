/- Walks and plain laws. No condition. -/
import Derived.Deep.OwnRows
import Derived.Laws.EntriesVeiled
import Derived.Test.YtjgldeeianionaaGreatV02
set_option maxHeartbeats 4000000
set_option maxRecDepth 100000
set_option linter.unusedSimpArgs false
set_option linter.unusedVariables false
namespace Go.Proofs.YtjgldeeianionaaGreat
open Go.RowKit
section
attribute [local go_sem] Oper.semAt_some
def AllZ (H k:Nat):Prop:=k=H∨(H+3≤k∧k<H+7)
def AllRd (H n:Nat)(x:List Nat)(args:Array Value)(W:World):Prop:=
 args = #[.slice (some ⟨H+4,0,none⟩) n n]∧x.length=n∧Box W (H+4) (x.map fun v:Nat=>Value.int .i64 (v:Int)).toArray 3∧H+7≤W.heap.size
structure AllSt (c:Cs) (pa:Option Addr) (pc n:Nat) (w0:World) (bb l H:Nat) (pre:List Nat) (W:World):Prop where
 old:Below w0.heap.size w0 W
 ben:Box W bb (csCells c pa pc) 219
 hb:Box W H #[.pointer (some ⟨bb,0,none⟩)] 139
 yb:Box W (H+3) #[.func (.yield l) #[] #[]] 159
 lb:∃vals:List Int,vals.length=n∧(∀(q v:Nat),pre[q]?=some v→vals[q]?=some (v:Int))∧Box W (H+4) (vals.map (Value.int .i64)).toArray 3
 sb:Box W (H+5) #[.slice (some ⟨H+4,0,none⟩) n n] 26
 nb:Box W (H+6) #[.func (.func 218) #[] #[.pointer (some ⟨H+5,0,none⟩),.pointer (some ⟨H+3,0,none⟩),.pointer (some ⟨H,0,none⟩),.pointer (some ⟨H+6,0,none⟩)]] 236
section
variable {c:Cs}{pa:Option Addr}{pc n:Nat}{w0:World}{bb l H:Nat}{pre:List Nat}{W W':World}
theorem AllSt.keep (h:AllSt c pa pc n w0 bb l H pre W)(hbb:bb<w0.heap.size)(hk:Keep (fun k=>k<w0.heap.size∨AllZ H k) W W'):AllSt c pa pc n w0 bb l H pre W':=by
 obtain⟨vals,h1,h2,h3⟩:=h.lb;exact⟨h.old.trans ((hk.mono fun i hi=>.inl hi).below h.old.size),hk.heap (.inl hbb) h.ben,hk.heap (.inr (.inl rfl)) h.hb,hk.heap (.inr (.inr zO)) h.yb,
  ⟨vals,h1,h2,hk.heap (.inr (.inr zO)) h3⟩,hk.heap (.inr (.inr zO)) h.sb,hk.heap (.inr (.inr zO)) h.nb⟩
theorem AllSt.below (h:AllSt c pa pc n w0 bb l H pre W)(hk:Below W.heap.size W W'):AllSt c pa pc n w0 bb l H pre W':=by
 obtain⟨vals,h1,h2,h3⟩:=h.lb;exact⟨h.old.trans (hk.mono h.old.size),h.ben.below' hk,h.hb.below' hk,h.yb.below' hk,⟨vals,h1,h2,h3.below' hk⟩,h.sb.below' hk,h.nb.below' hk⟩
theorem AllSt.less {v:Nat}(h:AllSt c pa pc n w0 bb l H (pre++[v]) W):AllSt c pa pc n w0 bb l H pre W:=by
 obtain⟨vals,h1,h2,h3⟩:=h.lb;exact⟨h.old,h.ben,h.hb,h.yb,⟨vals,h1,fun q u hq=>h2 q u (by rw[List.getElem?_append_left (List.getElem?_eq_some_iff.1 hq).1];exact hq),h3⟩,h.sb,h.nb⟩
theorem AllSt.put (h:AllSt c pa pc n w0 bb l H pre W)(v:Nat)(hp:pre.length<n)(hH:w0.heap.size≤H)(hbb:bb<w0.heap.size):
 AllSt c pa pc n w0 bb l H (pre++[v]) (W.setCell ⟨H+4,pre.length,none⟩ (.int .i64 v)):=by
 obtain⟨vals,h1,h2,h3⟩:=h.lb;refine⟨h.old.setCell (p:=⟨H+4,pre.length,none⟩) zT _,h.ben.far zT _,h.hb.far zS _,h.yb.far zS _,⟨vals.set pre.length v,by simpa using h1,?_,?_⟩,h.sb.far zS _,h.nb.far zS _⟩
 ·intro q u hq
  rcases Nat.lt_trichotomy q pre.length with h4|h4|h4
  ·rw[List.getElem?_append_left h4] at hq;rw[List.getElem?_set_ne zO];exact h2 q u hq
  ·subst h4;simp at hq;subst hq;rw[List.getElem?_set_self zO]
  ·rw[List.getElem?_eq_none zT] at hq;cases hq
 ·have:=h3.set_ pre.length (.int .i64 v)
  simpa[List.map_set] using this
theorem AllSt.full (h:AllSt c pa pc n w0 bb l H pre W)(hp:pre.length=n):AllRd H n pre #[.slice (some ⟨H+4,0,none⟩) n n] W:=by
 obtain⟨vals,h1,h2,h3⟩:=h.lb;have hnl:=h.nb.lt;refine⟨rfl,hp,?_,zO⟩;have e:vals.map (Value.int .i64)=pre.map fun v:Nat=>Value.int .i64 (v:Int):=by
  apply List.ext_getElem?
  intro q
  by_cases hq:q<pre.length
  ·have:=h2 q pre[q] (by simp[hq])
   simp[this,hq]
  ·rw[List.getElem?_eq_none zT,List.getElem?_eq_none zT]
 rw[←e];exact h3
theorem AllSt.cell (h:AllSt c pa pc n w0 bb l H pre W){q:Nat}(hq:q<pre.length):W.cell? ⟨H+4,q,none⟩=some (.int .i64 (pre[q]?.getD 0:Nat)):=by
 obtain⟨vals,h1,h2,h3⟩:=h.lb;have:=h2 q pre[q] (by simp[hq]);rw[h3.cell]
 simp[this,hq]
theorem AllSt.benc (h:AllSt c pa pc n w0 bb l H pre W)(i:Nat):W.cell? ⟨bb,i,none⟩=(#[.string c.ware,.int .i64 c.limit,.int .i64 c.by_,.slice pa c.parts.length pc]:Array Value)[i]?:=h.ben.cell i
theorem AllSt.any (h:AllSt c pa pc n w0 bb l H pre W){q:Nat}(hq:q<n):(∃u,W.cell? ⟨H+4,q,none⟩=some (.int .i64 u))∧W.frozen? ⟨H+4,q,none⟩=false:=by
 obtain⟨vals,h1,h2,h3⟩:=h.lb;refine⟨⟨vals[q],?_⟩,h3.frozen _⟩;rw[h3.cell]
 simp[h1,hq]
end
theorem next_any (c:Cs)(n:Nat)(hn:c.parts.length=n)(hn8:n≤8)(pa:Option Addr)(pc:Nat)(w0:World)(hparts:PartsAt w0 pa c.parts)(bb l H:Nat)(hbb:bb<w0.heap.size)(hH:w0.heap.size≤H)
 (J Jx:List (List Nat)→World→Prop) (hJ:∀s A B,J s A→Keep (fun k=>¬AllZ H k) A B→J s B)
 (hY:∀pre x args W1,J pre W1→AllRd H n x args W1→(pre++[x]) <+: allR c→YieldAt Fence.wide 0 Tryz.prog l args W1 fun e W'=>
  (e = .returned (.bool true)∧J (pre++[x]) W'∧Keep (fun k=>k<w0.heap.size∨AllZ H k) W1 W')∨(e = .returned (.bool false)∧Jx (pre++[x]) W')):
 ∀(r p many:Nat) (pre:List Nat) (done:List (List Nat)) (W:World),p+r=n→pre.length=p→many=manyOf pre→many≤p→AllSt c pa pc n w0 bb l H pre W→J done W→(done++allGo c r pre) <+: allR c →
  CallsIn Fence.wide 0 Tryz.prog 218 #[.int .i64 p,.int .i64 many,.pointer (some ⟨H+5,0,none⟩),.pointer (some ⟨H+3,0,none⟩),.pointer (some ⟨H,0,none⟩),.pointer (some ⟨H+6,0,none⟩)] W fun e W'=>
   (e = .returned (.bool true)∧J (done++allGo c r pre) W'∧AllSt c pa pc n w0 bb l H pre W')∨(e = .returned (.bool false)∧∃q,q <+: allR c∧Jx q W'):=by
 intro r
 induction r with
 |zero=>
  intro p many pre done W hpr hpl hm hmp hst hj hpre;obtain⟨fn,tmps,assign,body,hy,hR⟩:=hY done pre _ W hj (hst.full zO) hpre;obtain rfl:p=n:=by omega
  have e1:=hst.sb.cell;have e2:=hst.yb.cell;have HS:=zh hst;have HJ:=zh hJ;have HY:=zh hY;have HR:=zh hR;have HN:=zh hn;clear hst hJ hY hR hm hpl hpr hn;refine callsIn_of_wp Tryz.func218 rfl trivial ?_;simp only[Tryz.ntmps218,List.size_toArray,List.length_cons,List.length_nil,Nat.reduceAdd,Nat.reduceSub,Array.replicate_succ,Array.replicate_zero,List.push_toArray,List.append_toArray,List.nil_append,List.cons_append]
  gi_wp2
  apply wpIn_scope
  gi_wp2
  refine HR.out.mono ?_;rintro e W' (⟨rfl,hj',hk'⟩|⟨rfl,hx'⟩)
  ·gi_wp2
   try rw[Exit.noGoto_ret]
   go_ret
   exact .inl ⟨rfl,hj',HS.out.keep hbb hk'⟩
  ·gi_wp2
   try rw[Exit.noGoto_ret]
   go_ret
   exact .inr ⟨rfl,_,hpre,hx'⟩
 |succ r ih=>
  intro p many pre done W hpr hpl hm hmp hst hj hpre;have hlt:p<n:=by omega
  have h1:((p:Int)==(n:Int))=false:=by simp;omega
  have e1:=hst.sb.cell;have HS:=zh hst;have HJ:=zh hJ;have HY:=zh hY;have HN:=zh hn;have IH:=zh ih;have HM:=zh hm;have HP:=zh hpl;have HPR:=zh hpr;clear hst hJ hY hm hpl hpr hn ih;refine callsIn_of_wp Tryz.func218 rfl trivial ?_;simp only[Tryz.ntmps218,List.size_toArray,List.length_cons,List.length_nil,Nat.reduceAdd,Nat.reduceSub,Array.replicate_succ,Array.replicate_zero,List.push_toArray,List.append_toArray,List.nil_append,List.cons_append]
  gi_wp2
  apply wpIn_scope
  gi_wp2
  apply wpIn_label
  gi_wp2
  gi_loopw [20] (fun i wr=>∃k:Nat,k≤many+1∧i = .int .i64 k∧AllSt c pa pc n w0 bb l H pre wr∧J (done++yields c r pre k) wr) (fun i _=>many+1-(intOf i).toNat)
  case atStart=>exact⟨0,Nat.zero_le _,rfl,HS.out,by simpa[yields_zero] using hj⟩
  case round=>
   clear e1 hj;obtain⟨k,hk,rfl,hst,hj⟩:=hrel;have e2:=hst.benc;have e3:=hst.hb.cell;have HS:=zh hst;have HJJ:=zh hj;clear hst hj
   by_cases hkm:k<many+1
   ·by_cases hl:limB c k=true
    ·have hl2:¬0<c.limit∨(0<c.limit∧¬c.limit≤(k:Int)):=by simp[limB] at hl;omega
     have HL:=zh hl;clear hl
     rcases hl2 with hl2|⟨hl2,hl3⟩
     ·gi_wp2_with fail
      obtain⟨wo,rfl⟩:∃wo:World,wo=wr:=⟨_,rfl⟩
      gi_loopw [39] (fun i wq=>∃m:Nat,m≤p∧i = .int .i64 m∧AllSt c pa pc n w0 bb l H pre wq∧J (done++yields c r pre k) wq∧Hid (∀q,q<m→(!(pre[q]?.getD 0==k&&clashB c pre.length q))=true)) (fun i _=>p-(intOf i).toNat)
      case atStart=>exact⟨0,Nat.zero_le _,rfl,HS.out,HJJ.out,all_none⟩
      case round=>
       clear e2 e3 HS HJJ;obtain⟨m,hm,rfl,hst,hj,HQ⟩:=hrel;have e1:=hst.sb.cell;have e3:=hst.hb.cell
       by_cases hmp2:m<p
       ·have hc:=hst.cell (q:=m) (by rw[HP.out];exact hmp2);obtain⟨u,hu⟩:∃u,u=pre[m]?.getD 0:=⟨_,rfl⟩
        rw[←hu] at hc;have HU:=zh hu;have HS:=zh hst;have HJJ:=zh hj;clear hst hj hu
        by_cases huk:u=k
        ·subst huk
         gi_wp2_with fail
         refine(callsIn_wide.2 (clash_any c (by rw[HN.out];omega) bb p m pa pc _ HS.out.ben (hparts.below HS.out.old) (by rw[HN.out];exact hlt) (by rw[HN.out];omega))).mono ?_;rintro e w2 ⟨rfl,hb2⟩;have HS2:=zh (HS.out.below hb2);have HJ2:=zh (HJ.out _ _ _ HJJ.out (Keep.of_below' hb2));clear HS HJJ hb2 hc e1 e3
         gi_wp2_with fail
         ·have hcl:clashB c p m=true:=by assumption
          go_roundw
          case rel=>
           refine⟨u+1,zO,zN,HS2.out,?_⟩;have hf:freeB c pre u=false:=by
            have:noClash c pre u=false:=upto_false (by rw[HP.out];exact hmp2) (by rw[←HU.out,HP.out,hcl];simp)
            simp[freeB,this]
           rw[yields_succ,hf]
           simpa using HJ2.out
          case measure=>exact zJ
         ·have hcl:clashB c p m=false:=by assumption
          go_roundw
          case rel=>exact⟨m+1,zO,zN,HS2.out,HJ2.out,all_step HQ.out (by rw[←HU.out,HP.out,hcl];simp)⟩
          case measure=>exact zJ
        ·have h2:((u:Int)==(k:Int))=false:=by simp;omega
         have HUK:=zh huk;clear huk
         gi_wp2_with fail
         go_roundw
         case rel=>exact⟨m+1,zO,zN,HS.out,HJJ.out,all_step HQ.out (by rw[←HU.out];simp[HUK.out])⟩
         case measure=>exact zJ
       ·obtain rfl:m=p:=by omega
        obtain⟨⟨u,hu⟩,hfz⟩:=hst.any (q:=m) hlt;have hput:=hst.put k (by rw[HP.out];exact hlt) hH hbb;rw[HP.out] at hput;have hjp:=HJ.out _ _ (wr.setCell ⟨H+4,m,none⟩ (.int .i64 (k:Int))) hj ((Keep.refl _ wr).setCell (.inl (by simp[AllZ])) _);have e4:=hput.nb.cell;have HS:=zh hput;have HJJ:=zh hjp;clear hst hj hput hjp;have hfree:freeB c pre k=true:=by
         simp only[freeB,Bool.and_eq_true];exact⟨HL.out,upto_true (fun q hq=>HQ.out q (by rw[HP.out] at hq;exact hq))⟩
        have hih:=IH.out (m+1) (max many (k+1)) (pre++[k]) (done++yields c r pre k) _ (by have:=HPR.out;omega) (by simp[HP.out]) (by rw[manyOf_snoc,HM.out]) zO HS.out HJJ.out (by
         refine List.IsPrefix.trans ?_ hpre;rw[←yields_all,←HM.out,List.append_assoc];refine(List.prefix_append_right_inj _).2 ?_;have h5:=yields_le c r pre (k:=k+1) (m:=many+1) zO;rw[yields_succ,hfree] at h5
         simpa using h5)
        have hJy:done++yields c r pre k++allGo c r (pre++[k])=done++yields c r pre (k+1):=by rw[yields_succ,hfree];simp
        rw[hJy] at hih;have e5:((m+1:Nat):Int)=(m:Int)+1:=by omega
        rw[e5] at hih;have HIH:=zh hih;clear hih hJy e5 hfree
        rcases Nat.lt_or_ge k many with hkm2|hkm2
        ·have hx:(k:Int)+1≤many:=by omega
         gi_wp2_with fail
         have hih:=HIH.out;rw[show max many (k+1)=many from by omega] at hih;refine hih.mono ?_;rintro e W' (⟨rfl,hj',hst'⟩|⟨rfl,q,hq,hx'⟩)
         ·have HS':=zh hst';have HJ':=zh hj';clear HS HJJ HIH hih hst' hj' e1 e3 e4
          gi_wp2_with fail
          go_roundw
          case rel=>exact⟨k+1,zO,zN,HS'.out.less,HJ'.out⟩
          case measure=>exact zJ
         ·clear HS HJJ HIH hih e1 e3 e4
          gi_wp2_with fail
          try rw[Exit.noGoto_ret]
          go_ret
          exact .inr ⟨rfl,q,hq,hx'⟩
        ·obtain rfl:k=many:=by omega
         gi_wp2_with fail
         have hih:=HIH.out;rw[show max k (k+1)=k+1 from by omega,show((k+1:Nat):Int)=(k:Int)+1 from by omega] at hih;refine hih.mono ?_;rintro e W' (⟨rfl,hj',hst'⟩|⟨rfl,q,hq,hx'⟩)
         ·have HS':=zh hst';have HJ':=zh hj';clear HS HJJ HIH hih hst' hj' e1 e3 e4
          gi_wp2_with fail
          go_roundw
          case rel=>exact⟨k+1,zO,zN,HS'.out.less,HJ'.out⟩
          case measure=>simp[intOf]
         ·clear HS HJJ HIH hih e1 e3 e4
          gi_wp2_with fail
          try rw[Exit.noGoto_ret]
          go_ret
          exact .inr ⟨rfl,q,hq,hx'⟩
     ·gi_wp2_with fail
      obtain⟨wo,rfl⟩:∃wo:World,wo=wr:=⟨_,rfl⟩
      gi_loopw [39] (fun i wq=>∃m:Nat,m≤p∧i = .int .i64 m∧AllSt c pa pc n w0 bb l H pre wq∧J (done++yields c r pre k) wq∧Hid (∀q,q<m→(!(pre[q]?.getD 0==k&&clashB c pre.length q))=true)) (fun i _=>p-(intOf i).toNat)
      case atStart=>exact⟨0,Nat.zero_le _,rfl,HS.out,HJJ.out,all_none⟩
      case round=>
       clear e2 e3 HS HJJ;obtain⟨m,hm,rfl,hst,hj,HQ⟩:=hrel;have e1:=hst.sb.cell;have e3:=hst.hb.cell
       by_cases hmp2:m<p
       ·have hc:=hst.cell (q:=m) (by rw[HP.out];exact hmp2);obtain⟨u,hu⟩:∃u,u=pre[m]?.getD 0:=⟨_,rfl⟩
        rw[←hu] at hc;have HU:=zh hu;have HS:=zh hst;have HJJ:=zh hj;clear hst hj hu
        by_cases huk:u=k
        ·subst huk
         gi_wp2_with fail
         refine(callsIn_wide.2 (clash_any c (by rw[HN.out];omega) bb p m pa pc _ HS.out.ben (hparts.below HS.out.old) (by rw[HN.out];exact hlt) (by rw[HN.out];omega))).mono ?_;rintro e w2 ⟨rfl,hb2⟩;have HS2:=zh (HS.out.below hb2);have HJ2:=zh (HJ.out _ _ _ HJJ.out (Keep.of_below' hb2));clear HS HJJ hb2 hc e1 e3
         gi_wp2_with fail
         ·have hcl:clashB c p m=true:=by assumption
          go_roundw
          case rel=>
           refine⟨u+1,zO,zN,HS2.out,?_⟩;have hf:freeB c pre u=false:=by
            have:noClash c pre u=false:=upto_false (by rw[HP.out];exact hmp2) (by rw[←HU.out,HP.out,hcl];simp)
            simp[freeB,this]
           rw[yields_succ,hf]
           simpa using HJ2.out
          case measure=>exact zJ
         ·have hcl:clashB c p m=false:=by assumption
          go_roundw
          case rel=>exact⟨m+1,zO,zN,HS2.out,HJ2.out,all_step HQ.out (by rw[←HU.out,HP.out,hcl];simp)⟩
          case measure=>exact zJ
        ·have h2:((u:Int)==(k:Int))=false:=by simp;omega
         have HUK:=zh huk;clear huk
         gi_wp2_with fail
         go_roundw
         case rel=>exact⟨m+1,zO,zN,HS.out,HJJ.out,all_step HQ.out (by rw[←HU.out];simp[HUK.out])⟩
         case measure=>exact zJ
       ·obtain rfl:m=p:=by omega
        obtain⟨⟨u,hu⟩,hfz⟩:=hst.any (q:=m) hlt;have hput:=hst.put k (by rw[HP.out];exact hlt) hH hbb;rw[HP.out] at hput;have hjp:=HJ.out _ _ (wr.setCell ⟨H+4,m,none⟩ (.int .i64 (k:Int))) hj ((Keep.refl _ wr).setCell (.inl (by simp[AllZ])) _);have e4:=hput.nb.cell;have HS:=zh hput;have HJJ:=zh hjp;clear hst hj hput hjp;have hfree:freeB c pre k=true:=by
         simp only[freeB,Bool.and_eq_true];exact⟨HL.out,upto_true (fun q hq=>HQ.out q (by rw[HP.out] at hq;exact hq))⟩
        have hih:=IH.out (m+1) (max many (k+1)) (pre++[k]) (done++yields c r pre k) _ (by have:=HPR.out;omega) (by simp[HP.out]) (by rw[manyOf_snoc,HM.out]) zO HS.out HJJ.out (by
         refine List.IsPrefix.trans ?_ hpre;rw[←yields_all,←HM.out,List.append_assoc];refine(List.prefix_append_right_inj _).2 ?_;have h5:=yields_le c r pre (k:=k+1) (m:=many+1) zO;rw[yields_succ,hfree] at h5
         simpa using h5)
        have hJy:done++yields c r pre k++allGo c r (pre++[k])=done++yields c r pre (k+1):=by rw[yields_succ,hfree];simp
        rw[hJy] at hih;have e5:((m+1:Nat):Int)=(m:Int)+1:=by omega
        rw[e5] at hih;have HIH:=zh hih;clear hih hJy e5 hfree
        rcases Nat.lt_or_ge k many with hkm2|hkm2
        ·have hx:(k:Int)+1≤many:=by omega
         gi_wp2_with fail
         have hih:=HIH.out;rw[show max many (k+1)=many from by omega] at hih;refine hih.mono ?_;rintro e W' (⟨rfl,hj',hst'⟩|⟨rfl,q,hq,hx'⟩)
         ·have HS':=zh hst';have HJ':=zh hj';clear HS HJJ HIH hih hst' hj' e1 e3 e4
          gi_wp2_with fail
          go_roundw
          case rel=>exact⟨k+1,zO,zN,HS'.out.less,HJ'.out⟩
          case measure=>exact zJ
         ·clear HS HJJ HIH hih e1 e3 e4
          gi_wp2_with fail
          try rw[Exit.noGoto_ret]
          go_ret
          exact .inr ⟨rfl,q,hq,hx'⟩
        ·obtain rfl:k=many:=by omega
         gi_wp2_with fail
         have hih:=HIH.out;rw[show max k (k+1)=k+1 from by omega,show((k+1:Nat):Int)=(k:Int)+1 from by omega] at hih;refine hih.mono ?_;rintro e W' (⟨rfl,hj',hst'⟩|⟨rfl,q,hq,hx'⟩)
         ·have HS':=zh hst';have HJ':=zh hj';clear HS HJJ HIH hih hst' hj' e1 e3 e4
          gi_wp2_with fail
          go_roundw
          case rel=>exact⟨k+1,zO,zN,HS'.out.less,HJ'.out⟩
          case measure=>simp[intOf]
         ·clear HS HJJ HIH hih e1 e3 e4
          gi_wp2_with fail
          try rw[Exit.noGoto_ret]
          go_ret
          exact .inr ⟨rfl,q,hq,hx'⟩
    ·have hl2:0<c.limit∧c.limit≤(k:Int):=by simp[limB] at hl;omega
     obtain⟨hl2,hl3⟩:=hl2;have HL:=zh hl;clear hl
     gi_wp2_with fail
     try rw[Exit.noGoto_ret]
     go_ret
     refine .inl ⟨rfl,?_,HS.out⟩;have:=HJJ.out;rw[←yields_all,←HM.out,yields_stop c r pre (by simpa using HL.out) hk];exact this
   ·gi_wp2_with fail
    try rw[Exit.noGoto_ret]
    go_ret
    refine .inl ⟨rfl,?_,HS.out⟩;have:=HJJ.out;rw[←yields_all,←HM.out,show many+1=k from by omega];exact this
theorem run_mf (P:Program)(fn:Fn)(first cap:Array Value)(w:World):(Instr.makeFunc fn first cap).run P w = .ok (.func fn first cap) w:=rfl
theorem made_ints (n:Nat):madeCells #[.int .i64 0] n=((List.replicate n (0:Int)).map (Value.int .i64)).toArray:=by
 apply Array.toList_inj.1
 rw[toList_madeCells_one]
 simp
theorem AllSt.start {c:Cs}{n:Nat}{pa:Option Addr}{pc:Nat}{w0:World}{bb l H:Nat}(hH:w0.heap.size≤H){W:World}(hW:W.heap.size=H+3)(hold:Below w0.heap.size w0 W)(hbox:Box W H #[.pointer (some ⟨bb,0,none⟩)] 139)(hben:Box W bb (csCells c pa pc) 219):
 AllSt c pa pc n w0 bb l H [] ((((W.alloc (.cells #[.func (.yield l) #[] #[]] 159)).alloc (.cells (madeCells #[.int .i64 0] n) 3)).alloc (.cells #[.slice (some ⟨H+4,0,none⟩) n n] 26)).alloc
  (.cells #[.func (.func 218) #[] #[.pointer (some ⟨H+5,0,none⟩),.pointer (some ⟨H+3,0,none⟩),.pointer (some ⟨H,0,none⟩),.pointer (some ⟨H+6,0,none⟩)]] 236)):=by
 refine⟨?_,(((hben.alloc _).alloc _).alloc _).alloc _,(((hbox.alloc _).alloc _).alloc _).alloc _,(((Box.new' zO).alloc _).alloc _).alloc _,⟨List.replicate n 0,by simp,fun q v h=>by simp at h,?_⟩,(Box.new' zT).alloc _,Box.new' zT⟩
 ·exact(((hold.alloc zO _).alloc zT _).alloc zT _).alloc zT _
 ·rw[←made_ints];exact((Box.new' zT).alloc _).alloc _
theorem all1_gives (c:Cs)(n:Nat)(hn:c.parts.length=n)(hn8:n≤8)(pa:Option Addr)(pc:Nat)(w0:World)(hparts:PartsAt w0 pa c.parts)(bb H:Nat)(hbb:bb<w0.heap.size)(hH:w0.heap.size≤H)
 (W:World) (hW:W.heap.size=H+3) (hold:Below w0.heap.size w0 W) (hbox:Box W H #[.pointer (some ⟨bb,0,none⟩)] 139) (hben:Box W bb (csCells c pa pc) 219):
 Gives Tryz.prog 217 #[.pointer (some ⟨H,0,none⟩)] (AllZ H) w0.heap.size (AllRd H n) (allR c) W:=by
 intro l J Jx hJ hJx hY h0;have e1:=hbox.cell;have e2:=zC (hben);rw[hn] at e2;have hmf:=run_mf Tryz.prog;have HW:=zh hW;have hlt1:H<W.heap.size:=by omega
 have hlt2:bb<W.heap.size:=by omega
 have HY:=zh hY;have HJ:=zh hJ;have HO:=zh hold;have HB:=zh hbox;have HE:=zh hben;have HN:=zh hn;clear hY hJ hJx hold hbox hben hn hW;refine callsIn_of_wp Tryz.func217 rfl trivial ?_;simp only[Tryz.ntmps217,List.size_toArray,List.length_cons,List.length_nil,Nat.reduceAdd,Nat.reduceSub,Array.replicate_succ,Array.replicate_zero,List.push_toArray,List.append_toArray,List.nil_append,List.cons_append];have hmk:=fun w=>run_make_row' (P:=Tryz.prog) 26 3 (.int .i64 0) 8 Tryz.underlying26 zK rfl .i64 .i64 n zO zO w
 gi_wp2_with fail
 have q1:W.heap.size=H+3:=HW.out;have q2:W.heap.size+1=H+4:=by omega
 have q3:W.heap.size+1+1=H+5:=by omega
 have q4:W.heap.size+1+1+1=H+6:=by omega
 rw[q4,q3,q2,q1];have hst:=AllSt.start (c:=c) (n:=n) (pa:=pa) (pc:=pc) (bb:=bb) (l:=l) hH q1 HO.out HB.out HE.out;have hj0:=HJ.out _ _ _ h0 (((((Keep.refl (fun k=>¬AllZ H k) W).alloc (.cells #[.func (.yield l) #[] #[]] 159)).alloc (.cells (madeCells #[.int .i64 0] n) 3)).alloc (.cells #[.slice (some ⟨H+4,0,none⟩) n n] 26)).alloc
  (.cells #[.func (.func 218) #[] #[.pointer (some ⟨H+5,0,none⟩),.pointer (some ⟨H+3,0,none⟩),.pointer (some ⟨H,0,none⟩),.pointer (some ⟨H+6,0,none⟩)]] 236))
 have hcall:=next_any c n HN.out hn8 pa pc w0 hparts bb l H hbb hH J Jx HJ.out HY.out n 0 0 [] [] _ zO rfl rfl zO hst hj0 (by simp only[List.nil_append,allR,HN.out];exact List.prefix_rfl);simp only[List.nil_append] at hcall;refine hcall.mono ?_;clear hst hj0 hcall;rintro e W' (⟨rfl,hj',hst'⟩|⟨rfl,q,hq,hx'⟩)
 ·gi_wp2_with fail
  go_end0
  refine⟨⟨_,rfl⟩,.inl ?_⟩;rw[allR,HN.out];exact hj'
 ·gi_wp2_with fail
  go_end0
  exact⟨⟨_,rfl⟩,.inr ⟨q,hq,hx'⟩⟩
end
