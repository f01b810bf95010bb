/- The walks and plain laws of: MQDbtP MQR27. No condition. -/
import Derived.Test.YtjgldeeianionaaGreatT46
import Derived.Test.YtjgldeeianionaaGreatT01
set_option maxHeartbeats 4000000
set_option maxRecDepth 100000
set_option linter.unusedSimpArgs false
set_option linter.unusedVariables false
namespace Go.Proofs.YtjgldeeianionaaGreat
open Go.RowKit
theorem inc_sub:∀(m:Nat) (o s:List Nat) (a:Nat),Inc a m o→Inc a m s→(∀v∈s,v∈o)→s.Sublist o
 |m,[],s,a,_,_,h=>by
  cases s with
  |nil=>exact List.Sublist.slnil
  |cons v y=>exact absurd (h v zS) zS
 |m,u::o,[],a,_,_,_=>List.nil_sublist _
 |m,u::o,v::s,a,ho,hs,h=>by
  obtain⟨h1,h2,h3⟩:=ho;obtain⟨h4,h5,h6⟩:=hs
  by_cases he:v=u
  ·subst he;refine List.Sublist.cons_cons _ (inc_sub m o s (v+1) h3 h6 fun x hx=>?_)
   rcases List.mem_cons.1 (h x (List.mem_cons_of_mem _ hx)) with hh|hh
   ·have:=(h6.lt x hx).1;omega
   ·exact hh
  ·have hv:v∈o:=(List.mem_cons.1 (h v zS)).resolve_left he;have hvu:=(h3.lt v hv).1;refine List.Sublist.cons _ (inc_sub m o (v::s) (u+1) h3 ⟨hvu,h5,h6⟩ fun x hx=>?_)
   rcases List.mem_cons.1 (h x hx) with hh|hh
   ·subst hh
    rcases List.mem_cons.1 hx with hh|hh
    ·exact absurd hh.symm he
    ·have:=(h6.lt x hh).1;omega
   ·exact hh
theorem setGo_nodup (m:Nat):∀(r:Nat) (s:List Nat) (a:Nat),m-a≤r→(setGo m r s a).Nodup
 |0,s,a,_=>by simp[setGo]
 |r+1,s,a,hr=>by
  rw[setGo,List.nodup_cons];constructor
  ·intro h;rw[List.mem_flatMap] at h;obtain⟨k,_,hk⟩:=h;obtain⟨y,e,_⟩:=(mem_setGo m r (s++[a+k]) (a+k+1) s zO).1 hk;have:=congrArg List.length e;simp at this
  ·rw[List.Nodup,List.pairwise_flatMap];refine⟨fun k _=>setGo_nodup m r _ _ zO,?_⟩;refine(List.nodup_range (n:=m-a)).imp ?_;intro i j hij x hx y hy hxy;subst hxy;obtain⟨y1,e1,_⟩:=(mem_setGo m r _ _ x zO).1 hx;obtain⟨y2,e2,_⟩:=(mem_setGo m r _ _ x zO).1 hy;rw[e1] at e2;simp only[List.append_assoc,List.append_cancel_left_eq] at e2;exact hij (by simpa using congrArg List.head? e2)
theorem setsOf_nodup (m:Nat):(setsOf m).Nodup:=setGo_nodup m m [] 0 zO
def onB (l:List Prb)(o:Option (List Nat))(s:List Nat):Bool:=match o with|some p=>decide (costOf l s<costOf l p)|none=>true
def mostTo (l:List Prb)(o:Option (List Nat))(L:List (List Nat))(i k:Nat):Bool:=upto k fun j=>!(decide (j≠i)&&onB l o (L[j]?.getD [])&&isInB (L[i]?.getD []) (L[j]?.getD []))
def dbtTo (l:List Prb)(o:Option (List Nat))(L:List (List Nat))(n:Nat):List (List Nat):=(List.range n).filterMap fun i=>if onB l o (L[i]?.getD [])&&mostTo l o L i L.length then L[i]? else none
theorem range_pick {L:List (List Nat)}{Q:Nat→Bool}{P:List Nat→Bool}(h:∀j x,L[j]?=some x→Q j=P x):∀n,n≤L.length→((List.range n).filterMap fun i=>if Q i then L[i]? else none)=(L.take n).filter P
 |0,_=>by simp
 |n+1,hn=>by
  obtain⟨x,hx⟩:=get_of_lt L (k:=n) zO;rw[List.range_succ,List.filterMap_append,range_pick h n zO,take_snoc hx,List.filter_append]
  congr 1
  rw[List.filterMap_cons,List.filterMap_nil,hx,h n x hx]
  rcases hp:P x with _|_<;>simp[hp,List.filter_cons]
theorem dbtTo_all {c:Cs}{l:List Prb}{a b:Nat}:dbtTo l (cheapestOf c l a b) (setsOf l.length) (setsOf l.length).length=proofSets c l a b:=by
 obtain⟨o,ho⟩:=zx (cheapestOf c l a b);have hA:proofAll c l a b=(setsOf l.length).filter (onB l o):=by
  unfold proofAll;rw[ho]
  rcases o with _|p
  ·exact(List.filter_eq_self.2 (fun s _=>rfl)).symm
  ·rfl
 unfold proofSets dbtTo;rw[hA,ho];obtain⟨L,hL⟩:=zx (setsOf l.length);have hnd:L.Nodup:=by rw[←hL];exact setsOf_nodup _
 have hinc:∀s∈L,Inc 0 l.length s:=fun s hs=>mem_setsOf.1 (by rw[hL];exact hs)
 rw[hL];rw[range_pick (P:=fun s=>onB l o s && !((L.filter (onB l o)).any fun x=>decide (s.length<x.length)&&isInB s x)) (fun i s hi=>?_) L.length (Nat.le_refl _),List.take_length,List.filter_filter]
 ·congr 1
  funext s
  rw[Bool.and_comm]
 ·have hs:L[i]?.getD []=s:=by rw[hi];rfl
  rw[hs]
  congr 1
  rw[Bool.eq_iff_iff];simp only[mostTo,upto_iff,Bool.not_eq_true',Bool.and_eq_false_iff,List.any_eq_false,List.mem_filter,hs];constructor
  ·intro h x hx;obtain⟨hx,hon⟩:=hx;obtain⟨j,hj⟩:=List.mem_iff_getElem?.1 hx;have hjn:=(List.getElem?_eq_some_iff.1 hj).1;have h':=h j hjn;rw[hj] at h';simp only[Option.getD_some] at h'
   rcases h' with (h'|h')|h'
   ·simp only[ne_eq,decide_not,Bool.not_eq_false',decide_eq_true_eq] at h';subst h';rw[hi] at hj;cases hj
    simp
   ·rw[hon] at h';cases h'
   ·simp[h']
  ·intro h j hj;obtain⟨x,hx⟩:=get_of_lt L hj;rw[hx];simp only[Option.getD_some]
   by_cases hji:j=i
   ·exact .inl (.inl (by simp[hji]))
   rcases hon:onB l o x with _|_
   ·exact .inl (.inr rfl)
   rcases hin:isInB s x with _|_
   ·exact .inr rfl
   exfalso
   have hxm:=List.mem_of_getElem? hx;have hsm:=List.mem_of_getElem? hi;have h':=h x ⟨hxm,hon⟩;rw[hin,Bool.and_true,decide_eq_true_eq] at h';have hsub:=inc_sub l.length x s 0 (hinc x hxm) (hinc s hsm) (by simpa[isInB] using hin);have he:=hsub.eq_of_length (by have:=hsub.length_le;omega);subst he;exact hji ((List.getElem?_inj hj hnd).1 (by rw[hx,hi]))
theorem dbtTo_yes {l:List Prb}{o:Option (List Nat)}{L:List (List Nat)}{i:Nat}{s:List Nat}(hs:L[i]?=some s)(h1:onB l o s=true)(h2:mostTo l o L i L.length=true):dbtTo l o L (i+1)=dbtTo l o L i++[s]:=by
 unfold dbtTo;rw[List.range_succ,List.filterMap_append]
 simp[hs,h1,h2]
theorem dbtTo_no {l:List Prb}{o:Option (List Nat)}{L:List (List Nat)}{i:Nat}{s:List Nat}(hs:L[i]?=some s)(h:onB l o s=false∨mostTo l o L i L.length=false):dbtTo l o L (i+1)=dbtTo l o L i:=by
 unfold dbtTo;rw[List.range_succ,List.filterMap_append]
 rcases h with h|h<;>simp[hs,h]
theorem mostTo_succ {l:List Prb}{o:Option (List Nat)}{L:List (List Nat)}{i k:Nat}{s x:List Nat}(hs:L[i]?=some s)(hx:L[k]?=some x):mostTo l o L i (k+1)=(mostTo l o L i k && !(decide (k≠i)&&onB l o x&&isInB s x)):=by
 simp[mostTo,upto,List.range_succ,hs,hx]
end Go.Proofs.YtjgldeeianionaaGreat
namespace Go.Proofs.YtjgldeeianionaaGreat
open Go.RowKit
attribute [local go_sem] Oper.semAt_some
theorem onB_none {l:List Prb}{s:List Nat}:onB l none s=true:=rfl
theorem onB_some {l:List Prb}{p s:List Nat}:onB l (some p) s=decide (costOf l s<costOf l p):=rfl
def DbdAt (B M:Nat)(base:Nat)(W:World)(v:Value)(G:List (List Nat)):Prop:=∃zs:List RowE,zs.map (·.1)=G∧W.ownsRow base 26 1 v zs.length (zs.map hdrE)∧∀z∈zs,IntsHi B M W z.2.1 (natInts z.1)∧z.1.length≤z.2.2
theorem DbdAt.below {B M base:Nat}{W W':World}{v:Value}{G:List (List Nat)}(h:DbdAt B M base W v G)(hb:Below W.heap.size W W'):DbdAt B M base W' v G:=by
 obtain⟨zs,h1,h2,h3⟩:=h;exact⟨zs,h1,ownsRow_keep h2 (Keep.mono (Keep.of_below' hb) (fun _ _=>trivial):Keep (fun _=>True) W W') (fun _ _=>trivial),fun z hz=>⟨(h3 z hz).1.below hb,(h3 z hz).2⟩⟩
theorem DbdAt.rows {B M base:Nat}{W:World}{v:Value}{G:List (List Nat)}(h:DbdAt B M base W v G):∃a cap,v = .slice a G.length cap∧RowsAt W a G:=by
 obtain⟨zs,rfl,h2,h3⟩:=h;obtain⟨a,cap,rfl,hr,_⟩:=ownsRow_own h2;refine⟨a,cap,by simp,?_⟩;intro k x hx;rw[List.getElem?_map,Option.map_eq_some_iff] at hx;obtain⟨z,hz,rfl⟩:=hx;obtain⟨h4,h5⟩:=h3 z (List.mem_of_getElem? hz);obtain⟨b,o,rfl,_,hc,_⟩:=hr k (hdrE z) (by simp[hz]);exact⟨b,o,z.2.1,z.2.2,rfl,hc,h4.at_,h5⟩
theorem keep_below9 {B M N:Nat}{W W':World}(h:Below B W W')(hM:N≤B):Keep (fun k=>M≤k∧k<N) W W':=Keep.of_below h fun k hk _=>by omega
theorem doubtedR9_any {c:Cs}{l:List Prb}(hsm:c.Small)(hz:probesErr c l=0)(pa:Option Addr)(pc:Nat)(qa:Option Addr)(qc:Nat){a b:Nat}(ha:a<c.parts.length)(hb_:b<c.parts.length)(w:World)(hp:PartsAt w pa c.parts)(hq:PrbsAt w qa l):
 Calls Tryz.prog 28 #[.agg #[.string c.ware,.int .i64 c.limit,.int .i64 c.by_,.slice pa c.parts.length pc],.slice qa l.length qc,.int .i64 (a:Int),.int .i64 (b:Int)] w fun e w'=>∃x cap,e = .returned (.slice x (proofSets c l a b).length cap)∧RowsAt w' x (proofSets c l a b)∧Below w.heap.size w w':=by
 have hl5:=(probes_ok hz).2.1;obtain⟨w1,hw1⟩:=zx (w.alloc (.cells #[.string c.ware,.int .i64 c.limit,.int .i64 c.by_,.slice pa c.parts.length pc] 24));have hB1:Below w.heap.size w w1:=by rw[←hw1];go_grown
 have b1:Box w1 w.heap.size (csCells c pa pc) 24:=by rw[←hw1];exact Box.new _ _ _
 have HST:=zh (setsXR9_any (l:=l) hl5 qa qc w1);have HW:=zh hw1;have HX:=zh b1;have HB1:=zh hB1;have HCO:=zh (fun(x:List Nat) (hx:x∈setsOf l.length) sa sc W (hb:Below w.heap.size w W) (hI:Ints W sa (natInts x))=>costR9_any (c:=c) (qa:=qa) (qc:=qc) hz sa x sc W (hq.below hb) hI (sets_in hx).1 (by have:=(sets_in hx).2;omega));have HCP:=zh (fun W (hb:Below w.heap.size w W)=>cheapestR9_any hsm hz pa pc qa qc ha hb_ W (hp.below hb) (hq.below hb));have HSZ:=zh (fun(x:List Nat) (hx:x∈setsOf l.length)=>show x.length≤1000 by have:=(sets_in hx).2;omega);have hLL:=sets_len hl5;have HDE:=zh (dbtTo_all (c:=c) (l:=l) (a:=a) (b:=b));clear hw1 hB1 b1 hp hq hz hsm ha hb_ hl5;obtain⟨L,hL⟩:=zx (setsOf l.length);obtain⟨o,ho⟩:=zx (cheapestOf c l a b);rw[hL] at HST HCO HSZ HDE hLL;rw[ho] at HCP HDE;clear hL ho
 go_enter Tryz.func28,Tryz.ntmps28
 go_upto_region 1 with fail
 simp only[HW.out]
 go_wp2_with fail
 refine zM HST ?_;rintro e w2 ⟨la,lc,rfl,hr2,hb2⟩;have HR2:=zh hr2;have HX2:=zh (HX.out.below' hb2);have HB2:=zh (HB1.out.trans (hb2.mono HB1.out.size));have HC2:=zh (HCP.out w2 HB2.out);have e1:=zC (HX2.out);clear hb2 hr2 HST HW HX
 go_wp2_with fail
 refine zM HC2 ?_;rintro e w3 hcs;obtain⟨hb3,pba,pbn,pbc,pk,bb,rfl,hpl⟩:=plan_cells hcs;obtain⟨w4,hw4⟩:=zx (w3.alloc (.cells #[.slice pba pbn pbc,.int .i64 pk] 42));have hb4:Below w3.heap.size w3 w4:=by rw[←hw4];go_grown
 have x4:Box w4 w3.heap.size #[.slice pba pbn pbc,.int .i64 pk] 42:=by rw[←hw4];exact Box.new _ _ _
 have hb24:=hb3.trans (hb4.mono hb3.size);have HB4:=zh (HB2.out.trans (hb24.mono HB2.out.size));have HR:=zh (HR2.out.below hb24);have HPB:=zh x4;have HS24:=zh (show w2.heap.size≤w4.heap.size from hb24.size);have HW4:=zh hw4;have HPL:=zh (show(o=none∧bb=false)∨∃p,o=some p∧bb=true∧pk=costOf l p by
  rcases hpl with ⟨h1,h2,_⟩|⟨p,_,_,h1,h2,h3,_⟩
  ·exact .inl ⟨h1,h2⟩
  ·cases h3;exact .inr ⟨p,h1,h2,rfl⟩)
 clear hb3 hcs hpl hw4 hb4 x4 hb24 e1 HC2 HCP HX2 HR2
 go_upto_region 3 with fail
 simp only[HW4.out]
 go_wp2_with fail
 go_loopw [12,13] (fun ov iv wr=>∃i:Nat,i≤L.length∧iv = .int .i64 i∧DbdAt w1.heap.size w2.heap.size w4.heap.size wr ov (dbtTo l o L i)∧Below w4.heap.size w4 wr) (fun _ iv _=>L.length-(intOf iv).toNat)
 case atStart=>exact⟨0,Nat.zero_le _,rfl,⟨[],rfl,ownsRow_nil _ _ _ _,fun z hz=>by simp at hz⟩,Below.refl _ _⟩
 case round=>
  obtain⟨i,hi,rfl,hdb,hbw⟩:=hrel;have HDB:=zh hdb;have HBW:=zh hbw;clear hdb hbw
  by_cases hlt:i<L.length
  ·obtain⟨s,hs⟩:=get_of_lt L hlt;have hil:(i:Int)<(L.length:Int):=by omega
   have HSX:=zh hs
   go_upto_region 7 with fail
   have hbd:Below wr.heap.size wr wr.drew:=(Below.refl _ wr).drew;have hb6:=HBW.out.trans (hbd.mono HBW.out.size);obtain⟨b1,o1,ra,rc,hba,_,_,c1,hsi⟩:=(HR.out.below hb6).ints hs (Keep.refl _ _);cases hba;have HCC:=zh (HCO.out s (List.mem_of_getElem? hs) ra rc wr.drew (HB4.out.trans (hb6.mono HB4.out.size)) hsi);have hpb:=HPB.out.below' hb6;have K0:Hid (∀A,Below wr.drew.heap.size wr.drew A→A.cell? ⟨b1,o1+i,none⟩=some (.slice ra s.length rc)∧(∀j,A.cell? ⟨w3.heap.size,j,none⟩=(#[.slice pba pbn pbc,.int .i64 pk]:Array Value)[j]?)):=
    zh fun A hA=>⟨below_cell hA c1,(hpb.below' hA).cell⟩
   have HDB:=zh (HDB.out.below hbd);have HBW:=zh hb6;refine wp_region_L (fun A=>Below wr.drew.heap.size wr.drew A) 12 zK ?_;have hSS:Below wr.drew.heap.size wr.drew wr.drew:=Below.refl _ _;clear hbd hb6 c1 hsi hs hpb;generalize wr.drew=w6 at *
   rcases HPL.out with ⟨rfl,rfl⟩|⟨p,rfl,rfl,hpk⟩
   ·have HONS:=zh (onB_none (l:=l) (s:=s));refine tM K0 0 hSS ?_;refine tM K0 1 hSS ?_;refine tN 2 hSS ?_;refine tN 3 hSS ?_;refine tN 4 hSS ?_;refine tN 5 hSS ?_;refine tN 6 hSS ?_;refine tN 7 hSS ?_;refine tN 8 hSS ?_;refine tN 9 hSS ?_;refine tN 10 hSS ?_;refine tM K0 11 hSS ?_;refine anyL_done zK ?_ _;clear hSS K0 HCC
    go_wp2_with fail
    go_loopw [14,15] (fun mv kv wx=>∃k:Nat,k≤L.length∧kv = .int .i64 k∧mv = .bool (mostTo l none L i k)∧DbdAt w1.heap.size w2.heap.size w4.heap.size wx u12 (dbtTo l none L i)∧Below w4.heap.size w4 wx) (fun _ kv _=>L.length-(intOf kv).toNat)
    case atStart=>exact⟨0,Nat.zero_le _,rfl,rfl,HDB.out,HBW.out⟩
    case round=>
     clear HDB HBW;obtain⟨k,hk,rfl,rfl,hdi,hbi⟩:=hrel;have HDI:=zh hdi;have HBI:=zh hbi;clear hdi hbi;obtain⟨m,hm⟩:=zx (mostTo l none L i k);rw[hm];have HMK:=zh hm
     by_cases hkt:k<L.length
     ·obtain⟨y,hy⟩:=get_of_lt L hkt;have hkl:(k:Int)<(L.length:Int):=by omega
      have HYY:=zh hy;clear hm
      go_upto_region 12 with fail
      have hbd:Below wr.heap.size wr wr.drew:=(Below.refl _ wr).drew;have hb6:=HBI.out.trans (hbd.mono HBI.out.size);obtain⟨b1,o1,ra,rc,hba,_,_,c1,hsi⟩:=(HR.out.below hb6).ints HSX.out (Keep.refl _ _);obtain⟨b2,o2,rb,rd,hbb,_,_,c2,hyi⟩:=(HR.out.below hb6).ints hy (Keep.refl _ _);cases hba;cases hbb;have HCC:=zh (HCO.out y (List.mem_of_getElem? hy) rb rd wr.drew (HB4.out.trans (hb6.mono HB4.out.size)) hyi);have HIN:=zh (fun W (hW:Below wr.drew.heap.size wr.drew W)=>inR9_any ra s rc rb y rd W (hsi.below hW) (hyi.below hW) (HSZ.out s (List.mem_of_getElem? HSX.out)) (HSZ.out y (List.mem_of_getElem? hy)));have HB6:=zh hb6;have HDI6:=zh (HDI.out.below hbd);have hpb:=HPB.out.below' hb6
      have K0:Hid (∀A,Below wr.drew.heap.size wr.drew A→A.cell? ⟨b1,o1+i,none⟩=some (.slice ra s.length rc)∧A.cell? ⟨b1,o1+k,none⟩=some (.slice rb y.length rd)∧(∀j,A.cell? ⟨w3.heap.size,j,none⟩=(#[.slice pba pbn pbc,.int .i64 pk]:Array Value)[j]?)):=
       zh fun A hA=>⟨below_cell hA c1,below_cell hA c2,(hpb.below' hA).cell⟩
      refine wp_region_L (fun A=>Below wr.drew.heap.size wr.drew A) 29 zK ?_;have hSS:Below wr.drew.heap.size wr.drew wr.drew:=Below.refl _ _;clear hbd hb6 c1 c2 hsi hyi hy hpb HDI HBI;generalize wr.drew=w6 at *
      by_cases hki:k=i
      ·have hkb:((k:Int) != (i:Int))=false:=by simp[hki]
       have HMS:=zh (show mostTo l none L i (k+1)=m by rw[mostTo_succ HSX.out HYY.out,HMK.out];simp[hki]);clear hki;refine tM K0 0 hSS ?_;refine tM K0 1 hSS ?_;refine tM K0 2 hSS ?_;refine tM K0 3 hSS ?_;refine tN 4 hSS ?_;refine tN 5 hSS ?_;refine tN 6 hSS ?_;refine tN 7 hSS ?_;refine tN 8 hSS ?_;refine tN 9 hSS ?_;refine tN 10 hSS ?_;refine tN 11 hSS ?_;refine tN 12 hSS ?_;refine tN 13 hSS ?_;refine tN 14 hSS ?_;refine tN 15 hSS ?_;refine tN 16 hSS ?_;refine tM K0 17 hSS ?_;refine tM K0 18 hSS ?_;refine tN 19 hSS ?_;refine tN 20 hSS ?_;refine tN 21 hSS ?_;refine tN 22 hSS ?_;refine tN 23 hSS ?_;refine tN 24 hSS ?_;refine tN 25 hSS ?_;refine tN 26 hSS ?_;refine tN 27 hSS ?_;refine tM K0 28 hSS ?_;refine anyL_done zK ?_ _;have HB7:=zh (HB6.out.trans (hSS.mono HB6.out.size));have HDI7:=zh (HDI6.out.below hSS);clear hSS K0
       go_wp2_with fail
       go_roundw
       case rel=>exact⟨k+1,zO,zN,by rw[HMS.out],HDI7.out,HB7.out⟩
       case measure=>simp[intOf];omega
      ·have hkb:((k:Int) != (i:Int))=true:=by simp;omega
       have HKI:=zh (show decide (k≠i)=true by simp[hki]);clear hki;have HON:=zh (onB_none (l:=l) (s:=y));refine tM K0 0 hSS ?_;refine tM K0 1 hSS ?_;refine tM K0 2 hSS ?_;refine tM K0 3 hSS ?_;refine tM K0 4 hSS ?_;refine tM K0 5 hSS ?_;refine tM K0 6 hSS ?_;refine tN 7 hSS ?_;refine tN 8 hSS ?_;refine tN 9 hSS ?_;refine tN 10 hSS ?_;refine tN 11 hSS ?_;refine tN 12 hSS ?_;refine tN 13 hSS ?_;refine tN 14 hSS ?_;refine tN 15 hSS ?_;refine tM K0 16 hSS ?_;refine tM K0 17 hSS ?_;refine tM K0 18 hSS ?_;refine tM K0 19 hSS ?_;refine tM K0 20 hSS ?_;refine tM K0 21 hSS ?_;refine tM K0 22 hSS ?_;refine tM K0 23 hSS ?_;refine tM K0 24 hSS ?_;refine tM K0 25 hSS ?_;refine tM K0 26 hSS ?_;have HIN:=zh (HIN.out w6 hSS);refine anyL_call (i:=27) (f:=91) (args:=#[.slice ra s.length rc,.slice rb y.length rd]) rfl zK (by rfl) (by go_simp) HIN.out ?_;rintro e7 w7 ⟨rfl,hb7⟩
       refine .inl ⟨_,rfl,.inr hb7,?_⟩
       try simp only[pZ]
       have hSS:=hb7;clear hb7
       rcases hin:isInB s y with _|_
       ·have HMS:=zh (show mostTo l none L i (k+1)=m by rw[mostTo_succ HSX.out HYY.out,HMK.out,hin,Bool.and_false,Bool.not_false,Bool.and_true]);clear hin;refine tM K0 28 hSS ?_;refine anyL_done zK ?_ _;have HB7:=zh (HB6.out.trans (hSS.mono HB6.out.size));have HDI7:=zh (HDI6.out.below hSS);clear hSS K0
        go_wp2_with fail
        go_roundw
        case rel=>exact⟨k+1,zO,zN,by rw[HMS.out],HDI7.out,HB7.out⟩
        case measure=>simp[intOf];omega
       ·have HMS:=zh (show mostTo l none L i (k+1)=false by rw[mostTo_succ HSX.out HYY.out,hin,HON.out,HKI.out];simp);clear hin;refine tM K0 28 hSS ?_;refine anyL_done zK ?_ _;have HB7:=zh (HB6.out.trans (hSS.mono HB6.out.size));have HDI7:=zh (HDI6.out.below hSS);clear hSS K0
        go_wp2_with fail
        go_roundw
        case rel=>exact⟨k+1,zO,zN,by rw[HMS.out],HDI7.out,HB7.out⟩
        case measure=>simp[intOf];omega
     ·have hke:k=L.length:=by omega
      have HME:=zh (show mostTo l none L i L.length=m by rw[←hke];exact hm);clear hm hke
      rcases m with _|_
      ·have HDS:=zh (dbtTo_no (l:=l) (o:=none) HSX.out (.inr HME.out))
       go_wp2_with fail
       go_roundw
       case rel=>exact⟨i+1,zO,zN,by rw[HDS.out];exact HDI.out,HBI.out⟩
       case measure=>simp[intOf];omega
      ·have HDS:=zh (dbtTo_yes (l:=l) (o:=none) HSX.out HONS.out HME.out);obtain⟨b1,o1,ra,rc,hba,_,_,c1,hsi,hcap⟩:=(HR.out.below HBI.out) i s HSX.out;cases hba;obtain⟨zs,hz1,hz2,hz3⟩:=HDI.out;have hzl:zs.length≤100000:=by
        have h1:=congrArg List.length hz1;rw[List.length_map] at h1;have h2:(dbtTo l none L i).length≤i:=by unfold dbtTo;exact Nat.le_trans (List.length_filterMap_le _ _) zS
        omega
       obtain⟨v9,w9,hrun,hown,hb9⟩:=app_one (E:=26) (TT:=49) zK info_row rfl zO hz2 zO HBI.out.size (.slice ra s.length rc) rfl;have HRN:=zh hrun;have HB9:=zh (HBI.out.trans hb9);have hs24:=HS24.out;have hk9:Keep (fun k=>w1.heap.size≤k∧k<w2.heap.size) wr w9:=keep_below9 hb9 zO;have HDN:=zh (show DbdAt w1.heap.size w2.heap.size w4.heap.size w9 v9 (dbtTo l none L (i+1)) from⟨zs++[(s,ra,rc)],by rw[HDS.out,List.map_append,hz1];rfl,by rw[List.length_append,List.length_singleton,List.map_append];exact hown,fun z hz=>by
        rcases List.mem_append.1 hz with h|h
        ·exact⟨(hz3 z h).1.keep hk9,(hz3 z h).2⟩
        ·rw[List.mem_singleton.1 h];exact⟨hsi.keep hk9,hcap⟩⟩)
       clear hrun hown hb9 hk9 hz1 hz2 hz3 hsi hs24
       go_wp2_with (at_builtin;refine wpList_app rfl _ _ _ rfl rfl rfl HRN.out ?_)
       go_roundw
       case rel=>exact⟨i+1,zO,zN,HDN.out,HB9.out⟩
       case measure=>simp[intOf];omega
   ·have HPK:=zh hpk;clear hpk;refine tM K0 0 hSS ?_;refine tM K0 1 hSS ?_;refine tM K0 2 hSS ?_;refine tM K0 3 hSS ?_;refine tM K0 4 hSS ?_;refine tM K0 5 hSS ?_;refine tM K0 6 hSS ?_;refine tM K0 8 hSS ?_;refine tM K0 9 hSS ?_;refine anyL_call (i:=7) (f:=90) (args:=#[.slice qa l.length qc,.slice ra s.length rc]) rfl zK (by rfl) (by go_simp) HCC.out ?_;rintro e7 w7 ⟨rfl,rfl⟩;refine .inl ⟨_,rfl,.inr hSS,?_⟩
    try simp only[pZ]
    obtain⟨cx,hcx⟩:=zx (costOf l s);rw[hcx]
    by_cases hlc:pk≤cx
    ·have HDS:=zh (dbtTo_no (l:=l) (o:=some p) HSX.out (.inl (by rw[onB_some,hcx,←HPK.out];simpa using hlc)));clear hcx;refine tM K0 10 hSS ?_;refine tM K0 11 hSS ?_;refine anyL_done zK ?_ _;clear hSS K0 HCC
     go_wp2_with fail
     go_roundw
     case rel=>exact⟨i+1,zO,zN,by rw[HDS.out];exact HDB.out,HBW.out⟩
     case measure=>simp[intOf];omega
    ·have HONS:=zh (show onB l (some p) s=true by rw[onB_some,hcx,←HPK.out];simp;omega);clear hcx;refine tM K0 10 hSS ?_;refine tM K0 11 hSS ?_;refine anyL_done zK ?_ _;clear hSS K0 HCC
     go_wp2_with fail
     go_loopw [14,15] (fun mv kv wx=>∃k:Nat,k≤L.length∧kv = .int .i64 k∧mv = .bool (mostTo l (some p) L i k)∧DbdAt w1.heap.size w2.heap.size w4.heap.size wx u12 (dbtTo l (some p) L i)∧Below w4.heap.size w4 wx) (fun _ kv _=>L.length-(intOf kv).toNat)
     case atStart=>exact⟨0,Nat.zero_le _,rfl,rfl,HDB.out,HBW.out⟩
     case round=>
      clear HDB HBW;obtain⟨k,hk,rfl,rfl,hdi,hbi⟩:=hrel;have HDI:=zh hdi;have HBI:=zh hbi;clear hdi hbi;obtain⟨m,hm⟩:=zx (mostTo l (some p) L i k);rw[hm];have HMK:=zh hm
      by_cases hkt:k<L.length
      ·obtain⟨y,hy⟩:=get_of_lt L hkt;have hkl:(k:Int)<(L.length:Int):=by omega
       have HYY:=zh hy;clear hm
       go_upto_region 12 with fail
       have hbd:Below wr.heap.size wr wr.drew:=(Below.refl _ wr).drew;have hb6:=HBI.out.trans (hbd.mono HBI.out.size);obtain⟨b1,o1,ra,rc,hba,_,_,c1,hsi⟩:=(HR.out.below hb6).ints HSX.out (Keep.refl _ _);obtain⟨b2,o2,rb,rd,hbb,_,_,c2,hyi⟩:=(HR.out.below hb6).ints hy (Keep.refl _ _);cases hba;cases hbb;have HCC:=zh (HCO.out y (List.mem_of_getElem? hy) rb rd wr.drew (HB4.out.trans (hb6.mono HB4.out.size)) hyi);have HIN:=zh (fun W (hW:Below wr.drew.heap.size wr.drew W)=>inR9_any ra s rc rb y rd W (hsi.below hW) (hyi.below hW) (HSZ.out s (List.mem_of_getElem? HSX.out)) (HSZ.out y (List.mem_of_getElem? hy)));have HB6:=zh hb6;have HDI6:=zh (HDI.out.below hbd);have hpb:=HPB.out.below' hb6
       have K0:Hid (∀A,Below wr.drew.heap.size wr.drew A→A.cell? ⟨b1,o1+i,none⟩=some (.slice ra s.length rc)∧A.cell? ⟨b1,o1+k,none⟩=some (.slice rb y.length rd)∧(∀j,A.cell? ⟨w3.heap.size,j,none⟩=(#[.slice pba pbn pbc,.int .i64 pk]:Array Value)[j]?)):=
        zh fun A hA=>⟨below_cell hA c1,below_cell hA c2,(hpb.below' hA).cell⟩
       refine wp_region_L (fun A=>Below wr.drew.heap.size wr.drew A) 29 zK ?_;have hSS:Below wr.drew.heap.size wr.drew wr.drew:=Below.refl _ _;clear hbd hb6 c1 c2 hsi hyi hy hpb HDI HBI;generalize wr.drew=w6 at *
       by_cases hki:k=i
       ·have hkb:((k:Int) != (i:Int))=false:=by simp[hki]
        have HMS:=zh (show mostTo l (some p) L i (k+1)=m by rw[mostTo_succ HSX.out HYY.out,HMK.out];simp[hki]);clear hki;refine tM K0 0 hSS ?_;refine tM K0 1 hSS ?_;refine tM K0 2 hSS ?_;refine tM K0 3 hSS ?_;refine tN 4 hSS ?_;refine tN 5 hSS ?_;refine tN 6 hSS ?_;refine tN 7 hSS ?_;refine tN 8 hSS ?_;refine tN 9 hSS ?_;refine tN 10 hSS ?_;refine tN 11 hSS ?_;refine tN 12 hSS ?_;refine tN 13 hSS ?_;refine tN 14 hSS ?_;refine tN 15 hSS ?_;refine tN 16 hSS ?_;refine tM K0 17 hSS ?_;refine tM K0 18 hSS ?_;refine tN 19 hSS ?_;refine tN 20 hSS ?_;refine tN 21 hSS ?_;refine tN 22 hSS ?_;refine tN 23 hSS ?_;refine tN 24 hSS ?_;refine tN 25 hSS ?_;refine tN 26 hSS ?_;refine tN 27 hSS ?_;refine tM K0 28 hSS ?_;refine anyL_done zK ?_ _;have HB7:=zh (HB6.out.trans (hSS.mono HB6.out.size));have HDI7:=zh (HDI6.out.below hSS);clear hSS K0
        go_wp2_with fail
        go_roundw
        case rel=>exact⟨k+1,zO,zN,by rw[HMS.out],HDI7.out,HB7.out⟩
        case measure=>simp[intOf];omega
       ·have hkb:((k:Int) != (i:Int))=true:=by simp;omega
        have HKI:=zh (show decide (k≠i)=true by simp[hki]);clear hki;refine tM K0 0 hSS ?_;refine tM K0 1 hSS ?_;refine tM K0 2 hSS ?_;refine tM K0 3 hSS ?_;refine tM K0 4 hSS ?_;refine tM K0 5 hSS ?_;refine tM K0 6 hSS ?_;refine tM K0 7 hSS ?_;refine tM K0 8 hSS ?_;refine tM K0 9 hSS ?_;refine tM K0 10 hSS ?_;refine tM K0 11 hSS ?_;refine tM K0 13 hSS ?_;refine tM K0 14 hSS ?_;refine anyL_call (i:=12) (f:=90) (args:=#[.slice qa l.length qc,.slice rb y.length rd]) rfl zK (by rfl) (by go_simp) HCC.out ?_;rintro e7 w7 ⟨rfl,rfl⟩;refine .inl ⟨_,rfl,.inr hSS,?_⟩
        try simp only[pZ]
        obtain⟨cy,hcy⟩:=zx (costOf l y);rw[hcy]
        by_cases hlc:cy<pk
        ·have HON:=zh (show onB l (some p) y=true by rw[onB_some,hcy,←HPK.out];simpa using hlc);clear hcy;refine tM K0 15 hSS ?_;refine tM K0 16 hSS ?_;refine tM K0 17 hSS ?_;refine tM K0 18 hSS ?_;refine tM K0 19 hSS ?_;refine tM K0 20 hSS ?_;refine tM K0 21 hSS ?_;refine tM K0 22 hSS ?_;refine tM K0 23 hSS ?_;refine tM K0 24 hSS ?_;refine tM K0 25 hSS ?_;refine tM K0 26 hSS ?_;have HIN:=zh (HIN.out w6 hSS);refine anyL_call (i:=27) (f:=91) (args:=#[.slice ra s.length rc,.slice rb y.length rd]) rfl zK (by rfl) (by go_simp) HIN.out ?_;rintro e7 w7 ⟨rfl,hb7⟩;refine .inl ⟨_,rfl,.inr hb7,?_⟩
         try simp only[pZ]
         have hSS:=hb7;clear hb7
         rcases hin:isInB s y with _|_
         ·have HMS:=zh (show mostTo l (some p) L i (k+1)=m by rw[mostTo_succ HSX.out HYY.out,HMK.out,hin,Bool.and_false,Bool.not_false,Bool.and_true]);clear hin;refine tM K0 28 hSS ?_;refine anyL_done zK ?_ _;have HB7:=zh (HB6.out.trans (hSS.mono HB6.out.size));have HDI7:=zh (HDI6.out.below hSS);clear hSS K0
          go_wp2_with fail
          go_roundw
          case rel=>exact⟨k+1,zO,zN,by rw[HMS.out],HDI7.out,HB7.out⟩
          case measure=>simp[intOf];omega
         ·have HMS:=zh (show mostTo l (some p) L i (k+1)=false by rw[mostTo_succ HSX.out HYY.out,hin,HON.out,HKI.out];simp);clear hin;refine tM K0 28 hSS ?_;refine anyL_done zK ?_ _;have HB7:=zh (HB6.out.trans (hSS.mono HB6.out.size));have HDI7:=zh (HDI6.out.below hSS);clear hSS K0
          go_wp2_with fail
          go_roundw
          case rel=>exact⟨k+1,zO,zN,by rw[HMS.out],HDI7.out,HB7.out⟩
          case measure=>simp[intOf];omega
        ·have HON:=zh (show onB l (some p) y=false by rw[onB_some,hcy,←HPK.out];simpa using hlc);have HMS:=zh (show mostTo l (some p) L i (k+1)=m by rw[mostTo_succ HSX.out HYY.out,HMK.out,HON.out];simp);clear hcy;refine tM K0 15 hSS ?_;refine tM K0 16 hSS ?_;refine tM K0 17 hSS ?_;refine tM K0 18 hSS ?_;refine tN 19 hSS ?_;refine tN 20 hSS ?_;refine tN 21 hSS ?_;refine tN 22 hSS ?_;refine tN 23 hSS ?_;refine tN 24 hSS ?_;refine tN 25 hSS ?_;refine tN 26 hSS ?_;refine tN 27 hSS ?_;refine tM K0 28 hSS ?_;refine anyL_done zK ?_ _;have HB7:=zh (HB6.out.trans (hSS.mono HB6.out.size));have HDI7:=zh (HDI6.out.below hSS);clear hSS K0
         go_wp2_with fail
         go_roundw
         case rel=>exact⟨k+1,zO,zN,by rw[HMS.out],HDI7.out,HB7.out⟩
         case measure=>simp[intOf];omega
      ·have hke:k=L.length:=by omega
       have HME:=zh (show mostTo l (some p) L i L.length=m by rw[←hke];exact hm);clear hm hke
       rcases m with _|_
       ·have HDS:=zh (dbtTo_no (l:=l) (o:=(some p)) HSX.out (.inr HME.out))
        go_wp2_with fail
        go_roundw
        case rel=>exact⟨i+1,zO,zN,by rw[HDS.out];exact HDI.out,HBI.out⟩
        case measure=>simp[intOf];omega
       ·have HDS:=zh (dbtTo_yes (l:=l) (o:=(some p)) HSX.out HONS.out HME.out);obtain⟨b1,o1,ra,rc,hba,_,_,c1,hsi,hcap⟩:=(HR.out.below HBI.out) i s HSX.out;cases hba;obtain⟨zs,hz1,hz2,hz3⟩:=HDI.out;have hzl:zs.length≤100000:=by
         have h1:=congrArg List.length hz1;rw[List.length_map] at h1;have h2:(dbtTo l (some p) L i).length≤i:=by unfold dbtTo;exact Nat.le_trans (List.length_filterMap_le _ _) zS
         omega
        obtain⟨v9,w9,hrun,hown,hb9⟩:=app_one (E:=26) (TT:=49) zK info_row rfl zO hz2 zO HBI.out.size (.slice ra s.length rc) rfl;have HRN:=zh hrun;have HB9:=zh (HBI.out.trans hb9);have hs24:=HS24.out;have hk9:Keep (fun k=>w1.heap.size≤k∧k<w2.heap.size) wr w9:=keep_below9 hb9 zO;have HDN:=zh (show DbdAt w1.heap.size w2.heap.size w4.heap.size w9 v9 (dbtTo l (some p) L (i+1)) from⟨zs++[(s,ra,rc)],by rw[HDS.out,List.map_append,hz1];rfl,by rw[List.length_append,List.length_singleton,List.map_append];exact hown,fun z hz=>by
         rcases List.mem_append.1 hz with h|h
         ·exact⟨(hz3 z h).1.keep hk9,(hz3 z h).2⟩
         ·rw[List.mem_singleton.1 h];exact⟨hsi.keep hk9,hcap⟩⟩)
        clear hrun hown hb9 hk9 hz1 hz2 hz3 hsi hs24
        go_wp2_with (at_builtin;refine wpList_app rfl _ _ _ rfl rfl rfl HRN.out ?_)
        go_roundw
        case rel=>exact⟨i+1,zO,zN,HDN.out,HB9.out⟩
        case measure=>simp[intOf];omega
  ·have hie:i=L.length:=by omega
   have HIE:=zh hie;clear hie;obtain⟨x,cap,hx,hrows⟩:=HDB.out.rows;have HRO:=zh hrows;subst hx;clear hrows
   go_wp2_with fail
   go_ret
   have h:=HRO.out;rw[HIE.out] at h ⊢;rw[HDE.out] at h ⊢;exact⟨x,cap,rfl,h,HB4.out.trans (HBW.out.mono HB4.out.size)⟩
end Go.Proofs.YtjgldeeianionaaGreat
