/- The walks and plain laws of: MQLTried MQLawL. No condition. -/
import Derived.Test.YtjgldeeianionaaGreatS34
import Derived.Test.YtjgldeeianionaaGreatS39
import Derived.Test.YtjgldeeianionaaGreatS40
import Derived.Test.YtjgldeeianionaaGreatS44
import Derived.Test.YtjgldeeianionaaGreatS47
import Derived.Test.YtjgldeeianionaaGreatS01
set_option maxHeartbeats 2000000
set_option maxRecDepth 100000
set_option linter.unusedSimpArgs false
set_option linter.unusedVariables false
namespace Go.Proofs.YtjgldeeianionaaGreat
open Go.RowKit
attribute [local go_sem] Oper.semAt_some
def VerOk (v:Ver):Prop:=v.found.length≤20∧v.proof.length≤200∧∀z∈v.proof,z.many.length≤20
def OpnOk (d:Opn):Prop:=d.probes.length≤20∧d.found.length≤20∧d.tog.length≤20∧d.apt.length≤20
def TriedOk (V:List Ver)(D:List Opn):Prop:=(V.length≤70∧∀v∈V,VerOk v)∧D.length≤40∧∀d∈D,OpnOk d
def TriedPost (V:List Ver)(D:List Opn)(w:World)(e:Ending)(w':World):Prop:=(∃b:Bool,e = .returned (.bool b)∧(b=true→TriedOk V D))∧Below w.heap.size w w'
theorem row_four {w:World}{g:Nat}{v1 v2 v3 v4:Value}{t:TypeId}(h:Box w g #[v1,v2,v3,v4] t):Row w (some ⟨g,0,none⟩) [v1,v2,v3,v4]:=fun k v hv=>by
 refine⟨g,0,rfl,?_⟩
 rw[h.cell,Nat.zero_add]
 simpa using hv
theorem tried9_any (va:Option Addr)(V:List Ver)(vc:Nat)(hvl:V.length≤maxLen)(hvd:∀v∈V,v.found.length≤maxLen∧v.proof.length≤maxLen∧∀z∈v.proof,z.many.length≤maxLen)(oa:Option Addr)(D:List Opn)(oc:Nat)(hdl:D.length≤maxLen)
 (hdd:∀d∈D,d.probes.length≤maxLen∧d.found.length≤maxLen∧d.tog.length≤maxLen∧d.apt.length≤maxLen) (w:World) (hV:VersAt w va V) (hD:OpnsAt w oa D):
 Calls Tryz.prog 38 #[.slice va V.length vc,.slice oa D.length oc] w (TriedPost V D w):=by
 have HVD:=zh (fun v hv=>(hvd v hv))
 have HDD:=zh hdd
 have HV:=zh hV
 have HO:=zh hD
 unfold maxLen at hvl hdl
 clear hvd hdd hV hD
 go_enter Tryz.func38,Tryz.ntmps38
 go_wp2_with fail
 go_loop [5] (fun i=>∃k:Nat,k≤V.length∧k≤70∧i = .int .i64 k∧Hid (∀(j:Nat) v,j<k→V[j]?=some v→VerOk v)) (fun i=>V.length-(intOf i).toNat)
 case atStart=>exact⟨0,Nat.zero_le _,Nat.zero_le _,rfl,zh (fun j q hj=>absurd hj (Nat.not_lt_zero j))⟩
 case round=>
  obtain⟨k,hk,hk70,rfl,HA⟩:=hrel
  by_cases hlt:k<V.length
  ·have hkn:(k:Int)<(V.length:Int):=by omega
   by_cases h70:k<70
   ·have hk70n:(k:Int)<70:=by omega
    obtain⟨v,hv⟩:=get_of_lt V hlt
    obtain⟨b,o,fa,fc,ra,rc,rfl,x1,x2,x3,_,hbr,_⟩:=HV.out k v hv
    have hvm:=HVD.out v (List.mem_of_getElem? hv)
    have HVK:=zh hv
    have hm1:=hvm.1
    have hm2:=hvm.2.1
    have HM3:=zh hvm.2.2
    have HBR:=zh hbr
    unfold maxLen at hm1 hm2
    clear hv hvm hbr x2
    by_cases h200:(200:Int)<(v.proof.length:Int)
    ·go_wp2_with fail
     go_ret
     exact⟨⟨false,rfl,fun h=>by cases h⟩,Below.refl _ _⟩
    ·by_cases h20:(20:Int)<(v.found.length:Int)
     ·go_wp2_with fail
      go_ret
      exact⟨⟨false,rfl,fun h=>by cases h⟩,Below.refl _ _⟩
     ·go_wp2_with fail
      go_loop [6] (fun i=>∃m:Nat,m≤v.proof.length∧i = .int .i64 m∧Hid (∀(j:Nat) z,j<m→v.proof[j]?=some z→z.many.length≤20)) (fun i=>v.proof.length-(intOf i).toNat)
      case atStart=>exact⟨0,Nat.zero_le _,rfl,zh (fun j q hj=>absurd hj (Nat.not_lt_zero j))⟩
      case round=>
       obtain⟨m,hm,rfl,HMA⟩:=hrel
       by_cases hlm:m<v.proof.length
       ·have hmn:(m:Int)<(v.proof.length:Int):=by omega
        obtain⟨z,hz⟩:=get_of_lt v.proof hlm
        obtain⟨b2,o2,rfl,ma,mc,y1,y2,y3,y4,_⟩:=HBR.out m z hz
        have hzm:=HM3.out z (List.mem_of_getElem? hz)
        unfold maxLen at hzm
        have HZK:=zh hz
        clear hz y1 y2 y3
        by_cases hz20:(20:Int)<(z.many.length:Int)
        ·go_wp2_with fail
         go_ret
         exact⟨⟨false,rfl,fun h=>by cases h⟩,Below.refl _ _⟩
        ·go_wp2_with fail
         go_round
         case rel=>exact⟨m+1,by omega,by go_num,zh (fun j y hj hy=>by
          rcases Nat.lt_or_ge j m with h|h
          ·exact HMA.out j y h hy
          ·obtain rfl:j=m:=by omega
           rw[HZK.out] at hy;cases hy
           omega)⟩
         case measure=>simp[intOf];omega
       ·have hmn:¬(m:Int)<(v.proof.length:Int):=by omega
        have HOK:=zh (show VerOk v from⟨by omega,by omega,fun z hz=>by
         obtain⟨j,hj⟩:=List.mem_iff_getElem?.1 hz
         have:=(List.getElem?_eq_some_iff.1 hj).1
         exact HMA.out j z (by omega) hj⟩)
        go_wp2_with fail
        go_round
        case rel=>exact⟨k+1,by omega,by omega,by go_num,zh (fun j y hj hy=>by
         rcases Nat.lt_or_ge j k with h|h
         ·exact HA.out j y h hy
         ·obtain rfl:j=k:=by omega
          rw[HVK.out] at hy;cases hy
          exact HOK.out)⟩
        case measure=>simp[intOf];omega
   ·have hk70n:¬(k:Int)<70:=by omega
    have HV70:Hid (V.length≤70→∀v∈V,VerOk v):=zh (fun h=>absurd h (by omega))
    go_wp2_with fail
    go_loopw [7] (fun i wr=>∃k:Nat,k≤D.length∧k≤40∧i = .int .i64 k∧Hid (∀(j:Nat) d,j<k→D[j]?=some d→OpnOk d)∧Below w.heap.size w wr) (fun i _=>D.length-(intOf i).toNat)
    case atStart=>exact⟨0,Nat.zero_le _,Nat.zero_le _,rfl,zh (fun j q hj=>absurd hj (Nat.not_lt_zero j)),Below.refl _ _⟩
    case round=>
     obtain⟨k2,hk2,hk240,rfl,HD,hb⟩:=hrel
     have HB:=zh hb
     clear hb
     by_cases hlt2:k2<D.length
     ·have hkn2:(k2:Int)<(D.length:Int):=by omega
      by_cases h40:k2<40
      ·have hk40n:(k2:Int)<40:=by omega
       obtain⟨d,hd⟩:=get_of_lt D hlt2
       go_upto_region 14 with fail
       have hbd:Below wr.heap.size wr wr.drew:=(Below.refl _ wr).drew
       have hb6:=HB.out.trans (hbd.mono HB.out.size)
       obtain⟨b,o,a1,c1,a2,c2,a3,c3,a4,c4,rfl,x1,x2,x3,x4,_⟩:=(HO.out.below hb6) k2 d hd
       have hdm:=HDD.out d (List.mem_of_getElem? hd)
       have HDK:=zh hd
       have HDM:=zh hdm
       have K0:Hid (∀A,Below wr.drew.heap.size wr.drew A→A.cell? ⟨b,o+k2*4,none⟩=some (.slice a1 d.probes.length c1)∧A.cell? ⟨b,o+k2*4+1,none⟩=some (.slice a2 d.found.length c2)∧A.cell? ⟨b,o+k2*4+2,none⟩=some (.slice a3 d.tog.length c3)∧A.cell? ⟨b,o+k2*4+3,none⟩=some (.slice a4 d.apt.length c4)):=zh fun A hA=>⟨below_cell hA x1,below_cell hA x2,below_cell hA x3,below_cell hA x4⟩
       refine wp_region_L (fun A=>Below wr.drew.heap.size wr.drew A) 23 zK ?_
       have hSS:Below wr.drew.heap.size wr.drew wr.drew:=Below.refl _ _
       have HB6:=zh hb6
       clear hd hdm hbd hb6 x1 x2 x3 x4
       generalize wr.drew=w6 at *
       refine tkL 0 ?_ rfl ?_ hSS ?_
       rotate_left
       ·(intro W hW;obtain⟨q0,q1,q2,q3⟩:=K0.out W hW;go_simp;try with_reducible rfl)
       try simp only[pA,pN,sA,sB]
       refine tkL 1 ?_ rfl ?_ hSS ?_
       rotate_left
       ·(intro W hW;obtain⟨q0,q1,q2,q3⟩:=K0.out W hW;go_simp;try with_reducible rfl)
       try simp only[pA,pN,sA,sB]
       refine tkL 2 ?_ rfl ?_ hSS ?_
       rotate_left
       ·(intro W hW;obtain⟨q0,q1,q2,q3⟩:=K0.out W hW;go_simp;try with_reducible rfl)
       try simp only[pA,pN,sA,sB]
       refine tkL 3 ?_ rfl ?_ hSS ?_
       rotate_left
       ·(intro W hW;obtain⟨q0,q1,q2,q3⟩:=K0.out W hW;go_simp;try with_reducible rfl)
       try simp only[pA,pN,sA,sB]
       refine tkL 4 ?_ rfl ?_ hSS ?_
       rotate_left
       ·(intro W hW;obtain⟨q0,q1,q2,q3⟩:=K0.out W hW;go_simp;try with_reducible rfl)
       try simp only[pA,pN,sA,sB]
       refine tkL 5 ?_ rfl ?_ hSS ?_
       rotate_left
       ·(intro W hW;obtain⟨q0,q1,q2,q3⟩:=K0.out W hW;go_simp;try with_reducible rfl)
       try simp only[pA,pN,sA,sB]
       refine tkL 6 ?_ rfl ?_ hSS ?_
       rotate_left
       ·(intro W hW;obtain⟨q0,q1,q2,q3⟩:=K0.out W hW;go_simp;try with_reducible rfl)
       try simp only[pA,pN,sA,sB]
       refine tkL 7 ?_ rfl ?_ hSS ?_
       rotate_left
       ·(intro W hW;obtain⟨q0,q1,q2,q3⟩:=K0.out W hW;go_simp;try with_reducible rfl)
       try simp only[pA,pN,sA,sB]
       refine tkL 8 ?_ rfl ?_ hSS ?_
       rotate_left
       ·(intro W hW;obtain⟨q0,q1,q2,q3⟩:=K0.out W hW;go_simp;try with_reducible rfl)
       try simp only[pA,pN,sA,sB]
       refine tkL 9 ?_ rfl ?_ hSS ?_
       rotate_left
       ·(intro W hW;obtain⟨q0,q1,q2,q3⟩:=K0.out W hW;go_simp;try with_reducible rfl)
       try simp only[pA,pN,sA,sB]
       refine tkL 10 ?_ rfl ?_ hSS ?_
       rotate_left
       ·(intro W hW;obtain⟨q0,q1,q2,q3⟩:=K0.out W hW;go_simp;try with_reducible rfl)
       try simp only[pA,pN,sA,sB]
       refine tkL 11 ?_ rfl ?_ hSS ?_
       rotate_left
       ·(intro W hW;obtain⟨q0,q1,q2,q3⟩:=K0.out W hW;go_simp;try with_reducible rfl)
       try simp only[pA,pN,sA,sB]
       refine tkL 12 ?_ rfl ?_ hSS ?_
       rotate_left
       ·(intro W hW;obtain⟨q0,q1,q2,q3⟩:=K0.out W hW;go_simp;try with_reducible rfl)
       try simp only[pA,pN,sA,sB]
       refine tkL 13 ?_ rfl ?_ hSS ?_
       rotate_left
       ·(intro W hW;obtain⟨q0,q1,q2,q3⟩:=K0.out W hW;go_simp;try with_reducible rfl)
       try simp only[pA,pN,sA,sB]
       refine tkL 14 ?_ rfl ?_ hSS ?_
       rotate_left
       ·(intro W hW;obtain⟨q0,q1,q2,q3⟩:=K0.out W hW;go_simp;try with_reducible rfl)
       try simp only[pA,pN,sA,sB]
       refine tkL 15 ?_ rfl ?_ hSS ?_
       rotate_left
       ·(intro W hW;obtain⟨q0,q1,q2,q3⟩:=K0.out W hW;go_simp;try with_reducible rfl)
       try simp only[pA,pN,sA,sB]
       refine tkL 16 ?_ rfl ?_ hSS ?_
       rotate_left
       ·(intro W hW;obtain⟨q0,q1,q2,q3⟩:=K0.out W hW;go_simp;try with_reducible rfl)
       try simp only[pA,pN,sA,sB]
       refine tkL 17 ?_ rfl ?_ hSS ?_
       rotate_left
       ·(intro W hW;obtain⟨q0,q1,q2,q3⟩:=K0.out W hW;go_simp;try with_reducible rfl)
       try simp only[pA,pN,sA,sB]
       refine tkL 18 ?_ rfl ?_ hSS ?_
       rotate_left
       ·(intro W hW;obtain⟨q0,q1,q2,q3⟩:=K0.out W hW;go_simp;try with_reducible rfl)
       try simp only[pA,pN,sA,sB]
       refine tkL 19 ?_ rfl ?_ hSS ?_
       rotate_left
       ·(intro W hW;obtain⟨q0,q1,q2,q3⟩:=K0.out W hW;go_simp;try with_reducible rfl)
       try simp only[pA,pN,sA,sB]
       refine anyL_run (i:=20) (v:=.slice (some ⟨w6.heap.size,0,none⟩) 4 4) (w':=w6.alloc (.cells #[.slice a1 d.probes.length c1,.slice a2 d.found.length c2,.slice a3 d.tog.length c3,.slice a4 d.apt.length c4] 26)) rfl zK (by rfl) (by go_simp) (.inr (by go_grown)) ?_
       try simp only[pA,pN,sA,sB]
       have hb7:Below w6.heap.size w6 (w6.alloc (.cells #[.slice a1 d.probes.length c1,.slice a2 d.found.length c2,.slice a3 d.tog.length c3,.slice a4 d.apt.length c4] 26)):=by go_grown
       have hrow:=row_four (Box.new w6 #[.slice a1 d.probes.length c1,.slice a2 d.found.length c2,.slice a3 d.tog.length c3,.slice a4 d.apt.length c4] 26)
       have HSH:=zh (short9_any (some ⟨w6.heap.size,0,none⟩) [(a1,d.probes.length,c1),(a2,d.found.length,c2),(a3,d.tog.length,c3),(a4,d.apt.length,c4)] 4 (by simp) (by have:=HDM.out;simp;omega) _ hrow)
       have HB7:=zh (HB6.out.trans (hb7.mono HB6.out.size))
       have HS7:=zh hb7
       clear hb7 hrow hSS
       generalize w6.alloc (.cells #[.slice a1 d.probes.length c1,.slice a2 d.found.length c2,.slice a3 d.tog.length c3,.slice a4 d.apt.length c4] 26)=w7 at *
       rcases hsh:shortB [(a1,d.probes.length,c1),(a2,d.found.length,c2),(a3,d.tog.length,c3),(a4,d.apt.length,c4)] with _|_
       ·rw[hsh] at HSH
        clear hsh
        refine anyL_call (i:=21) (f:=14) (args:=#[.slice (some ⟨w6.heap.size,0,none⟩) 4 4]) rfl zK (by rfl) (by go_simp) HSH.out ?_
        rintro e8 w8 ⟨rfl,rfl⟩
        refine .inl ⟨_,rfl,.inr HS7.out,?_⟩
        try simp only[pA,pN,sA,sB]
        have hSS:=HS7.out
        refine tkL 22 ?_ rfl ?_ hSS ?_
        rotate_left
        ·(intro W hW;obtain⟨q0,q1,q2,q3⟩:=K0.out W hW;go_simp;try with_reducible rfl)
        try simp only[pA,pN,sA,sB]
        refine anyL_done zK ?_ _
        clear hSS K0
        go_wp2_with fail
        go_ret
        exact⟨⟨false,rfl,fun h=>by cases h⟩,HB7.out⟩
       ·rw[hsh] at HSH
        have HOK:=zh (show OpnOk d by simpa[shortB,OpnOk] using hsh)
        clear hsh
        refine anyL_call (i:=21) (f:=14) (args:=#[.slice (some ⟨w6.heap.size,0,none⟩) 4 4]) rfl zK (by rfl) (by go_simp) HSH.out ?_
        rintro e8 w8 ⟨rfl,rfl⟩
        refine .inl ⟨_,rfl,.inr HS7.out,?_⟩
        try simp only[pA,pN,sA,sB]
        have hSS:=HS7.out
        refine tkL 22 ?_ rfl ?_ hSS ?_
        rotate_left
        ·(intro W hW;obtain⟨q0,q1,q2,q3⟩:=K0.out W hW;go_simp;try with_reducible rfl)
        try simp only[pA,pN,sA,sB]
        refine anyL_done zK ?_ _
        clear hSS K0
        go_wp2_with fail
        go_roundw
        case rel=>exact⟨k2+1,by omega,by omega,by go_num,zh (fun j y hj hy=>by
         rcases Nat.lt_or_ge j k2 with h|h
         ·exact HD.out j y h hy
         ·obtain rfl:j=k2:=by omega
          rw[HDK.out] at hy;cases hy
          exact HOK.out),HB7.out⟩
        case measure=>simp[intOf];omega
      ·have hk40n:¬(k2:Int)<40:=by omega
       have hd40:¬(D.length:Int)≤40:=by omega
       by_cases hv70:(V.length:Int)≤70
       ·go_wp2_with fail
        go_ret
        exact⟨⟨false,rfl,fun h=>by cases h⟩,HB.out⟩
       ·go_wp2_with fail
        go_ret
        exact⟨⟨false,rfl,fun h=>by cases h⟩,HB.out⟩
     ·have hkn2:¬(k2:Int)<(D.length:Int):=by omega
      by_cases hv70:(V.length:Int)≤70
      ·have hd40:(D.length:Int)≤40:=by omega
       go_wp2_with fail
       go_ret
       refine⟨⟨true,rfl,fun _=>⟨⟨by omega,HV70.out (by omega)⟩,by omega,fun d hd=>?_⟩⟩,HB.out⟩
       obtain⟨j,hj⟩:=List.mem_iff_getElem?.1 hd
       have:=(List.getElem?_eq_some_iff.1 hj).1
       exact HD.out j d (by omega) hj
      ·go_wp2_with fail
       go_ret
       exact⟨⟨false,rfl,fun h=>by cases h⟩,HB.out⟩
  ·have hkn:¬(k:Int)<(V.length:Int):=by omega
   have HV70:Hid (V.length≤70→∀v∈V,VerOk v):=zh (fun _ v hv=>by
    obtain⟨j,hj⟩:=List.mem_iff_getElem?.1 hv
    have:=(List.getElem?_eq_some_iff.1 hj).1
    exact HA.out j v (by omega) hj)
   go_wp2_with fail
   go_loopw [7] (fun i wr=>∃k:Nat,k≤D.length∧k≤40∧i = .int .i64 k∧Hid (∀(j:Nat) d,j<k→D[j]?=some d→OpnOk d)∧Below w.heap.size w wr) (fun i _=>D.length-(intOf i).toNat)
   case atStart=>exact⟨0,Nat.zero_le _,Nat.zero_le _,rfl,zh (fun j q hj=>absurd hj (Nat.not_lt_zero j)),Below.refl _ _⟩
   case round=>
    obtain⟨k2,hk2,hk240,rfl,HD,hb⟩:=hrel
    have HB:=zh hb
    clear hb
    by_cases hlt2:k2<D.length
    ·have hkn2:(k2:Int)<(D.length:Int):=by omega
     by_cases h40:k2<40
     ·have hk40n:(k2:Int)<40:=by omega
      obtain⟨d,hd⟩:=get_of_lt D hlt2
      go_upto_region 14 with fail
      have hbd:Below wr.heap.size wr wr.drew:=(Below.refl _ wr).drew
      have hb6:=HB.out.trans (hbd.mono HB.out.size)
      obtain⟨b,o,a1,c1,a2,c2,a3,c3,a4,c4,rfl,x1,x2,x3,x4,_⟩:=(HO.out.below hb6) k2 d hd
      have hdm:=HDD.out d (List.mem_of_getElem? hd)
      have HDK:=zh hd
      have HDM:=zh hdm
      have K0:Hid (∀A,Below wr.drew.heap.size wr.drew A→A.cell? ⟨b,o+k2*4,none⟩=some (.slice a1 d.probes.length c1)∧A.cell? ⟨b,o+k2*4+1,none⟩=some (.slice a2 d.found.length c2)∧A.cell? ⟨b,o+k2*4+2,none⟩=some (.slice a3 d.tog.length c3)∧A.cell? ⟨b,o+k2*4+3,none⟩=some (.slice a4 d.apt.length c4)):=zh fun A hA=>⟨below_cell hA x1,below_cell hA x2,below_cell hA x3,below_cell hA x4⟩
      refine wp_region_L (fun A=>Below wr.drew.heap.size wr.drew A) 23 zK ?_
      have hSS:Below wr.drew.heap.size wr.drew wr.drew:=Below.refl _ _
      have HB6:=zh hb6
      clear hd hdm hbd hb6 x1 x2 x3 x4
      generalize wr.drew=w6 at *
      refine tkL 0 ?_ rfl ?_ hSS ?_
      rotate_left
      ·(intro W hW;obtain⟨q0,q1,q2,q3⟩:=K0.out W hW;go_simp;try with_reducible rfl)
      try simp only[pA,pN,sA,sB]
      refine tkL 1 ?_ rfl ?_ hSS ?_
      rotate_left
      ·(intro W hW;obtain⟨q0,q1,q2,q3⟩:=K0.out W hW;go_simp;try with_reducible rfl)
      try simp only[pA,pN,sA,sB]
      refine tkL 2 ?_ rfl ?_ hSS ?_
      rotate_left
      ·(intro W hW;obtain⟨q0,q1,q2,q3⟩:=K0.out W hW;go_simp;try with_reducible rfl)
      try simp only[pA,pN,sA,sB]
      refine tkL 3 ?_ rfl ?_ hSS ?_
      rotate_left
      ·(intro W hW;obtain⟨q0,q1,q2,q3⟩:=K0.out W hW;go_simp;try with_reducible rfl)
      try simp only[pA,pN,sA,sB]
      refine tkL 4 ?_ rfl ?_ hSS ?_
      rotate_left
      ·(intro W hW;obtain⟨q0,q1,q2,q3⟩:=K0.out W hW;go_simp;try with_reducible rfl)
      try simp only[pA,pN,sA,sB]
      refine tkL 5 ?_ rfl ?_ hSS ?_
      rotate_left
      ·(intro W hW;obtain⟨q0,q1,q2,q3⟩:=K0.out W hW;go_simp;try with_reducible rfl)
      try simp only[pA,pN,sA,sB]
      refine tkL 6 ?_ rfl ?_ hSS ?_
      rotate_left
      ·(intro W hW;obtain⟨q0,q1,q2,q3⟩:=K0.out W hW;go_simp;try with_reducible rfl)
      try simp only[pA,pN,sA,sB]
      refine tkL 7 ?_ rfl ?_ hSS ?_
      rotate_left
      ·(intro W hW;obtain⟨q0,q1,q2,q3⟩:=K0.out W hW;go_simp;try with_reducible rfl)
      try simp only[pA,pN,sA,sB]
      refine tkL 8 ?_ rfl ?_ hSS ?_
      rotate_left
      ·(intro W hW;obtain⟨q0,q1,q2,q3⟩:=K0.out W hW;go_simp;try with_reducible rfl)
      try simp only[pA,pN,sA,sB]
      refine tkL 9 ?_ rfl ?_ hSS ?_
      rotate_left
      ·(intro W hW;obtain⟨q0,q1,q2,q3⟩:=K0.out W hW;go_simp;try with_reducible rfl)
      try simp only[pA,pN,sA,sB]
      refine tkL 10 ?_ rfl ?_ hSS ?_
      rotate_left
      ·(intro W hW;obtain⟨q0,q1,q2,q3⟩:=K0.out W hW;go_simp;try with_reducible rfl)
      try simp only[pA,pN,sA,sB]
      refine tkL 11 ?_ rfl ?_ hSS ?_
      rotate_left
      ·(intro W hW;obtain⟨q0,q1,q2,q3⟩:=K0.out W hW;go_simp;try with_reducible rfl)
      try simp only[pA,pN,sA,sB]
      refine tkL 12 ?_ rfl ?_ hSS ?_
      rotate_left
      ·(intro W hW;obtain⟨q0,q1,q2,q3⟩:=K0.out W hW;go_simp;try with_reducible rfl)
      try simp only[pA,pN,sA,sB]
      refine tkL 13 ?_ rfl ?_ hSS ?_
      rotate_left
      ·(intro W hW;obtain⟨q0,q1,q2,q3⟩:=K0.out W hW;go_simp;try with_reducible rfl)
      try simp only[pA,pN,sA,sB]
      refine tkL 14 ?_ rfl ?_ hSS ?_
      rotate_left
      ·(intro W hW;obtain⟨q0,q1,q2,q3⟩:=K0.out W hW;go_simp;try with_reducible rfl)
      try simp only[pA,pN,sA,sB]
      refine tkL 15 ?_ rfl ?_ hSS ?_
      rotate_left
      ·(intro W hW;obtain⟨q0,q1,q2,q3⟩:=K0.out W hW;go_simp;try with_reducible rfl)
      try simp only[pA,pN,sA,sB]
      refine tkL 16 ?_ rfl ?_ hSS ?_
      rotate_left
      ·(intro W hW;obtain⟨q0,q1,q2,q3⟩:=K0.out W hW;go_simp;try with_reducible rfl)
      try simp only[pA,pN,sA,sB]
      refine tkL 17 ?_ rfl ?_ hSS ?_
      rotate_left
      ·(intro W hW;obtain⟨q0,q1,q2,q3⟩:=K0.out W hW;go_simp;try with_reducible rfl)
      try simp only[pA,pN,sA,sB]
      refine tkL 18 ?_ rfl ?_ hSS ?_
      rotate_left
      ·(intro W hW;obtain⟨q0,q1,q2,q3⟩:=K0.out W hW;go_simp;try with_reducible rfl)
      try simp only[pA,pN,sA,sB]
      refine tkL 19 ?_ rfl ?_ hSS ?_
      rotate_left
      ·(intro W hW;obtain⟨q0,q1,q2,q3⟩:=K0.out W hW;go_simp;try with_reducible rfl)
      try simp only[pA,pN,sA,sB]
      refine anyL_run (i:=20) (v:=.slice (some ⟨w6.heap.size,0,none⟩) 4 4) (w':=w6.alloc (.cells #[.slice a1 d.probes.length c1,.slice a2 d.found.length c2,.slice a3 d.tog.length c3,.slice a4 d.apt.length c4] 26)) rfl zK (by rfl) (by go_simp) (.inr (by go_grown)) ?_
      try simp only[pA,pN,sA,sB]
      have hb7:Below w6.heap.size w6 (w6.alloc (.cells #[.slice a1 d.probes.length c1,.slice a2 d.found.length c2,.slice a3 d.tog.length c3,.slice a4 d.apt.length c4] 26)):=by go_grown
      have hrow:=row_four (Box.new w6 #[.slice a1 d.probes.length c1,.slice a2 d.found.length c2,.slice a3 d.tog.length c3,.slice a4 d.apt.length c4] 26)
      have HSH:=zh (short9_any (some ⟨w6.heap.size,0,none⟩) [(a1,d.probes.length,c1),(a2,d.found.length,c2),(a3,d.tog.length,c3),(a4,d.apt.length,c4)] 4 (by simp) (by have:=HDM.out;simp;omega) _ hrow)
      have HB7:=zh (HB6.out.trans (hb7.mono HB6.out.size))
      have HS7:=zh hb7
      clear hb7 hrow hSS
      generalize w6.alloc (.cells #[.slice a1 d.probes.length c1,.slice a2 d.found.length c2,.slice a3 d.tog.length c3,.slice a4 d.apt.length c4] 26)=w7 at *
      rcases hsh:shortB [(a1,d.probes.length,c1),(a2,d.found.length,c2),(a3,d.tog.length,c3),(a4,d.apt.length,c4)] with _|_
      ·rw[hsh] at HSH
       clear hsh
       refine anyL_call (i:=21) (f:=14) (args:=#[.slice (some ⟨w6.heap.size,0,none⟩) 4 4]) rfl zK (by rfl) (by go_simp) HSH.out ?_
       rintro e8 w8 ⟨rfl,rfl⟩
       refine .inl ⟨_,rfl,.inr HS7.out,?_⟩
       try simp only[pA,pN,sA,sB]
       have hSS:=HS7.out
       refine tkL 22 ?_ rfl ?_ hSS ?_
       rotate_left
       ·(intro W hW;obtain⟨q0,q1,q2,q3⟩:=K0.out W hW;go_simp;try with_reducible rfl)
       try simp only[pA,pN,sA,sB]
       refine anyL_done zK ?_ _
       clear hSS K0
       go_wp2_with fail
       go_ret
       exact⟨⟨false,rfl,fun h=>by cases h⟩,HB7.out⟩
      ·rw[hsh] at HSH
       have HOK:=zh (show OpnOk d by simpa[shortB,OpnOk] using hsh)
       clear hsh
       refine anyL_call (i:=21) (f:=14) (args:=#[.slice (some ⟨w6.heap.size,0,none⟩) 4 4]) rfl zK (by rfl) (by go_simp) HSH.out ?_
       rintro e8 w8 ⟨rfl,rfl⟩
       refine .inl ⟨_,rfl,.inr HS7.out,?_⟩
       try simp only[pA,pN,sA,sB]
       have hSS:=HS7.out
       refine tkL 22 ?_ rfl ?_ hSS ?_
       rotate_left
       ·(intro W hW;obtain⟨q0,q1,q2,q3⟩:=K0.out W hW;go_simp;try with_reducible rfl)
       try simp only[pA,pN,sA,sB]
       refine anyL_done zK ?_ _
       clear hSS K0
       go_wp2_with fail
       go_roundw
       case rel=>exact⟨k2+1,by omega,by omega,by go_num,zh (fun j y hj hy=>by
        rcases Nat.lt_or_ge j k2 with h|h
        ·exact HD.out j y h hy
        ·obtain rfl:j=k2:=by omega
         rw[HDK.out] at hy;cases hy
         exact HOK.out),HB7.out⟩
       case measure=>simp[intOf];omega
     ·have hk40n:¬(k2:Int)<40:=by omega
      have hd40:¬(D.length:Int)≤40:=by omega
      by_cases hv70:(V.length:Int)≤70
      ·go_wp2_with fail
       go_ret
       exact⟨⟨false,rfl,fun h=>by cases h⟩,HB.out⟩
      ·go_wp2_with fail
       go_ret
       exact⟨⟨false,rfl,fun h=>by cases h⟩,HB.out⟩
    ·have hkn2:¬(k2:Int)<(D.length:Int):=by omega
     by_cases hv70:(V.length:Int)≤70
     ·have hd40:(D.length:Int)≤40:=by omega
      go_wp2_with fail
      go_ret
      refine⟨⟨true,rfl,fun _=>⟨⟨by omega,HV70.out (by omega)⟩,by omega,fun d hd=>?_⟩⟩,HB.out⟩
      obtain⟨j,hj⟩:=List.mem_iff_getElem?.1 hd
      have:=(List.getElem?_eq_some_iff.1 hj).1
      exact HD.out j d (by omega) hj
     ·go_wp2_with fail
      go_ret
      exact⟨⟨false,rfl,fun h=>by cases h⟩,HB.out⟩
end Go.Proofs.YtjgldeeianionaaGreat
namespace Go.Proofs.YtjgldeeianionaaGreat
open Go.RowKit
section
variable {c:Cs}{l:List Prb}{w:World}{pa:Option Addr}{pc:Nat}{qa:Option Addr}{qc:Nat}
theorem tried_nil {oa:Option Addr}{D:List Opn}{oc:Nat}(hdl:D.length≤maxLen)(hdd:∀d∈D,d.probes.length≤maxLen∧d.found.length≤maxLen∧d.tog.length≤maxLen∧d.apt.length≤maxLen)(hD:OpnsAt w oa D):
 Calls Tryz.prog 38 #[.slice none 0 0,.slice oa D.length oc] w (TriedPost [] D w):=tried9_any none [] 0 (by simp) (by simp) oa D oc hdl hdd w (fun k v h=>by simp at h) hD
theorem proof_tup (hsm:c.Small)(a b:Int)(hp:PartsAt w pa c.parts)(hq:PrbsAt w qa l):
 Calls Tryz.prog 26 #[.agg #[.string c.ware,.int .i64 c.limit,.int .i64 c.by_,.slice pa c.parts.length pc],.slice qa l.length qc,.int .i64 a,.int .i64 b] w fun e w'=>
  ∃ra rn rc,e = .returned (.tuple #[.slice ra rn rc,.int .i64 (xErr c l (twoB c.parts.length a b))])∧(xErr c l (twoB c.parts.length a b)=0→rn=(proofOf c l a.toNat b.toNat).length∧OpnsAt w' ra (proofOf c l a.toNat b.toNat))∧(xErr c l (twoB c.parts.length a b)≠0→rn=0)∧Below w.heap.size w w':=
 (proofX_any c hsm pa pc l qa qc a b w hp hq).mono (by
  rintro e w' ⟨hb,v,er,rfl,(⟨h1,rfl,rfl⟩|⟨h1,rfl,x,k,rfl,h2,_⟩)⟩
  ·exact⟨none,0,0,rfl,fun h=>absurd h h1,fun _=>rfl,hb⟩
  ·rw[h1]
   exact⟨x,_,k,rfl,fun _=>⟨rfl,h2⟩,fun h=>absurd rfl h,hb⟩)
theorem checkProof_tup (hsm:c.Small)(a b n:Int)(oa:Option Addr)(D:List Opn)(oc:Nat)(hdl:D.length≤1000)(hds:∀d∈D,d.Small)(hp:PartsAt w pa c.parts)(hq:PrbsAt w qa l)(hv:OpnsAt w oa D):
 Calls Tryz.prog 41 #[.agg #[.string c.ware,.int .i64 c.limit,.int .i64 c.by_,.slice pa c.parts.length pc],.slice qa l.length qc,.int .i64 a,.int .i64 b,.int .i64 n,.slice oa D.length oc] w fun e w'=>
  e = .returned (.tuple #[.bool (xErr c l (twoB c.parts.length a b)==0&&checkProofB c l a.toNat b.toNat n D),.int .i64 (xErr c l (twoB c.parts.length a b))])∧Below w.heap.size w w':=
 (checkProofX_any c hsm pa pc l qa qc a b n oa D oc hdl hds w hp hq hv).mono fun e w' h=>⟨h.bool.2,h.bool.1⟩
end
theorem OpnOk.small {d:Opn}(h:OpnOk d):d.Small:=⟨by have:=h.1;omega,by have:=h.2.1;omega,by have:=h.2.2.1;omega,by have:=h.2.2.2;omega⟩
theorem doubted_small {c:Cs}{l:List Prb}{a b:Nat}{d:Opn}(hp:probesErr c l=0)(h:doubtedB c l a b d=true):d.Small:=by
 unfold doubtedB at h
 simp only[Bool.and_eq_true] at h
 obtain⟨h1,h2⟩:=h
 have hl5:=(probes_ok hp).2.1
 simp only[foundB,Bool.and_eq_true,decide_eq_true_eq] at h1
 have h3:=set_len h1.1.1
 split at h2
 ·cases h2
 ·rename_i e he
  simp only[Bool.and_eq_true] at h2
  obtain⟨⟨⟨k1,k2⟩,_⟩,_⟩:=h2
  have ok:=after_ok hp he
  have h8:=(check_okCase ok.chk).1
  obtain⟨x,hx,ex⟩:=fitsB_iff.1 k1
  obtain⟨y,hy,ey⟩:=fitsB_iff.1 k2
  have hxl:=hx.len
  have hyl:=hy.len
  have e1:d.tog.length=x.length:=by rw[←ex,nat_len]
  have e2:d.apt.length=y.length:=by rw[←ey,nat_len]
  exact⟨by omega,by omega,by omega,by omega⟩
theorem proofOf_small {c:Cs}{l:List Prb}{a b:Nat}(hp:probesErr c l=0)(ha:a<c.parts.length)(hb:b<c.parts.length):(proofOf c l a b).length≤1000∧∀d∈proofOf c l a b,d.Small:=by
 refine⟨?_,fun d hd=>?_⟩
 ·have h1:=proofAll_len (c:=c) (a:=a) (b:=b) (probes_ok hp).2.1
  have h2:(proofSets c l a b).length≤(proofAll c l a b).length:=List.length_filter_le _ _
  simp only[proofOf,List.length_map]
  omega
 ·simp only[proofOf,List.mem_map] at hd
  obtain⟨s,hs,rfl⟩:=hd
  rw[proofSets_eq] at hs
  obtain⟨h1,h2⟩:=proofAll_open (List.mem_filter.1 hs).1
  exact doubted_small hp (dbt_good hp ha hb h1 h2).2
theorem planCost_some {c:Cs}{l:List Prb}{a b:Nat}{s:List Nat}(h:cheapestOf c l a b=some s):planCost c l a b=costOf l s:=by unfold planCost;rw[h]
theorem planCost_none {c:Cs}{l:List Prb}{a b:Nat}(h:cheapestOf c l a b=none):planCost c l a b=5001:=by unfold planCost;rw[h]
end Go.Proofs.YtjgldeeianionaaGreat
