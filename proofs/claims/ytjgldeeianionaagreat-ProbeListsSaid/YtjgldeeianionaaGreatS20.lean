/- The walks and plain laws of: MTry MQR2. No condition. -/
import Derived.Test.YtjgldeeianionaaGreatS01
import Derived.Test.YtjgldeeianionaaGreatS08
import Derived.Test.YtjgldeeianionaaGreatS12
import Derived.Test.YtjgldeeianionaaGreatS14
import Derived.Test.YtjgldeeianionaaGreatS17
set_option maxHeartbeats 2000000
set_option maxRecDepth 100000
set_option linter.unusedSimpArgs false
set_option linter.unusedVariables false
namespace Go.Proofs.YtjgldeeianionaaGreat
open Go.RowKit
def bnd:Nat→Nat→Nat
 |0,_=>1
 |r+1,m=>m*(1+bnd r m)+bnd r (m+1)
theorem bnd_mono:∀(r m m':Nat),m≤m'→bnd r m≤bnd r m'
 |0,_,_,_=>Nat.le_refl _
 |r+1,m,m',h=>Nat.add_le_add (Nat.mul_le_mul h (Nat.add_le_add_left (bnd_mono r m m' h) 1)) (bnd_mono r _ _ (by omega))
theorem bnd_eight:bnd 8 0≤8279:=by decide
theorem bnd_less:∀(r m:Nat),bnd r m≤bnd (r+1) m:=fun r m=>by
 show bnd r m≤m*(1+bnd r m)+bnd r (m+1)
 exact Nat.le_trans (bnd_mono r m (m+1) (by omega)) (Nat.le_add_left _ _)
theorem bnd_le {r r' m:Nat}(h:r≤r'):bnd r m≤bnd r' m:=by
 obtain⟨d,rfl⟩:=Nat.exists_eq_add_of_le h
 induction d with
 |zero=>exact Nat.le_refl _
 |succ d ih=>exact Nat.le_trans (ih (by omega)) (bnd_less _ _)
end Go.Proofs.YtjgldeeianionaaGreat
namespace Go.Proofs.YtjgldeeianionaaGreat
open Go.RowKit
attribute [local go_sem] Oper.semAt_some
theorem ints_keep {K:Nat→Prop}{A C:World}{a:Option Addr}{x:List Int}(h:Ints A a x)(hk:Keep K A C)(hK:∀b o,a=some ⟨b,o,none⟩→0<x.length→K b):Ints C a x:=fun k u hu=>by
 obtain⟨b,o,ha,hc⟩:=h k u hu
 have hl:0<x.length:=by have:=(List.getElem?_eq_some_iff.1 hu).1;simp at this;omega
 exact⟨b,o,ha,hk.cell (hK b o ha hl) hc⟩
theorem ints_lt {W:World}{a:Option Addr}{l:List Int}(h:Ints W a l){b o:Nat}(ha:a=some ⟨b,o,none⟩)(hl:0<l.length):b<W.heap.size:=by
 obtain⟨b',o',_,ha',_,hc⟩:=h.at_ hl
 rw[ha] at ha';cases ha'
 exact lt_of_cell hc
section
variable {c:Cs}{pa:Option Addr}{pc bb N:Nat}{oa:Option Addr}{oc:Nat}{order:List Nat}{w0:World}{l:List Br}{W W':World}
end
end Go.Proofs.YtjgldeeianionaaGreat
namespace Go.Proofs.YtjgldeeianionaaGreat
open Go.RowKit
attribute [local go_sem] Oper.semAt_some
theorem natInts_len (l:List Nat):(natInts l).length=l.length:=by simp[natInts]
theorem natInts_snoc (l:List Nat)(x:Nat):natInts (l++[x])=natInts l++[(x:Int)]:=by simp[natInts]
theorem row_one {w:World}{g:Nat}{x:Int}{t:TypeId}(h:Box w g #[.int .i64 x] t):Row w (some ⟨g,0,none⟩) [.int .i64 x]:=fun k u hu=>⟨g,0,rfl,by rw[h.cell,Nat.zero_add];simpa using hu⟩
end Go.Proofs.YtjgldeeianionaaGreat
namespace Go.Proofs.YtjgldeeianionaaGreat
open Go.RowKit
attribute [local go_sem] Oper.semAt_some
theorem isSetR9_any (qa:Option Addr)(m qc:Nat)(hm:m≤1000000)(sa:Option Addr)(S:List Int)(sc:Nat)(w:World)(hS:Ints w sa S)(hsl:S.length≤1000000):
 Calls Tryz.prog 92 #[.slice qa m qc,.slice sa S.length sc] w fun e w'=>e = .returned (.bool (setB m S))∧Below w.heap.size w w':=by
 have HS:=zh hS
 clear hS
 go_enter Tryz.func92,Tryz.ntmps92
 go_wp2_with fail
 go_loopw [5] (fun iv wr=>∃k:Nat,k≤S.length∧iv = .int .i64 k∧Below w.heap.size w wr∧∀j,j<k→setAt m S j=true) (fun iv _=>S.length-(intOf iv).toNat)
 case atStart=>exact⟨0,Nat.zero_le _,rfl,Below.refl _ _,fun j hj=>by omega⟩
 case round=>
  obtain⟨k,hk,rfl,hb,hall⟩:=hrel
  have HB:=zh hb
  have HA:=zh hall
  clear hall
  by_cases hlt:k<S.length
  ·obtain⟨x,hx⟩:=get_of_lt S hlt
   have hkn:(k:Int)<(S.length:Int):=by omega
   have HX:=zh hx
   clear hx
   go_upto_region 4 with fail
   refine wp_region_L (fun A=>Below wr.drew.heap.size wr.drew A) 25 zK ?_
   have hbd:Below wr.heap.size wr wr.drew:=(Below.refl _ wr).drew
   have hSS:Below wr.drew.heap.size wr.drew wr.drew:=Below.refl _ _
   have HI:=zh (HS.out.below (hb.trans (hbd.mono hb.size)))
   have HB6:=zh (HB.out.trans (hbd.mono HB.out.size))
   clear hbd hb
   generalize wr.drew=w6 at *
   obtain⟨b,o,rfl,hbase⟩:=HI.out.base (by omega)
   have c1:=hbase _ _ HX.out
   have hmw:IntKind.i64.wrap ((m:Int)-1)=(m:Int)-1:=IntWalk.i64_in _ (by omega)
   rcases k with _|j
   ·have K0:Hid (∀A,Below w6.heap.size w6 A→A.cell? ⟨b,o,none⟩=some (.int .i64 x)):=zh fun A hA=>below_cell hA (by simpa using c1)
    refine tkL 0 ?_ rfl ?_ hSS ?_
    rotate_left
    ·(intro W hW;have q0:=K0.out W hW;go_simp;try with_reducible rfl)
    try simp only[pA,pN,sA,sB]
    refine tkL 1 ?_ rfl ?_ hSS ?_
    rotate_left
    ·(intro W hW;have q0:=K0.out W hW;go_simp;try with_reducible rfl)
    try simp only[pA,pN,sA,sB]
    refine tkL 2 ?_ rfl ?_ hSS ?_
    rotate_left
    ·(intro W hW;have q0:=K0.out W hW;go_simp;try with_reducible rfl)
    try simp only[pA,pN,sA,sB]
    refine tkL 3 ?_ rfl ?_ hSS ?_
    rotate_left
    ·(intro W hW;have q0:=K0.out W hW;go_simp;try with_reducible rfl)
    try simp only[pA,pN,sA,sB]
    refine tkL 4 ?_ rfl ?_ hSS ?_
    rotate_left
    ·(intro W hW;have q0:=K0.out W hW;go_simp;try with_reducible rfl)
    try simp only[pA,pN,sA,sB]
    refine tkL 5 ?_ rfl ?_ hSS ?_
    rotate_left
    ·(intro W hW;have q0:=K0.out W hW;go_simp;try with_reducible rfl)
    try simp only[pA,pN,sA,sB]
    refine tkL 6 ?_ rfl ?_ hSS ?_
    rotate_left
    ·(intro W hW;have q0:=K0.out W hW;go_simp;try with_reducible rfl)
    try simp only[pA,pN,sA,sB]
    refine anyL_call (i:=7) (f:=109) (args:=#[.int .i64 x,.int .i64 0,.int .i64 ((m:Int)-1)]) rfl zK (by rfl) (by go_simp) (withinR9_any x 0 ((m:Int)-1) w6) ?_
    rintro e w7 ⟨rfl,rfl⟩
    refine .inl ⟨_,rfl,.inr hSS,?_⟩
    try simp only[pA,pN,sA,sB]
    rcases hin:inB x 0 ((m:Int)-1) with _|_
    ·have HNO:=zh (show setB m S=false from upto_false hlt (by rw[setAt_zero HX.out,hin]))
     clear hin
     refine tkL 8 ?_ rfl ?_ hSS ?_
     rotate_left
     ·(intro W hW;have q0:=K0.out W hW;go_simp;try with_reducible rfl)
     try simp only[pA,pN,sA,sB]
     refine tkL 9 ?_ rfl ?_ hSS ?_
     rotate_left
     ·(intro W hW;have q0:=K0.out W hW;go_simp;try with_reducible rfl)
     try simp only[pA,pN,sA,sB]
     refine tkN 10 rfl hSS ?_
     try simp only[pA,pN,sA,sB]
     refine tkN 11 rfl hSS ?_
     try simp only[pA,pN,sA,sB]
     refine tkN 12 rfl hSS ?_
     try simp only[pA,pN,sA,sB]
     refine tkN 13 rfl hSS ?_
     try simp only[pA,pN,sA,sB]
     refine tkN 14 rfl hSS ?_
     try simp only[pA,pN,sA,sB]
     refine tkN 15 rfl hSS ?_
     try simp only[pA,pN,sA,sB]
     refine tkN 16 rfl hSS ?_
     try simp only[pA,pN,sA,sB]
     refine tkN 17 rfl hSS ?_
     try simp only[pA,pN,sA,sB]
     refine tkN 18 rfl hSS ?_
     try simp only[pA,pN,sA,sB]
     refine tkN 19 rfl hSS ?_
     try simp only[pA,pN,sA,sB]
     refine tkN 20 rfl hSS ?_
     try simp only[pA,pN,sA,sB]
     refine tkN 21 rfl hSS ?_
     try simp only[pA,pN,sA,sB]
     refine tkN 22 rfl hSS ?_
     try simp only[pA,pN,sA,sB]
     refine tkN 23 rfl hSS ?_
     try simp only[pA,pN,sA,sB]
     refine tkL 24 ?_ rfl ?_ hSS ?_
     rotate_left
     ·(intro W hW;have q0:=K0.out W hW;go_simp;try with_reducible rfl)
     try simp only[pA,pN,sA,sB]
     refine anyL_done zK ?_ _
     clear hSS K0 hbase c1
     go_wp2_with fail
     go_ret
     refine⟨?_,HB6.out⟩
     rw[HNO.out];rfl
    ·have HYES:=zh (show setAt m S 0=true by rw[setAt_zero HX.out,hin])
     clear hin
     refine tkL 8 ?_ rfl ?_ hSS ?_
     rotate_left
     ·(intro W hW;have q0:=K0.out W hW;go_simp;try with_reducible rfl)
     try simp only[pA,pN,sA,sB]
     refine tkL 9 ?_ rfl ?_ hSS ?_
     rotate_left
     ·(intro W hW;have q0:=K0.out W hW;go_simp;try with_reducible rfl)
     try simp only[pA,pN,sA,sB]
     refine tkL 10 ?_ rfl ?_ hSS ?_
     rotate_left
     ·(intro W hW;have q0:=K0.out W hW;go_simp;try with_reducible rfl)
     try simp only[pA,pN,sA,sB]
     refine tkL 11 ?_ rfl ?_ hSS ?_
     rotate_left
     ·(intro W hW;have q0:=K0.out W hW;go_simp;try with_reducible rfl)
     try simp only[pA,pN,sA,sB]
     refine tkL 12 ?_ rfl ?_ hSS ?_
     rotate_left
     ·(intro W hW;have q0:=K0.out W hW;go_simp;try with_reducible rfl)
     try simp only[pA,pN,sA,sB]
     refine tkN 13 rfl hSS ?_
     try simp only[pA,pN,sA,sB]
     refine tkN 14 rfl hSS ?_
     try simp only[pA,pN,sA,sB]
     refine tkN 15 rfl hSS ?_
     try simp only[pA,pN,sA,sB]
     refine tkN 16 rfl hSS ?_
     try simp only[pA,pN,sA,sB]
     refine tkN 17 rfl hSS ?_
     try simp only[pA,pN,sA,sB]
     refine tkN 18 rfl hSS ?_
     try simp only[pA,pN,sA,sB]
     refine tkN 19 rfl hSS ?_
     try simp only[pA,pN,sA,sB]
     refine tkN 20 rfl hSS ?_
     try simp only[pA,pN,sA,sB]
     refine tkN 21 rfl hSS ?_
     try simp only[pA,pN,sA,sB]
     refine tkN 22 rfl hSS ?_
     try simp only[pA,pN,sA,sB]
     refine tkL 23 ?_ rfl ?_ hSS ?_
     rotate_left
     ·(intro W hW;have q0:=K0.out W hW;go_simp;try with_reducible rfl)
     try simp only[pA,pN,sA,sB]
     refine tkL 24 ?_ rfl ?_ hSS ?_
     rotate_left
     ·(intro W hW;have q0:=K0.out W hW;go_simp;try with_reducible rfl)
     try simp only[pA,pN,sA,sB]
     refine anyL_done zK ?_ _
     clear hSS K0 hbase c1
     go_wp2_with fail
     go_roundw
     case rel=>exact⟨_,hlt,by go_num,HB6.out,all_step HA.out HYES.out⟩
     case measure=>simp[intOf];omega
   ·obtain⟨y,hy⟩:=get_of_lt S (k:=j) (by omega)
    have c2:=hbase _ _ hy
    have HY:=zh hy
    have hjn:(j:Int)<(S.length:Int):=by omega
    have hjw:IntKind.i64.wrap (j:Int)=(j:Int):=IntWalk.i64_in _ (by omega)
    have h01:(0:Int)≤(j:Int)+1:=by omega
    have hj1:(j:Int)+1<(S.length:Int):=by omega
    have K0:Hid (∀A,Below w6.heap.size w6 A→A.cell? ⟨b,o+(j+1),none⟩=some (.int .i64 x)∧A.cell? ⟨b,o+j,none⟩=some (.int .i64 y)):=zh fun A hA=>⟨below_cell hA c1,below_cell hA c2⟩
    clear hy c2
    refine tkL 0 ?_ rfl ?_ hSS ?_
    rotate_left
    ·(intro W hW;obtain⟨q0,q1⟩:=K0.out W hW;go_simp;try with_reducible rfl)
    try simp only[pA,pN,sA,sB]
    refine tkL 1 ?_ rfl ?_ hSS ?_
    rotate_left
    ·(intro W hW;obtain⟨q0,q1⟩:=K0.out W hW;go_simp;try with_reducible rfl)
    try simp only[pA,pN,sA,sB]
    refine tkL 2 ?_ rfl ?_ hSS ?_
    rotate_left
    ·(intro W hW;obtain⟨q0,q1⟩:=K0.out W hW;go_simp;try with_reducible rfl)
    try simp only[pA,pN,sA,sB]
    refine tkL 3 ?_ rfl ?_ hSS ?_
    rotate_left
    ·(intro W hW;obtain⟨q0,q1⟩:=K0.out W hW;go_simp;try with_reducible rfl)
    try simp only[pA,pN,sA,sB]
    refine tkL 4 ?_ rfl ?_ hSS ?_
    rotate_left
    ·(intro W hW;obtain⟨q0,q1⟩:=K0.out W hW;go_simp;try with_reducible rfl)
    try simp only[pA,pN,sA,sB]
    refine tkL 5 ?_ rfl ?_ hSS ?_
    rotate_left
    ·(intro W hW;obtain⟨q0,q1⟩:=K0.out W hW;go_simp;try with_reducible rfl)
    try simp only[pA,pN,sA,sB]
    refine tkL 6 ?_ rfl ?_ hSS ?_
    rotate_left
    ·(intro W hW;obtain⟨q0,q1⟩:=K0.out W hW;go_simp;try with_reducible rfl)
    try simp only[pA,pN,sA,sB]
    refine anyL_call (i:=7) (f:=109) (args:=#[.int .i64 x,.int .i64 0,.int .i64 ((m:Int)-1)]) rfl zK (by rfl) (by go_simp) (withinR9_any x 0 ((m:Int)-1) w6) ?_
    rintro e w7 ⟨rfl,rfl⟩
    refine .inl ⟨_,rfl,.inr hSS,?_⟩
    try simp only[pA,pN,sA,sB]
    rcases hin:inB x 0 ((m:Int)-1) with _|_
    ·have HNO:=zh (show setB m S=false from upto_false hlt (by rw[setAt_succ HX.out HY.out,hin];rfl))
     clear hin
     refine tkL 8 ?_ rfl ?_ hSS ?_
     rotate_left
     ·(intro W hW;obtain⟨q0,q1⟩:=K0.out W hW;go_simp;try with_reducible rfl)
     try simp only[pA,pN,sA,sB]
     refine tkL 9 ?_ rfl ?_ hSS ?_
     rotate_left
     ·(intro W hW;obtain⟨q0,q1⟩:=K0.out W hW;go_simp;try with_reducible rfl)
     try simp only[pA,pN,sA,sB]
     refine tkN 10 rfl hSS ?_
     try simp only[pA,pN,sA,sB]
     refine tkN 11 rfl hSS ?_
     try simp only[pA,pN,sA,sB]
     refine tkN 12 rfl hSS ?_
     try simp only[pA,pN,sA,sB]
     refine tkN 13 rfl hSS ?_
     try simp only[pA,pN,sA,sB]
     refine tkN 14 rfl hSS ?_
     try simp only[pA,pN,sA,sB]
     refine tkN 15 rfl hSS ?_
     try simp only[pA,pN,sA,sB]
     refine tkN 16 rfl hSS ?_
     try simp only[pA,pN,sA,sB]
     refine tkN 17 rfl hSS ?_
     try simp only[pA,pN,sA,sB]
     refine tkN 18 rfl hSS ?_
     try simp only[pA,pN,sA,sB]
     refine tkN 19 rfl hSS ?_
     try simp only[pA,pN,sA,sB]
     refine tkN 20 rfl hSS ?_
     try simp only[pA,pN,sA,sB]
     refine tkN 21 rfl hSS ?_
     try simp only[pA,pN,sA,sB]
     refine tkN 22 rfl hSS ?_
     try simp only[pA,pN,sA,sB]
     refine tkN 23 rfl hSS ?_
     try simp only[pA,pN,sA,sB]
     refine tkL 24 ?_ rfl ?_ hSS ?_
     rotate_left
     ·(intro W hW;obtain⟨q0,q1⟩:=K0.out W hW;go_simp;try with_reducible rfl)
     try simp only[pA,pN,sA,sB]
     refine anyL_done zK ?_ _
     clear hSS K0 hbase c1
     go_wp2_with fail
     go_ret
     refine⟨?_,HB6.out⟩
     rw[HNO.out];rfl
    ·by_cases hyx:y<x
     ·have HYES:=zh (show setAt m S (j+1)=true by rw[setAt_succ HX.out HY.out,hin];simpa using hyx)
      have hnx:¬x≤y:=by omega
      clear hin
      refine tkL 8 ?_ rfl ?_ hSS ?_
      rotate_left
      ·(intro W hW;obtain⟨q0,q1⟩:=K0.out W hW;go_simp;try with_reducible rfl)
      try simp only[pA,pN,sA,sB]
      refine tkL 9 ?_ rfl ?_ hSS ?_
      rotate_left
      ·(intro W hW;obtain⟨q0,q1⟩:=K0.out W hW;go_simp;try with_reducible rfl)
      try simp only[pA,pN,sA,sB]
      refine tkL 10 ?_ rfl ?_ hSS ?_
      rotate_left
      ·(intro W hW;obtain⟨q0,q1⟩:=K0.out W hW;go_simp;try with_reducible rfl)
      try simp only[pA,pN,sA,sB]
      refine tkL 11 ?_ rfl ?_ hSS ?_
      rotate_left
      ·(intro W hW;obtain⟨q0,q1⟩:=K0.out W hW;go_simp;try with_reducible rfl)
      try simp only[pA,pN,sA,sB]
      refine tkL 12 ?_ rfl ?_ hSS ?_
      rotate_left
      ·(intro W hW;obtain⟨q0,q1⟩:=K0.out W hW;go_simp;try with_reducible rfl)
      try simp only[pA,pN,sA,sB]
      refine tkL 13 ?_ rfl ?_ hSS ?_
      rotate_left
      ·(intro W hW;obtain⟨q0,q1⟩:=K0.out W hW;go_simp;try with_reducible rfl)
      try simp only[pA,pN,sA,sB]
      refine tkL 14 ?_ rfl ?_ hSS ?_
      rotate_left
      ·(intro W hW;obtain⟨q0,q1⟩:=K0.out W hW;go_simp;try with_reducible rfl)
      try simp only[pA,pN,sA,sB]
      refine tkL 15 ?_ rfl ?_ hSS ?_
      rotate_left
      ·(intro W hW;obtain⟨q0,q1⟩:=K0.out W hW;go_simp;try with_reducible rfl)
      try simp only[pA,pN,sA,sB]
      refine tkL 16 ?_ rfl ?_ hSS ?_
      rotate_left
      ·(intro W hW;obtain⟨q0,q1⟩:=K0.out W hW;go_simp;try with_reducible rfl)
      try simp only[pA,pN,sA,sB]
      refine tkL 17 ?_ rfl ?_ hSS ?_
      rotate_left
      ·(intro W hW;obtain⟨q0,q1⟩:=K0.out W hW;go_simp;try with_reducible rfl)
      try simp only[pA,pN,sA,sB]
      refine tkL 18 ?_ rfl ?_ hSS ?_
      rotate_left
      ·(intro W hW;obtain⟨q0,q1⟩:=K0.out W hW;go_simp;try with_reducible rfl)
      try simp only[pA,pN,sA,sB]
      refine tkL 19 ?_ rfl ?_ hSS ?_
      rotate_left
      ·(intro W hW;obtain⟨q0,q1⟩:=K0.out W hW;go_simp;try with_reducible rfl)
      try simp only[pA,pN,sA,sB]
      refine tkL 20 ?_ rfl ?_ hSS ?_
      rotate_left
      ·(intro W hW;obtain⟨q0,q1⟩:=K0.out W hW;go_simp;try with_reducible rfl)
      try simp only[pA,pN,sA,sB]
      refine tkL 21 ?_ rfl ?_ hSS ?_
      rotate_left
      ·(intro W hW;obtain⟨q0,q1⟩:=K0.out W hW;go_simp;try with_reducible rfl)
      try simp only[pA,pN,sA,sB]
      refine tkL 22 ?_ rfl ?_ hSS ?_
      rotate_left
      ·(intro W hW;obtain⟨q0,q1⟩:=K0.out W hW;go_simp;try with_reducible rfl)
      try simp only[pA,pN,sA,sB]
      refine tkL 23 ?_ rfl ?_ hSS ?_
      rotate_left
      ·(intro W hW;obtain⟨q0,q1⟩:=K0.out W hW;go_simp;try with_reducible rfl)
      try simp only[pA,pN,sA,sB]
      refine tkL 24 ?_ rfl ?_ hSS ?_
      rotate_left
      ·(intro W hW;obtain⟨q0,q1⟩:=K0.out W hW;go_simp;try with_reducible rfl)
      try simp only[pA,pN,sA,sB]
      refine anyL_done zK ?_ _
      clear hSS K0 hbase c1
      go_wp2_with fail
      go_roundw
      case rel=>exact⟨_,hlt,by go_num,HB6.out,all_step HA.out HYES.out⟩
      case measure=>simp[intOf];omega
     ·have HNO:=zh (show setB m S=false from upto_false hlt (by rw[setAt_succ HX.out HY.out,hin];simpa using hyx))
      have hnx:x≤y:=by omega
      clear hin
      refine tkL 8 ?_ rfl ?_ hSS ?_
      rotate_left
      ·(intro W hW;obtain⟨q0,q1⟩:=K0.out W hW;go_simp;try with_reducible rfl)
      try simp only[pA,pN,sA,sB]
      refine tkL 9 ?_ rfl ?_ hSS ?_
      rotate_left
      ·(intro W hW;obtain⟨q0,q1⟩:=K0.out W hW;go_simp;try with_reducible rfl)
      try simp only[pA,pN,sA,sB]
      refine tkL 10 ?_ rfl ?_ hSS ?_
      rotate_left
      ·(intro W hW;obtain⟨q0,q1⟩:=K0.out W hW;go_simp;try with_reducible rfl)
      try simp only[pA,pN,sA,sB]
      refine tkL 11 ?_ rfl ?_ hSS ?_
      rotate_left
      ·(intro W hW;obtain⟨q0,q1⟩:=K0.out W hW;go_simp;try with_reducible rfl)
      try simp only[pA,pN,sA,sB]
      refine tkL 12 ?_ rfl ?_ hSS ?_
      rotate_left
      ·(intro W hW;obtain⟨q0,q1⟩:=K0.out W hW;go_simp;try with_reducible rfl)
      try simp only[pA,pN,sA,sB]
      refine tkL 13 ?_ rfl ?_ hSS ?_
      rotate_left
      ·(intro W hW;obtain⟨q0,q1⟩:=K0.out W hW;go_simp;try with_reducible rfl)
      try simp only[pA,pN,sA,sB]
      refine tkL 14 ?_ rfl ?_ hSS ?_
      rotate_left
      ·(intro W hW;obtain⟨q0,q1⟩:=K0.out W hW;go_simp;try with_reducible rfl)
      try simp only[pA,pN,sA,sB]
      refine tkL 15 ?_ rfl ?_ hSS ?_
      rotate_left
      ·(intro W hW;obtain⟨q0,q1⟩:=K0.out W hW;go_simp;try with_reducible rfl)
      try simp only[pA,pN,sA,sB]
      refine tkL 16 ?_ rfl ?_ hSS ?_
      rotate_left
      ·(intro W hW;obtain⟨q0,q1⟩:=K0.out W hW;go_simp;try with_reducible rfl)
      try simp only[pA,pN,sA,sB]
      refine tkL 17 ?_ rfl ?_ hSS ?_
      rotate_left
      ·(intro W hW;obtain⟨q0,q1⟩:=K0.out W hW;go_simp;try with_reducible rfl)
      try simp only[pA,pN,sA,sB]
      refine tkL 18 ?_ rfl ?_ hSS ?_
      rotate_left
      ·(intro W hW;obtain⟨q0,q1⟩:=K0.out W hW;go_simp;try with_reducible rfl)
      try simp only[pA,pN,sA,sB]
      refine tkL 19 ?_ rfl ?_ hSS ?_
      rotate_left
      ·(intro W hW;obtain⟨q0,q1⟩:=K0.out W hW;go_simp;try with_reducible rfl)
      try simp only[pA,pN,sA,sB]
      refine tkL 20 ?_ rfl ?_ hSS ?_
      rotate_left
      ·(intro W hW;obtain⟨q0,q1⟩:=K0.out W hW;go_simp;try with_reducible rfl)
      try simp only[pA,pN,sA,sB]
      refine tkL 21 ?_ rfl ?_ hSS ?_
      rotate_left
      ·(intro W hW;obtain⟨q0,q1⟩:=K0.out W hW;go_simp;try with_reducible rfl)
      try simp only[pA,pN,sA,sB]
      refine tkL 22 ?_ rfl ?_ hSS ?_
      rotate_left
      ·(intro W hW;obtain⟨q0,q1⟩:=K0.out W hW;go_simp;try with_reducible rfl)
      try simp only[pA,pN,sA,sB]
      refine tkL 23 ?_ rfl ?_ hSS ?_
      rotate_left
      ·(intro W hW;obtain⟨q0,q1⟩:=K0.out W hW;go_simp;try with_reducible rfl)
      try simp only[pA,pN,sA,sB]
      refine tkL 24 ?_ rfl ?_ hSS ?_
      rotate_left
      ·(intro W hW;obtain⟨q0,q1⟩:=K0.out W hW;go_simp;try with_reducible rfl)
      try simp only[pA,pN,sA,sB]
      refine anyL_done zK ?_ _
      clear hSS K0 hbase c1
      go_wp2_with fail
      go_ret
      refine⟨?_,HB6.out⟩
      rw[HNO.out];rfl
  ·go_wp2_with fail
   go_ret
   refine⟨?_,HB.out⟩
   have:setB m S=true:=upto_iff.2 fun j hj=>HA.out j (by omega)
   rw[this];rfl
end Go.Proofs.YtjgldeeianionaaGreat
