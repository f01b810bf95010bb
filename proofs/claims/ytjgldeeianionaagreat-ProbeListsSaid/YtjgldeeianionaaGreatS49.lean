/- The walks and plain laws of: MQR10 MQR11 MQR14 MQLawT. No condition. -/
import Derived.ArgAppend
import Derived.Test.YtjgldeeianionaaGreatS14
import Derived.Test.YtjgldeeianionaaGreatS17
import Derived.Test.YtjgldeeianionaaGreatS21
import Derived.Test.YtjgldeeianionaaGreatS22
import Derived.Test.YtjgldeeianionaaGreatS37
import Derived.Test.YtjgldeeianionaaGreatS39
import Derived.Test.YtjgldeeianionaaGreatS44
import Derived.Test.YtjgldeeianionaaGreatS01
set_option maxHeartbeats 4000000
set_option maxRecDepth 100000
set_option linter.unusedSimpArgs false
set_option linter.unusedVariables false
namespace Go.Proofs.YtjgldeeianionaaGreat
open Go.RowKit
attribute [local go_sem] Oper.semAt_some
theorem natInts_iff {x y:List Nat}:natInts x=natInts y↔x=y:=by
 constructor
 ·intro h
  have:=congrArg (List.map Int.toNat) h
  simpa[natInts,Function.comp_def] using this
 ·rintro rfl;rfl
theorem sameListsR9_any (a b:Option Addr)(ca cb:Nat)(L M:List (List Nat))(w:World)(hA:RowsAt w a L)(hB:RowsAt w b M)(hl:L.length≤100000)(hx:∀x∈L,x.length≤1000000)(hy:∀x∈M,x.length≤1000000):
 Calls Tryz.prog 53 #[.slice a L.length ca,.slice b M.length cb] w fun e w'=>e = .returned (.bool (decide (L=M)))∧Below w.heap.size w w':=by
 by_cases hlen:L.length=M.length
 ·have hlb:((L.length:Int) != (M.length:Int))=false:=by simp;omega
  have HL:=zh hlen
  have HA:=zh hA
  have HB:=zh hB
  have HX:=zh hx
  have HY:=zh hy
  clear hlen hA hB hx hy
  go_enter Tryz.func53,Tryz.ntmps53
  go_wp2_with fail
  go_loopw [5] (fun i wr=>∃k:Nat,k≤L.length∧i = .int .i64 k∧L.take k=M.take k∧Below w.heap.size w wr) (fun i _=>L.length-(intOf i).toNat)
  case atStart=>exact⟨0,Nat.zero_le _,rfl,by simp,Below.refl _ _⟩
  case round=>
   obtain⟨k,hk,rfl,hall,hb⟩:=hrel
   have HAL:=zh hall
   have HBW:=zh hb
   clear hall
   by_cases hlt:k<L.length
   ·have hltm:k<M.length:=by have:=HL.out;omega
    obtain⟨x,hx⟩:=get_of_lt L hlt
    obtain⟨y,hy⟩:=get_of_lt M hltm
    go_upto_region 6 with fail
    have hbd:Below wr.heap.size wr wr.drew:=(Below.refl _ wr).drew
    have hb6:=hb.trans (hbd.mono hb.size)
    obtain⟨b1,o1,ra,rc,rfl,c1,hxi,hxc⟩:=(HA.out.below hb6) k x hx
    obtain⟨b2,o2,ra2,rc2,rfl,c2,hyi,hyc⟩:=(HB.out.below hb6) k y hy
    have HSM:=zh (same_ref ra ra2 rc rc2 (natInts x) (natInts y) wr.drew hxi hyi (by rw[nat_len];exact HX.out x (List.mem_of_getElem? hx)) (by rw[nat_len];exact HY.out y (List.mem_of_getElem? hy)))
    rw[nat_len,nat_len] at HSM
    have hkm:(k:Int)<(M.length:Int):=by omega
    have hkl:(k:Int)<(L.length:Int):=by omega
    have HBW6:=zh hb6
    have K0:Hid (∀A,Below wr.drew.heap.size wr.drew A→A.cell? ⟨b1,o1+k,none⟩=some (.slice ra x.length rc)∧A.cell? ⟨b2,o2+k,none⟩=some (.slice ra2 y.length rc2)):=zh fun A hA=>⟨below_cell hA c1,below_cell hA c2⟩
    have HXX:=zh hx
    have HYY:=zh hy
    refine wp_region_L (fun A=>Below wr.drew.heap.size wr.drew A) 10 zK ?_
    have hSS:Below wr.drew.heap.size wr.drew wr.drew:=Below.refl _ _
    clear hx hy hbd hb6 hb c1 c2 hxi hyi
    generalize wr.drew=w6 at *
    refine tkL 0 ?_ rfl ?_ hSS ?_
    rotate_left
    ·(intro W hW;obtain⟨q0,q1⟩:=K0.out W hW;go_simp;try with_reducible rfl)
    try simp only[pA,pN,sA,sB]
    refine tkL 1 ?_ rfl ?_ hSS ?_
    rotate_left
    ·(intro W hW;obtain⟨q0,q1⟩:=K0.out W hW;go_simp;try with_reducible rfl)
    try simp only[pA,pN,sA,sB]
    refine tkL 2 ?_ rfl ?_ hSS ?_
    rotate_left
    ·(intro W hW;obtain⟨q0,q1⟩:=K0.out W hW;go_simp;try with_reducible rfl)
    try simp only[pA,pN,sA,sB]
    refine tkL 3 ?_ rfl ?_ hSS ?_
    rotate_left
    ·(intro W hW;obtain⟨q0,q1⟩:=K0.out W hW;go_simp;try with_reducible rfl)
    try simp only[pA,pN,sA,sB]
    refine tkL 4 ?_ rfl ?_ hSS ?_
    rotate_left
    ·(intro W hW;obtain⟨q0,q1⟩:=K0.out W hW;go_simp;try with_reducible rfl)
    try simp only[pA,pN,sA,sB]
    refine tkL 5 ?_ rfl ?_ hSS ?_
    rotate_left
    ·(intro W hW;obtain⟨q0,q1⟩:=K0.out W hW;go_simp;try with_reducible rfl)
    try simp only[pA,pN,sA,sB]
    refine tkL 6 ?_ rfl ?_ hSS ?_
    rotate_left
    ·(intro W hW;obtain⟨q0,q1⟩:=K0.out W hW;go_simp;try with_reducible rfl)
    try simp only[pA,pN,sA,sB]
    refine tkL 7 ?_ rfl ?_ hSS ?_
    rotate_left
    ·(intro W hW;obtain⟨q0,q1⟩:=K0.out W hW;go_simp;try with_reducible rfl)
    try simp only[pA,pN,sA,sB]
    refine anyL_call (i:=8) (f:=30) (args:=#[.slice ra x.length rc,.slice ra2 y.length rc2]) rfl zK (by rfl) (by go_simp) HSM.out ?_
    rintro e7 w7 ⟨rfl,hb7⟩
    refine .inl ⟨_,rfl,.inr hb7,?_⟩
    try simp only[pA,pN,sA,sB]
    have hSS:=hb7
    have HB7:=zh (HBW6.out.trans (hb7.mono HBW6.out.size))
    by_cases hxy:x=y
    ·have hd:decide (natInts x=natInts y)=true:=decide_eq_true (by rw[hxy])
     rw[hd]
     have HXY:=zh hxy
     clear hd hxy
     refine tkL 9 ?_ rfl ?_ hSS ?_
     rotate_left
     ·(intro W hW;obtain⟨q0,q1⟩:=K0.out W hW;go_simp;try with_reducible rfl)
     try simp only[pA,pN,sA,sB]
     refine anyL_done zK ?_ _
     clear hSS hb7 K0
     go_wp2_with fail
     go_roundw
     case rel=>exact⟨k+1,by omega,by go_num,by rw[take_snoc HXX.out,take_snoc HYY.out,HAL.out,HXY.out],HB7.out⟩
     case measure=>simp[intOf];omega
    ·have hd:decide (natInts x=natInts y)=false:=decide_eq_false (fun h=>hxy (natInts_iff.1 h))
     rw[hd]
     have HNE:=zh (show decide (L=M)=false from decide_eq_false (fun h=>by
      have h1:=HXX.out
      rw[h,HYY.out] at h1
      cases h1
      exact hxy rfl))
     clear hd hxy
     refine tkL 9 ?_ rfl ?_ hSS ?_
     rotate_left
     ·(intro W hW;obtain⟨q0,q1⟩:=K0.out W hW;go_simp;try with_reducible rfl)
     try simp only[pA,pN,sA,sB]
     refine anyL_done zK ?_ _
     clear hSS hb7 K0
     go_wp2_with fail
     go_ret
     refine⟨?_,HB7.out⟩
     rw[HNE.out];rfl
   ·go_wp2_with fail
    go_ret
    refine⟨?_,HBW.out⟩
    have hLM:L=M:=by
     have:=HAL.out
     rwa [List.take_of_length_le (by omega),List.take_of_length_le (by have:=HL.out;omega)] at this
    rw[decide_eq_true hLM];rfl
 ·have hlb:((L.length:Int) != (M.length:Int))=true:=by simp;omega
  have HNE:=zh (show decide (L=M)=false from decide_eq_false (fun h=>hlen (by rw[h])))
  clear hlen
  go_enter Tryz.func53,Tryz.ntmps53
  go_wp2_with fail
  go_ret
  refine⟨?_,Below.refl _ _⟩
  rw[HNE.out];rfl
theorem sameRangesR9_any (a b:Option Addr)(ca cb:Nat)(L M:List (Int×Int))(w:World)(hA:Row w a (rangeCells L))(hB:Row w b (rangeCells M))(hl:L.length≤100000):
 Calls Tryz.prog 52 #[.slice a L.length ca,.slice b M.length cb] w fun e w'=>e = .returned (.bool (decide (L=M)))∧Below w.heap.size w w':=by
 by_cases hlen:L.length=M.length
 ·have hlb:((L.length:Int) != (M.length:Int))=false:=by simp;omega
  have HL:=zh hlen
  have HA:=zh hA
  have HB:=zh hB
  clear hlen hA hB
  go_enter Tryz.func52,Tryz.ntmps52
  go_wp2_with fail
  go_loopw [5] (fun i wr=>∃k:Nat,k≤L.length∧i = .int .i64 k∧L.take k=M.take k∧Below w.heap.size w wr) (fun i _=>L.length-(intOf i).toNat)
  case atStart=>exact⟨0,Nat.zero_le _,rfl,by simp,Below.refl _ _⟩
  case round=>
   obtain⟨k,hk,rfl,hall,hb⟩:=hrel
   have HAL:=zh hall
   have HBW:=zh hb
   clear hall
   by_cases hlt:k<L.length
   ·have hltm:k<M.length:=by have:=HL.out;omega
    obtain⟨x,hx⟩:=get_of_lt L hlt
    obtain⟨y,hy⟩:=get_of_lt M hltm
    obtain⟨q1,q2⟩:=rangeCells_at hx
    obtain⟨q3,q4⟩:=rangeCells_at hy
    obtain⟨b1,o1,e1,c1⟩:=(HA.out.below hb) _ _ q1
    obtain⟨b1',o1',e1',c2⟩:=(HA.out.below hb) _ _ q2
    rw[e1] at e1';cases e1'
    subst e1
    obtain⟨b2,o2,e2,d1⟩:=(HB.out.below hb) _ _ q3
    obtain⟨b2',o2',e2',d2⟩:=(HB.out.below hb) _ _ q4
    rw[e2] at e2';cases e2'
    subst e2
    rw[←Nat.add_assoc] at c2 d2
    have hkm:(k:Int)<(M.length:Int):=by omega
    have hkl:(k:Int)<(L.length:Int):=by omega
    have HX:=zh hx
    have HY:=zh hy
    clear hx hy q1 q2 q3 q4 hb
    by_cases hxy:x.1=y.1∧x.2=y.2
    ·obtain⟨g1,g2⟩:=hxy
     have HXY:=zh (show x=y from Prod.ext g1 g2)
     have h1b:(x.1==y.1)=true:=beq_iff_eq.2 g1
     have h2b:(x.2==y.2)=true:=beq_iff_eq.2 g2
     clear g1 g2
     go_wp2_with fail
     go_quiet (fail)
     go_wp2_with fail
     go_roundw
     case rel=>exact⟨k+1,by omega,by go_num,by rw[take_snoc HX.out,take_snoc HY.out,HAL.out,HXY.out],below_drewN HBW.out _⟩
     case measure=>simp[intOf];omega
    ·have HNE:=zh (show decide (L=M)=false from decide_eq_false (fun h=>by
      have h1:=HX.out
      rw[h,HY.out] at h1
      cases h1
      exact hxy ⟨rfl,rfl⟩))
     by_cases g1:x.1=y.1
     ·have h1b:(x.1==y.1)=true:=beq_iff_eq.2 g1
      have h2b:(x.2==y.2)=false:=beq_eq_false_iff_ne.2 (fun h=>hxy ⟨g1,h⟩)
      clear g1 hxy
      go_wp2_with fail
      go_quiet (fail)
      go_wp2_with fail
      go_ret
      refine⟨?_,below_drewN HBW.out _⟩
      rw[HNE.out];rfl
     ·have h1b:(x.1==y.1)=false:=beq_eq_false_iff_ne.2 g1
      clear g1 hxy
      go_wp2_with fail
      go_quiet (fail)
      go_wp2_with fail
      go_ret
      refine⟨?_,below_drewN HBW.out _⟩
      rw[HNE.out];rfl
   ·go_wp2_with fail
    go_ret
    refine⟨?_,HBW.out⟩
    have hLM:L=M:=by
     have:=HAL.out
     rwa [List.take_of_length_le (by omega),List.take_of_length_le (by have:=HL.out;omega)] at this
    rw[decide_eq_true hLM];rfl
 ·have hlb:((L.length:Int) != (M.length:Int))=true:=by simp;omega
  have HNE:=zh (show decide (L=M)=false from decide_eq_false (fun h=>hlen (by rw[h])))
  clear hlen
  go_enter Tryz.func52,Tryz.ntmps52
  go_wp2_with fail
  go_ret
  refine⟨?_,Below.refl _ _⟩
  rw[HNE.out];rfl
theorem app_new9 {W:World}{a:Option Addr}{c:Nat}{l:List Int}(h:Ints W a l)(hl:l.length≤100000):
 ∃a' c' U,(Builtin.append_ #[26,26] 26 #[.slice (some ⟨W.heap.size,0,none⟩) 0 0,.slice a l.length c]).run Tryz.prog (W.alloc (.cells #[] 3)) = .ok (.slice a' l.length c') U∧Ints U a' l∧l.length≤c'∧(∀b o,a'=some ⟨b,o,none⟩→0<l.length→W.heap.size≤b)∧Below W.heap.size W U:=by
 obtain⟨v',U,hrun,hown,hg,_⟩:=run_append_row (P:=Tryz.prog) (W.alloc (.cells #[] 3)) W.heap.size 26 26 3 (.int .i64 0) 1 8 Tryz.underlying26 info_int rfl (by omega)
  (.slice (some ⟨W.heap.size,0,none⟩) 0 0) 0 [] (ownsRow_empty W _ _ _ (Nat.le_refl _)) a l.length c (l.map (.int .i64)) (by simp) (h.below ((Below.refl _ W).alloc (Nat.le_refl _) _)) (ints_one l) (by omega) (by omega) (by simp)
 obtain⟨a',c',rfl,hr,hcap⟩:=ownsRow_own hown
 have hr':RowOwn W.heap.size U a' (l.map (Value.int .i64)):=by simpa using hr
 refine⟨a',c',U,by simpa using hrun,ints_rowOwn hr',by simpa using hcap,fun b o ha hl=>rowOwn_block hr' ha hl,?_⟩
 exact((Below.refl _ W).alloc (Nat.le_refl _) _).trans ((grown_below (ownsRow_empty W W.heap.size _ 1 (Nat.le_refl _)) hg (Nat.le_refl _) (by simp)))
theorem app_full {W:World}{ba:Option Addr}{pre:List Nat}(h:Ints W ba (natInts pre))(hn:pre=[]→ba=none)(hl:pre.length≤1000)(k:Nat):
 ∃v' U,(Builtin.append_ #[26,26] 26 #[.slice ba pre.length pre.length,.slice (some ⟨W.heap.size,0,none⟩) 1 1]).run Tryz.prog (W.alloc (.cells #[.int .i64 k] 3)) = .ok v' U∧U.ownsRow W.heap.size 3 1 v' (pre.length+1) ((natInts (pre++[k])).map (Value.int .i64))∧Below W.heap.size W U:=by
 have hb:=Box.new W #[.int .i64 (k:Int)] 3
 rcases pre with _|⟨x,pre⟩
 ·rw[hn rfl]
  obtain⟨v7,w7,h1,h2,h3⟩:=app_one (E:=3) (TT:=26) Tryz.underlying26 info_int rfl (by omega) (ownsRow_nil W W.heap.size 3 1) (by omega) (Nat.le_refl _) (.int .i64 (k:Int)) rfl
  exact⟨v7,w7,h1,by simpa[natInts] using h2,h3⟩
 ·obtain⟨b,o,rfl,hc⟩:=h.base (by simp[natInts])
  obtain⟨i,hi,hz⟩:=Option.map_eq_some_iff.1 info_int
  simp only[Prod.mk.injEq] at hz
  obtain⟨z1,z2,z3⟩:=hz
  have hbl:Below W.heap.size W (W.alloc (.cells #[.int .i64 (k:Int)] 3)):=(Below.refl _ W).alloc (Nat.le_refl _) _
  obtain⟨v',U,h1,h2,h3⟩:=run_append_arg_grows (P:=Tryz.prog) (w:=W.alloc (.cells #[.int .i64 (k:Int)] 3)) 26 26 3 i (.int .i64 0) 1 8 Tryz.underlying26 hi z1 z2 z3 rfl (by omega)
   ⟨b,o,none⟩ (x::pre).length (x::pre).length ((natInts (x::pre)).map (Value.int .i64)) (by simp[natInts]) (fun j u hu=>by
    obtain⟨y,hy,rfl⟩:=List.getElem?_map .. ▸ hu |> Option.map_eq_some_iff.1
    rw[add_plain]
    exact below_cell hbl (hc j y hy))
   ⟨W.heap.size,0,none⟩ 1 1 [.int .i64 (k:Int)] rfl (fun j u hu=>by
    rw[add_plain,Nat.zero_add,hb.cell]
    simpa using hu) (by omega) (by unfold maxLen;omega) (by omega)
  refine⟨v',U,h1,?_,hbl.grown h3 (by simp) (fun j hj=>by cases hj)⟩
  have:=ownsRow_low h2 (B:=W.heap.size) (by simp)
  simpa[natInts] using this
theorem outGo_room {c:Cs}{l:List Prb}(hz:probesErr c l=0){s:List Nat}(hs:s.length≤5)(pre:List Nat)(k:Nat)(hk:k≤4):((List.range k).flatMap fun j=>outGo (cntsOf c l s) (pre++[j])).length+1024≤1000000:=by
 have hc:∀n∈cntsOf c l s,n≤4:=fun n hn=>by
  simp only[cntsOf,List.mem_map] at hn
  obtain⟨v,hv,rfl⟩:=hn
  split
  ·rename_i p hp
   exact((probes_ok hz).2.2 p (List.mem_of_getElem? hp)).2.2
  ·omega
 have hl:(cntsOf c l s).length=s.length:=by simp[cntsOf]
 have h1:=flat_len (f:=fun j=>outGo (cntsOf c l s) (pre++[j])) (B:=4^(cntsOf c l s).length) (List.range k) (fun j=>outGo_len _ _ hc)
 rw[List.length_range,hl] at h1
 have h2:4^s.length≤4^5:=Nat.pow_le_pow_right (by omega) hs
 have h3:k*4^s.length≤4*4^5:=Nat.mul_le_mul hk h2
 omega
theorem outGo_max {c:Cs}{l:List Prb}(hz:probesErr c l=0){s:List Nat}(hs:s.length≤5)(pre:List Nat):(outGo (cntsOf c l s) pre).length≤1024:=by
 have hc:∀n∈cntsOf c l s,n≤4:=fun n hn=>by
  simp only[cntsOf,List.mem_map] at hn
  obtain⟨v,hv,rfl⟩:=hn
  split
  ·rename_i p hp
   exact((probes_ok hz).2.2 p (List.mem_of_getElem? hp)).2.2
  ·omega
 have hl:(cntsOf c l s).length=s.length:=by simp[cntsOf]
 have h1:=outGo_len (cntsOf c l s) pre hc
 rw[hl] at h1
 have h2:4^s.length≤4^5:=Nat.pow_le_pow_right (by omega) hs
 omega
theorem outcomesR9_any {c:Cs}{l:List Prb}(hz:probesErr c l=0)(s:List Nat)(hs:∀v∈s,v<l.length)(hsl:s.length≤5)(pa:Option Addr)(pc:Nat)(qa:Option Addr)(qc:Nat)(sa:Option Addr)(sc:Nat):∀(r:Nat) (pre:List Nat) (ba:Option Addr) (bc:Nat) (w:World),pre.length+r=s.length→(pre=[]→ba=none∧bc=0)→pre.length≤bc→PartsAt w pa c.parts→PrbsAt w qa l→Ints w sa (natInts s)→Ints w ba (natInts pre) →
 Calls Tryz.prog 111 #[.agg #[.string c.ware,.int .i64 c.limit,.int .i64 c.by_,.slice pa c.parts.length pc],.slice qa l.length qc,.slice sa s.length sc,.slice ba pre.length bc] w fun e w'=>∃v,e = .returned v∧RowsV w.heap.size (fun b=>w.heap.size≤b) w' v (outGo (cntsOf c l (s.drop pre.length)) pre)∧Below w.heap.size w w'
 |0,pre,ba,bc,w,hlen,hn,hbc,hp,hq,hS,hb=>by
  have hpl:((pre.length:Int)==(s.length:Int))=true:=by simp;omega
  have HDR:=zh (show outGo (cntsOf c l (s.drop pre.length)) pre=[pre] by rw[List.drop_of_length_le (by omega)];rfl)
  obtain⟨w1,hw1⟩:=zx (w.alloc (.cells #[.string c.ware,.int .i64 c.limit,.int .i64 c.by_,.slice pa c.parts.length pc] 24))
  have hB1:Below w.heap.size w w1:=by rw[←hw1];go_grown
  obtain⟨a',c',U,hrun,hu1,hu2,hu3,hu4⟩:=app_new9 (c:=bc) (hb.below hB1) (by rw[nat_len];omega)
  rw[nat_len] at hrun hu2 hu3
  have HRN:=zh hrun
  have HU1:=zh hu1
  have HU3:=zh hu3
  have HBU:=zh (hB1.trans (hu4.mono hB1.size))
  have HSZ:=zh (show w.heap.size≤w1.heap.size from hB1.size)
  have HW:=zh hw1
  have HS4:=zh hu4.size
  clear hrun hu1 hu3 hu4 hB1 hw1 hp hq hS hb hlen
  go_enter Tryz.func111,Tryz.ntmps111
  go_upto_region 1 with fail
  simp only[HW.out]
  go_wp2_with (at_builtin;refine wpList_app rfl _ _ _ rfl rfl rfl HRN.out ?_)
  go_ret
  rw[HDR.out]
  refine⟨.slice (some ⟨U.heap.size,0,none⟩) 1 1,rfl,⟨[(pre,a',c')],rfl,ownsRow_one (Box.new _ _ _) HBU.out.size,fun z hz=>?_⟩,HBU.out.alloc HBU.out.size _⟩
  rw[List.mem_singleton.1 hz]
  refine⟨HU1.out.below ((Below.refl _ U).alloc (Nat.le_refl _) _),hu2,fun b o ha hl=>⟨?_,?_⟩⟩
  ·have:=ints_lt HU1.out ha (by simpa[natInts] using hl)
   simp[Value.ownBlock]
   omega
  ·have:=HU3.out b o ha hl
   have:=HSZ.out
   omega
 |r+1,pre,ba,bc,w,hlen,hn,hbc,hp,hq,hS,hb=>by
  have hpl:((pre.length:Int)==(s.length:Int))=false:=by simp;omega
  obtain⟨v,hv⟩:=get_of_lt s (k:=pre.length) (by omega)
  have hvl:=hs v (List.mem_of_getElem? hv)
  obtain⟨pr,hpr⟩:=get_of_lt l hvl
  obtain⟨i,q,hi,hqq,⟨s1,s2,s3⟩,v1,v2⟩:=cnt_at9 hz hpr
  have hm4:=((probes_ok hz).2.2 pr (List.mem_of_getElem? hpr)).2.2
  have hspn:=spanOf_at (d:=c) (p:=pr) (q:=q) (by rw[hi];simpa using hqq)
  have hcz:=cnt_toNat (s:=q.span) (v:=pr.width) (by omega) s2
  have HCN:=zh (fun W h=>countR9_any hi hqq s1 s2 s3 v1 v2 pa pc W h)
  rw[hcz] at HCN
  rw[hspn] at hm4
  have hdrop:s.drop pre.length=v::s.drop (pre.length+1):=by
   rw[List.drop_eq_getElem_cons (by omega)]
   congr 1
   exact(List.getElem?_eq_some_iff.1 hv).2
  have HDR:=zh (show outGo (cntsOf c l (s.drop pre.length)) pre=(List.range (cntN q.span pr.width)).flatMap fun j=>outGo (cntsOf c l (s.drop (pre.length+1))) (pre++[j]) by
   rw[hdrop]
   simp only[cntsOf,List.map_cons,hpr,hspn,outGo])
  have HRM:=zh (fun k (hk:k≤4)=>outGo_room hz (s:=s.drop (pre.length+1)) (by rw[List.length_drop];omega) pre k hk)
  have HMX:=zh (fun k=>outGo_max hz (s:=s.drop (pre.length+1)) (by rw[List.length_drop];omega) (pre++[k]))
  have hsv:(natInts s)[pre.length]?=some (v:Int):=by simp[natInts,hv]
  obtain⟨b1,o1,rfl,q1⟩:=hS.base (by simp[natInts];omega)
  have hcs:=q1 _ _ hsv
  obtain⟨b2,o2,pr',rfl,hpr',hG⟩:=hq.at_ hvl
  rw[hpr] at hpr';cases hpr'
  have hIH:=fun pre ba bc w=>outcomesR9_any hz s hs hsl pa pc (some ⟨b2,o2,none⟩) qc (some ⟨b1,o1,none⟩) sc r pre ba bc w
  have HIH:=zh hIH
  have hvn:(v:Int)<(l.length:Int):=by omega
  have hpn:(pre.length:Int)<(s.length:Int):=by omega
  have HLEN:=zh hlen
  have HP:=zh hp
  have HQ:=zh hq
  have HS:=zh hS
  have HI:=zh hb
  have HN:=zh hn
  have HG:=zh hG
  have HCS:=zh hcs
  clear hz hs hv hvl hpr hi hqq s1 s2 s3 v1 v2 hspn hcz hdrop hsv q1 hcs hG hIH hp hq hS hb hn hlen
  generalize cntN q.span pr.width=M at *
  obtain⟨w1,hw1⟩:=zx (w.alloc (.cells #[.string c.ware,.int .i64 c.limit,.int .i64 c.by_,.slice pa c.parts.length pc] 24))
  have hB1:Below w.heap.size w w1:=by rw[←hw1];go_grown
  have b1':Box w1 w.heap.size (csCells c pa pc) 24:=by rw[←hw1];exact Box.new _ _ _
  have hs1:w1.heap.size=w.heap.size+1:=by rw[←hw1];simp
  have HW:=zh hw1
  have HB1:=zh hB1
  have HX1:=zh b1'
  have HS1:=zh hs1
  clear hw1 hB1 b1' hs1
  go_enter Tryz.func111,Tryz.ntmps111
  go_upto_region 1 with fail
  simp only[HW.out]
  go_wp2_with fail
  go_loopw [9,10] (fun ov kv wr=>∃k:Nat,k≤M∧kv = .int .i64 k∧RowsV (w.heap.size+1) (fun b=>w.heap.size≤b) wr ov ((List.range k).flatMap fun j=>outGo (cntsOf c l (s.drop (pre.length+1))) (pre++[j]))∧Box wr w.heap.size (csCells c pa pc) 24∧Below w.heap.size w wr) (fun _ kv _=>M-(intOf kv).toNat)
  case atStart=>exact⟨0,Nat.zero_le _,rfl,RowsV.nil _ _ _,HX1.out,HB1.out⟩
  case round=>
   obtain⟨k,hk,rfl,hrows,hbx,hbw⟩:=hrel
   have HR:=zh hrows
   have HBX:=zh hbx
   have HBW:=zh hbw
   have hxl:=hbx.lt
   have hub:∀g,u9.ownBlock=some g→w.heap.size+1≤g∧g<wr.heap.size:=fun g hg=>by
    obtain⟨_,_,h,_⟩:=hrows
    exact h.lt g hg
   have K0:Hid (∀A,Below wr.heap.size wr A→(∀i,A.cell? ⟨w.heap.size,i,none⟩=(#[.string c.ware,.int .i64 c.limit,.int .i64 c.by_,.slice pa c.parts.length pc]:Array Value)[i]?)∧A.cell? ⟨b1,o1+pre.length,none⟩=some (.int .i64 (v:Int))∧A.cell? ⟨b2,o2+v*4,none⟩=some (.int .i64 pr.id)∧A.cell? ⟨b2,o2+v*4+1,none⟩=some (.int .i64 pr.part)∧A.cell? ⟨b2,o2+v*4+2,none⟩=some (.int .i64 pr.width)∧A.cell? ⟨b2,o2+v*4+3,none⟩=some (.int .i64 pr.cost)):=
    zh fun A hA=>⟨(hbx.below' hA).cell,below_cell (hbw.trans (hA.mono hbw.size)) HCS.out,(HG.out.below (hbw.trans (hA.mono hbw.size))).open⟩
   clear hrows hbx hbw
   go_upto_region 5 with fail
   refine wp_region_L (fun A=>Below wr.heap.size wr A) 12 zK ?_
   have hSS:Below wr.heap.size wr wr.drew:=(Below.refl _ wr).drew
   generalize wr.drew=w4 at *
   refine tkL 0 ?_ rfl ?_ hSS ?_
   rotate_left
   ·(intro W hW;obtain⟨q0,q1,q2,q3,q4,q5⟩:=K0.out W hW;go_simp;try with_reducible rfl)
   try simp only[pA,pN,sA,sB]
   refine tkL 1 ?_ rfl ?_ hSS ?_
   rotate_left
   ·(intro W hW;obtain⟨q0,q1,q2,q3,q4,q5⟩:=K0.out W hW;go_simp;try with_reducible rfl)
   try simp only[pA,pN,sA,sB]
   refine tkL 2 ?_ rfl ?_ hSS ?_
   rotate_left
   ·(intro W hW;obtain⟨q0,q1,q2,q3,q4,q5⟩:=K0.out W hW;go_simp;try with_reducible rfl)
   try simp only[pA,pN,sA,sB]
   refine tkL 3 ?_ rfl ?_ hSS ?_
   rotate_left
   ·(intro W hW;obtain⟨q0,q1,q2,q3,q4,q5⟩:=K0.out W hW;go_simp;try with_reducible rfl)
   try simp only[pA,pN,sA,sB]
   refine tkL 4 ?_ rfl ?_ hSS ?_
   rotate_left
   ·(intro W hW;obtain⟨q0,q1,q2,q3,q4,q5⟩:=K0.out W hW;go_simp;try with_reducible rfl)
   try simp only[pA,pN,sA,sB]
   refine tkL 5 ?_ rfl ?_ hSS ?_
   rotate_left
   ·(intro W hW;obtain⟨q0,q1,q2,q3,q4,q5⟩:=K0.out W hW;go_simp;try with_reducible rfl)
   try simp only[pA,pN,sA,sB]
   refine tkL 6 ?_ rfl ?_ hSS ?_
   rotate_left
   ·(intro W hW;obtain⟨q0,q1,q2,q3,q4,q5⟩:=K0.out W hW;go_simp;try with_reducible rfl)
   try simp only[pA,pN,sA,sB]
   refine tkL 7 ?_ rfl ?_ hSS ?_
   rotate_left
   ·(intro W hW;obtain⟨q0,q1,q2,q3,q4,q5⟩:=K0.out W hW;go_simp;try with_reducible rfl)
   try simp only[pA,pN,sA,sB]
   refine tkL 8 ?_ rfl ?_ hSS ?_
   rotate_left
   ·(intro W hW;obtain⟨q0,q1,q2,q3,q4,q5⟩:=K0.out W hW;go_simp;try with_reducible rfl)
   try simp only[pA,pN,sA,sB]
   refine tkL 9 ?_ rfl ?_ hSS ?_
   rotate_left
   ·(intro W hW;obtain⟨q0,q1,q2,q3,q4,q5⟩:=K0.out W hW;go_simp;try with_reducible rfl)
   try simp only[pA,pN,sA,sB]
   refine anyL_call (i:=10) (f:=54) (args:=#[.agg #[.string c.ware,.int .i64 c.limit,.int .i64 c.by_,.slice pa c.parts.length pc],.agg #[.int .i64 pr.id,.int .i64 pr.part,.int .i64 pr.width,.int .i64 pr.cost]]) rfl zK (by rfl) (by go_simp) (HCN.out _ (HP.out.below (HBW.out.trans (hSS.mono HBW.out.size)))) ?_
   rintro e5 w5 ⟨rfl,hb5⟩
   have hSS:=hSS.trans (hb5.mono hSS.size)
   refine .inl ⟨_,rfl,.inr hSS,?_⟩
   try simp only[pA,pN,sA,sB]
   have HR:=zh (HR.out.below hSS)
   have HBX:=zh (HBX.out.below' hSS)
   have HBW:=zh (HBW.out.trans (hSS.mono HBW.out.size))
   have hxl:=HBX.out.lt
   have hub:∀g,u9.ownBlock=some g→w.heap.size+1≤g∧g<w5.heap.size:=fun g hg=>⟨(hub g hg).1,by have:=(hub g hg).2;have:=hSS.size;omega⟩
   clear hb5
   by_cases hkM:k<M
   ·have hkn:(k:Int)<(M:Int):=by omega
    refine tkL 11 ?_ rfl ?_ hSS ?_
    rotate_left
    ·(intro W hW;obtain⟨q0,q1,q2,q3,q4,q5⟩:=K0.out W hW;go_simp;try with_reducible rfl)
    try simp only[pA,pN,sA,sB]
    refine anyL_done zK ?_ _
    clear hSS K0
    go_upto_region 7 with fail
    have KB:∀A,Keep (fun g=>g<w5.heap.size∧u9.ownBlock≠some g) w5 A→Below w.heap.size w A:=fun A hA=>HBW.out.trans ((hA.mono (fun g (hg:g<w.heap.size)=>⟨by omega,fun h=>by have:=(hub _ h).1;omega⟩)).below (by omega))
    have KX:∀A,Keep (fun g=>g<w5.heap.size∧u9.ownBlock≠some g) w5 A→Box A w.heap.size (csCells c pa pc) 24:=fun A hA=>hA.heap ⟨hxl,fun h=>by have:=(hub _ h).1;omega⟩ HBX.out
    have K0:Hid (∀A,Keep (fun g=>g<w5.heap.size∧u9.ownBlock≠some g) w5 A→∀i,A.cell? ⟨w.heap.size,i,none⟩=(#[.string c.ware,.int .i64 c.limit,.int .i64 c.by_,.slice pa c.parts.length pc]:Array Value)[i]?):=zh fun A hA=>(KX A hA).cell
    refine wp_region_L (fun A=>Keep (fun g=>g<w5.heap.size∧u9.ownBlock≠some g) w5 A) 15 zK ?_
    have hSS:Keep (fun g=>g<w5.heap.size∧u9.ownBlock≠some g) w5 w5.drew:=(Keep.refl _ w5).drew
    have hb6:Below w5.heap.size w5 w5.drew:=(Below.refl _ w5).drew
    generalize w5.drew=w6 at *
    refine tkL 0 ?_ rfl ?_ hSS ?_
    rotate_left
    ·(intro W hW;have q0:=K0.out W hW;go_simp;try with_reducible rfl)
    try simp only[pA,pN,sA,sB]
    refine tkL 1 ?_ rfl ?_ hSS ?_
    rotate_left
    ·(intro W hW;have q0:=K0.out W hW;go_simp;try with_reducible rfl)
    try simp only[pA,pN,sA,sB]
    refine tkL 2 ?_ rfl ?_ hSS ?_
    rotate_left
    ·(intro W hW;have q0:=K0.out W hW;go_simp;try with_reducible rfl)
    try simp only[pA,pN,sA,sB]
    refine tkL 3 ?_ rfl ?_ hSS ?_
    rotate_left
    ·(intro W hW;have q0:=K0.out W hW;go_simp;try with_reducible rfl)
    try simp only[pA,pN,sA,sB]
    refine tkL 4 ?_ rfl ?_ hSS ?_
    rotate_left
    ·(intro W hW;have q0:=K0.out W hW;go_simp;try with_reducible rfl)
    try simp only[pA,pN,sA,sB]
    refine tkL 5 ?_ rfl ?_ hSS ?_
    rotate_left
    ·(intro W hW;have q0:=K0.out W hW;go_simp;try with_reducible rfl)
    try simp only[pA,pN,sA,sB]
    refine tkL 6 ?_ rfl ?_ hSS ?_
    rotate_left
    ·(intro W hW;have q0:=K0.out W hW;go_simp;try with_reducible rfl)
    try simp only[pA,pN,sA,sB]
    refine tkL 7 ?_ rfl ?_ hSS ?_
    rotate_left
    ·(intro W hW;have q0:=K0.out W hW;go_simp;try with_reducible rfl)
    try simp only[pA,pN,sA,sB]
    refine tkL 8 ?_ rfl ?_ hSS ?_
    rotate_left
    ·(intro W hW;have q0:=K0.out W hW;go_simp;try with_reducible rfl)
    try simp only[pA,pN,sA,sB]
    refine tkL 9 ?_ rfl ?_ hSS ?_
    rotate_left
    ·(intro W hW;have q0:=K0.out W hW;go_simp;try with_reducible rfl)
    try simp only[pA,pN,sA,sB]
    refine tkL 10 ?_ rfl ?_ hSS ?_
    rotate_left
    ·(intro W hW;have q0:=K0.out W hW;go_simp;try with_reducible rfl)
    try simp only[pA,pN,sA,sB]
    have hia:=HI.out.below (KB w6 hSS)
    obtain⟨v7,w7,hrun,hown,hb7⟩:=app_full hia (fun h=>(HN.out h).1) (by have:=HLEN.out;omega) k
    have hal:Below w6.heap.size w6 (w6.alloc (.cells #[.int .i64 (k:Int)] 3)):=(Below.refl _ w6).alloc (Nat.le_refl _) _
    have hbal:Below w5.heap.size w5 (w6.alloc (.cells #[.int .i64 (k:Int)] 3)):=hb6.trans (hal.mono hb6.size)
    refine anyL_run (i:=11) (v:=.slice (some ⟨w6.heap.size,0,none⟩) 1 1) (w':=w6.alloc (.cells #[.int .i64 (k:Int)] 3)) rfl zK (by rfl) (by go_simp) (.inr (Keep.of_below' hbal)) ?_
    try simp only[pA,pN,sA,sB]
    have hb57:=hb6.trans (hb7.mono hb6.size)
    have hs56:=hb6.size
    obtain⟨a7,c7,rfl,hro7,hc7⟩:=ownsRow_own hown
    refine anyL_run (i:=12) (v:=.slice a7 (pre.length+1) c7) (w':=w7) rfl zK (by rfl) ?_ (.inr (Keep.of_below' hb57)) ?_
    ·refine exec_app (v:=.slice ba pre.length pre.length) (u:=.slice (some ⟨w6.heap.size,0,none⟩) 1 1) _ _ 26 rfl (by rfl) (by rfl) ?_
     exact hrun
    try simp only[pA,pN,sA,sB]
    have hlw:=KB w7 (Keep.of_below' hb57)
    have hall:=HIH.out (pre++[k]) a7 c7 w7 (by have:=HLEN.out;rw[List.length_append,List.length_singleton];omega) (fun h=>by simp at h) (by rw[List.length_append,List.length_singleton];exact hc7) (HP.out.below hlw) (HQ.out.below hlw) (HS.out.below hlw) (ints_rowOwn hro7)
    rw[List.length_append,List.length_singleton] at hall
    refine anyL_call (i:=13) (f:=111) rfl zK (by rfl) ?_ hall ?_
    ·go_simp
    rintro e8 w8 ⟨v8,rfl,hr8,hb8⟩
    have hb58:=hb57.trans (hb8.mono hb57.size)
    refine .inl ⟨v8,rfl,.inr (Keep.of_below' hb58),?_⟩
    try simp only[pA,pN,sA,sB]
    have hr9:RowsV (w.heap.size+1) (fun b=>w.heap.size≤b∧u9.ownBlock≠some b) w8 v8 (outGo (cntsOf c l (s.drop (pre.length+1))) (pre++[k])):=hr8.less (by have:=hb57.size;omega) (fun b hb=>⟨by have:=hb57.size;omega,fun h=>by have:=(hub b h).2;have:=hb57.size;omega⟩)
    obtain⟨v9,w9,hrun9,hr10,k9,_⟩:=rows_app (HR.out.below hb58) hr9 (by have:=HRM.out k (by omega);have:=HMX.out k;omega) (by have:=hb58.size;omega)
    refine anyL_run (i:=14) (v:=v9) (w':=w9) rfl zK (by rfl) ?_ (.inr (((Keep.refl _ w5).trans (Keep.of_below' hb58)).trans (k9.mono fun k hk=>hk.2))) ?_
    ·refine exec_app (v:=u9) (u:=v8) _ _ 49 rfl (by rfl) (by rfl) ?_
     exact hrun9
    try simp only[pA,pN,sA,sB]
    refine anyL_run (i:=15) (v:=v9) (w':=w9) rfl zK (by rfl) (by go_simp) (.inl rfl) ?_
    try simp only[pA,pN,sA,sB]
    refine anyL_done zK ?_ _
    have hx9:Box w9 w.heap.size (csCells c pa pc) 24:=k9.heap (fun h=>by have:=(hub _ h).1;omega) (HBX.out.below' hb58)
    have hw9:Below w.heap.size w w9:=(HBW.out.trans (hb58.mono HBW.out.size)).trans ((k9.mono fun k (hk:k<w.heap.size) h=>by have:=(hub _ h).1;omega).below (by have:=hb58.size;omega))
    have HR9:=zh hr10
    have HX9:=zh hx9
    have HW9:=zh hw9
    clear hr10 hx9 hw9 k9 hr9 hr8 hall hro7 hb8 hb58 hb57 hb7 hb6 hal hbal hrun hrun9 hlw hia hs56 K0 KB KX hSS hown
    go_wp2_with fail
    go_roundw
    case rel=>exact⟨k+1,by omega,by go_num,by rw[List.range_succ,List.flatMap_append,List.flatMap_singleton];exact HR9.out,HX9.out,HW9.out⟩
    case measure=>simp[intOf];omega
   ·obtain rfl:k=M:=by omega
    have hkn:¬(k:Int)<(k:Int):=by omega
    refine tkL 11 ?_ rfl ?_ hSS ?_
    rotate_left
    ·(intro W hW;obtain⟨q0,q1,q2,q3,q4,q5⟩:=K0.out W hW;go_simp;try with_reducible rfl)
    try simp only[pA,pN,sA,sB]
    refine anyL_done zK ?_ _
    clear hSS K0
    go_wp2_with fail
    go_ret
    refine⟨_,rfl,?_,HBW.out⟩
    rw[HDR.out]
    exact HR.out.less (by omega) (fun b hb=>hb)
theorem outcomesXR9_any (c:Cs)(hsm:c.Small)(pa:Option Addr)(pc:Nat)(l:List Prb)(qa:Option Addr)(qc:Nat)(sa:Option Addr)(S:List Int)(sc:Nat)(hSl:S.length≤1000)(w:World)(hp:PartsAt w pa c.parts)(hq:PrbsAt w qa l)(hS:Ints w sa S):
 Calls Tryz.prog 48 #[.agg #[.string c.ware,.int .i64 c.limit,.int .i64 c.by_,.slice pa c.parts.length pc],.slice qa l.length qc,.slice sa S.length sc] w (XPost (xErr c l (setB l.length S)) (.slice none 0 0) (OutsOut (outsOf (cntsOf c l (nats S)))) w):=by
 obtain⟨w1,hw1⟩:=zx (w.alloc (.cells #[.string c.ware,.int .i64 c.limit,.int .i64 c.by_,.slice pa c.parts.length pc] 24))
 have hB1:Below w.heap.size w w1:=by rw[←hw1];go_grown
 have b1:Box w1 w.heap.size (csCells c pa pc) 24:=by rw[←hw1];exact Box.new _ _ _
 have HAS:=zh (askedSetR9_any c hsm pa pc l qa qc sa S sc (by omega) w1 (hp.below hB1) (hq.below hB1) (hS.below hB1))
 have e1:∀i,w1.cell? ⟨w.heap.size,i,none⟩=(#[.string c.ware,.int .i64 c.limit,.int .i64 c.by_,.slice pa c.parts.length pc]:Array Value)[i]?:=b1.cell
 have HW:=zh hw1
 have HB1:=zh hB1
 have HX:=zh b1
 have HP:=zh (hp.below hB1)
 have HQ:=zh (hq.below hB1)
 have HS:=zh (hS.below hB1)
 clear hw1 b1 hB1 hp hq hS
 have HXS:=zh (fun h=>xErr_set (c:=c) (l:=l) (ok:=setB l.length S) h)
 have HSN:=zh (fun h=>(⟨set_nats h,set_len h⟩:(S=natInts (nats S)∧∀v∈nats S,v<l.length)∧S.length≤l.length))
 obtain⟨ok,hok⟩:=zx (setB l.length S)
 rw[hok] at HXS HSN HAS ⊢
 clear hok
 obtain⟨er,her⟩:=zx (xErr c l ok)
 rw[her] at HAS HXS ⊢
 clear her
 go_enter Tryz.func48,Tryz.ntmps48
 go_upto_region 1 with fail
 simp only[HW.out]
 go_wp2_with fail
 (with_reducible refine HAS.out.mono ?_)
 rintro e w2 ⟨rfl,hb2⟩
 have HBW:=zh (HB1.out.trans (hb2.mono HB1.out.size))
 have HX:=zh (HX.out.below' hb2)
 have HP:=zh (HP.out.below hb2)
 have HQ:=zh (HQ.out.below hb2)
 have HS:=zh (HS.out.below hb2)
 clear hb2 e1
 by_cases hz:er=0
 ·obtain⟨h1,h2,_⟩:=HXS.out hz
  subst hz
  obtain⟨⟨f1,f2⟩,f3⟩:=HSN.out h2
  have hl1:(nats S).length=S.length:=by simp[nats]
  have hl5:=(probes_ok h1).2.1
  have hc:=outcomesR9_any h1 (nats S) f2 (by omega) pa pc qa qc sa sc (nats S).length [] none 0 w2 (by simp) (fun _=>⟨rfl,rfl⟩) (Nat.zero_le _) HP.out HQ.out (by rw[←f1];exact HS.out) (Ints.nil _ _)
  rw[hl1] at hc
  have HC:=zh (show Calls Tryz.prog 111 #[.agg #[.string c.ware,.int .i64 c.limit,.int .i64 c.by_,.slice pa c.parts.length pc],.slice qa l.length qc,.slice sa S.length sc,.slice none 0 0] w2 fun e w'=>∃v,e = .returned v∧RowsV w2.heap.size (fun b=>w2.heap.size≤b) w' v (outsOf (cntsOf c l (nats S)))∧Below w2.heap.size w2 w' from hc)
  have e1:∀i,w2.cell? ⟨w.heap.size,i,none⟩=(#[.string c.ware,.int .i64 c.limit,.int .i64 c.by_,.slice pa c.parts.length pc]:Array Value)[i]?:=HX.out.cell
  clear h1 h2 f1 f2 f3 hl1 hc hl5
  go_wp2_with fail
  (with_reducible refine HC.out.mono ?_)
  rintro e w3 ⟨v,rfl,hr,hb3⟩
  have HBW:=zh (HBW.out.trans (hb3.mono HBW.out.size))
  obtain⟨a,cap,rfl,hat⟩:=hr.at_
  have HAT:=zh hat
  clear hr hb3 hat e1
  go_wp2_with fail
  go_ret2
  exact⟨HBW.out,_,_,rfl,.inr ⟨rfl,rfl,a,cap,rfl,HAT.out⟩⟩
 ·have hzb:(er != 0)=true:=by simpa using hz
  have HNZ:=zh hz
  clear hz
  go_wp2_with fail
  go_ret2
  exact⟨HBW.out,_,_,rfl,.inl ⟨HNZ.out,rfl,rfl⟩⟩
end Go.Proofs.YtjgldeeianionaaGreat
namespace Go.Proofs.YtjgldeeianionaaGreat
open Go.RowKit
theorem steps_tup {xe:Int}{L:List (Int×Int)}{w w':World}{e:Ending}(h:XPost xe (.slice none 0 0) (StepsOut L) w e w'):∃a n cap,e = .returned (.tuple #[.slice a n cap,.int .i64 xe])∧n=(if xe=0 then L else []).length∧Row w' a (rangeCells (if xe=0 then L else []))∧Below w.heap.size w w':=by
 obtain⟨hb,v,er,rfl,(⟨h1,rfl,rfl⟩|⟨rfl,rfl,a,cap,rfl,h2,_⟩)⟩:=h
 ·refine⟨none,0,0,rfl,by rw[if_neg h1];rfl,?_,hb⟩
  rw[if_neg h1]
  intro k v hv
  simp[rangeCells] at hv
 ·exact⟨a,_,cap,rfl,by rw[if_pos rfl],by rw[if_pos rfl];exact h2,hb⟩
theorem outs_tup {xe:Int}{L:List (List Nat)}{w w':World}{e:Ending}(h:XPost xe (.slice none 0 0) (OutsOut L) w e w'):∃a n cap,e = .returned (.tuple #[.slice a n cap,.int .i64 xe])∧n=(if xe=0 then L else []).length∧RowsAt w' a (if xe=0 then L else [])∧Below w.heap.size w w':=by
 obtain⟨hb,v,er,rfl,(⟨h1,rfl,rfl⟩|⟨rfl,rfl,a,cap,rfl,h2⟩)⟩:=h
 ·refine⟨none,0,0,rfl,by rw[if_neg h1];rfl,?_,hb⟩
  rw[if_neg h1]
  intro k v hv
  simp at hv
 ·exact⟨a,_,cap,rfl,by rw[if_pos rfl],by rw[if_pos rfl];exact h2,hb⟩
theorem steps_few {c:Cs}{l:List Prb}{p:Int}{ok:Bool}:(if xErr c l ok=0 then stepsL c l p.toNat else []).length≤100000:=by
 split
 ·rename_i h
  obtain⟨h1,_,_⟩:=xErr_zero h
  unfold stepsL
  split
  ·rename_i q hq
   have:=((probes_ok h1).2.2 q (List.mem_of_getElem? hq)).2.2
   rw[stepsOf,stepsTo_len];omega
  ·simp
 ·simp
theorem outs_few {c:Cs}{l:List Prb}{S:List Int}:(if xErr c l (setB l.length S)=0 then outsOf (cntsOf c l (nats S)) else []).length≤100000∧∀x∈(if xErr c l (setB l.length S)=0 then outsOf (cntsOf c l (nats S)) else []),x.length≤1000000:=by
 split
 ·rename_i h
  obtain⟨h1,h2,_⟩:=xErr_zero h
  have h3:=set_len h2
  have h5:=(probes_ok h1).2.1
  have hl:(nats S).length=S.length:=by simp[nats]
  have h4:=outs_len h1 (s:=nats S) (by omega)
  refine⟨by omega,fun x hx=>?_⟩
  have:=((mem_outs (set_nats h2).2).1 hx).1
  omega
 ·simp
theorem ranges_same {M:List (Int×Int)}{w:World}{a b:Option Addr}{ca cb:Nat}(hA:Row w a (rangeCells M))(hB:Row w b (rangeCells M))(hl:M.length≤100000):Calls Tryz.prog 52 #[.slice a M.length ca,.slice b M.length cb] w fun e w'=>e = .returned (.bool true)∧Below w.heap.size w w':=
 (sameRangesR9_any a b ca cb M M w hA hB hl).mono (by rintro e w' ⟨rfl,h⟩;exact⟨by simp,h⟩)
theorem lists_same {M:List (List Nat)}{w:World}{a b:Option Addr}{ca cb:Nat}(hA:RowsAt w a M)(hB:RowsAt w b M)(hl:M.length≤100000∧∀x∈M,x.length≤1000000):Calls Tryz.prog 53 #[.slice a M.length ca,.slice b M.length cb] w fun e w'=>e = .returned (.bool true)∧Below w.heap.size w w':=
 (sameListsR9_any a b ca cb M M w hA hB hl.1 hl.2 hl.2).mono (by rintro e w' ⟨rfl,h⟩;exact⟨by simp,h⟩)
end Go.Proofs.YtjgldeeianionaaGreat
