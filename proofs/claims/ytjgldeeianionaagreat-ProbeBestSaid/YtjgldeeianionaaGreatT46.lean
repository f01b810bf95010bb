/- The walks and plain laws of: MQXOut MQR14 MQR20 MQR21 MQR22 MQR23 MQR24 MQSetsP. No condition. -/
import Derived.ArgAppend
import Derived.Test.YtjgldeeianionaaGreatT16
import Derived.Test.YtjgldeeianionaaGreatT18
import Derived.Test.YtjgldeeianionaaGreatT20
import Derived.Test.YtjgldeeianionaaGreatT22
import Derived.Test.YtjgldeeianionaaGreatT24
import Derived.Test.YtjgldeeianionaaGreatT25
import Derived.Test.YtjgldeeianionaaGreatT26
import Derived.Test.YtjgldeeianionaaGreatT29
import Derived.Test.YtjgldeeianionaaGreatT30
import Derived.Test.YtjgldeeianionaaGreatT34
import Derived.Test.YtjgldeeianionaaGreatT35
import Derived.Test.YtjgldeeianionaaGreatT40
import Derived.Test.YtjgldeeianionaaGreatT41
import Derived.Test.YtjgldeeianionaaGreatT42
import Derived.Test.YtjgldeeianionaaGreatT01
set_option maxHeartbeats 4000000
set_option maxRecDepth 100000
set_option linter.unusedSimpArgs false
set_option linter.unusedVariables false
namespace Go.Proofs.YtjgldeeianionaaGreat
open Go.RowKit
attribute [local go_sem] Oper.semAt_some
theorem flat_len {α β:Type}{f:α→List β}{B:Nat}:∀(L:List α),(∀x,(f x).length≤B)→(L.flatMap f).length≤L.length*B
 |[],_=>by simp
 |x::L,h=>by
  have ih:=flat_len L h;have h1:=h x;rw[List.flatMap_cons,List.length_append,List.length_cons,Nat.succ_mul]
  omega
theorem outGo_len:∀(ns pre:List Nat),(∀n∈ns,n≤4)→(outGo ns pre).length≤4^ns.length
 |[],pre,_=>by simp[outGo]
 |n::ns,pre,h=>by
  rw[outGo];have h1:=flat_len (f:=fun k=>outGo ns (pre++[k])) (B:=4^ns.length) (List.range n) (fun k=>outGo_len ns _ (fun m hm=>h m (by simp[hm])));rw[List.length_range] at h1;have h2:=h n zS;have h3:=Nat.mul_le_mul_right (4^ns.length) h2;rw[List.length_cons,Nat.pow_succ,Nat.mul_comm _ 4]
  omega
theorem outs_len {c:Cs}{l:List Prb}(hp:probesErr c l=0){s:List Nat}(hs:s.length≤5):(outsOf (cntsOf c l s)).length≤1024:=by
 have h1:=outGo_len (cntsOf c l s) [] (fun n hn=>by
  obtain⟨v,_,rfl⟩:=List.mem_map.1 hn
  rcases hv:l[v]? with _|p
  ·simp
  ·exact((probes_ok hp).2.2 p (List.mem_of_getElem? hv)).2.2)
 have h2:(cntsOf c l s).length=s.length:=by simp[cntsOf]
 rw[h2] at h1;exact Nat.le_trans h1 (Nat.le_trans (Nat.pow_le_pow_right zO hs) (by decide))
theorem set_ge {m:Nat}{S:List Int}(h:setB m S=true):∀(k:Nat) (x:Int),S[k]?=some x→(k:Int)≤x
 |0,x,hx=>by
  obtain⟨v,rfl,_⟩:=set_val h hx
  omega
 |k+1,x,hx=>by
  have hk:=(List.getElem?_eq_some_iff.1 hx).1;obtain⟨y,hy⟩:=get_of_lt S (k:=k) zO;have ih:=set_ge h k y hy;have h1:=upto_iff.1 h (k+1) hk;rw[setAt_succ hx hy] at h1;simp at h1
  omega
theorem set_len {m:Nat}{S:List Int}(h:setB m S=true):S.length≤m:=by
 rcases hn:S.length with _|n
 ·omega
 ·obtain⟨x,hx⟩:=get_of_lt S (k:=n) zO;have h1:=set_ge h n x hx;obtain⟨v,rfl,hv⟩:=set_val h hx
  omega
section
variable {t:Nat}{c:Cs}{pa:Option Addr}{pc:Nat}{l:List Prb}{qa:Option Addr}{qc:Nat}
end
theorem app_new9 {W:World}{a:Option Addr}{c:Nat}{l:List Int}(h:Ints W a l)(hl:l.length≤100000):
 ∃a' c' U,(Builtin.append_ #[26,26] 26 #[.slice (some ⟨W.heap.size,0,none⟩) 0 0,.slice a l.length c]).run Tryz.prog (W.alloc (.cells #[] 3)) = .ok (.slice a' l.length c') U∧Ints U a' l∧l.length≤c'∧(∀b o,a'=some ⟨b,o,none⟩→0<l.length→W.heap.size≤b)∧Below W.heap.size W U:=by
 obtain⟨v',U,hrun,hown,hg,_⟩:=run_append_row (P:=Tryz.prog) (W.alloc (.cells #[] 3)) W.heap.size 26 26 3 (.int .i64 0) 1 8 Tryz.underlying26 info_int rfl zO
  (.slice (some ⟨W.heap.size,0,none⟩) 0 0) 0 [] (ownsRow_empty W _ _ _ (Nat.le_refl _)) a l.length c (l.map (.int .i64)) zS (h.below ((Below.refl _ W).alloc (Nat.le_refl _) _)) (ints_one l) zO zO zS
 obtain⟨a',c',rfl,hr,hcap⟩:=ownsRow_own hown;have hr':RowOwn W.heap.size U a' (l.map (Value.int .i64)):=by simpa using hr
 refine⟨a',c',U,by simpa using hrun,ints_rowOwn hr',by simpa using hcap,fun b o ha hl=>rowOwn_block hr' ha hl,?_⟩;exact((Below.refl _ W).alloc (Nat.le_refl _) _).trans ((grown_below (ownsRow_empty W W.heap.size _ 1 (Nat.le_refl _)) hg (Nat.le_refl _) zS))
theorem app_full {W:World}{ba:Option Addr}{pre:List Nat}(h:Ints W ba (natInts pre))(hn:pre=[]→ba=none)(hl:pre.length≤1000)(k:Nat):
 ∃v' U,(Builtin.append_ #[26,26] 26 #[.slice ba pre.length pre.length,.slice (some ⟨W.heap.size,0,none⟩) 1 1]).run Tryz.prog (W.alloc (.cells #[.int .i64 k] 3)) = .ok v' U∧U.ownsRow W.heap.size 3 1 v' (pre.length+1) ((natInts (pre++[k])).map (Value.int .i64))∧Below W.heap.size W U:=by
 have hb:=Box.new W #[.int .i64 (k:Int)] 3
 rcases pre with _|⟨x,pre⟩
 ·rw[hn rfl];obtain⟨v7,w7,h1,h2,h3⟩:=app_one (E:=3) (TT:=26) Tryz.underlying26 info_int rfl zO (ownsRow_nil W W.heap.size 3 1) zO (Nat.le_refl _) (.int .i64 (k:Int)) rfl;exact⟨v7,w7,h1,by simpa[natInts] using h2,h3⟩
 ·obtain⟨b,o,rfl,hc⟩:=h.base (by simp[natInts]);obtain⟨i,hi,hz⟩:=Option.map_eq_some_iff.1 info_int;simp only[Prod.mk.injEq] at hz;obtain⟨z1,z2,z3⟩:=hz;have hbl:Below W.heap.size W (W.alloc (.cells #[.int .i64 (k:Int)] 3)):=(Below.refl _ W).alloc (Nat.le_refl _) _;obtain⟨v',U,h1,h2,h3⟩:=run_append_arg_grows (P:=Tryz.prog) (w:=W.alloc (.cells #[.int .i64 (k:Int)] 3)) 26 26 3 i (.int .i64 0) 1 8 Tryz.underlying26 hi z1 z2 z3 rfl zO
   ⟨b,o,none⟩ (x::pre).length (x::pre).length ((natInts (x::pre)).map (Value.int .i64)) (by simp[natInts]) (fun j u hu=>by
    obtain⟨y,hy,rfl⟩:=List.getElem?_map .. ▸ hu |> Option.map_eq_some_iff.1;rw[add_plain];exact below_cell hbl (hc j y hy))
   ⟨W.heap.size,0,none⟩ 1 1 [.int .i64 (k:Int)] rfl (fun j u hu=>by
    rw[add_plain,Nat.zero_add,hb.cell]
    simpa using hu) zO (by unfold maxLen;omega) zO
  refine⟨v',U,h1,?_,hbl.grown h3 zS (fun j hj=>by cases hj)⟩;have:=ownsRow_low h2 (B:=W.heap.size) zS
  simpa[natInts] using this
theorem outGo_room {c:Cs}{l:List Prb}(hz:probesErr c l=0){s:List Nat}(hs:s.length≤5)(pre:List Nat)(k:Nat)(hk:k≤4):((List.range k).flatMap fun j=>outGo (cntsOf c l s) (pre++[j])).length+1024≤1000000:=by
 have hc:∀n∈cntsOf c l s,n≤4:=fun n hn=>by
  simp only[cntsOf,List.mem_map] at hn;obtain⟨v,hv,rfl⟩:=hn
  split
  ·rename_i p hp
   exact((probes_ok hz).2.2 p (List.mem_of_getElem? hp)).2.2
  ·omega
 have hl:(cntsOf c l s).length=s.length:=by simp[cntsOf]
 have h1:=flat_len (f:=fun j=>outGo (cntsOf c l s) (pre++[j])) (B:=4^(cntsOf c l s).length) (List.range k) (fun j=>outGo_len _ _ hc);rw[List.length_range,hl] at h1;have h2:4^s.length≤4^5:=Nat.pow_le_pow_right zO hs;have h3:k*4^s.length≤4*4^5:=Nat.mul_le_mul hk h2
 omega
theorem outGo_max {c:Cs}{l:List Prb}(hz:probesErr c l=0){s:List Nat}(hs:s.length≤5)(pre:List Nat):(outGo (cntsOf c l s) pre).length≤1024:=by
 have hc:∀n∈cntsOf c l s,n≤4:=fun n hn=>by
  simp only[cntsOf,List.mem_map] at hn;obtain⟨v,hv,rfl⟩:=hn
  split
  ·rename_i p hp
   exact((probes_ok hz).2.2 p (List.mem_of_getElem? hp)).2.2
  ·omega
 have hl:(cntsOf c l s).length=s.length:=by simp[cntsOf]
 have h1:=outGo_len (cntsOf c l s) pre hc;rw[hl] at h1;have h2:4^s.length≤4^5:=Nat.pow_le_pow_right zO hs
 omega
theorem outcomesR9_any {c:Cs}{l:List Prb}(hz:probesErr c l=0)(s:List Nat)(hs:∀v∈s,v<l.length)(hsl:s.length≤5)(pa:Option Addr)(pc:Nat)(qa:Option Addr)(qc:Nat)(sa:Option Addr)(sc:Nat):∀(r:Nat) (pre:List Nat) (ba:Option Addr) (bc:Nat) (w:World),pre.length+r=s.length→(pre=[]→ba=none∧bc=0)→pre.length≤bc→PartsAt w pa c.parts→PrbsAt w qa l→Ints w sa (natInts s)→Ints w ba (natInts pre) →
 Calls Tryz.prog 111 #[.agg #[.string c.ware,.int .i64 c.limit,.int .i64 c.by_,.slice pa c.parts.length pc],.slice qa l.length qc,.slice sa s.length sc,.slice ba pre.length bc] w fun e w'=>∃v,e = .returned v∧RowsV w.heap.size (fun b=>w.heap.size≤b) w' v (outGo (cntsOf c l (s.drop pre.length)) pre)∧Below w.heap.size w w'
 |0,pre,ba,bc,w,hlen,hn,hbc,hp,hq,hS,hb=>by
  have hpl:((pre.length:Int)==(s.length:Int))=true:=by simp;omega
  have HDR:=zh (show outGo (cntsOf c l (s.drop pre.length)) pre=[pre] by rw[List.drop_of_length_le zO];rfl);obtain⟨w1,hw1⟩:=zx (w.alloc (.cells #[.string c.ware,.int .i64 c.limit,.int .i64 c.by_,.slice pa c.parts.length pc] 24));have hB1:Below w.heap.size w w1:=by rw[←hw1];go_grown
  obtain⟨a',c',U,hrun,hu1,hu2,hu3,hu4⟩:=app_new9 (c:=bc) (hb.below hB1) (by rw[nat_len];omega);rw[nat_len] at hrun hu2 hu3;have HRN:=zh hrun;have HU1:=zh hu1;have HU3:=zh hu3;have HBU:=zh (hB1.trans (hu4.mono hB1.size));have HSZ:=zh (show w.heap.size≤w1.heap.size from hB1.size);have HW:=zh hw1;have HS4:=zh hu4.size;clear hrun hu1 hu3 hu4 hB1 hw1 hp hq hS hb hlen
  go_enter Tryz.func111,Tryz.ntmps111
  go_upto_region 1 with fail
  simp only[HW.out]
  go_wp2_with (at_builtin;refine wpList_app rfl _ _ _ rfl rfl rfl HRN.out ?_)
  go_ret
  rw[HDR.out];refine⟨.slice (some ⟨U.heap.size,0,none⟩) 1 1,rfl,⟨[(pre,a',c')],rfl,ownsRow_one (Box.new _ _ _) HBU.out.size,fun z hz=>?_⟩,HBU.out.alloc HBU.out.size _⟩;rw[List.mem_singleton.1 hz];refine⟨HU1.out.below ((Below.refl _ U).alloc (Nat.le_refl _) _),hu2,fun b o ha hl=>⟨?_,?_⟩⟩
  ·have:=ints_lt HU1.out ha (by simpa[natInts] using hl)
   simp[Value.ownBlock]
   omega
  ·have:=HU3.out b o ha hl;have:=HSZ.out
   omega
 |r+1,pre,ba,bc,w,hlen,hn,hbc,hp,hq,hS,hb=>by
  have hpl:((pre.length:Int)==(s.length:Int))=false:=by simp;omega
  obtain⟨v,hv⟩:=get_of_lt s (k:=pre.length) zO;have hvl:=hs v (List.mem_of_getElem? hv);obtain⟨pr,hpr⟩:=get_of_lt l hvl;obtain⟨i,q,hi,hqq,⟨s1,s2,s3⟩,v1,v2⟩:=cnt_at9 hz hpr;have hm4:=((probes_ok hz).2.2 pr (List.mem_of_getElem? hpr)).2.2;have hspn:=spanOf_at (d:=c) (p:=pr) (q:=q) (by rw[hi];simpa using hqq);have hcz:=cnt_toNat (s:=q.span) (v:=pr.width) zO s2;have HCN:=zh (fun W h=>countR9_any hi hqq s1 s2 s3 v1 v2 pa pc W h);rw[hcz] at HCN;rw[hspn] at hm4;have hdrop:s.drop pre.length=v::s.drop (pre.length+1):=by
   rw[List.drop_eq_getElem_cons zO]
   congr 1
   exact(List.getElem?_eq_some_iff.1 hv).2
  have HDR:=zh (show outGo (cntsOf c l (s.drop pre.length)) pre=(List.range (cntN q.span pr.width)).flatMap fun j=>outGo (cntsOf c l (s.drop (pre.length+1))) (pre++[j]) by
   rw[hdrop];simp only[cntsOf,List.map_cons,hpr,hspn,outGo])
  have HRM:=zh (fun k (hk:k≤4)=>outGo_room hz (s:=s.drop (pre.length+1)) (by rw[List.length_drop];omega) pre k hk);have HMX:=zh (fun k=>outGo_max hz (s:=s.drop (pre.length+1)) (by rw[List.length_drop];omega) (pre++[k]));have hsv:(natInts s)[pre.length]?=some (v:Int):=by simp[natInts,hv]
  obtain⟨b1,o1,rfl,q1⟩:=hS.base (by simp[natInts];omega);have hcs:=q1 _ _ hsv;obtain⟨b2,o2,pr',rfl,hpr',hG⟩:=hq.at_ hvl;rw[hpr] at hpr';cases hpr';have hIH:=fun pre ba bc w=>outcomesR9_any hz s hs hsl pa pc (some ⟨b2,o2,none⟩) qc (some ⟨b1,o1,none⟩) sc r pre ba bc w
  have HIH:=zh hIH;have hvn:(v:Int)<(l.length:Int):=by omega
  have hpn:(pre.length:Int)<(s.length:Int):=by omega
  have HLEN:=zh hlen;have HP:=zh hp;have HQ:=zh hq;have HS:=zh hS;have HI:=zh hb;have HN:=zh hn;have HG:=zh hG;have HCS:=zh hcs;clear hz hs hv hvl hpr hi hqq s1 s2 s3 v1 v2 hspn hcz hdrop hsv q1 hcs hG hIH hp hq hS hb hn hlen;generalize cntN q.span pr.width=M at *;obtain⟨w1,hw1⟩:=zx (w.alloc (.cells #[.string c.ware,.int .i64 c.limit,.int .i64 c.by_,.slice pa c.parts.length pc] 24));have hB1:Below w.heap.size w w1:=by rw[←hw1];go_grown
  have b1':Box w1 w.heap.size (csCells c pa pc) 24:=by rw[←hw1];exact Box.new _ _ _
  have hs1:w1.heap.size=w.heap.size+1:=by rw[←hw1];simp
  have HW:=zh hw1;have HB1:=zh hB1;have HX1:=zh b1';have HS1:=zh hs1;clear hw1 hB1 b1' hs1
  go_enter Tryz.func111,Tryz.ntmps111
  go_upto_region 1 with fail
  simp only[HW.out]
  go_wp2_with fail
  go_loopw [9,10] (fun ov kv wr=>∃k:Nat,k≤M∧kv = .int .i64 k∧RowsV (w.heap.size+1) (fun b=>w.heap.size≤b) wr ov ((List.range k).flatMap fun j=>outGo (cntsOf c l (s.drop (pre.length+1))) (pre++[j]))∧Box wr w.heap.size (csCells c pa pc) 24∧Below w.heap.size w wr) (fun _ kv _=>M-(intOf kv).toNat)
  case atStart=>exact⟨0,Nat.zero_le _,rfl,RowsV.nil _ _ _,HX1.out,HB1.out⟩
  case round=>
   obtain⟨k,hk,rfl,hrows,hbx,hbw⟩:=hrel;have HR:=zh hrows;have HBX:=zh hbx;have HBW:=zh hbw;have hxl:=hbx.lt;have hub:∀g,u9.ownBlock=some g→w.heap.size+1≤g∧g<wr.heap.size:=fun g hg=>by
    obtain⟨_,_,h,_⟩:=hrows;exact h.lt g hg
   have K0:Hid (∀A,Below wr.heap.size wr A→cC A (w.heap.size) c pa pc∧A.cell? ⟨b1,o1+pre.length,none⟩=some (.int .i64 (v:Int))∧A.cell? ⟨b2,o2+v*4,none⟩=some (.int .i64 pr.id)∧A.cell? ⟨b2,o2+v*4+1,none⟩=some (.int .i64 pr.part)∧A.cell? ⟨b2,o2+v*4+2,none⟩=some (.int .i64 pr.width)∧A.cell? ⟨b2,o2+v*4+3,none⟩=some (.int .i64 pr.cost)):=
    zh fun A hA=>⟨(hbx.below' hA).cell,below_cell (hbw.trans (hA.mono hbw.size)) HCS.out,(HG.out.below (hbw.trans (hA.mono hbw.size))).open⟩
   clear hrows hbx hbw
   go_upto_region 5 with fail
   refine wp_region_L (fun A=>Below wr.heap.size wr A) 12 zK ?_;have hSS:Below wr.heap.size wr wr.drew:=(Below.refl _ wr).drew;generalize wr.drew=w4 at *;refine tM K0 0 hSS ?_;refine tM K0 1 hSS ?_;refine tM K0 2 hSS ?_;refine tM K0 3 hSS ?_;refine tM K0 4 hSS ?_;refine tM K0 5 hSS ?_;refine tM K0 6 hSS ?_;refine tM K0 7 hSS ?_;refine tM K0 8 hSS ?_;refine tM K0 9 hSS ?_;refine anyL_call (i:=10) (f:=54) (args:=#[.agg #[.string c.ware,.int .i64 c.limit,.int .i64 c.by_,.slice pa c.parts.length pc],.agg #[.int .i64 pr.id,.int .i64 pr.part,.int .i64 pr.width,.int .i64 pr.cost]]) rfl zK (by rfl) (by go_simp) (HCN.out _ (HP.out.below (HBW.out.trans (hSS.mono HBW.out.size)))) ?_;rintro e5 w5 ⟨rfl,hb5⟩;have hSS:=hSS.trans (hb5.mono hSS.size);refine .inl ⟨_,rfl,.inr hSS,?_⟩
   try simp only[pZ]
   have HR:=zh (HR.out.below hSS);have HBX:=zh (HBX.out.below' hSS);have HBW:=zh (HBW.out.trans (hSS.mono HBW.out.size));have hxl:=HBX.out.lt;have hub:∀g,u9.ownBlock=some g→w.heap.size+1≤g∧g<w5.heap.size:=fun g hg=>⟨(hub g hg).1,by have:=(hub g hg).2;have:=hSS.size;omega⟩
   clear hb5
   by_cases hkM:k<M
   ·have hkn:(k:Int)<(M:Int):=by omega
    refine tM K0 11 hSS ?_;refine anyL_done zK ?_ _;clear hSS K0
    go_upto_region 7 with fail
    have KB:∀A,Keep (fun g=>g<w5.heap.size∧u9.ownBlock≠some g) w5 A→Below w.heap.size w A:=fun A hA=>HBW.out.trans ((hA.mono (fun g (hg:g<w.heap.size)=>⟨zO,fun h=>by have:=(hub _ h).1;omega⟩)).below zO)
    have KX:∀A,Keep (fun g=>g<w5.heap.size∧u9.ownBlock≠some g) w5 A→Box A w.heap.size (csCells c pa pc) 24:=fun A hA=>hA.heap ⟨hxl,fun h=>by have:=(hub _ h).1;omega⟩ HBX.out
    have K0:Hid (∀A,Keep (fun g=>g<w5.heap.size∧u9.ownBlock≠some g) w5 A→∀i,A.cell? ⟨w.heap.size,i,none⟩=(#[.string c.ware,.int .i64 c.limit,.int .i64 c.by_,.slice pa c.parts.length pc]:Array Value)[i]?):=zh fun A hA=>(KX A hA).cell
    refine wp_region_L (fun A=>Keep (fun g=>g<w5.heap.size∧u9.ownBlock≠some g) w5 A) 15 zK ?_;have hSS:Keep (fun g=>g<w5.heap.size∧u9.ownBlock≠some g) w5 w5.drew:=(Keep.refl _ w5).drew;have hb6:Below w5.heap.size w5 w5.drew:=(Below.refl _ w5).drew;generalize w5.drew=w6 at *;refine tM K0 0 hSS ?_;refine tM K0 1 hSS ?_;refine tM K0 2 hSS ?_;refine tM K0 3 hSS ?_;refine tM K0 4 hSS ?_;refine tM K0 5 hSS ?_;refine tM K0 6 hSS ?_;refine tM K0 7 hSS ?_;refine tM K0 8 hSS ?_;refine tM K0 9 hSS ?_;refine tM K0 10 hSS ?_;have hia:=HI.out.below (KB w6 hSS);obtain⟨v7,w7,hrun,hown,hb7⟩:=app_full hia (fun h=>(HN.out h).1) (by have:=HLEN.out;omega) k;have hal:Below w6.heap.size w6 (w6.alloc (.cells #[.int .i64 (k:Int)] 3)):=(Below.refl _ w6).alloc (Nat.le_refl _) _
    have hbal:Below w5.heap.size w5 (w6.alloc (.cells #[.int .i64 (k:Int)] 3)):=hb6.trans (hal.mono hb6.size);refine anyL_run (i:=11) (v:=.slice (some ⟨w6.heap.size,0,none⟩) 1 1) (w':=w6.alloc (.cells #[.int .i64 (k:Int)] 3)) rfl zK (by rfl) (by go_simp) (.inr (Keep.of_below' hbal)) ?_
    try simp only[pZ]
    have hb57:=hb6.trans (hb7.mono hb6.size);have hs56:=hb6.size;obtain⟨a7,c7,rfl,hro7,hc7⟩:=ownsRow_own hown;refine anyL_run (i:=12) (v:=.slice a7 (pre.length+1) c7) (w':=w7) rfl zK (by rfl) ?_ (.inr (Keep.of_below' hb57)) ?_
    ·refine exec_app (v:=.slice ba pre.length pre.length) (u:=.slice (some ⟨w6.heap.size,0,none⟩) 1 1) _ _ 26 rfl (by rfl) (by rfl) ?_;exact hrun
    try simp only[pZ]
    have hlw:=KB w7 (Keep.of_below' hb57);have hall:=HIH.out (pre++[k]) a7 c7 w7 (by have:=HLEN.out;rw[List.length_append,List.length_singleton];omega) (fun h=>by simp at h) (by rw[List.length_append,List.length_singleton];exact hc7) (HP.out.below hlw) (HQ.out.below hlw) (HS.out.below hlw) (ints_rowOwn hro7);rw[List.length_append,List.length_singleton] at hall;refine anyL_call (i:=13) (f:=111) rfl zK (by rfl) ?_ hall ?_
    ·go_simp
    rintro e8 w8 ⟨v8,rfl,hr8,hb8⟩;have hb58:=hb57.trans (hb8.mono hb57.size);refine .inl ⟨v8,rfl,.inr (Keep.of_below' hb58),?_⟩
    try simp only[pZ]
    have hr9:RowsV (w.heap.size+1) (fun b=>w.heap.size≤b∧u9.ownBlock≠some b) w8 v8 (outGo (cntsOf c l (s.drop (pre.length+1))) (pre++[k])):=hr8.less (by have:=hb57.size;omega) (fun b hb=>⟨by have:=hb57.size;omega,fun h=>by have:=(hub b h).2;have:=hb57.size;omega⟩);obtain⟨v9,w9,hrun9,hr10,k9,_⟩:=rows_app (HR.out.below hb58) hr9 (by have:=HRM.out k zO;have:=HMX.out k;omega) (by have:=hb58.size;omega);refine anyL_run (i:=14) (v:=v9) (w':=w9) rfl zK (by rfl) ?_ (.inr (((Keep.refl _ w5).trans (Keep.of_below' hb58)).trans (k9.mono fun k hk=>hk.2))) ?_
    ·refine exec_app (v:=u9) (u:=v8) _ _ 49 rfl (by rfl) (by rfl) ?_;exact hrun9
    try simp only[pZ]
    refine anyL_run (i:=15) (v:=v9) (w':=w9) rfl zK (by rfl) (by go_simp) (.inl rfl) ?_
    try simp only[pZ]
    refine anyL_done zK ?_ _;have hx9:Box w9 w.heap.size (csCells c pa pc) 24:=k9.heap (fun h=>by have:=(hub _ h).1;omega) (HBX.out.below' hb58);have hw9:Below w.heap.size w w9:=(HBW.out.trans (hb58.mono HBW.out.size)).trans ((k9.mono fun k (hk:k<w.heap.size) h=>by have:=(hub _ h).1;omega).below (by have:=hb58.size;omega));have HR9:=zh hr10;have HX9:=zh hx9;have HW9:=zh hw9;clear hr10 hx9 hw9 k9 hr9 hr8 hall hro7 hb8 hb58 hb57 hb7 hb6 hal hbal hrun hrun9 hlw hia hs56 K0 KB KX hSS hown
    go_wp2_with fail
    go_roundw
    case rel=>exact⟨k+1,zO,zN,by rw[List.range_succ,List.flatMap_append,List.flatMap_singleton];exact HR9.out,HX9.out,HW9.out⟩
    case measure=>simp[intOf];omega
   ·obtain rfl:k=M:=by omega
    have hkn:¬(k:Int)<(k:Int):=by omega
    refine tM K0 11 hSS ?_;refine anyL_done zK ?_ _;clear hSS K0
    go_wp2_with fail
    go_ret
    refine⟨_,rfl,?_,HBW.out⟩;rw[HDR.out];exact HR.out.less zO (fun b hb=>hb)
theorem askedPairR9_any (c:Cs)(hsm:c.Small)(pa:Option Addr)(pc:Nat)(l:List Prb)(qa:Option Addr)(qc:Nat)(a b:Int)(sa:Option Addr)(S:List Int)(sc:Nat)(hSl:S.length≤1000000)(w:World)(hp:PartsAt w pa c.parts)(hq:PrbsAt w qa l)(hS:Ints w sa S):
 Calls Tryz.prog 36 #[.agg #[.string c.ware,.int .i64 c.limit,.int .i64 c.by_,.slice pa c.parts.length pc],.slice qa l.length qc,.int .i64 a,.int .i64 b,.slice sa S.length sc] w fun e w'=>e = .returned (.int .i64 (xErr c l (twoB c.parts.length a b&&setB l.length S)))∧Below w.heap.size w w':=by
 obtain⟨w1,hw1⟩:=zx (w.alloc (.cells #[.string c.ware,.int .i64 c.limit,.int .i64 c.by_,.slice pa c.parts.length pc] 24));have hB1:Below w.heap.size w w1:=by rw[←hw1];go_grown
 have b1:Box w1 w.heap.size (csCells c pa pc) 24:=by rw[←hw1];exact Box.new _ _ _
 have e1:=zC (b1);have HW:=zh hw1;have HX:=zh b1;have HB1:=zh hB1;have HP:=zh (hp.below hB1);have HQ:=zh (hq.below hB1);have HS:=zh (hS.below hB1);have HCP:=zh (checkProbesR_any c hsm pa pc l qa qc w1 (hp.below hB1) (hq.below hB1));clear hw1 b1 hB1 hp hq hS
 by_cases hz:probesErr c l=0
 ·have hl5:=(probes_ok hz).2.1;have h8:=check_small (c:=c) (ps:=[]) (by simp[openErr,(probes_ok hz).1]);have HXW:=zh (fun(h:(twoB c.parts.length a b&&setB l.length S)=true)=>xErr_whole hz h);have HXN:=zh (fun(h:(inB a 0 ((c.parts.length:Int)-1)&&inB b 0 ((c.parts.length:Int)-1)&&(a != b)&&setB l.length S)=false)=>show xErr c l (twoB c.parts.length a b&&setB l.length S)=1 by simp only[xErr,hz,twoB,h];simp);rw[hz] at HCP;clear hz
  go_enter Tryz.func36,Tryz.ntmps36
  go_upto_region 1 with fail
  simp only[HW.out]
  go_wp2_with fail
  refine zM HCP ?_;rintro e w2 ⟨rfl,hb2⟩;have HIS:=zh (isSetR9_any qa l.length qc zO sa S sc w2 (HS.out.below hb2) hSl);have HX2:=zh (HX.out.below' hb2);have HP2:=zh (HP.out.below hb2);have HBW:=zh (HB1.out.trans (hb2.mono HB1.out.size));have e2:=zC (HX2.out);clear hb2 e1
  go_wp2_with fail
  (with_reducible refine(withinR9_any _ _ _ _).mono ?_)
  rintro e9 w9 ⟨rfl,rfl⟩
  rcases hA:inB a 0 ((c.parts.length:Int)-1) with _|_
  ·have HER:=zh (HXN.out (by simp[hA]));clear hA
   go_wp2_with fail
   go_ret
   refine⟨?_,HBW.out⟩;rw[HER.out];rfl
  have HA:=zh hA;clear hA
  go_wp2_with fail
  (with_reducible refine(withinR9_any _ _ _ _).mono ?_)
  rintro e9 w9 ⟨rfl,rfl⟩
  rcases hBb:inB b 0 ((c.parts.length:Int)-1) with _|_
  ·have HER:=zh (HXN.out (by simp[hBb]));clear hBb
   go_wp2_with fail
   go_ret
   refine⟨?_,HBW.out⟩;rw[HER.out];rfl
  have HBB:=zh hBb;clear hBb
  by_cases hab:a=b
  ·have HER:=zh (HXN.out (by simp[hab]));subst hab
   go_wp2_with fail
   go_ret
   refine⟨?_,HBW.out⟩;rw[HER.out];rfl
  have hne:(a==b)=false:=beq_eq_false_iff_ne.2 hab;have HNE:=zh (show(a != b)=true by simp[bne,hne]);clear hab
  go_wp2_with fail
  refine zM HIS ?_;rintro e w3 ⟨rfl,hb3⟩;have HWH:=zh (wholeR9_any c hsm pa pc w3 (HP2.out.below hb3));have e3:=zC ((HX2.out.below' hb3));have HBW:=zh (HBW.out.trans (hb3.mono HBW.out.size));clear hb3 e2
  rcases hset:setB l.length S with _|_
  ·have HER:=zh (HXN.out (by simp[hset]));clear hset
   go_wp2_with fail
   go_ret
   refine⟨?_,HBW.out⟩;rw[HER.out];rfl
  ·have HER:=zh (HXW.out (by simp only[twoB,HA.out,HBB.out,HNE.out,hset];rfl));clear hset
   go_wp2_with fail
   refine zM HWH ?_;rintro e w4 ⟨rfl,hb4⟩;have HBW:=zh (HBW.out.trans (hb4.mono HBW.out.size));clear hb4 e3
   go_wp2_with fail
   go_ret
   refine⟨?_,HBW.out⟩;rw[HER.out];rfl
 ·have HER:=zh (show xErr c l (twoB c.parts.length a b&&setB l.length S)=probesErr c l by simp[xErr,hz]);obtain⟨er,her⟩:=zx (probesErr c l);rw[her] at hz HCP HER;have hzb:(er != 0)=true:=by simpa using hz
  clear her
  go_enter Tryz.func36,Tryz.ntmps36
  go_upto_region 1 with fail
  simp only[HW.out]
  go_wp2_with fail
  refine zM HCP ?_;rintro e w2 ⟨rfl,hb2⟩;have HBW:=zh (HB1.out.trans (hb2.mono HB1.out.size));clear hb2 e1
  go_wp2_with fail
  go_ret
  refine⟨?_,HBW.out⟩;rw[HER.out];rfl
theorem decidedR9_any {c:Cs}{l:List Prb}(hsm:c.Small)(hz:probesErr c l=0)(pa:Option Addr)(pc:Nat)(qa:Option Addr)(qc:Nat){a b:Nat}(ha:a<c.parts.length)(hb:b<c.parts.length)(sa:Option Addr)(s:List Nat)(sc:Nat)(fa:Option Addr)(fs:List Nat)(fc:Nat)(hs:∀v∈s,v<l.length)(hff:FoundFor c l s fs)(hsl:s.length≤1000)(w:World)(hp:PartsAt w pa c.parts)(hq:PrbsAt w qa l)(hS:Ints w sa (natInts s))(hF:Ints w fa (natInts fs)):
 Calls Tryz.prog 112 #[.agg #[.string c.ware,.int .i64 c.limit,.int .i64 c.by_,.slice pa c.parts.length pc],.slice qa l.length qc,.int .i64 (a:Int),.int .i64 (b:Int),.slice sa s.length sc,.slice fa fs.length fc] w fun e w'=>e = .returned (.bool (sureB c l a b s fs))∧Below w.heap.size w w':=by
 obtain⟨w1,hw1⟩:=zx (w.alloc (.cells #[.string c.ware,.int .i64 c.limit,.int .i64 c.by_,.slice pa c.parts.length pc] 24));have hB1:Below w.heap.size w w1:=by rw[←hw1];go_grown
 have b1:Box w1 w.heap.size (csCells c pa pc) 24:=by rw[←hw1];exact Box.new _ _ _
 have e1:=zC (b1);have HW:=zh hw1;have HX:=zh b1;have HB1:=zh hB1;have HP:=zh (hp.below hB1);have HQ:=zh (hq.below hB1);have HS:=zh (hS.below hB1);have HC:=zh (canR9_any hsm hz pa pc qa qc sa s sc fa fs fc hs hff hsl w1 HP.out HQ.out HS.out (hF.below hB1));have HAF:=zh (fun W (hb:Below w1.heap.size w1 W)=>afterR9_any hsm hz pa pc qa qc sa s sc fa fs fc hs hff hsl W (HP.out.below hb) (HQ.out.below hb) (HS.out.below hb) ((hF.below hB1).below hb));have HPR:=zh hz;clear hw1 hB1 b1 hp hq hS hF hz hs hff hsl HP HQ HS
 rcases hcan:canC c l s fs with _|d
 ·rw[hcan] at HC;have HR:=zh (show sureB c l a b s fs=true by unfold sureB;rw[hcan]);clear HAF HPR hcan
  go_enter Tryz.func112,Tryz.ntmps112
  go_upto_region 1 with fail
  simp only[HW.out]
  go_wp2_with fail
  refine zM HC ?_;rintro e w2 ⟨rfl,hb2⟩;have HB:=zh (HB1.out.trans (hb2.mono HB1.out.size));clear hb2 e1
  go_wp2_with fail
  go_ret
  exact⟨by rw[HR.out];rfl,HB.out⟩
 ·rw[hcan] at HC;obtain⟨hok,hned,haft⟩:=canC_ok HPR.out hcan;rw[haft] at HAF;have HR:=zh (show sureB c l a b s fs=(ansAt d a b != 3) by unfold sureB;rw[hcan]);have hsd:=zh (small_of hok.chk);have HAK:=zh (ask_two hok.chk hned (a:=a) (b:=b) (by rw[hok.len];exact ha) (by rw[hok.len];exact hb));clear hok hned haft hcan HPR ha hb
  go_enter Tryz.func112,Tryz.ntmps112
  go_upto_region 1 with fail
  simp only[HW.out]
  go_wp2_with fail
  refine zM HC ?_;rintro e w3 ⟨rfl,hb3⟩;have HX:=zh (HX.out.below' hb3);have HB:=zh (HB1.out.trans (hb3.mono HB1.out.size));have HA3:=zh (HAF.out w3 hb3);clear hb3 e1 HC HAF HW HB1;have e1:=zC (HX.out)
  go_wp2_with fail
  refine zM HA3 ?_;rintro e w4 ⟨hb4,cs,bb,rfl,(⟨h1,rfl,rfl⟩|⟨d',ba,bc,h1,rfl,rfl,hpd⟩)⟩
  ·exact absurd h1 zS
  cases h1;obtain⟨w5,hw5⟩:=zx (w4.alloc (.cells #[.string d.ware,.int .i64 d.limit,.int .i64 d.by_,.slice ba d.parts.length bc] 24));have hb5:Below w4.heap.size w4 w5:=by rw[←hw5];go_grown
  have x5:Box w5 w4.heap.size (csCells d ba bc) 24:=by rw[←hw5];exact Box.new _ _ _
  have HB5:=zh ((HB.out.trans (hb4.mono HB.out.size)).trans (hb5.mono (Nat.le_trans HB.out.size hb4.size)));have HAN:=zh (answerTop_ref d hsd.out ba bc a b w5 (hpd.at_.below hb5));rw[HAK.out,Int.toNat_natCast,Int.toNat_natCast] at HAN;have e5:∀i,w5.cell? ⟨w4.heap.size,i,none⟩=(#[.string d.ware,.int .i64 d.limit,.int .i64 d.by_,.slice ba d.parts.length bc]:Array Value)[i]?:=x5.cell;have HW5:=zh hw5;clear hb4 hw5 hb5 x5 e1 hpd HA3;obtain⟨an,han⟩:=zx (ansAt d a b);rw[han] at HR HAN;clear han
  go_upto_region 4 with fail
  simp only[HW5.out]
  go_wp2_with fail
  refine zM HAN ?_;rintro e w6 ⟨hb6,rfl⟩;have HB6:=zh (HB5.out.trans (hb6.mono HB5.out.size));clear hb6 e5
  go_wp2_with fail
  go_ret
  refine⟨?_,HB6.out⟩;rw[HR.out]
  first|rfl|(simp[bne];done)|(by_cases h3:an=3<;>simp[h3])
theorem outs_ref {c:Cs}{l:List Prb}(hz:probesErr c l=0)(s:List Nat)(hs:∀v∈s,v<l.length)(hsl:s.length≤5)(pa:Option Addr)(pc:Nat)(qa:Option Addr)(qc:Nat)(sa:Option Addr)(sc:Nat)(w:World)(hp:PartsAt w pa c.parts)(hq:PrbsAt w qa l)(hS:Ints w sa (natInts s)):
 Calls Tryz.prog 111 #[.agg #[.string c.ware,.int .i64 c.limit,.int .i64 c.by_,.slice pa c.parts.length pc],.slice qa l.length qc,.slice sa s.length sc,.slice none 0 0] w fun e w'=>∃a cap,e = .returned (.slice a (outsOf (cntsOf c l s)).length cap)∧RowsAt w' a (outsOf (cntsOf c l s))∧Below w.heap.size w w':=by
 refine(outcomesR9_any hz s hs hsl pa pc qa qc sa sc s.length [] none 0 w zS (fun _=>⟨rfl,rfl⟩) (Nat.zero_le _) hp hq hS (Ints.nil _ _)).mono ?_;rintro e w' ⟨v,rfl,hr,hb⟩;obtain⟨a,cap,rfl,hat⟩:=hr.at_;refine⟨a,cap,rfl,?_,hb⟩;intro k x hx;exact hat k x hx
def FirstRPost (o:Option (List Nat))(w:World)(e:Ending)(w':World):Prop:=
 Below w.heap.size w w'∧((o=none∧e = .returned (.tuple #[.slice none 0 0,.bool false]))∨∃x a cap,o=some x∧e = .returned (.tuple #[.slice a x.length cap,.bool true])∧Ints w' a (natInts x))
theorem decidesR9_any {c:Cs}{l:List Prb}(hsm:c.Small)(hz:probesErr c l=0)(pa:Option Addr)(pc:Nat)(qa:Option Addr)(qc:Nat){a b:Nat}(ha:a<c.parts.length)(hb_:b<c.parts.length)(sa:Option Addr)(s:List Nat)(sc:Nat)(hs:∀v∈s,v<l.length)(hsl:s.length≤5)(w:World)(hp:PartsAt w pa c.parts)(hq:PrbsAt w qa l)(hS:Ints w sa (natInts s)):
 Calls Tryz.prog 163 #[.agg #[.string c.ware,.int .i64 c.limit,.int .i64 c.by_,.slice pa c.parts.length pc],.slice qa l.length qc,.int .i64 (a:Int),.int .i64 (b:Int),.slice sa s.length sc] w fun e w'=>e = .returned (.bool (decidesB c l a b s))∧Below w.heap.size w w':=by
 obtain⟨w1,hw1⟩:=zx (w.alloc (.cells #[.string c.ware,.int .i64 c.limit,.int .i64 c.by_,.slice pa c.parts.length pc] 24));have hB1:Below w.heap.size w w1:=by rw[←hw1];go_grown
 have b1:Box w1 w.heap.size (csCells c pa pc) 24:=by rw[←hw1];exact Box.new _ _ _
 have e1:=zC (b1);have HW:=zh hw1;have HX:=zh b1;have HB1:=zh hB1;have HP:=zh (hp.below hB1);have HQ:=zh (hq.below hB1);have HS:=zh (hS.below hB1);have HOU:=zh (outs_ref hz s hs hsl pa pc qa qc sa sc w1 HP.out HQ.out HS.out);have HDD:=zh (fun(x:List Nat) (hx:x∈outsOf (cntsOf c l s)) fa fc W (hb:Below w1.heap.size w1 W) (hF:Ints W fa (natInts x))=>decidedR9_any hsm hz pa pc qa qc ha hb_ sa s sc fa x fc hs ((mem_outs hs).1 hx) zO W (HP.out.below hb) (HQ.out.below hb) (HS.out.below hb) hF);have HNO:=zh (fun(h:∀y∈outsOf (cntsOf c l s),sureB c l a b s y=true)=>doubt_none h);have HAT:=zh (fun(x:List Nat) pre (h:(pre++[x]) <+: outsOf (cntsOf c l s)) (hp:∀y∈pre,sureB c l a b s y=true) (hx:sureB c l a b s x=false)=>doubt_at h hp hx);have hLL:=outs_len hz hsl (c:=c);clear hw1 hB1 b1 hp hq hS hz hs hsl HP HQ HS ha hb_
 obtain⟨L,hL⟩:=zx (outsOf (cntsOf c l s));rw[hL] at HOU HDD HNO HAT hLL;clear hL
 go_enter Tryz.func163,Tryz.ntmps163
 go_upto_region 1 with fail
 simp only[HW.out]
 go_wp2_with fail
 refine zM HOU ?_;rintro e w3 ⟨ra0,rc0,rfl,hr,hb3⟩;have HR:=zh hr;have HB3:=zh hb3;have HX3:=zh (HX.out.below' hb3);clear hr hb3 e1 HOU HW HX
 go_wp2_with fail
 go_loopw [12] (fun i wr=>∃k:Nat,k≤L.length∧i = .int .i64 k∧(∀y∈L.take k,sureB c l a b s y=true)∧Below w3.heap.size w3 wr) (fun i _=>L.length-(intOf i).toNat)
 case atStart=>exact⟨0,Nat.zero_le _,rfl,by simp,Below.refl _ _⟩
 case round=>
  obtain⟨k,hk,rfl,hall,hbw⟩:=hrel;have HBW:=zh hbw;have HAL:=zh hall;clear hall hbw
  by_cases hlt:k<L.length
  ·obtain⟨x,hx⟩:=get_of_lt L hlt;have hkl:(k:Int)<(L.length:Int):=by omega
   go_upto_region 5 with fail
   have hbd:Below wr.heap.size wr wr.drew:=(Below.refl _ wr).drew;have hb6:=HBW.out.trans (hbd.mono HBW.out.size);obtain⟨b1,o1,ra,rc,rfl,c1,hxi,_⟩:=(HR.out.below hb6) k x hx;have HDC:=zh (HDD.out x (List.mem_of_getElem? hx) ra rc wr.drew (HB3.out.trans (hb6.mono HB3.out.size)) hxi);have K0:Hid (∀A,Below wr.drew.heap.size wr.drew A→cC A (w.heap.size) c pa pc∧A.cell? ⟨b1,o1+k,none⟩=some (.slice ra x.length rc)):=
    zh fun A hA=>⟨((HX3.out.below' hb6).below' hA).cell,below_cell hA c1⟩
   have HB6:=zh hb6;have HXX:=zh hx;have HXI:=zh hxi;refine wp_region_L (fun A=>Below wr.drew.heap.size wr.drew A) 11 zK ?_;have hSS:Below wr.drew.heap.size wr.drew wr.drew:=Below.refl _ _;clear hbd hb6 c1 hx hxi HBW;generalize wr.drew=w6 at *;refine tM K0 0 hSS ?_;refine tM K0 1 hSS ?_;refine tM K0 2 hSS ?_;refine tM K0 3 hSS ?_;refine tM K0 4 hSS ?_;refine tM K0 5 hSS ?_;refine tM K0 6 hSS ?_;refine tM K0 7 hSS ?_;refine tM K0 8 hSS ?_;refine anyL_call (i:=9) (f:=112) (args:=#[.agg #[.string c.ware,.int .i64 c.limit,.int .i64 c.by_,.slice pa c.parts.length pc],.slice qa l.length qc,.int .i64 (a:Int),.int .i64 (b:Int),.slice sa s.length sc,.slice ra x.length rc]) rfl zK (by rfl) (by go_simp) HDC.out ?_;rintro e7 w7 ⟨rfl,hb7⟩;refine .inl ⟨_,rfl,.inr hb7,?_⟩
   try simp only[pZ]
   have hSS:=hb7;have HB7:=zh (HB6.out.trans (hb7.mono HB6.out.size))
   rcases hsu:sureB c l a b s x with _|_
   ·have HSU:=zh hsu;refine tM K0 10 hSS ?_;refine anyL_done zK ?_ _;have HAX:=zh (HAT.out x (L.take k) (by rw[←take_snoc HXX.out];exact List.take_prefix _ _) HAL.out hsu);clear hSS hsu K0 HDC HB6
    go_wp2_with fail
    go_ret
    exact⟨by unfold decidesB;rw[HAX.out];rfl,(HB1.out.trans (HB3.out.mono HB1.out.size)).trans (HB7.out.mono (Nat.le_trans HB1.out.size HB3.out.size))⟩
   ·have HSU:=zh hsu;refine tM K0 10 hSS ?_;refine anyL_done zK ?_ _;clear hSS hb7 hsu K0 HDC HB6
    go_wp2_with fail
    go_roundw
    case rel=>
     refine⟨k+1,zO,zN,?_,HB7.out⟩;rw[take_snoc HXX.out];intro y hy
     rcases List.mem_append.1 hy with h|h
     ·exact HAL.out y h
     ·rw[List.mem_singleton.1 h];exact HSU.out
    case measure=>simp[intOf];omega
  ·have hke:k=L.length:=by omega
   have HNN:=zh (HNO.out (by have h:=HAL.out;rwa [hke,List.take_length] at h));clear hke
   go_wp2_with fail
   go_ret
   exact⟨by unfold decidesB;rw[HNN.out];rfl,(HB1.out.trans (HB3.out.mono HB1.out.size)).trans (HBW.out.mono (Nat.le_trans HB1.out.size HB3.out.size))⟩
theorem firstR9_any {c:Cs}{l:List Prb}(hsm:c.Small)(hz:probesErr c l=0)(pa:Option Addr)(pc:Nat)(qa:Option Addr)(qc:Nat){a b:Nat}(ha:a<c.parts.length)(hb_:b<c.parts.length)(sa:Option Addr)(s:List Nat)(sc:Nat)(hs:∀v∈s,v<l.length)(hsl:s.length≤5)(w:World)(hp:PartsAt w pa c.parts)(hq:PrbsAt w qa l)(hS:Ints w sa (natInts s)):
 Calls Tryz.prog 37 #[.agg #[.string c.ware,.int .i64 c.limit,.int .i64 c.by_,.slice pa c.parts.length pc],.slice qa l.length qc,.int .i64 (a:Int),.int .i64 (b:Int),.slice sa s.length sc] w (FirstRPost (doubtOf c l a b s) w):=by
 obtain⟨w1,hw1⟩:=zx (w.alloc (.cells #[.string c.ware,.int .i64 c.limit,.int .i64 c.by_,.slice pa c.parts.length pc] 24));have hB1:Below w.heap.size w w1:=by rw[←hw1];go_grown
 have b1:Box w1 w.heap.size (csCells c pa pc) 24:=by rw[←hw1];exact Box.new _ _ _
 have e1:=zC (b1);have HW:=zh hw1;have HX:=zh b1;have HB1:=zh hB1;have HP:=zh (hp.below hB1);have HQ:=zh (hq.below hB1);have HS:=zh (hS.below hB1);have HOU:=zh (outs_ref hz s hs hsl pa pc qa qc sa sc w1 HP.out HQ.out HS.out);have HDD:=zh (fun(x:List Nat) (hx:x∈outsOf (cntsOf c l s)) fa fc W (hb:Below w1.heap.size w1 W) (hF:Ints W fa (natInts x))=>decidedR9_any hsm hz pa pc qa qc ha hb_ sa s sc fa x fc hs ((mem_outs hs).1 hx) zO W (HP.out.below hb) (HQ.out.below hb) (HS.out.below hb) hF);have HNO:=zh (fun(h:∀y∈outsOf (cntsOf c l s),sureB c l a b s y=true)=>doubt_none h);have HAT:=zh (fun(x:List Nat) pre (h:(pre++[x]) <+: outsOf (cntsOf c l s)) (hp:∀y∈pre,sureB c l a b s y=true) (hx:sureB c l a b s x=false)=>doubt_at h hp hx);have hLL:=outs_len hz hsl (c:=c);clear hw1 hB1 b1 hp hq hS hz hs hsl HP HQ HS ha hb_
 obtain⟨L,hL⟩:=zx (outsOf (cntsOf c l s));rw[hL] at HOU HDD HNO HAT hLL;clear hL
 go_enter Tryz.func37,Tryz.ntmps37
 go_upto_region 1 with fail
 simp only[HW.out]
 go_wp2_with fail
 refine zM HOU ?_;rintro e w3 ⟨ra0,rc0,rfl,hr,hb3⟩;have HR:=zh hr;have HB3:=zh hb3;have HX3:=zh (HX.out.below' hb3);clear hr hb3 e1 HOU HW HX
 go_wp2_with fail
 go_loopw [13] (fun i wr=>∃k:Nat,k≤L.length∧i = .int .i64 k∧(∀y∈L.take k,sureB c l a b s y=true)∧Below w3.heap.size w3 wr) (fun i _=>L.length-(intOf i).toNat)
 case atStart=>exact⟨0,Nat.zero_le _,rfl,by simp,Below.refl _ _⟩
 case round=>
  obtain⟨k,hk,rfl,hall,hbw⟩:=hrel;have HBW:=zh hbw;have HAL:=zh hall;clear hall hbw
  by_cases hlt:k<L.length
  ·obtain⟨x,hx⟩:=get_of_lt L hlt;have hkl:(k:Int)<(L.length:Int):=by omega
   go_upto_region 5 with fail
   have hbd:Below wr.heap.size wr wr.drew:=(Below.refl _ wr).drew;have hb6:=HBW.out.trans (hbd.mono HBW.out.size);obtain⟨b1,o1,ra,rc,rfl,c1,hxi,_⟩:=(HR.out.below hb6) k x hx;have HDC:=zh (HDD.out x (List.mem_of_getElem? hx) ra rc wr.drew (HB3.out.trans (hb6.mono HB3.out.size)) hxi);have K0:Hid (∀A,Below wr.drew.heap.size wr.drew A→cC A (w.heap.size) c pa pc∧A.cell? ⟨b1,o1+k,none⟩=some (.slice ra x.length rc)):=
    zh fun A hA=>⟨((HX3.out.below' hb6).below' hA).cell,below_cell hA c1⟩
   have HB6:=zh hb6;have HXX:=zh hx;have HXI:=zh hxi;refine wp_region_L (fun A=>Below wr.drew.heap.size wr.drew A) 11 zK ?_;have hSS:Below wr.drew.heap.size wr.drew wr.drew:=Below.refl _ _;clear hbd hb6 c1 hx hxi HBW;generalize wr.drew=w6 at *;refine tM K0 0 hSS ?_;refine tM K0 1 hSS ?_;refine tM K0 2 hSS ?_;refine tM K0 3 hSS ?_;refine tM K0 4 hSS ?_;refine tM K0 5 hSS ?_;refine tM K0 6 hSS ?_;refine tM K0 7 hSS ?_;refine tM K0 8 hSS ?_;refine anyL_call (i:=9) (f:=112) (args:=#[.agg #[.string c.ware,.int .i64 c.limit,.int .i64 c.by_,.slice pa c.parts.length pc],.slice qa l.length qc,.int .i64 (a:Int),.int .i64 (b:Int),.slice sa s.length sc,.slice ra x.length rc]) rfl zK (by rfl) (by go_simp) HDC.out ?_;rintro e7 w7 ⟨rfl,hb7⟩;refine .inl ⟨_,rfl,.inr hb7,?_⟩
   try simp only[pZ]
   have hSS:=hb7;have HB7:=zh (HB6.out.trans (hb7.mono HB6.out.size))
   rcases hsu:sureB c l a b s x with _|_
   ·have HSU:=zh hsu;refine tM K0 10 hSS ?_;refine anyL_done zK ?_ _;have HAX:=zh (HAT.out x (L.take k) (by rw[←take_snoc HXX.out];exact List.take_prefix _ _) HAL.out hsu);clear hSS hsu K0 HDC HB6;obtain⟨b1',o1',ra',rc',hba,c1,hxi,_⟩:=(HR.out.below HB7.out) k x HXX.out;cases hba;have HXI:=zh hxi;clear hxi hb7
    go_wp2_with fail
    go_ret2
    exact⟨(HB1.out.trans (HB3.out.mono HB1.out.size)).trans (HB7.out.mono (Nat.le_trans HB1.out.size HB3.out.size)),.inr ⟨x,_,_,HAX.out,rfl,HXI.out⟩⟩
   ·have HSU:=zh hsu;refine tM K0 10 hSS ?_;refine anyL_done zK ?_ _;clear hSS hb7 hsu K0 HDC HB6
    go_wp2_with fail
    go_roundw
    case rel=>
     refine⟨k+1,zO,zN,?_,HB7.out⟩;rw[take_snoc HXX.out];intro y hy
     rcases List.mem_append.1 hy with h|h
     ·exact HAL.out y h
     ·rw[List.mem_singleton.1 h];exact HSU.out
    case measure=>simp[intOf];omega
  ·have hke:k=L.length:=by omega
   have HNN:=zh (HNO.out (by have h:=HAL.out;rwa [hke,List.take_length] at h));clear hke
   go_wp2_with fail
   go_ret2
   exact⟨(HB1.out.trans (HB3.out.mono HB1.out.size)).trans (HBW.out.mono (Nat.le_trans HB1.out.size HB3.out.size)),.inl ⟨HNN.out,rfl⟩⟩
theorem flat_max {α:Type}{G:Nat→List α}{B:Nat}(h:∀j,(G j).length≤B):∀k,((List.range k).flatMap G).length≤k*B
 |0=>by simp
 |k+1=>by
  rw[List.range_succ,List.flatMap_append,List.flatMap_singleton,List.length_append,Nat.succ_mul];have:=flat_max h k;have:=h k
  omega
theorem setGo_max {m:Nat}(hm:m≤5):∀(r:Nat) (s:List Nat) (a:Nat),(setGo m r s a).length≤6^r
 |0,s,a=>by simp[setGo]
 |r+1,s,a=>by
  have h:=flat_max (G:=fun k=>setGo m r (s++[a+k]) (a+k+1)) (fun j=>setGo_max hm r _ _) (m-a);have h1:(m-a)*6^r≤5*6^r:=Nat.mul_le_mul zO (Nat.le_refl _);have h2:0<6^r:=Nat.pow_pos zO;simp only[setGo,List.length_cons];rw[Nat.pow_succ]
  omega
def SetsR (l:List Prb)(G:List (List Nat))(w:World)(e:Ending)(w':World):Prop:=∃v,e = .returned v∧RowsV w.heap.size (fun b=>w.heap.size≤b) w' v G∧Below w.heap.size w w'
def NextOf (pre:List Nat)(x:Nat):Prop:=(pre=[]∧x=0)∨∃k v,pre.length=k+1∧pre[k]?=some v∧x=v+1
theorem NextOf.snoc (pre:List Nat)(j:Nat):NextOf (pre++[j]) (j+1):=.inr ⟨pre.length,j,by simp,by simp,rfl⟩
theorem sets_body {l:List Prb}{qa:Option Addr}{qc:Nat}(hl5:l.length≤5){pre:List Nat}{x:Nat}(hpl:pre.length≤5)(hx:NextOf pre x)(hxm:x≤l.length)(G:Nat→List (List Nat))(hG:∀j,(G j).length≤7776)
 (hIH:∀k,x+k<l.length→∀(ba:Option Addr) (bc:Nat) (w:World),pre.length+1≤bc→Ints w ba (natInts (pre++[x+k]))→Calls Tryz.prog 172 #[.slice qa l.length qc,.slice ba (pre.length+1) bc] w (SetsR l (G k) w))
 (ba:Option Addr) (bc:Nat) (w:World) (hn:pre=[]→ba=none∧bc=0) (hbc:pre.length≤bc) (hI:Ints w ba (natInts pre)):
 Calls Tryz.prog 172 #[.slice qa l.length qc,.slice ba pre.length bc] w (SetsR l ([pre]++(List.range (l.length-x)).flatMap G) w):=by
 obtain⟨a',c',U,hrun,hu1,hu2,hu3,hu4⟩:=app_new9 (c:=bc) hI (by rw[nat_len];omega);rw[nat_len] at hrun hu2 hu3;have HRN:=zh hrun;have HI:=zh hI;have HBU:=zh hu4;have hr0:RowsV w.heap.size (fun b=>w.heap.size≤b) (U.alloc (.cells #[.slice a' pre.length c'] 26)) (.slice (some ⟨U.heap.size,0,none⟩) 1 1) [pre]:=
  ⟨[(pre,a',c')],rfl,ownsRow_one (Box.new _ _ _) hu4.size,fun z hz=>by
   rw[List.mem_singleton.1 hz];refine⟨hu1.below ((Below.refl _ U).alloc (Nat.le_refl _) _),hu2,fun b o ha hl=>⟨?_,?_⟩⟩
   ·have:=ints_lt hu1 ha (by simpa[natInts] using hl)
    simp[Value.ownBlock]
    omega
   ·exact hu3 b o ha hl⟩
 obtain⟨w1,hw1⟩:=zx (U.alloc (.cells #[.slice a' pre.length c'] 26));rw[hw1] at hr0;have hB1:Below w.heap.size w w1:=by rw[←hw1];exact hu4.alloc hu4.size _
 have HW:=zh hw1;have HB1:=zh hB1;have HR0:=zh hr0;have HIH:=zh hIH;have HN:=zh hn;have HX:=zh hx;have HGL:=zh hG;have HFL:=zh (fun k=>flat_max hG k);clear hrun hu1 hu3 hu4 hw1 hB1 hr0 hIH hn hI hx hG
 go_enter Tryz.func172,Tryz.ntmps172
 go_upto_if 14 with (at_builtin;refine wpList_app rfl _ _ _ rfl rfl rfl HRN.out ?_)
 simp only[HW.out]
 go_cut [6] (fun s6 wx=>s6 = .int .i64 x∧wx=w1)
 case first=>
  rcases HX.out with ⟨rfl,rfl⟩|⟨k,v,hk,hv,rfl⟩
  ·go_wp2_with fail
   go_meet
   exact⟨rfl,rfl⟩
  ·have hv':(natInts pre)[k]?=some (v:Int):=by simp[natInts,hv]
   obtain⟨b,o,hba,hc⟩:=HI.out.base (by simp[natInts];omega);subst hba;have c1:=below_cell HB1.out (hc k _ hv');rw[hk];have hpos:(0:Int)<(k:Int)+1:=by omega
   clear hc hv hv'
   go_wp2_with fail
   rw[←hk]
   go_meet
   first|exact⟨rfl,rfl⟩|exact⟨by simp,rfl⟩
 case rest=>
  obtain⟨rfl,rfl⟩:=hcut
  go_wp2_with fail
  go_loopw [5,7] (fun ov iv wr=>∃k:Nat,x+k≤l.length∧iv = .int .i64 ((x+k:Nat):Int)∧RowsV w.heap.size (fun b=>w.heap.size≤b) wr ov ([pre]++(List.range k).flatMap G)∧Below w.heap.size w wr) (fun _ iv _=>l.length-(intOf iv).toNat)
  case atStart=>exact⟨0,zO,by simp,by simpa using HR0.out,HB1.out⟩
  case round=>
   obtain⟨k,hk,rfl,hrows,hbw⟩:=hrel;have HR:=zh hrows;have HBW:=zh hbw;have hub:∀g,u5.ownBlock=some g→w.heap.size≤g∧g<wr.heap.size:=fun g hg=>by
    obtain⟨_,_,h,_⟩:=hrows;exact h.lt g hg
   clear hrows hbw;obtain⟨j,hj⟩:=zx (x+k);rw[hj]
   by_cases hlt:j<l.length
   ·have hjn:(j:Int)<(l.length:Int):=by omega
    obtain⟨v7,w7,hrun,hown,hb7⟩:=app_full (HI.out.below HBW.out) (fun h=>(HN.out h).1) zO j;obtain⟨a7,c7,rfl,hro7,hc7⟩:=ownsRow_own hown;have hall:=HIH.out k zO a7 c7 w7 hc7 (by rw[hj];exact ints_rowOwn hro7);have HRN7:=zh hrun;have HAL:=zh hall;have HB7:=zh hb7;have HUB:=zh hub;clear hrun hown hb7 hro7 hall hub hc7
    go_wp2_with (at_builtin;refine wpList_app rfl _ _ _ rfl rfl rfl HRN7.out ?_)
    refine zM HAL ?_;rintro e8 w8 ⟨v8,rfl,hr8,hb8⟩;have hb58:=HB7.out.trans (hb8.mono HB7.out.size);have hr9:RowsV w.heap.size (fun b=>w.heap.size≤b∧u5.ownBlock≠some b) w8 v8 (G k):=hr8.less (by have:=HBW.out.size;have:=HB7.out.size;omega) (fun b hb=>⟨by have:=HBW.out.size;have:=HB7.out.size;omega,fun h=>by have:=(HUB.out b h).2;have:=HB7.out.size;omega⟩);obtain⟨v9,w9,hrun9,hr10,k9,_⟩:=rows_app (HR.out.below hb58) hr9 (by
     have h1:=HGL.out k;have h2:=HFL.out k;have h3:k*7776≤5*7776:=Nat.mul_le_mul zO (Nat.le_refl _);rw[List.length_append,List.length_singleton];omega) (by have:=HBW.out.size;have:=hb58.size;omega)
    have HW9:=zh ((HBW.out.trans (hb58.mono HBW.out.size)).trans ((k9.mono fun k (hk:k<w.heap.size) h=>by have:=(HUB.out _ h).1;omega).below (by have:=HBW.out.size;have:=hb58.size;omega)));have HR9:=zh hr10;have HRN9:=zh hrun9;clear hr10 hrun9 k9 hr9 hr8 hb58 hb8
    go_wp2_with (at_builtin;refine wpList_app rfl _ _ _ rfl rfl rfl HRN9.out ?_)
    go_roundw
    case rel=>
     refine⟨k+1,zO,by rw[←hj];go_num,?_,HW9.out⟩;rw[List.range_succ,List.flatMap_append,List.flatMap_singleton,←List.append_assoc];exact HR9.out
    case measure=>simp[intOf];omega
   ·have hke:k=l.length-x:=by omega
    have HKE:=zh hke;have hjn:¬(j:Int)<(l.length:Int):=by omega
    clear hke
    go_wp2_with fail
    go_ret
    refine⟨_,rfl,?_,HBW.out⟩;rw[←HKE.out];exact HR.out
theorem setsR_any {l:List Prb}{qa:Option Addr}{qc:Nat}(hl5:l.length≤5):∀(r:Nat),r≤5→∀(pre:List Nat) (x:Nat) (ba:Option Addr) (bc:Nat) (w:World),l.length-x≤r→x≤l.length→pre.length+r≤5→NextOf pre x→(pre=[]→ba=none∧bc=0)→pre.length≤bc→Ints w ba (natInts pre) →
 Calls Tryz.prog 172 #[.slice qa l.length qc,.slice ba pre.length bc] w (SetsR l (setGo l.length r pre x) w)
 |0,_,pre,x,ba,bc,w,hr,hxm,hpr,hx,hn,hbc,hI=>by
  have h:=sets_body (qa:=qa) (qc:=qc) hl5 zO hx hxm (fun _=>[]) zS (fun k hk=>absurd hk zO) ba bc w hn hbc hI;have e:l.length-x=0:=by omega
  rw[e] at h
  simpa[setGo] using h
 |r+1,h5,pre,x,ba,bc,w,hr,hxm,hpr,hx,hn,hbc,hI=>by
  exact sets_body hl5 zO hx hxm (fun k=>setGo l.length r (pre++[x+k]) (x+k+1)) (fun j=>Nat.le_trans (setGo_max hl5 r _ _) (Nat.pow_le_pow_right zO (by omega:r≤5)))
   (fun k hk ba' bc' w' hb' hI'=>by
    have h:=setsR_any (qa:=qa) (qc:=qc) hl5 r zO (pre++[x+k]) (x+k+1) ba' bc' w' zO zO (by rw[List.length_append,List.length_singleton];omega) (NextOf.snoc _ _) (fun h=>by simp at h) (by rw[List.length_append,List.length_singleton];exact hb') hI'
    rwa [List.length_append,List.length_singleton] at h) ba bc w hn hbc hI
theorem RowsV.hi {B:Nat}{W:World}{v:Value}{L:List (List Nat)}(h:RowsV B (fun b=>B≤b) W v L):∃a cap,v = .slice a L.length cap∧L.length≤cap∧RowsHi B W.heap.size W a L:=by
 obtain⟨zs,h1,h2,h3⟩:=h;obtain⟨a,cap,hv,hr,hc⟩:=ownsRow_own h2;refine⟨a,cap,hv,hc,?_⟩;rw[←h1];exact rowE_hi hr fun z hz=>⟨(h3 z hz).1,(h3 z hz).2.1,fun b o ha hl=>((h3 z hz).2.2 b o ha hl).2⟩
theorem setsXR9_any {l:List Prb}(hl5:l.length≤5)(qa:Option Addr)(qc:Nat)(w:World):
 Calls Tryz.prog 89 #[.slice qa l.length qc] w fun e w'=>∃a cap,e = .returned (.slice a (setsOf l.length).length cap)∧RowsHi w.heap.size w'.heap.size w' a (setsOf l.length)∧Below w.heap.size w w':=by
 have HS:=zh (setsR_any (qa:=qa) (qc:=qc) hl5 l.length hl5 [] 0 none 0 w zO zO (by simpa using hl5) (.inl ⟨rfl,rfl⟩) (fun _=>⟨rfl,rfl⟩) (Nat.le_refl _) (Ints.nil _ _));rw[List.length_nil] at HS
 go_enter Tryz.func89,Tryz.ntmps89
 go_wp2_with fail
 refine zM HS ?_;rintro e w2 ⟨v,rfl,hr,hb⟩;obtain⟨a,cap,rfl,_,hh⟩:=hr.hi;have HA:=zh hh;have HB:=zh hb;clear hh hr hb
 go_wp2_with fail
 go_ret
 exact⟨a,cap,rfl,HA.out,HB.out⟩
def BstC (l:List Prb)(o:Option (List Nat))(D B M:Nat)(W:World):Prop:=
 ∃ba n bc cst,Box W D #[.slice ba n bc,.int .i64 cst] 42∧((o=none∧ba=none∧n=0∧bc=0∧cst=0)∨∃x,o=some x∧n=x.length∧cst=costOf l x∧IntsHi B M W ba (natInts x)∧x.length≤bc)
theorem RowsHi.ints {B M:Nat}{w w':World}{a:Option Addr}{L:List (List Nat)}(h:RowsHi B M w a L){k:Nat}{x:List Nat}(hx:L[k]?=some x)(hk:Keep (fun k=>B≤k∧k<M) w w'):∃b o ra rc,a=some ⟨b,o,none⟩∧B≤b∧b<M∧w'.cell? ⟨b,o+k,none⟩=some (.slice ra x.length rc)∧Ints w' ra (natInts x):=by
 obtain⟨b,o,ra,rc,h1,h2,h3,h4,h5,_⟩:=(h.keep hk) k x hx;exact⟨b,o,ra,rc,h1,h2,h3,h4,h5.at_⟩
theorem BstC.below {l:List Prb}{o:Option (List Nat)}{D B M:Nat}{W W':World}(h:BstC l o D B M W)(hb:Below W.heap.size W W'):BstC l o D B M W':=by
 obtain⟨ba,n,bc,cst,h1,h2⟩:=h;refine⟨ba,n,bc,cst,h1.below' hb,?_⟩
 rcases h2 with h2|⟨x,h3,h4,h5,h6,h7⟩
 ·exact .inl h2
 ·exact .inr ⟨x,h3,h4,h5,h6.below hb,h7⟩
theorem cheapestR9_any {c:Cs}{l:List Prb}(hsm:c.Small)(hz:probesErr c l=0)(pa:Option Addr)(pc:Nat)(qa:Option Addr)(qc:Nat){a b:Nat}(ha:a<c.parts.length)(hb_:b<c.parts.length)(w:World)(hp:PartsAt w pa c.parts)(hq:PrbsAt w qa l):
 Calls Tryz.prog 82 #[.agg #[.string c.ware,.int .i64 c.limit,.int .i64 c.by_,.slice pa c.parts.length pc],.slice qa l.length qc,.int .i64 (a:Int),.int .i64 (b:Int)] w (PlanPost l (cheapestOf c l a b) w):=by
 have hl5:=(probes_ok hz).2.1;obtain⟨w1,hw1⟩:=zx (((w.alloc (.cells #[.string c.ware,.int .i64 c.limit,.int .i64 c.by_,.slice pa c.parts.length pc] 24)).alloc (.cells #[.slice none 0 0,.int .i64 0] 42)).alloc (.cells #[.slice none 0 0,.int .i64 0] 42));have hB1:Below w.heap.size w w1:=by rw[←hw1];go_grown
 have hs1:w1.heap.size=w.heap.size+3:=by rw[←hw1];simp
 have b1:Box w1 w.heap.size (csCells c pa pc) 24:=by rw[←hw1];exact((Box.new _ _ _).alloc _).alloc _
 have b2:Box w1 (w.heap.size+1) #[.slice none 0 0,.int .i64 0] 42:=by rw[←hw1];exact(Box.new' zS).alloc _
 have b3:Box w1 (w.heap.size+2) #[.slice none 0 0,.int .i64 0] 42:=by rw[←hw1];exact Box.new' zS
 have HST:=zh (setsXR9_any (l:=l) hl5 qa qc w1);have HW:=zh hw1;have HX:=zh b1;have HY:=zh b2;have HZ:=zh b3;have HB1:=zh hB1;have HS1:=zh hs1;have HCO:=zh (fun(x:List Nat) (hx:x∈setsOf l.length) sa sc W (hb:Below w.heap.size w W) (hI:Ints W sa (natInts x))=>costR9_any (c:=c) (qa:=qa) (qc:=qc) hz sa x sc W (hq.below hb) hI (sets_in hx).1 (by have:=(sets_in hx).2;omega));have HDE:=zh (fun(x:List Nat) (hx:x∈setsOf l.length) sa sc W (hb:Below w.heap.size w W) (hI:Ints W sa (natInts x))=>decidesR9_any hsm hz pa pc qa qc ha hb_ sa x sc (sets_in hx).1 (by have:=(sets_in hx).2;omega) W (hp.below hb) (hq.below hb) hI);have hLL:=sets_len hl5;clear hw1 hB1 b1 b2 b3 hs1 hp hq hz hsm ha hb_ hl5;have HCH:=zh (show cheapestOf c l a b=leastOf (costOf l) (decidesB c l a b) (setsOf l.length) from rfl);obtain⟨L,hL⟩:=zx (setsOf l.length)
 rw[hL] at HST HCO HDE HCH hLL;clear hL
 go_enter Tryz.func82,Tryz.ntmps82
 go_upto_region 3 with fail
 simp only[HW.out]
 go_wp2_with fail
 refine zM HST ?_;rintro e w2 ⟨la,lc,rfl,hr2,hb2⟩;have HR2:=zh hr2;have HX2:=zh (HX.out.below' hb2);have HY2:=zh (HY.out.below' hb2);have HZ2:=zh (HZ.out.below' hb2);have HB2:=zh (HB1.out.trans (hb2.mono HB1.out.size));have HS2:=zh hb2.size;clear hb2 hr2 HST HW HX HY HZ
 go_wp2_with fail
 go_loopw [11,13] (fun fv iv wr=>∃k:Nat,k≤L.length∧iv = .int .i64 k∧fv = .bool (leastOf (costOf l) (decidesB c l a b) (L.take k)).isSome∧RowsHi w1.heap.size w2.heap.size wr la L∧BstC l (leastOf (costOf l) (decidesB c l a b) (L.take k)) (w.heap.size+2) w1.heap.size w2.heap.size wr∧Box wr w.heap.size (csCells c pa pc) 24∧Box wr (w.heap.size+1) #[.slice none 0 0,.int .i64 0] 42∧Below w.heap.size w wr∧w2.heap.size≤wr.heap.size) (fun _ iv _=>L.length-(intOf iv).toNat)
 case atStart=>exact⟨0,Nat.zero_le _,rfl,rfl,HR2.out,⟨_,_,_,_,HZ2.out,.inl ⟨rfl,rfl,rfl,rfl,rfl⟩⟩,HX2.out,HY2.out,HB2.out,Nat.le_refl _⟩
 case round=>
  obtain⟨k,hk,rfl,rfl,hr,hbe,hxx,hyy,hbw,hsz⟩:=hrel;obtain⟨o,ho⟩:=zx (leastOf (costOf l) (decidesB c l a b) (L.take k));rw[ho] at hbe ⊢;have HO:=zh ho;have HR:=zh hr;have HBE:=zh hbe;have HG:=zh hxx;have HT:=zh hyy;have HBW:=zh hbw;have HSZ:=zh hsz;have hs1:=HS1.out;clear hr hbe hxx hyy hbw hsz ho
  by_cases hlt:k<L.length
  ·obtain⟨x,hx⟩:=get_of_lt L hlt;have hkl:(k:Int)<(L.length:Int):=by omega
   obtain⟨b1,o1,ra,rc,hba,hb1,_,c1,hxi⟩:=HR.out.ints hx (Keep.refl _ _);subst hba;have HCC:=zh (HCO.out x (List.mem_of_getElem? hx) ra rc wr HBW.out hxi)
   go_wp2_with fail
   refine zM HCC ?_;rintro e8 w8 ⟨rfl,rfl⟩;obtain⟨n,hn⟩:=zx (costOf l x);rw[hn];have HCX:=zh hn;clear hn HCC
   go_upto_region 8 with fail
   obtain⟨ba,bn,bc,cst,hbx,hbo⟩:=HBE.out;have hbd:Below wr.heap.size wr wr.drew:=(Below.refl _ wr).drew;have hb6:=HBW.out.trans (hbd.mono HBW.out.size);have HDC:=zh (HDE.out x (List.mem_of_getElem? hx) ra rc wr.drew hb6 (hxi.below hbd));have HBX:=zh (hbx.below' hbd);have HBE:=zh (HBE.out.below hbd);have HR6:=zh (HR.out.below hbd);have HG:=zh (HG.out.below' hbd);have HT:=zh (HT.out.below' hbd);have HS6:=zh (show w2.heap.size≤wr.drew.heap.size from HSZ.out);have K0:Hid (∀A,Below wr.drew.heap.size wr.drew A→cC A (w.heap.size) c pa pc∧(∀j,A.cell? ⟨w.heap.size+2,j,none⟩=(#[.slice ba bn bc,.int .i64 cst]:Array Value)[j]?)∧A.cell? ⟨b1,o1+k,none⟩=some (.slice ra x.length rc)):=
    zh fun A hA=>⟨(HG.out.below' hA).cell,(HBX.out.below' hA).cell,below_cell hA (below_cell hbd c1)⟩
   have HB6:=zh hb6;have HXX:=zh hx;refine wp_region_L (fun A=>Below wr.drew.heap.size wr.drew A) 19 zK ?_;have hSS:Below wr.drew.heap.size wr.drew wr.drew:=Below.refl _ _;clear hbd hb6 c1 hx hxi HBW hbx HR HSZ;generalize wr.drew=w6 at *
   rcases hbo with ⟨rfl,rfl,rfl,rfl,rfl⟩|⟨y,rfl,rfl,rfl,_,_⟩
   ·have HTS:=zh (rfl:(true:Bool)=true);have HTN:=zh (rfl:(true:Bool)=true);simp only[Option.isSome_none];refine tM K0 0 hSS ?_;refine tM K0 1 hSS ?_;refine tM K0 2 hSS ?_;refine tN 3 hSS ?_;refine tN 4 hSS ?_;refine tN 5 hSS ?_;refine tN 6 hSS ?_;refine tM K0 7 hSS ?_;refine tM K0 8 hSS ?_;refine tM K0 9 hSS ?_;refine tM K0 10 hSS ?_;refine tM K0 11 hSS ?_;refine tM K0 12 hSS ?_;refine tM K0 13 hSS ?_;refine tM K0 14 hSS ?_;refine tM K0 15 hSS ?_;refine tM K0 16 hSS ?_;refine anyL_call (i:=17) (f:=163) (args:=#[.agg #[.string c.ware,.int .i64 c.limit,.int .i64 c.by_,.slice pa c.parts.length pc],.slice qa l.length qc,.int .i64 (a:Int),.int .i64 (b:Int),.slice ra x.length rc]) rfl zK (by rfl) (by go_simp) HDC.out ?_;rintro e7 w7 ⟨rfl,hb7⟩;refine .inl ⟨_,rfl,.inr hb7,?_⟩
    try simp only[pZ]
    have hSS:=hb7
    rcases hdx:decidesB c l a b x with _|_
    ·have HDX:=zh hdx;clear hdx;refine tM K0 18 hSS ?_;refine anyL_done zK ?_ _;have HST:=zh (show leastOf (costOf l) (decidesB c l a b) (L.take (k+1))=leastOf (costOf l) (decidesB c l a b) (L.take k) by rw[take_snoc HXX.out,leastOf_snoc,HO.out];unfold leastStep;simp[HDX.out,HTN.out]);have HR7:=zh (HR6.out.below hSS);have HG7:=zh (HG.out.below' hSS);have HT7:=zh (HT.out.below' hSS);have HBT:=zh (HBE.out.below hSS);have HB7:=zh (HB6.out.trans (hSS.mono HB6.out.size));have HS7:=zh hSS.size;clear hSS K0 HB6
     go_wp2_with fail
     go_roundw
     case rel=>
      refine⟨k+1,zO,zN,?_,HR7.out,?_,HG7.out,HT7.out,HB7.out,by have:=HS7.out;have:=HS6.out;omega⟩
      ·rw[HST.out,HO.out];rfl
      ·rw[HST.out,HO.out];exact HBT.out
     case measure=>simp[intOf];omega
    ·have HDX:=zh hdx;clear hdx;refine tM K0 18 hSS ?_;refine anyL_done zK ?_ _;have HST:=zh (show leastOf (costOf l) (decidesB c l a b) (L.take (k+1))=some x by rw[take_snoc HXX.out,leastOf_snoc,HO.out];unfold leastStep;rw[HDX.out];simp[HTS.out]);have hbx:=HBX.out.below' hb7;obtain⟨z1,z2⟩:=hbx.rules;have HR7:=zh (HR6.out.below hb7);have HG7:=zh (HG.out.below' hb7);have HT7:=zh (HT.out.below' hb7);have HBX7:=zh hbx;have HB7:=zh (HB6.out.trans (hb7.mono HB6.out.size));have HS7:=zh hb7.size;clear hSS hb7 K0 HDC HB6 hbx HTS HDX;obtain⟨b1',o1',ra',rc',hba,_,_,c1,hxi⟩:=HR7.out.ints HXX.out (Keep.refl _ _);have HXI:=zh (HR7.out k x HXX.out);clear hxi;cases hba
     go_wp2_with fail
     go_roundw
     case rel=>
      refine⟨k+1,zO,zN,?_,HR7.out.keep (((Keep.refl _ w7).setCell (.inl zT) _).setCell (.inl zT) _),?_,(HG7.out.far zU _).far zU _,(HT7.out.far zU _).far zU _,(HB7.out.setCell zU _).setCell zU _,by have:=HS7.out;have:=HS6.out;simp;omega⟩
      ·rw[HST.out];rfl
      ·rw[HST.out];obtain⟨b,o,ra,rc,h1,h2,h3,h4,h5,h6⟩:=HXI.out;cases h1;rw[c1] at h4;cases h4;exact⟨_,_,_,_,((HBX7.out.set_ 0 _).set_ 1 _),.inr ⟨x,rfl,rfl,HCX.out.symm,h5.keep (((Keep.refl _ w7).setCell (.inl zT) _).setCell (.inl zT) _),h6⟩⟩
     case measure=>simp[intOf];omega
   ·obtain⟨m,hm⟩:=zx (costOf l y);simp only[hm,Option.isSome_some] at K0 HBX ⊢
    by_cases hnm:n<m
    ·have HTS:=zh (show costOf l x<costOf l y by rw[hm,HCX.out];exact hnm);have HTN:=zh (rfl:(true:Bool)=true);clear hm;refine tM K0 0 hSS ?_;refine tM K0 1 hSS ?_;refine tM K0 2 hSS ?_;refine tM K0 3 hSS ?_;refine tM K0 4 hSS ?_;refine tM K0 5 hSS ?_;refine tM K0 6 hSS ?_;refine tM K0 7 hSS ?_;refine tM K0 8 hSS ?_;refine tM K0 9 hSS ?_;refine tM K0 10 hSS ?_;refine tM K0 11 hSS ?_;refine tM K0 12 hSS ?_;refine tM K0 13 hSS ?_;refine tM K0 14 hSS ?_;refine tM K0 15 hSS ?_;refine tM K0 16 hSS ?_;refine anyL_call (i:=17) (f:=163) (args:=#[.agg #[.string c.ware,.int .i64 c.limit,.int .i64 c.by_,.slice pa c.parts.length pc],.slice qa l.length qc,.int .i64 (a:Int),.int .i64 (b:Int),.slice ra x.length rc]) rfl zK (by rfl) (by go_simp) HDC.out ?_;rintro e7 w7 ⟨rfl,hb7⟩;refine .inl ⟨_,rfl,.inr hb7,?_⟩
     try simp only[pZ]
     have hSS:=hb7
     rcases hdx:decidesB c l a b x with _|_
     ·have HDX:=zh hdx;clear hdx;refine tM K0 18 hSS ?_;refine anyL_done zK ?_ _;have HST:=zh (show leastOf (costOf l) (decidesB c l a b) (L.take (k+1))=leastOf (costOf l) (decidesB c l a b) (L.take k) by rw[take_snoc HXX.out,leastOf_snoc,HO.out];unfold leastStep;simp[HDX.out,HTN.out]);have HR7:=zh (HR6.out.below hSS);have HG7:=zh (HG.out.below' hSS);have HT7:=zh (HT.out.below' hSS);have HBT:=zh (HBE.out.below hSS);have HB7:=zh (HB6.out.trans (hSS.mono HB6.out.size));have HS7:=zh hSS.size;clear hSS K0 HB6
      go_wp2_with fail
      go_roundw
      case rel=>
       refine⟨k+1,zO,zN,?_,HR7.out,?_,HG7.out,HT7.out,HB7.out,by have:=HS7.out;have:=HS6.out;omega⟩
       ·rw[HST.out,HO.out];rfl
       ·rw[HST.out,HO.out];exact HBT.out
      case measure=>simp[intOf];omega
     ·have HDX:=zh hdx;clear hdx;refine tM K0 18 hSS ?_;refine anyL_done zK ?_ _;have HST:=zh (show leastOf (costOf l) (decidesB c l a b) (L.take (k+1))=some x by rw[take_snoc HXX.out,leastOf_snoc,HO.out];unfold leastStep;rw[HDX.out];simp[HTS.out]);have hbx:=HBX.out.below' hb7;obtain⟨z1,z2⟩:=hbx.rules;have HR7:=zh (HR6.out.below hb7);have HG7:=zh (HG.out.below' hb7);have HT7:=zh (HT.out.below' hb7);have HBX7:=zh hbx;have HB7:=zh (HB6.out.trans (hb7.mono HB6.out.size));have HS7:=zh hb7.size;clear hSS hb7 K0 HDC HB6 hbx HTS HDX;obtain⟨b1',o1',ra',rc',hba,_,_,c1,hxi⟩:=HR7.out.ints HXX.out (Keep.refl _ _);have HXI:=zh (HR7.out k x HXX.out);clear hxi;cases hba
      go_wp2_with fail
      go_roundw
      case rel=>
       refine⟨k+1,zO,zN,?_,HR7.out.keep (((Keep.refl _ w7).setCell (.inl zT) _).setCell (.inl zT) _),?_,(HG7.out.far zU _).far zU _,(HT7.out.far zU _).far zU _,(HB7.out.setCell zU _).setCell zU _,by have:=HS7.out;have:=HS6.out;simp;omega⟩
       ·rw[HST.out];rfl
       ·rw[HST.out];obtain⟨b,o,ra,rc,h1,h2,h3,h4,h5,h6⟩:=HXI.out;cases h1;rw[c1] at h4;cases h4;exact⟨_,_,_,_,((HBX7.out.set_ 0 _).set_ 1 _),.inr ⟨x,rfl,rfl,HCX.out.symm,h5.keep (((Keep.refl _ w7).setCell (.inl zT) _).setCell (.inl zT) _),h6⟩⟩
      case measure=>simp[intOf];omega
    ·have HTN:=zh (show decide (costOf l x<costOf l y)=false by rw[hm,HCX.out];simpa using hnm);have HDX:=zh (rfl:(true:Bool)=true);clear hm;refine tM K0 0 hSS ?_;refine tM K0 1 hSS ?_;refine tM K0 2 hSS ?_;refine tM K0 3 hSS ?_;refine tM K0 4 hSS ?_;refine tM K0 5 hSS ?_;refine tM K0 6 hSS ?_;refine tM K0 7 hSS ?_;refine tM K0 8 hSS ?_;refine tN 9 hSS ?_;refine tN 10 hSS ?_;refine tN 11 hSS ?_;refine tN 12 hSS ?_;refine tN 13 hSS ?_;refine tN 14 hSS ?_;refine tN 15 hSS ?_;refine tN 16 hSS ?_;refine tN 17 hSS ?_;refine tM K0 18 hSS ?_;refine anyL_done zK ?_ _;have HST:=zh (show leastOf (costOf l) (decidesB c l a b) (L.take (k+1))=leastOf (costOf l) (decidesB c l a b) (L.take k) by rw[take_snoc HXX.out,leastOf_snoc,HO.out];unfold leastStep;simp[HDX.out,HTN.out]);have HR7:=zh (HR6.out.below hSS);have HG7:=zh (HG.out.below' hSS)
     have HT7:=zh (HT.out.below' hSS);have HBT:=zh (HBE.out.below hSS);have HB7:=zh (HB6.out.trans (hSS.mono HB6.out.size));have HS7:=zh hSS.size;clear hSS K0 HB6
     go_wp2_with fail
     go_roundw
     case rel=>
      refine⟨k+1,zO,zN,?_,HR7.out,?_,HG7.out,HT7.out,HB7.out,by have:=HS7.out;have:=HS6.out;omega⟩
      ·rw[HST.out,HO.out];rfl
      ·rw[HST.out,HO.out];exact HBT.out
     case measure=>simp[intOf];omega
  ·have hke:k=L.length:=by omega
   have HCE:=zh (show cheapestOf c l a b=o by rw[HCH.out,←HO.out,hke,List.take_length]);obtain⟨ba,bn,bc,cst,hbx,hbo⟩:=HBE.out;obtain⟨z1,z2⟩:=HT.out.rules;have e3:=hbx.cell;have HBO:=zh hbo;clear hke hbo hbx
   go_wp2_with fail
   refine bodyPost_ret (results_cell_tmp rfl rfl (run_loadVar_row _ _ 42 42 _ (0,0) _ ((HT.out.set_ 0 (.slice ba bn bc)).set_ 1 (.int .i64 cst)) Tryz.underlying42 rfl plan_size)) rfl ?_;rw[HCE.out];refine⟨(HBW.out.setCell (p:=⟨w.heap.size+1,0,none⟩) zS _).setCell (p:=⟨w.heap.size+1,1,none⟩) zS _,?_⟩
   rcases HBO.out with ⟨rfl,rfl,rfl,rfl,rfl⟩|⟨y,rfl,rfl,rfl,hy,hyc⟩
   ·exact .inl ⟨rfl,rfl⟩
   ·exact .inr ⟨y,ba,bc,rfl,rfl,(hy.keep (((Keep.refl _ wr).setCell (.inl zT) _).setCell (.inl zT) _)).mono zO (by have:=HSZ.out;simp;omega),hyc⟩
theorem plan_cells {l:List Prb}{o:Option (List Nat)}{w w':World}{e:Ending}(h:PlanPost l o w e w'):Below w.heap.size w w'∧∃u1 u2 u3 u4 bb,e = .returned (.tuple #[.agg #[.slice u1 u2 u3,.int .i64 u4],.bool bb])∧PlanCells l o w.heap.size w'.heap.size w' #[.slice u1 u2 u3,.int .i64 u4] bb:=by
 obtain⟨hb,⟨h1,rfl⟩|⟨x,ra,rc,h1,rfl,h3,h4⟩⟩:=h
 ·exact⟨hb,_,_,_,_,_,rfl,.inl ⟨h1,rfl,rfl⟩⟩
 ·exact⟨hb,_,_,_,_,_,rfl,.inr ⟨x,ra,rc,h1,rfl,rfl,h3,h4⟩⟩
theorem setB_nil (m:Nat):setB m []=true:=rfl
theorem cheapestXR9_any (c:Cs)(hsm:c.Small)(pa:Option Addr)(pc:Nat)(l:List Prb)(qa:Option Addr)(qc:Nat)(a b:Int)(w:World)(hp:PartsAt w pa c.parts)(hq:PrbsAt w qa l):
 Calls Tryz.prog 25 #[.agg #[.string c.ware,.int .i64 c.limit,.int .i64 c.by_,.slice pa c.parts.length pc],.slice qa l.length qc,.int .i64 a,.int .i64 b] w (PlanX l (cheapestOf c l a.toNat b.toNat) (xErr c l (twoB c.parts.length a b)) w):=by
 obtain⟨w1,hw1⟩:=zx ((w.alloc (.cells #[.string c.ware,.int .i64 c.limit,.int .i64 c.by_,.slice pa c.parts.length pc] 24)).alloc (.cells #[.slice none 0 0,.int .i64 0] 42));have hB1:Below w.heap.size w w1:=by rw[←hw1];go_grown
 have b1:Box w1 w.heap.size (csCells c pa pc) 24:=by rw[←hw1];exact(Box.new _ _ _).alloc _
 have b0:Box w1 (w.heap.size+1) #[.slice none 0 0,.int .i64 0] 42:=by rw[←hw1];exact Box.new' zS
 have e1:=zC (b1);have HAS:=zh (askedPairR9_any c hsm pa pc l qa qc a b none [] 0 zS w1 (hp.below hB1) (hq.below hB1) (Ints.nil _ _));rw[setB_nil,Bool.and_true,List.length_nil] at HAS;have HW:=zh hw1;have HX:=zh b1;have HZ:=zh b0;have HB:=zh hB1;have HP:=zh (hp.below hB1);have HQ:=zh (hq.below hB1);clear hw1 b1 b0 hB1 hp hq;have HXS:=zh (fun h=>xErr_set (c:=c) (l:=l) (ok:=twoB c.parts.length a b) h);have HTN:=zh (fun h=>two_nats (n:=c.parts.length) (a:=a) (b:=b) h);obtain⟨ok,hok⟩:=zx (twoB c.parts.length a b);rw[hok] at HXS HTN HAS ⊢;clear hok;obtain⟨er,her⟩:=zx (xErr c l ok);rw[her] at HAS HXS ⊢;clear her
 go_enter Tryz.func25,Tryz.ntmps25
 go_upto_region 1 with fail
 simp only[HW.out]
 go_wp2_with fail
 refine zM HAS ?_;rintro e w2 ⟨rfl,hb2⟩;have HX:=zh (HX.out.below' hb2);have HZ:=zh (HZ.out.below' hb2);have HP:=zh (HP.out.below hb2);have HQ:=zh (HQ.out.below hb2);have HB:=zh (HB.out.trans (hb2.mono HB.out.size));clear hb2 e1
 by_cases hz:er=0
 ·obtain⟨z1,z2,_⟩:=HXS.out hz;subst hz;obtain⟨A,B,rfl,rfl,hA,hBn⟩:=HTN.out z2;have HC:=zh (cheapestR9_any hsm z1 pa pc qa qc hA hBn w2 HP.out HQ.out);rw[Int.toNat_natCast,Int.toNat_natCast];have e1:=zC (HX.out);clear z1 z2 hA hBn
  go_wp2_with fail
  refine zM HC ?_;rintro e w3 hcs;obtain⟨hb3,u1,u2,u3,u4,bb,rfl,hpl⟩:=plan_cells hcs;clear hcs;obtain⟨w4,hw4⟩:=zx (w3.alloc (.cells #[.slice u1 u2 u3,.int .i64 u4] 42));have hb4:Below w3.heap.size w3 w4:=by rw[←hw4];go_grown
  have x4:Box w4 w3.heap.size #[.slice u1 u2 u3,.int .i64 u4] 42:=by rw[←hw4];exact Box.new _ _ _
  have hz4:=(HZ.out.below' hb3).below' hb4;have hB4:=(HB.out.trans (hb3.mono HB.out.size)).trans (hb4.mono (Nat.le_trans HB.out.size hb3.size));have HW4:=zh hw4;have e4:∀i,w4.cell? ⟨w3.heap.size,i,none⟩=(#[.slice u1 u2 u3,.int .i64 u4]:Array Value)[i]?:=x4.cell;obtain⟨z1,z2⟩:=hz4.rules;have hlt:=HZ.out.lt;have hne:w3.heap.size≠w.heap.size+1:=by have:=hb3.size;omega
  have HC4:=zh (hpl.keep ((Keep.of_below' hb4).mono fun k hk=>hk.2));have HB4:=zh hB4;have HZ4:=zh hz4;have HS2:=zh (show w.heap.size+2≤w2.heap.size by omega);have HS4:=zh hb4.size;clear hb3 hpl hw4 hb4 x4 hz4 hB4 e1 hlt
  go_upto_region 5 with fail
  simp only[HW4.out]
  go_wp2_with fail
  refine bodyPost_ret (results_ctt rfl rfl (run_loadVar_row _ _ 42 42 _ (0,0) _ ((HZ4.out.set_ 0 (.slice u1 u2 u3)).set_ 1 (.int .i64 u4)) Tryz.underlying42 rfl plan_size)) rfl ?_;have h2:=HS2.out;have h4:=HS4.out;refine⟨(HB4.out.setCell (p:=⟨w.heap.size+1,0,none⟩) zS (.slice u1 u2 u3)).setCell (p:=⟨w.heap.size+1,1,none⟩) zS (.int .i64 u4),_,bb,rfl,?_⟩;exact(HC4.out.keep (((Keep.refl _ w4).setCell (p:=⟨w.heap.size+1,0,none⟩) (.inl zT) (.slice u1 u2 u3)).setCell (p:=⟨w.heap.size+1,1,none⟩) (.inl zT) (.int .i64 u4))).mono zO zT
 ·have hzb:(er != 0)=true:=by simpa using hz
  have HZE:=zh hz;obtain⟨z1,z2⟩:=HZ.out.rules;clear hz
  go_wp2_with fail
  refine bodyPost_ret (results_ctt rfl rfl (run_loadVar_row _ _ 42 42 _ (0,0) _ ((HZ.out.set_ 0 (.slice none 0 0)).set_ 1 (.int .i64 0)) Tryz.underlying42 rfl plan_size)) rfl ?_;exact⟨(HB.out.setCell (p:=⟨w.heap.size+1,0,none⟩) zS (.slice none 0 0)).setCell (p:=⟨w.heap.size+1,1,none⟩) zS (.int .i64 0),_,false,rfl,.inl ⟨if_neg HZE.out,rfl,rfl⟩⟩
end Go.Proofs.YtjgldeeianionaaGreat
namespace Go.Proofs.YtjgldeeianionaaGreat
open Go.RowKit
def Inc:Nat→Nat→List Nat→Prop
 |_,_,[]=>True
 |a,m,v::y=>a≤v∧v<m∧Inc (v+1) m y
theorem Inc.len:∀{a m:Nat} {y:List Nat},Inc a m y→y.length≤m-a
 |_,_,[],_=>Nat.zero_le _
 |a,m,v::y,h=>by
  have:=Inc.len h.2.2;have h1:=h.1;have h2:=h.2.1;simp only[List.length_cons];omega
theorem Inc.lt:∀{a m:Nat} {y:List Nat},Inc a m y→∀v∈y,a≤v∧v<m
 |_,_,[],_,v,hv=>by cases hv
 |a,m,u::y,h,v,hv=>by
  rcases List.mem_cons.1 hv with rfl|hv
  ·exact⟨h.1,h.2.1⟩
  ·have:=Inc.lt h.2.2 v hv;have h1:=h.1
   omega
theorem mem_setGo (m:Nat):∀(r:Nat) (s:List Nat) (a:Nat) (x:List Nat),m-a≤r→(x∈setGo m r s a↔∃y,x=s++y∧Inc a m y)
 |0,s,a,x,h=>by
  simp only[setGo,List.mem_singleton];constructor
  ·rintro rfl;exact⟨[],by simp,trivial⟩
  ·rintro⟨y,rfl,hy⟩;have:y=[]:=List.eq_nil_of_length_eq_zero (by have:=hy.len;omega)
   simp[this]
 |r+1,s,a,x,h=>by
  simp only[setGo,List.mem_cons,List.mem_flatMap,List.mem_range];constructor
  ·rintro (rfl|⟨k,hk,hx⟩)
   ·exact⟨[],by simp,trivial⟩
   ·obtain⟨y,rfl,hy⟩:=(mem_setGo m r _ _ x zO).1 hx;exact⟨(a+k)::y,by simp,zO,zO,hy⟩
  ·rintro⟨y,rfl,hy⟩;cases y with
   |nil=>exact .inl zS
   |cons v y=>
    have h1:=hy.1;have h2:=hy.2.1;refine .inr ⟨v-a,zO,(mem_setGo m r _ _ _ zO).2 ⟨y,?_,?_⟩⟩
    ·rw[show a+(v-a)=v by omega];simp
    ·rw[show a+(v-a)=v by omega];exact hy.2.2
theorem mem_setsOf {m:Nat}{x:List Nat}:x∈setsOf m↔Inc 0 m x:=by
 unfold setsOf;rw[mem_setGo m m [] 0 x zO]
 simp
theorem inc_iff:∀{y:List Nat} {a m:Nat},Inc a m y↔∀(i v:Nat),y[i]?=some v→a≤v∧v<m∧∀u,0<i→y[i-1]?=some u→u<v
 |[],a,m=>⟨fun _ i v h=>by simp at h,fun _=>trivial⟩
 |w::y,a,m=>by
  constructor
  ·rintro h i v hv;cases i with
   |zero=>simp at hv;subst hv;exact⟨h.1,h.2.1,fun u hu=>absurd hu zO⟩
   |succ i=>
    have h3:=inc_iff.1 h.2.2 i v (by simpa using hv);have h1:=h.1;refine⟨zO,h3.2.1,fun u _ hu=>?_⟩;rw[Nat.add_sub_cancel] at hu;cases i with
    |zero=>simp at hu;subst hu;omega
    |succ i=>exact h3.2.2 u zO (by simpa using hu)
  ·intro h;have h0:=h 0 w rfl;refine⟨h0.1,h0.2.1,inc_iff.2 fun i v hv=>?_⟩;have h1:=h (i+1) v (by simpa using hv);refine⟨?_,h1.2.1,fun u hi hu=>?_⟩
   ·cases i with
    |zero=>exact h1.2.2 w zO rfl
    |succ i=>
     have hi:i<y.length:=by have:=(List.getElem?_eq_some_iff.1 hv).1;omega
     have key:∀(j u:Nat),y[j]?=some u→w<u:=by
      intro j
      induction j with
      |zero=>intro u hu;exact(h 1 u (by simpa using hu)).2.2 w zO rfl
      |succ j ih=>
       intro u hu;obtain⟨t,ht⟩:=get_of_lt y (k:=j) (by have:=(List.getElem?_eq_some_iff.1 hu).1;omega);have:=(h (j+1+1) u (by simpa using hu)).2.2 t zO (by simpa using ht);have:=ih t ht
       omega
     exact key _ v hv
   ·obtain⟨j,rfl⟩:∃j,i=j+1:=⟨i-1,zO⟩
    exact h1.2.2 u zO (by simpa using hu)
theorem setB_inc {m:Nat}{s:List Nat}:setB m (natInts s)=true↔Inc 0 m s:=by
 unfold setB;rw[upto_iff,inc_iff];have hg:∀(i v:Nat),s[i]?=some v→(natInts s)[i]?=some (v:Int):=fun i v h=>by simp[natInts,h]
 constructor
 ·intro h i v hv;have h1:=h i (by have:=(List.getElem?_eq_some_iff.1 hv).1;simpa[natInts] using this);cases i with
  |zero=>
   rw[setAt_zero (hg 0 v hv)] at h1;simp only[inB,Bool.and_eq_true,decide_eq_true_eq] at h1;exact⟨Nat.zero_le _,zO,fun u hu=>absurd hu zO⟩
  |succ i=>
   obtain⟨t,ht⟩:=get_of_lt s (k:=i) (by have:=(List.getElem?_eq_some_iff.1 hv).1;omega);rw[setAt_succ (hg _ v hv) (hg i t ht)] at h1;simp only[inB,Bool.and_eq_true,decide_eq_true_eq] at h1;refine⟨Nat.zero_le _,zO,fun u _ hu=>?_⟩;rw[Nat.add_sub_cancel,ht] at hu;cases hu
   omega
 ·intro h i hi;have hi':i<s.length:=by simpa[natInts] using hi
  obtain⟨v,hv⟩:=get_of_lt s hi';have h1:=h i v hv;cases i with
  |zero=>
   rw[setAt_zero (hg 0 v hv)];simp only[inB,Bool.and_eq_true,decide_eq_true_eq];omega
  |succ i=>
   obtain⟨t,ht⟩:=get_of_lt s (k:=i) zO;rw[setAt_succ (hg _ v hv) (hg i t ht)];have:=h1.2.2 t zO (by simpa using ht);simp only[inB,Bool.and_eq_true,decide_eq_true_eq];omega
theorem set_mem {m:Nat}{S:List Int}(h:setB m S=true):nats S∈setsOf m:=by
 rw[mem_setsOf,←setB_inc,←(set_nats h).1];exact h
theorem setB_of {m:Nat}{s:List Nat}(h:s∈setsOf m):setB m (natInts s)=true:=setB_inc.2 (mem_setsOf.1 h)
theorem cheapest_some {c:Cs}{l:List Prb}{a b:Nat}{s:List Nat}(h:cheapestOf c l a b=some s):s∈setsOf l.length∧decidesB c l a b s=true∧∀x∈setsOf l.length,decidesB c l a b x=true→costOf l s≤costOf l x:=(leastOf_some _).1 s h
theorem cheapest_none {c:Cs}{l:List Prb}{a b:Nat}(h:cheapestOf c l a b=none):∀x∈setsOf l.length,decidesB c l a b x=false:=(leastOf_some _).2 h
end Go.Proofs.YtjgldeeianionaaGreat
