/- Walks and plain laws. No condition. -/
import Derived.Test.YtjgldeeianionaaGreatV33
import Derived.Test.YtjgldeeianionaaGreatV35
import Derived.Test.YtjgldeeianionaaGreatV36
set_option maxHeartbeats 4000000
set_option maxRecDepth 100000
set_option linter.unusedSimpArgs false
set_option linter.unusedVariables false
namespace Go.Proofs.YtjgldeeianionaaGreat
open Go.RowKit
section
attribute [local go_sem] Oper.semAt_some
theorem flat_len {α β:Type}{f:α→List β}{B:Nat}:∀(L:List α),(∀x,(f x).length≤B)→(L.flatMap f).length≤L.length*B
 |[],_=>by simp
 |x::L,h=>by
  have ih:=flat_len L h;have h1:=h x;rw[List.flatMap_cons,List.length_append,List.length_cons,Nat.succ_mul]
  omega
theorem outGo_len:∀(ns pre:List Nat),(∀n∈ns,n≤4)→(outGo ns pre).length≤4^ns.length
 |[],pre,_=>by simp[outGo]
 |n::ns,pre,h=>by
  rw[outGo];have h1:=flat_len (f:=fun k=>outGo ns (pre++[k])) (B:=4^ns.length) (List.range n) (fun k=>outGo_len ns _ (fun m hm=>h m (by simp[hm])));rw[List.length_range] at h1;have h2:=h n zS;have h3:=Nat.mul_le_mul_right (4^ns.length) h2;rw[List.length_cons,Nat.pow_succ,Nat.mul_comm _ 4]
  omega
theorem outs_len {c:Cs}{l:List Prb}(hp:probesErr c l=0){s:List Nat}(hs:s.length≤5):(outsOf (cntsOf c l s)).length≤1024:=by
 have h1:=outGo_len (cntsOf c l s) [] (fun n hn=>by
  obtain⟨v,_,rfl⟩:=List.mem_map.1 hn
  rcases hv:l[v]? with _|p
  ·simp
  ·exact((probes_ok hp).2.2 p (List.mem_of_getElem? hv)).2.2)
 have h2:(cntsOf c l s).length=s.length:=by simp[cntsOf]
 rw[h2] at h1;exact Nat.le_trans h1 (Nat.le_trans (Nat.pow_le_pow_right zO hs) (by decide))
theorem set_ge {m:Nat}{S:List Int}(h:setB m S=true):∀(k:Nat) (x:Int),S[k]?=some x→(k:Int)≤x
 |0,x,hx=>by
  obtain⟨v,rfl,_⟩:=set_val h hx
  omega
 |k+1,x,hx=>by
  have hk:=(List.getElem?_eq_some_iff.1 hx).1;obtain⟨y,hy⟩:=get_of_lt S (k:=k) zO;have ih:=set_ge h k y hy;have h1:=upto_iff.1 h (k+1) hk;rw[setAt_succ hx hy] at h1;simp at h1
  omega
theorem set_len {m:Nat}{S:List Int}(h:setB m S=true):S.length≤m:=by
 rcases hn:S.length with _|n
 ·omega
 ·obtain⟨x,hx⟩:=get_of_lt S (k:=n) zO;have h1:=set_ge h n x hx;obtain⟨v,rfl,hv⟩:=set_val h hx
  omega
section
variable {t:Nat}{c:Cs}{pa:Option Addr}{pc:Nat}{l:List Prb}{qa:Option Addr}{qc:Nat}
end
theorem find_true {α:Type}(L:List α):(L.find? fun _=>true)=L.head?:=by cases L<;>simp
def wholeE (c:Cs):Int:=if checkCase c≠0 then checkCase c else if(allR c).isEmpty then 61 else 0
theorem wholeR9_any (c:Cs)(hsm:c.Small)(pa:Option Addr)(pc:Nat)(w:World)(hp:PartsAt w pa c.parts):
 Calls Tryz.prog 110 #[.agg #[.string c.ware,.int .i64 c.limit,.int .i64 c.by_,.slice pa c.parts.length pc]] w fun e w'=>e = .returned (.int .i64 (wholeE c))∧Below w.heap.size w w':=by
 obtain⟨w1,hw1⟩:=zx (w.alloc (.cells #[.string c.ware,.int .i64 c.limit,.int .i64 c.by_,.slice pa c.parts.length pc] 24));have hB1:Below w.heap.size w w1:=by rw[←hw1];go_grown
 have b1:Box w1 w.heap.size (csCells c pa pc) 24:=by rw[←hw1];exact Box.new _ _ _
 have HF:=zh (first_ref c hsm pa pc w1 (hp.below hB1));have e1:=zC (b1);have HW:=zh hw1;have HB1:=zh hB1;clear hw1 b1 hB1 hp;obtain⟨er,her⟩:=zx (checkCase c);have HER:=zh her;rw[her] at HF;clear her
 go_enter Tryz.func110,Tryz.ntmps110
 go_upto_region 1 with fail
 simp only[HW.out]
 go_wp2_with fail
 refine zM HF ?_;rintro e w2 ⟨hb2,(⟨h1,rfl⟩|⟨rfl,h1,rfl⟩|⟨rfl,x,a,cap,h1,rfl,_⟩)⟩
 ·have HB2:=zh (HB1.out.trans (hb2.mono HB1.out.size));have hb1:(er==0)=false:=beq_eq_false_iff_ne.2 h1;have HE:=zh (show wholeE c=er by unfold wholeE;rw[HER.out,if_pos h1]);clear hb2 e1 h1
  go_wp2_with fail
  go_ret
  refine⟨?_,HB2.out⟩;rw[HE.out];rfl
 ·have HB2:=zh (HB1.out.trans (hb2.mono HB1.out.size));have HE:=zh (show wholeE c=61 by
   unfold wholeE;rw[HER.out,if_neg zS];rw[find_true] at h1;rw[List.head?_eq_none_iff.1 h1];rfl)
  clear hb2 e1 h1
  go_wp2_with fail
  go_ret
  refine⟨?_,HB2.out⟩;rw[HE.out];rfl
 ·have HB2:=zh (HB1.out.trans (hb2.mono HB1.out.size));have HE:=zh (show wholeE c=0 by
   unfold wholeE;rw[HER.out,if_neg zS];rw[find_true] at h1;cases hL:allR c with
   |nil=>rw[hL] at h1;cases h1
   |cons y L=>rfl)
  clear hb2 e1 h1
  go_wp2_with fail
  go_ret
  refine⟨?_,HB2.out⟩;rw[HE.out];rfl
theorem xErr_whole {c:Cs}{l:List Prb}{ok:Bool}(h1:probesErr c l=0)(h2:ok=true):xErr c l ok=wholeE c:=by
 have h0:=(probes_ok h1).1;unfold xErr wholeE;rw[if_neg (show ¬probesErr c l≠0 from fun h=>h h1),if_pos h2,if_neg (show ¬checkCase c≠0 from fun h=>h h0)]
theorem xErr_set {c:Cs}{l:List Prb}{ok:Bool}(h:xErr c l ok=0):probesErr c l=0∧ok=true∧(allR c).isEmpty=false:=by
 unfold xErr at h
 split at h
 ·rename_i h1;exact absurd h h1
 ·rename_i h1
  have h1:probesErr c l=0:=Decidable.not_not.1 h1;cases ok
  ·simp at h
  ·refine⟨h1,rfl,?_⟩;cases hL:(allR c).isEmpty
   ·rfl
   ·rw[hL] at h;simp at h
theorem app_new9 {W:World}{a:Option Addr}{c:Nat}{l:List Int}(h:Ints W a l)(hl:l.length≤100000):
 ∃a' c' U,(Builtin.append_ #[26,26] 26 #[.slice (some ⟨W.heap.size,0,none⟩) 0 0,.slice a l.length c]).run Tryz.prog (W.alloc (.cells #[] 3)) = .ok (.slice a' l.length c') U∧Ints U a' l∧l.length≤c'∧(∀b o,a'=some ⟨b,o,none⟩→0<l.length→W.heap.size≤b)∧Below W.heap.size W U:=by
 obtain⟨v',U,hrun,hown,hg,_⟩:=run_append_row (P:=Tryz.prog) (W.alloc (.cells #[] 3)) W.heap.size 26 26 3 (.int .i64 0) 1 8 Tryz.underlying26 info_int rfl zO
  (.slice (some ⟨W.heap.size,0,none⟩) 0 0) 0 [] (ownsRow_empty W _ _ _ (Nat.le_refl _)) a l.length c (l.map (.int .i64)) zS (h.below ((Below.refl _ W).alloc (Nat.le_refl _) _)) (ints_one l) zO zO zS
 obtain⟨a',c',rfl,hr,hcap⟩:=ownsRow_own hown;have hr':RowOwn W.heap.size U a' (l.map (Value.int .i64)):=by simpa using hr
 refine⟨a',c',U,by simpa using hrun,ints_rowOwn hr',by simpa using hcap,fun b o ha hl=>rowOwn_block hr' ha hl,?_⟩;exact((Below.refl _ W).alloc (Nat.le_refl _) _).trans ((grown_below (ownsRow_empty W W.heap.size _ 1 (Nat.le_refl _)) hg (Nat.le_refl _) zS))
theorem app_full {W:World}{ba:Option Addr}{pre:List Nat}(h:Ints W ba (natInts pre))(hn:pre=[]→ba=none)(hl:pre.length≤1000)(k:Nat):
 ∃v' U,(Builtin.append_ #[26,26] 26 #[.slice ba pre.length pre.length,.slice (some ⟨W.heap.size,0,none⟩) 1 1]).run Tryz.prog (W.alloc (.cells #[.int .i64 k] 3)) = .ok v' U∧U.ownsRow W.heap.size 3 1 v' (pre.length+1) ((natInts (pre++[k])).map (Value.int .i64))∧Below W.heap.size W U:=by
 have hb:=Box.new W #[.int .i64 (k:Int)] 3
 rcases pre with _|⟨x,pre⟩
 ·rw[hn rfl];obtain⟨v7,w7,h1,h2,h3⟩:=app_one (E:=3) (TT:=26) Tryz.underlying26 info_int rfl zO (ownsRow_nil W W.heap.size 3 1) zO (Nat.le_refl _) (.int .i64 (k:Int)) rfl;exact⟨v7,w7,h1,by simpa[natInts] using h2,h3⟩
 ·obtain⟨b,o,rfl,hc⟩:=h.base (by simp[natInts]);obtain⟨i,hi,hz⟩:=Option.map_eq_some_iff.1 info_int;simp only[Prod.mk.injEq] at hz;obtain⟨z1,z2,z3⟩:=hz;have hbl:Below W.heap.size W (W.alloc (.cells #[.int .i64 (k:Int)] 3)):=(Below.refl _ W).alloc (Nat.le_refl _) _;obtain⟨v',U,h1,h2,h3⟩:=run_append_arg_grows (P:=Tryz.prog) (w:=W.alloc (.cells #[.int .i64 (k:Int)] 3)) 26 26 3 i (.int .i64 0) 1 8 Tryz.underlying26 hi z1 z2 z3 rfl zO
   ⟨b,o,none⟩ (x::pre).length (x::pre).length ((natInts (x::pre)).map (Value.int .i64)) (by simp[natInts]) (fun j u hu=>by
    obtain⟨y,hy,rfl⟩:=List.getElem?_map .. ▸ hu |> Option.map_eq_some_iff.1;rw[add_plain];exact below_cell hbl (hc j y hy))
   ⟨W.heap.size,0,none⟩ 1 1 [.int .i64 (k:Int)] rfl (fun j u hu=>by
    rw[add_plain,Nat.zero_add,hb.cell]
    simpa using hu) zO (by unfold maxLen;omega) zO
  refine⟨v',U,h1,?_,hbl.grown h3 zS (fun j hj=>by cases hj)⟩;have:=ownsRow_low h2 (B:=W.heap.size) zS
  simpa[natInts] using this
theorem outGo_room {c:Cs}{l:List Prb}(hz:probesErr c l=0){s:List Nat}(hs:s.length≤5)(pre:List Nat)(k:Nat)(hk:k≤4):((List.range k).flatMap fun j=>outGo (cntsOf c l s) (pre++[j])).length+1024≤1000000:=by
 have hc:∀n∈cntsOf c l s,n≤4:=fun n hn=>by
  simp only[cntsOf,List.mem_map] at hn;obtain⟨v,hv,rfl⟩:=hn
  split
  ·rename_i p hp
   exact((probes_ok hz).2.2 p (List.mem_of_getElem? hp)).2.2
  ·omega
 have hl:(cntsOf c l s).length=s.length:=by simp[cntsOf]
 have h1:=flat_len (f:=fun j=>outGo (cntsOf c l s) (pre++[j])) (B:=4^(cntsOf c l s).length) (List.range k) (fun j=>outGo_len _ _ hc);rw[List.length_range,hl] at h1;have h2:4^s.length≤4^5:=Nat.pow_le_pow_right zO hs;have h3:k*4^s.length≤4*4^5:=Nat.mul_le_mul hk h2
 omega
theorem outGo_max {c:Cs}{l:List Prb}(hz:probesErr c l=0){s:List Nat}(hs:s.length≤5)(pre:List Nat):(outGo (cntsOf c l s) pre).length≤1024:=by
 have hc:∀n∈cntsOf c l s,n≤4:=fun n hn=>by
  simp only[cntsOf,List.mem_map] at hn;obtain⟨v,hv,rfl⟩:=hn
  split
  ·rename_i p hp
   exact((probes_ok hz).2.2 p (List.mem_of_getElem? hp)).2.2
  ·omega
 have hl:(cntsOf c l s).length=s.length:=by simp[cntsOf]
 have h1:=outGo_len (cntsOf c l s) pre hc;rw[hl] at h1;have h2:4^s.length≤4^5:=Nat.pow_le_pow_right zO hs
 omega
theorem outcomesR9_any {c:Cs}{l:List Prb}(hz:probesErr c l=0)(s:List Nat)(hs:∀v∈s,v<l.length)(hsl:s.length≤5)(pa:Option Addr)(pc:Nat)(qa:Option Addr)(qc:Nat)(sa:Option Addr)(sc:Nat):∀(r:Nat) (pre:List Nat) (ba:Option Addr) (bc:Nat) (w:World),pre.length+r=s.length→(pre=[]→ba=none∧bc=0)→pre.length≤bc→PartsAt w pa c.parts→PrbsAt w qa l→Ints w sa (natInts s)→Ints w ba (natInts pre) →
 Calls Tryz.prog 111 #[.agg #[.string c.ware,.int .i64 c.limit,.int .i64 c.by_,.slice pa c.parts.length pc],.slice qa l.length qc,.slice sa s.length sc,.slice ba pre.length bc] w fun e w'=>∃v,e = .returned v∧RowsV w.heap.size (fun b=>w.heap.size≤b) w' v (outGo (cntsOf c l (s.drop pre.length)) pre)∧Below w.heap.size w w'
 |0,pre,ba,bc,w,hlen,hn,hbc,hp,hq,hS,hb=>by
  have hpl:((pre.length:Int)==(s.length:Int))=true:=by simp;omega
  have HDR:=zh (show outGo (cntsOf c l (s.drop pre.length)) pre=[pre] by rw[List.drop_of_length_le zO];rfl);obtain⟨w1,hw1⟩:=zx (w.alloc (.cells #[.string c.ware,.int .i64 c.limit,.int .i64 c.by_,.slice pa c.parts.length pc] 24));have hB1:Below w.heap.size w w1:=by rw[←hw1];go_grown
  obtain⟨a',c',U,hrun,hu1,hu2,hu3,hu4⟩:=app_new9 (c:=bc) (hb.below hB1) (by rw[nat_len];omega);rw[nat_len] at hrun hu2 hu3;have HRN:=zh hrun;have HU1:=zh hu1;have HU3:=zh hu3;have HBU:=zh (hB1.trans (hu4.mono hB1.size));have HSZ:=zh (show w.heap.size≤w1.heap.size from hB1.size);have HW:=zh hw1;have HS4:=zh hu4.size;clear hrun hu1 hu3 hu4 hB1 hw1 hp hq hS hb hlen
  go_enter Tryz.func111,Tryz.ntmps111
  go_upto_region 1 with fail
  simp only[HW.out]
  go_wp2_with (at_builtin;refine wpList_app rfl _ _ _ rfl rfl rfl HRN.out ?_)
  go_ret
  rw[HDR.out];refine⟨.slice (some ⟨U.heap.size,0,none⟩) 1 1,rfl,⟨[(pre,a',c')],rfl,ownsRow_one (Box.new _ _ _) HBU.out.size,fun z hz=>?_⟩,HBU.out.alloc HBU.out.size _⟩;rw[List.mem_singleton.1 hz];refine⟨HU1.out.below ((Below.refl _ U).alloc (Nat.le_refl _) _),hu2,fun b o ha hl=>⟨?_,?_⟩⟩
  ·have:=ints_lt HU1.out ha (by simpa[natInts] using hl)
   simp[Value.ownBlock]
   omega
  ·have:=HU3.out b o ha hl;have:=HSZ.out
   omega
 |r+1,pre,ba,bc,w,hlen,hn,hbc,hp,hq,hS,hb=>by
  have hpl:((pre.length:Int)==(s.length:Int))=false:=by simp;omega
  obtain⟨v,hv⟩:=get_of_lt s (k:=pre.length) zO;have hvl:=hs v (List.mem_of_getElem? hv);obtain⟨pr,hpr⟩:=get_of_lt l hvl;obtain⟨i,q,hi,hqq,⟨s1,s2,s3⟩,v1,v2⟩:=cnt_at9 hz hpr;have hm4:=((probes_ok hz).2.2 pr (List.mem_of_getElem? hpr)).2.2;have hspn:=spanOf_at (d:=c) (p:=pr) (q:=q) (by rw[hi];simpa using hqq);have hcz:=cnt_toNat (s:=q.span) (v:=pr.width) zO s2;have HCN:=zh (fun W h=>countR9_any hi hqq s1 s2 s3 v1 v2 pa pc W h);rw[hcz] at HCN;rw[hspn] at hm4;have hdrop:s.drop pre.length=v::s.drop (pre.length+1):=by
   rw[List.drop_eq_getElem_cons zO]
   congr 1
   exact(List.getElem?_eq_some_iff.1 hv).2
  have HDR:=zh (show outGo (cntsOf c l (s.drop pre.length)) pre=(List.range (cntN q.span pr.width)).flatMap fun j=>outGo (cntsOf c l (s.drop (pre.length+1))) (pre++[j]) by
   rw[hdrop];simp only[cntsOf,List.map_cons,hpr,hspn,outGo])
  have HRM:=zh (fun k (hk:k≤4)=>outGo_room hz (s:=s.drop (pre.length+1)) (by rw[List.length_drop];omega) pre k hk);have HMX:=zh (fun k=>outGo_max hz (s:=s.drop (pre.length+1)) (by rw[List.length_drop];omega) (pre++[k]));have hsv:(natInts s)[pre.length]?=some (v:Int):=by simp[natInts,hv]
  obtain⟨b1,o1,rfl,q1⟩:=hS.base (by simp[natInts];omega);have hcs:=q1 _ _ hsv;obtain⟨b2,o2,pr',rfl,hpr',hG⟩:=hq.at_ hvl;rw[hpr] at hpr';cases hpr';have hIH:=fun pre ba bc w=>outcomesR9_any hz s hs hsl pa pc (some ⟨b2,o2,none⟩) qc (some ⟨b1,o1,none⟩) sc r pre ba bc w
  have HIH:=zh hIH;have hvn:(v:Int)<(l.length:Int):=by omega
  have hpn:(pre.length:Int)<(s.length:Int):=by omega
  have HLEN:=zh hlen;have HP:=zh hp;have HQ:=zh hq;have HS:=zh hS;have HI:=zh hb;have HN:=zh hn;have HG:=zh hG;have HCS:=zh hcs;clear hz hs hv hvl hpr hi hqq s1 s2 s3 v1 v2 hspn hcz hdrop hsv q1 hcs hG hIH hp hq hS hb hn hlen;generalize cntN q.span pr.width=M at *;obtain⟨w1,hw1⟩:=zx (w.alloc (.cells #[.string c.ware,.int .i64 c.limit,.int .i64 c.by_,.slice pa c.parts.length pc] 24));have hB1:Below w.heap.size w w1:=by rw[←hw1];go_grown
  have b1':Box w1 w.heap.size (csCells c pa pc) 24:=by rw[←hw1];exact Box.new _ _ _
  have hs1:w1.heap.size=w.heap.size+1:=by rw[←hw1];simp
  have HW:=zh hw1;have HB1:=zh hB1;have HX1:=zh b1';have HS1:=zh hs1;clear hw1 hB1 b1' hs1
  go_enter Tryz.func111,Tryz.ntmps111
  go_upto_region 1 with fail
  simp only[HW.out]
  go_wp2_with fail
  go_loopw [9,10] (fun ov kv wr=>∃k:Nat,k≤M∧kv = .int .i64 k∧RowsV (w.heap.size+1) (fun b=>w.heap.size≤b) wr ov ((List.range k).flatMap fun j=>outGo (cntsOf c l (s.drop (pre.length+1))) (pre++[j]))∧Box wr w.heap.size (csCells c pa pc) 24∧Below w.heap.size w wr) (fun _ kv _=>M-(intOf kv).toNat)
  case atStart=>exact⟨0,Nat.zero_le _,rfl,RowsV.nil _ _ _,HX1.out,HB1.out⟩
  case round=>
   obtain⟨k,hk,rfl,hrows,hbx,hbw⟩:=hrel;have HR:=zh hrows;have HBX:=zh hbx;have HBW:=zh hbw;have hxl:=hbx.lt;have hub:∀g,u9.ownBlock=some g→w.heap.size+1≤g∧g<wr.heap.size:=fun g hg=>by
    obtain⟨_,_,h,_⟩:=hrows;exact h.lt g hg
   have K0:Hid (∀A,Below wr.heap.size wr A→cC A (w.heap.size) c pa pc∧A.cell? ⟨b1,o1+pre.length,none⟩=some (.int .i64 (v:Int))∧A.cell? ⟨b2,o2+v*4,none⟩=some (.int .i64 pr.id)∧A.cell? ⟨b2,o2+v*4+1,none⟩=some (.int .i64 pr.part)∧A.cell? ⟨b2,o2+v*4+2,none⟩=some (.int .i64 pr.width)∧A.cell? ⟨b2,o2+v*4+3,none⟩=some (.int .i64 pr.cost)):=
    zh fun A hA=>⟨(hbx.below' hA).cell,below_cell (hbw.trans (hA.mono hbw.size)) HCS.out,(HG.out.below (hbw.trans (hA.mono hbw.size))).open⟩
   clear hrows hbx hbw
   go_upto_region 5 with fail
   refine wp_region_L (fun A=>Below wr.heap.size wr A) 12 zK ?_;have hSS:Below wr.heap.size wr wr.drew:=(Below.refl _ wr).drew;generalize wr.drew=w4 at *;refine tM K0 0 hSS ?_;refine tM K0 1 hSS ?_;refine tM K0 2 hSS ?_;refine tM K0 3 hSS ?_;refine tM K0 4 hSS ?_;refine tM K0 5 hSS ?_;refine tM K0 6 hSS ?_;refine tM K0 7 hSS ?_;refine tM K0 8 hSS ?_;refine tM K0 9 hSS ?_;refine anyL_call (i:=10) (f:=54) (args:=#[.agg #[.string c.ware,.int .i64 c.limit,.int .i64 c.by_,.slice pa c.parts.length pc],.agg #[.int .i64 pr.id,.int .i64 pr.part,.int .i64 pr.width,.int .i64 pr.cost]]) rfl zK (by rfl) (by go_simp) (HCN.out _ (HP.out.below (HBW.out.trans (hSS.mono HBW.out.size)))) ?_;rintro e5 w5 ⟨rfl,hb5⟩;have hSS:=hSS.trans (hb5.mono hSS.size);refine .inl ⟨_,rfl,.inr hSS,?_⟩
   try simp only[pZ]
   have HR:=zh (HR.out.below hSS);have HBX:=zh (HBX.out.below' hSS);have HBW:=zh (HBW.out.trans (hSS.mono HBW.out.size));have hxl:=HBX.out.lt;have hub:∀g,u9.ownBlock=some g→w.heap.size+1≤g∧g<w5.heap.size:=fun g hg=>⟨(hub g hg).1,by have:=(hub g hg).2;have:=hSS.size;omega⟩
   clear hb5
   by_cases hkM:k<M
   ·have hkn:(k:Int)<(M:Int):=by omega
    refine tM K0 11 hSS ?_;refine anyL_done zK ?_ _;clear hSS K0
    go_upto_region 7 with fail
    have KB:∀A,Keep (fun g=>g<w5.heap.size∧u9.ownBlock≠some g) w5 A→Below w.heap.size w A:=fun A hA=>HBW.out.trans ((hA.mono (fun g (hg:g<w.heap.size)=>⟨zO,fun h=>by have:=(hub _ h).1;omega⟩)).below zO)
    have KX:∀A,Keep (fun g=>g<w5.heap.size∧u9.ownBlock≠some g) w5 A→Box A w.heap.size (csCells c pa pc) 24:=fun A hA=>hA.heap ⟨hxl,fun h=>by have:=(hub _ h).1;omega⟩ HBX.out
    have K0:Hid (∀A,Keep (fun g=>g<w5.heap.size∧u9.ownBlock≠some g) w5 A→∀i,A.cell? ⟨w.heap.size,i,none⟩=(#[.string c.ware,.int .i64 c.limit,.int .i64 c.by_,.slice pa c.parts.length pc]:Array Value)[i]?):=zh fun A hA=>(KX A hA).cell
    refine wp_region_L (fun A=>Keep (fun g=>g<w5.heap.size∧u9.ownBlock≠some g) w5 A) 15 zK ?_;have hSS:Keep (fun g=>g<w5.heap.size∧u9.ownBlock≠some g) w5 w5.drew:=(Keep.refl _ w5).drew;have hb6:Below w5.heap.size w5 w5.drew:=(Below.refl _ w5).drew;generalize w5.drew=w6 at *;refine tM K0 0 hSS ?_;refine tM K0 1 hSS ?_;refine tM K0 2 hSS ?_;refine tM K0 3 hSS ?_;refine tM K0 4 hSS ?_;refine tM K0 5 hSS ?_;refine tM K0 6 hSS ?_;refine tM K0 7 hSS ?_;refine tM K0 8 hSS ?_;refine tM K0 9 hSS ?_;refine tM K0 10 hSS ?_;have hia:=HI.out.below (KB w6 hSS);obtain⟨v7,w7,hrun,hown,hb7⟩:=app_full hia (fun h=>(HN.out h).1) (by have:=HLEN.out;omega) k;have hal:Below w6.heap.size w6 (w6.alloc (.cells #[.int .i64 (k:Int)] 3)):=(Below.refl _ w6).alloc (Nat.le_refl _) _
    have hbal:Below w5.heap.size w5 (w6.alloc (.cells #[.int .i64 (k:Int)] 3)):=hb6.trans (hal.mono hb6.size);refine anyL_run (i:=11) (v:=.slice (some ⟨w6.heap.size,0,none⟩) 1 1) (w':=w6.alloc (.cells #[.int .i64 (k:Int)] 3)) rfl zK (by rfl) (by go_simp) (.inr (Keep.of_below' hbal)) ?_
    try simp only[pZ]
    have hb57:=hb6.trans (hb7.mono hb6.size);have hs56:=hb6.size;obtain⟨a7,c7,rfl,hro7,hc7⟩:=ownsRow_own hown;refine anyL_run (i:=12) (v:=.slice a7 (pre.length+1) c7) (w':=w7) rfl zK (by rfl) ?_ (.inr (Keep.of_below' hb57)) ?_
    ·refine exec_app (v:=.slice ba pre.length pre.length) (u:=.slice (some ⟨w6.heap.size,0,none⟩) 1 1) _ _ 26 rfl (by rfl) (by rfl) ?_;exact hrun
    try simp only[pZ]
    have hlw:=KB w7 (Keep.of_below' hb57);have hall:=HIH.out (pre++[k]) a7 c7 w7 (by have:=HLEN.out;rw[List.length_append,List.length_singleton];omega) (fun h=>by simp at h) (by rw[List.length_append,List.length_singleton];exact hc7) (HP.out.below hlw) (HQ.out.below hlw) (HS.out.below hlw) (ints_rowOwn hro7);rw[List.length_append,List.length_singleton] at hall;refine anyL_call (i:=13) (f:=111) rfl zK (by rfl) ?_ hall ?_
    ·go_simp
    rintro e8 w8 ⟨v8,rfl,hr8,hb8⟩;have hb58:=hb57.trans (hb8.mono hb57.size);refine .inl ⟨v8,rfl,.inr (Keep.of_below' hb58),?_⟩
    try simp only[pZ]
    have hr9:RowsV (w.heap.size+1) (fun b=>w.heap.size≤b∧u9.ownBlock≠some b) w8 v8 (outGo (cntsOf c l (s.drop (pre.length+1))) (pre++[k])):=hr8.less (by have:=hb57.size;omega) (fun b hb=>⟨by have:=hb57.size;omega,fun h=>by have:=(hub b h).2;have:=hb57.size;omega⟩);obtain⟨v9,w9,hrun9,hr10,k9,_⟩:=rows_app (HR.out.below hb58) hr9 (by have:=HRM.out k zO;have:=HMX.out k;omega) (by have:=hb58.size;omega);refine anyL_run (i:=14) (v:=v9) (w':=w9) rfl zK (by rfl) ?_ (.inr (((Keep.refl _ w5).trans (Keep.of_below' hb58)).trans (k9.mono fun k hk=>hk.2))) ?_
    ·refine exec_app (v:=u9) (u:=v8) _ _ 49 rfl (by rfl) (by rfl) ?_;exact hrun9
    try simp only[pZ]
    refine anyL_run (i:=15) (v:=v9) (w':=w9) rfl zK (by rfl) (by go_simp) (.inl rfl) ?_
    try simp only[pZ]
    refine anyL_done zK ?_ _;have hx9:Box w9 w.heap.size (csCells c pa pc) 24:=k9.heap (fun h=>by have:=(hub _ h).1;omega) (HBX.out.below' hb58);have hw9:Below w.heap.size w w9:=(HBW.out.trans (hb58.mono HBW.out.size)).trans ((k9.mono fun k (hk:k<w.heap.size) h=>by have:=(hub _ h).1;omega).below (by have:=hb58.size;omega));have HR9:=zh hr10;have HX9:=zh hx9;have HW9:=zh hw9;clear hr10 hx9 hw9 k9 hr9 hr8 hall hro7 hb8 hb58 hb57 hb7 hb6 hal hbal hrun hrun9 hlw hia hs56 K0 KB KX hSS hown
    go_wp2_with fail
    go_roundw
    case rel=>exact⟨k+1,zO,zN,by rw[List.range_succ,List.flatMap_append,List.flatMap_singleton];exact HR9.out,HX9.out,HW9.out⟩
    case measure=>exact zJ
   ·obtain rfl:k=M:=by omega
    have hkn:¬(k:Int)<(k:Int):=by omega
    refine tM K0 11 hSS ?_;refine anyL_done zK ?_ _;clear hSS K0
    go_wp2_with fail
    go_ret
    refine⟨_,rfl,?_,HBW.out⟩;rw[HDR.out];exact HR.out.less zO (fun b hb=>hb)
theorem flat_max {α:Type}{G:Nat→List α}{B:Nat}(h:∀j,(G j).length≤B):∀k,((List.range k).flatMap G).length≤k*B
 |0=>by simp
 |k+1=>by
  rw[List.range_succ,List.flatMap_append,List.flatMap_singleton,List.length_append,Nat.succ_mul];have:=flat_max h k;have:=h k
  omega
theorem setGo_max {m:Nat}(hm:m≤5):∀(r:Nat) (s:List Nat) (a:Nat),(setGo m r s a).length≤6^r
 |0,s,a=>by simp[setGo]
 |r+1,s,a=>by
  have h:=flat_max (G:=fun k=>setGo m r (s++[a+k]) (a+k+1)) (fun j=>setGo_max hm r _ _) (m-a);have h1:(m-a)*6^r≤5*6^r:=Nat.mul_le_mul zO (Nat.le_refl _);have h2:0<6^r:=Nat.pow_pos zO;simp only[setGo,List.length_cons];rw[Nat.pow_succ]
  omega
def SetsR (l:List Prb)(G:List (List Nat))(w:World)(e:Ending)(w':World):Prop:=∃v,e = .returned v∧RowsV w.heap.size (fun b=>w.heap.size≤b) w' v G∧Below w.heap.size w w'
def NextOf (pre:List Nat)(x:Nat):Prop:=(pre=[]∧x=0)∨∃k v,pre.length=k+1∧pre[k]?=some v∧x=v+1
theorem NextOf.snoc (pre:List Nat)(j:Nat):NextOf (pre++[j]) (j+1):=.inr ⟨pre.length,j,by simp,by simp,rfl⟩
theorem sets_body {l:List Prb}{qa:Option Addr}{qc:Nat}(hl5:l.length≤5){pre:List Nat}{x:Nat}(hpl:pre.length≤5)(hx:NextOf pre x)(hxm:x≤l.length)(G:Nat→List (List Nat))(hG:∀j,(G j).length≤7776)
 (hIH:∀k,x+k<l.length→∀(ba:Option Addr) (bc:Nat) (w:World),pre.length+1≤bc→Ints w ba (natInts (pre++[x+k]))→Calls Tryz.prog 172 #[.slice qa l.length qc,.slice ba (pre.length+1) bc] w (SetsR l (G k) w))
 (ba:Option Addr) (bc:Nat) (w:World) (hn:pre=[]→ba=none∧bc=0) (hbc:pre.length≤bc) (hI:Ints w ba (natInts pre)):
 Calls Tryz.prog 172 #[.slice qa l.length qc,.slice ba pre.length bc] w (SetsR l ([pre]++(List.range (l.length-x)).flatMap G) w):=by
 obtain⟨a',c',U,hrun,hu1,hu2,hu3,hu4⟩:=app_new9 (c:=bc) hI (by rw[nat_len];omega);rw[nat_len] at hrun hu2 hu3;have HRN:=zh hrun;have HI:=zh hI;have HBU:=zh hu4;have hr0:RowsV w.heap.size (fun b=>w.heap.size≤b) (U.alloc (.cells #[.slice a' pre.length c'] 26)) (.slice (some ⟨U.heap.size,0,none⟩) 1 1) [pre]:=
  ⟨[(pre,a',c')],rfl,ownsRow_one (Box.new _ _ _) hu4.size,fun z hz=>by
   rw[List.mem_singleton.1 hz];refine⟨hu1.below ((Below.refl _ U).alloc (Nat.le_refl _) _),hu2,fun b o ha hl=>⟨?_,?_⟩⟩
   ·have:=ints_lt hu1 ha (by simpa[natInts] using hl)
    simp[Value.ownBlock]
    omega
   ·exact hu3 b o ha hl⟩
 obtain⟨w1,hw1⟩:=zx (U.alloc (.cells #[.slice a' pre.length c'] 26));rw[hw1] at hr0;have hB1:Below w.heap.size w w1:=by rw[←hw1];exact hu4.alloc hu4.size _
 have HW:=zh hw1;have HB1:=zh hB1;have HR0:=zh hr0;have HIH:=zh hIH;have HN:=zh hn;have HX:=zh hx;have HGL:=zh hG;have HFL:=zh (fun k=>flat_max hG k);clear hrun hu1 hu3 hu4 hw1 hB1 hr0 hIH hn hI hx hG
 go_enter Tryz.func172,Tryz.ntmps172
 go_upto_if 14 with (at_builtin;refine wpList_app rfl _ _ _ rfl rfl rfl HRN.out ?_)
 simp only[HW.out]
 go_cut [6] (fun s6 wx=>s6 = .int .i64 x∧wx=w1)
 case first=>
  rcases HX.out with ⟨rfl,rfl⟩|⟨k,v,hk,hv,rfl⟩
  ·go_wp2_with fail
   go_meet
   exact⟨rfl,rfl⟩
  ·have hv':(natInts pre)[k]?=some (v:Int):=by simp[natInts,hv]
   obtain⟨b,o,hba,hc⟩:=HI.out.base (by simp[natInts];omega);subst hba;have c1:=below_cell HB1.out (hc k _ hv');rw[hk];have hpos:(0:Int)<(k:Int)+1:=by omega
   clear hc hv hv'
   go_wp2_with fail
   rw[←hk]
   go_meet
   first|exact⟨rfl,rfl⟩|exact⟨by simp,rfl⟩
 case rest=>
  obtain⟨rfl,rfl⟩:=hcut
  go_wp2_with fail
  go_loopw [5,7] (fun ov iv wr=>∃k:Nat,x+k≤l.length∧iv = .int .i64 ((x+k:Nat):Int)∧RowsV w.heap.size (fun b=>w.heap.size≤b) wr ov ([pre]++(List.range k).flatMap G)∧Below w.heap.size w wr) (fun _ iv _=>l.length-(intOf iv).toNat)
  case atStart=>exact⟨0,zO,by simp,by simpa using HR0.out,HB1.out⟩
  case round=>
   obtain⟨k,hk,rfl,hrows,hbw⟩:=hrel;have HR:=zh hrows;have HBW:=zh hbw;have hub:∀g,u5.ownBlock=some g→w.heap.size≤g∧g<wr.heap.size:=fun g hg=>by
    obtain⟨_,_,h,_⟩:=hrows;exact h.lt g hg
   clear hrows hbw;obtain⟨j,hj⟩:=zx (x+k);rw[hj]
   by_cases hlt:j<l.length
   ·have hjn:(j:Int)<(l.length:Int):=by omega
    obtain⟨v7,w7,hrun,hown,hb7⟩:=app_full (HI.out.below HBW.out) (fun h=>(HN.out h).1) zO j;obtain⟨a7,c7,rfl,hro7,hc7⟩:=ownsRow_own hown;have hall:=HIH.out k zO a7 c7 w7 hc7 (by rw[hj];exact ints_rowOwn hro7);have HRN7:=zh hrun;have HAL:=zh hall;have HB7:=zh hb7;have HUB:=zh hub;clear hrun hown hb7 hro7 hall hub hc7
    go_wp2_with (at_builtin;refine wpList_app rfl _ _ _ rfl rfl rfl HRN7.out ?_)
    refine zM HAL ?_;rintro e8 w8 ⟨v8,rfl,hr8,hb8⟩;have hb58:=HB7.out.trans (hb8.mono HB7.out.size);have hr9:RowsV w.heap.size (fun b=>w.heap.size≤b∧u5.ownBlock≠some b) w8 v8 (G k):=hr8.less (by have:=HBW.out.size;have:=HB7.out.size;omega) (fun b hb=>⟨by have:=HBW.out.size;have:=HB7.out.size;omega,fun h=>by have:=(HUB.out b h).2;have:=HB7.out.size;omega⟩);obtain⟨v9,w9,hrun9,hr10,k9,_⟩:=rows_app (HR.out.below hb58) hr9 (by
     have h1:=HGL.out k;have h2:=HFL.out k;have h3:k*7776≤5*7776:=Nat.mul_le_mul zO (Nat.le_refl _);rw[List.length_append,List.length_singleton];omega) (by have:=HBW.out.size;have:=hb58.size;omega)
    have HW9:=zh ((HBW.out.trans (hb58.mono HBW.out.size)).trans ((k9.mono fun k (hk:k<w.heap.size) h=>by have:=(HUB.out _ h).1;omega).below (by have:=HBW.out.size;have:=hb58.size;omega)));have HR9:=zh hr10;have HRN9:=zh hrun9;clear hr10 hrun9 k9 hr9 hr8 hb58 hb8
    go_wp2_with (at_builtin;refine wpList_app rfl _ _ _ rfl rfl rfl HRN9.out ?_)
    go_roundw
    case rel=>
     refine⟨k+1,zO,by rw[←hj];go_num,?_,HW9.out⟩;rw[List.range_succ,List.flatMap_append,List.flatMap_singleton,←List.append_assoc];exact HR9.out
    case measure=>exact zJ
   ·have hke:k=l.length-x:=by omega
    have HKE:=zh hke;have hjn:¬(j:Int)<(l.length:Int):=by omega
    clear hke
    go_wp2_with fail
    go_ret
    refine⟨_,rfl,?_,HBW.out⟩;rw[←HKE.out];exact HR.out
theorem setsR_any {l:List Prb}{qa:Option Addr}{qc:Nat}(hl5:l.length≤5):∀(r:Nat),r≤5→∀(pre:List Nat) (x:Nat) (ba:Option Addr) (bc:Nat) (w:World),l.length-x≤r→x≤l.length→pre.length+r≤5→NextOf pre x→(pre=[]→ba=none∧bc=0)→pre.length≤bc→Ints w ba (natInts pre) →
 Calls Tryz.prog 172 #[.slice qa l.length qc,.slice ba pre.length bc] w (SetsR l (setGo l.length r pre x) w)
 |0,_,pre,x,ba,bc,w,hr,hxm,hpr,hx,hn,hbc,hI=>by
  have h:=sets_body (qa:=qa) (qc:=qc) hl5 zO hx hxm (fun _=>[]) zS (fun k hk=>absurd hk zO) ba bc w hn hbc hI;have e:l.length-x=0:=by omega
  rw[e] at h
  simpa[setGo] using h
 |r+1,h5,pre,x,ba,bc,w,hr,hxm,hpr,hx,hn,hbc,hI=>by
  exact sets_body hl5 zO hx hxm (fun k=>setGo l.length r (pre++[x+k]) (x+k+1)) (fun j=>Nat.le_trans (setGo_max hl5 r _ _) (Nat.pow_le_pow_right zO (by omega:r≤5)))
   (fun k hk ba' bc' w' hb' hI'=>by
    have h:=setsR_any (qa:=qa) (qc:=qc) hl5 r zO (pre++[x+k]) (x+k+1) ba' bc' w' zO zO (by rw[List.length_append,List.length_singleton];omega) (NextOf.snoc _ _) (fun h=>by simp at h) (by rw[List.length_append,List.length_singleton];exact hb') hI'
    rwa [List.length_append,List.length_singleton] at h) ba bc w hn hbc hI
theorem RowsV.hi {B:Nat}{W:World}{v:Value}{L:List (List Nat)}(h:RowsV B (fun b=>B≤b) W v L):∃a cap,v = .slice a L.length cap∧L.length≤cap∧RowsHi B W.heap.size W a L:=by
 obtain⟨zs,h1,h2,h3⟩:=h;obtain⟨a,cap,hv,hr,hc⟩:=ownsRow_own h2;refine⟨a,cap,hv,hc,?_⟩;rw[←h1];exact rowE_hi hr fun z hz=>⟨(h3 z hz).1,(h3 z hz).2.1,fun b o ha hl=>((h3 z hz).2.2 b o ha hl).2⟩
theorem setsXR9_any {l:List Prb}(hl5:l.length≤5)(qa:Option Addr)(qc:Nat)(w:World):
 Calls Tryz.prog 89 #[.slice qa l.length qc] w fun e w'=>∃a cap,e = .returned (.slice a (setsOf l.length).length cap)∧RowsHi w.heap.size w'.heap.size w' a (setsOf l.length)∧Below w.heap.size w w':=by
 have HS:=zh (setsR_any (qa:=qa) (qc:=qc) hl5 l.length hl5 [] 0 none 0 w zO zO (by simpa using hl5) (.inl ⟨rfl,rfl⟩) (fun _=>⟨rfl,rfl⟩) (Nat.le_refl _) (Ints.nil _ _));rw[List.length_nil] at HS
 go_enter Tryz.func89,Tryz.ntmps89
 go_wp2_with fail
 refine zM HS ?_;rintro e w2 ⟨v,rfl,hr,hb⟩;obtain⟨a,cap,rfl,_,hh⟩:=hr.hi;have HA:=zh hh;have HB:=zh hb;clear hh hr hb
 go_wp2_with fail
 go_ret
 exact⟨a,cap,rfl,HA.out,HB.out⟩
end
