/- Walks and plain laws. No condition. -/
import Derived.Test.YtjgldeeianionaaGreatV15
set_option maxHeartbeats 4000000
set_option maxRecDepth 100000
set_option linter.unusedSimpArgs false
set_option linter.unusedVariables false
namespace Go.Proofs.YtjgldeeianionaaGreat
open Go.RowKit
section
attribute [local go_sem] Oper.semAt_some
abbrev RowM:=List Nat×Option Addr×Nat
def rowHdr (z:RowM):Value:=.slice z.2.1 z.1.length z.2.2
def RowsV (B:Nat)(Q:Nat→Prop)(W:World)(v:Value)(L:List (List Nat)):Prop:=
 ∃zs:List RowM,zs.map (·.1)=L∧W.ownsRow B 26 1 v L.length (zs.map rowHdr)∧∀z∈zs,Ints W z.2.1 (natInts z.1)∧z.1.length≤z.2.2∧∀b o,z.2.1=some ⟨b,o,none⟩→0<z.1.length→v.ownBlock≠some b∧Q b
theorem rowHdr_one (zs:List RowM):∀u∈zs.map rowHdr,u.oneCell'=true:=by
 intro u hu;obtain⟨z,_,rfl⟩:=List.mem_map.1 hu
 rfl
theorem info_row:(Tryz.prog.info? 26).map (fun i=>(i.zero,i.size,i.bytes))=some (some (.slice none 0 0),1,24):=zK
theorem RowsV.keep {K Q:Nat→Prop}{B:Nat}{W W':World}{v:Value}{L:List (List Nat)}(h:RowsV B Q W v L)(hk:Keep K W W')(hK:∀k,k<W.heap.size→K k):RowsV B Q W' v L:=by
 obtain⟨zs,h1,h2,h3⟩:=h;refine⟨zs,h1,?_,fun z hz=>?_⟩
 ·refine⟨h2.1,?_⟩
  rcases h2.2 with h0|⟨g,cap,cur,e1,e2,e3,e4⟩
  ·exact .inl h0
  ·exact .inr ⟨g,cap,cur,e1,e2,hk.heap (hK g (Array.getElem?_eq_some_iff.1 e3).1) e3,e4⟩
 ·obtain⟨a1,a2,a3⟩:=h3 z hz;exact⟨ints_keep a1 hk (fun b o ha hl=>hK b (by
   obtain⟨b',o',_,ha',_,hc⟩:=a1.at_ (by simpa[natInts] using hl);rw[ha] at ha';cases ha';exact lt_of_cell hc)),a2,a3⟩
theorem RowsV.below {Q:Nat→Prop}{B:Nat}{W W':World}{v:Value}{L:List (List Nat)}(h:RowsV B Q W v L)(hb:Below W.heap.size W W'):RowsV B Q W' v L:=h.keep (K:=fun _=>True) (Keep.of_below' hb) (fun _ _=>trivial)
theorem RowsV.nil (B:Nat)(Q:Nat→Prop)(W:World):RowsV B Q W (.slice none 0 0) []:=⟨[],rfl,ownsRow_nil _ _ _ _,by simp⟩
theorem RowsV.at_ {Q:Nat→Prop}{B:Nat}{W:World}{v:Value}{L:List (List Nat)}(h:RowsV B Q W v L):∃a cap,v = .slice a L.length cap∧∀k x,L[k]?=some x→∃b o ra rc,a=some ⟨b,o,none⟩∧W.cell? ⟨b,o+k,none⟩=some (.slice ra x.length rc)∧Ints W ra (natInts x)∧x.length≤rc:=by
 obtain⟨zs,h1,h2,h3⟩:=h;obtain⟨a,cap,hv,hr,_⟩:=ownsRow_own h2;refine⟨a,cap,hv,fun k x hx=>?_⟩;rw[←h1,List.getElem?_map] at hx;obtain⟨z,hz,rfl⟩:=Option.map_eq_some_iff.1 hx;obtain⟨b,o,ha,hc⟩:=hr.row k (rowHdr z) (by rw[List.getElem?_map,hz];rfl);obtain⟨a1,a2,_⟩:=h3 z (List.mem_of_getElem? hz);exact⟨b,o,z.2.1,z.2.2,ha,hc,a1,a2⟩
theorem rows_app {Q:Nat→Prop}{B:Nat}{W:World}{v u:Value}{L M:List (List Nat)}(h:RowsV B Q W v L)(hu:RowsV B (fun b=>Q b∧v.ownBlock≠some b) W u M)(hl:L.length+M.length≤1000000)(hB:B≤W.heap.size):
 ∃v' U,(Builtin.append_ #[49,49] 49 #[v,u]).run Tryz.prog W = .ok v' U∧RowsV B Q U v' (L++M)∧Keep (fun k=>v.ownBlock≠some k) W U∧(v'.ownBlock=v.ownBlock∨v'.ownBlock=some W.heap.size):=by
 obtain⟨zs,h1,h2,h3⟩:=h;obtain⟨ys,y1,y2,y3⟩:=hu;obtain⟨a,cap,hv,hr,_⟩:=ownsRow_own y2;subst hv;obtain⟨v',U,hrun,hown,hg,hvb⟩:=run_append_row (P:=Tryz.prog) W B 49 49 26 (.slice none 0 0) 1 24 Tryz.underlying49 info_row rfl zO
  v _ _ h2 a M.length cap (ys.map rowHdr) (by rw[←y1];simp) hr.row (rowHdr_one ys) hl zO hB
 have kU:Keep (fun k=>v.ownBlock≠some k) W U:=(Keep.refl _ W).grown hg (fun k hk=>.inl (fun h=>h hk));refine⟨v',U,hrun,⟨zs++ys,by rw[List.map_append,h1,y1],by rw[List.length_append,List.map_append];exact hown,fun z hz=>?_⟩,kU,hvb⟩;have hb:∀b o,z.2.1=some ⟨b,o,none⟩→0<z.1.length→v.ownBlock≠some b∧Q b:=by
  rcases List.mem_append.1 hz with hz|hz
  ·exact(h3 z hz).2.2
  ·exact fun b o ha hl=>⟨((y3 z hz).2.2 b o ha hl).2.2,((y3 z hz).2.2 b o ha hl).2.1⟩
 have hi:Ints W z.2.1 (natInts z.1)∧z.1.length≤z.2.2:=by
  rcases List.mem_append.1 hz with hz|hz
  ·exact⟨(h3 z hz).1,(h3 z hz).2.1⟩
  ·exact⟨(y3 z hz).1,(y3 z hz).2.1⟩
 refine⟨ints_keep hi.1 kU (fun b o ha hl=>(hb b o ha (by simpa[natInts] using hl)).1),hi.2,fun b o ha hl=>⟨?_,(hb b o ha hl).2⟩⟩
 rcases hvb with h|h
 ·rw[h];exact(hb b o ha hl).1
 ·rw[h];intro he;cases he;have:=ints_lt hi.1 ha (by simpa[natInts] using hl)
  omega
theorem RowsV.less {Q Q':Nat→Prop}{B B':Nat}{W:World}{v:Value}{L:List (List Nat)}(h:RowsV B Q W v L)(hB:B'≤B)(hQ:∀b,Q b→Q' b):RowsV B' Q' W v L:=by
 obtain⟨zs,h1,h2,h3⟩:=h;refine⟨zs,h1,⟨h2.1,?_⟩,fun z hz=>⟨(h3 z hz).1,(h3 z hz).2.1,fun b o ha hl=>⟨((h3 z hz).2.2 b o ha hl).1,hQ b ((h3 z hz).2.2 b o ha hl).2⟩⟩⟩
 rcases h2.2 with h0|⟨g,cap,cur,e1,e2,e3,e4⟩
 ·exact .inl h0
 ·exact .inr ⟨g,cap,cur,e1,Nat.le_trans hB e2,e3,e4⟩
def bell:Nat→Nat→Nat
 |0,_=>1
 |r+1,m=>m*bell r m+bell r (m+1)
theorem bell_le:∀r m:Nat,bell r m≤bnd r m
 |0,_=>Nat.le_refl _
 |r+1,m=>Nat.add_le_add (Nat.mul_le_mul_left _ (Nat.le_trans (bell_le r m) (Nat.le_add_left _ _))) (bell_le r (m+1))
theorem yields_len {c:Cs}{r:Nat}{pre:List Nat}{N:Nat}(h:∀v,v<manyOf pre→(allGo c r (pre++[v])).length≤N):∀k,k≤manyOf pre→(yields c r pre k).length≤k*N
 |0,_=>by simp[yields_zero]
 |k+1,hk=>by
  rw[yields_succ,List.length_append,Nat.succ_mul];have h1:=yields_len h k zO;have h2:=h k zO
  split
  ·omega
  ·simp;omega
theorem allGo_count (c:Cs):∀(r:Nat) (pre:List Nat),(allGo c r pre).length≤bell r (manyOf pre)
 |0,_=>Nat.le_refl _
 |r+1,pre=>by
  rw[←yields_all,yields_succ,List.length_append];have h1:=yields_len (c:=c) (r:=r) (pre:=pre) (N:=bell r (manyOf pre)) (fun v hv=>by
   have:=allGo_count c r (pre++[v])
   rwa [manyOf_snoc,Nat.max_eq_left zO] at this) (manyOf pre) (Nat.le_refl _)
  have h2:(if freeB c pre (manyOf pre) then allGo c r (pre++[manyOf pre]) else []).length≤bell r (manyOf pre+1):=by
   split
   ·have:=allGo_count c r (pre++[manyOf pre])
    rwa [manyOf_snoc,Nat.max_eq_right zO] at this
   ·simp
  exact Nat.add_le_add h1 h2
theorem snoc_ind2 {α:Type}{P:List α→Prop}(h0:P [])(hs:∀l x,P l→P (l++[x]))(l:List α):P l:=by
 have h:∀m:List α,P m.reverse:=by
  intro m
  induction m with
  |nil=>exact h0
  |cons x m ih=>rw[List.reverse_cons];exact hs _ _ ih
 simpa using h l.reverse
theorem manyOf_le:∀pre:List Nat,(∀p:List Nat,∀v,(p++[v]) <+: pre→v≤manyOf p)→manyOf pre≤pre.length:=by
 refine snoc_ind2 ?_ ?_
 ·intro _;exact Nat.le_refl _
 ·intro l x ih h;rw[manyOf_snoc,List.length_append,List.length_singleton];have h1:=ih (fun p v hp=>h p v (hp.trans (List.prefix_append _ _)));have h2:=h l x List.prefix_rfl
  omega
theorem clashB_comm (c:Cs)(x y:Nat):clashB c x y=clashB c y x:=by
 unfold clashB
 rcases c.parts[x]? with _|p<;>rcases c.parts[y]? with _|q<;>try rfl
 simp only[clashP,feetB];rw[Bool.eq_iff_iff]
 simp
 grind
theorem ownsRow_one {w:World}{base g:Nat}{u:Value}{e:TypeId}(h:Box w g #[u] e)(hb:base≤g):w.ownsRow base e 1 (.slice (some ⟨g,0,none⟩) 1 1) 1 [u]:=
 ⟨by simp,.inr ⟨g,1,#[u],rfl,hb,h,Nat.le_refl _,by unfold maxLen;omega,rfl,rfl⟩⟩
def PreOk (c:Cs)(pre:List Nat):Prop:=∀(p:List Nat) (v:Nat),(p++[v]) <+: pre→v≤manyOf p∧limB c v=true
theorem PreOk.many {c:Cs}{pre:List Nat}(h:PreOk c pre):manyOf pre≤pre.length:=manyOf_le pre (fun p v hp=>(h p v hp).1)
theorem PreOk.lim {c:Cs}{pre:List Nat}(h:PreOk c pre){v:Nat}(hv:v<manyOf pre):limB c v=true:=by
 revert h hv
 refine snoc_ind2 (P:=fun pre=>PreOk c pre→v<manyOf pre→limB c v=true) ?_ ?_ pre
 ·intro _ h;simp[manyOf] at h
 ·intro l x ih h hv;rw[manyOf_snoc] at hv
  rcases Nat.lt_or_ge v (manyOf l) with h1|h1
  ·exact ih (fun p u hp=>h p u (hp.trans (List.prefix_append _ _))) h1
  ·have h2:=(h l x List.prefix_rfl).2;have h3:=(h l x List.prefix_rfl).1;have:v=x:=by omega
   rw[this];exact h2
theorem PreOk.snoc {c:Cs}{pre:List Nat}{v:Nat}(h:PreOk c pre)(h1:v≤manyOf pre)(h2:limB c v=true):PreOk c (pre++[v]):=fun p u hp=>by
 rcases (List.prefix_concat_iff).1 (by simpa using hp) with h3|h3
 ·have h4:=List.append_inj' h3 rfl;obtain⟨rfl,h5⟩:=h4;cases h5;exact⟨h1,h2⟩
 ·exact h p u h3
def noTo (c:Cs)(pre:List Nat)(v i:Nat):Bool:=upto i fun q=>!(pre[q]?.getD 0==v&&clashB c pre.length q)
theorem noTo_succ (c:Cs)(pre:List Nat)(v i:Nat):noTo c pre v (i+1)=(noTo c pre v i && !(pre[i]?.getD 0==v&&clashB c pre.length i)):=by
 simp[noTo,upto,List.range_succ]
theorem freeB_noTo (c:Cs)(pre:List Nat)(v:Nat):freeB c pre v=(limB c v&&noTo c pre v pre.length):=rfl
theorem bnd_shift:∀m r:Nat,bnd r m≤bnd (r+m) 0
 |0,r=>Nat.le_refl _
 |m+1,r=>Nat.le_trans (show bnd r (m+1)≤bnd (r+1) m from Nat.le_add_left _ _) (by
  have:=bnd_shift m (r+1)
  rwa [show r+1+m=r+(m+1) by omega] at this)
theorem bell_eight {r m:Nat}(h:r+m≤8):bell r m≤8279:=Nat.le_trans (bell_le r m) (Nat.le_trans (bnd_shift m r) (Nat.le_trans (bnd_le h) bnd_eight))
theorem rows_room (c:Cs){r v:Nat}{pre:List Nat}(h8:pre.length+(r+1)≤8)(hm:manyOf pre≤pre.length)(hv:v≤manyOf pre):(yields c r pre v).length+(allGo c r (pre++[v])).length≤1000000:=by
 have hb:=bell_eight (r:=r) (m:=manyOf pre) zO;have h1:=yields_len (c:=c) (r:=r) (pre:=pre) (N:=8279) (fun u hu=>by
  have:=allGo_count c r (pre++[u]);rw[manyOf_snoc,Nat.max_eq_left zO] at this;exact Nat.le_trans this hb) v hv
 have h2:=allGo_count c r (pre++[v]);rw[manyOf_snoc] at h2;have h3:=bell_eight (r:=r) (m:=max (manyOf pre) (v+1)) zO;have h4:v*8279≤8*8279:=Nat.mul_le_mul_right _ zO
 omega
theorem all_ref (c:Cs)(hn8:c.parts.length≤8)(hlim:0≤c.limit)(pa:Option Addr)(pc:Nat):∀(r:Nat) (pre:List Nat) (ba:Option Addr) (bc:Nat) (w:World),pre.length+r=c.parts.length→PartsAt w pa c.parts→Ints w ba (natInts pre)→pre.length≤bc→PreOk c pre →
 Calls Tryz.prog 199 #[.agg #[.string c.ware,.int .i64 c.limit,.int .i64 c.by_,.slice pa c.parts.length pc],.slice ba pre.length bc] w fun e w'=>∃v,e = .returned v∧RowsV w.heap.size (fun b=>w.heap.size≤b∨∃o,ba=some ⟨b,o,none⟩) w' v (allGo c r pre)∧Below w.heap.size w w'
 |0,pre,ba,bc,w,hlen,hp,hb,hbc,hok=>by
  have hpl:((pre.length:Int)==(c.parts.length:Int))=true:=by simp;omega
  have HB:=zh hb;have HLEN:=zh hlen;clear hb hp hlen
  go_enter Tryz.func199,Tryz.ntmps199
  go_wp2
  go_ret
  refine⟨.slice (some ⟨w.heap.size+1,0,none⟩) 1 1,rfl,⟨[(pre,ba,bc)],rfl,ownsRow_one (Box.new' zS) zO,fun z hz=>?_⟩,by go_grown⟩;rw[List.mem_singleton.1 hz];refine⟨HB.out.below (by go_grown),hbc,fun b o ha hl=>⟨?_,.inr ⟨o,ha⟩⟩⟩;have:=ints_lt HB.out ha (by simpa[natInts] using hl)
  simp[Value.ownBlock]
  omega
 |r+1,pre,ba,bc,w,hlen,hp,hb,hbc,hok=>by
  have hpl:((pre.length:Int)==(c.parts.length:Int))=false:=by simp;omega
  have hml:=hok.many;have hlen8:pre.length<8:=by omega
  have HP:=zh hp;have HI:=zh hb;have HLEN:=zh hlen;have HOK:=zh hok;have HIH:=zh (fun pre ba bc w=>all_ref c hn8 hlim pa pc r pre ba bc w);clear hp hb hlen hok
  go_enter Tryz.func199,Tryz.ntmps199
  have hB1:Below w.heap.size w (w.alloc (.cells #[.string c.ware,.int .i64 c.limit,.int .i64 c.by_,.slice pa c.parts.length pc] 24)):=by go_grown
  have b1:Box (w.alloc (.cells #[.string c.ware,.int .i64 c.limit,.int .i64 c.by_,.slice pa c.parts.length pc] 24)) w.heap.size (csCells c pa pc) 24:=Box.new _ _ _
  go_wp2_with fail
  generalize w.alloc (.cells #[.string c.ware,.int .i64 c.limit,.int .i64 c.by_,.slice pa c.parts.length pc] 24)=w1 at *;have HB1:=zh hB1;have HX1:=zh b1;clear hB1 b1
  go_loop [6,7] (fun mv iv=>∃i:Nat,i≤pre.length∧iv = .int .i64 i∧mv = .int .i64 (manyOf (pre.take i):Nat)) (fun _ iv=>pre.length-(intOf iv).toNat)
  case atStart=>exact⟨0,Nat.zero_le _,rfl,by simp[manyOf]⟩
  case round=>
   obtain⟨i,hi,rfl,rfl⟩:=hrel
   by_cases hil:i<pre.length
   ·obtain⟨x,hx⟩:=get_of_lt pre hil;obtain⟨b,o,hba,hcell⟩:=(HI.out.below HB1.out).base (by simp[natInts];omega);subst hba;have c1:=hcell i x (by simp[natInts,hx]);have hxl:x≤8:=by
     have h1:=(HOK.out (pre.take i) x (by rw[←take_snoc hx];exact List.take_prefix _ _)).1;have h2:=PreOk.many (c:=c) (pre:=pre.take i) (fun p v hp=>HOK.out p v (hp.trans (List.take_prefix _ _)));rw[List.length_take] at h2
     omega
    have hwx:IntKind.i64.wrap ((x:Int)+1)=(x:Int)+1:=IntWalk.i64_in _ zO;have hin:(i:Int)<(pre.length:Int):=by omega
    have hmt:manyOf (pre.take (i+1))=max (manyOf (pre.take i)) (x+1):=by rw[take_snoc hx,manyOf_snoc]
    have HMT:=zh hmt;clear hcell hx hmt
    go_wp2
    all_goals
     go_round
     case rel=>exact⟨i+1,zO,zN,by rw[HMT.out,Nat.max_def];split<;>first|rfl|(congr 1;omega)|(exfalso;omega)⟩
     case measure=>exact zJ
   ·have hie:pre.take i=pre:=List.take_of_length_le zO;rw[hie];clear hie
    go_wp2_with fail
    go_loopw [8,9] (fun ov vv wr=>∃v:Nat,v≤manyOf pre+1∧vv = .int .i64 v∧RowsV (w.heap.size+1) (fun b=>w.heap.size≤b) wr ov (yields c r pre v)∧Box wr w.heap.size (csCells c pa pc) 24∧Below w.heap.size w wr) (fun _ vv _=>manyOf pre+1-(intOf vv).toNat)
    case atStart=>exact⟨0,Nat.zero_le _,rfl,RowsV.nil _ _ _,HX1.out,HB1.out⟩
    case round=>
     obtain⟨v,hv,rfl,hrows,hbx,hbw⟩:=hrel;have e2:=zC (hbx);have HR:=zh hrows;have HBX:=zh hbx;have HBW:=zh hbw;clear hrows hbx hbw
     by_cases hvm:v≤manyOf pre
     ·go_upto_region 13 with fail
      go_cut [10] (fun s10 wx=>s10 = .bool (limB c v)∧wr=wx)
      case first=>
       by_cases hlt:v<manyOf pre
       ·have HLB:=zh (HOK.out.lim hlt)
        go_wp2_with fail
        go_meet
        exact⟨by rw[HLB.out],rfl⟩
       ·by_cases hl0:c.limit=0
        ·have HLB:=zh (show limB c v=true by simp[limB,hl0]);have hz0:(c.limit==0)=true:=by simp[hl0]
         clear hl0
         go_wp2_with fail
         go_meet
         exact⟨by rw[HLB.out],rfl⟩
        ·have hz0:(c.limit==0)=false:=by simp[hl0]
         by_cases hvl:(v:Int)<c.limit
         ·have HLB:=zh (show limB c v=true by simp[limB];omega);clear hl0
          go_wp2_with fail
          go_meet
          exact⟨by rw[HLB.out],rfl⟩
         ·have HLB:=zh (show limB c v=false by simp[limB];omega);clear hl0
          go_wp2_with fail
          go_meet
          exact⟨by rw[HLB.out],rfl⟩
      case rest=>
       obtain⟨rfl,rfl⟩:=hcut;generalize hlb:limB c v=lb;have HLB:=zh hlb;clear hlb
       go_wp2_with fail
       clear e2
       go_loopw [10,11] (fun fv iv wx=>∃i:Nat,i≤pre.length∧iv = .int .i64 i∧fv = .bool (lb&&noTo c pre v i)∧RowsV (w.heap.size+1) (fun b=>w.heap.size≤b) wx u8 (yields c r pre v)∧Box wx w.heap.size (csCells c pa pc) 24∧Below w.heap.size w wx) (fun _ iv _=>pre.length-(intOf iv).toNat)
       case atStart=>exact⟨0,Nat.zero_le _,rfl,by simp[noTo,upto],HR.out,HBX.out,HBW.out⟩
       case round=>
        clear HR HBX HBW;obtain⟨i,hi,rfl,hfv,hrows,hbx,hbw⟩:=hrel;subst hfv;have e2:=zC (hbx);have HR:=zh hrows;have HBX:=zh hbx;have HBW:=zh hbw;clear hrows hbx hbw
        by_cases hil:i<pre.length
        ·obtain⟨x,hx⟩:=get_of_lt pre hil;obtain⟨b,o,hba,hcell⟩:=(HI.out.below HBW.out).base (by simp[natInts];omega);subst hba;have hin:(i:Int)<(pre.length:Int):=by omega
         have HCL:=zh (clash_ref c zO i pre.length pa pc wr (HP.out.below HBW.out) (by have:=HLEN.out;omega) (by have:=HLEN.out;omega));have HC0:=zh (hcell i x (by simp[natInts,hx]));have hns:=noTo_succ c pre v i;rw[hx] at hns;simp only[Option.getD_some] at hns;have HNS:=zh hns;have hcc:=clashB_comm c i pre.length;have HBA:=zh hcell;clear hcell hx hns
         rcases hq1:clashB c pre.length i with _|_
         ·rw[hcc,hq1] at HCL;have HQ1:=zh hq1;clear hcc hq1
          rcases hq2:(x==v) with _|_
          ·have hq3:((x:Int)==(v:Int))=false:=by simp at hq2;simp;omega
           have HQ2:=zh hq2;clear hq2
           go_upto_region 18 with (go_at_call 216;refine zM HCL ?_;rintro e w4 ⟨rfl,hb4⟩;have HB4:=zh hb4;have c1:=below_cell hb4 HC0.out;clear hb4)
           go_wp2_with fail
           go_roundw
           case rel=>exact⟨i+1,zO,zN,by rw[HNS.out,HQ1.out,HQ2.out];simp,HR.out.below HB4.out,HBX.out.below' HB4.out,HBW.out.trans (HB4.out.mono HBW.out.size)⟩
           case measure=>exact zJ
          ·have hq3:((x:Int)==(v:Int))=true:=by simp at hq2;simp;omega
           have HQ2:=zh hq2;clear hq2
           go_upto_region 18 with (go_at_call 216;refine zM HCL ?_;rintro e w4 ⟨rfl,hb4⟩;have HB4:=zh hb4;have c1:=below_cell hb4 HC0.out;clear hb4)
           go_wp2_with fail
           go_roundw
           case rel=>exact⟨i+1,zO,zN,by rw[HNS.out,HQ1.out,HQ2.out];simp,HR.out.below HB4.out,HBX.out.below' HB4.out,HBW.out.trans (HB4.out.mono HBW.out.size)⟩
           case measure=>exact zJ
         ·rw[hcc,hq1] at HCL;have HQ1:=zh hq1;clear hcc hq1
          rcases hq2:(x==v) with _|_
          ·have hq3:((x:Int)==(v:Int))=false:=by simp at hq2;simp;omega
           have HQ2:=zh hq2;clear hq2
           go_upto_region 18 with (go_at_call 216;refine zM HCL ?_;rintro e w4 ⟨rfl,hb4⟩;have HB4:=zh hb4;have c1:=below_cell hb4 HC0.out;clear hb4)
           go_wp2_with fail
           go_roundw
           case rel=>exact⟨i+1,zO,zN,by rw[HNS.out,HQ1.out,HQ2.out];simp,HR.out.below HB4.out,HBX.out.below' HB4.out,HBW.out.trans (HB4.out.mono HBW.out.size)⟩
           case measure=>exact zJ
          ·have hq3:((x:Int)==(v:Int))=true:=by simp at hq2;simp;omega
           have HQ2:=zh hq2;clear hq2
           go_upto_region 18 with (go_at_call 216;refine zM HCL ?_;rintro e w4 ⟨rfl,hb4⟩;have HB4:=zh hb4;have c1:=below_cell hb4 HC0.out;clear hb4)
           go_wp2_with fail
           go_roundw
           case rel=>exact⟨i+1,zO,zN,by rw[HNS.out,HQ1.out,HQ2.out];simp,HR.out.below HB4.out,HBX.out.below' HB4.out,HBW.out.trans (HB4.out.mono HBW.out.size)⟩
           case measure=>exact zJ
        ·have hie:i=pre.length:=by omega
         subst hie;rw[show(lb&&noTo c pre v pre.length)=freeB c pre v by rw[freeB_noTo,HLB.out]]
         rcases hfr:freeB c pre v with _|_
         ·have HFR:=zh hfr;clear hfr
          go_wp2_with fail
          go_roundw
          case rel=>first|exact⟨v+1,zO,zN,by rw[yields_succ,HFR.out];simpa using HR.out,HBX.out,HBW.out⟩|((repeat apply Exists.intro);exact⟨⟨v+1,zO,zN,by rw[yields_succ,HFR.out];simpa using HR.out,HBX.out,HBW.out⟩,rfl⟩)
          case measure=>exact zJ
         ·have HFR:=zh hfr;have HLT:=zh (show limB c v=true by rw[freeB_noTo] at hfr;simp at hfr;exact hfr.1);clear hfr
          go_upto_region 21 with fail
          clear e2;have hbe:Below wr.heap.size wr (wr.drew.alloc (.cells #[] 3)):=(Below.refl _ wr).drew.alloc (Nat.le_refl _) _;have hee:=ownsRow_empty wr.drew wr.heap.size 3 1 (Nat.le_refl _);refine wp_region_L (fun A=>Keep (fun k=>k<wr.heap.size∧u8.ownBlock≠some k) wr A) 10 zK ?_;have hSS:Keep (fun k=>k<wr.heap.size∧u8.ownBlock≠some k) wr wr.drew:=(Keep.refl _ wr).drew;have hxl:=HBX.out.lt;have hub:∀k,u8.ownBlock=some k→w.heap.size+1≤k∧k<wr.heap.size:=fun k hk=>by
           obtain⟨_,_,h,_⟩:=HR.out;exact h.lt k hk
          have k0:∀A,Keep (fun k=>k<wr.heap.size∧u8.ownBlock≠some k) wr A→∀i,A.cell? ⟨w.heap.size,i,none⟩=(#[.string c.ware,.int .i64 c.limit,.int .i64 c.by_,.slice pa c.parts.length pc]:Array Value)[i]?:=fun A hA i=>
           (show Box A w.heap.size (csCells c pa pc) 24 from hA.heap ⟨hxl,fun h=>by have:=(hub _ h).1;omega⟩ HBX.out).cell i
          have K0:=zh k0;clear k0;refine tM K0 0 hSS ?_;refine tM K0 1 hSS ?_;refine tM K0 3 hSS ?_;refine tM K0 5 hSS ?_;have hia:∀A,Below wr.heap.size wr A→Row A ba ((natInts pre).map (Value.int .i64)):=fun A hA=>(HI.out.below HBW.out).below hA
          have hl5:((natInts pre).map (Value.int .i64)).length=pre.length*1:=by rw[List.length_map,natInts_len];omega
          refine anyL_two (i:=2) (j:=6) zK ?_ ?_
          ·refine wpOp_run (v:=.slice (some ⟨wr.heap.size,0,none⟩) 0 0) (w':=wr.drew.alloc (.cells #[] 3)) rfl (by rfl) ?_ ⟨.inr (Keep.of_below' hbe),?_⟩
           ·go_simp
            try with_reducible rfl
           try simp only[pZ]
           change (wr.drew.alloc (.cells #[] 3)).ownsRow _ _ _ (.slice (some ⟨wr.heap.size,0,none⟩) 0 0) _ _ at hee
           generalize wr.drew.alloc (.cells #[] 3)=w2 at *;refine anyL_two (i:=4) (j:=6) zK ?_ ?_
           ·obtain⟨v4,w4,hrun4,ho4,hgr4,_⟩:=run_append_row (P:=Tryz.prog) w2 wr.heap.size 26 26 3 (.int .i64 0) 1 8 Tryz.underlying26 info_int rfl zO _ _ _ hee ba pre.length bc _ hl5 (hia _ hbe) (ints_one _) zO zO hbe.size;have hb4:Below wr.heap.size wr w4:=hbe.trans (grown_below hee hgr4 (Nat.le_refl _) hbe.size);refine wpOp_run (v:=v4) (w':=w4) rfl (by rfl) ?_ ⟨.inr (Keep.of_below' hb4),?_⟩
            ·refine exec_app (v:=.slice (some ⟨wr.heap.size,0,none⟩) 0 0) (u:=.slice ba pre.length bc) _ _ 26 rfl (by rfl) (by rfl) ?_;exact hrun4
            try simp only[pZ]
            refine anyL_run (i:=6) (v:=.slice (some ⟨w4.heap.size,0,none⟩) 1 1) (w':=w4.alloc (.cells #[.int .i64 v] 3)) rfl zK (by rfl) ?_ (.inr (Keep.of_below' (hb4.alloc hb4.size _))) ?_
            ·go_simp
             try with_reducible rfl
            try simp only[pZ]
            obtain⟨g6,hge⟩:=zx (w4.heap.size);have hg6:Box (w4.alloc (.cells #[.int .i64 v] 3)) g6 #[.int .i64 v] 3:=Box.new' hge.symm;have hb6:=hb4.alloc hb4.size (.cells #[.int .i64 v] 3);have ho4:=ownsRow_keep ho4 ((Keep.refl (fun _=>True) w4).alloc (.cells #[.int .i64 v] 3)) (fun _ _=>trivial);rw[List.nil_append,Nat.zero_add] at ho4;rw[hge];generalize w4.alloc (.cells #[.int .i64 v] 3)=w6 at *;clear hgr4 hrun4 hb4 hee hbe;obtain⟨v7,w7,hrun,hown,hgr,_⟩:=run_append_row (P:=Tryz.prog) w6 wr.heap.size 26 26 3 (.int .i64 0) 1 8 Tryz.underlying26 info_int rfl zO v4 _ _ ho4 (some ⟨g6,0,none⟩) 1 1 [.int .i64 v] rfl (row_one hg6) (by simp[Value.oneCell']) zO zO hb6.size;have hb7:Below wr.heap.size wr w7:=hb6.trans (grown_below ho4 hgr (Nat.le_refl _) hb6.size);obtain⟨a7,c7,rfl,hro7,hc7⟩:=ownsRow_own hown
            refine anyL_run (i:=7) (v:=.slice a7 (pre.length+1) c7) (w':=w7) rfl zK (by rfl) ?_ (.inr (Keep.of_below' hb7)) ?_
            ·refine exec_app (v:=v4) (u:=.slice (some ⟨g6,0,none⟩) 1 1) _ _ 26 rfl (by rfl) (by rfl) ?_;exact hrun
            try simp only[pZ]
            have hro8:RowOwn wr.heap.size w7 a7 ((natInts (pre++[v])).map (Value.int .i64)):=by rw[natInts_snoc,List.map_append];exact hro7
            have hall:=HIH.out (pre++[v]) a7 c7 w7 (by have:=HLEN.out;rw[List.length_append,List.length_singleton];omega) ((HP.out.below HBW.out).below hb7) (ints_rowOwn hro8) (by rw[List.length_append,List.length_singleton];exact hc7) (HOK.out.snoc hvm HLT.out);rw[List.length_append,List.length_singleton] at hall;refine anyL_call (i:=8) (f:=199) rfl zK (by rfl) ?_ hall ?_
            ·go_simp
            rintro e w8 ⟨v8,rfl,hr8,hb8⟩;have hb9:Below wr.heap.size wr w8:=hb7.trans (hb8.mono hb7.size);refine .inl ⟨v8,rfl,.inr (Keep.of_below' hb9),?_⟩
            try simp only[pZ]
            have hwr:w.heap.size+1≤wr.heap.size:=hxl;have hr9:RowsV (w.heap.size+1) (fun b=>w.heap.size≤b∧u8.ownBlock≠some b) w8 v8 (allGo c r (pre++[v])):=hr8.less (by have:=hb7.size;omega) (fun b hb=>by
             rcases hb with hb|⟨o,hb⟩
             ·refine⟨by have:=hb7.size;omega,fun h=>?_⟩;have:=(hub b h).2;have:=hb7.size
              omega
             ·have h1:=rowOwn_block hro8 hb (by rw[natInts_len,List.length_append,List.length_singleton];omega);refine⟨zO,fun h=>?_⟩;have:=(hub b h).2
              omega)
            obtain⟨v9,w9,hrun9,hr10,k9,_⟩:=rows_app (HR.out.below hb9) hr9 (rows_room c (by have:=HLEN.out;omega) hml hvm) (by have:=hb9.size;omega);refine anyL_run (i:=9) (v:=v9) (w':=w9) rfl zK (by rfl) ?_ (.inr (((Keep.refl _ wr).trans (Keep.of_below' hb9)).trans (k9.mono fun k hk=>hk.2))) ?_
            ·refine exec_app (v:=u8) (u:=v8) _ _ 49 rfl (by rfl) (by rfl) ?_;exact hrun9
            try simp only[pZ]
            refine anyL_run (i:=10) (v:=v9) (w':=w9) rfl zK (by rfl) (by go_simp) (.inl rfl) ?_
            try simp only[pZ]
            refine anyL_done zK ?_ _;have hx9:Box w9 w.heap.size (csCells c pa pc) 24:=k9.heap (fun h=>by have:=(hub _ h).1;omega) (HBX.out.below' hb9);have hw9:Below w.heap.size w w9:=(HBW.out.trans (hb9.mono HBW.out.size)).trans ((k9.mono fun k (hk:k<w.heap.size) h=>by have:=(hub _ h).1;omega).below (by have:=hb9.size;omega));have HR9:=zh hr10;have HX9:=zh hx9;have HW9:=zh hw9;clear hr10 hx9 hw9 k9 hr9 hr8 hall hro8 hro7 hb8 hb9 hb7 hb6 hgr hrun hrun9 ho4 hg6
            go_wp2_with fail
            go_roundw
            case rel=>first|exact⟨v+1,zO,zN,by rw[yields_succ,HFR.out];simpa using HR9.out,HX9.out,HW9.out⟩|((repeat apply Exists.intro);exact⟨⟨v+1,zO,zN,by rw[yields_succ,HFR.out];simpa using HR9.out,HX9.out,HW9.out⟩,rfl⟩)
            case measure=>exact zJ
           ·refine wpOp_run (v:=.slice (some ⟨w2.heap.size,0,none⟩) 1 1) (w':=w2.alloc (.cells #[.int .i64 v] 3)) rfl (by rfl) ?_ ⟨.inr (Keep.of_below' (hbe.alloc hbe.size _)),?_⟩
            ·go_simp
             try with_reducible rfl
            try simp only[pZ]
            obtain⟨g6,hge⟩:=zx (w2.heap.size);have hg5:Box (w2.alloc (.cells #[.int .i64 v] 3)) g6 #[.int .i64 v] 3:=Box.new' hge.symm;have hb5:=hbe.alloc hbe.size (.cells #[.int .i64 v] 3);have ho2:=ownsRow_keep hee ((Keep.refl (fun _=>True) w2).alloc (.cells #[.int .i64 v] 3)) (fun _ _=>trivial);have hlt2:wr.heap.size<w2.heap.size:=(hee.lt _ rfl).2;rw[hge];generalize w2.alloc (.cells #[.int .i64 v] 3)=w5 at *
            change w5.ownsRow wr.heap.size _ _ (.slice (some ⟨wr.heap.size,0,none⟩) 0 0) _ _ at ho2
            clear hee hbe;obtain⟨e2,he2,hne⟩:∃e2,wr.heap.size=e2∧g6≠e2:=⟨_,rfl,zO⟩
            rw[he2] at ho2;simp only[he2];have ho2:w5.ownsRow wr.heap.size 3 1 (.slice (some ⟨e2,0,none⟩) 0 0) 0 []:=by rw[←he2] at ho2 ⊢;exact ho2
            obtain⟨v4,w6,hrun4,ho4,hgr4,_⟩:=run_append_row (P:=Tryz.prog) w5 wr.heap.size 26 26 3 (.int .i64 0) 1 8 Tryz.underlying26 info_int rfl zO _ _ _ ho2 ba pre.length bc _ hl5 (hia _ hb5) (ints_one _) zO zO hb5.size;have hb6:Below wr.heap.size wr w6:=hb5.trans (grown_below ho2 hgr4 (Nat.le_refl _) hb5.size);refine anyL_run (i:=4) (v:=v4) (w':=w6) rfl zK (by rfl) ?_ (.inr (Keep.of_below' hb6)) ?_
            ·refine exec_app (v:=.slice (some ⟨e2,0,none⟩) 0 0) (u:=.slice ba pre.length bc) _ _ 26 rfl (by rfl) (by rfl) ?_;exact hrun4
            try simp only[pZ]
            have hg6:Box w6 g6 #[.int .i64 v] 3:=((Keep.refl (fun k=>k=g6) w5).grown hgr4 (fun k hk=>.inl (fun h=>by rw[h] at hk;simp[Value.ownBlock] at hk;omega))).heap rfl hg5;rw[List.nil_append,Nat.zero_add] at ho4;clear hgr4 hrun4 hb5 ho2 hg5;obtain⟨v7,w7,hrun,hown,hgr,_⟩:=run_append_row (P:=Tryz.prog) w6 wr.heap.size 26 26 3 (.int .i64 0) 1 8 Tryz.underlying26 info_int rfl zO v4 _ _ ho4 (some ⟨g6,0,none⟩) 1 1 [.int .i64 v] rfl (row_one hg6) (by simp[Value.oneCell']) zO zO hb6.size;have hb7:Below wr.heap.size wr w7:=hb6.trans (grown_below ho4 hgr (Nat.le_refl _) hb6.size);obtain⟨a7,c7,rfl,hro7,hc7⟩:=ownsRow_own hown;refine anyL_run (i:=7) (v:=.slice a7 (pre.length+1) c7) (w':=w7) rfl zK (by rfl) ?_ (.inr (Keep.of_below' hb7)) ?_
            ·refine exec_app (v:=v4) (u:=.slice (some ⟨g6,0,none⟩) 1 1) _ _ 26 rfl (by rfl) (by rfl) ?_;exact hrun
            try simp only[pZ]
            have hro8:RowOwn wr.heap.size w7 a7 ((natInts (pre++[v])).map (Value.int .i64)):=by rw[natInts_snoc,List.map_append];exact hro7
            have hall:=HIH.out (pre++[v]) a7 c7 w7 (by have:=HLEN.out;rw[List.length_append,List.length_singleton];omega) ((HP.out.below HBW.out).below hb7) (ints_rowOwn hro8) (by rw[List.length_append,List.length_singleton];exact hc7) (HOK.out.snoc hvm HLT.out);rw[List.length_append,List.length_singleton] at hall;refine anyL_call (i:=8) (f:=199) rfl zK (by rfl) ?_ hall ?_
            ·go_simp
            rintro e w8 ⟨v8,rfl,hr8,hb8⟩;have hb9:Below wr.heap.size wr w8:=hb7.trans (hb8.mono hb7.size);refine .inl ⟨v8,rfl,.inr (Keep.of_below' hb9),?_⟩
            try simp only[pZ]
            have hwr:w.heap.size+1≤wr.heap.size:=hxl;have hr9:RowsV (w.heap.size+1) (fun b=>w.heap.size≤b∧u8.ownBlock≠some b) w8 v8 (allGo c r (pre++[v])):=hr8.less (by have:=hb7.size;omega) (fun b hb=>by
             rcases hb with hb|⟨o,hb⟩
             ·refine⟨by have:=hb7.size;omega,fun h=>?_⟩;have:=(hub b h).2;have:=hb7.size
              omega
             ·have h1:=rowOwn_block hro8 hb (by rw[natInts_len,List.length_append,List.length_singleton];omega);refine⟨zO,fun h=>?_⟩;have:=(hub b h).2
              omega)
            obtain⟨v9,w9,hrun9,hr10,k9,_⟩:=rows_app (HR.out.below hb9) hr9 (rows_room c (by have:=HLEN.out;omega) hml hvm) (by have:=hb9.size;omega);refine anyL_run (i:=9) (v:=v9) (w':=w9) rfl zK (by rfl) ?_ (.inr (((Keep.refl _ wr).trans (Keep.of_below' hb9)).trans (k9.mono fun k hk=>hk.2))) ?_
            ·refine exec_app (v:=u8) (u:=v8) _ _ 49 rfl (by rfl) (by rfl) ?_;exact hrun9
            try simp only[pZ]
            refine anyL_run (i:=10) (v:=v9) (w':=w9) rfl zK (by rfl) (by go_simp) (.inl rfl) ?_
            try simp only[pZ]
            refine anyL_done zK ?_ _;have hx9:Box w9 w.heap.size (csCells c pa pc) 24:=k9.heap (fun h=>by have:=(hub _ h).1;omega) (HBX.out.below' hb9);have hw9:Below w.heap.size w w9:=(HBW.out.trans (hb9.mono HBW.out.size)).trans ((k9.mono fun k (hk:k<w.heap.size) h=>by have:=(hub _ h).1;omega).below (by have:=hb9.size;omega));have HR9:=zh hr10;have HX9:=zh hx9;have HW9:=zh hw9;clear hr10 hx9 hw9 k9 hr9 hr8 hall hro8 hro7 hb8 hb9 hb7 hb6 hgr hrun hrun9 ho4 hg6
            go_wp2_with fail
            go_roundw
            case rel=>first|exact⟨v+1,zO,zN,by rw[yields_succ,HFR.out];simpa using HR9.out,HX9.out,HW9.out⟩|((repeat apply Exists.intro);exact⟨⟨v+1,zO,zN,by rw[yields_succ,HFR.out];simpa using HR9.out,HX9.out,HW9.out⟩,rfl⟩)
            case measure=>exact zJ
          ·refine wpOp_run (v:=.slice (some ⟨wr.heap.size,0,none⟩) 1 1) (w':=wr.drew.alloc (.cells #[.int .i64 v] 3)) rfl (by rfl) ?_ ⟨.inr (Keep.of_below' ((Below.refl _ wr).drew.alloc (Nat.le_refl _) _)),?_⟩
           ·go_simp
            try with_reducible rfl
           try simp only[pZ]
           obtain⟨g6,hge⟩:=zx (wr.heap.size);have hg4:Box (wr.drew.alloc (.cells #[.int .i64 v] 3)) wr.heap.size #[.int .i64 v] 3:=Box.new wr.drew _ _;have hb4:Below wr.heap.size wr (wr.drew.alloc (.cells #[.int .i64 v] 3)):=(Below.refl _ wr).drew.alloc (Nat.le_refl _) _;clear hee hbe;generalize wr.drew.alloc (.cells #[.int .i64 v] 3)=w4 at *;refine anyL_run (i:=2) (v:=.slice (some ⟨w4.heap.size,0,none⟩) 0 0) (w':=w4.alloc (.cells #[] 3)) rfl zK (by rfl) ?_ (.inr (Keep.of_below' (hb4.alloc hb4.size _))) ?_
           ·go_simp
            try with_reducible rfl
           try simp only[pZ]
           have ho2:=ownsRow_empty w4 wr.heap.size 3 1 hb4.size;have hg5:=hg4.alloc (.cells #[] 3);have hb5:=hb4.alloc hb4.size (.cells #[] 3);rw[hge] at hg5;simp only[hge];obtain⟨e2,he2⟩:=zx (w4.heap.size);have hne:g6≠e2:=by have:=hg4.lt;simp only[hge] at this;omega
           rw[he2] at ho2;simp only[he2];generalize w4.alloc (.cells #[] 3)=w5 at *;clear hg4 hb4;obtain⟨v4,w6,hrun4,ho4,hgr4,_⟩:=run_append_row (P:=Tryz.prog) w5 wr.heap.size 26 26 3 (.int .i64 0) 1 8 Tryz.underlying26 info_int rfl zO _ _ _ ho2 ba pre.length bc _ hl5 (hia _ hb5) (ints_one _) zO zO hb5.size;have hb6:Below wr.heap.size wr w6:=hb5.trans (grown_below ho2 hgr4 (Nat.le_refl _) hb5.size);refine anyL_run (i:=4) (v:=v4) (w':=w6) rfl zK (by rfl) ?_ (.inr (Keep.of_below' hb6)) ?_
           ·refine exec_app (v:=.slice (some ⟨e2,0,none⟩) 0 0) (u:=.slice ba pre.length bc) _ _ 26 rfl (by rfl) (by rfl) ?_;exact hrun4
           try simp only[pZ]
           have hg6:Box w6 g6 #[.int .i64 v] 3:=((Keep.refl (fun k=>k=g6) w5).grown hgr4 (fun k hk=>.inl (fun h=>by rw[h] at hk;simp[Value.ownBlock] at hk;omega))).heap rfl hg5;rw[List.nil_append,Nat.zero_add] at ho4;clear hgr4 hrun4 hb5 ho2 hg5;obtain⟨v7,w7,hrun,hown,hgr,_⟩:=run_append_row (P:=Tryz.prog) w6 wr.heap.size 26 26 3 (.int .i64 0) 1 8 Tryz.underlying26 info_int rfl zO v4 _ _ ho4 (some ⟨g6,0,none⟩) 1 1 [.int .i64 v] rfl (row_one hg6) (by simp[Value.oneCell']) zO zO hb6.size;have hb7:Below wr.heap.size wr w7:=hb6.trans (grown_below ho4 hgr (Nat.le_refl _) hb6.size);obtain⟨a7,c7,rfl,hro7,hc7⟩:=ownsRow_own hown;refine anyL_run (i:=7) (v:=.slice a7 (pre.length+1) c7) (w':=w7) rfl zK (by rfl) ?_ (.inr (Keep.of_below' hb7)) ?_
           ·refine exec_app (v:=v4) (u:=.slice (some ⟨g6,0,none⟩) 1 1) _ _ 26 rfl (by rfl) (by rfl) ?_;exact hrun
           try simp only[pZ]
           have hro8:RowOwn wr.heap.size w7 a7 ((natInts (pre++[v])).map (Value.int .i64)):=by rw[natInts_snoc,List.map_append];exact hro7
           have hall:=HIH.out (pre++[v]) a7 c7 w7 (by have:=HLEN.out;rw[List.length_append,List.length_singleton];omega) ((HP.out.below HBW.out).below hb7) (ints_rowOwn hro8) (by rw[List.length_append,List.length_singleton];exact hc7) (HOK.out.snoc hvm HLT.out);rw[List.length_append,List.length_singleton] at hall;refine anyL_call (i:=8) (f:=199) rfl zK (by rfl) ?_ hall ?_
           ·go_simp
           rintro e w8 ⟨v8,rfl,hr8,hb8⟩;have hb9:Below wr.heap.size wr w8:=hb7.trans (hb8.mono hb7.size);refine .inl ⟨v8,rfl,.inr (Keep.of_below' hb9),?_⟩
           try simp only[pZ]
           have hwr:w.heap.size+1≤wr.heap.size:=hxl;have hr9:RowsV (w.heap.size+1) (fun b=>w.heap.size≤b∧u8.ownBlock≠some b) w8 v8 (allGo c r (pre++[v])):=hr8.less (by have:=hb7.size;omega) (fun b hb=>by
            rcases hb with hb|⟨o,hb⟩
            ·refine⟨by have:=hb7.size;omega,fun h=>?_⟩;have:=(hub b h).2;have:=hb7.size
             omega
            ·have h1:=rowOwn_block hro8 hb (by rw[natInts_len,List.length_append,List.length_singleton];omega);refine⟨zO,fun h=>?_⟩;have:=(hub b h).2
             omega)
           obtain⟨v9,w9,hrun9,hr10,k9,_⟩:=rows_app (HR.out.below hb9) hr9 (rows_room c (by have:=HLEN.out;omega) hml hvm) (by have:=hb9.size;omega);refine anyL_run (i:=9) (v:=v9) (w':=w9) rfl zK (by rfl) ?_ (.inr (((Keep.refl _ wr).trans (Keep.of_below' hb9)).trans (k9.mono fun k hk=>hk.2))) ?_
           ·refine exec_app (v:=u8) (u:=v8) _ _ 49 rfl (by rfl) (by rfl) ?_;exact hrun9
           try simp only[pZ]
           refine anyL_run (i:=10) (v:=v9) (w':=w9) rfl zK (by rfl) (by go_simp) (.inl rfl) ?_
           try simp only[pZ]
           refine anyL_done zK ?_ _;have hx9:Box w9 w.heap.size (csCells c pa pc) 24:=k9.heap (fun h=>by have:=(hub _ h).1;omega) (HBX.out.below' hb9);have hw9:Below w.heap.size w w9:=(HBW.out.trans (hb9.mono HBW.out.size)).trans ((k9.mono fun k (hk:k<w.heap.size) h=>by have:=(hub _ h).1;omega).below (by have:=hb9.size;omega));have HR9:=zh hr10;have HX9:=zh hx9;have HW9:=zh hw9;clear hr10 hx9 hw9 k9 hr9 hr8 hall hro8 hro7 hb8 hb9 hb7 hb6 hgr hrun hrun9 ho4 hg6
           go_wp2_with fail
           go_roundw
           case rel=>first|exact⟨v+1,zO,zN,by rw[yields_succ,HFR.out];simpa using HR9.out,HX9.out,HW9.out⟩|((repeat apply Exists.intro);exact⟨⟨v+1,zO,zN,by rw[yields_succ,HFR.out];simpa using HR9.out,HX9.out,HW9.out⟩,rfl⟩)
           case measure=>exact zJ
     ·have hve:v=manyOf pre+1:=by omega
      have HVE:=zh hve;clear hve
      go_wp2_with fail
      go_ret
      refine⟨_,rfl,?_,HBW.out⟩;have h1:=HR.out;rw[HVE.out,yields_all] at h1;exact h1.less zO (fun b hb=>.inl hb)
end
