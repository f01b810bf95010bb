/- Walks and plain laws. No condition. -/
import Derived.Sort.QuietIn
import Derived.Test.YtjgldeeianionaaGreatV07
set_option maxHeartbeats 4000000
set_option maxRecDepth 100000
set_option linter.unusedSimpArgs false
set_option linter.unusedVariables false
namespace Go.Proofs.YtjgldeeianionaaGreat
open Go.RowKit
section
attribute [local go_sem] Oper.semAt_some
def nodeCells (bb:Nat)(d:Nat→Nat→Nat):Array Value:=#[.pointer (some ⟨bb,0,none⟩)]++decCells d
theorem node_zero (bb:Nat)(d:Nat→Nat→Nat):(nodeCells bb d)[0]?=some (.pointer (some ⟨bb,0,none⟩)):=by
 unfold nodeCells;rw[Array.getElem?_append_left zS];rfl
theorem node_at (bb:Nat)(d:Nat→Nat→Nat)(i:Nat):(nodeCells bb d)[1+i]?=(decCells d)[i]?:=by
 unfold nodeCells;rw[Array.getElem?_append_right zS]
 simp
theorem node_ptr {W:World}{nb bb:Nat}{d:Nat→Nat→Nat}{t:TypeId}(h:Box W nb (nodeCells bb d) t):W.cell? ⟨nb,0,none⟩=some (.pointer (some ⟨bb,0,none⟩)):=by rw[h.cell,node_zero]
theorem node_dec {W:World}{nb bb:Nat}{d:Nat→Nat→Nat}{t:TypeId}(h:Box W nb (nodeCells bb d) t):W.rangeAt nb 1 (decCells d).toList:=fun j v hv=>by
 rw[h.cell,node_at];simpa using hv
theorem dec_len (d:Nat→Nat→Nat):(Tryz.prog.info? 227).map (·.size)=some (decCells d).toList.length:=(dec_info d).trans zS
theorem range_below {W W':World}{b o:Nat}{cs:List Value}(h:W.rangeAt b o cs)(hb:Below W.heap.size W W'):W'.rangeAt b o cs:=fun j v hv=>below_cell hb (h j v hv)
structure ClassSt (d:Nat→Nat→Nat) (n x nb:Nat) (N g1 g2 g3:Nat) (W:World):Prop where
 b1:Box W g1 #[.pointer (some ⟨nb,0,none⟩)] 244
 b2:Box W g2 (ofCells (clsOf d n)) 230
 b3:Box W g3 #[.int .i64 x] 3
 l1:N≤g1
 l2:N≤g2
 l3:N≤g3
theorem ClassSt.keep {d:Nat→Nat→Nat}{n x nb N g1 g2 g3:Nat}{W W':World}{K:Nat→Prop}(h:ClassSt d n x nb N g1 g2 g3 W)(hk:Keep K W W')(h1:K g1)(h2:K g2)(h3:K g3):ClassSt d n x nb N g1 g2 g3 W':=
 ⟨hk.heap h1 h.b1,hk.heap h2 h.b2,hk.heap h3 h.b3,h.l1,h.l2,h.l3⟩
def ClassPost (d:Nat→Nat→Nat)(n x nb:Nat)(w:World)(e:Ending)(w':World):Prop:=
 ∃g1 g2 g3,e = .returned (.func (.func 243) #[] #[.pointer (some ⟨g1,0,none⟩),.pointer (some ⟨g2,0,none⟩),.pointer (some ⟨g3,0,none⟩)])∧ClassSt d n x nb w.heap.size g1 g2 g3 w'∧Below w.heap.size w w'
theorem class_any (c:Cs)(n:Nat)(hn:c.parts.length=n)(hn8:n≤8)(pa:Option Addr)(pc:Nat)(d:Nat→Nat→Nat)(hd:∀a b,d a b≤3)(bb nb x:Nat)(w:World)
 (hben:Box w bb (csCells c pa pc) 219) (hnode:Box w nb (nodeCells bb d) 246):
 Calls Tryz.prog 242 #[.pointer (some ⟨nb,0,none⟩),.int .i64 x] w (ClassPost d n x nb w):=by
 have hmf:=run_mf Tryz.prog;obtain⟨w2,hw2⟩:=zx ((w.alloc (.cells #[.pointer (some ⟨nb,0,none⟩)] 244)).alloc (.cells #[.int .i64 x] 3));have hB2:Below w.heap.size w w2:=by rw[←hw2];go_grown
 have b1:Box w2 w.heap.size #[.pointer (some ⟨nb,0,none⟩)] 244:=by rw[←hw2];exact(Box.new _ _ _).alloc _
 have b3:Box w2 (w.heap.size+1) #[.int .i64 x] 3:=by rw[←hw2];exact Box.new' zS
 have c0:w2.cell? ⟨w.heap.size,0,none⟩=some (.pointer (some ⟨nb,0,none⟩)):=by rw[b1.cell];rfl
 have c1:w2.cell? ⟨bb,3,none⟩=some (.slice pa n pc):=by rw[←hn,(hben.below' hB2).cell];rfl
 have c2:=node_ptr (hnode.below' hB2);have c3:=node_dec (hnode.below' hB2);have hu:=Tryz.underlying227;have hi:=dec_len d;have HW:=zh hw2;have HB1:=zh b1;have HB3:=zh b3;clear hn hben hnode hw2 b1 b3
 go_enter Tryz.func242,Tryz.ntmps242
 go_upto_region 1 with fail
 simp only[HW.out];obtain⟨S,hS⟩:∃S:World→Prop,S=fun W=>Below w2.heap.size w2 W:=⟨_,rfl⟩
 have k0:∀W,S W→W.cell? ⟨w.heap.size,0,none⟩=some (.pointer (some ⟨nb,0,none⟩))∧W.cell? ⟨bb,3,none⟩=some (.slice pa n pc)∧W.cell? ⟨nb,0,none⟩=some (.pointer (some ⟨bb,0,none⟩)):=fun W h=>by
  rw[hS] at h;exact⟨below_cell h c0,below_cell h c1,below_cell h c2⟩
 have K0:=zh k0;have k3:∀W,S W→(Instr.loadAt 227 (.pointer (some ⟨nb,1,none⟩))).run Tryz.prog W = .ok (.agg (decCells d)) W:=fun W h=>run_load_at (fun j v hv=>range_below c3 (by rw[hS] at h;exact h) j v (by simpa using hv)) hu rfl (by rw[dec_info])
 have K3:=zh k3;have HS:=zh hS;clear c0 c1 c2 c3 k0 k3 hS;refine wp_region_held 15 [(5,#[.int .i64 0,.int .i64 0,.int .i64 0,.int .i64 0,.int .i64 0,.int .i64 0,.int .i64 0,.int .i64 0],230)] w2.heap.size S zK zK zK zS
  (fun W W' h hb=>by rw[HS.out] at h ⊢;exact h.trans (hb.mono h.size)) (fun W h=>by rw[HS.out] at h;exact h.size) (by rw[HS.out];exact(Below.refl _ _).drew) ?_
 simp only[pT]
 repeat (first
  |(refine held_load 227 _ (by rfl) rfl rfl K3.out ?_;try simp only[pZ])
  |(refine held_val (v:=?_) rfl (by rfl) ?_ ?_;rotate_left;· (intro W hW;obtain⟨q0,q1,q2⟩:=K0.out W hW;go_simp;try with_reducible rfl);try simp only[pZ]))
 refine held_call (v:=.agg (ofCells (clsOf d n))) (f:=239) (args:=#[.agg (decCells d),.int .i64 n]) rfl (by rfl) (fun W hW=>by go_simp) (fun W hW=>classes_any d n W hn8 hd) ?_;refine held_own (e:=(5,#[.int .i64 0,.int .i64 0,.int .i64 0,.int .i64 0,.int .i64 0,.int .i64 0,.int .i64 0,.int .i64 0],230)) rfl rfl zS rfl (fun b W=>by go_simp) ?_;refine held_nil ?_;intro τ hτ W hW hO;obtain⟨g,rfl⟩:=laid1 hτ;obtain⟨hg,hgN⟩:=hO.one;rw[HS.out] at hW;have hst:=run_store_row (P:=Tryz.prog) (T:=ofCells (clsOf d n)) hg (of_info _) (by rw[zero_of,ofCells_size,ofCells_size]) (of_one _);have HG:=zh hg;have HWW:=zh hW;clear hτ hO hg hW K0 K3 HS;simp only[overs,List.foldl_cons,List.foldl_nil,Act.put,List.setIfInBounds_toArray,List.set_cons_zero,List.set_cons_succ]
 go_wp2_with (first
  |(refine wpList_store_box rfl 230 _ _ rfl rfl rfl hst ?_))
 go_ret
 refine⟨_,_,_,rfl,⟨?_,?_,?_,Nat.le_refl _,?_,Nat.le_succ _⟩,?_⟩
 ·exact(HB1.out.below' HWW.out).setRow_far (by have:=HB1.out.lt;omega)
 ·exact HG.out.setRow_same
 ·exact(HB3.out.below' HWW.out).setRow_far (by have:=HB3.out.lt;omega)
 ·have:=HB3.out.lt;omega
 ·exact below_setRow (hB2.trans (HWW.out.mono hB2.size)) (by have:=hB2.size;omega) _
def clsList (d:Nat→Nat→Nat)(n x k:Nat):List Nat:=(List.range k).filter fun p=>clsOf d n p==clsOf d n x
theorem clsList_succ (d:Nat→Nat→Nat)(n x k:Nat):clsList d n x (k+1)=clsList d n x k++if clsOf d n k==clsOf d n x then [k] else []:=by
 rw[clsList,List.range_succ,List.filter_append];simp only[List.filter_cons,List.filter_nil]
 rfl
theorem clsList_le (d:Nat→Nat→Nat)(n x:Nat){j k:Nat}(h:j≤k):clsList d n x j <+: clsList d n x k:=by
 obtain⟨e,rfl⟩:=Nat.exists_eq_add_of_le h
 induction e with
 |zero=>exact List.prefix_rfl
 |succ e ih=>exact(ih zO).trans (by rw[←Nat.add_assoc,clsList_succ];exact List.prefix_append _ _)
theorem clsList_mem {d:Nat→Nat→Nat}{n x k p:Nat}(h:p∈clsList d n x k):p<k:=by
 simp[clsList] at h;exact h.1
def NatRd (p:Nat)(args:Array Value)(_:World):Prop:=args = #[.int .i64 p]
theorem class1_gives (c:Cs)(n:Nat)(hn:c.parts.length=n)(hn8:n≤8)(pa:Option Addr)(pc:Nat)(d:Nat→Nat→Nat)(w0:World)(bb nb x g1 g2 g3:Nat)(hx:x<n)
 (W:World) (hst:ClassSt d n x nb w0.heap.size g1 g2 g3 W) (hben:Box W bb (csCells c pa pc) 219) (hnode:Box W nb (nodeCells bb d) 246):
 Gives Tryz.prog 243 #[.pointer (some ⟨g1,0,none⟩),.pointer (some ⟨g2,0,none⟩),.pointer (some ⟨g3,0,none⟩)] (fun k=>k=g1∨k=g2∨k=g3) w0.heap.size NatRd (clsList d n x n) W:=by
 intro l J Jx hJ hJx hY h0;have HJ:=zh hJ;have HY:=zh hY;have HS:=zh hst;have H0:=zh h0;have e1:=hst.b1.cell;have e2:=node_ptr hnode;have e3:W.cell? ⟨bb,3,none⟩=some (.slice pa n pc):=by rw[←hn,hben.cell];rfl
 clear hY hJ hJx hn hst h0 hben hnode;refine callsIn_of_wp Tryz.func243 rfl trivial ?_;simp only[Tryz.ntmps243,List.size_toArray,List.length_cons,List.length_nil,Nat.reduceAdd,Nat.reduceSub,Array.replicate_succ,Array.replicate_zero,List.push_toArray,List.append_toArray,List.nil_append,List.cons_append]
 gi_wp2_with fail
 clear e1 e2 e3
 gi_loopw [15] (fun i wr=>∃p:Nat,p≤n∧i = .int .i64 p∧ClassSt d n x nb w0.heap.size g1 g2 g3 wr∧J (clsList d n x p) wr) (fun i _=>n-(intOf i).toNat)
 case atStart=>exact⟨0,Nat.zero_le _,rfl,HS.out,H0.out⟩
 case round=>
  clear HS H0;obtain⟨p,hp,rfl,hst,hj⟩:=hrel
  by_cases hpn:p<n
  ·have hp8:(p:Int)<8:=by omega
   have hx8:(x:Int)<8:=by omega
   have q1:wr.cell? ⟨g3,0,none⟩=some (.int .i64 x):=by rw[hst.b3.cell];rfl
   have q2:wr.cell? ⟨g2,x,none⟩=some (.int .i64 (clsOf d n x:Nat)):=by rw[hst.b2.cell,of_at,if_pos zO]
   have q3:wr.cell? ⟨g2,p,none⟩=some (.int .i64 (clsOf d n p:Nat)):=by rw[hst.b2.cell,of_at,if_pos zO]
   rcases hc:(clsOf d n p==clsOf d n x) with _|_
   ·have hc2:((clsOf d n p:Int)==(clsOf d n x:Int))=false:=by simp at hc ⊢;omega
    have HC:=zh hc;have HS:=zh hst;have HJ0:=zh hj;clear hc hst hj
    gi_wp2_with fail
    gi_quiet (fail)
    gi_wp2_with fail
    go_roundw
    case rel=>exact⟨p+1,zO,zN,HS.out.keep (K:=fun _=>True) (Keep.of_below' (below_drewN (Below.refl _ _) nq)) trivial trivial trivial,by
     rw[clsList_succ,HC.out];simp only[Bool.false_eq_true,if_false,List.append_nil];exact HJ.out _ _ _ HJ0.out (Keep.of_below' (below_drewN (Below.refl _ _) nq))⟩
    case measure=>exact zJ
   ·have hc2:((clsOf d n p:Int)==(clsOf d n x:Int))=true:=by simp at hc ⊢;omega
    have hpre:(clsList d n x p++[p]) <+: clsList d n x n:=by
     have:=clsList_le d n x (show p+1≤n from hpn);rw[clsList_succ,hc] at this;exact this
    obtain⟨fn,tmps,assign,body,hyy,hR⟩:=HY.out _ p _ _ (HJ.out _ _ _ hj (Keep.refl _ wr).drew) rfl hpre;have HC:=zh hc;have HS:=zh hst;have HR:=zh hR;have HP:=zh hpre;clear hc hst hj hR hpre
    gi_wp2_with fail
    refine wpIn_region_tail 10 zK zK zK ?_;simp only[pT]
    repeat still_step
    try refine wpStill_nil ?_
    gi_wp2_with fail
    refine HR.out.mono ?_;rintro e W' (⟨rfl,hj',hk'⟩|⟨rfl,hx'⟩)
    ·have hst':ClassSt d n x nb w0.heap.size g1 g2 g3 W':=(HS.out.keep (K:=fun _=>True) ((Keep.refl _ wr).drew) trivial trivial trivial).keep hk' (.inr (.inl rfl)) (.inr (.inr (.inl rfl))) (.inr (.inr (.inr rfl)));have HS':=zh hst';have HJ':=zh hj';clear HS HR hst' hj' hyy q1 q2 q3
     gi_wp2_with fail
     go_roundw
     case rel=>exact⟨p+1,zO,zN,HS'.out,by rw[clsList_succ,HC.out];exact HJ'.out⟩
     case measure=>exact zJ
    ·clear HS HR hyy q1 q2 q3
     gi_wp2_with fail
     refine bodyPost_ret (results_none rfl _ _ _) rfl ?_;exact⟨⟨_,rfl⟩,.inr ⟨_,HP.out,hx'⟩⟩
  ·gi_wp2_with fail
   go_end0
   have e:p=n:=by omega
   rw[e] at hj;exact⟨⟨_,rfl⟩,.inl hj⟩
theorem ClassSt.less {d:Nat→Nat→Nat}{n x nb N N' g1 g2 g3:Nat}{W:World}(h:ClassSt d n x nb N g1 g2 g3 W)(hN:N'≤N):ClassSt d n x nb N' g1 g2 g3 W:=
 ⟨h.b1,h.b2,h.b3,Nat.le_trans hN h.l1,Nat.le_trans hN h.l2,Nat.le_trans hN h.l3⟩
def HoldsP (K:Nat)(first caps:Array Value)(f:Nat→Nat→Bool)(n:Nat)(w:World):Prop:=
 (∀args W,(callFunc K args).run Tryz.prog W = .ok (.enter K args) W) ∧
 ∀(p q:Nat) (W:World),p<n→q<n→Below w.heap.size w W→Calls Tryz.prog K (first++(#[.int .i64 p,.int .i64 q]++caps)) W fun e W'=>e = .returned (.bool (f p q))∧Below W.heap.size W W'
def rivalsOf (d:Nat→Nat→Nat)(n x y:Nat)(f:Nat→Nat→Bool):Option (Nat×Nat):=((clsList d n x n).flatMap fun p=>(clsList d n y n).map fun q=>(p,q)).find? fun z=>f z.1 z.2
def RivPost (o:Option (Nat×Nat))(w:World)(e:Ending)(w':World):Prop:=
 Below w.heap.size w w'∧e = .returned (.tuple #[.agg #[.int .i64 ((o.map (·.1)).getD 0:Nat),.int .i64 ((o.map (·.2)).getD 0:Nat)],.bool o.isSome])
structure RivW (nb y:Nat) (hv:Value) (w W:World):Prop where
 b0:Box W w.heap.size #[.pointer (some ⟨nb,0,none⟩)] 244
 b1:Box W (w.heap.size+1) #[.int .i64 y] 3
 b2:Box W (w.heap.size+2) #[hv] 236
 b3:Box W (w.heap.size+3) #[.int .i64 0,.int .i64 0] 57
 old:Below w.heap.size w W
theorem RivW.below {nb y:Nat}{hv:Value}{w W W':World}(h:RivW nb y hv w W)(hb:Below W.heap.size W W'):RivW nb y hv w W':=
 ⟨h.b0.below' hb,h.b1.below' hb,h.b2.below' hb,h.b3.below' hb,h.old.trans (hb.mono h.old.size)⟩
theorem RivW.keep {nb y:Nat}{hv:Value}{w W W':World}{K:Nat→Prop}(h:RivW nb y hv w W)(hk:Keep K W W')(hK:∀k,k<w.heap.size+4→K k):RivW nb y hv w W':=
 ⟨hk.heap (hK _ zO) h.b0,hk.heap (hK _ zO) h.b1,hk.heap (hK _ zO) h.b2,hk.heap (hK _ zO) h.b3,h.old.trans ((hk.mono fun i hi=>hK i zO).below h.old.size)⟩
def RivI (d:Nat→Nat→Nat)(n nb y:Nat)(hv:Value)(f:Nat→Nat→Bool)(w:World)(pre:List Nat)(W:World):Prop:=
 RivW nb y hv w W∧Box W (w.heap.size+4) #[.int .i64 (0:Nat),.int .i64 (0:Nat)] 57∧Box W (w.heap.size+5) #[.bool false] 4 ∧
  (pre.flatMap fun p=>(clsList d n y n).map fun q=>(p,q)).find? (fun z=>f z.1 z.2)=none
def RivX (d:Nat→Nat→Nat)(n nb y:Nat)(hv:Value)(f:Nat→Nat→Bool)(w:World)(c:Code)(pre:List Nat)(W:World):Prop:=
 c = .exit 0∧RivW nb y hv w W∧Box W (w.heap.size+5) #[.bool true] 4∧∃a b:Nat,Box W (w.heap.size+4) #[.int .i64 a,.int .i64 b] 57 ∧
  (pre.flatMap fun p=>(clsList d n y n).map fun q=>(p,q)).find? (fun z=>f z.1 z.2)=some (a,b)
def RivAs (nb x y:Nat)(hv:Value)(g1 g2 g3:Nat)(w w7:World)(p:Nat)(_:Array Value)(act:Act)(W:World):Prop:=
 ∃pb,act={tmps:=#[.pointer (some ⟨nb,0,none⟩),.int .i64 x,.int .i64 y,hv,.pointer (some ⟨w.heap.size,0,none⟩),undef,.pointer (some ⟨w.heap.size+1,0,none⟩),.pointer (some ⟨w.heap.size+2,0,none⟩),.pointer (some ⟨w.heap.size+3,0,none⟩),.bool false,
  .pointer (some ⟨w.heap.size+4,0,none⟩),.pointer (some ⟨w.heap.size+5,0,none⟩),.pointer (some ⟨pb,0,none⟩),undef,.pointer (some ⟨nb,0,none⟩),.int .i64 x,.func (.func 243) #[] #[.pointer (some ⟨g1,0,none⟩),.pointer (some ⟨g2,0,none⟩),.pointer (some ⟨g3,0,none⟩)],
  .int .i64 p,undef,undef,undef,undef,undef,undef,undef,undef,undef,undef,undef,undef,undef],defers:=[]}∧Box W pb #[.int .i64 p] 3∧w7.heap.size+2≤pb
def RivK (H g1 g2 g3 r pb:Nat)(k:Nat):Prop:=k<H+4∨k=g1∨k=g2∨k=g3∨k=r∨k=r+1∨k=pb
def RivI2 (H g1 g2 g3 r pb p:Nat)(f:Nat→Nat→Bool)(Wb:World)(pre:List Nat)(W:World):Prop:=
 Keep (RivK H g1 g2 g3 r pb) Wb W∧Box W (H+4) #[.int .i64 (0:Nat),.int .i64 (0:Nat)] 57∧Box W (H+5) #[.bool false] 4∧(pre.map fun q=>(p,q)).find? (fun z=>f z.1 z.2)=none
def RivX2 (H g1 g2 g3 r pb p:Nat)(f:Nat→Nat→Bool)(Wb:World)(c:Code)(pre:List Nat)(W:World):Prop:=
 c = .exit 0∧Keep (RivK H g1 g2 g3 r pb) Wb W∧Box W (H+5) #[.bool true] 4∧∃q:Nat,Box W (H+4) #[.int .i64 p,.int .i64 q] 57∧(pre.map fun q=>(p,q)).find? (fun z=>f z.1 z.2)=some (p,q)
theorem riv_snoc {α:Type}{A B:List α}{P:α→Bool}(h:A.find? P=none):(A++B).find? P=B.find? P:=by rw[List.find?_append,h];rfl
theorem rivals_any (c:Cs)(n:Nat)(hn:c.parts.length=n)(hn8:n≤8)(pa:Option Addr)(pc:Nat)(d:Nat→Nat→Nat)(hd:∀a b,d a b≤3)(bb nb x y:Nat)(hx:x<n)(hy:y<n)(w:World)
 (hben:Box w bb (csCells c pa pc) 219) (hnode:Box w nb (nodeCells bb d) 246) (hf:Nat) (first caps:Array Value) (f:Nat→Nat→Bool) (hh:HoldsP hf first caps f n w):
 Calls Tryz.prog 240 #[.pointer (some ⟨nb,0,none⟩),.int .i64 x,.int .i64 y,.func (.func hf) first caps] w (RivPost (rivalsOf d n x y f) w):=by
 have hent:=hh.1;have HK:=zh hh.2;have HB:=zh hben;have HN:=zh hnode;have HL:=zh hn;clear hh hben hnode hn;refine(callsIn_wide (n:=0)).1 (callsIn_of_wp_marks Tryz.func240 rfl trivial ?_ rfl);simp only[Tryz.ntmps240,List.size_toArray,List.length_cons,List.length_nil,Nat.reduceAdd,Nat.reduceSub,Array.replicate_succ,Array.replicate_zero,List.push_toArray,List.append_toArray,List.nil_append,List.cons_append]
 gi_wp2_with fail
 apply wpIn_scope
 gi_wp2_with fail
 apply wpIn_label
 simp only[Nat.add_assoc,Nat.reduceAdd];have h6:RivW nb y (.func (.func hf) first caps) w ((((((w.alloc (.cells #[.pointer (some ⟨nb,0,none⟩)] 244)).alloc (.cells #[.int .i64 y] 3)).alloc (.cells #[.func (.func hf) first caps] 236)).alloc (.cells #[.int .i64 0,.int .i64 0] 57)).alloc (.cells #[.int .i64 0,.int .i64 0] 57)).alloc (.cells #[.bool false] 4)):=
  ⟨(((((Box.new _ _ _).alloc _).alloc _).alloc _).alloc _).alloc _,((((Box.new' zS).alloc _).alloc _).alloc _).alloc _,(((Box.new' zS).alloc _).alloc _).alloc _,((Box.new' zS).alloc _).alloc _,by go_grown⟩
 have h64:Box ((((((w.alloc (.cells #[.pointer (some ⟨nb,0,none⟩)] 244)).alloc (.cells #[.int .i64 y] 3)).alloc (.cells #[.func (.func hf) first caps] 236)).alloc (.cells #[.int .i64 0,.int .i64 0] 57)).alloc (.cells #[.int .i64 0,.int .i64 0] 57)).alloc (.cells #[.bool false] 4)) (w.heap.size+4) #[.int .i64 (0:Nat),.int .i64 (0:Nat)] 57:=(Box.new' zS).alloc _;have h65:Box ((((((w.alloc (.cells #[.pointer (some ⟨nb,0,none⟩)] 244)).alloc (.cells #[.int .i64 y] 3)).alloc (.cells #[.func (.func hf) first caps] 236)).alloc (.cells #[.int .i64 0,.int .i64 0] 57)).alloc (.cells #[.int .i64 0,.int .i64 0] 57)).alloc (.cells #[.bool false] 4)) (w.heap.size+5) #[.bool false] 4:=Box.new' zS
 have hsz:((((((w.alloc (.cells #[.pointer (some ⟨nb,0,none⟩)] 244)).alloc (.cells #[.int .i64 y] 3)).alloc (.cells #[.func (.func hf) first caps] 236)).alloc (.cells #[.int .i64 0,.int .i64 0] 57)).alloc (.cells #[.int .i64 0,.int .i64 0] 57)).alloc (.cells #[.bool false] 4)).heap.size=w.heap.size+6:=by simp
 generalize ((((((w.alloc (.cells #[.pointer (some ⟨nb,0,none⟩)] 244)).alloc (.cells #[.int .i64 y] 3)).alloc (.cells #[.func (.func hf) first caps] 236)).alloc (.cells #[.int .i64 0,.int .i64 0] 57)).alloc (.cells #[.int .i64 0,.int .i64 0] 57)).alloc (.cells #[.bool false] 4))=w6 at *;have hbl:=HB.out.lt;have hnl:=HN.out.lt;have e0:=h6.b0.cell;have e1:=HB.out.below' h6.old;have e2:=HN.out.below' h6.old;have H6:=zh h6;have H64:=zh h64;have H65:=zh h65;have HSZ:=zh hsz;have hc:=class_any c n HL.out hn8 pa pc d hd bb nb x w6 e1 e2;have HC:=zh hc;clear h6 h64 h65 hsz e1 e2 hc
 gi_wp2_with (gi_at_call 242;(with_reducible refine(callsIn_wide.2 HC.out).mono ?_);rintro e w7 ⟨g1,g2,g3,rfl,hst,hb7⟩)
 have h7:=H6.out.below hb7;have h74:=H64.out.below' hb7;have h75:=H65.out.below' hb7;have hsz7:w.heap.size+6≤w7.heap.size:=by have:=hb7.size;have:=HSZ.out;omega
 have hst7:=hst.less (show w.heap.size≤w6.heap.size from H6.out.old.size);have l1:=hst.b1.lt;have l2:=hst.b2.lt;have l3:=hst.b3.lt;have m1:w.heap.size+6≤g1:=by have:=hst.l1;have:=HSZ.out;omega
 have m2:w.heap.size+6≤g2:=by have:=hst.l2;have:=HSZ.out;omega
 have m3:w.heap.size+6≤g3:=by have:=hst.l3;have:=HSZ.out;omega
 have HST:=zh hst7;have H7:=zh h7;clear hst hst7 h7 hb7 H64 H65 HC e0;refine wpIn_range3 (gf:=243) (lb:=#[.pointer (some ⟨g1,0,none⟩),.pointer (some ⟨g2,0,none⟩),.pointer (some ⟨g3,0,none⟩)]) (Z:=fun k=>k=g1∨k=g2∨k=g3) (n0:=w.heap.size) (Rd:=NatRd) (xs:=clsList d n x n) rfl (enters_of Tryz.func243 zK rfl) ?gives ?hz ?n0 ?ps
  (RivI d n nb y (.func (.func hf) first caps) f w) (RivX d n nb y (.func (.func hf) first caps) f w) ?hI ?hX ?h0 (RivAs nb x y (.func (.func hf) first caps) g1 g2 g3 w w7) ?hAs ?assign ?body ?done ?stop
 case gives=>
  intro o1 o2;exact class1_gives c n HL.out hn8 pa pc d w bb nb x g1 g2 g3 hx _ (HST.out.keep (K:=fun _=>True) (((Keep.refl _ w7).alloc _).alloc _) trivial trivial trivial) (((HB.out.below' H7.out.old).alloc _).alloc _) (((HN.out.below' H7.out.old).alloc _).alloc _)
 case hz=>intro k hk;omega
 case n0=>omega
 case ps=>rintro x args W rfl;rfl
 case hI=>
  rintro s A B ⟨h1,h2,h3,h4⟩ hk;exact⟨h1.keep hk (fun k hk=>by omega),hk.heap zO h2,hk.heap zO h3,h4⟩
 case hX=>
  rintro c s A B ⟨h1,h2,h3,a,b,h4,h5⟩ hk;exact⟨h1,h2.keep hk (fun k hk=>by omega),hk.heap zO h3,a,b,hk.heap zO h4,h5⟩
 case h0=>exact⟨H7.out,h74,h75,rfl⟩
 case hAs=>
  rintro x args act A B ⟨pb,h1,h2,h3⟩ hk;exact⟨pb,h1,hk.heap zO h2,h3⟩
 case assign=>
  rintro l x args W Kk rfl hlt hk
  gi_wp2_with fail
  exact hk _ _ ⟨W.heap.size,rfl,Box.new _ _ _,zO⟩ ((Below.refl _ W).alloc (Nat.le_refl _) _)
 case body=>
  rintro l pre p args act W ⟨i1,i2,i3,i4⟩ ⟨pb,rfl,i5,i6⟩ hpre hlt rfl hrec;have hpn:p<n:=clsList_mem (hpre.subset (by simp:p∈pre++[p]));have e0:=i1.b0.cell;have e1:=i1.b1.cell;have e2:=HB.out.below' i1.old;have e3:=HN.out.below' i1.old;have hc:=class_any c n HL.out hn8 pa pc d hd bb nb y W e2 e3;have HC:=zh hc;have I1:=zh i1;have I2:=zh i2;have I3:=zh i3;have I4:=zh i4;have I5:=zh i5;have HR:=zh hrec;have lpb:=i5.lt;clear i1 i2 i3 i4 i5 e2 e3 hc hrec
  gi_wp2_with (gi_at_call 242;(with_reducible refine(CallsIn.inRound _ (callsIn_wide.2 HC.out)).mono ?_);rintro e W1 ⟨q1,q2,q3,rfl,hst,hb1⟩)
  have hsz1:W.heap.size≤W1.heap.size:=hb1.size;have k2:=hst.b2.lt;have n1:=hst.l1;have n2:=hst.l2;have n3:=hst.l3;have hl0:∃r,W1.heap[w7.heap.size+1]?=some (.loop r):=by
   obtain⟨r,hr⟩:=HR.out;exact⟨r,(hb1.block _ hlt).trans hr⟩
  have HST1:=zh hst;have HB1:=zh hb1;clear hst hb1 HC HR e0 e1;refine wpIn_rangeN (l₀:=w7.heap.size+1) hl0 (gf:=243) (lb:=#[.pointer (some ⟨q1,0,none⟩),.pointer (some ⟨q2,0,none⟩),.pointer (some ⟨q3,0,none⟩)]) (Z:=fun k=>k=q1∨k=q2∨k=q3) (n0:=w.heap.size) (Rd:=NatRd) (xs:=clsList d n y n) rfl (enters_of Tryz.func243 zK rfl) ?gives2 ?hz2 ?n02 ?ps2
   (RivI2 w.heap.size g1 g2 g3 w7.heap.size pb p f W) (RivX2 w.heap.size g1 g2 g3 w7.heap.size pb p f W) ?hI2 ?hX2 ?h02 (fun q _ act _=>act={tmps:=#[.pointer (some ⟨nb,0,none⟩),.int .i64 x,.int .i64 y,.func (.func hf) first caps,.pointer (some ⟨w.heap.size,0,none⟩),undef,.pointer (some ⟨w.heap.size+1,0,none⟩),.pointer (some ⟨w.heap.size+2,0,none⟩),.pointer (some ⟨w.heap.size+3,0,none⟩),.bool false,
   .pointer (some ⟨w.heap.size+4,0,none⟩),.pointer (some ⟨w.heap.size+5,0,none⟩),.pointer (some ⟨pb,0,none⟩),.int .i64 q,.pointer (some ⟨nb,0,none⟩),.int .i64 x,.func (.func 243) #[] #[.pointer (some ⟨g1,0,none⟩),.pointer (some ⟨g2,0,none⟩),.pointer (some ⟨g3,0,none⟩)],
   .int .i64 p,.pointer (some ⟨nb,0,none⟩),.int .i64 y,.func (.func 243) #[] #[.pointer (some ⟨q1,0,none⟩),.pointer (some ⟨q2,0,none⟩),.pointer (some ⟨q3,0,none⟩)],.int .i64 q,undef,undef,undef,undef,undef,undef,undef,undef,undef],defers:=[]}) ?hAs2 ?assign2 ?body2 ?done2 ?stop2
  case gives2=>
   intro o1;exact class1_gives c n HL.out hn8 pa pc d w bb nb y q1 q2 q3 hy _ ((HST1.out.less I1.out.old.size).keep (K:=fun _=>True) ((Keep.refl _ W1).alloc _) trivial trivial trivial) ((HB.out.below' (I1.out.old.trans (HB1.out.mono I1.out.old.size))).alloc _) ((HN.out.below' (I1.out.old.trans (HB1.out.mono I1.out.old.size))).alloc _)
  case hz2=>
   intro k hk;have h1:=HST1.out.b1.lt;have h3:=HST1.out.b3.lt
   omega
  case n02=>omega
  case ps2=>rintro x args W rfl;rfl
  case hI2=>
   rintro s A B ⟨h1,h2,h3,h4⟩ hk;refine⟨h1.trans (hk.mono fun i hi=>?_),hk.heap zO h2,hk.heap zO h3,h4⟩;simp only[RivK] at hi;omega
  case hX2=>
   rintro cc s A B ⟨h1,h2,h3,q,h4,h5⟩ hk;refine⟨h1,h2.trans (hk.mono fun i hi=>?_),hk.heap zO h3,q,hk.heap zO h4,h5⟩;simp only[RivK] at hi;omega
  case h02=>exact⟨Keep.of_below' HB1.out,I2.out.below' HB1.out,I3.out.below' HB1.out,rfl⟩
  case hAs2=>rintro x args act A B h1 hk;exact h1
  case assign2=>
   rintro l x args W Kk rfl hlt hk
   gi_wp2_with fail
   exact hk _ _ rfl (Below.refl _ W)
  case body2=>
   rintro l pre2 q args act Wq ⟨j1,j2,j3,j4⟩ rfl hpre2 hlt2;have hqn:q<n:=clsList_mem (hpre2.subset (by simp:q∈pre2++[q]));have jr:=I1.out.keep j1 (fun k hk=>by simp only[RivK];omega);have e0:=jr.b2.cell;have jp:Box Wq pb #[.int .i64 p] 3:=j1.heap (.inr (.inr (.inr (.inr (.inr (.inr rfl)))))) I5.out;have e1:=jp.cell;have hcall:=HK.out p q Wq hpn hqn jr.old;have J1:=zh j1;have J2:=zh j2;have J3:=zh j3;have J4:=zh j4;have HCC:=zh hcall;clear j1 j2 j3 j4 hcall jr jp
   gi_wp2_with fail
   refine(CallsIn.inRound l (callsIn_wide.2 HCC.out)).mono ?_;rintro e W' ⟨rfl,hb⟩;have kq:Keep (fun _=>True) Wq W':=Keep.of_below' hb;have hfind:((pre2++[q]).map fun q=>(p,q)).find? (fun z=>f z.1 z.2)=if f p q then some (p,q) else none:=by
    rw[List.map_append,riv_snoc J4.out];simp[List.find?_cons];split<;>simp_all
   clear e0 e1 HCC
   rcases hfx:f p q with _|_
   ·gi_wp2_with fail
    rw[hfx] at hfind;exact⟨kq.mono (fun _ _=>trivial),J1.out.trans (kq.mono fun _ _=>trivial),J2.out.below' hb,J3.out.below' hb,hfind⟩
   ·have u4:=J2.out.below' hb;have u5:=J3.out.below' hb;have up:Box W' pb #[.int .i64 p] 3:=Box.below' (J1.out.heap (.inr (.inr (.inr (.inr (.inr (.inr rfl)))))) I5.out) hb;obtain⟨u41,u42⟩:=u4.rules;obtain⟨u51,u52⟩:=u5.rules;have up1:=up.cell;have U4:=zh u4;have U5:=zh u5;clear u4 u5 up
    gi_wp2_with fail
    rw[hfx] at hfind;have kk:Keep (fun k=>k≠w.heap.size+4∧k≠w.heap.size+5) W' (((W'.setCell ⟨w.heap.size+4,0,none⟩ (.int .i64 p)).setCell ⟨w.heap.size+4,1,none⟩ (.int .i64 q)).setCell ⟨w.heap.size+5,0,none⟩ (.bool true)):=
     (((Keep.refl _ W').setCell (.inl zS) _).setCell (.inl zS) _).setCell (.inl zS) _
    refine⟨(kq.mono fun _ _=>trivial).trans (kk.mono fun k hk=>by omega),rfl,(J1.out.trans (kq.mono fun _ _=>trivial)).trans (kk.mono fun k hk=>by simp only[RivK] at hk;omega),?_,q,?_,hfind⟩
    ·exact((U5.out.far zS _).far zS _).set_ 0 _
    ·exact((U4.out.set_ 0 _).set_ 1 _).far zS _
  case done2=>
   rintro W2 ⟨j1,j2,j3,j4⟩
   gi_wp2_with fail
   refine⟨?_,I1.out.keep j1 (fun k hk=>.inl hk),j2,j3,?_⟩
   ·exact j1.mono fun k hk=>by simp only[RivK];omega
   ·rw[List.flatMap_append,riv_snoc I4.out];simpa using j4
  case stop2=>
   rintro cc pre2 W2 hp2 ⟨rfl,j1,j3,q,j4,j5⟩
   gi_wp2_with fail
   refine⟨?_,rfl,I1.out.keep j1 (fun k hk=>.inl hk),j3,p,q,j4,?_⟩
   ·exact j1.mono fun k hk=>by simp only[RivK];omega
   ·rw[List.flatMap_append,riv_snoc I4.out];obtain⟨r,hr⟩:=hp2;have:((clsList d n y n).map fun q=>(p,q)).find? (fun z=>f z.1 z.2)=some (p,q):=by
     rw[←hr,List.map_append,List.find?_append,j5];rfl
    simpa using this
 case done=>
  rintro W ⟨i1,i2,i3,i4⟩ hD;obtain⟨u41,u42⟩:=i2.rules;obtain⟨u51,u52⟩:=i3.rules;obtain⟨u31,u32⟩:=i1.b3.rules;have l3:=i1.b3.lt
  gi_wp2_with fail
  gi_region
  gi_wp2_with fail
  rw[Exit.noGoto_ret];have ks:Keep (fun k=>k≠w.heap.size+3) W (((W.setCell ⟨w.heap.size+3,0,none⟩ (.int .i64 0)).setCell ⟨w.heap.size+3,1,none⟩ (.int .i64 0)).drew):=(((Keep.refl _ W).setCell (.inl zS) _).setCell (.inl zS) _).drew;have m3:Box (((W.setCell ⟨w.heap.size+3,0,none⟩ (.int .i64 0)).setCell ⟨w.heap.size+3,1,none⟩ (.int .i64 0)).drew) (w.heap.size+3) #[.int .i64 0,.int .i64 0] 57:=((i1.b3.set_ 0 _).set_ 1 _).drew;have qd:=ks.heap zO hD;have qB:Below w.heap.size w (((W.setCell ⟨w.heap.size+3,0,none⟩ (.int .i64 0)).setCell ⟨w.heap.size+3,1,none⟩ (.int .i64 0)).drew):=((i1.old.setCell zS _).setCell zS _).drew;generalize (((W.setCell ⟨w.heap.size+3,0,none⟩ (.int .i64 0)).setCell ⟨w.heap.size+3,1,none⟩ (.int .i64 0)).drew)=W9 at *;refine⟨by simp,.inl ⟨_,_,rfl,run_takeDeferred qd,?_⟩⟩
  have m4:=m3.putObj_far (o:=.deferred none) (k:=w7.heap.size) zO;obtain⟨k41,k42⟩:=m4.rules;refine⟨.tuple #[.agg #[.int .i64 0,.int .i64 0],.bool false],?_,below_put qB zO _,?_⟩
  ·simp[results,go_sem,k41]
  ·have e:rivalsOf d n x y f=none:=i4;rw[e];rfl
 case stop=>
  rintro cc pre W hpre ⟨rfl,i1,i3,a,b,i4,i5⟩ hD;obtain⟨u41,u42⟩:=i4.rules;obtain⟨u51,u52⟩:=i3.rules;obtain⟨u31,u32⟩:=i1.b3.rules;have l3:=i1.b3.lt
  gi_wp2_with fail
  gi_region
  gi_wp2_with fail
  rw[Exit.noGoto_ret];have ks:Keep (fun k=>k≠w.heap.size+3) W (((W.setCell ⟨w.heap.size+3,0,none⟩ (.int .i64 a)).setCell ⟨w.heap.size+3,1,none⟩ (.int .i64 b)).drew):=(((Keep.refl _ W).setCell (.inl zS) _).setCell (.inl zS) _).drew;have m3:Box (((W.setCell ⟨w.heap.size+3,0,none⟩ (.int .i64 a)).setCell ⟨w.heap.size+3,1,none⟩ (.int .i64 b)).drew) (w.heap.size+3) #[.int .i64 a,.int .i64 b] 57:=((i1.b3.set_ 0 _).set_ 1 _).drew;have qd:=ks.heap zO hD;have qB:Below w.heap.size w (((W.setCell ⟨w.heap.size+3,0,none⟩ (.int .i64 a)).setCell ⟨w.heap.size+3,1,none⟩ (.int .i64 b)).drew):=((i1.old.setCell zS _).setCell zS _).drew;generalize (((W.setCell ⟨w.heap.size+3,0,none⟩ (.int .i64 a)).setCell ⟨w.heap.size+3,1,none⟩ (.int .i64 b)).drew)=W9 at *;refine⟨by simp,.inl ⟨_,_,rfl,run_takeDeferred qd,?_⟩⟩
  have m4:=m3.putObj_far (o:=.deferred none) (k:=w7.heap.size) zO;obtain⟨k41,k42⟩:=m4.rules;refine⟨.tuple #[.agg #[.int .i64 a,.int .i64 b],.bool true],?_,below_put qB zO _,?_⟩
  ·simp[results,go_sem,k41]
  ·have e:rivalsOf d n x y f=some (a,b):=by
    obtain⟨r,hr⟩:=hpre;rw[rivalsOf,←hr,List.flatMap_append,List.find?_append,i5];rfl
   rw[e];rfl
end
