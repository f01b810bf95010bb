/- Walks and plain laws. No condition. -/
import Derived.Test.YtjgldeeianionaaGreatV08
set_option maxHeartbeats 2000000
set_option maxRecDepth 100000
set_option linter.unusedSimpArgs false
set_option linter.unusedVariables false
namespace Go.Proofs.YtjgldeeianionaaGreat
open Go.RowKit
section
attribute [local go_sem] Oper.semAt_some
theorem bits_and2 {a:Nat}(ha:a≤3):bits .and .u8 (a:Int) 2=((a &&& 2:Nat):Int):=by
 have h1:a=0∨a=1∨a=2∨a=3:=by omega
 rcases h1 with rfl|rfl|rfl|rfl<;>rfl
def apartB (d:Nat→Nat→Nat)(p q:Nat):Bool:=d p q &&& 2 != 0
theorem apart_int {d:Nat→Nat→Nat}{p q:Nat}:(((d p q &&& 2:Nat):Int) != 0)=apartB d p q:=by
 rw[Bool.eq_iff_iff];simp[apartB]
def oppF (c:Cs)(d:Nat→Nat→Nat)(p q:Nat):Bool:=clashB c p q||apartB d p q
structure NodeAt (c:Cs) (pa:Option Addr) (pc:Nat) (d:Nat→Nat→Nat) (bb nb:Nat) (W:World):Prop where
 ben:Box W bb (csCells c pa pc) 219
 node:Box W nb (nodeCells bb d) 246
 parts:PartsAt W pa c.parts
theorem NodeAt.below {c:Cs}{pa:Option Addr}{pc:Nat}{d:Nat→Nat→Nat}{bb nb:Nat}{W W':World}(h:NodeAt c pa pc d bb nb W)(hb:Below W.heap.size W W'):NodeAt c pa pc d bb nb W':=
 ⟨h.ben.below' hb,h.node.below' hb,h.parts.below hb⟩
theorem node_pair {W:World}{nb bb:Nat}{d:Nat→Nat→Nat}{t:TypeId}(h:Box W nb (nodeCells bb d) t){x y:Nat}(hx:x<8)(hy:y<8):W.cell? ⟨nb,1+x*8+y,none⟩=some (.int .u8 (d x y:Nat)):=by
 rw[Nat.add_assoc,h.cell,node_at,decCells_at _ hx hy]
theorem opposed1_any (c:Cs)(n:Nat)(hn:c.parts.length=n)(hn8:n≤8)(pa:Option Addr)(pc:Nat)(d:Nat→Nat→Nat)(hd:∀a b,d a b≤3)(bb nb g p q:Nat)(hp:p<n)(hq:q<n)(w:World)
 (hN:NodeAt c pa pc d bb nb w) (hg:Box w g #[.pointer (some ⟨nb,0,none⟩)] 244):
 Calls Tryz.prog 241 #[.int .i64 p,.int .i64 q,.pointer (some ⟨g,0,none⟩)] w fun e w'=>e = .returned (.bool (oppF c d p q))∧Below w.heap.size w w':=by
 have hp8:(p:Int)<8:=by omega
 have hq8:(q:Int)<8:=by omega
 have e0:=hg.cell;have e1:=node_ptr hN.node;have e2:=node_pair hN.node (x:=p) (y:=q) zO zO;have e3:=bits_and2 (hd p q);have e4:=apart_int (d:=d) (p:=p) (q:=q);have hc:=clash_any c zO bb p q pa pc w hN.ben hN.parts zO zO;have HC:=zh hc;clear hc
 rcases h1:clashB c p q with _|_
 ·rw[h1] at HC;have H1:=zh h1;clear h1
  go_enter Tryz.func241,Tryz.ntmps241
  go_wp2_with (go_at_call 210;refine zM HC ?_;rintro e w' ⟨rfl,hb⟩;have e5:=below_cell hb e1;have e6:=below_cell hb e2;have e7:=(hg.below' hb).cell;have HB:=zh hb;clear hb)
  go_ret
  exact⟨ret_bool (by rw[oppF,H1.out];rfl),HB.out⟩
 ·rw[h1] at HC;have H1:=zh h1;clear h1
  go_enter Tryz.func241,Tryz.ntmps241
  go_wp2_with (go_at_call 210;refine zM HC ?_;rintro e w' ⟨rfl,hb⟩;have HB:=zh hb;clear hb)
  go_ret
  exact⟨ret_bool (by rw[oppF,H1.out];rfl),HB.out⟩
theorem opposed1_holds (c:Cs)(n:Nat)(hn:c.parts.length=n)(hn8:n≤8)(pa:Option Addr)(pc:Nat)(d:Nat→Nat→Nat)(hd:∀a b,d a b≤3)(bb nb g:Nat)(w:World)
 (hN:NodeAt c pa pc d bb nb w) (hg:Box w g #[.pointer (some ⟨nb,0,none⟩)] 244):HoldsP 241 #[] #[.pointer (some ⟨g,0,none⟩)] (oppF c d) n w:=
 ⟨enters_of Tryz.func241 zK rfl,fun p q W hp hq hb=>opposed1_any c n hn hn8 pa pc d hd bb nb g p q hp hq W (hN.below hb) (hg.below' hb)⟩
def oppB (c:Cs)(d:Nat→Nat→Nat)(n x y:Nat):Bool:=(rivalsOf d n x y (oppF c d)).isSome
theorem opposed_any (c:Cs)(n:Nat)(hn:c.parts.length=n)(hn8:n≤8)(pa:Option Addr)(pc:Nat)(d:Nat→Nat→Nat)(hd:∀a b,d a b≤3)(bb nb x y:Nat)(hx:x<n)(hy:y<n)(w:World)
 (hN:NodeAt c pa pc d bb nb w):
 Calls Tryz.prog 234 #[.pointer (some ⟨nb,0,none⟩),.int .i64 x,.int .i64 y] w fun e w'=>e = .returned (.bool (oppB c d n x y))∧Below w.heap.size w w':=by
 have hmf:=run_mf Tryz.prog;have hB:Below w.heap.size w (w.alloc (.cells #[.pointer (some ⟨nb,0,none⟩)] 244)):=(Below.refl _ _).alloc (Nat.le_refl _) _;have hN1:=hN.below hB;have hr:=rivals_any c n hn hn8 pa pc d hd bb nb x y hx hy _ hN1.ben hN1.node _ _ _ _ (opposed1_holds c n hn hn8 pa pc d hd bb nb w.heap.size _ hN1 (Box.new _ _ _));have HR:=zh hr;have HB:=zh hB;clear hr hN1 hB
 go_enter Tryz.func234,Tryz.ntmps234
 go_wp2_with (go_at_call 240;refine zM HR ?_;rintro e w' ⟨hb,rfl⟩;have HB2:=zh hb;clear hb)
 go_ret
 exact⟨rfl,((HB.out.trans (HB2.out.mono HB.out.size)).alloc (by have:=HB2.out.size;simp at this;omega) _)⟩
theorem load_dec {S:World→Prop}{w:World}{nb:Nat}{d:Nat→Nat→Nat}(h:w.rangeAt nb 1 (decCells d).toList)(hS:∀W,S W→Below w.heap.size w W):∀W,S W→(Instr.loadAt 227 (.pointer (some ⟨nb,1,none⟩))).run Tryz.prog W = .ok (.agg (decCells d)) W:=
 fun W hW=>run_load_at (fun j v hv=>range_below h (hS W hW) j v (by simpa using hv)) Tryz.underlying227 rfl (by rw[dec_info])
theorem in_held {a b c:Int}{v:Bool}(h:inB a b c=v)(W:World):Calls Tryz.prog 188 #[.int .i64 a,.int .i64 b,.int .i64 c] W fun e W'=>e = .returned (.bool v)∧Below W.heap.size W W':=
 (in_any a b c W).mono (by rintro e w' ⟨rfl,rfl⟩;exact⟨by rw[h],Below.refl _ _⟩)
def sameB (d:Nat→Nat→Nat)(n:Nat)(A B:Int)(many:List Int):Bool:=inB A 0 ((n:Int)-1)&&inB B 0 ((n:Int)-1)&&many.length==0&&(clsOf d n A.toNat==clsOf d n B.toNat)
theorem same_any (c:Cs)(n:Nat)(hn:c.parts.length=n)(hn8:n≤8)(pa:Option Addr)(pc:Nat)(d:Nat→Nat→Nat)(hd:∀a b,d a b≤3)(bb nb:Nat)(w:World)
 (hN:NodeAt c pa pc d bb nb w) (k:Nat) (A B:Int) (many:List Int) (ma:Option Addr) (mc:Nat):
 Calls Tryz.prog 233 #[.pointer (some ⟨nb,0,none⟩),.agg #[.int .u8 k,.int .i64 A,.int .i64 B,.slice ma many.length mc]] w fun e w'=>e = .returned (.bool (sameB d n A B many))∧Below w.heap.size w w':=by
 obtain⟨w2,hw2⟩:=zx (w.alloc (.cells #[.int .u8 k,.int .i64 A,.int .i64 B,.slice ma many.length mc] 99));have hB2:Below w.heap.size w w2:=by rw[←hw2];go_grown
 have b1:Box w2 w.heap.size #[.int .u8 k,.int .i64 A,.int .i64 B,.slice ma many.length mc] 99:=by rw[←hw2];exact Box.new _ _ _
 have hN2:=hN.below hB2;have f1:w2.cell? ⟨w.heap.size,1,none⟩=some (.int .i64 A):=by rw[b1.cell];rfl
 have f2:w2.cell? ⟨w.heap.size,2,none⟩=some (.int .i64 B):=by rw[b1.cell];rfl
 have f3:w2.cell? ⟨w.heap.size,3,none⟩=some (.slice ma many.length mc):=by rw[b1.cell];rfl
 have f4:=node_ptr hN2.node;have f5:w2.cell? ⟨bb,3,none⟩=some (.slice pa n pc):=by rw[←hn,hN2.ben.cell];rfl
 have f6:=node_dec hN2.node;have hw1:IntKind.i64.wrap ((n:Int)-1)=(n:Int)-1:=IntWalk.i64_in _ zO;have HW:=zh hw2;clear hw2 b1
 rcases h1:inB A 0 ((n:Int)-1) with _|_
 ·have HH1:=zh h1;clear h1
  go_enter Tryz.func233,Tryz.ntmps233
  go_upto_region 1 with fail
  simp only[HW.out];refine wp_region_heldB 35 [] zK zK zK zS ?_;intro S hS;have k0:∀W,S W→W.cell? ⟨w.heap.size,1,none⟩=some (.int .i64 A)∧W.cell? ⟨w.heap.size,2,none⟩=some (.int .i64 B)∧W.cell? ⟨w.heap.size,3,none⟩=some (.slice ma many.length mc)∧W.cell? ⟨nb,0,none⟩=some (.pointer (some ⟨bb,0,none⟩))∧W.cell? ⟨bb,3,none⟩=some (.slice pa n pc):=fun W h=>⟨below_cell (hS W h) f1,below_cell (hS W h) f2,below_cell (hS W h) f3,below_cell (hS W h) f4,below_cell (hS W h) f5⟩
  have K0:=zh k0;have HS:=zh hS;clear k0 hS f1 f2 f3 f4 f5;simp only[pT]
  repeat (first
   |refine xN ?_
   |refine xV K0 ?_
   |(refine held_skip rfl (by rfl) ?_ ?_;(· (intro W hW;obtain⟨q0,q1,q2,q3,q4⟩:=K0.out W hW;go_simp;try with_reducible rfl));try simp only[pZ])
   |(refine xC (fun W hW=>in_held HH1.out W) ?_ ?_;(· (intro W hW;go_simp;done))))
  refine held_nil ?_;intro τ hτ W hW hO;obtain rfl:=laid0 hτ;have HBW:=zh (HS.out W hW);clear hτ hO hW K0 HS;simp only[overs,List.foldl_nil]
  go_wp2_with fail
  go_ret
  exact⟨ret_bool (by simp[sameB,HH1.out]),hB2.trans (HBW.out.mono hB2.size)⟩
 ·rcases h2:inB B 0 ((n:Int)-1) with _|_
  ·have HH1:=zh h1;have HH2:=zh h2;clear h1 h2
   go_enter Tryz.func233,Tryz.ntmps233
   go_upto_region 1 with fail
   simp only[HW.out];refine wp_region_heldB 35 [] zK zK zK zS ?_;intro S hS;have k0:∀W,S W→W.cell? ⟨w.heap.size,1,none⟩=some (.int .i64 A)∧W.cell? ⟨w.heap.size,2,none⟩=some (.int .i64 B)∧W.cell? ⟨w.heap.size,3,none⟩=some (.slice ma many.length mc)∧W.cell? ⟨nb,0,none⟩=some (.pointer (some ⟨bb,0,none⟩))∧W.cell? ⟨bb,3,none⟩=some (.slice pa n pc):=fun W h=>⟨below_cell (hS W h) f1,below_cell (hS W h) f2,below_cell (hS W h) f3,below_cell (hS W h) f4,below_cell (hS W h) f5⟩
   have K0:=zh k0;have HS:=zh hS;clear k0 hS f1 f2 f3 f4 f5;simp only[pT]
   repeat (first
    |refine xN ?_
    |refine xV K0 ?_
    |(refine held_skip rfl (by rfl) ?_ ?_;(· (intro W hW;obtain⟨q0,q1,q2,q3,q4⟩:=K0.out W hW;go_simp;try with_reducible rfl));try simp only[pZ])
    |(refine xC (fun W hW=>in_held HH1.out W) ?_ ?_;(· (intro W hW;go_simp;done)))
    |(refine xC (fun W hW=>in_held HH2.out W) ?_ ?_;(· (intro W hW;go_simp;done))))
   refine held_nil ?_;intro τ hτ W hW hO;obtain rfl:=laid0 hτ;have HBW:=zh (HS.out W hW);clear hτ hO hW K0 HS;simp only[overs,List.foldl_nil]
   go_wp2_with fail
   go_ret
   exact⟨ret_bool (by simp[sameB,HH1.out,HH2.out]),hB2.trans (HBW.out.mono hB2.size)⟩
  ·have HH1:=zh h1;have HH2:=zh h2;have hA:∃x:Nat,A=(x:Int)∧x<n:=⟨A.toNat,by simp[inB] at h1;omega,by simp[inB] at h1;omega⟩
   have hBB:∃y:Nat,B=(y:Int)∧y<n:=⟨B.toNat,by simp[inB] at h2;omega,by simp[inB] at h2;omega⟩
   clear h1 h2
   by_cases h3:many.length=0
   ·have h3i:((many.length:Int)==0)=true:=by simp[h3]
    have HH3:=zh h3;have HF:=zh (And.intro f1 f2);clear h3
    go_enter Tryz.func233,Tryz.ntmps233
    go_upto_region 1 with fail
    simp only[HW.out];refine wp_region_heldB 35 [] zK zK zK zS ?_;intro S hS;have k0:∀W,S W→W.cell? ⟨w.heap.size,1,none⟩=some (.int .i64 A)∧W.cell? ⟨w.heap.size,2,none⟩=some (.int .i64 B)∧W.cell? ⟨w.heap.size,3,none⟩=some (.slice ma many.length mc)∧W.cell? ⟨nb,0,none⟩=some (.pointer (some ⟨bb,0,none⟩))∧W.cell? ⟨bb,3,none⟩=some (.slice pa n pc):=fun W h=>⟨below_cell (hS W h) f1,below_cell (hS W h) f2,below_cell (hS W h) f3,below_cell (hS W h) f4,below_cell (hS W h) f5⟩
    have K0:=zh k0;have HS:=zh hS;clear k0 hS f1 f2 f3 f4 f5;simp only[pT]
    repeat (first
     |refine xN ?_
     |refine xV K0 ?_
     |(refine held_skip rfl (by rfl) ?_ ?_;(· (intro W hW;obtain⟨q0,q1,q2,q3,q4⟩:=K0.out W hW;go_simp;try with_reducible rfl));try simp only[pZ])
     |(refine xC (fun W hW=>in_held HH1.out W) ?_ ?_;(· (intro W hW;go_simp;done)))
     |(refine xC (fun W hW=>in_held HH2.out W) ?_ ?_;(· (intro W hW;go_simp;done))))
    refine held_nil ?_;intro τ hτ W hW hO;obtain rfl:=laid0 hτ;have HBW:=zh (HS.out W hW);clear hτ hO hW K0 HS;simp only[overs,List.foldl_nil];have g1:=below_cell HBW.out HF.out.1;have g2:=below_cell HBW.out HF.out.2;have hN3:=hN2.below HBW.out;have f4:=node_ptr hN3.node;have f5:W.cell? ⟨bb,3,none⟩=some (.slice pa n pc):=by rw[←hn,hN3.ben.cell];rfl
    have f6:=node_dec hN3.node
    go_wp2_with fail
    refine wp_region_heldB 15 [(6,#[.int .i64 0,.int .i64 0,.int .i64 0,.int .i64 0,.int .i64 0,.int .i64 0,.int .i64 0,.int .i64 0],230)] zK zK zK zS ?_;intro S hS;have k0:∀W,S W→W.cell? ⟨nb,0,none⟩=some (.pointer (some ⟨bb,0,none⟩))∧W.cell? ⟨bb,3,none⟩=some (.slice pa n pc):=fun W h=>⟨below_cell (hS W h) f4,below_cell (hS W h) f5⟩
    have K0:=zh k0;have HS:=zh hS;have K3:=zh (load_dec (S:=S) f6 hS);clear k0 hS f4 f5 f6;simp only[pT]
    repeat (first
     |(refine held_load 227 _ (by rfl) rfl rfl K3.out ?_;try simp only[pZ])
     |refine xN ?_
     |refine xV K0 ?_
     |(refine held_skip rfl (by rfl) ?_ ?_;(· (intro W hW;obtain⟨q0,q1⟩:=K0.out W hW;go_simp;try with_reducible rfl));try simp only[pZ])
     |(refine xC (fun W hW=>classes_any d n W hn8 hd) ?_ ?_;(· (intro W hW;go_simp;done))))
    refine held_own (e:=(6,#[.int .i64 0,.int .i64 0,.int .i64 0,.int .i64 0,.int .i64 0,.int .i64 0,.int .i64 0,.int .i64 0],230)) rfl rfl zS rfl (fun b W=>by go_simp) ?_;refine held_nil ?_;intro τ hτ W4 hW hO;obtain⟨g,rfl⟩:=laid1 hτ;obtain⟨hg,hgN⟩:=hO.one;have HBW4:=zh (HS.out W4 hW);have hst:=run_store_row (P:=Tryz.prog) (T:=ofCells (clsOf d n)) hg (of_info _) (by rw[zero_of,ofCells_size,ofCells_size]) (of_one _);have hg2:Box (W4.setRow g (ofCells (clsOf d n))) g (ofCells (clsOf d n)) 230:=hg.setRow_same;have hB5:Below W.heap.size W (W4.setRow g (ofCells (clsOf d n))):=below_setRow HBW4.out hgN _;clear hτ hO hg hW K0 K3 HS;simp only[overs,List.foldl_cons,List.foldl_nil,Act.put,List.setIfInBounds_toArray,List.set_cons_zero,List.set_cons_succ];obtain⟨x,rfl,hx⟩:=hA;obtain⟨y,rfl,hy⟩:=hBB;have hx8:(x:Int)<8:=by omega
    have hy8:(y:Int)<8:=by omega
    have u1:=below_cell hB5 g1;have u2:=below_cell hB5 g2;have u3:(W4.setRow g (ofCells (clsOf d n))).cell? ⟨g,x,none⟩=some (.int .i64 (clsOf d n x:Nat)):=by rw[hg2.cell,of_at,if_pos zO]
    have u4:(W4.setRow g (ofCells (clsOf d n))).cell? ⟨g,y,none⟩=some (.int .i64 (clsOf d n y:Nat)):=by rw[hg2.cell,of_at,if_pos zO]
    have HB5:=zh hB5;clear hg2 hB5 g1 g2;generalize (W4.setRow g (ofCells (clsOf d n)))=W5 at *
    go_wp2_with (first
     |(refine wpList_store_box rfl 230 _ _ rfl rfl rfl hst ?_))
    go_quiet (fail)
    go_wp2_with fail
    go_ret
    exact⟨ret_bool (by simp only[sameB,HH1.out,HH2.out,HH3.out];simp[beq_int]),below_drewN ((hB2.trans (HBW.out.mono hB2.size)).trans (HB5.out.mono (by have:=hB2.size;have:=HBW.out.size;omega))) _⟩
   ·have h3i:((many.length:Int)==0)=false:=by simp;exact fun e=>h3 (by simp[e])
    have HH3:=zh h3;clear h3
    go_enter Tryz.func233,Tryz.ntmps233
    go_upto_region 1 with fail
    simp only[HW.out];refine wp_region_heldB 35 [] zK zK zK zS ?_;intro S hS;have k0:∀W,S W→W.cell? ⟨w.heap.size,1,none⟩=some (.int .i64 A)∧W.cell? ⟨w.heap.size,2,none⟩=some (.int .i64 B)∧W.cell? ⟨w.heap.size,3,none⟩=some (.slice ma many.length mc)∧W.cell? ⟨nb,0,none⟩=some (.pointer (some ⟨bb,0,none⟩))∧W.cell? ⟨bb,3,none⟩=some (.slice pa n pc):=fun W h=>⟨below_cell (hS W h) f1,below_cell (hS W h) f2,below_cell (hS W h) f3,below_cell (hS W h) f4,below_cell (hS W h) f5⟩
    have K0:=zh k0;have HS:=zh hS;clear k0 hS f1 f2 f3 f4 f5;simp only[pT]
    repeat (first
     |refine xN ?_
     |refine xV K0 ?_
     |(refine held_skip rfl (by rfl) ?_ ?_;(· (intro W hW;obtain⟨q0,q1,q2,q3,q4⟩:=K0.out W hW;go_simp;try with_reducible rfl));try simp only[pZ])
     |(refine xC (fun W hW=>in_held HH1.out W) ?_ ?_;(· (intro W hW;go_simp;done)))
     |(refine xC (fun W hW=>in_held HH2.out W) ?_ ?_;(· (intro W hW;go_simp;done))))
    refine held_nil ?_;intro τ hτ W hW hO;obtain rfl:=laid0 hτ;have HBW:=zh (HS.out W hW);clear hτ hO hW K0 HS;simp only[overs,List.foldl_nil]
    go_wp2_with fail
    go_ret
    exact⟨ret_bool (by simp only[sameB,HH1.out,HH2.out];simp;intro e;exact absurd (by simp[e]) HH3.out),hB2.trans (HBW.out.mono hB2.size)⟩
theorem same_in {d:Nat→Nat→Nat}{n:Nat}{A B:Int}{many:List Int}(h:sameB d n A B many=true):(∃x:Nat,A=(x:Int)∧x<n)∧(∃y:Nat,B=(y:Int)∧y<n)∧many.length=0:=by
 simp[sameB,inB] at h
 refine⟨⟨A.toNat,zO,zO⟩,⟨B.toNat,zO,zO⟩,by simp[h.1.2]⟩
def clashesB (c:Cs)(d:Nat→Nat→Nat)(n:Nat)(A B:Int)(many:List Int):Bool:=sameB d n A B many&&clashB c A.toNat B.toNat
def partedB (d:Nat→Nat→Nat)(n:Nat)(A B:Int)(many:List Int):Bool:=sameB d n A B many&&apartB d A.toNat B.toNat
theorem clashes_any (c:Cs)(n:Nat)(hn:c.parts.length=n)(hn8:n≤8)(pa:Option Addr)(pc:Nat)(d:Nat→Nat→Nat)(hd:∀a b,d a b≤3)(bb nb:Nat)(w:World)
 (hN:NodeAt c pa pc d bb nb w) (k:Nat) (A B:Int) (many:List Int) (ma:Option Addr) (mc:Nat):
 Calls Tryz.prog 228 #[.pointer (some ⟨nb,0,none⟩),.agg #[.int .u8 k,.int .i64 A,.int .i64 B,.slice ma many.length mc]] w fun e w'=>e = .returned (.bool (clashesB c d n A B many))∧Below w.heap.size w w':=by
 obtain⟨w2,hw2⟩:=zx (w.alloc (.cells #[.int .u8 k,.int .i64 A,.int .i64 B,.slice ma many.length mc] 99));have hB2:Below w.heap.size w w2:=by rw[←hw2];go_grown
 have b1:Box w2 w.heap.size #[.int .u8 k,.int .i64 A,.int .i64 B,.slice ma many.length mc] 99:=by rw[←hw2];exact Box.new _ _ _
 have hN2:=hN.below hB2;have f0:w2.cell? ⟨w.heap.size,0,none⟩=some (.int .u8 k):=by rw[b1.cell];rfl
 have f1:w2.cell? ⟨w.heap.size,1,none⟩=some (.int .i64 A):=by rw[b1.cell];rfl
 have f2:w2.cell? ⟨w.heap.size,2,none⟩=some (.int .i64 B):=by rw[b1.cell];rfl
 have f3:w2.cell? ⟨w.heap.size,3,none⟩=some (.slice ma many.length mc):=by rw[b1.cell];rfl
 have f4:=node_ptr hN2.node;have hs:=fun W hb=>same_any c n hn hn8 pa pc d hd bb nb W (hN2.below (W':=W) hb) k A B many ma mc
 have HS1:=zh hs;have HW:=zh hw2;clear hw2 b1 hs
 rcases h1:sameB d n A B many with _|_
 ·have HH1:=zh h1;clear h1
  go_enter Tryz.func228,Tryz.ntmps228
  go_upto_region 1 with fail
  simp only[HW.out];refine wp_region_heldB 15 [] zK zK zK zS ?_;intro S hS;have k0:∀W,S W→W.cell? ⟨w.heap.size,0,none⟩=some (.int .u8 k)∧W.cell? ⟨w.heap.size,1,none⟩=some (.int .i64 A)∧W.cell? ⟨w.heap.size,2,none⟩=some (.int .i64 B)∧W.cell? ⟨w.heap.size,3,none⟩=some (.slice ma many.length mc)∧W.cell? ⟨nb,0,none⟩=some (.pointer (some ⟨bb,0,none⟩)):=fun W h=>⟨below_cell (hS W h) f0,below_cell (hS W h) f1,below_cell (hS W h) f2,below_cell (hS W h) f3,below_cell (hS W h) f4⟩
  have K0:=zh k0;have HS:=zh hS;clear k0 hS f0 f1 f2 f3 f4;simp only[pT]
  repeat (first
   |refine xN ?_
   |refine xV K0 ?_
   |(refine held_skip rfl (by rfl) ?_ ?_;(· (intro W hW;obtain⟨q0,q1,q2,q3,q4⟩:=K0.out W hW;go_simp;try with_reducible rfl));try simp only[pZ])
   |(refine xC (v:=.bool false) (f:=233) (args:=#[.pointer (some ⟨nb,0,none⟩),.agg #[.int .u8 k,.int .i64 A,.int .i64 B,.slice ma many.length mc]]) (fun W hW=>HH1.out▸HS1.out W (HS.out W hW)) ?_ ?_;(· (intro W hW;go_simp;done))))
  refine held_nil ?_;intro τ hτ W hW hO;obtain rfl:=laid0 hτ;have HBW:=zh (HS.out W hW);clear hτ hO hW K0 HS;simp only[overs,List.foldl_nil]
  go_wp2_with fail
  go_ret
  exact⟨ret_bool (by simp[clashesB,HH1.out]),hB2.trans (HBW.out.mono hB2.size)⟩
 ·obtain⟨⟨x,rfl,hx⟩,⟨y,rfl,hy⟩,hm0⟩:=same_in h1;clear hm0;have HH1:=zh h1;clear h1;have hcl:=fun W hb=>clash_any c zO bb x y pa pc W (hN2.below (W':=W) hb).ben (hN2.below (W':=W) hb).parts zO zO
  have HCL:=zh hcl;clear hcl
  go_enter Tryz.func228,Tryz.ntmps228
  go_upto_region 1 with fail
  simp only[HW.out];refine wp_region_heldB 15 [] zK zK zK zS ?_;intro S hS;have k0:∀W,S W→W.cell? ⟨w.heap.size,0,none⟩=some (.int .u8 k)∧W.cell? ⟨w.heap.size,1,none⟩=some (.int .i64 x)∧W.cell? ⟨w.heap.size,2,none⟩=some (.int .i64 y)∧W.cell? ⟨w.heap.size,3,none⟩=some (.slice ma many.length mc)∧W.cell? ⟨nb,0,none⟩=some (.pointer (some ⟨bb,0,none⟩)):=fun W h=>⟨below_cell (hS W h) f0,below_cell (hS W h) f1,below_cell (hS W h) f2,below_cell (hS W h) f3,below_cell (hS W h) f4⟩
  have K0:=zh k0;have HS:=zh hS;clear k0 hS f0 f1 f2 f3 f4;simp only[pT]
  repeat (first
   |refine xN ?_
   |refine xV K0 ?_
   |(refine held_skip rfl (by rfl) ?_ ?_;(· (intro W hW;obtain⟨q0,q1,q2,q3,q4⟩:=K0.out W hW;go_simp;try with_reducible rfl));try simp only[pZ])
   |(refine xC (v:=.bool true) (f:=233) (args:=#[.pointer (some ⟨nb,0,none⟩),.agg #[.int .u8 k,.int .i64 x,.int .i64 y,.slice ma many.length mc]]) (fun W hW=>HH1.out▸HS1.out W (HS.out W hW)) ?_ ?_;(· (intro W hW;go_simp;done)))
   |(refine xC (fun W hW=>HCL.out W (HS.out W hW)) ?_ ?_;(· (intro W hW;go_simp;done))))
  refine held_nil ?_;intro τ hτ W hW hO;obtain rfl:=laid0 hτ;have HBW:=zh (HS.out W hW);clear hτ hO hW K0 HS;simp only[overs,List.foldl_nil]
  go_wp2_with fail
  go_ret
  exact⟨ret_bool (by simp only[clashesB,HH1.out];rfl),hB2.trans (HBW.out.mono hB2.size)⟩
theorem parted_any (c:Cs)(n:Nat)(hn:c.parts.length=n)(hn8:n≤8)(pa:Option Addr)(pc:Nat)(d:Nat→Nat→Nat)(hd:∀a b,d a b≤3)(bb nb:Nat)(w:World)
 (hN:NodeAt c pa pc d bb nb w) (k:Nat) (A B:Int) (many:List Int) (ma:Option Addr) (mc:Nat):
 Calls Tryz.prog 229 #[.pointer (some ⟨nb,0,none⟩),.agg #[.int .u8 k,.int .i64 A,.int .i64 B,.slice ma many.length mc]] w fun e w'=>e = .returned (.bool (partedB d n A B many))∧Below w.heap.size w w':=by
 obtain⟨w2,hw2⟩:=zx (w.alloc (.cells #[.int .u8 k,.int .i64 A,.int .i64 B,.slice ma many.length mc] 99));have hB2:Below w.heap.size w w2:=by rw[←hw2];go_grown
 have b1:Box w2 w.heap.size #[.int .u8 k,.int .i64 A,.int .i64 B,.slice ma many.length mc] 99:=by rw[←hw2];exact Box.new _ _ _
 have hN2:=hN.below hB2;have f0:w2.cell? ⟨w.heap.size,0,none⟩=some (.int .u8 k):=by rw[b1.cell];rfl
 have f1:w2.cell? ⟨w.heap.size,1,none⟩=some (.int .i64 A):=by rw[b1.cell];rfl
 have f2:w2.cell? ⟨w.heap.size,2,none⟩=some (.int .i64 B):=by rw[b1.cell];rfl
 have f3:w2.cell? ⟨w.heap.size,3,none⟩=some (.slice ma many.length mc):=by rw[b1.cell];rfl
 have f4:=node_ptr hN2.node;have hs:=fun W hb=>same_any c n hn hn8 pa pc d hd bb nb W (hN2.below (W':=W) hb) k A B many ma mc
 have HS1:=zh hs;have HW:=zh hw2;clear hw2 b1 hs
 rcases h1:sameB d n A B many with _|_
 ·have HH1:=zh h1;clear h1
  go_enter Tryz.func229,Tryz.ntmps229
  go_upto_region 1 with fail
  simp only[HW.out];refine wp_region_heldB 18 [] zK zK zK zS ?_;intro S hS;have k0:∀W,S W→W.cell? ⟨w.heap.size,0,none⟩=some (.int .u8 k)∧W.cell? ⟨w.heap.size,1,none⟩=some (.int .i64 A)∧W.cell? ⟨w.heap.size,2,none⟩=some (.int .i64 B)∧W.cell? ⟨w.heap.size,3,none⟩=some (.slice ma many.length mc)∧W.cell? ⟨nb,0,none⟩=some (.pointer (some ⟨bb,0,none⟩)):=fun W h=>⟨below_cell (hS W h) f0,below_cell (hS W h) f1,below_cell (hS W h) f2,below_cell (hS W h) f3,below_cell (hS W h) f4⟩
  have K0:=zh k0;have HS:=zh hS;clear k0 hS f0 f1 f2 f3 f4;simp only[pT]
  repeat (first
   |refine xN ?_
   |refine xV K0 ?_
   |(refine held_skip rfl (by rfl) ?_ ?_;(· (intro W hW;obtain⟨q0,q1,q2,q3,q4⟩:=K0.out W hW;go_simp;try with_reducible rfl));try simp only[pZ])
   |(refine xC (v:=.bool false) (f:=233) (args:=#[.pointer (some ⟨nb,0,none⟩),.agg #[.int .u8 k,.int .i64 A,.int .i64 B,.slice ma many.length mc]]) (fun W hW=>HH1.out▸HS1.out W (HS.out W hW)) ?_ ?_;(· (intro W hW;go_simp;done))))
  refine held_nil ?_;intro τ hτ W hW hO;obtain rfl:=laid0 hτ;have HBW:=zh (HS.out W hW);clear hτ hO hW K0 HS;simp only[overs,List.foldl_nil]
  go_wp2_with fail
  go_ret
  exact⟨ret_bool (by simp[partedB,HH1.out]),hB2.trans (HBW.out.mono hB2.size)⟩
 ·obtain⟨⟨x,rfl,hx⟩,⟨y,rfl,hy⟩,hm0⟩:=same_in h1;clear hm0;have HH1:=zh h1;clear h1;have f5:=node_pair hN2.node (x:=x) (y:=y) zO zO;have hx8:(x:Int)<8:=by omega
  have hy8:(y:Int)<8:=by omega
  have e3:=bits_and2 (hd x y);have e4:=apart_int (d:=d) (p:=x) (q:=y)
  go_enter Tryz.func229,Tryz.ntmps229
  go_upto_region 1 with fail
  simp only[HW.out];refine wp_region_heldB 18 [] zK zK zK zS ?_;intro S hS;have k0:∀W,S W→W.cell? ⟨w.heap.size,0,none⟩=some (.int .u8 k)∧W.cell? ⟨w.heap.size,1,none⟩=some (.int .i64 x)∧W.cell? ⟨w.heap.size,2,none⟩=some (.int .i64 y)∧W.cell? ⟨w.heap.size,3,none⟩=some (.slice ma many.length mc)∧W.cell? ⟨nb,0,none⟩=some (.pointer (some ⟨bb,0,none⟩))∧W.cell? ⟨nb,1+x*8+y,none⟩=some (.int .u8 (d x y:Nat)):=fun W h=>⟨below_cell (hS W h) f0,below_cell (hS W h) f1,below_cell (hS W h) f2,below_cell (hS W h) f3,below_cell (hS W h) f4,below_cell (hS W h) f5⟩
  have K0:=zh k0;have HS:=zh hS;clear k0 hS f0 f1 f2 f3 f4 f5;simp only[pT]
  repeat (first
   |refine xN ?_
   |refine xV K0 ?_
   |(refine held_skip rfl (by rfl) ?_ ?_;(· (intro W hW;obtain⟨q0,q1,q2,q3,q4,q5⟩:=K0.out W hW;go_simp;try with_reducible rfl));try simp only[pZ])
   |(refine xC (v:=.bool true) (f:=233) (args:=#[.pointer (some ⟨nb,0,none⟩),.agg #[.int .u8 k,.int .i64 x,.int .i64 y,.slice ma many.length mc]]) (fun W hW=>HH1.out▸HS1.out W (HS.out W hW)) ?_ ?_;(· (intro W hW;go_simp;done))))
  refine held_nil ?_;intro τ hτ W hW hO;obtain rfl:=laid0 hτ;have HBW:=zh (HS.out W hW);clear hτ hO hW K0 HS;simp only[overs,List.foldl_nil]
  go_wp2_with fail
  go_ret
  exact⟨ret_bool (by simp only[partedB,HH1.out];rfl),hB2.trans (HBW.out.mono hB2.size)⟩
def manyAt (c:Cs)(d:Nat→Nat→Nat)(n:Nat)(many:List Int)(i:Nat):Bool:=
 inB (many[i]?.getD 0) 0 ((n:Int)-1)&&(i==0||decide (many[i-1]?.getD 0<many[i]?.getD 0))&&upto i fun j=>oppB c d n (many[j]?.getD 0).toNat (many[i]?.getD 0).toNat
def manyHead (c:Cs)(A B:Int)(many:List Int):Bool:=!(A != 0) && !(B != 0) && !(c.limit==0) && !((many.length:Int) != c.limit+1)
def manyB (c:Cs)(d:Nat→Nat→Nat)(n:Nat)(A B:Int)(many:List Int):Bool:=manyHead c A B many&&upto many.length (manyAt c d n many)
theorem manyB_no {c:Cs}{d:Nat→Nat→Nat}{n:Nat}{A B:Int}{many:List Int}{i:Nat}(hi:i<many.length)(h:manyAt c d n many i=false):false=manyB c d n A B many:=by
 rw[manyB,upto_false hi h,Bool.and_false]
theorem manyB_yes {c:Cs}{d:Nat→Nat→Nat}{n:Nat}{A B:Int}{many:List Int}(hh:manyHead c A B many=true)(h:∀j,j<many.length→manyAt c d n many j=true):true=manyB c d n A B many:=by
 rw[manyB,upto_true h,hh];rfl
theorem many_nat {c:Cs}{d:Nat→Nat→Nat}{n:Nat}{many:List Int}{j:Nat}{y:Int}(h:manyAt c d n many j=true)(hy:many[j]?=some y):∃y':Nat,y=(y':Int)∧y'<n:=by
 simp only[manyAt,hy,Option.getD_some,Bool.and_eq_true] at h;have:=h.1.1
 simp[inB] at this
 exact⟨y.toNat,zO,zO⟩
theorem many_any (c:Cs)(n:Nat)(hn:c.parts.length=n)(hn8:n≤8)(hlim:0≤c.limit∧c.limit≤40)(pa:Option Addr)(pc:Nat)(d:Nat→Nat→Nat)(hd:∀a b,d a b≤3)(bb nb:Nat)(w:World)
 (hN:NodeAt c pa pc d bb nb w) (k:Nat) (A B:Int) (many:List Int) (ma:Option Addr) (mc:Nat) (hI:Ints w ma many) (hmc:many.length≤mc) (hml:many.length≤1000000):
 Calls Tryz.prog 230 #[.pointer (some ⟨nb,0,none⟩),.agg #[.int .u8 k,.int .i64 A,.int .i64 B,.slice ma many.length mc]] w fun e w'=>e = .returned (.bool (manyB c d n A B many))∧Below w.heap.size w w':=by
 obtain⟨hl0,hl1⟩:=hlim;obtain⟨w2,hw2⟩:=zx (w.alloc (.cells #[.int .u8 k,.int .i64 A,.int .i64 B,.slice ma many.length mc] 99));have hB2:Below w.heap.size w w2:=by rw[←hw2];go_grown
 have b1:Box w2 w.heap.size #[.int .u8 k,.int .i64 A,.int .i64 B,.slice ma many.length mc] 99:=by rw[←hw2];exact Box.new _ _ _
 have hN2:=hN.below hB2;have f1:w2.cell? ⟨w.heap.size,1,none⟩=some (.int .i64 A):=by rw[b1.cell];rfl
 have f2:w2.cell? ⟨w.heap.size,2,none⟩=some (.int .i64 B):=by rw[b1.cell];rfl
 have f3:w2.cell? ⟨w.heap.size,3,none⟩=some (.slice ma many.length mc):=by rw[b1.cell];rfl
 have f4:=node_ptr hN2.node;have f5:w2.cell? ⟨bb,1,none⟩=some (.int .i64 c.limit):=by rw[hN2.ben.cell];rfl
 have HF3:=zh f3;have hw1:IntKind.i64.wrap (c.limit+1)=c.limit+1:=IntWalk.i64_in _ zO;have HL:=zh hn;have HW:=zh hw2;clear hw2 b1 hn
 rcases h1:(A != 0) with _|_
 ·rcases h2:(B != 0) with _|_
  ·rcases h3:(c.limit==0) with _|_
   ·rcases h4:((many.length:Int) != c.limit+1) with _|_
    ·have HG:=zh (show manyHead c A B many=true by simp[manyHead,h1,h2,h3,h4])
     go_enter Tryz.func230,Tryz.ntmps230
     go_upto_region 1 with fail
     simp only[HW.out];refine wp_region_heldB 34 [] zK zK zK zS ?_;intro S hS;have k0:∀W,S W→W.cell? ⟨w.heap.size,1,none⟩=some (.int .i64 A)∧W.cell? ⟨w.heap.size,2,none⟩=some (.int .i64 B)∧W.cell? ⟨w.heap.size,3,none⟩=some (.slice ma many.length mc)∧W.cell? ⟨nb,0,none⟩=some (.pointer (some ⟨bb,0,none⟩))∧W.cell? ⟨bb,1,none⟩=some (.int .i64 c.limit):=fun W h=>⟨below_cell (hS W h) f1,below_cell (hS W h) f2,below_cell (hS W h) f3,below_cell (hS W h) f4,below_cell (hS W h) f5⟩
     have K0:=zh k0;have HS:=zh hS;clear k0 hS f1 f2 f3 f4 f5;simp only[pT]
     repeat (first
      |refine xN ?_
      |refine xV K0 ?_
      |(refine held_skip rfl (by rfl) ?_ ?_;(· (intro W hW;obtain⟨q0,q1,q2,q3,q4⟩:=K0.out W hW;go_simp;try with_reducible rfl));try simp only[pZ]))
     refine held_nil ?_;intro τ hτ W hW hO;obtain rfl:=laid0 hτ;have HBW:=zh (HS.out W hW);clear hτ hO hW K0 HS;simp only[overs,List.foldl_nil];have hB3:=hB2.trans (HBW.out.mono hB2.size);have hF:=And.intro (hN2.below HBW.out) (And.intro (hI.below hB3) (And.intro (below_cell HBW.out HF3.out) hB3));have HF:=zh hF;have fc:=hF.2.2.1;clear hF hB3 HF3
     go_wp2_with fail
     clear fc
     go_loopw [46] (fun i wr=>∃i':Nat,i'≤many.length∧i = .int .i64 i'∧(∀j,j<i'→manyAt c d n many j=true)∧NodeAt c pa pc d bb nb wr∧Ints wr ma many∧wr.cell? ⟨w.heap.size,3,none⟩=some (.slice ma many.length mc)∧Below w.heap.size w wr) (fun i _=>many.length-(intOf i).toNat)
     case atStart=>exact⟨0,Nat.zero_le _,rfl,fun j hj=>absurd hj (Nat.not_lt_zero j),HF.out.1,HF.out.2.1,HF.out.2.2.1,HF.out.2.2.2⟩
     case round=>
      clear HF HBW;obtain⟨i,hi,rfl,hall,hN,hI,hc3,hB⟩:=hrel;have HA:=zh hall;have HNN:=zh hN;have HII:=zh hI;have HBB:=zh hB
      by_cases hil:i<many.length
      ·have f4:=node_ptr hN.node;have f5:wr.cell? ⟨bb,3,none⟩=some (.slice pa n pc):=by rw[←HL.out,hN.ben.cell];rfl
       obtain⟨mb,mo,rfl,hcells⟩:=hI.base zO;obtain⟨x,hx⟩:=get_of_lt many hil;have q1:=hcells i x hx;have HX:=zh hx;have HCE:=zh hcells;have HMA:manyAt c d n many i=(inB x 0 ((n:Int)-1)&&(i==0||decide (many[i-1]?.getD 0<x))&&upto i fun j=>oppB c d n (many[j]?.getD 0).toNat x.toNat):=by simp only[manyAt,hx,Option.getD_some]
       have HM:=zh HMA;clear hall hN hI hB hx hcells HMA
       rcases h1:inB x 0 ((n:Int)-1) with _|_
       ·have H1:=zh (in_held h1);have HH1:=zh h1;clear h1
        go_wp2_with (go_at_call 188;refine(in_any _ _ _ _).mono ?_;rintro e w' ⟨rfl,rfl⟩;simp only[HH1.out])
        go_ret
        exact⟨ret_bool (manyB_no hil (by rw[HM.out,HH1.out];rfl)),HBB.out⟩
       ·obtain⟨x',rfl,hxn⟩:∃x':Nat,x=(x':Int)∧x'<n:=by
         simp[inB] at h1;exact⟨x.toNat,zO,zO⟩
        have HH1:=zh h1;clear h1
        by_cases hi0:i=0
        ·have hneg:¬(0<(i:Int)):=by omega
         have HI0:=zh hi0;clear hi0
         go_wp2_with (go_at_call 188;refine(in_any _ _ _ _).mono ?_;rintro e w' ⟨rfl,rfl⟩;simp only[HH1.out])
         go_loopw [83] (fun jv wr=>∃j:Nat,j≤i∧jv = .int .i64 j∧(∀j',j'<j→oppB c d n (many[j']?.getD 0).toNat x'=true)∧NodeAt c pa pc d bb nb wr∧Ints wr (some ⟨mb,mo,none⟩) many∧wr.cell? ⟨w.heap.size,3,none⟩=some (.slice (some ⟨mb,mo,none⟩) many.length mc)∧Below w.heap.size w wr) (fun jv _=>i-(intOf jv).toNat)
         case atStart=>exact⟨0,Nat.zero_le _,rfl,fun j hj=>absurd hj (Nat.not_lt_zero j),HNN.out,HII.out,hc3,HBB.out⟩
         case round=>
          clear HNN HII HBB hc3 q1;obtain⟨j,hj,rfl,hopp,hN,hI,hc3,hB⟩:=hrel;have HO:=zh hopp;have HNN:=zh hN;have HII:=zh hI;have HBB:=zh hB;have HC3:=zh hc3
          by_cases hjl:j<i
          ·obtain⟨mb',mo',hme,hcells⟩:=hI.base zO;cases hme;obtain⟨y,hy⟩:=get_of_lt many (k:=j) zO;have q1:=hcells j y hy;obtain⟨y',rfl,hyn⟩:=many_nat (HA.out j zO) hy;have hopc:=opposed_any c n HL.out hn8 pa pc d hd bb nb y' x' hyn hxn wr hN;have HOP:=zh hopc;have HY:=zh hy;clear hopp hN hI hB hc3 hcells hopc hy
           rcases ho:oppB c d n y' x' with _|_
           ·rw[ho] at HOP;have HO2:=zh ho;clear ho
            go_wp2_with (go_at_call 234;refine zM HOP ?_;rintro e w' ⟨rfl,hb⟩;have HB5:=zh hb;clear hb)
            go_ret
            exact⟨ret_bool (manyB_no hil (by rw[HM.out,upto_false hjl (by rw[HY.out];exact HO2.out),Bool.and_false])),HBB.out.trans (HB5.out.mono HBB.out.size)⟩
           ·rw[ho] at HOP;have HO2:=zh ho;clear ho
            go_wp2_with (go_at_call 234;refine zM HOP ?_;rintro e w' ⟨rfl,hb⟩;have HB5:=zh hb;clear hb)
            go_roundw
            case rel=>exact⟨j+1,zO,zN,all_step HO.out (by rw[HY.out];exact HO2.out),HNN.out.below HB5.out,HII.out.below HB5.out,below_cell HB5.out HC3.out,HBB.out.trans (HB5.out.mono HBB.out.size)⟩
            case measure=>exact zJ
          ·have e:j=i:=by omega
           clear hopp hN hI hB hc3;have HE:=zh e;clear e
           go_wp2_with fail
           go_roundw
           case rel=>exact⟨i+1,zO,zN,all_step HA.out (by rw[HM.out,HH1.out,Int.toNat_natCast,upto_true (HE.out▸HO.out),HI0.out];rfl),HNN.out,HII.out,HC3.out,HBB.out⟩
           case measure=>exact zJ
        ·have hpos:0<(i:Int):=by omega
         have hm1:((i:Int)-1).toNat=i-1:=by omega
         have hi0b:(i==0)=false:=by simp;omega
         have HI0:=zh hi0b;obtain⟨y0,hy0⟩:=get_of_lt many (k:=i-1) zO;have q2:=HCE.out (i-1) y0 hy0;have HY0:=zh hy0;have hmi:(i:Int)≤mc:=by omega
         clear hy0 hi0 hi0b
         by_cases hlt:y0<(x':Int)
         ·have HLT:=zh hlt;have hltb:decide ((x':Int)≤y0)=false:=by simp;omega
          clear hlt
          go_wp2_with (go_at_call 188;refine(in_any _ _ _ _).mono ?_;rintro e w' ⟨rfl,rfl⟩;simp only[HH1.out])
          go_loopw [83] (fun jv wr=>∃j:Nat,j≤i∧jv = .int .i64 j∧(∀j',j'<j→oppB c d n (many[j']?.getD 0).toNat x'=true)∧NodeAt c pa pc d bb nb wr∧Ints wr (some ⟨mb,mo,none⟩) many∧wr.cell? ⟨w.heap.size,3,none⟩=some (.slice (some ⟨mb,mo,none⟩) many.length mc)∧Below w.heap.size w wr) (fun jv _=>i-(intOf jv).toNat)
          case atStart=>exact⟨0,Nat.zero_le _,rfl,fun j hj=>absurd hj (Nat.not_lt_zero j),HNN.out,HII.out,hc3,HBB.out⟩
          case round=>
           clear HNN HII HBB hc3 q1 q2;obtain⟨j,hj,rfl,hopp,hN,hI,hc3,hB⟩:=hrel;have HO:=zh hopp;have HNN:=zh hN;have HII:=zh hI;have HBB:=zh hB;have HC3:=zh hc3
           by_cases hjl:j<i
           ·obtain⟨mb',mo',hme,hcells⟩:=hI.base zO;cases hme;obtain⟨y,hy⟩:=get_of_lt many (k:=j) zO;have q1:=hcells j y hy;obtain⟨y',rfl,hyn⟩:=many_nat (HA.out j zO) hy;have hopc:=opposed_any c n HL.out hn8 pa pc d hd bb nb y' x' hyn hxn wr hN;have HOP:=zh hopc;have HY:=zh hy;clear hopp hN hI hB hc3 hcells hopc hy
            rcases ho:oppB c d n y' x' with _|_
            ·rw[ho] at HOP;have HO2:=zh ho;clear ho
             go_wp2_with (go_at_call 234;refine zM HOP ?_;rintro e w' ⟨rfl,hb⟩;have HB5:=zh hb;clear hb)
             go_ret
             exact⟨ret_bool (manyB_no hil (by rw[HM.out,upto_false hjl (by rw[HY.out];exact HO2.out),Bool.and_false])),HBB.out.trans (HB5.out.mono HBB.out.size)⟩
            ·rw[ho] at HOP;have HO2:=zh ho;clear ho
             go_wp2_with (go_at_call 234;refine zM HOP ?_;rintro e w' ⟨rfl,hb⟩;have HB5:=zh hb;clear hb)
             go_roundw
             case rel=>exact⟨j+1,zO,zN,all_step HO.out (by rw[HY.out];exact HO2.out),HNN.out.below HB5.out,HII.out.below HB5.out,below_cell HB5.out HC3.out,HBB.out.trans (HB5.out.mono HBB.out.size)⟩
             case measure=>exact zJ
           ·have e:j=i:=by omega
            clear hopp hN hI hB hc3;have HE:=zh e;clear e
            go_wp2_with fail
            go_roundw
            case rel=>exact⟨i+1,zO,zN,all_step HA.out (by rw[HM.out,HH1.out,Int.toNat_natCast,upto_true (HE.out▸HO.out),show decide (many[i-1]?.getD 0<(x':Int))=true by simp[HY0.out,HLT.out]];simp),HNN.out,HII.out,HC3.out,HBB.out⟩
            case measure=>exact zJ
         ·have HLT:=zh hlt;have hltb:decide ((x':Int)≤y0)=true:=by simp;omega
          clear hlt
          go_wp2_with (go_at_call 188;refine(in_any _ _ _ _).mono ?_;rintro e w' ⟨rfl,rfl⟩;simp only[HH1.out])
          go_ret
          exact⟨ret_bool (manyB_no hil (by rw[HM.out,HI0.out,show decide (many[i-1]?.getD 0<(x':Int))=false by simp[HY0.out,HLT.out]];simp)),HBB.out⟩
      ·have e:i=many.length:=by omega
       clear hall hN hI hB hc3
       go_wp2_with fail
       go_ret
       exact⟨ret_bool (manyB_yes HG.out (fun j hj=>HA.out j zO)),HBB.out⟩
    ·have HG:=zh (show manyHead c A B many=false by simp[manyHead,h4])
     go_enter Tryz.func230,Tryz.ntmps230
     go_upto_region 1 with fail
     simp only[HW.out];refine wp_region_heldB 34 [] zK zK zK zS ?_;intro S hS;have k0:∀W,S W→W.cell? ⟨w.heap.size,1,none⟩=some (.int .i64 A)∧W.cell? ⟨w.heap.size,2,none⟩=some (.int .i64 B)∧W.cell? ⟨w.heap.size,3,none⟩=some (.slice ma many.length mc)∧W.cell? ⟨nb,0,none⟩=some (.pointer (some ⟨bb,0,none⟩))∧W.cell? ⟨bb,1,none⟩=some (.int .i64 c.limit):=fun W h=>⟨below_cell (hS W h) f1,below_cell (hS W h) f2,below_cell (hS W h) f3,below_cell (hS W h) f4,below_cell (hS W h) f5⟩
     have K0:=zh k0;have HS:=zh hS;clear k0 hS f1 f2 f3 f4 f5;simp only[pT]
     repeat (first
      |refine xN ?_
      |refine xV K0 ?_
      |(refine held_skip rfl (by rfl) ?_ ?_;(· (intro W hW;obtain⟨q0,q1,q2,q3,q4⟩:=K0.out W hW;go_simp;try with_reducible rfl));try simp only[pZ]))
     refine held_nil ?_;intro τ hτ W hW hO;obtain rfl:=laid0 hτ;have HBW:=zh (HS.out W hW);clear hτ hO hW K0 HS;simp only[overs,List.foldl_nil];clear HF3
     go_wp2_with fail
     go_ret
     exact⟨ret_bool (by simp[manyB,HG.out]),hB2.trans (HBW.out.mono hB2.size)⟩
   ·have HG:=zh (show manyHead c A B many=false by simp[manyHead,h3])
    go_enter Tryz.func230,Tryz.ntmps230
    go_upto_region 1 with fail
    simp only[HW.out];refine wp_region_heldB 34 [] zK zK zK zS ?_;intro S hS;have k0:∀W,S W→W.cell? ⟨w.heap.size,1,none⟩=some (.int .i64 A)∧W.cell? ⟨w.heap.size,2,none⟩=some (.int .i64 B)∧W.cell? ⟨w.heap.size,3,none⟩=some (.slice ma many.length mc)∧W.cell? ⟨nb,0,none⟩=some (.pointer (some ⟨bb,0,none⟩))∧W.cell? ⟨bb,1,none⟩=some (.int .i64 c.limit):=fun W h=>⟨below_cell (hS W h) f1,below_cell (hS W h) f2,below_cell (hS W h) f3,below_cell (hS W h) f4,below_cell (hS W h) f5⟩
    have K0:=zh k0;have HS:=zh hS;clear k0 hS f1 f2 f3 f4 f5;simp only[pT]
    repeat (first
     |refine xN ?_
     |refine xV K0 ?_
     |(refine held_skip rfl (by rfl) ?_ ?_;(· (intro W hW;obtain⟨q0,q1,q2,q3,q4⟩:=K0.out W hW;go_simp;try with_reducible rfl));try simp only[pZ]))
    refine held_nil ?_;intro τ hτ W hW hO;obtain rfl:=laid0 hτ;have HBW:=zh (HS.out W hW);clear hτ hO hW K0 HS;simp only[overs,List.foldl_nil];clear HF3
    go_wp2_with fail
    go_ret
    exact⟨ret_bool (by simp[manyB,HG.out]),hB2.trans (HBW.out.mono hB2.size)⟩
  ·have HG:=zh (show manyHead c A B many=false by simp[manyHead,h2])
   go_enter Tryz.func230,Tryz.ntmps230
   go_upto_region 1 with fail
   simp only[HW.out];refine wp_region_heldB 34 [] zK zK zK zS ?_;intro S hS;have k0:∀W,S W→W.cell? ⟨w.heap.size,1,none⟩=some (.int .i64 A)∧W.cell? ⟨w.heap.size,2,none⟩=some (.int .i64 B)∧W.cell? ⟨w.heap.size,3,none⟩=some (.slice ma many.length mc)∧W.cell? ⟨nb,0,none⟩=some (.pointer (some ⟨bb,0,none⟩))∧W.cell? ⟨bb,1,none⟩=some (.int .i64 c.limit):=fun W h=>⟨below_cell (hS W h) f1,below_cell (hS W h) f2,below_cell (hS W h) f3,below_cell (hS W h) f4,below_cell (hS W h) f5⟩
   have K0:=zh k0;have HS:=zh hS;clear k0 hS f1 f2 f3 f4 f5;simp only[pT]
   repeat (first
    |refine xN ?_
    |refine xV K0 ?_
    |(refine held_skip rfl (by rfl) ?_ ?_;(· (intro W hW;obtain⟨q0,q1,q2,q3,q4⟩:=K0.out W hW;go_simp;try with_reducible rfl));try simp only[pZ]))
   refine held_nil ?_;intro τ hτ W hW hO;obtain rfl:=laid0 hτ;have HBW:=zh (HS.out W hW);clear hτ hO hW K0 HS;simp only[overs,List.foldl_nil];clear HF3
   go_wp2_with fail
   go_ret
   exact⟨ret_bool (by simp[manyB,HG.out]),hB2.trans (HBW.out.mono hB2.size)⟩
 ·have HG:=zh (show manyHead c A B many=false by simp[manyHead,h1])
  go_enter Tryz.func230,Tryz.ntmps230
  go_upto_region 1 with fail
  simp only[HW.out];refine wp_region_heldB 34 [] zK zK zK zS ?_;intro S hS;have k0:∀W,S W→W.cell? ⟨w.heap.size,1,none⟩=some (.int .i64 A)∧W.cell? ⟨w.heap.size,2,none⟩=some (.int .i64 B)∧W.cell? ⟨w.heap.size,3,none⟩=some (.slice ma many.length mc)∧W.cell? ⟨nb,0,none⟩=some (.pointer (some ⟨bb,0,none⟩))∧W.cell? ⟨bb,1,none⟩=some (.int .i64 c.limit):=fun W h=>⟨below_cell (hS W h) f1,below_cell (hS W h) f2,below_cell (hS W h) f3,below_cell (hS W h) f4,below_cell (hS W h) f5⟩
  have K0:=zh k0;have HS:=zh hS;clear k0 hS f1 f2 f3 f4 f5;simp only[pT]
  repeat (first
   |refine xN ?_
   |refine xV K0 ?_
   |(refine held_skip rfl (by rfl) ?_ ?_;(· (intro W hW;obtain⟨q0,q1,q2,q3,q4⟩:=K0.out W hW;go_simp;try with_reducible rfl));try simp only[pZ]))
  refine held_nil ?_;intro τ hτ W hW hO;obtain rfl:=laid0 hτ;have HBW:=zh (HS.out W hW);clear hτ hO hW K0 HS;simp only[overs,List.foldl_nil];clear HF3
  go_wp2_with fail
  go_ret
  exact⟨ret_bool (by simp[manyB,HG.out]),hB2.trans (HBW.out.mono hB2.size)⟩
end
