/- Walks and plain laws. No condition. -/
import Derived.Test.YtjgldeeianionaaGreatV26
set_option maxHeartbeats 2000000
set_option maxRecDepth 100000
set_option linter.unusedSimpArgs false
set_option linter.unusedVariables false
namespace Go.Proofs.YtjgldeeianionaaGreat
open Go.RowKit
section
attribute [local go_sem] Oper.semAt_some
def PairFn (K:Nat)(caps:Array Value)(Z:Nat→Prop)(w0:World)(p:Nat×Nat→Bool):Prop:=
 (∀args W,(callFunc K args).run Tryz.prog W = .ok (.enter K args) W)∧∀W (x:Nat×Nat),Keep Z w0 W →
  Calls Tryz.prog K (#[.agg #[.int .i64 (x.1:Int),.int .i64 (x.2:Int)]]++caps) W fun e W'=>e = .returned (.bool (p x))∧Below W.heap.size W W'
theorem indexFnPair_any {K:Nat}{caps:Array Value}{w0:World}{Z:Nat→Prop}{p:Nat×Nat→Bool}(hf:PairFn K caps Z w0 p)(a:Option Addr)(c:Nat)(L:List (Nat×Nat))(w:World)(hw:Keep Z w0 w)(h:PairsAt w a L)(hl:L.length≤100000):
 Calls Tryz.prog 155 #[.slice a L.length c,.func (.func K) #[] caps] w fun e w'=>e = .returned (.int .i64 (idxZ p L))∧Below w.heap.size w w':=by
 have hent:=hf.1;have HF:=zh hf.2;have HW:=zh hw;clear hf hw
 go_enter Tryz.func155,Tryz.ntmps155
 go_wp2
 go_loopw [8] (fun i wr=>∃k:Nat,k≤L.length∧i = .int .i64 k∧(∀x∈L.take k,p x=false)∧Below w.heap.size w wr) (fun i _=>L.length-(intOf i).toNat)
 case atStart=>exact⟨0,Nat.zero_le _,rfl,by simp,Below.refl _ _⟩
 case round=>
  obtain⟨k,hk,rfl,hall,hb⟩:=hrel;have HA:=zh hall;have HB:=zh hb;clear hall hb
  by_cases hlt:k<L.length
  ·obtain⟨x,hx⟩:=get_of_lt L hlt;obtain⟨b,o,rfl,c1,c2⟩:=(PairsAt.below h HB.out).at_ hx;have hcl:=HF.out wr x (HW.out.trans (Keep.of_below' (HB.out.mono (Nat.le_refl _))));have hkn:(k:Int)<(L.length:Int):=by omega
   have HCL:=zh hcl;have HX:=zh hx;clear hx hcl
   rcases hp:p x with _|_
   ·have HP:=zh hp;rw[hp] at HCL;clear hp
    go_wp2_with fail
    refine zM HCL ?_;rintro e w2 ⟨rfl,hb2⟩;have HB2:=zh (HB.out.trans (hb2.mono HB.out.size));clear hb2 c1 c2
    go_wp2_with fail
    go_roundw
    case rel=>
     refine⟨k+1,zO,zN,fun y hy=>?_,HB2.out⟩;rw[List.take_add_one,HX.out] at hy;simp at hy
     rcases hy with hy|rfl
     ·exact HA.out y hy
     ·exact HP.out
    case measure=>exact zJ
   ·have HP:=zh hp;rw[hp] at HCL;clear hp
    go_wp2_with fail
    refine zM HCL ?_;rintro e w2 ⟨rfl,hb2⟩;have HB2:=zh (HB.out.trans (hb2.mono HB.out.size));clear hb2 c1 c2
    go_wp2_with fail
    go_ret
    exact⟨by rw[idxZ_at HX.out HP.out HA.out];rfl,HB2.out⟩
  ·go_wp2_with fail
   go_ret
   exact⟨by rw[idxZ_no (fun x hx=>HA.out x (by rw[List.take_of_length_le zO];exact hx))];rfl,HB.out⟩
theorem zero_pair:∀w,(zeroValue 57).run Tryz.prog w = .ok (.agg #[.int .i64 0,.int .i64 0]) w:=fun w=>by go_simp
theorem clear_pairs (w:World)(b o n c:Nat)(hn:0<n)(hc:∀j,j<n*2→(w.cell? ⟨b,o+j,none⟩).isSome=true)(hf:∀j,j<n*2→w.frozen? ⟨b,o+j,none⟩=false):
 ∃vs,∀ty,(Builtin.clear_ #[35] ty #[.slice (some ⟨b,o,none⟩) n c]).run Tryz.prog w = .ok (.tuple #[]) (w.setCells b o vs):=by
 have hlen:(Builtin.zeroCells #[.int .i64 0,.int .i64 0] n).toList.length=n*2:=by simp[Builtin.zeroCells]
 have hst:=run_storeCells_cells (P:=Tryz.prog) b o (Builtin.zeroCells #[.int .i64 0,.int .i64 0] n).toList 0 w (by rw[hlen];simpa using hc) (by rw[hlen];simpa using hf) (by
  intro v hv;simp only[Builtin.zeroCells,Array.mem_toList_iff,Array.mem_map] at hv;obtain⟨i,_,rfl⟩:=hv
  rcases Nat.mod_two_eq_zero_or_one i with h|h<;>simp[h]<;>rfl)
 simp only[Nat.add_zero] at hst;refine⟨(Builtin.zeroCells #[.int .i64 0,.int .i64 0] n).toList,fun ty=>?_⟩;obtain⟨m,rfl⟩:∃m,n=m+1:=⟨n-1,zO⟩
 have hzc:(Value.agg #[.int .i64 0,.int .i64 0]).cells = #[.int .i64 0,.int .i64 0]:=rfl
 simp[Builtin.clear_,run_underlying Tryz.underlying35,zero_pair,hzc,hst]
theorem info_pair2:(Tryz.prog.info? 57).map (·.size)=some 2:=zK
theorem run_store_pair {W:World}{g o:Nat}(x y:Int)(ht:W.there g o 2):
 (Instr.storeAt 57 (.pointer (some ⟨g,o,none⟩)) (.agg #[.int .i64 x,.int .i64 y])).run Tryz.prog W = .ok () (W.setCells g o [.int .i64 x,.int .i64 y]):=
 run_storeAt_mid (P:=Tryz.prog) W g o 57 #[.int .i64 x,.int .i64 y] ht info_pair2 (by simp[Value.oneCell'])
theorem RowOwn.pair {B:Nat}{w:World}{a:Option Addr}{l:List (Nat×Nat)}(h:RowOwn B w a (pairCells l)){k:Nat}{x:Nat×Nat}(hx:l[k]?=some x):∃b o,a=some ⟨b,o,none⟩∧B≤b∧w.cell? ⟨b,o+k*2,none⟩=some (.int .i64 (x.1:Int))∧w.cell? ⟨b,o+k*2+1,none⟩=some (.int .i64 (x.2:Int))∧w.there b (o+k*2) 2:=by
 obtain⟨h1,h2⟩:=pairCells_at hx;obtain⟨b,o,e,hB,c1,f1⟩:=h _ _ h1;obtain⟨b',o',e',_,c2,f2⟩:=h _ _ h2;rw[e] at e';cases e';refine⟨b,o,e,hB,c1,by rw[Nat.add_assoc];exact c2,fun j hj=>?_⟩;obtain rfl|rfl:j=0∨j=1:=by omega
 ·exact⟨by rw[Nat.add_zero,c1];rfl,f1⟩
 ·exact⟨by rw[Nat.add_assoc,c2];rfl,by rw[Nat.add_assoc];exact f2⟩
theorem RowOwn.setPair {B:Nat}{w:World}{b o:Nat}{l:List (Nat×Nat)}(h:RowOwn B w (some ⟨b,o,none⟩) (pairCells l)){i:Nat}(x:Nat×Nat):RowOwn B (w.setCells b (o+i*2) [.int .i64 (x.1:Int),.int .i64 (x.2:Int)]) (some ⟨b,o,none⟩) (pairCells (l.set i x)):=by
 rw[←pairCells_set];exact(h.set (i:=i*2) (.int .i64 (x.1:Int))).set (i:=i*2+1) (.int .i64 (x.2:Int))
theorem deletePair_any {K:Nat}{caps:Array Value}{w0:World}{Z:Nat→Prop}{p:Nat×Nat→Bool}(hf:PairFn K caps Z w0 p){B:Nat}(a:Option Addr)(c:Nat)(L:List (Nat×Nat))(w:World)(hw:Keep Z w0 w)(h:RowOwn B w a (pairCells L))(hlc:L.length≤c)(hZ:∀b o,a=some ⟨b,o,none⟩→0<L.length→¬Z b)(hl:L.length≤100000):
 Calls Tryz.prog 72 #[.slice a L.length c,.func (.func K) #[] caps] w fun e w'=>∃a' c',e = .returned (.slice a' (L.filter fun x=>!p x).length c')∧RowOwn B w' a' (pairCells (L.filter fun x=>!p x))∧(L.filter fun x=>!p x).length≤c'∧∀Y:Nat→Prop,(∀b o,a=some ⟨b,o,none⟩→B≤b→¬Y b)→Keep Y w w':=by
 have hent:=hf.1;have HIX:=zh (indexFnPair_any hf a c L w hw h.row hl);have HRO:=zh h;have HF:=zh hf.2;have HW:=zh hw;clear hf hw h
 rcases first_or p L with hall|⟨k,x,hk,hx,hall⟩
 ·have HC1:=zh (idxZ_no hall);rw[HC1.out] at HIX;have HA:=zh (show(L.filter fun x=>!p x)=L from List.filter_eq_self.2 fun x hx=>by simp[hall x hx]);clear hall HC1
  go_enter Tryz.func72,Tryz.ntmps72
  go_wp2_with fail
  refine zM HIX ?_;rintro e w' ⟨rfl,hb⟩;have HB:=zh hb;clear hb
  go_wp2_with fail
  go_ret
  rw[HA.out];exact⟨a,c,rfl,HRO.out.below HB.out,hlc,fun Y _=>Keep.of_below' HB.out⟩
 ·have HC1:=zh (idxZ_at hk hx hall);rw[HC1.out] at HIX;have hkl:k<L.length:=(List.getElem?_eq_some_iff.1 hk).1;obtain⟨g,o,rfl,hbB,_⟩:=HRO.out.pair hk;have hZg:=hZ g o rfl zO;have HM:=zh (MovedG.start (f:=fun z:Nat×Nat=>!p z) hk (by simp[hx]) (fun y hy=>by simp[hall _ hy]));have hk1:((k:Int) == -1)=false:=by simp
  have hkw:IntKind.i64.wrap ((k:Int)+1)=(k:Int)+1:=IntWalk.i64_in _ zO;clear hk hx hall HC1 hZ
  go_enter Tryz.func72,Tryz.ntmps72
  go_wp2_with fail
  refine zM HIX ?_;rintro e w1 ⟨rfl,hb1⟩;have HB1:=zh hb1;clear hb1
  go_wp2_with fail
  go_loopw [5,6] (fun i j wr=>∃(m q:Nat) (cur:List (Nat×Nat)),i = .int .i64 m∧j = .int .i64 q∧MovedG (fun z:Nat×Nat=>!p z) L cur m q∧RowOwn B wr (some ⟨g,o,none⟩) (pairCells cur)∧Keep (fun k=>k≠g) w wr) (fun _ j _=>L.length-(intOf j).toNat)
  case atStart=>exact⟨k,k+1,L,rfl,by first|rfl|go_num,HM.out,HRO.out.below HB1.out,Keep.of_below' HB1.out⟩
  case round=>
   clear HM HB1 hkw;obtain⟨m,q,cur,rfl,rfl,hM,hR,hB⟩:=hrel;have hpq:=hM.lt;have hlen:=hM.len;have hle:=hM.le;have MM:=zh hM;have RR:=zh hR;have BB:=zh hB;clear hM hR hB
   by_cases hlt:q<L.length
   ·obtain⟨y,hy⟩:=get_of_lt L hlt;have hcy:=MM.out.at_ hy;obtain⟨b1,o1,e1,_,c1,c2,_⟩:=RR.out.pair hcy;cases e1;obtain⟨u,hu⟩:=get_of_lt cur (k:=m) zO;obtain⟨w3,hw3⟩:=zx (wr.alloc (.cells #[.int .i64 (y.1:Int),.int .i64 (y.2:Int)] 57));have hb3:Below wr.heap.size wr w3:=by rw[←hw3];go_grown
    have hg3:Box w3 wr.heap.size #[.int .i64 (y.1:Int),.int .i64 (y.2:Int)] 57:=by rw[←hw3];exact Box.new _ _ _
    have e3:=hg3.cell;have RR3:=zh (RR.out.below hb3);have BB3:=zh (BB.out.trans (Keep.of_below' hb3));have hcl:=HF.out w3 y (HW.out.trans (BB3.out.mono fun k hk e=>hZg (by rw[←e];exact hk)));have hqn:(q:Int)<(L.length:Int):=by omega
    have hmn:(m:Int)<(L.length:Int):=by omega
    have HY:=zh hy;have HU:=zh hu;have HCL:=zh hcl;have HG3:=zh hg3;have HW3:=zh hw3;clear hy hcy hu hcl hg3 hw3 hb3
    rcases hp:p y with _|_
    ·have HP:=zh hp;rw[hp] at HCL;clear hp
     go_upto_region 8 with fail
     simp only[HW3.out]
     go_wp2_with fail
     refine zM HCL ?_;rintro e w2 ⟨rfl,hb2⟩;have RR2:=zh (RR3.out.below hb2);have BB2:=zh (BB3.out.trans (Keep.of_below' hb2));have e4:=(HG3.out.below' hb2).cell;obtain⟨b1,o1,e1,_,_,_,ht⟩:=RR2.out.pair HU.out;cases e1;have hS:=run_store_pair (y.1:Int) (y.2:Int) ht;clear hb2 c1 c2 e3 ht
     go_wp2_with (refine wpList_store_box rfl 57 _ _ rfl rfl rfl hS ?_)
     go_roundw
     case rel=>
      exact⟨m+1,q+1,cur.set m y,zN,zN,MM.out.put HY.out (by simp[HP.out]),RR2.out.setPair y,keep_setCells (fun h=>h rfl) _ _ BB2.out⟩
     case measure=>exact zJ
    ·have HP:=zh hp;rw[hp] at HCL;clear hp
     go_upto_region 8 with fail
     simp only[HW3.out]
     go_wp2_with fail
     refine zM HCL ?_;rintro e w2 ⟨rfl,hb2⟩;have RR2:=zh (RR3.out.below hb2);have BB2:=zh (BB3.out.trans (Keep.of_below' hb2));clear hb2 c1 c2 e3
     go_wp2_with fail
     go_roundw
     case rel=>exact⟨m,q+1,cur,zN,zN,MM.out.pass HY.out (by simp[HP.out]),RR2.out,BB2.out⟩
     case measure=>exact zJ
   ·have hq:q=L.length:=by omega
    subst hq;obtain⟨vs,hcl⟩:=clear_pairs wr g (o+m*2) (L.length-m) (c-m) zO
     (fun j hj=>by
      obtain⟨v,hv⟩:=get_of_lt (pairCells cur) (k:=m*2+j) (by rw[pairCells_len];omega);obtain⟨b1,o1,e1,_,c2,f2⟩:=RR.out _ _ hv;cases e1;rw[Nat.add_assoc,c2];rfl)
     (fun j hj=>by
      obtain⟨v,hv⟩:=get_of_lt (pairCells cur) (k:=m*2+j) (by rw[pairCells_len];omega);obtain⟨b1,o1,e1,_,c2,f2⟩:=RR.out _ _ hv;cases e1;rw[Nat.add_assoc,f2])
    have hkS:Keep (fun k=>k≠g) w (wr.setCells g (o+m*2) vs):=keep_setCells (fun h=>h rfl) _ _ BB.out;have hcut:=RR.out.cut (p:=m*2) vs;rw[pairCells_take,MM.out.end_] at hcut;have HKS:=zh hkS;have HCT:=zh hcut;have HPL:=zh MM.out.plen;clear hkS hcut
    go_wp2_with fail
    go_ret
    refine⟨some ⟨g,o,none⟩,c,by rw[HPL.out];rfl,HCT.out,by rw[HPL.out];omega,fun Y hY=>HKS.out.mono fun k hk e=>hY g o rfl hbB (by rw[←e];exact hk)⟩
end
