/- Walks and plain laws. No condition. -/
import Derived.Sort.CutIn
import Derived.Test.YtjgldeeianionaaGreatV05
set_option maxHeartbeats 2000000
set_option maxRecDepth 100000
set_option linter.unusedSimpArgs false
set_option linter.unusedVariables false
namespace Go.Proofs.YtjgldeeianionaaGreat
open Go.RowKit
theorem asked_bad {c:Cs}{pa:Option Addr}{pc:Nat}{er:Int}{args:Array Value}{w:World}(h:Calls Tryz.prog 105 args w (AskedPost c pa pc er w))(he:er≠0):
 Calls Tryz.prog 105 args w fun e w'=>e = .returned (.tuple #[.pointer none,.agg zeroTab,.int .i64 er])∧Below w.heap.size w w':=
 h.mono (by
  rintro e w' ⟨hb,(⟨_,rfl⟩|⟨hz,_⟩)⟩
  ·exact⟨rfl,hb⟩
  ·exact absurd hz he)
theorem asked_good {c:Cs}{pa:Option Addr}{pc:Nat}{er:Int}{args:Array Value}{w:World}(h:Calls Tryz.prog 105 args w (AskedPost c pa pc er w))(he:er=0):
 Calls Tryz.prog 105 args w fun e w'=>∃bb,e = .returned (.tuple #[.pointer (some ⟨bb,0,none⟩),.agg (caseTab c),.int .i64 0])∧w.heap.size≤bb∧Box w' bb (csCells c pa pc) 219∧Below w.heap.size w w':=
 h.mono (by
  rintro e w' ⟨hb,(⟨hz,_⟩|⟨_,bb,rfl,h1,h2⟩)⟩
  ·exact absurd he hz
  ·exact⟨bb,rfl,h1,h2,hb⟩)
theorem ask_open {c:Cs}{ps:List Int}(h:askErr c ps=0):openErr c ps=0:=by
 unfold askErr at h
 split at h
 ·assumption
 ·exact h
def laid (w:World)(f g:Nat→Nat→Bool):World:=(w.alloc (.cells zeroTab 143)).setRow w.heap.size (tabCells f g)
theorem fresh_store (w:World)(f g:Nat→Nat→Bool):(Instr.storeAt 143 (.pointer (some ⟨w.heap.size,0,none⟩)) (.agg (tabCells f g))).run Tryz.prog (w.alloc (.cells Tryz.zeroCells143 143)) = .ok () (laid w f g):=by
 rw[zero_tab];exact run_store_row (Box.new w zeroTab 143) (tab_info _ _) ((tabCells_size _ _).trans (tabCells_size _ _).symm) (tab_one _ _)
theorem laid_box (w:World)(f g:Nat→Nat→Bool):Box (laid w f g) w.heap.size (tabCells f g) 143:=(Box.new w zeroTab 143).setRow_same
theorem laid_below (w:World)(f g:Nat→Nat→Bool):Below w.heap.size w (laid w f g):=below_setRow ((Below.refl _ w).alloc (Nat.le_refl _) _) (Nat.le_refl _) _
theorem laid_size (w:World)(f g:Nat→Nat→Bool):(laid w f g).heap.size=w.heap.size+1:=by unfold laid;rw[size_setRow];simp
theorem laid_load (w:World)(f g:Nat→Nat→Bool){W:World}(h:Below (w.heap.size+1) (laid w f g) W):(Instr.loadAt 143 (.pointer (some ⟨w.heap.size,0,none⟩))).run Tryz.prog W = .ok (.agg (tabCells f g)) W:=
 run_load_row ((laid_box w f g).below h zO) Tryz.underlying143 rfl (tab_info _ _)
def AnsPost (er a:Int)(w:World)(e:Ending)(w':World):Prop:=Below w.heap.size w w'∧e = .returned (.tuple #[.int .u8 (if er=0 then a else 0),.int .i64 er])
def ansAt (c:Cs)(x y:Nat):Int:=ansOf (togB c.parts.length (allR c) x y) (aptB c.parts.length (allR c) x y)
theorem answerTop_any (c:Cs)(hsm:c.Small)(pa:Option Addr)(pc:Nat)(x y:Int)(w:World)(hp:PartsAt w pa c.parts):
 Calls Tryz.prog 34 #[.agg #[.string c.ware,.int .i64 c.limit,.int .i64 c.by_,.slice pa c.parts.length pc],.int .i64 x,.int .i64 y] w
  (AnsPost (askErr c [x,y]) (ansAt c x.toNat y.toNat) w):=by
 obtain⟨w2,hw2⟩:=zx ((w.alloc (.cells #[.string c.ware,.int .i64 c.limit,.int .i64 c.by_,.slice pa c.parts.length pc] 24)));have hsz:w2.heap.size=w.heap.size+1:=by rw[←hw2];simp
 have hB2:Below w.heap.size w w2:=by rw[←hw2];go_grown
 have b0:Box w2 w.heap.size (csCells c pa pc) 24:=by rw[←hw2];exact(Box.new _ _ _)
 have e0:=zC (b0);have hB5:Below w.heap.size w (w2.alloc (.cells #[.int .i64 x,.int .i64 y] 3)):=hB2.alloc zO _;have ho:=asked_any c hsm pa pc [x,y] (some ⟨w2.heap.size,0,none⟩) 2 (w2.alloc (.cells #[.int .i64 x,.int .i64 y] 3)) (hp.below hB5) (pair_ints _ _ _ _) zS;simp only[List.length_cons,List.length_nil,Nat.zero_add,Nat.reduceAdd] at ho;rw[hsz] at ho;have HW:=zh hw2;clear hp b0 hw2
 by_cases hz:askErr c [x,y]=0
 ·have hoo:=asked_good ho hz;have h8:=check_small (ask_open hz);have hx:=open_in (ask_open hz) x zS;have hy:=open_in (ask_open hz) y zS;obtain⟨a,rfl⟩:=Int.eq_ofNat_of_zero_le hx.1;obtain⟨b,rfl⟩:=Int.eq_ofNat_of_zero_le hy.1;simp only[Int.toNat_natCast];have HO:=zh hoo;have HZ:=zh hz;clear ho hoo hz
  go_enter Tryz.func34,Tryz.ntmps34
  go_upto_region 1 with fail
  simp only[HW.out]
  go_wp2_with (first
   |(go_at_call 105;refine zM HO ?_;rintro e w3 ⟨bb,rfl,hbb,hbx,hb⟩;have HB:=zh hb;have hS:=fresh_store w3 (togB c.parts.length (allR c)) (aptB c.parts.length (allR c));have hL:=laid_load w3 (togB c.parts.length (allR c)) (aptB c.parts.length (allR c)) (Below.refl _ _);clear hb hbx)
   |(refine wpList_store_box rfl 143 _ _ rfl rfl rfl hS ?_)
   |(refine wpList_load_box rfl 143 _ rfl rfl hL ?_)
   |(go_at_call 106;(with_reducible refine(answer_any _ _ a b _ zO zO).mono ?_);rintro e w4 ⟨rfl,hb4⟩))
  go_ret2
  exact⟨(hB5.trans (HB.out.mono hB5.size)).trans (((laid_below w3 _ _).mono (by have:=HB.out.size;have:=hB5.size;omega)).trans (hb4.mono (by rw[laid_size];have:=HB.out.size;have:=hB5.size;omega))),by rw[HZ.out];rfl⟩
 ·have hoo:=asked_bad ho hz;have HO:=zh hoo;clear ho hoo;have hzz:(askErr c [x,y] != 0)=true:=by simpa using hz
  go_enter Tryz.func34,Tryz.ntmps34
  go_upto_region 1 with fail
  simp only[HW.out]
  go_wp2_with (first
   |(go_at_call 105;refine zM HO ?_;rintro e w3 ⟨rfl,hb⟩;have HB:=zh hb;have hS:=fresh_store w3 (fun _ _=>false) (fun _ _=>false);clear hb)
   |(refine wpList_store_box rfl 143 _ _ rfl rfl rfl hS ?_))
  go_ret2
  exact⟨(hB5.trans (HB.out.mono hB5.size)).trans ((laid_below w3 _ _).mono (by have:=HB.out.size;have:=hB5.size;omega)),by simp[hz]⟩
section
attribute [local go_sem] Oper.semAt_some
def rowTo (x y:Nat):List (Nat×Nat):=(List.range (y-(x+1))).map fun d=>(x,x+1+d)
def pairsTo (n x:Nat):List (Nat×Nat):=(List.range x).flatMap fun a=>rowTo a n
def pairsOf (n:Nat):List (Nat×Nat):=pairsTo n n
theorem rowTo_zero (x:Nat):rowTo x (x+1)=[]:=by simp[rowTo]
theorem rowTo_succ {x y:Nat}(h:x+1≤y):rowTo x (y+1)=rowTo x y++[(x,y)]:=by
 have e:y+1-(x+1)=(y-(x+1))+1:=by omega
 rw[rowTo,e,List.range_succ,List.map_append,rowTo]
 simp;omega
theorem rowTo_le {x y z:Nat}(h:x+1≤y)(hz:y≤z):rowTo x y <+: rowTo x z:=by
 obtain⟨d,rfl⟩:=Nat.exists_eq_add_of_le hz
 induction d with
 |zero=>exact List.prefix_rfl
 |succ d ih=>exact(ih zO).trans (by rw[←Nat.add_assoc,rowTo_succ zO];exact List.prefix_append _ _)
theorem pairsTo_zero (n:Nat):pairsTo n 0=[]:=rfl
theorem pairsTo_succ (n x:Nat):pairsTo n (x+1)=pairsTo n x++rowTo x n:=by simp[pairsTo,List.range_succ,List.flatMap_append]
theorem pairsTo_le (n:Nat){x y:Nat}(h:x≤y):pairsTo n x <+: pairsTo n y:=by
 obtain⟨d,rfl⟩:=Nat.exists_eq_add_of_le h
 induction d with
 |zero=>exact List.prefix_rfl
 |succ d ih=>exact(ih zO).trans (by rw[←Nat.add_assoc,pairsTo_succ];exact List.prefix_append _ _)
theorem pairs_here {n x y:Nat}(hx:x<n)(hxy:x+1≤y)(hy:y<n):(pairsTo n x++rowTo x y++[(x,y)]) <+: pairsOf n:=by
 rw[List.append_assoc,←rowTo_succ hxy];refine List.IsPrefix.trans ?_ (pairsTo_le n (show x+1≤n from hx));rw[pairsTo_succ];exact(List.prefix_append_right_inj _).2 (rowTo_le zO zO)
def PairRd (p:Nat×Nat)(args:Array Value)(_:World):Prop:=args = #[.agg #[.int .i64 p.1,.int .i64 p.2]]
theorem pairs_any (bb:Nat)(w:World):
 Calls Tryz.prog 154 #[.pointer (some ⟨bb,0,none⟩)] w fun e w'=>e = .returned (.func (.func 198) #[] #[.pointer (some ⟨w.heap.size,0,none⟩)])∧w.alloc (.cells #[.pointer (some ⟨bb,0,none⟩)] 139)=w':=by
 have hmf:=run_mf Tryz.prog
 go_enter Tryz.func154,Tryz.ntmps154
 go_wp2
 go_ret
 exact⟨rfl,rfl⟩
structure PairSt (c:Cs) (pa:Option Addr) (pc:Nat) (w0:World) (bb H:Nat) (W:World):Prop where
 old:Below w0.heap.size w0 W
 hb:Box W H #[.pointer (some ⟨bb,0,none⟩)] 139
 ben:Box W bb (csCells c pa pc) 219
theorem pairs1_gives (c:Cs)(n:Nat)(hn:c.parts.length=n)(hn8:n≤12)(pa:Option Addr)(pc:Nat)(w0:World)(bb H:Nat)(hbb:bb<w0.heap.size)(_hH:w0.heap.size≤H)
 (W:World) (hst:PairSt c pa pc w0 bb H W):
 Gives Tryz.prog 198 #[.pointer (some ⟨H,0,none⟩)] (fun k=>k=H) w0.heap.size PairRd (pairsOf n) W:=by
 intro l J Jx hJ hJx hY h0;have HY:=zh hY;have HN:=zh hn;have HS:=zh hst;have H0:=zh h0;have e1:=hst.hb.cell;have e2:∀i,W.cell? ⟨bb,i,none⟩=(#[.string c.ware,.int .i64 c.limit,.int .i64 c.by_,.slice pa n pc]:Array Value)[i]?:=by rw[←hn];exact hst.ben.cell
 clear hY hJ hJx hn hst h0;refine callsIn_of_wp Tryz.func198 rfl trivial ?_;simp only[Tryz.ntmps198,List.size_toArray,List.length_cons,List.length_nil,Nat.reduceAdd,Nat.reduceSub,Array.replicate_succ,Array.replicate_zero,List.push_toArray,List.append_toArray,List.nil_append,List.cons_append]
 gi_wp2_with fail
 clear e1 e2
 gi_loopw [11] (fun i wr=>∃x:Nat,x≤n∧i = .int .i64 x∧PairSt c pa pc w0 bb H wr∧J (pairsTo n x) wr) (fun i _=>n-(intOf i).toNat)
 case atStart=>exact⟨0,Nat.zero_le _,rfl,HS.out,H0.out⟩
 case round=>
  clear HS H0;obtain⟨x,hx,rfl,hst,hj⟩:=hrel;have HS:=zh hst;have HJ:=zh hj;clear hst hj
  by_cases hxn:x<n
  ·gi_wp2_with fail
   obtain⟨wo,hwo⟩:∃wo:World,wo=wr:=⟨_,rfl⟩
   subst hwo
   gi_loopw [4] (fun i wr=>∃y:Nat,x+1≤y∧(x+1≤n→y≤n)∧i = .int .i64 y∧PairSt c pa pc w0 bb H wr∧J (pairsTo n x++rowTo x y) wr) (fun i _=>n+1-(intOf i).toNat)
   case atStart=>exact⟨x+1,Nat.le_refl _,fun h=>h,zN,HS.out,by rw[rowTo_zero,List.append_nil];exact HJ.out⟩
   case round=>
    clear HS HJ;obtain⟨y,hxy,hyn,rfl,hst,hj⟩:=hrel;have e1:=hst.hb.cell;have e2:∀i,wr.cell? ⟨bb,i,none⟩=(#[.string c.ware,.int .i64 c.limit,.int .i64 c.by_,.slice pa n pc]:Array Value)[i]?:=by rw[←HN.out];exact hst.ben.cell
    by_cases hy:y<n
    ·obtain⟨fn,tmps,assign,body,hyy,hR⟩:=HY.out _ (x,y) _ _ hj rfl (pairs_here hxn hxy hy);have HS:=zh hst;have HR:=zh hR;clear hst hj hR
     gi_wp2_with fail
     refine HR.out.mono ?_;rintro e W' (⟨rfl,hj',hk'⟩|⟨rfl,hx'⟩)
     ·have hst':PairSt c pa pc w0 bb H W':=⟨HS.out.old.trans ((hk'.mono fun i hi=>.inl hi).below HS.out.old.size),hk'.heap (.inr rfl) HS.out.hb,hk'.heap (.inl hbb) HS.out.ben⟩
      have HS':=zh hst';have HJ':=zh hj';clear HS HR hst' hj' e1 e2 hyy
      gi_wp2_with fail
      go_roundw
      case rel=>exact⟨y+1,zO,fun _=>by omega,zN,HS'.out,by rw[rowTo_succ hxy,←List.append_assoc];exact HJ'.out⟩
      case measure=>exact zJ
     ·clear HS HR e1 e2 hyy
      gi_wp2_with fail
      refine bodyPost_ret (results_none rfl _ _ _) rfl ?_;exact⟨⟨_,rfl⟩,.inr ⟨_,pairs_here hxn hxy hy,hx'⟩⟩
    ·have HS:=zh hst;have hj2:J (pairsTo n (x+1)) wr:=by
      have e:y=n:=by have:=hyn hxn;omega
      rw[pairsTo_succ,←e];rw[e] at hj ⊢;exact hj
     have HJ:=zh hj2;clear hst hj hj2
     gi_wp2_with fail
     go_roundw
     case rel=>exact⟨x+1,zO,zN,HS.out,HJ.out⟩
     case measure=>exact zJ
  ·gi_wp2_with fail
   go_end0
   have e:x=n:=by omega
   refine⟨⟨_,rfl⟩,.inl ?_⟩;have:=HJ.out;rw[e] at this;exact this
theorem wpListIn_store_box {F:Fence}{n:Nat}{P:Program}{ops:Array Oper}{rest:List Oper}{o:Oper}{a:Act}{w w':World}{Q:Exit→Act→World→Prop}(hg:o.guard=none)(ty:TypeId)(x y:Operand)(ho:o.op = .store ty x y){p v:Value}(hx:a.eval x=p)(hy:a.eval y=v)
 (hr:(Instr.storeAt ty p v).run P w = .ok () w') (h:wpListIn F n P ops Q rest (a.put o.dst undef) w'):wpListIn F n P ops Q (o::rest) a w:=
 wpListIn_plain hg fun K hK=>by
  unfold Oper.wpIn;refine⟨by simp[Oper.about,ho],?_⟩;rw[Oper.semAt_plain F _ _ (by rw[ho];intro c hc;cases hc)];unfold execOp;simp only[ho,hx,hy,Sem.run_bind,hr,Result.andThen_ok,Sem.run_pure];exact hK _ _ h
theorem wpListIn_load_box {F:Fence}{n:Nat}{P:Program}{ops:Array Oper}{rest:List Oper}{o:Oper}{a:Act}{w:World}{Q:Exit→Act→World→Prop}(hg:o.guard=none)(ty:TypeId)(x:Operand)(ho:o.op = .load ty x){p v:Value}(hx:a.eval x=p)
 (hr:(Instr.loadAt ty p).run P w = .ok v w) (h:wpListIn F n P ops Q rest (a.put o.dst v) w):wpListIn F n P ops Q (o::rest) a w:=
 wpListIn_plain hg fun K hK=>by
  unfold Oper.wpIn;refine⟨by simp[Oper.about,ho],?_⟩;rw[Oper.semAt_plain F _ _ (by rw[ho];intro c hc;cases hc)];unfold execOp;simp only[ho,hx,Sem.run_bind,hr,Result.andThen_ok,Sem.run_pure];exact hK _ _ h
theorem ownsRow_keep {K:Nat→Prop}{A B:World}{base:Nat}{e:TypeId}{size n:Nat}{v:Value}{xs:List Value}(h:A.ownsRow base e size v n xs)(hk:Keep K A B)(hK:∀k,base≤k→K k):B.ownsRow base e size v n xs:=by
 refine⟨h.1,?_⟩
 rcases h.2 with ⟨h1,h2⟩|⟨g,cap,cur,h1,hg,hh,h3⟩
 ·exact .inl ⟨h1,h2⟩
 ·exact .inr ⟨g,cap,cur,h1,hg,hk.heap (hK g hg) hh,h3⟩
theorem ownsRow_nil (W:World)(base:Nat)(e:TypeId)(size:Nat):W.ownsRow base e size (.slice none 0 0) 0 []:=⟨by simp,.inl ⟨rfl,rfl⟩⟩
def pairCells (l:List (Nat×Nat)):List Value:=l.flatMap fun p=>[.int .i64 p.1,.int .i64 p.2]
def openOf (c:Cs):List (Nat×Nat):=(pairsOf c.parts.length).filter fun p=>ansAt c p.1 p.2==3
theorem pairsTo_len (n:Nat):∀x,(pairsTo n x).length≤x*n
 |0=>by simp[pairsTo_zero]
 |x+1=>by
  rw[pairsTo_succ,List.length_append,Nat.succ_mul];refine Nat.add_le_add (pairsTo_len n x) ?_
  simp[rowTo]
theorem pairsOf_len {n:Nat}(h:n≤8):(pairsOf n).length≤64:=Nat.le_trans (pairsTo_len n n) (Nat.mul_le_mul h h)
theorem ownsRow_block {w:World}{base:Nat}{e:TypeId}{size n:Nat}{v:Value}{xs:List Value}(h:w.ownsRow base e size v n xs){b:Nat}(hb:b<base):some b≠v.ownBlock:=fun he=>by
 have:=(h.lt b he.symm).1
 omega
theorem pair_row (w:World)(x y:Nat)(t:TypeId):Row (w.alloc (.cells #[.int .i64 x,.int .i64 y] t)) (some ⟨w.heap.size,0,none⟩) [.int .i64 x,.int .i64 y]:=by
 intro k v hv;refine⟨_,_,rfl,?_⟩;rw[(Box.new w #[.int .i64 x,.int .i64 y] t).cell]
 rcases k with _|_|k
 ·simpa using hv
 ·simpa using hv
 ·simp at hv
theorem answer_case (c:Cs)(x y:Nat)(w:World)(hx:x<8)(hy:y<8):
 Calls Tryz.prog 106 #[.agg (caseTab c),.int .i64 x,.int .i64 y] w fun e w'=>e = .returned (.int .u8 (ansAt c x y))∧Below w.heap.size w w':=answer_any _ _ x y w hx hy
theorem pairs_mem {n:Nat}{p:Nat×Nat}(h:p∈pairsOf n):p.1<n∧p.2<n:=by
 simp only[pairsOf,pairsTo,rowTo,List.mem_flatMap,List.mem_range,List.mem_map] at h;obtain⟨a,ha,d,hd,rfl⟩:=h;exact⟨ha,by simp;omega⟩
def OpI (c:Cs)(w3:World)(pre:List (Nat×Nat))(W:World):Prop:=
 ∃v,Box W (w3.heap.size+1) #[v] 35∧W.ownsRow (w3.heap.size+5) 57 2 v (pre.filter fun p=>ansAt c p.1 p.2==3).length (pairCells (pre.filter fun p=>ansAt c p.1 p.2==3)) ∧
  Box W w3.heap.size (caseTab c) 143∧Below w3.heap.size w3 W
def OpAs (c:Cs)(pa:Option Addr)(pc:Nat)(bb:Nat)(w w3:World)(x:Nat×Nat)(_:Array Value)(act:Act)(W:World):Prop:=
 ∃pb,act={tmps:=#[.agg #[.string c.ware,.int .i64 c.limit,.int .i64 c.by_,.slice pa c.parts.length pc],.pointer (some ⟨w.heap.size,0,none⟩),.slice none 0 0,.int .i64 0,.pointer (some ⟨bb,0,none⟩),.pointer (some ⟨w3.heap.size,0,none⟩),.int .i64 0,.pointer (some ⟨w3.heap.size+1,0,none⟩),.pointer (some ⟨pb,0,none⟩),
  .tuple #[.pointer (some ⟨bb,0,none⟩),.agg (caseTab c),.int .i64 0],.agg #[.string c.ware,.int .i64 c.limit,.int .i64 c.by_,.slice pa c.parts.length pc],.tuple #[.pointer (some ⟨bb,0,none⟩),.agg (caseTab c),.int .i64 0],.pointer (some ⟨bb,0,none⟩),.agg (caseTab c),.int .i64 0,.int .i64 0,.bool false,undef,
  .pointer (some ⟨bb,0,none⟩),.func (.func 198) #[] #[.pointer (some ⟨w3.heap.size+2,0,none⟩)],.agg #[.int .i64 x.1,.int .i64 x.2],undef,undef,undef,undef,undef,undef,undef,undef,undef,undef,undef,undef],defers:=[]} ∧
  Box W pb #[.int .i64 x.1,.int .i64 x.2] 57∧w3.heap.size+5≤pb
theorem info_pair:(Tryz.prog.info? 57).map (fun i=>(i.zero,i.size,i.bytes))=some (some (.agg #[.int .i64 0,.int .i64 0]),2,16):=zK
end
