/- Walks and plain laws. No condition. -/
import Derived.Test.YtjgldeeianionaaGreatV04
set_option maxHeartbeats 8000000
set_option maxRecDepth 100000
set_option linter.unusedSimpArgs false
set_option linter.unusedVariables false
namespace Go.Proofs.YtjgldeeianionaaGreat
open Go.RowKit
section
attribute [local go_sem] Oper.semAt_some
def tabCells (f g:Nat→Nat→Bool):Array Value:=((List.range 64).map (fun i=>Value.bool (f (i / 8) (i % 8)))++(List.range 64).map (fun i=>Value.bool (g (i / 8) (i % 8)))).toArray
theorem tabCells_size (f g:Nat→Nat→Bool):(tabCells f g).size=128:=by simp[tabCells]
theorem tabCells_f (f g:Nat→Nat→Bool){x y:Nat}(hx:x<8)(hy:y<8):(tabCells f g)[x*8+y]?=some (.bool (f x y)):=by
 have h1:(x*8+y) / 8=x:=by omega
 have h2:(x*8+y) % 8=y:=by omega
 unfold tabCells;rw[List.getElem?_toArray,List.getElem?_append_left zT,List.getElem?_map,List.getElem?_range zO];simp only[Option.map_some,h1,h2]
theorem tabCells_g (f g:Nat→Nat→Bool){x y:Nat}(hx:x<8)(hy:y<8):(tabCells f g)[64+x*8+y]?=some (.bool (g x y)):=by
 have h1:(64+x*8+y-64) / 8=x:=by omega
 have h2:(64+x*8+y-64) % 8=y:=by omega
 unfold tabCells;rw[List.getElem?_toArray,List.getElem?_append_right zT,List.getElem?_map,List.length_map,List.length_range,List.getElem?_range zO];simp only[Option.map_some,h1,h2]
def ansOf (f g:Bool):Int:=if g then(if f then 3 else 2) else 1
theorem answer_any (f g:Nat→Nat→Bool)(x y:Nat)(w:World)(hx:x<8)(hy:y<8):
 Calls Tryz.prog 106 #[.agg (tabCells f g),.int .i64 x,.int .i64 y] w fun e w'=>e = .returned (.int .u8 (ansOf (f x y) (g x y)))∧Below w.heap.size w w':=by
 have hf:=tabCells_f f g hx hy;have hg:=tabCells_g f g hx hy;have hs:=tabCells_size f g;generalize tabCells f g=cs at *
 go_enter Tryz.func106,Tryz.ntmps106
 go_wp2
 all_goals go_ret
 all_goals exact⟨by simp_all [ansOf],by go_grown⟩
theorem zero_tab:Tryz.zeroCells143=tabCells (fun _ _=>false) (fun _ _=>false):=zK
theorem tab_at (f g:Nat→Nat→Bool)(i:Nat):(tabCells f g)[i]?=if i<64 then some (.bool (f (i / 8) (i % 8))) else if i<128 then some (.bool (g ((i-64) / 8) ((i-64) % 8))) else none:=by
 unfold tabCells;rw[List.getElem?_toArray,List.getElem?_append];simp only[List.length_map,List.length_range,List.getElem?_map]
 split
 ·rw[List.getElem?_range zO];rfl
 ·split
  ·rw[List.getElem?_range zO];rfl
  ·rw[List.getElem?_eq_none zT];rfl
theorem tab_set_f (f g:Nat→Nat→Bool){x y:Nat}(hx:x<8)(hy:y<8)(v:Bool):(tabCells f g).setIfInBounds (x*8+y) (.bool v)=tabCells (fun a b=>if a=x∧b=y then v else f a b) g:=by
 apply Array.ext_getElem?
 intro i;rw[Array.getElem?_setIfInBounds,tab_at,tab_at,tabCells_size]
 by_cases h:x*8+y=i
 ·subst h;have h1:(x*8+y) / 8=x:=by omega
  have h2:(x*8+y) % 8=y:=by omega
  rw[if_pos rfl,if_pos zO,if_pos zO]
  simp[h1,h2]
 ·rw[if_neg h];have h3:¬(i / 8=x∧i % 8=y):=by omega
  simp[h3]
theorem tab_set_g (f g:Nat→Nat→Bool){x y:Nat}(hx:x<8)(hy:y<8)(v:Bool):(tabCells f g).setIfInBounds (64+x*8+y) (.bool v)=tabCells f (fun a b=>if a=x∧b=y then v else g a b):=by
 apply Array.ext_getElem?
 intro i;rw[Array.getElem?_setIfInBounds,tab_at,tab_at,tabCells_size]
 by_cases h:64+x*8+y=i
 ·subst h;have h1:(64+x*8+y-64) / 8=x:=by omega
  have h2:(64+x*8+y-64) % 8=y:=by omega
  rw[if_pos rfl,if_pos zO,if_neg zO,if_pos zO];simp only[h1,h2,and_self,if_true]
 ·rw[if_neg h]
  by_cases h4:i<64
  ·simp[h4]
  ·have h3:¬((i-64) / 8=x∧(i-64) % 8=y):=by omega
   simp only[if_neg h3]
theorem beq_int (u v:Nat):((u:Int)==(v:Int))=(u==v):=by rw[Bool.eq_iff_iff];simp;omega
def togB (n:Nat)(L:List (List Nat))(a b:Nat):Bool:=decide (a<n∧b<n)&&L.any fun l=>l[a]?==l[b]?
def aptB (n:Nat)(L:List (List Nat))(a b:Nat):Bool:=decide (a<n∧b<n)&&L.any fun l=>l[a]? != l[b]?
def mid (n:Nat)(f:Nat→Nat→Bool)(h:Nat→Nat→Bool)(x y:Nat)(a b:Nat):Bool:=f a b||(decide (b<n∧(a<x∨(a=x∧b<y)))&&h a b)
theorem mid_zero (n:Nat)(f h:Nat→Nat→Bool):mid n f h 0 0=f:=by
 funext a b
 simp[mid]
theorem mid_row (n:Nat)(f h:Nat→Nat→Bool)(x:Nat):mid n f h x n=mid n f h (x+1) 0:=by
 funext a b
 have:(b<n∧(a<x∨(a=x∧b<n)))↔(b<n∧(a<x+1∨(a=x+1∧b<0))):=by omega
 simp only[mid,this]
theorem mid_step (n:Nat)(f h:Nat→Nat→Bool){x y:Nat}(hy:y<n)(v:Bool)(hv:v=(f x y||h x y)):
 (fun a b=>if a=x∧b=y then v else mid n f h x y a b)=mid n f h x (y+1):=by
 funext a b
 by_cases e:a=x∧b=y
 ·obtain⟨rfl,rfl⟩:=e
  simp[mid,hv,hy]
 ·rw[if_neg e];have:(b<n∧(a<x∨(a=x∧b<y)))↔(b<n∧(a<x∨(a=x∧b<y+1))):=by omega
  simp only[mid,this]
theorem mid_at (n:Nat)(f h:Nat→Nat→Bool)(x y:Nat):mid n f h x y x y=f x y:=by simp[mid]
theorem mid_end (n:Nat)(L:List (List Nat))(l:List Nat):mid n (togB n L) (fun a b=>l[a]?==l[b]?) n 0=togB n (L++[l]):=by
 funext a b
 have:(b<n∧(a<n∨(a=n∧b<0)))↔(a<n∧b<n):=by omega
 simp only[mid,togB,this,List.any_append,List.any_cons,List.any_nil,Bool.or_false,Bool.and_or_distrib_left]
theorem mid_end' (n:Nat)(L:List (List Nat))(l:List Nat):mid n (aptB n L) (fun a b=>l[a]? != l[b]?) n 0=aptB n (L++[l]):=by
 funext a b
 have:(b<n∧(a<n∨(a=n∧b<0)))↔(a<n∧b<n):=by omega
 simp only[mid,aptB,this,List.any_append,List.any_cons,List.any_nil,Bool.or_false,Bool.and_or_distrib_left]
theorem tab_one (f g:Nat→Nat→Bool):(tabCells f g).all (·.oneCell')=true:=by
 refine Array.all_eq_true_iff_forall_mem.2 fun v hv=>?_
 simp[tabCells] at hv
 rcases hv with ⟨i,_,rfl⟩|⟨i,_,rfl⟩<;>rfl
theorem wp_load_box {P:Program}{op:Oper}{a:Act}{w:World}{K:Act→World→Prop}{Q:Exit→Act→World→Prop}(ty:TypeId)(x:Operand)(ho:op.op = .load ty x){p v:Value}(hx:a.eval x=p)
 (hr:(Instr.loadAt ty p).run P w = .ok v w) (h:K (a.put op.dst v) w):op.wp P a w K Q:=by
 unfold Oper.wp execOp;simp only[ho,hx,Sem.run_bind,hr,Result.andThen_ok,Sem.run_pure];exact h
theorem wp_store_box {P:Program}{op:Oper}{a:Act}{w w':World}{K:Act→World→Prop}{Q:Exit→Act→World→Prop}(ty:TypeId)(x y:Operand)(ho:op.op = .store ty x y){p v:Value}(hx:a.eval x=p)(hy:a.eval y=v)
 (hr:(Instr.storeAt ty p v).run P w = .ok () w') (h:K (a.put op.dst undef) w'):op.wp P a w K Q:=by
 unfold Oper.wp execOp;simp only[ho,hx,hy,Sem.run_bind,hr,Result.andThen_ok,Sem.run_pure];exact h
theorem results_cell_tmp {P:Program}{fn:Func}{t u:Tmp}{ty:TypeId}(h:fn.results = #[.cell t ty,.tmp u]){tmps:Array Value}{w:World}{p:Addr}{v:Value}(hp:tmps.getD t undef = .pointer (some p))
 (hr:(loadVar ty p).run P w = .ok v w):(results fn tmps).run P w = .ok (.tuple #[v,tmps.getD u undef]) w:=by
 have hp':tmps[t]?.getD undef = .pointer (some p):=by simpa using hp
 simp[results,h,hp',asAddr,hr]
def TabPost (c:Cs)(L:List (List Nat))(w:World)(e:Ending)(w':World):Prop:=
 Below w.heap.size w w'∧e = .returned (.tuple #[.agg (tabCells (togB c.parts.length L) (aptB c.parts.length L)),.bool (!L.isEmpty)])
def TabI (n:Nat)(w:World)(pre:List (List Nat))(W:World):Prop:=
 Box W w.heap.size (tabCells (fun _ _=>false) (fun _ _=>false)) 143∧Box W (w.heap.size+1) (tabCells (togB n pre) (aptB n pre)) 143 ∧
 Box W (w.heap.size+2) #[.bool (!pre.isEmpty)] 4∧Below w.heap.size w W
structure TabW (K:Nat→Prop) (w W0:World) (x:List Nat) (f g:Nat→Nat→Bool) (W:World):Prop where
 t2:Box W w.heap.size (tabCells (fun _ _=>false) (fun _ _=>false)) 143
 t4:Box W (w.heap.size+1) (tabCells f g) 143
 t5:Box W (w.heap.size+2) #[.bool true] 4
 row:Box W (w.heap.size+7) (x.map fun v:Nat=>Value.int .i64 (v:Int)).toArray 3
 keep:Keep K W0 W
 old:Below w.heap.size w W
theorem TabW.cell {K:Nat→Prop}{w W0 W:World}{x:List Nat}{f g:Nat→Nat→Bool}(h:TabW K w W0 x f g W){q:Nat}{v:Nat}(hq:x[q]?=some v):W.cell? ⟨w.heap.size+7,q,none⟩=some (.int .i64 v):=by
 rw[h.row.cell];simp[hq]
theorem TabW.drewN {K:Nat→Prop}{w W0 W:World}{x:List Nat}{f g:Nat→Nat→Bool}(h:TabW K w W0 x f g W)(m:Nat):TabW K w W0 x f g (W.drewN m):=
 ⟨h.t2,h.t4,h.t5,h.row,h.keep.trans ⟨rfl,rfl,rfl,Nat.le_refl _,fun _ _ _=>rfl⟩,below_drewN h.old m⟩
theorem TabW.put_f {K:Nat→Prop}{w W0 W:World}{x:List Nat}{f g:Nat→Nat→Bool}(h:TabW K w W0 x f g W){a b:Nat}(ha:a<8)(hb:b<8)(hK:¬K (w.heap.size+1))(v:Bool):
 TabW K w W0 x (fun i j=>if i=a∧j=b then v else f i j) g (W.setCell ⟨w.heap.size+1,a*8+b,none⟩ (.bool v)):=
 ⟨h.t2.far zS _,by rw[←tab_set_f f g ha hb];exact h.t4.set_ _ _,h.t5.far zS _,h.row.far zS _,h.keep.setCell (.inl hK) _,h.old.setCell zS _⟩
theorem TabW.put_g {K:Nat→Prop}{w W0 W:World}{x:List Nat}{f g:Nat→Nat→Bool}(h:TabW K w W0 x f g W){a b:Nat}(ha:a<8)(hb:b<8)(hK:¬K (w.heap.size+1))(v:Bool):
 TabW K w W0 x f (fun i j=>if i=a∧j=b then v else g i j) (W.setCell ⟨w.heap.size+1,64+a*8+b,none⟩ (.bool v)):=
 ⟨h.t2.far zS _,by rw[←tab_set_g f g ha hb];exact h.t4.set_ _ _,h.t5.far zS _,h.row.far zS _,h.keep.setCell (.inl hK) _,h.old.setCell zS _⟩
theorem table_any (c:Cs)(n:Nat)(hn:c.parts.length=n)(hn8:n≤8)(pa:Option Addr)(pc:Nat)(w:World)(hparts:PartsAt w pa c.parts)(bb:Nat)(hben:Box w bb (csCells c pa pc) 219):
 Calls Tryz.prog 174 #[.pointer (some ⟨bb,0,none⟩)] w (TabPost c (allR c) w):=by
 have HB:=zh hben;have HP:=zh hparts;have HN:=zh hn;clear hben hparts hn;refine(callsIn_wide (n:=0)).1 (callsIn_of_wp_marks Tryz.func174 rfl trivial ?_ rfl);simp only[Tryz.ntmps174,List.size_toArray,List.length_cons,List.length_nil,Nat.reduceAdd,Nat.reduceSub,Array.replicate_succ,Array.replicate_zero,List.push_toArray,List.append_toArray,List.nil_append,List.cons_append]
 gi_wp2_with (gi_at_call 203;(with_reducible refine(callsIn_wide.2 (all_any _ _)).mono ?_);rintro e w' ⟨rfl,rfl⟩)
 simp only[Nat.add_assoc,Nat.reduceAdd,zero_tab];have b0:Box ((((w.alloc (.cells (tabCells (fun _ _=>false) (fun _ _=>false)) 143)).alloc (.cells (tabCells (fun _ _=>false) (fun _ _=>false)) 143)).alloc (.cells #[.bool false] 4)).alloc (.cells #[.pointer (some ⟨bb,0,none⟩)] 139)) w.heap.size (tabCells (fun _ _=>false) (fun _ _=>false)) 143:=(((Box.new _ _ _).alloc _).alloc _).alloc _;have b1:Box ((((w.alloc (.cells (tabCells (fun _ _=>false) (fun _ _=>false)) 143)).alloc (.cells (tabCells (fun _ _=>false) (fun _ _=>false)) 143)).alloc (.cells #[.bool false] 4)).alloc (.cells #[.pointer (some ⟨bb,0,none⟩)] 139)) (w.heap.size+1) (tabCells (fun _ _=>false) (fun _ _=>false)) 143:=((Box.new' zS).alloc _).alloc _
 have b2:Box ((((w.alloc (.cells (tabCells (fun _ _=>false) (fun _ _=>false)) 143)).alloc (.cells (tabCells (fun _ _=>false) (fun _ _=>false)) 143)).alloc (.cells #[.bool false] 4)).alloc (.cells #[.pointer (some ⟨bb,0,none⟩)] 139)) (w.heap.size+2) #[.bool false] 4:=(Box.new' zS).alloc _;have b3:Box ((((w.alloc (.cells (tabCells (fun _ _=>false) (fun _ _=>false)) 143)).alloc (.cells (tabCells (fun _ _=>false) (fun _ _=>false)) 143)).alloc (.cells #[.bool false] 4)).alloc (.cells #[.pointer (some ⟨bb,0,none⟩)] 139)) (w.heap.size+3) #[.pointer (some ⟨bb,0,none⟩)] 139:=Box.new' zS;have hold:Below w.heap.size w ((((w.alloc (.cells (tabCells (fun _ _=>false) (fun _ _=>false)) 143)).alloc (.cells (tabCells (fun _ _=>false) (fun _ _=>false)) 143)).alloc (.cells #[.bool false] 4)).alloc (.cells #[.pointer (some ⟨bb,0,none⟩)] 139)):=by go_grown
 have hsz:(((((w.alloc (.cells (tabCells (fun _ _=>false) (fun _ _=>false)) 143)).alloc (.cells (tabCells (fun _ _=>false) (fun _ _=>false)) 143)).alloc (.cells #[.bool false] 4)).alloc (.cells #[.pointer (some ⟨bb,0,none⟩)] 139))).heap.size=w.heap.size+4:=by simp
 generalize ((((w.alloc (.cells (tabCells (fun _ _=>false) (fun _ _=>false)) 143)).alloc (.cells (tabCells (fun _ _=>false) (fun _ _=>false)) 143)).alloc (.cells #[.bool false] 4)).alloc (.cells #[.pointer (some ⟨bb,0,none⟩)] 139))=w4 at *;have hbl:=HB.out.lt;refine wpIn_range (gf:=217) (lb:=#[.pointer (some ⟨w.heap.size+3,0,none⟩)]) (Z:=AllZ (w.heap.size+3)) (n0:=w.heap.size) (Rd:=AllRd (w.heap.size+3) n) (xs:=allR c) rfl (enters_of Tryz.func217 zK rfl) ?gives ?hz ?n0 ?ps ?rd
  (TabI n w) (fun _ _ _=>False) ?hI ?hX ?h0 (fun _=>{tmps:=#[.pointer (some ⟨bb,0,none⟩),undef,.pointer (some ⟨w.heap.size,0,none⟩),.bool false,.pointer (some ⟨w.heap.size+1,0,none⟩),.pointer (some ⟨w.heap.size+2,0,none⟩),.slice (some ⟨w.heap.size+7,0,none⟩) n n,undef,undef,undef,undef,.pointer (some ⟨bb,0,none⟩),.func (.func 217) #[] #[.pointer (some ⟨w.heap.size+3,0,none⟩)],.slice (some ⟨w.heap.size+7,0,none⟩) n n,undef,undef,undef,undef,undef,undef,undef,undef,undef,undef,undef,undef,undef,undef,undef,undef,undef,undef,undef,undef,undef,undef,undef,undef,undef,undef,undef,undef,undef,undef,undef,undef,undef,undef,undef,undef,undef,undef,undef,undef,undef,undef,undef,undef,undef,undef,undef,undef,undef,undef],defers:=[]}) ?assign ?body ?done ?stop
 case gives=>
  intro o1 o2;exact all1_gives c n HN.out hn8 pa pc w HP.out bb (w.heap.size+3) hbl zO _ zT ((hold.alloc zO _).alloc zT _) ((b3.alloc _).alloc _) (((HB.out.below hold hbl).alloc _).alloc _)
 case hz=>intro k hk;rw[hsz];simp only[AllZ] at hk;omega
 case n0=>omega
 case ps=>rintro x args W ⟨rfl,_⟩;rfl
 case rd=>
  rintro x args A B ⟨h1,h2,h3,h4⟩ hk;exact⟨h1,h2,hk.heap (by rw[hsz];omega) h3,Nat.le_trans h4 hk.size⟩
 case hI=>
  rintro s A B ⟨h1,h2,h3,h4⟩ hk;rw[hsz] at hk;exact⟨hk.heap (by simp only[AllZ];omega) h1,hk.heap (by simp only[AllZ];omega) h2,hk.heap (by simp only[AllZ];omega) h3,h4.trans ((hk.mono fun i hi=>by simp only[AllZ];omega).below h4.size)⟩
 case hX=>intro _ _ _ _ h;exact h.elim
 case h0=>
  refine⟨b0,?_,b2,hold⟩;rw[show togB n []=(fun _ _=>false) from by funext a b;simp[togB],show aptB n []=(fun _ _=>false) from by funext a b;simp[aptB]];exact b1
 case assign=>
  rintro l x args W Kk ⟨rfl,_⟩ hk
  gi_wp2
  exact hk
 case body=>
  rintro l pre x args W ⟨i1,i2,i3,i4⟩ ⟨rfl,r2,r3,r4⟩ hpre hlt;obtain⟨k1,k2⟩:=i3.rules;have h0:TabW (fun k=>k<w.heap.size∨AllZ (w.heap.size+3) k∨k=w4.heap.size∨k=w4.heap.size+1) w W x (mid n (togB n pre) (fun a b=>x[a]?==x[b]?) 0 0) (mid n (aptB n pre) (fun a b=>x[a]? != x[b]?) 0 0) (W.setCell ⟨w.heap.size+2,0,none⟩ (.bool true)):=by
   rw[mid_zero,mid_zero];exact⟨i1.far zS _,i2.far zS _,i3.set_ 0 (.bool true),r3.far zS _,(Keep.refl _ W).setCell (.inl (by simp only[AllZ];rw[hsz];omega)) _,i4.setCell zS _⟩
  have HT:=zh h0;have HR:=zh r2;clear h0 i1 i2 i3 i4 r2 r3
  gi_wp2_with fail
  gi_loopw [16] (fun i wr=>∃k:Nat,k≤n∧i = .int .i64 k∧TabW (fun k=>k<w.heap.size∨AllZ (w.heap.size+3) k∨k=w4.heap.size∨k=w4.heap.size+1) w W x (mid n (togB n pre) (fun a b=>x[a]?==x[b]?) k 0) (mid n (aptB n pre) (fun a b=>x[a]? != x[b]?) k 0) wr) (fun i _=>n-(intOf i).toNat)
  case atStart=>exact⟨0,Nat.zero_le _,rfl,HT.out⟩
  case round=>
   clear HT;obtain⟨k,hk,rfl,ht⟩:=hrel
   by_cases hkn:k<n
   ·obtain⟨u,hu⟩:∃u,x[k]?=some u:=⟨x[k]'(by have:=HR.out;omega),by simp⟩
    have cu:=ht.cell hu;have HT:=zh ht;have HU:=zh hu;clear ht hu
    gi_wp2_with fail
    obtain⟨wo,hwo⟩:∃wo:World,wo=wr:=⟨_,rfl⟩
    subst hwo
    gi_loopw [23] (fun i wr=>∃m:Nat,m≤n∧i = .int .i64 m∧TabW (fun k=>k<w.heap.size∨AllZ (w.heap.size+3) k∨k=w4.heap.size∨k=w4.heap.size+1) w W x (mid n (togB n pre) (fun a b=>x[a]?==x[b]?) k m) (mid n (aptB n pre) (fun a b=>x[a]? != x[b]?) k m) wr) (fun i _=>n-(intOf i).toNat)
    case atStart=>exact⟨0,Nat.zero_le _,rfl,HT.out⟩
    case round=>
     clear HT cu;obtain⟨m,hm,rfl,ht⟩:=hrel
     by_cases hmn:m<n
     ·obtain⟨v,hv⟩:∃v,x[m]?=some v:=⟨x[m]'(by have:=HR.out;omega),by simp⟩
      have cv:=ht.cell hv;have c1:wr.cell? ⟨w.heap.size+1,k*8+m,none⟩=some (.bool (togB n pre k m)):=by rw[ht.t4.cell,tabCells_f _ _ zO zO,mid_at]
      have t2:=ht.t4.frozen;have hk8:(k:Int)<8:=by omega
      have hKK:¬(fun k=>k<w.heap.size∨AllZ (w.heap.size+3) k∨k=w4.heap.size∨k=w4.heap.size+1) (w.heap.size+1):=by simp only[AllZ];rw[hsz];omega
      have hm8:(m:Int)<8:=by omega
      have HT:=zh ht;have HV:=zh hv;clear ht hv
      rcases hf:togB n pre k m with _|_
      ·rw[hf] at c1
       gi_wp2_with fail
       refine wpIn_region_round zK zK ?_;refine tA 0 ?_;refine tA 1 ?_;refine tA 2 ?_;refine tA 3 ?_;refine tA 4 ?_;refine tA 5 ?_;refine tA 6 ?_;refine tA 13 ?_;refine tA 14 ?_;refine wpAny_ready (rs:=[7]) zK zS (AllReady.cons rfl (fun K hK=>?_) AllReady.nil)
       go_simp
       refine hK _ _ ?_;clear hK K;refine tA 8 ?_;refine tA 9 ?_;refine tA 10 ?_;refine tA 11 ?_;refine tA 12 ?_;refine tA 15 ?_;refine wpAny_ready (rs:=[16]) zK zS (AllReady.cons rfl (fun K hK=>?_) AllReady.nil)
       go_simp
       refine hK _ _ ?_;clear hK K;refine wpAny_done zK ?_ _;simp only[onlyNormal];have h2:=(HT.out.put_f (a:=k) (b:=m) zO zO hKK ((u:Int)==(v:Int))).drewN 1;rw[mid_step n _ _ hmn ((u:Int)==(v:Int)) (by rw[hf];simp[HU.out,HV.out,beq_int])] at h2;obtain⟨W2,hW2⟩:=zx ((wr.setCell ⟨w.heap.size+1,k*8+m,none⟩ (.bool ((u:Int)==(v:Int)))).drew);have h2':TabW (fun k=>k<w.heap.size∨AllZ (w.heap.size+3) k∨k=w4.heap.size∨k=w4.heap.size+1) w W x (mid n (togB n pre) (fun a b=>x[a]?==x[b]?) k (m+1)) (mid n (aptB n pre) (fun a b=>x[a]? != x[b]?) k m) W2:=hW2▸h2;have c2:W2.cell? ⟨w.heap.size+1,64+k*8+m,none⟩=some (.bool (aptB n pre k m)):=by rw[h2'.t4.cell,tabCells_g _ _ zO zO,mid_at]
       have t2:=h2'.t4.frozen;have HT2:=zh h2';rw[hW2];clear h2 h2' HT c1 hW2
       rcases hg:aptB n pre k m with _|_
       ·rw[hg] at c2
        gi_wp2_with fail
        refine wpIn_region_round zK zK ?_;refine tA 0 ?_;refine tA 1 ?_;refine tA 2 ?_;refine tA 3 ?_;refine tA 4 ?_;refine tA 5 ?_;refine tA 6 ?_;refine tA 13 ?_;refine tA 14 ?_;refine wpAny_ready (rs:=[7]) zK zS (AllReady.cons rfl (fun K hK=>?_) AllReady.nil)
        go_simp
        refine hK _ _ ?_;clear hK K;refine tA 8 ?_;refine tA 9 ?_;refine tA 10 ?_;refine tA 11 ?_;refine tA 12 ?_;refine tA 15 ?_;refine wpAny_ready (rs:=[16]) zK zS (AllReady.cons rfl (fun K hK=>?_) AllReady.nil)
        go_simp
        refine hK _ _ ?_;clear hK K;refine wpAny_done zK ?_ _;simp only[onlyNormal];have h3:=(HT2.out.put_g (a:=k) (b:=m) zO zO hKK ((u:Int) != (v:Int))).drewN 1;rw[mid_step n _ _ hmn ((u:Int) != (v:Int)) (by rw[hg];simp[HU.out,HV.out,beq_int,bne])] at h3;have HT3:=zh h3;clear h3
        gi_wp2_with fail
        go_roundw
        case rel=>exact⟨m+1,zO,zN,HT3.out⟩
        case measure=>exact zJ
       ·rw[hg] at c2
        gi_wp2_with fail
        refine wpIn_region_round zK zK ?_;refine tA 0 ?_;refine tA 1 ?_;refine tA 2 ?_;refine tA 3 ?_;refine tA 4 ?_;refine tA 5 ?_;refine tA 6 ?_;refine tA 13 ?_;refine tA 14 ?_;refine wpAny_ready (rs:=[7]) zK zS (AllReady.cons rfl (fun K hK=>?_) AllReady.nil)
        go_simp
        refine hK _ _ ?_;clear hK K;refine tA 8 ?_;refine wpAny_take (i:=9) rfl zK zK zK zI (Or.inr ⟨by rfl,rfl⟩) ?_;refine wpAny_take (i:=10) rfl zK zK zK zI (Or.inr ⟨by rfl,rfl⟩) ?_;refine wpAny_take (i:=11) rfl zK zK zK zI (Or.inr ⟨by rfl,rfl⟩) ?_;refine tA 12 ?_;refine tA 15 ?_;refine wpAny_ready (rs:=[16]) zK zS (AllReady.cons rfl (fun K hK=>?_) AllReady.nil)
        go_simp
        refine hK _ _ ?_;clear hK K;refine wpAny_done zK ?_ _;simp only[onlyNormal];have h3:=(HT2.out.put_g (a:=k) (b:=m) zO zO hKK true).drewN 1;rw[mid_step n _ _ hmn true (by rw[hg];simp[HU.out,HV.out])] at h3;have HT3:=zh h3;clear h3
        gi_wp2_with fail
        go_roundw
        case rel=>exact⟨m+1,zO,zN,HT3.out⟩
        case measure=>exact zJ
      ·rw[hf] at c1
       gi_wp2_with fail
       refine wpIn_region_round zK zK ?_;refine tA 0 ?_;refine tA 1 ?_;refine tA 2 ?_;refine tA 3 ?_;refine tA 4 ?_;refine tA 5 ?_;refine tA 6 ?_;refine tA 13 ?_;refine tA 14 ?_;refine wpAny_ready (rs:=[7]) zK zS (AllReady.cons rfl (fun K hK=>?_) AllReady.nil)
       go_simp
       refine hK _ _ ?_;clear hK K;refine tA 8 ?_;refine wpAny_take (i:=9) rfl zK zK zK zI (Or.inr ⟨by rfl,rfl⟩) ?_;refine wpAny_take (i:=10) rfl zK zK zK zI (Or.inr ⟨by rfl,rfl⟩) ?_;refine wpAny_take (i:=11) rfl zK zK zK zI (Or.inr ⟨by rfl,rfl⟩) ?_;refine tA 12 ?_;refine tA 15 ?_;refine wpAny_ready (rs:=[16]) zK zS (AllReady.cons rfl (fun K hK=>?_) AllReady.nil)
       go_simp
       refine hK _ _ ?_;clear hK K;refine wpAny_done zK ?_ _;simp only[onlyNormal];have h2:=(HT.out.put_f (a:=k) (b:=m) zO zO hKK true).drewN 1;rw[mid_step n _ _ hmn true (by rw[hf];simp[HU.out,HV.out])] at h2;obtain⟨W2,hW2⟩:=zx ((wr.setCell ⟨w.heap.size+1,k*8+m,none⟩ (.bool true)).drew);have h2':TabW (fun k=>k<w.heap.size∨AllZ (w.heap.size+3) k∨k=w4.heap.size∨k=w4.heap.size+1) w W x (mid n (togB n pre) (fun a b=>x[a]?==x[b]?) k (m+1)) (mid n (aptB n pre) (fun a b=>x[a]? != x[b]?) k m) W2:=hW2▸h2;have c2:W2.cell? ⟨w.heap.size+1,64+k*8+m,none⟩=some (.bool (aptB n pre k m)):=by rw[h2'.t4.cell,tabCells_g _ _ zO zO,mid_at]
       have t2:=h2'.t4.frozen;have HT2:=zh h2';rw[hW2];clear h2 h2' HT c1 hW2
       rcases hg:aptB n pre k m with _|_
       ·rw[hg] at c2
        gi_wp2_with fail
        refine wpIn_region_round zK zK ?_;refine tA 0 ?_;refine tA 1 ?_;refine tA 2 ?_;refine tA 3 ?_;refine tA 4 ?_;refine tA 5 ?_;refine tA 6 ?_;refine tA 13 ?_;refine tA 14 ?_;refine wpAny_ready (rs:=[7]) zK zS (AllReady.cons rfl (fun K hK=>?_) AllReady.nil)
        go_simp
        refine hK _ _ ?_;clear hK K;refine tA 8 ?_;refine tA 9 ?_;refine tA 10 ?_;refine tA 11 ?_;refine tA 12 ?_;refine tA 15 ?_;refine wpAny_ready (rs:=[16]) zK zS (AllReady.cons rfl (fun K hK=>?_) AllReady.nil)
        go_simp
        refine hK _ _ ?_;clear hK K;refine wpAny_done zK ?_ _;simp only[onlyNormal];have h3:=(HT2.out.put_g (a:=k) (b:=m) zO zO hKK ((u:Int) != (v:Int))).drewN 1;rw[mid_step n _ _ hmn ((u:Int) != (v:Int)) (by rw[hg];simp[HU.out,HV.out,beq_int,bne])] at h3;have HT3:=zh h3;clear h3
        gi_wp2_with fail
        go_roundw
        case rel=>exact⟨m+1,zO,zN,HT3.out⟩
        case measure=>exact zJ
       ·rw[hg] at c2
        gi_wp2_with fail
        refine wpIn_region_round zK zK ?_;refine tA 0 ?_;refine tA 1 ?_;refine tA 2 ?_;refine tA 3 ?_;refine tA 4 ?_;refine tA 5 ?_;refine tA 6 ?_;refine tA 13 ?_;refine tA 14 ?_;refine wpAny_ready (rs:=[7]) zK zS (AllReady.cons rfl (fun K hK=>?_) AllReady.nil)
        go_simp
        refine hK _ _ ?_;clear hK K;refine tA 8 ?_;refine wpAny_take (i:=9) rfl zK zK zK zI (Or.inr ⟨by rfl,rfl⟩) ?_;refine wpAny_take (i:=10) rfl zK zK zK zI (Or.inr ⟨by rfl,rfl⟩) ?_;refine wpAny_take (i:=11) rfl zK zK zK zI (Or.inr ⟨by rfl,rfl⟩) ?_;refine tA 12 ?_;refine tA 15 ?_;refine wpAny_ready (rs:=[16]) zK zS (AllReady.cons rfl (fun K hK=>?_) AllReady.nil)
        go_simp
        refine hK _ _ ?_;clear hK K;refine wpAny_done zK ?_ _;simp only[onlyNormal];have h3:=(HT2.out.put_g (a:=k) (b:=m) zO zO hKK true).drewN 1;rw[mid_step n _ _ hmn true (by rw[hg];simp[HU.out,HV.out])] at h3;have HT3:=zh h3;clear h3
        gi_wp2_with fail
        go_roundw
        case rel=>exact⟨m+1,zO,zN,HT3.out⟩
        case measure=>exact zJ
     ·have HT:=zh ht;clear ht
      gi_wp2_with fail
      go_roundw
      case rel=>
       refine⟨k+1,zO,zN,?_⟩;have e:m=n:=by omega
       have h:=HT.out;rw[e] at h;rw[←mid_row,←mid_row];exact h
      case measure=>exact zJ
   ·have e:k=n:=by omega
    have h:=ht;rw[e,mid_end,mid_end'] at h;have HT:=zh h;clear ht h e
    gi_wp2_with fail
    exact⟨HT.out.keep,HT.out.t2,HT.out.t4,by have h5:=HT.out.t5;rw[show(!(pre++[x]).isEmpty)=true from by simp];exact h5,HT.out.old⟩
 case done=>
  rintro W ⟨i1,i2,i3,i4⟩ hD;have hlt:=i3.lt;obtain⟨T,hT⟩:=zx (tabCells (togB n (allR c)) (aptB n (allR c)));have hTs:T.size=128:=by rw[←hT];exact tabCells_size _ _
  have hT1:T.all (·.oneCell')=true:=by rw[←hT];exact tab_one _ _
  rw[hT] at i2;have hi:(Tryz.prog.info? 143).map (·.size)=some T.size:=by rw[hTs];kernel_rfl
  have l1:(Instr.loadAt 143 (.pointer (some ⟨w.heap.size+1,0,none⟩))).run Tryz.prog W.drew = .ok (.agg T) W.drew:=by
   simp only[Instr.loadAt,Instr.sureAddr,Sem.run_bind,Sem.run_pure,Result.andThen_ok,run_loadVar_row W.drew (w.heap.size+1) 143 143 T (0,0) _ i2 Tryz.underlying143 rfl hi]
  have s1:(Instr.storeAt 143 (.pointer (some ⟨w.heap.size,0,none⟩)) (.agg T)).run Tryz.prog W.drew = .ok () (W.drew.setRow w.heap.size T):=by
   simp only[Instr.storeAt,Instr.sureAddr,Sem.run_bind,Sem.run_pure,Result.andThen_ok,run_storeVar_row W.drew w.heap.size 143 143 _ T i1 hi (by rw[tabCells_size,hTs]) hT1]
  obtain⟨k1,k2⟩:=i3.rules;have k3:∀i,(W.drew.setRow w.heap.size T).cell? ⟨w.heap.size+2,i,none⟩=(#[.bool (!(allR c).isEmpty)]:Array Value)[i]?:=fun i=>by
   rw[←k1 i];have e:(W.drew.setRow w.heap.size T).heap[w.heap.size+2]?=W.heap[w.heap.size+2]?:=by
    show(W.heap.modify w.heap.size _)[w.heap.size+2]?=_
    rw[Array.getElem?_modify];simp
   simp only[World.cell?,e]
  gi_wp2_with fail
  refine wpIn_wide.2 ?_;have fin:∀a,a.defers=[{target:=.collected (w.heap.size+4),args:=#[]}]→a.tmps.getD 2 undef = .pointer (some ⟨w.heap.size,0,none⟩)→a.tmps.getD 3 undef = .bool (!(allR c).isEmpty)→bodyPostM Fence.wide 0 Tryz.prog Tryz.f174 (TabPost c (allR c) w) .ret a (W.drew.setRow w.heap.size T):=by
   intro a h1 h2 h3;have hD':(W.drew.setRow w.heap.size T).heap[w.heap.size+4]?=some (.deferred (some [])):=by
    rw[←hsz,←hD]
    show(W.heap.modify w.heap.size _)[w4.heap.size]?=_
    rw[Array.getElem?_modify];simp;omega
   have hbx:Box ((W.drew.setRow w.heap.size T).putObj (w.heap.size+4) (.deferred none)) w.heap.size T 143:=by
    refine Box.putObj_far ?_ zO
    show(W.heap.modify w.heap.size _)[w.heap.size]?=_
    rw[Array.getElem?_modify,i1,if_pos rfl];rfl
   show LeavesInM _ _ _ _ _ _ a.defers _ _
   rw[h1];refine⟨by simp,.inl ⟨_,_,rfl,run_takeDeferred hD',?_⟩⟩;refine⟨.tuple #[.agg T,a.tmps.getD 3 undef],results_cell_tmp rfl h2 (run_loadVar_row _ _ 143 143 T (0,0) _ hbx Tryz.underlying143 rfl hi),?_⟩;rw[h3,←hT];refine⟨below_put (k:=w.heap.size+4) ?_ zO _,by rw[HN.out]⟩;refine⟨i4.os,i4.tape,i4.output,by simpa[World.setRow] using i4.size,fun k hk=>?_⟩;rw[←i4.block k hk]
   show(W.heap.modify w.heap.size _)[k]?=_
   rw[Array.getElem?_modify];simp;omega
  refine wp_region_noPanic ?_;refine wp_region_any zK ?_
  try (change wpAny _ _ _ _ _ _ _ (World.drew _))
  refine wpAny_ready (rs:=[0,1]) zK zS (AllReady.cons rfl (fun K hK=>?_) (AllReady.cons rfl (fun K hK=>?_) AllReady.nil))
  ·skip
   rw[if_pos (by rfl)];refine wp_load_box _ _ rfl rfl l1 ?_;refine hK _ _ ?_;clear hK K;refine wpAny_ready (rs:=[1,2]) zK zS (AllReady.cons rfl (fun K hK=>?_) (AllReady.cons rfl (fun K hK=>?_) AllReady.nil))
   ·skip
    go_simp
    refine hK _ _ ?_;clear hK K;refine wpAny_ready (rs:=[2]) zK zS (AllReady.cons rfl (fun K hK=>?_) AllReady.nil);rw[if_pos (by rfl)];refine wp_store_box _ _ _ rfl rfl rfl s1 ?_;refine hK _ _ ?_;clear hK K;refine tA 3 ?_;refine wpAny_done zK ?_ _;refine NoPanic.normal ?_
    gi_wp2_with fail
    exact fin _ rfl rfl rfl
   ·skip
    rw[if_pos (by rfl)];refine wp_store_box _ _ _ rfl rfl rfl s1 ?_;refine hK _ _ ?_;clear hK K;refine wpAny_ready (rs:=[1]) zK zS (AllReady.cons rfl (fun K hK=>?_) AllReady.nil)
    go_simp
    refine hK _ _ ?_;clear hK K;refine tA 3 ?_;refine wpAny_done zK ?_ _;refine NoPanic.normal ?_
    gi_wp2_with fail
    exact fin _ rfl rfl rfl
  ·skip
   go_simp
   refine hK _ _ ?_;clear hK K;refine wpAny_ready (rs:=[0]) zK zS (AllReady.cons rfl (fun K hK=>?_) AllReady.nil);rw[if_pos (by rfl)];refine wp_load_box _ _ rfl rfl l1 ?_;refine hK _ _ ?_;clear hK K;refine wpAny_ready (rs:=[2]) zK zS (AllReady.cons rfl (fun K hK=>?_) AllReady.nil);rw[if_pos (by rfl)];refine wp_store_box _ _ _ rfl rfl rfl s1 ?_;refine hK _ _ ?_;clear hK K;refine tA 3 ?_;refine wpAny_done zK ?_ _;refine NoPanic.normal ?_
   gi_wp2_with fail
   exact fin _ rfl rfl rfl
 case stop=>intro _ _ _ _ h;exact h.elim
end
theorem Box.setRow_same {w:World}{b:Nat}{cs cs':Array Value}{t:TypeId}(h:Box w b cs t):Box (w.setRow b cs') b cs' t:=by
 show(w.heap.modify b _)[b]?=_
 unfold Box at h;rw[Array.getElem?_modify,h,if_pos rfl];rfl
theorem Box.setRow_far {w:World}{b b':Nat}{cs cs':Array Value}{t:TypeId}(h:Box w b cs t)(hb:b'≠b):Box (w.setRow b' cs') b cs t:=by
 show(w.heap.modify b' _)[b]?=_
 rw[Array.getElem?_modify,if_neg hb];exact h
theorem below_setRow {B:Nat}{w W:World}(h:Below B w W){b:Nat}(hb:B≤b)(cs:Array Value):Below B w (W.setRow b cs):=
 ⟨h.os,h.tape,h.output,by simpa[World.setRow] using h.size,fun k hk=>by
  rw[←h.block k hk]
  show(W.heap.modify b _)[k]?=_
  rw[Array.getElem?_modify,if_neg zO]⟩
theorem size_setRow (W:World)(b:Nat)(cs:Array Value):(W.setRow b cs).heap.size=W.heap.size:=by simp[World.setRow]
theorem run_store_row {P:Program}{w:World}{b:Nat}{old T:Array Value}{ty:TypeId}(hb:Box w b old ty)(hi:(P.info? ty).map (·.size)=some T.size)(ho:old.size=T.size)(h1:T.all (·.oneCell')=true):
 (Instr.storeAt ty (.pointer (some ⟨b,0,none⟩)) (.agg T)).run P w = .ok () (w.setRow b T):=by
 simp only[Instr.storeAt,Instr.sureAddr,Sem.run_bind,Sem.run_pure,Result.andThen_ok,run_storeVar_row w b ty ty _ T hb hi ho h1]
theorem run_load_row {P:Program}{w:World}{b:Nat}{T:Array Value}{ty:TypeId}{d:TypeDesc}(hb:Box w b T ty)(hu:P.underlying ty=some d)(hd:(match d with | .struct _ | .array _ _=>true|_=>false)=true)(hi:(P.info? ty).map (·.size)=some T.size):
 (Instr.loadAt ty (.pointer (some ⟨b,0,none⟩))).run P w = .ok (.agg T) w:=by
 simp only[Instr.loadAt,Instr.sureAddr,Sem.run_bind,Sem.run_pure,Result.andThen_ok,run_loadVar_row w b ty ty T (0,0) _ hb hu hd hi]
theorem wpList_store_box {P:Program}{ops:Array Oper}{rest:List Oper}{o:Oper}{a:Act}{w w':World}{Q:Exit→Act→World→Prop}(hg:o.guard=none)(ty:TypeId)(x y:Operand)(ho:o.op = .store ty x y){p v:Value}(hx:a.eval x=p)(hy:a.eval y=v)
 (hr:(Instr.storeAt ty p v).run P w = .ok () w') (h:wpList P ops Q rest (a.put o.dst undef) w'):wpList P ops Q (o::rest) a w:=
 wpList_plain hg fun _ hK=>wp_store_box ty x y ho hx hy hr (hK _ _ h)
theorem wpList_load_box {P:Program}{ops:Array Oper}{rest:List Oper}{o:Oper}{a:Act}{w:World}{Q:Exit→Act→World→Prop}(hg:o.guard=none)(ty:TypeId)(x:Operand)(ho:o.op = .load ty x){p v:Value}(hx:a.eval x=p)
 (hr:(Instr.loadAt ty p).run P w = .ok v w) (h:wpList P ops Q rest (a.put o.dst v) w):wpList P ops Q (o::rest) a w:=
 wpList_plain hg fun _ hK=>wp_load_box ty x ho hx hr (hK _ _ h)
theorem results_tct {P:Program}{fn:Func}{s t u:Tmp}{ty:TypeId}(h:fn.results = #[.tmp s,.cell t ty,.tmp u]){tmps:Array Value}{w:World}{p:Addr}{v:Value}(hp:tmps.getD t undef = .pointer (some p))
 (hr:(loadVar ty p).run P w = .ok v w):(results fn tmps).run P w = .ok (.tuple #[tmps.getD s undef,v,tmps.getD u undef]) w:=by
 have hp':tmps[t]?.getD undef = .pointer (some p):=by simpa using hp
 simp[results,h,hp',asAddr,hr]
def zeroTab:Array Value:=tabCells (fun _ _=>false) (fun _ _=>false)
theorem tab_info (f g:Nat→Nat→Bool):(Tryz.prog.info? 143).map (·.size)=some (tabCells f g).size:=by rw[tabCells_size];kernel_rfl
def askErr (c:Cs)(ps:List Int):Int:=if openErr c ps=0 then(if(allR c).isEmpty then 61 else 0) else openErr c ps
def caseTab (c:Cs):Array Value:=tabCells (togB c.parts.length (allR c)) (aptB c.parts.length (allR c))
def AskedPost (c:Cs)(pa:Option Addr)(pc:Nat)(er:Int)(w:World)(e:Ending)(w':World):Prop:=
 Below w.heap.size w w'∧((er≠0∧e = .returned (.tuple #[.pointer none,.agg zeroTab,.int .i64 er])) ∨
  (er=0∧∃bb,e = .returned (.tuple #[.pointer (some ⟨bb,0,none⟩),.agg (caseTab c),.int .i64 0])∧w.heap.size≤bb∧Box w' bb (csCells c pa pc) 219))
theorem asked_any (c:Cs)(hsm:c.Small)(pa:Option Addr)(pc:Nat)(ps:List Int)(xa:Option Addr)(xc:Nat)(w:World)(hp:PartsAt w pa c.parts)(hx:Ints w xa ps)(hxl:ps.length≤10):
 Calls Tryz.prog 105 #[.agg #[.string c.ware,.int .i64 c.limit,.int .i64 c.by_,.slice pa c.parts.length pc],.slice xa ps.length xc] w (AskedPost c pa pc (askErr c ps) w):=by
 obtain⟨w2,hw2⟩:=zx ((w.alloc (.cells #[.string c.ware,.int .i64 c.limit,.int .i64 c.by_,.slice pa c.parts.length pc] 24)).alloc (.cells Tryz.zeroCells143 143));have hB2:Below w.heap.size w w2:=by rw[←hw2];go_grown
 have b0:Box w2 w.heap.size (csCells c pa pc) 24:=by rw[←hw2];exact(Box.new _ _ _).alloc _
 have b1:Box w2 (w.heap.size+1) zeroTab 143:=by rw[←hw2,zero_tab];exact Box.new' zS
 have e0:=zC (b0);have ho:=opened_any c hsm pa pc ps xa xc w2 (hp.below hB2) (hx.below hB2) hxl;have HP:=zh hp;have B1:=zh b1;have HW:=zh hw2;have hsz:w2.heap.size=w.heap.size+2:=by rw[←hw2];simp
 clear hp hx b0 b1 hw2
 by_cases hz:openErr c ps=0
 ·have hoo:=opened_good ho hz;have h8:=check_small hz;have HO:=zh hoo;clear ho hoo
  rcases hem:(allR c).isEmpty with _|_
  ·have hae:askErr c ps=0:=by simp[askErr,hz,hem]
   rw[hae]
   go_enter Tryz.func105,Tryz.ntmps105
   go_upto_region 1 with fail
   simp only[HW.out]
   go_wp2_with (first
    |(go_at_call 173;refine zM HO ?_;rintro e w3 ⟨bb,rfl,hbb,hbx,hb⟩;have HT:=zh (table_any c _ rfl h8 pa pc w3 (HP.out.below (hB2.trans (hb.mono hB2.size))) bb hbx);have HB:=zh hb;have HX:=zh hbx;clear hb hbx)
    |(go_at_call 174;refine zM HT ?_;rintro e w4 ⟨hb4,rfl⟩;have H4:=zh hb4;clear hb4;rw[hem];have hS:=run_store_row (P:=Tryz.prog) (T:=caseTab c) (Box.new w4 Tryz.zeroCells143 143) (tab_info _ _) (by rw[zero_tab,tabCells_size];exact(tabCells_size _ _).symm) (tab_one _ _))
    |(refine wpList_store_box rfl 143 _ _ rfl rfl rfl hS ?_))
   have hlt:w2.heap.size≤w3.heap.size:=HB.out.size;have hl4:=H4.out.size;have hbl:=HX.out.lt;have g9:Box ((w4.alloc (.cells Tryz.zeroCells143 143)).setRow w4.heap.size (caseTab c)) w4.heap.size (caseTab c) 143:=(Box.new w4 Tryz.zeroCells143 143).setRow_same;have g5:Box ((w4.alloc (.cells Tryz.zeroCells143 143)).setRow w4.heap.size (caseTab c)) (w.heap.size+1) zeroTab 143:=(((B1.out.below' HB.out).below' H4.out).alloc _).setRow_far zO;have gb:Box ((w4.alloc (.cells Tryz.zeroCells143 143)).setRow w4.heap.size (caseTab c)) bb (csCells c pa pc) 219:=((HX.out.below' H4.out).alloc _).setRow_far zO;have gB:Below w.heap.size w ((w4.alloc (.cells Tryz.zeroCells143 143)).setRow w4.heap.size (caseTab c)):=below_setRow (((hB2.trans (HB.out.mono hB2.size)).trans (H4.out.mono zO)).alloc zO _) zO _
   generalize ((w4.alloc (.cells Tryz.zeroCells143 143)).setRow w4.heap.size (caseTab c))=w5 at *;have l1:=run_load_row (P:=Tryz.prog) (w:=w5.drew) g9 Tryz.underlying143 rfl (tab_info _ _);have s1:=run_store_row (P:=Tryz.prog) (w:=w5.drew) (T:=caseTab c) g5 (tab_info _ _) ((tabCells_size _ _).trans (tabCells_size _ _).symm) (tab_one _ _);refine wp_region_any zK ?_
   try (change wpAny _ _ _ _ _ _ _ (World.drew _))
   refine tA 0 ?_;refine tA 2 ?_;refine wpAny_ready (rs:=[1]) zK zS (AllReady.cons rfl (fun K hK=>?_) AllReady.nil);rw[if_pos (by rfl)];refine wp_load_box _ _ rfl rfl l1 ?_;refine hK _ _ ?_;clear hK K;refine wpAny_ready (rs:=[3]) zK zS (AllReady.cons rfl (fun K hK=>?_) AllReady.nil);rw[if_pos (by rfl)];refine wp_store_box _ _ _ rfl rfl rfl s1 ?_;refine hK _ _ ?_;clear hK K;refine tA 4 ?_;refine wpAny_done zK ?_ _
   go_wp2_with fail
   have q1:Box (w5.drew.setRow (w.heap.size+1) (caseTab c)) (w.heap.size+1) (caseTab c) 143:=g5.drew.setRow_same;refine bodyPost_ret (results_tct rfl rfl (run_loadVar_row _ _ 143 143 (caseTab c) (0,0) _ q1 Tryz.underlying143 rfl (tab_info _ _))) rfl ?_;exact⟨below_setRow gB.drew zO _,.inr ⟨rfl,bb,rfl,zO,gb.drew.setRow_far zO⟩⟩
  ·have hae:askErr c ps=61:=by simp[askErr,hz,hem]
   rw[hae]
   go_enter Tryz.func105,Tryz.ntmps105
   go_upto_region 1 with fail
   simp only[HW.out]
   go_wp2_with (first
    |(go_at_call 173;refine zM HO ?_;rintro e w3 ⟨bb,rfl,hbb,hbx,hb⟩;have HT:=zh (table_any c _ rfl h8 pa pc w3 (HP.out.below (hB2.trans (hb.mono hB2.size))) bb hbx);have HB:=zh hb;have HX:=zh hbx;clear hb hbx)
    |(go_at_call 174;refine zM HT ?_;rintro e w4 ⟨hb4,rfl⟩;have H4:=zh hb4;clear hb4;rw[hem];have hS:=run_store_row (P:=Tryz.prog) (T:=caseTab c) (Box.new w4 Tryz.zeroCells143 143) (tab_info _ _) (by rw[zero_tab,tabCells_size];exact(tabCells_size _ _).symm) (tab_one _ _);have hS2:=run_store_row (P:=Tryz.prog) (T:=zeroTab) ((((B1.out.below' HB.out).below' H4.out).alloc (.cells Tryz.zeroCells143 143)).setRow_far (b':=w4.heap.size) (cs':=caseTab c) (by have:=HB.out.size;have:=H4.out.size;omega)) (tab_info _ _) rfl (tab_one _ _))
    |(refine wpList_store_box rfl 143 _ _ rfl rfl rfl hS ?_)
    |(refine wpList_store_box rfl 143 _ _ rfl rfl rfl hS2 ?_))
   have hlt:w2.heap.size≤w3.heap.size:=HB.out.size;have hl4:=H4.out.size;have g5:Box ((w4.alloc (.cells Tryz.zeroCells143 143)).setRow w4.heap.size (caseTab c)) (w.heap.size+1) zeroTab 143:=(((B1.out.below' HB.out).below' H4.out).alloc _).setRow_far zO;refine bodyPost_ret (results_tct rfl rfl (run_loadVar_row _ _ 143 143 zeroTab (0,0) _ g5.setRow_same Tryz.underlying143 rfl (tab_info _ _))) rfl ?_;exact⟨below_setRow (below_setRow (((hB2.trans (HB.out.mono hB2.size)).trans (H4.out.mono zO)).alloc zO _) zO _) zO _,.inl ⟨by decide,rfl⟩⟩
 ·have hoo:=opened_bad ho hz;have HO:=zh hoo;clear ho hoo;have hzz:(openErr c ps != 0)=true:=by simpa using hz
  have hae:askErr c ps=openErr c ps:=by simp[askErr,hz]
  rw[hae]
  go_enter Tryz.func105,Tryz.ntmps105
  go_upto_region 1 with fail
  simp only[HW.out]
  go_wp2_with (first
   |(go_at_call 173;refine zM HO ?_;rintro e w' ⟨rfl,hb⟩;have hS:=run_store_row (P:=Tryz.prog) (T:=zeroTab) (B1.out.below' hb) (tab_info _ _) rfl (tab_one _ _))
   |(refine wpList_store_box rfl 143 _ _ rfl rfl rfl hS ?_))
  have q1:Box (w'.setRow (w.heap.size+1) zeroTab) (w.heap.size+1) zeroTab 143:=(B1.out.below' hb).setRow_same;refine bodyPost_ret (results_tct rfl rfl (run_loadVar_row _ _ 143 143 zeroTab (0,0) _ q1 Tryz.underlying143 rfl (tab_info _ _))) rfl ?_;exact⟨below_setRow (hB2.trans (hb.mono hB2.size)) zO _,.inl ⟨hz,rfl⟩⟩
