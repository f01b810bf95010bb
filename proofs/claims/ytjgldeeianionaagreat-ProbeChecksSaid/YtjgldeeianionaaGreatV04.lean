/- Walks and plain laws. No condition. -/
import Derived.Shelf.Abstract
import Derived.Test.YtjgldeeianionaaGreatV03
set_option maxHeartbeats 2000000
set_option maxRecDepth 100000
set_option linter.unusedSimpArgs false
set_option linter.unusedVariables false
namespace Go.Proofs.YtjgldeeianionaaGreat
open Go.RowKit
section
def RowOwn (B:Nat)(w:World)(a:Option Addr)(xs:List Value):Prop:=
 ∀k v,xs[k]?=some v→∃b o,a=some ⟨b,o,none⟩∧B≤b∧w.cell? ⟨b,o+k,none⟩=some v∧w.frozen? ⟨b,o+k,none⟩=false
theorem RowOwn.row {B:Nat}{w:World}{a:Option Addr}{xs:List Value}(h:RowOwn B w a xs):Row w a xs:=fun k v hv=>by
 obtain⟨b,o,h1,_,h2,_⟩:=h k v hv;exact⟨b,o,h1,h2⟩
theorem RowOwn.below {B:Nat}{w w':World}{a:Option Addr}{xs:List Value}(h:RowOwn B w a xs)(hb:Below w.heap.size w w'):RowOwn B w' a xs:=fun k v hv=>by
 obtain⟨b,o,h1,h2,h3,h4⟩:=h k v hv;exact⟨b,o,h1,h2,below_cell hb h3,(hb.frozen (p:=⟨b,o+k,none⟩) (lt_of_cell h3)).trans h4⟩
theorem RowOwn.less {B B':Nat}{w:World}{a:Option Addr}{xs:List Value}(h:RowOwn B w a xs)(hB:B'≤B):RowOwn B' w a xs:=fun k v hv=>by
 obtain⟨b,o,h1,h2,h3⟩:=h k v hv;exact⟨b,o,h1,Nat.le_trans hB h2,h3⟩
theorem RowOwn.nil (B:Nat)(w:World)(a:Option Addr):RowOwn B w a []:=fun k v hv=>by simp at hv
theorem add_none (b o j:Nat):(⟨b,o,none⟩:Addr).add j=⟨b,o+j,none⟩:=by
 unfold Addr.add
 split
 ·rename_i h;subst h;rfl
 ·rfl
theorem ownsRow_own {w:World}{base:Nat}{e:TypeId}{size n:Nat}{v:Value}{xs:List Value}(h:w.ownsRow base e size v n xs):∃a cap,v = .slice a n cap∧RowOwn base w a xs∧n≤cap:=by
 rcases h.2 with ⟨rfl,rfl⟩|⟨g,cap,cur,rfl,hg,hh,hc1,hc2,hcs,hcur⟩
 ·refine⟨none,0,rfl,?_,Nat.le_refl _⟩;have:xs=[]:=List.eq_nil_of_length_eq_zero (by simpa using h.1);subst this;exact RowOwn.nil _ _ _
 ·refine⟨some ⟨g,0,none⟩,cap,rfl,fun k u hu=>⟨g,0,rfl,hg,?_,?_⟩,hc1⟩
  ·have:=h.cells (g:=g) rfl k u hu
   rwa [add_none] at this
  ·simp[World.frozen?,hh]
theorem ownsRow_empty (w:World)(base:Nat)(e:TypeId)(size:Nat)(hb:base≤w.heap.size):(w.alloc (.cells #[] e)).ownsRow base e size (.slice (some ⟨w.heap.size,0,none⟩) 0 0) 0 []:=by
 refine⟨by simp,.inr ⟨w.heap.size,0,#[],rfl,hb,World.alloc_heap_new _ _,Nat.le_refl _,Nat.zero_le _,by simp,by simp⟩⟩
section
variable {P:Program}(w:World)
theorem run_append_none (base:Nat)(t ty e:TypeId)(i:TypeInfo)(size:Nat)(ht:P.underlying t=some (.slice e))(hi:P.info? e=some i)
 (v:Value) (n:Nat) (xs:List Value) (hown:w.ownsRow base e size v n xs) (c:Nat):(Builtin.append_ #[t,t] ty #[v,.slice none 0 c]).run P w = .ok v w:=by
 rcases hown.2 with ⟨rfl,rfl⟩|⟨g,cap,cur,rfl,_,_,hnc,_⟩
 ·simp[Builtin.append_,run_underlying ht,sizeOf,typeInfo,hi,Builtin.lenOf,Builtin.firstCells]
 ·simp[Builtin.append_,run_underlying ht,sizeOf,typeInfo,hi,Builtin.lenOf,Builtin.firstCells,hnc,storeCells]
theorem run_append_row (base:Nat)(t ty e:TypeId)(z:Value)(size bytes:Nat)(ht:P.underlying t=some (.slice e))(hinfo:(P.info? e).map (fun i=>(i.zero,i.size,i.bytes))=some (some z,size,bytes))
 (hzs:z.cells.size=size) (hsz:0<size) (v:Value) (n:Nat) (xs:List Value) (hown:w.ownsRow base e size v n xs)
 (a:Option Addr) (m c:Nat) (news:List Value) (hl:news.length=m*size) (hr:Row w a news) (h1:∀u∈news,u.oneCell'=true)
 (hlen:n+m≤1000000) (hbytes:bytes≤10000) (hbase:base≤w.heap.size):
 ∃v' w',(Builtin.append_ #[t,t] ty #[v,.slice a m c]).run P w = .ok v' w'∧w'.ownsRow base e size v' (n+m) (xs++news)∧w.grownBy w' v.ownBlock∧(v'.ownBlock=v.ownBlock∨v'.ownBlock=some w.heap.size):=by
 obtain⟨i,hi,hzz⟩:=Option.map_eq_some_iff.1 hinfo;simp only[Prod.mk.injEq] at hzz;obtain⟨hz,hs,hb⟩:=hzz;have hb2:(n+m)*bytes≤140737488355328:=Nat.le_trans (Nat.mul_le_mul hlen hbytes) (by decide)
 rcases a with _|ad
 ·have hn:news=[]:=by
   cases news with
   |nil=>rfl
   |cons u r=>
    obtain⟨b,o,h,_⟩:=hr 0 u rfl;cases h
  subst hn;have hm:m=0:=by
   rcases Nat.eq_zero_or_pos m with h|h
   ·exact h
   ·have:=Nat.mul_pos h hsz;simp at hl
    omega
  subst hm;exact⟨v,w,run_append_none w base t ty e i size ht hi v n xs hown c,by simpa using hown,World.grownBy.refl w _,.inl rfl⟩
 ·obtain⟨v',w',h1,h2,h3,_,h5⟩:=run_append_own_at (P:=P) w base t ty e i z size bytes ht hi hz hs hb hzs hsz v n xs hown ad m c news hl
   (fun j u hu=>by
    obtain⟨b,o,h,hc⟩:=hr j u hu;cases h;rw[add_none];exact hc) h1 (by simp only[maxLen];omega) hb2 hbase
  exact⟨v',w',h1,h2,h3,h5⟩
end
theorem grown_below {w w':World}{base B:Nat}{e:TypeId}{size n:Nat}{v:Value}{xs:List Value}(hown:w.ownsRow base e size v n xs)(hg:w.grownBy w' v.ownBlock)(hB:B≤base)(hs:B≤w.heap.size):Below B w w':=
 (Below.refl B w).grown hg hs (fun k hk=>by have:=(hown.lt k hk).1;omega)
theorem wpList_app {P:Program}{w:World}{ops:Array Oper}{rest:List Oper}{o:Oper}{a:Act}{Q:Exit→Act→World→Prop}(hg:o.guard=none)(s x:Operand)(t:TypeId)
 (hop:o.op = .call {callee:=.builtin .append,args:=#[s,x],argTypes:=#[t,t]}) {v u v':Value} {w':World} (hs:a.eval s=v) (hx:a.eval x=u)
 (hrun:(Builtin.append_ #[t,t] o.type #[v,u]).run P w = .ok v' w') (hK:wpList P ops Q rest (a.put o.dst v') w'):wpList P ops Q (o::rest) a w:=
 wpList_plain hg fun K hK'=>by
  unfold Oper.wp execOp;simp only[hop,resolve,invoke,builtin,Sem.run_bind,Sem.run_pure,Result.andThen_ok,List.map_toArray,List.map_cons,List.map_nil,hs,hx,hrun];exact hK' _ _ hK
theorem wpListIn_app {F:Fence}{n:Nat}{P:Program}{w:World}{ops:Array Oper}{rest:List Oper}{o:Oper}{a:Act}{Q:Exit→Act→World→Prop}(hg:o.guard=none)(s x:Operand)(t:TypeId)
 (hop:o.op = .call {callee:=.builtin .append,args:=#[s,x],argTypes:=#[t,t]}) {v u v':Value} {w':World} (hs:a.eval s=v) (hx:a.eval x=u)
 (hrun:(Builtin.append_ #[t,t] o.type #[v,u]).run P w = .ok v' w') (hK:wpListIn F n P ops Q rest (a.put o.dst v') w'):wpListIn F n P ops Q (o::rest) a w:=
 wpListIn_plain hg fun K hK'=>by
  unfold Oper.wpIn;refine⟨?_,?_⟩
  ·simp[Oper.about,hop,resolve,Target.leads,Sem.run_pure]
  ·rw[Oper.semAt_plain F _ _ (by rw[hop];intro c hc';cases hc')]
   simp[execOp,hop,resolve,invoke,builtin,hs,hx,hrun,Result.andThen]
   exact hK' _ _ hK
end
section
attribute [local go_sem] Oper.semAt_some
def OwnInts (B:Nat)(l:List Int)(w:World)(v:Value):Prop:=∃a c,v = .slice a l.length c∧RowOwn B w a (l.map (Value.int .i64))
def CopyPost (B:Nat)(l:List Int)(w:World)(e:Ending)(w':World):Prop:=∃v,e = .returned v∧OwnInts B l w' v∧Below w.heap.size w w'
theorem info_int:(Tryz.prog.info? 3).map (fun i=>(i.zero,i.size,i.bytes))=some (some (.int .i64 0),1,8):=zK
theorem ints_one (l:List Int):∀u∈l.map (Value.int .i64),u.oneCell'=true:=by
 intro u hu;simp at hu;obtain⟨x,_,rfl⟩:=hu
 rfl
theorem copied_any (a:Option Addr)(c:Nat)(l:List Int)(w:World)(h:Ints w a l)(hl:l.length≤100000):
 Calls Tryz.prog 215 #[.slice a l.length c] w (CopyPost w.heap.size l w):=by
 obtain⟨v',w',hrun,hown,hg,_⟩:=run_append_row (P:=Tryz.prog) (w.alloc (.cells #[] 3)) w.heap.size 26 26 3 (.int .i64 0) 1 8 Tryz.underlying26 info_int rfl zO
  (.slice (some ⟨w.heap.size,0,none⟩) 0 0) 0 [] (ownsRow_empty w _ _ _ (Nat.le_refl _)) a l.length c (l.map (.int .i64)) zS (h.below ((Below.refl _ w).alloc (Nat.le_refl _) _)) (ints_one l) zO zO zS
 have HO:=zh hown;have HG:=zh hg;have HR:=zh hrun;clear hown hg hrun
 go_enter Tryz.func215,Tryz.ntmps215
 go_wp2_with (at_builtin;refine wpList_app rfl _ _ _ rfl rfl rfl HR.out ?_)
 go_ret
 obtain⟨a',c',rfl,hr,_⟩:=ownsRow_own HO.out;refine⟨_,rfl,⟨a',c',by simp,by simpa using hr⟩,?_⟩;exact((Below.refl _ w).alloc (Nat.le_refl _) _).trans ((grown_below (ownsRow_empty w w.heap.size _ 1 (Nat.le_refl _)) HG.out (Nat.le_refl _) zS))
theorem all_any (bb:Nat)(w:World):
 Calls Tryz.prog 203 #[.pointer (some ⟨bb,0,none⟩)] w fun e w'=>e = .returned (.func (.func 217) #[] #[.pointer (some ⟨w.heap.size,0,none⟩)])∧w.alloc (.cells #[.pointer (some ⟨bb,0,none⟩)] 139)=w':=by
 have hmf:=run_mf Tryz.prog
 go_enter Tryz.func203,Tryz.ntmps203
 go_wp2
 go_ret
 exact⟨rfl,rfl⟩
theorem RowOwn.keep {B:Nat}{w w':World}{a:Option Addr}{xs:List Value}{K:Nat→Prop}(h:RowOwn B w a xs)(hk:Keep K w w')(hK:∀k,B≤k→K k):RowOwn B w' a xs:=fun k v hv=>by
 obtain⟨b,o,h1,h2,h3,h4⟩:=h k v hv;refine⟨b,o,h1,h2,hk.cell (hK b h2) h3,?_⟩;have:w'.frozen? ⟨b,o+k,none⟩=w.frozen? ⟨b,o+k,none⟩:=by simp only[World.frozen?,hk.block b (hK b h2) (lt_of_cell h3)]
 exact this.trans h4
theorem OwnInts.keep {B:Nat}{w w':World}{l:List Int}{v:Value}{K:Nat→Prop}(h:OwnInts B l w v)(hk:Keep K w w')(hK:∀k,B≤k→K k):OwnInts B l w' v:=by
 obtain⟨a,c,h1,h2⟩:=h;exact⟨a,c,h1,h2.keep hk hK⟩
theorem OwnInts.less {B B':Nat}{w:World}{l:List Int}{v:Value}(h:OwnInts B l w v)(hB:B'≤B):OwnInts B' l w v:=by
 obtain⟨a,c,h1,h2⟩:=h;exact⟨a,c,h1,h2.less hB⟩
def Holds (K:Nat)(caps:Array Value)(f:List Nat→Bool)(n:Nat)(w:World):Prop:=
 (∀args W,(callFunc K args).run Tryz.prog W = .ok (.enter K args) W) ∧
 ∀(x:List Nat) (g:Nat) (W:World),x.length=n→Below w.heap.size w W→Box W g (x.map fun v:Nat=>Value.int .i64 (v:Int)).toArray 3 →
  Calls Tryz.prog K (#[.slice (some ⟨g,0,none⟩) n n]++caps) W fun e W'=>e = .returned (.bool (f x))∧Below W.heap.size W W'
def natInts (x:List Nat):List Int:=x.map fun v:Nat=>(v:Int)
def FindPost (o:Option (List Nat))(w:World)(e:Ending)(w':World):Prop:=
 Below w.heap.size w w'∧match o with
  |none=>e = .returned (.tuple #[.slice none 0 0,.bool false])
  |some x=>∃v,e = .returned (.tuple #[v,.bool true])∧OwnInts w.heap.size (natInts x) w' v
theorem Box.putObj_far {w:World}{b:Nat}{cs:Array Value}{t:TypeId}(h:Box w b cs t){k:Nat}{o:Obj}(hk:b≠k):Box (w.putObj k o) b cs t:=(World.putObj_heap_other hk).trans h
theorem below_put {B:Nat}{w W:World}(h:Below B w W){k:Nat}(hk:B≤k)(o:Obj):Below B w (W.putObj k o):=
 ⟨h.os,h.tape,h.output,by simpa using h.size,fun i hi=>(World.putObj_heap_other zO).trans (h.block i hi)⟩
def FindI (fv:Value)(f:List Nat→Bool)(w:World)(pre:List (List Nat))(W:World):Prop:=
 Box W w.heap.size #[fv] 159∧Box W (w.heap.size+1) #[.slice none 0 0] 26∧Box W (w.heap.size+2) #[.bool false] 4∧Below w.heap.size w W∧pre.find? f=none
def FindX (f:List Nat→Bool)(w:World)(c:Code)(pre:List (List Nat))(W:World):Prop:=
 c = .ret∧Box W (w.heap.size+2) #[.bool true] 4∧Below w.heap.size w W∧∃x v,pre.find? f=some x∧Box W (w.heap.size+1) #[v] 26∧OwnInts (w.heap.size+10) (natInts x) W v
theorem find_any (c:Cs)(n:Nat)(hn:c.parts.length=n)(hn8:n≤8)(pa:Option Addr)(pc:Nat)(w:World)(hparts:PartsAt w pa c.parts)(bb:Nat)(hben:Box w bb (csCells c pa pc) 219)
 (K:Nat) (caps:Array Value) (f:List Nat→Bool) (hK:Holds K caps f n w):
 Calls Tryz.prog 196 #[.pointer (some ⟨bb,0,none⟩),.func (.func K) #[] caps] w (FindPost ((allR c).find? f) w):=by
 have hent:=hK.1;have HK:=zh hK.2;have HB:=zh hben;have HP:=zh hparts;have HN:=zh hn;clear hK hben hparts hn;refine(callsIn_wide (n:=0)).1 (callsIn_of_wp_marks Tryz.func196 rfl trivial ?_ rfl);simp only[Tryz.ntmps196,List.size_toArray,List.length_cons,List.length_nil,Nat.reduceAdd,Nat.reduceSub,Array.replicate_succ,Array.replicate_zero,List.push_toArray,List.append_toArray,List.nil_append,List.cons_append]
 gi_wp2_with (gi_at_call 203;(with_reducible refine(callsIn_wide.2 (all_any _ _)).mono ?_);rintro e w' ⟨rfl,rfl⟩)
 simp only[Nat.add_assoc,Nat.reduceAdd];have b0:Box ((((w.alloc (.cells #[.func (.func K) #[] caps] 159)).alloc (.cells #[.slice none 0 0] 26)).alloc (.cells #[.bool false] 4)).alloc (.cells #[.pointer (some ⟨bb,0,none⟩)] 139)) w.heap.size #[.func (.func K) #[] caps] 159:=(((Box.new _ _ _).alloc _).alloc _).alloc _;have b1:Box ((((w.alloc (.cells #[.func (.func K) #[] caps] 159)).alloc (.cells #[.slice none 0 0] 26)).alloc (.cells #[.bool false] 4)).alloc (.cells #[.pointer (some ⟨bb,0,none⟩)] 139)) (w.heap.size+1) #[.slice none 0 0] 26:=((Box.new' zS).alloc _).alloc _;have b2:Box ((((w.alloc (.cells #[.func (.func K) #[] caps] 159)).alloc (.cells #[.slice none 0 0] 26)).alloc (.cells #[.bool false] 4)).alloc (.cells #[.pointer (some ⟨bb,0,none⟩)] 139)) (w.heap.size+2) #[.bool false] 4:=(Box.new' zS).alloc _
 have b3:Box ((((w.alloc (.cells #[.func (.func K) #[] caps] 159)).alloc (.cells #[.slice none 0 0] 26)).alloc (.cells #[.bool false] 4)).alloc (.cells #[.pointer (some ⟨bb,0,none⟩)] 139)) (w.heap.size+3) #[.pointer (some ⟨bb,0,none⟩)] 139:=Box.new' zS;have hold:Below w.heap.size w ((((w.alloc (.cells #[.func (.func K) #[] caps] 159)).alloc (.cells #[.slice none 0 0] 26)).alloc (.cells #[.bool false] 4)).alloc (.cells #[.pointer (some ⟨bb,0,none⟩)] 139)):=by go_grown
 have hsz:((((w.alloc (.cells #[.func (.func K) #[] caps] 159)).alloc (.cells #[.slice none 0 0] 26)).alloc (.cells #[.bool false] 4)).alloc (.cells #[.pointer (some ⟨bb,0,none⟩)] 139)).heap.size=w.heap.size+4:=by simp
 generalize ((((w.alloc (.cells #[.func (.func K) #[] caps] 159)).alloc (.cells #[.slice none 0 0] 26)).alloc (.cells #[.bool false] 4)).alloc (.cells #[.pointer (some ⟨bb,0,none⟩)] 139))=w4 at *;have hbl:=HB.out.lt;refine wpIn_range (gf:=217) (lb:=#[.pointer (some ⟨w.heap.size+3,0,none⟩)]) (Z:=AllZ (w.heap.size+3)) (n0:=w.heap.size) (Rd:=AllRd (w.heap.size+3) n) (xs:=allR c) rfl (enters_of Tryz.func217 zK rfl) ?gives ?hz ?n0 ?ps ?rd
  (FindI (.func (.func K) #[] caps) f w) (FindX f w) ?hI ?hX ?h0 (fun _=>{tmps:=#[.pointer (some ⟨bb,0,none⟩),.func (.func K) #[] caps,undef,.pointer (some ⟨w.heap.size,0,none⟩),.pointer (some ⟨w.heap.size+1,0,none⟩),.pointer (some ⟨w.heap.size+2,0,none⟩),.slice (some ⟨w.heap.size+7,0,none⟩) n n,.pointer (some ⟨bb,0,none⟩),.func (.func 217) #[] #[.pointer (some ⟨w.heap.size+3,0,none⟩)],.slice (some ⟨w.heap.size+7,0,none⟩) n n,undef,undef,undef,undef,undef],defers:=[]}) ?assign ?body ?done ?stop
 case gives=>
  intro o1 o2;exact all1_gives c n HN.out hn8 pa pc w HP.out bb (w.heap.size+3) hbl zO _ zT ((hold.alloc zO _).alloc zT _) ((b3.alloc _).alloc _) (((HB.out.below hold hbl).alloc _).alloc _)
 case hz=>intro k hk;rw[hsz];simp only[AllZ] at hk;omega
 case n0=>omega
 case ps=>rintro x args W ⟨rfl,_⟩;rfl
 case rd=>
  rintro x args A B ⟨h1,h2,h3,h4⟩ hk;exact⟨h1,h2,hk.heap (by rw[hsz];omega) h3,Nat.le_trans h4 hk.size⟩
 case hI=>
  rintro s A B ⟨h1,h2,h3,h4,h5⟩ hk;rw[hsz] at hk;exact⟨hk.heap (by simp only[AllZ];omega) h1,hk.heap (by simp only[AllZ];omega) h2,hk.heap (by simp only[AllZ];omega) h3,h4.trans ((hk.mono fun i hi=>by simp only[AllZ];omega).below h4.size),h5⟩
 case hX=>
  rintro c s A B ⟨h1,h3,h4,x,v,h5,h6,h7⟩ hk;rw[hsz] at hk;exact⟨h1,hk.heap (by simp only[AllZ];omega) h3,h4.trans ((hk.mono fun i hi=>by simp only[AllZ];omega).below h4.size),x,v,h5,hk.heap (by simp only[AllZ];omega) h6,h7.keep hk (fun k hk=>by simp only[AllZ];omega)⟩
 case h0=>exact⟨b0,b1,b2,hold,rfl⟩
 case assign=>
  rintro l x args W Kk ⟨rfl,_⟩ hk
  gi_wp2
  exact hk
 case body=>
  rintro l pre x args W ⟨i1,i2,i3,i4,i5⟩ ⟨rfl,r2,r3,r4⟩ hpre hlt;have c0:=i1.cell
  gi_wp2_with fail
  have hh:=HK.out x (w.heap.size+7) W r2 i4 r3;refine(CallsIn.inRound l (callsIn_wide.2 hh)).mono ?_;rintro e W' ⟨rfl,hb⟩;have hlt':w.heap.size+1<W'.heap.size:=Nat.lt_of_lt_of_le zO hb.size;have hsub:(pre++[x]).find? f=if f x then some x else none:=by
   rw[List.find?_append,i5];simp[List.find?_cons];split<;>simp_all
  have j1:=i1.below' hb;have j2:=i2.below' hb;have j3:=i3.below' hb;have j4:=i4.trans (hb.mono i4.size);have kW:Keep (fun k=>k<w.heap.size∨AllZ (w.heap.size+3) k∨k=w4.heap.size∨k=w4.heap.size+1) W W':=Keep.of_below' hb
  rcases hfx:f x with _|_
  ·gi_wp2_with fail
   rw[hfx] at hsub;exact⟨kW,j1,j2,j3,j4,hsub⟩
  ·have hc:=copied_any (some ⟨w.heap.size+7,0,none⟩) n (natInts x) W' (by
    intro k v hv;refine⟨w.heap.size+7,0,rfl,?_⟩;have:=(r3.below' hb).cell (0+k);rw[this]
    simpa[natInts] using hv) (by simp[natInts];omega)
   rw[show(natInts x).length=n from by simp[natInts,r2]] at hc;have HC:=zh hc;clear hc
   gi_wp2_with (gi_at_call 215;refine(CallsIn.inRound l (callsIn_wide.2 HC.out)).mono ?_;rintro e W2 ⟨v,rfl,⟨a',c',rfl,hv⟩,hb2⟩;have k2:=(j2.below' hb2).rules;have k3:=(j3.below' hb2).rules;obtain⟨k21,k22⟩:=k2;obtain⟨k31,k32⟩:=k3)
   rw[hfx] at hsub;have hb3:Below W'.heap.size W' W2:=hb2;have q2:=((j2.below' hb2).set_ 0 (.slice a' (natInts x).length c')).far (p:=⟨w.heap.size+2,0,none⟩) zS (.bool true);have q3:=((j3.below' hb2).far (p:=⟨w.heap.size+1,0,none⟩) zS (.slice a' (natInts x).length c')).set_ 0 (.bool true);have q4:Below w.heap.size w ((W2.setCell ⟨w.heap.size+1,0,none⟩ (.slice a' (natInts x).length c')).setCell ⟨w.heap.size+2,0,none⟩ (.bool true)):=((j4.trans (hb2.mono j4.size)).setCell zS _).setCell zS _;have hz2:w.heap.size+10≤W'.heap.size:=by have:=hb.size;omega
   refine⟨?_,rfl,q3,q4,x,_,hsub,q2,a',c',rfl,?_⟩
   ·exact((kW.trans (Keep.of_below' hb2)).setCell (.inl (by simp only[AllZ];rw[hsz];omega)) _).setCell (.inl (by simp only[AllZ];rw[hsz];omega)) _
   ·have k5:Keep (fun k=>w.heap.size+10≤k) W2 ((W2.setCell ⟨w.heap.size+1,0,none⟩ (.slice a' (natInts x).length c')).setCell ⟨w.heap.size+2,0,none⟩ (.bool true)):=((Keep.refl _ W2).setCell (.inl zS) _).setCell (.inl zS) _;exact(hv.less hz2).keep k5 (fun k hk=>hk)
 case done=>
  rintro W ⟨i1,i2,i3,i4,i5⟩ hD;obtain⟨k21,k22⟩:=i2.rules;obtain⟨k31,k32⟩:=i3.rules;have hlt:=i3.lt;have q2:=(i2.set_ 0 (.slice none 0 0)).far (p:=⟨w.heap.size+2,0,none⟩) zS (.bool false);have q3:=(i3.far (p:=⟨w.heap.size+1,0,none⟩) zS (.slice none 0 0)).set_ 0 (.bool false);have q4:Below w.heap.size w ((W.setCell ⟨w.heap.size+1,0,none⟩ (.slice none 0 0)).setCell ⟨w.heap.size+2,0,none⟩ (.bool false)):=(i4.setCell zS _).setCell zS _;have qd:((W.setCell ⟨w.heap.size+1,0,none⟩ (.slice none 0 0)).setCell ⟨w.heap.size+2,0,none⟩ (.bool false)).heap[w4.heap.size]?=some (.deferred (some [])):=
   (Below.heap_setCell _ _ _ _ zT).trans ((Below.heap_setCell _ _ _ _ zT).trans hD)
  gi_wp2_with fail
  refine⟨by simp,.inl ⟨_,_,rfl,run_takeDeferred qd,?_⟩⟩;have m2:=q2.putObj_far (o:=.deferred none) (k:=w4.heap.size) zO;have m3:=q3.putObj_far (o:=.deferred none) (k:=w4.heap.size) zO;obtain⟨k41,k42⟩:=m2.rules;obtain⟨k51,k52⟩:=m3.rules;refine⟨.tuple #[.slice none 0 0,.bool false],?_,?_⟩
  ·simp[results,go_sem,k41,k51]
  ·exact⟨below_put q4 zO _,by rw[i5]⟩
 case stop=>
  rintro c pre W hpre ⟨rfl,x3,x4,x,v,x5,x6,x7⟩ hD
  gi_wp2_with fail
  refine⟨by simp,.inl ⟨_,_,rfl,run_takeDeferred hD,?_⟩⟩;have hlt:=x3.lt;obtain⟨a',c',rfl,h7⟩:=x7;have m2:=x6.putObj_far (o:=.deferred none) (k:=w4.heap.size) zO;have m3:=x3.putObj_far (o:=.deferred none) (k:=w4.heap.size) zO;obtain⟨k41,k42⟩:=m2.rules;obtain⟨k51,k52⟩:=m3.rules;refine⟨.tuple #[.slice a' (natInts x).length c',.bool true],?_,?_⟩
  ·simp[results,go_sem,k41,k51]
  ·have e:(allR c).find? f=some x:=by
    obtain⟨r,hr⟩:=hpre;rw[←hr,List.find?_append,x5];rfl
   refine⟨below_put x4 zO _,?_⟩;rw[e];have k5:Keep (fun k=>w.heap.size+10≤k) W (W.putObj w4.heap.size (.deferred none)):=(Keep.refl _ W).putObj zO _;exact⟨_,rfl,a',c',rfl,(h7.keep k5 (fun k hk=>hk)).less zO⟩
end
def openErr (c:Cs)(ps:List Int):Int:=if checkCase c=0 then(if ps.all fun p=>inB p 0 ((c.parts.length:Int)-1) then 0 else 1) else checkCase c
def OpenedPost (c:Cs)(pa:Option Addr)(pc:Nat)(er:Int)(w:World)(e:Ending)(w':World):Prop:=
 Below w.heap.size w w'∧((er≠0∧e = .returned (.tuple #[.pointer none,.int .i64 er])) ∨
  (er=0∧∃bb,e = .returned (.tuple #[.pointer (some ⟨bb,0,none⟩),.int .i64 0])∧w.heap.size≤bb∧Box w' bb (csCells c pa pc) 219))
theorem openErr_bad {c:Cs}{ps:List Int}(h:¬checkCase c=0):openErr c ps=checkCase c:=by simp[openErr,h]
theorem all_at {α:Type}{l:List α}{f:α→Bool}(h:∀(j:Nat) x,j<l.length→l[j]?=some x→f x=true):l.all f=true:=by
 rw[List.all_eq_true];intro p hp;obtain⟨j,hj,e⟩:=List.getElem_of_mem hp;exact h j p hj (by simp[hj,e])
theorem opened_any (c:Cs)(hsm:c.Small)(pa:Option Addr)(pc:Nat)(ps:List Int)(xa:Option Addr)(xc:Nat)(w:World)(hp:PartsAt w pa c.parts)(hx:Ints w xa ps)(hxl:ps.length≤10):
 Calls Tryz.prog 173 #[.agg #[.string c.ware,.int .i64 c.limit,.int .i64 c.by_,.slice pa c.parts.length pc],.slice xa ps.length xc] w (OpenedPost c pa pc (openErr c ps) w):=by
 have hl10:=hsm.1;have hcc:=checkCase_any c hsm pa pc (w.alloc (.cells #[.string c.ware,.int .i64 c.limit,.int .i64 c.by_,.slice pa c.parts.length pc] 24)) (hp.below ((Below.refl _ w).alloc (Nat.le_refl _) _));have HC:=zh hcc;have HX:=zh hx;clear hcc hp hx hsm
 go_enter Tryz.func173,Tryz.ntmps173
 go_wp2_with (go_at_call 139;refine zM HC ?_;rintro e w' ⟨rfl,hb⟩)
 ·have hne':¬checkCase c=0:=by
   have h:(checkCase c != 0)=true:=by assumption
   simpa using h
  go_ret2
  exact⟨((Below.refl _ w).alloc (Nat.le_refl _) _).trans (hb.mono zS),.inl ⟨by rw[openErr_bad hne'];exact hne',by rw[openErr_bad hne'];rfl⟩⟩
 ·have h0:(checkCase c != 0)=false:=by assumption
  have hz:checkCase c=0:=by simpa using h0
  simp only[h0];have hbx:Box w' w.heap.size (csCells c pa pc) 24:=(Box.new w (csCells c pa pc) 24).below' hb;have hB:Below w.heap.size w w':=((Below.refl _ w).alloc (Nat.le_refl _) _).trans (hb.mono zS);have hX:Ints w' xa ps:=HX.out.below hB;have e1:∀i,w'.cell? ⟨w.heap.size,i,none⟩=(#[.string c.ware,.int .i64 c.limit,.int .i64 c.by_,.slice pa c.parts.length pc]:Array Value)[i]?:=hbx.cell;have HZ:=zh hz;have HB:=zh hB;clear h0 hz hb hbx hB HC HX
  go_loopw [8,16] (fun _ i wr=>∃k:Nat,k≤ps.length∧i = .int .i64 k∧Hid (∀(j:Nat) x,j<k→ps[j]?=some x→inB x 0 ((c.parts.length:Int)-1)=true)∧w'=wr) (fun _ i _=>ps.length-(intOf i).toNat)
  case atStart=>exact⟨0,Nat.zero_le _,rfl,fun j x hj=>absurd hj (Nat.not_lt_zero j),rfl⟩
  case round=>
   obtain⟨k,hk,rfl,HA,rfl⟩:=hrel
   by_cases hlt:k<ps.length
   ·obtain⟨b,o,rfl,hb⟩:=hX.base zO;obtain⟨x,hx⟩:=get_of_lt ps hlt;have hc:=hb _ _ hx;have HXX:=zh hx;clear hx hb
    go_wp2_with (go_at_call 188;refine(in_any _ _ _ _).mono ?_;rintro e w' ⟨rfl,rfl⟩)
    ·have hf:inB x 0 ((c.parts.length:Int)-1)=false:=by
      have h:(!inB x 0 ((c.parts.length:Int)-1))=true:=by assumption
      simpa using h
     have hall:(ps.all fun p=>inB p 0 ((c.parts.length:Int)-1))=false:=by
      rw[List.all_eq_false];exact⟨x,List.mem_of_getElem? HXX.out,by simp[hf]⟩
     have e:openErr c ps=1:=by rw[openErr,if_pos HZ.out,hall];rfl
     go_ret2
     exact⟨HB.out,.inl ⟨by rw[e];decide,by rw[e];rfl⟩⟩
    ·have hf:inB x 0 ((c.parts.length:Int)-1)=true:=by
      have h:(!inB x 0 ((c.parts.length:Int)-1))=false:=by assumption
      simpa using h
     go_roundw
     case rel=>exact⟨k+1,zO,zN,fun j y hj hy=>by
      rcases Nat.lt_or_ge j k with h1|h1
      ·exact HA.out j y h1 hy
      ·obtain rfl:j=k:=by omega
       rw[HXX.out] at hy;cases hy;exact hf,trivial⟩
     case measure=>exact zJ
   ·go_wp2
    go_ret2
    have e:openErr c ps=0:=by rw[openErr,if_pos HZ.out,all_at (fun j x hj hx=>HA.out j x zO hx)];rfl
    exact⟨HB.out.alloc HB.out.size _,.inr ⟨e,_,rfl,HB.out.size,Box.new _ _ _⟩⟩
theorem anyList_any (v:Value)(w:World):Calls Tryz.prog 197 #[v] w fun e w'=>e = .returned (.bool true)∧w=w':=by
 go_enter Tryz.func197,Tryz.ntmps197
 go_wp2
 go_ret
 exact⟨rfl,rfl⟩
theorem anyList_holds (n:Nat)(w:World):Holds 197 #[] (fun _=>true) n w:=
 ⟨enters_of Tryz.func197 zK rfl,fun x g W _ _ _=>(anyList_any _ W).mono (by rintro e w' ⟨rfl,rfl⟩;exact⟨rfl,Below.refl _ _⟩)⟩
def asPair (a b:Nat)(t:Bool)(x:List Nat):Bool:=(x[a]?==x[b]?)==t
theorem withFn_any (n a b:Nat)(t:Bool)(x:List Nat)(ba bb bt g:Nat)(W:World)(hx:x.length=n)(ha:a<n)(hb:b<n)
 (h1:Box W ba #[.int .i64 a] 3) (h2:Box W bb #[.int .i64 b] 3) (h3:Box W bt #[.bool t] 4) (h4:Box W g (x.map fun v:Nat=>Value.int .i64 (v:Int)).toArray 3):
 Calls Tryz.prog 202 #[.slice (some ⟨g,0,none⟩) n n,.pointer (some ⟨ba,0,none⟩),.pointer (some ⟨bb,0,none⟩),.pointer (some ⟨bt,0,none⟩)] W fun e W'=>e = .returned (.bool (asPair a b t x))∧Below W.heap.size W W':=by
 have e1:=h1.cell;have e2:=h2.cell;have e3:=h3.cell;obtain⟨u,hu⟩:∃u,x[a]?=some u:=⟨x[a],by simp[hx,ha]⟩
 obtain⟨v,hv⟩:∃v,x[b]?=some v:=⟨x[b],by simp[hx,hb]⟩
 have e4:W.cell? ⟨g,a,none⟩=some (.int .i64 u):=by rw[h4.cell];simp[hu]
 have e5:W.cell? ⟨g,b,none⟩=some (.int .i64 v):=by rw[h4.cell];simp[hv]
 have HU:=zh hu;have HV:=zh hv;clear hu hv h1 h2 h3 h4 hx
 go_enter Tryz.func202,Tryz.ntmps202
 go_upto_region 1 with fail
 go_quiet (fail)
 go_wp2
 go_ret
 refine⟨ret_bool ?_,(Below.refl _ W).trans ⟨rfl,rfl,rfl,Nat.le_refl _,fun _ _=>rfl⟩⟩;have e:((u:Int)==(v:Int))=(x[a]?==x[b]?):=by
  rw[HU.out,HV.out,Bool.eq_iff_iff];simp;omega
 simp[asPair,e]
theorem withFn_holds (n a b:Nat)(t:Bool)(ba bb bt:Nat)(w:World)(ha:a<n)(hb:b<n)
 (h1:Box w ba #[.int .i64 a] 3) (h2:Box w bb #[.int .i64 b] 3) (h3:Box w bt #[.bool t] 4):
 Holds 202 #[.pointer (some ⟨ba,0,none⟩),.pointer (some ⟨bb,0,none⟩),.pointer (some ⟨bt,0,none⟩)] (asPair a b t) n w:=
 ⟨enters_of Tryz.func202 zK rfl,fun x g W hx hW hg=>withFn_any n a b t x ba bb bt g W hx ha hb (h1.below' hW) (h2.below' hW) (h3.below' hW) hg⟩
def ListPost (er:Int)(o:Option (List Nat))(w:World)(e:Ending)(w':World):Prop:=
 Below w.heap.size w w'∧((er≠0∧e = .returned (.tuple #[.slice none 0 0,.bool false,.int .i64 er]))∨(er=0∧o=none∧e = .returned (.tuple #[.slice none 0 0,.bool false,.int .i64 0])) ∨
  (er=0∧∃x v,o=some x∧e = .returned (.tuple #[v,.bool true,.int .i64 0])∧OwnInts w.heap.size (natInts x) w' v))
theorem opened_bad {c:Cs}{pa:Option Addr}{pc:Nat}{er:Int}{args:Array Value}{w:World}(h:Calls Tryz.prog 173 args w (OpenedPost c pa pc er w))(he:er≠0):
 Calls Tryz.prog 173 args w fun e w'=>e = .returned (.tuple #[.pointer none,.int .i64 er])∧Below w.heap.size w w':=
 h.mono (by
  rintro e w' ⟨hb,(⟨_,rfl⟩|⟨hz,_⟩)⟩
  ·exact⟨rfl,hb⟩
  ·exact absurd hz he)
theorem opened_good {c:Cs}{pa:Option Addr}{pc:Nat}{er:Int}{args:Array Value}{w:World}(h:Calls Tryz.prog 173 args w (OpenedPost c pa pc er w))(he:er=0):
 Calls Tryz.prog 173 args w fun e w'=>∃bb,e = .returned (.tuple #[.pointer (some ⟨bb,0,none⟩),.int .i64 0])∧w.heap.size≤bb∧Box w' bb (csCells c pa pc) 219∧Below w.heap.size w w':=
 h.mono (by
  rintro e w' ⟨hb,(⟨hz,_⟩|⟨_,bb,rfl,h1,h2⟩)⟩
  ·exact absurd he hz
  ·exact⟨bb,rfl,h1,h2,hb⟩)
theorem find_none {args:Array Value}{o:Option (List Nat)}{w:World}(h:Calls Tryz.prog 196 args w (FindPost o w))(ho:o=none):
 Calls Tryz.prog 196 args w fun e w'=>e = .returned (.tuple #[.slice none 0 0,.bool false])∧Below w.heap.size w w':=by
 subst ho;exact h.mono (by rintro e w' ⟨hb,rfl⟩;exact⟨rfl,hb⟩)
theorem find_some {args:Array Value}{o:Option (List Nat)}{x:List Nat}{w:World}(h:Calls Tryz.prog 196 args w (FindPost o w))(ho:o=some x):
 Calls Tryz.prog 196 args w fun e w'=>∃v,e = .returned (.tuple #[v,.bool true])∧OwnInts w.heap.size (natInts x) w' v∧Below w.heap.size w w':=by
 subst ho;exact h.mono (by rintro e w' ⟨hb,v,rfl,hv⟩;exact⟨v,rfl,hv,hb⟩)
theorem pair_ints (w:World)(a b:Int)(t:TypeId):Ints (w.alloc (.cells #[.int .i64 a,.int .i64 b] t)) (some ⟨w.heap.size,0,none⟩) [a,b]:=by
 intro k v hv;refine⟨_,_,rfl,?_⟩;rw[(Box.new w #[.int .i64 a,.int .i64 b] t).cell]
 rcases k with _|_|k
 ·simpa using hv
 ·simpa using hv
 ·simp at hv
theorem check_small {c:Cs}{ps:List Int}(h:openErr c ps=0):c.parts.length≤8:=by
 rcases Nat.lt_or_ge 8 c.parts.length with h8|h8
 ·simp[openErr,checkCase,h8] at h
 ·exact h8
theorem open_in {c:Cs}{ps:List Int}(h:openErr c ps=0):∀p∈ps,0≤p∧p<c.parts.length:=by
 intro p hp;have h1:checkCase c=0:=by
  by_cases h0:checkCase c=0
  ·exact h0
  ·simp[openErr,h0] at h
 by_cases h2:(ps.all fun p=>inB p 0 ((c.parts.length:Int)-1))=true
 ·have:=List.all_eq_true.1 h2 p hp
  simp[inB] at this
  omega
 ·simp[openErr,h1,h2] at h
theorem first_any (c:Cs)(hsm:c.Small)(pa:Option Addr)(pc:Nat)(w:World)(hp:PartsAt w pa c.parts):
 Calls Tryz.prog 149 #[.agg #[.string c.ware,.int .i64 c.limit,.int .i64 c.by_,.slice pa c.parts.length pc]] w (ListPost (checkCase c) ((allR c).find? fun _=>true) w):=by
 have hB1:Below w.heap.size w (w.alloc (.cells #[.string c.ware,.int .i64 c.limit,.int .i64 c.by_,.slice pa c.parts.length pc] 24)):=(Below.refl _ w).alloc (Nat.le_refl _) _;have ho:=opened_any c hsm pa pc [] none 0 (w.alloc (.cells #[.string c.ware,.int .i64 c.limit,.int .i64 c.by_,.slice pa c.parts.length pc] 24)) (hp.below hB1) (Ints.nil _ _) zS;have HO:=zh ho;have HP:=zh hp;clear ho hp;have heq:openErr c []=checkCase c:=by unfold openErr;split<;>simp[*]
 rw[heq] at HO;simp only[List.length_nil] at HO
 by_cases hz:checkCase c=0
 ·have ho:=opened_good HO.out hz;have h8:=check_small (heq.trans hz);have HO:=zh ho;clear ho
  rcases hfi:(allR c).find? (fun _=>true) with _|x
  ·go_enter Tryz.func149,Tryz.ntmps149
   go_wp2_with (first
    |(go_at_call 173;refine zM HO ?_;rintro e w' ⟨bb,rfl,hbb,hbx,hb⟩;have HF:=zh (find_none (find_any c _ rfl h8 pa pc _ (HP.out.below (hB1.trans (hb.mono zS))) bb hbx _ _ _ (anyList_holds _ _)) hfi);have HB:=zh (hB1.trans (hb.mono zS));clear hbx hb)
    |(go_at_call 196;refine zM HF ?_;rintro e w2 ⟨rfl,hb2⟩))
   go_ret3
   exact⟨HB.out.trans (hb2.mono HB.out.size),.inr (.inl ⟨hz,rfl,rfl⟩)⟩
  ·go_enter Tryz.func149,Tryz.ntmps149
   go_wp2_with (first
    |(go_at_call 173;refine zM HO ?_;rintro e w' ⟨bb,rfl,hbb,hbx,hb⟩;have HF:=zh (find_some (find_any c _ rfl h8 pa pc _ (HP.out.below (hB1.trans (hb.mono zS))) bb hbx _ _ _ (anyList_holds _ _)) hfi);have HB:=zh (hB1.trans (hb.mono zS));clear hbx hb)
    |(go_at_call 196;refine zM HF ?_;rintro e w2 ⟨v,rfl,hv,hb2⟩;have HV:=zh hv;clear hv))
   go_ret3
   exact⟨HB.out.trans (hb2.mono HB.out.size),.inr (.inr ⟨hz,_,_,rfl,rfl,HV.out.less HB.out.size⟩)⟩
 ·have ho:=opened_bad HO.out hz;have HO:=zh ho;clear ho
  go_enter Tryz.func149,Tryz.ntmps149
  have hzz:(checkCase c != 0)=true:=by simpa using hz
  go_wp2_with (go_at_call 173;refine zM HO ?_;rintro e w' ⟨rfl,hb⟩)
  go_ret3
  exact⟨hB1.trans (hb.mono zS),.inl ⟨hz,rfl⟩⟩
def boxed4 (w:World)(c:Cs)(pa:Option Addr)(pc:Nat)(x y:Int)(t:Bool):World:=
 (((w.alloc (.cells #[.string c.ware,.int .i64 c.limit,.int .i64 c.by_,.slice pa c.parts.length pc] 24)).alloc (.cells #[.int .i64 x] 3)).alloc (.cells #[.int .i64 y] 3)).alloc (.cells #[.bool t] 4)
theorem boxed4_size (w:World)(c:Cs)(pa:Option Addr)(pc:Nat)(x y:Int)(t:Bool):(boxed4 w c pa pc x y t).heap.size=w.heap.size+4:=by simp[boxed4]
theorem boxed4_below (w:World)(c:Cs)(pa:Option Addr)(pc:Nat)(x y:Int)(t:Bool):Below w.heap.size w (boxed4 w c pa pc x y t):=by unfold boxed4;go_grown
theorem boxed4_c (w:World)(c:Cs)(pa:Option Addr)(pc:Nat)(x y:Int)(t:Bool):Box (boxed4 w c pa pc x y t) w.heap.size (csCells c pa pc) 24:=(((Box.new _ _ _).alloc _).alloc _).alloc _
theorem boxed4_x (w:World)(c:Cs)(pa:Option Addr)(pc:Nat)(x y:Int)(t:Bool):Box (boxed4 w c pa pc x y t) (w.heap.size+1) #[.int .i64 x] 3:=((Box.new' zS).alloc _).alloc _
theorem boxed4_y (w:World)(c:Cs)(pa:Option Addr)(pc:Nat)(x y:Int)(t:Bool):Box (boxed4 w c pa pc x y t) (w.heap.size+2) #[.int .i64 y] 3:=(Box.new' zS).alloc _
theorem boxed4_t (w:World)(c:Cs)(pa:Option Addr)(pc:Nat)(x y:Int)(t:Bool):Box (boxed4 w c pa pc x y t) (w.heap.size+3) #[.bool t] 4:=Box.new' zS
theorem with_any (c:Cs)(hsm:c.Small)(pa:Option Addr)(pc:Nat)(x y:Int)(t:Bool)(w:World)(hp:PartsAt w pa c.parts):
 Calls Tryz.prog 171 #[.agg #[.string c.ware,.int .i64 c.limit,.int .i64 c.by_,.slice pa c.parts.length pc],.int .i64 x,.int .i64 y,.bool t] w
  (ListPost (openErr c [x,y]) ((allR c).find? (asPair x.toNat y.toNat t)) w):=by
 obtain⟨w4,hw4⟩:=zx (boxed4 w c pa pc x y t);have hsz:=boxed4_size w c pa pc x y t;have hB4:=boxed4_below w c pa pc x y t;have bc:=boxed4_c w c pa pc x y t;have bx:=boxed4_x w c pa pc x y t;have b_y:=boxed4_y w c pa pc x y t;have bt:=boxed4_t w c pa pc x y t;rw[hw4] at hsz hB4 bc bx b_y bt;have e0:=zC (bc);have e1:=bx.cell;have e2:=b_y.cell;have hlt:w.heap.size+3<w4.heap.size:=by omega
 unfold boxed4 at hw4;have hB5:Below w.heap.size w (w4.alloc (.cells #[.int .i64 x,.int .i64 y] 3)):=hB4.alloc zO _;have ho:=opened_any c hsm pa pc [x,y] (some ⟨w4.heap.size,0,none⟩) 2 (w4.alloc (.cells #[.int .i64 x,.int .i64 y] 3)) (hp.below hB5) (pair_ints _ _ _ _) zS;simp only[List.length_cons,List.length_nil,Nat.zero_add,Nat.reduceAdd] at ho;rw[hsz] at ho;have HP:=zh hp;have BX:=zh bx;have BY:=zh b_y;have BT:=zh bt;have HW:=zh hw4;clear hp bc bx b_y bt hw4
 by_cases hz:openErr c [x,y]=0
 ·have hoo:=opened_good ho hz;have h8:=check_small hz;have hx:=open_in hz x zS;have hy:=open_in hz y zS;obtain⟨a,rfl⟩:=Int.eq_ofNat_of_zero_le hx.1;obtain⟨b,rfl⟩:=Int.eq_ofNat_of_zero_le hy.1;simp only[Int.toNat_natCast];have HO:=zh hoo;clear ho hoo
  rcases hfi:(allR c).find? (asPair a b t) with _|l
  ·go_enter Tryz.func171,Tryz.ntmps171
   go_upto_region 1 with fail
   simp only[HW.out,Nat.add_assoc,Nat.reduceAdd]
   go_wp2_with (first
    |(go_at_call 173;refine zM HO ?_;rintro e w' ⟨bb,rfl,hbb,hbx,hb⟩;have HF:=zh (find_none (find_any c _ rfl h8 pa pc _ (HP.out.below (hB5.trans (hb.mono hB5.size))) bb hbx _ _ _ (withFn_holds _ a b t _ _ _ _ zO zO ((BX.out.alloc _).below' hb) ((BY.out.alloc _).below' hb) ((BT.out.alloc _).below' hb))) hfi);have HB:=zh (hB5.trans (hb.mono hB5.size));clear hbx hb)
    |(go_at_call 196;refine zM HF ?_;rintro e w2 ⟨rfl,hb2⟩))
   go_ret3
   exact⟨HB.out.trans (hb2.mono HB.out.size),.inr (.inl ⟨hz,rfl,rfl⟩)⟩
  ·go_enter Tryz.func171,Tryz.ntmps171
   go_upto_region 1 with fail
   simp only[HW.out,Nat.add_assoc,Nat.reduceAdd]
   go_wp2_with (first
    |(go_at_call 173;refine zM HO ?_;rintro e w' ⟨bb,rfl,hbb,hbx,hb⟩;have HF:=zh (find_some (find_any c _ rfl h8 pa pc _ (HP.out.below (hB5.trans (hb.mono hB5.size))) bb hbx _ _ _ (withFn_holds _ a b t _ _ _ _ zO zO ((BX.out.alloc _).below' hb) ((BY.out.alloc _).below' hb) ((BT.out.alloc _).below' hb))) hfi);have HB:=zh (hB5.trans (hb.mono hB5.size));clear hbx hb)
    |(go_at_call 196;refine zM HF ?_;rintro e w2 ⟨v,rfl,hv,hb2⟩;have HV:=zh hv;clear hv))
   go_ret3
   exact⟨HB.out.trans (hb2.mono HB.out.size),.inr (.inr ⟨hz,_,_,rfl,rfl,HV.out.less HB.out.size⟩)⟩
 ·have hoo:=opened_bad ho hz;have HO:=zh hoo;clear ho hoo;have hzz:(openErr c [x,y] != 0)=true:=by simpa using hz
  go_enter Tryz.func171,Tryz.ntmps171
  go_upto_region 1 with fail
  simp only[HW.out,Nat.add_assoc,Nat.reduceAdd]
  go_wp2_with (go_at_call 173;refine zM HO ?_;rintro e w' ⟨rfl,hb⟩)
  go_ret3
  exact⟨hB5.trans (hb.mono hB5.size),.inl ⟨hz,rfl⟩⟩
section
attribute [local go_sem] Oper.semAt_some
theorem allGo_len (c:Cs):∀(r:Nat) (pre:List Nat),manyOf pre+r≤8→(allGo c r pre).length≤9^r:=by
 intro r
 induction r with
 |zero=>intro pre _;simp[allGo]
 |succ r ih=>
  intro pre h;have key:∀k,k≤manyOf pre+1→(yields c r pre k).length≤k*9^r:=by
   intro k
   induction k with
   |zero=>intro _;simp[yields_zero]
   |succ k ihk=>
    intro hk;rw[yields_succ,List.length_append,Nat.succ_mul];refine Nat.add_le_add (ihk zO) ?_
    split
    ·exact ih _ (by rw[manyOf_snoc];omega)
    ·simp
  have:=key (manyOf pre+1) (Nat.le_refl _);rw[yields_all] at this;refine Nat.le_trans this ?_;rw[Nat.pow_succ,Nat.mul_comm (9^r) 9];exact Nat.mul_le_mul_right _ zO
theorem allR_len {c:Cs}(h:c.parts.length≤8):(allR c).length≤43046721:=by
 refine Nat.le_trans (allGo_len c c.parts.length [] (by simp[manyOf];exact h)) ?_;exact Nat.le_trans (Nat.pow_le_pow_right (by decide) h) (by decide)
end
