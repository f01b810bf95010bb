/- Walks and plain laws. No condition. -/
import Derived.Test.YtjgldeeianionaaGreatV09
set_option maxHeartbeats 4000000
set_option maxRecDepth 100000
set_option linter.unusedSimpArgs false
set_option linter.unusedVariables false
namespace Go.Proofs.YtjgldeeianionaaGreat
open Go.RowKit
theorem tried1_idle (p:Addr)(w:World):
 CallsD Tryz.prog 231 #[.pointer (some p)] .returning w fun e u' w'=>e = .returned (.tuple #[])∧u' = .returning∧w'=w:=by
 refine callsD_of_wpS Tryz.func231 rfl fun c₀ cs hu=>?_
 apply wpS_seq
 apply wpS_region
 simp[wpOpsS,go_sem,recoverD,hu,Tryz.ntmps231,Exit.thenS]
 refine wpS_of_wp ?_
 go_wp2
 cases c₀
 simp_all [bodyPostS,results,Tryz.results231]
theorem tried1_caught (g:Nat)(w:World)(hb:Box w g #[.bool false] 4):
 CallsD Tryz.prog 231 #[.pointer (some ⟨g,0,none⟩)] (.panicking ({v:=unproved,recovered:=false}::[])) w fun e u' w'=>
  e = .returned (.tuple #[])∧u' = .panicking ({v:=unproved,recovered:=true}::[])∧w'=(w.alloc (.cells #[] 254)).setCell ⟨g,0,none⟩ (.bool false):=by
 obtain⟨r1,r2⟩:=(hb.alloc (.cells #[] 254)).rules;clear hb;refine callsD_of_wpS Tryz.func231 rfl fun c₀ cs hu=>?_
 apply wpS_seq
 apply wpS_region
 simp[unproved,wpOpsS,go_sem,recoverD,hu,Tryz.ntmps231,Exit.thenS]
 refine wpS_of_wp ?_;have hta:∀w:World,(Instr.typeAssert (.iface 254 (.agg #[])) 20 254 true).run Tryz.prog w = .ok (.tuple #[.agg #[],.bool true]) w:=fun w=>by kernel_rfl
 go_wp2
 cases c₀
 simp_all [bodyPostS,results,Tryz.results231]
theorem tried_any (K:Nat)(caps:Array Value)(w:World)(G B:World→Prop)(hent:∀args W,(callFunc K args).run Tryz.prog W = .ok (.enter K args) W)
 (hdo:Calls Tryz.prog K caps (w.alloc (.cells #[.bool false] 4)) fun e W=>Box W w.heap.size #[.bool false] 4∧((e = .returned (.tuple #[])∧G W)∨(e = .panicked [{v:=unproved,recovered:=false}]∧B W))):
 Calls Tryz.prog 223 #[.func (.func K) #[] caps] w fun e w'=>(e = .returned (.bool true)∧∃W,G W∧Keep (fun k=>k≠w.heap.size) W w')∨(e = .returned (.bool false)∧∃W,B W∧Keep (fun k=>k≠w.heap.size) W w'):=by
 have hmf:=run_mf Tryz.prog;have HD:=zh hdo;clear hdo
 go_enter_defers Tryz.func223,Tryz.ntmps223
 go_wp2_with fail
 refine HD.out.mono ?_;rintro e W ⟨hb,(⟨rfl,hg⟩|⟨rfl,hbd⟩)⟩
 ·obtain⟨u1,u2⟩:=hb.rules
  go_wp2_with fail
  refine leaves_cons (f:=231) (args:=#[.pointer (some ⟨w.heap.size,0,none⟩)]) zS (by simp[go_sem]) ?_;refine(tried1_idle ⟨w.heap.size,0,none⟩ _).mono ?_;rintro e u' w'' ⟨rfl,rfl,rfl⟩;have m1:=(hb.set_ 0 (.bool true)).cell 0;have m2:(W.setCell ⟨w.heap.size,0,none⟩ (.bool true)).cell? ⟨w.heap.size,0,none⟩=some (.bool true):=m1;have hk:Keep (fun k=>k≠w.heap.size) W (W.setCell ⟨w.heap.size,0,none⟩ (.bool true)):=(Keep.refl _ W).setCell (.inl zS) _;generalize W.setCell ⟨w.heap.size,0,none⟩ (.bool true)=W2 at *
  simp[Leaves,settle,results,Tryz.results223,go_sem,m2]
  exact⟨W,hg,hk⟩
 ·obtain⟨u1,u2⟩:=hb.rules
  go_wp2_with fail
  refine leaves_cons (f:=231) (args:=#[.pointer (some ⟨w.heap.size,0,none⟩)]) zS (by simp[go_sem]) ?_;refine(tried1_caught w.heap.size _ hb).mono ?_;rintro e u' w'' ⟨rfl,rfl,rfl⟩;have m1:=((hb.alloc (.cells #[] 254)).set_ 0 (.bool false)).cell 0;have m2:((W.alloc (.cells #[] 254)).setCell ⟨w.heap.size,0,none⟩ (.bool false)).cell? ⟨w.heap.size,0,none⟩=some (.bool false):=m1;have hk:Keep (fun k=>k≠w.heap.size) W ((W.alloc (.cells #[] 254)).setCell ⟨w.heap.size,0,none⟩ (.bool false)):=((Keep.refl _ W).alloc _).setCell (.inl zS) _;generalize (W.alloc (.cells #[] 254)).setCell ⟨w.heap.size,0,none⟩ (.bool false)=W2 at *
  simp[Leaves,settle,results,Tryz.results223,go_sem,m2]
  exact⟨W,hbd,hk⟩
theorem run_getObj_map {P:Program}{W:World}{b:Nat}{es:Array MapEntry}{clk:Nat}(h:W.heap[b]?=some (.map es clk)):(getObj b).run P W = .ok (.map es clk) W:=by simp[getObj,Sem.run,h]
theorem run_setObj_map {P:Program}{W:World}{b:Nat}{es:Array MapEntry}{clk:Nat}(o':Obj)(h:W.heap[b]?=some (.map es clk)):(setObj b o').run P W = .ok () (W.putObj b o'):=by simp[setObj,Sem.run,h,World.putObj]
theorem run_checkKey_int {P:Program}{W:World}{kt:TypeId}{q:IntKind}(hk:P.underlying kt=some (.int q))(e:Bool)(n:Nat)(v:Value):(Instr.checkKey e (n+1) kt v).run P W = .ok () W:=by
 unfold Instr.checkKey;simp only[Sem.run_bind,run_underlying hk,Result.andThen_ok];cases v<;>rfl
theorem run_findKey_int {P:Program}{W:World}{kt:TypeId}{q:IntKind}(hk:P.underlying kt=some (.int q)){k:Value}{es:List MapEntry}{r:Option (Nat×Value)}(h:Instr.findNow (.int q) k es 0=some r):(Instr.findKey kt k es).run P W = .ok r W:=by
 unfold Instr.findKey;simp only[Sem.run_bind,run_underlying hk,Result.andThen_ok,h,Sem.run_pure]
theorem run_mapUpdate_new {P:Program}{W:World}{b:Nat}{es:Array MapEntry}{clk:Nat}{t kt et:TypeId}{q:IntKind}{k v:Value}(hu:P.underlying t=some (.map kt et))(hk:P.underlying kt=some (.int q))(hb:W.heap[b]?=some (.map es clk))(hf:Instr.findNow (.int q) k es.toList 0=some none):
 (Instr.mapUpdate t (.map (some b)) k v).run P W = .ok () (W.putObj b (.map (es.push {key:=k,val:=v,born:=clk}) (clk+1))):=by
 unfold Instr.mapUpdate;simp only[Sem.run_bind,run_underlying hu,Result.andThen_ok,run_getObj_map hb,show(10000:Nat)=9999+1 from rfl,run_checkKey_int hk,run_findKey_int hk hf,run_setObj_map _ hb]
theorem run_lookup_ok {P:Program}{W:World}{b:Nat}{es:Array MapEntry}{clk:Nat}{t kt et:TypeId}{q:IntKind}{k z:Value}(hu:P.underlying t=some (.map kt et))(hk:P.underlying kt=some (.int q))(hb:W.heap[b]?=some (.map es clk))(hz:(zeroValue et).run P W = .ok z W)
 {r:Option (Nat×Value)} (hf:Instr.findNow (.int q) k es.toList 0=some r):
 (Instr.lookup t (.map (some b)) k true).run P W = .ok (.tuple #[(r.map (·.2)).getD z,.bool r.isSome]) W:=by
 unfold Instr.lookup;simp only[Sem.run_bind,run_underlying hu,Result.andThen_ok,run_getObj_map hb,show(10000:Nat)=9999+1 from rfl,run_checkKey_int hk,run_findKey_int hk hf,Sem.run_pure];cases r<;>simp[hz]
def leafFn (f:Nat):Value:=.func (.func f) #[] #[]
def leafMap:Array MapEntry:=#[{key:=.int .u8 2,val:=leafFn 228,born:=0},{key:=.int .u8 3,val:=leafFn 229,born:=1},{key:=.int .u8 4,val:=leafFn 230,born:=2}]
theorem leaf_two:Instr.findNow (.int .u8) (.int .u8 2) leafMap.toList 0=some (some (0,leafFn 228)):=by rfl
theorem leaf_three:Instr.findNow (.int .u8) (.int .u8 3) leafMap.toList 0=some (some (1,leafFn 229)):=by rfl
theorem leaf_four:Instr.findNow (.int .u8) (.int .u8 4) leafMap.toList 0=some (some (2,leafFn 230)):=by rfl
theorem leaf_none {k:Nat}(h:k≠2∧k≠3∧k≠4):Instr.findNow (.int .u8) (.int .u8 k) leafMap.toList 0=some none:=by
 obtain⟨h2,h3,h4⟩:=h;have e2:((k:Int)==2)=false:=by simp;omega
 have e3:((k:Int)==3)=false:=by simp;omega
 have e4:((k:Int)==4)=false:=by simp;omega
 simp[leafMap,Instr.findNow,Instr.sameNow,e2,e3,e4]
theorem leaves_any (w:World):Calls Tryz.prog 219 #[] w fun e w'=>e = .returned (.map (some w.heap.size))∧w'.heap[w.heap.size]?=some (.map leafMap 3)∧Below w.heap.size w w':=by
 have hmm:=@run_makeMap Tryz.prog;have hi:=fun(W:World) (b:Nat) (es:Array MapEntry) (clk:Nat) (k v:Value) (hb:W.heap[b]?=some (.map es clk)) (hf:Instr.findNow (.int .u8) k es.toList 0=some none)=>run_mapUpdate_new (P:=Tryz.prog) (v:=v) Tryz.underlying240 Tryz.underlying5 hb hf
 have n0:(w.alloc (.map #[] 0)).heap[w.heap.size]?=some (.map #[] 0):=World.alloc_heap_new w _;have h1:=hi _ _ _ _ (.int .u8 2) (.func (.func 228) #[] #[]) n0 rfl;have n1:((w.alloc (.map #[] 0)).putObj w.heap.size (.map #[{key:=.int .u8 2,val:=.func (.func 228) #[] #[],born:=0}] 1)).heap[w.heap.size]?=some (.map #[{key:=.int .u8 2,val:=.func (.func 228) #[] #[],born:=0}] 1):=World.putObj_heap_same zS;have h2:=hi _ _ _ _ (.int .u8 3) (.func (.func 229) #[] #[]) n1 rfl;have n2:(((w.alloc (.map #[] 0)).putObj w.heap.size (.map #[{key:=.int .u8 2,val:=.func (.func 228) #[] #[],born:=0}] 1)).putObj w.heap.size (.map #[{key:=.int .u8 2,val:=.func (.func 228) #[] #[],born:=0},{key:=.int .u8 3,val:=.func (.func 229) #[] #[],born:=1}] 2)).heap[w.heap.size]? =
  some (.map #[{key:=.int .u8 2,val:=.func (.func 228) #[] #[],born:=0},{key:=.int .u8 3,val:=.func (.func 229) #[] #[],born:=1}] 2):=World.putObj_heap_same zS
 have h3:=hi _ _ _ _ (.int .u8 4) (.func (.func 230) #[] #[]) n2 rfl;simp only[List.push_toArray,List.nil_append,List.cons_append,Nat.reduceAdd] at h1 h2 h3;clear n0 n1 n2 hi
 go_enter Tryz.func219,Tryz.ntmps219
 go_wp2
 go_ret
 exact⟨rfl,World.putObj_heap_same zS,below_put (below_put (below_put ((Below.refl _ w).alloc (Nat.le_refl _) _) (Nat.le_refl _) _) (Nat.le_refl _) _) (Nat.le_refl _) _⟩
section
attribute [local go_sem] Oper.semAt_some
theorem fill_list:∀(xs:List Value) (k:Nat) (init:Array Value) (i:Nat),((xs.zipIdx k).foldl (fun cs x=>cs.setIfInBounds (1+x.2) x.1) init)[i]?=if 1+k≤i∧i<1+k+xs.length∧i<init.size then xs[i-1-k]? else init[i]?
 |[],k,init,i=>by simp;intro h1 h2;omega
 |x::xs,k,init,i=>by
  rw[List.zipIdx_cons,List.foldl_cons,fill_list xs (k+1)];simp only[Array.size_setIfInBounds,List.length_cons]
  by_cases h:1+(k+1)≤i∧i<1+(k+1)+xs.length∧i<init.size
  ·rw[if_pos h,if_pos zO,show i-1-k=(i-1-(k+1))+1 by omega,List.getElem?_cons_succ]
  ·rw[if_neg h,Array.getElem?_setIfInBounds]
   by_cases h2:1+k=i
   ·subst h2;rw[if_pos rfl]
    by_cases h3:1+k<init.size
    ·rw[if_pos h3,if_pos zO];simp
    ·rw[if_neg h3,if_neg zO,Array.getElem?_eq_none zO]
   ·rw[if_neg h2,if_neg zO]
theorem fill_node (bb:Nat)(d:Nat→Nat→Nat)(init:Array Value)(hs:init.size=65)(h0:init[0]?=some (.pointer (some ⟨bb,0,none⟩))):Array.foldl (fun cs (x:Value×Nat)=>cs.setIfInBounds (1+x.2) x.1) init (decCells d).zipIdx 0 (decCells d).size=nodeCells bb d:=by
 rw[show(decCells d).size=(decCells d).zipIdx.size by simp,←Array.foldl_toList,Array.toList_zipIdx]
 apply Array.ext_getElem?
 intro i;rw[fill_list];simp only[Array.length_toList,decCells_size,hs]
 rcases i with _|i
 ·rw[if_neg zO,h0,node_zero]
 ·rw[Nat.add_comm i 1,node_at,show 1+i-1-0=i by omega]
  by_cases h:i<64
  ·rw[if_pos zO];simp
  ·rw[if_neg zO,Array.getElem?_eq_none zO,Array.getElem?_eq_none (by rw[decCells_size];omega)]
theorem fill_node64 (bb:Nat)(d:Nat→Nat→Nat)(init:Array Value)(hs:init.size=65)(h0:init[0]?=some (.pointer (some ⟨bb,0,none⟩))):Array.foldl (fun cs (x:Value×Nat)=>cs.setIfInBounds (1+x.2) x.1) init (decCells d).zipIdx 0 64=nodeCells bb d:=by
 have:=fill_node bb d init hs h0;rw[decCells_size] at this;exact this
theorem node_built (bb:Nat)(d:Nat→Nat→Nat):Array.foldl (fun cs (x:Value×Nat)=>cs.setIfInBounds (1+x.2) x.1) (Tryz.zeroCells246.setIfInBounds 0 (.pointer (some ⟨bb,0,none⟩))) (decCells d).zipIdx 0 64=nodeCells bb d:=by
 have hz:Tryz.zeroCells246.size=65:=zK;exact fill_node64 bb d _ (by rw[Array.size_setIfInBounds,hz]) (by rw[Array.getElem?_setIfInBounds,if_pos rfl,if_pos (by rw[hz];omega)])
structure Br where
 kind:Nat
 a:Int
 b:Int
 many:List Int
deriving DecidableEq
def BrAt (w:World)(b o:Nat)(x:Br):Prop:=
 ∃ma mc,w.cell? ⟨b,o,none⟩=some (.int .u8 x.kind)∧w.cell? ⟨b,o+1,none⟩=some (.int .i64 x.a)∧w.cell? ⟨b,o+2,none⟩=some (.int .i64 x.b)∧w.cell? ⟨b,o+3,none⟩=some (.slice ma x.many.length mc)∧Ints w ma x.many∧x.many.length≤mc
theorem BrAt.below {w w':World}{b o:Nat}{x:Br}(h:BrAt w b o x)(hb:Below w.heap.size w w'):BrAt w' b o x:=by
 obtain⟨ma,mc,h1,h2,h3,h4,h5,h6⟩:=h;exact⟨ma,mc,below_cell hb h1,below_cell hb h2,below_cell hb h3,below_cell hb h4,h5.below hb,h6⟩
def BrsAt (w:World)(a:Option Addr)(l:List Br):Prop:=∀k x,l[k]?=some x→∃b o,a=some ⟨b,o,none⟩∧BrAt w b (o+k*4) x
theorem BrsAt.below {w w':World}{a:Option Addr}{l:List Br}(h:BrsAt w a l)(hb:Below w.heap.size w w'):BrsAt w' a l:=fun k x hx=>by
 obtain⟨b,o,ha,hc⟩:=h k x hx;exact⟨b,o,ha,hc.below hb⟩
theorem BrsAt.tail {w:World}{b o:Nat}{x:Br}{l:List Br}(h:BrsAt w (some ⟨b,o,none⟩) (x::l)):BrsAt w (some ⟨b,o+4,none⟩) l:=fun k y hy=>by
 obtain⟨b',o',ha,hc⟩:=h (k+1) y (by simpa using hy);cases ha;exact⟨b,o+4,rfl,by rw[show o+4+k*4=o+(k+1)*4 by omega];exact hc⟩
def Br.Small (x:Br):Prop:=x.kind<256∧x.many.length≤1000000
def leafB (c:Cs)(d:Nat→Nat→Nat)(n:Nat)(x:Br):Bool:=
 if x.kind=2 then clashesB c d n x.a x.b x.many else if x.kind=3 then partedB d n x.a x.b x.many else if x.kind=4 then manyB c d n x.a x.b x.many else false
def splitB (n:Nat)(x:Br):Bool:=inB x.a 0 ((n:Int)-1)&&inB x.b 0 ((n:Int)-1)&&(x.a != x.b)&&((x.many.length:Int)==0)
abbrev Dec:=Nat→Nat→Nat
def walkM (c:Cs)(n:Nat):Nat→Dec→List Br→Option (List Br×List (Dec×Br))
 |0,_,_=>none
 |_+1,_,[]=>none
 |k+1,d,x::l=>
  if x.kind=1 then
   if splitB n x then
    match walkM c n k (decWith d x.a.toNat x.b.toNat 1) l with
    |none=>none
    |some (l1,e1)=>match walkM c n k (decWith d x.a.toNat x.b.toNat 2) l1 with
     |none=>none
     |some (l2,e2)=>some (l2,e1++e2)
   else none
  else if leafB c d n x then some (l,[(d,x)]) else none
theorem walkM_len {c:Cs}{n:Nat}:∀(k:Nat) (d:Dec) (l:List Br) {r:List Br} {e:List (Dec×Br)},walkM c n k d l=some (r,e)→r.length<l.length
 |0,_,_,_,_,h=>by cases h
 |_+1,_,[],_,_,h=>by cases h
 |k+1,d,x::l,r,e,h=>by
  simp only[walkM] at h
  split at h
  ·split at h
   ·split at h
    ·cases h
    ·rename_i l1 e1 h1
     split at h
     ·cases h
     ·rename_i l2 e2 h2
      cases h;have a1:=walkM_len k _ _ h1;have a2:=walkM_len k _ _ h2;simp only[List.length_cons];omega
   ·cases h
  ·split at h
   ·cases h;simp
   ·cases h
theorem walkM_small {c:Cs}{n:Nat}:∀(k:Nat) (d:Dec) (l:List Br) {r:List Br} {e:List (Dec×Br)},(∀z∈l,z.Small)→walkM c n k d l=some (r,e)→∀z∈r,z.Small
 |0,_,_,_,_,_,h=>by cases h
 |_+1,_,[],_,_,_,h=>by cases h
 |k+1,d,x::l,r,e,hs,h=>by
  simp only[walkM] at h
  split at h
  ·split at h
   ·split at h
    ·cases h
    ·rename_i l1 e1 h1
     split at h
     ·cases h
     ·rename_i l2 e2 h2
      cases h;exact walkM_small k _ _ (walkM_small k _ _ (fun z hz=>hs z (by simp[hz])) h1) h2
   ·cases h
  ·split at h
   ·cases h;exact fun z hz=>hs z (by simp[hz])
   ·cases h
theorem walkM_no {c:Cs}{n k:Nat}{d:Dec}{x:Br}{l:List Br}(h1:x.kind=1)(h2:splitB n x=false):walkM c n (k+1) d (x::l)=none:=by
 simp only[walkM,h1,h2];rfl
theorem walkM_one {c:Cs}{n k:Nat}{d:Dec}{x:Br}{l:List Br}(h1:x.kind=1)(h2:splitB n x=true)(h3:walkM c n k (decWith d x.a.toNat x.b.toNat 1) l=none):walkM c n (k+1) d (x::l)=none:=by
 simp only[walkM,h1,h2,h3];rfl
theorem walkM_two {c:Cs}{n k:Nat}{d:Dec}{x:Br}{l l1:List Br}{e1:List (Dec×Br)}(h1:x.kind=1)(h2:splitB n x=true)(h3:walkM c n k (decWith d x.a.toNat x.b.toNat 1) l=some (l1,e1))(h4:walkM c n k (decWith d x.a.toNat x.b.toNat 2) l1=none):walkM c n (k+1) d (x::l)=none:=by
 simp only[walkM,h1,h2,h3,h4];rfl
theorem walkM_yes {c:Cs}{n k:Nat}{d:Dec}{x:Br}{l l1 l2:List Br}{e1 e2:List (Dec×Br)}(h1:x.kind=1)(h2:splitB n x=true)(h3:walkM c n k (decWith d x.a.toNat x.b.toNat 1) l=some (l1,e1))(h4:walkM c n k (decWith d x.a.toNat x.b.toNat 2) l1=some (l2,e2)):walkM c n (k+1) d (x::l)=some (l2,e1++e2):=by
 simp only[walkM,h1,h2,h3,h4];rfl
theorem walkM_leaf {c:Cs}{n k:Nat}{d:Dec}{x:Br}{l:List Br}(h1:x.kind≠1):walkM c n (k+1) d (x::l)=if leafB c d n x then some (l,[(d,x)]) else none:=by
 simp only[walkM,h1,if_false]
theorem split_in {n:Nat}{x:Br}(h:splitB n x=true):(∃a:Nat,x.a=(a:Int)∧a<n)∧(∃b:Nat,x.b=(b:Int)∧b<n):=by
 simp[splitB,inB] at h
 exact⟨⟨x.a.toNat,zO,zO⟩,⟨x.b.toNat,zO,zO⟩⟩
structure Vis where
 rb:Nat
 xb:Nat
 vb:Nat
 kb:Nat
 ab:Nat
 mb:Nat
def Vis.caps (v:Vis):Array Value:=#[.pointer (some ⟨v.rb,0,none⟩),.pointer (some ⟨v.xb,0,none⟩),.pointer (some ⟨v.vb,0,none⟩),.pointer (some ⟨v.kb,0,none⟩),.pointer (some ⟨v.ab,0,none⟩)]
def AtFn (c:Cs)(n:Nat)(pa:Option Addr)(pc:Nat)(bb:Nat)(w0:World)(K:Nat)(caps:Array Value)(Z:Nat→Prop)(J:List (Dec×Br)→World→Prop):Prop:=
 (∀args W,(callFunc K args).run Tryz.prog W = .ok (.enter K args) W) ∧
 ∀(ev:List (Dec×Br)) (d:Dec) (x:Br) (nb:Nat) (ma:Option Addr) (mc:Nat) (W:World),(∀a b,d a b≤3)→Below w0.heap.size w0 W→NodeAt c pa pc d bb nb W→Ints W ma x.many→x.many.length≤mc→leafB c d n x=true→J ev W →
  Calls Tryz.prog K (#[.pointer (some ⟨nb,0,none⟩),.agg #[.int .u8 x.kind,.int .i64 x.a,.int .i64 x.b,.slice ma x.many.length mc]]++caps) W fun e W'=>e = .returned (.tuple #[])∧J (ev++[(d,x)]) W'∧Keep (fun k=>¬Z k) W W'
structure VisSt (c:Cs) (pa:Option Addr) (pc:Nat) (bb:Nat) (w0:World) (v:Vis) (K:Nat) (acaps:Array Value) (l:List Br) (W:World):Prop where
 old:Below w0.heap.size w0 W
 ben:Box W bb (csCells c pa pc) 219
 rest:∃a k,Box W v.rb #[.slice a l.length k] 100∧BrsAt w0 a l∧l.length≤k
 bx:Box W v.xb #[.pointer (some ⟨bb,0,none⟩)] 139
 vis:Box W v.vb #[.func (.func 220) #[] v.caps] 242
 kin:Box W v.kb #[.map (some v.mb)] 240
 map:W.heap[v.mb]?=some (.map leafMap 3)
 att:Box W v.ab #[.func (.func K) #[] acaps] 228
theorem VisSt.keep {c:Cs}{pa:Option Addr}{pc:Nat}{bb:Nat}{w0:World}{v:Vis}{K:Nat}{acaps:Array Value}{l:List Br}{W W':World}{Q:Nat→Prop}(h:VisSt c pa pc bb w0 v K acaps l W)(hk:Keep Q W W')
 (h0:∀k,k<w0.heap.size→Q k) (hb:Q bb) (hv:Q v.rb∧Q v.xb∧Q v.vb∧Q v.kb∧Q v.mb∧Q v.ab):VisSt c pa pc bb w0 v K acaps l W':=by
 obtain⟨a,k,h1,h2,h3⟩:=h.rest;exact⟨h.old.trans ((hk.mono h0).below h.old.size),hk.heap hb h.ben,⟨a,k,hk.heap hv.1 h1,h2,h3⟩,hk.heap hv.2.1 h.bx,hk.heap hv.2.2.1 h.vis,hk.heap hv.2.2.2.1 h.kin,hk.heap hv.2.2.2.2.1 h.map,hk.heap hv.2.2.2.2.2 h.att⟩
theorem VisSt.below {c:Cs}{pa:Option Addr}{pc:Nat}{bb:Nat}{w0:World}{v:Vis}{K:Nat}{acaps:Array Value}{l:List Br}{W W':World}(h:VisSt c pa pc bb w0 v K acaps l W)(hb:Below W.heap.size W W'):VisSt c pa pc bb w0 v K acaps l W':=
 h.keep (Q:=fun _=>True) (Keep.of_below' hb) (fun _ _=>trivial) trivial ⟨trivial,trivial,trivial,trivial,trivial,trivial⟩
theorem VisSt.setRest {c:Cs}{pa:Option Addr}{pc:Nat}{bb:Nat}{w0:World}{v:Vis}{K:Nat}{acaps:Array Value}{l l':List Br}{W:World}(h:VisSt c pa pc bb w0 v K acaps l W){a:Option Addr}{k:Nat}(hl:BrsAt w0 a l')(hk:l'.length≤k)
 (hr:w0.heap.size≤v.rb∧v.rb≠bb∧v.rb≠v.xb∧v.rb≠v.vb∧v.rb≠v.kb∧v.rb≠v.mb∧v.rb≠v.ab):VisSt c pa pc bb w0 v K acaps l' (W.setCell ⟨v.rb,0,none⟩ (.slice a l'.length k)):=by
 obtain⟨r0,r1,r2,r3,r4,r5,r6⟩:=hr;obtain⟨a',k',h1,_,_⟩:=h.rest;exact⟨h.old.setCell r0 _,h.ben.far (fun e=>r1 e.symm) _,⟨a,k,h1.set_ 0 _,hl,hk⟩,h.bx.far (fun e=>r2 e.symm) _,h.vis.far (fun e=>r3 e.symm) _,h.kin.far (fun e=>r4 e.symm) _,(Below.heap_setCell _ _ _ _ (fun e=>r5 e.symm)).trans h.map,h.att.far (fun e=>r6 e.symm) _⟩
structure VisOk (w0:World) (v:Vis) (bb:Nat) (Z:Nat→Prop):Prop where
 zn:∀k,Z k→w0.heap.size≤k∧k≠bb∧k≠v.rb∧k≠v.xb∧k≠v.vb∧k≠v.kb∧k≠v.mb∧k≠v.ab
 zl:∀k,Z k→k<v.rb
 rn:w0.heap.size≤v.rb∧v.rb≠bb∧v.rb≠v.xb∧v.rb≠v.vb∧v.rb≠v.kb∧v.rb≠v.mb∧v.rb≠v.ab
def VisPost (c:Cs)(n:Nat)(pa:Option Addr)(pc:Nat)(bb:Nat)(w0:World)(v:Vis)(K:Nat)(acaps:Array Value)(Z:Nat→Prop)(J:List (Dec×Br)→World→Prop)(k:Nat)(d:Dec)(l:List Br)(ev:List (Dec×Br))(W:World)(e:Ending)(W':World):Prop:=
 Keep (fun k=>k≠v.rb∧¬Z k) W W'∧match walkM c n k d l with
  |none=>e = .panicked [{v:=unproved,recovered:=false}]
  |some (r,es)=>e = .returned (.tuple #[])∧VisSt c pa pc bb w0 v K acaps r W'∧J (ev++es) W'
theorem visit_any (c:Cs)(n:Nat)(hn:c.parts.length=n)(hn8:n≤8)(hlim:0≤c.limit∧c.limit≤40)(pa:Option Addr)(pc:Nat)(bb:Nat)(w0:World)(hparts:PartsAt w0 pa c.parts)(v:Vis)(K:Nat)(acaps:Array Value)(Z:Nat→Prop)(J:List (Dec×Br)→World→Prop)
 (hat:AtFn c n pa pc bb w0 K acaps Z J) (hok:VisOk w0 v bb Z) (hJ:∀s A B,J s A→Keep (fun k=>k≠v.rb) A B→J s B):
 ∀(k:Nat) (l:List Br) (d:Dec) (ev:List (Dec×Br)) (W:World),l.length<k→l.length≤1000000→(∀x∈l,x.Small)→(∀a b,d a b≤3)→VisSt c pa pc bb w0 v K acaps l W→J ev W →
 Calls Tryz.prog 220 (#[.agg (decCells d)]++v.caps) W (VisPost c n pa pc bb w0 v K acaps Z J k d l ev W)
 |0,_,_,_,_,h,_,_,_,_,_=>by omega
 |k+1,[],d,ev,W,hlen,hll,hsm,hd,hst,hj=>by
  obtain⟨w1,hw1⟩:=zx (W.alloc (.cells (decCells d) 227));have hB1:Below W.heap.size W w1:=by rw[←hw1];exact(Below.refl _ _).alloc (Nat.le_refl _) _
  have hst1:=hst.below hB1;obtain⟨a,rc,hr,_,_⟩:=hst1.rest;have e1:=hr.cell;have HW:=zh hw1;clear hr hst hst1 hw1;simp only[Vis.caps,List.append_toArray,List.nil_append,List.cons_append]
  go_enter Tryz.func220,Tryz.ntmps220
  go_upto_region 1 with fail
  simp only[HW.out]
  go_wp2_with (go_at_call 221;(with_reducible refine(need_no _).mono ?_);rintro e w' ⟨rfl,rfl⟩)
  exact⟨rfl,Keep.of_below' hB1,rfl⟩
 |k+1,x::l,d,ev,W,hlen,hll,hsm,hd,hst,hj=>by
  obtain⟨w1,hw1⟩:=zx (W.alloc (.cells (decCells d) 227));have hB1:Below W.heap.size W w1:=by rw[←hw1];exact(Below.refl _ _).alloc (Nat.le_refl _) _
  have hD1:Box w1 W.heap.size (decCells d) 227:=by rw[←hw1];exact Box.new _ _ _
  have hst1:=hst.below hB1;obtain⟨a,rc,hr,hbr,hrc⟩:=hst1.rest;obtain⟨b,o,rfl,hx⟩:=hbr 0 x rfl;obtain⟨ma,mc,y1,y2,y3,y4,x5,x6⟩:=hx;have x1:=below_cell hst1.old y1;have x2:=below_cell hst1.old y2;have x3:=below_cell hst1.old y3;have x4:=below_cell hst1.old y4;clear y1 y2 y3 y4;simp only[Nat.zero_mul,Nat.add_zero,List.length_cons] at x1 x2 x3 x4 hrc hr hll hlen;obtain⟨e1,f1⟩:=hr.rules;obtain⟨w2,hw2⟩:=zx (w1.alloc (.cells #[.int .u8 x.kind,.int .i64 x.a,.int .i64 x.b,.slice ma x.many.length mc] 99));have hB2:Below w1.heap.size w1 w2:=by rw[←hw2];exact(Below.refl _ _).alloc (Nat.le_refl _) _
  have hX2:Box w2 w1.heap.size #[.int .u8 x.kind,.int .i64 x.a,.int .i64 x.b,.slice ma x.many.length mc] 99:=by rw[←hw2];exact Box.new _ _ _
  obtain⟨e2,f2⟩:=(hr.below' hB2).rules;have HW:=zh hw1;have HW2:=zh hw2;have HR:=zh hr;have HBR:=zh hbr;have HST:=zh hst1;have HSW:=zh hst;have HD1:=zh hD1;have HX2:=zh hX2;obtain⟨a2,ha2⟩:=zx ((if rc=1 then some (⟨b,o,none⟩:Addr) else some ⟨b,o+4,none⟩));have hbr2:BrsAt w0 a2 l:=by
   rw[←ha2]
   split
   ·have:l=[]:=List.length_eq_zero_iff.1 zO;rw[this];intro j y hy;simp at hy
   ·exact hbr.tail
  have hrb:=HR.out.lt;have h3:=(HST.out.below hB2).setRest hbr2 (k:=rc-1) zO hok.rn;have k3:Keep (fun k=>k≠v.rb) W (w2.setCell ⟨v.rb,0,none⟩ (.slice a2 l.length (rc-1))):=((Keep.of_below' hB1).trans (Keep.of_below' hB2)).setCell (.inl zS) _;have hw2s:w1.heap.size<w2.heap.size:=HX2.out.lt;have hw1s:W.heap.size<w1.heap.size:=HD1.out.lt;have hrW:v.rb<W.heap.size:=by obtain⟨_,_,h,_⟩:=HSW.out.rest;exact h.lt
  have d3:=(HD1.out.below' hB2).far (p:=⟨v.rb,0,none⟩) zT (.slice a2 l.length (rc-1));have q3:=HX2.out.far (p:=⟨v.rb,0,none⟩) zT (.slice a2 l.length (rc-1));have j3:=hJ _ _ _ hj k3;have s3:(w2.setCell ⟨v.rb,0,none⟩ (.slice a2 l.length (rc-1))).heap.size=w2.heap.size:=by simp[World.setCell]
  have HA2:=zh ha2;have X5:=zh x5;clear ha2 hbr2;clear hr hst hst1 hw1 hw2 hbr hD1 hX2 hj;simp only[Vis.caps,List.append_toArray,List.nil_append,List.cons_append]
  go_enter Tryz.func220,Tryz.ntmps220
  go_upto_region 1 with fail
  simp only[HW.out]
  go_upto_region 3 with (go_at_call 221;(with_reducible refine(need_ok _).mono ?_);rintro e w' ⟨rfl,rfl⟩)
  simp only[HW2.out];clear e1 f1 x1 x2 x3 x4
  go_upto_region 4 with fail
  simp only[HA2.out];generalize w2.setCell ⟨v.rb,0,none⟩ (.slice a2 l.length (rc-1))=w3 at *;clear e2 f2;have q30:w3.cell? ⟨w1.heap.size,0,none⟩=some (.int .u8 x.kind):=by rw[q3.cell];rfl
  have q31:w3.cell? ⟨w1.heap.size,1,none⟩=some (.int .i64 x.a):=by rw[q3.cell];rfl
  have q32:w3.cell? ⟨w1.heap.size,2,none⟩=some (.int .i64 x.b):=by rw[q3.cell];rfl
  have q33:w3.cell? ⟨w1.heap.size,3,none⟩=some (.slice ma x.many.length mc):=by rw[q3.cell];rfl
  have p31:w3.cell? ⟨v.xb,0,none⟩=some (.pointer (some ⟨bb,0,none⟩)):=by rw[h3.bx.cell];rfl
  have p32:w3.cell? ⟨bb,3,none⟩=some (.slice pa n pc):=by rw[←hn,h3.ben.cell];rfl
  have H3:=zh h3;have K3:=zh k3;have J3:=zh j3;have D3:=zh d3;have Q3:=zh q3;clear h3 k3 j3 d3 q3 HR HST HD1 HX2
  by_cases hk1:x.kind=1
  ·have hk1b:((x.kind:Int)==1)=true:=by simp[hk1]
   have hw1:IntKind.i64.wrap ((n:Int)-1)=(n:Int)-1:=IntWalk.i64_in _ zO;have HK1:=zh hk1;clear hk1
   rcases h1:inB x.a 0 ((n:Int)-1) with _|_
   ·have HH1:=zh h1;clear h1
    go_upto_region 5 with fail
    refine wp_region_heldB 35 [] zK zK zK zS ?_;intro S hS;have k0:∀W,S W→W.cell? ⟨w1.heap.size,1,none⟩=some (.int .i64 x.a)∧W.cell? ⟨w1.heap.size,2,none⟩=some (.int .i64 x.b)∧W.cell? ⟨w1.heap.size,3,none⟩=some (.slice ma x.many.length mc)∧W.cell? ⟨v.xb,0,none⟩=some (.pointer (some ⟨bb,0,none⟩))∧W.cell? ⟨bb,3,none⟩=some (.slice pa n pc):=fun W h=>⟨below_cell (hS W h) q31,below_cell (hS W h) q32,below_cell (hS W h) q33,below_cell (hS W h) p31,below_cell (hS W h) p32⟩
    have K0:=zh k0;have HS:=zh hS;clear k0 hS q30 q31 q32 q33 p31 p32;simp only[pT]
    repeat (first
     |refine xN ?_
     |refine xV K0 ?_
     |(refine held_skip rfl (by rfl) ?_ ?_;(· (intro W hW;obtain⟨q0,q1,q2,q3,q4⟩:=K0.out W hW;go_simp;try with_reducible rfl));try simp only[pZ])
     |(refine xC (fun W hW=>in_held HH1.out W) ?_ ?_;(· (intro W hW;go_simp;done))))
    refine held_nil ?_;intro τ hτ w5 hW hO;obtain rfl:=laid0 hτ;have HB5:=zh (HS.out w5 hW);clear hτ hO hW K0 HS;simp only[overs,List.foldl_nil]
    go_wp2_with (go_at_call 221;(with_reducible refine(need_no _).mono ?_);rintro e w' ⟨rfl,rfl⟩)
    exact⟨rfl,(K3.out.mono fun k hk=>hk.1).trans (Keep.of_below' HB5.out),by rw[walkM_no HK1.out (by simp[splitB,HH1.out])]⟩
   ·have HH1:=zh h1;clear h1
    rcases h2:inB x.b 0 ((n:Int)-1) with _|_
    ·have HH2:=zh h2;clear h2
     go_upto_region 5 with fail
     refine wp_region_heldB 35 [] zK zK zK zS ?_;intro S hS;have k0:∀W,S W→W.cell? ⟨w1.heap.size,1,none⟩=some (.int .i64 x.a)∧W.cell? ⟨w1.heap.size,2,none⟩=some (.int .i64 x.b)∧W.cell? ⟨w1.heap.size,3,none⟩=some (.slice ma x.many.length mc)∧W.cell? ⟨v.xb,0,none⟩=some (.pointer (some ⟨bb,0,none⟩))∧W.cell? ⟨bb,3,none⟩=some (.slice pa n pc):=fun W h=>⟨below_cell (hS W h) q31,below_cell (hS W h) q32,below_cell (hS W h) q33,below_cell (hS W h) p31,below_cell (hS W h) p32⟩
     have K0:=zh k0;have HS:=zh hS;clear k0 hS q30 q31 q32 q33 p31 p32;simp only[pT]
     repeat (first
      |refine xN ?_
      |refine xV K0 ?_
      |(refine held_skip rfl (by rfl) ?_ ?_;(· (intro W hW;obtain⟨q0,q1,q2,q3,q4⟩:=K0.out W hW;go_simp;try with_reducible rfl));try simp only[pZ])
      |(refine xC (fun W hW=>in_held HH1.out W) ?_ ?_;(· (intro W hW;go_simp;done)))
      |(refine xC (fun W hW=>in_held HH2.out W) ?_ ?_;(· (intro W hW;go_simp;done))))
     refine held_nil ?_;intro τ hτ w5 hW hO;obtain rfl:=laid0 hτ;have HB5:=zh (HS.out w5 hW);clear hτ hO hW K0 HS;simp only[overs,List.foldl_nil]
     go_wp2_with (go_at_call 221;(with_reducible refine(need_no _).mono ?_);rintro e w' ⟨rfl,rfl⟩)
     exact⟨rfl,(K3.out.mono fun k hk=>hk.1).trans (Keep.of_below' HB5.out),by rw[walkM_no HK1.out (by simp[splitB,HH2.out])]⟩
    ·have HH2:=zh h2;clear h2
     rcases h3:(x.a != x.b) with _|_
     ·have HG:=zh (show splitB n x=false by simp[splitB,h3])
      go_upto_region 5 with fail
      refine wp_region_heldB 35 [] zK zK zK zS ?_;intro S hS;have k0:∀W,S W→W.cell? ⟨w1.heap.size,1,none⟩=some (.int .i64 x.a)∧W.cell? ⟨w1.heap.size,2,none⟩=some (.int .i64 x.b)∧W.cell? ⟨w1.heap.size,3,none⟩=some (.slice ma x.many.length mc)∧W.cell? ⟨v.xb,0,none⟩=some (.pointer (some ⟨bb,0,none⟩))∧W.cell? ⟨bb,3,none⟩=some (.slice pa n pc):=fun W h=>⟨below_cell (hS W h) q31,below_cell (hS W h) q32,below_cell (hS W h) q33,below_cell (hS W h) p31,below_cell (hS W h) p32⟩
      have K0:=zh k0;have HS:=zh hS;clear k0 hS q30 q31 q32 q33 p31 p32;simp only[pT]
      repeat (first
       |refine xN ?_
       |refine xV K0 ?_
       |(refine held_skip rfl (by rfl) ?_ ?_;(· (intro W hW;obtain⟨q0,q1,q2,q3,q4⟩:=K0.out W hW;go_simp;try with_reducible rfl));try simp only[pZ])
       |(refine xC (fun W hW=>in_held HH1.out W) ?_ ?_;(· (intro W hW;go_simp;done)))
       |(refine xC (fun W hW=>in_held HH2.out W) ?_ ?_;(· (intro W hW;go_simp;done))))
      refine held_nil ?_;intro τ hτ w5 hW hO;obtain rfl:=laid0 hτ;have HB5:=zh (HS.out w5 hW);clear hτ hO hW K0 HS;simp only[overs,List.foldl_nil]
      go_wp2_with (go_at_call 221;(with_reducible refine(need_no _).mono ?_);rintro e w' ⟨rfl,rfl⟩)
      exact⟨rfl,(K3.out.mono fun k hk=>hk.1).trans (Keep.of_below' HB5.out),by rw[walkM_no HK1.out (by exact HG.out)]⟩
     ·rcases h4:((x.many.length:Int)==0) with _|_
      ·have HG:=zh (show splitB n x=false by simp only[splitB,h4,Bool.and_false])
       go_upto_region 5 with fail
       refine wp_region_heldB 35 [] zK zK zK zS ?_;intro S hS;have k0:∀W,S W→W.cell? ⟨w1.heap.size,1,none⟩=some (.int .i64 x.a)∧W.cell? ⟨w1.heap.size,2,none⟩=some (.int .i64 x.b)∧W.cell? ⟨w1.heap.size,3,none⟩=some (.slice ma x.many.length mc)∧W.cell? ⟨v.xb,0,none⟩=some (.pointer (some ⟨bb,0,none⟩))∧W.cell? ⟨bb,3,none⟩=some (.slice pa n pc):=fun W h=>⟨below_cell (hS W h) q31,below_cell (hS W h) q32,below_cell (hS W h) q33,below_cell (hS W h) p31,below_cell (hS W h) p32⟩
       have K0:=zh k0;have HS:=zh hS;clear k0 hS q30 q31 q32 q33 p31 p32;simp only[pT]
       repeat (first
        |refine xN ?_
        |refine xV K0 ?_
        |(refine held_skip rfl (by rfl) ?_ ?_;(· (intro W hW;obtain⟨q0,q1,q2,q3,q4⟩:=K0.out W hW;go_simp;try with_reducible rfl));try simp only[pZ])
        |(refine xC (fun W hW=>in_held HH1.out W) ?_ ?_;(· (intro W hW;go_simp;done)))
        |(refine xC (fun W hW=>in_held HH2.out W) ?_ ?_;(· (intro W hW;go_simp;done))))
       refine held_nil ?_;intro τ hτ w5 hW hO;obtain rfl:=laid0 hτ;have HB5:=zh (HS.out w5 hW);clear hτ hO hW K0 HS;simp only[overs,List.foldl_nil]
       go_wp2_with (go_at_call 221;(with_reducible refine(need_no _).mono ?_);rintro e w' ⟨rfl,rfl⟩)
       exact⟨rfl,(K3.out.mono fun k hk=>hk.1).trans (Keep.of_below' HB5.out),by rw[walkM_no HK1.out (by exact HG.out)]⟩
      ·have HSP:=zh (show splitB n x=true by simp only[splitB,HH1.out,HH2.out,h3,h4];rfl)
       go_upto_region 5 with fail
       refine wp_region_heldB 35 [] zK zK zK zS ?_;intro S hS;have k0:∀W,S W→W.cell? ⟨w1.heap.size,1,none⟩=some (.int .i64 x.a)∧W.cell? ⟨w1.heap.size,2,none⟩=some (.int .i64 x.b)∧W.cell? ⟨w1.heap.size,3,none⟩=some (.slice ma x.many.length mc)∧W.cell? ⟨v.xb,0,none⟩=some (.pointer (some ⟨bb,0,none⟩))∧W.cell? ⟨bb,3,none⟩=some (.slice pa n pc):=fun W h=>⟨below_cell (hS W h) q31,below_cell (hS W h) q32,below_cell (hS W h) q33,below_cell (hS W h) p31,below_cell (hS W h) p32⟩
       have K0:=zh k0;have HS:=zh hS;clear k0 hS q30 q31 q32 q33 p31 p32;simp only[pT]
       repeat (first
        |refine xN ?_
        |refine xV K0 ?_
        |(refine held_skip rfl (by rfl) ?_ ?_;(· (intro W hW;obtain⟨q0,q1,q2,q3,q4⟩:=K0.out W hW;go_simp;try with_reducible rfl));try simp only[pZ])
        |(refine xC (fun W hW=>in_held HH1.out W) ?_ ?_;(· (intro W hW;go_simp;done)))
        |(refine xC (fun W hW=>in_held HH2.out W) ?_ ?_;(· (intro W hW;go_simp;done))))
       refine held_nil ?_;intro τ hτ w5 hW hO;obtain rfl:=laid0 hτ;have HB5:=zh (HS.out w5 hW);clear hτ hO hW K0 HS;simp only[overs,List.foldl_nil]
       go_upto_region 6 with (go_at_call 221;(with_reducible refine(need_ok _).mono ?_);rintro e w' ⟨rfl,rfl⟩)
       obtain⟨⟨x',hxa,hxn⟩,⟨y',hyb,hyn⟩⟩:=split_in HSP.out;have hta:x.a.toNat=x':=by rw[hxa];simp
       have htb:x.b.toNat=y':=by rw[hyb];simp
       have HXA:=zh hxa;have HYB:=zh hyb;have HTA:=zh hta;have HTB:=zh htb;have HDD:=zh hd;have S5:=zh (H3.out.below HB5.out);have D5:=zh (D3.out.below' HB5.out);have Q5:=zh (Q3.out.below' HB5.out);clear hxa hyb hta htb hd;have u1:w5.cell? ⟨v.vb,0,none⟩=some (.func (.func 220) #[] #[.pointer (some ⟨v.rb,0,none⟩),.pointer (some ⟨v.xb,0,none⟩),.pointer (some ⟨v.vb,0,none⟩),.pointer (some ⟨v.kb,0,none⟩),.pointer (some ⟨v.ab,0,none⟩)]):=by rw[S5.out.vis.cell];rfl
       have u2:w5.cell? ⟨w1.heap.size,1,none⟩=some (.int .i64 (x':Nat)):=by rw[Q5.out.cell,←HXA.out];rfl
       have u3:w5.cell? ⟨w1.heap.size,2,none⟩=some (.int .i64 (y':Nat)):=by rw[Q5.out.cell,←HYB.out];rfl
       refine wp_region_heldB 7 [] zK zK zK zS ?_;intro S hS;have k0:∀W,S W→W.cell? ⟨v.vb,0,none⟩=some (.func (.func 220) #[] #[.pointer (some ⟨v.rb,0,none⟩),.pointer (some ⟨v.xb,0,none⟩),.pointer (some ⟨v.vb,0,none⟩),.pointer (some ⟨v.kb,0,none⟩),.pointer (some ⟨v.ab,0,none⟩)])∧W.cell? ⟨w1.heap.size,1,none⟩=some (.int .i64 (x':Nat))∧W.cell? ⟨w1.heap.size,2,none⟩=some (.int .i64 (y':Nat)):=fun W h=>⟨below_cell (hS W h) u1,below_cell (hS W h) u2,below_cell (hS W h) u3⟩
       have kd:∀Wx,S Wx→(Instr.loadAt 227 (.pointer (some ⟨W.heap.size,0,none⟩))).run Tryz.prog Wx = .ok (.agg (decCells d)) Wx:=fun Wx h=>run_load_row (D5.out.below' (hS Wx h)) Tryz.underlying227 rfl (dec_info _)
       have K0:=zh k0;have KD:=zh kd;have HS:=zh hS;clear k0 kd hS u1 u2 u3;simp only[pT]
       repeat (first
        |(refine held_load 227 _ (by rfl) rfl rfl KD.out ?_;try simp only[pZ])
        |refine xN ?_
        |refine xV K0 ?_
        |(refine held_skip rfl (by rfl) ?_ ?_;(· (intro W hW;obtain⟨q0,q1,q2⟩:=K0.out W hW;go_simp;try with_reducible rfl));try simp only[pZ])
        |(refine xC (v:=.agg (decCells (decWith d x' y' 1))) (f:=222) (args:=#[.agg (decCells d),.int .i64 (x':Nat),.int .i64 (y':Nat),.int .u8 1]) (fun W hW=>decWith_any d x' y' 1 W zO zO HDD.out zO) ?_ ?_;(· (intro W hW;go_simp;done))))
       refine held_nil ?_;intro τ hτ w6 hW hO;obtain rfl:=laid0 hτ;have hB:=HS.out w6 hW;have s6:=S5.out.below hB;have D6:=zh (D5.out.below' hB);have Q6:=zh (Q5.out.below' hB);have kA:Keep (fun k=>k≠v.rb) w3 w6:=(Keep.of_below' HB5.out).trans (Keep.of_below' hB);have KA:=zh (K3.out.trans kA);have j6:=hJ _ _ _ J3.out kA;have ih:=visit_any c n hn hn8 hlim pa pc bb w0 hparts v K acaps Z J hat hok hJ k l (decWith d x' y' 1) ev w6 zO zO (fun z hz=>hsm z (by simp[hz])) (decWith_le HDD.out zO) s6 j6;simp only[Vis.caps,List.append_toArray,List.nil_append,List.cons_append] at ih;have IH:=zh ih;clear hτ hO hW K0 KD HS hB s6 j6 kA ih S5 D5 Q5 HB5;simp only[overs,List.foldl_nil]
       rcases hm1:walkM c n k (decWith d x' y' 1) l with _|⟨l1,e1⟩
       ·have HM1:=zh hm1;clear hm1
        go_wp2_with (go_at_call 220;refine zM IH ?_;rintro e w7 ⟨hk7,hm⟩;rw[HM1.out] at hm;subst hm;have HK7:=zh hk7;clear hk7)
        exact⟨rfl,(KA.out.mono fun k hk=>hk.1).trans HK7.out,by rw[walkM_one HK1.out HSP.out (by rw[HTA.out,HTB.out];exact HM1.out)]⟩
       ·have HM1:=zh hm1;have hl1:=walkM_len k _ _ hm1;clear hm1
        go_upto_region 7 with (go_at_call 220;refine zM IH ?_;rintro e w7 ⟨hk7,hm⟩;rw[HM1.out] at hm;obtain⟨rfl,hs7,hj7⟩:=hm;have HK7:=zh hk7;have S7:=zh hs7;have J7:=zh hj7;clear hk7 hs7 hj7)
        have hz1:∀k,v.rb<k→k≠v.rb∧¬Z k:=fun k hk=>⟨zO,fun hz=>by have:=hok.zl k hz;omega⟩
        have d7:Box w7 W.heap.size (decCells d) 227:=HK7.out.heap (hz1 _ zO) D6.out;have D7:=zh d7;have q7:Box w7 w1.heap.size #[.int .u8 x.kind,.int .i64 x.a,.int .i64 x.b,.slice ma x.many.length mc] 99:=HK7.out.heap (hz1 _ zO) Q6.out;have Q7:=zh q7;clear hz1 d7 q7;have u1:w7.cell? ⟨v.vb,0,none⟩=some (.func (.func 220) #[] #[.pointer (some ⟨v.rb,0,none⟩),.pointer (some ⟨v.xb,0,none⟩),.pointer (some ⟨v.vb,0,none⟩),.pointer (some ⟨v.kb,0,none⟩),.pointer (some ⟨v.ab,0,none⟩)]):=by rw[S7.out.vis.cell];rfl
        have u2:w7.cell? ⟨w1.heap.size,1,none⟩=some (.int .i64 (x':Nat)):=by rw[Q7.out.cell,←HXA.out];rfl
        have u3:w7.cell? ⟨w1.heap.size,2,none⟩=some (.int .i64 (y':Nat)):=by rw[Q7.out.cell,←HYB.out];rfl
        refine wp_region_heldB 7 [] zK zK zK zS ?_;intro S hS;have k0:∀W,S W→W.cell? ⟨v.vb,0,none⟩=some (.func (.func 220) #[] #[.pointer (some ⟨v.rb,0,none⟩),.pointer (some ⟨v.xb,0,none⟩),.pointer (some ⟨v.vb,0,none⟩),.pointer (some ⟨v.kb,0,none⟩),.pointer (some ⟨v.ab,0,none⟩)])∧W.cell? ⟨w1.heap.size,1,none⟩=some (.int .i64 (x':Nat))∧W.cell? ⟨w1.heap.size,2,none⟩=some (.int .i64 (y':Nat)):=fun W h=>⟨below_cell (hS W h) u1,below_cell (hS W h) u2,below_cell (hS W h) u3⟩
        have kd:∀Wx,S Wx→(Instr.loadAt 227 (.pointer (some ⟨W.heap.size,0,none⟩))).run Tryz.prog Wx = .ok (.agg (decCells d)) Wx:=fun Wx h=>run_load_row (D7.out.below' (hS Wx h)) Tryz.underlying227 rfl (dec_info _)
        have K0:=zh k0;have KD:=zh kd;have HS:=zh hS;clear k0 kd hS u1 u2 u3;simp only[pT]
        repeat (first
         |(refine held_load 227 _ (by rfl) rfl rfl KD.out ?_;try simp only[pZ])
         |refine xN ?_
         |refine xV K0 ?_
         |(refine held_skip rfl (by rfl) ?_ ?_;(· (intro W hW;obtain⟨q0,q1,q2⟩:=K0.out W hW;go_simp;try with_reducible rfl));try simp only[pZ])
         |(refine xC (v:=.agg (decCells (decWith d x' y' 2))) (f:=222) (args:=#[.agg (decCells d),.int .i64 (x':Nat),.int .i64 (y':Nat),.int .u8 2]) (fun W hW=>decWith_any d x' y' 2 W zO zO HDD.out zO) ?_ ?_;(· (intro W hW;go_simp;done))))
        refine held_nil ?_;intro τ hτ w8 hW hO;obtain rfl:=laid0 hτ;have hB:=HS.out w8 hW;have s8:=S7.out.below hB;have kA:Keep (fun k=>k≠v.rb) w7 w8:=Keep.of_below' hB;have KB:=zh (((KA.out.mono fun k (hk:k≠v.rb∧¬Z k)=>hk.1).trans HK7.out).trans (kA.mono fun k hk=>hk.1));have j8:=hJ _ _ _ J7.out kA;have ih:=visit_any c n hn hn8 hlim pa pc bb w0 hparts v K acaps Z J hat hok hJ k l1 (decWith d x' y' 2) (ev++e1) w8 zO zO (walkM_small _ _ _ (fun z hz=>hsm z (by simp[hz])) HM1.out) (decWith_le HDD.out zO) s8 j8;simp only[Vis.caps,List.append_toArray,List.nil_append,List.cons_append] at ih;have IH2:=zh ih;clear hτ hO hW K0 KD HS hB s8 j8 kA ih S7 D7 Q7 HK7 KA IH;simp only[overs,List.foldl_nil]
        rcases hm2:walkM c n k (decWith d x' y' 2) l1 with _|⟨l2,e2⟩
        ·have HM2:=zh hm2;clear hm2
         go_wp2_with (go_at_call 220;refine zM IH2 ?_;rintro e w9 ⟨hk9,hm⟩;rw[HM2.out] at hm;subst hm;have HK9:=zh hk9;clear hk9)
         exact⟨rfl,KB.out.trans HK9.out,by rw[walkM_two HK1.out HSP.out (by rw[HTA.out,HTB.out];exact HM1.out) (by rw[HTA.out,HTB.out];exact HM2.out)]⟩
        ·have HM2:=zh hm2;clear hm2
         go_wp2_with (go_at_call 220;refine zM IH2 ?_;rintro e w9 ⟨hk9,hm⟩;rw[HM2.out] at hm;obtain⟨rfl,hs9,hj9⟩:=hm;have HK9:=zh hk9;have S9:=zh hs9;have J9:=zh hj9;clear hk9 hs9 hj9)
         refine bodyPost_ret (results_none rfl _ _ _) rfl ⟨KB.out.trans HK9.out,?_⟩;rw[walkM_yes HK1.out HSP.out (by rw[HTA.out,HTB.out];exact HM1.out) (by rw[HTA.out,HTB.out];exact HM2.out)];exact⟨rfl,S9.out,by rw[←List.append_assoc];exact J9.out⟩
  ·have hk1b:((x.kind:Int)==1)=false:=by simp;omega
   have HK1:=zh hk1;clear hk1;have hL:=run_load_row (P:=Tryz.prog) D3.out Tryz.underlying227 rfl (dec_info _);have hds:=decCells_size d
   go_upto_region 9 with (refine wpList_load_box rfl 227 _ rfl rfl hL ?_)
   simp only[node_built];have hB4:Below w3.heap.size w3 (w3.alloc (.cells (nodeCells bb d) 246)):=(Below.refl _ _).alloc (Nat.le_refl _) _;have hn4:NodeAt c pa pc d bb w2.heap.size (w3.alloc (.cells (nodeCells bb d) 246)):=⟨H3.out.ben.alloc _,Box.new' s3.symm,hparts.below (H3.out.old.trans (hB4.mono H3.out.old.size))⟩
   have s4:=H3.out.below hB4;have hk4:=K3.out.trans (Keep.of_below' hB4);have hj4:=hJ _ _ _ J3.out (Keep.of_below' (K:=fun k=>k≠v.rb) hB4);have hq4:=Q3.out.below' hB4;have hm4:=s4.map;have q4:=hq4.cell;have p1:=s4.kin.cell;have hx5:=X5.out.below s4.old;clear hL q30 q31 q32 q33 p31 p32 H3 K3 J3 D3 Q3 X5;generalize w3.alloc (.cells (nodeCells bb d) 246)=w4 at *;have N4:=zh hn4;have S4:=zh s4;have K4:=zh hk4;have J4:=zh hj4;have Q4:=zh hq4;have X4:=zh hx5;have HDD:=zh hd;have HAT:=zh hat.2;have hent:=hat.1;have HL:=zh hn;clear hn4 s4 hk4 hj4 hq4 hB4 hx5 hd hn;have hz:(zeroValue 248).run Tryz.prog w4 = .ok .nilFunc w4:=zK
   by_cases hk2:x.kind=2
   ·have hlk:=run_lookup_ok (k:=.int .u8 x.kind) Tryz.underlying240 Tryz.underlying5 hm4 hz (by rw[hk2];exact leaf_two);simp only[Option.map_some,Option.getD_some,Option.isSome_some,leafFn] at hlk;have HK:=zh hk2;clear hk2;have HCA:=zh (clashes_any c n HL.out hn8 pa pc d HDD.out bb w2.heap.size w4 N4.out x.kind x.a x.b x.many ma mc)
    rcases hb:clashesB c d n x.a x.b x.many with _|_
    ·rw[hb] at HCA;have HLB:=zh (show leafB c d n x=false by simp only[leafB,HK.out];exact hb);clear hb
     go_wp2_with (first
      |(go_at_call 228;refine zM HCA ?_;rintro e w5 ⟨rfl,hb5⟩;have HB5:=zh hb5;clear hb5)
      |(go_at_call 221;(with_reducible refine(need_no _).mono ?_);rintro e w' ⟨rfl,rfl⟩))
     exact⟨rfl,(K4.out.mono fun k hk=>hk.1).trans (Keep.of_below' HB5.out),by rw[walkM_leaf HK1.out,HLB.out];rfl⟩
    ·rw[hb] at HCA;have HLB:=zh (show leafB c d n x=true by simp only[leafB,HK.out];exact hb);clear hb
     go_wp2_with (first
      |(go_at_call 228;refine zM HCA ?_;rintro e w5 ⟨rfl,hb5⟩;have HB5:=zh hb5;have q5:=(Q4.out.below' hb5).cell;have a5:=(S4.out.below hb5).att.cell;clear hb5)
      |(go_at_call 221;(with_reducible refine(need_ok _).mono ?_);rintro e w' ⟨rfl,rfl⟩))
     refine(HAT.out ev d x _ ma mc w5 HDD.out (S4.out.old.trans (HB5.out.mono S4.out.old.size)) (N4.out.below HB5.out) (X4.out.below HB5.out) x6 HLB.out (hJ _ _ _ J4.out (Keep.of_below' HB5.out))).mono ?_;rintro e w6 ⟨rfl,hj6,hk6⟩
     go_wp2_with fail
     go_end0
     refine⟨((K4.out.mono fun k (hk:k≠v.rb∧¬Z k)=>hk.1).trans (Keep.of_below' HB5.out)).trans (hk6.mono fun k hk=>hk.2),?_⟩;rw[walkM_leaf HK1.out,HLB.out];refine⟨rfl,(S4.out.below HB5.out).keep hk6 ?_ ?_ ?_,hj6⟩
     ·intro k hk hz;have:=hok.zn k hz;omega
     ·intro hz;have:=hok.zn _ hz;omega
     ·refine⟨?_,?_,?_,?_,?_,?_⟩<;>(intro hz;have:=hok.zn _ hz;omega)
   ·by_cases hk3:x.kind=3
    ·have hlk:=run_lookup_ok (k:=.int .u8 x.kind) Tryz.underlying240 Tryz.underlying5 hm4 hz (by rw[hk3];exact leaf_three);simp only[Option.map_some,Option.getD_some,Option.isSome_some,leafFn] at hlk;have HK:=zh hk3;clear hk3 hk2;have HCA:=zh (parted_any c n HL.out hn8 pa pc d HDD.out bb w2.heap.size w4 N4.out x.kind x.a x.b x.many ma mc)
     rcases hb:partedB d n x.a x.b x.many with _|_
     ·rw[hb] at HCA;have HLB:=zh (show leafB c d n x=false by simp only[leafB,HK.out];exact hb);clear hb
      go_wp2_with (first
       |(go_at_call 229;refine zM HCA ?_;rintro e w5 ⟨rfl,hb5⟩;have HB5:=zh hb5;clear hb5)
       |(go_at_call 221;(with_reducible refine(need_no _).mono ?_);rintro e w' ⟨rfl,rfl⟩))
      exact⟨rfl,(K4.out.mono fun k hk=>hk.1).trans (Keep.of_below' HB5.out),by rw[walkM_leaf HK1.out,HLB.out];rfl⟩
     ·rw[hb] at HCA;have HLB:=zh (show leafB c d n x=true by simp only[leafB,HK.out];exact hb);clear hb
      go_wp2_with (first
       |(go_at_call 229;refine zM HCA ?_;rintro e w5 ⟨rfl,hb5⟩;have HB5:=zh hb5;have q5:=(Q4.out.below' hb5).cell;have a5:=(S4.out.below hb5).att.cell;clear hb5)
       |(go_at_call 221;(with_reducible refine(need_ok _).mono ?_);rintro e w' ⟨rfl,rfl⟩))
      refine(HAT.out ev d x _ ma mc w5 HDD.out (S4.out.old.trans (HB5.out.mono S4.out.old.size)) (N4.out.below HB5.out) (X4.out.below HB5.out) x6 HLB.out (hJ _ _ _ J4.out (Keep.of_below' HB5.out))).mono ?_;rintro e w6 ⟨rfl,hj6,hk6⟩
      go_wp2_with fail
      go_end0
      refine⟨((K4.out.mono fun k (hk:k≠v.rb∧¬Z k)=>hk.1).trans (Keep.of_below' HB5.out)).trans (hk6.mono fun k hk=>hk.2),?_⟩;rw[walkM_leaf HK1.out,HLB.out];refine⟨rfl,(S4.out.below HB5.out).keep hk6 ?_ ?_ ?_,hj6⟩
      ·intro k hk hz;have:=hok.zn k hz;omega
      ·intro hz;have:=hok.zn _ hz;omega
      ·refine⟨?_,?_,?_,?_,?_,?_⟩<;>(intro hz;have:=hok.zn _ hz;omega)
    ·by_cases hk4:x.kind=4
     ·have hlk:=run_lookup_ok (k:=.int .u8 x.kind) Tryz.underlying240 Tryz.underlying5 hm4 hz (by rw[hk4];exact leaf_four);simp only[Option.map_some,Option.getD_some,Option.isSome_some,leafFn] at hlk;have HK:=zh hk4;clear hk4 hk2 hk3;have HCA:=zh (many_any c n HL.out hn8 hlim pa pc d HDD.out bb w2.heap.size w4 N4.out x.kind x.a x.b x.many ma mc X4.out x6 (hsm x zS).2)
      rcases hb:manyB c d n x.a x.b x.many with _|_
      ·rw[hb] at HCA;have HLB:=zh (show leafB c d n x=false by simp only[leafB,HK.out];exact hb);clear hb
       go_wp2_with (first
        |(go_at_call 230;refine zM HCA ?_;rintro e w5 ⟨rfl,hb5⟩;have HB5:=zh hb5;clear hb5)
        |(go_at_call 221;(with_reducible refine(need_no _).mono ?_);rintro e w' ⟨rfl,rfl⟩))
       exact⟨rfl,(K4.out.mono fun k hk=>hk.1).trans (Keep.of_below' HB5.out),by rw[walkM_leaf HK1.out,HLB.out];rfl⟩
      ·rw[hb] at HCA;have HLB:=zh (show leafB c d n x=true by simp only[leafB,HK.out];exact hb);clear hb
       go_wp2_with (first
        |(go_at_call 230;refine zM HCA ?_;rintro e w5 ⟨rfl,hb5⟩;have HB5:=zh hb5;have q5:=(Q4.out.below' hb5).cell;have a5:=(S4.out.below hb5).att.cell;clear hb5)
        |(go_at_call 221;(with_reducible refine(need_ok _).mono ?_);rintro e w' ⟨rfl,rfl⟩))
       refine(HAT.out ev d x _ ma mc w5 HDD.out (S4.out.old.trans (HB5.out.mono S4.out.old.size)) (N4.out.below HB5.out) (X4.out.below HB5.out) x6 HLB.out (hJ _ _ _ J4.out (Keep.of_below' HB5.out))).mono ?_;rintro e w6 ⟨rfl,hj6,hk6⟩
       go_wp2_with fail
       go_end0
       refine⟨((K4.out.mono fun k (hk:k≠v.rb∧¬Z k)=>hk.1).trans (Keep.of_below' HB5.out)).trans (hk6.mono fun k hk=>hk.2),?_⟩;rw[walkM_leaf HK1.out,HLB.out];refine⟨rfl,(S4.out.below HB5.out).keep hk6 ?_ ?_ ?_,hj6⟩
       ·intro k hk hz;have:=hok.zn k hz;omega
       ·intro hz;have:=hok.zn _ hz;omega
       ·refine⟨?_,?_,?_,?_,?_,?_⟩<;>(intro hz;have:=hok.zn _ hz;omega)
     ·have hlk:=run_lookup_ok (k:=.int .u8 x.kind) Tryz.underlying240 Tryz.underlying5 hm4 hz (leaf_none ⟨hk2,hk3,hk4⟩);simp only[Option.map_none,Option.getD_none,Option.isSome_none] at hlk;have HLB:=zh (show leafB c d n x=false by simp only[leafB,hk2,hk3,hk4,if_false]);clear hk2 hk3 hk4
      go_wp2_with (go_at_call 221;(with_reducible refine(need_no _).mono ?_);rintro e w' ⟨rfl,rfl⟩)
      exact⟨rfl,K4.out.mono fun k hk=>hk.1,by rw[walkM_leaf HK1.out,HLB.out];rfl⟩
end
