/- Walks and plain laws. No condition. -/
import Derived.Test.YtjgldeeianionaaGreatV18
import Derived.Test.YtjgldeeianionaaGreatV19
set_option maxHeartbeats 1000000
set_option maxRecDepth 100000
set_option linter.unusedSimpArgs false
set_option linter.unusedVariables false
namespace Go.Proofs.YtjgldeeianionaaGreat
open Go.RowKit
section
abbrev RowG:=List Value×Option Addr×Nat
def hdrG (z:RowG):Value:=.slice z.2.1 z.1.length z.2.2
def RowsG (T:TypeId)(B:Nat)(Q:Nat→Prop)(W:World)(v:Value)(L:List (List Value)):Prop:=
 ∃zs:List RowG,zs.map (·.1)=L∧W.ownsRow B T 1 v L.length (zs.map hdrG)∧∀z∈zs,Row W z.2.1 z.1∧z.1.length≤z.2.2∧∀b o,z.2.1=some ⟨b,o,none⟩→0<z.1.length→v.ownBlock≠some b∧Q b
theorem hdrG_one (zs:List RowG):∀u∈zs.map hdrG,u.oneCell'=true:=by
 intro u hu;obtain⟨z,_,rfl⟩:=List.mem_map.1 hu
 rfl
theorem row_lt {W:World}{a:Option Addr}{x:List Value}(h:Row W a x){b o:Nat}(ha:a=some ⟨b,o,none⟩)(hl:0<x.length):b<W.heap.size:=by
 obtain⟨u,hu⟩:=get_of_lt x hl;obtain⟨b',o',ha',hc⟩:=h 0 u hu;rw[ha] at ha';cases ha';exact lt_of_cell hc
theorem row_keep {K:Nat→Prop}{A C:World}{a:Option Addr}{x:List Value}(h:Row A a x)(hk:Keep K A C)(hK:∀b o,a=some ⟨b,o,none⟩→0<x.length→K b):Row C a x:=fun k u hu=>by
 obtain⟨b,o,ha,hc⟩:=h k u hu;have hl:0<x.length:=by have:=(List.getElem?_eq_some_iff.1 hu).1;omega
 exact⟨b,o,ha,hk.cell (hK b o ha hl) hc⟩
variable {T:TypeId}
theorem RowsG.keep {K Q:Nat→Prop}{B:Nat}{W W':World}{v:Value}{L:List (List Value)}(h:RowsG T B Q W v L)(hk:Keep K W W')(hK:∀k,k<W.heap.size→K k):RowsG T B Q W' v L:=by
 obtain⟨zs,h1,h2,h3⟩:=h;refine⟨zs,h1,⟨h2.1,?_⟩,fun z hz=>?_⟩
 ·rcases h2.2 with h0|⟨g,cap,cur,e1,e2,e3,e4⟩
  ·exact .inl h0
  ·exact .inr ⟨g,cap,cur,e1,e2,hk.heap (hK g (Array.getElem?_eq_some_iff.1 e3).1) e3,e4⟩
 ·obtain⟨a1,a2,a3⟩:=h3 z hz;exact⟨row_keep a1 hk (fun b o ha hl=>hK b (row_lt a1 ha hl)),a2,a3⟩
theorem RowsG.below {Q:Nat→Prop}{B:Nat}{W W':World}{v:Value}{L:List (List Value)}(h:RowsG T B Q W v L)(hb:Below W.heap.size W W'):RowsG T B Q W' v L:=h.keep (K:=fun _=>True) (Keep.of_below' hb) (fun _ _=>trivial)
theorem RowsG.nil (B:Nat)(Q:Nat→Prop)(W:World):RowsG T B Q W (.slice none 0 0) []:=⟨[],rfl,ownsRow_nil _ _ _ _,by simp⟩
theorem RowsG.lt {Q:Nat→Prop}{B:Nat}{W:World}{v:Value}{L:List (List Value)}(h:RowsG T B Q W v L){k:Nat}(hk:v.ownBlock=some k):B≤k∧k<W.heap.size:=by
 obtain⟨_,_,h,_⟩:=h;exact h.lt k hk
theorem RowsG.at_ {Q:Nat→Prop}{B:Nat}{W:World}{v:Value}{L:List (List Value)}(h:RowsG T B Q W v L):∃a cap,v = .slice a L.length cap∧∀k x,L[k]?=some x→∃b o ra rc,a=some ⟨b,o,none⟩∧W.cell? ⟨b,o+k,none⟩=some (.slice ra x.length rc)∧Row W ra x∧x.length≤rc:=by
 obtain⟨zs,h1,h2,h3⟩:=h;obtain⟨a,cap,hv,hr,_⟩:=ownsRow_own h2;refine⟨a,cap,hv,fun k x hx=>?_⟩;rw[←h1,List.getElem?_map] at hx;obtain⟨z,hz,rfl⟩:=Option.map_eq_some_iff.1 hx;obtain⟨b,o,ha,hc⟩:=hr.row k (hdrG z) (by rw[List.getElem?_map,hz];rfl);obtain⟨a1,a2,_⟩:=h3 z (List.mem_of_getElem? hz);exact⟨b,o,z.2.1,z.2.2,ha,hc,a1,a2⟩
theorem RowsG.less {Q Q':Nat→Prop}{B B':Nat}{W:World}{v:Value}{L:List (List Value)}(h:RowsG T B Q W v L)(hB:B'≤B)(hQ:∀b,Q b→Q' b):RowsG T B' Q' W v L:=by
 obtain⟨zs,h1,h2,h3⟩:=h;refine⟨zs,h1,⟨h2.1,?_⟩,fun z hz=>⟨(h3 z hz).1,(h3 z hz).2.1,fun b o ha hl=>⟨((h3 z hz).2.2 b o ha hl).1,hQ b ((h3 z hz).2.2 b o ha hl).2⟩⟩⟩
 rcases h2.2 with h0|⟨g,cap,cur,e1,e2,e3,e4⟩
 ·exact .inl h0
 ·exact .inr ⟨g,cap,cur,e1,Nat.le_trans hB e2,e3,e4⟩
theorem RowsG.push {TT:TypeId}(hu:Tryz.prog.underlying TT=some (.slice T))(hi:(Tryz.prog.info? T).map (fun i=>(i.zero,i.size,i.bytes))=some (some (.slice none 0 0),1,24)){Q:Nat→Prop}{B g:Nat}{W:World}{v:Value}{L:List (List Value)}(h:RowsG T B Q W v L)
 {ra:Option Addr} {rc:Nat} {x:List Value} (hx:Row W ra x) (hc:x.length≤rc) (hb:∀b o,ra=some ⟨b,o,none⟩→0<x.length→v.ownBlock≠some b∧Q b) (hg:Box W g #[.slice ra x.length rc] T) (hl:L.length+1≤1000000) (hB:B≤W.heap.size):
 ∃v' U,(Builtin.append_ #[TT,TT] TT #[v,.slice (some ⟨g,0,none⟩) 1 1]).run Tryz.prog W = .ok v' U∧RowsG T B Q U v' (L++[x])∧Keep (fun k=>v.ownBlock≠some k) W U∧(v'.ownBlock=v.ownBlock∨v'.ownBlock=some W.heap.size):=by
 obtain⟨zs,h1,h2,h3⟩:=h;have hrow:∀(k:Nat) (u:Value),[hdrG (x,ra,rc)][k]?=some u→∃b o,some (⟨g,0,none⟩:Addr)=some ⟨b,o,none⟩∧W.cell? ⟨b,o+k,none⟩=some u:=fun k u hu=>by
  refine⟨g,0,rfl,?_⟩;rw[hg.cell,Nat.zero_add]
  simpa[hdrG] using hu
 obtain⟨v',U,hrun,hown,hgr,hvb⟩:=run_append_row (P:=Tryz.prog) W B TT TT T (.slice none 0 0) 1 24 hu hi rfl zO
  v _ _ h2 (some ⟨g,0,none⟩) 1 1 [hdrG (x,ra,rc)] rfl hrow (hdrG_one [(x,ra,rc)]) hl zO hB
 have kU:Keep (fun k=>v.ownBlock≠some k) W U:=(Keep.refl _ W).grown hgr (fun k hk=>.inl (fun h=>h hk));refine⟨v',U,hrun,⟨zs++[(x,ra,rc)],by rw[List.map_append,h1];rfl,by rw[List.length_append,List.map_append];exact hown,fun z hz=>?_⟩,kU,hvb⟩;have all:Row W z.2.1 z.1∧z.1.length≤z.2.2∧∀b o,z.2.1=some ⟨b,o,none⟩→0<z.1.length→v.ownBlock≠some b∧Q b:=by
  rcases List.mem_append.1 hz with hz|hz
  ·exact h3 z hz
  ·rw[List.mem_singleton.1 hz];exact⟨hx,hc,hb⟩
 obtain⟨a1,a2,a3⟩:=all;refine⟨row_keep a1 kU (fun b o ha hl=>(a3 b o ha hl).1),a2,fun b o ha hl=>⟨?_,(a3 b o ha hl).2⟩⟩
 rcases hvb with h|h
 ·rw[h];exact(a3 b o ha hl).1
 ·rw[h];intro he;cases he;have:=row_lt a1 ha hl
  omega
end
section
attribute [local go_sem] Oper.semAt_some
theorem app_one {E TT:TypeId}{z:Value}{bytes:Nat}(ht:Tryz.prog.underlying TT=some (.slice E))(hi:(Tryz.prog.info? E).map (fun i=>(i.zero,i.size,i.bytes))=some (some z,1,bytes))(hz:z.cells.size=1)(hby:bytes≤10000){base:Nat}{W:World}{v:Value}{j:Nat}{xs:List Value}(h:W.ownsRow base E 1 v j xs)(hj:j+1≤1000000)(hB:base≤W.heap.size)(u:Value)(hu:u.oneCell'=true):
 ∃v' U,(Builtin.append_ #[TT,TT] TT #[v,.slice (some ⟨W.heap.size,0,none⟩) 1 1]).run Tryz.prog (W.alloc (.cells #[u] E)) = .ok v' U∧U.ownsRow base E 1 v' (j+1) (xs++[u])∧Below base W U:=by
 obtain⟨v',U,hrun,hown,hg,_⟩:=run_append_row (P:=Tryz.prog) (W.alloc (.cells #[u] E)) base TT TT E z 1 bytes ht hi hz zO
  _ _ _ (ownsRow_keep h ((Keep.refl (fun _=>True) W).alloc (.cells #[u] E)) (fun _ _=>trivial)) (some ⟨W.heap.size,0,none⟩) 1 1 [u] rfl (fun j u hu=>⟨W.heap.size,0,rfl,by rw[(Box.new W _ _).cell,Nat.zero_add];simpa using hu⟩) (by simpa using hu) zO zO zT
 exact⟨v',U,hrun,hown,((Below.refl _ W).alloc hB (.cells #[u] E)).grown hg zT (fun k hk=>(h.lt k hk).1)⟩
end
section
section
variable {P:Program}{md:Region.Mode}{ops:Array Oper}{Q:Exit→Act→World→Prop}{S:World→Prop}{m:Nat}
def wpAnyI (P:Program)(md:Region.Mode)(ops:Array Oper)(Q:Exit→Act→World→Prop)(S:World→Prop)(m:Nat):Nat→Array Bool→Act→World→Prop
 |0,listed,a,w=>Region.ready md ops listed=[]∧Q .normal a w
 |fuel+1,listed,a,w=>
  (Region.ready md ops listed=[]→Q .normal a w) ∧
  ∀i∈Region.ready md ops listed,wpOpIn Fence.wide 0 P ops Q i (fun a' w'=>(i=m∨S w')∧wpAnyI P md ops Q S m fuel (listed.setIfInBounds i true) a' w') a w
theorem wpAnyIn_of_I:∀(fuel:Nat) (listed:Array Bool) (a:Act) (w:World),wpAnyI P md ops Q S m fuel listed a w→wpAnyIn Fence.wide 0 P md ops Q fuel listed a w
 |0,_,_,_,h=>h
 |fuel+1,_,_,_,h=>⟨h.1,fun i hi=>wpOpIn_mono (fun a' w' h'=>wpAnyIn_of_I fuel _ a' w' h'.2) (h.2 i hi)⟩
theorem yieldsIf_wpOpIn {i:Nat}{o:Oper}{v:Value}{a:Act}(hi:ops[i]?=some o)(hy:YieldsIf P ops S o v a){K:Act→World→Prop}{w:World}(hS:S w)(h:K (a.put o.dst v) w):wpOpIn Fence.wide 0 P ops Q i K a w:=by
 unfold Go.wpOpIn;simp only[hi]
 rcases hy with ⟨hw,hv⟩|⟨hw,rfl⟩
 ·simp only[hw,if_true,Oper.wpIn];refine⟨fun _ _=>trivial,?_⟩;rw[show Fence.wide.round=none from rfl,Oper.semAt_none,hv w hS];exact h
 ·simp only[hw,Bool.false_eq_true,if_false];exact⟨fun _ _=>trivial,h⟩
theorem wpOpIn_putIf {j:Nat}{oi oj:Oper}{v:Value}(hj:ops[j]?=some oj)(hap:oi.apart ops oj=true)
 (hsi:∀cs b,oi.op ≠ .select cs b) (hsj:∀cs b,oj.op ≠ .select cs b)
 (hQ:∀c a w,Q (.panic c) (a.put oi.dst v) w→Q (.panic c) a w) {K:Act→World→Prop} {a:Act} {w:World}
 (hy:YieldsIf P ops S oi v a) (h:wpOpIn Fence.wide 0 P ops Q j K (a.put oi.dst v) w):
 wpOpIn Fence.wide 0 P ops Q j (fun a' w'=>YieldsIf P ops S oi v a'∧K (a'.put oi.dst v) w') a w:=by
 obtain⟨h1,h2,h3⟩:=Oper.apart_spec hap;have keep:∀(a:Act),YieldsIf P ops S oi v a→∀u,YieldsIf P ops S oi v (a.put oj.dst u):=fun a hy u=>
  hy.of_same (execOp_put oi hsi a oj.dst u h3) (wanted_put oi a oj.dst u h3)
 have keepD:∀d,YieldsIf P ops S oi v {a with defers:=d::a.defers}:=fun d=>hy.of_same rfl rfl
 unfold wpOpIn at *;simp only[hj] at *;rw[wanted_put oj a oi.dst v h1] at h
 split
 ·rename_i hw
  simp only[hw,if_true] at h;unfold Oper.wpIn at *;refine⟨fun _ _=>trivial,?_⟩;have h:=h.2;rw[show Fence.wide.round=none from rfl,Oper.semAt_none,execOp_put oj hsj a oi.dst v h1] at h;rw[show Fence.wide.round=none from rfl,Oper.semAt_none];generalize (execOp a.eval oj).run P w=r at *;cases r with
  |ok x w'=>
   cases x<;>simp only[Oper.uponIn] at h ⊢
   case value u=>exact⟨keep a hy u,by rw[←Act.put_comm a v u h2];exact h⟩
   case skip=>exact⟨keep a hy _,by rw[←Act.put_comm a v undef h2];exact h⟩
   case defer d=>
    refine⟨keep _ (keepD d) _,?_⟩;rw[←Act.put_comm _ v undef h2,←Act.put_defers];exact h
   case enter f args=>
    refine⟨h.1,CallsIn.mono h.2 fun e w'' he=>?_⟩;cases e with
    |returned u=>exact⟨keep a hy u,by rw[←Act.put_comm a v u h2];exact he⟩
    |panicked c=>exact hQ _ _ _ he
    |outgrown=>exact he
   case row row args=>exact⟨h.1,RowsIn.mono h.2 fun u w'' he=>⟨keep a hy u,by rw[←Act.put_comm a v u h2];exact he⟩⟩
   case round l f tmps assign body=>
    refine⟨h.1,RoundIn.mono h.2 fun e w'' he=>?_⟩;cases e with
    |returned u=>exact⟨keep a hy u,by rw[←Act.put_comm a v u h2];exact he⟩
    |panicked c=>exact hQ _ _ _ he
    |outgrown=>exact he
  |halt x w'=>
   cases x<;>simp only[Oper.uponIn] at h ⊢
   case panic u=>exact hQ _ _ _ h
 ·rename_i hw
  simp only[hw] at h;exact⟨fun _ _=>trivial,keep a hy _,by rw[←Act.put_comm a v undef h2];exact h.2⟩
theorem wpAnyI_first {i:Nat}{oi:Oper}{v:Value}(hsk:sinkL md ops m=true)(him:i≠m)(hi:ops[i]?=some oi)(hsel:∀(j:Nat) (o:Oper) cs b,ops[j]?=some o→o.op ≠ .select cs b)
 (hQ:∀c a w,Q (.panic c) (a.put oi.dst v) w→Q (.panic c) a w):
 ∀(fuel:Nat) (listed:Array Bool) (a:Act) (w:World),
  (∀j oj,ops[j]?=some oj→j≠i→listed.getD j true=false→(∀e∈oj.after,Region.binds md e=true→e.on≠i)→oi.apart ops oj=true) →
  i∈Region.ready md ops listed→YieldsIf P ops S oi v a→S w →
  wpAnyI P md ops Q S m fuel (listed.setIfInBounds i true) (a.put oi.dst v) w→wpAnyI P md ops Q S m (fuel+1) listed a w:=by
 intro fuel
 induction fuel with
 |zero=>
  intro listed a w _ hr hy hS H;refine⟨fun h=>(by rw[h] at hr;cases hr),fun j hj=>?_⟩
  by_cases hji:j=i
  ·subst hji;exact yieldsIf_wpOpIn hi hy hS ⟨.inr hS,H⟩
  ·have:=ready_mono hj hji;rw[H.1] at this;cases this
 |succ fuel ih=>
  intro listed a w hfree hr hy hS H;refine⟨fun h=>(by rw[h] at hr;cases hr),fun j hj=>?_⟩
  by_cases hji:j=i
  ·subst hji;exact yieldsIf_wpOpIn hi hy hS ⟨.inr hS,H⟩
  ·have h1:=H.2 j (ready_mono hj hji);have hjm:j≠m:=fun h=>sinkL_spec hsk hr him (h▸hj)
   obtain⟨hjun,oj,hoj,hall⟩:=mem_ready.1 hj;have hnot:∀e∈oj.after,Region.binds md e=true→e.on≠i:=fun e he hb heq=>by
    have h1:=hall e he hb;have h0:=(mem_ready.1 hr).1;rw[heq] at h1
    rcases Nat.lt_or_ge i listed.size with h'|h'
    ·simp[h'] at h0 h1;rw[h0] at h1;cases h1
    ·simp[Array.getElem?_eq_none h'] at h1
   have h2:=wpOpIn_putIf hoj (hfree j oj hoj hji hjun hnot) (fun cs b=>hsel i oi cs b hi) (fun cs b=>hsel j oj cs b hoj) hQ hy h1;have hfree':∀k ok,ops[k]?=some ok→k≠i→(listed.setIfInBounds j true).getD k true=false →
    (∀e∈ok.after,Region.binds md e=true→e.on≠i)→oi.apart ops ok=true:=fun k ok hk hki hun hno=>by
    refine hfree k ok hk hki ?_ hno
    by_cases hjk:j=k
    ·subst hjk;exact hjun
    ·rw[getD_set_ne true hjk] at hun;exact hun
   refine wpOpIn_mono (fun a' w' h3=>?_) h2;have hSw:S w':=h3.2.1.resolve_left hjm;refine⟨.inr hSw,ih (listed.setIfInBounds j true) a' w' hfree' (ready_mono hr (Ne.symm hji)) h3.1 hSw ?_⟩;rw[Array.setIfInBounds_comm _ _ hji];exact h3.2.2
theorem anyI_take {i:Nat}{oi:Oper}{v:Value}{fuel:Nat}{listed:Array Bool}{a:Act}{w:World}(hsk:sinkL md ops m=true)(hi:ops.toList[i]?=some oi)(him:(i != m)=true)
 (hs:Region.noSelect ops=true) (hf:Region.free md ops listed i=true) (hr:(Region.ready md ops listed).contains i=true)
 (hQ:∀c a w,Q (.panic c) (a.put oi.dst v) w→Q (.panic c) a w) (hw:Region.wanted oi (yielded ops a.tmps)=true) (hy:∀W,S W→(execOp a.eval oi).run P W = .ok (.value v) W) (hS:S w)
 (h:wpAnyI P md ops Q S m fuel (listed.setIfInBounds i true) (a.put oi.dst v) w):wpAnyI P md ops Q S m (fuel+1) listed a w:=
 wpAnyI_first hsk (by simpa using him) (at_list hi) (Region.noSelect_spec hs) hQ fuel listed a w (Region.free_spec (at_list hi) hf) (by simpa using hr) (.inl ⟨hw,hy⟩) hS h
theorem anyI_done {listed:Array Bool}{a:Act}{w:World}(hr:Region.ready md ops listed=[])(h:Q .normal a w):
 ∀fuel,wpAnyI P md ops Q S m fuel listed a w
 |0=>⟨hr,h⟩
 |_+1=>⟨fun _=>h,by rw[hr];simp⟩
theorem anyI_at {i:Nat}{oi:Oper}{fuel:Nat}{listed:Array Bool}{a:Act}{w:World}(hi:ops.toList[i]?=some oi)(hr:Region.ready md ops listed=[i])(hw:Region.wanted oi (yielded ops a.tmps)=true)
 (h:oi.uponIn Fence.wide 0 P a (fun a' w'=>(i=m∨S w')∧wpAnyI P md ops Q S m fuel (listed.setIfInBounds i true) a' w') Q ((execOp a.eval oi).run P w)):wpAnyI P md ops Q S m (fuel+1) listed a w:=by
 replace hi:=at_list hi;refine⟨fun h0=>absurd (hr▸h0) zS,fun j hj=>?_⟩;rw[hr] at hj;obtain rfl:j=i:=by simpa using hj
 unfold wpOpIn;simp only[hi,hw,if_true];unfold Oper.wpIn;refine⟨fun _ _=>trivial,?_⟩;rw[show Fence.wide.round=none from rfl,Oper.semAt_none];exact h
theorem anyI_run {i:Nat}{oi:Oper}{v:Value}{fuel:Nat}{listed:Array Bool}{a:Act}{w w':World}(hi:ops.toList[i]?=some oi)(hr:Region.ready md ops listed=[i])(hw:Region.wanted oi (yielded ops a.tmps)=true)
 (he:(execOp a.eval oi).run P w = .ok (.value v) w') (hS:i=m∨S w') (h:wpAnyI P md ops Q S m fuel (listed.setIfInBounds i true) (a.put oi.dst v) w'):wpAnyI P md ops Q S m (fuel+1) listed a w:=
 anyI_at hi hr hw (by rw[he];exact⟨hS,h⟩)
theorem anyI_call {i:Nat}{oi:Oper}{f:FuncId}{args:Array Value}{fuel:Nat}{listed:Array Bool}{a:Act}{w:World}{R:Ending→World→Prop}(hi:ops.toList[i]?=some oi)(hr:Region.ready md ops listed=[i])(hw:Region.wanted oi (yielded ops a.tmps)=true)
 (he:(execOp a.eval oi).run P w = .ok (.enter f args) w) (hc:Calls P f args w R)
 (h:∀e w',R e w'→(∃v,e = .returned v∧(i=m∨S w')∧wpAnyI P md ops Q S m fuel (listed.setIfInBounds i true) (a.put oi.dst v) w')∨(∃c,e = .panicked c∧Q (.panic c) a w')):wpAnyI P md ops Q S m (fuel+1) listed a w:=by
 refine anyI_at hi hr hw ?_;rw[he];refine⟨fun hh=>(by cases hh),callsIn_wide.2 (Calls.mono hc fun e w' hR=>?_)⟩
 rcases h e w' hR with ⟨v,rfl,h1,h2⟩|⟨c,rfl,h1⟩
 ·exact⟨h1,h2⟩
 ·exact h1
theorem anyI_yield {i:Nat}{oi:Oper}{l:Nat}{args:Array Value}{fuel:Nat}{listed:Array Bool}{a:Act}{w:World}{R:Ending→World→Prop}(hi:ops.toList[i]?=some oi)(hr:Region.ready md ops listed=[i])(hw:Region.wanted oi (yielded ops a.tmps)=true)
 (he:∀fn tmps assign body,(Instr.yield l args).run P w = .ok (.round l fn tmps assign body) w→(execOp a.eval oi).run P w = .ok (.round l fn tmps assign body) w) (hy:YieldAt Fence.wide 0 P l args w R)
 (h:∀e w',R e w'→∃v,e = .returned v∧(i=m∨S w')∧wpAnyI P md ops Q S m fuel (listed.setIfInBounds i true) (a.put oi.dst v) w'):wpAnyI P md ops Q S m (fuel+1) listed a w:=by
 obtain⟨fn,tmps,assign,body,h1,h2⟩:=hy;refine anyI_at hi hr hw ?_;rw[he _ _ _ _ h1];refine⟨fun hh=>(by cases hh),h2.mono fun e w' hR=>?_⟩;obtain⟨v,rfl,h3,h4⟩:=h e w' hR;exact⟨h3,h4⟩
theorem wpIn_region_I {id:Nat}{a:Act}{w:World}(S:World→Prop)(m:Nat)(hm:P.follows .mixedOrders=true)(h:wpAnyI P .any ops Q S m ops.size (Array.replicate ops.size false) a w.drew):(Code.region id ops true).wpIn Fence.wide 0 P Q a w:=
 wpIn_region_any hm (wpAnyIn_of_I _ _ _ _ h)
end
end
section
attribute [local go_sem] Oper.semAt_some
theorem first_ref (c:Cs)(hsm:c.Small)(pa:Option Addr)(pc:Nat)(w:World)(hp:PartsAt w pa c.parts):
 Calls Tryz.prog 175 #[.agg #[.string c.ware,.int .i64 c.limit,.int .i64 c.by_,.slice pa c.parts.length pc]] w (LookPost (checkCase c) ((allR c).find? fun _=>true) w):=by
 obtain⟨w1,hw1⟩:=zx (w.alloc (.cells #[.string c.ware,.int .i64 c.limit,.int .i64 c.by_,.slice pa c.parts.length pc] 24));have hB1:Below w.heap.size w w1:=by rw[←hw1];go_grown
 have b1:Box w1 w.heap.size (csCells c pa pc) 24:=by rw[←hw1];exact Box.new _ _ _
 have e1:=zC (b1);have hcc:=checkCase_ref c hsm pa pc w1 (hp.below hB1);have HP:=zh hp;have HW:=zh hw1;have HB1:=zh hB1;have HX:=zh b1;have HCC:=zh hcc;clear hw1 hB1 b1 hcc hp
 by_cases hz:checkCase c=0
 ·have h8:c.parts.length≤8:=check_small (ps:=[]) (by unfold openErr;rw[if_pos hz];rfl);have hlim:=check_lim hz;have hrl:=allR_len h8;have HZ:=zh hz;rw[hz] at HCC;clear hz
  rcases hL:allR c with _|⟨l,L⟩
  all_goals
   have HL:=zh hL;rw[hL] at hrl;clear hL
   go_enter Tryz.func175,Tryz.ntmps175
   go_upto_region 1 with fail
   simp only[HW.out]
   go_wp2_with fail
   refine zM HCC ?_;rintro e w2 ⟨rfl,hb2⟩;have e2:=zC ((HX.out.below' hb2));have HB2:=zh (HB1.out.trans (hb2.mono HB1.out.size));have HAL:=zh (allTop_ref c h8 hlim.1 pa pc w2 (HP.out.below HB2.out));clear hb2 e1
   go_wp2_with fail
   refine zM HAL ?_;rintro e w3 ⟨v,rfl,hv,hb3⟩;rw[HL.out] at hv;obtain⟨ra,rcap,rfl,hrd⟩:=hv.at_;have HB3:=zh (HB2.out.trans (hb3.mono HB2.out.size));clear hb3 hv e2
  ·simp only[List.length_nil];clear hrd
   go_wp2_with fail
   go_ret3
   exact⟨HB3.out,.inr (.inl ⟨HZ.out,rfl,rfl⟩)⟩
  ·obtain⟨b,o,la,lc,rfl,hc,hi,_⟩:=hrd 0 l rfl;have HI:=zh hi;rw[Nat.add_zero] at hc;obtain⟨N,hN⟩:=zx (L.length);simp only[List.length_cons,hN] at hrl ⊢;clear hrd hi hN
   go_wp2_with fail
   go_ret3
   exact⟨HB3.out,.inr (.inr ⟨HZ.out,l,la,lc,rfl,rfl,HI.out⟩)⟩
 ·have hzz:(checkCase c != 0)=true:=by simpa using hz
  have HZ:=zh hz;clear hz
  go_enter Tryz.func175,Tryz.ntmps175
  go_upto_region 1 with fail
  simp only[HW.out]
  go_wp2_with (go_at_call 143;refine zM HCC ?_;rintro e w2 ⟨rfl,hb2⟩;have HB2:=zh hb2;clear hb2)
  go_ret3
  exact⟨HB1.out.trans (HB2.out.mono HB1.out.size),.inl ⟨HZ.out,rfl⟩⟩
theorem clone2_any (a:Option Addr)(c:Nat)(l:List Int)(w:World)(h:Ints w a l)(hl:l.length≤100000):
 Calls Tryz.prog 152 #[.slice a l.length c] w (Copy2Post w.heap.size l w):=by
 rcases a with _|ad
 ·have hn:l=[]:=by
   cases l with
   |nil=>rfl
   |cons u r=>obtain⟨b,o,h,_⟩:=h 0 (.int .i64 u) rfl;cases h
  subst hn;have hnil:∀w:World,(binOp .eql 26 (.slice none 0 c) (.slice none 0 0)).run Tryz.prog w = .ok (.bool true) w:=fun w=>by kernel_rfl
  go_enter Tryz.func152,Tryz.ntmps152
  go_wp2_with fail
  go_ret
  exact⟨none,0,rfl,fun k v hv=>by simp at hv,by simp,Below.refl _ _⟩
 obtain⟨v',w',hrun,hown,hg,_⟩:=run_append_row (P:=Tryz.prog) (w.alloc (.cells #[] 3)) w.heap.size 26 26 3 (.int .i64 0) 1 8 Tryz.underlying26 info_int rfl zO
  (.slice (some ⟨w.heap.size,0,none⟩) 0 0) 0 [] (ownsRow_empty w _ _ _ (Nat.le_refl _)) (some ad) l.length c (l.map (.int .i64)) zS (h.below ((Below.refl _ w).alloc (Nat.le_refl _) _)) (ints_one l) zO zO zS
 have hnil:∀w:World,(binOp .eql 26 (.slice (some ad) l.length c) (.slice none 0 0)).run Tryz.prog w = .ok (.bool false) w:=fun w=>by kernel_rfl
 have HO:=zh hown;have HG:=zh hg;have HR:=zh hrun;clear hown hg hrun
 go_enter Tryz.func152,Tryz.ntmps152
 go_wp2_with (at_builtin;refine wpList_app rfl _ _ _ rfl rfl rfl HR.out ?_)
 go_ret
 obtain⟨a',c',rfl,hr,hcap⟩:=ownsRow_own HO.out;refine⟨a',c',by simp,by simpa using hr,by simpa using hcap,?_⟩;exact((Below.refl _ w).alloc (Nat.le_refl _) _).trans ((grown_below (ownsRow_empty w w.heap.size _ 1 (Nat.le_refl _)) HG.out (Nat.le_refl _) zS))
theorem cloneP_any (a:Option Addr)(c:Nat)(l:List Prt)(w0 w:World)(h:PartsAt w0 a l)(hw0:Below w0.heap.size w0 w)(hl:l.length≤1000)(hsm:a.isSome=true):
 Calls Tryz.prog 151 #[.slice a l.length c] w (CopyPPost l w0 w):=by
 obtain⟨ad,rfl⟩:=Option.isSome_iff_exists.1 hsm;obtain⟨news,hn1,hn2,hn3,hn4⟩:=parts_row h;have hB:Below w.heap.size w (w.alloc (.cells #[] 80)):=(Below.refl _ w).alloc (Nat.le_refl _) _;have hE:=ownsRow_empty w w.heap.size 80 8 (Nat.le_refl _);obtain⟨v',w',hrun,hown,hg,hvb⟩:=run_append_row (P:=Tryz.prog) (w.alloc (.cells #[] 80)) w.heap.size 22 22 80 zeroPart 8 96 Tryz.underlying22 info_partz rfl zO
  (.slice (some ⟨w.heap.size,0,none⟩) 0 0) 0 [] hE (some ad) l.length c news hn1 ((Row.below hn2 hw0).below hB) hn3 zO zO zS
 have hnil:∀w:World,(binOp .eql 22 (.slice (some ad) l.length c) (.slice none 0 0)).run Tryz.prog w = .ok (.bool false) w:=fun w=>by kernel_rfl
 have HO:=zh hown;have HG:=zh hg;have HR:=zh hrun;clear hown hg hrun
 go_enter Tryz.func151,Tryz.ntmps151
 go_wp2_with (at_builtin;refine wpList_app rfl _ _ _ rfl rfl rfl HR.out ?_)
 go_ret
 have hbel:Below w.heap.size w w':=hB.trans ((grown_below hE HG.out (Nat.le_refl _) zS));obtain⟨ho1,ho2⟩:=HO.out
 rcases ho2 with ⟨rfl,_⟩|⟨g,cap,cur,rfl,hgb,hh,hcap,_,hcs,htake⟩
 ·rcases hvb with hvb|hvb<;>simp[Value.ownBlock] at hvb
 ·simp only[Nat.zero_add,List.nil_append] at hcap htake ⊢;refine⟨g,cap,cur,rfl,hcap,hgb,hh,fun i p hp=>?_,hbel⟩;obtain⟨sa,sc,ra,rc,h1,h2,h3,h4,h5⟩:=hn4 i p hp;have hi:i<l.length:=(List.getElem?_eq_some_iff.1 hp).1;refine⟨sa,sc,ra,rc,fun j v hv=>?_,(h2.below hw0).below hbel,(h3.below hw0).below hbel,h4,h5,fun b o ha hl=>⟨?_,ints_block h2 ha hl⟩,fun b o ha hl=>⟨?_,ints_block h3 ha hl⟩⟩
  ·have hj:j<8:=(List.getElem?_eq_some_iff.1 hv).1;have:=h1 j v hv;rw[←htake,List.getElem?_take,if_pos zO] at this
   simpa using this
  ·have:=ints_block h2 ha hl;have:=hw0.size;omega
  ·have:=ints_block h3 ha hl;have:=hw0.size;omega
theorem cloneP_nil (c:Nat)(w:World):Calls Tryz.prog 151 #[.slice none 0 c] w fun e w'=>e = .returned (.slice none 0 0)∧w=w':=by
 have hnil:∀w:World,(binOp .eql 22 (.slice none 0 c) (.slice none 0 0)).run Tryz.prog w = .ok (.bool true) w:=fun w=>by kernel_rfl
 go_enter Tryz.func151,Tryz.ntmps151
 go_wp2_with fail
 go_ret
 exact⟨rfl,rfl⟩
structure AftSt (c:Cs) (w:World) (n PB pc':Nat) (l:List Prt) (W:World):Prop where
 box:Box W (w.heap.size+1) #[.string c.ware,.int .i64 c.limit,.int .i64 c.by_,.slice (some ⟨PB,0,none⟩) n pc'] 24
 res:Box W w.heap.size #[.string ⟨#[]⟩,.int .i64 0,.int .i64 0,.slice none 0 0] 24
 parts:∃cells M,PartsB w.heap.size M W PB cells l
 old:Below w.heap.size w W
section
variable {c:Cs}{w W W':World}{n PB pc' i:Nat}{l:List Prt}{p:Prt}{v id:Int}
theorem AftSt.far (h:AftSt c w n PB pc' l W):w.heap.size+2≤PB:=by
 obtain⟨cells,M,hb⟩:=h.parts;exact hb.far
theorem AftSt.low (h:AftSt c w n PB pc' l W)(hp:l[i]?=some p):AftSt c w n PB pc' (l.modify i (setLow v id)) ((W.setCell ⟨PB,i*8+1,none⟩ (.int .i64 v)).setCell ⟨PB,i*8+3,none⟩ (.int .i64 id)):=by
 have h2:=h.far;obtain⟨cells,M,hb⟩:=h.parts;obtain⟨cells',hb'⟩:=set_low (v:=v) (id:=id) hb hp;exact⟨(h.box.far zT _).far zT _,(h.res.far zT _).far zT _,⟨cells',M,hb'⟩,(h.old.setCell zT _).setCell zT _⟩
theorem AftSt.high (h:AftSt c w n PB pc' l W)(hp:l[i]?=some p):AftSt c w n PB pc' (l.modify i (setHigh v id)) ((W.setCell ⟨PB,i*8+2,none⟩ (.int .i64 v)).setCell ⟨PB,i*8+4,none⟩ (.int .i64 id)):=by
 have h2:=h.far;obtain⟨cells,M,hb⟩:=h.parts;obtain⟨cells',hb'⟩:=set_high (v:=v) (id:=id) hb hp;exact⟨(h.box.far zT _).far zT _,(h.res.far zT _).far zT _,⟨cells',M,hb'⟩,(h.old.setCell zT _).setCell zT _⟩
theorem AftSt.at_ (h:AftSt c w n PB pc' l W)(hp:l[i]?=some p):W.cell? ⟨PB,i*8+1,none⟩=some (.int .i64 p.span.low)∧W.cell? ⟨PB,i*8+2,none⟩=some (.int .i64 p.span.high) ∧
 W.cell? ⟨PB,i*8+3,none⟩=some (.int .i64 p.span.lowBy)∧W.cell? ⟨PB,i*8+4,none⟩=some (.int .i64 p.span.highBy):=by
 obtain⟨cells,M,hb⟩:=h.parts;exact own_at hb hp
theorem AftSt.free (h:AftSt c w n PB pc' l W)(i:Nat):W.frozen? ⟨PB,i,none⟩=false:=by
 obtain⟨cells,M,hb⟩:=h.parts;exact hb.box.frozen i
theorem AftSt.lt (h:AftSt c w n PB pc' l W):PB<W.heap.size:=by
 obtain⟨cells,M,hb⟩:=h.parts;exact hb.box.lt
theorem AftSt.drewN (h:AftSt c w n PB pc' l W)(k:Nat):AftSt c w n PB pc' l (W.drewN k):=by
 obtain⟨cells,M,hb⟩:=h.parts;exact⟨h.box,h.res,⟨cells,M,⟨hb.box,hb.far,hb.one⟩⟩,below_drewN h.old k⟩
theorem AftSt.below (h:AftSt c w n PB pc' l W)(hb:Below W.heap.size W W'):AftSt c w n PB pc' l W':=by
 obtain⟨cells,M,hp⟩:=h.parts;exact⟨h.box.below' hb,h.res.below' hb,⟨cells,M,hp.below hb⟩,h.old.trans (hb.mono h.old.size)⟩
end
def aftTo (c:Cs)(l:List Prb)(s fs:List Nat)(k:Nat):Option Cs:=aftGo c l ((s.zip fs).take k) c
theorem aftGo_append (c:Cs)(l:List Prb):∀(xs ys:List (Nat×Nat)) (d:Cs),aftGo c l (xs++ys) d=(aftGo c l xs d).bind (aftGo c l ys)
 |[],ys,d=>rfl
 |(v,k)::xs,ys,d=>by
  rw[List.cons_append,aftGo,aftGo]
  split
  ·rfl
  ·split
   ·rfl
   ·exact aftGo_append c l xs ys _
theorem aftTo_step {c:Cs}{l:List Prb}{s fs:List Nat}{k v f:Nat}{p:Prb}{d:Cs}(h:aftTo c l s fs k=some d)(hv:s[k]?=some v)(hf:fs[k]?=some f)(hp:l[v]?=some p):aftTo c l s fs (k+1)=aftStep c d p f:=by
 have hz:(s.zip fs)[k]?=some (v,f):=by rw[List.getElem?_zip_eq_some];exact⟨hv,hf⟩
 unfold aftTo at h ⊢;rw[take_snoc hz,aftGo_append,h];simp only[Option.bind_some];rw[aftGo,hp];simp only[aftGo];cases aftStep c d p f<;>rfl
theorem aftTo_none {c:Cs}{l:List Prb}{s fs:List Nat}{k:Nat}(h:aftTo c l s fs k=none):afterC c l s fs=none:=by
 unfold aftTo at h;unfold afterC
 conv=>lhs;rw[←List.take_append_drop k (s.zip fs)]
 rw[aftGo_append,h];rfl
theorem aftTo_all {c:Cs}{l:List Prb}{s fs:List Nat}{k:Nat}(hk:s.length≤k):aftTo c l s fs k=afterC c l s fs:=by
 unfold aftTo afterC;rw[List.take_of_length_le (by rw[List.length_zip];omega)]
theorem rangeCells_at:∀{L:List (Int×Int)} {k:Nat} {x:Int×Int},L[k]?=some x→(rangeCells L)[k*2]?=some (.int .i64 x.1)∧(rangeCells L)[k*2+1]?=some (.int .i64 x.2)
 |[],k,x,h=>by simp at h
 |y::L,0,x,h=>by
  simp at h;subst h
  simp[rangeCells]
 |y::L,k+1,x,h=>by
  have ih:=rangeCells_at (L:=L) (k:=k) (x:=x) (by simpa using h);have e:rangeCells (y::L) = .int .i64 y.1 :: .int .i64 y.2::rangeCells L:=rfl;rw[e,show(k+1)*2=k*2+1+1 by omega,show k*2+1+1+1=(k*2+1)+1+1 by omega]
  simpa using ih
theorem stepsOf_at {s:Spn}{w:Int}{k:Nat}(h:k<cntN s w):(stepsOf s w)[k]?=some (stepAt s w k):=by
 unfold stepsOf stepsTo;rw[List.getElem?_map,List.getElem?_range h];rfl
def AftPost (o:Option Cs)(w:World)(e:Ending)(w':World):Prop:=
 Below w.heap.size w w'∧((o=none∧e = .returned (.tuple #[.agg #[.string ⟨#[]⟩,.int .i64 0,.int .i64 0,.slice none 0 0],.bool false])) ∨
  ∃d ba pc',o=some d∧e = .returned (.tuple #[.agg #[.string d.ware,.int .i64 d.limit,.int .i64 d.by_,.slice ba d.parts.length pc'],.bool true])∧d.parts.length≤pc' ∧
   ((∃PB cells,ba=some ⟨PB,0,none⟩∧PartsOwn w.heap.size w' PB cells d.parts.length d.parts)∨(ba=none∧d.parts=[])))
def lowIf (b:Bool)(i:Nat)(v id:Int)(l:List Prt):List Prt:=if b then l.modify i (setLow v id) else l
def highIf (b:Bool)(i:Nat)(v id:Int)(l:List Prt):List Prt:=if b then l.modify i (setHigh v id) else l
def lowP (b:Bool)(v id:Int)(p:Prt):Prt:=if b then setLow v id p else p
theorem lowIf_at {b:Bool}{l:List Prt}{i:Nat}{v id:Int}{p:Prt}(h:l[i]?=some p):(lowIf b i v id l)[i]?=some (lowP b v id p):=by
 cases b<;>simp[lowIf,lowP,List.getElem?_modify,h]
theorem lowP_high (b:Bool)(v id:Int)(p:Prt):(lowP b v id p).span.high=p.span.high:=by cases b<;>rfl
theorem two_narrow {d:Cs}{i:Nat}{q:Prt}{lo hi id:Int}{b1 b2:Bool}(hq:d.parts[i]?=some q)(h1:decide (q.span.low<lo)=b1)(h2:decide (hi<q.span.high)=b2):
 highIf b2 i hi id (lowIf b1 i lo id d.parts)=(narrowC d i lo hi id).parts:=by
 subst h1 h2;unfold narrowC
 by_cases g1:q.span.low<lo<;>by_cases g2:hi<q.span.high
 ·simp only[lowIf,highIf,decide_eq_true g1,decide_eq_true g2,if_true];exact modify2 hq (by simp[setLow,setHigh,narrowP,g1,g2])
 ·simp only[lowIf,highIf,decide_eq_true g1,decide_eq_false g2,if_true];exact modify_at hq (by simp[setLow,narrowP,g1,g2])
 ·simp only[lowIf,highIf,decide_eq_false g1,decide_eq_true g2,if_true];exact modify_at hq (by simp[setHigh,narrowP,g1,g2])
 ·simp only[lowIf,highIf,decide_eq_false g1,decide_eq_false g2];have:=modify_at (f:=_root_.id) (g:=narrowP lo hi id) hq (by simp[narrowP,g1,g2]);exact(List.modify_id i d.parts).symm.trans this
structure AftIn (c:Cs) (w:World) (n PB pc':Nat) (l:List Prt) (G P0:Nat) (rc pcs:Array Value) (W:World):Prop where
 st:AftSt c w n PB pc' l W
 g:Box W G rc 164
 p:Box W P0 pcs 93
section
variable {c:Cs}{w W:World}{n PB pc' i G P0:Nat}{l:List Prt}{p:Prt}{v id:Int}{rc pcs:Array Value}
theorem AftIn.drewN (h:AftIn c w n PB pc' l G P0 rc pcs W)(k:Nat):AftIn c w n PB pc' l G P0 rc pcs (W.drewN k):=⟨h.st.drewN k,h.g,h.p⟩
theorem AftIn.low (h:AftIn c w n PB pc' l G P0 rc pcs W)(hG:G≠PB)(hP:P0≠PB)(hp:l[i]?=some p):AftIn c w n PB pc' (lowIf true i v id l) G P0 rc pcs ((W.setCell ⟨PB,i*8+1,none⟩ (.int .i64 v)).setCell ⟨PB,i*8+1+2,none⟩ (.int .i64 id)):=
 ⟨h.st.low hp,(h.g.far (by simpa using hG) _).far (by simpa using hG) _,(h.p.far (by simpa using hP) _).far (by simpa using hP) _⟩
theorem AftIn.high (h:AftIn c w n PB pc' l G P0 rc pcs W)(hG:G≠PB)(hP:P0≠PB)(hp:l[i]?=some p):AftIn c w n PB pc' (highIf true i v id l) G P0 rc pcs ((W.setCell ⟨PB,i*8+1+1,none⟩ (.int .i64 v)).setCell ⟨PB,i*8+1+3,none⟩ (.int .i64 id)):=
 ⟨h.st.high hp,(h.g.far (by simpa using hG) _).far (by simpa using hG) _,(h.p.far (by simpa using hP) _).far (by simpa using hP) _⟩
end
theorem nat_len (l:List Nat):(natInts l).length=l.length:=by simp[natInts]
theorem nat_snoc (l:List Nat)(x:Nat):natInts (l++[x])=natInts l++[(x:Int)]:=by simp[natInts]
theorem one_row {w:World}{g:Nat}{x:Int}{t:TypeId}(h:Box w g #[.int .i64 x] t):Row w (some ⟨g,0,none⟩) [.int .i64 x]:=fun k u hu=>⟨g,0,rfl,by rw[h.cell,Nat.zero_add];simpa using hu⟩
def outTo (ns pre:List Nat)(k:Nat):List (List Nat):=(List.range k).flatMap fun j=>outGo ns (pre++[j])
theorem outTo_succ (ns pre:List Nat)(k:Nat):outTo ns pre (k+1)=outTo ns pre k++outGo ns (pre++[k]):=by simp[outTo,List.range_succ,List.flatMap_append]
theorem outTo_le (ns pre:List Nat){k m:Nat}(h:k≤m):outTo ns pre k <+: outTo ns pre m:=by
 obtain⟨d,rfl⟩:=Nat.exists_eq_add_of_le h
 induction d with
 |zero=>exact List.prefix_rfl
 |succ d ih=>exact(ih zO).trans (by rw[←Nat.add_assoc,outTo_succ];exact List.prefix_append _ _)
theorem outTo_all (n:Nat)(ns pre:List Nat):outTo ns pre n=outGo (n::ns) pre:=rfl
def Kc (C:World→Nat→Prop)(W W':World):Prop:=Keep (fun k=>¬C W k) W W'∧∀k,C W' k→C W k∨W.heap.size≤k
theorem Kc.trans {C:World→Nat→Prop}{A B D:World}(h:Kc C A B)(k:Kc C B D):Kc C A D:=by
 refine⟨⟨k.1.os.trans h.1.os,k.1.tape.trans h.1.tape,k.1.output.trans h.1.output,Nat.le_trans h.1.size k.1.size,fun i hi hl=>?_⟩,fun i hi=>?_⟩
 ·have hb:¬C B i:=fun hc=>(h.2 i hc).elim hi (fun hx=>absurd hl zO)
  exact(k.1.block i hb (Nat.lt_of_lt_of_le hl h.1.size)).trans (h.1.block i hi hl)
 ·rcases k.2 i hi with hc|hc
  ·exact h.2 i hc
  ·exact .inr (Nat.le_trans h.1.size hc)
theorem Kc.of_below {C:World→Nat→Prop}{A B:World}(h:Below A.heap.size A B)(hC:∀k,C B k→C A k):Kc C A B:=⟨Keep.of_below' h,fun k hk=>.inl (hC k hk)⟩
structure OutOk (t:Nat) (c:Cs) (pa:Option Addr) (pc:Nat) (l:List Prb) (qa:Option Addr) (qc:Nat) (sa:Option Addr) (s:List Nat) (sc TB SB:Nat) (A:World):Prop where
 lab:LabAt A t c pa pc l qa qc
 set:Ints A sa (natInts s)
 tb:Box A TB #[.pointer (some ⟨t,0,none⟩)] 104
 sb:Box A SB #[.slice sa s.length sc] 26
def OutRd (n0:Nat)(D:Nat→Prop)(x:List Nat)(args:Array Value)(W:World):Prop:=
 ∃a cap,args = #[.slice a x.length cap]∧RowOwn n0 W a ((natInts x).map (Value.int .i64))∧x.length≤cap∧∀b o,a=some ⟨b,o,none⟩→0<x.length→¬D b
structure OutIn (l0 Y TB SB:Nat) (C:World→Nat→Prop) (W:World):Prop where
 yb:Box W Y #[.func (.yield l0) #[] #[]] 159
 nb:Box W (Y+1) #[.func (.func 177) #[] #[.pointer (some ⟨SB,0,none⟩),.pointer (some ⟨Y,0,none⟩),.pointer (some ⟨TB,0,none⟩),.pointer (some ⟨Y+1,0,none⟩)]] 159
 yc:¬C W Y
 nc:¬C W (Y+1)
theorem OutIn.kc {l0 Y TB SB:Nat}{C:World→Nat→Prop}{W W':World}(h:OutIn l0 Y TB SB C W)(hk:Kc C W W'):OutIn l0 Y TB SB C W':=
 ⟨hk.1.heap h.yc h.yb,hk.1.heap h.nc h.nb,fun hc=>(hk.2 _ hc).elim h.yc (fun hl=>absurd h.yb.lt zO),fun hc=>(hk.2 _ hc).elim h.nc (fun hl=>absurd h.nb.lt zO)⟩
theorem app_cut {W:World}{fa:Option Addr}{pre:List Nat}(h:Ints W fa (natInts pre))(hl:pre.length≤1000)(x:Nat):
 ∃v' U,(Builtin.append_ #[26,26] 26 #[.slice fa pre.length pre.length,.slice (some ⟨W.heap.size,0,none⟩) 1 1]).run Tryz.prog (W.alloc (.cells #[.int .i64 (x:Int)] 3)) = .ok v' U∧U.ownsRow W.heap.size 3 1 v' (pre.length+1) ((natInts (pre++[x])).map (Value.int .i64))∧Below W.heap.size W U:=by
 have hal:Below W.heap.size W (W.alloc (.cells #[.int .i64 (x:Int)] 3)):=(Below.refl _ W).alloc (Nat.le_refl _) _;have hx:Box (W.alloc (.cells #[.int .i64 (x:Int)] 3)) W.heap.size #[.int .i64 (x:Int)] 3:=Box.new _ _ _;rw[nat_snoc,List.map_append]
 rcases fa with _|⟨b,o,th⟩
 ·have hp:pre=[]:=by
   cases pre with
   |nil=>rfl
   |cons u r=>obtain⟨b,o,h,_⟩:=h 0 (.int .i64 (u:Int)) rfl;cases h
  subst hp;obtain⟨v',U,hrun,hown,hg,_⟩:=run_append_row (P:=Tryz.prog) (W.alloc (.cells #[.int .i64 (x:Int)] 3)) W.heap.size 26 26 3 (.int .i64 0) 1 8 Tryz.underlying26 info_int rfl zO
   (.slice none 0 0) 0 [] (ownsRow_nil _ _ _ _) (some ⟨W.heap.size,0,none⟩) 1 1 [.int .i64 (x:Int)] rfl (one_row hx) (by intro u hu;simp at hu;subst hu;rfl) zO zO zS
  exact⟨v',U,hrun,hown,hal.trans ((Below.refl _ _).grown hg zS (fun k hk=>by cases hk))⟩
 ·obtain⟨i,hi,hz⟩:=Option.map_eq_some_iff.1 (@info_int);simp only[Prod.mk.injEq] at hz;have hth:0<pre.length→th=none:=fun h0=>by
   obtain⟨b',o',e,_⟩:=h.base (by rw[nat_len];exact h0);cases e;rfl
  obtain⟨v',U,hrun,hown,hg⟩:=run_append_arg_grows (P:=Tryz.prog) (w:=W.alloc (.cells #[.int .i64 (x:Int)] 3)) 26 26 3 i (.int .i64 0) 1 8 Tryz.underlying26 hi hz.1 hz.2.1 hz.2.2 rfl zO
   ⟨b,o,th⟩ pre.length pre.length ((natInts pre).map (Value.int .i64)) (by simp[natInts]) (fun j u hu=>by
    obtain⟨b',o',e,hc⟩:=h.below hal j u hu;cases e;rw[Addr.add_lit];exact hc)
   ⟨W.heap.size,0,none⟩ 1 1 [.int .i64 (x:Int)] rfl (fun j u hu=>by
    obtain⟨b',o',e,hc⟩:=one_row hx j u hu;cases e;rw[Addr.add_lit];exact hc) zO (by unfold maxLen;omega) zO
  exact⟨v',U,hrun,ownsRow_low hown zS,hal.trans ((Below.refl _ _).grown hg zS (fun k hk=>by cases hk))⟩
end
theorem snoc_ind9 {α:Type}{P:List α→Prop}(h0:P [])(hs:∀l x,P l→P (l++[x]))(l:List α):P l:=by
 have h:∀m:List α,P m.reverse:=by
  intro m
  induction m with
  |nil=>exact h0
  |cons x m ih=>rw[List.reverse_cons];exact hs _ _ ih
 simpa using h l.reverse
def leastStep {α:Type}(cost:α→Int)(wanted:α→Bool)(o:Option α)(x:α):Option α:=
 if(match o with|none=>true|some b=>decide (cost x<cost b))&&wanted x then some x else o
def leastOf {α:Type}(cost:α→Int)(wanted:α→Bool)(l:List α):Option α:=l.foldl (leastStep cost wanted) none
theorem leastOf_snoc {α:Type}(cost:α→Int)(wanted:α→Bool)(l:List α)(x:α):leastOf cost wanted (l++[x])=leastStep cost wanted (leastOf cost wanted l) x:=by simp[leastOf,List.foldl_append]
theorem leastOf_some {α:Type}{cost:α→Int}{wanted:α→Bool}:∀(l:List α),(∀b,leastOf cost wanted l=some b→b∈l∧wanted b=true∧∀x∈l,wanted x=true→cost b≤cost x)∧(leastOf cost wanted l=none→∀x∈l,wanted x=false):=by
 refine snoc_ind9 ⟨fun b h=>by simp[leastOf] at h,fun _ x hx=>by simp at hx⟩ (fun l y ih=>?_);rw[leastOf_snoc];obtain⟨ih1,ih2⟩:=ih
 rcases ho:leastOf cost wanted l with _|b
 ·have h0:=ih2 ho;unfold leastStep
  rcases hw:wanted y with _|_
  ·simp only[Bool.and_false,Bool.false_eq_true,if_false];refine⟨fun b h=>by simp at h,fun _ x hx=>?_⟩
   rcases List.mem_append.1 hx with h|h
   ·exact h0 x h
   ·rw[List.mem_singleton.1 h];exact hw
  ·simp only[Bool.and_self,if_true];refine⟨fun b h=>?_,fun h=>by simp at h⟩;cases h;refine⟨by simp,hw,fun x hx hwx=>?_⟩
   rcases List.mem_append.1 hx with h|h
   ·rw[h0 x h] at hwx;cases hwx
   ·rw[List.mem_singleton.1 h];exact Int.le_refl _
 ·obtain⟨h1,h2,h3⟩:=ih1 b ho;unfold leastStep
  by_cases hc:cost y<cost b
  ·rcases hw:wanted y with _|_
   ·simp only[Bool.and_false,Bool.false_eq_true,if_false];refine⟨fun b' h=>?_,fun h=>by simp at h⟩;cases h;refine⟨List.mem_append_left _ h1,h2,fun x hx hwx=>?_⟩
    rcases List.mem_append.1 hx with h|h
    ·exact h3 x h hwx
    ·rw[List.mem_singleton.1 h,hw] at hwx;cases hwx
   ·simp only[hc,decide_true,Bool.and_self,if_true];refine⟨fun b' h=>?_,fun h=>by simp at h⟩;cases h;refine⟨by simp,hw,fun x hx hwx=>?_⟩
    rcases List.mem_append.1 hx with h|h
    ·have:=h3 x h hwx;omega
    ·rw[List.mem_singleton.1 h];exact Int.le_refl _
  ·simp only[hc,decide_false,Bool.false_and,Bool.false_eq_true,if_false];refine⟨fun b' h=>?_,fun h=>by simp at h⟩;cases h;refine⟨List.mem_append_left _ h1,h2,fun x hx hwx=>?_⟩
   rcases List.mem_append.1 hx with h|h
   ·exact h3 x h hwx
   ·rw[List.mem_singleton.1 h];omega
def cheapestOf (c:Cs)(l:List Prb)(a b:Nat):Option (List Nat):=leastOf (costOf l) (decidesB c l a b) (setsOf l.length)
def isInB (s t:List Nat):Bool:=s.all fun x=>t.contains x
def belowOf (l:List Prb)(n:Int):List (List Nat):=(setsOf l.length).filter fun s=>decide (costOf l s<n)
def proofAll (c:Cs)(l:List Prb)(a b:Nat):List (List Nat):=match cheapestOf c l a b with|some p=>belowOf l (costOf l p)|none=>setsOf l.length
def proofSets (c:Cs)(l:List Prb)(a b:Nat):List (List Nat):=(proofAll c l a b).filter fun s=>!((proofAll c l a b).any fun o=>decide (s.length<o.length)&&isInB s o)
def bestOf (c:Cs)(l:List Prb):Option ((Nat×Nat)×List Nat):=
 leastOf (fun x=>costOf l x.2) (fun _=>true) ((openOf c).filterMap fun p=>(cheapestOf c l p.1 p.2).map fun s=>(p,s))
section
attribute [local go_sem] Oper.semAt_some
def rowN (x:List Nat):List Value:=(natInts x).map (Value.int .i64)
def rowsN (L:List (List Nat)):List (List Value):=L.map rowN
theorem rowN_len (x:List Nat):(rowN x).length=x.length:=by simp[rowN,natInts]
theorem rowsN_snoc (L:List (List Nat))(x:List Nat):rowsN (L++[x])=rowsN L++[rowN x]:=by simp[rowsN]
theorem rowsN_len (L:List (List Nat)):(rowsN L).length=L.length:=by simp[rowsN]
def setTo (m r:Nat)(s:List Nat)(a k:Nat):List (List Nat):=(List.range k).flatMap fun j=>setGo m r (s++[a+j]) (a+j+1)
theorem setTo_succ (m r:Nat)(s:List Nat)(a k:Nat):setTo m r s a (k+1)=setTo m r s a k++setGo m r (s++[a+k]) (a+k+1):=by simp[setTo,List.range_succ,List.flatMap_append]
theorem setTo_le (m r:Nat)(s:List Nat)(a:Nat){k n:Nat}(h:k≤n):setTo m r s a k <+: setTo m r s a n:=by
 obtain⟨d,rfl⟩:=Nat.exists_eq_add_of_le h
 induction d with
 |zero=>exact List.prefix_rfl
 |succ d ih=>exact(ih zO).trans (by rw[←Nat.add_assoc,setTo_succ];exact List.prefix_append _ _)
theorem setGo_all (m r:Nat)(s:List Nat)(a:Nat):setGo m (r+1) s a=[s]++setTo m r s a (m-a):=rfl
theorem setGo_end {m r:Nat}{s:List Nat}{a:Nat}(h:m≤a):setGo m r s a=[s]:=by
 rcases r with _|r
 ·rfl
 ·rw[setGo_all,show m-a=0 by omega];simp[setTo]
theorem setGo_in:∀(r m:Nat) (s:List Nat) (a:Nat),∀x∈setGo m r s a,(∀v∈x,v∈s∨v<m)∧x.length≤s.length+r
 |0,m,s,a,x,hx=>by
  simp[setGo] at hx;subst hx
  exact⟨fun v hv=>.inl hv,zO⟩
 |r+1,m,s,a,x,hx=>by
  simp only[setGo,List.mem_cons,List.mem_flatMap,List.mem_range] at hx
  rcases hx with rfl|⟨k,hk,hx⟩
  ·exact⟨fun v hv=>.inl hv,zO⟩
  ·obtain⟨h1,h2⟩:=setGo_in r m _ _ x hx;refine⟨fun v hv=>?_,by simp at h2;omega⟩
   rcases h1 v hv with h|h
   ·rcases List.mem_append.1 h with h|h
    ·exact .inl h
    ·rw[List.mem_singleton.1 h];exact .inr zO
   ·exact .inr h
theorem sets_in {m:Nat}{x:List Nat}(hx:x∈setsOf m):(∀v∈x,v<m)∧x.length≤m:=by
 obtain⟨h1,h2⟩:=setGo_in m m [] 0 x hx;exact⟨fun v hv=>(h1 v hv).resolve_left zS,by simpa using h2⟩
theorem sets_len {m:Nat}(h:m≤5):(setsOf m).length≤32:=by
 rcases m with _|_|_|_|_|_|m
 ·decide
 ·decide
 ·decide
 ·decide
 ·decide
 ·decide
 ·omega
def SeC (O:Nat)(W:World)(k:Nat):Prop:=k=O∨∃v,Box W O #[v] 49∧v.ownBlock=some k
theorem box_uni {A:World}{b:Nat}{v u:Value}{t:TypeId}(h:Box A b #[v] t)(h':Box A b #[u] t):v=u:=by
 unfold Box at h h';rw[h] at h'
 simpa using h'
theorem setTo_up (m r:Nat)(s:List Nat){a j:Nat}(h:a≤j):setTo m r s a (j+1-a)=setTo m r s a (j-a)++setGo m r (s++[j]) (j+1):=by
 rw[show j+1-a=(j-a)+1 by omega,setTo_succ,show a+(j-a)=j by omega]
structure SeSt (w0:World) (t:Nat) (done:List (List Nat)) (W:World):Prop where
 old:Below w0.heap.size w0 W
 tb:Box W w0.heap.size #[.pointer (some ⟨t,0,none⟩)] 104
 nb:Box W (w0.heap.size+2) #[.func (.func 164) #[] #[.pointer (some ⟨w0.heap.size+1,0,none⟩),.pointer (some ⟨w0.heap.size,0,none⟩),.pointer (some ⟨w0.heap.size+2,0,none⟩)]] 192
 out:∃v,Box W (w0.heap.size+1) #[v] 49∧RowsG 26 (w0.heap.size+3) (fun b=>w0.heap.size+3≤b) W v (rowsN done)
theorem SeSt.below {w0:World}{t:Nat}{done:List (List Nat)}{W W':World}(h:SeSt w0 t done W)(hb:Below W.heap.size W W'):SeSt w0 t done W':=by
 obtain⟨v,h1,h2⟩:=h.out;exact⟨h.old.trans (hb.mono h.old.size),h.tb.below' hb,h.nb.below' hb,v,h1.below' hb,h2.below hb⟩
theorem SeSt.push {w0:World}{t:Nat}{done:List (List Nat)}{W:World}(h:SeSt w0 t done W){sa:Option Addr}{s:List Nat}{sc:Nat}(hS:Ints W sa (natInts s))(hc:s.length≤sc)(hf:∀b o,sa=some ⟨b,o,none⟩→0<s.length→w0.heap.size+3≤b∧¬SeC (w0.heap.size+1) W b)(hl:done.length+1≤1000000):
 ∃v av nv cv U,Box W (w0.heap.size+1) #[v] 49∧(Builtin.append_ #[49,49] 49 #[v,.slice (some ⟨W.heap.size,0,none⟩) 1 1]).run Tryz.prog (W.alloc (.cells #[.slice sa s.length sc] 26)) = .ok (.slice av nv cv) U ∧
  (∃q,Box U (w0.heap.size+1) #[q] 49)∧SeSt w0 t (done++[s]) (U.setCell ⟨w0.heap.size+1,0,none⟩ (.slice av nv cv))∧Kc (SeC (w0.heap.size+1)) W (U.setCell ⟨w0.heap.size+1,0,none⟩ (.slice av nv cv)):=by
 obtain⟨v,h1,h2⟩:=h.out;have hlt:=h.nb.lt;have hal:Below W.heap.size W (W.alloc (.cells #[.slice sa s.length sc] 26)):=(Below.refl _ W).alloc (Nat.le_refl _) _;have hg:Box (W.alloc (.cells #[.slice sa s.length sc] 26)) W.heap.size #[.slice sa (rowN s).length sc] 26:=by rw[rowN_len];exact Box.new _ _ _
 obtain⟨v',U,hrun,hrows,hk,hvb⟩:=(h2.below hal).push (TT:=49) Tryz.underlying49 zK (ra:=sa) (rc:=sc) (x:=rowN s) (hS.below hal) (by rw[rowN_len];exact hc) (fun b o ha h0=>by
  obtain⟨f1,f2⟩:=hf b o ha (by rwa [rowN_len] at h0);exact⟨fun he=>f2 (.inr ⟨v,h1,he⟩),f1⟩) hg (by rw[rowsN_len];exact hl) zT
 have hvo:v.ownBlock≠some (w0.heap.size+1):=fun he=>by have:=(h2.lt he).1;omega
 have hUo:Box U (w0.heap.size+1) #[v] 49:=hk.heap hvo (h1.below' hal);have hkW:Keep (fun k=>v.ownBlock≠some k) W U:=(Keep.of_below' hal).trans hk;have hn:∀k,v.ownBlock=some k→w0.heap.size+3≤k:=fun k hk=>(h2.lt hk).1
 obtain⟨av,cv,hve,_⟩:=hrows.at_;rw[hve] at hrun hrows hvb;clear hve v';obtain⟨v',hve⟩:∃v':Value,v' = .slice av (rowsN done++[rowN s]).length cv:=⟨_,rfl⟩
 refine⟨v,av,(rowsN done++[rowN s]).length,cv,U,h1,hrun,?_⟩;rw[←hve] at hrows hvb ⊢;refine⟨⟨v,hUo⟩,⟨?_,?_,?_,v',hUo.set_ 0 v',?_⟩,?_,fun k hk=>?_⟩
 ·exact(h.old.trans ((hkW.mono fun i (hi:i<w0.heap.size) he=>by have:=hn _ he;omega).below h.old.size)).setCell zS _
 ·exact Box.far (hkW.heap (fun he=>by have:=hn _ he;omega) h.tb) zS _
 ·exact Box.far (hkW.heap (fun he=>by have:=hn _ he;omega) h.nb) zS _
 ·rw[rowsN_snoc];have hv':∀k,v'.ownBlock=some k→w0.heap.size+3≤k:=fun k hk=>(hrows.lt hk).1
  obtain⟨zs,z1,z2,z3⟩:=hrows;have kS:Keep (fun k=>k≠w0.heap.size+1) U (U.setCell ⟨w0.heap.size+1,0,none⟩ v'):=(Keep.refl _ U).setCell (.inl zS) _;refine⟨zs,z1,ownsRow_keep z2 kS (fun k hk=>by omega),fun z hz=>?_⟩;obtain⟨a1,a2,a3⟩:=z3 z hz;exact⟨row_keep a1 kS (fun b o hb h0=>by have:=(a3 b o hb h0).2;omega),a2,a3⟩
 ·exact(hkW.mono fun k (hk:¬SeC (w0.heap.size+1) W k) he=>hk (.inr ⟨v,h1,he⟩)).setCell (.inl (fun h=>h (.inl rfl))) _
 ·rcases hk with rfl|⟨u,hu,he⟩
  ·exact .inl (.inl rfl)
  ·rw[box_uni hu (hUo.set_ 0 v')] at he
   rcases hvb with e|e
   ·exact .inl (.inr ⟨v,h1,by rw[←e];exact he⟩)
   ·rw[e] at he;cases he;exact .inr zS
end
