/- The walks and plain laws of: MRowsG MAnswers MPlain MPlainA MDecR MSameP MLawB. No condition. -/
import Derived.Laws.StructEq
import Derived.ChangeKeysEq
import Derived.Sort.CutIn
import Derived.Test.YtjgldeeianionaaGreatT01
import Derived.Test.YtjgldeeianionaaGreatT02
import Derived.Test.YtjgldeeianionaaGreatT04
import Derived.Test.YtjgldeeianionaaGreatT06
import Derived.Test.YtjgldeeianionaaGreatT07
import Derived.Test.YtjgldeeianionaaGreatT11
import Derived.Test.YtjgldeeianionaaGreatT12
import Derived.Test.YtjgldeeianionaaGreatT13
import Derived.Test.YtjgldeeianionaaGreatT14
import Derived.Test.YtjgldeeianionaaGreatT16
set_option maxHeartbeats 1000000
set_option linter.unusedSimpArgs false
set_option linter.unusedVariables false
namespace Go.Proofs.YtjgldeeianionaaGreat
open Go.RowKit
abbrev RowG:=List Value×Option Addr×Nat
def hdrG (z:RowG):Value:=.slice z.2.1 z.1.length z.2.2
def RowsG (T:TypeId)(B:Nat)(Q:Nat→Prop)(W:World)(v:Value)(L:List (List Value)):Prop:=
 ∃zs:List RowG,zs.map (·.1)=L∧W.ownsRow B T 1 v L.length (zs.map hdrG)∧∀z∈zs,Row W z.2.1 z.1∧z.1.length≤z.2.2∧∀b o,z.2.1=some ⟨b,o,none⟩→0<z.1.length→v.ownBlock≠some b∧Q b
theorem hdrG_one (zs:List RowG):∀u∈zs.map hdrG,u.oneCell'=true:=by
 intro u hu;obtain⟨z,_,rfl⟩:=List.mem_map.1 hu
 rfl
theorem row_lt {W:World}{a:Option Addr}{x:List Value}(h:Row W a x){b o:Nat}(ha:a=some ⟨b,o,none⟩)(hl:0<x.length):b<W.heap.size:=by
 obtain⟨u,hu⟩:=get_of_lt x hl;obtain⟨b',o',ha',hc⟩:=h 0 u hu;rw[ha] at ha';cases ha';exact lt_of_cell hc
theorem row_keep {K:Nat→Prop}{A C:World}{a:Option Addr}{x:List Value}(h:Row A a x)(hk:Keep K A C)(hK:∀b o,a=some ⟨b,o,none⟩→0<x.length→K b):Row C a x:=fun k u hu=>by
 obtain⟨b,o,ha,hc⟩:=h k u hu;have hl:0<x.length:=by have:=(List.getElem?_eq_some_iff.1 hu).1;omega
 exact⟨b,o,ha,hk.cell (hK b o ha hl) hc⟩
variable {T:TypeId}
theorem RowsG.keep {K Q:Nat→Prop}{B:Nat}{W W':World}{v:Value}{L:List (List Value)}(h:RowsG T B Q W v L)(hk:Keep K W W')(hK:∀k,k<W.heap.size→K k):RowsG T B Q W' v L:=by
 obtain⟨zs,h1,h2,h3⟩:=h;refine⟨zs,h1,⟨h2.1,?_⟩,fun z hz=>?_⟩
 ·rcases h2.2 with h0|⟨g,cap,cur,e1,e2,e3,e4⟩
  ·exact .inl h0
  ·exact .inr ⟨g,cap,cur,e1,e2,hk.heap (hK g (Array.getElem?_eq_some_iff.1 e3).1) e3,e4⟩
 ·obtain⟨a1,a2,a3⟩:=h3 z hz;exact⟨row_keep a1 hk (fun b o ha hl=>hK b (row_lt a1 ha hl)),a2,a3⟩
theorem RowsG.below {Q:Nat→Prop}{B:Nat}{W W':World}{v:Value}{L:List (List Value)}(h:RowsG T B Q W v L)(hb:Below W.heap.size W W'):RowsG T B Q W' v L:=h.keep (K:=fun _=>True) (Keep.of_below' hb) (fun _ _=>trivial)
theorem RowsG.nil (B:Nat)(Q:Nat→Prop)(W:World):RowsG T B Q W (.slice none 0 0) []:=⟨[],rfl,ownsRow_nil _ _ _ _,by simp⟩
theorem RowsG.lt {Q:Nat→Prop}{B:Nat}{W:World}{v:Value}{L:List (List Value)}(h:RowsG T B Q W v L){k:Nat}(hk:v.ownBlock=some k):B≤k∧k<W.heap.size:=by
 obtain⟨_,_,h,_⟩:=h;exact h.lt k hk
theorem RowsG.at_ {Q:Nat→Prop}{B:Nat}{W:World}{v:Value}{L:List (List Value)}(h:RowsG T B Q W v L):∃a cap,v = .slice a L.length cap∧∀k x,L[k]?=some x→∃b o ra rc,a=some ⟨b,o,none⟩∧W.cell? ⟨b,o+k,none⟩=some (.slice ra x.length rc)∧Row W ra x∧x.length≤rc:=by
 obtain⟨zs,h1,h2,h3⟩:=h;obtain⟨a,cap,hv,hr,_⟩:=ownsRow_own h2;refine⟨a,cap,hv,fun k x hx=>?_⟩;rw[←h1,List.getElem?_map] at hx;obtain⟨z,hz,rfl⟩:=Option.map_eq_some_iff.1 hx;obtain⟨b,o,ha,hc⟩:=hr.row k (hdrG z) (by rw[List.getElem?_map,hz];rfl);obtain⟨a1,a2,_⟩:=h3 z (List.mem_of_getElem? hz);exact⟨b,o,z.2.1,z.2.2,ha,hc,a1,a2⟩
theorem RowsG.less {Q Q':Nat→Prop}{B B':Nat}{W:World}{v:Value}{L:List (List Value)}(h:RowsG T B Q W v L)(hB:B'≤B)(hQ:∀b,Q b→Q' b):RowsG T B' Q' W v L:=by
 obtain⟨zs,h1,h2,h3⟩:=h;refine⟨zs,h1,⟨h2.1,?_⟩,fun z hz=>⟨(h3 z hz).1,(h3 z hz).2.1,fun b o ha hl=>⟨((h3 z hz).2.2 b o ha hl).1,hQ b ((h3 z hz).2.2 b o ha hl).2⟩⟩⟩
 rcases h2.2 with h0|⟨g,cap,cur,e1,e2,e3,e4⟩
 ·exact .inl h0
 ·exact .inr ⟨g,cap,cur,e1,Nat.le_trans hB e2,e3,e4⟩
theorem RowsG.push {TT:TypeId}(hu:Tryz.prog.underlying TT=some (.slice T))(hi:(Tryz.prog.info? T).map (fun i=>(i.zero,i.size,i.bytes))=some (some (.slice none 0 0),1,24)){Q:Nat→Prop}{B g:Nat}{W:World}{v:Value}{L:List (List Value)}(h:RowsG T B Q W v L)
 {ra:Option Addr} {rc:Nat} {x:List Value} (hx:Row W ra x) (hc:x.length≤rc) (hb:∀b o,ra=some ⟨b,o,none⟩→0<x.length→v.ownBlock≠some b∧Q b) (hg:Box W g #[.slice ra x.length rc] T) (hl:L.length+1≤1000000) (hB:B≤W.heap.size):
 ∃v' U,(Builtin.append_ #[TT,TT] TT #[v,.slice (some ⟨g,0,none⟩) 1 1]).run Tryz.prog W = .ok v' U∧RowsG T B Q U v' (L++[x])∧Keep (fun k=>v.ownBlock≠some k) W U∧(v'.ownBlock=v.ownBlock∨v'.ownBlock=some W.heap.size):=by
 obtain⟨zs,h1,h2,h3⟩:=h;have hrow:∀(k:Nat) (u:Value),[hdrG (x,ra,rc)][k]?=some u→∃b o,some (⟨g,0,none⟩:Addr)=some ⟨b,o,none⟩∧W.cell? ⟨b,o+k,none⟩=some u:=fun k u hu=>by
  refine⟨g,0,rfl,?_⟩;rw[hg.cell,Nat.zero_add]
  simpa[hdrG] using hu
 obtain⟨v',U,hrun,hown,hgr,hvb⟩:=run_append_row (P:=Tryz.prog) W B TT TT T (.slice none 0 0) 1 24 hu hi rfl zO
  v _ _ h2 (some ⟨g,0,none⟩) 1 1 [hdrG (x,ra,rc)] rfl hrow (hdrG_one [(x,ra,rc)]) hl zO hB
 have kU:Keep (fun k=>v.ownBlock≠some k) W U:=(Keep.refl _ W).grown hgr (fun k hk=>.inl (fun h=>h hk));refine⟨v',U,hrun,⟨zs++[(x,ra,rc)],by rw[List.map_append,h1];rfl,by rw[List.length_append,List.map_append];exact hown,fun z hz=>?_⟩,kU,hvb⟩;have all:Row W z.2.1 z.1∧z.1.length≤z.2.2∧∀b o,z.2.1=some ⟨b,o,none⟩→0<z.1.length→v.ownBlock≠some b∧Q b:=by
  rcases List.mem_append.1 hz with hz|hz
  ·exact h3 z hz
  ·rw[List.mem_singleton.1 hz];exact⟨hx,hc,hb⟩
 obtain⟨a1,a2,a3⟩:=all;refine⟨row_keep a1 kU (fun b o ha hl=>(a3 b o ha hl).1),a2,fun b o ha hl=>⟨?_,(a3 b o ha hl).2⟩⟩
 rcases hvb with h|h
 ·rw[h];exact(a3 b o ha hl).1
 ·rw[h];intro he;cases he;have:=row_lt a1 ha hl
  omega
end Go.Proofs.YtjgldeeianionaaGreat
namespace Go.Proofs.YtjgldeeianionaaGreat
open Go.RowKit
attribute [local go_sem] Oper.semAt_some
def ansRowTo (c:Cs)(x k:Nat):List Value:=(List.range k).map fun y=>.int .u8 (ansAt c x y)
def ansRowsTo (c:Cs)(k:Nat):List (List Value):=(List.range k).map fun x=>ansRowTo c x c.parts.length
def ansRows (c:Cs):List (List Value):=ansRowsTo c c.parts.length
theorem ansRowTo_len (c:Cs)(x k:Nat):(ansRowTo c x k).length=k:=by simp[ansRowTo]
theorem ansRowsTo_len (c:Cs)(k:Nat):(ansRowsTo c k).length=k:=by simp[ansRowsTo]
theorem ansRowTo_succ (c:Cs)(x k:Nat):ansRowTo c x (k+1)=ansRowTo c x k++[.int .u8 (ansAt c x k)]:=by simp[ansRowTo,List.range_succ]
theorem ansRowsTo_succ (c:Cs)(k:Nat):ansRowsTo c (k+1)=ansRowsTo c k++[ansRowTo c k c.parts.length]:=by simp[ansRowsTo,List.range_succ]
theorem info_u8:(Tryz.prog.info? 5).map (fun i=>(i.zero,i.size,i.bytes))=some (some (.int .u8 0),1,1):=zK
theorem info_row8:(Tryz.prog.info? 187).map (fun i=>(i.zero,i.size,i.bytes))=some (some (.slice none 0 0),1,24):=zK
def RowsPost (T:TypeId)(er:Int)(L:List (List Value))(w:World)(e:Ending)(w':World):Prop:=
 Below w.heap.size w w'∧((er≠0∧e = .returned (.tuple #[.slice none 0 0,.int .i64 er]))∨(er=0∧∃v,e = .returned (.tuple #[v,.int .i64 0])∧RowsG T w.heap.size (fun b=>w.heap.size≤b) w' v L))
theorem app_one {E TT:TypeId}{z:Value}{bytes:Nat}(ht:Tryz.prog.underlying TT=some (.slice E))(hi:(Tryz.prog.info? E).map (fun i=>(i.zero,i.size,i.bytes))=some (some z,1,bytes))(hz:z.cells.size=1)(hby:bytes≤10000){base:Nat}{W:World}{v:Value}{j:Nat}{xs:List Value}(h:W.ownsRow base E 1 v j xs)(hj:j+1≤1000000)(hB:base≤W.heap.size)(u:Value)(hu:u.oneCell'=true):
 ∃v' U,(Builtin.append_ #[TT,TT] TT #[v,.slice (some ⟨W.heap.size,0,none⟩) 1 1]).run Tryz.prog (W.alloc (.cells #[u] E)) = .ok v' U∧U.ownsRow base E 1 v' (j+1) (xs++[u])∧Below base W U:=by
 obtain⟨v',U,hrun,hown,hg,_⟩:=run_append_row (P:=Tryz.prog) (W.alloc (.cells #[u] E)) base TT TT E z 1 bytes ht hi hz zO
  _ _ _ (ownsRow_keep h ((Keep.refl (fun _=>True) W).alloc (.cells #[u] E)) (fun _ _=>trivial)) (some ⟨W.heap.size,0,none⟩) 1 1 [u] rfl (fun j u hu=>⟨W.heap.size,0,rfl,by rw[(Box.new W _ _).cell,Nat.zero_add];simpa using hu⟩) (by simpa using hu) zO zO zT
 exact⟨v',U,hrun,hown,((Below.refl _ W).alloc hB (.cells #[u] E)).grown hg zT (fun k hk=>(h.lt k hk).1)⟩
theorem push_own {T TT E:TypeId}(hu:Tryz.prog.underlying TT=some (.slice T))(hi:(Tryz.prog.info? T).map (fun i=>(i.zero,i.size,i.bytes))=some (some (.slice none 0 0),1,24)){B:Nat}{wo wx:World}{ov rv:Value}{L:List (List Value)}{n:Nat}{xs:List Value}(h:RowsG T B (fun b=>B≤b) wo ov L)(hb:Below wo.heap.size wo wx)(ho:wx.ownsRow wo.heap.size E 1 rv n xs)(hl:L.length+1≤1000000)(hB:B≤wo.heap.size):
 ∃v' U,(Builtin.append_ #[TT,TT] TT #[ov,.slice (some ⟨wx.heap.size,0,none⟩) 1 1]).run Tryz.prog (wx.alloc (.cells #[rv] T)) = .ok v' U∧RowsG T B (fun b=>B≤b) U v' (L++[xs])∧Below B wx U:=by
 have hs:=hb.size;have hn:xs.length=n:=by have:=ho.1;omega
 obtain⟨a,cap,rfl,hro,hcap⟩:=ownsRow_own ho;subst hn;have hba:Below wx.heap.size wx (wx.alloc (.cells #[.slice a xs.length cap] T)):=(Below.refl _ _).alloc (Nat.le_refl _) _;have hrow:Row (wx.alloc (.cells #[.slice a xs.length cap] T)) a xs:=row_keep hro.row (K:=fun _=>True) (Keep.of_below' hba) (fun _ _ _ _=>trivial);obtain⟨v',U,hrun,hown,hk,_⟩:=((h.below hb).below hba).push hu hi hrow hcap (fun b o e hl=>by
  obtain⟨u,hu⟩:=get_of_lt xs hl;obtain⟨b',o',e',hbb,_⟩:=hro 0 u hu;rw[e] at e';cases e';refine⟨fun hv=>?_,zO⟩;have:=(h.lt hv).2
  omega) (Box.new wx _ T) hl zT
 refine⟨v',U,hrun,hown,(hba.mono zO).trans ((hk.mono (fun k (hk:k<B) hv=>?_)).below zT)⟩;have:=(h.lt hv).1
 omega
end Go.Proofs.YtjgldeeianionaaGreat
namespace Go.Proofs.YtjgldeeianionaaGreat
open Go.RowKit
def OkExt (c:Cs):List Nat→List Nat→Prop
 |_,[]=>True
 |pre,v::e=>v≤manyOf pre∧freeB c pre v=true∧OkExt c (pre++[v]) e
theorem mem_allGo (c:Cs):∀(r:Nat) (pre x:List Nat),x∈allGo c r pre↔∃e,x=pre++e∧e.length=r∧OkExt c pre e
 |0,pre,x=>by
  simp only[allGo,List.mem_singleton];constructor
  ·rintro rfl;exact⟨[],by simp,rfl,trivial⟩
  ·rintro⟨e,rfl,he,_⟩;rw[List.eq_nil_of_length_eq_zero he];simp
 |r+1,pre,x=>by
  simp only[allGo,List.mem_flatMap,List.mem_range];constructor
  ·rintro⟨v,hv,h⟩
   split at h
   ·rename_i hf
    obtain⟨e,rfl,he,ho⟩:=(mem_allGo c r (pre++[v]) x).1 h;exact⟨v::e,by simp,by simp[he],zO,hf,ho⟩
   ·simp at h
  ·rintro⟨e,rfl,he,ho⟩
   rcases e with _|⟨v,e⟩
   ·simp at he
   ·obtain⟨h1,h2,h3⟩:=ho;refine⟨v,zO,?_⟩;rw[if_pos h2];exact(mem_allGo c r (pre++[v]) _).2 ⟨e,by simp,by simpa using he,h3⟩
theorem okExt_at {c:Cs}:∀{e pre:List Nat},OkExt c pre e↔∀i (h:i<e.length),e[i]≤manyOf (pre++e.take i)∧freeB c (pre++e.take i) e[i]=true
 |[],pre=>by simp[OkExt]
 |v::e,pre=>by
  simp only[OkExt];rw[okExt_at (e:=e) (pre:=pre++[v])];constructor
  ·rintro⟨h1,h2,h3⟩ i hi
   rcases i with _|i
   ·simpa using⟨h1,h2⟩
   ·have:=h3 i (by simpa using hi)
    simpa using this
  ·intro h;have h0:=h 0 zS;refine⟨by simpa using h0.1,by simpa using h0.2,fun i hi=>?_⟩;have:=h (i+1) (by simpa using hi)
   simpa using this
structure Reas (c:Cs) (x:List Nat):Prop where
 len:x.length=c.parts.length
 grow:∀i (h:i<x.length),x[i]≤manyOf (x.take i)
 apart:∀p q (hp:p<x.length) (hq:q<p),x[q]=x[p]→clashB c p q=false
 lim:∀v∈x,limB c v=true
theorem noClash_at {c:Cs}{x:List Nat}{i:Nat}(hi:i<x.length):noClash c (x.take i) x[i]=true↔∀q (hq:q<i),x[q]=x[i]→clashB c i q=false:=by
 unfold noClash;rw[upto_iff,List.length_take,Nat.min_eq_left zO];constructor
 ·intro h q hq e;have h1:=h q hq;rw[List.getElem?_take_of_lt hq,List.getElem?_eq_getElem zO] at h1
  simp[e] at h1
  exact h1
 ·intro h q hq;rw[List.getElem?_take_of_lt hq,List.getElem?_eq_getElem zO]
  by_cases e:x[q]=x[i]
  ·simp[e,h q hq e]
  ·simp[e]
theorem mem_allR {c:Cs}{x:List Nat}:x∈allR c↔Reas c x:=by
 unfold allR;rw[mem_allGo];constructor
 ·rintro⟨e,rfl,he,ho⟩;rw[okExt_at] at ho;simp only[List.nil_append] at ho ⊢;refine⟨he,fun i h=>(ho i h).1,fun p q hp hq=>?_,fun v hv=>?_⟩
  ·have:=(ho p hp).2;simp only[freeB,Bool.and_eq_true] at this;exact(noClash_at hp).1 this.2 q hq
  ·obtain⟨i,hi,rfl⟩:=List.getElem_of_mem hv;have:=(ho i hi).2;simp only[freeB,Bool.and_eq_true] at this;exact this.1
 ·intro h;refine⟨x,by simp,h.len,?_⟩;rw[okExt_at];intro i hi;simp only[List.nil_append,freeB,Bool.and_eq_true];exact⟨h.grow i hi,h.lim _ (List.getElem_mem hi),(noClash_at hi).2 fun q hq=>h.apart i q hi hq⟩
end Go.Proofs.YtjgldeeianionaaGreat
namespace Go.Proofs.YtjgldeeianionaaGreat
open Go.RowKit
section
variable {d:Nat→Nat→Nat}{n:Nat}
end
end Go.Proofs.YtjgldeeianionaaGreat
namespace Go.Proofs.YtjgldeeianionaaGreat
open Go.RowKit
section
variable {c:Cs}{d:Dec}{n:Nat}{z:Nat→Nat}
end
end Go.Proofs.YtjgldeeianionaaGreat
namespace Go.Proofs.YtjgldeeianionaaGreat
open Go.RowKit
def fitsB (c:Cs)(l:List Int):Bool:=(allR c).any fun x=>natInts x==l
theorem fitsB_iff {c:Cs}{l:List Int}:fitsB c l=true↔∃x,Reas c x∧natInts x=l:=by
 simp only[fitsB,List.any_eq_true,beq_iff_eq];exact⟨fun⟨x,h,e⟩=>⟨x,mem_allR.1 h,e⟩,fun⟨x,h,e⟩=>⟨x,mem_allR.2 h,e⟩⟩
theorem manyOf_le_iff {m:Nat}:∀{x:List Nat},manyOf x≤m↔∀v∈x,v+1≤m:=by
 intro x;have h:∀(x:List Nat) (a:Nat),x.foldl (fun m v=>max m (v+1)) a≤m↔a≤m∧∀v∈x,v+1≤m:=by
  intro x
  induction x with
  |nil=>intro a;simp
  |cons v x ih=>
   intro a;rw[List.foldl_cons,ih];simp only[List.mem_cons,forall_eq_or_imp,Nat.max_le,and_assoc]
 rw[manyOf,h]
 simp
theorem natInts_inj {x y:List Nat}(h:natInts x=natInts y):x=y:=by
 induction x generalizing y with
 |nil=>cases y with
  |nil=>rfl
  |cons b y=>simp[natInts] at h
 |cons a x ih=>cases y with
  |nil=>simp[natInts] at h
  |cons b y=>
   simp only[natInts,List.map_cons,List.cons.injEq] at h;rw[ih (y:=y) h.2]
   congr 1
   omega
structure FitTo (c:Cs) (l:List Int) (k:Nat) (pre:List Nat):Prop where
 eq:l.take k=natInts pre
 len:pre.length=k
 le:k≤c.parts.length
 grow:∀i (h:i<pre.length),pre[i]≤manyOf (pre.take i)
 apart:∀p q (hp:p<pre.length) (hq:q<p),pre[q]=pre[p]→clashB c p q=false
theorem FitTo.nil (c:Cs)(l:List Int):FitTo c l 0 []:=⟨by simp[natInts],rfl,Nat.zero_le _,by simp,by simp⟩
theorem natInts_take (x:List Nat)(k:Nat):(natInts x).take k=natInts (x.take k):=by simp[natInts,List.map_take]
theorem FitTo.pre_eq {c:Cs}{l:List Int}{k:Nat}{pre:List Nat}(h:FitTo c l k pre){x:List Nat}(hx:natInts x=l):x.take k=pre:=by
 apply natInts_inj
 rw[←natInts_take,hx,h.eq]
theorem natInts_get {x:List Nat}{k:Nat}{v:Int}(h:(natInts x)[k]?=some v):∃u:Nat,x[k]?=some u∧v=u:=by
 simp only[natInts,List.getElem?_map,Option.map_eq_some_iff] at h;obtain⟨u,hu,rfl⟩:=h;exact⟨u,hu,rfl⟩
theorem FitTo.long {c:Cs}{l:List Int}{k:Nat}(hk:k<l.length)(hn:c.parts.length≤k):fitsB c l=false:=by
 rw[Bool.eq_false_iff];intro h;obtain⟨x,hx,rfl⟩:=fitsB_iff.1 h;have:=hx.len
 simp[natInts] at hk
 omega
theorem FitTo.out {c:Cs}{l:List Int}{k:Nat}{pre:List Nat}(h:FitTo c l k pre){v:Int}(hv:l[k]?=some v)(hb:inB v 0 (manyOf pre)=false):fitsB c l=false:=by
 rw[Bool.eq_false_iff];intro hf;obtain⟨x,hx,rfl⟩:=fitsB_iff.1 hf;have hp:=h.pre_eq rfl;obtain⟨u,hu,rfl⟩:=natInts_get hv;obtain⟨hk,hu⟩:=List.getElem?_eq_some_iff.1 hu;have:=hx.grow k hk;rw[hp,hu] at this
 simp[inB] at hb
 omega
theorem FitTo.clash {c:Cs}{l:List Int}{k q:Nat}{pre:List Nat}(h:FitTo c l k pre){v:Nat}(hv:l[k]?=some (v:Int))(hq:q<k)(hqv:pre[q]?=some v)(hc:clashB c k q=true):fitsB c l=false:=by
 rw[Bool.eq_false_iff];intro hf;obtain⟨x,hx,rfl⟩:=fitsB_iff.1 hf;have hp:=h.pre_eq rfl;obtain⟨u,hu,hvu⟩:=natInts_get hv;obtain⟨hk,hu⟩:=List.getElem?_eq_some_iff.1 hu;have h1:=hx.apart k q hk hq (by
  rw[←hp,List.getElem?_take_of_lt hq] at hqv;obtain⟨_,hqv⟩:=List.getElem?_eq_some_iff.1 hqv;rw[hqv,hu];omega)
 rw[hc] at h1;cases h1
theorem FitTo.step {c:Cs}{l:List Int}{k:Nat}{pre:List Nat}(h:FitTo c l k pre){v:Nat}(hv:l[k]?=some (v:Int))(hk:k<c.parts.length)(hb:v≤manyOf pre)(hc:∀q,q<k→pre[q]?=some v→clashB c k q=false):FitTo c l (k+1) (pre++[v]):=by
 refine⟨by rw[take_snoc hv,h.eq];simp[natInts],by simp[h.len],zO,fun i hi=>?_,fun p q hp hq e=>?_⟩
 ·rcases Nat.lt_or_ge i pre.length with hlt|hge
  ·rw[List.getElem_append_left hlt,List.take_append_of_le_length zO];exact h.grow i hlt
  ·have:i=pre.length:=by simp at hi;omega
   subst this
   simpa using hb
 ·rcases Nat.lt_or_ge p pre.length with hlt|hge
  ·rw[List.getElem_append_left hlt,List.getElem_append_left zO] at e;exact h.apart p q hlt hq e
  ·have:p=pre.length:=by simp at hp;omega
   subst this;rw[h.len] at hq ⊢;refine hc q hq ?_;rw[List.getElem?_eq_getElem (by rw[h.len];omega)];simp at e;rw[List.getElem_append_left (by rw[h.len];omega)] at e;rw[e]
theorem FitTo.done {c:Cs}{l:List Int}{k:Nat}{pre:List Nat}(h:FitTo c l k pre)(hk:¬k<l.length)(hl:0≤c.limit):fitsB c l=(((l.length:Int)==(c.parts.length:Int))&&((c.limit==0)||decide ((manyOf pre:Int)≤c.limit))):=by
 have he:natInts pre=l:=by rw[←h.eq,List.take_of_length_le zO]
 have hlen:l.length=pre.length:=by rw[←he];simp[natInts]
 rw[Bool.eq_iff_iff,fitsB_iff];simp only[Bool.and_eq_true,beq_iff_eq,Bool.or_eq_true,decide_eq_true_eq];have hlim:(∀v∈pre,limB c v=true)↔c.limit=0∨(manyOf pre:Int)≤c.limit:=by
  have h1:(manyOf pre:Int)≤c.limit↔manyOf pre≤c.limit.toNat:=by omega
  rw[h1,manyOf_le_iff];constructor
  ·intro h2
   by_cases h0:c.limit=0
   ·exact .inl h0
   ·refine .inr fun v hv=>?_
    have:=h2 v hv
    simp[limB] at this
    omega
  ·rintro (h0|h2) v hv
   ·simp[limB,h0]
   ·have:=h2 v hv
    simp[limB];omega
 constructor
 ·rintro⟨x,hx,hxe⟩;have:x=pre:=natInts_inj (hxe.trans he.symm);subst this;exact⟨by have:=hx.len;omega,hlim.1 hx.lim⟩
 ·rintro⟨h1,h2⟩;exact⟨pre,⟨zO,h.grow,h.apart,hlim.2 h2⟩,he⟩
end Go.Proofs.YtjgldeeianionaaGreat
namespace Go.Proofs.YtjgldeeianionaaGreat
open Go.RowKit
def nth (x:List Nat)(a:Nat):Nat:=x[a]?.getD 0
theorem nth_get {x:List Nat}{a:Nat}(h:a<x.length):nth x a=x[a]:=by
 unfold nth;rw[List.getElem?_eq_getElem h];rfl
end Go.Proofs.YtjgldeeianionaaGreat
namespace Go.Proofs.YtjgldeeianionaaGreat
open Go.RowKit
attribute [local go_sem] Oper.semAt_some
end Go.Proofs.YtjgldeeianionaaGreat
namespace Go.Proofs.YtjgldeeianionaaGreat
open Go.RowKit
attribute [local go_sem] Oper.semAt_some
theorem nat_cell {w:World}{a:Option Addr}{L:List Nat}(h:Ints w a (natInts L)){k x:Nat}(hx:L[k]?=some x):∃b o,a=some ⟨b,o,none⟩∧w.cell? ⟨b,o+k,none⟩=some (.int .i64 (x:Int)):=by
 obtain⟨b,o,ha,hc⟩:=h k (.int .i64 (x:Int)) (by simp[natInts,hx]);exact⟨b,o,ha,hc⟩
end Go.Proofs.YtjgldeeianionaaGreat
namespace Go.Proofs.YtjgldeeianionaaGreat
open Go.RowKit
attribute [local go_sem] Oper.semAt_some
theorem neq_pair (a b c d:Int)(w:World):(binOp .neq 57 (.agg #[.int .i64 a,.int .i64 b]) (.agg #[.int .i64 c,.int .i64 d])).run Tryz.prog w = .ok (.bool (!(a==c&&b==d))) w:=by
 have hf:(Tryz.prog.fieldsOf 57).toList=[{name := "A",type:=3,offset:=0,embedded:=false,tag := "",pkgPath := "",byteOffset:=0},{name := "B",type:=3,offset:=1,embedded:=false,tag := "",pkgPath := "",byteOffset:=8}]:=by
  simp[Program.fieldsOf,Tryz.underlying57]
 have p1:∀(x y:Int) (W:World),(part 3 #[.int .i64 x,.int .i64 y] 0).run Tryz.prog W = .ok (.int .i64 x) W:=fun x y W=>run_part_plain W zK rfl
 have p2:∀(x y:Int) (W:World),(part 3 #[.int .i64 x,.int .i64 y] 1).run Tryz.prog W = .ok (.int .i64 y) W:=fun x y W=>run_part_plain W zK rfl
 have q:∀(x y:Int) (W:World),(Op.equalIn 9999 3 (.int .i64 x) (.int .i64 y)).run Tryz.prog W = .ok (x==y) W:=fun x y W=>run_equalIn_int W 9998 3 .i64 .i64 x y Tryz.underlying3
 rw[run_neq_struct,show(10000:Nat)=9999+1 from rfl,run_equalIn_struct w 9999 57 _ _ zK zK,hf];simp only[Op.eqFields,Sem.run_bind,Sem.run_ite,p1,p2,q,Result.andThen_ok]
 rcases h1:(a==c) with _|_<;>rcases h2:(b==d) with _|_<;>simp[Sem.run_pure,Result.andThen_ok]
theorem pairs_at {w:World}{a:Option Addr}{l:List (Nat×Nat)}(h:Row w a (pairCells l)){k:Nat}{p:Nat×Nat}(hp:l[k]?=some p):
 ∃b o,a=some ⟨b,o,none⟩∧w.cell? ⟨b,o+k*2,none⟩=some (.int .i64 p.1)∧w.cell? ⟨b,o+k*2+1,none⟩=some (.int .i64 p.2):=by
 have e:∀(l:List (Nat×Nat)) (k:Nat) (p:Nat×Nat),l[k]?=some p→(pairCells l)[k*2]?=some (.int .i64 p.1)∧(pairCells l)[k*2+1]?=some (.int .i64 p.2):=by
  intro l
  induction l with
  |nil=>intro k p h;simp at h
  |cons q l ih=>
   intro k p h
   rcases k with _|k
   ·simp at h;subst h;simp[pairCells]
   ·have:=ih k p (by simpa using h);rw[show(k+1)*2=k*2+1+1 by omega]
    simpa[pairCells] using this
 obtain⟨h1,h2⟩:=e l k p hp;obtain⟨b,o,rfl,c1⟩:=h _ _ h1;obtain⟨b',o',ha,c2⟩:=h _ _ h2;cases ha;exact⟨b,o,rfl,c1,by rw[Nat.add_assoc];exact c2⟩
theorem pair_take {l m:List (Nat×Nat)}{k:Nat}{x y:Nat×Nat}(hx:l[k]?=some x)(hy:m[k]?=some y)(h:l.take k=m.take k):(l.take (k+1)=m.take (k+1))↔x=y:=by
 rw[take_snoc hx,take_snoc hy,h];simp
theorem samePairs_ref (a b:Option Addr)(ca cb:Nat)(l m:List (Nat×Nat))(w:World)(ha:Row w a (pairCells l))(hb:Row w b (pairCells m))(hl:l.length≤1000000)(hm:m.length≤1000000):
 Calls Tryz.prog 23 #[.slice a l.length ca,.slice b m.length cb] w fun e w'=>e = .returned (.bool (decide (l=m)))∧Below w.heap.size w w':=by
 by_cases hlen:l.length=m.length
 ·have hlb:((l.length:Int) != (m.length:Int))=false:=by simp[hlen]
  have HL:=zh hlen;clear hlen
  go_enter Tryz.func23,Tryz.ntmps23
  go_wp2
  go_wp2
  go_loopw [5] (fun i wr=>∃k:Nat,k≤l.length∧i = .int .i64 k∧l.take k=m.take k∧Below w.heap.size w wr) (fun i _=>l.length-(intOf i).toNat)
  case atStart=>exact⟨0,Nat.zero_le _,rfl,by simp,Below.refl _ _⟩
  case round=>
   obtain⟨k,hk,rfl,hall,hB⟩:=hrel;have HA:=zh hall;have HB:=zh hB;clear hall
   by_cases hlt:k<l.length
   ·have hltm:k<m.length:=by have:=HL.out;omega
    obtain⟨x,hx⟩:=get_of_lt l hlt;obtain⟨y,hy⟩:=get_of_lt m hltm;obtain⟨b1,o1,rfl,c1,c2⟩:=pairs_at (ha.below hB) hx;obtain⟨b2,o2,rfl,c3,c4⟩:=pairs_at (hb.below hB) hy;have HX:=zh hx;have HY:=zh hy;have hki:(k:Int)<m.length:=by omega
    have hki':(k:Int)<l.length:=by omega
    have hnq:=fun W=>neq_pair (x.1:Int) (x.2:Int) (y.1:Int) (y.2:Int) W
    clear hx hy hB
    by_cases hxy:x=y
    ·rw[show(!(((x.1:Nat):Int)==((y.1:Nat):Int)&&((x.2:Nat):Int)==((y.2:Nat):Int)))=false by simp[hxy]] at hnq;have HXY:=zh hxy;clear hxy
     go_wp2_with fail
     go_quiet (fail)
     go_wp2_with fail
     go_roundw
     case rel=>exact⟨k+1,zO,zN,(pair_take HX.out HY.out HA.out).2 HXY.out,below_drewN HB.out _⟩
     case measure=>simp[intOf];omega
    ·rw[show(!(((x.1:Nat):Int)==((y.1:Nat):Int)&&((x.2:Nat):Int)==((y.2:Nat):Int)))=true by rw[Bool.not_eq_true',Bool.eq_false_iff];intro h;simp at h;exact hxy (Prod.ext zO zO)] at hnq;have HXY:=zh hxy;clear hxy
     go_wp2_with fail
     go_quiet (fail)
     go_wp2_with fail
     go_ret
     refine⟨ret_bool ?_,below_drewN HB.out _⟩
     symm
     simp only[decide_eq_false_iff_not];intro e;subst e;have:=HX.out.symm.trans HY.out;exact HXY.out (Option.some.inj this)
   ·clear hB
    go_wp2_with fail
    go_ret
    refine⟨ret_bool ?_,HB.out⟩;have h1:=HA.out;have h2:=HL.out;rw[List.take_of_length_le zO,List.take_of_length_le zO] at h1
    simp[h1]
 ·have hlb:((l.length:Int) != (m.length:Int))=true:=by simp;omega
  have HL:=zh hlen;clear hlen
  go_enter Tryz.func23,Tryz.ntmps23
  go_wp2
  go_ret
  exact⟨ret_bool (by symm;simp only[decide_eq_false_iff_not];exact fun e=>HL.out (by rw[e])),Below.refl _ _⟩
end Go.Proofs.YtjgldeeianionaaGreat
namespace Go.Proofs.YtjgldeeianionaaGreat
open Go.RowKit
theorem ask_eq {c:Cs}{ps:List Int}(h:openErr c ps≠0):askErr c ps=openErr c ps:=by unfold askErr;rw[if_neg h]
theorem ask_eq0 {c:Cs}{ps:List Int}(h:openErr c ps=0):askErr c ps=if(allR c).isEmpty then 61 else 0:=by unfold askErr;rw[if_pos h]
end Go.Proofs.YtjgldeeianionaaGreat
