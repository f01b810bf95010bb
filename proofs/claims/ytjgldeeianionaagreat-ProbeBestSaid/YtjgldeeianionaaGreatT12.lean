/- The walks and plain laws of: MRemade MUniq MTry MNarrowD MNarrowS MQModel MQWords MQSteps. No condition. -/
import Derived.Lib.SliceRun
import Derived.Shelf.Sort.Plain
import Derived.Shelf.Slices.CompactI
import Derived.Shelf.Slices.Reverse
import Derived.IntWalk
import Derived.Test.YtjgldeeianionaaGreatT01
import Derived.Test.YtjgldeeianionaaGreatT02
import Derived.Test.YtjgldeeianionaaGreatT06
import Derived.Test.YtjgldeeianionaaGreatT07
import Derived.Test.YtjgldeeianionaaGreatT11
set_option maxHeartbeats 1000000
set_option maxRecDepth 100000
set_option linter.unusedSimpArgs false
set_option linter.unusedVariables false
namespace Go.Proofs.YtjgldeeianionaaGreat
open Go.RowKit
attribute [local go_sem] Oper.semAt_some
end Go.Proofs.YtjgldeeianionaaGreat
namespace Go.Proofs.YtjgldeeianionaaGreat
open Go.RowKit
attribute [local go_sem] Oper.semAt_some
def cellsOf (w:World)(b o m:Nat):List Value:=(List.range m).map fun q=>(w.cell? ⟨b,o+q,none⟩).getD undef
theorem cellsOf_len (w:World)(b o m:Nat):(cellsOf w b o m).length=m:=by simp[cellsOf]
theorem cellsOf_at {w:World}{b o m q:Nat}{v:Value}(hq:q<m)(h:w.cell? ⟨b,o+q,none⟩=some v):(cellsOf w b o m)[q]?=some v:=by
 unfold cellsOf;rw[List.getElem?_map,List.getElem?_range hq]
 simp[h]
def PartIn (w:World)(PB:Nat)(cells:Array Value)(L:Nat→Prop)(i:Nat)(p:Prt):Prop:=
 ∃sa sc ra rc,(∀j v,(prtCells p sa sc ra rc)[j]?=some v→cells[i*8+j]?=some v)∧Ints w sa p.sherds∧Ints w ra p.rests∧p.sherds.length≤sc∧p.rests.length≤rc ∧
  (∀b o,sa=some ⟨b,o,none⟩→0<p.sherds.length→b≠PB∧L b)∧(∀b o,ra=some ⟨b,o,none⟩→0<p.rests.length→b≠PB∧L b)
theorem prt_one (p:Prt)(sa:Option Addr)(sc:Nat)(ra:Option Addr)(rc:Nat):∀v∈prtCells p sa sc ra rc,v.oneCell'=true:=by
 intro v hv;simp only[prtCells,List.mem_cons,List.not_mem_nil,or_false] at hv
 rcases hv with rfl|rfl|rfl|rfl|rfl|rfl|rfl|rfl<;>rfl
theorem prt_len (p:Prt)(sa:Option Addr)(sc:Nat)(ra:Option Addr)(rc:Nat):(prtCells p sa sc ra rc).length=8:=rfl
theorem info_part:(Tryz.prog.info? 80).map (fun i=>(i.zero.map (·.cells.size),i.size))=some (some 8,8):=zK
theorem part_row {w:World}{b o:Nat}{l:List Prt}(h:PartsAt w (some ⟨b,o,none⟩) l):∀q,q<l.length*8→∃v,w.cell? ⟨b,o+q,none⟩=some v∧v.oneCell'=true:=by
 intro q hq;obtain⟨p,hp⟩:=get_of_lt l (k:=q / 8) zO;obtain⟨b',o',he,sa,sc,ra,rc,h1,_⟩:=h _ _ hp;cases he;obtain⟨v,hv⟩:∃v,(prtCells p sa sc ra rc)[q % 8]?=some v:=⟨(prtCells p sa sc ra rc)[q % 8]'(by rw[prt_len];omega),by simp⟩
 refine⟨v,?_,prt_one p sa sc ra rc v (List.mem_of_getElem? hv)⟩;have:=h1 _ _ hv;rw[←this];congr 2;omega
theorem parts_row {w:World}{a:Option Addr}{l:List Prt}(h:PartsAt w a l):∃news:List Value,news.length=l.length*8∧Row w a news∧(∀u∈news,u.oneCell'=true) ∧
 (∀i p,l[i]?=some p→∃sa sc ra rc,(∀j v,(prtCells p sa sc ra rc)[j]?=some v→news[i*8+j]?=some v)∧Ints w sa p.sherds∧Ints w ra p.rests∧p.sherds.length≤sc∧p.rests.length≤rc):=by
 rcases l with _|⟨p0,l0⟩
 ·exact⟨[],by simp,Row.nil _ _,by simp,fun i p hp=>by simp at hp⟩
 ·obtain⟨b,o,rfl,_⟩:=h 0 p0 rfl;have hr:=part_row h;refine⟨cellsOf w b o ((p0::l0).length*8),cellsOf_len _ _ _ _,?_,?_,?_⟩
  ·intro k v hv;have hk:k<(p0::l0).length*8:=by have:=(List.getElem?_eq_some_iff.1 hv).1;rwa [cellsOf_len] at this
   obtain⟨u,hu,_⟩:=hr k hk;rw[cellsOf_at hk hu] at hv;cases hv;exact⟨b,o,rfl,hu⟩
  ·intro u hu;obtain⟨k,hk,e⟩:=List.getElem_of_mem hu;rw[cellsOf_len] at hk;obtain⟨v,hv,h1⟩:=hr k hk;have:=cellsOf_at hk hv;rw[List.getElem?_eq_getElem (by rw[cellsOf_len];exact hk),e] at this;cases this;exact h1
  ·intro i p hp;obtain⟨b',o',he,sa,sc,ra,rc,h1,h2,h3,h4,h5⟩:=h i p hp;cases he;refine⟨sa,sc,ra,rc,fun j v hv=>cellsOf_at ?_ ?_,h2,h3,h4,h5⟩
   ·have hj:j<8:=(List.getElem?_eq_some_iff.1 hv).1;have hi:i<(p0::l0).length:=(List.getElem?_eq_some_iff.1 hp).1
    omega
   ·rw[←Nat.add_assoc];exact h1 j v hv
def CopyPPost (l:List Prt)(w0 w:World)(e:Ending)(w':World):Prop:=
 ∃PB pc cells,e = .returned (.slice (some ⟨PB,0,none⟩) l.length pc)∧l.length≤pc∧w.heap.size≤PB∧Box w' PB cells 80∧(∀i p,l[i]?=some p→PartIn w' PB cells (fun b=>b<w0.heap.size) i p)∧Below w.heap.size w w'
def zeroPart:Value:=.agg #[.slice none 0 0,.int .i64 0,.int .i64 0,.int .i64 0,.int .i64 0,.bool false,.int .i64 0,.slice none 0 0]
theorem info_partz:(Tryz.prog.info? 80).map (fun i=>(i.zero,i.size,i.bytes))=some (some zeroPart,8,96):=zK
theorem ints_block {w:World}{a:Option Addr}{l:List Int}(h:Ints w a l){b o:Nat}(ha:a=some ⟨b,o,none⟩)(hl:0<l.length):b<w.heap.size:=by
 obtain⟨b',o',_,ha',_,hc⟩:=h.at_ hl;rw[ha] at ha';cases ha';exact lt_of_cell hc
end Go.Proofs.YtjgldeeianionaaGreat
namespace Go.Proofs.YtjgldeeianionaaGreat
open Go.RowKit
attribute [local go_sem] Oper.semAt_some
structure PartsOwn (B:Nat) (w:World) (PB:Nat) (cells:Array Value) (k:Nat) (l:List Prt):Prop where
 box:Box w PB cells 80
 far:B+2≤PB
 one:∀i p,l[i]?=some p→PartIn w PB cells (fun b=>if i<k then PB<b else b<B) i p
theorem ints_far {w:World}{a:Option Addr}{l:List Int}(h:Ints w a l){p:Addr}(hp:∀b o,a=some ⟨b,o,none⟩→0<l.length→b≠p.block)(v:Value):Ints (w.setCell p v) a l:=fun k u hu=>by
 obtain⟨b,o,ha,hc⟩:=h k u hu;have hl:0<l.length:=by have:=(List.getElem?_eq_some_iff.1 hu).1;simp at this;omega
 refine⟨b,o,ha,?_⟩;rw[World.cell?_setCell_other _ _ _ _ (fun e=>hp b o ha hl (by rw[e]))];exact hc
theorem case_size:(Tryz.prog.info? 24).map (·.size)=some 4:=zK
def cells2 (cells:Array Value)(i:Nat)(v u:Value):Array Value:=(cells.setIfInBounds (i*8) v).setIfInBounds (i*8+7) u
theorem cells2_at {cells:Array Value}{i k:Nat}{v u x:Value}(h:cells[k]?=some x)(h1:k≠i*8)(h2:k≠i*8+7):(cells2 cells i v u)[k]?=some x:=by
 unfold cells2;rw[Array.getElem?_setIfInBounds_ne zO,Array.getElem?_setIfInBounds_ne zO];exact h
theorem ints_rowOwn {B:Nat}{w:World}{a:Option Addr}{l:List Int}(h:RowOwn B w a (l.map (Value.int .i64))):Ints w a l:=h.row
theorem rowOwn_block {B:Nat}{w:World}{a:Option Addr}{l:List Int}(h:RowOwn B w a (l.map (Value.int .i64))){b o:Nat}(ha:a=some ⟨b,o,none⟩)(hl:0<l.length):B≤b:=by
 obtain⟨v,hv⟩:∃v,(l.map (Value.int .i64))[0]?=some v:=⟨_,List.getElem?_eq_getElem (by simpa using hl)⟩
 obtain⟨b',o',ha',h1,_⟩:=h 0 v hv;rw[ha] at ha';cases ha';exact h1
theorem partsOwn_step {B:Nat}{w W:World}{PB k:Nat}{cells:Array Value}{l:List Prt}{p:Prt}{a1 a2:Option Addr}{c1 c2:Nat}(h:PartsOwn B w PB cells k l)(hp:l[k]?=some p)(hb:Below w.heap.size w W)
 (h1:RowOwn w.heap.size W a1 (p.sherds.map (Value.int .i64))) (h2:RowOwn w.heap.size W a2 (p.rests.map (Value.int .i64))) (hc1:p.sherds.length≤c1) (hc2:p.rests.length≤c2):
 PartsOwn B ((W.setCell ⟨PB,k*8,none⟩ (.slice a1 p.sherds.length c1)).setCell ⟨PB,k*8+7,none⟩ (.slice a2 p.rests.length c2)) PB (cells2 cells k (.slice a1 p.sherds.length c1) (.slice a2 p.rests.length c2)) (k+1) l:=by
 have hlt:=h.box.lt;have hfar:=h.far;refine⟨((h.box.below' hb).set_ _ _).set_ _ _,h.far,fun i q hq=>?_⟩;obtain⟨sa,sc,ra,rc,e1,e2,e3,e4,e5,e6,e7⟩:=h.one i q hq;have far2:∀{a:Option Addr} {x:List Int},Ints W a x→(∀b o,a=some ⟨b,o,none⟩→0<x.length→b≠PB)→Ints ((W.setCell ⟨PB,k*8,none⟩ (.slice a1 p.sherds.length c1)).setCell ⟨PB,k*8+7,none⟩ (.slice a2 p.rests.length c2)) a x:=
  fun hx hne=>ints_far (ints_far hx hne _) hne _
 by_cases hik:i=k
 ·subst hik;rw[hp] at hq;cases hq;refine⟨a1,c1,a2,c2,fun j v hv=>?_,far2 (ints_rowOwn h1) (fun b o ha hl=>by have:=rowOwn_block h1 ha hl;omega),far2 (ints_rowOwn h2) (fun b o ha hl=>by have:=rowOwn_block h2 ha hl;omega),hc1,hc2,fun b o ha hl=>?_,fun b o ha hl=>?_⟩
  ·have hj:j<8:=(List.getElem?_eq_some_iff.1 hv).1;have hsz:∀j,j<8→i*8+j<cells.size:=fun j hj=>by
    obtain⟨u,hu⟩:∃u,(prtCells p sa sc ra rc)[j]?=some u:=⟨_,List.getElem?_eq_getElem (by rw[prt_len];exact hj)⟩
    exact(Array.getElem?_eq_some_iff.1 (e1 _ _ hu)).1
   have z0:=hsz 0 zO;have z7:=hsz 7 zO
   match j,hj with
   |0,_=>simp[prtCells] at hv;subst hv;simp[cells2,Array.getElem?_setIfInBounds];omega
   |7,_=>simp[prtCells] at hv;subst hv;simp[cells2,z7]
   |1,_=>exact cells2_at (e1 1 v (by simpa[prtCells] using hv)) zO zO
   |2,_=>exact cells2_at (e1 2 v (by simpa[prtCells] using hv)) zO zO
   |3,_=>exact cells2_at (e1 3 v (by simpa[prtCells] using hv)) zO zO
   |4,_=>exact cells2_at (e1 4 v (by simpa[prtCells] using hv)) zO zO
   |5,_=>exact cells2_at (e1 5 v (by simpa[prtCells] using hv)) zO zO
   |6,_=>exact cells2_at (e1 6 v (by simpa[prtCells] using hv)) zO zO
  ·have:=rowOwn_block h1 ha hl;dsimp only;rw[if_pos zO];constructor<;>omega
  ·have:=rowOwn_block h2 ha hl;dsimp only;rw[if_pos zO];constructor<;>omega
 ·refine⟨sa,sc,ra,rc,fun j v hv=>?_,far2 (e2.below hb) (fun b o ha hl=>(e6 b o ha hl).1),far2 (e3.below hb) (fun b o ha hl=>(e7 b o ha hl).1),e4,e5,fun b o ha hl=>?_,fun b o ha hl=>?_⟩
  ·have hj:j<8:=(List.getElem?_eq_some_iff.1 hv).1;exact cells2_at (e1 j v hv) zO zO
  ·refine⟨(e6 b o ha hl).1,?_⟩;have:=(e6 b o ha hl).2;dsimp only at this ⊢
   by_cases h9:i<k
   ·rw[if_pos h9] at this;rw[if_pos zO];exact this
   ·rw[if_neg h9] at this;rw[if_neg zO];exact this
  ·refine⟨(e7 b o ha hl).1,?_⟩;have:=(e7 b o ha hl).2;dsimp only at this ⊢
   by_cases h9:i<k
   ·rw[if_pos h9] at this;rw[if_pos zO];exact this
   ·rw[if_neg h9] at this;rw[if_neg zO];exact this
def Copy2Post (B:Nat)(l:List Int)(w:World)(e:Ending)(w':World):Prop:=∃a c,e = .returned (.slice a l.length c)∧RowOwn B w' a (l.map (Value.int .i64))∧l.length≤c∧Below w.heap.size w w'
end Go.Proofs.YtjgldeeianionaaGreat
namespace Go.Proofs.YtjgldeeianionaaGreat
open Go.RowKit
attribute [local go_sem] Oper.semAt_some
theorem RowOwn.set {B:Nat}{w:World}{b o:Nat}{xs:List Value}(h:RowOwn B w (some ⟨b,o,none⟩) xs){i:Nat}(v:Value):RowOwn B (w.setCell ⟨b,o+i,none⟩ v) (some ⟨b,o,none⟩) (xs.set i v):=fun k u hu=>by
 rw[List.getElem?_set] at hu
 split at hu
 ·rename_i hik
  subst hik
  split at hu
  ·rename_i hlt
   cases hu;obtain⟨b',o',ha,h1,h2,h3⟩:=h i _ (List.getElem?_eq_getElem hlt);cases ha;exact⟨b,o,rfl,h1,World.cell?_setCell_same' w _ v (by rw[h2];rfl),by rw[World.frozen?_setCell];exact h3⟩
  ·cases hu
 ·rename_i hik
  obtain⟨b',o',ha,h1,h2,h3⟩:=h k u hu;cases ha;refine⟨b,o,rfl,h1,?_,by rw[World.frozen?_setCell];exact h3⟩;rw[World.cell?_setCell_other _ _ _ _ (fun e=>by injection e with _ e;exact hik (Nat.add_left_cancel e))];exact h2
theorem below_setCells {B b:Nat}(hb:B≤b):∀(vs:List Value) (o:Nat) {a w:World},Below B a w→Below B a (w.setCells b o vs)
 |[],_,_,_,h=>h
 |v::vs,o,_,_,h=>below_setCells hb vs (o+1) (h.setCell (by simpa using hb) v)
theorem RowOwn.cut {B:Nat}{w:World}{b o:Nat}{xs:List Value}(h:RowOwn B w (some ⟨b,o,none⟩) xs){p:Nat}(vs:List Value):RowOwn B (w.setCells b (o+p) vs) (some ⟨b,o,none⟩) (xs.take p):=fun k u hu=>by
 rw[List.getElem?_take] at hu
 split at hu
 ·rename_i hk
  obtain⟨b',o',ha,h1,h2,h3⟩:=h k u hu;cases ha;refine⟨b,o,rfl,h1,?_,by rw[World.frozen?_setCells];exact h3⟩;rw[World.cell?_setCells_out _ _ _ _ _ (fun _ _=>.inl (by show o+k<o+p;omega))];exact h2
 ·cases hu
end Go.Proofs.YtjgldeeianionaaGreat
namespace Go.Proofs.YtjgldeeianionaaGreat
open Go.RowKit
attribute [local go_sem] Oper.semAt_some
end Go.Proofs.YtjgldeeianionaaGreat
namespace Go.Proofs.YtjgldeeianionaaGreat
open Go.RowKit
attribute [local go_sem] Oper.semAt_some
end Go.Proofs.YtjgldeeianionaaGreat
namespace Go.Proofs.YtjgldeeianionaaGreat
open Go.RowKit
attribute [local go_sem] Oper.semAt_some
end Go.Proofs.YtjgldeeianionaaGreat
namespace Go.Proofs.YtjgldeeianionaaGreat
open Go.RowKit
attribute [local go_sem] Oper.semAt_some
end Go.Proofs.YtjgldeeianionaaGreat
namespace Go.Proofs.YtjgldeeianionaaGreat
open Go.RowKit
def hitB (gone:Int→Bool)(v:Int):Bool:=v != 0&&gone v
def clearP (j:Nat)(p:Prt):Prt:=
 if j=0 then {p with span:={p.span with low:=0,lowBy:=0}} else if j=1 then {p with span:={p.span with high:=1000,highBy:=0}} else {p with foot:=false,footBy:=0}
structure PartsB (B M:Nat) (w:World) (PB:Nat) (cells:Array Value) (l:List Prt):Prop where
 box:Box w PB cells 80
 far:B+2≤PB
 one:∀i p,l[i]?=some p→PartIn w PB cells (fun b=>PB<b∧b<M) i p
theorem PartsOwn.toB {B:Nat}{w:World}{PB n:Nat}{cells:Array Value}{l:List Prt}(h:PartsOwn B w PB cells n l)(hl:l.length=n):PartsB B w.heap.size w PB cells l:=by
 refine⟨h.box,h.far,fun i p hp=>?_⟩;have hi:i<n:=by rw[←hl];exact(List.getElem?_eq_some_iff.1 hp).1
 obtain⟨sa,sc,ra,rc,e1,e2,e3,e4,e5,e6,e7⟩:=h.one i p hp;refine⟨sa,sc,ra,rc,e1,e2,e3,e4,e5,fun b o ha hl=>?_,fun b o ha hl=>?_⟩
 ·have:=e6 b o ha hl;dsimp only at this;rw[if_pos hi] at this;exact⟨this.1,this.2,ints_block e2 ha hl⟩
 ·have:=e7 b o ha hl;dsimp only at this;rw[if_pos hi] at this;exact⟨this.1,this.2,ints_block e3 ha hl⟩
theorem PartsB.toOwn {B B' M:Nat}{w:World}{PB n:Nat}{cells:Array Value}{l:List Prt}(h:PartsB B M w PB cells l)(hl:l.length=n)(hB:B'≤B):PartsOwn B' w PB cells n l:=by
 refine⟨h.box,by have:=h.far;omega,fun i p hp=>?_⟩;have hi:i<n:=by rw[←hl];exact(List.getElem?_eq_some_iff.1 hp).1
 obtain⟨sa,sc,ra,rc,e1,e2,e3,e4,e5,e6,e7⟩:=h.one i p hp;refine⟨sa,sc,ra,rc,e1,e2,e3,e4,e5,fun b o ha hl=>?_,fun b o ha hl=>?_⟩
 ·have:=e6 b o ha hl;dsimp only at this ⊢;rw[if_pos hi];exact⟨this.1,this.2.1⟩
 ·have:=e7 b o ha hl;dsimp only at this ⊢;rw[if_pos hi];exact⟨this.1,this.2.1⟩
def cellsW (cells:Array Value)(i a b:Nat)(v u:Value):Array Value:=(cells.setIfInBounds (i*8+a) v).setIfInBounds (i*8+b) u
theorem partsB_clear {B M:Nat}{W:World}{PB i a b:Nat}{cells:Array Value}{l:List Prt}{p p':Prt}{v u:Value}{f:Prt→Prt}(h:PartsB B M W PB cells l)(hp:l[i]?=some p)(hf:f p=p')
 (hs:p'.sherds=p.sherds) (hr:p'.rests=p.rests) (ha:a<8) (hb:b<8) (hc:∀sa sc ra rc,prtCells p' sa sc ra rc=((prtCells p sa sc ra rc).set a v).set b u):
 PartsB B M ((W.setCell ⟨PB,i*8+a,none⟩ v).setCell ⟨PB,i*8+b,none⟩ u) PB (cellsW cells i a b v u) (l.modify i f):=by
 refine⟨(h.box.set_ _ _).set_ _ _,h.far,fun j q hq=>?_⟩;have far2:∀{a':Option Addr} {x:List Int},Ints W a' x→(∀b o,a'=some ⟨b,o,none⟩→0<x.length→b≠PB)→Ints ((W.setCell ⟨PB,i*8+a,none⟩ v).setCell ⟨PB,i*8+b,none⟩ u) a' x:=
  fun hx hne=>ints_far (ints_far hx hne _) hne _
 by_cases hij:j=i
 ·subst hij;have:q=p':=by
   rw[List.getElem?_modify,hp] at hq;have e:f p=q:=by simpa using hq
   rw[←e,hf]
  subst this;obtain⟨sa,sc,ra,rc,e1,e2,e3,e4,e5,e6,e7⟩:=h.one j p hp;refine⟨sa,sc,ra,rc,fun k z hz=>?_,far2 (hs▸e2) (fun b o ha hl=>(e6 b o ha (hs▸hl)).1),far2 (hr▸e3) (fun b o ha hl=>(e7 b o ha (hr▸hl)).1),hs▸e4,hr▸e5,fun b o ha hl=>e6 b o ha (hs▸hl),fun b o ha hl=>e7 b o ha (hr▸hl)⟩;rw[hc sa sc ra rc] at hz;have hlen:∀j',j'<8→j*8+j'<cells.size:=fun j' hj'=>by
   obtain⟨w,hw⟩:∃w,(prtCells p sa sc ra rc)[j']?=some w:=⟨_,List.getElem?_eq_getElem (by rw[prt_len];exact hj')⟩
   exact(Array.getElem?_eq_some_iff.1 (e1 _ _ hw)).1
  have hk8:k<8:=by have:=(List.getElem?_eq_some_iff.1 hz).1;simpa[prt_len] using this
  unfold cellsW;rw[List.getElem?_set] at hz;rw[Array.getElem?_setIfInBounds]
  by_cases hbk:b=k
  ·subst hbk;rw[if_pos rfl] at hz ⊢;simp only[List.length_set,prt_len,if_pos hb] at hz;rw[if_pos (by simpa using hlen b hb)];exact hz
  ·rw[if_neg hbk] at hz;rw[if_neg zO,Array.getElem?_setIfInBounds];rw[List.getElem?_set] at hz
   by_cases hak:a=k
   ·subst hak;rw[if_pos rfl] at hz ⊢;rw[prt_len,if_pos ha] at hz;rw[if_pos (hlen a ha)];exact hz
   ·rw[if_neg hak] at hz;rw[if_neg zO];exact e1 _ _ hz
 ·have hq':l[j]?=some q:=by
   rw[List.getElem?_modify] at hq;have hij':¬i=j:=fun e=>hij e.symm
   simpa[hij'] using hq
  obtain⟨sa,sc,ra,rc,e1,e2,e3,e4,e5,e6,e7⟩:=h.one j q hq';refine⟨sa,sc,ra,rc,fun k z hz=>?_,far2 e2 (fun b o ha hl=>(e6 b o ha hl).1),far2 e3 (fun b o ha hl=>(e7 b o ha hl).1),e4,e5,e6,e7⟩;have hk8:k<8:=by have:=(List.getElem?_eq_some_iff.1 hz).1;simpa[prt_len] using this
  unfold cellsW;rw[Array.getElem?_setIfInBounds_ne zO,Array.getElem?_setIfInBounds_ne zO];exact e1 _ _ hz
theorem PartsB.at_ {B M:Nat}{w:World}{PB:Nat}{cells:Array Value}{l:List Prt}(h:PartsB B M w PB cells l):PartsAt w (some ⟨PB,0,none⟩) l:=fun i p hp=>by
 obtain⟨sa,sc,ra,rc,e1,e2,e3,e4,e5,e6,e7⟩:=h.one i p hp;refine⟨PB,0,rfl,sa,sc,ra,rc,fun j v hv=>?_,e2,e3,e4,e5⟩;rw[h.box.cell,Nat.zero_add];exact e1 j v hv
end Go.Proofs.YtjgldeeianionaaGreat
namespace Go.Proofs.YtjgldeeianionaaGreat
open Go.RowKit
attribute [local go_sem] Oper.semAt_some
theorem PartsB.keep {K:Nat→Prop}{B M:Nat}{w w':World}{PB:Nat}{cells:Array Value}{l:List Prt}(h:PartsB B M w PB cells l)(hk:Keep K w w')(hPB:K PB)(hK:∀b,PB<b→b<M→K b):PartsB B M w' PB cells l:=by
 refine⟨hk.heap hPB h.box,h.far,fun i p hp=>?_⟩;obtain⟨sa,sc,ra,rc,e1,e2,e3,e4,e5,e6,e7⟩:=h.one i p hp;have keepI:∀{a:Option Addr} {x:List Int},Ints w a x→(∀b o,a=some ⟨b,o,none⟩→0<x.length→K b)→Ints w' a x:=fun {a x} hx hb k u hu=>by
  obtain⟨b,o,ha,hc⟩:=hx k u hu;have hl:0<x.length:=by have:=(List.getElem?_eq_some_iff.1 hu).1;simp at this;omega
  exact⟨b,o,ha,hk.cell (hb b o ha hl) hc⟩
 exact⟨sa,sc,ra,rc,e1,keepI e2 (fun b o ha hl=>hK b (e6 b o ha hl).2.1 (e6 b o ha hl).2.2),keepI e3 (fun b o ha hl=>hK b (e7 b o ha hl).2.1 (e7 b o ha hl).2.2),e4,e5,e6,e7⟩
theorem PartsB.below {B M:Nat}{w w':World}{PB:Nat}{cells:Array Value}{l:List Prt}(h:PartsB B M w PB cells l)(hb:Below w.heap.size w w'):PartsB B M w' PB cells l:=h.keep (K:=fun _=>True) (Keep.of_below' hb) trivial (fun _ _ _=>trivial)
end Go.Proofs.YtjgldeeianionaaGreat
namespace Go.Proofs.YtjgldeeianionaaGreat
open Go.RowKit
def bnd:Nat→Nat→Nat
 |0,_=>1
 |r+1,m=>m*(1+bnd r m)+bnd r (m+1)
theorem bnd_mono:∀(r m m':Nat),m≤m'→bnd r m≤bnd r m'
 |0,_,_,_=>Nat.le_refl _
 |r+1,m,m',h=>Nat.add_le_add (Nat.mul_le_mul h (Nat.add_le_add_left (bnd_mono r m m' h) 1)) (bnd_mono r _ _ zO)
theorem bnd_eight:bnd 8 0≤8279:=by decide
theorem bnd_less:∀(r m:Nat),bnd r m≤bnd (r+1) m:=fun r m=>by
 show bnd r m≤m*(1+bnd r m)+bnd r (m+1)
 exact Nat.le_trans (bnd_mono r m (m+1) zO) (Nat.le_add_left _ _)
theorem bnd_le {r r' m:Nat}(h:r≤r'):bnd r m≤bnd r' m:=by
 obtain⟨d,rfl⟩:=Nat.exists_eq_add_of_le h
 induction d with
 |zero=>exact Nat.le_refl _
 |succ d ih=>exact Nat.le_trans (ih zO) (bnd_less _ _)
end Go.Proofs.YtjgldeeianionaaGreat
namespace Go.Proofs.YtjgldeeianionaaGreat
open Go.RowKit
attribute [local go_sem] Oper.semAt_some
theorem ints_keep {K:Nat→Prop}{A C:World}{a:Option Addr}{x:List Int}(h:Ints A a x)(hk:Keep K A C)(hK:∀b o,a=some ⟨b,o,none⟩→0<x.length→K b):Ints C a x:=fun k u hu=>by
 obtain⟨b,o,ha,hc⟩:=h k u hu;have hl:0<x.length:=by have:=(List.getElem?_eq_some_iff.1 hu).1;simp at this;omega
 exact⟨b,o,ha,hk.cell (hK b o ha hl) hc⟩
theorem ints_lt {W:World}{a:Option Addr}{l:List Int}(h:Ints W a l){b o:Nat}(ha:a=some ⟨b,o,none⟩)(hl:0<l.length):b<W.heap.size:=by
 obtain⟨b',o',_,ha',_,hc⟩:=h.at_ hl;rw[ha] at ha';cases ha';exact lt_of_cell hc
section
variable {c:Cs}{pa:Option Addr}{pc bb N:Nat}{oa:Option Addr}{oc:Nat}{order:List Nat}{w0:World}{l:List Br}{W W':World}
end
end Go.Proofs.YtjgldeeianionaaGreat
namespace Go.Proofs.YtjgldeeianionaaGreat
open Go.RowKit
attribute [local go_sem] Oper.semAt_some
theorem natInts_len (l:List Nat):(natInts l).length=l.length:=by simp[natInts]
theorem natInts_snoc (l:List Nat)(x:Nat):natInts (l++[x])=natInts l++[(x:Int)]:=by simp[natInts]
theorem ownsRow_less {w:World}{base B:Nat}{e:TypeId}{size n:Nat}{v:Value}{xs:List Value}(h:w.ownsRow base e size v n xs)(hB:B≤base):w.ownsRow B e size v n xs:=by
 refine⟨h.1,?_⟩
 rcases h.2 with h0|⟨g,cap,cur,h1,hg,hh,h3⟩
 ·exact .inl h0
 ·exact .inr ⟨g,cap,cur,h1,Nat.le_trans hB hg,hh,h3⟩
theorem row_one {w:World}{g:Nat}{x:Int}{t:TypeId}(h:Box w g #[.int .i64 x] t):Row w (some ⟨g,0,none⟩) [.int .i64 x]:=fun k u hu=>⟨g,0,rfl,by rw[h.cell,Nat.zero_add];simpa using hu⟩
end Go.Proofs.YtjgldeeianionaaGreat
namespace Go.Proofs.YtjgldeeianionaaGreat
def narrowP (low high id:Int)(p:Prt):Prt:=
 {p with span:=⟨if p.span.low<low then low else p.span.low,if high<p.span.high then high else p.span.high,if p.span.low<low then id else p.span.lowBy,if high<p.span.high then id else p.span.highBy⟩}
def narrowC (c:Cs)(i:Nat)(low high id:Int):Cs:={c with parts:=c.parts.modify i (narrowP low high id)}
end Go.Proofs.YtjgldeeianionaaGreat
namespace Go.Proofs.YtjgldeeianionaaGreat
open Go.RowKit
attribute [local go_sem] Oper.semAt_some
theorem modify2 {α:Type}{l:List α}{i:Nat}{p:α}{f1 f2 g:α→α}(h:l[i]?=some p)(e:f2 (f1 p)=g p):(l.modify i f1).modify i f2=l.modify i g:=by
 apply List.ext_getElem?
 intro k;rw[List.getElem?_modify,List.getElem?_modify,List.getElem?_modify]
 by_cases hk:i=k
 ·subst hk;rw[h];simp[e]
 ·simp[hk]
theorem own_at {B M:Nat}{W:World}{PB i:Nat}{cells:Array Value}{l:List Prt}{p:Prt}(h:PartsB B M W PB cells l)(hp:l[i]?=some p):W.cell? ⟨PB,i*8+1,none⟩=some (.int .i64 p.span.low)∧W.cell? ⟨PB,i*8+2,none⟩=some (.int .i64 p.span.high) ∧
 W.cell? ⟨PB,i*8+3,none⟩=some (.int .i64 p.span.lowBy)∧W.cell? ⟨PB,i*8+4,none⟩=some (.int .i64 p.span.highBy):=by
 obtain⟨b,o,e,hc⟩:=h.at_ i p hp;cases e;obtain⟨_,_,_,_,_,q1,q2,q3,q4,_⟩:=hc.open;simp only[Nat.zero_add] at q1 q2 q3 q4;exact⟨q1,q2,q3,q4⟩
def setLow (v id:Int)(p:Prt):Prt:={p with span:=⟨v,p.span.high,id,p.span.highBy⟩}
def setHigh (v id:Int)(p:Prt):Prt:={p with span:=⟨p.span.low,v,p.span.lowBy,id⟩}
theorem set_low {B M:Nat}{W:World}{PB i:Nat}{cells:Array Value}{l:List Prt}{p:Prt}{v id:Int}(h:PartsB B M W PB cells l)(hp:l[i]?=some p):
 ∃cells',PartsB B M ((W.setCell ⟨PB,i*8+1,none⟩ (.int .i64 v)).setCell ⟨PB,i*8+3,none⟩ (.int .i64 id)) PB cells' (l.modify i (setLow v id)):=
 ⟨_,partsB_clear (p':=setLow v id p) h hp rfl rfl rfl zO zO (fun _ _ _ _=>rfl)⟩
theorem set_high {B M:Nat}{W:World}{PB i:Nat}{cells:Array Value}{l:List Prt}{p:Prt}{v id:Int}(h:PartsB B M W PB cells l)(hp:l[i]?=some p):
 ∃cells',PartsB B M ((W.setCell ⟨PB,i*8+2,none⟩ (.int .i64 v)).setCell ⟨PB,i*8+4,none⟩ (.int .i64 id)) PB cells' (l.modify i (setHigh v id)):=
 ⟨_,partsB_clear (p':=setHigh v id p) h hp rfl rfl rfl zO zO (fun _ _ _ _=>rfl)⟩
theorem partsB_farP {B M:Nat}{W:World}{PB g o:Nat}{cells:Array Value}{l:List Prt}(h:PartsB B M W PB cells l)(hg:g<PB)(v:Value):PartsB B M (W.setCell ⟨g,o,none⟩ v) PB cells l:=by
 refine⟨h.box.far zT _,h.far,fun i q hq=>?_⟩;obtain⟨sa,sc,ra,rc,e1,e2,e3,e4,e5,e6,e7⟩:=h.one i q hq;exact⟨sa,sc,ra,rc,e1,ints_far e2 (fun b o ha hl=>by have:=(e6 b o ha hl).2.1;simp;omega) _,ints_far e3 (fun b o ha hl=>by have:=(e7 b o ha hl).2.1;simp;omega) _,e4,e5,e6,e7⟩
end Go.Proofs.YtjgldeeianionaaGreat
namespace Go.Proofs.YtjgldeeianionaaGreat
open Go.RowKit
structure Prb where
 id:Int
 part:Int
 width:Int
 cost:Int
def prbCells (p:Prb):List Value:=[.int .i64 p.id,.int .i64 p.part,.int .i64 p.width,.int .i64 p.cost]
def cntZ (s:Spn)(w:Int):Int:=(s.high-s.low+w) / w
def cntN (s:Spn)(w:Int):Nat:=(cntZ s w).toNat
def stepAt (s:Spn)(w:Int)(k:Nat):Int×Int:=(s.low+k*w,min s.high (s.low+(k+1)*w-1))
def stepsTo (s:Spn)(w:Int)(k:Nat):List (Int×Int):=(List.range k).map (stepAt s w)
def stepsOf (s:Spn)(w:Int):List (Int×Int):=stepsTo s w (cntN s w)
theorem stepsTo_succ (s:Spn)(w:Int)(k:Nat):stepsTo s w (k+1)=stepsTo s w k++[stepAt s w k]:=by simp[stepsTo,List.range_succ]
theorem stepsTo_len (s:Spn)(w:Int)(k:Nat):(stepsTo s w k).length=k:=by simp[stepsTo]
theorem cnt_pos {s:Spn}{w:Int}(hw:0<w)(hs:s.low≤s.high):1≤cntZ s w:=by
 unfold cntZ;have h:=Int.ediv_le_ediv hw (show w≤s.high-s.low+w by omega);rw[Int.ediv_self zO] at h;exact h
theorem step_lt {s:Spn}{w:Int}{k:Nat}(hw:0<w)(hs:s.low≤s.high):s.low+k*w≤s.high↔k<cntN s w:=by
 have h1:=cnt_pos hw hs;have h2:k<cntN s w↔(k:Int)+1≤cntZ s w:=by unfold cntN;omega
 rw[h2];unfold cntZ;rw[Int.le_ediv_iff_mul_le hw,Int.add_mul,Int.one_mul]
 omega
theorem cnt_le {s:Spn}{w:Int}(hw:1≤w)(hs:s.low≤s.high)(h0:0≤s.low)(h1:s.high≤1000):cntN s w≤1001:=by
 rcases Nat.lt_or_ge 1001 (cntN s w) with h|h
 ·have:=(step_lt (k:=1001) zO hs).2 h;have h3:(1001:Int)*1≤1001*w:=Int.mul_le_mul_of_nonneg_left hw zO;have h4:((1001:Nat):Int)=1001:=rfl;rw[h4] at this
  omega
 ·exact h
def rightB (p:Prb):Bool:=inB p.id 1 1000000&&inB p.width 1 1001&&inB p.cost 1 1000
def spanOf (c:Cs)(p:Prb):Spn:=((c.parts[p.part.toNat]?).map (·.span)).getD ⟨0,0,0,0⟩
def prbErr (c:Cs)(seen:List Int)(p:Prb):Int:=
 if rightB p&&inB p.part 0 ((c.parts.length:Int)-1) && !seen.contains p.id then(if 4<cntN (spanOf c p) p.width then 2 else 0) else 1
def prbGo (c:Cs):List Int→List Prb→Int
 |_,[]=>0
 |seen,p::l=>if prbErr c seen p=0 then prbGo c (seen++[p.id]) l else prbErr c seen p
def probesErr (c:Cs)(l:List Prb):Int:=if checkCase c≠0 then checkCase c else if 5<l.length then 2 else prbGo c [] l
theorem prbGo_at {c:Cs}:∀(l:List Prb) (seen:List Int) (k:Nat),(∀j p,j<k→l[j]?=some p→prbErr c (seen++(l.take j).map (·.id)) p=0) →
 (∀p,l[k]?=some p→prbErr c (seen++(l.take k).map (·.id)) p≠0→prbGo c seen l=prbErr c (seen++(l.take k).map (·.id)) p)∧(l.length≤k→prbGo c seen l=0)
 |[],seen,k,_=>⟨fun p h=>by simp at h,fun _=>rfl⟩
 |q::l,seen,0,_=>⟨fun p h hne=>by
  simp at h;subst h;simp only[List.take_zero,List.map_nil,List.append_nil] at hne ⊢;rw[prbGo,if_neg hne],fun h=>by simp at h⟩
 |q::l,seen,k+1,h=>by
  have h0:prbErr c seen q=0:=by simpa using h 0 q zO rfl
  have ih:=prbGo_at l (seen++[q.id]) k (fun j p hj hp=>by have:=h (j+1) p zO (by simpa using hp);simpa using this);rw[prbGo,if_pos h0];refine⟨fun p hp hne=>?_,fun hl=>ih.2 (by simpa using hl)⟩;have:=ih.1 p (by simpa using hp);simp only[List.take_succ_cons,List.map_cons] at hne ⊢;have e:seen++q.id::(l.take k).map (·.id)=seen++[q.id]++(l.take k).map (·.id):=by simp
  rw[e] at hne ⊢;exact this hne
theorem probes_ok {c:Cs}{l:List Prb}(h:probesErr c l=0):checkCase c=0∧l.length≤5∧∀p∈l,rightB p=true∧(0≤p.part∧p.part≤(c.parts.length:Int)-1)∧cntN (spanOf c p) p.width≤4:=by
 unfold probesErr at h
 split at h
 ·rename_i h1;exact absurd h h1
 ·rename_i h1
  split at h
  ·cases h
  ·rename_i h2
   refine⟨by simpa using h1,zO,?_⟩;have go:∀(l:List Prb) (seen:List Int),prbGo c seen l=0→∀p∈l,rightB p=true∧(0≤p.part∧p.part≤(c.parts.length:Int)-1)∧cntN (spanOf c p) p.width≤4:=by
    intro l
    induction l with
    |nil=>intro _ _ p hp;cases hp
    |cons q l ih=>
     intro seen h p hp;rw[prbGo] at h
     split at h
     ·rename_i h0
      rcases List.mem_cons.1 hp with rfl|hp
      ·unfold prbErr at h0
       split at h0
       ·rename_i hr
        split at h0
        ·cases h0
        ·rename_i h4
         simp only[Bool.and_eq_true,inB,decide_eq_true_eq] at hr;exact⟨hr.1.1,hr.1.2,zO⟩
       ·cases h0
      ·exact ih _ h p hp
     ·rename_i h0;exact absurd h h0
   exact go l [] h
theorem right_vals {p:Prb}(h:rightB p=true):(1≤p.id∧p.id≤1000000)∧(1≤p.width∧p.width≤1001)∧(1≤p.cost∧p.cost≤1000):=by
 simp only[rightB,Bool.and_eq_true,inB,decide_eq_true_eq] at h;exact⟨h.1.1,h.1.2,h.2⟩
def outGo:List Nat→List Nat→List (List Nat)
 |[],pre=>[pre]
 |n::ns,pre=>(List.range n).flatMap fun k=>outGo ns (pre++[k])
def outsOf (ns:List Nat):List (List Nat):=outGo ns []
def cntsOf (c:Cs)(l:List Prb)(set:List Nat):List Nat:=set.map fun v=>match l[v]? with|some p=>cntN (spanOf c p) p.width|none=>0
def aftStep (c d:Cs)(p:Prb)(k:Nat):Option Cs:=
 let r:=stepAt (spanOf c p) p.width k
 let e:=narrowC d p.part.toNat r.1 r.2 p.id
 if(spanOf e p).low≤(spanOf e p).high then some e else none
def aftGo (c:Cs)(l:List Prb):List (Nat×Nat)→Cs→Option Cs
 |[],d=>some d
 |(v,k)::xs,d=>match l[v]? with
  |none=>none
  |some p=>match aftStep c d p k with
   |none=>none
   |some e=>aftGo c l xs e
def afterC (c:Cs)(l:List Prb)(set fs:List Nat):Option Cs:=aftGo c l (set.zip fs) c
def canC (c:Cs)(l:List Prb)(set fs:List Nat):Option Cs:=match afterC c l set fs with|some d=>if(allR d).isEmpty then none else some d|none=>none
def sureB (c:Cs)(l:List Prb)(a b:Nat)(set fs:List Nat):Bool:=match canC c l set fs with|some d=>ansAt d a b != 3|none=>true
def doubtOf (c:Cs)(l:List Prb)(a b:Nat)(set:List Nat):Option (List Nat):=(outsOf (cntsOf c l set)).find? fun fs=>!sureB c l a b set fs
def decidesB (c:Cs)(l:List Prb)(a b:Nat)(set:List Nat):Bool:=(doubtOf c l a b set).isNone
def setGo (m:Nat):Nat→List Nat→Nat→List (List Nat)
 |0,set,_=>[set]
 |r+1,set,a=>set::(List.range (m-a)).flatMap fun k=>setGo m r (set++[a+k]) (a+k+1)
def setsOf (m:Nat):List (List Nat):=setGo m m [] 0
def costOf (l:List Prb)(set:List Nat):Int:=(set.map fun v=>((l[v]?).map (·.cost)).getD 0).foldl (· + ·) 0
end Go.Proofs.YtjgldeeianionaaGreat
namespace Go.Proofs.YtjgldeeianionaaGreat
open Go.RowKit
attribute [local go_sem] Oper.semAt_some
def PrbAt (w:World)(b o:Nat)(p:Prb):Prop:=∀i v,(prbCells p)[i]?=some v→w.cell? ⟨b,o+i,none⟩=some v
theorem PrbAt.below {w w':World}{b o:Nat}{p:Prb}(h:PrbAt w b o p)(hb:Below w.heap.size w w'):PrbAt w' b o p:=fun i v hv=>below_cell hb (h i v hv)
theorem PrbAt.open {w:World}{b o:Nat}{p:Prb}(h:PrbAt w b o p):w.cell? ⟨b,o,none⟩=some (.int .i64 p.id)∧w.cell? ⟨b,o+1,none⟩=some (.int .i64 p.part)∧w.cell? ⟨b,o+2,none⟩=some (.int .i64 p.width)∧w.cell? ⟨b,o+3,none⟩=some (.int .i64 p.cost):=
 ⟨h 0 _ rfl,h 1 _ rfl,h 2 _ rfl,h 3 _ rfl⟩
def PrbsAt (w:World)(a:Option Addr)(l:List Prb):Prop:=∀k p,l[k]?=some p→∃b o,a=some ⟨b,o,none⟩∧PrbAt w b (o+k*4) p
theorem PrbsAt.below {w w':World}{a:Option Addr}{l:List Prb}(h:PrbsAt w a l)(hb:Below w.heap.size w w'):PrbsAt w' a l:=fun k p hp=>by
 obtain⟨b,o,ha,hc⟩:=h k p hp;exact⟨b,o,ha,hc.below hb⟩
theorem PrbsAt.at_ {w:World}{a:Option Addr}{l:List Prb}(h:PrbsAt w a l){k:Nat}(hk:k<l.length):
 ∃b o p,a=some ⟨b,o,none⟩∧l[k]?=some p∧PrbAt w b (o+k*4) p:=by
 obtain⟨b,o,ha,hc⟩:=h k l[k] (by simp[hk]);exact⟨b,o,l[k],ha,by simp[hk],hc⟩
structure LabAt (W:World) (t:Nat) (c:Cs) (pa:Option Addr) (pc:Nat) (l:List Prb) (qa:Option Addr) (qc:Nat):Prop where
 box:Box W t #[.string c.ware,.int .i64 c.limit,.int .i64 c.by_,.slice pa c.parts.length pc,.slice qa l.length qc] 171
 parts:PartsAt W pa c.parts
 probes:PrbsAt W qa l
section
variable {W W':World}{t:Nat}{c:Cs}{pa:Option Addr}{pc:Nat}{l:List Prb}{qa:Option Addr}{qc:Nat}
theorem LabAt.below (h:LabAt W t c pa pc l qa qc)(hb:Below W.heap.size W W'):LabAt W' t c pa pc l qa qc:=⟨h.box.below' hb,h.parts.below hb,h.probes.below hb⟩
theorem LabAt.cells (h:LabAt W t c pa pc l qa qc):∀i,W.cell? ⟨t,i,none⟩=(#[.string c.ware,.int .i64 c.limit,.int .i64 c.by_,.slice pa c.parts.length pc,.slice qa l.length qc]:Array Value)[i]?:=h.box.cell
end
def unfit:Value:=.iface 215 (.agg #[])
def NeedPost (ok:Bool)(w:World)(e:Ending)(w':World):Prop:=Below w.heap.size w w'∧((ok=true∧e = .returned (.tuple #[]))∨(ok=false∧e = .panicked [{v:=unfit,recovered:=false}]))
theorem need9_ok (w:World):Calls Tryz.prog 150 #[.bool true] w fun e w'=>e = .returned (.tuple #[])∧w=w':=by
 go_enter Tryz.func150,Tryz.ntmps150
 go_wp2
 go_end0
 exact⟨rfl,rfl⟩
theorem need9_no (w:World):Calls Tryz.prog 150 #[.bool false] w fun e w'=>e = .panicked [{v:=unfit,recovered:=false}]∧w=w':=by
 go_enter Tryz.func150,Tryz.ntmps150
 go_wp2
 exact⟨rfl,rfl,rfl⟩
theorem within9_any (a b c:Int)(w:World):
 Calls Tryz.prog 141 #[.int .i64 a,.int .i64 b,.int .i64 c] w fun e w'=>e = .returned (.bool (inB a b c))∧w=w':=by
 go_enter Tryz.func141,Tryz.ntmps141
 go_wp2
 all_goals (go_ret;refine⟨?_,rfl⟩;unfold inB;congr 2;simp;omega)
theorem right_any (p:Prb)(w:World):
 Calls Tryz.prog 140 #[.agg #[.int .i64 p.id,.int .i64 p.part,.int .i64 p.width,.int .i64 p.cost]] w fun e w'=>e = .returned (.bool (rightB p))∧Below w.heap.size w w':=by
 go_enter Tryz.func140,Tryz.ntmps140
 go_wp2_with (go_at_call 141;refine(within9_any _ _ _ _).mono ?_;rintro e w' ⟨rfl,rfl⟩)
 all_goals (go_ret;exact⟨by simp[rightB, *],by go_grown⟩)
def rangeCells (l:List (Int×Int)):List Value:=l.flatMap fun x=>[.int .i64 x.1,.int .i64 x.2]
theorem rangeCells_snoc (l:List (Int×Int))(x:Int×Int):rangeCells (l++[x])=rangeCells l++[.int .i64 x.1,.int .i64 x.2]:=by simp[rangeCells,List.flatMap_append]
theorem info_range:(Tryz.prog.info? 164).map (fun i=>(i.zero,i.size,i.bytes))=some (some (.agg #[.int .i64 0,.int .i64 0]),2,16):=zK
theorem range_row (w:World)(x y:Int)(t:TypeId):Row (w.alloc (.cells #[.int .i64 x,.int .i64 y] t)) (some ⟨w.heap.size,0,none⟩) [.int .i64 x,.int .i64 y]:=by
 have h:=Box.new w #[.int .i64 x,.int .i64 y] t;intro k v hv;refine⟨w.heap.size,0,rfl,?_⟩;rw[Nat.zero_add,h.cell]
 rcases k with _|_|k
 ·simpa using hv
 ·simpa using hv
 ·simp at hv
theorem app_range {base:Nat}{W:World}{v:Value}{k:Nat}{xs:List Value}(h:W.ownsRow base 164 2 v k xs)(hk:k+1≤1000000)(hB:base≤W.heap.size)(x y:Int):
 ∃v' U,(Builtin.append_ #[84,84] 84 #[v,.slice (some ⟨W.heap.size,0,none⟩) 1 1]).run Tryz.prog (W.alloc (.cells #[.int .i64 x,.int .i64 y] 164)) = .ok v' U∧U.ownsRow base 164 2 v' (k+1) (xs++[.int .i64 x,.int .i64 y])∧Below base W U:=by
 obtain⟨v',U,hrun,hown,hg,_⟩:=run_append_row (P:=Tryz.prog) (W.alloc (.cells #[.int .i64 x,.int .i64 y] 164)) base 84 84 164 (.agg #[.int .i64 0,.int .i64 0]) 2 16 Tryz.underlying84 info_range rfl zO
  _ _ _ (ownsRow_keep h ((Keep.refl (fun _=>True) W).alloc (.cells #[.int .i64 x,.int .i64 y] 164)) (fun _ _=>trivial)) (some ⟨W.heap.size,0,none⟩) 1 1 [.int .i64 x,.int .i64 y] rfl (range_row _ _ _ _) (by intro u hu;simp at hu;rcases hu with rfl|rfl<;>rfl) zO zO zT
 exact⟨v',U,hrun,hown,((Below.refl _ W).alloc hB (.cells #[.int .i64 x,.int .i64 y] 164)).grown hg zT (fun j hj=>(h.lt j hj).1)⟩
theorem ownsRow_low {w:World}{base B:Nat}{e:TypeId}{size n:Nat}{v:Value}{xs:List Value}(h:w.ownsRow base e size v n xs)(hB:B≤base):w.ownsRow B e size v n xs:=by
 refine⟨h.1,?_⟩
 rcases h.2 with h0|⟨g,cap,cur,h1,hg,hh,h3⟩
 ·exact .inl h0
 ·exact .inr ⟨g,cap,cur,h1,Nat.le_trans hB hg,hh,h3⟩
def StepsPost (L:List (Int×Int))(w:World)(e:Ending)(w':World):Prop:=∃v,e = .returned v∧w'.ownsRow w.heap.size 164 2 v L.length (rangeCells L)∧Below w.heap.size w w'
theorem steps_any (s:Spn)(width:Int)(h0:0≤s.low)(h1:s.low≤s.high)(h2:s.high≤1000)(hw1:1≤width)(hw2:width≤1001)(w:World):
 Calls Tryz.prog 142 #[.agg #[.int .i64 s.low,.int .i64 s.high,.int .i64 s.lowBy,.int .i64 s.highBy],.int .i64 width] w (StepsPost (stepsOf s width) w):=by
 have hb0:Box (w.alloc (.cells #[.int .i64 s.low,.int .i64 s.high,.int .i64 s.lowBy,.int .i64 s.highBy] 78)) w.heap.size #[.int .i64 s.low,.int .i64 s.high,.int .i64 s.lowBy,.int .i64 s.highBy] 78:=Box.new _ _ _;have hB0:Below w.heap.size w (w.alloc (.cells #[.int .i64 s.low,.int .i64 s.high,.int .i64 s.lowBy,.int .i64 s.highBy] 78)):=(Below.refl _ w).alloc (Nat.le_refl _) _;have hcl:=cnt_le hw1 h1 h0 h2
 go_enter Tryz.func142,Tryz.ntmps142
 go_upto_region 1 with fail
 generalize w.alloc (.cells #[.int .i64 s.low,.int .i64 s.high,.int .i64 s.lowBy,.int .i64 s.highBy] 78)=w1 at *;have HX:=zh hb0;have HB:=zh hB0;clear hb0 hB0;have e1:=HX.out.cell
 go_wp2_with fail
 clear e1
 go_loopw [5,6] (fun ov iv wr=>∃k:Nat,k≤cntN s width∧iv = .int .i64 (s.low+k*width)∧wr.ownsRow (w.heap.size+1) 164 2 ov k (rangeCells (stepsTo s width k))∧Box wr w.heap.size #[.int .i64 s.low,.int .i64 s.high,.int .i64 s.lowBy,.int .i64 s.highBy] 78∧Below w.heap.size w wr) (fun _ iv _=>(s.high+1-intOf iv).toNat)
 case atStart=>exact⟨0,Nat.zero_le _,by simp,ownsRow_nil _ _ _ _,HX.out,HB.out⟩
 case round=>
  clear HX HB;obtain⟨k,hk,rfl,ho,hx,hB⟩:=hrel;have hst:=step_lt (s:=s) (w:=width) (k:=k) zO h1;have hat:stepAt s width k=(s.low+k*width,min s.high (s.low+k*width+width-1)):=by
   unfold stepAt;rw[Int.add_mul,Int.one_mul,←Int.add_assoc]
  have h0k:(0:Int)≤(k:Int)*width:=Int.mul_nonneg zO zO;have HS:=zh hst;have HSN:=zh (stepsTo_succ s width k);have hnx:s.low+((k+1:Nat):Int)*width=s.low+k*width+width:=by
   rw[show((k+1:Nat):Int)=(k:Int)+1 by omega,Int.add_mul,Int.one_mul,←Int.add_assoc]
  have HNX:=zh hnx;clear hst hnx;obtain⟨x,hxe⟩:=zx (s.low+(k:Int)*width);rw[hxe] at hat HS HNX;simp only[hxe];have hx0:0≤x:=by rw[←hxe];exact Int.add_nonneg h0 h0k
  have HAT:=zh hat;have HO:=zh ho;have HX:=zh hx;have HB:=zh hB;have e1:=hx.cell;clear hat hxe h0k hx hB ho
  by_cases hle:x≤s.high
  ·have hkl:=HS.out.1 hle
   by_cases hmn:x+width-1<s.high
   ·skip
    have HAT:=zh (show stepAt s width k=(x,x+width-1) by rw[HAT.out];congr 1;omega);have hmin:min s.high (x+width-1)=x+width-1:=by omega
    obtain⟨v',U,hrun,hown,hb⟩:=app_range HO.out zO HX.out.lt x (x+width-1);have HRN:=zh hrun;have HOW:=zh hown;have HBU:=zh (HB.out.trans (hb.mono (Nat.le_succ _)));have HXU:=zh (HX.out.below hb (Nat.lt_succ_self _));clear hrun hown hb
    go_wp2_with (at_builtin;refine wpList_app rfl _ _ _ rfl rfl rfl HRN.out ?_)
    go_roundw
    case rel=>exact⟨k+1,zO,by rw[HNX.out],by rw[HSN.out,rangeCells_snoc,HAT.out];exact HOW.out,HXU.out,HBU.out⟩
    case measure=>simp[intOf];omega
   ·skip
    have HAT:=zh (show stepAt s width k=(x,s.high) by rw[HAT.out];congr 1;omega);have hmin:min s.high (x+width-1)=s.high:=by omega
    obtain⟨v',U,hrun,hown,hb⟩:=app_range HO.out zO HX.out.lt x (s.high);have HRN:=zh hrun;have HOW:=zh hown;have HBU:=zh (HB.out.trans (hb.mono (Nat.le_succ _)));have HXU:=zh (HX.out.below hb (Nat.lt_succ_self _));clear hrun hown hb
    go_wp2_with (at_builtin;refine wpList_app rfl _ _ _ rfl rfl rfl HRN.out ?_)
    go_roundw
    case rel=>exact⟨k+1,zO,by rw[HNX.out],by rw[HSN.out,rangeCells_snoc,HAT.out];exact HOW.out,HXU.out,HBU.out⟩
    case measure=>simp[intOf];omega
  ·have hke:k=cntN s width:=by
    rcases Nat.lt_or_ge k (cntN s width) with h|h
    ·exact absurd (HS.out.2 h) hle
    ·omega
   have HKE:=zh hke;clear hke
   go_wp2_with fail
   go_ret
   have h:=HO.out;rw[HKE.out] at h;exact⟨_,rfl,by rw[show(stepsOf s width).length=cntN s width from stepsTo_len _ _ _];exact ownsRow_low h (Nat.le_succ _),HB.out⟩
end Go.Proofs.YtjgldeeianionaaGreat
