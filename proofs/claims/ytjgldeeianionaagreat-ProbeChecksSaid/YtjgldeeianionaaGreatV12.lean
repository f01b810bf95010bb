/- Walks and plain laws. No condition. -/
import Derived.Shelf.Sort.Plain
import Derived.Shelf.Slices.CompactI
import Derived.Shelf.Slices.Reverse
import Derived.Test.YtjgldeeianionaaGreatV11
set_option linter.unusedSimpArgs false
set_option linter.unusedVariables false
namespace Go.Proofs.YtjgldeeianionaaGreat
open Go.RowKit
section
attribute [local go_sem] Oper.semAt_some
def cellsOf (w:World)(b o m:Nat):List Value:=(List.range m).map fun q=>(w.cell? ⟨b,o+q,none⟩).getD undef
theorem cellsOf_len (w:World)(b o m:Nat):(cellsOf w b o m).length=m:=by simp[cellsOf]
theorem cellsOf_at {w:World}{b o m q:Nat}{v:Value}(hq:q<m)(h:w.cell? ⟨b,o+q,none⟩=some v):(cellsOf w b o m)[q]?=some v:=by
 unfold cellsOf;rw[List.getElem?_map,List.getElem?_range hq]
 simp[h]
def PartIn (w:World)(PB:Nat)(cells:Array Value)(L:Nat→Prop)(i:Nat)(p:Prt):Prop:=
 ∃sa sc ra rc,(∀j v,(prtCells p sa sc ra rc)[j]?=some v→cells[i*8+j]?=some v)∧Ints w sa p.sherds∧Ints w ra p.rests∧p.sherds.length≤sc∧p.rests.length≤rc ∧
  (∀b o,sa=some ⟨b,o,none⟩→0<p.sherds.length→b≠PB∧L b)∧(∀b o,ra=some ⟨b,o,none⟩→0<p.rests.length→b≠PB∧L b)
theorem prt_one (p:Prt)(sa:Option Addr)(sc:Nat)(ra:Option Addr)(rc:Nat):∀v∈prtCells p sa sc ra rc,v.oneCell'=true:=by
 intro v hv;simp only[prtCells,List.mem_cons,List.not_mem_nil,or_false] at hv
 rcases hv with rfl|rfl|rfl|rfl|rfl|rfl|rfl|rfl<;>rfl
theorem prt_len (p:Prt)(sa:Option Addr)(sc:Nat)(ra:Option Addr)(rc:Nat):(prtCells p sa sc ra rc).length=8:=rfl
theorem info_part:(Tryz.prog.info? 80).map (fun i=>(i.zero.map (·.cells.size),i.size))=some (some 8,8):=zK
theorem part_row {w:World}{b o:Nat}{l:List Prt}(h:PartsAt w (some ⟨b,o,none⟩) l):∀q,q<l.length*8→∃v,w.cell? ⟨b,o+q,none⟩=some v∧v.oneCell'=true:=by
 intro q hq;obtain⟨p,hp⟩:=get_of_lt l (k:=q / 8) zO;obtain⟨b',o',he,sa,sc,ra,rc,h1,_⟩:=h _ _ hp;cases he;obtain⟨v,hv⟩:∃v,(prtCells p sa sc ra rc)[q % 8]?=some v:=⟨(prtCells p sa sc ra rc)[q % 8]'(by rw[prt_len];omega),by simp⟩
 refine⟨v,?_,prt_one p sa sc ra rc v (List.mem_of_getElem? hv)⟩;have:=h1 _ _ hv;rw[←this];congr 2;omega
theorem parts_row {w:World}{a:Option Addr}{l:List Prt}(h:PartsAt w a l):∃news:List Value,news.length=l.length*8∧Row w a news∧(∀u∈news,u.oneCell'=true) ∧
 (∀i p,l[i]?=some p→∃sa sc ra rc,(∀j v,(prtCells p sa sc ra rc)[j]?=some v→news[i*8+j]?=some v)∧Ints w sa p.sherds∧Ints w ra p.rests∧p.sherds.length≤sc∧p.rests.length≤rc):=by
 rcases l with _|⟨p0,l0⟩
 ·exact⟨[],by simp,Row.nil _ _,by simp,fun i p hp=>by simp at hp⟩
 ·obtain⟨b,o,rfl,_⟩:=h 0 p0 rfl;have hr:=part_row h;refine⟨cellsOf w b o ((p0::l0).length*8),cellsOf_len _ _ _ _,?_,?_,?_⟩
  ·intro k v hv;have hk:k<(p0::l0).length*8:=by have:=(List.getElem?_eq_some_iff.1 hv).1;rwa [cellsOf_len] at this
   obtain⟨u,hu,_⟩:=hr k hk;rw[cellsOf_at hk hu] at hv;cases hv;exact⟨b,o,rfl,hu⟩
  ·intro u hu;obtain⟨k,hk,e⟩:=List.getElem_of_mem hu;rw[cellsOf_len] at hk;obtain⟨v,hv,h1⟩:=hr k hk;have:=cellsOf_at hk hv;rw[List.getElem?_eq_getElem (by rw[cellsOf_len];exact hk),e] at this;cases this;exact h1
  ·intro i p hp;obtain⟨b',o',he,sa,sc,ra,rc,h1,h2,h3,h4,h5⟩:=h i p hp;cases he;refine⟨sa,sc,ra,rc,fun j v hv=>cellsOf_at ?_ ?_,h2,h3,h4,h5⟩
   ·have hj:j<8:=(List.getElem?_eq_some_iff.1 hv).1;have hi:i<(p0::l0).length:=(List.getElem?_eq_some_iff.1 hp).1
    omega
   ·rw[←Nat.add_assoc];exact h1 j v hv
def CopyPPost (l:List Prt)(w0 w:World)(e:Ending)(w':World):Prop:=
 ∃PB pc cells,e = .returned (.slice (some ⟨PB,0,none⟩) l.length pc)∧l.length≤pc∧w.heap.size≤PB∧Box w' PB cells 80∧(∀i p,l[i]?=some p→PartIn w' PB cells (fun b=>b<w0.heap.size) i p)∧Below w.heap.size w w'
def zeroPart:Value:=.agg #[.slice none 0 0,.int .i64 0,.int .i64 0,.int .i64 0,.int .i64 0,.bool false,.int .i64 0,.slice none 0 0]
theorem info_partz:(Tryz.prog.info? 80).map (fun i=>(i.zero,i.size,i.bytes))=some (some zeroPart,8,96):=zK
theorem ints_block {w:World}{a:Option Addr}{l:List Int}(h:Ints w a l){b o:Nat}(ha:a=some ⟨b,o,none⟩)(hl:0<l.length):b<w.heap.size:=by
 obtain⟨b',o',_,ha',_,hc⟩:=h.at_ hl;rw[ha] at ha';cases ha';exact lt_of_cell hc
structure PartsOwn (B:Nat) (w:World) (PB:Nat) (cells:Array Value) (k:Nat) (l:List Prt):Prop where
 box:Box w PB cells 80
 far:B+2≤PB
 one:∀i p,l[i]?=some p→PartIn w PB cells (fun b=>if i<k then PB<b else b<B) i p
theorem ints_far {w:World}{a:Option Addr}{l:List Int}(h:Ints w a l){p:Addr}(hp:∀b o,a=some ⟨b,o,none⟩→0<l.length→b≠p.block)(v:Value):Ints (w.setCell p v) a l:=fun k u hu=>by
 obtain⟨b,o,ha,hc⟩:=h k u hu;have hl:0<l.length:=by have:=(List.getElem?_eq_some_iff.1 hu).1;simp at this;omega
 refine⟨b,o,ha,?_⟩;rw[World.cell?_setCell_other _ _ _ _ (fun e=>hp b o ha hl (by rw[e]))];exact hc
theorem case_size:(Tryz.prog.info? 24).map (·.size)=some 4:=zK
def cells2 (cells:Array Value)(i:Nat)(v u:Value):Array Value:=(cells.setIfInBounds (i*8) v).setIfInBounds (i*8+7) u
theorem cells2_at {cells:Array Value}{i k:Nat}{v u x:Value}(h:cells[k]?=some x)(h1:k≠i*8)(h2:k≠i*8+7):(cells2 cells i v u)[k]?=some x:=by
 unfold cells2;rw[Array.getElem?_setIfInBounds_ne zO,Array.getElem?_setIfInBounds_ne zO];exact h
theorem ints_rowOwn {B:Nat}{w:World}{a:Option Addr}{l:List Int}(h:RowOwn B w a (l.map (Value.int .i64))):Ints w a l:=h.row
theorem rowOwn_block {B:Nat}{w:World}{a:Option Addr}{l:List Int}(h:RowOwn B w a (l.map (Value.int .i64))){b o:Nat}(ha:a=some ⟨b,o,none⟩)(hl:0<l.length):B≤b:=by
 obtain⟨v,hv⟩:∃v,(l.map (Value.int .i64))[0]?=some v:=⟨_,List.getElem?_eq_getElem (by simpa using hl)⟩
 obtain⟨b',o',ha',h1,_⟩:=h 0 v hv;rw[ha] at ha';cases ha';exact h1
theorem partsOwn_step {B:Nat}{w W:World}{PB k:Nat}{cells:Array Value}{l:List Prt}{p:Prt}{a1 a2:Option Addr}{c1 c2:Nat}(h:PartsOwn B w PB cells k l)(hp:l[k]?=some p)(hb:Below w.heap.size w W)
 (h1:RowOwn w.heap.size W a1 (p.sherds.map (Value.int .i64))) (h2:RowOwn w.heap.size W a2 (p.rests.map (Value.int .i64))) (hc1:p.sherds.length≤c1) (hc2:p.rests.length≤c2):
 PartsOwn B ((W.setCell ⟨PB,k*8,none⟩ (.slice a1 p.sherds.length c1)).setCell ⟨PB,k*8+7,none⟩ (.slice a2 p.rests.length c2)) PB (cells2 cells k (.slice a1 p.sherds.length c1) (.slice a2 p.rests.length c2)) (k+1) l:=by
 have hlt:=h.box.lt;have hfar:=h.far;refine⟨((h.box.below' hb).set_ _ _).set_ _ _,h.far,fun i q hq=>?_⟩;obtain⟨sa,sc,ra,rc,e1,e2,e3,e4,e5,e6,e7⟩:=h.one i q hq;have far2:∀{a:Option Addr} {x:List Int},Ints W a x→(∀b o,a=some ⟨b,o,none⟩→0<x.length→b≠PB)→Ints ((W.setCell ⟨PB,k*8,none⟩ (.slice a1 p.sherds.length c1)).setCell ⟨PB,k*8+7,none⟩ (.slice a2 p.rests.length c2)) a x:=
  fun hx hne=>ints_far (ints_far hx hne _) hne _
 by_cases hik:i=k
 ·subst hik;rw[hp] at hq;cases hq;refine⟨a1,c1,a2,c2,fun j v hv=>?_,far2 (ints_rowOwn h1) (fun b o ha hl=>by have:=rowOwn_block h1 ha hl;omega),far2 (ints_rowOwn h2) (fun b o ha hl=>by have:=rowOwn_block h2 ha hl;omega),hc1,hc2,fun b o ha hl=>?_,fun b o ha hl=>?_⟩
  ·have hj:j<8:=(List.getElem?_eq_some_iff.1 hv).1;have hsz:∀j,j<8→i*8+j<cells.size:=fun j hj=>by
    obtain⟨u,hu⟩:∃u,(prtCells p sa sc ra rc)[j]?=some u:=⟨_,List.getElem?_eq_getElem (by rw[prt_len];exact hj)⟩
    exact(Array.getElem?_eq_some_iff.1 (e1 _ _ hu)).1
   have z0:=hsz 0 zO;have z7:=hsz 7 zO
   match j,hj with
   |0,_=>simp[prtCells] at hv;subst hv;simp[cells2,Array.getElem?_setIfInBounds];omega
   |7,_=>simp[prtCells] at hv;subst hv;simp[cells2,z7]
   |1,_=>exact cells2_at (e1 1 v (by simpa[prtCells] using hv)) zO zO
   |2,_=>exact cells2_at (e1 2 v (by simpa[prtCells] using hv)) zO zO
   |3,_=>exact cells2_at (e1 3 v (by simpa[prtCells] using hv)) zO zO
   |4,_=>exact cells2_at (e1 4 v (by simpa[prtCells] using hv)) zO zO
   |5,_=>exact cells2_at (e1 5 v (by simpa[prtCells] using hv)) zO zO
   |6,_=>exact cells2_at (e1 6 v (by simpa[prtCells] using hv)) zO zO
  ·have:=rowOwn_block h1 ha hl;dsimp only;rw[if_pos zO];constructor<;>omega
  ·have:=rowOwn_block h2 ha hl;dsimp only;rw[if_pos zO];constructor<;>omega
 ·refine⟨sa,sc,ra,rc,fun j v hv=>?_,far2 (e2.below hb) (fun b o ha hl=>(e6 b o ha hl).1),far2 (e3.below hb) (fun b o ha hl=>(e7 b o ha hl).1),e4,e5,fun b o ha hl=>?_,fun b o ha hl=>?_⟩
  ·have hj:j<8:=(List.getElem?_eq_some_iff.1 hv).1;exact cells2_at (e1 j v hv) zO zO
  ·refine⟨(e6 b o ha hl).1,?_⟩;have:=(e6 b o ha hl).2;dsimp only at this ⊢
   by_cases h9:i<k
   ·rw[if_pos h9] at this;rw[if_pos zO];exact this
   ·rw[if_neg h9] at this;rw[if_neg zO];exact this
  ·refine⟨(e7 b o ha hl).1,?_⟩;have:=(e7 b o ha hl).2;dsimp only at this ⊢
   by_cases h9:i<k
   ·rw[if_pos h9] at this;rw[if_pos zO];exact this
   ·rw[if_neg h9] at this;rw[if_neg zO];exact this
def Copy2Post (B:Nat)(l:List Int)(w:World)(e:Ending)(w':World):Prop:=∃a c,e = .returned (.slice a l.length c)∧RowOwn B w' a (l.map (Value.int .i64))∧l.length≤c∧Below w.heap.size w w'
theorem RowOwn.set {B:Nat}{w:World}{b o:Nat}{xs:List Value}(h:RowOwn B w (some ⟨b,o,none⟩) xs){i:Nat}(v:Value):RowOwn B (w.setCell ⟨b,o+i,none⟩ v) (some ⟨b,o,none⟩) (xs.set i v):=fun k u hu=>by
 rw[List.getElem?_set] at hu
 split at hu
 ·rename_i hik
  subst hik
  split at hu
  ·rename_i hlt
   cases hu;obtain⟨b',o',ha,h1,h2,h3⟩:=h i _ (List.getElem?_eq_getElem hlt);cases ha;exact⟨b,o,rfl,h1,World.cell?_setCell_same' w _ v (by rw[h2];rfl),by rw[World.frozen?_setCell];exact h3⟩
  ·cases hu
 ·rename_i hik
  obtain⟨b',o',ha,h1,h2,h3⟩:=h k u hu;cases ha;refine⟨b,o,rfl,h1,?_,by rw[World.frozen?_setCell];exact h3⟩;rw[World.cell?_setCell_other _ _ _ _ (fun e=>by injection e with _ e;exact hik (Nat.add_left_cancel e))];exact h2
theorem below_setCells {B b:Nat}(hb:B≤b):∀(vs:List Value) (o:Nat) {a w:World},Below B a w→Below B a (w.setCells b o vs)
 |[],_,_,_,h=>h
 |v::vs,o,_,_,h=>below_setCells hb vs (o+1) (h.setCell (by simpa using hb) v)
theorem RowOwn.cut {B:Nat}{w:World}{b o:Nat}{xs:List Value}(h:RowOwn B w (some ⟨b,o,none⟩) xs){p:Nat}(vs:List Value):RowOwn B (w.setCells b (o+p) vs) (some ⟨b,o,none⟩) (xs.take p):=fun k u hu=>by
 rw[List.getElem?_take] at hu
 split at hu
 ·rename_i hk
  obtain⟨b',o',ha,h1,h2,h3⟩:=h k u hu;cases ha;refine⟨b,o,rfl,h1,?_,by rw[World.frozen?_setCells];exact h3⟩;rw[World.cell?_setCells_out _ _ _ _ _ (fun _ _=>.inl (by show o+k<o+p;omega))];exact h2
 ·cases hu
end
def hitB (gone:Int→Bool)(v:Int):Bool:=v != 0&&gone v
def clearP (j:Nat)(p:Prt):Prt:=
 if j=0 then {p with span:={p.span with low:=0,lowBy:=0}} else if j=1 then {p with span:={p.span with high:=1000,highBy:=0}} else {p with foot:=false,footBy:=0}
structure PartsB (B M:Nat) (w:World) (PB:Nat) (cells:Array Value) (l:List Prt):Prop where
 box:Box w PB cells 80
 far:B+2≤PB
 one:∀i p,l[i]?=some p→PartIn w PB cells (fun b=>PB<b∧b<M) i p
theorem PartsOwn.toB {B:Nat}{w:World}{PB n:Nat}{cells:Array Value}{l:List Prt}(h:PartsOwn B w PB cells n l)(hl:l.length=n):PartsB B w.heap.size w PB cells l:=by
 refine⟨h.box,h.far,fun i p hp=>?_⟩;have hi:i<n:=by rw[←hl];exact(List.getElem?_eq_some_iff.1 hp).1
 obtain⟨sa,sc,ra,rc,e1,e2,e3,e4,e5,e6,e7⟩:=h.one i p hp;refine⟨sa,sc,ra,rc,e1,e2,e3,e4,e5,fun b o ha hl=>?_,fun b o ha hl=>?_⟩
 ·have:=e6 b o ha hl;dsimp only at this;rw[if_pos hi] at this;exact⟨this.1,this.2,ints_block e2 ha hl⟩
 ·have:=e7 b o ha hl;dsimp only at this;rw[if_pos hi] at this;exact⟨this.1,this.2,ints_block e3 ha hl⟩
theorem PartsB.toOwn {B B' M:Nat}{w:World}{PB n:Nat}{cells:Array Value}{l:List Prt}(h:PartsB B M w PB cells l)(hl:l.length=n)(hB:B'≤B):PartsOwn B' w PB cells n l:=by
 refine⟨h.box,by have:=h.far;omega,fun i p hp=>?_⟩;have hi:i<n:=by rw[←hl];exact(List.getElem?_eq_some_iff.1 hp).1
 obtain⟨sa,sc,ra,rc,e1,e2,e3,e4,e5,e6,e7⟩:=h.one i p hp;refine⟨sa,sc,ra,rc,e1,e2,e3,e4,e5,fun b o ha hl=>?_,fun b o ha hl=>?_⟩
 ·have:=e6 b o ha hl;dsimp only at this ⊢;rw[if_pos hi];exact⟨this.1,this.2.1⟩
 ·have:=e7 b o ha hl;dsimp only at this ⊢;rw[if_pos hi];exact⟨this.1,this.2.1⟩
def cellsW (cells:Array Value)(i a b:Nat)(v u:Value):Array Value:=(cells.setIfInBounds (i*8+a) v).setIfInBounds (i*8+b) u
theorem partsB_clear {B M:Nat}{W:World}{PB i a b:Nat}{cells:Array Value}{l:List Prt}{p p':Prt}{v u:Value}{f:Prt→Prt}(h:PartsB B M W PB cells l)(hp:l[i]?=some p)(hf:f p=p')
 (hs:p'.sherds=p.sherds) (hr:p'.rests=p.rests) (ha:a<8) (hb:b<8) (hc:∀sa sc ra rc,prtCells p' sa sc ra rc=((prtCells p sa sc ra rc).set a v).set b u):
 PartsB B M ((W.setCell ⟨PB,i*8+a,none⟩ v).setCell ⟨PB,i*8+b,none⟩ u) PB (cellsW cells i a b v u) (l.modify i f):=by
 refine⟨(h.box.set_ _ _).set_ _ _,h.far,fun j q hq=>?_⟩;have far2:∀{a':Option Addr} {x:List Int},Ints W a' x→(∀b o,a'=some ⟨b,o,none⟩→0<x.length→b≠PB)→Ints ((W.setCell ⟨PB,i*8+a,none⟩ v).setCell ⟨PB,i*8+b,none⟩ u) a' x:=
  fun hx hne=>ints_far (ints_far hx hne _) hne _
 by_cases hij:j=i
 ·subst hij;have:q=p':=by
   rw[List.getElem?_modify,hp] at hq;have e:f p=q:=by simpa using hq
   rw[←e,hf]
  subst this;obtain⟨sa,sc,ra,rc,e1,e2,e3,e4,e5,e6,e7⟩:=h.one j p hp;refine⟨sa,sc,ra,rc,fun k z hz=>?_,far2 (hs▸e2) (fun b o ha hl=>(e6 b o ha (hs▸hl)).1),far2 (hr▸e3) (fun b o ha hl=>(e7 b o ha (hr▸hl)).1),hs▸e4,hr▸e5,fun b o ha hl=>e6 b o ha (hs▸hl),fun b o ha hl=>e7 b o ha (hr▸hl)⟩;rw[hc sa sc ra rc] at hz;have hlen:∀j',j'<8→j*8+j'<cells.size:=fun j' hj'=>by
   obtain⟨w,hw⟩:∃w,(prtCells p sa sc ra rc)[j']?=some w:=⟨_,List.getElem?_eq_getElem (by rw[prt_len];exact hj')⟩
   exact(Array.getElem?_eq_some_iff.1 (e1 _ _ hw)).1
  have hk8:k<8:=by have:=(List.getElem?_eq_some_iff.1 hz).1;simpa[prt_len] using this
  unfold cellsW;rw[List.getElem?_set] at hz;rw[Array.getElem?_setIfInBounds]
  by_cases hbk:b=k
  ·subst hbk;rw[if_pos rfl] at hz ⊢;simp only[List.length_set,prt_len,if_pos hb] at hz;rw[if_pos (by simpa using hlen b hb)];exact hz
  ·rw[if_neg hbk] at hz;rw[if_neg zO,Array.getElem?_setIfInBounds];rw[List.getElem?_set] at hz
   by_cases hak:a=k
   ·subst hak;rw[if_pos rfl] at hz ⊢;rw[prt_len,if_pos ha] at hz;rw[if_pos (hlen a ha)];exact hz
   ·rw[if_neg hak] at hz;rw[if_neg zO];exact e1 _ _ hz
 ·have hq':l[j]?=some q:=by
   rw[List.getElem?_modify] at hq;have hij':¬i=j:=fun e=>hij e.symm
   simpa[hij'] using hq
  obtain⟨sa,sc,ra,rc,e1,e2,e3,e4,e5,e6,e7⟩:=h.one j q hq';refine⟨sa,sc,ra,rc,fun k z hz=>?_,far2 e2 (fun b o ha hl=>(e6 b o ha hl).1),far2 e3 (fun b o ha hl=>(e7 b o ha hl).1),e4,e5,e6,e7⟩;have hk8:k<8:=by have:=(List.getElem?_eq_some_iff.1 hz).1;simpa[prt_len] using this
  unfold cellsW;rw[Array.getElem?_setIfInBounds_ne zO,Array.getElem?_setIfInBounds_ne zO];exact e1 _ _ hz
theorem PartsB.at_ {B M:Nat}{w:World}{PB:Nat}{cells:Array Value}{l:List Prt}(h:PartsB B M w PB cells l):PartsAt w (some ⟨PB,0,none⟩) l:=fun i p hp=>by
 obtain⟨sa,sc,ra,rc,e1,e2,e3,e4,e5,e6,e7⟩:=h.one i p hp;refine⟨PB,0,rfl,sa,sc,ra,rc,fun j v hv=>?_,e2,e3,e4,e5⟩;rw[h.box.cell,Nat.zero_add];exact e1 j v hv
section
attribute [local go_sem] Oper.semAt_some
theorem PartsB.keep {K:Nat→Prop}{B M:Nat}{w w':World}{PB:Nat}{cells:Array Value}{l:List Prt}(h:PartsB B M w PB cells l)(hk:Keep K w w')(hPB:K PB)(hK:∀b,PB<b→b<M→K b):PartsB B M w' PB cells l:=by
 refine⟨hk.heap hPB h.box,h.far,fun i p hp=>?_⟩;obtain⟨sa,sc,ra,rc,e1,e2,e3,e4,e5,e6,e7⟩:=h.one i p hp;have keepI:∀{a:Option Addr} {x:List Int},Ints w a x→(∀b o,a=some ⟨b,o,none⟩→0<x.length→K b)→Ints w' a x:=fun {a x} hx hb k u hu=>by
  obtain⟨b,o,ha,hc⟩:=hx k u hu;have hl:0<x.length:=by have:=(List.getElem?_eq_some_iff.1 hu).1;simp at this;omega
  exact⟨b,o,ha,hk.cell (hb b o ha hl) hc⟩
 exact⟨sa,sc,ra,rc,e1,keepI e2 (fun b o ha hl=>hK b (e6 b o ha hl).2.1 (e6 b o ha hl).2.2),keepI e3 (fun b o ha hl=>hK b (e7 b o ha hl).2.1 (e7 b o ha hl).2.2),e4,e5,e6,e7⟩
theorem PartsB.below {B M:Nat}{w w':World}{PB:Nat}{cells:Array Value}{l:List Prt}(h:PartsB B M w PB cells l)(hb:Below w.heap.size w w'):PartsB B M w' PB cells l:=h.keep (K:=fun _=>True) (Keep.of_below' hb) trivial (fun _ _ _=>trivial)
end
def bnd:Nat→Nat→Nat
 |0,_=>1
 |r+1,m=>m*(1+bnd r m)+bnd r (m+1)
theorem bnd_mono:∀(r m m':Nat),m≤m'→bnd r m≤bnd r m'
 |0,_,_,_=>Nat.le_refl _
 |r+1,m,m',h=>Nat.add_le_add (Nat.mul_le_mul h (Nat.add_le_add_left (bnd_mono r m m' h) 1)) (bnd_mono r _ _ zO)
theorem bnd_eight:bnd 8 0≤8279:=by decide
theorem bnd_less:∀(r m:Nat),bnd r m≤bnd (r+1) m:=fun r m=>by
 show bnd r m≤m*(1+bnd r m)+bnd r (m+1)
 exact Nat.le_trans (bnd_mono r m (m+1) zO) (Nat.le_add_left _ _)
theorem bnd_le {r r' m:Nat}(h:r≤r'):bnd r m≤bnd r' m:=by
 obtain⟨d,rfl⟩:=Nat.exists_eq_add_of_le h
 induction d with
 |zero=>exact Nat.le_refl _
 |succ d ih=>exact Nat.le_trans (ih zO) (bnd_less _ _)
section
attribute [local go_sem] Oper.semAt_some
theorem ints_keep {K:Nat→Prop}{A C:World}{a:Option Addr}{x:List Int}(h:Ints A a x)(hk:Keep K A C)(hK:∀b o,a=some ⟨b,o,none⟩→0<x.length→K b):Ints C a x:=fun k u hu=>by
 obtain⟨b,o,ha,hc⟩:=h k u hu;have hl:0<x.length:=by have:=(List.getElem?_eq_some_iff.1 hu).1;simp at this;omega
 exact⟨b,o,ha,hk.cell (hK b o ha hl) hc⟩
theorem ints_lt {W:World}{a:Option Addr}{l:List Int}(h:Ints W a l){b o:Nat}(ha:a=some ⟨b,o,none⟩)(hl:0<l.length):b<W.heap.size:=by
 obtain⟨b',o',_,ha',_,hc⟩:=h.at_ hl;rw[ha] at ha';cases ha';exact lt_of_cell hc
section
variable {c:Cs}{pa:Option Addr}{pc bb N:Nat}{oa:Option Addr}{oc:Nat}{order:List Nat}{w0:World}{l:List Br}{W W':World}
end
theorem natInts_len (l:List Nat):(natInts l).length=l.length:=by simp[natInts]
theorem natInts_snoc (l:List Nat)(x:Nat):natInts (l++[x])=natInts l++[(x:Int)]:=by simp[natInts]
theorem ownsRow_less {w:World}{base B:Nat}{e:TypeId}{size n:Nat}{v:Value}{xs:List Value}(h:w.ownsRow base e size v n xs)(hB:B≤base):w.ownsRow B e size v n xs:=by
 refine⟨h.1,?_⟩
 rcases h.2 with h0|⟨g,cap,cur,h1,hg,hh,h3⟩
 ·exact .inl h0
 ·exact .inr ⟨g,cap,cur,h1,Nat.le_trans hB hg,hh,h3⟩
theorem row_one {w:World}{g:Nat}{x:Int}{t:TypeId}(h:Box w g #[.int .i64 x] t):Row w (some ⟨g,0,none⟩) [.int .i64 x]:=fun k u hu=>⟨g,0,rfl,by rw[h.cell,Nat.zero_add];simpa using hu⟩
end
theorem app_ints {base:Nat}{W:World}{v:Value}{k:Nat}{xs:List Value}(h:W.ownsRow base 3 1 v k xs){a:Option Addr}{n cap:Nat}{l:List Int}(hn:l.length=n)(hi:Ints W a l)(hk:k+n≤1000000)(hB:base≤W.heap.size):
 ∃v' U,(Builtin.append_ #[26,26] 26 #[v,.slice a n cap]).run Tryz.prog W = .ok v' U∧U.ownsRow base 3 1 v' (k+n) (xs++l.map (Value.int .i64))∧Below base W U:=by
 obtain⟨v',U,hrun,hown,hg,_⟩:=run_append_row (P:=Tryz.prog) W base 26 26 3 (.int .i64 0) 1 8 Tryz.underlying26 info_int rfl zO v _ _ h a n cap (l.map (Value.int .i64)) (by simpa using hn) hi (ints_one l) zO zO hB;exact⟨v',U,hrun,hown,grown_below h hg (Nat.le_refl _) hB⟩
