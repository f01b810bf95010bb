/- Walks and plain laws. No condition. -/
import Derived.WalkSpells
import Derived.WalkLawsBesides
import Derived.Test.YtjgldeeianionaaGreatProg
import Derived.BigQuiet
import Derived.Handy
import Derived.Lib.Hide
import Derived.Lib.ConvBytes
import Derived.RangeFuncNested
import Derived.RangeFuncBound
import Derived.OwnWalkIn
import Derived.TacticsInMore
import Derived.LoopNIn
import Derived.LoopIn
import Derived.StillTailTactics
import Derived.Deep.RegionHeld
set_option maxHeartbeats 1000000
set_option maxRecDepth 100000
set_option linter.unusedSimpArgs false
set_option linter.unusedVariables false
namespace Go.Proofs.YtjgldeeianionaaGreat
open Go.RowKit
theorem zJ {p:Prop}(h:p:=by(simp[intOf];omega)):p:=h
theorem zx {α:Sort _}(x:α):∃y,x=y:=⟨x,rfl⟩
theorem zh {p:Prop}(h:p):Hid p:=Lib.hid h
theorem zK {p:Prop}(h:p:=by kernel_rfl):p:=h
theorem zM {P:Program}{f:Nat}{a:Array Value}{w:World}{p q:Ending→World→Prop}(h:Hid (Calls P f a w p))(k:∀e w',p e w'→q e w'):Calls P f a w q:=h.out.mono k
theorem zO {p:Prop}(h:p:=by omega):p:=h
theorem zS {p:Prop}(h:p:=by simp):p:=h
theorem zT {p:Prop}(h:p:=by(simp;omega)):p:=h
theorem zU {p:Prop}(h:p:=by(simp<;>omega)):p:=h
theorem zN {p:Prop}(h:p:=by go_num):p:=h
theorem zI {a b c:Sort _}{p:a→b→c→Prop}(x:a)(y:b)(z:c)(h:p x y z):p x y z:=h
end Go.Proofs.YtjgldeeianionaaGreat
namespace Go.Proofs.YtjgldeeianionaaGreat
open Go.RowKit
theorem lt_of_cell {w:World}{b o:Nat}{v:Value}(h:w.cell? ⟨b,o,none⟩=some v):b<w.heap.size:=by
 rcases Nat.lt_or_ge b w.heap.size with h0|h0
 ·exact h0
 ·simp[World.cell?,Array.getElem?_eq_none h0] at h
theorem below_cell {w w':World}(hb:Below w.heap.size w w'){b o:Nat}{v:Value}(h:w.cell? ⟨b,o,none⟩=some v):w'.cell? ⟨b,o,none⟩=some v:=
 (hb.cell (p:=⟨b,o,none⟩) (lt_of_cell h)).trans h
def Box (w:World)(b:Nat)(cs:Array Value)(t:TypeId):Prop:=w.heap[b]?=some (.cells cs t (0,0))
theorem Box.lt {w:World}{b:Nat}{cs:Array Value}{t:TypeId}(h:Box w b cs t):b<w.heap.size:=by
 rcases Nat.lt_or_ge b w.heap.size with h0|h0
 ·exact h0
 ·unfold Box at h;rw[Array.getElem?_eq_none h0] at h;cases h
theorem Box.cell {w:World}{b:Nat}{cs:Array Value}{t:TypeId}(h:Box w b cs t)(i:Nat):w.cell? ⟨b,i,none⟩=cs[i]?:=by
 unfold Box at h;simp[World.cell?,h]
theorem Box.frozen {w:World}{b:Nat}{cs:Array Value}{t:TypeId}(h:Box w b cs t)(i:Nat):w.frozen? ⟨b,i,none⟩=false:=by
 unfold Box at h;simp[World.frozen?,h]
theorem Box.new (w:World)(cs:Array Value)(t:TypeId):Box (w.alloc (.cells cs t)) w.heap.size cs t:=World.alloc_heap_new w _
theorem Box.new' {w:World}{cs:Array Value}{t:TypeId}{k:Nat}(h:k=w.heap.size):Box (w.alloc (.cells cs t)) k cs t:=h▸Box.new w cs t
theorem Box.drew {w:World}{b:Nat}{cs:Array Value}{t:TypeId}(h:Box w b cs t):Box w.drew b cs t:=h
theorem Box.drewN {w:World}{b:Nat}{cs:Array Value}{t:TypeId}(h:Box w b cs t)(n:Nat):Box (w.drewN n) b cs t:=h
theorem Box.alloc {w:World}{b:Nat}{cs:Array Value}{t:TypeId}(h:Box w b cs t)(o:Obj):Box (w.alloc o) b cs t:=(Below.heap_alloc w o b h.lt).trans h
theorem Box.below {w w':World}{B b:Nat}{cs:Array Value}{t:TypeId}(h:Box w b cs t)(hb:Below B w w')(hB:b<B):Box w' b cs t:=(hb.block b hB).trans h
theorem Box.below' {w w':World}{b:Nat}{cs:Array Value}{t:TypeId}(h:Box w b cs t)(hb:Below w.heap.size w w'):Box w' b cs t:=h.below hb h.lt
theorem Box.far {w:World}{b:Nat}{cs:Array Value}{t:TypeId}(h:Box w b cs t){p:Addr}(hp:b≠p.block)(u:Value):Box (w.setCell p u) b cs t:=(Below.heap_setCell w p u b hp).trans h
theorem Box.set_ {w:World}{b:Nat}{cs:Array Value}{t:TypeId}(h:Box w b cs t)(i:Nat)(u:Value):Box (w.setCell ⟨b,i,none⟩ u) b (cs.setIfInBounds i u) t:=by
 unfold Box at h ⊢
 simp[World.setCell,Array.getElem?_modify,h]
theorem Box.grown {w w':World}{b:Nat}{cs:Array Value}{t:TypeId}{row:Option Nat}(h:Box w b cs t)(hb:w.grownBy w' row)(hg:some b≠row):Box w' b cs t:=(hb.block b h.lt hg).trans h
theorem Box.rules {w:World}{b:Nat}{cs:Array Value}{t:TypeId}(h:Box w b cs t):(∀i,w.cell? ⟨b,i,none⟩=cs[i]?)∧(∀i,w.frozen? ⟨b,i,none⟩=false):=⟨h.cell,h.frozen⟩
def Row (w:World)(a:Option Addr)(xs:List Value):Prop:=
 ∀k v,xs[k]?=some v→∃b o,a=some ⟨b,o,none⟩∧w.cell? ⟨b,o+k,none⟩=some v
theorem Row.below {w w':World}{a:Option Addr}{xs:List Value}(h:Row w a xs)(hb:Below w.heap.size w w'):Row w' a xs:=fun k v hv=>by
 obtain⟨b,o,ha,hc⟩:=h k v hv;exact⟨b,o,ha,below_cell hb hc⟩
theorem Row.nil (w:World)(a:Option Addr):Row w a []:=fun k v hv=>by simp at hv
def Ints (w:World)(a:Option Addr)(l:List Int):Prop:=Row w a (l.map (Value.int .i64))
theorem Ints.below {w w':World}{a:Option Addr}{l:List Int}(h:Ints w a l)(hb:Below w.heap.size w w'):Ints w' a l:=Row.below h hb
theorem Ints.nil (w:World)(a:Option Addr):Ints w a []:=fun k v hv=>by simp at hv
theorem Ints.at_ {w:World}{a:Option Addr}{l:List Int}(h:Ints w a l){k:Nat}(hk:k<l.length):
 ∃b o x,a=some ⟨b,o,none⟩∧l[k]?=some x∧w.cell? ⟨b,o+k,none⟩=some (.int .i64 x):=by
 obtain⟨b,o,ha,hc⟩:=h k (.int .i64 l[k]) (by simp[hk]);exact⟨b,o,l[k],ha,by simp[hk],hc⟩
theorem Ints.base {w:World}{a:Option Addr}{l:List Int}(h:Ints w a l)(hne:0<l.length):
 ∃b o,a=some ⟨b,o,none⟩∧∀k x,l[k]?=some x→w.cell? ⟨b,o+k,none⟩=some (.int .i64 x):=by
 obtain⟨b,o,_,ha,_,_⟩:=h.at_ hne;refine⟨b,o,ha,fun k x hx=>?_⟩;obtain⟨b',o',ha',hc'⟩:=h k (.int .i64 x) (by simp[hx]);rw[ha] at ha';cases ha';exact hc'
theorem get_of_lt {α:Type}(l:List α){k:Nat}(hk:k<l.length):∃x,l[k]?=some x:=⟨l[k],by simp[hk]⟩
theorem ret_bool {a b:Bool}(h:a=b):Ending.returned (.bool a) = .returned (.bool b):=by rw[h]
theorem ret_int {k:IntKind}{a b:Int}(h:a=b):Ending.returned (.int k a) = .returned (.int k b):=by rw[h]
def Bytes (w:World)(a:Option Addr)(l:List UInt8):Prop:=Row w a (l.map fun c=>Value.int .u8 c.toNat)
theorem Bytes.at_ {w:World}{a:Option Addr}{l:List UInt8}(h:Bytes w a l){k:Nat}(hk:k<l.length):
 ∃b o x,a=some ⟨b,o,none⟩∧l[k]?=some x∧w.cell? ⟨b,o+k,none⟩=some (.int .u8 x.toNat):=by
 obtain⟨b,o,ha,hc⟩:=h k (.int .u8 (l[k]).toNat) (by simp[hk]);exact⟨b,o,l[k],ha,by simp[hk],hc⟩
structure Spn where
 low:Int
 high:Int
 lowBy:Int
 highBy:Int
deriving DecidableEq
structure Prt where
 sherds:List Int
 span:Spn
 foot:Bool
 footBy:Int
 rests:List Int
deriving DecidableEq
structure Cs where
 ware:ByteArray
 limit:Int
 by_:Int
 parts:List Prt
def prtCells (p:Prt)(sa:Option Addr)(sc:Nat)(ra:Option Addr)(rc:Nat):List Value:=
 [.slice sa p.sherds.length sc,.int .i64 p.span.low,.int .i64 p.span.high,.int .i64 p.span.lowBy,.int .i64 p.span.highBy,.bool p.foot,.int .i64 p.footBy,.slice ra p.rests.length rc]
def PrtBox (w:World)(b:Nat)(p:Prt)(sa:Option Addr)(sc:Nat)(ra:Option Addr)(rc:Nat)(t:TypeId):Prop:=Box w b (prtCells p sa sc ra rc).toArray t
theorem PrtBox.new (w:World)(p:Prt)(sa:Option Addr)(sc:Nat)(ra:Option Addr)(rc:Nat)(t:TypeId):
 PrtBox (w.alloc (.cells #[.slice sa p.sherds.length sc,.int .i64 p.span.low,.int .i64 p.span.high,.int .i64 p.span.lowBy,.int .i64 p.span.highBy,.bool p.foot,.int .i64 p.footBy,.slice ra p.rests.length rc] t)) w.heap.size p sa sc ra rc t:=Box.new _ _ _
theorem PrtBox.cells {w:World}{b:Nat}{p:Prt}{sa:Option Addr}{sc:Nat}{ra:Option Addr}{rc:Nat}{t:TypeId}(h:PrtBox w b p sa sc ra rc t)(i:Nat):
 w.cell? ⟨b,i,none⟩=(#[.slice sa p.sherds.length sc,.int .i64 p.span.low,.int .i64 p.span.high,.int .i64 p.span.lowBy,.int .i64 p.span.highBy,.bool p.foot,.int .i64 p.footBy,.slice ra p.rests.length rc]:Array Value)[i]?:=Box.cell h i
def SpnBox (w:World)(b:Nat)(s:Spn)(t:TypeId):Prop:=Box w b #[.int .i64 s.low,.int .i64 s.high,.int .i64 s.lowBy,.int .i64 s.highBy] t
theorem SpnBox.cells {w:World}{b:Nat}{s:Spn}{t:TypeId}(h:SpnBox w b s t)(i:Nat):w.cell? ⟨b,i,none⟩=(#[.int .i64 s.low,.int .i64 s.high,.int .i64 s.lowBy,.int .i64 s.highBy]:Array Value)[i]?:=Box.cell h i
def PartAt (w:World)(b o:Nat)(p:Prt):Prop:=
 ∃sa sc ra rc,(∀i v,(prtCells p sa sc ra rc)[i]?=some v→w.cell? ⟨b,o+i,none⟩=some v)∧Ints w sa p.sherds∧Ints w ra p.rests∧p.sherds.length≤sc∧p.rests.length≤rc
theorem PartAt.below {w w':World}{b o:Nat}{p:Prt}(h:PartAt w b o p)(hb:Below w.heap.size w w'):PartAt w' b o p:=by
 obtain⟨sa,sc,ra,rc,h1,h2,h3,h4⟩:=h;exact⟨sa,sc,ra,rc,fun i v hv=>below_cell hb (h1 i v hv),h2.below hb,h3.below hb,h4⟩
theorem PartAt.open {w:World}{b o:Nat}{p:Prt}(h:PartAt w b o p):
 ∃sa sc ra rc,w.cell? ⟨b,o,none⟩=some (.slice sa p.sherds.length sc)∧w.cell? ⟨b,o+1,none⟩=some (.int .i64 p.span.low) ∧
  w.cell? ⟨b,o+2,none⟩=some (.int .i64 p.span.high)∧w.cell? ⟨b,o+3,none⟩=some (.int .i64 p.span.lowBy)∧w.cell? ⟨b,o+4,none⟩=some (.int .i64 p.span.highBy) ∧
  w.cell? ⟨b,o+5,none⟩=some (.bool p.foot)∧w.cell? ⟨b,o+6,none⟩=some (.int .i64 p.footBy)∧w.cell? ⟨b,o+7,none⟩=some (.slice ra p.rests.length rc) ∧
  Ints w sa p.sherds∧Ints w ra p.rests∧p.sherds.length≤sc∧p.rests.length≤rc:=by
 obtain⟨sa,sc,ra,rc,h1,h2,h3,h4⟩:=h;exact⟨sa,sc,ra,rc,h1 0 _ rfl,h1 1 _ rfl,h1 2 _ rfl,h1 3 _ rfl,h1 4 _ rfl,h1 5 _ rfl,h1 6 _ rfl,h1 7 _ rfl,h2,h3,h4⟩
def PartsAt (w:World)(a:Option Addr)(l:List Prt):Prop:=
 ∀k p,l[k]?=some p→∃b o,a=some ⟨b,o,none⟩∧PartAt w b (o+k*8) p
theorem PartsAt.below {w w':World}{a:Option Addr}{l:List Prt}(h:PartsAt w a l)(hb:Below w.heap.size w w'):PartsAt w' a l:=fun k p hp=>by
 obtain⟨b,o,ha,hc⟩:=h k p hp;exact⟨b,o,ha,hc.below hb⟩
theorem PartsAt.at_ {w:World}{a:Option Addr}{l:List Prt}(h:PartsAt w a l){k:Nat}(hk:k<l.length):
 ∃b o p,a=some ⟨b,o,none⟩∧l[k]?=some p∧PartAt w b (o+k*8) p:=by
 obtain⟨b,o,ha,hc⟩:=h k l[k] (by simp[hk]);exact⟨b,o,l[k],ha,by simp[hk],hc⟩
def Cs.Small (c:Cs):Prop:=c.parts.length≤12∧c.ware.size≤100∧∀p∈c.parts,p.sherds.length≤60∧p.rests.length≤250
def upto (n:Nat)(p:Nat→Bool):Bool:=(List.range n).all p
theorem upto_true {n:Nat}{p:Nat→Bool}(h:∀k,k<n→p k=true):upto n p=true:=by simp[upto];exact h
theorem upto_false {n:Nat}{p:Nat→Bool}{k:Nat}(hk:k<n)(h:p k=false):upto n p=false:=by
 simp only[upto,List.all_eq_false,List.mem_range];exact⟨k,hk,by simp[h]⟩
theorem upto_iff {n:Nat}{p:Nat→Bool}:upto n p=true↔∀k,k<n→p k=true:=by simp[upto]
theorem all_step {p:Nat→Bool}{k:Nat}(h:∀j,j<k→p j=true)(hk:p k=true):∀j,j<k+1→p j=true:=fun j hj=>by
 rcases Nat.lt_or_ge j k with h1|h1
 ·exact h j h1
 ·have:j=k:=by omega
  subst this;exact hk
theorem all_none {p:Nat→Bool}:∀j,j<0→p j=true:=fun j hj=>absurd hj (Nat.not_lt_zero j)
def inB (a b c:Int):Bool:=decide (b≤a∧a≤c)
def byB (n:Int)(f:Bool):Bool:=inB n 0 1000000&&(f||n==0)
def idAt (l:List Int)(k:Nat):Bool:=inB (l[k]?.getD 0) 1 1000000&&(k==0||decide (l[k-1]?.getD 0<l[k]?.getD 0))
def idsB (l:List Int):Bool:=upto l.length (idAt l)
theorem idAt_zero {l:List Int}{x:Int}(hx:l[0]?=some x):idAt l 0=inB x 1 1000000:=by simp[idAt,hx]
theorem idAt_succ {l:List Int}{k:Nat}{x y:Int}(hx:l[k+1]?=some x)(hy:l[k]?=some y):idAt l (k+1)=(inB x 1 1000000&&decide (y<x)):=by simp[idAt,hx,hy]
def okSpn (s:Spn):Bool:=decide (0≤s.low)&&decide (s.low≤s.high)&&decide (s.high≤1000)
def isPartB (p:Prt):Bool:=
 inB p.sherds.length 1 40&&idsB p.sherds&&decide ((p.rests.length:Int)≤200)&&idsB p.rests&&okSpn p.span &&
 byB p.span.lowBy (decide (0<p.span.low))&&byB p.span.highBy (decide (p.span.high<1000))&&byB p.footBy p.foot
def nameByte (c:UInt8):Bool:=(decide (97≤c.toNat)&&decide (c.toNat≤122))||(decide (48≤c.toNat)&&decide (c.toNat≤57))||c.toNat==45
def isNameB (s:ByteArray):Bool:=
 inB s.size 1 24&&(decide (97≤(s.data.toList[0]?.getD 0).toNat)&&decide ((s.data.toList[0]?.getD 0).toNat≤122))&&s.data.toList.all nameByte
def noDup (l:List Int):Bool:=decide l.Nodup
theorem noDup_snoc (l:List Int)(x:Int):noDup (l++[x])=(noDup l && !l.contains x):=by
 have:(l++[x]).Nodup↔l.Nodup∧¬x∈l:=by
  rw[List.nodup_append];constructor
  ·rintro⟨h1,_,h3⟩;exact⟨h1,fun hx=>h3 x hx x zS rfl⟩
  ·rintro⟨h1,h2⟩;refine⟨h1,by simp,fun a ha b hb=>?_⟩;simp at hb;subst hb;exact fun e=>h2 (e▸ha)
 rw[Bool.eq_iff_iff]
 simp[noDup,this]
theorem noDup_app {l r:List Int}(h:noDup (l++r)=true):noDup l=true:=by
 simp[noDup] at h ⊢
 exact(List.nodup_append.1 h).1
def allIds (l:List Prt):List Int:=l.flatMap (·.sherds)
theorem allIds_snoc (l:List Prt)(p:Prt):allIds (l++[p])=allIds l++p.sherds:=by simp[allIds]
theorem allIds_len (n:Nat):∀(l:List Prt),(∀p∈l,p.sherds.length≤n)→(allIds l).length≤n*l.length
 |[],_=>by simp[allIds]
 |p::l,h=>by
  have h1:=allIds_len n l (fun q hq=>h q (by simp[hq]));have h2:=h p zS;have e:allIds (p::l)=p.sherds++allIds l:=by simp[allIds]
  rw[e,List.length_append,List.length_cons,Nat.mul_add]
  omega
def ok0 (c:Cs):Bool:=isNameB c.ware&&inB c.limit 0 40&&byB c.by_ (decide (0<c.limit))
def okCase (c:Cs):Bool:=ok0 c&&c.parts.all isPartB&&noDup (allIds c.parts)
def checkCase (c:Cs):Int:=if 8<c.parts.length then 70 else if okCase c then 0 else 1
theorem take_snoc {α:Type}{l:List α}{k:Nat}{x:α}(h:l[k]?=some x):l.take (k+1)=l.take k++[x]:=by
 obtain⟨hk,rfl⟩:=List.getElem?_eq_some_iff.1 h;rw[List.take_succ_eq_append_getElem hk]
theorem ids_in {l:List Int}(h:idsB l=true):∀x∈l,1≤x∧x≤1000000:=by
 intro x hx;obtain⟨j,hj,e⟩:=List.getElem_of_mem hx;have:=upto_iff.1 h j hj
 simp[idAt,hj,e,inB] at this
 exact this.1
theorem part_ids {p:Prt}(h:isPartB p=true):∀x∈p.sherds,1≤x∧x≤1000000:=by
 refine ids_in ?_
 simp[isPartB] at h
 exact h.1.1.1.1.1.1.2
theorem check_false {c:Cs}{k:Nat}{p:Prt}(h8:¬8<c.parts.length)(hp:c.parts[k]?=some p)(h:isPartB p=false):checkCase c=1:=by
 have:okCase c=false:=by
  rw[Bool.eq_false_iff];intro hh;simp only[okCase,Bool.and_eq_true,List.all_eq_true] at hh;have:=hh.1.2 p (List.mem_of_getElem? hp);rw[h] at this;cases this
 simp[checkCase,h8,this]
theorem check_dup {c:Cs}{k:Nat}(h8:¬8<c.parts.length)(h:(ok0 c&&noDup (allIds (c.parts.take k)))=false):checkCase c=1:=by
 have:okCase c=false:=by
  rw[Bool.eq_false_iff];intro hh;simp only[okCase,Bool.and_eq_true] at hh;have e:allIds c.parts=allIds (c.parts.take k)++allIds (c.parts.drop k):=by
   simp only[allIds,←List.flatMap_append,List.take_append_drop]
  have:=noDup_app (e▸hh.2)
  simp[hh.1.1,this] at h
 simp[checkCase,h8,this]
theorem check_end {c:Cs}{b:Bool}(h8:¬8<c.parts.length)(hb:b=(ok0 c&&noDup (allIds c.parts)))(h:∀j p,j<c.parts.length→c.parts[j]?=some p→isPartB p=true):
 checkCase c=if b then 0 else 1:=by
 have ha:c.parts.all isPartB=true:=by
  rw[List.all_eq_true];intro p hp;obtain⟨j,hj,e⟩:=List.getElem_of_mem hp;exact h j p hj (by simp[hj,e])
 rw[hb,checkCase,if_neg h8,okCase,ha];simp
theorem check_ok {c:Cs}{k:Nat}(h8:¬8<c.parts.length)(hk:¬k<c.parts.length)(hb:true=(ok0 c&&noDup (allIds (c.parts.take k))))(h:∀(j:Nat) p,j<k→c.parts[j]?=some p→isPartB p=true):checkCase c=0:=by
 rw[List.take_of_length_le zO] at hb;rw[check_end h8 hb (fun j p hj=>h j p zO)];rfl
theorem parts_step {l:List Prt}{k:Nat}{p:Prt}(hp:l[k]?=some p)(h:isPartB p=true)(hall:∀(j:Nat) q,j<k→l[j]?=some q→isPartB q=true):
 ∀(j:Nat) q,j<k+1→l[j]?=some q→isPartB q=true:=fun j q hj hq=>by
 rcases Nat.lt_or_ge j k with h1|h1
 ·exact hall j q h1 hq
 ·have:j=k:=by omega
  subst this;rw[hp] at hq;cases hq;exact h
def feetB (f g:Bool):Bool:=f&&g
def clashP (x y:Nat)(p q:Prt):Bool:=x != y&&(feetB p.foot q.foot||decide (q.span.high<p.span.low)||decide (p.span.high<q.span.low))
def clashB (c:Cs)(x y:Nat):Bool:=match c.parts[x]?,c.parts[y]? with|some p,some q=>clashP x y p q|_,_=>false
theorem clashB_eq {c:Cs}{x y:Nat}{p q:Prt}(hp:c.parts[x]?=some p)(hq:c.parts[y]?=some q):clashB c x y=clashP x y p q:=by simp[clashB,hp,hq]
def limB (c:Cs)(v:Nat):Bool:=decide (c.limit≤0)||decide ((v:Int)<c.limit)
def noClash (c:Cs)(pre:List Nat)(v:Nat):Bool:=upto pre.length fun q=>!(pre[q]?.getD 0==v&&clashB c pre.length q)
def freeB (c:Cs)(pre:List Nat)(v:Nat):Bool:=limB c v&&noClash c pre v
def manyOf (pre:List Nat):Nat:=pre.foldl (fun m v=>max m (v+1)) 0
def allGo (c:Cs):Nat→List Nat→List (List Nat)
 |0,pre=>[pre]
 |r+1,pre=>(List.range (manyOf pre+1)).flatMap fun v=>if freeB c pre v then allGo c r (pre++[v]) else []
def allR (c:Cs):List (List Nat):=allGo c c.parts.length []
def yields (c:Cs)(r:Nat)(pre:List Nat)(k:Nat):List (List Nat):=(List.range k).flatMap fun v=>if freeB c pre v then allGo c r (pre++[v]) else []
theorem manyOf_snoc (pre:List Nat)(v:Nat):manyOf (pre++[v])=max (manyOf pre) (v+1):=by simp[manyOf,List.foldl_append]
theorem yields_zero (c:Cs)(r:Nat)(pre:List Nat):yields c r pre 0=[]:=rfl
theorem yields_succ (c:Cs)(r:Nat)(pre:List Nat)(k:Nat):yields c r pre (k+1)=yields c r pre k++(if freeB c pre k then allGo c r (pre++[k]) else []):=by
 simp[yields,List.range_succ,List.flatMap_append]
theorem yields_all (c:Cs)(r:Nat)(pre:List Nat):yields c r pre (manyOf pre+1)=allGo c (r+1) pre:=rfl
theorem yields_le (c:Cs)(r:Nat)(pre:List Nat){k m:Nat}(h:k≤m):yields c r pre k <+: yields c r pre m:=by
 obtain⟨d,rfl⟩:=Nat.exists_eq_add_of_le h
 induction d with
 |zero=>exact List.prefix_rfl
 |succ d ih=>exact(ih zO).trans (by rw[←Nat.add_assoc,yields_succ];exact List.prefix_append _ _)
theorem yields_stop (c:Cs)(r:Nat)(pre:List Nat){k:Nat}(h:limB c k=false):∀{m:Nat},k≤m→yields c r pre m=yields c r pre k:=by
 intro m hm;obtain⟨d,rfl⟩:=Nat.exists_eq_add_of_le hm
 induction d with
 |zero=>rfl
 |succ d ih=>
  rw[←Nat.add_assoc,yields_succ,ih zO];have:freeB c pre (k+d)=false:=by
   have:limB c (k+d)=false:=by simp[limB] at h ⊢;omega
   simp[freeB,this]
  simp[this]
theorem in_any (a b c:Int)(w:World):
 Calls Tryz.prog 188 #[.int .i64 a,.int .i64 b,.int .i64 c] w fun e w'=>e = .returned (.bool (inB a b c))∧w=w':=by
 go_enter Tryz.func188,Tryz.ntmps188
 go_wp2
 all_goals (go_ret;refine⟨?_,rfl⟩;unfold inB;congr 2;simp;omega)
theorem by_any (n:Int)(f:Bool)(w:World):
 Calls Tryz.prog 189 #[.int .i64 n,.bool f] w fun e w'=>e = .returned (.bool (byB n f))∧w=w':=by
 go_enter Tryz.func189,Tryz.ntmps189
 go_wp2_with (go_at_call 188;refine(in_any _ _ _ _).mono ?_;rintro e w' ⟨rfl,rfl⟩)
 all_goals (go_ret;exact⟨by simp[byB, *],rfl⟩)
theorem ids_any (a:Option Addr)(c:Nat)(l:List Int)(w:World)(h:Ints w a l)(hl:l.length≤1000000):
 Calls Tryz.prog 213 #[.slice a l.length c] w fun e w'=>e = .returned (.bool (idsB l))∧w=w':=by
 go_enter Tryz.func213,Tryz.ntmps213
 go_wp2
 go_loop [3,4,7] (fun _ _ i=>∃k:Nat,k≤l.length∧i = .int .i64 k∧∀j,j<k→idAt l j=true) (fun _ _ i=>l.length-(intOf i).toNat)
 case atStart=>exact⟨0,Nat.zero_le _,rfl,all_none⟩
 case round=>
  obtain⟨k,hk,rfl,hall⟩:=hrel;have HA:=zh hall;clear hall
  by_cases hlt:k<l.length
  ·obtain⟨b,o,rfl,hb⟩:=h.base zO;obtain⟨x,hx⟩:=get_of_lt l hlt;have hc:=hb _ _ hx
   rcases k with _|k
   ·simp only[Nat.add_zero] at hc;have HX:=zh hx;clear hx hb
    go_wp2_with (go_at_call 188;refine(in_any _ _ _ _).mono ?_;rintro e w' ⟨rfl,rfl⟩)
    ·exact⟨⟨1,zO,rfl,all_step HA.out (by rw[idAt_zero HX.out];assumption)⟩,by simp[intOf];omega⟩
    ·go_ret
     exact⟨ret_bool (upto_false hlt (by rw[idAt_zero HX.out];simp[*])).symm,rfl⟩
   ·obtain⟨y,hy⟩:=get_of_lt l (k:=k) zO;have hc':=hb _ _ hy;have HX:=zh hx;have HY:=zh hy;clear hx hy hb
    go_wp2_with (go_at_call 188;refine(in_any _ _ _ _).mono ?_;rintro e w' ⟨rfl,rfl⟩)
    ·go_ret
     exact⟨ret_bool (upto_false hlt (by rw[idAt_succ HX.out HY.out];simp[*])).symm,rfl⟩
    ·exact⟨⟨k+2,zO,zN,all_step HA.out (by rw[idAt_succ HX.out HY.out];simp[*])⟩,by simp[intOf];omega⟩
    ·go_ret
     exact⟨ret_bool (upto_false hlt (by rw[idAt_succ HX.out HY.out];simp[*])).symm,rfl⟩
  ·go_wp2
   go_ret
   exact⟨ret_bool (by rw[idsB,upto_true (fun j hj=>HA.out j zO)]),rfl⟩
def badByte (c:UInt8):Bool:=!nameByte c
theorem nameFn_any (c:UInt8)(w:World):
 Calls Tryz.prog 212 #[.int .u8 c.toNat] w fun e w'=>e = .returned (.bool (badByte c))∧w=w':=by
 go_enter Tryz.func212,Tryz.ntmps212
 go_wp2
 all_goals go_ret
 all_goals (refine⟨ret_bool ?_,rfl⟩;rw[Bool.eq_iff_iff];simp[badByte,nameByte];omega)
def IndexPost (l:List UInt8)(w:World)(e:Ending)(w':World):Prop:=
 (if l.all nameByte then e = .returned (.int .i64 (-1)) else ∃k:Nat,e = .returned (.int .i64 k))∧w=w'
theorem all_of_upto {l:List UInt8}(h:∀(j:Nat) x,j<l.length→l[j]?=some x→nameByte x=true):l.all nameByte=true:=by
 rw[List.all_eq_true];intro x hx;obtain⟨j,hj,e⟩:=List.getElem_of_mem hx;exact h j x hj (by simp[hj,e])
theorem not_all_of {l:List UInt8}{j:Nat}{x:UInt8}(h:l[j]?=some x)(hx:nameByte x=false):¬l.all nameByte=true:=by
 rw[List.all_eq_true];intro hh;have:=hh x (List.mem_of_getElem? h);rw[hx] at this;cases this
theorem indexFn_any (a:Option Addr)(c:Nat)(l:List UInt8)(w:World)(h:Bytes w a l)(hl:l.length≤1000000):
 Calls Tryz.prog 227 #[.slice a l.length c,.func (.func 212) #[] #[]] w (IndexPost l w):=by
 go_enter Tryz.func227,Tryz.ntmps227
 go_wp2
 go_loop [5,8] (fun _ i=>∃k:Nat,k≤l.length∧i = .int .i64 k∧∀(j:Nat) x,j<k→l[j]?=some x→nameByte x=true) (fun _ i=>l.length-(intOf i).toNat)
 case atStart=>exact⟨0,Nat.zero_le _,rfl,fun j _ hj=>absurd hj (Nat.not_lt_zero j)⟩
 case round=>
  obtain⟨k,hk,rfl,hall⟩:=hrel;have HA:=zh hall;clear hall
  by_cases hlt:k<l.length
  ·obtain⟨b,o,x,rfl,hx,hc⟩:=h.at_ hlt;have HX:=zh hx;clear hx
   go_wp2_with (go_at_call 212;refine(nameFn_any _ _).mono ?_;rintro e w' ⟨rfl,rfl⟩)
   ·have hb:badByte x=true:=by assumption
    go_ret
    refine⟨?_,rfl⟩;rw[if_neg (not_all_of HX.out (by simpa[badByte] using hb))];exact⟨k,rfl⟩
   ·have hb:badByte x=false:=by assumption
    refine⟨⟨k+1,zO,zN,fun j y hj hy=>?_⟩,by simp[intOf];omega⟩
    rcases Nat.lt_or_ge j k with h1|h1
    ·exact HA.out j y h1 hy
    ·have:j=k:=by omega
     subst this;rw[HX.out] at hy;cases hy
     simpa[badByte] using hb
  ·go_wp2
   go_ret
   refine⟨?_,rfl⟩;rw[if_pos (all_of_upto fun j x hj hx=>HA.out j x zO hx)]
   rfl
theorem containsFn_any (a:Option Addr)(c:Nat)(l:List UInt8)(w:World)(h:Bytes w a l)(hl:l.length≤1000000):
 Calls Tryz.prog 211 #[.slice a l.length c,.func (.func 212) #[] #[]] w fun e w'=>e = .returned (.bool (!l.all nameByte))∧w=w':=by
 have hi:=indexFn_any a c l w h hl;unfold IndexPost at hi
 by_cases ha:l.all nameByte=true
 ·simp only[ha,if_true] at hi;have HI:=zh hi;have HB:=zh ha;clear hi ha
  go_enter Tryz.func211,Tryz.ntmps211
  go_wp2_with (go_at_call 227;refine HI.out.mono ?_;rintro e w' ⟨rfl,rfl⟩)
  go_ret
  exact⟨ret_bool (by rw[HB.out];rfl),rfl⟩
 ·simp only[ha] at hi;have HI:=zh hi;have HB:=zh ha;clear hi ha
  go_enter Tryz.func211,Tryz.ntmps211
  go_wp2_with (go_at_call 227;refine HI.out.mono ?_;rintro e w' ⟨⟨k,rfl⟩,rfl⟩)
  go_ret
  exact⟨ret_bool (by simp[HB.out]),rfl⟩
theorem conv_any (s:ByteArray)(w:World):∃cap W',(convert 9 187 (.string s)).run Tryz.prog w = .ok (.slice (some ⟨w.heap.size,0,none⟩) s.size cap) W' ∧
 Bytes W' (some ⟨w.heap.size,0,none⟩) s.data.toList∧Below w.heap.size w W':=by
 have h:=Lib.run_convert_string_bytes (P:=Tryz.prog) w 9 187 5 s Tryz.underlying9 Tryz.underlying187 Tryz.underlying5;refine⟨_,_,h,fun k v hv=>?_,⟨?_,?_,?_,by rw[Lib.bytesWorld_size];omega,fun k hk=>Lib.bytesWorld_at_old w 5 s k hk⟩⟩
 ·refine⟨_,_,rfl,?_⟩;rw[List.getElem?_map] at hv;cases hx:s.data.toList[k]? with
  |none=>rw[hx] at hv;cases hv
  |some x=>
   rw[hx] at hv;cases hv;have hk:k<s.size:=by
    have:=(List.getElem?_eq_some_iff.1 hx).1
    simpa using this
   rw[Nat.zero_add,Lib.bytesWorld_cell w 5 s k hk];simp only[List.getD,hx,Option.getD_some]
 all_goals (simp only[Lib.bytesWorld,World.freeze];split<;>rfl)
theorem name_head (s:ByteArray)(h:0<s.size):s.data.toList[0]?.getD 0=s[0]:=by
 have:s.data.toList[0]?=some s[0]:=by simp[ByteArray.getElem_eq_getElem_data,h]
 rw[this];rfl
theorem isName_any (s:ByteArray)(w:World)(hs:s.size≤1000):
 Calls Tryz.prog 187 #[.string s] w fun e w'=>e = .returned (.bool (isNameB s))∧Below w.heap.size w w':=by
 by_cases h0:inB s.size 1 24=true
 ·have hp:0<s.size:=by simp[inB] at h0;omega
  obtain⟨cap,W',hc,hb,hw⟩:=conv_any s w;have HB:=zh hb;have HW:=zh hw;have HH:=zh (name_head s hp);have hl:s.data.toList.length=s.size:=by simp
  have hk:=containsFn_any _ cap _ W' hb zO;rw[hl] at hk;have HK:=zh hk;clear hb hw hl hk
  go_enter Tryz.func187,Tryz.ntmps187
  go_wp2_with (first
   |(go_at_call 188;refine(in_any _ _ _ _).mono ?_;rintro e w' ⟨rfl,rfl⟩)
   |(go_at_call 211;refine HK.out.mono ?_;rintro e w' ⟨rfl,rfl⟩))
  all_goals go_ret
  ·refine⟨ret_bool ?_,Below.refl _ _⟩;rw[isNameB,HH.out]
   simp;omega
  ·refine⟨ret_bool ?_,HW.out⟩;rw[isNameB,HH.out]
   simp[*];intro _;omega
  ·refine⟨ret_bool ?_,Below.refl _ _⟩;rw[isNameB,HH.out]
   simp[*];intros;omega
 ·go_enter Tryz.func187,Tryz.ntmps187
  go_wp2_with (go_at_call 188;refine(in_any _ _ _ _).mono ?_;rintro e w' ⟨rfl,rfl⟩)
  go_ret
  exact⟨ret_bool (by simp[isNameB,h0]),Below.refl _ _⟩
theorem isPart_any (v:Prt)(sa ra:Option Addr)(sc rc:Nat)(w:World)(hs:Ints w sa v.sherds)(hr:Ints w ra v.rests)(h1:v.sherds.length≤1000)(h2:v.rests.length≤1000):
 Calls Tryz.prog 190 #[.agg #[.slice sa v.sherds.length sc,.int .i64 v.span.low,.int .i64 v.span.high,.int .i64 v.span.lowBy,.int .i64 v.span.highBy,.bool v.foot,.int .i64 v.footBy,.slice ra v.rests.length rc]] w fun e w'=>e = .returned (.bool (isPartB v))∧Below w.heap.size w w':=by
 obtain⟨ss,⟨lo,hi,lb,hb⟩,ft,fb,rs⟩:=v;dsimp only at *;have HS:=zh hs;have HR:=zh hr;clear hs hr
 go_enter Tryz.func190,Tryz.ntmps190
 go_wp2_with (first
  |(go_at_call 188;refine(in_any _ _ _ _).mono ?_;rintro e w' ⟨rfl,rfl⟩)
  |(go_at_call 189;refine(by_any _ _ _).mono ?_;rintro e w' ⟨rfl,rfl⟩)
  |(go_at_call 213;(with_reducible refine(ids_any sa sc ss _ (HS.out.below (by go_grown)) zO).mono ?_);rintro e w' ⟨rfl,rfl⟩)
  |(go_at_call 213;(with_reducible refine(ids_any ra rc rs _ (HR.out.below (by go_grown)) zO).mono ?_);rintro e w' ⟨rfl,rfl⟩))
 all_goals (go_ret;refine⟨ret_bool ?_,by go_grown⟩)
 ·have h3:hi≤1000→False:=fun h=>by omega
  simp[isPartB,okSpn, *];intros;omega
 all_goals (simp[isPartB,okSpn, *];try omega)
section
structure Keep (K:Nat→Prop) (W W':World):Prop where
 os:W'.os=W.os
 tape:W'.tape=W.tape
 output:W'.output=W.output
 size:W.heap.size≤W'.heap.size
 block:∀k,K k→k<W.heap.size→W'.heap[k]?=W.heap[k]?
theorem Keep.refl (K:Nat→Prop)(W:World):Keep K W W:=⟨rfl,rfl,rfl,Nat.le_refl _,fun _ _ _=>rfl⟩
theorem Keep.trans {K:Nat→Prop}{A B C:World}(h:Keep K A B)(k:Keep K B C):Keep K A C:=
 ⟨k.os.trans h.os,k.tape.trans h.tape,k.output.trans h.output,Nat.le_trans h.size k.size,fun i hi hl=>(k.block i hi (Nat.lt_of_lt_of_le hl h.size)).trans (h.block i hi hl)⟩
theorem Keep.mono {K K':Nat→Prop}{A B:World}(h:Keep K A B)(hk:∀i,K' i→K i):Keep K' A B:=⟨h.os,h.tape,h.output,h.size,fun i hi hl=>h.block i (hk i hi) hl⟩
theorem Keep.of_below {K:Nat→Prop}{B:Nat}{A C:World}(h:Below B A C)(hk:∀i,K i→i<A.heap.size→i<B):Keep K A C:=⟨h.os,h.tape,h.output,h.size,fun i hi hl=>h.block i (hk i hi hl)⟩
theorem Keep.of_below' {K:Nat→Prop}{A C:World}(h:Below A.heap.size A C):Keep K A C:=Keep.of_below h fun _ _ hl=>hl
theorem Keep.below {B:Nat}{A C:World}(h:Keep (fun k=>k<B) A C)(hB:B≤A.heap.size):Below B A C:=⟨h.os,h.tape,h.output,h.size,fun k hk=>h.block k hk zO⟩
theorem Keep.alloc {K:Nat→Prop}{A B:World}(h:Keep K A B)(o:Obj):Keep K A (B.alloc o):=h.trans (Keep.of_below' ((Below.refl _ B).alloc (Nat.le_refl _) o))
theorem Keep.drew {K:Nat→Prop}{A B:World}(h:Keep K A B):Keep K A B.drew:=⟨h.os,h.tape,h.output,h.size,h.block⟩
theorem Keep.setCell {K:Nat→Prop}{A B:World}(h:Keep K A B){p:Addr}(hp:¬K p.block∨A.heap.size≤p.block)(u:Value):Keep K A (B.setCell p u):=
 ⟨h.os,h.tape,h.output,by simpa[World.setCell] using h.size,fun k hk hl=>(Below.heap_setCell B p u k (fun e=>by subst e;rcases hp with hp|hp;exact hp hk;omega)).trans (h.block k hk hl)⟩
theorem Keep.grown {K:Nat→Prop}{A B C:World}{row:Option Nat}(h:Keep K A B)(hg:B.grownBy C row)(hr:∀k,row=some k→¬K k∨A.heap.size≤k):Keep K A C:=
 ⟨hg.os.trans h.os,hg.tape.trans h.tape,hg.output.trans h.output,Nat.le_trans h.size hg.size,fun k hk hl=>
  (hg.block k (Nat.lt_of_lt_of_le hl h.size) (fun e=>by rcases hr k e.symm with h1|h1;exact h1 hk;omega)).trans (h.block k hk hl)⟩
theorem Keep.putObj {K:Nat→Prop}{A B:World}(h:Keep K A B){r:Nat}(hr:¬K r)(o:Obj):Keep K A (B.putObj r o):=
 ⟨h.os,h.tape,h.output,by simpa using h.size,fun k hk hl=>(World.putObj_heap_other (fun e=>by subst e;exact hr hk)).trans (h.block k hk hl)⟩
theorem Keep.cell {K:Nat→Prop}{A B:World}(h:Keep K A B){b o:Nat}{v:Value}(hK:K b)(hc:A.cell? ⟨b,o,none⟩=some v):B.cell? ⟨b,o,none⟩=some v:=by
 have hl:b<A.heap.size:=by
  rcases Nat.lt_or_ge b A.heap.size with h0|h0
  ·exact h0
  ·simp[World.cell?,Array.getElem?_eq_none h0] at hc
 exact(World.cell?_of_block (w:=A) (a:=⟨b,o,none⟩) (h.block b hK hl)).trans hc
theorem Keep.heap {K:Nat→Prop}{A B:World}(h:Keep K A B){b:Nat}{o:Obj}(hK:K b)(hc:A.heap[b]?=some o):B.heap[b]?=some o:=(h.block b hK (Array.getElem?_eq_some_iff.1 hc).1).trans hc
@[go_sem] theorem wide_depth:Fence.wide.depth=none:=rfl
@[go_sem] theorem wide_fn (f:Nat):Fence.wide.fn f=True:=rfl
/-! a scope without a goto,inside a fence -/
theorem stepR_scope {P:Program}{b:Frame}{a:Act}{k:List Item}{cs:List Frame}{w:World}{c:Code}:step P (lone (b.atR a (.code (.scope c)::k)) cs w) = .next (lone (b.atR a (.code c :: .inScope c::k)) cs w):=
 step_lone_go (by simp[stepG,stepG.exec,Frame.atR])
theorem stepR_inScope {P:Program}{b:Frame}{a:Act}{k:List Item}{cs:List Frame}{w:World}{c:Code}:step P (lone (b.atR a (.inScope c::k)) cs w) = .next (lone (b.atR a k) cs w):=
 step_lone_go (by simp[stepG,stepG.exec,Frame.atR])
theorem wpIn_scope {P:Program}{F:Fence}{n:Nat}{Q:Exit→Act→World→Prop}{a:Act}{w:World}{c:Code}(h:c.wpIn F n P (Exit.noGoto Q) a w):(Code.scope c).wpIn F n P Q a w:=by
 intro b k cs hro hb hr;have h0:(lone (b.atR a (.code (.scope c)::k)) cs w).fenced P F:=fenced_calm hb hr rfl;obtain⟨e,a₁,w₁,hq,harr⟩:=h b (.inScope c::k) cs hro hb hr;cases e with
 |normal=>exact⟨.normal,a₁,w₁,hq,.head h0 stepR_scope (StepsIn.trans harr (.one (fenced_calm hb hr rfl) stepR_inScope))⟩
 |exit id=>
  have hx:exitTo id (.inScope c::k)=exitTo id k:=by simp[exitTo]
  exact⟨.exit id,a₁,w₁,hq,fun k' hk=>.head h0 stepR_scope (harr.1 k' (by rw[hx];exact hk)),
   fun hr' hk=>let ⟨k₁,h1,h2⟩:=harr.2 hr' (by rw[hx];exact hk);⟨k₁,h1,.head h0 stepR_scope h2⟩⟩
 |goto l=>exact hq.elim
 |ret=>exact⟨_,a₁,w₁,hq,.of_steps (.one h0 stepR_scope) harr⟩
 |panic ch=>exact⟨_,a₁,w₁,hq,.of_steps (.one h0 stepR_scope) harr⟩
 |outgrown=>exact⟨_,a₁,w₁,hq,.of_steps (.one h0 stepR_scope) harr⟩
variable {P:Program}
def Gives {α:Type}(P:Program)(gf:Nat)(lb:Array Value)(Z:Nat→Prop)(n0:Nat)(Rd:α→Array Value→World→Prop)(xs:List α)(W:World):Prop:=
 ∀(l:Nat) (J Jx:List α→World→Prop),(∀s A B,J s A→Keep (fun k=>¬Z k) A B→J s B)→(∀s A B,Jx s A→Keep (fun k=>¬Z k) A B→Jx s B) →
  (∀pre x args W1,J pre W1→Rd x args W1→(pre++[x]) <+: xs→YieldAt Fence.wide 0 P l args W1 fun e W'=>
   (e = .returned (.bool true)∧J (pre++[x]) W'∧Keep (fun k=>k<n0∨Z k) W1 W')∨(e = .returned (.bool false)∧Jx (pre++[x]) W')) →
  J [] W →
  CallsIn Fence.wide 0 P gf (#[.func (.yield l) #[] #[]]++lb) W fun e W'=>(∃v,e = .returned v)∧(J xs W'∨∃pre,pre <+: xs∧Jx pre W')
def roundEnds {α:Type}(K:Nat→Prop)(I:List α→World→Prop)(Ix:Code→List α→World→Prop)(xs:List α)(W:World):Exit→Act→World→Prop
 |.normal,_,W'=>Keep K W W'∧I xs W'
 |.ret,_,W'=>Keep K W W'∧Ix .ret xs W'
 |.exit id,_,W'=>Keep K W W'∧Ix (.exit id) xs W'
 |.goto t,_,W'=>Keep K W W'∧Ix (.goto t) xs W'
 |.panic _,_,_=>False
 |.outgrown,_,_=>False
theorem wpIn_range {α:Type}{g:Operand}{ps:Array Tmp}{assign body:Code}{Q:Exit→Act→World→Prop}{a:Act}{w:World}
 {gf:Nat} {lb:Array Value} (hg:a.eval g = .func (.func gf) #[] lb) (eg:∀args w,(callFunc gf args).run P w = .ok (.enter gf args) w)
 {Z:Nat→Prop} {n0:Nat} {Rd:α→Array Value→World→Prop} {xs:List α} (hgives:∀o1 o2:Obj,Gives P gf lb Z n0 Rd xs ((w.alloc o1).alloc o2))
 (hZ:∀k,Z k→k≠w.heap.size∧k≠w.heap.size+1) (hn0:n0≤w.heap.size)
 (hps:∀x args W,Rd x args W→args.size=ps.size) (hRd:∀x args A B,Rd x args A→Keep (fun k=>k≠w.heap.size∧k≠w.heap.size+1) A B→Rd x args B)
 (I:List α→World→Prop) (Ix:Code→List α→World→Prop)
 (hI:∀s A B,I s A→Keep (fun k=>¬Z k∧k≠w.heap.size∧k≠w.heap.size+1) A B→I s B)
 (hIx:∀c s A B,Ix c s A→Keep (fun k=>¬Z k∧k≠w.heap.size∧k≠w.heap.size+1) A B→Ix c s B)
 (h0:I [] w) (a₁:Array Value→Act)
 (hassign:∀(l:Nat) (x:α) (args:Array Value) (W:World) (K:Act→World→Prop),Rd x args W→K (a₁ args) W →
  assign.wpIn (Fence.wide.inRound l) 0 P (Exit.then K (fun _ _ _=>False)) {tmps:=(ps.zip args).foldl (fun t (p,v)=>t.setIfInBounds p v) a.tmps,defers:=[]} W)
 (hbody:∀(l:Nat) (pre:List α) (x:α) (args:Array Value) (W:World),I pre W→Rd x args W→(pre++[x]) <+: xs→w.heap.size+1<W.heap.size →
  body.wpIn (Fence.wide.inRound l) 0 P (roundEnds (fun k=>k<n0∨Z k∨k=w.heap.size∨k=w.heap.size+1) I Ix (pre++[x]) W) (a₁ args) W)
 (hdone:∀(W:World),I xs W→W.heap[w.heap.size]?=some (.deferred (some []))→Q .normal {a with defers:={target:=.collected w.heap.size,args:=#[]}::a.defers} W)
 (hstop:∀(c:Code) (pre:List α) (W:World),pre <+: xs→Ix c pre W→W.heap[w.heap.size]?=some (.deferred (some []))→c.wpIn Fence.wide 0 P Q {a with defers:={target:=.collected w.heap.size,args:=#[]}::a.defers} W):
 (Code.rangeFunc g ps assign body).wpIn Fence.wide 0 P Q a w:=by
 refine wpIn_rangeFunc ?_;intro fn hfn;obtain⟨rec,hrec⟩:∃rec:LoopState→Option Code→Loop,rec=fun st pe=>{state:=st,pending:=pe,fn,tmps:=a.tmps,params:=ps,assign,body,defers:=w.heap.size}:=⟨_,rfl⟩
 obtain⟨W1,hW1⟩:=zx ((w.alloc (.deferred (some []))).alloc (.loop (rec .ready none)));have hgv:=hgives (.deferred (some [])) (.loop (rec .ready none));rw[hW1] at hgv;have hL1:W1.heap[w.heap.size+1]?=some (.loop (rec .ready none)):=by
  rw[←hW1];have:=World.alloc_heap_new (w.alloc (.deferred (some []))) (.loop (rec .ready none));rwa [World.size_alloc] at this
 have hK1:W1.heap[w.heap.size]?=some (.deferred (some [])):=by
  rw[←hW1];exact(Below.heap_alloc _ _ _ zS).trans (World.alloc_heap_new w _)
 have hI1:I [] W1:=by
  rw[←hW1];exact hI [] w _ h0 (((Keep.refl _ w).alloc _).alloc _)
 refine⟨w.heap.size+1,[{target:=.collected w.heap.size,args:=#[]}],W1,{target:=.fn (.func gf) lb,args:=#[.func (.yield (w.heap.size+1)) #[] #[]]},W1,gf,
  #[.func (.yield (w.heap.size+1)) #[] #[]]++lb,W1,?_,?_,?_,?_,?_,?_⟩
 ·rw[←hW1,hrec];exact run_enterLoop_outer _ _ _ _ _
 ·simp only[resolve,hg]
  simp[go_sem]
 ·intro f' _;trivial
 ·simp[invoke,go_sem,eg]
 ·simp[Fence.wide]
 ·refine(hgv (w.heap.size+1)
   (fun pre W=>I pre W∧W.heap[w.heap.size+1]?=some (.loop (rec .ready none))∧W.heap[w.heap.size]?=some (.deferred (some [])))
   (fun pre W=>∃c,Ix c pre W∧W.heap[w.heap.size+1]?=some (.loop (rec .done (some c)))∧W.heap[w.heap.size]?=some (.deferred (some [])))
   (fun s A B hs hk=>⟨hI s A B hs.1 (hk.mono fun i hi=>hi.1),hk.heap (fun hz=>(hZ _ hz).2 rfl) hs.2.1,hk.heap (fun hz=>(hZ _ hz).1 rfl) hs.2.2⟩)
   (fun s A B hs hk=>by
    obtain⟨c,hc,hl,hd⟩:=hs;exact⟨c,hIx c s A B hc (hk.mono fun i hi=>hi.1),hk.heap (fun hz=>(hZ _ hz).2 rfl) hl,hk.heap (fun hz=>(hZ _ hz).1 rfl) hd⟩)
   ?_ ⟨hI1,hL1,hK1⟩).mono ?_
  ·-- one round
   rintro pre x args W ⟨hi,hl,hk⟩ hrd hpre;have hlt:w.heap.size+1<W.heap.size:=(Array.getElem?_eq_some_iff.1 hl).1;have hy:=run_yield (P:=P) (args:=args) hl (by rw[hrec];exact hps x args W hrd);rw[hrec] at hy;refine⟨fn,_,assign,body,hy,roundIn_of_wpIn hfn (hassign _ x args W _ hrd ⟨_,run_beginRound hl (by rw[hrec]),?_⟩)⟩;have hl2:(W.putObj (w.heap.size+1) (.loop {rec .ready none with state:=.busy})).heap[w.heap.size+1]?=some (.loop {rec .ready none with state:=.busy}):=World.putObj_heap_same hlt;have hk2:(W.putObj (w.heap.size+1) (.loop {rec .ready none with state:=.busy})).heap[w.heap.size]?=some (.deferred (some [])):=(World.putObj_heap_other zO).trans hk;have hI2:I pre (W.putObj (w.heap.size+1) (.loop {rec .ready none with state:=.busy})):=hI _ _ _ hi ((Keep.refl _ W).putObj (fun h=>h.2.2 rfl) _)
   have hR2:Rd x args (W.putObj (w.heap.size+1) (.loop {rec .ready none with state:=.busy})):=hRd _ _ _ _ hrd ((Keep.refl _ W).putObj (fun h=>h.2 rfl) _);refine wpIn_mono (hbody _ pre x args _ hI2 hR2 hpre (by simpa using hlt)) ?_
   -- the record behind the body,and behind endRound
   have fin:∀(jump:Option Code) (W3:World),Keep (fun k=>k<n0∨Z k∨k=w.heap.size∨k=w.heap.size+1) (W.putObj (w.heap.size+1) (.loop {rec .ready none with state:=.busy})) W3 →
    (Instr.endRound (w.heap.size+1) jump).run P W3 = .ok (.bool jump.isNone) (W3.putObj (w.heap.size+1) (.loop (rec (if jump.isNone then .ready else .done) jump))) ∧
    (W3.putObj (w.heap.size+1) (.loop (rec (if jump.isNone then .ready else .done) jump))).heap[w.heap.size+1]?=some (.loop (rec (if jump.isNone then .ready else .done) jump)) ∧
    (W3.putObj (w.heap.size+1) (.loop (rec (if jump.isNone then .ready else .done) jump))).heap[w.heap.size]?=some (.deferred (some [])):=fun jump W3 hk3=>by
    have hl3:=hk3.heap (.inr (.inr (.inr rfl))) hl2;have:=run_endRound (P:=P) jump hl3;rw[hrec] at this ⊢;exact⟨this,World.putObj_heap_same (Array.getElem?_eq_some_iff.1 hl3).1,(World.putObj_heap_other zO).trans (hk3.heap (.inr (.inr (.inl rfl))) hk2)⟩
   have put3:∀(W3:World) (o:Obj) (s:List α),I s W3→I s (W3.putObj (w.heap.size+1) o):=fun W3 o s hi3=>hI _ _ _ hi3 ((Keep.refl _ W3).putObj (fun h=>h.2.2 rfl) _)
   have put4:∀(c:Code) (W3:World) (o:Obj) (s:List α),Ix c s W3→Ix c s (W3.putObj (w.heap.size+1) o):=fun c W3 o s hi3=>hIx _ _ _ _ hi3 ((Keep.refl _ W3).putObj (fun h=>h.2.2 rfl) _)
   rintro e a3 W3 hp;cases e with
   |normal=>
    obtain⟨hk3,hi3⟩:=hp;obtain⟨hr,hl4,hk4⟩:=fin none W3 hk3;refine⟨_,_,hr,.inl ⟨rfl,⟨put3 _ _ _ hi3,hl4,hk4⟩,?_⟩⟩
    -- what the iterator relies on: everything but the record lies as it lay;n0 is below the record,Z does not hold it
    have h1:Keep (fun k=>k<n0∨Z k) W (W.putObj (w.heap.size+1) (.loop {rec .ready none with state:=.busy})):=(Keep.refl _ W).putObj (fun h=>by rcases h with h|h;omega;exact(hZ _ h).2 rfl) _;exact(h1.trans (hk3.mono fun i hi=>hi.elim .inl (fun h=>.inr (.inl h)))).putObj (fun h=>by rcases h with h|h;omega;exact(hZ _ h).2 rfl) _
   |ret=>
    obtain⟨hk3,hi3⟩:=hp;obtain⟨hr,hl4,hk4⟩:=fin (some .ret) W3 hk3;exact⟨_,_,hr,.inr ⟨rfl,.ret,put4 _ _ _ _ hi3,hl4,hk4⟩⟩
   |exit id=>
    obtain⟨hk3,hi3⟩:=hp;obtain⟨hr,hl4,hk4⟩:=fin (some (.exit id)) W3 hk3;exact⟨_,_,hr,.inr ⟨rfl,.exit id,put4 _ _ _ _ hi3,hl4,hk4⟩⟩
   |goto t=>
    obtain⟨hk3,hi3⟩:=hp;obtain⟨hr,hl4,hk4⟩:=fin (some (.goto t)) W3 hk3;exact⟨_,_,hr,.inr ⟨rfl,.goto t,put4 _ _ _ _ hi3,hl4,hk4⟩⟩
   |panic ch=>exact hp.elim
   |outgrown=>exact hp.elim
  ·-- behind the iterator
   rintro e W2 ⟨⟨v,rfl⟩,(⟨hi,hl,hk⟩|⟨pre,hpre,c,hi,hl,hk⟩)⟩
   ·exact⟨none,_,by have:=run_endLoop (P:=P) hl (by rw[hrec];simp);rw[hrec] at this;exact this,hdone _ (hI _ _ _ hi ((Keep.refl _ W2).putObj (fun h=>h.2.2 rfl) _)) ((World.putObj_heap_other zO).trans hk)⟩
   ·exact⟨some c,_,by have:=run_endLoop (P:=P) hl (by rw[hrec];simp);rw[hrec] at this;exact this,hstop c pre _ hpre (hIx _ _ _ _ hi ((Keep.refl _ W2).putObj (fun h=>h.2.2 rfl) _)) ((World.putObj_heap_other zO).trans hk)⟩
end
section
variable {P:Program}
theorem wpIn_range2 {α:Type}{g:Operand}{ps:Array Tmp}{assign body:Code}{Q:Exit→Act→World→Prop}{a:Act}{w:World}
 {gf:Nat} {lb:Array Value} (hg:a.eval g = .func (.func gf) #[] lb) (eg:∀args w,(callFunc gf args).run P w = .ok (.enter gf args) w)
 {Z:Nat→Prop} {n0:Nat} {Rd:α→Array Value→World→Prop} {xs:List α} (hgives:∀o1 o2:Obj,Gives P gf lb Z n0 Rd xs ((w.alloc o1).alloc o2))
 (hZ:∀k,Z k→k≠w.heap.size∧k≠w.heap.size+1) (hn0:n0≤w.heap.size)
 (hps:∀x args W,Rd x args W→args.size=ps.size)
 (I:List α→World→Prop) (Ix:Code→List α→World→Prop)
 (hI:∀s A B,I s A→Keep (fun k=>¬Z k∧k≠w.heap.size∧k≠w.heap.size+1) A B→I s B)
 (hIx:∀c s A B,Ix c s A→Keep (fun k=>¬Z k∧k≠w.heap.size∧k≠w.heap.size+1) A B→Ix c s B)
 (h0:I [] w) (As:α→Array Value→Act→World→Prop)
 (hAs:∀x args act A B,As x args act A→Keep (fun k=>k≠w.heap.size∧k≠w.heap.size+1) A B→As x args act B)
 (hassign:∀(l:Nat) (x:α) (args:Array Value) (W:World) (K:Act→World→Prop),Rd x args W→w.heap.size+1<W.heap.size→(∀act W',As x args act W'→Below W.heap.size W W'→K act W') →
  assign.wpIn (Fence.wide.inRound l) 0 P (Exit.then K (fun _ _ _=>False)) {tmps:=(ps.zip args).foldl (fun t (p,v)=>t.setIfInBounds p v) a.tmps,defers:=[]} W)
 (hbody:∀(l:Nat) (pre:List α) (x:α) (args:Array Value) (act:Act) (W:World),I pre W→As x args act W→(pre++[x]) <+: xs→w.heap.size+1<W.heap.size →
  body.wpIn (Fence.wide.inRound l) 0 P (roundEnds (fun k=>k<n0∨Z k∨k=w.heap.size∨k=w.heap.size+1) I Ix (pre++[x]) W) act W)
 (hdone:∀(W:World),I xs W→W.heap[w.heap.size]?=some (.deferred (some []))→Q .normal {a with defers:={target:=.collected w.heap.size,args:=#[]}::a.defers} W)
 (hstop:∀(c:Code) (pre:List α) (W:World),pre <+: xs→Ix c pre W→W.heap[w.heap.size]?=some (.deferred (some []))→c.wpIn Fence.wide 0 P Q {a with defers:={target:=.collected w.heap.size,args:=#[]}::a.defers} W):
 (Code.rangeFunc g ps assign body).wpIn Fence.wide 0 P Q a w:=by
 refine wpIn_rangeFunc ?_;intro fn hfn;obtain⟨rec,hrec⟩:∃rec:LoopState→Option Code→Loop,rec=fun st pe=>{state:=st,pending:=pe,fn,tmps:=a.tmps,params:=ps,assign,body,defers:=w.heap.size}:=⟨_,rfl⟩
 obtain⟨W1,hW1⟩:=zx ((w.alloc (.deferred (some []))).alloc (.loop (rec .ready none)));have hgv:=hgives (.deferred (some [])) (.loop (rec .ready none));rw[hW1] at hgv;have hL1:W1.heap[w.heap.size+1]?=some (.loop (rec .ready none)):=by
  rw[←hW1];have:=World.alloc_heap_new (w.alloc (.deferred (some []))) (.loop (rec .ready none));rwa [World.size_alloc] at this
 have hK1:W1.heap[w.heap.size]?=some (.deferred (some [])):=by
  rw[←hW1];exact(Below.heap_alloc _ _ _ zS).trans (World.alloc_heap_new w _)
 have hI1:I [] W1:=by
  rw[←hW1];exact hI [] w _ h0 (((Keep.refl _ w).alloc _).alloc _)
 refine⟨w.heap.size+1,[{target:=.collected w.heap.size,args:=#[]}],W1,{target:=.fn (.func gf) lb,args:=#[.func (.yield (w.heap.size+1)) #[] #[]]},W1,gf,
  #[.func (.yield (w.heap.size+1)) #[] #[]]++lb,W1,?_,?_,?_,?_,?_,?_⟩
 ·rw[←hW1,hrec];exact run_enterLoop_outer _ _ _ _ _
 ·simp only[resolve,hg]
  simp[go_sem]
 ·intro f' _;trivial
 ·simp[invoke,go_sem,eg]
 ·simp[Fence.wide]
 ·refine(hgv (w.heap.size+1)
   (fun pre W=>I pre W∧W.heap[w.heap.size+1]?=some (.loop (rec .ready none))∧W.heap[w.heap.size]?=some (.deferred (some [])))
   (fun pre W=>∃c,Ix c pre W∧W.heap[w.heap.size+1]?=some (.loop (rec .done (some c)))∧W.heap[w.heap.size]?=some (.deferred (some [])))
   (fun s A B hs hk=>⟨hI s A B hs.1 (hk.mono fun i hi=>hi.1),hk.heap (fun hz=>(hZ _ hz).2 rfl) hs.2.1,hk.heap (fun hz=>(hZ _ hz).1 rfl) hs.2.2⟩)
   (fun s A B hs hk=>by
    obtain⟨c,hc,hl,hd⟩:=hs;exact⟨c,hIx c s A B hc (hk.mono fun i hi=>hi.1),hk.heap (fun hz=>(hZ _ hz).2 rfl) hl,hk.heap (fun hz=>(hZ _ hz).1 rfl) hd⟩)
   ?_ ⟨hI1,hL1,hK1⟩).mono ?_
  ·-- one round
   rintro pre x args W ⟨hi,hl,hk⟩ hrd hpre;have hlt:w.heap.size+1<W.heap.size:=(Array.getElem?_eq_some_iff.1 hl).1;have hy:=run_yield (P:=P) (args:=args) hl (by rw[hrec];exact hps x args W hrd);rw[hrec] at hy;refine⟨fn,_,assign,body,hy,roundIn_of_wpIn hfn (hassign _ x args W _ hrd hlt fun act V hact hWV=>?_)⟩;have hlV:V.heap[w.heap.size+1]?=some (.loop (rec .ready none)):=(hWV.block _ hlt).trans hl;have hkV:V.heap[w.heap.size]?=some (.deferred (some [])):=(hWV.block _ zO).trans hk;have hltV:w.heap.size+1<V.heap.size:=Nat.lt_of_lt_of_le hlt hWV.size;refine⟨_,run_beginRound hlV (by rw[hrec]),?_⟩;have hl2:(V.putObj (w.heap.size+1) (.loop {rec .ready none with state:=.busy})).heap[w.heap.size+1]?=some (.loop {rec .ready none with state:=.busy}):=World.putObj_heap_same hltV
   have hk2:(V.putObj (w.heap.size+1) (.loop {rec .ready none with state:=.busy})).heap[w.heap.size]?=some (.deferred (some [])):=(World.putObj_heap_other zO).trans hkV;have hI2:I pre (V.putObj (w.heap.size+1) (.loop {rec .ready none with state:=.busy})):=hI _ _ _ hi ((Keep.of_below' hWV).putObj (fun h=>h.2.2 rfl) _);have hR2:As x args act (V.putObj (w.heap.size+1) (.loop {rec .ready none with state:=.busy})):=hAs _ _ _ _ _ hact ((Keep.refl _ V).putObj (fun h=>h.2 rfl) _);refine wpIn_mono (hbody _ pre x args act _ hI2 hR2 hpre (by simpa using hltV)) ?_
   -- the record behind the body,and behind endRound
   have fin:∀(jump:Option Code) (W3:World),Keep (fun k=>k<n0∨Z k∨k=w.heap.size∨k=w.heap.size+1) (V.putObj (w.heap.size+1) (.loop {rec .ready none with state:=.busy})) W3 →
    (Instr.endRound (w.heap.size+1) jump).run P W3 = .ok (.bool jump.isNone) (W3.putObj (w.heap.size+1) (.loop (rec (if jump.isNone then .ready else .done) jump))) ∧
    (W3.putObj (w.heap.size+1) (.loop (rec (if jump.isNone then .ready else .done) jump))).heap[w.heap.size+1]?=some (.loop (rec (if jump.isNone then .ready else .done) jump)) ∧
    (W3.putObj (w.heap.size+1) (.loop (rec (if jump.isNone then .ready else .done) jump))).heap[w.heap.size]?=some (.deferred (some [])):=fun jump W3 hk3=>by
    have hl3:=hk3.heap (.inr (.inr (.inr rfl))) hl2;have:=run_endRound (P:=P) jump hl3;rw[hrec] at this ⊢;exact⟨this,World.putObj_heap_same (Array.getElem?_eq_some_iff.1 hl3).1,(World.putObj_heap_other zO).trans (hk3.heap (.inr (.inr (.inl rfl))) hk2)⟩
   have put3:∀(W3:World) (o:Obj) (s:List α),I s W3→I s (W3.putObj (w.heap.size+1) o):=fun W3 o s hi3=>hI _ _ _ hi3 ((Keep.refl _ W3).putObj (fun h=>h.2.2 rfl) _)
   have put4:∀(c:Code) (W3:World) (o:Obj) (s:List α),Ix c s W3→Ix c s (W3.putObj (w.heap.size+1) o):=fun c W3 o s hi3=>hIx _ _ _ _ hi3 ((Keep.refl _ W3).putObj (fun h=>h.2.2 rfl) _)
   rintro e a3 W3 hp;cases e with
   |normal=>
    obtain⟨hk3,hi3⟩:=hp;obtain⟨hr,hl4,hk4⟩:=fin none W3 hk3;refine⟨_,_,hr,.inl ⟨rfl,⟨put3 _ _ _ hi3,hl4,hk4⟩,?_⟩⟩
    -- what the iterator relies on: everything but the record lies as it lay;n0 is below the record,Z does not hold it
    have h1:Keep (fun k=>k<n0∨Z k) W (V.putObj (w.heap.size+1) (.loop {rec .ready none with state:=.busy})):=(Keep.of_below' hWV).putObj (fun h=>by rcases h with h|h;omega;exact(hZ _ h).2 rfl) _;exact(h1.trans (hk3.mono fun i hi=>hi.elim .inl (fun h=>.inr (.inl h)))).putObj (fun h=>by rcases h with h|h;omega;exact(hZ _ h).2 rfl) _
   |ret=>
    obtain⟨hk3,hi3⟩:=hp;obtain⟨hr,hl4,hk4⟩:=fin (some .ret) W3 hk3;exact⟨_,_,hr,.inr ⟨rfl,.ret,put4 _ _ _ _ hi3,hl4,hk4⟩⟩
   |exit id=>
    obtain⟨hk3,hi3⟩:=hp;obtain⟨hr,hl4,hk4⟩:=fin (some (.exit id)) W3 hk3;exact⟨_,_,hr,.inr ⟨rfl,.exit id,put4 _ _ _ _ hi3,hl4,hk4⟩⟩
   |goto t=>
    obtain⟨hk3,hi3⟩:=hp;obtain⟨hr,hl4,hk4⟩:=fin (some (.goto t)) W3 hk3;exact⟨_,_,hr,.inr ⟨rfl,.goto t,put4 _ _ _ _ hi3,hl4,hk4⟩⟩
   |panic ch=>exact hp.elim
   |outgrown=>exact hp.elim
  ·-- behind the iterator
   rintro e W2 ⟨⟨v,rfl⟩,(⟨hi,hl,hk⟩|⟨pre,hpre,c,hi,hl,hk⟩)⟩
   ·exact⟨none,_,by have:=run_endLoop (P:=P) hl (by rw[hrec];simp);rw[hrec] at this;exact this,hdone _ (hI _ _ _ hi ((Keep.refl _ W2).putObj (fun h=>h.2.2 rfl) _)) ((World.putObj_heap_other zO).trans hk)⟩
   ·exact⟨some c,_,by have:=run_endLoop (P:=P) hl (by rw[hrec];simp);rw[hrec] at this;exact this,hstop c pre _ hpre (hIx _ _ _ _ hi ((Keep.refl _ W2).putObj (fun h=>h.2.2 rfl) _)) ((World.putObj_heap_other zO).trans hk)⟩
end
section
variable {P:Program}
theorem wpIn_range3 {α:Type}{g:Operand}{ps:Array Tmp}{assign body:Code}{Q:Exit→Act→World→Prop}{a:Act}{w:World}
 {gf:Nat} {lb:Array Value} (hg:a.eval g = .func (.func gf) #[] lb) (eg:∀args w,(callFunc gf args).run P w = .ok (.enter gf args) w)
 {Z:Nat→Prop} {n0:Nat} {Rd:α→Array Value→World→Prop} {xs:List α} (hgives:∀o1 o2:Obj,Gives P gf lb Z n0 Rd xs ((w.alloc o1).alloc o2))
 (hZ:∀k,Z k→k≠w.heap.size∧k≠w.heap.size+1) (hn0:n0≤w.heap.size)
 (hps:∀x args W,Rd x args W→args.size=ps.size)
 (I:List α→World→Prop) (Ix:Code→List α→World→Prop)
 (hI:∀s A B,I s A→Keep (fun k=>¬Z k∧k≠w.heap.size∧k≠w.heap.size+1) A B→I s B)
 (hIx:∀c s A B,Ix c s A→Keep (fun k=>¬Z k∧k≠w.heap.size∧k≠w.heap.size+1) A B→Ix c s B)
 (h0:I [] w) (As:α→Array Value→Act→World→Prop)
 (hAs:∀x args act A B,As x args act A→Keep (fun k=>k≠w.heap.size∧k≠w.heap.size+1) A B→As x args act B)
 (hassign:∀(l:Nat) (x:α) (args:Array Value) (W:World) (K:Act→World→Prop),Rd x args W→w.heap.size+1<W.heap.size→(∀act W',As x args act W'→Below W.heap.size W W'→K act W') →
  assign.wpIn (Fence.wide.inRound l) 0 P (Exit.then K (fun _ _ _=>False)) {tmps:=(ps.zip args).foldl (fun t (p,v)=>t.setIfInBounds p v) a.tmps,defers:=[]} W)
 (hbody:∀(l:Nat) (pre:List α) (x:α) (args:Array Value) (act:Act) (W:World),I pre W→As x args act W→(pre++[x]) <+: xs→w.heap.size+1<W.heap.size→l=w.heap.size+1→(∃r,W.heap[l]?=some (.loop r)) →
  body.wpIn (Fence.wide.inRound l) 0 P (roundEnds (fun k=>k<n0∨Z k∨k=w.heap.size∨k=w.heap.size+1) I Ix (pre++[x]) W) act W)
 (hdone:∀(W:World),I xs W→W.heap[w.heap.size]?=some (.deferred (some []))→Q .normal {a with defers:={target:=.collected w.heap.size,args:=#[]}::a.defers} W)
 (hstop:∀(c:Code) (pre:List α) (W:World),pre <+: xs→Ix c pre W→W.heap[w.heap.size]?=some (.deferred (some []))→c.wpIn Fence.wide 0 P Q {a with defers:={target:=.collected w.heap.size,args:=#[]}::a.defers} W):
 (Code.rangeFunc g ps assign body).wpIn Fence.wide 0 P Q a w:=by
 refine wpIn_rangeFunc ?_;intro fn hfn;obtain⟨rec,hrec⟩:∃rec:LoopState→Option Code→Loop,rec=fun st pe=>{state:=st,pending:=pe,fn,tmps:=a.tmps,params:=ps,assign,body,defers:=w.heap.size}:=⟨_,rfl⟩
 obtain⟨W1,hW1⟩:=zx ((w.alloc (.deferred (some []))).alloc (.loop (rec .ready none)));have hgv:=hgives (.deferred (some [])) (.loop (rec .ready none));rw[hW1] at hgv;have hL1:W1.heap[w.heap.size+1]?=some (.loop (rec .ready none)):=by
  rw[←hW1];have:=World.alloc_heap_new (w.alloc (.deferred (some []))) (.loop (rec .ready none));rwa [World.size_alloc] at this
 have hK1:W1.heap[w.heap.size]?=some (.deferred (some [])):=by
  rw[←hW1];exact(Below.heap_alloc _ _ _ zS).trans (World.alloc_heap_new w _)
 have hI1:I [] W1:=by
  rw[←hW1];exact hI [] w _ h0 (((Keep.refl _ w).alloc _).alloc _)
 refine⟨w.heap.size+1,[{target:=.collected w.heap.size,args:=#[]}],W1,{target:=.fn (.func gf) lb,args:=#[.func (.yield (w.heap.size+1)) #[] #[]]},W1,gf,
  #[.func (.yield (w.heap.size+1)) #[] #[]]++lb,W1,?_,?_,?_,?_,?_,?_⟩
 ·rw[←hW1,hrec];exact run_enterLoop_outer _ _ _ _ _
 ·simp only[resolve,hg]
  simp[go_sem]
 ·intro f' _;trivial
 ·simp[invoke,go_sem,eg]
 ·simp[Fence.wide]
 ·refine(hgv (w.heap.size+1)
   (fun pre W=>I pre W∧W.heap[w.heap.size+1]?=some (.loop (rec .ready none))∧W.heap[w.heap.size]?=some (.deferred (some [])))
   (fun pre W=>∃c,Ix c pre W∧W.heap[w.heap.size+1]?=some (.loop (rec .done (some c)))∧W.heap[w.heap.size]?=some (.deferred (some [])))
   (fun s A B hs hk=>⟨hI s A B hs.1 (hk.mono fun i hi=>hi.1),hk.heap (fun hz=>(hZ _ hz).2 rfl) hs.2.1,hk.heap (fun hz=>(hZ _ hz).1 rfl) hs.2.2⟩)
   (fun s A B hs hk=>by
    obtain⟨c,hc,hl,hd⟩:=hs;exact⟨c,hIx c s A B hc (hk.mono fun i hi=>hi.1),hk.heap (fun hz=>(hZ _ hz).2 rfl) hl,hk.heap (fun hz=>(hZ _ hz).1 rfl) hd⟩)
   ?_ ⟨hI1,hL1,hK1⟩).mono ?_
  ·-- one round
   rintro pre x args W ⟨hi,hl,hk⟩ hrd hpre;have hlt:w.heap.size+1<W.heap.size:=(Array.getElem?_eq_some_iff.1 hl).1;have hy:=run_yield (P:=P) (args:=args) hl (by rw[hrec];exact hps x args W hrd);rw[hrec] at hy;refine⟨fn,_,assign,body,hy,roundIn_of_wpIn hfn (hassign _ x args W _ hrd hlt fun act V hact hWV=>?_)⟩;have hlV:V.heap[w.heap.size+1]?=some (.loop (rec .ready none)):=(hWV.block _ hlt).trans hl;have hkV:V.heap[w.heap.size]?=some (.deferred (some [])):=(hWV.block _ zO).trans hk;have hltV:w.heap.size+1<V.heap.size:=Nat.lt_of_lt_of_le hlt hWV.size;refine⟨_,run_beginRound hlV (by rw[hrec]),?_⟩;have hl2:(V.putObj (w.heap.size+1) (.loop {rec .ready none with state:=.busy})).heap[w.heap.size+1]?=some (.loop {rec .ready none with state:=.busy}):=World.putObj_heap_same hltV
   have hk2:(V.putObj (w.heap.size+1) (.loop {rec .ready none with state:=.busy})).heap[w.heap.size]?=some (.deferred (some [])):=(World.putObj_heap_other zO).trans hkV;have hI2:I pre (V.putObj (w.heap.size+1) (.loop {rec .ready none with state:=.busy})):=hI _ _ _ hi ((Keep.of_below' hWV).putObj (fun h=>h.2.2 rfl) _);have hR2:As x args act (V.putObj (w.heap.size+1) (.loop {rec .ready none with state:=.busy})):=hAs _ _ _ _ _ hact ((Keep.refl _ V).putObj (fun h=>h.2 rfl) _);refine wpIn_mono (hbody _ pre x args act _ hI2 hR2 hpre (by simpa using hltV) rfl ⟨_,hl2⟩) ?_
   -- the record behind the body,and behind endRound
   have fin:∀(jump:Option Code) (W3:World),Keep (fun k=>k<n0∨Z k∨k=w.heap.size∨k=w.heap.size+1) (V.putObj (w.heap.size+1) (.loop {rec .ready none with state:=.busy})) W3 →
    (Instr.endRound (w.heap.size+1) jump).run P W3 = .ok (.bool jump.isNone) (W3.putObj (w.heap.size+1) (.loop (rec (if jump.isNone then .ready else .done) jump))) ∧
    (W3.putObj (w.heap.size+1) (.loop (rec (if jump.isNone then .ready else .done) jump))).heap[w.heap.size+1]?=some (.loop (rec (if jump.isNone then .ready else .done) jump)) ∧
    (W3.putObj (w.heap.size+1) (.loop (rec (if jump.isNone then .ready else .done) jump))).heap[w.heap.size]?=some (.deferred (some [])):=fun jump W3 hk3=>by
    have hl3:=hk3.heap (.inr (.inr (.inr rfl))) hl2;have:=run_endRound (P:=P) jump hl3;rw[hrec] at this ⊢;exact⟨this,World.putObj_heap_same (Array.getElem?_eq_some_iff.1 hl3).1,(World.putObj_heap_other zO).trans (hk3.heap (.inr (.inr (.inl rfl))) hk2)⟩
   have put3:∀(W3:World) (o:Obj) (s:List α),I s W3→I s (W3.putObj (w.heap.size+1) o):=fun W3 o s hi3=>hI _ _ _ hi3 ((Keep.refl _ W3).putObj (fun h=>h.2.2 rfl) _)
   have put4:∀(c:Code) (W3:World) (o:Obj) (s:List α),Ix c s W3→Ix c s (W3.putObj (w.heap.size+1) o):=fun c W3 o s hi3=>hIx _ _ _ _ hi3 ((Keep.refl _ W3).putObj (fun h=>h.2.2 rfl) _)
   rintro e a3 W3 hp;cases e with
   |normal=>
    obtain⟨hk3,hi3⟩:=hp;obtain⟨hr,hl4,hk4⟩:=fin none W3 hk3;refine⟨_,_,hr,.inl ⟨rfl,⟨put3 _ _ _ hi3,hl4,hk4⟩,?_⟩⟩
    -- what the iterator relies on: everything but the record lies as it lay;n0 is below the record,Z does not hold it
    have h1:Keep (fun k=>k<n0∨Z k) W (V.putObj (w.heap.size+1) (.loop {rec .ready none with state:=.busy})):=(Keep.of_below' hWV).putObj (fun h=>by rcases h with h|h;omega;exact(hZ _ h).2 rfl) _;exact(h1.trans (hk3.mono fun i hi=>hi.elim .inl (fun h=>.inr (.inl h)))).putObj (fun h=>by rcases h with h|h;omega;exact(hZ _ h).2 rfl) _
   |ret=>
    obtain⟨hk3,hi3⟩:=hp;obtain⟨hr,hl4,hk4⟩:=fin (some .ret) W3 hk3;exact⟨_,_,hr,.inr ⟨rfl,.ret,put4 _ _ _ _ hi3,hl4,hk4⟩⟩
   |exit id=>
    obtain⟨hk3,hi3⟩:=hp;obtain⟨hr,hl4,hk4⟩:=fin (some (.exit id)) W3 hk3;exact⟨_,_,hr,.inr ⟨rfl,.exit id,put4 _ _ _ _ hi3,hl4,hk4⟩⟩
   |goto t=>
    obtain⟨hk3,hi3⟩:=hp;obtain⟨hr,hl4,hk4⟩:=fin (some (.goto t)) W3 hk3;exact⟨_,_,hr,.inr ⟨rfl,.goto t,put4 _ _ _ _ hi3,hl4,hk4⟩⟩
   |panic ch=>exact hp.elim
   |outgrown=>exact hp.elim
  ·-- behind the iterator
   rintro e W2 ⟨⟨v,rfl⟩,(⟨hi,hl,hk⟩|⟨pre,hpre,c,hi,hl,hk⟩)⟩
   ·exact⟨none,_,by have:=run_endLoop (P:=P) hl (by rw[hrec];simp);rw[hrec] at this;exact this,hdone _ (hI _ _ _ hi ((Keep.refl _ W2).putObj (fun h=>h.2.2 rfl) _)) ((World.putObj_heap_other zO).trans hk)⟩
   ·exact⟨some c,_,by have:=run_endLoop (P:=P) hl (by rw[hrec];simp);rw[hrec] at this;exact this,hstop c pre _ hpre (hIx _ _ _ _ hi ((Keep.refl _ W2).putObj (fun h=>h.2.2 rfl) _)) ((World.putObj_heap_other zO).trans hk)⟩
theorem wpIn_rangeN {α:Type}{g:Operand}{ps:Array Tmp}{assign body:Code}{Q:Exit→Act→World→Prop}{a:Act}{w:World}
 {l₀:Nat} (hl₀:∃r,w.heap[l₀]?=some (.loop r)) {gf:Nat} {lb:Array Value} (hg:a.eval g = .func (.func gf) #[] lb) (eg:∀args w,(callFunc gf args).run P w = .ok (.enter gf args) w)
 {Z:Nat→Prop} {n0:Nat} {Rd:α→Array Value→World→Prop} {xs:List α} (hgives:∀o1:Obj,Gives P gf lb Z n0 Rd xs (w.alloc o1))
 (hZ:∀k,Z k→k≠w.heap.size) (hn0:n0≤w.heap.size)
 (hps:∀x args W,Rd x args W→args.size=ps.size)
 (I:List α→World→Prop) (Ix:Code→List α→World→Prop)
 (hI:∀s A B,I s A→Keep (fun k=>¬Z k∧k≠w.heap.size) A B→I s B)
 (hIx:∀c s A B,Ix c s A→Keep (fun k=>¬Z k∧k≠w.heap.size) A B→Ix c s B)
 (h0:I [] w) (As:α→Array Value→Act→World→Prop)
 (hAs:∀x args act A B,As x args act A→Keep (fun k=>k≠w.heap.size) A B→As x args act B)
 (hassign:∀(l:Nat) (x:α) (args:Array Value) (W:World) (K:Act→World→Prop),Rd x args W→w.heap.size<W.heap.size→(∀act W',As x args act W'→Below W.heap.size W W'→K act W') →
  assign.wpIn (Fence.wide.inRound l) 0 P (Exit.then K (fun _ _ _=>False)) {tmps:=(ps.zip args).foldl (fun t (p,v)=>t.setIfInBounds p v) a.tmps,defers:=[]} W)
 (hbody:∀(l:Nat) (pre:List α) (x:α) (args:Array Value) (act:Act) (W:World),I pre W→As x args act W→(pre++[x]) <+: xs→w.heap.size<W.heap.size →
  body.wpIn (Fence.wide.inRound l) 0 P (roundEnds (fun k=>k<n0∨Z k∨k=w.heap.size) I Ix (pre++[x]) W) act W)
 (hdone:∀(W:World),I xs W→Q .normal a W)
 (hstop:∀(c:Code) (pre:List α) (W:World),pre <+: xs→Ix c pre W→c.wpIn (Fence.wide.inRound l₀) 0 P Q a W):
 (Code.rangeFunc g ps assign body).wpIn (Fence.wide.inRound l₀) 0 P Q a w:=by
 obtain⟨r₀,hr₀⟩:=hl₀;refine wpIn_rangeFunc ?_;intro fn hfn;obtain⟨rec,hrec⟩:∃rec:LoopState→Option Code→Loop,rec=fun st pe=>{state:=st,pending:=pe,fn,tmps:=a.tmps,params:=ps,assign,body,defers:=r₀.defers}:=⟨_,rfl⟩
 obtain⟨W1,hW1⟩:=zx (w.alloc (.loop (rec .ready none)));have hgv:=hgives (.loop (rec .ready none));rw[hW1] at hgv;have hL1:W1.heap[w.heap.size]?=some (.loop (rec .ready none)):=by rw[←hW1];exact World.alloc_heap_new w _
 have hI1:I [] W1:=by
  rw[←hW1];exact hI [] w _ h0 ((Keep.refl _ w).alloc _)
 refine⟨w.heap.size,[],W1,{target:=.fn (.func gf) lb,args:=#[.func (.yield w.heap.size) #[] #[]]},W1,gf,
  #[.func (.yield w.heap.size) #[] #[]]++lb,W1,?_,?_,?_,?_,?_,?_⟩
 ·rw[←hW1,hrec];exact run_enterLoop_inner hr₀ _ _ _ _ _
 ·simp only[resolve,hg]
  simp[go_sem]
 ·intro f' _;trivial
 ·simp[invoke,go_sem,eg]
 ·simp[Fence.wide]
 ·refine(CallsIn.inRound l₀ (hgv w.heap.size
   (fun pre W=>I pre W∧W.heap[w.heap.size]?=some (.loop (rec .ready none)))
   (fun pre W=>∃c,Ix c pre W∧W.heap[w.heap.size]?=some (.loop (rec .done (some c))))
   (fun s A B hs hk=>⟨hI s A B hs.1 (hk.mono fun i hi=>hi.1),hk.heap (fun hz=>hZ _ hz rfl) hs.2⟩)
   (fun s A B hs hk=>by
    obtain⟨c,hc,hl⟩:=hs;exact⟨c,hIx c s A B hc (hk.mono fun i hi=>hi.1),hk.heap (fun hz=>hZ _ hz rfl) hl⟩)
   ?_ ⟨hI1,hL1⟩)).mono ?_
  ·-- one round
   rintro pre x args W ⟨hi,hl⟩ hrd hpre;have hlt:w.heap.size<W.heap.size:=(Array.getElem?_eq_some_iff.1 hl).1;have hy:=run_yield (P:=P) (args:=args) hl (by rw[hrec];exact hps x args W hrd);rw[hrec] at hy;refine⟨fn,_,assign,body,hy,roundIn_of_wpIn hfn (hassign _ x args W _ hrd hlt fun act V hact hWV=>?_)⟩;have hlV:V.heap[w.heap.size]?=some (.loop (rec .ready none)):=(hWV.block _ hlt).trans hl;have hltV:w.heap.size<V.heap.size:=Nat.lt_of_lt_of_le hlt hWV.size;refine⟨_,run_beginRound hlV (by rw[hrec]),?_⟩;have hl2:(V.putObj w.heap.size (.loop {rec .ready none with state:=.busy})).heap[w.heap.size]?=some (.loop {rec .ready none with state:=.busy}):=World.putObj_heap_same hltV;have hI2:I pre (V.putObj w.heap.size (.loop {rec .ready none with state:=.busy})):=hI _ _ _ hi ((Keep.of_below' hWV).putObj (fun h=>h.2 rfl) _)
   have hR2:As x args act (V.putObj w.heap.size (.loop {rec .ready none with state:=.busy})):=hAs _ _ _ _ _ hact ((Keep.refl _ V).putObj (fun h=>h rfl) _);refine wpIn_mono (hbody _ pre x args act _ hI2 hR2 hpre (by simpa using hltV)) ?_;have fin:∀(jump:Option Code) (W3:World),Keep (fun k=>k<n0∨Z k∨k=w.heap.size) (V.putObj w.heap.size (.loop {rec .ready none with state:=.busy})) W3 →
    (Instr.endRound w.heap.size jump).run P W3 = .ok (.bool jump.isNone) (W3.putObj w.heap.size (.loop (rec (if jump.isNone then .ready else .done) jump))) ∧
    (W3.putObj w.heap.size (.loop (rec (if jump.isNone then .ready else .done) jump))).heap[w.heap.size]?=some (.loop (rec (if jump.isNone then .ready else .done) jump)):=fun jump W3 hk3=>by
    have hl3:=hk3.heap (.inr (.inr rfl)) hl2;have:=run_endRound (P:=P) jump hl3;rw[hrec] at this ⊢;exact⟨this,World.putObj_heap_same (Array.getElem?_eq_some_iff.1 hl3).1⟩
   have put3:∀(W3:World) (o:Obj) (s:List α),I s W3→I s (W3.putObj w.heap.size o):=fun W3 o s hi3=>hI _ _ _ hi3 ((Keep.refl _ W3).putObj (fun h=>h.2 rfl) _)
   have put4:∀(c:Code) (W3:World) (o:Obj) (s:List α),Ix c s W3→Ix c s (W3.putObj w.heap.size o):=fun c W3 o s hi3=>hIx _ _ _ _ hi3 ((Keep.refl _ W3).putObj (fun h=>h.2 rfl) _)
   rintro e a3 W3 hp;cases e with
   |normal=>
    obtain⟨hk3,hi3⟩:=hp;obtain⟨hr,hl4⟩:=fin none W3 hk3;refine⟨_,_,hr,.inl ⟨rfl,⟨put3 _ _ _ hi3,hl4⟩,?_⟩⟩;have h1:Keep (fun k=>k<n0∨Z k) W (V.putObj w.heap.size (.loop {rec .ready none with state:=.busy})):=(Keep.of_below' hWV).putObj (fun h=>by rcases h with h|h;omega;exact hZ _ h rfl) _;exact(h1.trans (hk3.mono fun i hi=>hi.elim .inl (fun h=>.inr (.inl h)))).putObj (fun h=>by rcases h with h|h;omega;exact hZ _ h rfl) _
   |ret=>
    obtain⟨hk3,hi3⟩:=hp;obtain⟨hr,hl4⟩:=fin (some .ret) W3 hk3;exact⟨_,_,hr,.inr ⟨rfl,.ret,put4 _ _ _ _ hi3,hl4⟩⟩
   |exit id=>
    obtain⟨hk3,hi3⟩:=hp;obtain⟨hr,hl4⟩:=fin (some (.exit id)) W3 hk3;exact⟨_,_,hr,.inr ⟨rfl,.exit id,put4 _ _ _ _ hi3,hl4⟩⟩
   |goto t=>
    obtain⟨hk3,hi3⟩:=hp;obtain⟨hr,hl4⟩:=fin (some (.goto t)) W3 hk3;exact⟨_,_,hr,.inr ⟨rfl,.goto t,put4 _ _ _ _ hi3,hl4⟩⟩
   |panic ch=>exact hp.elim
   |outgrown=>exact hp.elim
  ·-- behind the iterator
   rintro e W2 ⟨⟨v,rfl⟩,(⟨hi,hl⟩|⟨pre,hpre,c,hi,hl⟩)⟩
   ·exact⟨none,_,by have:=run_endLoop (P:=P) hl (by rw[hrec];simp);rw[hrec] at this;exact this,hdone _ (hI _ _ _ hi ((Keep.refl _ W2).putObj (fun h=>h.2 rfl) _))⟩
   ·exact⟨some c,_,by have:=run_endLoop (P:=P) hl (by rw[hrec];simp);rw[hrec] at this;exact this,hstop c pre _ hpre (hIx _ _ _ _ hi ((Keep.refl _ W2).putObj (fun h=>h.2 rfl) _))⟩
end
section
variable {P:Program}
end
section
def onlyNormal (K:Act→World→Prop):Exit→Act→World→Prop
 |.normal,a,w=>K a w
 |_,_,_=>False
theorem onlyNormal_out (K:Act→World→Prop):¬LetsOut (onlyNormal K):=by rintro⟨a,w,h⟩;exact h
def noDefer (ops:Array Oper):Bool:=ops.toList.all fun o=>match o.op with | .defer _=>false|_=>true
theorem noDefer_at {ops:Array Oper}(h:noDefer ops=true){i:Nat}{o:Oper}(hi:ops[i]?=some o):∀c,o.op ≠ .defer c:=by
 intro c hc;have:=List.all_eq_true.1 h o (by simpa using Array.mem_of_getElem? hi);rw[hc] at this;cases this
section
variable {P:Program}{n:Nat}{l:Nat}{md:Region.Mode}{ops:Array Oper}{K:Act→World→Prop}
theorem wpOpIn_round (hd:noDefer ops=true){i:Nat}{N N':Act→World→Prop}(hN:∀a w,N a w→N' a w){a:Act}{w:World}(h:wpOp P ops (onlyNormal K) i N a w):wpOpIn (Fence.wide.inRound l) n P ops (onlyNormal K) i N' a w:=by
 unfold wpOp at h;unfold wpOpIn
 split
 ·simp_all
 ·rename_i o ho
  simp only[ho] at h
  split
  ·rename_i hw
   simp only[hw,if_true] at h
   rcases h with h|⟨_,h⟩
   ·unfold Oper.wp at h;unfold Oper.wpIn;refine⟨fun f _=>trivial,?_⟩;rw[Oper.semAt_plain _ _ _ (noDefer_at hd ho)];generalize (execOp a.eval o).run P w=r at *;cases r with
    |ok x w'=>
     cases x<;>simp only[Oper.upon,Oper.uponIn] at h ⊢
     case value u=>exact hN _ _ h
     case skip=>exact hN _ _ h
     case defer d=>exact hN _ _ h
     case enter f args=>
      refine⟨(fun hh=>by cases hh),CallsIn.inRound l (callsIn_wide.2 (h.mono fun e w'' he=>?_))⟩;cases e with
      |returned u=>exact hN _ _ he
      |panicked c=>exact he
      |outgrown=>exact he
     case row row args=>
      refine⟨(fun hh=>by cases hh),fun c cs _=>?_⟩;obtain⟨v,w',r,s⟩:=h c cs;exact⟨v,w',hN _ _ r,stepsIn_wide.2 s⟩
    |halt x w'=>cases x<;>simp only[Oper.upon,Oper.uponIn] at h ⊢ <;> exact h
   ·exact absurd h (onlyNormal_out K)
  ·rename_i hw
   simp only[hw] at h;exact⟨fun f _=>trivial,hN _ _ (by simpa using h)⟩
theorem wpAnyIn_round (hd:noDefer ops=true):∀(fuel:Nat) (listed:Array Bool) (a:Act) (w:World),wpAny P md ops (onlyNormal K) fuel listed a w→wpAnyIn (Fence.wide.inRound l) n P md ops (onlyNormal K) fuel listed a w:=by
 intro fuel
 induction fuel with
 |zero=>intro listed a w h;exact h
 |succ fuel ih=>
  intro listed a w h;exact⟨h.1,fun i hi=>wpOpIn_round hd (fun a w=>ih _ a w) (h.2 i hi)⟩
theorem wpIn_region_round {id:Nat}{Q:Exit→Act→World→Prop}{a:Act}{w:World}(hm:P.follows .mixedOrders=true)(hd:noDefer ops=true)
 (h:wpAny P .any ops (onlyNormal (Q .normal)) ops.size (Array.replicate ops.size false) a w.drew):(Code.region id ops true).wpIn (Fence.wide.inRound l) n P Q a w:=by
 refine wpIn_mono (wpIn_region_any hm (wpAnyIn_round hd _ _ _ _ h)) ?_;intro e a w h;cases e<;>first|exact h|exact h.elim
end
end
section
section
variable {F:Fence}{n:Nat}{P:Program}{md:Region.Mode}{ops:Array Oper}{w:World}
theorem wpOpIn_of_stOp (hF:∀f,F.fn f)(hdep:F.depth=none)(hC:∀{f args w R},Calls P f args w R→CallsIn F (n-1) P f args w R)(hd:noDefer ops=true){i:Nat}{a:Act}{K:Act→Prop}{K':Act→World→Prop}{Q':Exit→Act→World→Prop}(h:∀a,K a→K' a w)(hh:stOp P ops w i K a):wpOpIn F n P ops Q' i K' a w:=by
 unfold stOp at hh;unfold wpOpIn
 split
 ·rename_i ho;simp only[ho] at hh;exact h _ hh
 ·rename_i o ho
  simp only[ho] at hh
  split
  ·rename_i hw
   simp only[hw,if_true] at hh;unfold Oper.wpIn;refine⟨fun f _=>hF f,?_⟩;rw[Oper.semAt_plain _ _ _ (noDefer_at hd ho)];unfold Oper.still at hh;generalize (execOp a.eval o).run P w=r at *;cases r with
   |ok x w'=>
    cases x<;>simp only[Oper.stillUpon,Oper.uponIn] at hh ⊢
    case value u=>obtain⟨rfl,h2⟩:=hh;exact h _ h2
    case skip=>obtain⟨rfl,h2⟩:=hh;exact h _ h2
    case enter f args=>
     obtain⟨rfl,v,hc,hn⟩:=hh;refine⟨fun hx=>(by rw[hdep] at hx;cases hx),hC (hc.mono fun e w'' ⟨he,hw⟩=>?_)⟩;subst he;subst hw;exact h _ hn
   |halt x w'=>simp only[Oper.stillUpon] at hh
  ·rename_i hw
   simp only[hw] at hh;exact⟨fun f _=>hF f,h _ (by simpa using hh)⟩
theorem wpAnyIn_of_head (hF:∀f,F.fn f)(hdep:F.depth=none)(hC:∀{f args w R},Calls P f args w R→CallsIn F (n-1) P f args w R)(hd:noDefer ops=true){m g:Nat}{L:Array Bool→Act→Prop}{Q':Exit→Act→World→Prop}(hL:∀listed a,L listed a→wpAnyIn F n P md ops Q' g listed a w):
 ∀(f:Nat) (listed:Array Bool) (a:Act),wpAnyL P md ops w m L f listed a→wpAnyIn F n P md ops Q' (f+g) listed a w
 |0,listed,a,h=>by rw[Nat.zero_add];exact hL _ _ h
 |f+1,listed,a,h=>by
  rw[show f+1+g=(f+g)+1 by omega];exact⟨fun h0=>absurd h0 h.1,fun i hi=>wpOpIn_of_stOp hF hdep hC hd (fun a' h'=>wpAnyIn_of_head hF hdep hC hd hL f _ a' h') (h.2 i hi).2⟩
theorem wpAnyIn_of_seq {Q':Exit→Act→World→Prop}:∀(l:List Oper) (k:Nat) (listed:Array Bool) (a:Act) (w:World),(∀j,l[j]?=ops[k+j]?) →
 Region.seqB md ops l.length k listed=true→wpListIn F n P ops Q' l a w→wpAnyIn F n P md ops Q' l.length listed a w
 |[],_,_,_,_,_,hB,h=>⟨by simpa[Region.seqB] using hB,h⟩
 |o::l,k,listed,a,w,hl,hB,h=>by
  have h0:ops[k]?=some o:=by simpa using(hl 0).symm
  simp only[List.length_cons,Region.seqB,Bool.and_eq_true,decide_eq_true_eq] at hB;refine⟨fun h1=>(by rw[hB.1] at h1;cases h1),fun i hi=>?_⟩;rw[hB.1] at hi;have hik:i=k:=by simpa using hi
  subst hik;have hw:wpOpIn F n P ops Q' i (wpListIn F n P ops Q' l) a w:=by unfold wpOpIn;simp only[h0];exact h
  exact wpOpIn_mono (fun a' w' h'=>wpAnyIn_of_seq l (i+1) _ a' w' (fun j=>by have:=hl (j+1);simpa[Nat.add_assoc,Nat.add_comm 1 j] using this) hB.2 h') hw
theorem wpIn_region_still_tail (hF:∀f,F.fn f)(hdep:F.depth=none)(hC:∀{f args w R},Calls P f args w R→CallsIn F (n-1) P f args w R){id:Nat}{Q:Exit→Act→World→Prop}{a:Act}{w:World}{l:List Oper}(m:Nat)(hm:P.follows .mixedOrders=true)(hd:noDefer l.toArray=true)(hB:Region.lexTailB .any l.toArray m=true)
 (h:wpStill P l.toArray {w with drawn:=w.drawn+1} (fun a'=>wpListIn F n P l.toArray Q (l.drop m) a' {w with drawn:=w.drawn+1}) (l.take m) a):(Code.region id l.toArray true).wpIn F n P Q a w:=by
 simp only[Region.lexTailB,Bool.and_eq_true,decide_eq_true_eq] at hB;obtain⟨⟨⟨⟨hsel,hn⟩,hs⟩,hc⟩,hlex⟩:=hB;have hn':m<l.length:=by simpa using hn
 have htl:(l.take m).length=m:=by simp;omega
 have hdl:(l.drop m).length=l.toArray.size-m:=by simp
 have inv0:HeadInv .any l.toArray m (Array.replicate l.toArray.size false):=
  ⟨by simp,fun j oj _ hl=>(by rw[getD_replicate_false] at hl;cases hl),fun t _ ht=>getD_in (by simpa using ht) (getD_replicate_false _ _)⟩
 have H:=wpAnyL_lex (md:=.any) (g:=l.toArray.size-m) hsel hs hc hn (l.take m) 0 _ a (fun j hj=>by
  have hj':j<m:=by rw[htl] at hj;exact hj
  simp[hj']) (by simpa using htl) inv0 (by rw[htl];exact hlex) h
 refine wpIn_region_any hm ?_;have:=wpAnyIn_of_head (F:=F) (n:=n) hF hdep hC hd (Q':=Q) (g:=l.toArray.size-m) (fun listed a' hL=>by
  have:=wpAnyIn_of_seq (F:=F) (n:=n) (md:=.any) (Q':=Q) (l.drop m) m listed a' {w with drawn:=w.drawn+1} (fun j=>by simp[List.getElem?_drop]) (by rw[hdl];exact hL.1) hL.2
  rwa [hdl] at this) _ _ _ H
 rw[htl,show m+(l.toArray.size-m)=l.toArray.size by omega] at this;exact this
theorem wpIn_region_tail {id:Nat}{Q:Exit→Act→World→Prop}{a:Act}{w:World}{l:List Oper}(m:Nat)(hm:P.follows .mixedOrders=true)(hd:noDefer l.toArray=true)(hB:Region.lexTailB .any l.toArray m=true)
 (h:wpStill P l.toArray w.drew (fun a'=>wpListIn Fence.wide 0 P l.toArray Q (l.drop m) a' w.drew) (l.take m) a):(Code.region id l.toArray true).wpIn Fence.wide 0 P Q a w:=
 wpIn_region_still_tail (fun _=>trivial) rfl (fun h=>callsIn_wide.2 h) m hm hd hB h
end
theorem run_load_at {P:Program}{w:World}{b o:Nat}{xs:Array Value}{ty:TypeId}{d:TypeDesc}(hb:∀j v,xs[j]?=some v→w.cell? ⟨b,o+j,none⟩=some v)(hu:P.underlying ty=some d)(hd:(match d with | .struct _ | .array _ _=>true|_=>false)=true)(hi:(P.info? ty).map (·.size)=some xs.size):
 (Instr.loadAt ty (.pointer (some ⟨b,o,none⟩))).run P w = .ok (.agg xs) w:=by
 have hl:(loadCells ⟨b,o,none⟩ xs.toList.length).run P w = .ok xs.toList.toArray w:=
  run_loadCells_list (P:=P) w ⟨b,o,none⟩ xs.toList (fun j v hv=>by
   have hadd:(⟨b,o,none⟩:Addr).add j=⟨b,o+j,none⟩:=by unfold Addr.add;split<;>simp_all
   rw[hadd];exact hb j v (by simpa using hv))
 cases hq:P.info? ty with
 |none=>simp[hq] at hi
 |some i=>
  have hs:i.size=xs.size:=by simpa[hq] using hi
  have hagg:(isAgg ty).run P w = .ok true w:=by
   unfold isAgg;rw[Sem.run_bind,run_underlying hu w];cases d<;>simp_all
  simp only[Array.length_toList,Array.toArray_toList] at hl
  simp[Instr.loadAt,Instr.sureAddr,loadVar,Sem.run_bind,hagg,sizeOf,typeInfo,hq,hs,hl]
end
section
section
variable {P:Program}{ops:Array Oper}{md:Region.Mode}{S:World→Prop}
def isAlloc (o:Oper):Bool:=match o.op with | .alloc _=>true|_=>false
def hdst (o:Oper):Option Tmp:=if isAlloc o then none else o.dst
abbrev OVar:=Tmp×Array Value×TypeId
def HeldRes (P:Program)(W:World)(v:Value):Result Next→Prop
 |.ok (.value u) W'=>u=v∧W'=W
 |.ok .skip W'=>v=undef∧W'=W
 |.ok (.enter f args) W'=>W'=W∧Calls P f args W (fun e W''=>e = .returned v∧Below W.heap.size W W'')
 |_=>False
def YD (P:Program)(ops:Array Oper)(S:World→Prop)(ks:List OVar)(o:Oper)(v:Value)(a:Act):Prop:=
 (isAlloc o=true∧v=undef∧o.guard=none∧∃e∈ks,o.dst=some e.1∧∀(b:Act) (W:World),(execOp b.eval o).run P W = .ok (.value (.pointer (some ⟨W.heap.size,0,none⟩))) (W.alloc (.cells e.2.1 e.2.2))) ∨
 (isAlloc o=false∧Region.wanted o (yielded ops a.tmps)=true∧∀W,S W→HeldRes P W v ((execOp a.eval o).run P W)) ∨
 (isAlloc o=false∧Region.wanted o (yielded ops a.tmps)=false∧v=undef)
theorem YD_put {ks:List OVar}{o:Oper}{v:Value}{a:Act}{t:Option Tmp}{u:Value}(hs:∀cs b,o.op ≠ .select cs b)(h:∀d,t=some d→d∉o.looksAt ops):YD P ops S ks o v (a.put t u)↔YD P ops S ks o v a:=by
 unfold YD;rw[execOp_put o hs a t u h,wanted_put o a t u h]
theorem hdst_some {o:Oper}{d:Tmp}(h:hdst o=some d):o.dst=some d:=by
 unfold hdst at h;split at h
 ·cases h
 ·exact h
def dOp (P:Program)(ops:Array Oper)(S:World→Prop)(ks:List OVar)(i:Nat)(K:Act→Prop)(a:Act):Prop:=
 match ops[i]? with
 |none=>K a
 |some o=>∃v,YD P ops S ks o v a∧K (a.put (hdst o) v)
variable {ks:List OVar}
theorem dOp_of {i:Nat}{o:Oper}{v:Value}{a:Act}{K:Act→Prop}(hi:ops[i]?=some o)(hy:YD P ops S ks o v a)(h:K (a.put (hdst o) v)):dOp P ops S ks i K a:=by
 unfold dOp;simp only[hi];exact⟨v,hy,h⟩
theorem dOp_mono {i:Nat}{a:Act}{K K':Act→Prop}(h:∀a,K a→K' a)(hh:dOp P ops S ks i K a):dOp P ops S ks i K' a:=by
 unfold dOp at *
 split
 ·exact h _ (by simpa[*] using hh)
 ·rename_i o ho
  simp only[ho] at hh;obtain⟨v,h1,h2⟩:=hh;exact⟨v,h1,h _ h2⟩
theorem dOp_put {j:Nat}{oi oj:Oper}{v:Value}(hj:ops[j]?=some oj)(hap:oi.apart ops oj=true)
 (hsi:∀cs b,oi.op ≠ .select cs b) (hsj:∀cs b,oj.op ≠ .select cs b) {K:Act→Prop} {a:Act}
 (hy:YD P ops S ks oi v a) (h:dOp P ops S ks j K (a.put (hdst oi) v)):
 dOp P ops S ks j (fun a'=>YD P ops S ks oi v a'∧K (a'.put (hdst oi) v)) a:=by
 obtain⟨h1,h2,h3⟩:=Oper.apart_spec hap;unfold dOp at *;simp only[hj] at *;obtain⟨u,hu,hK⟩:=h;refine⟨u,(YD_put hsj (fun d hd=>h1 d (hdst_some hd))).1 hu,(YD_put hsi (fun d hd=>h3 d (hdst_some hd))).2 hy,?_⟩;rw[←Act.put_comm a v u (fun d hd he=>h2 d (hdst_some hd) (hdst_some he))];exact hK
def wpD (P:Program)(md:Region.Mode)(ops:Array Oper)(S:World→Prop)(ks:List OVar)(m:Nat)(L:Array Bool→Act→Prop):Nat→Array Bool→Act→Prop
 |0,listed,a=>L listed a
 |f+1,listed,a=>
  Region.ready md ops listed≠[]∧∀i∈Region.ready md ops listed,i<m∧dOp P ops S ks i (wpD P md ops S ks m L f (listed.setIfInBounds i true)) a
def tailOk (md:Region.Mode)(ops:Array Oper)(m:Nat):Bool:=m==ops.size||(decide (m<ops.size)&&Region.sinkB md ops m&&Region.chainB md ops m)
theorem tail_lt {m:Nat}{listed:Array Bool}(ht:tailOk md ops m=true)(inv:HeadInv md ops m listed){i:Nat}(hi:i<m)(hun:listed.getD i true=false){j:Nat}(hj:j∈Region.ready md ops listed):j<m:=by
 simp only[tailOk,Bool.or_eq_true,beq_iff_eq,Bool.and_eq_true,decide_eq_true_eq] at ht
 rcases ht with h|⟨⟨hn,hs⟩,hc⟩
 ·obtain⟨_,o,ho,_⟩:=mem_ready.1 hj;rw[h];exact(Array.getElem?_eq_some_iff.1 ho).1
 ·rcases Nat.lt_or_ge j m with h|h
  ·exact h
  ·exact absurd hj (tail_waits hs hc hn inv _ i rfl hi hun j h)
theorem wpD_first {m i:Nat}{oi:Oper}{v:Value}{L:Array Bool→Act→Prop}(hi:ops[i]?=some oi)(hsel:∀(j:Nat) (o:Oper) cs b,ops[j]?=some o→o.op ≠ .select cs b)
 (ht:tailOk md ops m=true) (hin:i<m)
 (hdone:∀listed a,L listed a→∀j∈Region.ready md ops listed,m≤j):
 ∀(f:Nat) (listed:Array Bool) (a:Act),HeadInv md ops m listed →
  (∀j oj,ops[j]?=some oj→j≠i→listed.getD j true=false→(∀e∈oj.after,Region.binds md e=true→e.on≠i)→oi.apart ops oj=true) →
  i∈Region.ready md ops listed→YD P ops S ks oi v a →
  wpD P md ops S ks m L f (listed.setIfInBounds i true) (a.put (hdst oi) v)→wpD P md ops S ks m L (f+1) listed a:=by
 intro f
 induction f with
 |zero=>
  intro listed a inv _ hr hy H;have hun:=(mem_ready.1 hr).1;refine⟨fun h=>(by rw[h] at hr;cases hr),fun j hj=>?_⟩;have hjn:j<m:=tail_lt ht inv hin hun hj;refine⟨hjn,?_⟩
  by_cases hji:j=i
  ·subst hji;exact dOp_of hi hy H
  ·have:=hdone _ _ H j (ready_mono hj hji)
   omega
 |succ f ih=>
  intro listed a inv hfree hr hy H;have hun:=(mem_ready.1 hr).1;refine⟨fun h=>(by rw[h] at hr;cases hr),fun j hj=>?_⟩;have hjn:j<m:=tail_lt ht inv hin hun hj;refine⟨hjn,?_⟩
  by_cases hji:j=i
  ·subst hji;exact dOp_of hi hy H
  ·have h1:=(H.2 j (ready_mono hj hji)).2;obtain⟨hjun,oj,hoj,hall⟩:=mem_ready.1 hj;have hnot:∀e∈oj.after,Region.binds md e=true→e.on≠i:=fun e he hb heq=>by
    have h1:=hall e he hb;rw[heq,getD_both hun] at h1;cases h1
   have h2:=dOp_put hoj (hfree j oj hoj hji hjun hnot) (fun cs b=>hsel i oi cs b hi) (fun cs b=>hsel j oj cs b hoj) hy h1;have hfree':∀k ok,ops[k]?=some ok→k≠i→(listed.setIfInBounds j true).getD k true=false →
    (∀e∈ok.after,Region.binds md e=true→e.on≠i)→oi.apart ops ok=true:=fun k ok hk hki hun hno=>by
    refine hfree k ok hk hki ?_ hno
    by_cases hjk:j=k
    ·subst hjk;exact hjun
    ·rw[getD_set_ne true hjk] at hun;exact hun
   refine dOp_mono (fun a' h3=>ih (listed.setIfInBounds j true) a' (inv.set hj hjn) hfree' (ready_mono hr (Ne.symm hji)) h3.1 ?_) h2;rw[Array.setIfInBounds_comm _ _ hji];exact h3.2
def held (P:Program)(ops:Array Oper)(S:World→Prop)(ks:List OVar)(fin:Act→Prop):List Oper→Act→Prop
 |[],a=>fin a
 |o::rest,a=>∃v,YD P ops S ks o v a∧held P ops S ks fin rest (a.put (hdst o) v)
theorem wpD_lex {m g:Nat}{fin:Act→Prop}(hsel:Region.noSelect ops=true)(ht:tailOk md ops m=true):
 ∀(l:List Oper) (k:Nat) (listed:Array Bool) (a:Act),(∀j,j<l.length→l[j]?=ops[k+j]?)→k+l.length=m→HeadInv md ops m listed→(∀i,i<k→i<ops.size→listed.getD i false=true) →
 Region.lexHead md ops g l.length k listed=true→held P ops S ks fin l a →
 wpD P md ops S ks m (fun listed' a'=>Region.seqB md ops g m listed'=true∧(∀i,i<m→i<ops.size→listed'.getD i false=true)∧fin a') l.length listed a
 |[],k,listed,a,_,hk,_,hl,hB,h=>by
  have:k=m:=by simpa using hk
  subst this;exact⟨by simpa[Region.lexHead] using hB,hl,h⟩
 |o::l,k,listed,a,hl,hk,inv,hls,hB,h=>by
  have h0:ops[k]?=some o:=by simpa using(hl 0 zS).symm
  simp only[List.length_cons,Region.lexHead,Bool.and_eq_true] at hB;obtain⟨⟨hr,hf⟩,hB'⟩:=hB;have hkn:k<m:=by simp only[List.length_cons] at hk;omega
  have hr':k∈Region.ready md ops listed:=by simpa using hr
  obtain⟨v,hy,hK⟩:=h;refine wpD_first h0 (Region.noSelect_spec hsel) ht hkn (fun listed' a' hL=>seqB_ready hL.1) l.length listed a inv (Region.free_spec h0 hf) hr' hy
   (wpD_lex hsel ht l (k+1) _ _ (fun j hj=>by have:=hl (j+1) zT;simpa[Nat.add_assoc,Nat.add_comm 1 j] using this) (by simp only[List.length_cons] at hk;omega) (inv.set hr' hkn) (fun i hi his=>?_) hB' hK)
  by_cases hik:k=i
  ·subst hik;have hlt:k<listed.size:=by rw[inv.size];exact his
   simp[hlt]
  ·exact getD_set_true (hls i zO his)
/-! what has been laid -/
def overs (a:Act)(σ:List (OVar×Nat)):Act:=σ.foldl (fun a e=>a.put (some e.1.1) (.pointer (some ⟨e.2,0,none⟩))) a
theorem overs_snoc (a:Act)(σ:List (OVar×Nat))(e:OVar×Nat):overs a (σ++[e])=(overs a σ).put (some e.1.1) (.pointer (some ⟨e.2,0,none⟩)):=by simp[overs,List.foldl_append]
theorem overs_put:∀(σ:List (OVar×Nat)) (a:Act) (t:Option Tmp) (v:Value),(∀e∈σ,t≠some e.1.1)→overs (a.put t v) σ=(overs a σ).put t v
 |[],_,_,_,_=>rfl
 |e::σ,a,t,v,h=>by
  show overs ((a.put t v).put (some e.1.1) _) σ=(overs (a.put (some e.1.1) _) σ).put t v
  rw[Act.put_comm a v _ (fun d hd he=>h e zS (by rw[hd,he])),overs_put σ _ t v (fun e' he'=>h e' (by simp[he']))]
theorem overs_perm {σ τ:List (OVar×Nat)}(h:σ.Perm τ):(σ.map (·.1.1)).Nodup→∀a,overs a σ=overs a τ:=by
 induction h with
 |nil=>intro _ a;rfl
 |cons x _ ih=>intro hn a;exact ih (by simp at hn;exact hn.2) _
 |swap x y l=>
  intro hn a;simp at hn
  show overs ((a.put _ _).put _ _) l=overs ((a.put _ _).put _ _) l
  rw[Act.put_comm a _ _ (fun d hd he=>hn.1.1 (by cases hd;exact Option.some.inj he.symm))]
 |trans h1 _ ih1 ih2=>intro hn a;rw[ih1 hn,ih2 ((h1.map (·.1.1)).nodup_iff.1 hn)]
def OkO (N:Nat)(σ:List (OVar×Nat))(W:World):Prop:=∀e∈σ,Box W e.2 e.1.2.1 e.1.2.2∧N≤e.2
theorem OkO.below {N:Nat}{σ:List (OVar×Nat)}{W W':World}(h:OkO N σ W)(hb:Below W.heap.size W W'):OkO N σ W':=fun e he=>⟨(h e he).1.below' hb,(h e he).2⟩
def cleanB (ops:Array Oper)(m:Nat):Bool:=(List.range m).all fun k=>match ops[k]? with
 |some ok=>!isAlloc ok||(List.range m).all fun i=>i==k||match ops[i]? with
  |some oi=>ok.apart ops oi
  |none=>true
 |none=>true
theorem clean_spec {m:Nat}(h:cleanB ops m=true){k i:Nat}{ok oi:Oper}(hk:k<m)(hi:i<m)(hok:ops[k]?=some ok)(hoi:ops[i]?=some oi)(ha:isAlloc ok=true)(hne:i≠k):ok.apart ops oi=true:=by
 have h1:=List.all_eq_true.1 h k (List.mem_range.2 hk);simp only[hok,ha,Bool.not_true,Bool.false_or] at h1;have h2:=List.all_eq_true.1 h1 i (List.mem_range.2 hi)
 simpa[hoi,hne] using h2
structure Laid (ops:Array Oper) (ks:List OVar) (m:Nat) (listed:Array Bool) (σ:List (OVar×Nat)):Prop where
 nodup:(σ.map (·.1.1)).Nodup
 mem:∀t,t∈σ.map (·.1.1)↔∃k o,k<m∧ops[k]?=some o∧isAlloc o=true∧listed.getD k false=true∧o.dst=some t
 inks:∀e∈σ,e.1∈ks
structure Stepper (P:Program) (md:Region.Mode) (ops:Array Oper) where
 step:Nat→(Act→World→Prop)→Act→World→Prop
 all:Nat→Array Bool→Act→World→Prop
 value:∀{i o a W v W' K},ops[i]?=some o→Region.wanted o (yielded ops a.tmps)=true→(execOp a.eval o).run P W = .ok (.value v) W'→K (a.put o.dst v) W'→step i K a W
 skip:∀{i o a W W' K},ops[i]?=some o→Region.wanted o (yielded ops a.tmps)=true→(execOp a.eval o).run P W = .ok .skip W'→K (a.put o.dst undef) W'→step i K a W
 enter:∀{i o a W f args W' v} {R:World→Prop} {K},ops[i]?=some o→Region.wanted o (yielded ops a.tmps)=true→(execOp a.eval o).run P W = .ok (.enter f args) W'→Calls P f args W' (fun e W''=>e = .returned v∧R W'')→(∀W'',R W''→K (a.put o.dst v) W'')→step i K a W
 unwanted:∀{i o a W K},ops[i]?=some o→Region.wanted o (yielded ops a.tmps)=false→K (a.put o.dst undef) W→step i K a W
 next:∀{f listed a W},Region.ready md ops listed≠[]→(∀i∈Region.ready md ops listed,step i (all f (listed.setIfInBounds i true)) a W)→all (f+1) listed a W
theorem overs_exec {o:Oper}(hs:∀cs b,o.op ≠ .select cs b):∀(σ:List (OVar×Nat)) (a:Act),(∀e∈σ,e.1.1∉o.looksAt ops)→execOp (overs a σ).eval o=execOp a.eval o∧Region.wanted o (yielded ops (overs a σ).tmps)=Region.wanted o (yielded ops a.tmps)
 |[],_,_=>⟨rfl,rfl⟩
 |e::σ,a,h=>by
  obtain⟨h1,h2⟩:=overs_exec hs σ (a.put (some e.1.1) (.pointer (some ⟨e.2,0,none⟩))) (fun e' he'=>h e' (by simp[he']));have h3:∀d,some e.1.1=some d→d∉o.looksAt ops:=fun d hd=>by cases hd;exact h e zS
  exact⟨h1.trans (execOp_put o hs a _ _ h3),h2.trans (wanted_put o a _ _ h3)⟩
theorem held_sound (T:Stepper P md ops){m g N:Nat}(hsel:Region.noSelect ops=true)(hclean:cleanB ops m=true)(hSc:∀W W',S W→Below W.heap.size W W'→S W')(hSN:∀W,S W→N≤W.heap.size)
 {L:Array Bool→Act→Prop} (hL:∀listed a σ W,L listed a→S W→OkO N σ W→Laid ops ks m listed σ→T.all g listed (overs a σ) W):
 ∀(f:Nat) (listed:Array Bool) (a:Act) (σ:List (OVar×Nat)) (W:World),listed.size=ops.size→wpD P md ops S ks m L f listed a→S W→OkO N σ W→Laid ops ks m listed σ→T.all (f+g) listed (overs a σ) W
 |0,listed,a,σ,W,_,h,hS,hO,hσ=>by rw[Nat.zero_add];exact hL _ _ _ _ h hS hO hσ
 |f+1,listed,a,σ,W,hsz,h,hS,hO,hσ=>by
  rw[show f+1+g=(f+g)+1 by omega];refine T.next h.1 fun i hi=>?_
  obtain⟨him,hd⟩:=h.2 i hi;obtain⟨hun,o,ho,_⟩:=mem_ready.1 hi;have hs:=fun cs b=>Region.noSelect_spec hsel i o cs b ho
  have hil:i<ops.size:=(Array.getElem?_eq_some_iff.1 ho).1;unfold dOp at hd;simp only[ho] at hd;obtain⟨v,hy,hK⟩:=hd;have hapart:∀e∈σ,∃ok:Oper,ok.apart ops o=true∧ok.dst=some e.1.1:=fun e he=>by
   obtain⟨k,ok,hk,hok,ha,hl,hdst⟩:=(hσ.mem e.1.1).1 (List.mem_map_of_mem he);have hne:i≠k:=fun e'=>by subst e';rw[getD_both hun] at hl;cases hl
   exact⟨ok,clean_spec hclean hk him hok ho ha hne,hdst⟩
  have hlook:∀e∈σ,e.1.1∉o.looksAt ops:=fun e he=>by
   obtain⟨ok,hap,hdst⟩:=hapart e he;exact(Oper.apart_spec hap).1 _ hdst
  have hdne:∀e∈σ,o.dst≠some e.1.1:=fun e he=>by
   obtain⟨ok,hap,hdst⟩:=hapart e he;exact(Oper.apart_spec hap).2.1 _ hdst
  obtain⟨hex,hwa⟩:=overs_exec hs σ a hlook;have hset:∀k,(listed.setIfInBounds i true).getD k false=true↔k=i∨listed.getD k false=true:=fun k=>by
   by_cases hki:i=k
   ·subst hki;have:i<listed.size:=by omega
    simp[this]
   ·rw[getD_set_ne false hki];exact⟨.inr,fun h=>h.resolve_left (fun e=>hki e.symm)⟩
  rcases hy with ⟨ha,rfl,hg,e,he,hde,hrun⟩|⟨ha,hw,hrun⟩|⟨ha,hw,hvu⟩
  ·-- an own variable
   have hput:a.put (hdst o) undef=a:=by unfold hdst;rw[if_pos ha];rfl
   rw[hput] at hK;have hw:Region.wanted o (yielded ops (overs a σ).tmps)=true:=by unfold Region.wanted;rw[hg]
   refine T.value ho hw (hrun _ _) ?_;have h1:(overs a σ).put o.dst (.pointer (some ⟨W.heap.size,0,none⟩))=overs a (σ++[(e,W.heap.size)]):=by rw[overs_snoc,hde]
   rw[h1];have hB:Below W.heap.size W (W.alloc (.cells e.2.1 e.2.2)):=(Below.refl _ W).alloc (Nat.le_refl _) _;refine held_sound T hsel hclean hSc hSN hL f _ a _ _ (by simp[hsz]) hK (hSc _ _ hS hB) ?_ ⟨?_,fun t=>?_,?_⟩
   ·intro e' he'
    rcases List.mem_append.1 he' with h2|h2
    ·exact hO.below hB e' h2
    ·simp at h2;subst h2;exact⟨Box.new _ _ _,hSN _ hS⟩
   ·rw[List.map_append,List.nodup_append];refine⟨hσ.nodup,by simp,fun t ht u hu heq=>?_⟩;simp at hu;subst heq;obtain⟨e',he',hte⟩:=List.mem_map.1 ht;exact hdne e' he' (by rw[hde,hte,hu])
   ·rw[List.map_append,List.mem_append,hσ.mem];constructor
    ·rintro (⟨k,ok,h1,h2,h3,h4,h5⟩|h2)
     ·exact⟨k,ok,h1,h2,h3,(hset k).2 (.inr h4),h5⟩
     ·simp at h2;subst h2;exact⟨i,o,him,ho,ha,(hset i).2 (.inl rfl),hde⟩
    ·rintro⟨k,ok,h1,h2,h3,h4,h5⟩
     rcases (hset k).1 h4 with rfl|h4
     ·rw[ho] at h2;cases h2;rw[hde] at h5;cases h5;exact .inr zS
     ·exact .inl ⟨k,ok,h1,h2,h3,h4,h5⟩
   ·intro e' he'
    rcases List.mem_append.1 he' with h2|h2
    ·exact hσ.inks e' h2
    ·simp at h2;subst h2;exact he
  all_goals
   have hput:a.put (hdst o) v=a.put o.dst v:=by unfold hdst;rw[if_neg (by simp[ha])]
   have hσ':Laid ops ks m (listed.setIfInBounds i true) σ:=⟨hσ.nodup,fun t=>by
    rw[hσ.mem];constructor
    ·rintro⟨k,ok,h1,h2,h3,h4,h5⟩;exact⟨k,ok,h1,h2,h3,(hset k).2 (.inr h4),h5⟩
    ·rintro⟨k,ok,h1,h2,h3,h4,h5⟩
     rcases (hset k).1 h4 with rfl|h4
     ·rw[ho] at h2;cases h2;rw[ha] at h3;cases h3
     ·exact⟨k,ok,h1,h2,h3,h4,h5⟩,hσ.inks⟩
   rw[hput] at hK;have hgo:∀W',S W'→OkO N σ W'→T.all (f+g) (listed.setIfInBounds i true) ((overs a σ).put o.dst v) W':=fun W' hS' hO'=>by
    rw[←overs_put σ a o.dst v hdne];exact held_sound T hsel hclean hSc hSN hL f _ _ σ W' (by simp[hsz]) hK hS' hO' hσ'
  ·have hr:=hrun W hS;rw[←hex] at hr;rw[←hwa] at hw;generalize hq:(execOp (overs a σ).eval o).run P W=r at hr;cases r with
   |ok x W'=>
    cases x<;>simp only[HeldRes] at hr
    case value u=>obtain⟨rfl,rfl⟩:=hr;exact T.value ho hw hq (hgo _ hS hO)
    case skip=>obtain⟨rfl,rfl⟩:=hr;exact T.skip ho hw hq (hgo _ hS hO)
    case enter f' args=>obtain⟨rfl,hc⟩:=hr;exact T.enter ho hw hq hc (fun W'' hb=>hgo W'' (hSc _ _ hS hb) (hO.below hb))
   |halt x W'=>simp only[HeldRes] at hr
  ·rw[←hwa] at hw;rw[hvu] at hgo;exact T.unwanted ho hw (hgo _ hS hO)
def allocDsts (ops:Array Oper)(m:Nat):List Tmp:=(List.range m).filterMap fun k=>match ops[k]? with
 |some o=>if isAlloc o then o.dst else none
 |none=>none
theorem key_inj:∀(ks:List OVar),(ks.map (·.1)).Nodup→∀e∈ks,∀e'∈ks,e.1=e'.1→e=e'
 |[],_,_,he,_,_,_=>by cases he
 |x::l,hn,e,he,e',he',heq=>by
  simp only[List.map_cons,List.nodup_cons] at hn
  rcases List.mem_cons.1 he with h1|h1
  ·rcases List.mem_cons.1 he' with h2|h2
   ·rw[h1,h2]
   ·exact absurd (h1▸heq▸List.mem_map_of_mem (f:=(·.1)) h2) hn.1
  ·rcases List.mem_cons.1 he' with h2|h2
   ·exact absurd (h2▸heq▸List.mem_map_of_mem (f:=(·.1)) h1) hn.1
   ·exact key_inj l hn.2 e h1 e' h2 heq
theorem perm_lift {α β:Type}{f:α→β}{l ks:List β}(h:l.Perm ks):∀σ:List α,σ.map f=l→∃τ,σ.Perm τ∧τ.map f=ks:=by
 induction h with
 |nil=>intro σ h;exact⟨σ,.refl _,h⟩
 |cons x _ ih=>
  intro σ h;cases σ with
  |nil=>cases h
  |cons a σ=>
   simp only[List.map_cons,List.cons.injEq] at h;obtain⟨τ,h1,h2⟩:=ih σ h.2;exact⟨a::τ,h1.cons a,by simp[h.1,h2]⟩
 |swap x y l=>
  intro σ h
  match σ,h with
  |a::b::σ,h=>
   simp only[List.map_cons,List.cons.injEq] at h;exact⟨b::a::σ,.swap b a σ,by simp[h]⟩
 |trans _ _ ih1 ih2=>
  intro σ h;obtain⟨τ,h1,h2⟩:=ih1 σ h;obtain⟨ρ,h3,h4⟩:=ih2 τ h2;exact⟨ρ,h1.trans h3,h4⟩
theorem nodup_of_map {α β:Type}(f:α→β):∀l:List α,(l.map f).Nodup→l.Nodup
 |[],_=>List.nodup_nil
 |x::l,h=>by
  simp only[List.map_cons,List.nodup_cons] at h ⊢;exact⟨fun hx=>h.1 (List.mem_map_of_mem hx),nodup_of_map f l h.2⟩
theorem laid_all {m:Nat}{listed:Array Bool}{σ:List (OVar×Nat)}(h:Laid ops ks m listed σ)(hl:∀i,i<m→i<ops.size→listed.getD i false=true)(hk:allocDsts ops m=ks.map (·.1))(hn:(ks.map (·.1)).Nodup):
 ∃τ,σ.Perm τ∧τ.map (·.1)=ks:=by
 have hmem:∀t,t∈σ.map (·.1.1)↔t∈ks.map (·.1):=fun t=>by
  rw[h.mem,←hk,allocDsts,List.mem_filterMap];constructor
  ·rintro⟨k,o,h1,h2,h3,_,h5⟩;exact⟨k,List.mem_range.2 h1,by simp[h2,h3,h5]⟩
  ·rintro⟨k,h1,h2⟩;have h1:=List.mem_range.1 h1;cases ho:ops[k]? with
   |none=>simp[ho] at h2
   |some o=>
    simp only[ho] at h2
    split at h2
    ·rename_i ha
     exact⟨k,o,h1,ho,ha,hl k h1 (Array.getElem?_eq_some_iff.1 ho).1,h2⟩
    ·cases h2
 have hn1:(σ.map (·.1)).Nodup:=nodup_of_map (·.1) _ (by rw[List.map_map];exact h.nodup);refine perm_lift ((List.perm_ext_iff_of_nodup hn1 (nodup_of_map (·.1) _ hn)).2 fun e=>⟨fun he=>?_,fun he=>?_⟩) σ rfl
 ·obtain⟨x,hx,rfl⟩:=List.mem_map.1 he;exact h.inks x hx
 ·obtain⟨x,hx,hxe⟩:=List.mem_map.1 ((hmem e.1).2 (List.mem_map_of_mem he));rw[←key_inj ks hn _ (h.inks x hx) _ he hxe];exact List.mem_map_of_mem hx
theorem overs_laid {m:Nat}{listed:Array Bool}{σ:List (OVar×Nat)}{N:Nat}{W:World}{fin:Act→World→Prop}{a:Act}(h:Laid ops ks m listed σ)(hl:∀i,i<m→i<ops.size→listed.getD i false=true)(hk:allocDsts ops m=ks.map (·.1))(hn:(ks.map (·.1)).Nodup)
 (hO:OkO N σ W) (hf:∀τ:List (OVar×Nat),τ.map (·.1)=ks→OkO N τ W→fin (overs a τ) W):fin (overs a σ) W:=by
 obtain⟨τ,h1,h2⟩:=laid_all h hl hk hn;rw[overs_perm h1 h.nodup a];exact hf τ h2 fun e he=>hO e (h1.mem_iff.2 he)
def plainStepper (P:Program)(md:Region.Mode)(ops:Array Oper)(Q:Exit→Act→World→Prop):Stepper P md ops where
 step:=wpOp P ops Q
 all:=wpAny P md ops Q
 value:=fun {i o a W v W' K} ho hw hr hk=>by unfold wpOp;simp only[ho,hw,if_true];exact .inl (by unfold Oper.wp;rw[hr];exact hk)
 skip:=fun {i o a W W' K} ho hw hr hk=>by unfold wpOp;simp only[ho,hw,if_true];exact .inl (by unfold Oper.wp;rw[hr];exact hk)
 enter:=fun {i o a W f args W' v R K} ho hw hr hc hk=>by
  unfold wpOp;simp only[ho,hw,if_true];exact .inl (by unfold Oper.wp;rw[hr];exact hc.mono fun e w'' ⟨he,hw⟩=>by subst he;exact hk _ hw)
 unwanted:=fun {i o a W K} ho hw hk=>by unfold wpOp;simp only[ho,hw];exact hk
 next:=fun {f listed a W} h0 h=>⟨fun h1=>absurd h1 h0,h⟩
def heldOk (md:Region.Mode)(ops:Array Oper)(m:Nat):Bool:=
 Region.noSelect ops&&decide (m≤ops.size)&&tailOk md ops m&&cleanB ops m&&Region.lexHead md ops (ops.size-m) m 0 (Array.replicate ops.size false)
theorem held_all (T:Stepper P md ops){l:List Oper}(hl:ops=l.toArray){m N:Nat}{tail:Act→World→Prop}(hB:heldOk md ops m=true)(hk:allocDsts ops m=ks.map (·.1))(hn:(ks.map (·.1)).Nodup)
 (hSc:∀W W',S W→Below W.heap.size W W'→S W') (hSN:∀W,S W→N≤W.heap.size)
 (hT:∀listed a W,Region.seqB md ops (ops.size-m) m listed=true→tail a W→T.all (ops.size-m) listed a W) {a:Act} {W:World} (hS:S W)
 (h:held P ops S ks (fun a'=>∀τ:List (OVar×Nat),τ.map (·.1)=ks→∀W,S W→OkO N τ W→tail (overs a' τ) W) (l.take m) a):T.all ops.size (Array.replicate ops.size false) a W:=by
 simp only[heldOk,Bool.and_eq_true,decide_eq_true_eq] at hB;obtain⟨⟨⟨⟨hsel,hm⟩,ht⟩,hc⟩,hlex⟩:=hB;have hml:m≤l.length:=by rw[hl] at hm;simpa using hm
 have htl:(l.take m).length=m:=by simp;omega
 have inv0:HeadInv md ops m (Array.replicate ops.size false):=
  ⟨by simp,fun j oj _ hl=>(by rw[getD_replicate_false] at hl;cases hl),fun t _ ht=>getD_in (by simpa using ht) (getD_replicate_false _ _)⟩
 have H:=wpD_lex (md:=md) (g:=ops.size-m) hsel ht (l.take m) 0 _ a (fun j hj=>by
  have hj':j<m:=by rw[htl] at hj;exact hj
  rw[hl];simp[hj']) (by simpa using htl) inv0 (fun i hi=>absurd hi (Nat.not_lt_zero i)) (by rw[htl];exact hlex) h
 have:=held_sound T (g:=ops.size-m) hsel hc hSc hSN (fun listed a σ W hL hS hO hσ=>hT listed _ W hL.1 (overs_laid (fin:=tail) hσ hL.2.1 hk hn hO (fun τ h1 h2=>hL.2.2 τ h1 W hS h2))) _ _ a [] W zS H hS (fun e he=>by cases he)
  ⟨by simp,fun t=>⟨fun h=>by simp at h,fun⟨k,o,_,_,_,h4,_⟩=>by rw[getD_replicate_false] at h4;cases h4⟩,fun e he=>by cases he⟩
 rw[htl,show m+(ops.size-m)=ops.size by omega] at this;exact this
end
section
variable {P:Program}{S:World→Prop}
theorem wp_region_held {id:Nat}{Q:Exit→Act→World→Prop}{a:Act}{w:World}{l:List Oper}(m:Nat)(ks:List OVar)(N:Nat)(S:World→Prop)(hm:P.follows .mixedOrders=true)(hB:heldOk .any l.toArray m=true)(hk:allocDsts l.toArray m=ks.map (·.1))(hn:(ks.map (·.1)).Nodup)
 (hSc:∀W W',S W→Below W.heap.size W W'→S W') (hSN:∀W,S W→N≤W.heap.size) (hS:S w.drew)
 (h:held P l.toArray S ks (fun a'=>∀τ:List (OVar×Nat),τ.map (·.1)=ks→∀W,S W→OkO N τ W→wpList P l.toArray Q (l.drop m) (overs a' τ) W) (l.take m) a):(Code.region id l.toArray true).wp P Q a w:=by
 have hml:m≤l.length:=by
  simp only[heldOk,Bool.and_eq_true,decide_eq_true_eq] at hB;simpa using hB.1.1.1.2
 have hdl:(l.drop m).length=l.toArray.size-m:=by simp
 refine wp_region_any hm (held_all (plainStepper P .any l.toArray Q) rfl hB hk hn hSc hSN (tail:=fun a W=>wpList P l.toArray Q (l.drop m) a W) (fun listed a' W hL ht=>?_) hS h);have:=wpAny_of_seq (md:=.any) (Q':=Q) (l.drop m) m listed a' W (fun j=>by simp[List.getElem?_drop]) (by rw[hdl];exact hL) ht
 rwa [hdl] at this
theorem wp_region_heldB {id:Nat}{Q:Exit→Act→World→Prop}{a:Act}{w:World}{l:List Oper}(m:Nat)(ks:List OVar)(hm:P.follows .mixedOrders=true)(hB:heldOk .any l.toArray m=true)(hk:allocDsts l.toArray m=ks.map (·.1))(hn:(ks.map (·.1)).Nodup)
 (h:∀S:World→Prop,(∀W,S W→Below w.heap.size w W)→held P l.toArray S ks (fun a'=>∀τ:List (OVar×Nat),τ.map (·.1)=ks→∀W,S W→OkO w.heap.size τ W→wpList P l.toArray Q (l.drop m) (overs a' τ) W) (l.take m) a):(Code.region id l.toArray true).wp P Q a w:=
 wp_region_held m ks w.heap.size (fun W=>Below w.heap.size w W) hm hB hk hn (fun _ _ h hb=>h.trans (hb.mono h.size)) (fun _ h=>h.size) (Below.refl _ _).drew (h _ fun _ h=>h)
variable {ops:Array Oper}{ks:List OVar}{fin:Act→Prop}{o:Oper}{rest:List Oper}{a:Act}
theorem held_val {v:Value}(hna:isAlloc o=false)(hw:Region.wanted o (yielded ops a.tmps)=true)(hr:∀W,S W→(execOp a.eval o).run P W = .ok (.value v) W)(h:held P ops S ks fin rest (a.put o.dst v)):held P ops S ks fin (o::rest) a:=
 ⟨v,.inr (.inl ⟨hna,hw,fun W hS=>by rw[hr W hS];exact⟨rfl,rfl⟩⟩),by unfold hdst;rw[if_neg (by simp[hna])];exact h⟩
theorem held_skip (hna:isAlloc o=false)(hw:Region.wanted o (yielded ops a.tmps)=true)(hr:∀W,S W→(execOp a.eval o).run P W = .ok .skip W)(h:held P ops S ks fin rest (a.put o.dst undef)):held P ops S ks fin (o::rest) a:=
 ⟨undef,.inr (.inl ⟨hna,hw,fun W hS=>by rw[hr W hS];exact⟨rfl,rfl⟩⟩),by unfold hdst;rw[if_neg (by simp[hna])];exact h⟩
theorem held_call {v:Value}{f:FuncId}{args:Array Value}(hna:isAlloc o=false)(hw:Region.wanted o (yielded ops a.tmps)=true)(hr:∀W,S W→(execOp a.eval o).run P W = .ok (.enter f args) W)
 (hc:∀W,S W→Calls P f args W fun e W'=>e = .returned v∧Below W.heap.size W W') (h:held P ops S ks fin rest (a.put o.dst v)):held P ops S ks fin (o::rest) a:=
 ⟨v,.inr (.inl ⟨hna,hw,fun W hS=>by rw[hr W hS];exact⟨rfl,hc W hS⟩⟩),by unfold hdst;rw[if_neg (by simp[hna])];exact h⟩
theorem held_not (hna:isAlloc o=false)(hw:Region.wanted o (yielded ops a.tmps)=false)(h:held P ops S ks fin rest (a.put o.dst undef)):held P ops S ks fin (o::rest) a:=
 ⟨undef,.inr (.inr ⟨hna,hw,rfl⟩),by unfold hdst;rw[if_neg (by simp[hna])];exact h⟩
theorem held_own {e:OVar}(ha:isAlloc o=true)(hg:o.guard=none)(he:e∈ks)(hd:o.dst=some e.1)(hr:∀(b:Act) (W:World),(execOp b.eval o).run P W = .ok (.value (.pointer (some ⟨W.heap.size,0,none⟩))) (W.alloc (.cells e.2.1 e.2.2)))
 (h:held P ops S ks fin rest a):held P ops S ks fin (o::rest) a:=
 ⟨undef,.inl ⟨ha,rfl,hg,e,he,hd,hr⟩,by unfold hdst;rw[if_pos ha];exact h⟩
theorem held_load {v p:Value}(ty:TypeId)(x:Operand)(hw:Region.wanted o (yielded ops a.tmps)=true)(ho:o.op = .load ty x)(hx:a.eval x=p)(hr:∀W,S W→(Instr.loadAt ty p).run P W = .ok v W)(h:held P ops S ks fin rest (a.put o.dst v)):held P ops S ks fin (o::rest) a:=
 held_val (by unfold isAlloc;rw[ho]) hw (fun W hS=>by unfold execOp;simp only[ho,hx,Sem.run_bind,hr W hS,Result.andThen_ok,Sem.run_pure]) h
theorem laid0 {τ:List (OVar×Nat)}(h:τ.map (·.1)=[]):τ=[]:=by simpa using h
theorem laid1 {τ:List (OVar×Nat)}{e:OVar}(h:τ.map (·.1)=[e]):∃g,τ=[(e,g)]:=by
 match τ,h with
 |[x],h=>simp at h;subst h;exact⟨x.2,rfl⟩
theorem OkO.one {N:Nat}{e:OVar}{g:Nat}{W:World}(h:OkO N [(e,g)] W):Box W g e.2.1 e.2.2∧N≤g:=h (e,g) zS
theorem held_nil (h:fin a):held P ops S ks fin [] a:=h
end
end
section
section
variable {P:Program}{md:Region.Mode}{ops:Array Oper}{Q:Exit→Act→World→Prop}{S:World→Prop}{m:Nat}
def wpAnyL (P:Program)(md:Region.Mode)(ops:Array Oper)(Q:Exit→Act→World→Prop)(S:World→Prop)(m:Nat):Nat→Array Bool→Act→World→Prop
 |0,listed,a,w=>Region.ready md ops listed=[]∧Q .normal a w
 |fuel+1,listed,a,w=>
  (Region.ready md ops listed=[]→Q .normal a w) ∧
  ∀i∈Region.ready md ops listed,wpOp P ops Q i (fun a' w'=>(i=m∨S w')∧wpAnyL P md ops Q S m fuel (listed.setIfInBounds i true) a' w') a w
theorem wpAny_of_L:∀(fuel:Nat) (listed:Array Bool) (a:Act) (w:World),wpAnyL P md ops Q S m fuel listed a w→wpAny P md ops Q fuel listed a w
 |0,_,_,_,h=>h
 |fuel+1,_,_,_,h=>⟨h.1,fun i hi=>wpOp_mono (fun a' w' h'=>wpAny_of_L fuel _ a' w' h'.2) (h.2 i hi)⟩
def sinkL (md:Region.Mode)(ops:Array Oper)(m:Nat):Bool:=match ops[m]? with
 |none=>true
 |some o=>(List.range ops.size).all fun i=>i==m||o.after.any fun e=>Region.binds md e&&e.on==i
theorem sinkL_spec (hs:sinkL md ops m=true){listed:Array Bool}{i:Nat}(hi:i∈Region.ready md ops listed)(him:i≠m):m∉Region.ready md ops listed:=fun hm=>by
 obtain⟨_,om,hom,hall⟩:=mem_ready.1 hm;obtain⟨hun,oi,hoi,_⟩:=mem_ready.1 hi;unfold sinkL at hs;simp only[hom,List.all_eq_true,List.mem_range] at hs;have h1:=hs i (Array.getElem?_eq_some_iff.1 hoi).1;simp only[Bool.or_eq_true,beq_iff_eq,him,false_or] at h1;obtain⟨k,hk,hb,hon⟩:∃(k:Nat) (hk:k<om.after.size),Region.binds md om.after[k]=true∧om.after[k].on=i:=by simpa using h1
 have h3:=hall om.after[k] (Array.getElem_mem hk) hb;rw[hon] at h3
 rcases Nat.lt_or_ge i listed.size with h'|h'
 ·simp[h'] at hun h3;rw[hun] at h3;cases h3
 ·simp[Array.getElem?_eq_none h'] at h3
theorem wpAnyL_first {i:Nat}{oi:Oper}{v:Value}(hsk:sinkL md ops m=true)(him:i≠m)(hi:ops[i]?=some oi)(hsel:∀(j:Nat) (o:Oper) cs b,ops[j]?=some o→o.op ≠ .select cs b)
 (hQ:∀c a w,Q (.panic c) (a.put oi.dst v) w→Q (.panic c) a w):
 ∀(fuel:Nat) (listed:Array Bool) (a:Act) (w:World),
  (∀j oj,ops[j]?=some oj→j≠i→listed.getD j true=false→(∀e∈oj.after,Region.binds md e=true→e.on≠i)→oi.apart ops oj=true) →
  i∈Region.ready md ops listed→YieldsIf P ops S oi v a→S w →
  wpAnyL P md ops Q S m fuel (listed.setIfInBounds i true) (a.put oi.dst v) w→wpAnyL P md ops Q S m (fuel+1) listed a w:=by
 intro fuel
 induction fuel with
 |zero=>
  intro listed a w _ hr hy hS H;refine⟨fun h=>(by rw[h] at hr;cases hr),fun j hj=>?_⟩
  by_cases hji:j=i
  ·subst hji;exact hy.wpOp hi hS ⟨.inr hS,H⟩
  ·have:=ready_mono hj hji;rw[H.1] at this;cases this
 |succ fuel ih=>
  intro listed a w hfree hr hy hS H;refine⟨fun h=>(by rw[h] at hr;cases hr),fun j hj=>?_⟩
  by_cases hji:j=i
  ·subst hji;exact hy.wpOp hi hS ⟨.inr hS,H⟩
  ·have h1:=H.2 j (ready_mono hj hji);have hjm:j≠m:=fun h=>sinkL_spec hsk hr him (h▸hj)
   obtain⟨hjun,oj,hoj,hall⟩:=mem_ready.1 hj;have hnot:∀e∈oj.after,Region.binds md e=true→e.on≠i:=fun e he hb heq=>by
    have h1:=hall e he hb;have h0:=(mem_ready.1 hr).1;rw[heq] at h1
    rcases Nat.lt_or_ge i listed.size with h'|h'
    ·simp[h'] at h0 h1;rw[h0] at h1;cases h1
    ·simp[Array.getElem?_eq_none h'] at h1
   have h2:=wpOp_putIf hoj (hfree j oj hoj hji hjun hnot) (fun cs b=>hsel i oi cs b hi) (fun cs b=>hsel j oj cs b hoj) hQ hy h1;have hfree':∀k ok,ops[k]?=some ok→k≠i→(listed.setIfInBounds j true).getD k true=false →
    (∀e∈ok.after,Region.binds md e=true→e.on≠i)→oi.apart ops ok=true:=fun k ok hk hki hun hno=>by
    refine hfree k ok hk hki ?_ hno
    by_cases hjk:j=k
    ·subst hjk;exact hjun
    ·rw[getD_set_ne true hjk] at hun;exact hun
   refine wpOp_mono (fun a' w' h3=>?_) h2;have hSw:S w':=h3.2.1.resolve_left hjm;refine⟨.inr hSw,ih (listed.setIfInBounds j true) a' w' hfree' (ready_mono hr (Ne.symm hji)) h3.1 hSw ?_⟩;rw[Array.setIfInBounds_comm _ _ hji];exact h3.2.2
theorem at_list {i:Nat}{o:Oper}(h:ops.toList[i]?=some o):ops[i]?=some o:=by simpa using h
theorem anyL_take {i:Nat}{oi:Oper}{v:Value}{fuel:Nat}{listed:Array Bool}{a:Act}{w:World}(hsk:sinkL md ops m=true)(hi:ops.toList[i]?=some oi)(him:(i != m)=true)
 (hs:Region.noSelect ops=true) (hf:Region.free md ops listed i=true) (hr:(Region.ready md ops listed).contains i=true)
 (hQ:∀c a w,Q (.panic c) (a.put oi.dst v) w→Q (.panic c) a w) (hw:Region.wanted oi (yielded ops a.tmps)=true) (hy:∀W,S W→(execOp a.eval oi).run P W = .ok (.value v) W) (hS:S w)
 (h:wpAnyL P md ops Q S m fuel (listed.setIfInBounds i true) (a.put oi.dst v) w):wpAnyL P md ops Q S m (fuel+1) listed a w:=
 wpAnyL_first hsk (by simpa using him) (at_list hi) (Region.noSelect_spec hs) hQ fuel listed a w (Region.free_spec (at_list hi) hf) (by simpa using hr) (.inl ⟨hw,hy⟩) hS h
theorem anyL_load {i:Nat}{oi:Oper}{v p:Value}(ty:TypeId)(x:Operand){fuel:Nat}{listed:Array Bool}{a:Act}{w:World}(hsk:sinkL md ops m=true)(hi:ops.toList[i]?=some oi)(him:(i != m)=true)
 (hs:Region.noSelect ops=true) (hf:Region.free md ops listed i=true) (hr:(Region.ready md ops listed).contains i=true)
 (hQ:∀c a w,Q (.panic c) (a.put oi.dst v) w→Q (.panic c) a w) (hw:Region.wanted oi (yielded ops a.tmps)=true) (ho:oi.op = .load ty x) (hx:a.eval x=p) (hy:∀W,S W→(Instr.loadAt ty p).run P W = .ok v W) (hS:S w)
 (h:wpAnyL P md ops Q S m fuel (listed.setIfInBounds i true) (a.put oi.dst v) w):wpAnyL P md ops Q S m (fuel+1) listed a w:=
 anyL_take hsk hi him hs hf hr hQ hw (fun W hS=>by unfold execOp;simp only[ho,hx,Sem.run_bind,hy W hS,Result.andThen_ok,Sem.run_pure]) hS h
theorem anyL_not {i:Nat}{oi:Oper}{fuel:Nat}{listed:Array Bool}{a:Act}{w:World}(hsk:sinkL md ops m=true)(hi:ops.toList[i]?=some oi)(him:(i != m)=true)
 (hs:Region.noSelect ops=true) (hf:Region.free md ops listed i=true) (hr:(Region.ready md ops listed).contains i=true)
 (hQ:∀c a w,Q (.panic c) (a.put oi.dst undef) w→Q (.panic c) a w) (hw:Region.wanted oi (yielded ops a.tmps)=false) (hS:S w)
 (h:wpAnyL P md ops Q S m fuel (listed.setIfInBounds i true) (a.put oi.dst undef) w):wpAnyL P md ops Q S m (fuel+1) listed a w:=
 wpAnyL_first hsk (by simpa using him) (at_list hi) (Region.noSelect_spec hs) hQ fuel listed a w (Region.free_spec (at_list hi) hf) (by simpa using hr) (.inr ⟨hw,rfl⟩) hS h
theorem anyL_done {listed:Array Bool}{a:Act}{w:World}(hr:Region.ready md ops listed=[])(h:Q .normal a w):
 ∀fuel,wpAnyL P md ops Q S m fuel listed a w
 |0=>⟨hr,h⟩
 |_+1=>⟨fun _=>h,by rw[hr];simp⟩
theorem anyL_run {i:Nat}{oi:Oper}{v:Value}{fuel:Nat}{listed:Array Bool}{a:Act}{w w':World}(hi:ops.toList[i]?=some oi)(hr:Region.ready md ops listed=[i])(hw:Region.wanted oi (yielded ops a.tmps)=true)
 (he:(execOp a.eval oi).run P w = .ok (.value v) w') (hS:i=m∨S w') (h:wpAnyL P md ops Q S m fuel (listed.setIfInBounds i true) (a.put oi.dst v) w'):wpAnyL P md ops Q S m (fuel+1) listed a w:=by
 replace hi:=at_list hi;refine⟨fun h0=>absurd (hr▸h0) zS,fun j hj=>?_⟩;rw[hr] at hj;obtain rfl:j=i:=by simpa using hj
 unfold wpOp;simp only[hi,hw,if_true];exact .inl (by unfold Oper.wp;rw[he];exact⟨hS,h⟩)
theorem anyL_skip {i:Nat}{oi:Oper}{fuel:Nat}{listed:Array Bool}{a:Act}{w w':World}(hi:ops.toList[i]?=some oi)(hr:Region.ready md ops listed=[i])(hw:Region.wanted oi (yielded ops a.tmps)=true)
 (he:(execOp a.eval oi).run P w = .ok .skip w') (hS:i=m∨S w') (h:wpAnyL P md ops Q S m fuel (listed.setIfInBounds i true) (a.put oi.dst undef) w'):wpAnyL P md ops Q S m (fuel+1) listed a w:=by
 replace hi:=at_list hi;refine⟨fun h0=>absurd (hr▸h0) zS,fun j hj=>?_⟩;rw[hr] at hj;obtain rfl:j=i:=by simpa using hj
 unfold wpOp;simp only[hi,hw,if_true];exact .inl (by unfold Oper.wp;rw[he];exact⟨hS,h⟩)
theorem anyL_call {i:Nat}{oi:Oper}{f:FuncId}{args:Array Value}{fuel:Nat}{listed:Array Bool}{a:Act}{w:World}{R:Ending→World→Prop}(hi:ops.toList[i]?=some oi)(hr:Region.ready md ops listed=[i])(hw:Region.wanted oi (yielded ops a.tmps)=true)
 (he:(execOp a.eval oi).run P w = .ok (.enter f args) w) (hc:Calls P f args w R)
 (h:∀e w',R e w'→(∃v,e = .returned v∧(i=m∨S w')∧wpAnyL P md ops Q S m fuel (listed.setIfInBounds i true) (a.put oi.dst v) w')∨(∃c,e = .panicked c∧Q (.panic c) a w')):wpAnyL P md ops Q S m (fuel+1) listed a w:=by
 replace hi:=at_list hi;refine⟨fun h0=>absurd (hr▸h0) zS,fun j hj=>?_⟩;rw[hr] at hj;obtain rfl:j=i:=by simpa using hj
 unfold wpOp;simp only[hi,hw,if_true];refine .inl ?_;unfold Oper.wp;rw[he];refine Calls.mono hc fun e w' hR=>?_
 rcases h e w' hR with ⟨v,rfl,h1,h2⟩|⟨c,rfl,h1⟩
 ·exact⟨h1,h2⟩
 ·exact h1
theorem anyL_two {i j:Nat}{fuel:Nat}{listed:Array Bool}{a:Act}{w:World}(hr:Region.ready md ops listed=[i,j])
 (h1:wpOp P ops Q i (fun a' w'=>(i=m∨S w')∧wpAnyL P md ops Q S m fuel (listed.setIfInBounds i true) a' w') a w)
 (h2:wpOp P ops Q j (fun a' w'=>(j=m∨S w')∧wpAnyL P md ops Q S m fuel (listed.setIfInBounds j true) a' w') a w):wpAnyL P md ops Q S m (fuel+1) listed a w:=by
 refine⟨fun h0=>absurd (hr▸h0) zS,fun k hk=>?_⟩;rw[hr] at hk;simp only[List.mem_cons,List.not_mem_nil,or_false] at hk
 rcases hk with rfl|rfl
 ·exact h1
 ·exact h2
theorem wpOp_run {i:Nat}{oi:Oper}{v:Value}{a:Act}{w w':World}{K:Act→World→Prop}(hi:ops.toList[i]?=some oi)(hw:Region.wanted oi (yielded ops a.tmps)=true)
 (he:(execOp a.eval oi).run P w = .ok (.value v) w') (h:K (a.put oi.dst v) w'):wpOp P ops Q i K a w:=by
 replace hi:=at_list hi;unfold wpOp;simp only[hi,hw,if_true];exact .inl (by unfold Oper.wp;rw[he];exact h)
theorem wpOp_call {i:Nat}{oi:Oper}{f:FuncId}{args:Array Value}{a:Act}{w:World}{R:Ending→World→Prop}{K:Act→World→Prop}(hi:ops.toList[i]?=some oi)(hw:Region.wanted oi (yielded ops a.tmps)=true)
 (he:(execOp a.eval oi).run P w = .ok (.enter f args) w) (hc:Calls P f args w R) (h:∀e w',R e w'→∃v,e = .returned v∧K (a.put oi.dst v) w'):wpOp P ops Q i K a w:=by
 replace hi:=at_list hi;unfold wpOp;simp only[hi,hw,if_true];refine .inl ?_;unfold Oper.wp;rw[he];refine Calls.mono hc fun e w' hR=>?_
 obtain⟨v,rfl,h1⟩:=h e w' hR;exact h1
theorem exec_app {o:Oper}{a:Act}{w w':World}(s x:Operand)(t:TypeId)(hop:o.op = .call {callee:=.builtin .append,args:=#[s,x],argTypes:=#[t,t]}){v u v':Value}(hs:a.eval s=v)(hx:a.eval x=u)
 (hrun:(Builtin.append_ #[t,t] o.type #[v,u]).run P w = .ok v' w'):(execOp a.eval o).run P w = .ok (.value v') w':=by
 unfold execOp;simp only[hop,resolve,invoke,builtin,Sem.run_bind,Sem.run_pure,Result.andThen_ok,List.map_toArray,List.map_cons,List.map_nil,hs,hx,hrun]
theorem wp_region_L {id:Nat}{a:Act}{w:World}(S:World→Prop)(m:Nat)(hm:P.follows .mixedOrders=true)(h:wpAnyL P .any ops Q S m ops.size (Array.replicate ops.size false) a w.drew):(Code.region id ops true).wp P Q a w:=
 wp_region_any hm (wpAny_of_L _ _ _ _ h)
theorem wpIn_region_L_round {l n:Nat}{id:Nat}{a:Act}{w:World}(S:World→Prop)(m:Nat)(hm:P.follows .mixedOrders=true)(hd:noDefer ops=true)(h:wpAnyL P .any ops (onlyNormal (Q .normal)) S m ops.size (Array.replicate ops.size false) a w.drew):(Code.region id ops true).wpIn (Fence.wide.inRound l) n P Q a w:=
 wpIn_region_round hm hd (wpAny_of_L _ _ _ _ h)
end
end
section
theorem pA (l:List Value)(d)(n:Nat)(v:Value):Act.put {tmps:=l.toArray,defers:=d} (some n) v={tmps:=(l.set n v).toArray,defers:=d}:=by simp[Act.put]
theorem pN (a:Act)(v:Value):Act.put a none v=a:=rfl
theorem sA (a b:Value)(l:List Value):(a::l).set 0 b=b::l:=rfl
theorem sB (a b:Value)(l:List Value)(n:Nat):(a::l).set (n+1) b=a::l.set n b:=rfl
theorem pZ:(∀(l:List Value) (d:_) (n:Nat) (v:Value),Act.put {tmps:=l.toArray,defers:=d} (some n) v={tmps:=(l.set n v).toArray,defers:=d})∧(∀(a:Act) (v:Value),Act.put a none v=a)∧(∀(a b:Value) (l:List Value),(a::l).set 0 b=b::l)∧∀(a b:Value) (l:List Value) (n:Nat),(a::l).set (n+1) b=a::l.set n b:=⟨pA,pN,sA,sB⟩
section
variable {P:Program}{md:Region.Mode}{ops:Array Oper}{Q:Exit→Act→World→Prop}{S:World→Prop}{m:Nat}
def tkB (md:Region.Mode)(ops:Array Oper)(m i:Nat)(listed:Array Bool):Bool:=sinkL md ops m&&(i != m)&&Region.noSelect ops&&Region.free md ops listed i&&(Region.ready md ops listed).contains i
theorem tkL (i:Nat)(v:Value){oi:Oper}{fuel:Nat}{listed:Array Bool}{a:Act}{w:World}(hi:ops.toList[i]?=some oi)(hy:∀W,S W→(execOp a.eval oi).run P W = .ok (.value v) W)(hS:S w)(h:wpAnyL P md ops Q S m fuel (listed.setIfInBounds i true) (a.put oi.dst v) w)
 (hb:tkB md ops m i listed=true:=by kernel_rfl) (hQ:∀c a w,Q (.panic c) (a.put oi.dst v) w→Q (.panic c) a w:=by exact fun _ _ _ h=>h) (hw:Region.wanted oi (yielded ops a.tmps)=true:=by rfl):wpAnyL P md ops Q S m (fuel+1) listed a w:=by
 simp only[tkB,Bool.and_eq_true] at hb;exact anyL_take hb.1.1.1.1 hi hb.1.1.1.2 hb.1.1.2 hb.1.2 hb.2 hQ hw hy hS h
theorem tkN (i:Nat){oi:Oper}{fuel:Nat}{listed:Array Bool}{a:Act}{w:World}(hi:ops.toList[i]?=some oi)(hS:S w)(h:wpAnyL P md ops Q S m fuel (listed.setIfInBounds i true) (a.put oi.dst undef) w)
 (hb:tkB md ops m i listed=true:=by kernel_rfl) (hQ:∀c a w,Q (.panic c) (a.put oi.dst undef) w→Q (.panic c) a w:=by exact fun _ _ _ h=>h) (hw:Region.wanted oi (yielded ops a.tmps)=false:=by rfl):wpAnyL P md ops Q S m (fuel+1) listed a w:=by
 simp only[tkB,Bool.and_eq_true] at hb;exact anyL_not hb.1.1.1.1 hi hb.1.1.1.2 hb.1.1.2 hb.1.2 hb.2 hQ hw hS h
theorem tM {R:World→Prop}(K:Hid (∀W,S W→R W))(i:Nat){v:Value}{oi:Oper}{fuel:Nat}{listed:Array Bool}{a b:Act}{w:World}(hS:S w)(h:wpAnyL P md ops Q S m fuel (listed.setIfInBounds i true) b w)(hi:ops.toList[i]?=some oi:=by rfl)
 (hy:∀W,True∧R W→(execOp a.eval oi).run P W = .ok (.value v) W:=by(intro W hW;repeat (obtain⟨_,hW⟩:=hW);go_simp;try with_reducible rfl)) (he:a.put oi.dst v=b:=by(try simp only[pZ]);rfl) (hb:tkB md ops m i listed=true:=by kernel_rfl) (hQ:∀c a w,Q (.panic c) (a.put oi.dst v) w→Q (.panic c) a w:=by exact fun _ _ _ h=>h) (hw:Region.wanted oi (yielded ops a.tmps)=true:=by rfl):wpAnyL P md ops Q S m (fuel+1) listed a w:=
 tkL i v hi (fun W hW=>hy W ⟨trivial,K.out W hW⟩) hS (he▸h) hb hQ hw
theorem tN (i:Nat){oi:Oper}{fuel:Nat}{listed:Array Bool}{a b:Act}{w:World}(hS:S w)(h:wpAnyL P md ops Q S m fuel (listed.setIfInBounds i true) b w)(hi:ops.toList[i]?=some oi:=by rfl)
 (he:a.put oi.dst undef=b:=by(try simp only[pZ]);rfl) (hb:tkB md ops m i listed=true:=by kernel_rfl) (hQ:∀c a w,Q (.panic c) (a.put oi.dst undef) w→Q (.panic c) a w:=by exact fun _ _ _ h=>h) (hw:Region.wanted oi (yielded ops a.tmps)=false:=by rfl):wpAnyL P md ops Q S m (fuel+1) listed a w:=
 tkN i hi hS (he▸h) hb hQ hw
def tkC (md:Region.Mode)(ops:Array Oper)(i:Nat)(listed:Array Bool):Bool:=Region.noSelect ops&&Region.free md ops listed i&&(Region.ready md ops listed).contains i
theorem tkA (i:Nat)(v:Value){oi:Oper}{fuel:Nat}{listed:Array Bool}{a:Act}{w:World}(hi:ops[i]?=some oi)(hy:∀w,(execOp a.eval oi).run P w = .ok (.value v) w)(h:wpAny P md ops Q fuel (listed.setIfInBounds i true) (a.put oi.dst v) w)
 (hb:tkC md ops i listed=true:=by kernel_rfl) (hQ:∀c a w,Q (.panic c) (a.put oi.dst v) w→Q (.panic c) a w:=by exact fun _ _ _ h=>h) (hw:Region.wanted oi (yielded ops a.tmps)=true:=by rfl):wpAny P md ops Q (fuel+1) listed a w:=by
 simp only[tkC,Bool.and_eq_true] at hb;exact wpAny_take hi hb.1.1 hb.1.2 hb.2 hQ (Or.inl ⟨hw,hy⟩) h
theorem tA (i:Nat){v:Value}{oi:Oper}{fuel:Nat}{listed:Array Bool}{a b:Act}{w:World}(h:wpAny P md ops Q fuel (listed.setIfInBounds i true) b w)(hi:ops[i]?=some oi:=by rfl)(hy:∀w,(execOp a.eval oi).run P w = .ok (.value v) w:=by(intro w;go_simp;try with_reducible rfl))(he:a.put oi.dst v=b:=by(try simp only[pZ]);rfl)
 (hb:tkC md ops i listed=true:=by kernel_rfl) (hQ:∀c a w,Q (.panic c) (a.put oi.dst v) w→Q (.panic c) a w:=by exact fun _ _ _ h=>h) (hw:Region.wanted oi (yielded ops a.tmps)=true:=by rfl):wpAny P md ops Q (fuel+1) listed a w:=
 tkA i v hi hy (he▸h) hb hQ hw
theorem tkH (i:Nat)(v:Value){oi:Oper}{fuel:Nat}{listed:Array Bool}{a:Act}{w:World}(hi:ops[i]?=some oi)(hy:∀w,S w→(execOp a.eval oi).run P w = .ok (.value v) w)(hS:S w)(h:wpAnyH P md ops Q S fuel (listed.setIfInBounds i true) (a.put oi.dst v) w)
 (hb:tkC md ops i listed=true:=by kernel_rfl) (hQ:∀c a w,Q (.panic c) (a.put oi.dst v) w→Q (.panic c) a w:=by exact fun _ _ _ h=>h) (hw:Region.wanted oi (yielded ops a.tmps)=true:=by rfl):wpAnyH P md ops Q S (fuel+1) listed a w:=by
 simp only[tkC,Bool.and_eq_true] at hb;exact wpAnyH_take hi hb.1.1 hb.1.2 hb.2 hQ (Or.inl ⟨hw,hy⟩) hS h
theorem tH (i:Nat){v:Value}{oi:Oper}{fuel:Nat}{listed:Array Bool}{a b:Act}{w:World}(hS:S w)(h:wpAnyH P md ops Q S fuel (listed.setIfInBounds i true) b w)(hi:ops[i]?=some oi:=by rfl)
 (hy:∀w,S w→(execOp a.eval oi).run P w = .ok (.value v) w:=by(intro w hSw;(try dsimp only at hSw);go_simp;try with_reducible rfl)) (he:a.put oi.dst v=b:=by(try simp only[pZ]);rfl) (hb:tkC md ops i listed=true:=by kernel_rfl) (hQ:∀c a w,Q (.panic c) (a.put oi.dst v) w→Q (.panic c) a w:=by exact fun _ _ _ h=>h) (hw:Region.wanted oi (yielded ops a.tmps)=true:=by rfl):wpAnyH P md ops Q S (fuel+1) listed a w:=
 tkH i v hi hy hS (he▸h) hb hQ hw
end
section
variable {P:Program}{S:World→Prop}{R:World→Prop}{ops:Array Oper}{ks:List OVar}{fin:Act→Prop}{o:Oper}{rest:List Oper}{a b:Act}{v:Value}
theorem xN (h:held P ops S ks fin rest b)(hna:isAlloc o=false:=by rfl)(hw:Region.wanted o (yielded ops a.tmps)=false:=by rfl)(he:a.put o.dst undef=b:=by(try simp only[pZ]);rfl):held P ops S ks fin (o::rest) a:=held_not hna hw (he▸h)
theorem xV (K:Hid (∀W,S W→R W))(h:held P ops S ks fin rest b)(hna:isAlloc o=false:=by rfl)(hw:Region.wanted o (yielded ops a.tmps)=true:=by rfl)
 (hr:∀W,True∧R W→(execOp a.eval o).run P W = .ok (.value v) W:=by(intro W hW;repeat (obtain⟨_,hW⟩:=hW);go_simp;(try with_reducible rfl);first|done|fail)) (he:a.put o.dst v=b:=by(try simp only[pZ]);rfl):held P ops S ks fin (o::rest) a:=held_val hna hw (fun W h=>hr W ⟨trivial,K.out W h⟩) (he▸h)
theorem xC {f:FuncId}{args:Array Value}(hc:∀W,S W→Calls P f args W fun e W'=>e = .returned v∧Below W.heap.size W W')(hr:∀W,S W→(execOp a.eval o).run P W = .ok (.enter f args) W)(h:held P ops S ks fin rest b)(hna:isAlloc o=false:=by rfl)(hw:Region.wanted o (yielded ops a.tmps)=true:=by rfl)
 (he:a.put o.dst v=b:=by(try simp only[pZ]);rfl):held P ops S ks fin (o::rest) a:=held_call hna hw hr hc (he▸h)
theorem pT {α:Type}:(∀(a:α) (l:List α) (n:Nat),(a::l).take (n+1)=a::l.take n)∧(∀l:List α,l.take 0=[])∧(∀(a:α) (l:List α) (n:Nat),(a::l).drop (n+1)=l.drop n)∧∀l:List α,l.drop 0=l:=⟨fun _ _ _=>rfl,fun _=>rfl,fun _ _ _=>rfl,fun _=>rfl⟩
end
end
section
variable {P:Program}
def GivesD {α:Type}(P:Program)(gf:Nat)(lb:Array Value)(Rd:(Nat→Prop)→α→Array Value→World→Prop)(xs:List α)(Ok:(World→Nat→Prop)→(List α→World→Prop)→Prop)(W:World):Prop:=
 ∀(l:Nat) (C:World→Nat→Prop) (J Jx:List α→World→Prop),(∀s A B,J s A→Below A.heap.size A B→J s B)→(∀s A B,Jx s A→Below A.heap.size A B→Jx s B) →
  (∀s A B k,J s A→W.heap.size≤A.heap.size→Below A.heap.size A B→C B k→C A k)→(∀s A k,J s A→W.heap.size≤A.heap.size→C A k→k<A.heap.size)→Ok C J →
  (∀pre x args W1,J pre W1→W.heap.size≤W1.heap.size→Rd (C W1) x args W1→(pre++[x]) <+: xs→YieldAt Fence.wide 0 P l args W1 fun e W'=>
   (e = .returned (.bool true)∧J (pre++[x]) W'∧Keep (fun k=>¬C W1 k) W1 W'∧∀k,C W' k→C W1 k∨W1.heap.size≤k)∨(e = .returned (.bool false)∧Jx (pre++[x]) W'∧Keep (fun k=>¬C W1 k) W1 W'∧∀k,C W' k→C W1 k∨W1.heap.size≤k)) →
  J [] W →
  CallsIn Fence.wide 0 P gf (#[.func (.yield l) #[] #[]]++lb) W fun e W'=>(∃v,e = .returned v)∧(J xs W'∨∃pre,pre <+: xs∧Jx pre W')
def roundEndsD {α:Type}(C:World→Nat→Prop)(I:List α→World→Prop)(Ix:Code→List α→World→Prop)(xs:List α)(W:World):Exit→Act→World→Prop
 |.normal,_,W'=>Keep (fun k=>¬C W k) W W'∧(∀k,C W' k→C W k∨W.heap.size≤k)∧I xs W'
 |.ret,_,W'=>Keep (fun k=>¬C W k) W W'∧(∀k,C W' k→C W k∨W.heap.size≤k)∧Ix .ret xs W'
 |.exit id,_,W'=>Keep (fun k=>¬C W k) W W'∧(∀k,C W' k→C W k∨W.heap.size≤k)∧Ix (.exit id) xs W'
 |.goto t,_,W'=>Keep (fun k=>¬C W k) W W'∧(∀k,C W' k→C W k∨W.heap.size≤k)∧Ix (.goto t) xs W'
 |.panic _,_,_=>False
 |.outgrown,_,_=>False
theorem wpIn_rangeD {α:Type}{g:Operand}{ps:Array Tmp}{assign body:Code}{Q:Exit→Act→World→Prop}{a:Act}{w:World}
 {gf:Nat} {lb:Array Value} (hg:a.eval g = .func (.func gf) #[] lb) (eg:∀args w,(callFunc gf args).run P w = .ok (.enter gf args) w)
 {Rd:(Nat→Prop)→α→Array Value→World→Prop} {xs:List α} {Ok:(World→Nat→Prop)→(List α→World→Prop)→Prop} (hgives:∀o1 o2:Obj,GivesD P gf lb Rd xs Ok ((w.alloc o1).alloc o2))
 (hps:∀D x args W,Rd D x args W→args.size=ps.size)
 (C:World→Nat→Prop) (I:List α→World→Prop) (Ix:Code→List α→World→Prop) (hC1:∀s A B k,I s A→w.heap.size≤A.heap.size→Below A.heap.size A B→C B k→C A k) (hC2:∀s A k,I s A→w.heap.size≤A.heap.size→C A k→k<A.heap.size) (hC3:∀A o,C (A.putObj (w.heap.size+1) o)=C A) (hC4:∀s A,I s A→w.heap.size+1<A.heap.size→¬C A w.heap.size∧¬C A (w.heap.size+1))
 (hOk:∀rec:Nat→World→Prop,Ok (fun A k=>C A k∨k=w.heap.size+1) (fun pre A=>I pre A∧rec w.heap.size A))
 (hI:∀s A B,I s A→Below A.heap.size A B→I s B) (hI2:∀s A o,I s A→I s (A.putObj (w.heap.size+1) o))
 (hIx:∀c s A B,Ix c s A→Below A.heap.size A B→Ix c s B) (hIx2:∀c s A o,Ix c s A→Ix c s (A.putObj (w.heap.size+1) o))
 (h0:I [] w) (As:α→Array Value→Act→World→Prop)
 (hAs:∀x args act A o,As x args act A→As x args act (A.putObj (w.heap.size+1) o))
 (hassign:∀(l:Nat) (pre:List α) (x:α) (args:Array Value) (W:World) (K:Act→World→Prop),I pre W→Rd (fun k=>C W k∨k=w.heap.size+1) x args W→w.heap.size+1<W.heap.size→(∀act W',As x args act W'→Below W.heap.size W W'→K act W') →
  assign.wpIn (Fence.wide.inRound l) 0 P (Exit.then K (fun _ _ _=>False)) {tmps:=(ps.zip args).foldl (fun t (p,v)=>t.setIfInBounds p v) a.tmps,defers:=[]} W)
 (hbody:∀(l:Nat) (pre:List α) (x:α) (args:Array Value) (act:Act) (W:World),I pre W→As x args act W→(pre++[x]) <+: xs→w.heap.size+1<W.heap.size→l=w.heap.size+1→(∃r,W.heap[l]?=some (.loop r)) →
  body.wpIn (Fence.wide.inRound l) 0 P (roundEndsD C I Ix (pre++[x]) W) act W)
 (hdone:∀(W:World),I xs W→W.heap[w.heap.size]?=some (.deferred (some []))→Q .normal {a with defers:={target:=.collected w.heap.size,args:=#[]}::a.defers} W)
 (hstop:∀(c:Code) (pre:List α) (W:World),pre <+: xs→Ix c pre W→W.heap[w.heap.size]?=some (.deferred (some []))→c.wpIn Fence.wide 0 P Q {a with defers:={target:=.collected w.heap.size,args:=#[]}::a.defers} W):
 (Code.rangeFunc g ps assign body).wpIn Fence.wide 0 P Q a w:=by
 refine wpIn_rangeFunc ?_;intro fn hfn;obtain⟨rec,hrec⟩:∃rec:LoopState→Option Code→Loop,rec=fun st pe=>{state:=st,pending:=pe,fn,tmps:=a.tmps,params:=ps,assign,body,defers:=w.heap.size}:=⟨_,rfl⟩
 obtain⟨W1,hW1⟩:=zx ((w.alloc (.deferred (some []))).alloc (.loop (rec .ready none)));have hgv:=hgives (.deferred (some [])) (.loop (rec .ready none));rw[hW1] at hgv;have hBW:Below w.heap.size w W1:=by rw[←hW1];exact((Below.refl _ w).alloc (Nat.le_refl _) _).alloc zS _
 have hL1:W1.heap[w.heap.size+1]?=some (.loop (rec .ready none)):=by
  rw[←hW1];have:=World.alloc_heap_new (w.alloc (.deferred (some []))) (.loop (rec .ready none));rwa [World.size_alloc] at this
 have hK1:W1.heap[w.heap.size]?=some (.deferred (some [])):=by
  rw[←hW1];exact(Below.heap_alloc _ _ _ zS).trans (World.alloc_heap_new w _)
 have hI1:I [] W1:=hI [] w _ h0 hBW;have bl:∀{A B:World} {k:Nat} {o:Obj},Below A.heap.size A B→A.heap[k]?=some o→B.heap[k]?=some o:=fun hb h=>(hb.block _ (Array.getElem?_eq_some_iff.1 h).1).trans h
 refine⟨w.heap.size+1,[{target:=.collected w.heap.size,args:=#[]}],W1,{target:=.fn (.func gf) lb,args:=#[.func (.yield (w.heap.size+1)) #[] #[]]},W1,gf,
  #[.func (.yield (w.heap.size+1)) #[] #[]]++lb,W1,?_,?_,?_,?_,?_,?_⟩
 ·rw[←hW1,hrec];exact run_enterLoop_outer _ _ _ _ _
 ·simp only[resolve,hg]
  simp[go_sem]
 ·intro f' _;trivial
 ·simp[invoke,go_sem,eg]
 ·simp[Fence.wide]
 ·refine(hgv (w.heap.size+1) (fun A k=>C A k∨k=w.heap.size+1)
   (fun pre W=>I pre W∧(W.heap[w.heap.size+1]?=some (.loop (rec .ready none))∧W.heap[w.heap.size]?=some (.deferred (some []))))
   (fun pre W=>∃c,Ix c pre W∧W.heap[w.heap.size+1]?=some (.loop (rec .done (some c)))∧W.heap[w.heap.size]?=some (.deferred (some [])))
   (fun s A B hs hb=>⟨hI s A B hs.1 hb,bl hb hs.2.1,bl hb hs.2.2⟩)
   (fun s A B hs hb=>by
    obtain⟨c,hc,hl,hd⟩:=hs;exact⟨c,hIx c s A B hc hb,bl hb hl,bl hb hd⟩)
   (fun s A B k hJ hA hb hk=>hk.imp (hC1 s A B k hJ.1 (Nat.le_trans hBW.size hA) hb) id)
   (fun s A k hJ hA hk=>hk.elim (hC2 s A k hJ.1 (Nat.le_trans hBW.size hA)) (fun h=>by have:=(Array.getElem?_eq_some_iff.1 hL1).1;omega))
   (hOk (fun h A=>A.heap[h+1]?=some (.loop (rec .ready none))∧A.heap[h]?=some (.deferred (some []))))
   ?_ ⟨hI1,hL1,hK1⟩).mono ?_
  ·-- one round
   rintro pre x args W ⟨hi,hl,hk⟩ - hrd hpre;have hlt:w.heap.size+1<W.heap.size:=(Array.getElem?_eq_some_iff.1 hl).1;have hy:=run_yield (P:=P) (args:=args) hl (by rw[hrec];exact hps _ x args W hrd);rw[hrec] at hy;refine⟨fn,_,assign,body,hy,roundIn_of_wpIn hfn (hassign _ pre x args W _ hi hrd hlt fun act V hact hWV=>?_)⟩;have hlV:=bl hWV hl;have hkV:=bl hWV hk;have hltV:w.heap.size+1<V.heap.size:=Nat.lt_of_lt_of_le hlt hWV.size;refine⟨_,run_beginRound hlV (by rw[hrec]),?_⟩;have hl2:(V.putObj (w.heap.size+1) (.loop {rec .ready none with state:=.busy})).heap[w.heap.size+1]?=some (.loop {rec .ready none with state:=.busy}):=World.putObj_heap_same hltV;have hk2:(V.putObj (w.heap.size+1) (.loop {rec .ready none with state:=.busy})).heap[w.heap.size]?=some (.deferred (some [])):=(World.putObj_heap_other zO).trans hkV
   have hI3:I pre (V.putObj (w.heap.size+1) (.loop {rec .ready none with state:=.busy})):=hI2 _ _ _ (hI _ _ _ hi hWV);have hR2:As x args act (V.putObj (w.heap.size+1) (.loop {rec .ready none with state:=.busy})):=hAs _ _ _ _ _ hact;refine wpIn_mono (hbody _ pre x args act _ hI3 hR2 hpre (by simpa using hltV) rfl ⟨_,hl2⟩) ?_;have fin:∀(jump:Option Code) (W3:World),W3.heap[w.heap.size+1]?=(V.putObj (w.heap.size+1) (.loop {rec .ready none with state:=.busy})).heap[w.heap.size+1]?→W3.heap[w.heap.size]?=(V.putObj (w.heap.size+1) (.loop {rec .ready none with state:=.busy})).heap[w.heap.size]? →
    (Instr.endRound (w.heap.size+1) jump).run P W3 = .ok (.bool jump.isNone) (W3.putObj (w.heap.size+1) (.loop (rec (if jump.isNone then .ready else .done) jump))) ∧
    (W3.putObj (w.heap.size+1) (.loop (rec (if jump.isNone then .ready else .done) jump))).heap[w.heap.size+1]?=some (.loop (rec (if jump.isNone then .ready else .done) jump)) ∧
    (W3.putObj (w.heap.size+1) (.loop (rec (if jump.isNone then .ready else .done) jump))).heap[w.heap.size]?=some (.deferred (some [])):=fun jump W3 e1 e2=>by
    have hl3:=e1.trans hl2;have:=run_endRound (P:=P) jump hl3;rw[hrec] at this ⊢;exact⟨this,World.putObj_heap_same (Array.getElem?_eq_some_iff.1 hl3).1,(World.putObj_heap_other zO).trans (e2.trans hk2)⟩
   have szV:(V.putObj (w.heap.size+1) (.loop {rec .ready none with state:=.busy})).heap.size=V.heap.size:=by simp
   have hn:=hC4 pre (V.putObj (w.heap.size+1) (.loop {rec .ready none with state:=.busy})) hI3 (by rw[szV];exact hltV);have kk:∀(W3:World) (o:Obj),Keep (fun k=>¬C (V.putObj (w.heap.size+1) (.loop {rec .ready none with state:=.busy})) k) (V.putObj (w.heap.size+1) (.loop {rec .ready none with state:=.busy})) W3→(∀k,C W3 k→C (V.putObj (w.heap.size+1) (.loop {rec .ready none with state:=.busy})) k∨(V.putObj (w.heap.size+1) (.loop {rec .ready none with state:=.busy})).heap.size≤k) →
    Keep (fun k=>¬(C W k∨k=w.heap.size+1)) W (W3.putObj (w.heap.size+1) o)∧∀k,(C (W3.putObj (w.heap.size+1) o) k∨k=w.heap.size+1)→(C W k∨k=w.heap.size+1)∨W.heap.size≤k:=fun W3 o hk3 hc3=>by
    refine⟨?_,?_⟩
    ·rw[hC3] at hk3;have h1:Keep (fun k=>¬(C W k∨k=w.heap.size+1)) W (V.putObj (w.heap.size+1) (.loop {rec .ready none with state:=.busy})):=(Keep.of_below' hWV).putObj (fun h=>h (.inr rfl)) _;refine Keep.putObj ⟨hk3.os.trans h1.os,hk3.tape.trans h1.tape,hk3.output.trans h1.output,Nat.le_trans h1.size hk3.size,fun k hk hl=>?_⟩ (fun h=>h (.inr rfl)) _;have hkl:k<V.heap.size:=Nat.lt_of_lt_of_le hl hWV.size;have hcv:¬C V k:=fun h=>hk (.inl (hC1 pre W V k hi zO hWV h))
     exact(hk3.block k hcv (by rw[szV];exact hkl)).trans (h1.block k hk hl)
    ·intro k hk;rw[hC3] at hk
     rcases hk with hk|hk
     ·rw[hC3] at hc3
      rcases hc3 k hk with h|h
      ·exact .inl (.inl (hC1 pre W V k hi zO hWV h))
      ·exact .inr (Nat.le_trans hWV.size (by rw[szV] at h;exact h))
     ·exact .inl (.inr hk)
   rintro e a3 W3 hp;cases e with
   |normal=>
    obtain⟨hk3,hc3,hi3⟩:=hp;obtain⟨hr,hl4,hk4⟩:=fin none W3 (hk3.block _ hn.2 (by rw[szV];omega)) (hk3.block _ hn.1 (by rw[szV];omega));exact⟨_,_,hr,.inl ⟨rfl,⟨hI2 _ _ _ hi3,hl4,hk4⟩,kk _ _ hk3 hc3⟩⟩
   |ret=>
    obtain⟨hk3,hc3,hi3⟩:=hp;obtain⟨hr,hl4,hk4⟩:=fin (some .ret) W3 (hk3.block _ hn.2 (by rw[szV];omega)) (hk3.block _ hn.1 (by rw[szV];omega));exact⟨_,_,hr,.inr ⟨rfl,⟨.ret,hIx2 _ _ _ _ hi3,hl4,hk4⟩,kk _ _ hk3 hc3⟩⟩
   |exit id=>
    obtain⟨hk3,hc3,hi3⟩:=hp;obtain⟨hr,hl4,hk4⟩:=fin (some (.exit id)) W3 (hk3.block _ hn.2 (by rw[szV];omega)) (hk3.block _ hn.1 (by rw[szV];omega));exact⟨_,_,hr,.inr ⟨rfl,⟨.exit id,hIx2 _ _ _ _ hi3,hl4,hk4⟩,kk _ _ hk3 hc3⟩⟩
   |goto t=>
    obtain⟨hk3,hc3,hi3⟩:=hp;obtain⟨hr,hl4,hk4⟩:=fin (some (.goto t)) W3 (hk3.block _ hn.2 (by rw[szV];omega)) (hk3.block _ hn.1 (by rw[szV];omega));exact⟨_,_,hr,.inr ⟨rfl,⟨.goto t,hIx2 _ _ _ _ hi3,hl4,hk4⟩,kk _ _ hk3 hc3⟩⟩
   |panic ch=>exact hp.elim
   |outgrown=>exact hp.elim
  ·-- behind the iterator
   rintro e W2 ⟨⟨v,rfl⟩,(⟨hi,hl,hk⟩|⟨pre,hpre,c,hi,hl,hk⟩)⟩
   ·exact⟨none,_,by have:=run_endLoop (P:=P) hl (by rw[hrec];simp);rw[hrec] at this;exact this,hdone _ (hI2 _ _ _ hi) ((World.putObj_heap_other zO).trans hk)⟩
   ·exact⟨some c,_,by have:=run_endLoop (P:=P) hl (by rw[hrec];simp);rw[hrec] at this;exact this,hstop c pre _ hpre (hIx2 _ _ _ _ hi) ((World.putObj_heap_other zO).trans hk)⟩
end
