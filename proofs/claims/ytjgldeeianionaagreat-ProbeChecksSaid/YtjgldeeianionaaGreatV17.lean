/- Walks and plain laws. No condition. -/
import Derived.Test.YtjgldeeianionaaGreatV12
set_option maxHeartbeats 4000000
set_option maxRecDepth 100000
set_option linter.unusedSimpArgs false
set_option linter.unusedVariables false
namespace Go.Proofs.YtjgldeeianionaaGreat
open Go.RowKit
def narrowP (low high id:Int)(p:Prt):Prt:=
 {p with span:=⟨if p.span.low<low then low else p.span.low,if high<p.span.high then high else p.span.high,if p.span.low<low then id else p.span.lowBy,if high<p.span.high then id else p.span.highBy⟩}
def narrowC (c:Cs)(i:Nat)(low high id:Int):Cs:={c with parts:=c.parts.modify i (narrowP low high id)}
section
attribute [local go_sem] Oper.semAt_some
theorem modify2 {α:Type}{l:List α}{i:Nat}{p:α}{f1 f2 g:α→α}(h:l[i]?=some p)(e:f2 (f1 p)=g p):(l.modify i f1).modify i f2=l.modify i g:=by
 apply List.ext_getElem?
 intro k;rw[List.getElem?_modify,List.getElem?_modify,List.getElem?_modify]
 by_cases hk:i=k
 ·subst hk;rw[h];simp[e]
 ·simp[hk]
theorem own_at {B M:Nat}{W:World}{PB i:Nat}{cells:Array Value}{l:List Prt}{p:Prt}(h:PartsB B M W PB cells l)(hp:l[i]?=some p):W.cell? ⟨PB,i*8+1,none⟩=some (.int .i64 p.span.low)∧W.cell? ⟨PB,i*8+2,none⟩=some (.int .i64 p.span.high) ∧
 W.cell? ⟨PB,i*8+3,none⟩=some (.int .i64 p.span.lowBy)∧W.cell? ⟨PB,i*8+4,none⟩=some (.int .i64 p.span.highBy):=by
 obtain⟨b,o,e,hc⟩:=h.at_ i p hp;cases e;obtain⟨_,_,_,_,_,q1,q2,q3,q4,_⟩:=hc.open;simp only[Nat.zero_add] at q1 q2 q3 q4;exact⟨q1,q2,q3,q4⟩
def setLow (v id:Int)(p:Prt):Prt:={p with span:=⟨v,p.span.high,id,p.span.highBy⟩}
def setHigh (v id:Int)(p:Prt):Prt:={p with span:=⟨p.span.low,v,p.span.lowBy,id⟩}
theorem set_low {B M:Nat}{W:World}{PB i:Nat}{cells:Array Value}{l:List Prt}{p:Prt}{v id:Int}(h:PartsB B M W PB cells l)(hp:l[i]?=some p):
 ∃cells',PartsB B M ((W.setCell ⟨PB,i*8+1,none⟩ (.int .i64 v)).setCell ⟨PB,i*8+3,none⟩ (.int .i64 id)) PB cells' (l.modify i (setLow v id)):=
 ⟨_,partsB_clear (p':=setLow v id p) h hp rfl rfl rfl zO zO (fun _ _ _ _=>rfl)⟩
theorem set_high {B M:Nat}{W:World}{PB i:Nat}{cells:Array Value}{l:List Prt}{p:Prt}{v id:Int}(h:PartsB B M W PB cells l)(hp:l[i]?=some p):
 ∃cells',PartsB B M ((W.setCell ⟨PB,i*8+2,none⟩ (.int .i64 v)).setCell ⟨PB,i*8+4,none⟩ (.int .i64 id)) PB cells' (l.modify i (setHigh v id)):=
 ⟨_,partsB_clear (p':=setHigh v id p) h hp rfl rfl rfl zO zO (fun _ _ _ _=>rfl)⟩
theorem partsB_farP {B M:Nat}{W:World}{PB g o:Nat}{cells:Array Value}{l:List Prt}(h:PartsB B M W PB cells l)(hg:g<PB)(v:Value):PartsB B M (W.setCell ⟨g,o,none⟩ v) PB cells l:=by
 refine⟨h.box.far zT _,h.far,fun i q hq=>?_⟩;obtain⟨sa,sc,ra,rc,e1,e2,e3,e4,e5,e6,e7⟩:=h.one i q hq;exact⟨sa,sc,ra,rc,e1,ints_far e2 (fun b o ha hl=>by have:=(e6 b o ha hl).2.1;simp;omega) _,ints_far e3 (fun b o ha hl=>by have:=(e7 b o ha hl).2.1;simp;omega) _,e4,e5,e6,e7⟩
end
structure Prb where
 id:Int
 part:Int
 width:Int
 cost:Int
def prbCells (p:Prb):List Value:=[.int .i64 p.id,.int .i64 p.part,.int .i64 p.width,.int .i64 p.cost]
def cntZ (s:Spn)(w:Int):Int:=(s.high-s.low+w) / w
def cntN (s:Spn)(w:Int):Nat:=(cntZ s w).toNat
def stepAt (s:Spn)(w:Int)(k:Nat):Int×Int:=(s.low+k*w,min s.high (s.low+(k+1)*w-1))
def stepsTo (s:Spn)(w:Int)(k:Nat):List (Int×Int):=(List.range k).map (stepAt s w)
def stepsOf (s:Spn)(w:Int):List (Int×Int):=stepsTo s w (cntN s w)
theorem stepsTo_succ (s:Spn)(w:Int)(k:Nat):stepsTo s w (k+1)=stepsTo s w k++[stepAt s w k]:=by simp[stepsTo,List.range_succ]
theorem stepsTo_len (s:Spn)(w:Int)(k:Nat):(stepsTo s w k).length=k:=by simp[stepsTo]
theorem cnt_pos {s:Spn}{w:Int}(hw:0<w)(hs:s.low≤s.high):1≤cntZ s w:=by
 unfold cntZ;have h:=Int.ediv_le_ediv hw (show w≤s.high-s.low+w by omega);rw[Int.ediv_self zO] at h;exact h
theorem step_lt {s:Spn}{w:Int}{k:Nat}(hw:0<w)(hs:s.low≤s.high):s.low+k*w≤s.high↔k<cntN s w:=by
 have h1:=cnt_pos hw hs;have h2:k<cntN s w↔(k:Int)+1≤cntZ s w:=by unfold cntN;omega
 rw[h2];unfold cntZ;rw[Int.le_ediv_iff_mul_le hw,Int.add_mul,Int.one_mul]
 omega
theorem cnt_le {s:Spn}{w:Int}(hw:1≤w)(hs:s.low≤s.high)(h0:0≤s.low)(h1:s.high≤1000):cntN s w≤1001:=by
 rcases Nat.lt_or_ge 1001 (cntN s w) with h|h
 ·have:=(step_lt (k:=1001) zO hs).2 h;have h3:(1001:Int)*1≤1001*w:=Int.mul_le_mul_of_nonneg_left hw zO;have h4:((1001:Nat):Int)=1001:=rfl;rw[h4] at this
  omega
 ·exact h
def rightB (p:Prb):Bool:=inB p.id 1 1000000&&inB p.width 1 1001&&inB p.cost 1 1000
def spanOf (c:Cs)(p:Prb):Spn:=((c.parts[p.part.toNat]?).map (·.span)).getD ⟨0,0,0,0⟩
def prbErr (c:Cs)(seen:List Int)(p:Prb):Int:=
 if rightB p&&inB p.part 0 ((c.parts.length:Int)-1) && !seen.contains p.id then(if 4<cntN (spanOf c p) p.width then 2 else 0) else 1
def prbGo (c:Cs):List Int→List Prb→Int
 |_,[]=>0
 |seen,p::l=>if prbErr c seen p=0 then prbGo c (seen++[p.id]) l else prbErr c seen p
def probesErr (c:Cs)(l:List Prb):Int:=if checkCase c≠0 then checkCase c else if 5<l.length then 2 else prbGo c [] l
theorem prbGo_at {c:Cs}:∀(l:List Prb) (seen:List Int) (k:Nat),(∀j p,j<k→l[j]?=some p→prbErr c (seen++(l.take j).map (·.id)) p=0) →
 (∀p,l[k]?=some p→prbErr c (seen++(l.take k).map (·.id)) p≠0→prbGo c seen l=prbErr c (seen++(l.take k).map (·.id)) p)∧(l.length≤k→prbGo c seen l=0)
 |[],seen,k,_=>⟨fun p h=>by simp at h,fun _=>rfl⟩
 |q::l,seen,0,_=>⟨fun p h hne=>by
  simp at h;subst h;simp only[List.take_zero,List.map_nil,List.append_nil] at hne ⊢;rw[prbGo,if_neg hne],fun h=>by simp at h⟩
 |q::l,seen,k+1,h=>by
  have h0:prbErr c seen q=0:=by simpa using h 0 q zO rfl
  have ih:=prbGo_at l (seen++[q.id]) k (fun j p hj hp=>by have:=h (j+1) p zO (by simpa using hp);simpa using this);rw[prbGo,if_pos h0];refine⟨fun p hp hne=>?_,fun hl=>ih.2 (by simpa using hl)⟩;have:=ih.1 p (by simpa using hp);simp only[List.take_succ_cons,List.map_cons] at hne ⊢;have e:seen++q.id::(l.take k).map (·.id)=seen++[q.id]++(l.take k).map (·.id):=by simp
  rw[e] at hne ⊢;exact this hne
theorem probes_ok {c:Cs}{l:List Prb}(h:probesErr c l=0):checkCase c=0∧l.length≤5∧∀p∈l,rightB p=true∧(0≤p.part∧p.part≤(c.parts.length:Int)-1)∧cntN (spanOf c p) p.width≤4:=by
 unfold probesErr at h
 split at h
 ·rename_i h1;exact absurd h h1
 ·rename_i h1
  split at h
  ·cases h
  ·rename_i h2
   refine⟨by simpa using h1,zO,?_⟩;have go:∀(l:List Prb) (seen:List Int),prbGo c seen l=0→∀p∈l,rightB p=true∧(0≤p.part∧p.part≤(c.parts.length:Int)-1)∧cntN (spanOf c p) p.width≤4:=by
    intro l
    induction l with
    |nil=>intro _ _ p hp;cases hp
    |cons q l ih=>
     intro seen h p hp;rw[prbGo] at h
     split at h
     ·rename_i h0
      rcases List.mem_cons.1 hp with rfl|hp
      ·unfold prbErr at h0
       split at h0
       ·rename_i hr
        split at h0
        ·cases h0
        ·rename_i h4
         simp only[Bool.and_eq_true,inB,decide_eq_true_eq] at hr;exact⟨hr.1.1,hr.1.2,zO⟩
       ·cases h0
      ·exact ih _ h p hp
     ·rename_i h0;exact absurd h h0
   exact go l [] h
theorem right_vals {p:Prb}(h:rightB p=true):(1≤p.id∧p.id≤1000000)∧(1≤p.width∧p.width≤1001)∧(1≤p.cost∧p.cost≤1000):=by
 simp only[rightB,Bool.and_eq_true,inB,decide_eq_true_eq] at h;exact⟨h.1.1,h.1.2,h.2⟩
def outGo:List Nat→List Nat→List (List Nat)
 |[],pre=>[pre]
 |n::ns,pre=>(List.range n).flatMap fun k=>outGo ns (pre++[k])
def outsOf (ns:List Nat):List (List Nat):=outGo ns []
def cntsOf (c:Cs)(l:List Prb)(set:List Nat):List Nat:=set.map fun v=>match l[v]? with|some p=>cntN (spanOf c p) p.width|none=>0
def aftStep (c d:Cs)(p:Prb)(k:Nat):Option Cs:=
 let r:=stepAt (spanOf c p) p.width k
 let e:=narrowC d p.part.toNat r.1 r.2 p.id
 if(spanOf e p).low≤(spanOf e p).high then some e else none
def aftGo (c:Cs)(l:List Prb):List (Nat×Nat)→Cs→Option Cs
 |[],d=>some d
 |(v,k)::xs,d=>match l[v]? with
  |none=>none
  |some p=>match aftStep c d p k with
   |none=>none
   |some e=>aftGo c l xs e
def afterC (c:Cs)(l:List Prb)(set fs:List Nat):Option Cs:=aftGo c l (set.zip fs) c
def canC (c:Cs)(l:List Prb)(set fs:List Nat):Option Cs:=match afterC c l set fs with|some d=>if(allR d).isEmpty then none else some d|none=>none
def sureB (c:Cs)(l:List Prb)(a b:Nat)(set fs:List Nat):Bool:=match canC c l set fs with|some d=>ansAt d a b != 3|none=>true
def doubtOf (c:Cs)(l:List Prb)(a b:Nat)(set:List Nat):Option (List Nat):=(outsOf (cntsOf c l set)).find? fun fs=>!sureB c l a b set fs
def decidesB (c:Cs)(l:List Prb)(a b:Nat)(set:List Nat):Bool:=(doubtOf c l a b set).isNone
def setGo (m:Nat):Nat→List Nat→Nat→List (List Nat)
 |0,set,_=>[set]
 |r+1,set,a=>set::(List.range (m-a)).flatMap fun k=>setGo m r (set++[a+k]) (a+k+1)
def setsOf (m:Nat):List (List Nat):=setGo m m [] 0
def costOf (l:List Prb)(set:List Nat):Int:=(set.map fun v=>((l[v]?).map (·.cost)).getD 0).foldl (· + ·) 0
section
attribute [local go_sem] Oper.semAt_some
def PrbAt (w:World)(b o:Nat)(p:Prb):Prop:=∀i v,(prbCells p)[i]?=some v→w.cell? ⟨b,o+i,none⟩=some v
theorem PrbAt.below {w w':World}{b o:Nat}{p:Prb}(h:PrbAt w b o p)(hb:Below w.heap.size w w'):PrbAt w' b o p:=fun i v hv=>below_cell hb (h i v hv)
theorem PrbAt.open {w:World}{b o:Nat}{p:Prb}(h:PrbAt w b o p):w.cell? ⟨b,o,none⟩=some (.int .i64 p.id)∧w.cell? ⟨b,o+1,none⟩=some (.int .i64 p.part)∧w.cell? ⟨b,o+2,none⟩=some (.int .i64 p.width)∧w.cell? ⟨b,o+3,none⟩=some (.int .i64 p.cost):=
 ⟨h 0 _ rfl,h 1 _ rfl,h 2 _ rfl,h 3 _ rfl⟩
def PrbsAt (w:World)(a:Option Addr)(l:List Prb):Prop:=∀k p,l[k]?=some p→∃b o,a=some ⟨b,o,none⟩∧PrbAt w b (o+k*4) p
theorem PrbsAt.below {w w':World}{a:Option Addr}{l:List Prb}(h:PrbsAt w a l)(hb:Below w.heap.size w w'):PrbsAt w' a l:=fun k p hp=>by
 obtain⟨b,o,ha,hc⟩:=h k p hp;exact⟨b,o,ha,hc.below hb⟩
theorem PrbsAt.at_ {w:World}{a:Option Addr}{l:List Prb}(h:PrbsAt w a l){k:Nat}(hk:k<l.length):
 ∃b o p,a=some ⟨b,o,none⟩∧l[k]?=some p∧PrbAt w b (o+k*4) p:=by
 obtain⟨b,o,ha,hc⟩:=h k l[k] (by simp[hk]);exact⟨b,o,l[k],ha,by simp[hk],hc⟩
structure LabAt (W:World) (t:Nat) (c:Cs) (pa:Option Addr) (pc:Nat) (l:List Prb) (qa:Option Addr) (qc:Nat):Prop where
 box:Box W t #[.string c.ware,.int .i64 c.limit,.int .i64 c.by_,.slice pa c.parts.length pc,.slice qa l.length qc] 171
 parts:PartsAt W pa c.parts
 probes:PrbsAt W qa l
section
variable {W W':World}{t:Nat}{c:Cs}{pa:Option Addr}{pc:Nat}{l:List Prb}{qa:Option Addr}{qc:Nat}
theorem LabAt.below (h:LabAt W t c pa pc l qa qc)(hb:Below W.heap.size W W'):LabAt W' t c pa pc l qa qc:=⟨h.box.below' hb,h.parts.below hb,h.probes.below hb⟩
theorem LabAt.cells (h:LabAt W t c pa pc l qa qc):∀i,W.cell? ⟨t,i,none⟩=(#[.string c.ware,.int .i64 c.limit,.int .i64 c.by_,.slice pa c.parts.length pc,.slice qa l.length qc]:Array Value)[i]?:=h.box.cell
end
def unfit:Value:=.iface 215 (.agg #[])
def NeedPost (ok:Bool)(w:World)(e:Ending)(w':World):Prop:=Below w.heap.size w w'∧((ok=true∧e = .returned (.tuple #[]))∨(ok=false∧e = .panicked [{v:=unfit,recovered:=false}]))
theorem need9_ok (w:World):Calls Tryz.prog 150 #[.bool true] w fun e w'=>e = .returned (.tuple #[])∧w=w':=by
 go_enter Tryz.func150,Tryz.ntmps150
 go_wp2
 go_end0
 exact⟨rfl,rfl⟩
theorem need9_no (w:World):Calls Tryz.prog 150 #[.bool false] w fun e w'=>e = .panicked [{v:=unfit,recovered:=false}]∧w=w':=by
 go_enter Tryz.func150,Tryz.ntmps150
 go_wp2
 exact⟨rfl,rfl,rfl⟩
theorem within9_any (a b c:Int)(w:World):
 Calls Tryz.prog 141 #[.int .i64 a,.int .i64 b,.int .i64 c] w fun e w'=>e = .returned (.bool (inB a b c))∧w=w':=by
 go_enter Tryz.func141,Tryz.ntmps141
 go_wp2
 all_goals (go_ret;refine⟨?_,rfl⟩;unfold inB;congr 2;simp;omega)
theorem right_any (p:Prb)(w:World):
 Calls Tryz.prog 140 #[.agg #[.int .i64 p.id,.int .i64 p.part,.int .i64 p.width,.int .i64 p.cost]] w fun e w'=>e = .returned (.bool (rightB p))∧Below w.heap.size w w':=by
 go_enter Tryz.func140,Tryz.ntmps140
 go_wp2_with (go_at_call 141;refine(within9_any _ _ _ _).mono ?_;rintro e w' ⟨rfl,rfl⟩)
 all_goals (go_ret;exact⟨by simp[rightB, *],by go_grown⟩)
def rangeCells (l:List (Int×Int)):List Value:=l.flatMap fun x=>[.int .i64 x.1,.int .i64 x.2]
theorem rangeCells_snoc (l:List (Int×Int))(x:Int×Int):rangeCells (l++[x])=rangeCells l++[.int .i64 x.1,.int .i64 x.2]:=by simp[rangeCells,List.flatMap_append]
theorem info_range:(Tryz.prog.info? 164).map (fun i=>(i.zero,i.size,i.bytes))=some (some (.agg #[.int .i64 0,.int .i64 0]),2,16):=zK
theorem range_row (w:World)(x y:Int)(t:TypeId):Row (w.alloc (.cells #[.int .i64 x,.int .i64 y] t)) (some ⟨w.heap.size,0,none⟩) [.int .i64 x,.int .i64 y]:=by
 have h:=Box.new w #[.int .i64 x,.int .i64 y] t;intro k v hv;refine⟨w.heap.size,0,rfl,?_⟩;rw[Nat.zero_add,h.cell]
 rcases k with _|_|k
 ·simpa using hv
 ·simpa using hv
 ·simp at hv
theorem app_range {base:Nat}{W:World}{v:Value}{k:Nat}{xs:List Value}(h:W.ownsRow base 164 2 v k xs)(hk:k+1≤1000000)(hB:base≤W.heap.size)(x y:Int):
 ∃v' U,(Builtin.append_ #[84,84] 84 #[v,.slice (some ⟨W.heap.size,0,none⟩) 1 1]).run Tryz.prog (W.alloc (.cells #[.int .i64 x,.int .i64 y] 164)) = .ok v' U∧U.ownsRow base 164 2 v' (k+1) (xs++[.int .i64 x,.int .i64 y])∧Below base W U:=by
 obtain⟨v',U,hrun,hown,hg,_⟩:=run_append_row (P:=Tryz.prog) (W.alloc (.cells #[.int .i64 x,.int .i64 y] 164)) base 84 84 164 (.agg #[.int .i64 0,.int .i64 0]) 2 16 Tryz.underlying84 info_range rfl zO
  _ _ _ (ownsRow_keep h ((Keep.refl (fun _=>True) W).alloc (.cells #[.int .i64 x,.int .i64 y] 164)) (fun _ _=>trivial)) (some ⟨W.heap.size,0,none⟩) 1 1 [.int .i64 x,.int .i64 y] rfl (range_row _ _ _ _) (by intro u hu;simp at hu;rcases hu with rfl|rfl<;>rfl) zO zO zT
 exact⟨v',U,hrun,hown,((Below.refl _ W).alloc hB (.cells #[.int .i64 x,.int .i64 y] 164)).grown hg zT (fun j hj=>(h.lt j hj).1)⟩
theorem ownsRow_low {w:World}{base B:Nat}{e:TypeId}{size n:Nat}{v:Value}{xs:List Value}(h:w.ownsRow base e size v n xs)(hB:B≤base):w.ownsRow B e size v n xs:=by
 refine⟨h.1,?_⟩
 rcases h.2 with h0|⟨g,cap,cur,h1,hg,hh,h3⟩
 ·exact .inl h0
 ·exact .inr ⟨g,cap,cur,h1,Nat.le_trans hB hg,hh,h3⟩
def StepsPost (L:List (Int×Int))(w:World)(e:Ending)(w':World):Prop:=∃v,e = .returned v∧w'.ownsRow w.heap.size 164 2 v L.length (rangeCells L)∧Below w.heap.size w w'
theorem steps_any (s:Spn)(width:Int)(h0:0≤s.low)(h1:s.low≤s.high)(h2:s.high≤1000)(hw1:1≤width)(hw2:width≤1001)(w:World):
 Calls Tryz.prog 142 #[.agg #[.int .i64 s.low,.int .i64 s.high,.int .i64 s.lowBy,.int .i64 s.highBy],.int .i64 width] w (StepsPost (stepsOf s width) w):=by
 have hb0:Box (w.alloc (.cells #[.int .i64 s.low,.int .i64 s.high,.int .i64 s.lowBy,.int .i64 s.highBy] 78)) w.heap.size #[.int .i64 s.low,.int .i64 s.high,.int .i64 s.lowBy,.int .i64 s.highBy] 78:=Box.new _ _ _;have hB0:Below w.heap.size w (w.alloc (.cells #[.int .i64 s.low,.int .i64 s.high,.int .i64 s.lowBy,.int .i64 s.highBy] 78)):=(Below.refl _ w).alloc (Nat.le_refl _) _;have hcl:=cnt_le hw1 h1 h0 h2
 go_enter Tryz.func142,Tryz.ntmps142
 go_upto_region 1 with fail
 generalize w.alloc (.cells #[.int .i64 s.low,.int .i64 s.high,.int .i64 s.lowBy,.int .i64 s.highBy] 78)=w1 at *;have HX:=zh hb0;have HB:=zh hB0;clear hb0 hB0;have e1:=HX.out.cell
 go_wp2_with fail
 clear e1
 go_loopw [5,6] (fun ov iv wr=>∃k:Nat,k≤cntN s width∧iv = .int .i64 (s.low+k*width)∧wr.ownsRow (w.heap.size+1) 164 2 ov k (rangeCells (stepsTo s width k))∧Box wr w.heap.size #[.int .i64 s.low,.int .i64 s.high,.int .i64 s.lowBy,.int .i64 s.highBy] 78∧Below w.heap.size w wr) (fun _ iv _=>(s.high+1-intOf iv).toNat)
 case atStart=>exact⟨0,Nat.zero_le _,by simp,ownsRow_nil _ _ _ _,HX.out,HB.out⟩
 case round=>
  clear HX HB;obtain⟨k,hk,rfl,ho,hx,hB⟩:=hrel;have hst:=step_lt (s:=s) (w:=width) (k:=k) zO h1;have hat:stepAt s width k=(s.low+k*width,min s.high (s.low+k*width+width-1)):=by
   unfold stepAt;rw[Int.add_mul,Int.one_mul,←Int.add_assoc]
  have h0k:(0:Int)≤(k:Int)*width:=Int.mul_nonneg zO zO;have HS:=zh hst;have HSN:=zh (stepsTo_succ s width k);have hnx:s.low+((k+1:Nat):Int)*width=s.low+k*width+width:=by
   rw[show((k+1:Nat):Int)=(k:Int)+1 by omega,Int.add_mul,Int.one_mul,←Int.add_assoc]
  have HNX:=zh hnx;clear hst hnx;obtain⟨x,hxe⟩:=zx (s.low+(k:Int)*width);rw[hxe] at hat HS HNX;simp only[hxe];have hx0:0≤x:=by rw[←hxe];exact Int.add_nonneg h0 h0k
  have HAT:=zh hat;have HO:=zh ho;have HX:=zh hx;have HB:=zh hB;have e1:=hx.cell;clear hat hxe h0k hx hB ho
  by_cases hle:x≤s.high
  ·have hkl:=HS.out.1 hle
   by_cases hmn:x+width-1<s.high
   ·skip
    have HAT:=zh (show stepAt s width k=(x,x+width-1) by rw[HAT.out];congr 1;omega);have hmin:min s.high (x+width-1)=x+width-1:=by omega
    obtain⟨v',U,hrun,hown,hb⟩:=app_range HO.out zO HX.out.lt x (x+width-1);have HRN:=zh hrun;have HOW:=zh hown;have HBU:=zh (HB.out.trans (hb.mono (Nat.le_succ _)));have HXU:=zh (HX.out.below hb (Nat.lt_succ_self _));clear hrun hown hb
    go_wp2_with (at_builtin;refine wpList_app rfl _ _ _ rfl rfl rfl HRN.out ?_)
    go_roundw
    case rel=>exact⟨k+1,zO,by rw[HNX.out],by rw[HSN.out,rangeCells_snoc,HAT.out];exact HOW.out,HXU.out,HBU.out⟩
    case measure=>exact zJ
   ·skip
    have HAT:=zh (show stepAt s width k=(x,s.high) by rw[HAT.out];congr 1;omega);have hmin:min s.high (x+width-1)=s.high:=by omega
    obtain⟨v',U,hrun,hown,hb⟩:=app_range HO.out zO HX.out.lt x (s.high);have HRN:=zh hrun;have HOW:=zh hown;have HBU:=zh (HB.out.trans (hb.mono (Nat.le_succ _)));have HXU:=zh (HX.out.below hb (Nat.lt_succ_self _));clear hrun hown hb
    go_wp2_with (at_builtin;refine wpList_app rfl _ _ _ rfl rfl rfl HRN.out ?_)
    go_roundw
    case rel=>exact⟨k+1,zO,by rw[HNX.out],by rw[HSN.out,rangeCells_snoc,HAT.out];exact HOW.out,HXU.out,HBU.out⟩
    case measure=>exact zJ
  ·have hke:k=cntN s width:=by
    rcases Nat.lt_or_ge k (cntN s width) with h|h
    ·exact absurd (HS.out.2 h) hle
    ·omega
   have HKE:=zh hke;clear hke
   go_wp2_with fail
   go_ret
   have h:=HO.out;rw[HKE.out] at h;exact⟨_,rfl,by rw[show(stepsOf s width).length=cntN s width from stepsTo_len _ _ _];exact ownsRow_low h (Nat.le_succ _),HB.out⟩
theorem open9_any (c:Cs)(hsm:c.Small)(hz:askErr c []=0)(pa:Option Addr)(pc:Nat)(w:World)(hp:PartsAt w pa c.parts):
 Calls Tryz.prog 71 #[.agg #[.string c.ware,.int .i64 c.limit,.int .i64 c.by_,.slice pa c.parts.length pc]] w fun e w'=>∃a cap,e = .returned (.tuple #[.slice a (openOf c).length cap,.int .i64 0])∧RowOwn w.heap.size w' a (pairCells (openOf c))∧(openOf c).length≤cap∧Below w.heap.size w w':=by
 obtain⟨w2,hw2⟩:=zx ((w.alloc (.cells #[.string c.ware,.int .i64 c.limit,.int .i64 c.by_,.slice pa c.parts.length pc] 24)));have hsz:w2.heap.size=w.heap.size+1:=by rw[←hw2];simp
 have hB2:Below w.heap.size w w2:=by rw[←hw2];go_grown
 have b0:Box w2 w.heap.size (csCells c pa pc) 24:=by rw[←hw2];exact(Box.new _ _ _)
 have e0:=zC (b0);have ho:=asked_any c hsm pa pc [] none 0 w2 (hp.below hB2) (Ints.nil _ _) zS;simp only[List.length_nil] at ho;have HW:=zh hw2;clear hp b0 hw2;have hoo:=asked_good ho hz;have h8:=check_small (ask_open hz);have HO:=zh hoo;have HZ:=zh hz;clear ho hoo hz;refine(callsIn_wide (n:=0)).1 (callsIn_of_wp_marks Tryz.func71 rfl trivial ?_ rfl);simp only[Tryz.ntmps71,List.size_toArray,List.length_cons,List.length_nil,Nat.reduceAdd,Nat.reduceSub,Array.replicate_succ,Array.replicate_zero,List.push_toArray,List.append_toArray,List.nil_append,List.cons_append]
 gi_upto_region 1 with fail
 simp only[HW.out]
 gi_wp2_with (first
  |(gi_at_call 105;(with_reducible refine(callsIn_wide.2 HO.out).mono ?_);rintro e w3 ⟨bb,rfl,hbb,hbx,hb⟩;have HB:=zh hb;have HX:=zh hbx;have hS:=fresh_store w3 (togB c.parts.length (allR c)) (aptB c.parts.length (allR c));clear hb hbx)
  |(refine wpListIn_store_box rfl 143 _ _ rfl rfl rfl hS ?_)
  |(gi_at_call 154;(with_reducible refine(callsIn_wide.2 (pairs_any _ _)).mono ?_);rintro e w' ⟨rfl,rfl⟩))
 simp only[laid_size,Nat.add_assoc,Nat.reduceAdd];have hw3:w.heap.size+1≤w3.heap.size:=by have:=HB.out.size;omega
 have hw5:w.heap.size≤w3.heap.size+5:=by omega
 have hbl:=HX.out.lt;have g5:Box ((((laid w3 (togB c.parts.length (allR c)) (aptB c.parts.length (allR c)))).alloc (.cells #[.slice none 0 0] 35)).alloc (.cells #[.pointer (some ⟨bb,0,none⟩)] 139)) w3.heap.size (caseTab c) 143:=((laid_box w3 _ _).alloc _).alloc _;have g7:Box ((((laid w3 (togB c.parts.length (allR c)) (aptB c.parts.length (allR c)))).alloc (.cells #[.slice none 0 0] 35)).alloc (.cells #[.pointer (some ⟨bb,0,none⟩)] 139)) (w3.heap.size+1) #[.slice none 0 0] 35:=(Box.new' (by rw[laid_size])).alloc _;have g8:Box ((((laid w3 (togB c.parts.length (allR c)) (aptB c.parts.length (allR c)))).alloc (.cells #[.slice none 0 0] 35)).alloc (.cells #[.pointer (some ⟨bb,0,none⟩)] 139)) (w3.heap.size+2) #[.pointer (some ⟨bb,0,none⟩)] 139:=Box.new' (by simp[laid_size])
 have gb:Box ((((laid w3 (togB c.parts.length (allR c)) (aptB c.parts.length (allR c)))).alloc (.cells #[.slice none 0 0] 35)).alloc (.cells #[.pointer (some ⟨bb,0,none⟩)] 139)) bb (csCells c pa pc) 219:=((HX.out.below' (laid_below w3 _ _)).alloc _).alloc _;have gB:Below w3.heap.size w3 ((((laid w3 (togB c.parts.length (allR c)) (aptB c.parts.length (allR c)))).alloc (.cells #[.slice none 0 0] 35)).alloc (.cells #[.pointer (some ⟨bb,0,none⟩)] 139)):=((laid_below w3 _ _).alloc (by rw[laid_size];omega) _).alloc (by simp[laid_size];omega) _;have gs:(((((laid w3 (togB c.parts.length (allR c)) (aptB c.parts.length (allR c)))).alloc (.cells #[.slice none 0 0] 35)).alloc (.cells #[.pointer (some ⟨bb,0,none⟩)] 139))).heap.size=w3.heap.size+3:=by simp[laid_size]
 generalize ((((laid w3 (togB c.parts.length (allR c)) (aptB c.parts.length (allR c)))).alloc (.cells #[.slice none 0 0] 35)).alloc (.cells #[.pointer (some ⟨bb,0,none⟩)] 139))=w4 at *;refine wpIn_range2 (gf:=198) (lb:=#[.pointer (some ⟨w3.heap.size+2,0,none⟩)]) (Z:=fun k=>k=w3.heap.size+2) (n0:=w3.heap.size) (Rd:=PairRd) (xs:=pairsOf c.parts.length) rfl (enters_of Tryz.func198 zK rfl) ?gives ?hz ?n0 ?ps
  (OpI c w3) (fun _ _ _=>False) ?hI ?hX ?h0 (OpAs c pa pc bb w w3) ?hAs ?assign ?body ?done ?stop
 case gives=>
  intro o1 o2;exact pairs1_gives c _ rfl zO pa pc w3 bb (w3.heap.size+2) hbl zO _ ⟨(gB.alloc zO _).alloc zT _,(g8.alloc _).alloc _,(gb.alloc _).alloc _⟩
 case hz=>intro k hk;rw[gs];omega
 case n0=>omega
 case ps=>rintro x args W rfl;rfl
 case hI=>
  rintro s A B ⟨v,h1,h2,h3,h4⟩ hk;rw[gs] at hk;exact⟨v,hk.heap zO h1,ownsRow_keep h2 hk (fun k hk=>by omega),hk.heap zO h3,h4.trans ((hk.mono fun i hi=>by omega).below h4.size)⟩
 case hX=>intro _ _ _ _ h;exact h.elim
 case h0=>exact⟨_,g7,ownsRow_nil _ _ _ _,g5,gB⟩
 case hAs=>
  rintro x args act A B ⟨pb,h1,h2,h3⟩ hk;exact⟨pb,h1,hk.heap (by rw[gs];omega) h2,h3⟩
 case assign=>
  rintro l x args W Kk rfl hlt hk
  gi_wp2_with fail
  exact hk _ _ ⟨W.heap.size,rfl,Box.new _ _ _,zO⟩ ((Below.refl _ W).alloc (Nat.le_refl _) _)
 case body=>
  rintro l pre x args act W ⟨v,i1,i2,i3,i4⟩ ⟨pb,rfl,i5,i6⟩ hpre hlt;have e7:=i1.rules;obtain⟨e71,e72⟩:=e7;have e5:=i5.cell;have hL:=run_load_row (P:=Tryz.prog) i3 Tryz.underlying143 rfl (tab_info _ _);have hxx:=pairs_mem (hpre.subset (by simp:x∈pre++[x]));obtain⟨x1,x2⟩:=x;simp only at hxx e5 ⊢;have I1:=zh i1;have I2:=zh i2;have I3:=zh i3;have I4:=zh i4;have I5:=zh i5;clear i1 i2 i3 i4 i5
  rcases h3:(ansAt c x1 x2==3) with _|_
  ·gi_wp2_with (first
    |(refine wpListIn_load_box rfl 143 _ rfl rfl hL ?_)
    |(gi_at_call 106;(with_reducible refine(CallsIn.inRound l (callsIn_wide.2 (answer_case c x1 x2 _ zO zO))).mono ?_);rintro e W2 ⟨rfl,hb2⟩))
   have kW:Keep (fun _=>True) W W2:=Keep.of_below' hb2;refine⟨kW.mono (fun _ _=>trivial),v,I1.out.below' hb2,?_,I3.out.below' hb2,I4.out.trans (hb2.mono I4.out.size)⟩;have e:(pre++[(x1,x2)]).filter (fun p=>ansAt c p.1 p.2==3)=pre.filter fun p=>ansAt c p.1 p.2==3:=by
    rw[List.filter_append];simp only[List.filter_cons,h3,List.filter_nil];simp
   rw[e];exact ownsRow_keep I2.out kW (fun _ _=>trivial)
  ·have hlen:(pre.filter fun p=>ansAt c p.1 p.2==3).length+1≤1000000:=by
    have h1:=hpre.length_le;have h2:=pairsOf_len h8;have h4:=List.length_filter_le (fun p:Nat×Nat=>ansAt c p.1 p.2==3) pre;rw[List.length_append] at h1;simp only[List.length_singleton] at h1
    omega
   have hrec:w3.heap.size+5≤W.heap.size:=by omega
   gi_wp2_with (first
    |(refine wpListIn_load_box rfl 143 _ rfl rfl hL ?_)
    |(gi_at_call 106;(with_reducible refine(CallsIn.inRound l (callsIn_wide.2 (answer_case c x1 x2 _ zO zO))).mono ?_);rintro e W2 ⟨rfl,hb2⟩;obtain⟨r1,r2⟩:=(I1.out.below' hb2).rules;have r5:=(I5.out.below' hb2).cell
      obtain⟨v',U,hrun,hown,hg,hvb⟩:=run_append_row (P:=Tryz.prog) (W2.alloc (.cells #[.int .i64 x1,.int .i64 x2] 57)) (w3.heap.size+5) 35 35 57 (.agg #[.int .i64 0,.int .i64 0]) 2 16 Tryz.underlying35 info_pair rfl zO
       v _ _ (ownsRow_keep I2.out ((Keep.of_below' (K:=fun _=>True) hb2).alloc _) (fun _ _=>trivial)) (some ⟨W2.heap.size,0,none⟩) 1 1 [.int .i64 x1,.int .i64 x2] rfl (pair_row _ _ _ _) (by intro u hu;simp at hu;rcases hu with rfl|rfl<;>rfl) hlen zO (by have:=hb2.size;simp;omega)
      obtain⟨a',c',rfl,hro,hcap⟩:=ownsRow_own hown;have u1:=(((I1.out.below' hb2).alloc (.cells #[.int .i64 x1,.int .i64 x2] 57)).grown hg (ownsRow_block I2.out zO))
      obtain⟨u11,u12⟩:=u1.rules;have HR:=zh hrun;have HOW:=zh hown;have HG:=zh hg;clear hrun hown hg hvb hro)
    |(gi_at_builtin;refine wpListIn_app rfl _ _ _ rfl rfl rfl HR.out ?_))
   have kW:Keep (fun k=>k<w3.heap.size∨k=w3.heap.size+2∨k=w4.heap.size∨k=w4.heap.size+1) W U:=((Keep.of_below' hb2).alloc _).grown HG.out (fun k hk=>by
    have:=(I2.out.lt k hk).1;exact .inl (by simp only[gs];omega))
   have hlW:=I4.out.size;have e:(pre++[(x1,x2)]).filter (fun p=>ansAt c p.1 p.2==3)=(pre.filter fun p=>ansAt c p.1 p.2==3)++[(x1,x2)]:=by
    rw[List.filter_append];simp only[List.filter_cons,h3,List.filter_nil];simp
   refine⟨kW.setCell (.inl (by simp only[gs];omega)) _,_,u1.set_ 0 _,?_,(((I3.out.below' hb2).alloc _).grown HG.out (ownsRow_block I2.out zO)).far zS _,?_⟩
   ·rw[e];have k5:Keep (fun k=>k≠w3.heap.size+1) U (U.setCell ⟨w3.heap.size+1,0,none⟩ (.slice a' ((pre.filter fun p=>ansAt c p.1 p.2==3).length+1) c')):=(Keep.refl _ U).setCell (.inl zS) _;have h5:=ownsRow_keep HOW.out k5 (fun k hk=>by omega);rw[List.length_append,pairCells,List.flatMap_append];exact h5
   ·have k6:Keep (fun k=>k<w3.heap.size) W U:=kW.mono (fun k hk=>.inl hk);exact(I4.out.trans (k6.below hlW)).setCell zS _
 case done=>
  rintro W ⟨v,i1,i2,i3,i4⟩ hD;obtain⟨a',c',rfl,hro,hcap⟩:=ownsRow_own i2;obtain⟨u11,u12⟩:=i1.rules;have I2:=zh hro;have HCAP:=zh hcap;have hlt:=i1.lt;clear i1 i2 hro
  gi_wp2_with fail
  refine⟨by simp,.inl ⟨_,_,rfl,run_takeDeferred (by simpa[gs] using hD),?_⟩⟩;refine⟨.tuple #[.slice a' (openOf c).length c',.int .i64 0],?_,?_⟩
  ·simp[results,go_sem,openOf]
  ·have k5:Keep (fun k=>w3.heap.size+5≤k) W (W.putObj w4.heap.size (.deferred none)):=(Keep.refl _ W).putObj (by simp only[gs];omega) _;exact⟨a',c',rfl,(I2.out.keep k5 (fun k hk=>hk)).less hw5,HCAP.out,below_put ((hB2.trans (HB.out.mono hB2.size)).trans (i4.mono zO)) zO _⟩
 case stop=>intro _ _ _ _ h;exact h.elim
end
