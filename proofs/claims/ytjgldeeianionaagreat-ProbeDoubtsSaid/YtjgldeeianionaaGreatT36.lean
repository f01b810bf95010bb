/- The walks and plain laws of: MQOpens MQOpnO MQChoO MQPrf MQEq MQVer MQOpenA. No condition. -/
import Derived.Test.YtjgldeeianionaaGreatRows
import Derived.RowKit
import Derived.RowKit3
import Derived.Lib.SmallJoins
import Derived.Deep.Slices
import Derived.WideKeyArgs
import Derived.ChangeMaps5
import Derived.OpenShut
import Derived.WalkKit
import Derived.WalkSpells
import Derived.WalkLawsBesides
import Derived.RangeFuncKeeps
import Derived.Deep.Draws
import Derived.Test.YtjgldeeianionaaGreatProg
import Derived.Maps.OwnSet
import Derived.Maps.OwnOps
import Derived.Deep.LoopGhost
import Derived.Deep.DeepCutAuto
import Derived.Deep.QuietTactic
import Derived.BigQuiet
import Derived.Handy
import Derived.Lib.Hide
import Derived.Lib.ConvBytes
import Derived.Tactics2
import Derived.Defers
import Derived.Recover
import Derived.Laws.Pointers
import Derived.Deep.MidRow
import Derived.Sort.QuietIn
import Derived.ChangeKeysEq
import Derived.Sort.CutIn
import Derived.Maps.AppendAt
import Derived.OwnWalk
import Derived.OwnWalkIn
import Derived.Shelf.Abstract
import Derived.Deep.OwnRows
import Derived.Laws.EntriesVeiled
import Derived.Deep.RegionHeld3
import Derived.RangeFuncNested
import Derived.RangeFuncBound
import Derived.RangeFuncCalls
import Derived.RangeFuncLeaves
import Derived.RangeFuncRecord
import Derived.TacticsInMore
import Derived.LoopNIn
import Derived.LoopIn
import Derived.Scope
import Derived.WalkMore
import Derived.Deep.Quiet
import Derived.OrdersIn
import Derived.StillTail
import Derived.StillTailTactics
import Derived.OrdersHeld
import Derived.Deep.RegionHeld
import Derived.Test.YtjgldeeianionaaGreatT02
import Derived.Test.YtjgldeeianionaaGreatT06
import Derived.Test.YtjgldeeianionaaGreatT10
import Derived.Test.YtjgldeeianionaaGreatT12
import Derived.Test.YtjgldeeianionaaGreatT13
import Derived.Test.YtjgldeeianionaaGreatT25
import Derived.Test.YtjgldeeianionaaGreatT26
import Derived.Test.YtjgldeeianionaaGreatT29
import Derived.Test.YtjgldeeianionaaGreatT30
import Derived.Test.YtjgldeeianionaaGreatT33
import Derived.Test.YtjgldeeianionaaGreatT34
import Derived.Test.YtjgldeeianionaaGreatT01
set_option maxHeartbeats 4000000
set_option maxRecDepth 100000
set_option linter.unusedSimpArgs false
set_option linter.unusedVariables false
namespace Go.Proofs.YtjgldeeianionaaGreat
open Go.RowKit
attribute [local go_sem] Oper.semAt_some
def OpnsAt (w:World)(a:Option Addr)(ds:List Opn):Prop:=∀k d,ds[k]?=some d→∃b o a1 c1 a2 c2 a3 c3 a4 c4,a=some ⟨b,o,none⟩ ∧
 w.cell? ⟨b,o+k*4,none⟩=some (.slice a1 d.probes.length c1)∧w.cell? ⟨b,o+k*4+1,none⟩=some (.slice a2 d.found.length c2)∧w.cell? ⟨b,o+k*4+2,none⟩=some (.slice a3 d.tog.length c3)∧w.cell? ⟨b,o+k*4+3,none⟩=some (.slice a4 d.apt.length c4) ∧
 OpnAt w d (.agg #[.slice a1 d.probes.length c1,.slice a2 d.found.length c2,.slice a3 d.tog.length c3,.slice a4 d.apt.length c4])
theorem OpnsAt.below {w w':World}{a:Option Addr}{ds:List Opn}(h:OpnsAt w a ds)(hb:Below w.heap.size w w'):OpnsAt w' a ds:=fun k d hd=>by
 obtain⟨b,o,a1,c1,a2,c2,a3,c3,a4,c4,h1,h2,h3,h4,h5,h6⟩:=h k d hd;exact⟨b,o,a1,c1,a2,c2,a3,c3,a4,c4,h1,below_cell hb h2,below_cell hb h3,below_cell hb h4,below_cell hb h5,h6.below hb⟩
structure OpnE where
 d:Opn
 a1:Option Addr
 c1:Nat
 a2:Option Addr
 c2:Nat
 a3:Option Addr
 c3:Nat
 a4:Option Addr
 c4:Nat
def OpnE.row (z:OpnE):List Value:=[.slice z.a1 z.d.probes.length z.c1,.slice z.a2 z.d.found.length z.c2,.slice z.a3 z.d.tog.length z.c3,.slice z.a4 z.d.apt.length z.c4]
def OpnE.val (z:OpnE):Value:=.agg #[.slice z.a1 z.d.probes.length z.c1,.slice z.a2 z.d.found.length z.c2,.slice z.a3 z.d.tog.length z.c3,.slice z.a4 z.d.apt.length z.c4]
theorem opnRow_at:∀{zs:List OpnE} {k:Nat} {z:OpnE},zs[k]?=some z→∀i,i<4→(zs.flatMap OpnE.row)[k*4+i]?=z.row[i]?
 |[],k,z,h,i,hi=>by simp at h
 |y::zs,0,z,h,i,hi=>by
  simp at h;subst h;rw[List.flatMap_cons,List.getElem?_append_left (by simp[OpnE.row];omega)]
  simp
 |y::zs,k+1,z,h,i,hi=>by
  have ih:=opnRow_at (zs:=zs) (k:=k) (z:=z) (by simpa using h) i hi;rw[List.flatMap_cons,List.getElem?_append_right (by simp[OpnE.row];omega)];rw[show(k+1)*4+i-y.row.length=k*4+i by simp[OpnE.row];omega];exact ih
def OpnsO (B:Nat)(W:World)(v:Value)(ds:List Opn):Prop:=
 ∃zs:List OpnE,zs.map (·.d)=ds∧W.ownsRow B 53 4 v ds.length (zs.flatMap OpnE.row)∧∀z∈zs,∀W',Keep (fun k=>B≤k∧v.ownBlock≠some k) W W'→OpnAt W' z.d z.val
theorem OpnsO.nil (B:Nat)(W:World):OpnsO B W (.slice none 0 0) []:=⟨[],rfl,ownsRow_nil _ _ _ _,by simp⟩
theorem OpnsO.lt {B:Nat}{W:World}{v:Value}{ds:List Opn}(h:OpnsO B W v ds){k:Nat}(hk:v.ownBlock=some k):B≤k∧k<W.heap.size:=by
 obtain⟨_,_,h,_⟩:=h;exact h.lt k hk
theorem OpnsO.keep {K:Nat→Prop}{B:Nat}{W W':World}{v:Value}{ds:List Opn}(h:OpnsO B W v ds)(hk:Keep K W W')(hK:∀k,B≤k→K k):OpnsO B W' v ds:=by
 obtain⟨zs,h1,h2,h3⟩:=h;exact⟨zs,h1,ownsRow_keep h2 hk hK,fun z hz W2 hW2=>h3 z hz W2 ⟨hW2.os.trans hk.os,hW2.tape.trans hk.tape,hW2.output.trans hk.output,Nat.le_trans hk.size hW2.size,fun k hkk hl=>(hW2.block k hkk (Nat.lt_of_lt_of_le hl hk.size)).trans (hk.block k (hK k hkk.1) hl)⟩⟩
theorem OpnsO.below {B:Nat}{W W':World}{v:Value}{ds:List Opn}(h:OpnsO B W v ds)(hb:Below W.heap.size W W'):OpnsO B W' v ds:=h.keep (K:=fun _=>True) (Keep.of_below' hb) (fun _ _=>trivial)
theorem OpnsO.at_ {B:Nat}{W:World}{v:Value}{ds:List Opn}(h:OpnsO B W v ds):∃a cap,v = .slice a ds.length cap∧OpnsAt W a ds∧ds.length≤cap:=by
 obtain⟨zs,h1,h2,h3⟩:=h;obtain⟨a,cap,hv,hr,hc⟩:=ownsRow_own h2;refine⟨a,cap,hv,fun k x hx=>?_,hc⟩;rw[←h1,List.getElem?_map] at hx;obtain⟨z,hz,rfl⟩:=Option.map_eq_some_iff.1 hx;have g:=fun i (hi:i<4) u (hu:z.row[i]?=some u)=>hr.row (k*4+i) u (by rw[opnRow_at hz i hi];exact hu)
 obtain⟨b,o,ha,e1⟩:=g 0 zO _ rfl;obtain⟨b',o',ha',e2⟩:=g 1 zO _ rfl;rw[ha] at ha';cases ha';obtain⟨b',o',ha',e3⟩:=g 2 zO _ rfl;rw[ha] at ha';cases ha';obtain⟨b',o',ha',e4⟩:=g 3 zO _ rfl;rw[ha] at ha';cases ha';exact⟨b,o,z.a1,z.c1,z.a2,z.c2,z.a3,z.c3,z.a4,z.c4,ha,e1,by rw[Nat.add_assoc];exact e2,by rw[Nat.add_assoc];exact e3,by rw[Nat.add_assoc];exact e4,h3 z (List.mem_of_getElem? hz) W (Keep.refl _ _)⟩
theorem info_open:(Tryz.prog.info? 53).map (fun i=>(i.zero,i.size,i.bytes))=some (some (.agg #[.slice none 0 0,.slice none 0 0,.slice none 0 0,.slice none 0 0]),4,96):=zK
theorem OpnsO.push {B g:Nat}{W:World}{v:Value}{ds:List Opn}(h:OpnsO B W v ds)(z:OpnE)(hz:∀W',Keep (fun k=>B≤k∧v.ownBlock≠some k) W W'→OpnAt W' z.d z.val)(hg:Box W g z.row.toArray 53)(hl:ds.length+1≤1000000)(hB:B≤W.heap.size):
 ∃av cv U,(Builtin.append_ #[45,45] 45 #[v,.slice (some ⟨g,0,none⟩) 1 1]).run Tryz.prog W = .ok (.slice av (ds.length+1) cv) U∧OpnsO B U (.slice av (ds.length+1) cv) (ds++[z.d])∧Keep (fun k=>v.ownBlock≠some k) W U∧((Value.slice av (ds.length+1) cv).ownBlock=v.ownBlock∨(Value.slice av (ds.length+1) cv).ownBlock=some W.heap.size):=by
 obtain⟨zs,h1,h2,h3⟩:=h;have hrow:∀(k:Nat) (u:Value),z.row[k]?=some u→∃b o,some (⟨g,0,none⟩:Addr)=some ⟨b,o,none⟩∧W.cell? ⟨b,o+k,none⟩=some u:=fun k u hu=>by
  refine⟨g,0,rfl,?_⟩;rw[hg.cell,Nat.zero_add]
  simpa using hu
 obtain⟨v',U,hrun,hown,hgr,hvb⟩:=run_append_row (P:=Tryz.prog) W B 45 45 53 (.agg #[.slice none 0 0,.slice none 0 0,.slice none 0 0,.slice none 0 0]) 4 96 Tryz.underlying45 info_open rfl zO
  v _ _ h2 (some ⟨g,0,none⟩) 1 1 z.row rfl hrow (by intro u hu;simp[OpnE.row] at hu;rcases hu with rfl|rfl|rfl|rfl<;>rfl) hl zO hB
 have kU:Keep (fun k=>v.ownBlock≠some k) W U:=(Keep.refl _ W).grown hgr (fun k hk=>.inl (fun h=>h hk));obtain⟨av,cv,hve,_⟩:=ownsRow_own hown;subst hve;refine⟨av,cv,U,hrun,⟨zs++[z],by rw[List.map_append,h1];rfl,by rw[List.length_append,List.flatMap_append];simpa using hown,fun y hy W' hW'=>?_⟩,kU,hvb⟩;have all:∀W',Keep (fun k=>B≤k∧v.ownBlock≠some k) W W'→OpnAt W' y.d y.val:=by
  rcases List.mem_append.1 hy with hy|hy
  ·exact h3 y hy
  ·rw[List.mem_singleton.1 hy];exact hz
 refine all W' ⟨hW'.os.trans kU.os,hW'.tape.trans kU.tape,hW'.output.trans kU.output,Nat.le_trans kU.size hW'.size,fun k hk hkl=>?_⟩;refine(hW'.block k ⟨hk.1,?_⟩ (Nat.lt_of_lt_of_le hkl kU.size)).trans (kU.block k hk.2 hkl)
 rcases hvb with e|e
 ·rw[e];exact hk.2
 ·rw[e];intro he;cases he;omega
structure ChoE where
 p1:Nat
 p2:Nat
 s:List Nat
 n:Int
 sa:Option Addr
 sc:Nat
def ChoE.d (z:ChoE):(Nat×Nat)×List Nat:=((z.p1,z.p2),z.s)
def ChoE.row (z:ChoE):List Value:=[.int .i64 (z.p1:Int),.int .i64 (z.p2:Int),.slice z.sa z.s.length z.sc,.int .i64 z.n]
structure ChoE.Ok (l:List Prb) (z:ChoE) (W:World):Prop where
 n:z.n=costOf l z.s
 at_:Ints W z.sa (natInts z.s)
 cap:z.s.length≤z.sc
theorem choRow_at:∀{zs:List ChoE} {k:Nat} {z:ChoE},zs[k]?=some z→∀i,i<4→(zs.flatMap ChoE.row)[k*4+i]?=z.row[i]?
 |[],k,z,h,i,hi=>by simp at h
 |y::zs,0,z,h,i,hi=>by
  simp at h;subst h;rw[List.flatMap_cons,List.getElem?_append_left (by simp[ChoE.row];omega)]
  simp
 |y::zs,k+1,z,h,i,hi=>by
  have ih:=choRow_at (zs:=zs) (k:=k) (z:=z) (by simpa using h) i hi;rw[List.flatMap_cons,List.getElem?_append_right (by simp[ChoE.row];omega)];rw[show(k+1)*4+i-y.row.length=k*4+i by simp[ChoE.row];omega];exact ih
def ChosAt (l:List Prb)(w:World)(a:Option Addr)(zs:List ChoE):Prop:=∀k z,zs[k]?=some z→z.Ok l w∧∃b o,a=some ⟨b,o,none⟩ ∧
 w.cell? ⟨b,o+k*4,none⟩=some (.int .i64 (z.p1:Int))∧w.cell? ⟨b,o+k*4+1,none⟩=some (.int .i64 (z.p2:Int))∧w.cell? ⟨b,o+k*4+2,none⟩=some (.slice z.sa z.s.length z.sc)∧w.cell? ⟨b,o+k*4+3,none⟩=some (.int .i64 z.n)
theorem ChoE.Ok.below {l:List Prb}{z:ChoE}{w w':World}(h:z.Ok l w)(hb:Below w.heap.size w w'):z.Ok l w':=⟨h.n,h.at_.below hb,h.cap⟩
theorem ChosAt.below {l:List Prb}{w w':World}{a:Option Addr}{zs:List ChoE}(h:ChosAt l w a zs)(hb:Below w.heap.size w w'):ChosAt l w' a zs:=fun k z hz=>by
 obtain⟨h0,b,o,h1,h2,h3,h4,h5⟩:=h k z hz;exact⟨h0.below hb,b,o,h1,below_cell hb h2,below_cell hb h3,below_cell hb h4,below_cell hb h5⟩
def ChosO (l:List Prb)(B:Nat)(W:World)(v:Value)(zs:List ChoE):Prop:=
 W.ownsRow B 131 4 v zs.length (zs.flatMap ChoE.row)∧∀z∈zs,∀W',Keep (fun k=>B≤k∧v.ownBlock≠some k) W W'→z.Ok l W'
theorem ChosO.nil (l:List Prb)(B:Nat)(W:World):ChosO l B W (.slice none 0 0) []:=⟨ownsRow_nil _ _ _ _,by simp⟩
theorem ChosO.lt {l:List Prb}{B:Nat}{W:World}{v:Value}{zs:List ChoE}(h:ChosO l B W v zs){k:Nat}(hk:v.ownBlock=some k):B≤k∧k<W.heap.size:=h.1.lt k hk
theorem ChosO.keep {l:List Prb}{K:Nat→Prop}{B:Nat}{W W':World}{v:Value}{zs:List ChoE}(h:ChosO l B W v zs)(hk:Keep K W W')(hK:∀k,B≤k→K k):ChosO l B W' v zs:=
 ⟨ownsRow_keep h.1 hk hK,fun z hz W2 hW2=>h.2 z hz W2 ⟨hW2.os.trans hk.os,hW2.tape.trans hk.tape,hW2.output.trans hk.output,Nat.le_trans hk.size hW2.size,fun k hkk hl=>(hW2.block k hkk (Nat.lt_of_lt_of_le hl hk.size)).trans (hk.block k (hK k hkk.1) hl)⟩⟩
theorem ChosO.below {l:List Prb}{B:Nat}{W W':World}{v:Value}{zs:List ChoE}(h:ChosO l B W v zs)(hb:Below W.heap.size W W'):ChosO l B W' v zs:=h.keep (K:=fun _=>True) (Keep.of_below' hb) (fun _ _=>trivial)
theorem ChosO.at_ {l:List Prb}{B:Nat}{W:World}{v:Value}{zs:List ChoE}(h:ChosO l B W v zs):∃a cap,v = .slice a zs.length cap∧ChosAt l W a zs∧zs.length≤cap:=by
 obtain⟨h2,h3⟩:=h;obtain⟨a,cap,hv,hr,hc⟩:=ownsRow_own h2;refine⟨a,cap,hv,fun k z hz=>?_,hc⟩;have g:=fun i (hi:i<4) u (hu:z.row[i]?=some u)=>hr.row (k*4+i) u (by rw[choRow_at hz i hi];exact hu)
 obtain⟨b,o,ha,e1⟩:=g 0 zO _ rfl;obtain⟨b',o',ha',e2⟩:=g 1 zO _ rfl;rw[ha] at ha';cases ha';obtain⟨b',o',ha',e3⟩:=g 2 zO _ rfl;rw[ha] at ha';cases ha';obtain⟨b',o',ha',e4⟩:=g 3 zO _ rfl;rw[ha] at ha';cases ha';exact⟨h3 z (List.mem_of_getElem? hz) W (Keep.refl _ _),b,o,ha,e1,by rw[Nat.add_assoc];exact e2,by rw[Nat.add_assoc];exact e3,by rw[Nat.add_assoc];exact e4⟩
theorem info_choice:(Tryz.prog.info? 131).map (fun i=>(i.zero,i.size,i.bytes))=some (some (.agg #[.int .i64 0,.int .i64 0,.slice none 0 0,.int .i64 0]),4,48):=zK
theorem ChosO.push {l:List Prb}{B g:Nat}{W:World}{v:Value}{zs:List ChoE}(h:ChosO l B W v zs)(z:ChoE)(hz:∀W',Keep (fun k=>B≤k∧v.ownBlock≠some k) W W'→z.Ok l W')(hg:Box W g z.row.toArray 131)(hl:zs.length+1≤1000000)(hB:B≤W.heap.size):
 ∃av cv U,(Builtin.append_ #[129,129] 129 #[v,.slice (some ⟨g,0,none⟩) 1 1]).run Tryz.prog W = .ok (.slice av (zs.length+1) cv) U∧ChosO l B U (.slice av (zs.length+1) cv) (zs++[z])∧Keep (fun k=>v.ownBlock≠some k) W U:=by
 obtain⟨h2,h3⟩:=h;have hrow:∀(k:Nat) (u:Value),z.row[k]?=some u→∃b o,some (⟨g,0,none⟩:Addr)=some ⟨b,o,none⟩∧W.cell? ⟨b,o+k,none⟩=some u:=fun k u hu=>by
  refine⟨g,0,rfl,?_⟩;rw[hg.cell,Nat.zero_add]
  simpa using hu
 obtain⟨v',U,hrun,hown,hgr,hvb⟩:=run_append_row (P:=Tryz.prog) W B 129 129 131 (.agg #[.int .i64 0,.int .i64 0,.slice none 0 0,.int .i64 0]) 4 48 Tryz.underlying129 info_choice rfl zO
  v _ _ h2 (some ⟨g,0,none⟩) 1 1 z.row rfl hrow (by intro u hu;simp[ChoE.row] at hu;rcases hu with rfl|rfl|rfl|rfl<;>rfl) hl zO hB
 have kU:Keep (fun k=>v.ownBlock≠some k) W U:=(Keep.refl _ W).grown hgr (fun k hk=>.inl (fun h=>h hk));obtain⟨av,cv,hve,_⟩:=ownsRow_own hown;subst hve;refine⟨av,cv,U,hrun,⟨by rw[List.length_append,List.flatMap_append];simpa using hown,fun y hy W' hW'=>?_⟩,kU⟩;have all:∀W',Keep (fun k=>B≤k∧v.ownBlock≠some k) W W'→y.Ok l W':=by
  rcases List.mem_append.1 hy with hy|hy
  ·exact h3 y hy
  ·rw[List.mem_singleton.1 hy];exact hz
 refine all W' ⟨hW'.os.trans kU.os,hW'.tape.trans kU.tape,hW'.output.trans kU.output,Nat.le_trans kU.size hW'.size,fun k hk hkl=>?_⟩;refine(hW'.block k ⟨hk.1,?_⟩ (Nat.lt_of_lt_of_le hkl kU.size)).trans (kU.block k hk.2 hkl)
 rcases hvb with e|e
 ·rw[e];exact hk.2
 ·rw[e];intro he;cases he;omega
section
variable {t:Nat}{c:Cs}{pa:Option Addr}{pc:Nat}{l:List Prb}{qa:Option Addr}{qc:Nat}
theorem best3_any (l:List Prb)(z:ChoE)(w:World)(h:z.Ok l w):
 Calls Tryz.prog 98 #[.agg #[.int .i64 (z.p1:Int),.int .i64 (z.p2:Int),.slice z.sa z.s.length z.sc,.int .i64 z.n]] w fun e w'=>e = .returned (.int .i64 (costOf l z.s))∧Below w.heap.size w w':=by
 have hn:=h.n;have HN:=zh hn;clear hn h;have hB:Below w.heap.size w (w.alloc (.cells #[.int .i64 (z.p1:Int),.int .i64 (z.p2:Int),.slice z.sa z.s.length z.sc,.int .i64 z.n] 131)):=by go_grown
 have HB:=zh hB;clear hB
 go_enter Tryz.func98,Tryz.ntmps98
 go_wp2_with fail
 go_ret
 exact⟨by rw[←HN.out];rfl,HB.out⟩
theorem best4_any (z:ChoE)(w:World):
 Calls Tryz.prog 99 #[.agg #[.int .i64 (z.p1:Int),.int .i64 (z.p2:Int),.slice z.sa z.s.length z.sc,.int .i64 z.n]] w fun e w'=>e = .returned (.bool true)∧Below w.heap.size w w':=by
 have hB:Below w.heap.size w (w.alloc (.cells #[.int .i64 (z.p1:Int),.int .i64 (z.p2:Int),.slice z.sa z.s.length z.sc,.int .i64 z.n] 131)):=by go_grown
 have HB:=zh hB;clear hB
 go_enter Tryz.func99,Tryz.ntmps99
 go_wp2_with fail
 go_ret
 exact⟨rfl,HB.out⟩
end
def dbtOf (c:Cs)(l:List Prb)(a b:Nat)(s:List Nat):Opn:=match doubtOf c l a b s with
 |none=>⟨[],[],[],[]⟩
 |some x=>match canC c l s x with
  |none=>⟨[],[],[],[]⟩
  |some d=>⟨natInts s,natInts x,natInts (((allR d).find? (asPair a b true)).getD []),natInts (((allR d).find? (asPair a b false)).getD [])⟩
def heldB (L:List (List Nat))(s:List Nat):Bool:=L.any fun o=>decide (s.length<o.length)&&isInB s o
def proofOf (c:Cs)(l:List Prb)(a b:Nat):List Opn:=(proofSets c l a b).map (dbtOf c l a b)
theorem DbtAt.opn {c:Cs}{l:List Prb}{a b:Nat}{s:List Nat}{B M:Nat}{w:World}{x y z:List Nat}{v:Value}(h:DbtAt c l a b s B M w x y z v):∃u:OpnE,u.d=dbtOf c l a b s∧v=u.val∧∀W',Keep (fun k=>B≤k∧k<M) w W'→OpnAt W' u.d u.val:=by
 obtain⟨d,e1,_,e2,e3⟩:=h.can;obtain⟨a1,c1,a2,c2,a3,c3,a4,c4,hv,i1,i2,i3,i4,_⟩:=h.at_;have hd:dbtOf c l a b s=⟨natInts s,natInts x,natInts y,natInts z⟩:=by
  unfold dbtOf;rw[h.fst];simp only[e1,e2,e3,Option.getD_some]
 refine⟨⟨dbtOf c l a b s,a1,c1,a2,c2,a3,c3,a4,c4⟩,rfl,?_,fun W' hW'=>⟨a1,c1,a2,c2,a3,c3,a4,c4,rfl,?_,?_,?_,?_⟩⟩
 ·rw[hv];simp only[OpnE.val,hd,nat_len]
 all_goals (simp only[hd];first|exact(i1.keep hW').at_|exact(i2.keep hW').at_|exact(i3.keep hW').at_|exact(i4.keep hW').at_)
def ProofOut (ds:List Opn)(er:Int)(v:Value)(w:World):Prop:=er=0∧∃a cap,v = .slice a ds.length cap∧OpnsAt w a ds∧ds.length≤cap
theorem DbtPost.one {c:Cs}{l:List Prb}{a b:Nat}{s:List Nat}{w w':World}{e:Ending}(h:DbtPost c l a b s w e w'):Below w.heap.size w w'∧∃(u:OpnE) (ok:Bool),u.d=dbtOf c l a b s∧e = .returned (.tuple #[.agg #[.slice u.a1 u.d.probes.length u.c1,.slice u.a2 u.d.found.length u.c2,.slice u.a3 u.d.tog.length u.c3,.slice u.a4 u.d.apt.length u.c4],.bool ok])∧∀W',Keep (fun k=>w.heap.size≤k∧k<w'.heap.size) w' W'→OpnAt W' u.d u.val:=by
 obtain⟨hb,(⟨h1,rfl⟩|⟨x,y,z,v,h1,rfl⟩)⟩:=h
 ·refine⟨hb,⟨⟨[],[],[],[]⟩,none,0,none,0,none,0,none,0⟩,false,by simp[dbtOf,h1],rfl,fun W' _=>⟨none,0,none,0,none,0,none,0,rfl,Ints.nil _ _,Ints.nil _ _,Ints.nil _ _,Ints.nil _ _⟩⟩
 ·obtain⟨u,e1,rfl,e3⟩:=h1.opn;exact⟨hb,u,true,e1,rfl,e3⟩
theorem PlanPost.one {c:Cs}{l:List Prb}{a b:Nat}{w w':World}{e:Ending}(h:PlanPost l (cheapestOf c l a b) w e w'):Below w.heap.size w w'∧∃xa xn xc n okb,e = .returned (.tuple #[.agg #[.slice xa xn xc,.int .i64 n],.bool okb])∧((okb=false∧proofAll c l a b=setsOf l.length)∨(okb=true∧proofAll c l a b=belowOf l n)):=by
 obtain⟨hb,(⟨h1,rfl⟩|⟨x,ra,rc,h1,rfl,_⟩)⟩:=h
 ·exact⟨hb,_,_,_,_,_,rfl,.inl ⟨rfl,by simp[proofAll,h1]⟩⟩
 ·exact⟨hb,_,_,_,_,_,rfl,.inr ⟨rfl,by simp[proofAll,h1]⟩⟩
theorem proofAll_mem {c:Cs}{l:List Prb}{a b:Nat}:∀s∈proofAll c l a b,s∈setsOf l.length:=by
 unfold proofAll;intro s hs
 split at hs
 ·exact(List.mem_filter.1 hs).1
 ·exact hs
theorem proofAll_len {c:Cs}{l:List Prb}{a b:Nat}(h:l.length≤5):(proofAll c l a b).length≤32:=by
 have h1:=sets_len h;unfold proofAll
 split
 ·exact Nat.le_trans (List.length_filter_le _ _) h1
 ·exact h1
section
variable {t:Nat}{c:Cs}{pa:Option Addr}{pc:Nat}{l:List Prb}{qa:Option Addr}{qc:Nat}
theorem proof2_any (hsm:c.Small)(hpr:probesErr c l=0)(g1 g2 a b:Nat)(ha:a<c.parts.length)(hb:b<c.parts.length)(w:World)(g:Nat)
 (h:∀W',Keep (fun k=>k≠g) w W'→LabAt W' t c pa pc l qa qc) (h1:Box w g1 #[.int .i64 a] 3) (h2:Box w g2 #[.int .i64 b] 3) (hg:Box w g #[.slice none 0 0] 45) (hn1:g1≠g) (hn2:g2≠g):
 Calls Tryz.prog 84 #[.pointer (some ⟨t,0,none⟩),.pointer (some ⟨g1,0,none⟩),.pointer (some ⟨g2,0,none⟩),.pointer (some ⟨g,0,none⟩)] w fun e w'=>∃er v,e = .returned (.int .i64 er)∧Keep (fun k=>k≠g) w w'∧Box w' g #[v] 45∧ProofOut (proofOf c l a b) er v w':=by
 have hl5:=(probes_ok hpr).2.1;have HS:=zh (sets_any hl5 w (h w (Keep.refl _ _)));have hgl:=hg.lt
 go_enter Tryz.func84,Tryz.ntmps84
 go_wp2_with fail
 go_step3
 go_wp2_with fail
 refine zM HS ?_;rintro e w2 ⟨v2,rfl,hrows,hb2⟩;obtain⟨ra,rc,rfl,hle,hhi⟩:=hrows.hi;have HHI:=zh hhi;have HC:=zh (cheapest_any hsm hpr a b ha hb w2 (h w2 (Keep.of_below' hb2)));have e1:=(h1.below' hb2).cell;have e2:=(h2.below' hb2).cell;clear hrows hhi HS
 go_wp2_with fail
 refine zM HC ?_;rintro e w3 hpost;obtain⟨hb3,xa,xn,xc,n,okb,rfl,hdis⟩:=hpost.one;obtain⟨w4,hw4⟩:=zx (w3.alloc (.cells #[.slice xa xn xc,.int .i64 n] 42));have hB4:Below w3.heap.size w3 w4:=by rw[←hw4];go_grown
 have b4:Box w4 w3.heap.size #[.slice xa xn xc,.int .i64 n] 42:=by rw[←hw4];exact Box.new _ _ _
 have hb24:Below w2.heap.size w2 w4:=hb3.trans (hB4.mono hb3.size);have hb4:Below w.heap.size w w4:=hb2.trans (hb24.mono hb2.size);have HHI4:=zh ((HHI.out.below hb24).mono (Nat.le_refl _) hb24.size);have HB4:=zh hb4;have HBW:=zh (below9_any hpr n w4 (h w4 (Keep.of_below' hb4)));have e4:=b4.cell;have HW4:=zh hw4;have HD:=zh hdis;clear hpost hb3 hw4 hB4 b4 hb24 hb4 e1 e2 HC HHI hdis
 go_upto_region 3 with fail
 simp only[HW4.out]
 go_upto_if 24 with fail
 go_cut [6] (fun s6 wx=>∃sa sc,s6 = .slice sa (proofAll c l a b).length sc∧RowsHi w.heap.size wx.heap.size wx sa (proofAll c l a b)∧Below w.heap.size w wx)
 case first=>
  cases okb
  ·have hall:proofAll c l a b=setsOf l.length:=(HD.out.resolve_right (fun h=>by cases h.1)).2;have HALL:=zh hall;clear hall
   go_wp2_with fail
   go_meet
   rw[HALL.out];exact⟨ra,rc,rfl,HHI4.out,HB4.out⟩
  ·have hall:proofAll c l a b=belowOf l n:=(HD.out.resolve_left (fun h=>by cases h.1)).2;have HALL:=zh hall;clear hall
   go_wp2_with fail
   refine zM HBW ?_;rintro e w5 ⟨a5,c5,rfl,hr5,hb5⟩;have HR5:=zh hr5;have HB5:=zh (HB4.out.trans (hb5.mono HB4.out.size));clear hr5 hb5 e4
   go_wp2_with fail
   go_meet
   rw[HALL.out];exact⟨a5,c5,rfl,HR5.out.mono HB4.out.size (Nat.le_refl _),HB5.out⟩
 case rest=>
  obtain⟨sa,sc,rfl,hr,hbc⟩:=hcut;clear HBW HHI4 HB4 HW4 HD e4;have HR:=zh hr;have HBC:=zh hbc;have HALL:=zh (fun s (hs:s∈proofAll c l a b)=>sets_in (proofAll_mem s hs));have hlen:=proofAll_len (c:=c) (a:=a) (b:=b) hl5;have HPS:=zh (show proofOf c l a b=((proofAll c l a b).filter fun s=>!heldB (proofAll c l a b) s).map (dbtOf c l a b) from rfl);have hg0:=hg.below' hbc;have HG0:=zh hg0;generalize proofAll c l a b=L at *;clear hr hbc hg0
  go_wp2_with fail
  go_step3
  go_wp2_with fail
  go_loopw [31] (fun i wr=>∃(k:Nat) (v:Value),k≤L.length∧i = .int .i64 k∧Keep (fun k=>k<wc.heap.size∧k≠g) wc wr∧Box wr g #[v] 45∧OpnsO wc.heap.size wr v (((L.take k).filter fun s=>!heldB L s).map (dbtOf c l a b))) (fun i _=>L.length-(intOf i).toNat)
  case atStart=>exact⟨0,_,Nat.zero_le _,rfl,Keep.refl _ _,HG0.out,OpnsO.nil _ _⟩
  case round=>
   obtain⟨k,v,hk,rfl,hkp,hbx,hop⟩:=hrel;have HKP:=zh hkp;have HBX:=zh hbx;have HOP:=zh hop;clear hkp hbx hop HG0
   by_cases hlt:k<L.length
   ·obtain⟨s,hx⟩:=get_of_lt L hlt;obtain⟨wo,hwo⟩:∃wo:World,wo=wr:=⟨_,rfl⟩
    subst hwo;have hr1:=HR.out.keep (HKP.out.mono fun k ⟨h1,h2⟩=>⟨h2,zO⟩);have HR1:=zh hr1;obtain⟨b0,o0,ra0,rc0,rfl,hb0,hb0c,q1,q2,q3⟩:=hr1 k s hx;have hkn:(k:Int)<(L.length:Int):=by omega
    have HX:=zh hx;have HQ2:=zh q2.at_;have hs5:=HALL.out s (List.mem_of_getElem? hx);have hwo:Keep (fun k=>k≠g) w wo:=⟨HKP.out.os.trans HBC.out.os,HKP.out.tape.trans HBC.out.tape,HKP.out.output.trans HBC.out.output,Nat.le_trans HBC.out.size HKP.out.size,fun k hkg hl=>(HKP.out.block k ⟨by have:=HBC.out.size;omega,hkg⟩ (by have:=HBC.out.size;omega)).trans (HBC.out.block k hl)⟩
    have HLB:=zh (h wo hwo);have HA1:=zh (show Box wo g1 #[.int .i64 (a:Int)] 3 from hwo.heap hn1 h1);have HA2:=zh (show Box wo g2 #[.int .i64 (b:Int)] 3 from hwo.heap hn2 h2);have hnil:((L.take (k+1)).filter fun s=>!heldB L s)=((L.take k).filter fun s=>!heldB L s)++if heldB L s then [] else [s]:=by
     rw[filter_snoc HX.out];cases heldB L s<;>rfl
    have HNIL:=zh hnil;clear q2 hr1 hx hwo hnil
    go_wp2_with fail
    go_loopw [37] (fun j wr=>∃m:Nat,m≤L.length∧j = .int .i64 m∧(∀o∈L.take m,(decide (s.length<o.length)&&isInB s o)=false)∧Below wo.heap.size wo wr) (fun j _=>L.length-(intOf j).toNat)
    case atStart=>exact⟨0,Nat.zero_le _,rfl,by simp,Below.refl _ _⟩
    case round=>
     obtain⟨m,hm,rfl,hall,hb5⟩:=hrel;have HAL:=zh hall;have HB5:=zh hb5;clear hall
     by_cases hlm:m<L.length
     ·obtain⟨o,ho⟩:=get_of_lt L hlm;obtain⟨bx,ox,ra1,rc1,ex,_,_,p1,p2,p3⟩:=(HR1.out.below hb5) m o ho;cases ex;have hmn:(m:Int)<(L.length:Int):=by omega
      have ho5:=HALL.out o (List.mem_of_getElem? ho);have HO:=zh ho;have HIS:=zh (isIn_any ra0 s rc0 ra1 o rc1 wr (HQ2.out.below hb5) p2.at_ zO zO);clear ho p2 hb5
      by_cases hlo:(s.length:Int)<(o.length:Int)
      ·have hls:decide (s.length<o.length)=true:=decide_eq_true zO
       go_wp2_with fail
       refine zM HIS ?_;rintro e w6 ⟨rfl,hb6⟩;have HB6:=zh (HB5.out.trans (hb6.mono HB5.out.size))
       rcases hin:isInB s o with _|_
       ·have HIN:=zh hin;clear hin hb6 p1
        go_wp2_with fail
        go_roundw
        case rel=>
         refine⟨m+1,zO,zN,fun y hy=>?_,HB6.out⟩;rw[List.take_add_one,HO.out] at hy;simp at hy
         rcases hy with hy|rfl
         ·exact HAL.out y hy
         ·rw[HIN.out];simp
        case measure=>simp[intOf];omega
       ·have HIN:=zh (show heldB L s=true from List.any_eq_true.2 ⟨o,List.mem_of_getElem? HO.out,by rw[hls,hin];rfl⟩);clear hin hb6 p1
        go_wp2_with fail
        go_roundw
        case rel=>
         refine⟨k+1,v,zO,zN,HKP.out.trans (Keep.of_below' HB6.out),HBX.out.below' HB6.out,?_⟩;rw[HNIL.out,HIN.out]
         simpa using HOP.out.below HB6.out
        case measure=>simp[intOf];omega
      ·have hls:decide (s.length<o.length)=false:=decide_eq_false zO
       go_wp2_with fail
       go_roundw
       case rel=>
        refine⟨m+1,zO,zN,fun y hy=>?_,HB5.out⟩;rw[List.take_add_one,HO.out] at hy;simp at hy
        rcases hy with hy|rfl
        ·exact HAL.out y hy
        ·rw[hls];rfl
       case measure=>simp[intOf];omega
     ·have HNH:=zh (show heldB L s=false from by
       rw[heldB,List.any_eq_false];intro o ho;have:=HAL.out o (by rw[List.take_of_length_le zO];exact ho)
       simpa using this)
      have hlb:=HLB.out.below hb5;have e1:=(HA1.out.below' hb5).cell;have e2:=(HA2.out.below' hb5).cell;have HDB:=zh (doubt_any hsm hpr a b ha hb ra0 s rc0 hs5.1 zO wr hlb (HQ2.out.below hb5));clear hlb
      go_wp2_with fail
      refine zM HDB ?_;rintro e w7 hpost;obtain⟨hb7,u,okk,hud,rfl,hdat⟩:=hpost.one;have HUD:=zh hud;clear hud;obtain⟨ds,hds⟩:=zx (((L.take k).filter fun s=>!heldB L s).map (dbtOf c l a b));have hdl:ds.length≤L.length:=by
       rw[←hds,List.length_map];have h1:=List.length_filter_le (fun s=>!heldB L s) (L.take k);rw[List.length_take] at h1
       omega
      have hop7:=(HOP.out.below hb5).below hb7;rw[hds] at hop7;have hbx7:=(HBX.out.below' hb5).below' hb7;have hvl:∀k,v.ownBlock=some k→wc.heap.size≤k∧k<wr.heap.size:=fun k hk=>(HOP.out.below hb5).lt hk
      have hal:Below w7.heap.size w7 ((w7.alloc (.cells #[.slice u.a1 u.d.probes.length u.c1,.slice u.a2 u.d.found.length u.c2,.slice u.a3 u.d.tog.length u.c3,.slice u.a4 u.d.apt.length u.c4] 53)).alloc (.cells #[.slice u.a1 u.d.probes.length u.c1,.slice u.a2 u.d.found.length u.c2,.slice u.a3 u.d.tog.length u.c3,.slice u.a4 u.d.apt.length u.c4] 53)):=by go_grown
      have hsz7:=hb7.size;have hsz5:=hb5.size;have hszo:=HKP.out.size;have hszc:=HBC.out.size;obtain⟨av,cv,U,hrun,hown,hkU,hov⟩:=(hop7.below hal).push (g:=w7.heap.size+1) u (fun W' hW'=>hdat W' ⟨hW'.os.trans hal.os,hW'.tape.trans hal.tape,hW'.output.trans hal.output,Nat.le_trans hal.size hW'.size,fun k hk hl=>(hW'.block k ⟨zO,fun he=>by have:=hvl k he;omega⟩ (Nat.lt_of_lt_of_le hl hal.size)).trans (hal.block k hl)⟩) (Box.new' zS) zO zT;have hbU:Box U g #[v] 45:=hkU.heap (fun he=>by have:=hvl g he;omega) (hbx7.below' hal);have hcU:=hbU.rules;have hnn:(ds++[u.d])=(((L.take (k+1)).filter fun s=>!heldB L s).map (dbtOf c l a b)):=by
       rw[HNIL.out,HNH.out,HUD.out,←hds];simp
      obtain⟨av0,cv0,rfl,_,_⟩:=hop7.at_;have hbx8:Box (w7.alloc (.cells #[.slice u.a1 u.d.probes.length u.c1,.slice u.a2 u.d.found.length u.c2,.slice u.a3 u.d.tog.length u.c3,.slice u.a4 u.d.apt.length u.c4] 53)) g _ 45:=hbx7.alloc _;have e8:=hbx8.cell;have HRN:=zh hrun;have HKU:=zh ((Keep.of_below' ((HB5.out.trans (hb7.mono hsz5)).trans (hal.mono zO)):Keep (fun k=>k<wc.heap.size) wo _).trans (hkU.mono fun k (hk:k<wc.heap.size) he=>by have:=hvl k he;omega));have HNN:=zh hnn;have HOW:=zh hown;have HBU:=zh hbU;obtain⟨z1,z2⟩:=hcU;have hgw:g<wc.heap.size:=by omega
      clear hrun hown hnn hds hop7 hbx7 hal hkU hov hbU hdat hpost e1 e2 hbx8 HDB
      go_upto_region 14 with fail
      go_wp2_with (at_builtin;refine wpList_app rfl _ _ _ rfl rfl rfl HRN.out ?_)
      go_roundw
      case rel=>
       refine⟨k+1,_,zO,zN,(HKP.out.trans (HKU.out.mono fun k hk=>hk.1)).setCell (.inl zS) _,HBU.out.set_ 0 _,?_⟩;rw[←HNN.out];have kS:Keep (fun k=>k≠g) U (U.setCell ⟨g,0,none⟩ (.slice av (ds.length+1) cv)):=(Keep.refl _ U).setCell (.inl zS) _;exact HOW.out.keep kS (fun k hk=>by omega)
      case measure=>simp[intOf];omega
   ·go_wp2_with fail
    simp only[Exit.noGoto_ret]
    go_ret
    have hkl:k=L.length:=by omega
    subst hkl;have hfin:=HOP.out;rw[List.take_length,←HPS.out] at hfin;obtain⟨av,cv,rfl,hat,hcv⟩:=hfin.at_;refine⟨0,_,rfl,?_,HBX.out,rfl,av,cv,rfl,hat,hcv⟩;have hsz:=HBC.out.size;exact⟨HKP.out.os.trans HBC.out.os,HKP.out.tape.trans HBC.out.tape,HKP.out.output.trans HBC.out.output,Nat.le_trans hsz HKP.out.size,fun k hkg hl=>(HKP.out.block k ⟨zO,hkg⟩ zO).trans (HBC.out.block k hl)⟩
end
theorem equalInts_any (a b:Option Addr)(ca cb:Nat)(l m:List Int)(w:World)(ha:Ints w a l)(hb:Ints w b m)(hl:l.length≤1000000)(hm:m.length≤1000000):
 Calls Tryz.prog 116 #[.slice a l.length ca,.slice b m.length cb] w fun e w'=>e = .returned (.bool (decide (l=m)))∧Below w.heap.size w w':=by
 by_cases hlen:l.length=m.length
 ·have hlb:((l.length:Int) != (m.length:Int))=false:=by simp[hlen]
  have HL:=zh hlen;clear hlen
  go_enter Tryz.func116,Tryz.ntmps116
  go_wp2
  go_loopw [13] (fun i wr=>∃k:Nat,k≤l.length∧i = .int .i64 k∧l.take k=m.take k∧Below w.heap.size w wr) (fun i _=>l.length-(intOf i).toNat)
  case atStart=>exact⟨0,Nat.zero_le _,rfl,by simp,Below.refl _ _⟩
  case round=>
   obtain⟨k,hk,rfl,hall,hB⟩:=hrel;have HA:=zh hall;have HB:=zh hB;clear hall
   by_cases hlt:k<l.length
   ·have hltm:k<m.length:=by have:=HL.out;omega
    obtain⟨b1,o1,rfl,hb1⟩:=(ha.below hB).base zO;obtain⟨b2,o2,rfl,hb2⟩:=(hb.below hB).base zO;obtain⟨x,hx⟩:=get_of_lt l hlt;obtain⟨y,hy⟩:=get_of_lt m hltm;have c1:=hb1 _ _ hx;have c2:=hb2 _ _ hy;have HX:=zh hx;have HY:=zh hy;have hki:(k:Int)<m.length:=by omega
    clear hx hy hb1 hb2 hB
    by_cases hxy:x=y
    ·have hxb:(x != y)=false:=by simp[hxy]
     have HXY:=zh hxy;clear hxy
     go_wp2_with fail
     go_quiet (fail)
     go_wp2_with fail
     go_roundw
     case rel=>exact⟨k+1,zO,zN,(same_take HX.out HY.out HA.out).2 HXY.out,below_drewN HB.out _⟩
     case measure=>simp[intOf];omega
    ·have hxb:(x != y)=true:=by simp[hxy]
     have HXY:=zh hxy;clear hxy
     go_wp2_with fail
     go_quiet (fail)
     go_wp2_with fail
     go_ret
     refine⟨ret_bool ?_,below_drewN HB.out _⟩
     symm
     simp only[decide_eq_false_iff_not];intro e;subst e;have:=HX.out.symm.trans HY.out;exact HXY.out (Option.some.inj this)
   ·clear hB
    go_wp2_with fail
    go_ret
    refine⟨ret_bool ?_,HB.out⟩;have h1:=HA.out;have h2:=HL.out;rw[List.take_of_length_le zO,List.take_of_length_le zO] at h1
    simp[h1]
 ·have hlb:((l.length:Int) != (m.length:Int))=true:=by simp;omega
  have HL:=zh hlen;clear hlen
  go_enter Tryz.func116,Tryz.ntmps116
  go_wp2
  go_ret
  exact⟨ret_bool (by symm;simp only[decide_eq_false_iff_not];exact fun e=>HL.out (by rw[e])),Below.refl _ _⟩
def Ver.Small (v:Ver):Prop:=v.ans<256∧v.found.length≤1000∧v.proof.length≤1000000∧∀z∈v.proof,z.Small
def VersAt (w:World)(a:Option Addr)(vs:List Ver):Prop:=∀k v,vs[k]?=some v→∃b o fa fc ra rc,a=some ⟨b,o,none⟩ ∧
 w.cell? ⟨b,o+k*3,none⟩=some (.slice fa v.found.length fc)∧w.cell? ⟨b,o+k*3+1,none⟩=some (.int .u8 v.ans)∧w.cell? ⟨b,o+k*3+2,none⟩=some (.slice ra v.proof.length rc)∧Ints w fa v.found∧BrsAt w ra v.proof∧v.proof.length≤rc
theorem VersAt.below {w w':World}{a:Option Addr}{vs:List Ver}(h:VersAt w a vs)(hb:Below w.heap.size w w'):VersAt w' a vs:=fun k v hv=>by
 obtain⟨b,o,fa,fc,ra,rc,h1,h2,h3,h4,h5,h6,h7⟩:=h k v hv;exact⟨b,o,fa,fc,ra,rc,h1,below_cell hb h2,below_cell hb h3,below_cell hb h4,h5.below hb,h6.below hb,h7⟩
theorem VersAt.tail {w:World}{b o:Nat}{v:Ver}{vs:List Ver}(h:VersAt w (some ⟨b,o,none⟩) (v::vs)):VersAt w (some ⟨b,o+3,none⟩) vs:=fun k u hu=>by
 obtain⟨b',o',fa,fc,ra,rc,h1,h2,h3,h4,h5⟩:=h (k+1) u (by simpa using hu);cases h1;have e:o+(k+1)*3=o+3+k*3:=by omega
 rw[e] at h2 h3 h4;exact⟨b,o+3,fa,fc,ra,rc,rfl,h2,h3,h4,h5⟩
def verGo (c:Cs)(l:List Prb)(a b:Nat)(s:List Nat):List (List Nat)→List Ver→Bool
 |[],vs=>vs.isEmpty
 |_::_,[]=>false
 |x::xs,v::vs=>decide (v.found=natInts x)&&provedB c l a b s x v.ans v.proof&&verGo c l a b s xs vs
def checkVersB (c:Cs)(l:List Prb)(a b:Nat)(s:List Nat)(vs:List Ver):Bool:=verGo c l a b s (outsOf (cntsOf c l s)) vs
structure VI (c:Cs) (l:List Prb) (t a b:Nat) (sa:Option Addr) (s:List Nat) (sc:Nat) (vs:List Ver) (g:Nat) (w:World) (pre:List (List Nat)) (A:World):Prop where
 old:Keep (fun k=>k≠g) w A
 lb:Box A w.heap.size #[.pointer (some ⟨t,0,none⟩)] 104
 er:Box A (w.heap.size+1) #[.int .i64 0] 30
 rs:∃ra rc,Box A (w.heap.size+2) #[.slice ra (vs.drop pre.length).length rc] 70∧(vs.drop pre.length).length≤rc∧∀W',Keep (fun k=>k≠g) w W'→VersAt W' ra (vs.drop pre.length)
 tb:Box A (w.heap.size+3) #[.pointer (some ⟨t,0,none⟩)] 104
 sb:Box A (w.heap.size+4) #[.slice sa s.length sc] 26
 ok:Box A g #[.bool true] 4
 all:∀r,verGo c l a b s (pre++r) vs=verGo c l a b s r (vs.drop pre.length)
structure VX (c:Cs) (l:List Prb) (a b:Nat) (s:List Nat) (vs:List Ver) (g:Nat) (w:World) (A:World):Prop where
 old:Keep (fun k=>k≠g) w A
 er:Box A (w.heap.size+1) #[.int .i64 0] 30
 ok:Box A g #[.bool false] 4
 no:checkVersB c l a b s vs=false
section
variable {c:Cs}{l:List Prb}{t a b:Nat}{sa:Option Addr}{s:List Nat}{sc:Nat}{vs:List Ver}{g:Nat}{w:World}{pre:List (List Nat)}{A B:World}
theorem VI.below (hi:VI c l t a b sa s sc vs g w pre A)(hb:Below A.heap.size A B):VI c l t a b sa s sc vs g w pre B:=by
 obtain⟨ra,rc,h1,h2⟩:=hi.rs;exact⟨hi.old.trans (Keep.of_below' hb),hi.lb.below' hb,hi.er.below' hb,⟨ra,rc,h1.below' hb,h2⟩,hi.tb.below' hb,hi.sb.below' hb,hi.ok.below' hb,hi.all⟩
theorem VX.below (hi:VX c l a b s vs g w A)(hb:Below A.heap.size A B):VX c l a b s vs g w B:=⟨hi.old.trans (Keep.of_below' hb),hi.er.below' hb,hi.ok.below' hb,hi.no⟩
theorem VI.no_end (hi:VI c l t a b sa s sc vs g w pre A){x:List Nat}(hpre:(pre++[x]) <+: outsOf (cntsOf c l s))(hn:∀r,verGo c l a b s (x::r) (vs.drop pre.length)=false):checkVersB c l a b s vs=false:=by
 obtain⟨r,hr⟩:=hpre;unfold checkVersB;rw[←hr,List.append_assoc,hi.all];exact hn r
end
def VC (g:Nat)(w:World)(_:World)(k:Nat):Prop:=k=g∨k=w.heap.size+1∨k=w.heap.size+2
def VAs (t:Nat)(va:Option Addr)(n vc:Nat)(sa:Option Addr)(m sc:Nat)(g g1 g2 g3 g4:Nat)(w:World)(x:List Nat)(_:Array Value)(act:Act)(A:World):Prop:=
 ∃fa fc,RowOwn (w.heap.size+7) A fa ((natInts x).map (Value.int .i64))∧x.length≤fc ∧
  act={tmps:=#[.pointer (some ⟨t,0,none⟩),.pointer (some ⟨g4,0,none⟩),.pointer (some ⟨g,0,none⟩),.pointer (some ⟨g3,0,none⟩),.pointer (some ⟨g1,0,none⟩),.pointer (some ⟨g2,0,none⟩),
   .pointer (some ⟨w.heap.size,0,none⟩),.pointer (some ⟨w.heap.size+1,0,none⟩),.pointer (some ⟨w.heap.size+2,0,none⟩),.slice fa x.length fc,.slice va n vc,.pointer (some ⟨t,0,none⟩),.slice sa m sc,
   .func (.func 176) #[] #[.pointer (some ⟨w.heap.size+4,0,none⟩),.pointer (some ⟨w.heap.size+3,0,none⟩)],.slice fa x.length fc,
   undef,undef,undef,undef,undef,undef,undef,undef,undef,undef,undef,undef,undef,undef,undef,undef,undef,undef,undef,undef,undef,undef,undef,undef,undef,undef,undef,undef,undef,undef,undef],defers:=[]}
theorem load_errno9 {w:World}{g:Nat}{v:Value}(h:Box w g #[v] 30):(loadVar 30 ⟨g,0,none⟩).run Tryz.prog w = .ok v w:=by
 have:=h.cell 0;simp at this
 simp[go_sem,this]
theorem checkVers2_any {t:Nat}{c:Cs}{pa:Option Addr}{pc:Nat}{l:List Prb}{qa:Option Addr}{qc:Nat}(hsm:c.Small)(hpr:probesErr c l=0)(g1 g2 g3 g4 a b:Nat)(ha:a<c.parts.length)(hb:b<c.parts.length)(sa:Option Addr)(s:List Nat)(sc:Nat)(hs:∀v∈s,v<l.length)(hsl:s.length≤1000)
 (va:Option Addr) (vs:List Ver) (vc:Nat) (hvs:∀v∈vs,v.Small) (hvl:vs.length≤1000000) (hvc:vs.length≤vc) (w:World) (g:Nat)
 (h:∀W',Keep (fun k=>k≠g) w W'→LabAt W' t c pa pc l qa qc∧Ints W' sa (natInts s)∧VersAt W' va vs)
 (h1:Box w g1 #[.int .i64 a] 3) (h2:Box w g2 #[.int .i64 b] 3) (h3:Box w g3 #[.slice sa s.length sc] 26) (h4:Box w g4 #[.slice va vs.length vc] 70) (hg:Box w g #[.bool false] 4) (hn1:g1≠g) (hn2:g2≠g) (hn3:g3≠g):
 Calls Tryz.prog 114 #[.pointer (some ⟨t,0,none⟩),.pointer (some ⟨g4,0,none⟩),.pointer (some ⟨g,0,none⟩),.pointer (some ⟨g3,0,none⟩),.pointer (some ⟨g1,0,none⟩),.pointer (some ⟨g2,0,none⟩)] w fun e w'=>∃er v,e = .returned (.int .i64 er)∧Keep (fun k=>k≠g) w w'∧Box w' g #[v] 4∧BoolOut (checkVersB c l a b s vs) er v w':=by
 have hmf:=run_mf Tryz.prog;have e4:=h4.cell;have hgl:=hg.lt;have hg4l:=h4.lt;obtain⟨w1,hw1⟩:=zx ((((w.alloc (.cells #[.pointer (some ⟨t,0,none⟩)] 104)).alloc (.cells #[.int .i64 0] 30)).alloc (.cells #[.slice va vs.length vc] 70)));have hB1:Below w.heap.size w w1:=by rw[←hw1];go_grown
 have hs1:w1.heap.size=w.heap.size+3:=by rw[←hw1];simp
 have c0:Box w1 w.heap.size #[.pointer (some ⟨t,0,none⟩)] 104:=by rw[←hw1];exact((Box.new _ _ _).alloc _).alloc _
 have c1:Box w1 (w.heap.size+1) #[.int .i64 0] 30:=by rw[←hw1];exact(Box.new' zS).alloc _
 have c2:Box w1 (w.heap.size+2) #[.slice va vs.length vc] 70:=by rw[←hw1];exact Box.new' zS
 have cg:=hg.below' hB1;have e3:=(h3.below' hB1).cell;have e6:=c0.cell;obtain⟨z1,z2⟩:=cg.rules;have HW1:=zh hw1;clear hw1;refine(callsIn_wide (n:=0)).1 (callsIn_of_wp_marks Tryz.func114 rfl trivial ?_ rfl);simp only[Tryz.ntmps114,List.size_toArray,List.length_cons,List.length_nil,Nat.reduceAdd,Nat.reduceSub,Array.replicate_succ,Array.replicate_zero,List.push_toArray,List.append_toArray,List.nil_append,List.cons_append]
 gi_upto_region 2 with fail
 simp only[HW1.out];have e3':∀i,(w1.setCell ⟨g,0,none⟩ (.bool true)).cell? ⟨g3,i,none⟩=(#[.slice sa s.length sc]:Array Value)[i]?:=((h3.below' hB1).far (by simpa using hn3) _).cell;have e6':∀i,(w1.setCell ⟨g,0,none⟩ (.bool true)).cell? ⟨w.heap.size,i,none⟩=(#[.pointer (some ⟨t,0,none⟩)]:Array Value)[i]?:=(c0.far zT _).cell
 gi_wp2_with (gi_at_call 115;(with_reducible refine(callsIn_wide.2 (outcomes_any _ _ _ _ _)).mono ?_);rintro e w' ⟨rfl,rfl⟩)
 obtain⟨w4,hw4⟩:=zx (((w1.setCell ⟨g,0,none⟩ (.bool true)).alloc (.cells #[.pointer (some ⟨t,0,none⟩)] 104)).alloc (.cells #[.slice sa s.length sc] 26));have gs:w4.heap.size=w.heap.size+5:=by rw[←hw4];simp[hs1]
 have gI:VI c l t a b sa s sc vs g w [] w4:=by
  rw[←hw4];refine⟨(((Keep.of_below' hB1).setCell (.inl zS) _).alloc _).alloc _,((c0.far zT _).alloc _).alloc _,((c1.far zT _).alloc _).alloc _,⟨va,vc,((c2.far zT _).alloc _).alloc _,hvc,fun W' hW=>(h W' hW).2.2⟩,(Box.new' (by simp[hs1])).alloc _,Box.new' (by simp[hs1]),((cg.set_ 0 _).alloc _).alloc _,fun r=>rfl⟩
 simp only[hs1,Nat.add_assoc,Nat.reduceAdd];simp only[hw4];clear hw4 e3 e6 e3' e6' e4 z1 z2 c0 c1 c2 cg hB1 HW1;have HGN:=zh (And.intro hgl (show True from trivial));refine wpIn_rangeD (gf:=176) (lb:=#[.pointer (some ⟨w.heap.size+4,0,none⟩),.pointer (some ⟨w.heap.size+3,0,none⟩)]) (Rd:=OutRd (w.heap.size+7)) (xs:=outsOf (cntsOf c l s)) rfl (enters_of Tryz.func176 zK rfl)
  (fun o1 o2=>outs_gives (t:=t) (pa:=pa) (pc:=pc) (qa:=qa) (qc:=qc) hpr sa s sc (w.heap.size+3) (w.heap.size+4) (w.heap.size+7) hs hsl _ zT) ?ps
  (VC g w) (VI c l t a b sa s sc vs g w) (fun co _ A=>co = .ret∧VX c l a b s vs g w A) ?hC1 ?hC2 ?hC3 ?hC4 ?hOk ?hI ?hI2 ?hX ?hX2 gI (VAs t va vs.length vc sa s.length sc g g1 g2 g3 g4 w) ?hAs ?assign ?body ?done ?stop
 case ps=>rintro D x args W ⟨fa,fc,rfl,_⟩;rfl
 case hC1=>intro s A B k _ _ _ h;exact h
 case hC2=>
  intro s A k hi _ hk
  rcases hk with rfl|rfl|rfl
  ·exact hi.ok.lt
  ·exact hi.er.lt
  ·obtain⟨ra,rc,h1,_⟩:=hi.rs;exact h1.lt
 case hC3=>intro A o;rfl
 case hC4=>intro s A hi _;rw[gs];unfold VC;omega
 case hOk=>intro rec pre A hi;exact⟨(h A hi.1.old).1,(h A hi.1.old).2.1,hi.1.tb,hi.1.sb⟩
 case hI=>intro s A B hi hb;exact hi.below hb
 case hI2=>
  intro s A o hi;have hk:Keep (fun k=>k≠w4.heap.size+1) A (A.putObj (w4.heap.size+1) o):=(Keep.refl _ A).putObj (fun h=>h rfl) _;rw[gs] at hk ⊢;obtain⟨ra,rc,h1,h2⟩:=hi.rs;have hko:Keep (fun k=>k≠g) w (A.putObj (w.heap.size+5+1) o):=⟨hk.os.trans hi.old.os,hk.tape.trans hi.old.tape,hk.output.trans hi.old.output,Nat.le_trans hi.old.size hk.size,fun k hkg hl=>(hk.block k zO (Nat.lt_of_lt_of_le hl hi.old.size)).trans (hi.old.block k hkg hl)⟩
  exact⟨hko,hk.heap zO hi.lb,hk.heap zO hi.er,⟨ra,rc,hk.heap zO h1,h2⟩,hk.heap zO hi.tb,hk.heap zO hi.sb,hk.heap zO hi.ok,hi.all⟩
 case hX=>
  rintro co s A B ⟨hc,hx⟩ hb;exact⟨hc,hx.below hb⟩
 case hX2=>
  rintro co s A o ⟨hc,hx⟩;have hk:Keep (fun k=>k≠w4.heap.size+1) A (A.putObj (w4.heap.size+1) o):=(Keep.refl _ A).putObj (fun h=>h rfl) _;rw[gs] at hk ⊢;have hko:Keep (fun k=>k≠g) w (A.putObj (w.heap.size+5+1) o):=⟨hk.os.trans hx.old.os,hk.tape.trans hx.old.tape,hk.output.trans hx.old.output,Nat.le_trans hx.old.size hk.size,fun k hkg hl=>(hk.block k zO (Nat.lt_of_lt_of_le hl hx.old.size)).trans (hx.old.block k hkg hl)⟩
  exact⟨hc,hko,hk.heap zO hx.er,hk.heap zO hx.ok,hx.no⟩
 case hAs=>
  rintro x args act A o ⟨fa,fc,h1,h2,h3⟩;have hk:Keep (fun k=>k≠w4.heap.size+1) A (A.putObj (w4.heap.size+1) o):=(Keep.refl _ A).putObj (fun h=>h rfl) _;rw[gs] at hk ⊢;exact⟨fa,fc,rowOwn_keep h1 hk (fun k hk=>by omega),h2,h3⟩
 case assign=>
  rintro l pre x args W Kk hi ⟨fa,fc,rfl,hro,hfc,_⟩ hlt hk
  gi_wp2_with fail
  exact hk _ _ ⟨fa,fc,hro,hfc,rfl⟩ (Below.refl _ _)
 case body=>
  rintro lo pre x args act W hi ⟨fa,fc,hro,hfc,rfl⟩ hpre hlt rfl hlp;have hx:=(mem_outs hs).1 (hpre.subset (by simp:x∈pre++[x]));obtain⟨ra,rc,r1,r2,r3⟩:=hi.rs;have hnoend:=hi.no_end hpre;have bb1:Box W g1 #[.int .i64 a] 3:=hi.old.heap hn1 h1;have bb2:Box W g2 #[.int .i64 b] 3:=hi.old.heap hn2 h2;have bb3:Box W g3 #[.slice sa s.length sc] 26:=hi.old.heap hn3 h3
  rcases hv:vs.drop pre.length with _|⟨v,vs'⟩
  ·rw[hv] at r1 hnoend;have hnoend:=hnoend fun r=>rfl
   gi_wp2_with fail
   rename_i K3 hK3
   refine wpIn_region_L_round (fun A=>Below W.drew.heap.size W.drew A) 24 zK zK ?_;have hbd:Below W.heap.size W W.drew:=(Below.refl _ W).drew;have K0:Hid (∀A,Below W.drew.heap.size W.drew A→(∀j,A.cell? ⟨g,j,none⟩=(#[.bool true]:Array Value)[j]?)∧(∀j,A.cell? ⟨w.heap.size+2,j,none⟩=(#[.slice ra 0 rc]:Array Value)[j]?)):=zh fun A hA=>⟨(hi.ok.below' (hbd.trans hA)).cell,(r1.below' (hbd.trans hA)).cell⟩
   have hSS:Below W.drew.heap.size W.drew W.drew:=Below.refl _ _;have hi5:=hi.below hbd;have HI5:=zh hi5;have HNE:=zh hnoend;clear r1 r2 r3 bb1 bb2 bb3 hx hpre hnoend hro hi hi5;have HBQ:=zh hbd;have HIQ:=HI5;clear hbd;generalize W.drew=wq at *;refine tM K0 0 hSS ?_;refine tM K0 1 hSS ?_;refine tM K0 2 hSS ?_;refine tM K0 3 hSS ?_;refine tM K0 4 hSS ?_;refine tM K0 5 hSS ?_;refine tM K0 6 hSS ?_;refine tN 7 hSS ?_;refine tN 8 hSS ?_;refine tN 9 hSS ?_;refine tN 10 hSS ?_;refine tN 11 hSS ?_;refine tN 12 hSS ?_;refine tM K0 13 hSS ?_;refine tM K0 14 hSS ?_;refine tN 15 hSS ?_;refine tN 16 hSS ?_;refine tN 17 hSS ?_;refine tN 18 hSS ?_;refine tN 19 hSS ?_;refine tN 20 hSS ?_;refine tN 21 hSS ?_;refine tN 22 hSS ?_;refine tM K0 23 hSS ?_;obtain⟨z1,z2⟩:=HIQ.out.ok.rules
   refine anyL_skip (i:=24) (w':=wq.setCell ⟨g,0,none⟩ (.bool false)) rfl zK (by rfl) ?_ (.inl rfl) ?_
   ·go_simp
    try with_reducible rfl
   try simp only[pZ]
   refine anyL_done zK ?_ _;have hg0:Box (wq.setCell ⟨g,0,none⟩ (.bool false)) g #[.bool false] 4:=HIQ.out.ok.set_ 0 _;have he0:Box (wq.setCell ⟨g,0,none⟩ (.bool false)) (w.heap.size+1) #[.int .i64 0] 30:=HIQ.out.er.far zT _;have hk0:Keep (fun k=>¬VC g w W k) W (wq.setCell ⟨g,0,none⟩ (.bool false)):=(Keep.of_below' HBQ.out).setCell (.inl (by simp[VC])) _;have ho0:Keep (fun k=>k≠g) w (wq.setCell ⟨g,0,none⟩ (.bool false)):=HIQ.out.old.setCell (.inl zS) _;clear z1 z2 hSS K0;generalize wq.setCell ⟨g,0,none⟩ (.bool false)=wz at *;have HG0:=zh hg0;have HE0:=zh he0;have HK0:=zh hk0;have HO0:=zh ho0;have eg:=hg0.cell;obtain⟨z1,z2⟩:=he0.rules;clear hg0 he0 hk0 ho0;refine hK3 _ _ ?_
   gi_wp2_with fail
   exact⟨HK0.out.setCell (.inl (by simp[VC])) _,fun k hk=>.inl hk,rfl,HO0.out.setCell (.inr zS) _,HE0.out.set_ 0 _,HG0.out.far zT _,HNE.out⟩
  ·have hvm:v∈vs:=List.mem_of_mem_drop (by rw[hv];simp);have hvsm:=hvs v hvm;obtain⟨b0,o0,va0,vc0,ra0,rc0,rfl,q1,q2,q3,q4,q5,q6⟩:=r3 W hi.old 0 v (by rw[hv];rfl);have hhl:LabAt W t c pa pc l qa qc∧Ints W sa (natInts s)∧VersAt W va vs:=h W hi.old;have hN:0<(vs.drop pre.length).length:=by rw[hv];simp
   have hsd:vs.drop (pre++[x]).length=vs':=by
    have:=congrArg (List.drop 1) hv
    simpa[List.drop_drop,Nat.add_comm] using this
   have hNl:(vs.drop pre.length).length=vs'.length+1:=by rw[hv];rfl
   generalize hNN:(vs.drop pre.length).length=N at *
   gi_wp2_with fail
   rename_i K3 hK3
   refine wpIn_region_L_round (fun A=>Below W.drew.heap.size W.drew A) 24 zK zK ?_;have hbd:Below W.heap.size W W.drew:=(Below.refl _ W).drew;have K0:Hid (∀A,Below W.drew.heap.size W.drew A→(∀j,A.cell? ⟨g,j,none⟩=(#[.bool true]:Array Value)[j]?)∧(∀j,A.cell? ⟨w.heap.size+2,j,none⟩=(#[.slice (some ⟨b0,o0,none⟩) N rc]:Array Value)[j]?) ∧
    A.cell? ⟨b0,o0,none⟩=some (.slice va0 v.found.length vc0)∧A.cell? ⟨b0,o0+1,none⟩=some (.int .u8 v.ans)∧A.cell? ⟨b0,o0+2,none⟩=some (.slice ra0 v.proof.length rc0) ∧
    (∀j,A.cell? ⟨w.heap.size,j,none⟩=(#[.pointer (some ⟨t,0,none⟩)]:Array Value)[j]?)∧(∀j,A.cell? ⟨g1,j,none⟩=(#[.int .i64 (a:Int)]:Array Value)[j]?)∧(∀j,A.cell? ⟨g2,j,none⟩=(#[.int .i64 (b:Int)]:Array Value)[j]?)∧(∀j,A.cell? ⟨g3,j,none⟩=(#[.slice sa s.length sc]:Array Value)[j]?)):=zh fun A hA=>by
    have hbA:=hbd.trans hA;exact⟨(hi.ok.below' hbA).cell,(r1.below' hbA).cell,below_cell hbA (by simpa using q1),below_cell hbA (by simpa using q2),below_cell hbA (by simpa using q3),(hi.lb.below' hbA).cell,(bb1.below' hbA).cell,(bb2.below' hbA).cell,(bb3.below' hbA).cell⟩
   have hSS:Below W.drew.heap.size W.drew W.drew:=Below.refl _ _;have HEQ:=zh (equalInts_any va0 fa vc0 fc v.found (natInts x) W.drew (q4.below hbd) (ints_rowOwn hro |>.below hbd) (by have:=hvsm.2.1;omega) (by rw[nat_len,hx.1];omega));have HPV:=zh (fun(A:World) (hA:Below W.drew.heap.size W.drew A) (he:v.found=natInts x)=>proved_any hsm hpr a b ha hb sa s sc va0 x vc0 v.ans hvsm.1 ra0 v.proof rc0 hvsm.2.2.1 hvsm.2.2.2 q6 A (hhl.1.below (hbd.trans hA)) (hhl.2.1.below (hbd.trans hA)) (by rw[←he];exact q4.below (hbd.trans hA)) (q5.below (hbd.trans hA)) hsl hx);have hi5:=hi.below hbd;have HI5:=zh hi5;have HNE:=zh hnoend;have HR1:=zh r1;have HRO:=zh hro;have HPRE:=zh hpre;have HR3:=zh r3;have HBD:=zh hbd;have HSD:=zh hsd;have hlx:=nat_len x;clear r1 r3 bb1 bb2 bb3 hx hpre hnoend hro hi hi5 q1 q2 q3 q4 q5 hhl hsd hbd;rw[hlx] at HEQ
   generalize W.drew=wd at *;refine tM K0 0 hSS ?_;refine tM K0 1 hSS ?_;refine tM K0 2 hSS ?_;refine tM K0 3 hSS ?_;refine tM K0 4 hSS ?_;refine tM K0 5 hSS ?_;refine tM K0 6 hSS ?_;refine tM K0 7 hSS ?_;refine tM K0 8 hSS ?_;refine tM K0 9 hSS ?_;refine tM K0 10 hSS ?_;refine tM K0 11 hSS ?_;refine anyL_call (i:=12) (f:=116) (args:=#[.slice va0 v.found.length vc0,.slice fa x.length fc]) rfl zK (by rfl) (by go_simp) HEQ.out ?_;rintro e w5 ⟨rfl,hb5⟩;refine .inl ⟨_,rfl,.inr hb5,?_⟩
   try simp only[pZ]
   have hSS:=hb5
   rcases hd:decide (v.found=natInts x) with _|_
   ·have HNE:=zh (HNE.out fun r=>by rw[hv];simp[verGo,hd]);have HBQ:=zh (HBD.out.trans (hb5.mono HBD.out.size));have HIQ:=zh (HI5.out.below hb5);clear hd hb5 HPV HEQ;generalize w5=wq at *;refine tM K0 13 hSS ?_;refine tM K0 14 hSS ?_;refine tN 15 hSS ?_;refine tN 16 hSS ?_;refine tN 17 hSS ?_;refine tN 18 hSS ?_;refine tN 19 hSS ?_;refine tN 20 hSS ?_;refine tN 21 hSS ?_;refine tN 22 hSS ?_;refine tM K0 23 hSS ?_;obtain⟨z1,z2⟩:=HIQ.out.ok.rules;refine anyL_skip (i:=24) (w':=wq.setCell ⟨g,0,none⟩ (.bool false)) rfl zK (by rfl) ?_ (.inl rfl) ?_
    ·go_simp
     try with_reducible rfl
    try simp only[pZ]
    refine anyL_done zK ?_ _;have hg0:Box (wq.setCell ⟨g,0,none⟩ (.bool false)) g #[.bool false] 4:=HIQ.out.ok.set_ 0 _;have he0:Box (wq.setCell ⟨g,0,none⟩ (.bool false)) (w.heap.size+1) #[.int .i64 0] 30:=HIQ.out.er.far zT _;have hk0:Keep (fun k=>¬VC g w W k) W (wq.setCell ⟨g,0,none⟩ (.bool false)):=(Keep.of_below' HBQ.out).setCell (.inl (by simp[VC])) _;have ho0:Keep (fun k=>k≠g) w (wq.setCell ⟨g,0,none⟩ (.bool false)):=HIQ.out.old.setCell (.inl zS) _;clear z1 z2 hSS K0;generalize wq.setCell ⟨g,0,none⟩ (.bool false)=wz at *;have HG0:=zh hg0;have HE0:=zh he0;have HK0:=zh hk0;have HO0:=zh ho0;have eg:=hg0.cell;obtain⟨z1,z2⟩:=he0.rules;clear hg0 he0 hk0 ho0;refine hK3 _ _ ?_
    gi_wp2_with fail
    exact⟨HK0.out.setCell (.inl (by simp[VC])) _,fun k hk=>.inl hk,rfl,HO0.out.setCell (.inr zS) _,HE0.out.set_ 0 _,HG0.out.far zT _,HNE.out⟩
   ·have he:v.found=natInts x:=of_decide_eq_true hd;have hle:v.found.length=x.length:=by rw[he,hlx]
    have hpv:=HPV.out w5 hb5 he;rw[←hle] at hpv;have HP5:=zh hpv;refine tM K0 13 hSS ?_;refine tM K0 14 hSS ?_;refine tM K0 15 hSS ?_;refine tM K0 16 hSS ?_;refine tM K0 17 hSS ?_;refine tM K0 18 hSS ?_;refine tM K0 19 hSS ?_;refine tM K0 20 hSS ?_;refine tM K0 21 hSS ?_;refine anyL_call (i:=22) (f:=117) (args:=#[.pointer (some ⟨t,0,none⟩),.int .i64 a,.int .i64 b,.slice sa s.length sc,.agg #[.slice va0 v.found.length vc0,.int .u8 v.ans,.slice ra0 v.proof.length rc0]]) rfl zK (by rfl) (by go_simp) HP5.out ?_;rintro e w6 ⟨rfl,hb6⟩;have hb7:=hb5.trans (hb6.mono hb5.size);refine .inl ⟨_,rfl,.inr hb7,?_⟩
    try simp only[pZ]
    have hSS:=hb7;have HBQ:=zh (HBD.out.trans (hb7.mono HBD.out.size));have HIQ:=zh (HI5.out.below hb7)
    rcases hp:provedB c l a b s x v.ans v.proof with _|_
    ·have HNE:=zh (HNE.out fun r=>by rw[hv];simp[verGo,hp]);clear hd he hp hb5 hb6 hb7 hpv HP5 HPV HEQ;generalize w6=wq at *;refine tM K0 23 hSS ?_;obtain⟨z1,z2⟩:=HIQ.out.ok.rules;refine anyL_skip (i:=24) (w':=wq.setCell ⟨g,0,none⟩ (.bool false)) rfl zK (by rfl) ?_ (.inl rfl) ?_
     ·go_simp
      try with_reducible rfl
     try simp only[pZ]
     refine anyL_done zK ?_ _;have hg0:Box (wq.setCell ⟨g,0,none⟩ (.bool false)) g #[.bool false] 4:=HIQ.out.ok.set_ 0 _;have he0:Box (wq.setCell ⟨g,0,none⟩ (.bool false)) (w.heap.size+1) #[.int .i64 0] 30:=HIQ.out.er.far zT _;have hk0:Keep (fun k=>¬VC g w W k) W (wq.setCell ⟨g,0,none⟩ (.bool false)):=(Keep.of_below' HBQ.out).setCell (.inl (by simp[VC])) _;have ho0:Keep (fun k=>k≠g) w (wq.setCell ⟨g,0,none⟩ (.bool false)):=HIQ.out.old.setCell (.inl zS) _;clear z1 z2 hSS K0;generalize wq.setCell ⟨g,0,none⟩ (.bool false)=wz at *;have HG0:=zh hg0;have HE0:=zh he0;have HK0:=zh hk0;have HO0:=zh ho0;have eg:=hg0.cell;obtain⟨z1,z2⟩:=he0.rules;clear hg0 he0 hk0 ho0;refine hK3 _ _ ?_
     gi_wp2_with fail
     exact⟨HK0.out.setCell (.inl (by simp[VC])) _,fun k hk=>.inl hk,rfl,HO0.out.setCell (.inr zS) _,HE0.out.set_ 0 _,HG0.out.far zT _,HNE.out⟩
    ·clear hb5 hb6 hb7 hpv HP5 HPV HEQ;generalize w6=wq at *;refine tM K0 23 hSS ?_;have HALL:=zh (fun r=>(show verGo c l a b s (x::r) (vs.drop pre.length)=verGo c l a b s r vs' by rw[hv];simp[verGo,hd,hp]));obtain⟨z1,z2⟩:=HIQ.out.ok.rules;refine anyL_skip (i:=24) (w':=wq.setCell ⟨g,0,none⟩ (.bool true)) rfl zK (by rfl) ?_ (.inl rfl) ?_
     ·go_simp
      try with_reducible rfl
     try simp only[pZ]
     refine anyL_done zK ?_ _;have hr0:Box (wq.setCell ⟨g,0,none⟩ (.bool true)) (w.heap.size+2) #[.slice (some ⟨b0,o0,none⟩) N rc] 70:=(HR1.out.below' HBQ.out).far zT _;have hg0:Box (wq.setCell ⟨g,0,none⟩ (.bool true)) g #[.bool true] 4:=HIQ.out.ok.set_ 0 _;have hk0:Keep (fun k=>¬VC g w W k) W (wq.setCell ⟨g,0,none⟩ (.bool true)):=(Keep.of_below' HBQ.out).setCell (.inl (by simp[VC])) _;have ho0:Keep (fun k=>k≠g) w (wq.setCell ⟨g,0,none⟩ (.bool true)):=HIQ.out.old.setCell (.inl zS) _;have hl0:Box (wq.setCell ⟨g,0,none⟩ (.bool true)) w.heap.size #[.pointer (some ⟨t,0,none⟩)] 104:=HIQ.out.lb.far zT _;have he0:Box (wq.setCell ⟨g,0,none⟩ (.bool true)) (w.heap.size+1) #[.int .i64 0] 30:=HIQ.out.er.far zT _;have ht0:Box (wq.setCell ⟨g,0,none⟩ (.bool true)) (w.heap.size+3) #[.pointer (some ⟨t,0,none⟩)] 104:=HIQ.out.tb.far zT _
     have hs0:Box (wq.setCell ⟨g,0,none⟩ (.bool true)) (w.heap.size+4) #[.slice sa s.length sc] 26:=HIQ.out.sb.far zT _;have HAL2:=zh HIQ.out.all;clear z1 z2 hSS K0 HI5 HIQ HBQ;generalize wq.setCell ⟨g,0,none⟩ (.bool true)=wz at *;have HR0:=zh hr0;have HG0:=zh hg0;have HK0:=zh hk0;have HO0:=zh ho0;have HL0:=zh hl0;have HE0:=zh he0;have HT0:=zh ht0;have HS0:=zh hs0;have eg:=hg0.cell;have er:=hr0.cell;obtain⟨z1,z2⟩:=hr0.rules;clear hr0 hg0 hk0 ho0 hl0 he0 ht0 hs0 hd he hp;refine hK3 _ _ ?_
     gi_wp2_with fail
     ·have hNv:vs'.length=N-1:=by omega
      refine⟨HK0.out.setCell (.inl (by simp[VC])) _,fun k hk=>.inl hk,HO0.out.setCell (.inr zS) _,HL0.out.far zS _,HE0.out.far zS _,⟨some ⟨b0,o0,none⟩,0,?_,?_,?_⟩,HT0.out.far zS _,HS0.out.far zS _,HG0.out.far zT _,fun r=>?_⟩
      ·rw[HSD.out]
       first|exact HR0.out.set_ 0 _|(rw[hNv];exact HR0.out.set_ 0 _)
      ·rw[HSD.out];omega
      ·intro W' hW';rw[HSD.out];obtain rfl:vs'=[]:=List.eq_nil_of_length_eq_zero zO;intro k v hv;simp at hv
      ·rw[List.append_assoc,HAL2.out,HSD.out];exact HALL.out r
     ·have hNv:vs'.length=N-1:=by omega
      refine⟨HK0.out.setCell (.inl (by simp[VC])) _,fun k hk=>.inl hk,HO0.out.setCell (.inr zS) _,HL0.out.far zS _,HE0.out.far zS _,⟨some ⟨b0,o0+3,none⟩,rc-1,?_,?_,?_⟩,HT0.out.far zS _,HS0.out.far zS _,HG0.out.far zT _,fun r=>?_⟩
      ·rw[HSD.out]
       first|exact HR0.out.set_ 0 _|(rw[hNv];exact HR0.out.set_ 0 _)
      ·rw[HSD.out];omega
      ·intro W' hW';rw[HSD.out];have h3:=HR3.out W' hW';rw[hv] at h3;exact h3.tail
      ·rw[List.append_assoc,HAL2.out,HSD.out];exact HALL.out r
 case done=>
  intro W hi hD;have HI:=zh hi;have HD:=zh hD;obtain⟨ra,rc,r1,r2,r3⟩:=hi.rs;have e2:=r1.cell;obtain⟨z1,z2⟩:=hi.ok.rules;obtain⟨y1,y2⟩:=hi.er.rules;have hfin:checkVersB c l a b s vs=(((vs.drop (outsOf (cntsOf c l s)).length).length:Int)==0):=by
   have:=hi.all [];rw[List.append_nil] at this;unfold checkVersB;rw[this,verGo];cases vs.drop (outsOf (cntsOf c l s)).length<;>simp
   omega
  have HF:=zh hfin;generalize (vs.drop (outsOf (cntsOf c l s)).length).length=n at *;clear hi hD hfin r1 r3
  gi_wp2_with fail
  have hd0:W.heap[w.heap.size+5]?=some (.deferred (some [])):=by have:=HD.out;rwa [gs] at this
  have hd1:((W.setCell ⟨g,0,none⟩ (.bool ((n:Int)==0))).setCell ⟨w.heap.size+1,0,none⟩ (.int .i64 0)).heap[w.heap.size+5]?=some (.deferred (some [])):=(((Keep.refl (fun k=>k=w.heap.size+5) W).setCell (.inl zT) _).setCell (.inl zS) _).heap rfl hd0;have hbx:Box ((W.setCell ⟨g,0,none⟩ (.bool ((n:Int)==0))).setCell ⟨w.heap.size+1,0,none⟩ (.int .i64 0)) g #[.bool ((n:Int)==0)] 4:=(HI.out.ok.set_ 0 _).far zT _;have her:Box ((W.setCell ⟨g,0,none⟩ (.bool ((n:Int)==0))).setCell ⟨w.heap.size+1,0,none⟩ (.int .i64 0)) (w.heap.size+1) #[.int .i64 0] 30:=(HI.out.er.far zT _).set_ 0 _;have hko:Keep (fun k=>k≠g) w ((W.setCell ⟨g,0,none⟩ (.bool ((n:Int)==0))).setCell ⟨w.heap.size+1,0,none⟩ (.int .i64 0)):=((HI.out.old.setCell (.inl zS) _).setCell (.inr zS) _)
  generalize (W.setCell ⟨g,0,none⟩ (.bool ((n:Int)==0))).setCell ⟨w.heap.size+1,0,none⟩ (.int .i64 0)=WE at *;refine⟨by simp,.inl ⟨_,_,rfl,run_takeDeferred (by rw[gs];exact hd1),?_⟩⟩;rw[gs];have hk:Keep (fun k=>k≠w.heap.size+5) WE (WE.putObj (w.heap.size+5) (.deferred none)):=(Keep.refl _ WE).putObj (fun h=>h rfl) _;refine⟨_,results_cell rfl rfl (load_errno9 (hk.heap zO her)),?_⟩;exact⟨0,.bool ((n:Int)==0),rfl,⟨hk.os.trans hko.os,hk.tape.trans hko.tape,hk.output.trans hko.output,Nat.le_trans hko.size hk.size,fun k hkg hl=>(hk.block k zO (Nat.lt_of_lt_of_le hl hko.size)).trans (hko.block k hkg hl)⟩,hk.heap zO hbx,rfl,by rw[HF.out]⟩
 case stop=>
  rintro co pre W hpre ⟨rfl,hx⟩ hD;have HX:=zh hx;have HD:=zh hD;clear hx hD
  gi_wp2_with fail
  have hd1:W.heap[w.heap.size+5]?=some (.deferred (some [])):=by have:=HD.out;rwa [gs] at this
  refine⟨by simp,.inl ⟨_,_,rfl,run_takeDeferred (by rw[gs];exact hd1),?_⟩⟩;rw[gs];have hk:Keep (fun k=>k≠w.heap.size+5) W (W.putObj (w.heap.size+5) (.deferred none)):=(Keep.refl _ W).putObj (fun h=>h rfl) _;have hx:=HX.out.old;refine⟨_,results_cell rfl rfl (load_errno9 (hk.heap zO HX.out.er)),?_⟩;exact⟨0,.bool false,rfl,⟨hk.os.trans hx.os,hk.tape.trans hx.tape,hk.output.trans hx.output,Nat.le_trans hx.size hk.size,fun k hkg hl=>(hk.block k zO (Nat.lt_of_lt_of_le hl hx.size)).trans (hx.block k hkg hl)⟩,hk.heap zO HX.out.ok,rfl,by rw[HX.out.no]⟩
end Go.Proofs.YtjgldeeianionaaGreat
namespace Go.Proofs.YtjgldeeianionaaGreat
open Go.RowKit Go.ChangeShapes Go.WideShapes Go.Deep Go.Joins
section
variable {H:Type}{enc:TypeId×Value→H}{w:World}{base:Nat}{spare:Nat→Bool}{held:Bool}
theorem rows_of {α:Type}[Inhabited α]{T E:TypeId}{n:Nat}{rel:α→List Value→Prop}(hT:Tryz.prog.underlying T=some (.slice E))(hc:Tryz.prog.cellsOf E=n)(hn:0<n)
 (hel:∀(fuel:Nat) (cs:List Value) (x:DataW H×List MemPlace),DataW.trod enc Tryz.prog w base spare held fuel E cs=some x→∃z,rel z cs∧cs.length=n)
 {fuel:Nat} {cs:List Value} {x:DataW H×List MemPlace} (h:DataW.trod enc Tryz.prog w base spare held fuel T cs=some x):
 ∃(a:Option Addr) (l:List α) (cap:Nat),cs=[.slice a l.length cap]∧l.length≤cap∧cap≤maxLen∧∀k z,l[k]?=some z→∃vs b o,rel z vs∧a=some ⟨b,o,none⟩∧∀j v,vs[j]?=some v→w.cell? ⟨b,o+k*n+j,none⟩=some v:=by
 rcases open_slice hT h with ⟨rfl,_⟩|⟨a,len,cap,m,f',D,Pl,rfl,_,hl,hm,hmm,_,hV⟩
 ·exact⟨none,[],0,rfl,Nat.le_refl _,Nat.zero_le _,fun k z hz=>by simp at hz⟩
 ·have hlm:len≤m:=by rw[hmm];split<;>omega
  rw[hc] at hV;obtain⟨f,hf⟩:=choose_lt (α:=α) (n:=len) (p:=fun i z=>∃vs,rel z vs∧vs.length=n∧∀j v,vs[j]?=some v→w.cell? (a.add (i*n+j))=some v) (fun i hi=>by
   obtain⟨cs',h1,h2⟩:=hV i zO;obtain⟨z,hr,hlen⟩:=hel _ _ _ h2;obtain⟨_,_,hg⟩:=World.cells?_some h1;refine⟨z,cs',hr,hlen,fun j v hv=>?_⟩;have hj:=(List.getElem?_eq_some_iff.1 hv).1;have:=hg j zO;rw[Go.Deep.add_add] at this;rw[this,hv])
  refine⟨some a,(List.range len).map f,cap,by simp,by simpa using hl,hm,fun k z hz=>?_⟩;have hk:k<len:=by
   have:=(List.getElem?_eq_some_iff.1 hz).1
   simpa using this
  obtain⟨vs0,_,hl0,h0⟩:=hf 0 zO;obtain⟨v0,hv0⟩:=get_of_lt vs0 (k:=0) zO;have ha:a=⟨a.block,a.off,none⟩:=spot_none (by simpa[Addr.add] using h0 0 _ hv0);rw[List.getElem?_map,List.getElem?_range hk] at hz;have hz':f k=z:=by simpa using hz
  obtain⟨vs,h1,_,h2⟩:=hf k hk;rw[hz'] at h1;refine⟨vs,a.block,a.off,h1,by rw[←ha],fun j v hv=>?_⟩;have h6:=h2 j v hv;rw[ha,add_plain] at h6;rw[←h6,Nat.add_assoc]
instance:Inhabited Prb:=⟨⟨0,0,0,0⟩⟩
theorem prb_of {fuel:Nat}{cs:List Value}{x:DataW H×List MemPlace}(h:DataW.trod enc Tryz.prog w base spare held fuel 93 cs=some x):∃z:Prb,cs=prbCells z:=by
 obtain⟨xs,n,_,_,hlen,hxs,hf⟩:=DataW.trod_struct Tryz.underlying93 h;have hc:Tryz.prog.cellsOf 93=4:=zK;rw[hc] at hlen
 match cs,hlen,xs,hxs with
 |[c0,c1,c2,c3],_,[y0,y1,y2,y3],_=>
  have h0:=hf 0 _ rfl;have h1:=hf 1 _ rfl;have h2:=hf 2 _ rfl;have h3:=hf 3 _ rfl;simp only[List.getElem?_cons_zero,List.getElem?_cons_succ] at h0 h1 h2 h3;obtain⟨a0,e0,_,_⟩:=DataW.trod_int Tryz.underlying3 h0;obtain⟨a1,e1,_,_⟩:=DataW.trod_int Tryz.underlying3 h1;obtain⟨a2,e2,_,_⟩:=DataW.trod_int Tryz.underlying3 h2;obtain⟨a3,e3,_,_⟩:=DataW.trod_int Tryz.underlying3 h3;cases e0;cases e1;cases e2;cases e3;exact⟨⟨a0,a1,a2,a3⟩,rfl⟩
theorem prbs_arg {r:Reach}{b0:Nat}{v:Value}{d:DataW H}{ps:List MemPlace}(hv:Value.okWide Tryz.prog w r b0 25 v)(h:DataW.Trod enc Tryz.prog w base spare held 25 v d ps):
 ∃(a:Option Addr) (l:List Prb) (cap:Nat),v = .slice a l.length cap∧PrbsAt w a l∧l.length≤cap∧cap≤maxLen:=by
 obtain⟨a,len,cap,rfl⟩:=okWide_slice Tryz.underlying25 hv;obtain⟨n,hn⟩:=field_of_Trod h rfl;obtain⟨a',l,cap',e,h1,h2,h3⟩:=rows_of (rel:=fun z cs=>cs=prbCells z) Tryz.underlying25 (n:=4) zK zO (fun _ _ _ hx=>by
  obtain⟨z,rfl⟩:=prb_of hx;exact⟨z,rfl,rfl⟩) hn
 rw[List.singleton_inj] at e;exact⟨a',l,cap',e,fun k p hp=>by
  obtain⟨vs,b,o,rfl,h4,h5⟩:=h3 k p hp;exact⟨b,o,h4,h5⟩,h1,h2⟩
instance:Inhabited Opn:=⟨⟨[],[],[],[]⟩⟩
instance:Inhabited Ver:=⟨⟨[],0,[]⟩⟩
end
end Go.Proofs.YtjgldeeianionaaGreat
