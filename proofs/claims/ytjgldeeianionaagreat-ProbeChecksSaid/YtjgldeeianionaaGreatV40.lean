/- Walks and plain laws. No condition. -/
import Derived.Test.YtjgldeeianionaaGreatV39
set_option maxHeartbeats 4000000
set_option maxRecDepth 100000
set_option linter.unusedSimpArgs false
set_option linter.unusedVariables false
namespace Go.Proofs.YtjgldeeianionaaGreat
open Go.RowKit
section
attribute [local go_sem] Oper.semAt_some
def OpnsAt (w:World)(a:Option Addr)(ds:List Opn):Prop:=∀k d,ds[k]?=some d→∃b o a1 c1 a2 c2 a3 c3 a4 c4,a=some ⟨b,o,none⟩ ∧
 w.cell? ⟨b,o+k*4,none⟩=some (.slice a1 d.probes.length c1)∧w.cell? ⟨b,o+k*4+1,none⟩=some (.slice a2 d.found.length c2)∧w.cell? ⟨b,o+k*4+2,none⟩=some (.slice a3 d.tog.length c3)∧w.cell? ⟨b,o+k*4+3,none⟩=some (.slice a4 d.apt.length c4) ∧
 OpnAt w d (.agg #[.slice a1 d.probes.length c1,.slice a2 d.found.length c2,.slice a3 d.tog.length c3,.slice a4 d.apt.length c4])
theorem OpnsAt.below {w w':World}{a:Option Addr}{ds:List Opn}(h:OpnsAt w a ds)(hb:Below w.heap.size w w'):OpnsAt w' a ds:=fun k d hd=>by
 obtain⟨b,o,a1,c1,a2,c2,a3,c3,a4,c4,h1,h2,h3,h4,h5,h6⟩:=h k d hd;exact⟨b,o,a1,c1,a2,c2,a3,c3,a4,c4,h1,below_cell hb h2,below_cell hb h3,below_cell hb h4,below_cell hb h5,h6.below hb⟩
def OpnFn (K:Nat)(caps:Array Value)(w0:World)(p:Opn→Bool)(ds:List Opn):Prop:=
 (∀args W,(callFunc K args).run Tryz.prog W = .ok (.enter K args) W)∧∀W d a1 c1 a2 c2 a3 c3 a4 c4,Below w0.heap.size w0 W→d∈ds→OpnAt W d (.agg #[.slice a1 d.probes.length c1,.slice a2 d.found.length c2,.slice a3 d.tog.length c3,.slice a4 d.apt.length c4]) →
  Calls Tryz.prog K (#[.agg #[.slice a1 d.probes.length c1,.slice a2 d.found.length c2,.slice a3 d.tog.length c3,.slice a4 d.apt.length c4]]++caps) W fun e W'=>e = .returned (.bool (p d))∧Below W.heap.size W W'
theorem indexOpns_any {K:Nat}{caps:Array Value}{w0:World}{p:Opn→Bool}{L:List Opn}(hf:OpnFn K caps w0 p L)(a:Option Addr)(c:Nat)(w:World)(hw:Below w0.heap.size w0 w)(h:OpnsAt w a L)(hl:L.length≤100000):
 Calls Tryz.prog 182 #[.slice a L.length c,.func (.func K) #[] caps] w fun e w'=>e = .returned (.int .i64 (idxZ p L))∧Below w.heap.size w w':=by
 have hent:=hf.1;have HF:=zh hf.2;have HW:=zh hw;clear hf hw
 go_enter Tryz.func182,Tryz.ntmps182
 go_wp2
 go_loopw [8] (fun i wr=>∃k:Nat,k≤L.length∧i = .int .i64 k∧(∀x∈L.take k,p x=false)∧Below w.heap.size w wr) (fun i _=>L.length-(intOf i).toNat)
 case atStart=>exact⟨0,Nat.zero_le _,rfl,by simp,Below.refl _ _⟩
 case round=>
  obtain⟨k,hk,rfl,hall,hb⟩:=hrel;have HA:=zh hall;have HB:=zh hb;clear hall hb
  by_cases hlt:k<L.length
  ·obtain⟨x,hx⟩:=get_of_lt L hlt;obtain⟨b,o,a1,c1,a2,c2,a3,c3,a4,c4,rfl,e1,e2,e3,e4,hi⟩:=(h.below HB.out) k x hx;have hcl:=HF.out wr x a1 c1 a2 c2 a3 c3 a4 c4 (HW.out.trans (HB.out.mono HW.out.size)) (List.mem_of_getElem? hx) hi;have hkn:(k:Int)<(L.length:Int):=by omega
   have HCL:=zh hcl;have HX:=zh hx;clear hx hcl hi
   rcases hp:p x with _|_
   ·have HP:=zh hp;rw[hp] at HCL;clear hp
    go_wp2_with fail
    refine zM HCL ?_;rintro e w2 ⟨rfl,hb2⟩;have HB2:=zh (HB.out.trans (hb2.mono HB.out.size));clear hb2 e1 e2 e3 e4
    go_wp2_with fail
    go_roundw
    case rel=>
     refine⟨k+1,zO,zN,fun y hy=>?_,HB2.out⟩;rw[List.take_add_one,HX.out] at hy;simp at hy
     rcases hy with hy|rfl
     ·exact HA.out y hy
     ·exact HP.out
    case measure=>exact zJ
   ·have HP:=zh hp;rw[hp] at HCL;clear hp
    go_wp2_with fail
    refine zM HCL ?_;rintro e w2 ⟨rfl,hb2⟩;have HB2:=zh (HB.out.trans (hb2.mono HB.out.size));clear hb2 e1 e2 e3 e4
    go_wp2_with fail
    go_ret
    exact⟨by rw[idxZ_at HX.out HP.out HA.out];rfl,HB2.out⟩
  ·go_wp2_with fail
   go_ret
   exact⟨by rw[idxZ_no (fun x hx=>HA.out x (by rw[List.take_of_length_le zO];exact hx))];rfl,HB.out⟩
theorem containsOpns_any {K:Nat}{caps:Array Value}{w0:World}{p:Opn→Bool}{L:List Opn}(hf:OpnFn K caps w0 p L)(a:Option Addr)(c:Nat)(w:World)(hw:Below w0.heap.size w0 w)(h:OpnsAt w a L)(hl:L.length≤100000):
 Calls Tryz.prog 121 #[.slice a L.length c,.func (.func K) #[] caps] w fun e w'=>e = .returned (.bool (L.any p))∧Below w.heap.size w w':=by
 have HI:=zh (indexOpns_any hf a c w hw h hl);clear hf hw h
 go_enter Tryz.func121,Tryz.ntmps121
 go_wp2_with fail
 refine zM HI ?_;rintro e w2 ⟨rfl,hb2⟩;have HB2:=zh hb2;obtain⟨n,hn⟩:=zx (idxZ p L);have hd:decide (0≤n)=L.any p:=by rw[←hn,idxZ_any]
 rw[hn];clear hn hb2;have HD:=zh hd;clear hd
 go_wp2_with fail
 go_ret
 exact⟨by rw[HD.out];rfl,HB2.out⟩
structure OpnE where
 d:Opn
 a1:Option Addr
 c1:Nat
 a2:Option Addr
 c2:Nat
 a3:Option Addr
 c3:Nat
 a4:Option Addr
 c4:Nat
def OpnE.row (z:OpnE):List Value:=[.slice z.a1 z.d.probes.length z.c1,.slice z.a2 z.d.found.length z.c2,.slice z.a3 z.d.tog.length z.c3,.slice z.a4 z.d.apt.length z.c4]
def OpnE.val (z:OpnE):Value:=.agg #[.slice z.a1 z.d.probes.length z.c1,.slice z.a2 z.d.found.length z.c2,.slice z.a3 z.d.tog.length z.c3,.slice z.a4 z.d.apt.length z.c4]
theorem opnRow_at:∀{zs:List OpnE} {k:Nat} {z:OpnE},zs[k]?=some z→∀i,i<4→(zs.flatMap OpnE.row)[k*4+i]?=z.row[i]?
 |[],k,z,h,i,hi=>by simp at h
 |y::zs,0,z,h,i,hi=>by
  simp at h;subst h;rw[List.flatMap_cons,List.getElem?_append_left (by simp[OpnE.row];omega)]
  simp
 |y::zs,k+1,z,h,i,hi=>by
  have ih:=opnRow_at (zs:=zs) (k:=k) (z:=z) (by simpa using h) i hi;rw[List.flatMap_cons,List.getElem?_append_right (by simp[OpnE.row];omega)];rw[show(k+1)*4+i-y.row.length=k*4+i by simp[OpnE.row];omega];exact ih
def OpnsO (B:Nat)(W:World)(v:Value)(ds:List Opn):Prop:=
 ∃zs:List OpnE,zs.map (·.d)=ds∧W.ownsRow B 53 4 v ds.length (zs.flatMap OpnE.row)∧∀z∈zs,∀W',Keep (fun k=>B≤k∧v.ownBlock≠some k) W W'→OpnAt W' z.d z.val
theorem OpnsO.nil (B:Nat)(W:World):OpnsO B W (.slice none 0 0) []:=⟨[],rfl,ownsRow_nil _ _ _ _,by simp⟩
theorem OpnsO.lt {B:Nat}{W:World}{v:Value}{ds:List Opn}(h:OpnsO B W v ds){k:Nat}(hk:v.ownBlock=some k):B≤k∧k<W.heap.size:=by
 obtain⟨_,_,h,_⟩:=h;exact h.lt k hk
theorem OpnsO.keep {K:Nat→Prop}{B:Nat}{W W':World}{v:Value}{ds:List Opn}(h:OpnsO B W v ds)(hk:Keep K W W')(hK:∀k,B≤k→K k):OpnsO B W' v ds:=by
 obtain⟨zs,h1,h2,h3⟩:=h;exact⟨zs,h1,ownsRow_keep h2 hk hK,fun z hz W2 hW2=>h3 z hz W2 ⟨hW2.os.trans hk.os,hW2.tape.trans hk.tape,hW2.output.trans hk.output,Nat.le_trans hk.size hW2.size,fun k hkk hl=>(hW2.block k hkk (Nat.lt_of_lt_of_le hl hk.size)).trans (hk.block k (hK k hkk.1) hl)⟩⟩
theorem OpnsO.below {B:Nat}{W W':World}{v:Value}{ds:List Opn}(h:OpnsO B W v ds)(hb:Below W.heap.size W W'):OpnsO B W' v ds:=h.keep (K:=fun _=>True) (Keep.of_below' hb) (fun _ _=>trivial)
theorem OpnsO.at_ {B:Nat}{W:World}{v:Value}{ds:List Opn}(h:OpnsO B W v ds):∃a cap,v = .slice a ds.length cap∧OpnsAt W a ds∧ds.length≤cap:=by
 obtain⟨zs,h1,h2,h3⟩:=h;obtain⟨a,cap,hv,hr,hc⟩:=ownsRow_own h2;refine⟨a,cap,hv,fun k x hx=>?_,hc⟩;rw[←h1,List.getElem?_map] at hx;obtain⟨z,hz,rfl⟩:=Option.map_eq_some_iff.1 hx;have g:=fun i (hi:i<4) u (hu:z.row[i]?=some u)=>hr.row (k*4+i) u (by rw[opnRow_at hz i hi];exact hu)
 obtain⟨b,o,ha,e1⟩:=g 0 zO _ rfl;obtain⟨b',o',ha',e2⟩:=g 1 zO _ rfl;rw[ha] at ha';cases ha';obtain⟨b',o',ha',e3⟩:=g 2 zO _ rfl;rw[ha] at ha';cases ha';obtain⟨b',o',ha',e4⟩:=g 3 zO _ rfl;rw[ha] at ha';cases ha';exact⟨b,o,z.a1,z.c1,z.a2,z.c2,z.a3,z.c3,z.a4,z.c4,ha,e1,by rw[Nat.add_assoc];exact e2,by rw[Nat.add_assoc];exact e3,by rw[Nat.add_assoc];exact e4,h3 z (List.mem_of_getElem? hz) W (Keep.refl _ _)⟩
theorem info_open:(Tryz.prog.info? 53).map (fun i=>(i.zero,i.size,i.bytes))=some (some (.agg #[.slice none 0 0,.slice none 0 0,.slice none 0 0,.slice none 0 0]),4,96):=zK
theorem OpnsO.push {B g:Nat}{W:World}{v:Value}{ds:List Opn}(h:OpnsO B W v ds)(z:OpnE)(hz:∀W',Keep (fun k=>B≤k∧v.ownBlock≠some k) W W'→OpnAt W' z.d z.val)(hg:Box W g z.row.toArray 53)(hl:ds.length+1≤1000000)(hB:B≤W.heap.size):
 ∃av cv U,(Builtin.append_ #[45,45] 45 #[v,.slice (some ⟨g,0,none⟩) 1 1]).run Tryz.prog W = .ok (.slice av (ds.length+1) cv) U∧OpnsO B U (.slice av (ds.length+1) cv) (ds++[z.d])∧Keep (fun k=>v.ownBlock≠some k) W U∧((Value.slice av (ds.length+1) cv).ownBlock=v.ownBlock∨(Value.slice av (ds.length+1) cv).ownBlock=some W.heap.size):=by
 obtain⟨zs,h1,h2,h3⟩:=h;have hrow:∀(k:Nat) (u:Value),z.row[k]?=some u→∃b o,some (⟨g,0,none⟩:Addr)=some ⟨b,o,none⟩∧W.cell? ⟨b,o+k,none⟩=some u:=fun k u hu=>by
  refine⟨g,0,rfl,?_⟩;rw[hg.cell,Nat.zero_add]
  simpa using hu
 obtain⟨v',U,hrun,hown,hgr,hvb⟩:=run_append_row (P:=Tryz.prog) W B 45 45 53 (.agg #[.slice none 0 0,.slice none 0 0,.slice none 0 0,.slice none 0 0]) 4 96 Tryz.underlying45 info_open rfl zO
  v _ _ h2 (some ⟨g,0,none⟩) 1 1 z.row rfl hrow (by intro u hu;simp[OpnE.row] at hu;rcases hu with rfl|rfl|rfl|rfl<;>rfl) hl zO hB
 have kU:Keep (fun k=>v.ownBlock≠some k) W U:=(Keep.refl _ W).grown hgr (fun k hk=>.inl (fun h=>h hk));obtain⟨av,cv,hve,_⟩:=ownsRow_own hown;subst hve;refine⟨av,cv,U,hrun,⟨zs++[z],by rw[List.map_append,h1];rfl,by rw[List.length_append,List.flatMap_append];simpa using hown,fun y hy W' hW'=>?_⟩,kU,hvb⟩;have all:∀W',Keep (fun k=>B≤k∧v.ownBlock≠some k) W W'→OpnAt W' y.d y.val:=by
  rcases List.mem_append.1 hy with hy|hy
  ·exact h3 y hy
  ·rw[List.mem_singleton.1 hy];exact hz
 refine all W' ⟨hW'.os.trans kU.os,hW'.tape.trans kU.tape,hW'.output.trans kU.output,Nat.le_trans kU.size hW'.size,fun k hk hkl=>?_⟩;refine(hW'.block k ⟨hk.1,?_⟩ (Nat.lt_of_lt_of_le hkl kU.size)).trans (kU.block k hk.2 hkl)
 rcases hvb with e|e
 ·rw[e];exact hk.2
 ·rw[e];intro he;cases he;omega
structure ChoE where
 p1:Nat
 p2:Nat
 s:List Nat
 n:Int
 sa:Option Addr
 sc:Nat
def ChoE.d (z:ChoE):(Nat×Nat)×List Nat:=((z.p1,z.p2),z.s)
def ChoE.row (z:ChoE):List Value:=[.int .i64 (z.p1:Int),.int .i64 (z.p2:Int),.slice z.sa z.s.length z.sc,.int .i64 z.n]
structure ChoE.Ok (l:List Prb) (z:ChoE) (W:World):Prop where
 n:z.n=costOf l z.s
 at_:Ints W z.sa (natInts z.s)
 cap:z.s.length≤z.sc
theorem choRow_at:∀{zs:List ChoE} {k:Nat} {z:ChoE},zs[k]?=some z→∀i,i<4→(zs.flatMap ChoE.row)[k*4+i]?=z.row[i]?
 |[],k,z,h,i,hi=>by simp at h
 |y::zs,0,z,h,i,hi=>by
  simp at h;subst h;rw[List.flatMap_cons,List.getElem?_append_left (by simp[ChoE.row];omega)]
  simp
 |y::zs,k+1,z,h,i,hi=>by
  have ih:=choRow_at (zs:=zs) (k:=k) (z:=z) (by simpa using h) i hi;rw[List.flatMap_cons,List.getElem?_append_right (by simp[ChoE.row];omega)];rw[show(k+1)*4+i-y.row.length=k*4+i by simp[ChoE.row];omega];exact ih
def ChosAt (l:List Prb)(w:World)(a:Option Addr)(zs:List ChoE):Prop:=∀k z,zs[k]?=some z→z.Ok l w∧∃b o,a=some ⟨b,o,none⟩ ∧
 w.cell? ⟨b,o+k*4,none⟩=some (.int .i64 (z.p1:Int))∧w.cell? ⟨b,o+k*4+1,none⟩=some (.int .i64 (z.p2:Int))∧w.cell? ⟨b,o+k*4+2,none⟩=some (.slice z.sa z.s.length z.sc)∧w.cell? ⟨b,o+k*4+3,none⟩=some (.int .i64 z.n)
theorem ChoE.Ok.below {l:List Prb}{z:ChoE}{w w':World}(h:z.Ok l w)(hb:Below w.heap.size w w'):z.Ok l w':=⟨h.n,h.at_.below hb,h.cap⟩
theorem ChosAt.below {l:List Prb}{w w':World}{a:Option Addr}{zs:List ChoE}(h:ChosAt l w a zs)(hb:Below w.heap.size w w'):ChosAt l w' a zs:=fun k z hz=>by
 obtain⟨h0,b,o,h1,h2,h3,h4,h5⟩:=h k z hz;exact⟨h0.below hb,b,o,h1,below_cell hb h2,below_cell hb h3,below_cell hb h4,below_cell hb h5⟩
def ChosO (l:List Prb)(B:Nat)(W:World)(v:Value)(zs:List ChoE):Prop:=
 W.ownsRow B 131 4 v zs.length (zs.flatMap ChoE.row)∧∀z∈zs,∀W',Keep (fun k=>B≤k∧v.ownBlock≠some k) W W'→z.Ok l W'
theorem ChosO.nil (l:List Prb)(B:Nat)(W:World):ChosO l B W (.slice none 0 0) []:=⟨ownsRow_nil _ _ _ _,by simp⟩
theorem ChosO.lt {l:List Prb}{B:Nat}{W:World}{v:Value}{zs:List ChoE}(h:ChosO l B W v zs){k:Nat}(hk:v.ownBlock=some k):B≤k∧k<W.heap.size:=h.1.lt k hk
theorem ChosO.keep {l:List Prb}{K:Nat→Prop}{B:Nat}{W W':World}{v:Value}{zs:List ChoE}(h:ChosO l B W v zs)(hk:Keep K W W')(hK:∀k,B≤k→K k):ChosO l B W' v zs:=
 ⟨ownsRow_keep h.1 hk hK,fun z hz W2 hW2=>h.2 z hz W2 ⟨hW2.os.trans hk.os,hW2.tape.trans hk.tape,hW2.output.trans hk.output,Nat.le_trans hk.size hW2.size,fun k hkk hl=>(hW2.block k hkk (Nat.lt_of_lt_of_le hl hk.size)).trans (hk.block k (hK k hkk.1) hl)⟩⟩
theorem ChosO.below {l:List Prb}{B:Nat}{W W':World}{v:Value}{zs:List ChoE}(h:ChosO l B W v zs)(hb:Below W.heap.size W W'):ChosO l B W' v zs:=h.keep (K:=fun _=>True) (Keep.of_below' hb) (fun _ _=>trivial)
theorem ChosO.at_ {l:List Prb}{B:Nat}{W:World}{v:Value}{zs:List ChoE}(h:ChosO l B W v zs):∃a cap,v = .slice a zs.length cap∧ChosAt l W a zs∧zs.length≤cap:=by
 obtain⟨h2,h3⟩:=h;obtain⟨a,cap,hv,hr,hc⟩:=ownsRow_own h2;refine⟨a,cap,hv,fun k z hz=>?_,hc⟩;have g:=fun i (hi:i<4) u (hu:z.row[i]?=some u)=>hr.row (k*4+i) u (by rw[choRow_at hz i hi];exact hu)
 obtain⟨b,o,ha,e1⟩:=g 0 zO _ rfl;obtain⟨b',o',ha',e2⟩:=g 1 zO _ rfl;rw[ha] at ha';cases ha';obtain⟨b',o',ha',e3⟩:=g 2 zO _ rfl;rw[ha] at ha';cases ha';obtain⟨b',o',ha',e4⟩:=g 3 zO _ rfl;rw[ha] at ha';cases ha';exact⟨h3 z (List.mem_of_getElem? hz) W (Keep.refl _ _),b,o,ha,e1,by rw[Nat.add_assoc];exact e2,by rw[Nat.add_assoc];exact e3,by rw[Nat.add_assoc];exact e4⟩
theorem info_choice:(Tryz.prog.info? 131).map (fun i=>(i.zero,i.size,i.bytes))=some (some (.agg #[.int .i64 0,.int .i64 0,.slice none 0 0,.int .i64 0]),4,48):=zK
theorem ChosO.push {l:List Prb}{B g:Nat}{W:World}{v:Value}{zs:List ChoE}(h:ChosO l B W v zs)(z:ChoE)(hz:∀W',Keep (fun k=>B≤k∧v.ownBlock≠some k) W W'→z.Ok l W')(hg:Box W g z.row.toArray 131)(hl:zs.length+1≤1000000)(hB:B≤W.heap.size):
 ∃av cv U,(Builtin.append_ #[129,129] 129 #[v,.slice (some ⟨g,0,none⟩) 1 1]).run Tryz.prog W = .ok (.slice av (zs.length+1) cv) U∧ChosO l B U (.slice av (zs.length+1) cv) (zs++[z])∧Keep (fun k=>v.ownBlock≠some k) W U:=by
 obtain⟨h2,h3⟩:=h;have hrow:∀(k:Nat) (u:Value),z.row[k]?=some u→∃b o,some (⟨g,0,none⟩:Addr)=some ⟨b,o,none⟩∧W.cell? ⟨b,o+k,none⟩=some u:=fun k u hu=>by
  refine⟨g,0,rfl,?_⟩;rw[hg.cell,Nat.zero_add]
  simpa using hu
 obtain⟨v',U,hrun,hown,hgr,hvb⟩:=run_append_row (P:=Tryz.prog) W B 129 129 131 (.agg #[.int .i64 0,.int .i64 0,.slice none 0 0,.int .i64 0]) 4 48 Tryz.underlying129 info_choice rfl zO
  v _ _ h2 (some ⟨g,0,none⟩) 1 1 z.row rfl hrow (by intro u hu;simp[ChoE.row] at hu;rcases hu with rfl|rfl|rfl|rfl<;>rfl) hl zO hB
 have kU:Keep (fun k=>v.ownBlock≠some k) W U:=(Keep.refl _ W).grown hgr (fun k hk=>.inl (fun h=>h hk));obtain⟨av,cv,hve,_⟩:=ownsRow_own hown;subst hve;refine⟨av,cv,U,hrun,⟨by rw[List.length_append,List.flatMap_append];simpa using hown,fun y hy W' hW'=>?_⟩,kU⟩;have all:∀W',Keep (fun k=>B≤k∧v.ownBlock≠some k) W W'→y.Ok l W':=by
  rcases List.mem_append.1 hy with hy|hy
  ·exact h3 y hy
  ·rw[List.mem_singleton.1 hy];exact hz
 refine all W' ⟨hW'.os.trans kU.os,hW'.tape.trans kU.tape,hW'.output.trans kU.output,Nat.le_trans kU.size hW'.size,fun k hk hkl=>?_⟩;refine(hW'.block k ⟨hk.1,?_⟩ (Nat.lt_of_lt_of_le hkl kU.size)).trans (kU.block k hk.2 hkl)
 rcases hvb with e|e
 ·rw[e];exact hk.2
 ·rw[e];intro he;cases he;omega
section
variable {t:Nat}{c:Cs}{pa:Option Addr}{pc:Nat}{l:List Prb}{qa:Option Addr}{qc:Nat}
theorem best3_any (l:List Prb)(z:ChoE)(w:World)(h:z.Ok l w):
 Calls Tryz.prog 98 #[.agg #[.int .i64 (z.p1:Int),.int .i64 (z.p2:Int),.slice z.sa z.s.length z.sc,.int .i64 z.n]] w fun e w'=>e = .returned (.int .i64 (costOf l z.s))∧Below w.heap.size w w':=by
 have hn:=h.n;have HN:=zh hn;clear hn h;have hB:Below w.heap.size w (w.alloc (.cells #[.int .i64 (z.p1:Int),.int .i64 (z.p2:Int),.slice z.sa z.s.length z.sc,.int .i64 z.n] 131)):=by go_grown
 have HB:=zh hB;clear hB
 go_enter Tryz.func98,Tryz.ntmps98
 go_wp2_with fail
 go_ret
 exact⟨by rw[←HN.out];rfl,HB.out⟩
theorem best4_any (z:ChoE)(w:World):
 Calls Tryz.prog 99 #[.agg #[.int .i64 (z.p1:Int),.int .i64 (z.p2:Int),.slice z.sa z.s.length z.sc,.int .i64 z.n]] w fun e w'=>e = .returned (.bool true)∧Below w.heap.size w w':=by
 have hB:Below w.heap.size w (w.alloc (.cells #[.int .i64 (z.p1:Int),.int .i64 (z.p2:Int),.slice z.sa z.s.length z.sc,.int .i64 z.n] 131)):=by go_grown
 have HB:=zh hB;clear hB
 go_enter Tryz.func99,Tryz.ntmps99
 go_wp2_with fail
 go_ret
 exact⟨rfl,HB.out⟩
end
def dbtOf (c:Cs)(l:List Prb)(a b:Nat)(s:List Nat):Opn:=match doubtOf c l a b s with
 |none=>⟨[],[],[],[]⟩
 |some x=>match canC c l s x with
  |none=>⟨[],[],[],[]⟩
  |some d=>⟨natInts s,natInts x,natInts (((allR d).find? (asPair a b true)).getD []),natInts (((allR d).find? (asPair a b false)).getD [])⟩
def heldB (L:List (List Nat))(s:List Nat):Bool:=L.any fun o=>decide (s.length<o.length)&&isInB s o
def proofOf (c:Cs)(l:List Prb)(a b:Nat):List Opn:=(proofSets c l a b).map (dbtOf c l a b)
theorem DbtAt.opn {c:Cs}{l:List Prb}{a b:Nat}{s:List Nat}{B M:Nat}{w:World}{x y z:List Nat}{v:Value}(h:DbtAt c l a b s B M w x y z v):∃u:OpnE,u.d=dbtOf c l a b s∧v=u.val∧∀W',Keep (fun k=>B≤k∧k<M) w W'→OpnAt W' u.d u.val:=by
 obtain⟨d,e1,_,e2,e3⟩:=h.can;obtain⟨a1,c1,a2,c2,a3,c3,a4,c4,hv,i1,i2,i3,i4,_⟩:=h.at_;have hd:dbtOf c l a b s=⟨natInts s,natInts x,natInts y,natInts z⟩:=by
  unfold dbtOf;rw[h.fst];simp only[e1,e2,e3,Option.getD_some]
 refine⟨⟨dbtOf c l a b s,a1,c1,a2,c2,a3,c3,a4,c4⟩,rfl,?_,fun W' hW'=>⟨a1,c1,a2,c2,a3,c3,a4,c4,rfl,?_,?_,?_,?_⟩⟩
 ·rw[hv];simp only[OpnE.val,hd,nat_len]
 all_goals (simp only[hd];first|exact(i1.keep hW').at_|exact(i2.keep hW').at_|exact(i3.keep hW').at_|exact(i4.keep hW').at_)
def ProofOut (ds:List Opn)(er:Int)(v:Value)(w:World):Prop:=er=0∧∃a cap,v = .slice a ds.length cap∧OpnsAt w a ds∧ds.length≤cap
theorem DbtPost.one {c:Cs}{l:List Prb}{a b:Nat}{s:List Nat}{w w':World}{e:Ending}(h:DbtPost c l a b s w e w'):Below w.heap.size w w'∧∃(u:OpnE) (ok:Bool),u.d=dbtOf c l a b s∧e = .returned (.tuple #[.agg #[.slice u.a1 u.d.probes.length u.c1,.slice u.a2 u.d.found.length u.c2,.slice u.a3 u.d.tog.length u.c3,.slice u.a4 u.d.apt.length u.c4],.bool ok])∧∀W',Keep (fun k=>w.heap.size≤k∧k<w'.heap.size) w' W'→OpnAt W' u.d u.val:=by
 obtain⟨hb,(⟨h1,rfl⟩|⟨x,y,z,v,h1,rfl⟩)⟩:=h
 ·refine⟨hb,⟨⟨[],[],[],[]⟩,none,0,none,0,none,0,none,0⟩,false,by simp[dbtOf,h1],rfl,fun W' _=>⟨none,0,none,0,none,0,none,0,rfl,Ints.nil _ _,Ints.nil _ _,Ints.nil _ _,Ints.nil _ _⟩⟩
 ·obtain⟨u,e1,rfl,e3⟩:=h1.opn;exact⟨hb,u,true,e1,rfl,e3⟩
theorem PlanPost.one {c:Cs}{l:List Prb}{a b:Nat}{w w':World}{e:Ending}(h:PlanPost l (cheapestOf c l a b) w e w'):Below w.heap.size w w'∧∃xa xn xc n okb,e = .returned (.tuple #[.agg #[.slice xa xn xc,.int .i64 n],.bool okb])∧((okb=false∧proofAll c l a b=setsOf l.length)∨(okb=true∧proofAll c l a b=belowOf l n)):=by
 obtain⟨hb,(⟨h1,rfl⟩|⟨x,ra,rc,h1,rfl,_⟩)⟩:=h
 ·exact⟨hb,_,_,_,_,_,rfl,.inl ⟨rfl,by simp[proofAll,h1]⟩⟩
 ·exact⟨hb,_,_,_,_,_,rfl,.inr ⟨rfl,by simp[proofAll,h1]⟩⟩
theorem proofAll_mem {c:Cs}{l:List Prb}{a b:Nat}:∀s∈proofAll c l a b,s∈setsOf l.length:=by
 unfold proofAll;intro s hs
 split at hs
 ·exact(List.mem_filter.1 hs).1
 ·exact hs
theorem proofAll_len {c:Cs}{l:List Prb}{a b:Nat}(h:l.length≤5):(proofAll c l a b).length≤32:=by
 have h1:=sets_len h;unfold proofAll
 split
 ·exact Nat.le_trans (List.length_filter_le _ _) h1
 ·exact h1
section
variable {t:Nat}{c:Cs}{pa:Option Addr}{pc:Nat}{l:List Prb}{qa:Option Addr}{qc:Nat}
theorem proof2_any (hsm:c.Small)(hpr:probesErr c l=0)(g1 g2 a b:Nat)(ha:a<c.parts.length)(hb:b<c.parts.length)(w:World)(g:Nat)
 (h:∀W',Keep (fun k=>k≠g) w W'→LabAt W' t c pa pc l qa qc) (h1:Box w g1 #[.int .i64 a] 3) (h2:Box w g2 #[.int .i64 b] 3) (hg:Box w g #[.slice none 0 0] 45) (hn1:g1≠g) (hn2:g2≠g):
 Calls Tryz.prog 84 #[.pointer (some ⟨t,0,none⟩),.pointer (some ⟨g1,0,none⟩),.pointer (some ⟨g2,0,none⟩),.pointer (some ⟨g,0,none⟩)] w fun e w'=>∃er v,e = .returned (.int .i64 er)∧Keep (fun k=>k≠g) w w'∧Box w' g #[v] 45∧ProofOut (proofOf c l a b) er v w':=by
 have hl5:=(probes_ok hpr).2.1;have HS:=zh (sets_any hl5 w (h w (Keep.refl _ _)));have hgl:=hg.lt
 go_enter Tryz.func84,Tryz.ntmps84
 go_wp2_with fail
 go_step3
 go_wp2_with fail
 refine zM HS ?_;rintro e w2 ⟨v2,rfl,hrows,hb2⟩;obtain⟨ra,rc,rfl,hle,hhi⟩:=hrows.hi;have HHI:=zh hhi;have HC:=zh (cheapest_any hsm hpr a b ha hb w2 (h w2 (Keep.of_below' hb2)));have e1:=(h1.below' hb2).cell;have e2:=(h2.below' hb2).cell;clear hrows hhi HS
 go_wp2_with fail
 refine zM HC ?_;rintro e w3 hpost;obtain⟨hb3,xa,xn,xc,n,okb,rfl,hdis⟩:=hpost.one;obtain⟨w4,hw4⟩:=zx (w3.alloc (.cells #[.slice xa xn xc,.int .i64 n] 42));have hB4:Below w3.heap.size w3 w4:=by rw[←hw4];go_grown
 have b4:Box w4 w3.heap.size #[.slice xa xn xc,.int .i64 n] 42:=by rw[←hw4];exact Box.new _ _ _
 have hb24:Below w2.heap.size w2 w4:=hb3.trans (hB4.mono hb3.size);have hb4:Below w.heap.size w w4:=hb2.trans (hb24.mono hb2.size);have HHI4:=zh ((HHI.out.below hb24).mono (Nat.le_refl _) hb24.size);have HB4:=zh hb4;have HBW:=zh (below9_any hpr n w4 (h w4 (Keep.of_below' hb4)));have e4:=b4.cell;have HW4:=zh hw4;have HD:=zh hdis;clear hpost hb3 hw4 hB4 b4 hb24 hb4 e1 e2 HC HHI hdis
 go_upto_region 3 with fail
 simp only[HW4.out]
 go_upto_if 24 with fail
 go_cut [6] (fun s6 wx=>∃sa sc,s6 = .slice sa (proofAll c l a b).length sc∧RowsHi w.heap.size wx.heap.size wx sa (proofAll c l a b)∧Below w.heap.size w wx)
 case first=>
  cases okb
  ·have hall:proofAll c l a b=setsOf l.length:=(HD.out.resolve_right (fun h=>by cases h.1)).2;have HALL:=zh hall;clear hall
   go_wp2_with fail
   go_meet
   rw[HALL.out];exact⟨ra,rc,rfl,HHI4.out,HB4.out⟩
  ·have hall:proofAll c l a b=belowOf l n:=(HD.out.resolve_left (fun h=>by cases h.1)).2;have HALL:=zh hall;clear hall
   go_wp2_with fail
   refine zM HBW ?_;rintro e w5 ⟨a5,c5,rfl,hr5,hb5⟩;have HR5:=zh hr5;have HB5:=zh (HB4.out.trans (hb5.mono HB4.out.size));clear hr5 hb5 e4
   go_wp2_with fail
   go_meet
   rw[HALL.out];exact⟨a5,c5,rfl,HR5.out.mono HB4.out.size (Nat.le_refl _),HB5.out⟩
 case rest=>
  obtain⟨sa,sc,rfl,hr,hbc⟩:=hcut;clear HBW HHI4 HB4 HW4 HD e4;have HR:=zh hr;have HBC:=zh hbc;have HALL:=zh (fun s (hs:s∈proofAll c l a b)=>sets_in (proofAll_mem s hs));have hlen:=proofAll_len (c:=c) (a:=a) (b:=b) hl5;have HPS:=zh (show proofOf c l a b=((proofAll c l a b).filter fun s=>!heldB (proofAll c l a b) s).map (dbtOf c l a b) from rfl);have hg0:=hg.below' hbc;have HG0:=zh hg0;generalize proofAll c l a b=L at *;clear hr hbc hg0
  go_wp2_with fail
  go_step3
  go_wp2_with fail
  go_loopw [31] (fun i wr=>∃(k:Nat) (v:Value),k≤L.length∧i = .int .i64 k∧Keep (fun k=>k<wc.heap.size∧k≠g) wc wr∧Box wr g #[v] 45∧OpnsO wc.heap.size wr v (((L.take k).filter fun s=>!heldB L s).map (dbtOf c l a b))) (fun i _=>L.length-(intOf i).toNat)
  case atStart=>exact⟨0,_,Nat.zero_le _,rfl,Keep.refl _ _,HG0.out,OpnsO.nil _ _⟩
  case round=>
   obtain⟨k,v,hk,rfl,hkp,hbx,hop⟩:=hrel;have HKP:=zh hkp;have HBX:=zh hbx;have HOP:=zh hop;clear hkp hbx hop HG0
   by_cases hlt:k<L.length
   ·obtain⟨s,hx⟩:=get_of_lt L hlt;obtain⟨wo,hwo⟩:∃wo:World,wo=wr:=⟨_,rfl⟩
    subst hwo;have hr1:=HR.out.keep (HKP.out.mono fun k ⟨h1,h2⟩=>⟨h2,zO⟩);have HR1:=zh hr1;obtain⟨b0,o0,ra0,rc0,rfl,hb0,hb0c,q1,q2,q3⟩:=hr1 k s hx;have hkn:(k:Int)<(L.length:Int):=by omega
    have HX:=zh hx;have HQ2:=zh q2.at_;have hs5:=HALL.out s (List.mem_of_getElem? hx);have hwo:Keep (fun k=>k≠g) w wo:=⟨HKP.out.os.trans HBC.out.os,HKP.out.tape.trans HBC.out.tape,HKP.out.output.trans HBC.out.output,Nat.le_trans HBC.out.size HKP.out.size,fun k hkg hl=>(HKP.out.block k ⟨by have:=HBC.out.size;omega,hkg⟩ (by have:=HBC.out.size;omega)).trans (HBC.out.block k hl)⟩
    have HLB:=zh (h wo hwo);have HA1:=zh (show Box wo g1 #[.int .i64 (a:Int)] 3 from hwo.heap hn1 h1);have HA2:=zh (show Box wo g2 #[.int .i64 (b:Int)] 3 from hwo.heap hn2 h2);have hnil:((L.take (k+1)).filter fun s=>!heldB L s)=((L.take k).filter fun s=>!heldB L s)++if heldB L s then [] else [s]:=by
     rw[filter_snoc HX.out];cases heldB L s<;>rfl
    have HNIL:=zh hnil;clear q2 hr1 hx hwo hnil
    go_wp2_with fail
    go_loopw [37] (fun j wr=>∃m:Nat,m≤L.length∧j = .int .i64 m∧(∀o∈L.take m,(decide (s.length<o.length)&&isInB s o)=false)∧Below wo.heap.size wo wr) (fun j _=>L.length-(intOf j).toNat)
    case atStart=>exact⟨0,Nat.zero_le _,rfl,by simp,Below.refl _ _⟩
    case round=>
     obtain⟨m,hm,rfl,hall,hb5⟩:=hrel;have HAL:=zh hall;have HB5:=zh hb5;clear hall
     by_cases hlm:m<L.length
     ·obtain⟨o,ho⟩:=get_of_lt L hlm;obtain⟨bx,ox,ra1,rc1,ex,_,_,p1,p2,p3⟩:=(HR1.out.below hb5) m o ho;cases ex;have hmn:(m:Int)<(L.length:Int):=by omega
      have ho5:=HALL.out o (List.mem_of_getElem? ho);have HO:=zh ho;have HIS:=zh (isIn_any ra0 s rc0 ra1 o rc1 wr (HQ2.out.below hb5) p2.at_ zO zO);clear ho p2 hb5
      by_cases hlo:(s.length:Int)<(o.length:Int)
      ·have hls:decide (s.length<o.length)=true:=decide_eq_true zO
       go_wp2_with fail
       refine zM HIS ?_;rintro e w6 ⟨rfl,hb6⟩;have HB6:=zh (HB5.out.trans (hb6.mono HB5.out.size))
       rcases hin:isInB s o with _|_
       ·have HIN:=zh hin;clear hin hb6 p1
        go_wp2_with fail
        go_roundw
        case rel=>
         refine⟨m+1,zO,zN,fun y hy=>?_,HB6.out⟩;rw[List.take_add_one,HO.out] at hy;simp at hy
         rcases hy with hy|rfl
         ·exact HAL.out y hy
         ·rw[HIN.out];simp
        case measure=>exact zJ
       ·have HIN:=zh (show heldB L s=true from List.any_eq_true.2 ⟨o,List.mem_of_getElem? HO.out,by rw[hls,hin];rfl⟩);clear hin hb6 p1
        go_wp2_with fail
        go_roundw
        case rel=>
         refine⟨k+1,v,zO,zN,HKP.out.trans (Keep.of_below' HB6.out),HBX.out.below' HB6.out,?_⟩;rw[HNIL.out,HIN.out]
         simpa using HOP.out.below HB6.out
        case measure=>exact zJ
      ·have hls:decide (s.length<o.length)=false:=decide_eq_false zO
       go_wp2_with fail
       go_roundw
       case rel=>
        refine⟨m+1,zO,zN,fun y hy=>?_,HB5.out⟩;rw[List.take_add_one,HO.out] at hy;simp at hy
        rcases hy with hy|rfl
        ·exact HAL.out y hy
        ·rw[hls];rfl
       case measure=>exact zJ
     ·have HNH:=zh (show heldB L s=false from by
       rw[heldB,List.any_eq_false];intro o ho;have:=HAL.out o (by rw[List.take_of_length_le zO];exact ho)
       simpa using this)
      have hlb:=HLB.out.below hb5;have e1:=(HA1.out.below' hb5).cell;have e2:=(HA2.out.below' hb5).cell;have HDB:=zh (doubt_any hsm hpr a b ha hb ra0 s rc0 hs5.1 zO wr hlb (HQ2.out.below hb5));clear hlb
      go_wp2_with fail
      refine zM HDB ?_;rintro e w7 hpost;obtain⟨hb7,u,okk,hud,rfl,hdat⟩:=hpost.one;have HUD:=zh hud;clear hud;obtain⟨ds,hds⟩:=zx (((L.take k).filter fun s=>!heldB L s).map (dbtOf c l a b));have hdl:ds.length≤L.length:=by
       rw[←hds,List.length_map];have h1:=List.length_filter_le (fun s=>!heldB L s) (L.take k);rw[List.length_take] at h1
       omega
      have hop7:=(HOP.out.below hb5).below hb7;rw[hds] at hop7;have hbx7:=(HBX.out.below' hb5).below' hb7;have hvl:∀k,v.ownBlock=some k→wc.heap.size≤k∧k<wr.heap.size:=fun k hk=>(HOP.out.below hb5).lt hk
      have hal:Below w7.heap.size w7 ((w7.alloc (.cells #[.slice u.a1 u.d.probes.length u.c1,.slice u.a2 u.d.found.length u.c2,.slice u.a3 u.d.tog.length u.c3,.slice u.a4 u.d.apt.length u.c4] 53)).alloc (.cells #[.slice u.a1 u.d.probes.length u.c1,.slice u.a2 u.d.found.length u.c2,.slice u.a3 u.d.tog.length u.c3,.slice u.a4 u.d.apt.length u.c4] 53)):=by go_grown
      have hsz7:=hb7.size;have hsz5:=hb5.size;have hszo:=HKP.out.size;have hszc:=HBC.out.size;obtain⟨av,cv,U,hrun,hown,hkU,hov⟩:=(hop7.below hal).push (g:=w7.heap.size+1) u (fun W' hW'=>hdat W' ⟨hW'.os.trans hal.os,hW'.tape.trans hal.tape,hW'.output.trans hal.output,Nat.le_trans hal.size hW'.size,fun k hk hl=>(hW'.block k ⟨zO,fun he=>by have:=hvl k he;omega⟩ (Nat.lt_of_lt_of_le hl hal.size)).trans (hal.block k hl)⟩) (Box.new' zS) zO zT;have hbU:Box U g #[v] 45:=hkU.heap (fun he=>by have:=hvl g he;omega) (hbx7.below' hal);have hcU:=hbU.rules;have hnn:(ds++[u.d])=(((L.take (k+1)).filter fun s=>!heldB L s).map (dbtOf c l a b)):=by
       rw[HNIL.out,HNH.out,HUD.out,←hds];simp
      obtain⟨av0,cv0,rfl,_,_⟩:=hop7.at_;have hbx8:Box (w7.alloc (.cells #[.slice u.a1 u.d.probes.length u.c1,.slice u.a2 u.d.found.length u.c2,.slice u.a3 u.d.tog.length u.c3,.slice u.a4 u.d.apt.length u.c4] 53)) g _ 45:=hbx7.alloc _;have e8:=hbx8.cell;have HRN:=zh hrun;have HKU:=zh ((Keep.of_below' ((HB5.out.trans (hb7.mono hsz5)).trans (hal.mono zO)):Keep (fun k=>k<wc.heap.size) wo _).trans (hkU.mono fun k (hk:k<wc.heap.size) he=>by have:=hvl k he;omega));have HNN:=zh hnn;have HOW:=zh hown;have HBU:=zh hbU;obtain⟨z1,z2⟩:=hcU;have hgw:g<wc.heap.size:=by omega
      clear hrun hown hnn hds hop7 hbx7 hal hkU hov hbU hdat hpost e1 e2 hbx8 HDB
      go_upto_region 14 with fail
      go_wp2_with (at_builtin;refine wpList_app rfl _ _ _ rfl rfl rfl HRN.out ?_)
      go_roundw
      case rel=>
       refine⟨k+1,_,zO,zN,(HKP.out.trans (HKU.out.mono fun k hk=>hk.1)).setCell (.inl zS) _,HBU.out.set_ 0 _,?_⟩;rw[←HNN.out];have kS:Keep (fun k=>k≠g) U (U.setCell ⟨g,0,none⟩ (.slice av (ds.length+1) cv)):=(Keep.refl _ U).setCell (.inl zS) _;exact HOW.out.keep kS (fun k hk=>by omega)
      case measure=>exact zJ
   ·go_wp2_with fail
    simp only[Exit.noGoto_ret]
    go_ret
    have hkl:k=L.length:=by omega
    subst hkl;have hfin:=HOP.out;rw[List.take_length,←HPS.out] at hfin;obtain⟨av,cv,rfl,hat,hcv⟩:=hfin.at_;refine⟨0,_,rfl,?_,HBX.out,rfl,av,cv,rfl,hat,hcv⟩;have hsz:=HBC.out.size;exact⟨HKP.out.os.trans HBC.out.os,HKP.out.tape.trans HBC.out.tape,HKP.out.output.trans HBC.out.output,Nat.le_trans hsz HKP.out.size,fun k hkg hl=>(HKP.out.block k ⟨zO,hkg⟩ zO).trans (HBC.out.block k hl)⟩
end
def checkProofB (c:Cs)(l:List Prb)(a b:Nat)(n:Int)(ds:List Opn):Bool:=!(ds.any fun d=>!doubtedB c l a b d) && !((belowOf l n).any fun s=>!(ds.any fun d=>isInB s (nats d.probes)))
section
variable {t:Nat}{c:Cs}{pa:Option Addr}{pc:Nat}{l:List Prb}{qa:Option Addr}{qc:Nat}
theorem proof21_any (hsm:c.Small)(hpr:probesErr c l=0)(g0 g1 g2 a b:Nat)(ha:a<c.parts.length)(hb:b<c.parts.length)(d:Opn)(hd:d.Small)(a1 a2 a3 a4:Option Addr)(c1 c2 c3 c4:Nat)(w:World)
 (h:LabAt w t c pa pc l qa qc) (hv:OpnAt w d (.agg #[.slice a1 d.probes.length c1,.slice a2 d.found.length c2,.slice a3 d.tog.length c3,.slice a4 d.apt.length c4])) (h0:Box w g0 #[.pointer (some ⟨t,0,none⟩)] 104) (h1:Box w g1 #[.int .i64 a] 3) (h2:Box w g2 #[.int .i64 b] 3):
 Calls Tryz.prog 122 #[.agg #[.slice a1 d.probes.length c1,.slice a2 d.found.length c2,.slice a3 d.tog.length c3,.slice a4 d.apt.length c4],.pointer (some ⟨g0,0,none⟩),.pointer (some ⟨g1,0,none⟩),.pointer (some ⟨g2,0,none⟩)] w fun e w'=>e = .returned (.bool (!doubtedB c l a b d))∧Below w.heap.size w w':=by
 obtain⟨w1,hw1⟩:=zx (w.alloc (.cells #[.slice a1 d.probes.length c1,.slice a2 d.found.length c2,.slice a3 d.tog.length c3,.slice a4 d.apt.length c4] 53));have hB1:Below w.heap.size w w1:=by rw[←hw1];go_grown
 have e4:∀i,w1.cell? ⟨w.heap.size,i,none⟩=(#[.slice a1 d.probes.length c1,.slice a2 d.found.length c2,.slice a3 d.tog.length c3,.slice a4 d.apt.length c4]:Array Value)[i]?:=by rw[←hw1];exact(Box.new _ _ _).cell
 have HC:=zh (doubted_any hsm hpr a b ha hb d hd _ w1 (h.below hB1) (hv.below hB1));have e1:=(h0.below' hB1).cell;have e2:=(h1.below' hB1).cell;have e3:=(h2.below' hB1).cell;have HW:=zh hw1;have HB:=zh hB1;obtain⟨r,hr⟩:=zx (doubtedB c l a b d);rw[hr] at HC ⊢;clear hw1 hB1 h hv h0 h1 h2 hpr hr
 go_enter Tryz.func122,Tryz.ntmps122
 go_upto_region 1 with fail
 simp only[HW.out]
 go_wp2_with fail
 refine zM HC ?_;rintro e w2 ⟨rfl,hb2⟩;have HB2:=zh (HB.out.trans (hb2.mono HB.out.size));clear hb2 e1 e2 e3 e4
 go_wp2_with fail
 go_ret
 exact⟨rfl,HB2.out⟩
theorem proof221_any (g:Nat)(sa:Option Addr)(s:List Nat)(sc:Nat)(hsl:s.length≤1000)(d:Opn)(hd:d.Small)(hdn:d.probes=natInts (nats d.probes))(a1 a2 a3 a4:Option Addr)(c1 c2 c3 c4:Nat)(w:World)
 (hv:Ints w a1 d.probes) (hS:Ints w sa (natInts s)) (h0:Box w g #[.slice sa s.length sc] 26):
 Calls Tryz.prog 126 #[.agg #[.slice a1 d.probes.length c1,.slice a2 d.found.length c2,.slice a3 d.tog.length c3,.slice a4 d.apt.length c4],.pointer (some ⟨g,0,none⟩)] w fun e w'=>e = .returned (.bool (isInB s (nats d.probes)))∧Below w.heap.size w w':=by
 obtain⟨w1,hw1⟩:=zx (w.alloc (.cells #[.slice a1 d.probes.length c1,.slice a2 d.found.length c2,.slice a3 d.tog.length c3,.slice a4 d.apt.length c4] 53));have hB1:Below w.heap.size w w1:=by rw[←hw1];go_grown
 have e4:∀i,w1.cell? ⟨w.heap.size,i,none⟩=(#[.slice a1 d.probes.length c1,.slice a2 d.found.length c2,.slice a3 d.tog.length c3,.slice a4 d.apt.length c4]:Array Value)[i]?:=by rw[←hw1];exact(Box.new _ _ _).cell
 have hl1:(nats d.probes).length=d.probes.length:=by simp[nats]
 have hc:=isIn_any sa s sc a1 (nats d.probes) c1 w1 (hS.below hB1) (by rw[←hdn];exact hv.below hB1) hsl (by rw[hl1];exact hd.1);rw[hl1] at hc;have HC:=zh hc;have e1:=(h0.below' hB1).cell;have HW:=zh hw1;have HB:=zh hB1;obtain⟨r,hr⟩:=zx (isInB s (nats d.probes));rw[hr] at HC ⊢;clear hw1 hB1 hv h0 hS hr hc hdn hl1
 go_enter Tryz.func126,Tryz.ntmps126
 go_upto_region 1 with fail
 simp only[HW.out]
 go_wp2_with fail
 refine zM HC ?_;rintro e w2 ⟨rfl,hb2⟩;have HB2:=zh (HB.out.trans (hb2.mono HB.out.size));clear hb2 e1 e4
 go_wp2_with fail
 go_ret
 exact⟨rfl,HB2.out⟩
theorem proof22_any (g:Nat)(oa:Option Addr)(ds:List Opn)(oc:Nat)(hdl:ds.length≤1000)(hds:∀d∈ds,d.Small∧d.probes=natInts (nats d.probes))(sa:Option Addr)(s:List Nat)(sc:Nat)(hsl:s.length≤1000)(w:World)
 (hv:OpnsAt w oa ds) (hS:Ints w sa (natInts s)) (h0:Box w g #[.slice oa ds.length oc] 45):
 Calls Tryz.prog 125 #[.slice sa s.length sc,.pointer (some ⟨g,0,none⟩)] w fun e w'=>e = .returned (.bool (!(ds.any fun d=>isInB s (nats d.probes))))∧Below w.heap.size w w':=by
 have hmf:=run_mf Tryz.prog;obtain⟨w1,hw1⟩:=zx (w.alloc (.cells #[.slice sa s.length sc] 26));have hB1:Below w.heap.size w w1:=by rw[←hw1];go_grown
 have b1:Box w1 w.heap.size #[.slice sa s.length sc] 26:=by rw[←hw1];exact Box.new _ _ _
 have HC:=zh (containsOpns_any (K:=126) (caps:=#[.pointer (some ⟨w.heap.size,0,none⟩)]) (w0:=w1) (p:=fun d=>isInB s (nats d.probes)) (L:=ds)
  ⟨fun args W=>by simp[go_sem],fun W d a1 c1 a2 c2 a3 c3 a4 c4 hW hd hv=>by
   obtain⟨x1,y1,x2,y2,x3,y3,x4,y4,he,i1,i2,i3,i4⟩:=hv.at_;cases he;exact proof221_any _ sa s sc hsl d (hds d hd).1 (hds d hd).2 _ _ _ _ _ _ _ _ W i1 (hS.below (hB1.trans (hW.mono hB1.size))) (b1.below' hW)⟩ oa oc w1 (Below.refl _ _) (hv.below hB1) zO)
 have e1:=(h0.below' hB1).cell;have HW:=zh hw1;have HB:=zh hB1;obtain⟨r,hr⟩:=zx ((ds.any fun d=>isInB s (nats d.probes)));rw[hr] at HC ⊢;clear hw1 hB1 hv h0 hS hr b1 hds
 go_enter Tryz.func125,Tryz.ntmps125
 go_upto_region 1 with fail
 simp only[HW.out]
 go_wp2_with fail
 refine zM HC ?_;rintro e w2 ⟨rfl,hb2⟩;have HB2:=zh (HB.out.trans (hb2.mono HB.out.size));clear hb2 e1
 go_wp2_with fail
 go_ret
 exact⟨rfl,HB2.out⟩
theorem checkProof2_any (hsm:c.Small)(hpr:probesErr c l=0)(g1 g2 g3 g4 a b:Nat)(ha:a<c.parts.length)(hb:b<c.parts.length)(n:Int)(oa:Option Addr)(ds:List Opn)(oc:Nat)(hdl:ds.length≤1000)(hds:∀d∈ds,d.Small)(w:World)(g:Nat)
 (h:LabAt w t c pa pc l qa qc) (hv:OpnsAt w oa ds) (h1:Box w g1 #[.int .i64 a] 3) (h2:Box w g2 #[.int .i64 b] 3) (h3:Box w g3 #[.int .i64 n] 3) (h4:Box w g4 #[.slice oa ds.length oc] 45) (hg:Box w g #[.bool false] 4):
 Calls Tryz.prog 120 #[.pointer (some ⟨t,0,none⟩),.pointer (some ⟨g4,0,none⟩),.pointer (some ⟨g1,0,none⟩),.pointer (some ⟨g2,0,none⟩),.pointer (some ⟨g3,0,none⟩),.pointer (some ⟨g,0,none⟩)] w fun e w'=>∃er v,e = .returned (.int .i64 er)∧Keep (fun k=>k≠g) w w'∧Box w' g #[v] 4∧BoolOut (checkProofB c l a b n ds) er v w':=by
 have hmf:=run_mf Tryz.prog;obtain⟨w1,hw1⟩:=zx (w.alloc (.cells #[.pointer (some ⟨t,0,none⟩)] 104));have hB1:Below w.heap.size w w1:=by rw[←hw1];go_grown
 have b1:Box w1 w.heap.size #[.pointer (some ⟨t,0,none⟩)] 104:=by rw[←hw1];exact Box.new _ _ _
 have hl5:=(probes_ok hpr).2.1;have HC:=zh (containsOpns_any (K:=122) (caps:=#[.pointer (some ⟨w.heap.size,0,none⟩),.pointer (some ⟨g1,0,none⟩),.pointer (some ⟨g2,0,none⟩)]) (w0:=w1) (p:=fun d=>!doubtedB c l a b d) (L:=ds)
  ⟨fun args W=>by simp[go_sem],fun W d a1 c1 a2 c2 a3 c3 a4 c4 hW hd hv=>proof21_any hsm hpr _ _ _ a b ha hb d (hds d hd) _ _ _ _ _ _ _ _ W (h.below (hB1.trans (hW.mono hB1.size))) hv (b1.below' hW) (h1.below' (hB1.trans (hW.mono hB1.size))) (h2.below' (hB1.trans (hW.mono hB1.size)))⟩ oa oc w1 (Below.refl _ _) (hv.below hB1) zO)
 have HLB:=zh (h.below hB1);have HV:=zh (hv.below hB1);have H3:=zh (h3.below' hB1);have H4:=zh (h4.below' hB1);have HG:=zh (hg.below' hB1);have e4:=H4.out.cell;have e1:=b1.cell;have HX:=zh b1;have HW:=zh hw1;have HB:=zh hB1;have HPR:=zh hpr;have HDS:=zh hds;have hxx:checkProofB c l a b n ds=(!(ds.any fun d=>!doubtedB c l a b d) && !((belowOf l n).any fun s=>!(ds.any fun d=>isInB s (nats d.probes)))):=rfl;clear hw1 hB1 h hv h1 h2 h3 h4 hg b1 hpr hds
 rcases hany:(ds.any fun d=>!doubtedB c l a b d) with _|_
 ·rw[hany] at HC hxx;have hdn:∀d∈ds,d.Small∧d.probes=natInts (nats d.probes):=fun d hd=>by
   refine⟨HDS.out d hd,?_⟩;rw[List.any_eq_false] at hany;have h1:=hany d hd;simp only[Bool.not_eq_true',Bool.not_eq_false] at h1;unfold doubtedB at h1;rw[Bool.and_eq_true] at h1;exact(found_nats h1.1).1
  have HDN:=zh hdn;have HXX:=zh hxx;clear hany hdn hxx
  go_enter Tryz.func120,Tryz.ntmps120
  go_upto_region 1 with fail
  simp only[HW.out]
  go_wp2_with fail
  refine zM HC ?_;rintro e w2 ⟨rfl,hb2⟩;have HBL:=zh (below9_any HPR.out n w2 (HLB.out.below hb2));have HV2:=zh (HV.out.below hb2);have e5:=(H3.out.below' hb2).cell;have e6:=(HX.out.below' hb2).cell;have H42:=zh (H4.out.below' hb2);have HG2:=zh (HG.out.below' hb2);have HB2:=zh (HB.out.trans (hb2.mono HB.out.size));clear hb2 e1 e4 HC HLB HV H3 H4 HG HX
  go_wp2_with fail
  refine zM HBL ?_;rintro e w3 ⟨a3,c3,rfl,hr3,hb3⟩;have hv3:=HV2.out.below hb3;have h43:=H42.out.below' hb3;have HCR:=zh (containsRows_any (K:=125) (caps:=#[.pointer (some ⟨g4,0,none⟩)]) (w0:=w3) (B:=w3.heap.size) (p:=fun s=>!(ds.any fun d=>isInB s (nats d.probes))) (L:=belowOf l n)
   ⟨fun args W=>by simp[go_sem],fun W s sa sc hW hs hi hsc=>by
    have hbW:=hW.below (Nat.le_refl _);exact proof22_any g4 oa ds oc hdl HDN.out sa s sc (by
     have h1:=(List.mem_filter.1 hs).1;have:=(sets_in h1).2
     omega) W (hv3.below hbW) hi (h43.below' hbW)⟩ a3 c3 w3 (Keep.refl _ _) hr3.at_ (by
      have h1:=List.length_filter_le (fun s=>decide (costOf l s<n)) (setsOf l.length);have h2:=sets_len (m:=l.length) zO;unfold belowOf
      omega))
  have HG3:=zh (HG2.out.below' hb3);have HB3:=zh (HB2.out.trans (hb3.mono HB2.out.size));obtain⟨r,hr⟩:=zx (((belowOf l n).any fun s=>!(ds.any fun d=>isInB s (nats d.probes))));rw[hr] at HCR HXX;clear hr hb3 hr3 hv3 h43 e5 e6 HBL HV2 H42 HG2 HB2
  go_wp2_with fail
  refine zM HCR ?_;rintro e w4 ⟨rfl,hb4⟩;have HG4:=zh (HG3.out.below' hb4);have HB4:=zh (HB3.out.trans (hb4.mono HB3.out.size));obtain⟨z1,z2⟩:=HG4.out.rules;clear hb4
  go_wp2_with fail
  go_ret
  exact⟨0,.bool (!r),rfl,(Keep.of_below' HB4.out).setCell (.inl zS) _,HG4.out.set_ 0 _,rfl,by rw[HXX.out];rfl⟩
 ·rw[hany] at HC hxx;have HXX:=zh hxx;clear hany hxx
  go_enter Tryz.func120,Tryz.ntmps120
  go_upto_region 1 with fail
  simp only[HW.out]
  go_wp2_with fail
  refine zM HC ?_;rintro e w2 ⟨rfl,hb2⟩;have HG2:=zh (HG.out.below' hb2);have HB2:=zh (HB.out.trans (hb2.mono HB.out.size));clear hb2 e1 e4
  go_wp2_with fail
  go_ret
  exact⟨0,_,rfl,Keep.of_below' HB2.out,HG2.out,rfl,by rw[HXX.out];rfl⟩
end
theorem checkProofX_any (c:Cs)(hsm:c.Small)(pa:Option Addr)(pc:Nat)(l:List Prb)(qa:Option Addr)(qc:Nat)(a:Int)(b:Int)(n:Int)(oa:Option Addr)(ds:List Opn)(oc:Nat)(hdl:ds.length≤1000)(hds:∀d∈ds,d.Small)(w:World)(hp:PartsAt w pa c.parts)(hq:PrbsAt w qa l)(hv:OpnsAt w oa ds):
 Calls Tryz.prog 41 #[.agg #[.string c.ware,.int .i64 c.limit,.int .i64 c.by_,.slice pa c.parts.length pc],.slice qa l.length qc,.int .i64 a,.int .i64 b,.int .i64 n,.slice oa ds.length oc] w (XPost (xErr c l (twoB c.parts.length a b)) (.bool false) (BoolOut (checkProofB c l a.toNat b.toNat n ds)) w):=by
 have hmf:=run_mf Tryz.prog;obtain⟨w4,hw4⟩:=zx ((((((w.alloc (.cells #[.string c.ware,.int .i64 c.limit,.int .i64 c.by_,.slice pa c.parts.length pc] 24)).alloc (.cells #[.int .i64 a] 3)).alloc (.cells #[.int .i64 b] 3)).alloc (.cells #[.int .i64 n] 3)).alloc (.cells #[.slice oa ds.length oc] 45)).alloc (.cells #[.bool false] 4));have hB4:Below w.heap.size w w4:=by rw[←hw4];go_grown
 have hs4:w4.heap.size=w.heap.size+6:=by rw[←hw4];simp
 have b0:Box w4 w.heap.size (csCells c pa pc) 24:=by rw[←hw4];exact(((((Box.new _ _ _).alloc _).alloc _).alloc _).alloc _).alloc _
 have b1:Box w4 (w.heap.size+1) #[.int .i64 a] 3:=by rw[←hw4];exact((((Box.new' zS).alloc _).alloc _).alloc _).alloc _
 have b2:Box w4 (w.heap.size+2) #[.int .i64 b] 3:=by rw[←hw4];exact(((Box.new' zS).alloc _).alloc _).alloc _
 have b3:Box w4 (w.heap.size+3) #[.int .i64 n] 3:=by rw[←hw4];exact((Box.new' zS).alloc _).alloc _
 have b4:Box w4 (w.heap.size+4) #[.slice oa ds.length oc] 45:=by rw[←hw4];exact(Box.new' zS).alloc _
 have b5:Box w4 (w.heap.size+5) #[.bool false] 4:=by rw[←hw4];exact Box.new' zS
 have hv4:=hv.below hB4;have hask:=asked9_any c hsm pa pc l qa qc 119 #[.pointer (some ⟨w.heap.size+1,0,none⟩),.pointer (some ⟨w.heap.size+2,0,none⟩)] 120 #[.pointer (some ⟨w.heap.size+4,0,none⟩),.pointer (some ⟨w.heap.size+1,0,none⟩),.pointer (some ⟨w.heap.size+2,0,none⟩),.pointer (some ⟨w.heap.size+3,0,none⟩),.pointer (some ⟨w.heap.size+5,0,none⟩)] (twoB c.parts.length a b)
  (fun er W'=>Below w.heap.size w W'∧∃v,Box W' (w.heap.size+5) #[v] 4∧(BoolOut (checkProofB c l a.toNat b.toNat n ds)) er v W') w4 (hp.below hB4) (hq.below hB4)
  (fun hpr=>⟨fun args W=>by simp[go_sem],fun W t hW ht hlab=>checkProof1_arg hsm _ _ a b W hlab (b1.below' hW) (b2.below' hW)⟩)
  (fun hpr hok hne=>⟨fun args W=>by simp[go_sem],fun W t hW ht hlab=>by
   obtain⟨x,y,rfl,rfl,hx,hy⟩:=two_nats hok;refine(checkProof2_any hsm hpr _ _ _ _ x y hx hy n oa ds oc hdl hds W _ hlab (hv4.below hW) (b1.below' hW) (b2.below' hW) (b3.below' hW) (b4.below' hW) (b5.below' hW)).mono ?_;rintro e W' ⟨er,v,rfl,hk,hb,ho⟩;exact⟨er,rfl,(hB4.trans (hW.mono hB4.size)).trans ((hk.mono fun k (hk:k<w.heap.size)=>by omega).below (Nat.le_trans hB4.size hW.size)),v,hb,ho⟩⟩)
 have HA:=zh hask;have HW:=zh hw4;have HB4:=zh hB4;have H3:=zh b5;have e0:=zC (b0);clear hask hw4 hB4 b0 b1 b2 b3 b4 b5 hp hq hs4 hv hv4
 go_enter Tryz.func41,Tryz.ntmps41
 go_upto_region 2 with fail
 simp only[HW.out]
 go_wp2_with fail
 refine zM HA ?_;rintro e w5 hpost;obtain⟨er,rfl,(⟨h1,h2,hb5⟩|⟨h1,hb5,v5,hbx,hout⟩)⟩:=ask_cases hpost
 ·have HB5:=zh (HB4.out.trans (hb5.mono HB4.out.size));have e3:=(H3.out.below' hb5).cell;have H1:=zh (And.intro h1 h2);clear hpost hb5 e0 h1 h2 HA H3
  go_wp2_with fail
  go_ret2
  exact⟨HB5.out,_,er,rfl,.inl ⟨H1.out.1,H1.out.2,rfl⟩⟩
 ·have HB5:=zh hb5;have e3:=hbx.cell;have H1:=zh (And.intro h1 hout);clear hpost hb5 e0 h1 hout hbx HA H3
  go_wp2_with fail
  go_ret2
  exact⟨HB5.out,v5,er,rfl,.inr ⟨H1.out.1,H1.out.2⟩⟩
theorem opn_ints {W:World}{d:Opn}{a1 a2 a3 a4:Option Addr}{c1 c2 c3 c4:Nat}(h:OpnAt W d (.agg #[.slice a1 d.probes.length c1,.slice a2 d.found.length c2,.slice a3 d.tog.length c3,.slice a4 d.apt.length c4])):Ints W a1 d.probes∧Ints W a2 d.found∧Ints W a3 d.tog∧Ints W a4 d.apt:=by
 obtain⟨b1,k1,b2,k2,b3,k3,b4,k4,hv,i1,i2,i3,i4⟩:=h.at_;simp only[Value.agg.injEq,Array.mk.injEq,List.cons.injEq,Value.slice.injEq,and_true,true_and] at hv;obtain⟨⟨rfl,_⟩,⟨rfl,_⟩,⟨rfl,_⟩,rfl,_⟩:=hv;exact⟨i1,i2,i3,i4⟩
def shownB (l:List Prb)(n:Int)(ds:List Opn)(s:List Nat):Bool:=decide (n≤costOf l s)||ds.any fun d=>isInB s (nats d.probes)
theorem proof_shown {c:Cs}{l:List Prb}{a b:Nat}{n:Int}{ds:List Opn}:checkProofB c l a b n ds=(ds.all (doubtedB c l a b)&&(setsOf l.length).all (shownB l n ds)):=by
 unfold checkProofB
 congr 1
 ·rw[List.not_any_eq_all_not];simp
 ·rw[Bool.eq_iff_iff];simp only[Bool.not_eq_true',List.any_eq_false,List.all_eq_true,belowOf,List.mem_filter,decide_eq_true_eq,shownB,Bool.or_eq_true];constructor
  ·intro h s hs
   by_cases hc:costOf l s<n
   ·right;have:=h s ⟨hs,hc⟩
    simpa using this
   ·left;omega
  ·intro h s hs;have:=(h s hs.1).resolve_left zO
   simpa using this
theorem checkProofXR9_any (c:Cs)(hsm:c.Small)(pa:Option Addr)(pc:Nat)(l:List Prb)(qa:Option Addr)(qc:Nat)(a:Int)(b:Int)(n:Int)(oa:Option Addr)(ds:List Opn)(oc:Nat)(hdl:ds.length≤1000)(hds:∀d∈ds,d.Small)(w:World)(hp:PartsAt w pa c.parts)(hq:PrbsAt w qa l)(hv:OpnsAt w oa ds):
 Calls Tryz.prog 42 #[.agg #[.string c.ware,.int .i64 c.limit,.int .i64 c.by_,.slice pa c.parts.length pc],.slice qa l.length qc,.int .i64 a,.int .i64 b,.int .i64 n,.slice oa ds.length oc] w (XPost (xErr c l (twoB c.parts.length a b)) (.bool false) (BoolOut (checkProofB c l a.toNat b.toNat n ds)) w):=by
 obtain⟨w1,hw1⟩:=zx (w.alloc (.cells #[.string c.ware,.int .i64 c.limit,.int .i64 c.by_,.slice pa c.parts.length pc] 24));have hB1:Below w.heap.size w w1:=by rw[←hw1];go_grown
 have b1:Box w1 w.heap.size (csCells c pa pc) 24:=by rw[←hw1];exact Box.new _ _ _
 have e1:=zC (b1);have HAS:=zh (askedPairR9_any c hsm pa pc l qa qc a b none [] 0 zS w1 (hp.below hB1) (hq.below hB1) (Ints.nil _ _));rw[setB_nil,Bool.and_true,List.length_nil] at HAS;have HW:=zh hw1;have HX:=zh b1;have HB:=zh hB1;have HP:=zh (fun W (h:Below w.heap.size w W)=>hp.below h);have HQ:=zh (fun W (h:Below w.heap.size w W)=>hq.below h);have HV:=zh (fun W (h:Below w.heap.size w W)=>hv.below h);clear hw1 b1 hB1 hp hq hv;have HXS:=zh (fun h=>xErr_set (c:=c) (l:=l) (ok:=twoB c.parts.length a b) h);have HTN:=zh (fun h=>two_nats (n:=c.parts.length) (a:=a) (b:=b) h);obtain⟨R,hR⟩:=zx (checkProofB c l a.toNat b.toNat n ds);have HR:=zh hR;rw[hR];clear hR;obtain⟨er,her⟩:=zx (xErr c l (twoB c.parts.length a b));have HER:=zh her;rw[her] at HAS HXS ⊢;clear her
 go_enter Tryz.func42,Tryz.ntmps42
 go_upto_region 1 with fail
 simp only[HW.out]
 go_wp2_with fail
 refine zM HAS ?_;rintro e w2 ⟨rfl,hb2⟩;have HX:=zh (HX.out.below' hb2);have HB:=zh (HB.out.trans (hb2.mono HB.out.size));clear hb2 e1 HAS HW
 by_cases hz:er=0
 ·obtain⟨z1,z2,_⟩:=HXS.out hz;subst hz;obtain⟨A,B,rfl,rfl,hA,hBn⟩:=HTN.out z2;have hl5:=(probes_ok z1).2.1;have HR:=HR.out;rw[Int.toNat_natCast,Int.toNat_natCast,proof_shown] at HR;have HR:=zh HR;have HCD:=zh (fun(d:Opn) (hd:d∈ds) a1 a2 a3 a4 c1 c2 c3 c4 W (h:Below w.heap.size w W) (hat:OpnAt W d (.agg #[.slice a1 d.probes.length c1,.slice a2 d.found.length c2,.slice a3 d.tog.length c3,.slice a4 d.apt.length c4]))=>show Calls Tryz.prog 29 #[.agg #[.string c.ware,.int .i64 c.limit,.int .i64 c.by_,.slice pa c.parts.length pc],.slice qa l.length qc,.int .i64 (A:Int),.int .i64 (B:Int),.agg #[.slice a1 d.probes.length c1,.slice a2 d.found.length c2,.slice a3 d.tog.length c3,.slice a4 d.apt.length c4]] W (fun e w'=>e = .returned (.tuple #[.bool (doubtedB c l A B d),.int .i64 0])∧Below W.heap.size W w') by
   obtain⟨i1,i2,i3,i4⟩:=opn_ints hat;refine(checkDoubtR9_any c hsm pa pc l qa qc A B d (hds d hd) a1 a2 a3 a4 c1 c2 c3 c4 W (HP.out _ h) (HQ.out _ h) i1 i2 i3 i4).mono ?_;intro e w' hh;obtain⟨hb,he⟩:=XPost.bool hh;refine⟨?_,hb⟩;rw[he,HER.out,Int.toNat_natCast,Int.toNat_natCast]
   simp)
  have HST:=zh (fun W=>setsXR9_any (l:=l) hl5 qa qc W);have HCO:=zh (fun(x:List Nat) (hx:x∈setsOf l.length) sa sc W (hb:Below w.heap.size w W) (hI:Ints W sa (natInts x))=>costR9_any (c:=c) (qa:=qa) (qc:=qc) z1 sa x sc W (HQ.out _ hb) hI (sets_in hx).1 (by have:=(sets_in hx).2;omega));have HSZ:=zh (fun(x:List Nat) (hx:x∈setsOf l.length)=>show x.length≤1000 by have:=(sets_in hx).2;omega);have HDP:=zh (fun(d:Opn) (hd:doubtedB c l A B d=true)=>show d.probes=natInts (nats d.probes) by
   unfold doubtedB at hd;rw[Bool.and_eq_true] at hd;exact(found_nats hd.1).1)
  have HDL:=zh (fun(d:Opn) (hd:d∈ds)=>(hds d hd).1);obtain⟨L,hL⟩:=zx (setsOf l.length);have hLL:=sets_len hl5;rw[hL] at HST HCO HSZ HR hLL;have HV2:=zh (HV.out w2 HB.out);clear hL z1 z2 hA hBn hl5 hsm hds HXS HTN HP HQ HV HER
  go_wp2_with fail
  go_loopw [15] (fun iv wr=>∃k:Nat,k≤ds.length∧iv = .int .i64 k∧(∀d∈ds.take k,doubtedB c l A B d=true)∧Below w2.heap.size w2 wr) (fun iv _=>ds.length-(intOf iv).toNat)
  case atStart=>exact⟨0,Nat.zero_le _,rfl,by simp,Below.refl _ _⟩
  case round=>
   obtain⟨k,hk,rfl,hall,hbw⟩:=hrel;have HBW:=zh hbw;have HAL:=zh hall;clear hall hbw
   by_cases hlt:k<ds.length
   ·obtain⟨d,hd⟩:=get_of_lt ds hlt;have hkl:(k:Int)<(ds.length:Int):=by omega
    have hdm:=List.mem_of_getElem? hd
    go_upto_region 7 with fail
    have hbd:Below wr.heap.size wr wr.drew:=(Below.refl _ wr).drew;have hb6:=HBW.out.trans (hbd.mono HBW.out.size);have hbw6:=HB.out.trans (hb6.mono HB.out.size);obtain⟨b1,o1,a1,c1,a2,c2,a3,c3,a4,c4,hva,d1,d2,d3,d4,hop⟩:=(HV2.out.below hb6) k d hd;subst hva;have HC:=zh (HCD.out d hdm a1 a2 a3 a4 c1 c2 c3 c4 wr.drew hbw6 hop);have hx3:=HX.out.below' hb6;have K0:Hid (∀A,Below wr.drew.heap.size wr.drew A→cC A (w.heap.size) c pa pc∧A.cell? ⟨b1,o1+k*4,none⟩=some (.slice a1 d.probes.length c1)∧A.cell? ⟨b1,o1+k*4+1,none⟩=some (.slice a2 d.found.length c2)∧A.cell? ⟨b1,o1+k*4+2,none⟩=some (.slice a3 d.tog.length c3)∧A.cell? ⟨b1,o1+k*4+3,none⟩=some (.slice a4 d.apt.length c4)):=
     zh fun A hA=>⟨(hx3.below' hA).cell,below_cell hA d1,below_cell hA d2,below_cell hA d3,below_cell hA d4⟩
    have HB6:=zh hb6;have HDX:=zh hd;refine wp_region_L (fun A=>Below wr.drew.heap.size wr.drew A) 14 zK ?_;have hSS:Below wr.drew.heap.size wr.drew wr.drew:=Below.refl _ _;clear hbd hb6 hbw6 d1 d2 d3 d4 hop hd hx3 HBW;generalize wr.drew=w6 at *;refine tM K0 0 hSS ?_;refine tM K0 1 hSS ?_;refine tM K0 2 hSS ?_;refine tM K0 3 hSS ?_;refine tM K0 4 hSS ?_;refine tM K0 5 hSS ?_;refine tM K0 6 hSS ?_;refine tM K0 7 hSS ?_;refine anyL_call (i:=8) (f:=29) (args:=#[.agg #[.string c.ware,.int .i64 c.limit,.int .i64 c.by_,.slice pa c.parts.length pc],.slice qa l.length qc,.int .i64 (A:Int),.int .i64 (B:Int),.agg #[.slice a1 d.probes.length c1,.slice a2 d.found.length c2,.slice a3 d.tog.length c3,.slice a4 d.apt.length c4]]) rfl zK (by rfl) (by go_simp) HC.out ?_;rintro e7 w7 ⟨rfl,hb7⟩;refine .inl ⟨_,rfl,.inr hb7,?_⟩
    try simp only[pZ]
    have hSS:=hb7;refine tM K0 9 hSS ?_;refine tM K0 10 hSS ?_;refine tM K0 11 hSS ?_;refine tM K0 12 hSS ?_;refine tM K0 13 hSS ?_;refine anyL_done zK ?_ _;have HB7:=zh (HB6.out.trans (hb7.mono HB6.out.size));clear hSS hb7 K0 HC
    rcases hdb:doubtedB c l A B d with _|_
    ·have HRF:=zh (show R=false by
      rw[←HR.out,Bool.and_eq_false_iff];left;rw[List.all_eq_false];exact⟨d,hdm,by simp[hdb]⟩)
     have HBE:=zh (HB.out.trans (HB7.out.mono HB.out.size));clear hdb hdm
     go_wp2_with fail
     go_ret2
     exact⟨HBE.out,_,_,rfl,.inr ⟨rfl,rfl,by rw[HRF.out];rfl⟩⟩
    ·have HDB:=zh hdb;clear hdb hdm
     go_wp2_with fail
     go_roundw
     case rel=>
      refine⟨k+1,zO,zN,?_,HB7.out⟩;rw[take_snoc HDX.out];intro y hy
      rcases List.mem_append.1 hy with h|h
      ·exact HAL.out y h
      ·rw[List.mem_singleton.1 h];exact HDB.out
     case measure=>exact zJ
   ·have hke:k=ds.length:=by omega
    have HDA:=zh (show ∀d∈ds,doubtedB c l A B d=true by have h:=HAL.out;rwa [hke,List.take_length] at h);have HR:=zh (show L.all (shownB l n ds)=R by
     rw[←HR.out,List.all_eq_true.2 HDA.out,Bool.true_and])
    have hbw2:=HB.out.trans (HBW.out.mono HB.out.size);have HSW:=zh (HST.out wr);have HVW:=zh (HV2.out.below HBW.out);have HBZ:=zh hbw2;clear hke hbw2 HCD HST HAL HV2
    go_wp2_with fail
    refine zM HSW ?_;rintro e w3 ⟨la,lc,rfl,hr3,hb3⟩;have HB3:=zh (HBZ.out.trans (hb3.mono HBZ.out.size));have HL3:=zh hr3;have HV3:=zh (HVW.out.below hb3);clear hb3 hr3 HSW HVW HBW HBZ
    go_wp2_with fail
    go_loopw [19] (fun iv wx=>∃i:Nat,i≤L.length∧iv = .int .i64 i∧(∀s∈L.take i,shownB l n ds s=true)∧Below w3.heap.size w3 wx) (fun iv _=>L.length-(intOf iv).toNat)
    case atStart=>exact⟨0,Nat.zero_le _,rfl,by simp,Below.refl _ _⟩
    case round=>
     obtain⟨i,hi,rfl,hall,hbw⟩:=hrel;have HBW:=zh hbw;have HAL:=zh hall;clear hall hbw
     by_cases hil:i<L.length
     ·obtain⟨s,hs⟩:=get_of_lt L hil;have hin:(i:Int)<(L.length:Int):=by omega
      have hsm:=List.mem_of_getElem? hs;obtain⟨b2,o2,ra,rc,hla,_,_,c1,hsi⟩:=(HL3.out.below HBW.out).ints hs (Keep.refl _ _);subst hla;have hbwr:=HB3.out.trans (HBW.out.mono HB3.out.size);have HCC:=zh (HCO.out s hsm ra rc wr hbwr hsi);have HSX:=zh hs;have HSI:=zh hsi;clear hbwr hsi hs
      go_wp2_with fail
      refine zM HCC ?_;rintro e8 w8 ⟨rfl,rfl⟩;obtain⟨cs,hcs⟩:=zx (costOf l s);rw[hcs];have HCS:=zh hcs;clear hcs HCC c1
      go_wp2_with fail
      go_loopw [20,21] (fun mv kv wx=>∃k:Nat,k≤ds.length∧kv = .int .i64 k∧mv = .bool (decide (n≤cs)||(ds.take k).any fun d=>isInB s (nats d.probes))∧Below w3.heap.size w3 wx) (fun _ kv _=>ds.length-(intOf kv).toNat)
      case atStart=>exact⟨0,Nat.zero_le _,rfl,by simp,HBW.out⟩
      case round=>
       clear HBW HSI;obtain⟨k,hk,rfl,rfl,hbi⟩:=hrel;have HBI:=zh hbi;clear hbi;obtain⟨m,hm⟩:=zx ((decide (n≤cs)||(ds.take k).any fun d=>isInB s (nats d.probes)));rw[hm];have HM:=zh hm;clear hm
       by_cases hkt:k<ds.length
       ·obtain⟨d,hd⟩:=get_of_lt ds hkt;have hkl:(k:Int)<(ds.length:Int):=by omega
        have hdm:=List.mem_of_getElem? hd;have HST:=zh (show(decide (n≤cs)||(ds.take (k+1)).any fun d=>isInB s (nats d.probes))=(m||isInB s (nats d.probes)) by rw[take_snoc hd,List.any_append,←Bool.or_assoc,HM.out];simp)
        go_upto_region 18 with fail
        have hbd:Below wr.heap.size wr wr.drew:=(Below.refl _ wr).drew;have hb6:=HBI.out.trans (hbd.mono HBI.out.size);obtain⟨b1,o1,a1,c1,a2,c2,a3,c3,a4,c4,hva,d1,_,_,_,hop⟩:=(HV3.out.below hb6) k d hd;obtain⟨b2',o2',ra',rc',hla,_,_,d5,hsi⟩:=(HL3.out.below hb6).ints HSX.out (Keep.refl _ _);subst hva;cases hla;have hdp:=HDP.out d (HDA.out d hdm);have hln:(nats d.probes).length=d.probes.length:=by simp[nats]
        have HIN:=zh (inR9_any ra' s rc' a1 (nats d.probes) c1 wr.drew hsi (by rw[←hdp];exact(opn_ints hop).1) (HSZ.out s hsm) (by rw[hln];exact HDL.out d hdm));rw[hln] at HIN;have K0:Hid (∀A,Below wr.drew.heap.size wr.drew A→A.cell? ⟨b1,o1+k*4,none⟩=some (.slice a1 d.probes.length c1)∧A.cell? ⟨b2,o2+i,none⟩=some (.slice ra' s.length rc')):=
         zh fun A hA=>⟨below_cell hA d1,below_cell hA d5⟩
        have HB6:=zh hb6;refine wp_region_L (fun A=>Below wr.drew.heap.size wr.drew A) 14 zK ?_;have hSS:Below wr.drew.heap.size wr.drew wr.drew:=Below.refl _ _;clear hbd hb6 d1 d5 hop hsi hdp hln hd HBI;generalize wr.drew=w6 at *
        rcases m with _|_
        ·have HMF:=zh (rfl:(false:Bool)=false);refine tM K0 0 hSS ?_;refine tM K0 1 hSS ?_;refine tM K0 2 hSS ?_;refine tM K0 3 hSS ?_;refine tM K0 4 hSS ?_;refine tM K0 5 hSS ?_;refine tM K0 6 hSS ?_;refine tM K0 7 hSS ?_;refine tM K0 8 hSS ?_;refine tM K0 9 hSS ?_;refine tM K0 10 hSS ?_;refine anyL_call (i:=11) (f:=91) (args:=#[.slice ra' s.length rc',.slice a1 d.probes.length c1]) rfl zK (by rfl) (by go_simp) HIN.out ?_;rintro e7 w7 ⟨rfl,hb7⟩;refine .inl ⟨_,rfl,.inr hb7,?_⟩
         try simp only[pZ]
         have hSS:=hb7;refine tM K0 12 hSS ?_;refine tM K0 13 hSS ?_;refine anyL_done zK ?_ _;have HB7:=zh (HB6.out.trans (hb7.mono HB6.out.size));clear hSS hb7 K0 HIN
         go_wp2_with fail
         go_roundw
         case rel=>exact⟨k+1,zO,zN,by rw[HST.out,Bool.false_or],HB7.out⟩
         case measure=>exact zJ
        ·have HMF:=zh (rfl:(false:Bool)=false);refine tM K0 0 hSS ?_;refine tM K0 1 hSS ?_;refine tN 2 hSS ?_;refine tN 3 hSS ?_;refine tN 4 hSS ?_;refine tN 5 hSS ?_;refine tN 6 hSS ?_;refine tN 7 hSS ?_;refine tN 8 hSS ?_;refine tN 9 hSS ?_;refine tN 10 hSS ?_;refine tN 11 hSS ?_;refine tM K0 12 hSS ?_;refine tM K0 13 hSS ?_;refine anyL_done zK ?_ _;clear hSS K0 HIN
         go_wp2_with fail
         go_roundw
         case rel=>exact⟨k+1,zO,zN,by rw[HST.out,Bool.true_or],HB6.out⟩
         case measure=>exact zJ
       ·have hke:k=ds.length:=by omega
        have HSH:=zh (show shownB l n ds s=m by unfold shownB;rw[HCS.out,←HM.out,hke,List.take_length]);clear hke
        rcases m with _|_
        ·have HRF:=zh (show R=false by rw[←HR.out,List.all_eq_false];exact⟨s,hsm,by simp[HSH.out]⟩);have HBE:=zh (HB3.out.trans (HBI.out.mono HB3.out.size));clear hsm
         go_wp2_with fail
         go_ret2
         exact⟨HBE.out,_,_,rfl,.inr ⟨rfl,rfl,by rw[HRF.out];rfl⟩⟩
        ·go_wp2_with fail
         go_roundw
         case rel=>
          refine⟨i+1,zO,zN,?_,HBI.out⟩;rw[take_snoc HSX.out];intro y hy
          rcases List.mem_append.1 hy with h|h
          ·exact HAL.out y h
          ·rw[List.mem_singleton.1 h];exact HSH.out
         case measure=>exact zJ
     ·have hie:i=L.length:=by omega
      have HRT:=zh (show R=true by rw[←HR.out,List.all_eq_true];have h:=HAL.out;rwa [hie,List.take_length] at h);clear hie
      go_wp2_with fail
      go_ret2
      exact⟨HB3.out.trans (HBW.out.mono HB3.out.size),_,_,rfl,.inr ⟨rfl,rfl,by rw[HRT.out];rfl⟩⟩
 ·have hzb:(er != 0)=true:=by simpa using hz
  have HZE:=zh hz;clear hz
  go_wp2_with fail
  go_ret2
  exact⟨HB.out,_,_,rfl,.inl ⟨HZE.out,rfl,rfl⟩⟩
end
