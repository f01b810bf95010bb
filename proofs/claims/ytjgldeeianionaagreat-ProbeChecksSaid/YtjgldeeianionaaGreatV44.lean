/- Walks and plain laws. No condition. -/
import Derived.Test.YtjgldeeianionaaGreatV42
import Derived.Test.YtjgldeeianionaaGreatV43
set_option maxHeartbeats 4000000
set_option maxRecDepth 100000
set_option linter.unusedSimpArgs false
set_option linter.unusedVariables false
namespace Go.Proofs.YtjgldeeianionaaGreat
open Go.RowKit
section
open Go.RowKit Go.ChangeShapes Go.WideShapes Go.Deep Go.Joins
section
variable {H:Type}{enc:TypeId×Value→H}{w:World}{base:Nat}{spare:Nat→Bool}{held:Bool}
theorem ints_arg {r:Reach}{b0:Nat}{v:Value}{d:DataW H}{ps:List MemPlace}(hv:Value.okWide Tryz.prog w r b0 26 v)(h:DataW.Trod enc Tryz.prog w base spare held 26 v d ps):
 ∃(a:Option Addr) (l:List Int) (cap:Nat),v = .slice a l.length cap∧Ints w a l∧l.length≤cap∧cap≤maxLen:=by
 obtain⟨a,len,cap,rfl⟩:=okWide_slice Tryz.underlying26 hv;obtain⟨n,hn⟩:=field_of_Trod h rfl;obtain⟨a',l,cap',e,h1,h2,h3⟩:=ints_of hn;rw[List.singleton_inj] at e;exact⟨a',l,cap',e,h1,h2,h3⟩
instance:Inhabited Br:=⟨⟨0,0,0,[]⟩⟩
theorem br_of {fuel:Nat}{cs:List Value}{x:DataW H×List MemPlace}(h:DataW.trod enc Tryz.prog w base spare held fuel 99 cs=some x):
 ∃(z:Br) (ma:Option Addr) (mc:Nat),cs=[.int .u8 z.kind,.int .i64 z.a,.int .i64 z.b,.slice ma z.many.length mc]∧Ints w ma z.many∧z.many.length≤mc∧mc≤maxLen∧z.kind<256:=by
 obtain⟨xs,n,_,_,hlen,hxs,hf⟩:=DataW.trod_struct Tryz.underlying99 h;have hc:Tryz.prog.cellsOf 99=4:=zK;rw[hc] at hlen
 match cs,hlen,xs,hxs with
 |[c0,c1,c2,c3],_,[y0,y1,y2,y3],_=>
  have h0:=hf 0 _ rfl;have h1:=hf 1 _ rfl;have h2:=hf 2 _ rfl;have h3:=hf 3 _ rfl;simp only[List.getElem?_cons_zero,List.getElem?_cons_succ] at h0 h1 h2 h3;obtain⟨a0,e0,_,w0⟩:=DataW.trod_int Tryz.underlying5 h0;obtain⟨a1,e1,_,_⟩:=DataW.trod_int Tryz.underlying3 h1;obtain⟨a2,e2,_,_⟩:=DataW.trod_int Tryz.underlying3 h2;obtain⟨ma,l,mc,e3,i3,l3,m3⟩:=ints_of h3;have hw:0≤a0∧a0≤255:=by simpa[Lit.wf,IntKind.min,IntKind.max,IntKind.signed,IntKind.bits] using w0
  cases e0;cases e1;cases e2;cases e3;refine⟨⟨a0.toNat,a1,a2,l⟩,ma,mc,?_,i3,l3,m3,by simp;omega⟩;simp only[Int.toNat_of_nonneg hw.1]
theorem brs_of {fuel:Nat}{cs:List Value}{x:DataW H×List MemPlace}(h:DataW.trod enc Tryz.prog w base spare held fuel 100 cs=some x):
 ∃(a:Option Addr) (l:List Br) (cap:Nat),cs=[.slice a l.length cap]∧BrsAt w a l∧l.length≤cap∧cap≤maxLen∧∀z∈l,z.kind<256∧z.many.length≤maxLen:=by
 have hc:Tryz.prog.cellsOf 99=4:=zK
 rcases open_slice Tryz.underlying100 h with ⟨rfl,_⟩|⟨a,len,cap,m,n,D,Pl,rfl,_,hl,hm,hmm,_,hV⟩
 ·exact⟨none,[],0,rfl,fun k p hp=>by simp at hp,Nat.le_refl _,Nat.zero_le _,by simp⟩
 ·have hlm:len≤m:=by rw[hmm];split<;>omega
  rw[hc] at hV;obtain⟨f,hf⟩:=choose_lt (α:=Br) (n:=len) (p:=fun i z=>∃ma mc,(∀j v,([.int .u8 (z.kind:Nat),.int .i64 z.a,.int .i64 z.b,.slice ma z.many.length mc]:List Value)[j]?=some v→w.cell? (a.add (i*4+j))=some v)∧Ints w ma z.many∧z.many.length≤mc∧mc≤maxLen∧z.kind<256) (fun i hi=>by
   obtain⟨cs',h1,h2⟩:=hV i zO;obtain⟨z,ma,mc,rfl,h3⟩:=br_of h2;obtain⟨_,_,hg⟩:=World.cells?_some h1;refine⟨z,ma,mc,fun j v hv=>?_,h3⟩;have hj:=(List.getElem?_eq_some_iff.1 hv).1;have:=hg j (by simpa using hj);rw[Go.Deep.add_add] at this;rw[this,hv])
  refine⟨some a,(List.range len).map f,cap,by simp,fun k z hz=>?_,by simpa using hl,hm,fun z hz=>?_⟩
  ·have hk:k<len:=by
    have:=(List.getElem?_eq_some_iff.1 hz).1
    simpa using this
   obtain⟨_,_,h0,_⟩:=hf 0 zO;have ha:a=⟨a.block,a.off,none⟩:=spot_none (by simpa[Addr.add] using h0 0 _ rfl);rw[List.getElem?_map,List.getElem?_range hk] at hz;have hz':f k=z:=by simpa using hz
   obtain⟨ma,mc,h1,h2,h3,_⟩:=hf k hk;rw[hz'] at h1 h2 h3;have h6:∀j v,([.int .u8 (z.kind:Nat),.int .i64 z.a,.int .i64 z.b,.slice ma z.many.length mc]:List Value)[j]?=some v→w.cell? ⟨a.block,a.off+k*4+j,none⟩=some v:=fun j v hv=>by
    have h6:=h1 j v hv;rw[ha,add_plain] at h6;rw[←h6,Nat.add_assoc]
   exact⟨a.block,a.off,by rw[←ha],ma,mc,h6 0 _ rfl,h6 1 _ rfl,h6 2 _ rfl,h6 3 _ rfl,h2,h3⟩
  ·simp only[List.mem_map,List.mem_range] at hz;obtain⟨i,hi,rfl⟩:=hz;obtain⟨_,_,_,_,h4,h5,h6⟩:=hf i hi;exact⟨h6,Nat.le_trans h4 h5⟩
end
section
variable {H:Type}{enc:TypeId×Value→H}{w:World}{base:Nat}{spare:Nat→Bool}{held:Bool}
theorem rows_of {α:Type}[Inhabited α]{T E:TypeId}{n:Nat}{rel:α→List Value→Prop}(hT:Tryz.prog.underlying T=some (.slice E))(hc:Tryz.prog.cellsOf E=n)(hn:0<n)
 (hel:∀(fuel:Nat) (cs:List Value) (x:DataW H×List MemPlace),DataW.trod enc Tryz.prog w base spare held fuel E cs=some x→∃z,rel z cs∧cs.length=n)
 {fuel:Nat} {cs:List Value} {x:DataW H×List MemPlace} (h:DataW.trod enc Tryz.prog w base spare held fuel T cs=some x):
 ∃(a:Option Addr) (l:List α) (cap:Nat),cs=[.slice a l.length cap]∧l.length≤cap∧cap≤maxLen∧∀k z,l[k]?=some z→∃vs b o,rel z vs∧a=some ⟨b,o,none⟩∧∀j v,vs[j]?=some v→w.cell? ⟨b,o+k*n+j,none⟩=some v:=by
 rcases open_slice hT h with ⟨rfl,_⟩|⟨a,len,cap,m,f',D,Pl,rfl,_,hl,hm,hmm,_,hV⟩
 ·exact⟨none,[],0,rfl,Nat.le_refl _,Nat.zero_le _,fun k z hz=>by simp at hz⟩
 ·have hlm:len≤m:=by rw[hmm];split<;>omega
  rw[hc] at hV;obtain⟨f,hf⟩:=choose_lt (α:=α) (n:=len) (p:=fun i z=>∃vs,rel z vs∧vs.length=n∧∀j v,vs[j]?=some v→w.cell? (a.add (i*n+j))=some v) (fun i hi=>by
   obtain⟨cs',h1,h2⟩:=hV i zO;obtain⟨z,hr,hlen⟩:=hel _ _ _ h2;obtain⟨_,_,hg⟩:=World.cells?_some h1;refine⟨z,cs',hr,hlen,fun j v hv=>?_⟩;have hj:=(List.getElem?_eq_some_iff.1 hv).1;have:=hg j zO;rw[Go.Deep.add_add] at this;rw[this,hv])
  refine⟨some a,(List.range len).map f,cap,by simp,by simpa using hl,hm,fun k z hz=>?_⟩;have hk:k<len:=by
   have:=(List.getElem?_eq_some_iff.1 hz).1
   simpa using this
  obtain⟨vs0,_,hl0,h0⟩:=hf 0 zO;obtain⟨v0,hv0⟩:=get_of_lt vs0 (k:=0) zO;have ha:a=⟨a.block,a.off,none⟩:=spot_none (by simpa[Addr.add] using h0 0 _ hv0);rw[List.getElem?_map,List.getElem?_range hk] at hz;have hz':f k=z:=by simpa using hz
  obtain⟨vs,h1,_,h2⟩:=hf k hk;rw[hz'] at h1;refine⟨vs,a.block,a.off,h1,by rw[←ha],fun j v hv=>?_⟩;have h6:=h2 j v hv;rw[ha,add_plain] at h6;rw[←h6,Nat.add_assoc]
instance:Inhabited Prb:=⟨⟨0,0,0,0⟩⟩
theorem prb_of {fuel:Nat}{cs:List Value}{x:DataW H×List MemPlace}(h:DataW.trod enc Tryz.prog w base spare held fuel 93 cs=some x):∃z:Prb,cs=prbCells z:=by
 obtain⟨xs,n,_,_,hlen,hxs,hf⟩:=DataW.trod_struct Tryz.underlying93 h;have hc:Tryz.prog.cellsOf 93=4:=zK;rw[hc] at hlen
 match cs,hlen,xs,hxs with
 |[c0,c1,c2,c3],_,[y0,y1,y2,y3],_=>
  have h0:=hf 0 _ rfl;have h1:=hf 1 _ rfl;have h2:=hf 2 _ rfl;have h3:=hf 3 _ rfl;simp only[List.getElem?_cons_zero,List.getElem?_cons_succ] at h0 h1 h2 h3;obtain⟨a0,e0,_,_⟩:=DataW.trod_int Tryz.underlying3 h0;obtain⟨a1,e1,_,_⟩:=DataW.trod_int Tryz.underlying3 h1;obtain⟨a2,e2,_,_⟩:=DataW.trod_int Tryz.underlying3 h2;obtain⟨a3,e3,_,_⟩:=DataW.trod_int Tryz.underlying3 h3;cases e0;cases e1;cases e2;cases e3;exact⟨⟨a0,a1,a2,a3⟩,rfl⟩
theorem prbs_arg {r:Reach}{b0:Nat}{v:Value}{d:DataW H}{ps:List MemPlace}(hv:Value.okWide Tryz.prog w r b0 25 v)(h:DataW.Trod enc Tryz.prog w base spare held 25 v d ps):
 ∃(a:Option Addr) (l:List Prb) (cap:Nat),v = .slice a l.length cap∧PrbsAt w a l∧l.length≤cap∧cap≤maxLen:=by
 obtain⟨a,len,cap,rfl⟩:=okWide_slice Tryz.underlying25 hv;obtain⟨n,hn⟩:=field_of_Trod h rfl;obtain⟨a',l,cap',e,h1,h2,h3⟩:=rows_of (rel:=fun z cs=>cs=prbCells z) Tryz.underlying25 (n:=4) zK zO (fun _ _ _ hx=>by
  obtain⟨z,rfl⟩:=prb_of hx;exact⟨z,rfl,rfl⟩) hn
 rw[List.singleton_inj] at e;exact⟨a',l,cap',e,fun k p hp=>by
  obtain⟨vs,b,o,rfl,h4,h5⟩:=h3 k p hp;exact⟨b,o,h4,h5⟩,h1,h2⟩
instance:Inhabited Opn:=⟨⟨[],[],[],[]⟩⟩
def OpnRel (w:World)(d:Opn)(cs:List Value):Prop:=∃a1 c1 a2 c2 a3 c3 a4 c4,cs=[.slice a1 d.probes.length c1,.slice a2 d.found.length c2,.slice a3 d.tog.length c3,.slice a4 d.apt.length c4]∧Ints w a1 d.probes∧Ints w a2 d.found∧Ints w a3 d.tog∧Ints w a4 d.apt ∧
 d.probes.length≤maxLen∧d.found.length≤maxLen∧d.tog.length≤maxLen∧d.apt.length≤maxLen
theorem opn_of {fuel:Nat}{cs:List Value}{x:DataW H×List MemPlace}(h:DataW.trod enc Tryz.prog w base spare held fuel 53 cs=some x):∃d:Opn,OpnRel w d cs:=by
 obtain⟨xs,n,_,_,hlen,hxs,hf⟩:=DataW.trod_struct Tryz.underlying53 h;have hc:Tryz.prog.cellsOf 53=4:=zK;rw[hc] at hlen
 match cs,hlen,xs,hxs with
 |[c0,c1,c2,c3],_,[y0,y1,y2,y3],_=>
  have h0:=hf 0 _ rfl;have h1:=hf 1 _ rfl;have h2:=hf 2 _ rfl;have h3:=hf 3 _ rfl;simp only[List.getElem?_cons_zero,List.getElem?_cons_succ] at h0 h1 h2 h3;obtain⟨a0,l0,k0,e0,i0,j0,m0⟩:=ints_of h0;obtain⟨a1,l1,k1,e1,i1,j1,m1⟩:=ints_of h1;obtain⟨a2,l2,k2,e2,i2,j2,m2⟩:=ints_of h2;obtain⟨a3,l3,k3,e3,i3,j3,m3⟩:=ints_of h3;cases e0;cases e1;cases e2;cases e3;exact⟨⟨l0,l1,l2,l3⟩,a0,k0,a1,k1,a2,k2,a3,k3,rfl,i0,i1,i2,i3,Nat.le_trans j0 m0,Nat.le_trans j1 m1,Nat.le_trans j2 m2,Nat.le_trans j3 m3⟩
theorem opns_arg {r:Reach}{b0:Nat}{v:Value}{d:DataW H}{ps:List MemPlace}(hv:Value.okWide Tryz.prog w r b0 45 v)(h:DataW.Trod enc Tryz.prog w base spare held 45 v d ps):
 ∃(a:Option Addr) (l:List Opn) (cap:Nat),v = .slice a l.length cap∧OpnsAt w a l∧l.length≤cap∧cap≤maxLen∧∀d∈l,d.probes.length≤maxLen∧d.found.length≤maxLen∧d.tog.length≤maxLen∧d.apt.length≤maxLen:=by
 obtain⟨a,len,cap,rfl⟩:=okWide_slice Tryz.underlying45 hv;obtain⟨n,hn⟩:=field_of_Trod h rfl;obtain⟨a',l,cap',e,h1,h2,h3⟩:=rows_of (rel:=OpnRel w) Tryz.underlying45 (n:=4) zK zO (fun _ _ _ hx=>by
  obtain⟨z,hz⟩:=opn_of hx;refine⟨z,hz,?_⟩;obtain⟨_,_,_,_,_,_,_,_,rfl,_⟩:=hz
  rfl) hn
 rw[List.singleton_inj] at e;refine⟨a',l,cap',e,fun k p hp=>?_,h1,h2,fun d hd=>?_⟩
 ·obtain⟨vs,b,o,⟨a1,c1,a2,c2,a3,c3,a4,c4,rfl,i1,i2,i3,i4,_⟩,h4,h5⟩:=h3 k p hp;exact⟨b,o,a1,c1,a2,c2,a3,c3,a4,c4,h4,h5 0 _ rfl,h5 1 _ rfl,h5 2 _ rfl,h5 3 _ rfl,a1,c1,a2,c2,a3,c3,a4,c4,rfl,i1,i2,i3,i4⟩
 ·obtain⟨k,hk⟩:=List.mem_iff_getElem?.1 hd;obtain⟨vs,b,o,⟨_,_,_,_,_,_,_,_,_,_,_,_,_,h6⟩,_⟩:=h3 k d hk;exact h6
instance:Inhabited Ver:=⟨⟨[],0,[]⟩⟩
def VerRel (w:World)(d:Ver)(cs:List Value):Prop:=∃fa fc ra rc,cs=[.slice fa d.found.length fc,.int .u8 d.ans,.slice ra d.proof.length rc]∧Ints w fa d.found∧BrsAt w ra d.proof∧d.proof.length≤rc∧d.ans<256∧d.found.length≤maxLen∧rc≤maxLen∧∀z∈d.proof,z.kind<256∧z.many.length≤maxLen
theorem ver_of {fuel:Nat}{cs:List Value}{x:DataW H×List MemPlace}(h:DataW.trod enc Tryz.prog w base spare held fuel 102 cs=some x):∃d:Ver,VerRel w d cs:=by
 obtain⟨xs,n,_,_,hlen,hxs,hf⟩:=DataW.trod_struct Tryz.underlying102 h;have hc:Tryz.prog.cellsOf 102=3:=zK;rw[hc] at hlen
 match cs,hlen,xs,hxs with
 |[c0,c1,c2],_,[y0,y1,y2],_=>
  have h0:=hf 0 _ rfl;have h1:=hf 1 _ rfl;have h2:=hf 2 _ rfl;simp only[List.getElem?_cons_zero,List.getElem?_cons_succ] at h0 h1 h2;obtain⟨a0,l0,k0,e0,i0,j0,m0⟩:=ints_of h0;obtain⟨a1,e1,_,w1⟩:=DataW.trod_int Tryz.underlying5 h1;obtain⟨a2,l2,k2,e2,i2,j2,m2,s2⟩:=brs_of h2;have hw:0≤a1∧a1≤255:=by simpa[Lit.wf,IntKind.min,IntKind.max,IntKind.signed,IntKind.bits] using w1
  cases e0;cases e1;cases e2;refine⟨⟨l0,a1.toNat,l2⟩,a0,k0,a2,k2,?_,i0,i2,j2,by simp only;omega,Nat.le_trans j0 m0,m2,s2⟩;simp only[Int.toNat_of_nonneg hw.1]
theorem vers_arg {r:Reach}{b0:Nat}{v:Value}{d:DataW H}{ps:List MemPlace}(hv:Value.okWide Tryz.prog w r b0 70 v)(h:DataW.Trod enc Tryz.prog w base spare held 70 v d ps):
 ∃(a:Option Addr) (l:List Ver) (cap:Nat),v = .slice a l.length cap∧VersAt w a l∧l.length≤cap∧cap≤maxLen∧∀d∈l,d.ans<256∧d.found.length≤maxLen∧d.proof.length≤maxLen∧∀z∈d.proof,z.kind<256∧z.many.length≤maxLen:=by
 obtain⟨a,len,cap,rfl⟩:=okWide_slice Tryz.underlying70 hv;obtain⟨n,hn⟩:=field_of_Trod h rfl;obtain⟨a',l,cap',e,h1,h2,h3⟩:=rows_of (rel:=VerRel w) Tryz.underlying70 (n:=3) zK zO (fun _ _ _ hx=>by
  obtain⟨z,hz⟩:=ver_of hx;refine⟨z,hz,?_⟩;obtain⟨_,_,_,_,rfl,_⟩:=hz
  rfl) hn
 rw[List.singleton_inj] at e;refine⟨a',l,cap',e,fun k p hp=>?_,h1,h2,fun d hd=>?_⟩
 ·obtain⟨vs,b,o,⟨fa,fc,ra,rc,rfl,i1,i2,i3,_⟩,h4,h5⟩:=h3 k p hp;exact⟨b,o,fa,fc,ra,rc,h4,h5 0 _ rfl,h5 1 _ rfl,h5 2 _ rfl,i1,i2,i3⟩
 ·obtain⟨k,hk⟩:=List.mem_iff_getElem?.1 hd;obtain⟨vs,b,o,⟨_,_,_,_,_,_,_,h6,h7,h8,h9,h10⟩,_⟩:=h3 k d hk;exact⟨h7,h8,Nat.le_trans h6 h9,h10⟩
end
end
section
attribute [local go_sem] Oper.semAt_some
def VerOk (v:Ver):Prop:=v.found.length≤20∧v.proof.length≤200∧∀z∈v.proof,z.many.length≤20
def OpnOk (d:Opn):Prop:=d.probes.length≤20∧d.found.length≤20∧d.tog.length≤20∧d.apt.length≤20
def TriedOk (V:List Ver)(D:List Opn):Prop:=(V.length≤70∧∀v∈V,VerOk v)∧D.length≤40∧∀d∈D,OpnOk d
def TriedPost (V:List Ver)(D:List Opn)(w:World)(e:Ending)(w':World):Prop:=(∃b:Bool,e = .returned (.bool b)∧(b=true→TriedOk V D))∧Below w.heap.size w w'
theorem row_four {w:World}{g:Nat}{v1 v2 v3 v4:Value}{t:TypeId}(h:Box w g #[v1,v2,v3,v4] t):Row w (some ⟨g,0,none⟩) [v1,v2,v3,v4]:=fun k v hv=>by
 refine⟨g,0,rfl,?_⟩;rw[h.cell,Nat.zero_add]
 simpa using hv
theorem tried9_any (va:Option Addr)(V:List Ver)(vc:Nat)(hvl:V.length≤maxLen)(hvd:∀v∈V,v.found.length≤maxLen∧v.proof.length≤maxLen∧∀z∈v.proof,z.many.length≤maxLen)(oa:Option Addr)(D:List Opn)(oc:Nat)(hdl:D.length≤maxLen)
 (hdd:∀d∈D,d.probes.length≤maxLen∧d.found.length≤maxLen∧d.tog.length≤maxLen∧d.apt.length≤maxLen) (w:World) (hV:VersAt w va V) (hD:OpnsAt w oa D):
 Calls Tryz.prog 38 #[.slice va V.length vc,.slice oa D.length oc] w (TriedPost V D w):=by
 have HVD:=zh (fun v hv=>(hvd v hv));have HDD:=zh hdd;have HV:=zh hV;have HO:=zh hD;unfold maxLen at hvl hdl;clear hvd hdd hV hD
 go_enter Tryz.func38,Tryz.ntmps38
 go_wp2_with fail
 go_loop [5] (fun i=>∃k:Nat,k≤V.length∧k≤70∧i = .int .i64 k∧Hid (∀(j:Nat) v,j<k→V[j]?=some v→VerOk v)) (fun i=>V.length-(intOf i).toNat)
 case atStart=>exact⟨0,Nat.zero_le _,Nat.zero_le _,rfl,zh (fun j q hj=>absurd hj (Nat.not_lt_zero j))⟩
 case round=>
  obtain⟨k,hk,hk70,rfl,HA⟩:=hrel
  by_cases hlt:k<V.length
  ·have hkn:(k:Int)<(V.length:Int):=by omega
   by_cases h70:k<70
   ·have hk70n:(k:Int)<70:=by omega
    obtain⟨v,hv⟩:=get_of_lt V hlt;obtain⟨b,o,fa,fc,ra,rc,rfl,x1,x2,x3,_,hbr,_⟩:=HV.out k v hv;have hvm:=HVD.out v (List.mem_of_getElem? hv);have HVK:=zh hv;have hm1:=hvm.1;have hm2:=hvm.2.1;have HM3:=zh hvm.2.2;have HBR:=zh hbr;unfold maxLen at hm1 hm2;clear hv hvm hbr x2
    by_cases h200:(200:Int)<(v.proof.length:Int)
    ·go_wp2_with fail
     go_ret
     exact⟨⟨false,rfl,fun h=>by cases h⟩,Below.refl _ _⟩
    ·by_cases h20:(20:Int)<(v.found.length:Int)
     ·go_wp2_with fail
      go_ret
      exact⟨⟨false,rfl,fun h=>by cases h⟩,Below.refl _ _⟩
     ·go_wp2_with fail
      go_loop [6] (fun i=>∃m:Nat,m≤v.proof.length∧i = .int .i64 m∧Hid (∀(j:Nat) z,j<m→v.proof[j]?=some z→z.many.length≤20)) (fun i=>v.proof.length-(intOf i).toNat)
      case atStart=>exact⟨0,Nat.zero_le _,rfl,zh (fun j q hj=>absurd hj (Nat.not_lt_zero j))⟩
      case round=>
       obtain⟨m,hm,rfl,HMA⟩:=hrel
       by_cases hlm:m<v.proof.length
       ·have hmn:(m:Int)<(v.proof.length:Int):=by omega
        obtain⟨z,hz⟩:=get_of_lt v.proof hlm;obtain⟨b2,o2,rfl,ma,mc,y1,y2,y3,y4,_⟩:=HBR.out m z hz;have hzm:=HM3.out z (List.mem_of_getElem? hz);unfold maxLen at hzm;have HZK:=zh hz;clear hz y1 y2 y3
        by_cases hz20:(20:Int)<(z.many.length:Int)
        ·go_wp2_with fail
         go_ret
         exact⟨⟨false,rfl,fun h=>by cases h⟩,Below.refl _ _⟩
        ·go_wp2_with fail
         go_round
         case rel=>exact⟨m+1,zO,zN,zh (fun j y hj hy=>by
          rcases Nat.lt_or_ge j m with h|h
          ·exact HMA.out j y h hy
          ·obtain rfl:j=m:=by omega
           rw[HZK.out] at hy;cases hy
           omega)⟩
         case measure=>exact zJ
       ·have hmn:¬(m:Int)<(v.proof.length:Int):=by omega
        have HOK:=zh (show VerOk v from⟨zO,zO,fun z hz=>by
         obtain⟨j,hj⟩:=List.mem_iff_getElem?.1 hz;have:=(List.getElem?_eq_some_iff.1 hj).1;exact HMA.out j z zO hj⟩)
        go_wp2_with fail
        go_round
        case rel=>exact⟨k+1,zO,zO,zN,zh (fun j y hj hy=>by
         rcases Nat.lt_or_ge j k with h|h
         ·exact HA.out j y h hy
         ·obtain rfl:j=k:=by omega
          rw[HVK.out] at hy;cases hy;exact HOK.out)⟩
        case measure=>exact zJ
   ·have hk70n:¬(k:Int)<70:=by omega
    have HV70:Hid (V.length≤70→∀v∈V,VerOk v):=zh (fun h=>absurd h zO)
    go_wp2_with fail
    go_loopw [7] (fun i wr=>∃k:Nat,k≤D.length∧k≤40∧i = .int .i64 k∧Hid (∀(j:Nat) d,j<k→D[j]?=some d→OpnOk d)∧Below w.heap.size w wr) (fun i _=>D.length-(intOf i).toNat)
    case atStart=>exact⟨0,Nat.zero_le _,Nat.zero_le _,rfl,zh (fun j q hj=>absurd hj (Nat.not_lt_zero j)),Below.refl _ _⟩
    case round=>
     obtain⟨k2,hk2,hk240,rfl,HD,hb⟩:=hrel;have HB:=zh hb;clear hb
     by_cases hlt2:k2<D.length
     ·have hkn2:(k2:Int)<(D.length:Int):=by omega
      by_cases h40:k2<40
      ·have hk40n:(k2:Int)<40:=by omega
       obtain⟨d,hd⟩:=get_of_lt D hlt2
       go_upto_region 14 with fail
       have hbd:Below wr.heap.size wr wr.drew:=(Below.refl _ wr).drew;have hb6:=HB.out.trans (hbd.mono HB.out.size);obtain⟨b,o,a1,c1,a2,c2,a3,c3,a4,c4,rfl,x1,x2,x3,x4,_⟩:=(HO.out.below hb6) k2 d hd;have hdm:=HDD.out d (List.mem_of_getElem? hd);have HDK:=zh hd;have HDM:=zh hdm;have K0:Hid (∀A,Below wr.drew.heap.size wr.drew A→A.cell? ⟨b,o+k2*4,none⟩=some (.slice a1 d.probes.length c1)∧A.cell? ⟨b,o+k2*4+1,none⟩=some (.slice a2 d.found.length c2)∧A.cell? ⟨b,o+k2*4+2,none⟩=some (.slice a3 d.tog.length c3)∧A.cell? ⟨b,o+k2*4+3,none⟩=some (.slice a4 d.apt.length c4)):=zh fun A hA=>⟨below_cell hA x1,below_cell hA x2,below_cell hA x3,below_cell hA x4⟩
       refine wp_region_L (fun A=>Below wr.drew.heap.size wr.drew A) 23 zK ?_;have hSS:Below wr.drew.heap.size wr.drew wr.drew:=Below.refl _ _;have HB6:=zh hb6;clear hd hdm hbd hb6 x1 x2 x3 x4;generalize wr.drew=w6 at *;refine tM K0 0 hSS ?_;refine tM K0 1 hSS ?_;refine tM K0 2 hSS ?_;refine tM K0 3 hSS ?_;refine tM K0 4 hSS ?_;refine tM K0 5 hSS ?_;refine tM K0 6 hSS ?_;refine tM K0 7 hSS ?_;refine tM K0 8 hSS ?_;refine tM K0 9 hSS ?_;refine tM K0 10 hSS ?_;refine tM K0 11 hSS ?_;refine tM K0 12 hSS ?_;refine tM K0 13 hSS ?_;refine tM K0 14 hSS ?_;refine tM K0 15 hSS ?_;refine tM K0 16 hSS ?_;refine tM K0 17 hSS ?_;refine tM K0 18 hSS ?_;refine tM K0 19 hSS ?_
       refine anyL_run (i:=20) (v:=.slice (some ⟨w6.heap.size,0,none⟩) 4 4) (w':=w6.alloc (.cells #[.slice a1 d.probes.length c1,.slice a2 d.found.length c2,.slice a3 d.tog.length c3,.slice a4 d.apt.length c4] 26)) rfl zK (by rfl) (by go_simp) (.inr (by go_grown)) ?_
       try simp only[pZ]
       have hb7:Below w6.heap.size w6 (w6.alloc (.cells #[.slice a1 d.probes.length c1,.slice a2 d.found.length c2,.slice a3 d.tog.length c3,.slice a4 d.apt.length c4] 26)):=by go_grown
       have hrow:=row_four (Box.new w6 #[.slice a1 d.probes.length c1,.slice a2 d.found.length c2,.slice a3 d.tog.length c3,.slice a4 d.apt.length c4] 26);have HSH:=zh (short9_any (some ⟨w6.heap.size,0,none⟩) [(a1,d.probes.length,c1),(a2,d.found.length,c2),(a3,d.tog.length,c3),(a4,d.apt.length,c4)] 4 zS (by have:=HDM.out;simp;omega) _ hrow);have HB7:=zh (HB6.out.trans (hb7.mono HB6.out.size));have HS7:=zh hb7;clear hb7 hrow hSS;generalize w6.alloc (.cells #[.slice a1 d.probes.length c1,.slice a2 d.found.length c2,.slice a3 d.tog.length c3,.slice a4 d.apt.length c4] 26)=w7 at *
       rcases hsh:shortB [(a1,d.probes.length,c1),(a2,d.found.length,c2),(a3,d.tog.length,c3),(a4,d.apt.length,c4)] with _|_
       ·rw[hsh] at HSH;clear hsh;refine anyL_call (i:=21) (f:=14) (args:=#[.slice (some ⟨w6.heap.size,0,none⟩) 4 4]) rfl zK (by rfl) (by go_simp) HSH.out ?_;rintro e8 w8 ⟨rfl,rfl⟩;refine .inl ⟨_,rfl,.inr HS7.out,?_⟩
        try simp only[pZ]
        have hSS:=HS7.out;refine tM K0 22 hSS ?_;refine anyL_done zK ?_ _;clear hSS K0
        go_wp2_with fail
        go_ret
        exact⟨⟨false,rfl,fun h=>by cases h⟩,HB7.out⟩
       ·rw[hsh] at HSH;have HOK:=zh (show OpnOk d by simpa[shortB,OpnOk] using hsh);clear hsh;refine anyL_call (i:=21) (f:=14) (args:=#[.slice (some ⟨w6.heap.size,0,none⟩) 4 4]) rfl zK (by rfl) (by go_simp) HSH.out ?_;rintro e8 w8 ⟨rfl,rfl⟩;refine .inl ⟨_,rfl,.inr HS7.out,?_⟩
        try simp only[pZ]
        have hSS:=HS7.out;refine tM K0 22 hSS ?_;refine anyL_done zK ?_ _;clear hSS K0
        go_wp2_with fail
        go_roundw
        case rel=>exact⟨k2+1,zO,zO,zN,zh (fun j y hj hy=>by
         rcases Nat.lt_or_ge j k2 with h|h
         ·exact HD.out j y h hy
         ·obtain rfl:j=k2:=by omega
          rw[HDK.out] at hy;cases hy;exact HOK.out),HB7.out⟩
        case measure=>exact zJ
      ·have hk40n:¬(k2:Int)<40:=by omega
       have hd40:¬(D.length:Int)≤40:=by omega
       by_cases hv70:(V.length:Int)≤70
       ·go_wp2_with fail
        go_ret
        exact⟨⟨false,rfl,fun h=>by cases h⟩,HB.out⟩
       ·go_wp2_with fail
        go_ret
        exact⟨⟨false,rfl,fun h=>by cases h⟩,HB.out⟩
     ·have hkn2:¬(k2:Int)<(D.length:Int):=by omega
      by_cases hv70:(V.length:Int)≤70
      ·have hd40:(D.length:Int)≤40:=by omega
       go_wp2_with fail
       go_ret
       refine⟨⟨true,rfl,fun _=>⟨⟨zO,HV70.out zO⟩,zO,fun d hd=>?_⟩⟩,HB.out⟩;obtain⟨j,hj⟩:=List.mem_iff_getElem?.1 hd;have:=(List.getElem?_eq_some_iff.1 hj).1;exact HD.out j d zO hj
      ·go_wp2_with fail
       go_ret
       exact⟨⟨false,rfl,fun h=>by cases h⟩,HB.out⟩
  ·have hkn:¬(k:Int)<(V.length:Int):=by omega
   have HV70:Hid (V.length≤70→∀v∈V,VerOk v):=zh (fun _ v hv=>by
    obtain⟨j,hj⟩:=List.mem_iff_getElem?.1 hv;have:=(List.getElem?_eq_some_iff.1 hj).1;exact HA.out j v zO hj)
   go_wp2_with fail
   go_loopw [7] (fun i wr=>∃k:Nat,k≤D.length∧k≤40∧i = .int .i64 k∧Hid (∀(j:Nat) d,j<k→D[j]?=some d→OpnOk d)∧Below w.heap.size w wr) (fun i _=>D.length-(intOf i).toNat)
   case atStart=>exact⟨0,Nat.zero_le _,Nat.zero_le _,rfl,zh (fun j q hj=>absurd hj (Nat.not_lt_zero j)),Below.refl _ _⟩
   case round=>
    obtain⟨k2,hk2,hk240,rfl,HD,hb⟩:=hrel;have HB:=zh hb;clear hb
    by_cases hlt2:k2<D.length
    ·have hkn2:(k2:Int)<(D.length:Int):=by omega
     by_cases h40:k2<40
     ·have hk40n:(k2:Int)<40:=by omega
      obtain⟨d,hd⟩:=get_of_lt D hlt2
      go_upto_region 14 with fail
      have hbd:Below wr.heap.size wr wr.drew:=(Below.refl _ wr).drew;have hb6:=HB.out.trans (hbd.mono HB.out.size);obtain⟨b,o,a1,c1,a2,c2,a3,c3,a4,c4,rfl,x1,x2,x3,x4,_⟩:=(HO.out.below hb6) k2 d hd;have hdm:=HDD.out d (List.mem_of_getElem? hd);have HDK:=zh hd;have HDM:=zh hdm;have K0:Hid (∀A,Below wr.drew.heap.size wr.drew A→A.cell? ⟨b,o+k2*4,none⟩=some (.slice a1 d.probes.length c1)∧A.cell? ⟨b,o+k2*4+1,none⟩=some (.slice a2 d.found.length c2)∧A.cell? ⟨b,o+k2*4+2,none⟩=some (.slice a3 d.tog.length c3)∧A.cell? ⟨b,o+k2*4+3,none⟩=some (.slice a4 d.apt.length c4)):=zh fun A hA=>⟨below_cell hA x1,below_cell hA x2,below_cell hA x3,below_cell hA x4⟩
      refine wp_region_L (fun A=>Below wr.drew.heap.size wr.drew A) 23 zK ?_;have hSS:Below wr.drew.heap.size wr.drew wr.drew:=Below.refl _ _;have HB6:=zh hb6;clear hd hdm hbd hb6 x1 x2 x3 x4;generalize wr.drew=w6 at *;refine tM K0 0 hSS ?_;refine tM K0 1 hSS ?_;refine tM K0 2 hSS ?_;refine tM K0 3 hSS ?_;refine tM K0 4 hSS ?_;refine tM K0 5 hSS ?_;refine tM K0 6 hSS ?_;refine tM K0 7 hSS ?_;refine tM K0 8 hSS ?_;refine tM K0 9 hSS ?_;refine tM K0 10 hSS ?_;refine tM K0 11 hSS ?_;refine tM K0 12 hSS ?_;refine tM K0 13 hSS ?_;refine tM K0 14 hSS ?_;refine tM K0 15 hSS ?_;refine tM K0 16 hSS ?_;refine tM K0 17 hSS ?_;refine tM K0 18 hSS ?_;refine tM K0 19 hSS ?_
      refine anyL_run (i:=20) (v:=.slice (some ⟨w6.heap.size,0,none⟩) 4 4) (w':=w6.alloc (.cells #[.slice a1 d.probes.length c1,.slice a2 d.found.length c2,.slice a3 d.tog.length c3,.slice a4 d.apt.length c4] 26)) rfl zK (by rfl) (by go_simp) (.inr (by go_grown)) ?_
      try simp only[pZ]
      have hb7:Below w6.heap.size w6 (w6.alloc (.cells #[.slice a1 d.probes.length c1,.slice a2 d.found.length c2,.slice a3 d.tog.length c3,.slice a4 d.apt.length c4] 26)):=by go_grown
      have hrow:=row_four (Box.new w6 #[.slice a1 d.probes.length c1,.slice a2 d.found.length c2,.slice a3 d.tog.length c3,.slice a4 d.apt.length c4] 26);have HSH:=zh (short9_any (some ⟨w6.heap.size,0,none⟩) [(a1,d.probes.length,c1),(a2,d.found.length,c2),(a3,d.tog.length,c3),(a4,d.apt.length,c4)] 4 zS (by have:=HDM.out;simp;omega) _ hrow);have HB7:=zh (HB6.out.trans (hb7.mono HB6.out.size));have HS7:=zh hb7;clear hb7 hrow hSS;generalize w6.alloc (.cells #[.slice a1 d.probes.length c1,.slice a2 d.found.length c2,.slice a3 d.tog.length c3,.slice a4 d.apt.length c4] 26)=w7 at *
      rcases hsh:shortB [(a1,d.probes.length,c1),(a2,d.found.length,c2),(a3,d.tog.length,c3),(a4,d.apt.length,c4)] with _|_
      ·rw[hsh] at HSH;clear hsh;refine anyL_call (i:=21) (f:=14) (args:=#[.slice (some ⟨w6.heap.size,0,none⟩) 4 4]) rfl zK (by rfl) (by go_simp) HSH.out ?_;rintro e8 w8 ⟨rfl,rfl⟩;refine .inl ⟨_,rfl,.inr HS7.out,?_⟩
       try simp only[pZ]
       have hSS:=HS7.out;refine tM K0 22 hSS ?_;refine anyL_done zK ?_ _;clear hSS K0
       go_wp2_with fail
       go_ret
       exact⟨⟨false,rfl,fun h=>by cases h⟩,HB7.out⟩
      ·rw[hsh] at HSH;have HOK:=zh (show OpnOk d by simpa[shortB,OpnOk] using hsh);clear hsh;refine anyL_call (i:=21) (f:=14) (args:=#[.slice (some ⟨w6.heap.size,0,none⟩) 4 4]) rfl zK (by rfl) (by go_simp) HSH.out ?_;rintro e8 w8 ⟨rfl,rfl⟩;refine .inl ⟨_,rfl,.inr HS7.out,?_⟩
       try simp only[pZ]
       have hSS:=HS7.out;refine tM K0 22 hSS ?_;refine anyL_done zK ?_ _;clear hSS K0
       go_wp2_with fail
       go_roundw
       case rel=>exact⟨k2+1,zO,zO,zN,zh (fun j y hj hy=>by
        rcases Nat.lt_or_ge j k2 with h|h
        ·exact HD.out j y h hy
        ·obtain rfl:j=k2:=by omega
         rw[HDK.out] at hy;cases hy;exact HOK.out),HB7.out⟩
       case measure=>exact zJ
     ·have hk40n:¬(k2:Int)<40:=by omega
      have hd40:¬(D.length:Int)≤40:=by omega
      by_cases hv70:(V.length:Int)≤70
      ·go_wp2_with fail
       go_ret
       exact⟨⟨false,rfl,fun h=>by cases h⟩,HB.out⟩
      ·go_wp2_with fail
       go_ret
       exact⟨⟨false,rfl,fun h=>by cases h⟩,HB.out⟩
    ·have hkn2:¬(k2:Int)<(D.length:Int):=by omega
     by_cases hv70:(V.length:Int)≤70
     ·have hd40:(D.length:Int)≤40:=by omega
      go_wp2_with fail
      go_ret
      refine⟨⟨true,rfl,fun _=>⟨⟨zO,HV70.out zO⟩,zO,fun d hd=>?_⟩⟩,HB.out⟩;obtain⟨j,hj⟩:=List.mem_iff_getElem?.1 hd;have:=(List.getElem?_eq_some_iff.1 hj).1;exact HD.out j d zO hj
     ·go_wp2_with fail
      go_ret
      exact⟨⟨false,rfl,fun h=>by cases h⟩,HB.out⟩
theorem best1_any (v:Value)(w:World):Calls Tryz.prog 95 #[v] w (NeedPost true w):=by
 go_enter Tryz.func95,Tryz.ntmps95
 go_wp2_with fail
 go_end0
 exact needPost_ok rfl (Below.refl _ _)
theorem results_cctt {P:Program}{fn:Func}{t u x y:Tmp}{ty tu:TypeId}(h:fn.results = #[.cell t ty,.cell u tu,.tmp x,.tmp y]){tmps:Array Value}{w:World}{p q:Addr}{v1 v2:Value}(hp:tmps.getD t undef = .pointer (some p))(hq:tmps.getD u undef = .pointer (some q))
 (h1:(loadVar ty p).run P w = .ok v1 w) (h2:(loadVar tu q).run P w = .ok v2 w):(results fn tmps).run P w = .ok (.tuple #[v1,v2,tmps.getD x undef,tmps.getD y undef]) w:=by
 have hp':tmps[t]?.getD undef = .pointer (some p):=by simpa using hp
 have hq':tmps[u]?.getD undef = .pointer (some q):=by simpa using hq
 simp[results,h,hp',hq',asAddr,h1,h2]
theorem pair_size9:(Tryz.prog.info? 57).map (·.size)=some 2:=zK
def BestX (c:Cs)(l:List Prb)(w:World)(e:Ending)(w':World):Prop:=Below w.heap.size w w'∧(((xErr c l true≠0∨bestOf c l=none)∧e = .returned (.tuple #[.agg #[.int .i64 0,.int .i64 0],.agg #[.slice none 0 0,.int .i64 0],.bool false,.int .i64 (xErr c l true)])) ∨
 ∃z:ChoE,xErr c l true=0∧bestOf c l=some z.d∧z.Ok l w'∧e = .returned (.tuple #[.agg #[.int .i64 (z.p1:Int),.int .i64 (z.p2:Int)],.agg #[.slice z.sa z.s.length z.sc,.int .i64 z.n],.bool true,.int .i64 0]))
theorem bestX_any (c:Cs)(hsm:c.Small)(pa:Option Addr)(pc:Nat)(l:List Prb)(qa:Option Addr)(qc:Nat)(w:World)(hp:PartsAt w pa c.parts)(hq:PrbsAt w qa l):
 Calls Tryz.prog 31 #[.agg #[.string c.ware,.int .i64 c.limit,.int .i64 c.by_,.slice pa c.parts.length pc],.slice qa l.length qc] w (BestX c l w):=by
 have hmf:=run_mf Tryz.prog;obtain⟨w4,hw4⟩:=zx ((((w.alloc (.cells #[.string c.ware,.int .i64 c.limit,.int .i64 c.by_,.slice pa c.parts.length pc] 24)).alloc (.cells #[.int .i64 0,.int .i64 0] 57)).alloc (.cells #[.slice none 0 0,.int .i64 0] 42)).alloc (.cells #[.slice none 0 0] 129));have hB4:Below w.heap.size w w4:=by rw[←hw4];go_grown
 have hs4:w4.heap.size=w.heap.size+4:=by rw[←hw4];simp
 have b0:Box w4 w.heap.size (csCells c pa pc) 24:=by rw[←hw4];exact(((Box.new _ _ _).alloc _).alloc _).alloc _
 have b1:Box w4 (w.heap.size+1) #[.int .i64 0,.int .i64 0] 57:=by rw[←hw4];exact((Box.new' zS).alloc _).alloc _
 have b2:Box w4 (w.heap.size+2) #[.slice none 0 0,.int .i64 0] 42:=by rw[←hw4];exact(Box.new' zS).alloc _
 have b3:Box w4 (w.heap.size+3) #[.slice none 0 0] 129:=by rw[←hw4];exact Box.new' zS
 have hask:=asked9_any c hsm pa pc l qa qc 95 #[] 96 #[.pointer (some ⟨w.heap.size,0,none⟩),.pointer (some ⟨w.heap.size+3,0,none⟩)] true
  (fun er W'=>er=0∧Below w.heap.size w W'∧Box W' (w.heap.size+1) #[.int .i64 0,.int .i64 0] 57∧Box W' (w.heap.size+2) #[.slice none 0 0,.int .i64 0] 42∧∃v zs,Box W' (w.heap.size+3) #[v] 129∧ChosO l (w.heap.size+4) W' v zs∧zs.map ChoE.d=chosOf c l∧(openOf c).length≤100000) w4 (hp.below hB4) (hq.below hB4)
  (fun hpr=>⟨fun args W=>by simp[go_sem],fun W t hW ht hlab=>best1_any _ W⟩)
  (fun hpr hok hne=>⟨fun args W=>by simp[go_sem],fun W t hW ht hlab=>by
   have h4:=hB4.size;have h5:=hW.size;refine(best2_any (t:=t) (pa:=pa) (pc:=pc) (qa:=qa) (qc:=qc) hsm hpr hne w.heap.size W (w.heap.size+3) (fun W' hk=>by
    have hbw:Below w.heap.size w W':=(hB4.trans (hW.mono h4)).trans ((hk.mono fun k (hk:k<w.heap.size)=>by omega).below zO);exact⟨hk.heap zO hlab.box,hp.below hbw,hq.below hbw⟩) (b0.below' hW) (b3.below' hW)).mono ?_
   rintro e W' ⟨rfl,hk,v,zs,hb1,hco,hzs⟩;have hz:=ask_nil (probes_ok hpr).1 hne;refine⟨0,rfl,rfl,(hB4.trans (hW.mono h4)).trans ((hk.mono fun k (hk:k<w.heap.size)=>by omega).below zO),hk.heap zO (b1.below' hW),hk.heap zO (b2.below' hW),v,zs,hb1,⟨⟨hco.1.1,?_⟩,fun z hz W2 hW2=>hco.2 z hz W2 (hW2.mono fun k ⟨q1,q2⟩=>⟨zO,q2⟩)⟩,hzs,openOf_len c (check_small (ask_open hz))⟩
   rcases hco.1.2 with h0|⟨g',cap,cur,q1,q2,q3,q4⟩
   ·exact .inl h0
   ·exact .inr ⟨g',cap,cur,q1,zO,q3,q4⟩⟩)
 have HA:=zh hask;have HW:=zh hw4;have HB4:=zh hB4;have H1:=zh b1;have H2:=zh b2;have e0:=zC (b0);clear hask hw4 hB4 b0 b1 b2 b3 hp hq hs4
 go_enter Tryz.func31,Tryz.ntmps31
 go_upto_region 2 with fail
 simp only[HW.out]
 go_wp2_with fail
 refine zM HA ?_;rintro e w5 hpost;obtain⟨er,rfl,(⟨h1,h2,hb5⟩|⟨h1,rfl,hb5,hx1,hx2,v,zs,hx3,hco,hzs,hol⟩)⟩:=ask_cases hpost
 ·have HB5:=zh (HB4.out.trans (hb5.mono HB4.out.size));have HX1:=zh (H1.out.below' hb5);have HX2:=zh (H2.out.below' hb5);have hne:(er != 0)=true:=by simpa using(h2▸h1)
  have HE:=zh (And.intro h1 h2);obtain⟨y1,y2⟩:=HX1.out.rules;obtain⟨z1,z2⟩:=HX2.out.rules;clear hpost hb5 e0 h1 h2 HA H1 H2
  go_wp2_with fail
  refine bodyPost_ret (results_cctt rfl rfl rfl (run_loadVar_row _ _ 57 57 _ (0,0) _ ((((HX1.out.set_ 0 _).set_ 1 _).far zS _).far zS _) Tryz.underlying57 rfl pair_size9) (run_loadVar_row _ _ 42 42 _ (0,0) _ ((((HX2.out.far zS _).far zS _).set_ 0 _).set_ 1 _) Tryz.underlying42 rfl plan_size)) rfl ?_;refine⟨(((HB5.out.setCell zS _).setCell zS _).setCell zT _).setCell zT _,.inl ⟨.inl HE.out.1,?_⟩⟩;rw[←HE.out.2]
  rfl
 ·have hzl:zs.length≤100000:=by
   have h2:=congrArg List.length hzs;rw[List.length_map] at h2;have h3:=List.length_filterMap_le (choF c l) (openOf c);unfold chosOf at h2
   omega
  have HCO:=zh hco.2;obtain⟨av,cv,rfl,hat,_⟩:=hco.at_;have HL:=zh (leastC_any l zs av cv w5 hat hzl);have HB5:=zh hb5;have HX1:=zh hx1;have HX2:=zh hx2;have HXE:=zh h1;have HZS:=zh (show leastD l (zs.map ChoE.d)=bestOf c l by rw[hzs];rfl);have e8:=hx3.cell;clear hpost hb5 e0 h1 HA H1 H2 hx1 hx2 hx3 hco hzs hat hol
  go_wp2_with fail
  refine zM HL ?_;rintro e w6 ⟨hb6,hcase⟩;rw[HZS.out] at hcase;have huni:∃(u1 u2:Int) (u3:Option Addr) (u4 u5:Nat) (u6:Int) (fd:Bool),e = .returned (.tuple #[.agg #[.int .i64 u1,.int .i64 u2,.slice u3 u4 u5,.int .i64 u6],.bool fd])∧((bestOf c l=none∧fd=false∧u1=0∧u2=0∧u3=none∧u4=0∧u5=0∧u6=0) ∨
   ∃z:ChoE,bestOf c l=some z.d∧z∈zs∧fd=true∧u1=z.p1∧u2=z.p2∧u3=z.sa∧u4=z.s.length∧u5=z.sc∧u6=z.n):=by
   rcases hcase with ⟨q1,rfl⟩|⟨z,q2,q1,_,rfl⟩
   ·exact⟨_,_,_,_,_,_,_,rfl,.inl ⟨q1,rfl,rfl,rfl,rfl,rfl,rfl,rfl⟩⟩
   ·exact⟨_,_,_,_,_,_,_,rfl,.inr ⟨z,q1,q2,rfl,rfl,rfl,rfl,rfl,rfl,rfl⟩⟩
  obtain⟨u1,u2,u3,u4,u5,u6,fd,rfl,hd⟩:=huni;obtain⟨w7,hw7⟩:=zx (w6.alloc (.cells #[.int .i64 u1,.int .i64 u2,.slice u3 u4 u5,.int .i64 u6] 131));have hB7:Below w6.heap.size w6 w7:=by rw[←hw7];go_grown
  have b7:Box w7 w6.heap.size #[.int .i64 u1,.int .i64 u2,.slice u3 u4 u5,.int .i64 u6] 131:=by rw[←hw7];exact Box.new _ _ _
  have HW7:=zh hw7;have hb67:=hb6.trans (hB7.mono hb6.size);have HB7:=zh (HB5.out.trans (hb67.mono HB5.out.size));have HY1:=zh (HX1.out.below' hb67);have HY2:=zh (HX2.out.below' hb67);have HD:=zh hd;have HOKB:=zh hb67;have hsz:w.heap.size+4≤w6.heap.size:=by
   have h1:=hb6.size;have h2:=HX2.out.lt;have h3:=lt_of_cell (w:=w5) (b:=w.heap.size+3) (o:=0) (e8 0)
   omega
  clear hw7 hB7 hb67 hcase hd e8 HL HX1 HX2
  go_upto_region 6 with fail
  simp only[HW7.out];have K0:Hid (∀A,Box A w6.heap.size #[.int .i64 u1,.int .i64 u2,.slice u3 u4 u5,.int .i64 u6] 131→(∀j,A.cell? ⟨w6.heap.size,j,none⟩=(#[.int .i64 u1,.int .i64 u2,.slice u3 u4 u5,.int .i64 u6]:Array Value)[j]?)):=zh fun A hA=>hA.cell
  refine wp_region_L (fun A=>Box A w6.heap.size #[.int .i64 u1,.int .i64 u2,.slice u3 u4 u5,.int .i64 u6] 131) 9 zK ?_;have hbd:Below w7.heap.size w7 w7.drew:=(Below.refl _ w7).drew;have hSS:=b7.below' hbd;have h1d:=HY1.out.below' hbd;have h2d:=HY2.out.below' hbd;have hBd:=HB7.out.trans (hbd.mono HB7.out.size);have hOd:=HOKB.out.trans (hbd.mono HOKB.out.size);clear hbd b7;generalize w7.drew=w8 at *;refine tM K0 0 hSS ?_;refine tM K0 1 hSS ?_;refine tM K0 2 hSS ?_;refine tM K0 3 hSS ?_;refine tM K0 4 hSS ?_;obtain⟨z1,z2⟩:=h1d.rules;refine anyL_skip (i:=5) (w':=(w8.setCell ⟨w.heap.size+1,0,none⟩ (.int .i64 u1)).setCell ⟨w.heap.size+1,1,none⟩ (.int .i64 u2)) rfl zK (by rfl) ?_ (.inr ((hSS.far zT _).far zT _)) ?_
  ·go_simp
   try with_reducible rfl
  try simp only[pZ]
  have hS9:Box ((w8.setCell ⟨w.heap.size+1,0,none⟩ (.int .i64 u1)).setCell ⟨w.heap.size+1,1,none⟩ (.int .i64 u2)) w6.heap.size #[.int .i64 u1,.int .i64 u2,.slice u3 u4 u5,.int .i64 u6] 131:=(hSS.far zT _).far zT _;have h19:Box ((w8.setCell ⟨w.heap.size+1,0,none⟩ (.int .i64 u1)).setCell ⟨w.heap.size+1,1,none⟩ (.int .i64 u2)) (w.heap.size+1) #[.int .i64 u1,.int .i64 u2] 57:=(h1d.set_ 0 _).set_ 1 _;have h29:Box ((w8.setCell ⟨w.heap.size+1,0,none⟩ (.int .i64 u1)).setCell ⟨w.heap.size+1,1,none⟩ (.int .i64 u2)) (w.heap.size+2) #[.slice none 0 0,.int .i64 0] 42:=(h2d.far zS _).far zS _;have hB9:Below w.heap.size w ((w8.setCell ⟨w.heap.size+1,0,none⟩ (.int .i64 u1)).setCell ⟨w.heap.size+1,1,none⟩ (.int .i64 u2)):=(hBd.setCell zS _).setCell zS _
  have hO9:Keep (fun k=>w.heap.size+4≤k) w5 ((w8.setCell ⟨w.heap.size+1,0,none⟩ (.int .i64 u1)).setCell ⟨w.heap.size+1,1,none⟩ (.int .i64 u2)):=((Keep.of_below' hOd).setCell (.inl zS) _).setCell (.inl zS) _;clear hSS h1d h2d hBd hOd z1 z2;generalize (w8.setCell ⟨w.heap.size+1,0,none⟩ (.int .i64 u1)).setCell ⟨w.heap.size+1,1,none⟩ (.int .i64 u2)=w9 at *;obtain⟨z1,z2⟩:=h29.rules;have hS10:Box ((w9.setCell ⟨w.heap.size+2,0,none⟩ (.slice u3 u4 u5)).setCell ⟨w.heap.size+2,1,none⟩ (.int .i64 u6)) w6.heap.size #[.int .i64 u1,.int .i64 u2,.slice u3 u4 u5,.int .i64 u6] 131:=(hS9.far zT _).far zT _;refine anyL_skip (i:=6) (w':=(w9.setCell ⟨w.heap.size+2,0,none⟩ (.slice u3 u4 u5)).setCell ⟨w.heap.size+2,1,none⟩ (.int .i64 u6)) rfl zK (by rfl) ?_ (.inr hS10) ?_
  ·go_simp
   try with_reducible rfl
  try simp only[pZ]
  have h110:Box ((w9.setCell ⟨w.heap.size+2,0,none⟩ (.slice u3 u4 u5)).setCell ⟨w.heap.size+2,1,none⟩ (.int .i64 u6)) (w.heap.size+1) #[.int .i64 u1,.int .i64 u2] 57:=(h19.far zS _).far zS _;have h210:Box ((w9.setCell ⟨w.heap.size+2,0,none⟩ (.slice u3 u4 u5)).setCell ⟨w.heap.size+2,1,none⟩ (.int .i64 u6)) (w.heap.size+2) #[.slice u3 u4 u5,.int .i64 u6] 42:=(h29.set_ 0 _).set_ 1 _;have hB10:Below w.heap.size w ((w9.setCell ⟨w.heap.size+2,0,none⟩ (.slice u3 u4 u5)).setCell ⟨w.heap.size+2,1,none⟩ (.int .i64 u6)):=(hB9.setCell zS _).setCell zS _;have hO10:Keep (fun k=>w.heap.size+4≤k) w5 ((w9.setCell ⟨w.heap.size+2,0,none⟩ (.slice u3 u4 u5)).setCell ⟨w.heap.size+2,1,none⟩ (.int .i64 u6)):=(hO9.setCell (.inl zS) _).setCell (.inl zS) _;clear hS9 h19 h29 hB9 hO9 z1 z2
  generalize (w9.setCell ⟨w.heap.size+2,0,none⟩ (.slice u3 u4 u5)).setCell ⟨w.heap.size+2,1,none⟩ (.int .i64 u6)=wa at *;refine anyL_run (i:=7) (v:=.bool fd) (w':=wa) rfl zK (by rfl) (by go_simp) (.inr hS10) ?_
  try simp only[pZ]
  refine anyL_run (i:=8) (v:=.int .i64 0) (w':=wa) rfl zK (by rfl) (by go_simp) (.inr hS10) ?_
  try simp only[pZ]
  refine anyL_done zK ?_ _;have HA1:=zh h110;have HA2:=zh h210;have HAB:=zh hB10;have HAO:=zh hO10;clear h110 h210 hB10 hO10 hS10 K0
  go_wp2_with fail
  refine bodyPost_ret (results_cctt rfl rfl rfl (run_loadVar_row _ _ 57 57 _ (0,0) _ HA1.out Tryz.underlying57 rfl pair_size9) (run_loadVar_row _ _ 42 42 _ (0,0) _ HA2.out Tryz.underlying42 rfl plan_size)) rfl ?_;refine⟨HAB.out,?_⟩
  rcases HD.out with ⟨q1,rfl,rfl,rfl,rfl,rfl,rfl,rfl⟩|⟨z,q1,q2,rfl,rfl,rfl,rfl,rfl,rfl,rfl⟩
  ·refine .inl ⟨.inr q1,?_⟩;rw[HXE.out]
   rfl
  ·exact .inr ⟨z,HXE.out,q1,HCO.out z q2 wa (HAO.out.mono fun k hk=>hk.1),rfl⟩
end
section
theorem lit_ints9 {w:World}{g:Nat}{l:List Int}{t:TypeId}(h:Box w g (l.map (Value.int .i64)).toArray t):Ints w (some ⟨g,0,none⟩) l:=fun k v hv=>by
 refine⟨g,0,rfl,?_⟩;rw[h.cell,Nat.zero_add]
 simpa using hv
theorem lit_row9 {w:World}{g:Nat}{cs:Array Value}{t:TypeId}(h:Box w g cs t):Row w (some ⟨g,0,none⟩) cs.toList:=fun k v hv=>by
 refine⟨g,0,rfl,?_⟩;rw[h.cell,Nat.zero_add]
 simpa using hv
theorem same_lit9 (l:List Int)(hl:l.length≤1000000)(a b:Option Addr)(ca cb:Nat)(w:World)(ha:Ints w a l)(hb:Ints w b l):Calls Tryz.prog 30 #[.slice a l.length ca,.slice b l.length cb] w fun e w'=>e = .returned (.bool true)∧Below w.heap.size w w':=
 (same_ref a b ca cb l l w ha hb hl hl).mono (by rintro e w' ⟨rfl,h⟩;exact⟨by simp,h⟩)
theorem pairs_lit9 (l:List (Nat×Nat))(hl:l.length≤1000000)(a b:Option Addr)(ca cb:Nat)(w:World)(ha:Row w a (pairCells l))(hb:Row w b (pairCells l)):Calls Tryz.prog 23 #[.slice a l.length ca,.slice b l.length cb] w fun e w'=>e = .returned (.bool true)∧Below w.heap.size w w':=
 (samePairs_ref a b ca cb l l w ha hb hl hl).mono (by rintro e w' ⟨rfl,h⟩;exact⟨by simp,h⟩)
theorem same_two9 {a b:Option Addr}{ca cb:Nat}{w:World}(ha:Ints w a [0,2])(hb:Ints w b [0,2]):Calls Tryz.prog 30 #[.slice a 2 ca,.slice b 2 cb] w fun e w'=>e = .returned (.bool true)∧Below w.heap.size w w':=same_lit9 [0,2] zS a b ca cb w ha hb
theorem pairs_two9 {a b:Option Addr}{ca cb:Nat}{w:World}(ha:Row w a (pairCells [(0,1),(1,2)]))(hb:Row w b (pairCells [(0,1),(1,2)])):Calls Tryz.prog 23 #[.slice a 2 ca,.slice b 2 cb] w fun e w'=>e = .returned (.bool true)∧Below w.heap.size w w':=pairs_lit9 [(0,1),(1,2)] zS a b ca cb w ha hb
theorem vers_lit {w:World}{g1 g2 g3 g4 g5 g6:Nat}{t1 t2 t3 t4 t5 t6:TypeId}(h1:Box w g1 #[.int .i64 0] t1)(h2:Box w g2 #[.int .i64 0,.int .i64 1,.int .i64 2] t2)(h3:Box w g3 #[.int .u8 4,.int .i64 0,.int .i64 0,.slice (some ⟨g2,0,none⟩) 3 3] t3)
 (h4:Box w g4 #[.int .i64 1] t4) (h5:Box w g5 #[.int .u8 2,.int .i64 0,.int .i64 1,.slice none 0 0] t5)
 (h6:Box w g6 #[.slice (some ⟨g1,0,none⟩) 1 1,.int .u8 1,.slice (some ⟨g3,0,none⟩) 1 1,.slice (some ⟨g4,0,none⟩) 1 1,.int .u8 2,.slice (some ⟨g5,0,none⟩) 1 1] t6):VersAt w (some ⟨g6,0,none⟩) bellVs:=by
 have b1:BrsAt w (some ⟨g3,0,none⟩) [⟨4,0,0,[0,1,2]⟩]:=by
  intro k x hx
  match k,hx with
  |0,hx=>
   cases hx;exact⟨g3,0,rfl,some ⟨g2,0,none⟩,3,by rw[h3.cell];rfl,by rw[h3.cell];rfl,by rw[h3.cell];rfl,by rw[h3.cell];rfl,lit_ints9 (l:=[0,1,2]) h2,Nat.le_refl _⟩
  |k+1,hx=>simp at hx
 have b2:BrsAt w (some ⟨g5,0,none⟩) [⟨2,0,1,[]⟩]:=by
  intro k x hx
  match k,hx with
  |0,hx=>
   cases hx;exact⟨g5,0,rfl,none,0,by rw[h5.cell];rfl,by rw[h5.cell];rfl,by rw[h5.cell];rfl,by rw[h5.cell];rfl,Ints.nil _ _,Nat.le_refl _⟩
  |k+1,hx=>simp at hx
 intro k v hv
 match k,hv with
 |0,hv=>
  cases hv;exact⟨g6,0,some ⟨g1,0,none⟩,1,some ⟨g3,0,none⟩,1,rfl,by rw[h6.cell];rfl,by rw[h6.cell];rfl,by rw[h6.cell];rfl,lit_ints9 (l:=[0]) h1,b1,Nat.le_refl _⟩
 |1,hv=>
  cases hv;exact⟨g6,0,some ⟨g4,0,none⟩,1,some ⟨g5,0,none⟩,1,rfl,by rw[h6.cell];rfl,by rw[h6.cell];rfl,by rw[h6.cell];rfl,lit_ints9 (l:=[1]) h4,b2,Nat.le_refl _⟩
 |k+2,hv=>simp[bellVs] at hv
def bArg (pa:Option Addr)(pc:Nat):Value:=.agg #[.string bellC.ware,.int .i64 bellC.limit,.int .i64 bellC.by_,.slice pa bellC.parts.length pc]
def rArg (qa:Option Addr)(qc:Nat):Value:=.slice qa rodsL.length qc
theorem b_err {ok:Bool}(h:ok=true):xErr bellC rodsL ok=0:=xErr_ok b_probes h b_all
section
variable {w:World}{pa:Option Addr}{pc:Nat}{qa:Option Addr}{qc:Nat}
theorem s_cheap (hp:PartsAt w pa bellC.parts)(hq:PrbsAt w qa rodsL):Calls Tryz.prog 24 #[bArg pa pc,rArg qa qc,.int .i64 0,.int .i64 1] w fun e w'=>∃ra rc,e = .returned (.tuple #[.agg #[.slice ra 1 rc,.int .i64 5],.bool true,.int .i64 0])∧Ints w' ra [1]∧Below w.heap.size w w':=
 (cheapestX_any bellC bell_small pa pc rodsL qa qc 0 1 w hp hq).mono (by
  rintro e w' ⟨hb,cs,bb,rfl,h⟩;rw[show xErr bellC rodsL (twoB bellC.parts.length 0 1)=0 from b_err rfl] at h ⊢;rw[if_pos rfl,show cheapestOf bellC rodsL (0:Int).toNat (1:Int).toNat=some [1] from b_cheap] at h
  rcases h with ⟨h,_⟩|⟨x,ra,rc,hx,rfl,rfl,hi,_⟩
  ·cases h
  ·cases hx;rw[b_cost];exact⟨ra,rc,rfl,hi.at_,hb⟩)
theorem s_proof (hp:PartsAt w pa bellC.parts)(hq:PrbsAt w qa rodsL):Calls Tryz.prog 26 #[bArg pa pc,rArg qa qc,.int .i64 0,.int .i64 1] w fun e w'=>∃b o k a1 k1,e = .returned (.tuple #[.slice (some ⟨b,o,none⟩) 1 k,.int .i64 0])∧w'.cell? ⟨b,o,none⟩=some (.slice a1 2 k1)∧Ints w' a1 [0,2]∧Below w.heap.size w w':=
 (proofX_any bellC bell_small pa pc rodsL qa qc 0 1 w hp hq).mono (by
  rintro e w' ⟨hb,v,er,rfl,h⟩;rw[show xErr bellC rodsL (twoB bellC.parts.length 0 1)=0 from b_err rfl] at h
  rcases h with ⟨h,_⟩|⟨_,rfl,a,cap,rfl,ho,_⟩
  ·exact absurd rfl h
  ·have hd:=b_proof;rw[show proofOf bellC rodsL (0:Int).toNat (1:Int).toNat=proofOf bellC rodsL 0 1 from rfl] at ho ⊢;obtain⟨d,hds⟩:∃d,proofOf bellC rodsL 0 1=[d]:=by
    have hl:=congrArg List.length hd;rw[List.length_map] at hl;exact List.length_eq_one_iff.1 hl
   ·rw[hds] at ho hd;simp only[List.map_cons,List.map_nil,List.cons.injEq,and_true] at hd;obtain⟨b,o,a1,c1,a2,c2,a3,c3,a4,c4,rfl,h1,_,_,_,h2⟩:=ho 0 d rfl;obtain⟨a1',c1',a2',c2',a3',c3',a4',c4',he,i1,_⟩:=h2.at_;simp only[Value.agg.injEq,Array.mk.injEq,List.cons.injEq,Value.slice.injEq] at he;obtain⟨⟨rfl,_,_⟩,_⟩:=he;rw[hd] at h1 i1;refine⟨b,o,cap,a1,c1,?_,by simpa using h1,i1,hb⟩;rw[hds];rfl)
theorem s_best (hp:PartsAt w pa bellC.parts)(hq:PrbsAt w qa rodsL):Calls Tryz.prog 31 #[bArg pa pc,rArg qa qc] w fun e w'=>∃sa sc,e = .returned (.tuple #[.agg #[.int .i64 0,.int .i64 1],.agg #[.slice sa 1 sc,.int .i64 5],.bool true,.int .i64 0])∧Ints w' sa [1]∧Below w.heap.size w w':=
 (bestX_any bellC bell_small pa pc rodsL qa qc w hp hq).mono (by
  rintro e w' ⟨hb,(⟨h,rfl⟩|⟨z,_,h,hz,rfl⟩)⟩
  ·rcases h with h|h
   ·exact absurd (b_err rfl) h
   ·rw[b_best] at h;cases h
  ·rw[b_best] at h;obtain⟨p1,p2,s,n,sa,sc⟩:=z;simp only[ChoE.d,Option.some.injEq,Prod.mk.injEq] at h;obtain⟨⟨rfl,rfl⟩,rfl⟩:=h;obtain⟨h1,h2,_⟩:=hz;rw[b_cost] at h1;simp only at h1;subst h1;exact⟨sa,sc,rfl,h2,hb⟩)
theorem s_worth (hp:PartsAt w pa bellC.parts)(hq:PrbsAt w qa rodsL):Calls Tryz.prog 57 #[bArg pa pc,rArg qa qc,.int .i64 0,.int .i64 1,.int .i64 0] w fun e w'=>e = .returned (.tuple #[.int .i64 1,.int .i64 2,.int .i64 0])∧Below w.heap.size w w':=
 (worthX_any bellC bell_small pa pc rodsL qa qc 0 1 0 w hp hq).mono (by
  rintro e w' ⟨rfl,hb⟩;rw[b_worth.1,b_worth.2,b_err (ok:=worthOk bellC rodsL 0 1 0) rfl];exact⟨rfl,hb⟩)
theorem s_after {sa:Option Addr}{sc:Nat}{fa:Option Addr}{fc:Nat}(hp:PartsAt w pa bellC.parts)(hq:PrbsAt w qa rodsL)(hs:Ints w sa [1])(hf:Ints w fa [1]):Calls Tryz.prog 16 #[bArg pa pc,rArg qa qc,.slice sa 1 sc,.slice fa 1 fc] w fun e w'=>∃u1 u2 u3 b o m k,e = .returned (.tuple #[.agg #[.string u1,.int .i64 u2,.int .i64 u3,.slice (some ⟨b,o,none⟩) m k],.bool true,.int .i64 0])∧1<m∧w'.cell? ⟨b,o+8+1,none⟩=some (.int .i64 23)∧w'.cell? ⟨b,o+8+1+1,none⟩=some (.int .i64 30)∧w'.cell? ⟨b,o+8+1+2,none⟩=some (.int .i64 32)∧w'.cell? ⟨b,o+8+1+3,none⟩=some (.int .i64 4)∧Below w.heap.size w w':=
 (afterX_any bellC bell_small pa pc rodsL qa qc sa [1] sc fa [1] fc zS zS w hp hq hs hf).mono (by
  rintro e w' ⟨hb,cs,bb,rfl,h⟩;rw[b_err b_set1] at h ⊢;rw[if_pos rfl,show afterC bellC rodsL (nats [1]) (nats [1])=afterC bellC rodsL [1] [1] from rfl] at h;have ha:=b_after
  rcases h with ⟨h,_⟩|⟨d,ba,k,hd,rfl,rfl,hpp⟩
  ·rw[h] at ha;cases ha
  ·rw[hd] at ha;simp only[Option.map_some,Option.some.injEq,Option.map_eq_some_iff,Prod.mk.injEq] at ha;obtain⟨q,hq1,e1,e2,e3,e4⟩:=ha;have hl:=(List.getElem?_eq_some_iff.1 hq1).1;obtain⟨b,o,q',rfl,hq2,hP⟩:=hpp.at_.at_ hl;rw[hq1] at hq2;cases hq2;obtain⟨_,_,_,_,_,x1,x2,x3,x4,_⟩:=hP.open;rw[e1] at x1;rw[e2] at x2;rw[e3] at x3;rw[e4] at x4;simp only[Nat.one_mul] at x1 x2 x3 x4;exact⟨d.ware,d.limit,d.by_,b,o,d.parts.length,k,rfl,hl,x1,x2,x3,x4,hb⟩)
theorem s_settled {sa:Option Addr}{sc:Nat}{fa:Option Addr}{fc:Nat}(hp:PartsAt w pa bellC.parts)(hq:PrbsAt w qa rodsL)(hs:Ints w sa [1])(hf:Ints w fa [0]):Calls Tryz.prog 20 #[bArg pa pc,rArg qa qc,.slice sa 1 sc,.slice fa 1 fc] w fun e w'=>∃a k,e = .returned (.tuple #[.slice a 2 k,.int .i64 0])∧Row w' a (pairCells [(0,1),(1,2)])∧Below w.heap.size w w':=
 (settledX_any bellC bell_small pa pc rodsL qa qc sa [1] sc fa [0] fc w hp hq zS zS hs hf).mono (by
  rintro e w' ⟨hb,v,er,rfl,h⟩;rw[b_err b_set2] at h;have ha:=b_settled
  rcases h with ⟨h,_⟩|⟨_,h⟩
  ·exact absurd rfl h
  ·rw[show canC bellC rodsL (nats [1]) (nats [0])=canC bellC rodsL [1] [0] from rfl] at h
   rcases h with ⟨h,_⟩|⟨d,a,cap,hd,rfl,rfl,hpp,_⟩
   ·rw[h] at ha;cases ha
   ·rw[hd] at ha;simp only[Option.map_some,Option.some.injEq] at ha;rw[ha] at hpp ⊢;exact⟨a,cap,rfl,hpp,hb⟩)
theorem s_can {sa:Option Addr}{sc:Nat}{fa:Option Addr}{fc:Nat}(hp:PartsAt w pa bellC.parts)(hq:PrbsAt w qa rodsL)(hs:Ints w sa [0,1])(hf:Ints w fa [1,0]):Calls Tryz.prog 18 #[bArg pa pc,rArg qa qc,.slice sa 2 sc,.slice fa 2 fc] w fun e w'=>e = .returned (.tuple #[.bool false,.int .i64 0])∧Below w.heap.size w w':=
 (canX_any bellC bell_small pa pc rodsL qa qc sa [0,1] sc fa [1,0] fc zS zS w hp hq hs hf).mono (by
  rintro e w' ⟨hb,rfl⟩;rw[b_err b_set3,show(canC bellC rodsL (nats [0,1]) (nats [1,0])).isSome=false from b_can];exact⟨rfl,hb⟩)
theorem s_vers {sa:Option Addr}{sc:Nat}{va:Option Addr}{vc:Nat}(hp:PartsAt w pa bellC.parts)(hq:PrbsAt w qa rodsL)(hs:Ints w sa [1])(hv:VersAt w va bellVs)(hc:2≤vc):Calls Tryz.prog 39 #[bArg pa pc,rArg qa qc,.int .i64 0,.int .i64 1,.slice sa 1 sc,.slice va 2 vc] w fun e w'=>e = .returned (.tuple #[.bool true,.int .i64 0])∧Below w.heap.size w w':=
 (checkVersX_any bellC bell_small pa pc rodsL qa qc 0 1 sa [1] sc va bellVs vc (by
  intro v hv;simp only[bellVs,List.mem_cons,List.not_mem_nil,or_false] at hv
  rcases hv with rfl|rfl<;>exact⟨by decide,by decide,by decide,by intro z hz;rw[List.mem_singleton.1 hz];exact⟨by decide,by decide⟩⟩) (by simp[bellVs]) hc w hp hq zS hs hv).mono (by
  rintro e w' h;obtain⟨hb,rfl⟩:=h.bool;rw[b_err (ok:=twoB bellC.parts.length 0 1&&setB rodsL.length [1]) rfl,show checkVersB bellC rodsL (0:Int).toNat (1:Int).toNat (nats [1]) bellVs=true from b_vers];exact⟨rfl,hb⟩)
theorem s_doubt {a1 a2 a3 a4:Option Addr}{k1 k2 k3 k4:Nat}(hp:PartsAt w pa bellC.parts)(hq:PrbsAt w qa rodsL)(h1:Ints w a1 [0,2])(h2:Ints w a2 [0,0])(h3:Ints w a3 [0,0,1])(h4:Ints w a4 [0,1,1]):Calls Tryz.prog 43 #[bArg pa pc,rArg qa qc,.int .i64 0,.int .i64 1,.agg #[.slice a1 2 k1,.slice a2 2 k2,.slice a3 3 k3,.slice a4 3 k4]] w fun e w'=>e = .returned (.tuple #[.bool true,.int .i64 0])∧Below w.heap.size w w':=
 (checkDoubtX_any bellC bell_small pa pc rodsL qa qc 0 1 bellD ⟨by decide,by decide,by decide,by decide⟩ a1 a2 a3 a4 k1 k2 k3 k4 w hp hq ⟨a1,k1,a2,k2,a3,k3,a4,k4,rfl,h1,h2,h3,h4⟩).mono (by
  rintro e w' h;obtain⟨hb,rfl⟩:=h.bool;rw[b_err (ok:=twoB bellC.parts.length 0 1) rfl,show doubtedB bellC rodsL (0:Int).toNat (1:Int).toNat bellD=true from b_doubt];exact⟨rfl,hb⟩)
theorem s_plan {ra sa:Option Addr}{rc sc:Nat}(h1:Ints w ra [1])(h2:Ints w sa [1]):Calls Tryz.prog 27 #[.agg #[.slice ra 1 rc,.int .i64 5],.agg #[.slice sa 1 sc,.int .i64 5]] w fun e w'=>e = .returned (.bool true)∧Below w.heap.size w w':=
 (samePlanR9_any ra sa rc sc [1] [1] 5 5 w h1 h2 zS zS).mono (by rintro e w' ⟨rfl,h⟩;exact⟨rfl,h⟩)
theorem eq_pair9 (w:World):(binOp .eql 57 (.agg #[.int .i64 0,.int .i64 1]) (.agg #[.int .i64 0,.int .i64 1])).run Tryz.prog w = .ok (.bool true) w:=zK
theorem eq_span9 (w:World):(binOp .eql 78 (.agg #[.int .i64 23,.int .i64 30,.int .i64 32,.int .i64 4]) (.agg #[.int .i64 23,.int .i64 30,.int .i64 32,.int .i64 4])).run Tryz.prog w = .ok (.bool true) w:=zK
end
end
section
attribute [local go_sem] Oper.semAt_some
theorem sounds_walk (c:Cs)(l:List Prb)
 (HBE:Hid (∀w:World,Calls Tryz.prog 55 #[] w fun e w'=>∃pa pc,e = .returned (.agg #[.string c.ware,.int .i64 c.limit,.int .i64 c.by_,.slice pa c.parts.length pc])∧PartsAt w' pa c.parts∧Below w.heap.size w w'))
 (HRO:Hid (∀w:World,Calls Tryz.prog 56 #[] w fun e w'=>∃qa qc,e = .returned (.slice qa l.length qc)∧PrbsAt w' qa l∧Below w.heap.size w w'))
 (HCH:Hid (∀(w:World) (pa:Option Addr) (pc:Nat) (qa:Option Addr) (qc:Nat),PartsAt w pa c.parts→PrbsAt w qa l→Calls Tryz.prog 24 #[.agg #[.string c.ware,.int .i64 c.limit,.int .i64 c.by_,.slice pa c.parts.length pc],.slice qa l.length qc,.int .i64 0,.int .i64 1] w fun e w'=>∃ra rc,e = .returned (.tuple #[.agg #[.slice ra 1 rc,.int .i64 5],.bool true,.int .i64 0])∧Ints w' ra [1]∧Below w.heap.size w w'))
 (HPR:Hid (∀(w:World) (pa:Option Addr) (pc:Nat) (qa:Option Addr) (qc:Nat),PartsAt w pa c.parts→PrbsAt w qa l→Calls Tryz.prog 26 #[.agg #[.string c.ware,.int .i64 c.limit,.int .i64 c.by_,.slice pa c.parts.length pc],.slice qa l.length qc,.int .i64 0,.int .i64 1] w fun e w'=>∃b o k a1 k1,e = .returned (.tuple #[.slice (some ⟨b,o,none⟩) 1 k,.int .i64 0])∧w'.cell? ⟨b,o,none⟩=some (.slice a1 2 k1)∧Ints w' a1 [0,2]∧Below w.heap.size w w'))
 (HBS:Hid (∀(w:World) (pa:Option Addr) (pc:Nat) (qa:Option Addr) (qc:Nat),PartsAt w pa c.parts→PrbsAt w qa l→Calls Tryz.prog 31 #[.agg #[.string c.ware,.int .i64 c.limit,.int .i64 c.by_,.slice pa c.parts.length pc],.slice qa l.length qc] w fun e w'=>∃sa sc,e = .returned (.tuple #[.agg #[.int .i64 0,.int .i64 1],.agg #[.slice sa 1 sc,.int .i64 5],.bool true,.int .i64 0])∧Ints w' sa [1]∧Below w.heap.size w w'))
 (HWO:Hid (∀(w:World) (pa:Option Addr) (pc:Nat) (qa:Option Addr) (qc:Nat),PartsAt w pa c.parts→PrbsAt w qa l→Calls Tryz.prog 57 #[.agg #[.string c.ware,.int .i64 c.limit,.int .i64 c.by_,.slice pa c.parts.length pc],.slice qa l.length qc,.int .i64 0,.int .i64 1,.int .i64 0] w fun e w'=>e = .returned (.tuple #[.int .i64 1,.int .i64 2,.int .i64 0])∧Below w.heap.size w w'))
 (HAF:Hid (∀(w:World) (pa:Option Addr) (pc:Nat) (qa:Option Addr) (qc:Nat),PartsAt w pa c.parts→PrbsAt w qa l→∀(sa:Option Addr) (sc:Nat) (fa:Option Addr) (fc:Nat),Ints w sa [1]→Ints w fa [1]→Calls Tryz.prog 16 #[.agg #[.string c.ware,.int .i64 c.limit,.int .i64 c.by_,.slice pa c.parts.length pc],.slice qa l.length qc,.slice sa 1 sc,.slice fa 1 fc] w fun e w'=>∃u1 u2 u3 b o m k,e = .returned (.tuple #[.agg #[.string u1,.int .i64 u2,.int .i64 u3,.slice (some ⟨b,o,none⟩) m k],.bool true,.int .i64 0])∧1<m∧w'.cell? ⟨b,o+8+1,none⟩=some (.int .i64 23)∧w'.cell? ⟨b,o+8+1+1,none⟩=some (.int .i64 30)∧w'.cell? ⟨b,o+8+1+2,none⟩=some (.int .i64 32)∧w'.cell? ⟨b,o+8+1+3,none⟩=some (.int .i64 4)∧Below w.heap.size w w'))
 (HSE:Hid (∀(w:World) (pa:Option Addr) (pc:Nat) (qa:Option Addr) (qc:Nat),PartsAt w pa c.parts→PrbsAt w qa l→∀(sa:Option Addr) (sc:Nat) (fa:Option Addr) (fc:Nat),Ints w sa [1]→Ints w fa [0]→Calls Tryz.prog 20 #[.agg #[.string c.ware,.int .i64 c.limit,.int .i64 c.by_,.slice pa c.parts.length pc],.slice qa l.length qc,.slice sa 1 sc,.slice fa 1 fc] w fun e w'=>∃a k,e = .returned (.tuple #[.slice a 2 k,.int .i64 0])∧Row w' a (pairCells [(0,1),(1,2)])∧Below w.heap.size w w'))
 (HCA:Hid (∀(w:World) (pa:Option Addr) (pc:Nat) (qa:Option Addr) (qc:Nat),PartsAt w pa c.parts→PrbsAt w qa l→∀(sa:Option Addr) (sc:Nat) (fa:Option Addr) (fc:Nat),Ints w sa [0,1]→Ints w fa [1,0]→Calls Tryz.prog 18 #[.agg #[.string c.ware,.int .i64 c.limit,.int .i64 c.by_,.slice pa c.parts.length pc],.slice qa l.length qc,.slice sa 2 sc,.slice fa 2 fc] w fun e w'=>e = .returned (.tuple #[.bool false,.int .i64 0])∧Below w.heap.size w w'))
 (HCV:Hid (∀(w:World) (pa:Option Addr) (pc:Nat) (qa:Option Addr) (qc:Nat),PartsAt w pa c.parts→PrbsAt w qa l→∀(sa:Option Addr) (sc:Nat) (va:Option Addr) (vc:Nat),Ints w sa [1]→VersAt w va bellVs→2≤vc→Calls Tryz.prog 39 #[.agg #[.string c.ware,.int .i64 c.limit,.int .i64 c.by_,.slice pa c.parts.length pc],.slice qa l.length qc,.int .i64 0,.int .i64 1,.slice sa 1 sc,.slice va 2 vc] w fun e w'=>e = .returned (.tuple #[.bool true,.int .i64 0])∧Below w.heap.size w w'))
 (HCD:Hid (∀(w:World) (pa:Option Addr) (pc:Nat) (qa:Option Addr) (qc:Nat),PartsAt w pa c.parts→PrbsAt w qa l→∀(a1:Option Addr) (k1:Nat) (a2:Option Addr) (k2:Nat) (a3:Option Addr) (k3:Nat) (a4:Option Addr) (k4:Nat),Ints w a1 [0,2]→Ints w a2 [0,0]→Ints w a3 [0,0,1]→Ints w a4 [0,1,1]→Calls Tryz.prog 43 #[.agg #[.string c.ware,.int .i64 c.limit,.int .i64 c.by_,.slice pa c.parts.length pc],.slice qa l.length qc,.int .i64 0,.int .i64 1,.agg #[.slice a1 2 k1,.slice a2 2 k2,.slice a3 3 k3,.slice a4 3 k4]] w fun e w'=>e = .returned (.tuple #[.bool true,.int .i64 0])∧Below w.heap.size w w'))
 (HSP:Hid (∀(w:World) (ra:Option Addr) (rc:Nat) (sa:Option Addr) (sc:Nat),Ints w ra [1]→Ints w sa [1]→Calls Tryz.prog 27 #[.agg #[.slice ra 1 rc,.int .i64 5],.agg #[.slice sa 1 sc,.int .i64 5]] w fun e w'=>e = .returned (.bool true)∧Below w.heap.size w w')) (w:World):
 Calls Tryz.prog 15 #[] w fun e w'=>e = .returned (.bool true)∧Below w.heap.size w w':=by
 have heq1:=eq_pair9;have heq2:=eq_span9
 go_enter Tryz.func15,Tryz.ntmps15
 go_wp2_with fail
 (with_reducible refine(HBE.out _).mono ?_)
 rintro e w1 ⟨pa,pc,rfl,hp,hb⟩;have P:=zh hp;clear hp;have B:=zh hb;clear hb
 go_upto_region 2 with fail
 have hb:Below w1.heap.size w1 (w1.alloc (.cells #[.string c.ware,.int .i64 c.limit,.int .i64 c.by_,.slice pa c.parts.length pc] 24)):=by go_grown
 have x1:Box (w1.alloc (.cells #[.string c.ware,.int .i64 c.limit,.int .i64 c.by_,.slice pa c.parts.length pc] 24)) (w1.heap.size) #[.string c.ware,.int .i64 c.limit,.int .i64 c.by_,.slice pa c.parts.length pc] 24:=Box.new _ _ _;generalize (w1.alloc (.cells #[.string c.ware,.int .i64 c.limit,.int .i64 c.by_,.slice pa c.parts.length pc] 24))=w2 at *;have P:=zh (P.out.below hb);have B:=zh (B.out.trans (hb.mono B.out.size));clear hb;have X1:=zh x1;clear x1
 go_wp2_with fail
 (with_reducible refine(HRO.out _).mono ?_)
 rintro e w3 ⟨qa,qc,rfl,hq,hb⟩;have Q:=zh hq;clear hq;have P:=zh (P.out.below hb);have X1:=zh (X1.out.below' hb);have B:=zh (B.out.trans (hb.mono B.out.size));clear hb
 go_upto_region 3 with fail
 have e1:=zC (X1.out)
 go_wp2_with fail
 (with_reducible refine(HCH.out _ _ _ _ _ P.out Q.out).mono ?_)
 rintro e w4 ⟨ra,rc,rfl,hr,hb⟩;clear e1;have R3:=zh hr;clear hr;have P:=zh (P.out.below hb);have X1:=zh (X1.out.below' hb);have Q:=zh (Q.out.below hb);have B:=zh (B.out.trans (hb.mono B.out.size));clear hb
 go_upto_region 4 with fail
 have hb:Below w4.heap.size w4 (w4.alloc (.cells #[.slice ra 1 rc,.int .i64 5] 42)):=by go_grown
 have x3:Box (w4.alloc (.cells #[.slice ra 1 rc,.int .i64 5] 42)) (w4.heap.size) #[.slice ra 1 rc,.int .i64 5] 42:=Box.new _ _ _;generalize (w4.alloc (.cells #[.slice ra 1 rc,.int .i64 5] 42))=w5 at *;have P:=zh (P.out.below hb);have X1:=zh (X1.out.below' hb);have Q:=zh (Q.out.below hb);have R3:=zh (R3.out.below hb);have B:=zh (B.out.trans (hb.mono B.out.size));clear hb;have X3:=zh x3;clear x3;have e1:=zC (X1.out)
 go_wp2_with fail
 (with_reducible refine(HPR.out _ _ _ _ _ P.out Q.out).mono ?_)
 rintro e w6 ⟨b6,o6,k6,a6,c6,rfl,hc,hr,hb⟩;clear e1;have C6:=zh hc;have R6:=zh hr;clear hc hr;have P:=zh (P.out.below hb);have X1:=zh (X1.out.below' hb);have Q:=zh (Q.out.below hb);have R3:=zh (R3.out.below hb);have X3:=zh (X3.out.below' hb);have B:=zh (B.out.trans (hb.mono B.out.size));clear hb
 go_upto_region 5 with fail
 have e1:=zC (X1.out)
 go_wp2_with fail
 (with_reducible refine(HBS.out _ _ _ _ _ P.out Q.out).mono ?_)
 rintro e w7 ⟨sa,sc,rfl,hr,hb⟩;clear e1;have R9:=zh hr;clear hr;have P:=zh (P.out.below hb);have X1:=zh (X1.out.below' hb);have Q:=zh (Q.out.below hb);have R3:=zh (R3.out.below hb);have X3:=zh (X3.out.below' hb);have C6:=zh (below_cell hb C6.out);have R6:=zh (R6.out.below hb);have B:=zh (B.out.trans (hb.mono B.out.size));clear hb
 go_upto_region 6 with fail
 have hb:Below w7.heap.size w7 ((w7.alloc (.cells #[.int .i64 0,.int .i64 1] 57)).alloc (.cells #[.slice sa 1 sc,.int .i64 5] 42)):=by go_grown
 have x8:Box ((w7.alloc (.cells #[.int .i64 0,.int .i64 1] 57)).alloc (.cells #[.slice sa 1 sc,.int .i64 5] 42)) (w7.heap.size) #[.int .i64 0,.int .i64 1] 57:=(Box.new _ _ _).alloc _;have x9:Box ((w7.alloc (.cells #[.int .i64 0,.int .i64 1] 57)).alloc (.cells #[.slice sa 1 sc,.int .i64 5] 42)) (w7.heap.size+1) #[.slice sa 1 sc,.int .i64 5] 42:=Box.new' zS;generalize ((w7.alloc (.cells #[.int .i64 0,.int .i64 1] 57)).alloc (.cells #[.slice sa 1 sc,.int .i64 5] 42))=w8 at *;have P:=zh (P.out.below hb);have X1:=zh (X1.out.below' hb);have Q:=zh (Q.out.below hb);have R3:=zh (R3.out.below hb);have X3:=zh (X3.out.below' hb);have C6:=zh (below_cell hb C6.out);have R6:=zh (R6.out.below hb);have R9:=zh (R9.out.below hb);have B:=zh (B.out.trans (hb.mono B.out.size));clear hb;have X8:=zh x8;clear x8;have X9:=zh x9;clear x9;have e1:=zC (X1.out)
 go_wp2_with fail
 (with_reducible refine(HWO.out _ _ _ _ _ P.out Q.out).mono ?_)
 rintro e w9 ⟨rfl,hb⟩;clear e1;have P:=zh (P.out.below hb);have X1:=zh (X1.out.below' hb);have Q:=zh (Q.out.below hb);have R3:=zh (R3.out.below hb);have X3:=zh (X3.out.below' hb);have C6:=zh (below_cell hb C6.out);have R6:=zh (R6.out.below hb);have R9:=zh (R9.out.below hb);have X8:=zh (X8.out.below' hb);have X9:=zh (X9.out.below' hb);have B:=zh (B.out.trans (hb.mono B.out.size));clear hb
 go_upto_region 7 with fail
 have e1:=zC (X1.out);have hbq:Below w9.heap.size w9 ((w9.alloc (.cells #[.int .i64 1] 3)).alloc (.cells #[.int .i64 1] 3)):=by go_grown
 go_wp2_with fail
 (with_reducible refine(HAF.out _ _ _ _ _ (P.out.below hbq) (Q.out.below hbq) _ _ _ _ (lit_ints9 (l:=[1]) ((Box.new _ _ _).alloc _)) (lit_ints9 (l:=[1]) (Box.new' zS))).mono ?_)
 rintro e w10 ⟨u1,u2,u3,bd,od,m,kd,rfl,hm,d0,d1,d2,d3,hb⟩;have hb:=hbq.trans (hb.mono hbq.size);clear e1 hbq;have D0:=zh d0;have D1:=zh d1;have D2:=zh d2;have D3:=zh d3;clear d0 d1 d2 d3;have P:=zh (P.out.below hb);have X1:=zh (X1.out.below' hb);have Q:=zh (Q.out.below hb);have R3:=zh (R3.out.below hb);have X3:=zh (X3.out.below' hb);have C6:=zh (below_cell hb C6.out);have R6:=zh (R6.out.below hb);have R9:=zh (R9.out.below hb);have X8:=zh (X8.out.below' hb);have X9:=zh (X9.out.below' hb);have B:=zh (B.out.trans (hb.mono B.out.size));clear hb
 go_upto_region 8 with fail
 have hb:Below w10.heap.size w10 (w10.alloc (.cells #[.string u1,.int .i64 u2,.int .i64 u3,.slice (some ⟨bd,od,none⟩) m kd] 24)):=by go_grown
 have x15:Box (w10.alloc (.cells #[.string u1,.int .i64 u2,.int .i64 u3,.slice (some ⟨bd,od,none⟩) m kd] 24)) (w10.heap.size) #[.string u1,.int .i64 u2,.int .i64 u3,.slice (some ⟨bd,od,none⟩) m kd] 24:=Box.new _ _ _;generalize (w10.alloc (.cells #[.string u1,.int .i64 u2,.int .i64 u3,.slice (some ⟨bd,od,none⟩) m kd] 24))=w11 at *;have P:=zh (P.out.below hb);have X1:=zh (X1.out.below' hb);have Q:=zh (Q.out.below hb);have R3:=zh (R3.out.below hb);have X3:=zh (X3.out.below' hb);have C6:=zh (below_cell hb C6.out);have R6:=zh (R6.out.below hb);have R9:=zh (R9.out.below hb);have X8:=zh (X8.out.below' hb);have X9:=zh (X9.out.below' hb);have D0:=zh (below_cell hb D0.out);have D1:=zh (below_cell hb D1.out);have D2:=zh (below_cell hb D2.out);have D3:=zh (below_cell hb D3.out);have B:=zh (B.out.trans (hb.mono B.out.size));clear hb
 have X15:=zh x15;clear x15;have e1:=zC (X1.out);have hbq:Below w11.heap.size w11 ((w11.alloc (.cells #[.int .i64 1] 3)).alloc (.cells #[.int .i64 0] 3)):=by go_grown
 go_wp2_with fail
 (with_reducible refine(HSE.out _ _ _ _ _ (P.out.below hbq) (Q.out.below hbq) _ _ _ _ (lit_ints9 (l:=[1]) ((Box.new _ _ _).alloc _)) (lit_ints9 (l:=[0]) (Box.new' zS))).mono ?_)
 rintro e w12 ⟨a12,k12,rfl,hr,hb⟩;have hb:=hbq.trans (hb.mono hbq.size);clear e1 hbq;have R12:=zh hr;clear hr;have P:=zh (P.out.below hb);have X1:=zh (X1.out.below' hb);have Q:=zh (Q.out.below hb);have R3:=zh (R3.out.below hb);have X3:=zh (X3.out.below' hb);have C6:=zh (below_cell hb C6.out);have R6:=zh (R6.out.below hb);have R9:=zh (R9.out.below hb);have X8:=zh (X8.out.below' hb);have X9:=zh (X9.out.below' hb);have D0:=zh (below_cell hb D0.out);have D1:=zh (below_cell hb D1.out);have D2:=zh (below_cell hb D2.out);have D3:=zh (below_cell hb D3.out);have X15:=zh (X15.out.below' hb);have B:=zh (B.out.trans (hb.mono B.out.size));clear hb
 go_upto_region 9 with fail
 have e1:=zC (X1.out);have hbq:Below w12.heap.size w12 ((w12.alloc (.cells #[.int .i64 0,.int .i64 1] 3)).alloc (.cells #[.int .i64 1,.int .i64 0] 3)):=by go_grown
 go_wp2_with fail
 (with_reducible refine(HCA.out _ _ _ _ _ (P.out.below hbq) (Q.out.below hbq) _ _ _ _ (lit_ints9 (l:=[0,1]) ((Box.new _ _ _).alloc _)) (lit_ints9 (l:=[1,0]) (Box.new' zS))).mono ?_)
 rintro e w13 ⟨rfl,hb⟩;have hb:=hbq.trans (hb.mono hbq.size);clear e1 hbq;have P:=zh (P.out.below hb);have X1:=zh (X1.out.below' hb);have Q:=zh (Q.out.below hb);have R3:=zh (R3.out.below hb);have X3:=zh (X3.out.below' hb);have C6:=zh (below_cell hb C6.out);have R6:=zh (R6.out.below hb);have R9:=zh (R9.out.below hb);have X8:=zh (X8.out.below' hb);have X9:=zh (X9.out.below' hb);have D0:=zh (below_cell hb D0.out);have D1:=zh (below_cell hb D1.out);have D2:=zh (below_cell hb D2.out);have D3:=zh (below_cell hb D3.out);have X15:=zh (X15.out.below' hb);have R12:=zh (R12.out.below hb);have B:=zh (B.out.trans (hb.mono B.out.size));clear hb
 go_upto_region 10 with fail
 go_upto_region 11 with fail
 have hb:Below w13.heap.size w13 ((((((w13.alloc (.cells #[.int .i64 0] 3)).alloc (.cells #[.int .i64 0,.int .i64 1,.int .i64 2] 3)).alloc (.cells #[.int .u8 4,.int .i64 0,.int .i64 0,.slice (some ⟨w13.heap.size+1,0,none⟩) 3 3] 99)).alloc (.cells #[.int .i64 1] 3)).alloc (.cells #[.int .u8 2,.int .i64 0,.int .i64 1,.slice none 0 0] 99)).alloc (.cells #[.slice (some ⟨w13.heap.size,0,none⟩) 1 1,.int .u8 1,.slice (some ⟨w13.heap.size+1+1,0,none⟩) 1 1,.slice (some ⟨w13.heap.size+1+1+1,0,none⟩) 1 1,.int .u8 2,.slice (some ⟨w13.heap.size+1+1+1+1,0,none⟩) 1 1] 102)):=by go_grown
 have hv:VersAt ((((((w13.alloc (.cells #[.int .i64 0] 3)).alloc (.cells #[.int .i64 0,.int .i64 1,.int .i64 2] 3)).alloc (.cells #[.int .u8 4,.int .i64 0,.int .i64 0,.slice (some ⟨w13.heap.size+1,0,none⟩) 3 3] 99)).alloc (.cells #[.int .i64 1] 3)).alloc (.cells #[.int .u8 2,.int .i64 0,.int .i64 1,.slice none 0 0] 99)).alloc (.cells #[.slice (some ⟨w13.heap.size,0,none⟩) 1 1,.int .u8 1,.slice (some ⟨w13.heap.size+1+1,0,none⟩) 1 1,.slice (some ⟨w13.heap.size+1+1+1,0,none⟩) 1 1,.int .u8 2,.slice (some ⟨w13.heap.size+1+1+1+1,0,none⟩) 1 1] 102)) (some ⟨w13.heap.size+1+1+1+1+1,0,none⟩) bellVs:=vers_lit ((((((Box.new _ _ _).alloc _).alloc _).alloc _).alloc _).alloc _) (((((Box.new' zS).alloc _).alloc _).alloc _).alloc _) ((((Box.new' zS).alloc _).alloc _).alloc _) (((Box.new' zS).alloc _).alloc _) ((Box.new' zS).alloc _) (Box.new' zS)
 generalize ((((((w13.alloc (.cells #[.int .i64 0] 3)).alloc (.cells #[.int .i64 0,.int .i64 1,.int .i64 2] 3)).alloc (.cells #[.int .u8 4,.int .i64 0,.int .i64 0,.slice (some ⟨w13.heap.size+1,0,none⟩) 3 3] 99)).alloc (.cells #[.int .i64 1] 3)).alloc (.cells #[.int .u8 2,.int .i64 0,.int .i64 1,.slice none 0 0] 99)).alloc (.cells #[.slice (some ⟨w13.heap.size,0,none⟩) 1 1,.int .u8 1,.slice (some ⟨w13.heap.size+1+1,0,none⟩) 1 1,.slice (some ⟨w13.heap.size+1+1+1,0,none⟩) 1 1,.int .u8 2,.slice (some ⟨w13.heap.size+1+1+1+1,0,none⟩) 1 1] 102))=w14 at *;generalize w13.heap.size+1+1+1+1+1=gv at *;have P:=zh (P.out.below hb);have X1:=zh (X1.out.below' hb);have Q:=zh (Q.out.below hb);have R3:=zh (R3.out.below hb);have X3:=zh (X3.out.below' hb);have C6:=zh (below_cell hb C6.out);have R6:=zh (R6.out.below hb)
 have R9:=zh (R9.out.below hb);have X8:=zh (X8.out.below' hb);have X9:=zh (X9.out.below' hb);have D0:=zh (below_cell hb D0.out);have D1:=zh (below_cell hb D1.out);have D2:=zh (below_cell hb D2.out);have D3:=zh (below_cell hb D3.out);have X15:=zh (X15.out.below' hb);have R12:=zh (R12.out.below hb);have B:=zh (B.out.trans (hb.mono B.out.size));clear hb;have V:=zh hv;clear hv;have e1:=zC (X1.out);have hbq:Below w14.heap.size w14 (w14.alloc (.cells #[.int .i64 1] 3)):=by go_grown
 go_wp2_with fail
 (with_reducible refine(HCV.out _ _ _ _ _ (P.out.below hbq) (Q.out.below hbq) _ _ _ _ (lit_ints9 (l:=[1]) (Box.new _ _ _)) (V.out.below hbq) (Nat.le_refl _)).mono ?_)
 rintro e w15 ⟨rfl,hb⟩;have hb:=hbq.trans (hb.mono hbq.size);clear e1 hbq;have P:=zh (P.out.below hb);have X1:=zh (X1.out.below' hb);have Q:=zh (Q.out.below hb);have R3:=zh (R3.out.below hb);have X3:=zh (X3.out.below' hb);have C6:=zh (below_cell hb C6.out);have R6:=zh (R6.out.below hb);have R9:=zh (R9.out.below hb);have X8:=zh (X8.out.below' hb);have X9:=zh (X9.out.below' hb);have D0:=zh (below_cell hb D0.out);have D1:=zh (below_cell hb D1.out);have D2:=zh (below_cell hb D2.out);have D3:=zh (below_cell hb D3.out);have X15:=zh (X15.out.below' hb);have R12:=zh (R12.out.below hb);have V:=zh (V.out.below hb);have B:=zh (B.out.trans (hb.mono B.out.size));clear hb
 go_upto_region 12 with fail
 have e1:=zC (X1.out);have hbq:Below w15.heap.size w15 ((((w15.alloc (.cells #[.int .i64 0,.int .i64 2] 3)).alloc (.cells #[.int .i64 0,.int .i64 0] 3)).alloc (.cells #[.int .i64 0,.int .i64 0,.int .i64 1] 3)).alloc (.cells #[.int .i64 0,.int .i64 1,.int .i64 1] 3)):=by go_grown
 go_wp2_with fail
 (with_reducible refine(HCD.out _ _ _ _ _ (P.out.below hbq) (Q.out.below hbq) _ _ _ _ _ _ _ _ (lit_ints9 (l:=[0,2]) ((((Box.new _ _ _).alloc _).alloc _).alloc _)) (lit_ints9 (l:=[0,0]) (((Box.new' zS).alloc _).alloc _)) (lit_ints9 (l:=[0,0,1]) ((Box.new' zS).alloc _)) (lit_ints9 (l:=[0,1,1]) (Box.new' zS))).mono ?_)
 rintro e w16 ⟨rfl,hb⟩;have hb:=hbq.trans (hb.mono hbq.size);clear e1 hbq;have P:=zh (P.out.below hb);have X1:=zh (X1.out.below' hb);have Q:=zh (Q.out.below hb);have R3:=zh (R3.out.below hb);have X3:=zh (X3.out.below' hb);have C6:=zh (below_cell hb C6.out);have R6:=zh (R6.out.below hb);have R9:=zh (R9.out.below hb);have X8:=zh (X8.out.below' hb);have X9:=zh (X9.out.below' hb);have D0:=zh (below_cell hb D0.out);have D1:=zh (below_cell hb D1.out);have D2:=zh (below_cell hb D2.out);have D3:=zh (below_cell hb D3.out);have X15:=zh (X15.out.below' hb);have R12:=zh (R12.out.below hb);have B:=zh (B.out.trans (hb.mono B.out.size));clear hb
 go_upto_region 15 with fail
 clear HBE HRO HCH HPR HBS HWO HAF HSE HCA HCV HCD;have e3:∀i,w16.cell? ⟨w4.heap.size,i,none⟩=(#[.slice ra 1 rc,.int .i64 5]:Array Value)[i]?:=X3.out.cell;have hbq:Below w16.heap.size w16 (w16.alloc (.cells #[.int .i64 1] 3)):=by go_grown
 go_wp2_with fail
 (with_reducible refine(HSP.out _ _ _ _ _ (R3.out.below hbq) (lit_ints9 (l:=[1]) (Box.new _ _ _))).mono ?_)
 rintro e w17 ⟨rfl,hb⟩;have hb:=hbq.trans (hb.mono hbq.size);clear e3 hbq;have R3:=zh (R3.out.below hb);have X3:=zh (X3.out.below' hb);have C6:=zh (below_cell hb C6.out);have R6:=zh (R6.out.below hb);have R9:=zh (R9.out.below hb);have X8:=zh (X8.out.below' hb);have X9:=zh (X9.out.below' hb);have D0:=zh (below_cell hb D0.out);have D1:=zh (below_cell hb D1.out);have D2:=zh (below_cell hb D2.out);have D3:=zh (below_cell hb D3.out);have X15:=zh (X15.out.below' hb);have R12:=zh (R12.out.below hb);have B:=zh (B.out.trans (hb.mono B.out.size));clear hb;have c6':=C6.out;have hbq:Below w17.heap.size w17 (w17.alloc (.cells #[.int .i64 0,.int .i64 2] 3)):=by go_grown
 go_wp2_with fail
 (with_reducible refine(same_two9 (R6.out.below hbq) (lit_ints9 (l:=[0,2]) (Box.new _ _ _))).mono ?_)
 rintro e w18 ⟨rfl,hb⟩;have hb:=hbq.trans (hb.mono hbq.size);clear c6' hbq;have R3:=zh (R3.out.below hb);have X3:=zh (X3.out.below' hb);have C6:=zh (below_cell hb C6.out);have R6:=zh (R6.out.below hb);have R9:=zh (R9.out.below hb);have X8:=zh (X8.out.below' hb);have X9:=zh (X9.out.below' hb);have D0:=zh (below_cell hb D0.out);have D1:=zh (below_cell hb D1.out);have D2:=zh (below_cell hb D2.out);have D3:=zh (below_cell hb D3.out);have X15:=zh (X15.out.below' hb);have R12:=zh (R12.out.below hb);have B:=zh (B.out.trans (hb.mono B.out.size));clear hb;have e3:∀i,w18.cell? ⟨w4.heap.size,i,none⟩=(#[.slice ra 1 rc,.int .i64 5]:Array Value)[i]?:=X3.out.cell;have e8:∀i,w18.cell? ⟨w7.heap.size,i,none⟩=(#[.int .i64 0,.int .i64 1]:Array Value)[i]?:=X8.out.cell
 have e9:∀i,w18.cell? ⟨w7.heap.size+1,i,none⟩=(#[.slice sa 1 sc,.int .i64 5]:Array Value)[i]?:=X9.out.cell
 go_wp2_with fail
 (with_reducible refine(HSP.out _ _ _ _ _ R9.out R3.out).mono ?_)
 rintro e w19 ⟨rfl,hb⟩;clear e3 e8 e9;have R3:=zh (R3.out.below hb);have X3:=zh (X3.out.below' hb);have C6:=zh (below_cell hb C6.out);have R6:=zh (R6.out.below hb);have R9:=zh (R9.out.below hb);have X8:=zh (X8.out.below' hb);have X9:=zh (X9.out.below' hb);have D0:=zh (below_cell hb D0.out);have D1:=zh (below_cell hb D1.out);have D2:=zh (below_cell hb D2.out);have D3:=zh (below_cell hb D3.out);have X15:=zh (X15.out.below' hb);have R12:=zh (R12.out.below hb);have B:=zh (B.out.trans (hb.mono B.out.size));clear hb;have e15:∀i,w19.cell? ⟨w10.heap.size,i,none⟩=(#[.string u1,.int .i64 u2,.int .i64 u3,.slice (some ⟨bd,od,none⟩) m kd]:Array Value)[i]?:=X15.out.cell;have d0':=D0.out;have d1':=D1.out;have d2':=D2.out;have d3':=D3.out;have hm1:(1:Int)<(m:Int):=by omega
 have hbq:Below w19.heap.size w19 (w19.alloc (.cells #[.int .i64 0,.int .i64 1,.int .i64 1,.int .i64 2] 57)):=by go_grown
 go_wp2_with fail
 (with_reducible refine(pairs_two9 (R12.out.below hbq) (lit_row9 (Box.new _ _ _))).mono ?_)
 rintro e w20 ⟨rfl,hb⟩;have hb:=hbq.trans (hb.mono hbq.size);have R3:=zh (R3.out.below hb);have X3:=zh (X3.out.below' hb);have C6:=zh (below_cell hb C6.out);have R6:=zh (R6.out.below hb);have R9:=zh (R9.out.below hb);have X8:=zh (X8.out.below' hb);have X9:=zh (X9.out.below' hb);have D0:=zh (below_cell hb D0.out);have D1:=zh (below_cell hb D1.out);have D2:=zh (below_cell hb D2.out);have D3:=zh (below_cell hb D3.out);have X15:=zh (X15.out.below' hb);have R12:=zh (R12.out.below hb);have B:=zh (B.out.trans (hb.mono B.out.size));clear hb
 go_wp2_with fail
 go_ret
 exact⟨rfl,B.out⟩
theorem sounds_any (w:World):Calls Tryz.prog 15 #[] w fun e w'=>e = .returned (.bool true)∧Below w.heap.size w w':=
 sounds_walk bellC rodsL (zh fun w=>bell_any w) (zh fun w=>rods_any w) (zh fun _ _ _ _ _ hp hq=>s_cheap hp hq) (zh fun _ _ _ _ _ hp hq=>s_proof hp hq) (zh fun _ _ _ _ _ hp hq=>s_best hp hq) (zh fun _ _ _ _ _ hp hq=>s_worth hp hq)
  (zh fun _ _ _ _ _ hp hq _ _ _ _ hs hf=>s_after hp hq hs hf) (zh fun _ _ _ _ _ hp hq _ _ _ _ hs hf=>s_settled hp hq hs hf) (zh fun _ _ _ _ _ hp hq _ _ _ _ hs hf=>s_can hp hq hs hf) (zh fun _ _ _ _ _ hp hq _ _ _ _ hs hv hc=>s_vers hp hq hs hv hc)
  (zh fun _ _ _ _ _ hp hq _ _ _ _ _ _ _ _ h1 h2 h3 h4=>s_doubt hp hq h1 h2 h3 h4) (zh fun _ _ _ _ _ h1 h2=>s_plan h1 h2) w
end
section
section
variable {c:Cs}{l:List Prb}{w:World}{pa:Option Addr}{pc:Nat}{qa:Option Addr}{qc:Nat}
end
theorem short_one {a:Option Addr}{cap:Nat}{w:World}{sa:Option Addr}{n sc:Nat}(h:Row w a [.slice sa n sc])(hn:n≤maxLen):
 Calls Tryz.prog 14 #[.slice a 1 cap] w fun e w'=>e = .returned (.bool (decide (n≤20)))∧Below w.heap.size w w':=
 (short9_any a [(sa,n,sc)] cap zS (by simp;exact hn) w h).mono (by rintro e w' ⟨rfl,rfl⟩;exact⟨by simp[shortB],Below.refl _ _⟩)
theorem box_case9 (w:World)(c:Cs)(pa:Option Addr)(pc:Nat):∃w1,w.alloc (.cells #[.string c.ware,.int .i64 c.limit,.int .i64 c.by_,.slice pa c.parts.length pc] 24)=w1∧Below w.heap.size w w1∧Box w1 w.heap.size (csCells c pa pc) 24:=
 ⟨_,rfl,by go_grown,Box.new _ _ _⟩
end
section
section
variable {c:Cs}{l:List Prb}{w:World}{pa:Option Addr}{pc:Nat}{qa:Option Addr}{qc:Nat}
end
theorem OpnOk.small {d:Opn}(h:OpnOk d):d.Small:=⟨by have:=h.1;omega,by have:=h.2.1;omega,by have:=h.2.2.1;omega,by have:=h.2.2.2;omega⟩
end
