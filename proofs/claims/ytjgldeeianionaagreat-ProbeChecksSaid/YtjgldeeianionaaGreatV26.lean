/- Walks and plain laws. No condition. -/
import Derived.Test.YtjgldeeianionaaGreatV20
set_option maxHeartbeats 2000000
set_option maxRecDepth 100000
set_option linter.unusedSimpArgs false
set_option linter.unusedVariables false
namespace Go.Proofs.YtjgldeeianionaaGreat
open Go.RowKit
section
attribute [local go_sem] Oper.semAt_some
structure MovedG {α:Type} (f:α→Bool) (l cur:List α) (p q:Nat):Prop where
 lt:p<q
 le:q≤l.length
 len:cur.length=l.length
 done:cur.take p=(l.take q).filter f
 rest:cur.drop q=l.drop q
section
variable {α:Type}{f:α→Bool}{l cur:List α}{p q:Nat}{x:α}
theorem filter_snoc (h:l[q]?=some x):(l.take (q+1)).filter f=(l.take q).filter f++if f x then [x] else []:=by
 rw[List.take_add_one,h,List.filter_append];cases hf:f x<;>simp[hf]
theorem MovedG.at_ (h:MovedG f l cur p q)(hx:l[q]?=some x):cur[q]?=some x:=by
 have h1:(cur.drop q)[0]?=(l.drop q)[0]?:=by rw[h.rest]
 simpa[List.getElem?_drop,hx] using h1
theorem MovedG.pass (h:MovedG f l cur p q)(hx:l[q]?=some x)(h0:f x=false):MovedG f l cur p (q+1):=by
 have hq:q<l.length:=(List.getElem?_eq_some_iff.1 hx).1;refine⟨Nat.lt_succ_of_lt h.lt,hq,h.len,by rw[filter_snoc hx,h.done,h0];simp,?_⟩;have:=congrArg (List.drop 1) h.rest
 simpa[List.drop_drop,Nat.add_comm] using this
theorem MovedG.put (h:MovedG f l cur p q)(hx:l[q]?=some x)(h0:f x=true):MovedG f l (cur.set p x) (p+1) (q+1):=by
 have hq:q<l.length:=(List.getElem?_eq_some_iff.1 hx).1;have hp:=h.lt;have hlen:=h.len;refine⟨zO,hq,by simpa using hlen,?_,?_⟩
 ·rw[filter_snoc hx,←h.done,if_pos h0,List.take_add_one];rw[List.take_set_of_le (Nat.le_refl _),List.getElem?_set_self zO]
  rfl
 ·rw[List.drop_set_of_lt zO];have:=congrArg (List.drop 1) h.rest
  simpa[List.drop_drop,Nat.add_comm] using this
theorem MovedG.start {k:Nat}(hk:l[k]?=some x)(h0:f x=false)(h:∀y∈l.take k,f y=true):MovedG f l l k (k+1):=
 ⟨Nat.lt_succ_self _,(List.getElem?_eq_some_iff.1 hk).1,rfl,by rw[filter_snoc hk,h0,List.filter_eq_self.2 h];simp,rfl⟩
theorem MovedG.end_ (h:MovedG f l cur p l.length):cur.take p=l.filter f:=by
 have:=h.done;rwa [List.take_length] at this
theorem MovedG.plen (h:MovedG f l cur p l.length):(l.filter f).length=p:=by
 rw[←h.end_,List.length_take,h.len];have:=h.lt;omega
end
theorem first_or {α:Type}(f:α→Bool):∀l:List α,(∀x∈l,f x=false)∨∃k x,l[k]?=some x∧f x=true∧∀y∈l.take k,f y=false
 |[]=>.inl zS
 |y::l=>by
  rcases hy:f y with _|_
  ·rcases first_or f l with h|⟨k,x,h1,h2,h3⟩
   ·exact .inl (by simpa[hy] using h)
   ·exact .inr ⟨k+1,x,by simpa using h1,h2,by simpa[hy] using h3⟩
  ·exact .inr ⟨0,y,rfl,hy,by simp⟩
def idxZ {α:Type}(f:α→Bool)(l:List α):Int:=match l.findIdx? f with|some k=>k|none=>-1
theorem idxZ_no {α:Type}{f:α→Bool}{l:List α}(h:∀x∈l,f x=false):idxZ f l = -1:=by
 have:l.findIdx? f=none:=List.findIdx?_eq_none_iff.2 h
 simp[idxZ,this]
theorem idxZ_at {α:Type}{f:α→Bool}{l:List α}{k:Nat}{x:α}(hk:l[k]?=some x)(hx:f x=true)(h:∀y∈l.take k,f y=false):idxZ f l=k:=by
 obtain⟨hkl,rfl⟩:=List.getElem?_eq_some_iff.1 hk;have:l.findIdx? f=some k:=by
  rw[List.findIdx?_eq_some_iff_getElem];refine⟨hkl,hx,fun j hj=>?_⟩;have:=h l[j] (List.mem_of_getElem? (i:=j) (by rw[List.getElem?_take,if_pos hj];simp[Nat.lt_trans hj hkl]))
  simp[this]
 simp[idxZ,this]
theorem idxZ_any {α:Type}(f:α→Bool)(l:List α):decide (0≤idxZ f l)=l.any f:=by
 rcases first_or f l with h|⟨k,x,h1,h2,h3⟩
 ·rw[idxZ_no h];have:l.any f=false:=by rw[List.any_eq_false];intro x hx;simp[h x hx]
  rw[this];rfl
 ·rw[idxZ_at h1 h2 h3];have:l.any f=true:=List.any_eq_true.2 ⟨x,List.mem_of_getElem? h1,h2⟩;rw[this];simp
def RowFn (K:Nat)(caps:Array Value)(w0:World)(B:Nat)(p:List Nat→Bool)(L:List (List Nat)):Prop:=
 (∀args W,(callFunc K args).run Tryz.prog W = .ok (.enter K args) W)∧∀W x ra rc,Keep (fun k=>k<B) w0 W→x∈L→Ints W ra (natInts x)→x.length≤rc →
  Calls Tryz.prog K (#[.slice ra x.length rc]++caps) W fun e W'=>e = .returned (.bool (p x))∧Below W.heap.size W W'
def RowsAt (w:World)(a:Option Addr)(L:List (List Nat)):Prop:=∀k x,L[k]?=some x→∃b o ra rc,a=some ⟨b,o,none⟩∧w.cell? ⟨b,o+k,none⟩=some (.slice ra x.length rc)∧Ints w ra (natInts x)∧x.length≤rc
theorem RowsAt.below {w w':World}{a:Option Addr}{L:List (List Nat)}(h:RowsAt w a L)(hb:Below w.heap.size w w'):RowsAt w' a L:=fun k x hx=>by
 obtain⟨b,o,ra,rc,h1,h2,h3,h4⟩:=h k x hx;exact⟨b,o,ra,rc,h1,below_cell hb h2,h3.below hb,h4⟩
theorem indexRows_any {K:Nat}{caps:Array Value}{w0:World}{B:Nat}{p:List Nat→Bool}{L:List (List Nat)}(hf:RowFn K caps w0 B p L)(a:Option Addr)(c:Nat)(w:World)(hw:Keep (fun k=>k<B) w0 w)(h:RowsAt w a L)(hl:L.length≤1000000):
 Calls Tryz.prog 185 #[.slice a L.length c,.func (.func K) #[] caps] w fun e w'=>e = .returned (.int .i64 (idxZ p L))∧Below w.heap.size w w':=by
 have hent:=hf.1;have HF:=zh hf.2;have HW:=zh hw;clear hf hw
 go_enter Tryz.func185,Tryz.ntmps185
 go_wp2
 go_loopw [8] (fun i wr=>∃k:Nat,k≤L.length∧i = .int .i64 k∧(∀x∈L.take k,p x=false)∧Below w.heap.size w wr) (fun i _=>L.length-(intOf i).toNat)
 case atStart=>exact⟨0,Nat.zero_le _,rfl,by simp,Below.refl _ _⟩
 case round=>
  obtain⟨k,hk,rfl,hall,hb⟩:=hrel;have HA:=zh hall;have HB:=zh hb;clear hall hb
  by_cases hlt:k<L.length
  ·obtain⟨x,hx⟩:=get_of_lt L hlt;obtain⟨b,o,ra,rc,rfl,c1,hi,hrc⟩:=(h.below HB.out) k x hx;have hcl:=HF.out wr x ra rc (HW.out.trans (Keep.of_below' (HB.out.mono (Nat.le_refl _)))) (List.mem_of_getElem? hx) hi hrc;have hkn:(k:Int)<(L.length:Int):=by omega
   have HCL:=zh hcl;have HX:=zh hx;clear hx hcl hi
   rcases hp:p x with _|_
   ·have HP:=zh hp;rw[hp] at HCL;clear hp
    go_wp2_with fail
    refine zM HCL ?_;rintro e w2 ⟨rfl,hb2⟩;have HB2:=zh (HB.out.trans (hb2.mono HB.out.size));clear hb2 c1
    go_wp2_with fail
    go_roundw
    case rel=>
     refine⟨k+1,zO,zN,fun y hy=>?_,HB2.out⟩;rw[List.take_add_one,HX.out] at hy;simp at hy
     rcases hy with hy|rfl
     ·exact HA.out y hy
     ·exact HP.out
    case measure=>exact zJ
   ·have HP:=zh hp;rw[hp] at HCL;clear hp
    go_wp2_with fail
    refine zM HCL ?_;rintro e w2 ⟨rfl,hb2⟩;have HB2:=zh (HB.out.trans (hb2.mono HB.out.size));clear hb2 c1
    go_wp2_with fail
    go_ret
    exact⟨by rw[idxZ_at HX.out HP.out HA.out];rfl,HB2.out⟩
  ·go_wp2_with fail
   go_ret
   exact⟨by rw[idxZ_no (fun x hx=>HA.out x (by rw[List.take_of_length_le zO];exact hx))];rfl,HB.out⟩
theorem containsRows_any {K:Nat}{caps:Array Value}{w0:World}{B:Nat}{p:List Nat→Bool}{L:List (List Nat)}(hf:RowFn K caps w0 B p L)(a:Option Addr)(c:Nat)(w:World)(hw:Keep (fun k=>k<B) w0 w)(h:RowsAt w a L)(hl:L.length≤1000000):
 Calls Tryz.prog 124 #[.slice a L.length c,.func (.func K) #[] caps] w fun e w'=>e = .returned (.bool (L.any p))∧Below w.heap.size w w':=by
 have HI:=zh (indexRows_any hf a c w hw h hl);clear hf hw h
 go_enter Tryz.func124,Tryz.ntmps124
 go_wp2_with fail
 refine zM HI ?_;rintro e w2 ⟨rfl,hb2⟩;have HB2:=zh hb2;obtain⟨n,hn⟩:=zx (idxZ p L);have hd:decide (0≤n)=L.any p:=by rw[←hn,idxZ_any]
 rw[hn];clear hn hb2;have HD:=zh hd;clear hd
 go_wp2_with fail
 go_ret
 exact⟨by rw[HD.out];rfl,HB2.out⟩
abbrev RowE:=List Nat×Option Addr×Nat
def hdrE (z:RowE):Value:=.slice z.2.1 z.1.length z.2.2
def RowsE (T:TypeId)(B:Nat)(Q:Nat→Prop)(W:World)(v:Value)(zs:List RowE):Prop:=
 W.ownsRow B T 1 v zs.length (zs.map hdrE)∧∀z∈zs,Ints W z.2.1 (natInts z.1)∧z.1.length≤z.2.2∧∀b o,z.2.1=some ⟨b,o,none⟩→0<z.1.length→v.ownBlock≠some b∧Q b
theorem RowsG.rowsE {T:TypeId}{Q:Nat→Prop}{B:Nat}{W:World}{v:Value}{L:List (List Nat)}(h:RowsG T B Q W v (rowsN L)):∃zs:List RowE,zs.map (·.1)=L∧RowsE T B Q W v zs:=by
 obtain⟨ys,h1,h2,h3⟩:=h;have hl:ys.length=L.length:=by have:=congrArg List.length h1;simpa[rowsN] using this
 have hat:∀(k:Nat) (x:List Nat) (y:RowG),L[k]?=some x→ys[k]?=some y→y.1=rowN x:=fun k x y hx hy=>by
  have:=congrArg (fun l=>l[k]?) h1
  simpa[rowsN,hx,hy] using this
 refine⟨(L.zip ys).map fun p=>(p.1,p.2.2.1,p.2.2.2),?_,?_,?_⟩
 ·apply List.ext_getElem?
  intro k;rw[List.getElem?_map,List.getElem?_map]
  rcases hk:(L.zip ys)[k]? with _|p
  ·rw[List.getElem?_eq_none_iff,List.length_zip] at hk;simp only[Option.map_none];rw[List.getElem?_eq_none zO]
  ·rw[List.getElem?_zip_eq_some] at hk
   simp[hk.1]
 ·have hm:((L.zip ys).map fun p=>((p.1,p.2.2.1,p.2.2.2):RowE)).map hdrE=ys.map hdrG:=by
   apply List.ext_getElem?
   intro k;rw[List.getElem?_map,List.getElem?_map,List.getElem?_map]
   rcases hk:(L.zip ys)[k]? with _|p
   ·rw[List.getElem?_eq_none_iff,List.length_zip] at hk;rw[List.getElem?_eq_none (l:=ys) zO];rfl
   ·rw[List.getElem?_zip_eq_some] at hk;have:=hat k _ _ hk.1 hk.2
    simp[hk.2,hdrE,hdrG,this,rowN_len]
  rw[hm,show((L.zip ys).map fun p=>((p.1,p.2.2.1,p.2.2.2):RowE)).length=(rowsN L).length by simp[rowsN,hl]];exact h2
 ·intro z hz;obtain⟨p,hp,rfl⟩:=List.mem_map.1 hz;obtain⟨k,hk⟩:=List.mem_iff_getElem?.1 hp;rw[List.getElem?_zip_eq_some] at hk;have e:=hat k _ _ hk.1 hk.2;obtain⟨a1,a2,a3⟩:=h3 p.2 (List.mem_of_getElem? hk.2);rw[e,rowN_len] at a2 a3;rw[e] at a1;exact⟨a1,a2,a3⟩
def IntsHi (B M:Nat)(w:World)(a:Option Addr)(l:List Int):Prop:=∀k v,(l.map (Value.int .i64))[k]?=some v→∃b o,a=some ⟨b,o,none⟩∧B≤b∧b<M∧w.cell? ⟨b,o+k,none⟩=some v
theorem IntsHi.at_ {B M:Nat}{w:World}{a:Option Addr}{l:List Int}(h:IntsHi B M w a l):Ints w a l:=fun k v hv=>by
 obtain⟨b,o,h1,_,_,h2⟩:=h k v hv;exact⟨b,o,h1,h2⟩
theorem IntsHi.keep {B M:Nat}{w w':World}{a:Option Addr}{l:List Int}(h:IntsHi B M w a l)(hk:Keep (fun k=>B≤k∧k<M) w w'):IntsHi B M w' a l:=fun k v hv=>by
 obtain⟨b,o,h1,h2,h3,h4⟩:=h k v hv;exact⟨b,o,h1,h2,h3,hk.cell ⟨h2,h3⟩ h4⟩
theorem IntsHi.below {B M:Nat}{w w':World}{a:Option Addr}{l:List Int}(h:IntsHi B M w a l)(hk:Below w.heap.size w w'):IntsHi B M w' a l:=h.keep (Keep.of_below' hk)
theorem IntsHi.mono {B B' M M':Nat}{w:World}{a:Option Addr}{l:List Int}(h:IntsHi B M w a l)(hB:B'≤B)(hM:M≤M'):IntsHi B' M' w a l:=fun k v hv=>by
 obtain⟨b,o,h1,h2,h3,h4⟩:=h k v hv;exact⟨b,o,h1,zO,zO,h4⟩
def RowsHi (B M:Nat)(w:World)(a:Option Addr)(L:List (List Nat)):Prop:=∀k x,L[k]?=some x→∃b o ra rc,a=some ⟨b,o,none⟩∧B≤b∧b<M∧w.cell? ⟨b,o+k,none⟩=some (.slice ra x.length rc)∧IntsHi B M w ra (natInts x)∧x.length≤rc
theorem RowsHi.at_ {B M:Nat}{w:World}{a:Option Addr}{L:List (List Nat)}(h:RowsHi B M w a L):RowsAt w a L:=fun k x hx=>by
 obtain⟨b,o,ra,rc,h1,_,_,h2,h3,h4⟩:=h k x hx;exact⟨b,o,ra,rc,h1,h2,h3.at_,h4⟩
theorem RowsHi.keep {B M:Nat}{w w':World}{a:Option Addr}{L:List (List Nat)}(h:RowsHi B M w a L)(hk:Keep (fun k=>B≤k∧k<M) w w'):RowsHi B M w' a L:=fun k x hx=>by
 obtain⟨b,o,ra,rc,h1,h2,h3,h4,h5,h6⟩:=h k x hx;exact⟨b,o,ra,rc,h1,h2,h3,hk.cell ⟨h2,h3⟩ h4,h5.keep hk,h6⟩
theorem RowsHi.below {B M:Nat}{w w':World}{a:Option Addr}{L:List (List Nat)}(h:RowsHi B M w a L)(hk:Below w.heap.size w w'):RowsHi B M w' a L:=h.keep (Keep.of_below' hk)
theorem RowsHi.mono {B B' M M':Nat}{w:World}{a:Option Addr}{L:List (List Nat)}(h:RowsHi B M w a L)(hB:B'≤B)(hM:M≤M'):RowsHi B' M' w a L:=fun k x hx=>by
 obtain⟨b,o,ra,rc,h1,h2,h3,h4,h5,h6⟩:=h k x hx;exact⟨b,o,ra,rc,h1,zO,zO,h4,h5.mono hB hM,h6⟩
theorem rowE_hi {B:Nat}{w:World}{a:Option Addr}{zs:List RowE}(h:RowOwn B w a (zs.map hdrE))(hz:∀z∈zs,Ints w z.2.1 (natInts z.1)∧z.1.length≤z.2.2∧∀b o,z.2.1=some ⟨b,o,none⟩→0<z.1.length→B≤b):RowsHi B w.heap.size w a (zs.map (·.1)):=by
 intro j x hx;rw[List.getElem?_map] at hx;obtain⟨z,hzj,rfl⟩:=Option.map_eq_some_iff.1 hx;obtain⟨b,o,e,h1,h2,_⟩:=h j (hdrE z) (by rw[List.getElem?_map,hzj];rfl);obtain⟨a1,a2,a3⟩:=hz z (List.mem_of_getElem? hzj);refine⟨b,o,z.2.1,z.2.2,e,h1,lt_of_cell h2,h2,fun k u hu=>?_,a2⟩;obtain⟨b2,o2,e2,hc⟩:=a1 k u hu;exact⟨b2,o2,e2,a3 _ _ e2 (by have:=(List.getElem?_eq_some_iff.1 hu).1;simp[natInts] at this;omega),lt_of_cell hc,hc⟩
theorem RowsG.hi {T:TypeId}{B:Nat}{W:World}{v:Value}{L:List (List Nat)}(h:RowsG T B (fun b=>B≤b) W v (rowsN L)):∃a cap,v = .slice a L.length cap∧L.length≤cap∧RowsHi B W.heap.size W a L:=by
 obtain⟨zs,rfl,h1,h2⟩:=h.rowsE;obtain⟨a,cap,hv,hr,hc⟩:=ownsRow_own h1;exact⟨a,cap,by simpa using hv,by simpa using hc,rowE_hi hr fun z hz=>⟨(h2 z hz).1,(h2 z hz).2.1,fun b o hb h0=>((h2 z hz).2.2 b o hb h0).2⟩⟩
theorem keep_setCells {K:Nat→Prop}{b:Nat}(hb:¬K b):∀(vs:List Value) (o:Nat) {a w:World},Keep K a w→Keep K a (w.setCells b o vs)
 |[],_,_,_,h=>h
 |v::vs,o,_,_,h=>keep_setCells hb vs (o+1) (h.setCell (.inl hb) v)
theorem zero_row:∀w,(zeroValue 26).run Tryz.prog w = .ok (.slice none 0 0) w:=fun w=>by go_simp
theorem deleteRows_any {K:Nat}{caps:Array Value}{w0:World}{B:Nat}{p:List Nat→Bool}{L:List (List Nat)}(hf:RowFn K caps w0 B p L)(v:Value)(w:World)(hw:Keep (fun k=>k<B) w0 w)(hBw:B≤w.heap.size)(h:RowsG 26 B (fun b=>B≤b) w v (rowsN L))(hl:L.length≤1000000):
 Calls Tryz.prog 165 #[v,.func (.func K) #[] caps] w fun e w'=>∃a' c',e = .returned (.slice a' (L.filter fun x=>!p x).length c')∧RowsHi B w'.heap.size w' a' (L.filter fun x=>!p x)∧Below B w w':=by
 obtain⟨zs,rfl,hrow,hall⟩:=h.rowsE;obtain⟨a,c,rfl,hro,hlc⟩:=ownsRow_own hrow;have hz:∀z∈zs,Ints w z.2.1 (natInts z.1)∧z.1.length≤z.2.2∧∀b o,z.2.1=some ⟨b,o,none⟩→0<z.1.length→B≤b∧(∀b' o',a=some ⟨b',o',none⟩→b≠b'):=fun z hz=>by
  obtain⟨a1,a2,a3⟩:=hall z hz;refine⟨a1,a2,fun b o hb h0=>⟨(a3 b o hb h0).2,fun b' o' he hbb=>(a3 b o hb h0).1 ?_⟩⟩;rw[he,hbb];rfl
 have hhi:=rowE_hi hro fun z hz'=>⟨(hz z hz').1,(hz z hz').2.1,fun b o hb h0=>((hz z hz').2.2 b o hb h0).1⟩
 have hat:=hhi.at_;have HHI:=zh hhi;have HRO:=zh hro;have HZ:=zh hz;clear hhi hro hz hrow hall;have hent:=hf.1;have hix:=indexRows_any hf a c w hw hat hl;rw[List.length_map] at hix;have HIX:=zh hix;have HF:=zh hf.2;have HW:=zh hw;clear hf hw hat h hix
 rcases first_or p (zs.map (·.1)) with hall|⟨k,x,hk,hx,hall⟩
 ·have HC1:=zh (idxZ_no hall);rw[HC1.out] at HIX;have HA:=zh (show((zs.map (·.1)).filter fun x=>!p x)=zs.map (·.1) from List.filter_eq_self.2 fun x hx=>by simp[hall x hx]);clear hall HC1
  go_enter Tryz.func165,Tryz.ntmps165
  go_wp2_with fail
  refine zM HIX ?_;rintro e w' ⟨rfl,hb⟩;have HB:=zh hb;clear hb
  go_wp2_with fail
  go_ret
  rw[HA.out];exact⟨a,c,by rw[List.length_map];rfl,(HHI.out.below HB.out).mono (Nat.le_refl _) HB.out.size,HB.out.mono hBw⟩
 ·have HC1:=zh (idxZ_at hk hx hall);rw[HC1.out] at HIX;obtain⟨z,hzk,rfl⟩:∃z,zs[k]?=some z∧z.1=x:=by
   rw[List.getElem?_map] at hk;obtain⟨z,h1,h2⟩:=Option.map_eq_some_iff.1 hk;exact⟨z,h1,h2⟩
  have hkl:k<zs.length:=(List.getElem?_eq_some_iff.1 hzk).1;obtain⟨g,o,rfl,hbB,_⟩:=HRO.out k (hdrE z) (by rw[List.getElem?_map,hzk];rfl);have HM:=zh (MovedG.start (f:=fun z:RowE=>!p z.1) hzk (by simp[hx]) (fun y hy=>by
   have:y.1∈(zs.map (·.1)).take k:=by rw[←List.map_take];exact List.mem_map_of_mem hy
   simp[hall _ this]))
  have hk1:((k:Int) == -1)=false:=by simp
  have hl:zs.length≤1000000:=by simpa using hl
  have HFL:=zh (show((zs.map (·.1)).filter fun x=>!p x)=(zs.filter fun z=>!p z.1).map (·.1) by rw[List.filter_map];rfl);have hkw:IntKind.i64.wrap ((k:Int)+1)=(k:Int)+1:=IntWalk.i64_in _ zO;clear hk hx hall HC1 hzk
  go_enter Tryz.func165,Tryz.ntmps165
  go_wp2_with fail
  refine zM HIX ?_;rintro e w1 ⟨rfl,hb1⟩;have HB1:=zh hb1;clear hb1
  go_wp2_with fail
  go_loopw [5,6] (fun i j wr=>∃(m q:Nat) (cur:List RowE),i = .int .i64 m∧j = .int .i64 q∧MovedG (fun z:RowE=>!p z.1) zs cur m q∧RowOwn B wr (some ⟨g,o,none⟩) (cur.map hdrE)∧Keep (fun k=>k≠g) w wr) (fun _ j _=>zs.length-(intOf j).toNat)
  case atStart=>exact⟨k,k+1,zs,rfl,by first|rfl|go_num,HM.out,HRO.out.below HB1.out,Keep.of_below' HB1.out⟩
  case round=>
   clear HM HB1 hkw;obtain⟨m,q,cur,rfl,rfl,hM,hR,hB⟩:=hrel;have hpq:=hM.lt;have hlen:=hM.len;have hle:=hM.le;have MM:=zh hM;have RR:=zh hR;have BB:=zh hB;clear hM hR hB
   by_cases hlt:q<zs.length
   ·obtain⟨y,hy⟩:=get_of_lt zs hlt;have hcy:=MM.out.at_ hy;obtain⟨b1,o1,e1,_,c1,f1⟩:=RR.out q (hdrE y) (by rw[List.getElem?_map,hcy];rfl);cases e1;obtain⟨u,hu⟩:=get_of_lt cur (k:=m) zO;obtain⟨b1,o1,e1,_,c2,f2⟩:=RR.out m (hdrE u) (by rw[List.getElem?_map,hu];rfl);cases e1;obtain⟨i1,i2,i3⟩:=HZ.out y (List.mem_of_getElem? hy);have hi:Ints wr y.2.1 (natInts y.1):=fun j w' hw'=>by
     obtain⟨b2,o2,e2,hc⟩:=i1 j w' hw';exact⟨b2,o2,e2,BB.out.cell ((i3 b2 o2 e2 (by have:=(List.getElem?_eq_some_iff.1 hw').1;simp[natInts] at this;omega)).2 _ _ rfl) hc⟩
    have hcl:=HF.out wr y.1 y.2.1 y.2.2 (HW.out.trans (BB.out.mono fun k hk=>by omega)) (List.mem_map_of_mem (List.mem_of_getElem? hy)) hi i2;unfold hdrE at c1 c2;have hqn:(q:Int)<(zs.length:Int):=by omega
    have hmn:(m:Int)<(zs.length:Int):=by omega
    have HY:=zh hy;have HU:=zh hu;have HCL:=zh hcl;clear hy hcy hu i1 i2 i3 hi hcl
    rcases hp:p y.1 with _|_
    ·have HP:=zh hp;rw[hp] at HCL;clear hp
     go_wp2_with fail
     refine zM HCL ?_;rintro e w2 ⟨rfl,hb2⟩;have RR2:=zh (RR.out.below hb2);have BB2:=zh (BB.out.trans (Keep.of_below' hb2));obtain⟨b1,o1,e1,_,d2,g2⟩:=RR2.out m (hdrE u) (by rw[List.getElem?_map,HU.out];rfl);cases e1;unfold hdrE at d2;clear hb2 c1 c2 f1 f2
     go_wp2_with fail
     go_roundw
     case rel=>
      refine⟨m+1,q+1,cur.set m y,zN,zN,MM.out.put HY.out (by simp[HP.out]),?_,BB2.out.setCell (.inl zS) _⟩;rw[List.map_set];exact RR2.out.set _
     case measure=>exact zJ
    ·have HP:=zh hp;rw[hp] at HCL;clear hp
     go_wp2_with fail
     refine zM HCL ?_;rintro e w2 ⟨rfl,hb2⟩;have RR2:=zh (RR.out.below hb2);have BB2:=zh (BB.out.trans (Keep.of_below' hb2));clear hb2 c1 c2 f1 f2
     go_wp2_with fail
     go_roundw
     case rel=>exact⟨m,q+1,cur,zN,zN,MM.out.pass HY.out (by simp[HP.out]),RR2.out,BB2.out⟩
     case measure=>exact zJ
   ·have hq:q=zs.length:=by omega
    subst hq;have hcl:∀ty,(Builtin.clear_ #[49] ty #[.slice (some ⟨g,o+m,none⟩) (zs.length-m) (c-m)]).run Tryz.prog wr = .ok (.tuple #[]) (wr.setCells g (o+m) (List.replicate (zs.length-m) (.slice none 0 0))):=
     fun ty=>Lib.run_clear_slice wr _ _ ty _ Tryz.underlying49 zero_row rfl rfl g (o+m) _ _ zO
      (fun j hj=>by
       obtain⟨y,hy⟩:=get_of_lt cur (k:=m+j) zO;obtain⟨b1,o1,e1,_,c2,f2⟩:=RR.out (m+j) (hdrE y) (by rw[List.getElem?_map,hy];rfl);cases e1;rw[Nat.add_assoc,c2];rfl)
      (fun j hj=>by
       obtain⟨y,hy⟩:=get_of_lt cur (k:=m+j) zO;obtain⟨b1,o1,e1,_,c2,f2⟩:=RR.out (m+j) (hdrE y) (by rw[List.getElem?_map,hy];rfl);cases e1;rw[Nat.add_assoc,f2])
    have hkS:Keep (fun k=>k≠g) w (wr.setCells g (o+m) (List.replicate (zs.length-m) (.slice none 0 0))):=keep_setCells (fun h=>h rfl) _ _ BB.out;have hcut:=RR.out.cut (p:=m) (List.replicate (zs.length-m) (.slice none 0 0));rw[←List.map_take,MM.out.end_] at hcut;have HKS:=zh hkS;have HCT:=zh hcut;have HPL:=zh MM.out.plen;clear hkS hcut
    go_wp2_with fail
    go_ret
    have hlf:((zs.map (·.1)).filter fun x=>!p x).length=m:=by rw[HFL.out,List.length_map];exact HPL.out
    refine⟨some ⟨g,o,none⟩,c,by rw[hlf];rfl,?_,?_⟩
    ·rw[HFL.out];refine rowE_hi HCT.out fun z hz=>?_
     obtain⟨a1,a2,a3⟩:=HZ.out z (List.mem_filter.1 hz).1;refine⟨fun j w' hw'=>?_,a2,fun b o' e h0=>(a3 b o' e h0).1⟩;obtain⟨b2,o2,e2,hc⟩:=a1 j w' hw';exact⟨b2,o2,e2,HKS.out.cell ((a3 b2 o2 e2 (by have:=(List.getElem?_eq_some_iff.1 hw').1;simp[natInts] at this;omega)).2 _ _ rfl) hc⟩
    ·exact(HKS.out.mono fun k (hk:k<B)=>by omega).below hBw
theorem pairCells_at:∀{l:List (Nat×Nat)} {k:Nat} {p:Nat×Nat},l[k]?=some p→(pairCells l)[k*2]?=some (.int .i64 (p.1:Int))∧(pairCells l)[k*2+1]?=some (.int .i64 (p.2:Int))
 |[],k,p,h=>by simp at h
 |y::l,0,p,h=>by simp at h;subst h;simp[pairCells]
 |y::l,k+1,p,h=>by
  have ih:=pairCells_at (l:=l) (k:=k) (p:=p) (by simpa using h);have e:pairCells (y::l) = .int .i64 (y.1:Int) :: .int .i64 (y.2:Int)::pairCells l:=rfl;rw[e,show(k+1)*2=k*2+1+1 by omega,show k*2+1+1+1=(k*2+1)+1+1 by omega]
  simpa using ih
theorem pairCells_len (l:List (Nat×Nat)):(pairCells l).length=l.length*2:=by
 induction l with
 |nil=>rfl
 |cons y l ih=>simp[pairCells] at ih ⊢;omega
theorem pairCells_set:∀(l:List (Nat×Nat)) (k:Nat) (p:Nat×Nat),((pairCells l).set (k*2) (.int .i64 (p.1:Int))).set (k*2+1) (.int .i64 (p.2:Int))=pairCells (l.set k p)
 |[],k,p=>by simp[pairCells]
 |y::l,0,p=>by simp[pairCells]
 |y::l,k+1,p=>by
  have ih:=pairCells_set l k p;have e:∀(y:Nat×Nat) l,pairCells (y::l) = .int .i64 (y.1:Int) :: .int .i64 (y.2:Int)::pairCells l:=fun _ _=>rfl
  rw[e,show(k+1)*2=k*2+1+1 by omega,show k*2+1+1+1=(k*2+1)+1+1 by omega,List.set_cons_succ,List.set_cons_succ,List.set_cons_succ,List.set_cons_succ,ih,List.set_cons_succ,e]
theorem pairCells_take (l:List (Nat×Nat)):∀k,(pairCells l).take (k*2)=pairCells (l.take k):=by
 induction l with
 |nil=>intro k;simp[pairCells]
 |cons y l ih=>
  intro k;have e:∀(y:Nat×Nat) l,pairCells (y::l) = .int .i64 (y.1:Int) :: .int .i64 (y.2:Int)::pairCells l:=fun _ _=>rfl
  rcases k with _|k
  ·rfl
  ·rw[e,show(k+1)*2=k*2+1+1 by omega,List.take_succ_cons,List.take_succ_cons,ih,List.take_succ_cons,e]
def PairsAt (w:World)(a:Option Addr)(l:List (Nat×Nat)):Prop:=Row w a (pairCells l)
theorem PairsAt.at_ {w:World}{a:Option Addr}{l:List (Nat×Nat)}(h:PairsAt w a l){k:Nat}{p:Nat×Nat}(hk:l[k]?=some p):∃b o,a=some ⟨b,o,none⟩∧w.cell? ⟨b,o+k*2,none⟩=some (.int .i64 (p.1:Int))∧w.cell? ⟨b,o+k*2+1,none⟩=some (.int .i64 (p.2:Int)):=by
 obtain⟨h1,h2⟩:=pairCells_at hk;obtain⟨b,o,e,c1⟩:=h _ _ h1;obtain⟨b',o',e',c2⟩:=h _ _ h2;rw[e] at e';cases e';exact⟨b,o,e,c1,by rw[Nat.add_assoc];exact c2⟩
theorem PairsAt.below {w w':World}{a:Option Addr}{l:List (Nat×Nat)}(h:PairsAt w a l)(hb:Below w.heap.size w w'):PairsAt w' a l:=Row.below h hb
theorem indexPair_any (a:Option Addr)(n:Nat)(l:List (Nat×Nat))(p:Nat×Nat)(w:World)(h:PairsAt w a l)(hl:l.length≤100000):
 Calls Tryz.prog 156 #[.slice a l.length n,.agg #[.int .i64 (p.1:Int),.int .i64 (p.2:Int)]] w fun e w'=>e = .returned (.int .i64 (idxZ (fun q=>p==q) l))∧Below w.heap.size w w':=by
 obtain⟨w1,hw1⟩:=zx (w.alloc (.cells #[.int .i64 (p.1:Int),.int .i64 (p.2:Int)] 57));have hB1:Below w.heap.size w w1:=by rw[←hw1];go_grown
 have hg:Box w1 w.heap.size #[.int .i64 (p.1:Int),.int .i64 (p.2:Int)] 57:=by rw[←hw1];exact Box.new _ _ _
 have HW:=zh hw1;have HB:=zh hB1;have HG:=zh hg;have HP:=zh (h.below hB1);clear hw1 hB1 hg h
 go_enter Tryz.func156,Tryz.ntmps156
 go_upto_region 1 with fail
 simp only[HW.out]
 go_wp2_with fail
 go_loopw [8] (fun i wr=>∃k:Nat,k≤l.length∧i = .int .i64 k∧(∀x∈l.take k,(p==x)=false)∧Below w1.heap.size w1 wr) (fun i _=>l.length-(intOf i).toNat)
 case atStart=>exact⟨0,Nat.zero_le _,rfl,by simp,Below.refl _ _⟩
 case round=>
  obtain⟨k,hk,rfl,hall,hb⟩:=hrel;have HA:=zh hall;have HB2:=zh hb;have e1:=(HG.out.below' hb).cell;clear hall hb
  by_cases hlt:k<l.length
  ·obtain⟨x,hx⟩:=get_of_lt l hlt;obtain⟨b,o,rfl,c1,c2⟩:=(HP.out.below HB2.out).at_ hx;have hkn:(k:Int)<(l.length:Int):=by omega
   have HX:=zh hx;clear hx;have hbe:(p==x)=(((p.1:Int)==(x.1:Int))&&((p.2:Int)==(x.2:Int))):=by
    rw[Bool.eq_iff_iff];simp[Prod.ext_iff];omega
   have HBE:=zh hbe;clear hbe
   by_cases h1:(p.1:Int)=x.1
   ·have h1b:((p.1:Int)==(x.1:Int))=true:=beq_iff_eq.2 h1
    by_cases h2:(p.2:Int)=x.2
    ·have h2b:((p.2:Int)==(x.2:Int))=true:=beq_iff_eq.2 h2;have HQ:=zh (show(p==x)=true by rw[HBE.out,h1b,h2b];rfl);clear h1 h2
     go_wp2_with fail
     go_quiet (fail)
     go_wp2_with fail
     go_ret
     exact⟨by rw[idxZ_at HX.out HQ.out HA.out];rfl,below_drewN (HB.out.trans (HB2.out.mono HB.out.size)) _⟩
    ·have h2b:((p.2:Int)==(x.2:Int))=false:=beq_eq_false_iff_ne.2 h2;have HQ:=zh (show(p==x)=false by rw[HBE.out,h1b,h2b];rfl);clear h1 h2
     go_wp2_with fail
     go_quiet (fail)
     go_wp2_with fail
     go_roundw
     case rel=>
      refine⟨k+1,zO,zN,fun y hy=>?_,below_drewN HB2.out _⟩;rw[List.take_add_one,HX.out] at hy;simp at hy
      rcases hy with hy|rfl
      ·exact HA.out y hy
      ·exact HQ.out
     case measure=>exact zJ
   ·have h1b:((p.1:Int)==(x.1:Int))=false:=beq_eq_false_iff_ne.2 h1;have HQ:=zh (show(p==x)=false by rw[HBE.out,h1b];rfl);clear h1
    go_wp2_with fail
    go_quiet (fail)
    go_wp2_with fail
    go_roundw
    case rel=>
     refine⟨k+1,zO,zN,fun y hy=>?_,below_drewN HB2.out _⟩;rw[List.take_add_one,HX.out] at hy;simp at hy
     rcases hy with hy|rfl
     ·exact HA.out y hy
     ·exact HQ.out
    case measure=>exact zJ
  ·go_wp2_with fail
   go_ret
   exact⟨by rw[idxZ_no (fun x hx=>HA.out x (by rw[List.take_of_length_le zO];exact hx))];rfl,HB.out.trans (HB2.out.mono HB.out.size)⟩
theorem containsPair_any (a:Option Addr)(n:Nat)(l:List (Nat×Nat))(p:Nat×Nat)(w:World)(h:PairsAt w a l)(hl:l.length≤100000):
 Calls Tryz.prog 74 #[.slice a l.length n,.agg #[.int .i64 (p.1:Int),.int .i64 (p.2:Int)]] w fun e w'=>e = .returned (.bool (l.any fun q=>p==q))∧Below w.heap.size w w':=by
 obtain⟨w1,hw1⟩:=zx (w.alloc (.cells #[.int .i64 (p.1:Int),.int .i64 (p.2:Int)] 57));have hB1:Below w.heap.size w w1:=by rw[←hw1];go_grown
 have hg:Box w1 w.heap.size #[.int .i64 (p.1:Int),.int .i64 (p.2:Int)] 57:=by rw[←hw1];exact Box.new _ _ _
 have HI:=zh (indexPair_any a n l p w1 (h.below hB1) hl);have HW:=zh hw1;have HB:=zh hB1;have e1:=hg.cell;clear hw1 hB1 hg h
 go_enter Tryz.func74,Tryz.ntmps74
 go_upto_region 1 with fail
 simp only[HW.out]
 go_wp2_with fail
 refine zM HI ?_;rintro e w2 ⟨rfl,hb2⟩;have HB2:=zh (HB.out.trans (hb2.mono HB.out.size));obtain⟨m,hm⟩:=zx (idxZ (fun q=>p==q) l);have hd:decide (0≤m)=l.any (fun q=>p==q):=by rw[←hm,idxZ_any]
 rw[hm];have HD:=zh hd;clear hm hb2 hd e1
 go_wp2_with fail
 go_ret
 exact⟨by rw[HD.out];rfl,HB2.out⟩
end
