/- The walks and plain laws of: MQRows2 MQOpen MQPairs. No condition. -/
import Derived.Test.YtjgldeeianionaaGreatT06
import Derived.Test.YtjgldeeianionaaGreatT12
import Derived.Test.YtjgldeeianionaaGreatT20
import Derived.Test.YtjgldeeianionaaGreatT01
set_option maxHeartbeats 4000000
set_option maxRecDepth 100000
set_option linter.unusedSimpArgs false
set_option linter.unusedVariables false
namespace Go.Proofs.YtjgldeeianionaaGreat
open Go.RowKit
attribute [local go_sem] Oper.semAt_some
abbrev RowE:=List Nat×Option Addr×Nat
def hdrE (z:RowE):Value:=.slice z.2.1 z.1.length z.2.2
def RowsE (T:TypeId)(B:Nat)(Q:Nat→Prop)(W:World)(v:Value)(zs:List RowE):Prop:=
 W.ownsRow B T 1 v zs.length (zs.map hdrE)∧∀z∈zs,Ints W z.2.1 (natInts z.1)∧z.1.length≤z.2.2∧∀b o,z.2.1=some ⟨b,o,none⟩→0<z.1.length→v.ownBlock≠some b∧Q b
theorem RowsG.rowsE {T:TypeId}{Q:Nat→Prop}{B:Nat}{W:World}{v:Value}{L:List (List Nat)}(h:RowsG T B Q W v (rowsN L)):∃zs:List RowE,zs.map (·.1)=L∧RowsE T B Q W v zs:=by
 obtain⟨ys,h1,h2,h3⟩:=h;have hl:ys.length=L.length:=by have:=congrArg List.length h1;simpa[rowsN] using this
 have hat:∀(k:Nat) (x:List Nat) (y:RowG),L[k]?=some x→ys[k]?=some y→y.1=rowN x:=fun k x y hx hy=>by
  have:=congrArg (fun l=>l[k]?) h1
  simpa[rowsN,hx,hy] using this
 refine⟨(L.zip ys).map fun p=>(p.1,p.2.2.1,p.2.2.2),?_,?_,?_⟩
 ·apply List.ext_getElem?
  intro k;rw[List.getElem?_map,List.getElem?_map]
  rcases hk:(L.zip ys)[k]? with _|p
  ·rw[List.getElem?_eq_none_iff,List.length_zip] at hk;simp only[Option.map_none];rw[List.getElem?_eq_none zO]
  ·rw[List.getElem?_zip_eq_some] at hk
   simp[hk.1]
 ·have hm:((L.zip ys).map fun p=>((p.1,p.2.2.1,p.2.2.2):RowE)).map hdrE=ys.map hdrG:=by
   apply List.ext_getElem?
   intro k;rw[List.getElem?_map,List.getElem?_map,List.getElem?_map]
   rcases hk:(L.zip ys)[k]? with _|p
   ·rw[List.getElem?_eq_none_iff,List.length_zip] at hk;rw[List.getElem?_eq_none (l:=ys) zO];rfl
   ·rw[List.getElem?_zip_eq_some] at hk;have:=hat k _ _ hk.1 hk.2
    simp[hk.2,hdrE,hdrG,this,rowN_len]
  rw[hm,show((L.zip ys).map fun p=>((p.1,p.2.2.1,p.2.2.2):RowE)).length=(rowsN L).length by simp[rowsN,hl]];exact h2
 ·intro z hz;obtain⟨p,hp,rfl⟩:=List.mem_map.1 hz;obtain⟨k,hk⟩:=List.mem_iff_getElem?.1 hp;rw[List.getElem?_zip_eq_some] at hk;have e:=hat k _ _ hk.1 hk.2;obtain⟨a1,a2,a3⟩:=h3 p.2 (List.mem_of_getElem? hk.2);rw[e,rowN_len] at a2 a3;rw[e] at a1;exact⟨a1,a2,a3⟩
def IntsHi (B M:Nat)(w:World)(a:Option Addr)(l:List Int):Prop:=∀k v,(l.map (Value.int .i64))[k]?=some v→∃b o,a=some ⟨b,o,none⟩∧B≤b∧b<M∧w.cell? ⟨b,o+k,none⟩=some v
theorem IntsHi.at_ {B M:Nat}{w:World}{a:Option Addr}{l:List Int}(h:IntsHi B M w a l):Ints w a l:=fun k v hv=>by
 obtain⟨b,o,h1,_,_,h2⟩:=h k v hv;exact⟨b,o,h1,h2⟩
theorem IntsHi.keep {B M:Nat}{w w':World}{a:Option Addr}{l:List Int}(h:IntsHi B M w a l)(hk:Keep (fun k=>B≤k∧k<M) w w'):IntsHi B M w' a l:=fun k v hv=>by
 obtain⟨b,o,h1,h2,h3,h4⟩:=h k v hv;exact⟨b,o,h1,h2,h3,hk.cell ⟨h2,h3⟩ h4⟩
theorem IntsHi.below {B M:Nat}{w w':World}{a:Option Addr}{l:List Int}(h:IntsHi B M w a l)(hk:Below w.heap.size w w'):IntsHi B M w' a l:=h.keep (Keep.of_below' hk)
theorem IntsHi.mono {B B' M M':Nat}{w:World}{a:Option Addr}{l:List Int}(h:IntsHi B M w a l)(hB:B'≤B)(hM:M≤M'):IntsHi B' M' w a l:=fun k v hv=>by
 obtain⟨b,o,h1,h2,h3,h4⟩:=h k v hv;exact⟨b,o,h1,zO,zO,h4⟩
def RowsHi (B M:Nat)(w:World)(a:Option Addr)(L:List (List Nat)):Prop:=∀k x,L[k]?=some x→∃b o ra rc,a=some ⟨b,o,none⟩∧B≤b∧b<M∧w.cell? ⟨b,o+k,none⟩=some (.slice ra x.length rc)∧IntsHi B M w ra (natInts x)∧x.length≤rc
theorem RowsHi.at_ {B M:Nat}{w:World}{a:Option Addr}{L:List (List Nat)}(h:RowsHi B M w a L):RowsAt w a L:=fun k x hx=>by
 obtain⟨b,o,ra,rc,h1,_,_,h2,h3,h4⟩:=h k x hx;exact⟨b,o,ra,rc,h1,h2,h3.at_,h4⟩
theorem RowsHi.keep {B M:Nat}{w w':World}{a:Option Addr}{L:List (List Nat)}(h:RowsHi B M w a L)(hk:Keep (fun k=>B≤k∧k<M) w w'):RowsHi B M w' a L:=fun k x hx=>by
 obtain⟨b,o,ra,rc,h1,h2,h3,h4,h5,h6⟩:=h k x hx;exact⟨b,o,ra,rc,h1,h2,h3,hk.cell ⟨h2,h3⟩ h4,h5.keep hk,h6⟩
theorem RowsHi.below {B M:Nat}{w w':World}{a:Option Addr}{L:List (List Nat)}(h:RowsHi B M w a L)(hk:Below w.heap.size w w'):RowsHi B M w' a L:=h.keep (Keep.of_below' hk)
theorem RowsHi.mono {B B' M M':Nat}{w:World}{a:Option Addr}{L:List (List Nat)}(h:RowsHi B M w a L)(hB:B'≤B)(hM:M≤M'):RowsHi B' M' w a L:=fun k x hx=>by
 obtain⟨b,o,ra,rc,h1,h2,h3,h4,h5,h6⟩:=h k x hx;exact⟨b,o,ra,rc,h1,zO,zO,h4,h5.mono hB hM,h6⟩
theorem rowE_hi {B:Nat}{w:World}{a:Option Addr}{zs:List RowE}(h:RowOwn B w a (zs.map hdrE))(hz:∀z∈zs,Ints w z.2.1 (natInts z.1)∧z.1.length≤z.2.2∧∀b o,z.2.1=some ⟨b,o,none⟩→0<z.1.length→B≤b):RowsHi B w.heap.size w a (zs.map (·.1)):=by
 intro j x hx;rw[List.getElem?_map] at hx;obtain⟨z,hzj,rfl⟩:=Option.map_eq_some_iff.1 hx;obtain⟨b,o,e,h1,h2,_⟩:=h j (hdrE z) (by rw[List.getElem?_map,hzj];rfl);obtain⟨a1,a2,a3⟩:=hz z (List.mem_of_getElem? hzj);refine⟨b,o,z.2.1,z.2.2,e,h1,lt_of_cell h2,h2,fun k u hu=>?_,a2⟩;obtain⟨b2,o2,e2,hc⟩:=a1 k u hu;exact⟨b2,o2,e2,a3 _ _ e2 (by have:=(List.getElem?_eq_some_iff.1 hu).1;simp[natInts] at this;omega),lt_of_cell hc,hc⟩
theorem RowsG.hi {T:TypeId}{B:Nat}{W:World}{v:Value}{L:List (List Nat)}(h:RowsG T B (fun b=>B≤b) W v (rowsN L)):∃a cap,v = .slice a L.length cap∧L.length≤cap∧RowsHi B W.heap.size W a L:=by
 obtain⟨zs,rfl,h1,h2⟩:=h.rowsE;obtain⟨a,cap,hv,hr,hc⟩:=ownsRow_own h1;exact⟨a,cap,by simpa using hv,by simpa using hc,rowE_hi hr fun z hz=>⟨(h2 z hz).1,(h2 z hz).2.1,fun b o hb h0=>((h2 z hz).2.2 b o hb h0).2⟩⟩
theorem keep_setCells {K:Nat→Prop}{b:Nat}(hb:¬K b):∀(vs:List Value) (o:Nat) {a w:World},Keep K a w→Keep K a (w.setCells b o vs)
 |[],_,_,_,h=>h
 |v::vs,o,_,_,h=>keep_setCells hb vs (o+1) (h.setCell (.inl hb) v)
theorem zero_row:∀w,(zeroValue 26).run Tryz.prog w = .ok (.slice none 0 0) w:=fun w=>by go_simp
theorem deleteRows_any {K:Nat}{caps:Array Value}{w0:World}{B:Nat}{p:List Nat→Bool}{L:List (List Nat)}(hf:RowFn K caps w0 B p L)(v:Value)(w:World)(hw:Keep (fun k=>k<B) w0 w)(hBw:B≤w.heap.size)(h:RowsG 26 B (fun b=>B≤b) w v (rowsN L))(hl:L.length≤1000000):
 Calls Tryz.prog 165 #[v,.func (.func K) #[] caps] w fun e w'=>∃a' c',e = .returned (.slice a' (L.filter fun x=>!p x).length c')∧RowsHi B w'.heap.size w' a' (L.filter fun x=>!p x)∧Below B w w':=by
 obtain⟨zs,rfl,hrow,hall⟩:=h.rowsE;obtain⟨a,c,rfl,hro,hlc⟩:=ownsRow_own hrow;have hz:∀z∈zs,Ints w z.2.1 (natInts z.1)∧z.1.length≤z.2.2∧∀b o,z.2.1=some ⟨b,o,none⟩→0<z.1.length→B≤b∧(∀b' o',a=some ⟨b',o',none⟩→b≠b'):=fun z hz=>by
  obtain⟨a1,a2,a3⟩:=hall z hz;refine⟨a1,a2,fun b o hb h0=>⟨(a3 b o hb h0).2,fun b' o' he hbb=>(a3 b o hb h0).1 ?_⟩⟩;rw[he,hbb];rfl
 have hhi:=rowE_hi hro fun z hz'=>⟨(hz z hz').1,(hz z hz').2.1,fun b o hb h0=>((hz z hz').2.2 b o hb h0).1⟩
 have hat:=hhi.at_;have HHI:=zh hhi;have HRO:=zh hro;have HZ:=zh hz;clear hhi hro hz hrow hall;have hent:=hf.1;have hix:=indexRows_any hf a c w hw hat hl;rw[List.length_map] at hix;have HIX:=zh hix;have HF:=zh hf.2;have HW:=zh hw;clear hf hw hat h hix
 rcases first_or p (zs.map (·.1)) with hall|⟨k,x,hk,hx,hall⟩
 ·have HC1:=zh (idxZ_no hall);rw[HC1.out] at HIX;have HA:=zh (show((zs.map (·.1)).filter fun x=>!p x)=zs.map (·.1) from List.filter_eq_self.2 fun x hx=>by simp[hall x hx]);clear hall HC1
  go_enter Tryz.func165,Tryz.ntmps165
  go_wp2_with fail
  refine zM HIX ?_;rintro e w' ⟨rfl,hb⟩;have HB:=zh hb;clear hb
  go_wp2_with fail
  go_ret
  rw[HA.out];exact⟨a,c,by rw[List.length_map];rfl,(HHI.out.below HB.out).mono (Nat.le_refl _) HB.out.size,HB.out.mono hBw⟩
 ·have HC1:=zh (idxZ_at hk hx hall);rw[HC1.out] at HIX;obtain⟨z,hzk,rfl⟩:∃z,zs[k]?=some z∧z.1=x:=by
   rw[List.getElem?_map] at hk;obtain⟨z,h1,h2⟩:=Option.map_eq_some_iff.1 hk;exact⟨z,h1,h2⟩
  have hkl:k<zs.length:=(List.getElem?_eq_some_iff.1 hzk).1;obtain⟨g,o,rfl,hbB,_⟩:=HRO.out k (hdrE z) (by rw[List.getElem?_map,hzk];rfl);have HM:=zh (MovedG.start (f:=fun z:RowE=>!p z.1) hzk (by simp[hx]) (fun y hy=>by
   have:y.1∈(zs.map (·.1)).take k:=by rw[←List.map_take];exact List.mem_map_of_mem hy
   simp[hall _ this]))
  have hk1:((k:Int) == -1)=false:=by simp
  have hl:zs.length≤1000000:=by simpa using hl
  have HFL:=zh (show((zs.map (·.1)).filter fun x=>!p x)=(zs.filter fun z=>!p z.1).map (·.1) by rw[List.filter_map];rfl);have hkw:IntKind.i64.wrap ((k:Int)+1)=(k:Int)+1:=IntWalk.i64_in _ zO;clear hk hx hall HC1 hzk
  go_enter Tryz.func165,Tryz.ntmps165
  go_wp2_with fail
  refine zM HIX ?_;rintro e w1 ⟨rfl,hb1⟩;have HB1:=zh hb1;clear hb1
  go_wp2_with fail
  go_loopw [5,6] (fun i j wr=>∃(m q:Nat) (cur:List RowE),i = .int .i64 m∧j = .int .i64 q∧MovedG (fun z:RowE=>!p z.1) zs cur m q∧RowOwn B wr (some ⟨g,o,none⟩) (cur.map hdrE)∧Keep (fun k=>k≠g) w wr) (fun _ j _=>zs.length-(intOf j).toNat)
  case atStart=>exact⟨k,k+1,zs,rfl,by first|rfl|go_num,HM.out,HRO.out.below HB1.out,Keep.of_below' HB1.out⟩
  case round=>
   clear HM HB1 hkw;obtain⟨m,q,cur,rfl,rfl,hM,hR,hB⟩:=hrel;have hpq:=hM.lt;have hlen:=hM.len;have hle:=hM.le;have MM:=zh hM;have RR:=zh hR;have BB:=zh hB;clear hM hR hB
   by_cases hlt:q<zs.length
   ·obtain⟨y,hy⟩:=get_of_lt zs hlt;have hcy:=MM.out.at_ hy;obtain⟨b1,o1,e1,_,c1,f1⟩:=RR.out q (hdrE y) (by rw[List.getElem?_map,hcy];rfl);cases e1;obtain⟨u,hu⟩:=get_of_lt cur (k:=m) zO;obtain⟨b1,o1,e1,_,c2,f2⟩:=RR.out m (hdrE u) (by rw[List.getElem?_map,hu];rfl);cases e1;obtain⟨i1,i2,i3⟩:=HZ.out y (List.mem_of_getElem? hy);have hi:Ints wr y.2.1 (natInts y.1):=fun j w' hw'=>by
     obtain⟨b2,o2,e2,hc⟩:=i1 j w' hw';exact⟨b2,o2,e2,BB.out.cell ((i3 b2 o2 e2 (by have:=(List.getElem?_eq_some_iff.1 hw').1;simp[natInts] at this;omega)).2 _ _ rfl) hc⟩
    have hcl:=HF.out wr y.1 y.2.1 y.2.2 (HW.out.trans (BB.out.mono fun k hk=>by omega)) (List.mem_map_of_mem (List.mem_of_getElem? hy)) hi i2;unfold hdrE at c1 c2;have hqn:(q:Int)<(zs.length:Int):=by omega
    have hmn:(m:Int)<(zs.length:Int):=by omega
    have HY:=zh hy;have HU:=zh hu;have HCL:=zh hcl;clear hy hcy hu i1 i2 i3 hi hcl
    rcases hp:p y.1 with _|_
    ·have HP:=zh hp;rw[hp] at HCL;clear hp
     go_wp2_with fail
     refine zM HCL ?_;rintro e w2 ⟨rfl,hb2⟩;have RR2:=zh (RR.out.below hb2);have BB2:=zh (BB.out.trans (Keep.of_below' hb2));obtain⟨b1,o1,e1,_,d2,g2⟩:=RR2.out m (hdrE u) (by rw[List.getElem?_map,HU.out];rfl);cases e1;unfold hdrE at d2;clear hb2 c1 c2 f1 f2
     go_wp2_with fail
     go_roundw
     case rel=>
      refine⟨m+1,q+1,cur.set m y,zN,zN,MM.out.put HY.out (by simp[HP.out]),?_,BB2.out.setCell (.inl zS) _⟩;rw[List.map_set];exact RR2.out.set _
     case measure=>simp[intOf];omega
    ·have HP:=zh hp;rw[hp] at HCL;clear hp
     go_wp2_with fail
     refine zM HCL ?_;rintro e w2 ⟨rfl,hb2⟩;have RR2:=zh (RR.out.below hb2);have BB2:=zh (BB.out.trans (Keep.of_below' hb2));clear hb2 c1 c2 f1 f2
     go_wp2_with fail
     go_roundw
     case rel=>exact⟨m,q+1,cur,zN,zN,MM.out.pass HY.out (by simp[HP.out]),RR2.out,BB2.out⟩
     case measure=>simp[intOf];omega
   ·have hq:q=zs.length:=by omega
    subst hq;have hcl:∀ty,(Builtin.clear_ #[49] ty #[.slice (some ⟨g,o+m,none⟩) (zs.length-m) (c-m)]).run Tryz.prog wr = .ok (.tuple #[]) (wr.setCells g (o+m) (List.replicate (zs.length-m) (.slice none 0 0))):=
     fun ty=>Lib.run_clear_slice wr _ _ ty _ Tryz.underlying49 zero_row rfl rfl g (o+m) _ _ zO
      (fun j hj=>by
       obtain⟨y,hy⟩:=get_of_lt cur (k:=m+j) zO;obtain⟨b1,o1,e1,_,c2,f2⟩:=RR.out (m+j) (hdrE y) (by rw[List.getElem?_map,hy];rfl);cases e1;rw[Nat.add_assoc,c2];rfl)
      (fun j hj=>by
       obtain⟨y,hy⟩:=get_of_lt cur (k:=m+j) zO;obtain⟨b1,o1,e1,_,c2,f2⟩:=RR.out (m+j) (hdrE y) (by rw[List.getElem?_map,hy];rfl);cases e1;rw[Nat.add_assoc,f2])
    have hkS:Keep (fun k=>k≠g) w (wr.setCells g (o+m) (List.replicate (zs.length-m) (.slice none 0 0))):=keep_setCells (fun h=>h rfl) _ _ BB.out;have hcut:=RR.out.cut (p:=m) (List.replicate (zs.length-m) (.slice none 0 0));rw[←List.map_take,MM.out.end_] at hcut;have HKS:=zh hkS;have HCT:=zh hcut;have HPL:=zh MM.out.plen;clear hkS hcut
    go_wp2_with fail
    go_ret
    have hlf:((zs.map (·.1)).filter fun x=>!p x).length=m:=by rw[HFL.out,List.length_map];exact HPL.out
    refine⟨some ⟨g,o,none⟩,c,by rw[hlf];rfl,?_,?_⟩
    ·rw[HFL.out];refine rowE_hi HCT.out fun z hz=>?_
     obtain⟨a1,a2,a3⟩:=HZ.out z (List.mem_filter.1 hz).1;refine⟨fun j w' hw'=>?_,a2,fun b o' e h0=>(a3 b o' e h0).1⟩;obtain⟨b2,o2,e2,hc⟩:=a1 j w' hw';exact⟨b2,o2,e2,HKS.out.cell ((a3 b2 o2 e2 (by have:=(List.getElem?_eq_some_iff.1 hw').1;simp[natInts] at this;omega)).2 _ _ rfl) hc⟩
    ·exact(HKS.out.mono fun k (hk:k<B)=>by omega).below hBw
theorem open9_any (c:Cs)(hsm:c.Small)(hz:askErr c []=0)(pa:Option Addr)(pc:Nat)(w:World)(hp:PartsAt w pa c.parts):
 Calls Tryz.prog 71 #[.agg #[.string c.ware,.int .i64 c.limit,.int .i64 c.by_,.slice pa c.parts.length pc]] w fun e w'=>∃a cap,e = .returned (.tuple #[.slice a (openOf c).length cap,.int .i64 0])∧RowOwn w.heap.size w' a (pairCells (openOf c))∧(openOf c).length≤cap∧Below w.heap.size w w':=by
 obtain⟨w2,hw2⟩:=zx ((w.alloc (.cells #[.string c.ware,.int .i64 c.limit,.int .i64 c.by_,.slice pa c.parts.length pc] 24)));have hsz:w2.heap.size=w.heap.size+1:=by rw[←hw2];simp
 have hB2:Below w.heap.size w w2:=by rw[←hw2];go_grown
 have b0:Box w2 w.heap.size (csCells c pa pc) 24:=by rw[←hw2];exact(Box.new _ _ _)
 have e0:=zC (b0);have ho:=asked_any c hsm pa pc [] none 0 w2 (hp.below hB2) (Ints.nil _ _) zS;simp only[List.length_nil] at ho;have HW:=zh hw2;clear hp b0 hw2;have hoo:=asked_good ho hz;have h8:=check_small (ask_open hz);have HO:=zh hoo;have HZ:=zh hz;clear ho hoo hz;refine(callsIn_wide (n:=0)).1 (callsIn_of_wp_marks Tryz.func71 rfl trivial ?_ rfl);simp only[Tryz.ntmps71,List.size_toArray,List.length_cons,List.length_nil,Nat.reduceAdd,Nat.reduceSub,Array.replicate_succ,Array.replicate_zero,List.push_toArray,List.append_toArray,List.nil_append,List.cons_append]
 gi_upto_region 1 with fail
 simp only[HW.out]
 gi_wp2_with (first
  |(gi_at_call 105;(with_reducible refine(callsIn_wide.2 HO.out).mono ?_);rintro e w3 ⟨bb,rfl,hbb,hbx,hb⟩;have HB:=zh hb;have HX:=zh hbx;have hS:=fresh_store w3 (togB c.parts.length (allR c)) (aptB c.parts.length (allR c));clear hb hbx)
  |(refine wpListIn_store_box rfl 143 _ _ rfl rfl rfl hS ?_)
  |(gi_at_call 154;(with_reducible refine(callsIn_wide.2 (pairs_any _ _)).mono ?_);rintro e w' ⟨rfl,rfl⟩))
 simp only[laid_size,Nat.add_assoc,Nat.reduceAdd];have hw3:w.heap.size+1≤w3.heap.size:=by have:=HB.out.size;omega
 have hw5:w.heap.size≤w3.heap.size+5:=by omega
 have hbl:=HX.out.lt;have g5:Box ((((laid w3 (togB c.parts.length (allR c)) (aptB c.parts.length (allR c)))).alloc (.cells #[.slice none 0 0] 35)).alloc (.cells #[.pointer (some ⟨bb,0,none⟩)] 139)) w3.heap.size (caseTab c) 143:=((laid_box w3 _ _).alloc _).alloc _;have g7:Box ((((laid w3 (togB c.parts.length (allR c)) (aptB c.parts.length (allR c)))).alloc (.cells #[.slice none 0 0] 35)).alloc (.cells #[.pointer (some ⟨bb,0,none⟩)] 139)) (w3.heap.size+1) #[.slice none 0 0] 35:=(Box.new' (by rw[laid_size])).alloc _;have g8:Box ((((laid w3 (togB c.parts.length (allR c)) (aptB c.parts.length (allR c)))).alloc (.cells #[.slice none 0 0] 35)).alloc (.cells #[.pointer (some ⟨bb,0,none⟩)] 139)) (w3.heap.size+2) #[.pointer (some ⟨bb,0,none⟩)] 139:=Box.new' (by simp[laid_size])
 have gb:Box ((((laid w3 (togB c.parts.length (allR c)) (aptB c.parts.length (allR c)))).alloc (.cells #[.slice none 0 0] 35)).alloc (.cells #[.pointer (some ⟨bb,0,none⟩)] 139)) bb (csCells c pa pc) 219:=((HX.out.below' (laid_below w3 _ _)).alloc _).alloc _;have gB:Below w3.heap.size w3 ((((laid w3 (togB c.parts.length (allR c)) (aptB c.parts.length (allR c)))).alloc (.cells #[.slice none 0 0] 35)).alloc (.cells #[.pointer (some ⟨bb,0,none⟩)] 139)):=((laid_below w3 _ _).alloc (by rw[laid_size];omega) _).alloc (by simp[laid_size];omega) _;have gs:(((((laid w3 (togB c.parts.length (allR c)) (aptB c.parts.length (allR c)))).alloc (.cells #[.slice none 0 0] 35)).alloc (.cells #[.pointer (some ⟨bb,0,none⟩)] 139))).heap.size=w3.heap.size+3:=by simp[laid_size]
 generalize ((((laid w3 (togB c.parts.length (allR c)) (aptB c.parts.length (allR c)))).alloc (.cells #[.slice none 0 0] 35)).alloc (.cells #[.pointer (some ⟨bb,0,none⟩)] 139))=w4 at *;refine wpIn_range2 (gf:=198) (lb:=#[.pointer (some ⟨w3.heap.size+2,0,none⟩)]) (Z:=fun k=>k=w3.heap.size+2) (n0:=w3.heap.size) (Rd:=PairRd) (xs:=pairsOf c.parts.length) rfl (enters_of Tryz.func198 zK rfl) ?gives ?hz ?n0 ?ps
  (OpI c w3) (fun _ _ _=>False) ?hI ?hX ?h0 (OpAs c pa pc bb w w3) ?hAs ?assign ?body ?done ?stop
 case gives=>
  intro o1 o2;exact pairs1_gives c _ rfl zO pa pc w3 bb (w3.heap.size+2) hbl zO _ ⟨(gB.alloc zO _).alloc zT _,(g8.alloc _).alloc _,(gb.alloc _).alloc _⟩
 case hz=>intro k hk;rw[gs];omega
 case n0=>omega
 case ps=>rintro x args W rfl;rfl
 case hI=>
  rintro s A B ⟨v,h1,h2,h3,h4⟩ hk;rw[gs] at hk;exact⟨v,hk.heap zO h1,ownsRow_keep h2 hk (fun k hk=>by omega),hk.heap zO h3,h4.trans ((hk.mono fun i hi=>by omega).below h4.size)⟩
 case hX=>intro _ _ _ _ h;exact h.elim
 case h0=>exact⟨_,g7,ownsRow_nil _ _ _ _,g5,gB⟩
 case hAs=>
  rintro x args act A B ⟨pb,h1,h2,h3⟩ hk;exact⟨pb,h1,hk.heap (by rw[gs];omega) h2,h3⟩
 case assign=>
  rintro l x args W Kk rfl hlt hk
  gi_wp2_with fail
  exact hk _ _ ⟨W.heap.size,rfl,Box.new _ _ _,zO⟩ ((Below.refl _ W).alloc (Nat.le_refl _) _)
 case body=>
  rintro l pre x args act W ⟨v,i1,i2,i3,i4⟩ ⟨pb,rfl,i5,i6⟩ hpre hlt;have e7:=i1.rules;obtain⟨e71,e72⟩:=e7;have e5:=i5.cell;have hL:=run_load_row (P:=Tryz.prog) i3 Tryz.underlying143 rfl (tab_info _ _);have hxx:=pairs_mem (hpre.subset (by simp:x∈pre++[x]));obtain⟨x1,x2⟩:=x;simp only at hxx e5 ⊢;have I1:=zh i1;have I2:=zh i2;have I3:=zh i3;have I4:=zh i4;have I5:=zh i5;clear i1 i2 i3 i4 i5
  rcases h3:(ansAt c x1 x2==3) with _|_
  ·gi_wp2_with (first
    |(refine wpListIn_load_box rfl 143 _ rfl rfl hL ?_)
    |(gi_at_call 106;(with_reducible refine(CallsIn.inRound l (callsIn_wide.2 (answer_case c x1 x2 _ zO zO))).mono ?_);rintro e W2 ⟨rfl,hb2⟩))
   have kW:Keep (fun _=>True) W W2:=Keep.of_below' hb2;refine⟨kW.mono (fun _ _=>trivial),v,I1.out.below' hb2,?_,I3.out.below' hb2,I4.out.trans (hb2.mono I4.out.size)⟩;have e:(pre++[(x1,x2)]).filter (fun p=>ansAt c p.1 p.2==3)=pre.filter fun p=>ansAt c p.1 p.2==3:=by
    rw[List.filter_append];simp only[List.filter_cons,h3,List.filter_nil];simp
   rw[e];exact ownsRow_keep I2.out kW (fun _ _=>trivial)
  ·have hlen:(pre.filter fun p=>ansAt c p.1 p.2==3).length+1≤1000000:=by
    have h1:=hpre.length_le;have h2:=pairsOf_len h8;have h4:=List.length_filter_le (fun p:Nat×Nat=>ansAt c p.1 p.2==3) pre;rw[List.length_append] at h1;simp only[List.length_singleton] at h1
    omega
   have hrec:w3.heap.size+5≤W.heap.size:=by omega
   gi_wp2_with (first
    |(refine wpListIn_load_box rfl 143 _ rfl rfl hL ?_)
    |(gi_at_call 106;(with_reducible refine(CallsIn.inRound l (callsIn_wide.2 (answer_case c x1 x2 _ zO zO))).mono ?_);rintro e W2 ⟨rfl,hb2⟩;obtain⟨r1,r2⟩:=(I1.out.below' hb2).rules;have r5:=(I5.out.below' hb2).cell
      obtain⟨v',U,hrun,hown,hg,hvb⟩:=run_append_row (P:=Tryz.prog) (W2.alloc (.cells #[.int .i64 x1,.int .i64 x2] 57)) (w3.heap.size+5) 35 35 57 (.agg #[.int .i64 0,.int .i64 0]) 2 16 Tryz.underlying35 info_pair rfl zO
       v _ _ (ownsRow_keep I2.out ((Keep.of_below' (K:=fun _=>True) hb2).alloc _) (fun _ _=>trivial)) (some ⟨W2.heap.size,0,none⟩) 1 1 [.int .i64 x1,.int .i64 x2] rfl (pair_row _ _ _ _) (by intro u hu;simp at hu;rcases hu with rfl|rfl<;>rfl) hlen zO (by have:=hb2.size;simp;omega)
      obtain⟨a',c',rfl,hro,hcap⟩:=ownsRow_own hown;have u1:=(((I1.out.below' hb2).alloc (.cells #[.int .i64 x1,.int .i64 x2] 57)).grown hg (ownsRow_block I2.out zO))
      obtain⟨u11,u12⟩:=u1.rules;have HR:=zh hrun;have HOW:=zh hown;have HG:=zh hg;clear hrun hown hg hvb hro)
    |(gi_at_builtin;refine wpListIn_app rfl _ _ _ rfl rfl rfl HR.out ?_))
   have kW:Keep (fun k=>k<w3.heap.size∨k=w3.heap.size+2∨k=w4.heap.size∨k=w4.heap.size+1) W U:=((Keep.of_below' hb2).alloc _).grown HG.out (fun k hk=>by
    have:=(I2.out.lt k hk).1;exact .inl (by simp only[gs];omega))
   have hlW:=I4.out.size;have e:(pre++[(x1,x2)]).filter (fun p=>ansAt c p.1 p.2==3)=(pre.filter fun p=>ansAt c p.1 p.2==3)++[(x1,x2)]:=by
    rw[List.filter_append];simp only[List.filter_cons,h3,List.filter_nil];simp
   refine⟨kW.setCell (.inl (by simp only[gs];omega)) _,_,u1.set_ 0 _,?_,(((I3.out.below' hb2).alloc _).grown HG.out (ownsRow_block I2.out zO)).far zS _,?_⟩
   ·rw[e];have k5:Keep (fun k=>k≠w3.heap.size+1) U (U.setCell ⟨w3.heap.size+1,0,none⟩ (.slice a' ((pre.filter fun p=>ansAt c p.1 p.2==3).length+1) c')):=(Keep.refl _ U).setCell (.inl zS) _;have h5:=ownsRow_keep HOW.out k5 (fun k hk=>by omega);rw[List.length_append,pairCells,List.flatMap_append];exact h5
   ·have k6:Keep (fun k=>k<w3.heap.size) W U:=kW.mono (fun k hk=>.inl hk);exact(I4.out.trans (k6.below hlW)).setCell zS _
 case done=>
  rintro W ⟨v,i1,i2,i3,i4⟩ hD;obtain⟨a',c',rfl,hro,hcap⟩:=ownsRow_own i2;obtain⟨u11,u12⟩:=i1.rules;have I2:=zh hro;have HCAP:=zh hcap;have hlt:=i1.lt;clear i1 i2 hro
  gi_wp2_with fail
  refine⟨by simp,.inl ⟨_,_,rfl,run_takeDeferred (by simpa[gs] using hD),?_⟩⟩;refine⟨.tuple #[.slice a' (openOf c).length c',.int .i64 0],?_,?_⟩
  ·simp[results,go_sem,openOf]
  ·have k5:Keep (fun k=>w3.heap.size+5≤k) W (W.putObj w4.heap.size (.deferred none)):=(Keep.refl _ W).putObj (by simp only[gs];omega) _;exact⟨a',c',rfl,(I2.out.keep k5 (fun k hk=>hk)).less hw5,HCAP.out,below_put ((hB2.trans (HB.out.mono hB2.size)).trans (i4.mono zO)) zO _⟩
 case stop=>intro _ _ _ _ h;exact h.elim
theorem pairCells_at:∀{l:List (Nat×Nat)} {k:Nat} {p:Nat×Nat},l[k]?=some p→(pairCells l)[k*2]?=some (.int .i64 (p.1:Int))∧(pairCells l)[k*2+1]?=some (.int .i64 (p.2:Int))
 |[],k,p,h=>by simp at h
 |y::l,0,p,h=>by simp at h;subst h;simp[pairCells]
 |y::l,k+1,p,h=>by
  have ih:=pairCells_at (l:=l) (k:=k) (p:=p) (by simpa using h);have e:pairCells (y::l) = .int .i64 (y.1:Int) :: .int .i64 (y.2:Int)::pairCells l:=rfl;rw[e,show(k+1)*2=k*2+1+1 by omega,show k*2+1+1+1=(k*2+1)+1+1 by omega]
  simpa using ih
theorem pairCells_len (l:List (Nat×Nat)):(pairCells l).length=l.length*2:=by
 induction l with
 |nil=>rfl
 |cons y l ih=>simp[pairCells] at ih ⊢;omega
theorem pairCells_set:∀(l:List (Nat×Nat)) (k:Nat) (p:Nat×Nat),((pairCells l).set (k*2) (.int .i64 (p.1:Int))).set (k*2+1) (.int .i64 (p.2:Int))=pairCells (l.set k p)
 |[],k,p=>by simp[pairCells]
 |y::l,0,p=>by simp[pairCells]
 |y::l,k+1,p=>by
  have ih:=pairCells_set l k p;have e:∀(y:Nat×Nat) l,pairCells (y::l) = .int .i64 (y.1:Int) :: .int .i64 (y.2:Int)::pairCells l:=fun _ _=>rfl
  rw[e,show(k+1)*2=k*2+1+1 by omega,show k*2+1+1+1=(k*2+1)+1+1 by omega,List.set_cons_succ,List.set_cons_succ,List.set_cons_succ,List.set_cons_succ,ih,List.set_cons_succ,e]
theorem pairCells_take (l:List (Nat×Nat)):∀k,(pairCells l).take (k*2)=pairCells (l.take k):=by
 induction l with
 |nil=>intro k;simp[pairCells]
 |cons y l ih=>
  intro k;have e:∀(y:Nat×Nat) l,pairCells (y::l) = .int .i64 (y.1:Int) :: .int .i64 (y.2:Int)::pairCells l:=fun _ _=>rfl
  rcases k with _|k
  ·rfl
  ·rw[e,show(k+1)*2=k*2+1+1 by omega,List.take_succ_cons,List.take_succ_cons,ih,List.take_succ_cons,e]
def PairsAt (w:World)(a:Option Addr)(l:List (Nat×Nat)):Prop:=Row w a (pairCells l)
theorem PairsAt.at_ {w:World}{a:Option Addr}{l:List (Nat×Nat)}(h:PairsAt w a l){k:Nat}{p:Nat×Nat}(hk:l[k]?=some p):∃b o,a=some ⟨b,o,none⟩∧w.cell? ⟨b,o+k*2,none⟩=some (.int .i64 (p.1:Int))∧w.cell? ⟨b,o+k*2+1,none⟩=some (.int .i64 (p.2:Int)):=by
 obtain⟨h1,h2⟩:=pairCells_at hk;obtain⟨b,o,e,c1⟩:=h _ _ h1;obtain⟨b',o',e',c2⟩:=h _ _ h2;rw[e] at e';cases e';exact⟨b,o,e,c1,by rw[Nat.add_assoc];exact c2⟩
theorem PairsAt.below {w w':World}{a:Option Addr}{l:List (Nat×Nat)}(h:PairsAt w a l)(hb:Below w.heap.size w w'):PairsAt w' a l:=Row.below h hb
theorem indexPair_any (a:Option Addr)(n:Nat)(l:List (Nat×Nat))(p:Nat×Nat)(w:World)(h:PairsAt w a l)(hl:l.length≤100000):
 Calls Tryz.prog 156 #[.slice a l.length n,.agg #[.int .i64 (p.1:Int),.int .i64 (p.2:Int)]] w fun e w'=>e = .returned (.int .i64 (idxZ (fun q=>p==q) l))∧Below w.heap.size w w':=by
 obtain⟨w1,hw1⟩:=zx (w.alloc (.cells #[.int .i64 (p.1:Int),.int .i64 (p.2:Int)] 57));have hB1:Below w.heap.size w w1:=by rw[←hw1];go_grown
 have hg:Box w1 w.heap.size #[.int .i64 (p.1:Int),.int .i64 (p.2:Int)] 57:=by rw[←hw1];exact Box.new _ _ _
 have HW:=zh hw1;have HB:=zh hB1;have HG:=zh hg;have HP:=zh (h.below hB1);clear hw1 hB1 hg h
 go_enter Tryz.func156,Tryz.ntmps156
 go_upto_region 1 with fail
 simp only[HW.out]
 go_wp2_with fail
 go_loopw [8] (fun i wr=>∃k:Nat,k≤l.length∧i = .int .i64 k∧(∀x∈l.take k,(p==x)=false)∧Below w1.heap.size w1 wr) (fun i _=>l.length-(intOf i).toNat)
 case atStart=>exact⟨0,Nat.zero_le _,rfl,by simp,Below.refl _ _⟩
 case round=>
  obtain⟨k,hk,rfl,hall,hb⟩:=hrel;have HA:=zh hall;have HB2:=zh hb;have e1:=(HG.out.below' hb).cell;clear hall hb
  by_cases hlt:k<l.length
  ·obtain⟨x,hx⟩:=get_of_lt l hlt;obtain⟨b,o,rfl,c1,c2⟩:=(HP.out.below HB2.out).at_ hx;have hkn:(k:Int)<(l.length:Int):=by omega
   have HX:=zh hx;clear hx;have hbe:(p==x)=(((p.1:Int)==(x.1:Int))&&((p.2:Int)==(x.2:Int))):=by
    rw[Bool.eq_iff_iff];simp[Prod.ext_iff];omega
   have HBE:=zh hbe;clear hbe
   by_cases h1:(p.1:Int)=x.1
   ·have h1b:((p.1:Int)==(x.1:Int))=true:=beq_iff_eq.2 h1
    by_cases h2:(p.2:Int)=x.2
    ·have h2b:((p.2:Int)==(x.2:Int))=true:=beq_iff_eq.2 h2;have HQ:=zh (show(p==x)=true by rw[HBE.out,h1b,h2b];rfl);clear h1 h2
     go_wp2_with fail
     go_quiet (fail)
     go_wp2_with fail
     go_ret
     exact⟨by rw[idxZ_at HX.out HQ.out HA.out];rfl,below_drewN (HB.out.trans (HB2.out.mono HB.out.size)) _⟩
    ·have h2b:((p.2:Int)==(x.2:Int))=false:=beq_eq_false_iff_ne.2 h2;have HQ:=zh (show(p==x)=false by rw[HBE.out,h1b,h2b];rfl);clear h1 h2
     go_wp2_with fail
     go_quiet (fail)
     go_wp2_with fail
     go_roundw
     case rel=>
      refine⟨k+1,zO,zN,fun y hy=>?_,below_drewN HB2.out _⟩;rw[List.take_add_one,HX.out] at hy;simp at hy
      rcases hy with hy|rfl
      ·exact HA.out y hy
      ·exact HQ.out
     case measure=>simp[intOf];omega
   ·have h1b:((p.1:Int)==(x.1:Int))=false:=beq_eq_false_iff_ne.2 h1;have HQ:=zh (show(p==x)=false by rw[HBE.out,h1b];rfl);clear h1
    go_wp2_with fail
    go_quiet (fail)
    go_wp2_with fail
    go_roundw
    case rel=>
     refine⟨k+1,zO,zN,fun y hy=>?_,below_drewN HB2.out _⟩;rw[List.take_add_one,HX.out] at hy;simp at hy
     rcases hy with hy|rfl
     ·exact HA.out y hy
     ·exact HQ.out
    case measure=>simp[intOf];omega
  ·go_wp2_with fail
   go_ret
   exact⟨by rw[idxZ_no (fun x hx=>HA.out x (by rw[List.take_of_length_le zO];exact hx))];rfl,HB.out.trans (HB2.out.mono HB.out.size)⟩
theorem containsPair_any (a:Option Addr)(n:Nat)(l:List (Nat×Nat))(p:Nat×Nat)(w:World)(h:PairsAt w a l)(hl:l.length≤100000):
 Calls Tryz.prog 74 #[.slice a l.length n,.agg #[.int .i64 (p.1:Int),.int .i64 (p.2:Int)]] w fun e w'=>e = .returned (.bool (l.any fun q=>p==q))∧Below w.heap.size w w':=by
 obtain⟨w1,hw1⟩:=zx (w.alloc (.cells #[.int .i64 (p.1:Int),.int .i64 (p.2:Int)] 57));have hB1:Below w.heap.size w w1:=by rw[←hw1];go_grown
 have hg:Box w1 w.heap.size #[.int .i64 (p.1:Int),.int .i64 (p.2:Int)] 57:=by rw[←hw1];exact Box.new _ _ _
 have HI:=zh (indexPair_any a n l p w1 (h.below hB1) hl);have HW:=zh hw1;have HB:=zh hB1;have e1:=hg.cell;clear hw1 hB1 hg h
 go_enter Tryz.func74,Tryz.ntmps74
 go_upto_region 1 with fail
 simp only[HW.out]
 go_wp2_with fail
 refine zM HI ?_;rintro e w2 ⟨rfl,hb2⟩;have HB2:=zh (HB.out.trans (hb2.mono HB.out.size));obtain⟨m,hm⟩:=zx (idxZ (fun q=>p==q) l);have hd:decide (0≤m)=l.any (fun q=>p==q):=by rw[←hm,idxZ_any]
 rw[hm];have HD:=zh hd;clear hm hb2 hd e1
 go_wp2_with fail
 go_ret
 exact⟨by rw[HD.out];rfl,HB2.out⟩
end Go.Proofs.YtjgldeeianionaaGreat
