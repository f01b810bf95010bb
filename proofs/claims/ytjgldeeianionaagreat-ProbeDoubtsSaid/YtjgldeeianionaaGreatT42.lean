/- The walks and plain laws of: MPartsR MQR9 MQR15 MQR16 MQR17. No condition. -/
import Derived.IntWalk
import Derived.WalkKit
import Derived.WalkSpells
import Derived.WalkLawsBesides
import Derived.RangeFuncKeeps
import Derived.Deep.Draws
import Derived.Sort.CutIn
import Derived.Maps.AppendAt
import Derived.OwnWalk
import Derived.OwnWalkIn
import Derived.Shelf.Abstract
import Derived.Deep.DeepCutAuto
import Derived.Deep.OwnRows
import Derived.Laws.EntriesVeiled
import Derived.Deep.RegionHeld3
import Derived.Test.YtjgldeeianionaaGreatProg
import Derived.Maps.OwnSet
import Derived.Maps.OwnOps
import Derived.Deep.LoopGhost
import Derived.Deep.QuietTactic
import Derived.BigQuiet
import Derived.Handy
import Derived.Lib.Hide
import Derived.Lib.ConvBytes
import Derived.RangeFuncNested
import Derived.RangeFuncBound
import Derived.RangeFuncCalls
import Derived.RangeFuncLeaves
import Derived.RangeFuncRecord
import Derived.TacticsInMore
import Derived.LoopNIn
import Derived.LoopIn
import Derived.Scope
import Derived.WalkMore
import Derived.Deep.Quiet
import Derived.OrdersIn
import Derived.StillTail
import Derived.StillTailTactics
import Derived.OrdersHeld
import Derived.Deep.RegionHeld
import Derived.Tactics2
import Derived.Defers
import Derived.Recover
import Derived.Laws.Pointers
import Derived.ChangeKeysEq
import Derived.Deep.MidRow
import Derived.Sort.QuietIn
import Derived.Lib.SliceRun
import Derived.Shelf.Sort.Plain
import Derived.Shelf.Slices.CompactI
import Derived.Shelf.Slices.Reverse
import Derived.ArgAppend
import Derived.Test.YtjgldeeianionaaGreatRows
import Derived.RowKit
import Derived.RowKit3
import Derived.Lib.SmallJoins
import Derived.Deep.Slices
import Derived.WideKeyArgs
import Derived.ChangeMaps5
import Derived.OpenShut
import Derived.Test.YtjgldeeianionaaGreatT01
import Derived.Test.YtjgldeeianionaaGreatT13
import Derived.Test.YtjgldeeianionaaGreatT16
import Derived.Test.YtjgldeeianionaaGreatT18
import Derived.Test.YtjgldeeianionaaGreatT20
import Derived.Test.YtjgldeeianionaaGreatT24
import Derived.Test.YtjgldeeianionaaGreatT25
import Derived.Test.YtjgldeeianionaaGreatT34
import Derived.Test.YtjgldeeianionaaGreatT35
import Derived.Test.YtjgldeeianionaaGreatT40
import Derived.Test.YtjgldeeianionaaGreatT41
set_option maxHeartbeats 4000000
set_option maxRecDepth 100000
set_option linter.unusedSimpArgs false
set_option linter.unusedVariables false
namespace Go.Proofs.YtjgldeeianionaaGreat
open Go.RowKit
def PrtL (B M g:Nat)(W:World)(z:PrtM):Prop:=
 Ints W z.2.1.1 z.1.sherds∧Ints W z.2.2.1 z.1.rests∧z.1.sherds.length≤z.2.1.2∧z.1.rests.length≤z.2.2.2∧(∀b o,z.2.1.1=some ⟨b,o,none⟩→0<z.1.sherds.length→B≤b∧b<M∧b≠g)∧(∀b o,z.2.2.1=some ⟨b,o,none⟩→0<z.1.rests.length→B≤b∧b<M∧b≠g)
def PartsR (B M:Nat)(a:Option Addr)(W:World)(zs:List PrtM):Prop:=
 ∀i z,zs[i]?=some z→∃g,a=some ⟨g,0,none⟩∧B≤g∧g<M∧W.rangeAt g (i*8) (prtRow z)∧W.there g (i*8) 8∧PrtL B M g W z
theorem PartsV.toR {B:Nat}{W:World}{a:Option Addr}{k cap:Nat}{l:List Prt}(h:PartsV B W (.slice a k cap) l):∃zs,zs.map (·.1)=l∧PartsR B W.heap.size a W zs:=by
 obtain⟨zs,h1,h2,h3⟩:=h;refine⟨zs,h1,fun i z hz=>?_⟩;have hi:i<l.length:=by rw[←h1,List.length_map];exact(List.getElem?_eq_some_iff.1 hz).1
 obtain⟨q1,q2,q3,q4,q5,q6⟩:=h3 z (List.mem_of_getElem? hz);obtain⟨hlen,⟨_,h0⟩|⟨g,c,cur,hv,hBg,hg,hlc,hcm,hcs,htk⟩⟩:=id h2
 ·omega
 ·cases hv;have hgM:g<W.heap.size:=(h2.lt g rfl).2;have hrng:W.rangeAt g (i*8) (prtRow z):=fun j v hv=>by
   have hj:j<8:=(List.getElem?_eq_some_iff.1 hv).1;have:=h2.cells (g:=g) rfl (i*8+j) v (by rw[flat8_at hz hj];exact hv);rw[Addr.add_mid,Nat.zero_add] at this;exact this
  refine⟨g,rfl,hBg,hgM,hrng,fun j hj=>⟨?_,?_⟩,q1,q2,q3,q4,fun b o ha hl=>⟨(q5 b o ha hl).1,ints_block q1 ha hl,fun e=>(q5 b o ha hl).2 (by simp[Value.ownBlock,e])⟩,fun b o ha hl=>⟨(q6 b o ha hl).1,ints_block q2 ha hl,fun e=>(q6 b o ha hl).2 (by simp[Value.ownBlock,e])⟩⟩
  ·rw[hrng j _ (List.getElem?_eq_getElem (by rw[prtRow_len];exact hj))];rfl
  ·have hb:Box W g cur 80:=hg;exact hb.frozen _
theorem PartsR.keep {K:Nat→Prop}{B M:Nat}{a:Option Addr}{W W':World}{zs:List PrtM}(h:PartsR B M a W zs)(hk:Keep K W W')(hK:∀k,B≤k→k<M→K k):PartsR B M a W' zs:=fun i z hz=>by
 obtain⟨g,ha,hB,hM,h1,h2,q1,q2,q3,q4,q5,q6⟩:=h i z hz;have hlt:g<W.heap.size:=lt_of_cell (h1 0 _ rfl);have hb:W'.heap[g]?=W.heap[g]?:=hk.block g (hK g hB hM) hlt;exact⟨g,ha,hB,hM,fun j v hv=>hk.cell (hK g hB hM) (h1 j v hv),fun j hj=>by
  have:=h2 j hj;rw[World.cell?_of_block (a:=⟨g,i*8+j,none⟩) hb,World.frozen?_of_block (a:=⟨g,i*8+j,none⟩) hb];exact this,
  ints_keep q1 hk (fun b o ha hl=>hK b (q5 b o ha hl).1 (q5 b o ha hl).2.1),ints_keep q2 hk (fun b o ha hl=>hK b (q6 b o ha hl).1 (q6 b o ha hl).2.1),q3,q4,q5,q6⟩
theorem PartsR.below {B M:Nat}{a:Option Addr}{W W':World}{zs:List PrtM}(h:PartsR B M a W zs)(hb:Below W.heap.size W W'):PartsR B M a W' zs:=h.keep (K:=fun _=>True) (Keep.of_below' hb) (fun _ _ _=>trivial)
theorem PartsR.at_ {B M:Nat}{a:Option Addr}{W:World}{zs:List PrtM}(h:PartsR B M a W zs):PartsAt W a (zs.map (·.1)):=fun i p hp=>by
 rw[List.getElem?_map] at hp;obtain⟨z,hz,rfl⟩:=Option.map_eq_some_iff.1 hp;obtain⟨g,ha,hB,hM,h1,h2,q1,q2,q3,q4,q5,q6⟩:=h i z hz;exact⟨g,0,ha,z.2.1.1,z.2.1.2,z.2.2.1,z.2.2.2,fun j v hv=>by rw[Nat.zero_add];exact h1 j v hv,q1,q2,q3,q4⟩
theorem box_setCells {W:World}{b:Nat}{cs:Array Value}{t:TypeId}(h:Box W b cs t){g:Nat}(hg:b≠g):∀(o:Nat) (vs:List Value),Box (W.setCells g o vs) b cs t:=by
 intro o vs
 induction vs generalizing W o with
 |nil=>exact h
 |cons v vs ih=>unfold World.setCells;exact ih (h.far (by exact hg) _) _
theorem ints_cells {W:World}{a:Option Addr}{l:List Int}(h:Ints W a l){g:Nat}(hp:∀b o,a=some ⟨b,o,none⟩→0<l.length→b≠g)(o:Nat)(vs:List Value):Ints (W.setCells g o vs) a l:=fun k u hu=>by
 obtain⟨b,o',ha,hc⟩:=h k u hu;have hl:0<l.length:=by have:=(List.getElem?_eq_some_iff.1 hu).1;simp at this;omega
 refine⟨b,o',ha,?_⟩;rw[World.cell?_setCells_out g vs o W ⟨b,o'+k,none⟩ (fun e=>absurd e (hp b o' ha hl))];exact hc
def OwnP (Q:Nat→Prop)(W:World)(a:Option Addr)(l:List Prt):Prop:=∀W',Keep Q W W'→PartsAt W' a l
theorem OwnP.keep {Q:Nat→Prop}{W W':World}{a:Option Addr}{l:List Prt}(h:OwnP Q W a l)(hk:Keep Q W W'):OwnP Q W' a l:=fun W2 h2=>h W2 (hk.trans h2)
theorem OwnP.mono {Q Q':Nat→Prop}{W:World}{a:Option Addr}{l:List Prt}(h:OwnP Q W a l)(hq:∀k,Q k→Q' k):OwnP Q' W a l:=fun W2 h2=>h W2 (h2.mono hq)
theorem PartsR.own {B M:Nat}{W:World}{a:Option Addr}{zs:List PrtM}(h:PartsR B M a W zs):OwnP (fun k=>B≤k) W a (zs.map (·.1)):=fun W2 h2=>(h.keep h2 (fun k hk _=>hk)).at_
end Go.Proofs.YtjgldeeianionaaGreat
namespace Go.Proofs.YtjgldeeianionaaGreat
open Go.RowKit
attribute [local go_sem] Oper.semAt_some
theorem xErr_set {c:Cs}{l:List Prb}{ok:Bool}(h:xErr c l ok=0):probesErr c l=0∧ok=true∧(allR c).isEmpty=false:=by
 unfold xErr at h
 split at h
 ·rename_i h1;exact absurd h h1
 ·rename_i h1
  have h1:probesErr c l=0:=Decidable.not_not.1 h1;cases ok
  ·simp at h
  ·refine⟨h1,rfl,?_⟩;cases hL:(allR c).isEmpty
   ·rfl
   ·rw[hL] at h;simp at h
def spnCells (s:Spn):List Value:=[.int .i64 s.low,.int .i64 s.high,.int .i64 s.lowBy,.int .i64 s.highBy]
theorem span_size9:(Tryz.prog.info? 78).map (·.size)=some 4:=zK
theorem there_span {W:World}{g i:Nat}(h:W.there g (i*8) 8):W.there g (i*8+1) 4:=fun j hj=>by
 have:=h (1+j) zO
 rwa [←Nat.add_assoc] at this
theorem run_store_span {W:World}{g o:Nat}{s:Spn}(ht:W.there g o 4):
 (Instr.storeAt 78 (.pointer (some ⟨g,o,none⟩)) (.agg #[.int .i64 s.low,.int .i64 s.high,.int .i64 s.lowBy,.int .i64 s.highBy])).run Tryz.prog W = .ok () (W.setCells g o (spnCells s)):=
 run_storeAt_mid (P:=Tryz.prog) W g o 78 #[.int .i64 s.low,.int .i64 s.high,.int .i64 s.lowBy,.int .i64 s.highBy] ht span_size9 (by simp[Value.oneCell'])
theorem PartsR.span {B M:Nat}{a:Option Addr}{W:World}{zs:List PrtM}(h:PartsR B M a W zs){i:Nat}{z:PrtM}(hz:zs[i]?=some z){g:Nat}(hg:a=some ⟨g,0,none⟩)(s:Spn):
 PartsR B M a (W.setCells g (i*8+1) (spnCells s)) (zs.set i ({z.1 with span:=s},z.2)):=fun k y hy=>by
 have hth:W.there g (i*8) 8:=by
  obtain⟨g',ha,_,_,_,h2,_⟩:=h i z hz;rw[hg] at ha;cases ha;exact h2
 have lists:∀y:PrtM,PrtL B M g W y→PrtL B M g (W.setCells g (i*8+1) (spnCells s)) y:=fun y ⟨q1,q2,q3,q4,q5,q6⟩=>
  ⟨ints_cells q1 (fun b o ha hl=>(q5 b o ha hl).2.2) _ _,ints_cells q2 (fun b o ha hl=>(q6 b o ha hl).2.2) _ _,q3,q4,q5,q6⟩
 by_cases hki:k=i
 ·subst hki;obtain⟨g',ha,hB,hM,h1,h2,hq⟩:=h k z hz;rw[hg] at ha;cases ha;rw[List.getElem?_set_self (by exact(List.getElem?_eq_some_iff.1 hz).1)] at hy;cases hy;refine⟨g,hg,hB,hM,fun j v hv=>?_,World.there_setCells h2 _ _ _,lists z hq⟩;have hnew:=World.rangeAt_setCells_same W g (k*8+1) (spnCells s) (there_span hth);have hj:j<8:=(List.getElem?_eq_some_iff.1 hv).1;have out_:∀j,(j<1∨5≤j)→(W.setCells g (k*8+1) (spnCells s)).cell? ⟨g,k*8+j,none⟩=W.cell? ⟨g,k*8+j,none⟩:=fun j hj=>World.cell?_setCells_out g _ _ W ⟨g,k*8+j,none⟩ (fun _ _=>by simp only[spnCells,List.length_cons,List.length_nil];omega)
  match j,hj,hv with
  |0,_,hv=>exact(out_ 0 zO).trans (h1 0 v hv)
  |1,_,hv=>exact hnew 0 v hv
  |2,_,hv=>exact hnew 1 v hv
  |3,_,hv=>exact hnew 2 v hv
  |4,_,hv=>exact hnew 3 v hv
  |5,_,hv=>exact(out_ 5 zO).trans (h1 5 v hv)
  |6,_,hv=>exact(out_ 6 zO).trans (h1 6 v hv)
  |7,_,hv=>exact(out_ 7 zO).trans (h1 7 v hv)
 ·rw[List.getElem?_set_ne (fun e=>hki e.symm)] at hy;obtain⟨g',ha,hB,hM,h1,h2,hq⟩:=h k y hy;rw[hg] at ha;cases ha;refine⟨g,hg,hB,hM,World.rangeAt_setCells_apart h1 _ _ _ ?_,World.there_setCells h2 _ _ _,lists y hq⟩;rw[prtRow_len];simp only[spnCells,List.length_cons,List.length_nil]
  omega
theorem refAft_snoc (c:Cs)(l:List Prb):∀(xs:List (Nat×Nat)) (d:Cs) (v k:Nat) (p:Prb),l[v]?=some p→refAft c l (xs++[(v,k)]) d=narrowOf c (refAft c l xs d) p k
 |[],d,v,k,p,h=>by simp[refAft,h]
 |(u,j)::xs,d,v,k,p,h=>by
  rw[List.cons_append,refAft,refAft]
  split
  ·exact refAft_snoc c l xs d v k p h
  ·exact refAft_snoc c l xs _ v k p h
theorem narrow_set {d:Cs}{i:Nat}{lo hi id:Int}{zs:List PrtM}{z:PrtM}(hz:zs[i]?=some z)(hm:zs.map (·.1)=d.parts):(zs.set i ({z.1 with span:=(narrowP lo hi id z.1).span},z.2)).map (·.1)=(narrowC d i lo hi id).parts:=by
 rw[List.map_set,hm];unfold narrowC;simp only;have hq:d.parts[i]?=some z.1:=by rw[←hm,List.getElem?_map,hz];rfl
 apply List.ext_getElem?
 intro k;rw[List.getElem?_set,List.getElem?_modify]
 by_cases hk:i=k
 ·subst hk;have hl:=(List.getElem?_eq_some_iff.1 hq).1;rw[if_pos rfl,if_pos hl,hq]
  simp[narrowP]
 ·rw[if_neg hk]
  simp[hk]
theorem refAft_ware (c:Cs)(l:List Prb):∀(xs:List (Nat×Nat)) (d:Cs),(refAft c l xs d).ware=d.ware∧(refAft c l xs d).limit=d.limit∧(refAft c l xs d).by_=d.by_
 |[],d=>⟨rfl,rfl,rfl⟩
 |(v,k)::xs,d=>by
  rw[refAft]
  split
  ·exact refAft_ware c l xs d
  ·obtain⟨h1,h2,h3⟩:=refAft_ware c l xs (narrowOf c d _ k);exact⟨h1,h2,h3⟩
def AfterRPost (o:Option Cs)(w:World)(e:Ending)(w':World):Prop:=Below w.heap.size w w'∧∃cs b,e = .returned (.tuple #[.agg cs,.bool b])∧AftCells o w.heap.size w' cs b
theorem afterR9_any {c:Cs}{l:List Prb}(hsm:c.Small)(hz:probesErr c l=0)(pa:Option Addr)(pc:Nat)(qa:Option Addr)(qc:Nat)(sa:Option Addr)(s:List Nat)(sc:Nat)(fa:Option Addr)(fs:List Nat)(fc:Nat)(hs:∀v∈s,v<l.length)(hff:FoundFor c l s fs)(hsl:s.length≤1000)(w:World)(hp:PartsAt w pa c.parts)(hq:PrbsAt w qa l)(hS:Ints w sa (natInts s))(hF:Ints w fa (natInts fs)):
 Calls Tryz.prog 64 #[.agg #[.string c.ware,.int .i64 c.limit,.int .i64 c.by_,.slice pa c.parts.length pc],.slice qa l.length qc,.slice sa s.length sc,.slice fa fs.length fc] w (AfterRPost (afterC c l s fs) w):=by
 obtain⟨w1,hw1⟩:=zx ((w.alloc (.cells #[.string c.ware,.int .i64 c.limit,.int .i64 c.by_,.slice pa c.parts.length pc] 24)).alloc (.cells #[.string ⟨#[]⟩,.int .i64 0,.int .i64 0,.slice none 0 0] 24));have hB1:Below w.heap.size w w1:=by rw[←hw1];go_grown
 have hz1:w1.heap.size=w.heap.size+2:=by rw[←hw1];simp
 have g1:Box w1 w.heap.size (csCells c pa pc) 24:=by rw[←hw1];exact(Box.new _ _ _).alloc _
 have g2:Box w1 (w.heap.size+1) #[.string ⟨#[]⟩,.int .i64 0,.int .i64 0,.slice none 0 0] 24:=by rw[←hw1];exact Box.new' zS
 have e1:=zC (g1);have HCO:=zh (copied_ref c hsm pa pc w1 (hp.below hB1));have HAR:=zh (after_ref (fs:=fs) hz hs);have h8:=(check_okCase (probes_ok hz).1).1;have HPT:=zh (fun(k v:Nat) (pr:Prb) (hv:l[v]?=some pr)=>cnt_at9 hz hv);have HLV:=zh hs;have HFF:=zh hff;have HW:=zh hw1;have HB1:=zh hB1;have HG1:=zh g1;have HG2:=zh g2;have HZ1:=zh hz1;have HP:=zh hp;have HQ:=zh hq;have HS:=zh hS;have HF:=zh hF;have hfl:=hff.1;have HFL:=zh hfl;clear hw1 hB1 hz1 g1 g2 hp hq hS hF hz hs hff hfl hsm
 go_enter Tryz.func64,Tryz.ntmps64
 go_upto_region 1 with fail
 simp only[HW.out]
 go_wp2_with fail
 refine zM HCO ?_;rintro e w2 ⟨ca,cap,rfl,hcap,hpv,hb2⟩;obtain⟨zs0,hm0,hr0⟩:=hpv.toR;have HR0:=zh hr0;have HM0:=zh hm0;have HB2:=zh (HB1.out.trans (hb2.mono HB1.out.size));have HG1:=zh (HG1.out.below' hb2);have HG2:=zh (HG2.out.below' hb2);have HZ2:=zh (show w.heap.size+2≤w2.heap.size by have:=HZ1.out;have:=hb2.size;omega);clear hpv hr0 hm0 hb2 e1 HCO
 go_upto_region 2 with fail
 obtain⟨D,hD⟩:=zx (w2.heap.size);have hb3:Below w2.heap.size w2 (w2.alloc (.cells #[.string c.ware,.int .i64 c.limit,.int .i64 c.by_,.slice ca c.parts.length cap] 24)):=by go_grown
 have x3:Box (w2.alloc (.cells #[.string c.ware,.int .i64 c.limit,.int .i64 c.by_,.slice ca c.parts.length cap] 24)) w2.heap.size (csCells c ca cap) 24:=Box.new _ _ _;generalize w2.alloc (.cells #[.string c.ware,.int .i64 c.limit,.int .i64 c.by_,.slice ca c.parts.length cap] 24)=w3 at *;have HR:=zh (HR0.out.below hb3);have HB3:=zh (HB2.out.trans (hb3.mono HB2.out.size));have HG1:=zh (HG1.out.below' hb3);have HG2:=zh (HG2.out.below' hb3);rw[hD] at x3 HR HR0 ⊢;have HX3:=zh x3;have HD:=zh hD;clear hb3 x3 hD HR0
 go_wp2_with fail
 go_loopw [11] (fun iv wr=>∃(k:Nat) (zs:List PrtM),k≤s.length∧iv = .int .i64 k∧zs.map (·.1)=(refAft c l ((s.zip fs).take k) c).parts∧PartsR w1.heap.size D ca wr zs∧Box wr D (csCells c ca cap) 24∧Box wr w.heap.size (csCells c pa pc) 24∧Box wr (w.heap.size+1) #[.string ⟨#[]⟩,.int .i64 0,.int .i64 0,.slice none 0 0] 24∧Below w.heap.size w wr) (fun iv _=>s.length-(intOf iv).toNat)
 case atStart=>exact⟨0,zs0,Nat.zero_le _,rfl,by rw[HM0.out];rfl,HR.out,HX3.out,HG1.out,HG2.out,HB3.out⟩
 case round=>
  obtain⟨k,zs,hk,rfl,hm,hr,hx,hg1,hg2,hbw⟩:=hrel
  by_cases hlt:k<s.length
  ·obtain⟨v,hv⟩:=get_of_lt s hlt;have hvl:=HLV.out v (List.mem_of_getElem? hv);obtain⟨pr,f,hpr,hf,hfc⟩:=HFF.out.2 k v hv;obtain⟨i,q0,hi,hq0,⟨s1,s2,s3⟩,v1,v2⟩:=HPT.out v v pr hpr;have hspn:=spanOf_at (d:=c) (p:=pr) (q:=q0) (by rw[hi];simpa using hq0);rw[hspn] at hfc;have hf1:f≤1001:=by have:=cnt_le v1 s2 s1 s3;omega
   have hst0:=fun W h=>stepR9_any hi hq0 s1 s2 s3 v1 v2 f hf1 pa pc W h
   obtain⟨lo,hlo⟩:=zx ((stepAt q0.span pr.width f).1);obtain⟨hi',hhi⟩:∃hi',(stepAt q0.span pr.width f).2=hi':=⟨_,rfl⟩
   rw[hlo,hhi] at hst0;simp only[hi] at hst0;have HST:=zh hst0;have hil:i<c.parts.length:=(List.getElem?_eq_some_iff.1 hq0).1;have hzl:zs.length=c.parts.length:=by
    have:=congrArg List.length hm;rw[List.length_map,refAft_len] at this;exact this
   obtain⟨zp,hzp⟩:=get_of_lt zs (k:=i) zO;obtain⟨g,rfl,hBg,hgD,hrng,hth,_⟩:=hr i zp hzp;have hnx:refAft c l ((s.zip fs).take (k+1)) c=narrowC (refAft c l ((s.zip fs).take k) c) i lo hi' pr.id:=by
    rw[take_snoc (x:=(v,f)) (List.getElem?_zip_eq_some.2 ⟨hv,hf⟩),refAft_snoc c l _ _ _ _ _ hpr,narrowOf,hspn,hlo,hhi,hi]
    rfl
   have hset:=narrow_set (lo:=lo) (hi:=hi') (id:=pr.id) hzp hm;rw[←hnx] at hset;have HSET:=zh hset;have HZP:=zh hzp;have hsv:(natInts s)[k]?=some (v:Int):=by simp[natInts,hv]
   have hfv:(natInts fs)[k]?=some (f:Int):=by simp[natInts,hf]
   obtain⟨b1,o1,rfl,q1⟩:=(HS.out.below hbw).base (by simp[natInts];omega);have d1:=q1 _ _ hsv;obtain⟨b3,o3,rfl,q3⟩:=(HF.out.below hbw).base (by have:=HFL.out;simp[natInts];omega);have d3:=q3 _ _ hfv;obtain⟨b2,o2,pr',rfl,hpr',hG⟩:=(HQ.out.below hbw).at_ hvl;rw[hpr] at hpr';cases hpr';obtain⟨c0,c1,c2,c3⟩:=hG.open;rw[hi] at c1;have y1:=hrng 1 _ rfl;have y2:=hrng 2 _ rfl;have y3:=hrng 3 _ rfl;have y4:=hrng 4 _ rfl;have hkn:(k:Int)<(s.length:Int):=by omega
   have hkf:(k:Int)<(fs.length:Int):=by have:=HFL.out;omega
   have hvn:(v:Int)<(l.length:Int):=by omega
   have hin:(i:Int)<(c.parts.length:Int):=by omega
   have HPI:=zh hi;have HBW:=zh hbw;have HGW:=zh hg1;have HGR:=zh hg2;have HXD:=zh hx;have HRR:=zh hr;have HTH:=zh hth;have HBg:=zh hBg;have HY:=zh (⟨y1,y2,y3,y4⟩:wr.cell? ⟨g,i*8+1,none⟩=some (.int .i64 zp.1.span.low)∧wr.cell? ⟨g,i*8+2,none⟩=some (.int .i64 zp.1.span.high)∧wr.cell? ⟨g,i*8+3,none⟩=some (.int .i64 zp.1.span.lowBy)∧wr.cell? ⟨g,i*8+4,none⟩=some (.int .i64 zp.1.span.highBy));have HD3:=zh d3;have hxl:=hx.lt;clear hv hvl hpr hf hfc hq0 s1 s2 s3 v1 v2 hspn hst0 hlo hhi hzl hnx hset hzp hsv hfv q1 q3 hG hr hx hg1 hg2 hbw hrng hth y1 y2 y3 y4 d3 hm hBg hlt;obtain⟨w4,hw4⟩:=zx (wr.alloc (.cells #[.int .i64 pr.id,.int .i64 i,.int .i64 pr.width,.int .i64 pr.cost] 93));have hb4:Below wr.heap.size wr w4:=by rw[←hw4];go_grown
   have p4:Box w4 wr.heap.size #[.int .i64 pr.id,.int .i64 i,.int .i64 pr.width,.int .i64 pr.cost] 93:=by rw[←hw4];exact Box.new _ _ _
   have HW4:=zh hw4;have HB4:=zh hb4;have HP4:=zh p4;clear hw4 hb4 p4
   go_upto_region 6 with fail
   simp only[HW4.out];clear c0 c1 c2 c3 d1;refine wp_region_heldB 8 [(13,#[.int .i64 0,.int .i64 0],164)] zK zK zK zS ?_;intro S hSb;have K0:Hid (∀W,S W→cC W (w.heap.size) c pa pc∧(∀j,W.cell? ⟨wr.heap.size,j,none⟩=(#[.int .i64 pr.id,.int .i64 i,.int .i64 pr.width,.int .i64 pr.cost]:Array Value)[j]?)∧W.cell? ⟨b3,o3+k,none⟩=some (.int .i64 (f:Int))):=
    zh fun W hW=>⟨((HGW.out.below' HB4.out).below' (hSb W hW)).cell,(HP4.out.below' (hSb W hW)).cell,below_cell (hSb W hW) (below_cell HB4.out HD3.out)⟩
   have HSB:=zh hSb;clear hSb;simp only[List.take_succ_cons,List.take_zero,List.drop_succ_cons,List.drop_zero]
   repeat (first
    |(refine held_not rfl (by rfl) ?_;try simp only[pZ])
    |(refine held_val (v:=?_) rfl (by rfl) ?_ ?_;rotate_left;(· (intro W hW;obtain⟨q0,q1,q2⟩:=K0.out W hW;go_simp;try with_reducible rfl));try simp only[pZ])
    |(refine held_skip rfl (by rfl) ?_ ?_;(· (intro W hW;obtain⟨q0,q1,q2⟩:=K0.out W hW;go_simp;try with_reducible rfl));try simp only[pZ])
    |(refine held_call (v:=.agg #[.int .i64 lo,.int .i64 hi']) (f:=138) (args:=#[.agg #[.string c.ware,.int .i64 c.limit,.int .i64 c.by_,.slice pa c.parts.length pc],.agg #[.int .i64 pr.id,.int .i64 i,.int .i64 pr.width,.int .i64 pr.cost],.int .i64 f]) rfl (by rfl) ?_ ?_ ?_;(· (intro W hW;go_simp;done));(· exact(fun W hW=>HST.out W (HP.out.below ((HBW.out.trans (HB4.out.mono HBW.out.size)).trans ((HSB.out W hW).mono (by have:=HBW.out.size;have:=HB4.out.size;omega))))));try simp only[pZ]))
   refine held_own (e:=(13,#[.int .i64 0,.int .i64 0],164)) rfl rfl zS rfl (fun b W=>by go_simp) ?_;refine held_nil ?_;intro τ hτ W4 hW hO;obtain⟨G,rfl⟩:=laid1 hτ;obtain⟨hG,hGN⟩:=hO.one;have hbW:=HSB.out W4 hW;have hst:=run_store_row (P:=Tryz.prog) (T:=#[.int .i64 lo,.int .i64 hi']) hG range_size9 rfl (by simp[Value.oneCell']);have hG5:Box (W4.setRow G #[.int .i64 lo,.int .i64 hi']) G #[.int .i64 lo,.int .i64 hi'] 164:=hG.setRow_same;have hb5:Below w4.heap.size w4 (W4.setRow G #[.int .i64 lo,.int .i64 hi']):=below_setRow hbW hGN _;have HG5:=zh hG5;have HB5:=zh (HB4.out.trans (hb5.mono HB4.out.size));have HP5:=zh (HP4.out.below' hb5);clear hτ hO hG hGN hW K0 HSB hbW hG5 hb5;simp only[overs,List.foldl_cons,List.foldl_nil,Act.put,List.setIfInBounds_toArray,List.set_cons_zero,List.set_cons_succ]
   generalize (W4.setRow G #[.int .i64 lo,.int .i64 hi'])=w5 at *;have eD:∀j,w5.cell? ⟨D,j,none⟩=(#[.string c.ware,.int .i64 c.limit,.int .i64 c.by_,.slice (some ⟨g,0,none⟩) c.parts.length cap]:Array Value)[j]?:=(HXD.out.below' HB5.out).cell;have eP:=HP5.out.cell;have y1:=below_cell HB5.out HY.out.1;have y2:=below_cell HB5.out HY.out.2.1;have y3:=below_cell HB5.out HY.out.2.2.1;have y4:=below_cell HB5.out HY.out.2.2.2;obtain⟨w6,hw6⟩:=zx (w5.alloc (.cells #[.int .i64 zp.1.span.low,.int .i64 zp.1.span.high,.int .i64 zp.1.span.lowBy,.int .i64 zp.1.span.highBy] 78))
   go_upto_region 8 with (first
    |(refine wpList_store_box rfl 164 _ _ rfl rfl rfl hst ?_))
   have hb6:Below w5.heap.size w5 w6:=by rw[←hw6];go_grown
   have x6:Box w6 w5.heap.size #[.int .i64 zp.1.span.low,.int .i64 zp.1.span.high,.int .i64 zp.1.span.lowBy,.int .i64 zp.1.span.highBy] 78:=by rw[←hw6];exact Box.new _ _ _
   have HB6:=zh (HB5.out.trans (hb6.mono HB5.out.size));have HN5:=zh (show wr.heap.size≤w5.heap.size from HB5.out.size);have hne:wr.heap.size≠w5.heap.size:=by have:=HP5.out.lt;omega
   have hne2:w5.heap.size≠wr.heap.size:=fun h=>hne h.symm
   have HP6:=zh (HP5.out.below' hb6);clear eP;have eP:=HP6.out.cell;have X6:=zh x6;have e6:=x6.cell;have eG:=(HG5.out.below' hb6).cell;obtain⟨u1,u2⟩:=x6.rules;clear hw6 hb6 x6 eD y1 y2 y3 y4 hst
   by_cases h1:zp.1.span.low<lo
   ·by_cases h2:hi'<zp.1.span.high
    ·have x9:Box ((((w6.setCell ⟨w5.heap.size,0,none⟩ (.int .i64 lo)).setCell ⟨w5.heap.size,2,none⟩ (.int .i64 pr.id)).setCell ⟨w5.heap.size,1,none⟩ (.int .i64 hi')).setCell ⟨w5.heap.size,3,none⟩ (.int .i64 pr.id)) w5.heap.size #[.int .i64 lo,.int .i64 hi',.int .i64 pr.id,.int .i64 pr.id] 78:=((((X6.out.set_ 0 (.int .i64 lo)).set_ 2 (.int .i64 pr.id)).set_ 1 (.int .i64 hi')).set_ 3 (.int .i64 pr.id))
     have hb9:Below wr.heap.size wr ((((w6.setCell ⟨w5.heap.size,0,none⟩ (.int .i64 lo)).setCell ⟨w5.heap.size,2,none⟩ (.int .i64 pr.id)).setCell ⟨w5.heap.size,1,none⟩ (.int .i64 hi')).setCell ⟨w5.heap.size,3,none⟩ (.int .i64 pr.id)):=((((HB6.out.setCell (by simp;exact HN5.out) _).setCell (by simp;exact HN5.out) _).setCell (by simp;exact HN5.out) _).setCell (by simp;exact HN5.out) _)
     have xp9:=zh (show Box ((((w6.setCell ⟨w5.heap.size,0,none⟩ (.int .i64 lo)).setCell ⟨w5.heap.size,2,none⟩ (.int .i64 pr.id)).setCell ⟨w5.heap.size,1,none⟩ (.int .i64 hi')).setCell ⟨w5.heap.size,3,none⟩ (.int .i64 pr.id)) wr.heap.size #[.int .i64 pr.id,.int .i64 i,.int .i64 pr.width,.int .i64 pr.cost] 93 from((((HP6.out.far hne _).far hne _).far hne _).far hne _));have hns:(narrowP lo hi' pr.id zp.1).span=⟨lo,hi',pr.id,pr.id⟩:=by simp[narrowP,h1,h2]
     go_upto_region 14 with fail
     generalize ((((w6.setCell ⟨w5.heap.size,0,none⟩ (.int .i64 lo)).setCell ⟨w5.heap.size,2,none⟩ (.int .i64 pr.id)).setCell ⟨w5.heap.size,1,none⟩ (.int .i64 hi')).setCell ⟨w5.heap.size,3,none⟩ (.int .i64 pr.id))=w9 at *;clear e6 eG eP;have eP:=xp9.out.cell;have e14:=x9.cell;have eD:∀j,w9.cell? ⟨D,j,none⟩=(#[.string c.ware,.int .i64 c.limit,.int .i64 c.by_,.slice (some ⟨g,0,none⟩) c.parts.length cap]:Array Value)[j]?:=(HXD.out.below' hb9).cell;have hr9:=HRR.out.below hb9;obtain⟨_,ha,_,_,_,hth9,_⟩:=hr9 i zp HZP.out;cases ha;have hS:=run_store_span (s:=⟨lo,hi',pr.id,pr.id⟩) (there_span hth9);have hset:=HSET.out;rw[hns] at hset;have HSE:=zh hset;have HRN:=zh (hr9.span HZP.out rfl ⟨lo,hi',pr.id,pr.id⟩);have HDN:=zh (box_setCells (HXD.out.below' hb9) (g:=g) (by have:=hgD;omega) (i*8+1) (spnCells ⟨lo,hi',pr.id,pr.id⟩))
     have HWN:=zh (box_setCells (HGW.out.below' hb9) (g:=g) (by have:=HBg.out;have:=HZ1.out;omega) (i*8+1) (spnCells ⟨lo,hi',pr.id,pr.id⟩));have HRS:=zh (box_setCells (HGR.out.below' hb9) (g:=g) (by have:=HBg.out;have:=HZ1.out;omega) (i*8+1) (spnCells ⟨lo,hi',pr.id,pr.id⟩));have HBN:=zh (show Below w.heap.size w (w9.setCells g (i*8+1) (spnCells ⟨lo,hi',pr.id,pr.id⟩)) from below_setCells (by have:=HBg.out;have:=HZ1.out;omega) _ _ (HBW.out.trans (hb9.mono HBW.out.size)));clear hns hset hr9 hth9 x9 hb9;generalize w9.setCells g (i*8+1) (spnCells ⟨lo,hi',pr.id,pr.id⟩)=w10 at *
     go_wp2_with (refine wpList_store_box rfl 78 _ _ rfl rfl rfl hS ?_)
     go_roundw
     case rel=>exact⟨k+1,_,zO,zN,HSE.out,HRN.out,HDN.out,HWN.out,HRS.out,HBN.out⟩
     case measure=>simp[intOf];omega
    ·have x9:Box ((w6.setCell ⟨w5.heap.size,0,none⟩ (.int .i64 lo)).setCell ⟨w5.heap.size,2,none⟩ (.int .i64 pr.id)) w5.heap.size #[.int .i64 lo,.int .i64 zp.1.span.high,.int .i64 pr.id,.int .i64 zp.1.span.highBy] 78:=((X6.out.set_ 0 (.int .i64 lo)).set_ 2 (.int .i64 pr.id))
     have hb9:Below wr.heap.size wr ((w6.setCell ⟨w5.heap.size,0,none⟩ (.int .i64 lo)).setCell ⟨w5.heap.size,2,none⟩ (.int .i64 pr.id)):=((HB6.out.setCell (by simp;exact HN5.out) _).setCell (by simp;exact HN5.out) _)
     have xp9:=zh (show Box ((w6.setCell ⟨w5.heap.size,0,none⟩ (.int .i64 lo)).setCell ⟨w5.heap.size,2,none⟩ (.int .i64 pr.id)) wr.heap.size #[.int .i64 pr.id,.int .i64 i,.int .i64 pr.width,.int .i64 pr.cost] 93 from((HP6.out.far hne _).far hne _));have hns:(narrowP lo hi' pr.id zp.1).span=⟨lo,zp.1.span.high,pr.id,zp.1.span.highBy⟩:=by simp[narrowP,h1,h2]
     go_upto_region 14 with fail
     generalize ((w6.setCell ⟨w5.heap.size,0,none⟩ (.int .i64 lo)).setCell ⟨w5.heap.size,2,none⟩ (.int .i64 pr.id))=w9 at *;clear e6 eG eP;have eP:=xp9.out.cell;have e14:=x9.cell;have eD:∀j,w9.cell? ⟨D,j,none⟩=(#[.string c.ware,.int .i64 c.limit,.int .i64 c.by_,.slice (some ⟨g,0,none⟩) c.parts.length cap]:Array Value)[j]?:=(HXD.out.below' hb9).cell;have hr9:=HRR.out.below hb9;obtain⟨_,ha,_,_,_,hth9,_⟩:=hr9 i zp HZP.out;cases ha;have hS:=run_store_span (s:=⟨lo,zp.1.span.high,pr.id,zp.1.span.highBy⟩) (there_span hth9);have hset:=HSET.out;rw[hns] at hset;have HSE:=zh hset;have HRN:=zh (hr9.span HZP.out rfl ⟨lo,zp.1.span.high,pr.id,zp.1.span.highBy⟩);have HDN:=zh (box_setCells (HXD.out.below' hb9) (g:=g) (by have:=hgD;omega) (i*8+1) (spnCells ⟨lo,zp.1.span.high,pr.id,zp.1.span.highBy⟩))
     have HWN:=zh (box_setCells (HGW.out.below' hb9) (g:=g) (by have:=HBg.out;have:=HZ1.out;omega) (i*8+1) (spnCells ⟨lo,zp.1.span.high,pr.id,zp.1.span.highBy⟩));have HRS:=zh (box_setCells (HGR.out.below' hb9) (g:=g) (by have:=HBg.out;have:=HZ1.out;omega) (i*8+1) (spnCells ⟨lo,zp.1.span.high,pr.id,zp.1.span.highBy⟩));have HBN:=zh (show Below w.heap.size w (w9.setCells g (i*8+1) (spnCells ⟨lo,zp.1.span.high,pr.id,zp.1.span.highBy⟩)) from below_setCells (by have:=HBg.out;have:=HZ1.out;omega) _ _ (HBW.out.trans (hb9.mono HBW.out.size)));clear hns hset hr9 hth9 x9 hb9;generalize w9.setCells g (i*8+1) (spnCells ⟨lo,zp.1.span.high,pr.id,zp.1.span.highBy⟩)=w10 at *
     go_wp2_with (refine wpList_store_box rfl 78 _ _ rfl rfl rfl hS ?_)
     go_roundw
     case rel=>exact⟨k+1,_,zO,zN,HSE.out,HRN.out,HDN.out,HWN.out,HRS.out,HBN.out⟩
     case measure=>simp[intOf];omega
   ·by_cases h2:hi'<zp.1.span.high
    ·have x9:Box ((w6.setCell ⟨w5.heap.size,1,none⟩ (.int .i64 hi')).setCell ⟨w5.heap.size,3,none⟩ (.int .i64 pr.id)) w5.heap.size #[.int .i64 zp.1.span.low,.int .i64 hi',.int .i64 zp.1.span.lowBy,.int .i64 pr.id] 78:=((X6.out.set_ 1 (.int .i64 hi')).set_ 3 (.int .i64 pr.id))
     have hb9:Below wr.heap.size wr ((w6.setCell ⟨w5.heap.size,1,none⟩ (.int .i64 hi')).setCell ⟨w5.heap.size,3,none⟩ (.int .i64 pr.id)):=((HB6.out.setCell (by simp;exact HN5.out) _).setCell (by simp;exact HN5.out) _)
     have xp9:=zh (show Box ((w6.setCell ⟨w5.heap.size,1,none⟩ (.int .i64 hi')).setCell ⟨w5.heap.size,3,none⟩ (.int .i64 pr.id)) wr.heap.size #[.int .i64 pr.id,.int .i64 i,.int .i64 pr.width,.int .i64 pr.cost] 93 from((HP6.out.far hne _).far hne _));have hns:(narrowP lo hi' pr.id zp.1).span=⟨zp.1.span.low,hi',zp.1.span.lowBy,pr.id⟩:=by simp[narrowP,h1,h2]
     go_upto_region 14 with fail
     generalize ((w6.setCell ⟨w5.heap.size,1,none⟩ (.int .i64 hi')).setCell ⟨w5.heap.size,3,none⟩ (.int .i64 pr.id))=w9 at *;clear e6 eG eP;have eP:=xp9.out.cell;have e14:=x9.cell;have eD:∀j,w9.cell? ⟨D,j,none⟩=(#[.string c.ware,.int .i64 c.limit,.int .i64 c.by_,.slice (some ⟨g,0,none⟩) c.parts.length cap]:Array Value)[j]?:=(HXD.out.below' hb9).cell;have hr9:=HRR.out.below hb9;obtain⟨_,ha,_,_,_,hth9,_⟩:=hr9 i zp HZP.out;cases ha;have hS:=run_store_span (s:=⟨zp.1.span.low,hi',zp.1.span.lowBy,pr.id⟩) (there_span hth9);have hset:=HSET.out;rw[hns] at hset;have HSE:=zh hset;have HRN:=zh (hr9.span HZP.out rfl ⟨zp.1.span.low,hi',zp.1.span.lowBy,pr.id⟩);have HDN:=zh (box_setCells (HXD.out.below' hb9) (g:=g) (by have:=hgD;omega) (i*8+1) (spnCells ⟨zp.1.span.low,hi',zp.1.span.lowBy,pr.id⟩))
     have HWN:=zh (box_setCells (HGW.out.below' hb9) (g:=g) (by have:=HBg.out;have:=HZ1.out;omega) (i*8+1) (spnCells ⟨zp.1.span.low,hi',zp.1.span.lowBy,pr.id⟩));have HRS:=zh (box_setCells (HGR.out.below' hb9) (g:=g) (by have:=HBg.out;have:=HZ1.out;omega) (i*8+1) (spnCells ⟨zp.1.span.low,hi',zp.1.span.lowBy,pr.id⟩));have HBN:=zh (show Below w.heap.size w (w9.setCells g (i*8+1) (spnCells ⟨zp.1.span.low,hi',zp.1.span.lowBy,pr.id⟩)) from below_setCells (by have:=HBg.out;have:=HZ1.out;omega) _ _ (HBW.out.trans (hb9.mono HBW.out.size)));clear hns hset hr9 hth9 x9 hb9;generalize w9.setCells g (i*8+1) (spnCells ⟨zp.1.span.low,hi',zp.1.span.lowBy,pr.id⟩)=w10 at *
     go_wp2_with (refine wpList_store_box rfl 78 _ _ rfl rfl rfl hS ?_)
     go_roundw
     case rel=>exact⟨k+1,_,zO,zN,HSE.out,HRN.out,HDN.out,HWN.out,HRS.out,HBN.out⟩
     case measure=>simp[intOf];omega
    ·have x9:Box w6 w5.heap.size #[.int .i64 zp.1.span.low,.int .i64 zp.1.span.high,.int .i64 zp.1.span.lowBy,.int .i64 zp.1.span.highBy] 78:=X6.out;have hb9:Below wr.heap.size wr w6:=HB6.out;have xp9:=zh (show Box w6 wr.heap.size #[.int .i64 pr.id,.int .i64 i,.int .i64 pr.width,.int .i64 pr.cost] 93 from HP6.out);have hns:(narrowP lo hi' pr.id zp.1).span=⟨zp.1.span.low,zp.1.span.high,zp.1.span.lowBy,zp.1.span.highBy⟩:=by simp[narrowP,h1,h2]
     go_upto_region 14 with fail
     generalize w6=w9 at *;clear e6 eG eP;have eP:=xp9.out.cell;have e14:=x9.cell;have eD:∀j,w9.cell? ⟨D,j,none⟩=(#[.string c.ware,.int .i64 c.limit,.int .i64 c.by_,.slice (some ⟨g,0,none⟩) c.parts.length cap]:Array Value)[j]?:=(HXD.out.below' hb9).cell;have hr9:=HRR.out.below hb9;obtain⟨_,ha,_,_,_,hth9,_⟩:=hr9 i zp HZP.out;cases ha;have hS:=run_store_span (s:=⟨zp.1.span.low,zp.1.span.high,zp.1.span.lowBy,zp.1.span.highBy⟩) (there_span hth9);have hset:=HSET.out;rw[hns] at hset;have HSE:=zh hset;have HRN:=zh (hr9.span HZP.out rfl ⟨zp.1.span.low,zp.1.span.high,zp.1.span.lowBy,zp.1.span.highBy⟩);have HDN:=zh (box_setCells (HXD.out.below' hb9) (g:=g) (by have:=hgD;omega) (i*8+1) (spnCells ⟨zp.1.span.low,zp.1.span.high,zp.1.span.lowBy,zp.1.span.highBy⟩))
     have HWN:=zh (box_setCells (HGW.out.below' hb9) (g:=g) (by have:=HBg.out;have:=HZ1.out;omega) (i*8+1) (spnCells ⟨zp.1.span.low,zp.1.span.high,zp.1.span.lowBy,zp.1.span.highBy⟩));have HRS:=zh (box_setCells (HGR.out.below' hb9) (g:=g) (by have:=HBg.out;have:=HZ1.out;omega) (i*8+1) (spnCells ⟨zp.1.span.low,zp.1.span.high,zp.1.span.lowBy,zp.1.span.highBy⟩));have HBN:=zh (show Below w.heap.size w (w9.setCells g (i*8+1) (spnCells ⟨zp.1.span.low,zp.1.span.high,zp.1.span.lowBy,zp.1.span.highBy⟩)) from below_setCells (by have:=HBg.out;have:=HZ1.out;omega) _ _ (HBW.out.trans (hb9.mono HBW.out.size)));clear hns hset hr9 hth9 x9 hb9;generalize w9.setCells g (i*8+1) (spnCells ⟨zp.1.span.low,zp.1.span.high,zp.1.span.lowBy,zp.1.span.highBy⟩)=w10 at *
     go_wp2_with (refine wpList_store_box rfl 78 _ _ rfl rfl rfl hS ?_)
     go_roundw
     case rel=>exact⟨k+1,_,zO,zN,HSE.out,HRN.out,HDN.out,HWN.out,HRS.out,HBN.out⟩
     case measure=>simp[intOf];omega
  ·obtain rfl:k=s.length:=by omega
   have hzt:(s.zip fs).take s.length=s.zip fs:=List.take_of_length_le (by rw[List.length_zip];omega);rw[hzt] at hm;have hzl:zs.length=c.parts.length:=by
    have:=congrArg List.length hm;rw[List.length_map,refAft_len] at this;exact this
   obtain⟨a1,a2,a3⟩:=refAft_ware c l (s.zip fs) c;have hdl:=refAft_len c l (s.zip fs) c;obtain⟨d,hd⟩:=zx (refAft c l (s.zip fs) c);rw[hd] at hm HAR a1 a2 a3 hdl;have HMD:=zh hm;have HZL:=zh hzl;have HDE:=zh (⟨a1,a2,a3,hdl⟩:d.ware=c.ware∧d.limit=c.limit∧d.by_=c.by_∧d.parts.length=c.parts.length);have hkn:¬(s.length:Int)<(s.length:Int):=by omega
   obtain⟨wo,hwo⟩:∃z:World,z=wr:=⟨_,rfl⟩
   subst hwo;have HRR:=zh hr;have HXD:=zh hx;have HGR:=zh hg2;have HBW:=zh hbw;clear hzt hm hzl a1 a2 a3 hdl hd hr hx hg1 hg2 hbw hlt hk
   go_wp2_with fail
   go_loopw [15] (fun iv wx=>∃j:Nat,j≤c.parts.length∧iv = .int .i64 j∧Hid (∀(i:Nat) q,i<j→d.parts[i]?=some q→q.span.low≤q.span.high)∧Below wo.heap.size wo wx) (fun iv _=>c.parts.length-(intOf iv).toNat)
   case atStart=>exact⟨0,Nat.zero_le _,rfl,zh (fun i q hi=>absurd hi (Nat.not_lt_zero i)),Below.refl _ _⟩
   case round=>
    obtain⟨j,hj,rfl,HA,hb⟩:=hrel;have HBX:=zh hb;have eD:∀j,wr.cell? ⟨D,j,none⟩=(#[.string c.ware,.int .i64 c.limit,.int .i64 c.by_,.slice ca c.parts.length cap]:Array Value)[j]?:=(HXD.out.below' hb).cell;have hgr:=HGR.out.below' hb;obtain⟨r1,r2⟩:=hgr.rules;have HGX:=zh hgr;have HBE:=zh (HBW.out.trans (hb.mono HBW.out.size))
    by_cases hjl:j<c.parts.length
    ·have hjn:(j:Int)<(c.parts.length:Int):=by omega
     obtain⟨z,hzj⟩:=get_of_lt zs (k:=j) (by have:=HZL.out;omega);obtain⟨g,rfl,hBg,hgD,hrng,_⟩:=(HRR.out.below hb) j z hzj;have y1:=hrng 1 _ rfl;have y2:=hrng 2 _ rfl;have hdj:d.parts[j]?=some z.1:=by rw[←HMD.out,List.getElem?_map,hzj];rfl
     have HDJ:=zh hdj;clear hzj hrng hdj hb hgr
     by_cases h:z.1.span.high<z.1.span.low
     ·have HNO:=zh (show afterC c l s fs=none by
       rw[HAR.out,if_neg];intro hok;have:=okAll_iff.1 hok _ _ HDJ.out
       omega)
      go_wp2_with fail
      go_quiet (fail)
      go_wp2_with fail
      refine bodyPost_ret (results_cell_tmp rfl rfl (run_loadVar_row _ _ 24 24 _ (0,0) _ (((((HGX.out.below' (below_drewN (Below.refl _ _) _)).set_ 0 _).set_ 1 _).set_ 2 _).set_ 3 _) Tryz.underlying24 rfl case_size)) rfl ?_;refine⟨((((below_drewN HBE.out _).setCell zS _).setCell zS _).setCell zS _).setCell zS _,_,_,rfl,.inl ⟨HNO.out,rfl,rfl⟩⟩
     ·have h':decide (z.1.span.high<z.1.span.low)=false:=decide_eq_false h
      go_wp2_with fail
      go_quiet (fail)
      go_wp2_with fail
      go_roundw
      case rel=>exact⟨j+1,zO,zN,zh (fun i q hi hq=>by
       rcases Nat.lt_or_ge i j with h1|h1
       ·exact HA.out i q h1 hq
       ·obtain rfl:i=j:=by omega
        rw[HDJ.out] at hq;cases hq
        omega),below_drewN HBX.out _⟩
      case measure=>simp[intOf];omega
    ·have hjn:¬(j:Int)<(c.parts.length:Int):=by omega
     have HYES:=zh (show afterC c l s fs=some d by
      rw[HAR.out,if_pos];rw[okAll_iff];intro i q hq;exact HA.out i q (by have:=(List.getElem?_eq_some_iff.1 hq).1;have:=HDE.out.2.2.2;omega) hq)
     clear hb hgr
     go_wp2_with fail
     refine bodyPost_ret (results_cell_tmp rfl rfl (run_loadVar_row _ _ 24 24 _ (0,0) _ ((((HGX.out.set_ 0 (.string c.ware)).set_ 1 (.int .i64 c.limit)).set_ 2 (.int .i64 c.by_)).set_ 3 (.slice ca c.parts.length cap)) Tryz.underlying24 rfl case_size)) rfl ?_;have hK:Keep (fun k=>w1.heap.size≤k) wo ((((wr.setCell ⟨w.heap.size+1,0,none⟩ (.string c.ware)).setCell ⟨w.heap.size+1,1,none⟩ (.int .i64 c.limit)).setCell ⟨w.heap.size+1,2,none⟩ (.int .i64 c.by_)).setCell ⟨w.heap.size+1,3,none⟩ (.slice ca c.parts.length cap)):=
      (((((Keep.of_below' HBX.out).setCell (.inl (by have:=HZ1.out;simp;omega)) _).setCell (.inl (by have:=HZ1.out;simp;omega)) _).setCell (.inl (by have:=HZ1.out;simp;omega)) _).setCell (.inl (by have:=HZ1.out;simp;omega)) _)
     have hown:=(HRR.out.own.keep hK).mono (Q':=fun k=>w.heap.size≤k) (fun k hk=>by have:=HZ1.out;omega);rw[HMD.out] at hown;obtain⟨a1,a2,a3,hdl⟩:=HDE.out;refine⟨(((HBE.out.setCell zS _).setCell zS _).setCell zS _).setCell zS _,_,_,rfl,.inr ⟨d,ca,cap,HYES.out,rfl,?_,hown⟩⟩;rw[a1,a2,a3,hdl]
     rfl
theorem canR9_any {c:Cs}{l:List Prb}(hsm:c.Small)(hz:probesErr c l=0)(pa:Option Addr)(pc:Nat)(qa:Option Addr)(qc:Nat)(sa:Option Addr)(s:List Nat)(sc:Nat)(fa:Option Addr)(fs:List Nat)(fc:Nat)(hs:∀v∈s,v<l.length)(hff:FoundFor c l s fs)(hsl:s.length≤1000)(w:World)(hp:PartsAt w pa c.parts)(hq:PrbsAt w qa l)(hS:Ints w sa (natInts s))(hF:Ints w fa (natInts fs)):
 Calls Tryz.prog 68 #[.agg #[.string c.ware,.int .i64 c.limit,.int .i64 c.by_,.slice pa c.parts.length pc],.slice qa l.length qc,.slice sa s.length sc,.slice fa fs.length fc] w fun e w'=>e = .returned (.bool (canC c l s fs).isSome)∧Below w.heap.size w w':=by
 obtain⟨w1,hw1⟩:=zx (w.alloc (.cells #[.string c.ware,.int .i64 c.limit,.int .i64 c.by_,.slice pa c.parts.length pc] 24));have hB1:Below w.heap.size w w1:=by rw[←hw1];go_grown
 have b1:Box w1 w.heap.size (csCells c pa pc) 24:=by rw[←hw1];exact Box.new _ _ _
 have e1:=zC (b1);have HA:=zh (afterR9_any hsm hz pa pc qa qc sa s sc fa fs fc hs hff hsl w1 (hp.below hB1) (hq.below hB1) (hS.below hB1) (hF.below hB1));have HOK:=zh (fun d (h:afterC c l s fs=some d)=>after_ok hz h);have HW:=zh hw1;have HB1:=zh hB1;clear hw1 hB1 b1 hp hq hS hF hz hs hff hsl hsm
 go_enter Tryz.func68,Tryz.ntmps68
 go_upto_region 1 with fail
 simp only[HW.out]
 go_wp2_with fail
 refine zM HA ?_;rintro e w2 ⟨hb2,cs,bb,rfl,(⟨h1,rfl,rfl⟩|⟨d,ba,bc,h1,rfl,rfl,hpd⟩)⟩
 ·have HBW:=zh (HB1.out.trans (hb2.mono HB1.out.size));have HE:=zh (show(canC c l s fs).isSome=false by unfold canC;rw[h1];rfl);clear hb2 e1 h1 HOK
  go_wp2_with fail
  go_ret
  exact⟨by rw[HE.out];rfl,HBW.out.alloc HBW.out.size _⟩
 ·have ok:=HOK.out d h1;obtain⟨w3,hw3⟩:=zx (w2.alloc (.cells #[.string d.ware,.int .i64 d.limit,.int .i64 d.by_,.slice ba d.parts.length bc] 24));have hb3:Below w2.heap.size w2 w3:=by rw[←hw3];go_grown
  have x3:Box w3 w2.heap.size (csCells d ba bc) 24:=by rw[←hw3];exact Box.new _ _ _
  have e3:∀i,w3.cell? ⟨w2.heap.size,i,none⟩=(#[.string d.ware,.int .i64 d.limit,.int .i64 d.by_,.slice ba d.parts.length bc]:Array Value)[i]?:=x3.cell;have HWH:=zh (wholeR9_any d (small_of ok.chk) ba bc w3 (hpd.at_.below hb3));have hwe:wholeE d=if(allR d).isEmpty then 61 else 0:=by unfold wholeE;rw[if_neg (by simp[ok.chk])]
  have HE:=zh (show(wholeE d==0)=(canC c l s fs).isSome by
   rw[hwe];unfold canC;rw[h1];simp only
   rcases hx:(allR d).isEmpty with _|_<;>simp)
  have HBW:=zh ((HB1.out.trans (hb2.mono HB1.out.size)).trans (hb3.mono (by have:=HB1.out.size;have:=hb2.size;omega)));have HW3:=zh hw3;clear hb2 e1 h1 HOK ok hw3 hb3 x3 hpd hwe;generalize wholeE d=we at *
  go_upto_region 2 with fail
  simp only[HW3.out]
  go_wp2_with fail
  refine zM HWH ?_;rintro e w4 ⟨rfl,hb4⟩;have HBW:=zh (HBW.out.trans (hb4.mono HBW.out.size));clear hb4 e3
  go_wp2_with fail
  go_ret
  exact⟨by rw[←HE.out];rfl,HBW.out⟩
end Go.Proofs.YtjgldeeianionaaGreat
