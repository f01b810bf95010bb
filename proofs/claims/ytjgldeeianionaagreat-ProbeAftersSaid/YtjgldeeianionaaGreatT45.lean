/- The walks and plain laws of: MQLawA MQR18. No condition. -/
import Derived.Test.YtjgldeeianionaaGreatT13
import Derived.Test.YtjgldeeianionaaGreatT17
import Derived.Test.YtjgldeeianionaaGreatT40
import Derived.Test.YtjgldeeianionaaGreatT42
import Derived.Test.YtjgldeeianionaaGreatT43
import Derived.Test.YtjgldeeianionaaGreatT01
set_option maxHeartbeats 2000000
set_option maxRecDepth 100000
set_option linter.unusedSimpArgs false
set_option linter.unusedVariables false
namespace Go.Proofs.YtjgldeeianionaaGreat
open Go.RowKit
def zeroCs:Cs:={ware:=⟨#[]⟩,limit:=0,by_:=0,parts:=[]}
def orZ (er:Int)(o:Option Cs):Cs:=(if er=0 then o else none).getD zeroCs
theorem after_val {o:Option Cs}{er:Int}{w w':World}{e:Ending}(h:AfterPost o er w e w'):∃a n cap,e = .returned (.tuple #[.agg #[.string (orZ er o).ware,.int .i64 (orZ er o).limit,.int .i64 (orZ er o).by_,.slice a n cap],.bool (if er=0 then o else none).isSome,.int .i64 er])∧n=(orZ er o).parts.length∧PartsAt w' a (orZ er o).parts∧Below w.heap.size w w':=by
 obtain⟨hb,cs,b,rfl,hc⟩:=h;unfold orZ;generalize (if er=0 then o else none)=p at *
 rcases hc with ⟨rfl,rfl,rfl⟩|⟨d,ba,pc',rfl,rfl,rfl,hp⟩
 ·exact⟨none,0,0,rfl,rfl,fun i p hp=>by simp[zeroCs] at hp,hb⟩
 ·exact⟨ba,_,pc',rfl,rfl,hp.at_,hb⟩
theorem orZ_small {c:Cs}{l:List Prb}{S F:List Nat}{ok:Bool}:(orZ (xErr c l ok) (afterC c l S F)).Small:=by
 unfold orZ
 split
 ·rename_i h
  obtain⟨h1,_,_⟩:=xErr_zero h
  rcases ha:afterC c l S F with _|d
  ·exact⟨by simp[zeroCs],by show(0:Nat)≤100;omega,by simp[zeroCs]⟩
  ·exact small_of (after_ok h1 ha).chk
 ·exact⟨by simp[zeroCs],by show(0:Nat)≤100;omega,by simp[zeroCs]⟩
def setlE (xe:Int)(o:Option Cs):Int:=if xe=0 then(if o.isNone then 90 else 0) else xe
def setlL (c:Cs)(xe:Int)(o:Option Cs):List (Nat×Nat):=if xe=0 then(match o with|some d=>setlC c d|none=>[]) else []
theorem setl_val {c:Cs}{o:Option Cs}{xe:Int}{w w':World}{e:Ending}(h:XPost xe (.slice none 0 0) (SettledOut c o) w e w'):∃a n cap,e = .returned (.tuple #[.slice a n cap,.int .i64 (setlE xe o)])∧n=(setlL c xe o).length∧Row w' a (pairCells (setlL c xe o))∧Below w.heap.size w w':=by
 obtain⟨hb,v,er,rfl,(⟨h1,rfl,rfl⟩|⟨rfl,⟨rfl,rfl,rfl⟩|⟨d,a,cap,rfl,rfl,rfl,h2,_⟩⟩)⟩:=h
 ·refine⟨none,0,0,by simp[setlE,h1],by simp[setlL,h1],?_,hb⟩;simp only[setlL,if_neg h1];intro k v hv
  simp[pairCells] at hv
 ·refine⟨none,0,0,rfl,rfl,?_,hb⟩;intro k v hv
  simp[setlL,pairCells] at hv
 ·exact⟨a,_,cap,rfl,rfl,h2,hb⟩
theorem setl_len {c:Cs}{l:List Prb}{o:Option Cs}{ok:Bool}:(setlL c (xErr c l ok) o).length≤1000000:=by
 unfold setlL
 split
 ·rename_i h
  obtain⟨h1,_,h3⟩:=xErr_zero h;have h8:=check_small (ask_open (ask_nil (probes_ok h1).1 h3));have:=openOf_len c h8
  split
  ·rename_i d
   have:(setlC c d).length≤(openOf c).length:=List.length_filter_le _ _
   omega
  ·simp
 ·simp
theorem pairs_same {L:List (Nat×Nat)}{w:World}{a b:Option Addr}{ca cb:Nat}(hA:Row w a (pairCells L))(hB:Row w b (pairCells L))(hl:L.length≤1000000):Calls Tryz.prog 23 #[.slice a L.length ca,.slice b L.length cb] w fun e w'=>e = .returned (.bool true)∧Below w.heap.size w w':=
 (samePairs_ref a b ca cb L L w hA hB hl hl).mono (by rintro e w' ⟨rfl,h⟩;exact⟨by simp,h⟩)
end Go.Proofs.YtjgldeeianionaaGreat
namespace Go.Proofs.YtjgldeeianionaaGreat
open Go.RowKit
attribute [local go_sem] Oper.semAt_some
theorem canXR9_any (c:Cs)(hsm:c.Small)(pa:Option Addr)(pc:Nat)(l:List Prb)(qa:Option Addr)(qc:Nat)(sa:Option Addr)(S:List Int)(sc:Nat)(fa:Option Addr)(F:List Int)(fc:Nat)(hSl:S.length≤1000)(hFl:F.length≤1000)(w:World)(hp:PartsAt w pa c.parts)(hq:PrbsAt w qa l)(hS:Ints w sa S)(hF:Ints w fa F):
 Calls Tryz.prog 19 #[.agg #[.string c.ware,.int .i64 c.limit,.int .i64 c.by_,.slice pa c.parts.length pc],.slice qa l.length qc,.slice sa S.length sc,.slice fa F.length fc] w fun e w'=>e = .returned (.tuple #[.bool (xErr c l (foundB c l S F)==0&&(canC c l (nats S) (nats F)).isSome),.int .i64 (xErr c l (foundB c l S F))])∧Below w.heap.size w w':=by
 obtain⟨w1,hw1⟩:=zx (w.alloc (.cells #[.string c.ware,.int .i64 c.limit,.int .i64 c.by_,.slice pa c.parts.length pc] 24));have hB1:Below w.heap.size w w1:=by rw[←hw1];go_grown
 have b1:Box w1 w.heap.size (csCells c pa pc) 24:=by rw[←hw1];exact Box.new _ _ _
 have HAS:=zh (askedR9_any c hsm pa pc l qa qc sa S sc zO fa F fc zO w1 (hp.below hB1) (hq.below hB1) (hS.below hB1) (hF.below hB1));have e1:=zC (b1);have HW:=zh hw1;have HX:=zh b1;have HB:=zh hB1;have HP:=zh (hp.below hB1);have HQ:=zh (hq.below hB1);have HS:=zh (hS.below hB1);have HF:=zh (hF.below hB1);clear hw1 b1 hB1 hp hq hS hF;have HXS:=zh (fun h=>xErr_set (c:=c) (l:=l) (ok:=foundB c l S F) h);have HFN:=zh (fun h=>found_nats (c:=c) (l:=l) (S:=S) (F:=F) h);obtain⟨ok,hok⟩:=zx (foundB c l S F);rw[hok] at HXS HFN HAS ⊢;clear hok;obtain⟨er,her⟩:=zx (xErr c l ok);rw[her] at HAS HXS ⊢;clear her
 go_enter Tryz.func19,Tryz.ntmps19
 go_upto_region 1 with fail
 simp only[HW.out]
 go_wp2_with fail
 refine zM HAS ?_;rintro e w2 ⟨rfl,hb2⟩;have HX:=zh (HX.out.below' hb2);have HP:=zh (HP.out.below hb2);have HQ:=zh (HQ.out.below hb2);have HS:=zh (HS.out.below hb2);have HF:=zh (HF.out.below hb2);have HB:=zh (HB.out.trans (hb2.mono HB.out.size));clear hb2 e1
 by_cases hz:er=0
 ·obtain⟨z1,z2,_⟩:=HXS.out hz;subst hz;obtain⟨f1,f2,f3,f4⟩:=HFN.out z2;have l1:(nats S).length=S.length:=by simp[nats]
  have l2:(nats F).length=F.length:=by simp[nats]
  have hc:=canR9_any hsm z1 pa pc qa qc sa (nats S) sc fa (nats F) fc f3 f4 zO w2 HP.out HQ.out (by rw[←f1];exact HS.out) (by rw[←f2];exact HF.out);rw[l1,l2] at hc;have HC:=zh hc;have e1:=zC (HX.out);clear z1 z2 f1 f2 f3 f4 l1 l2 hc;obtain⟨cb,hcb⟩:=zx ((canC c l (nats S) (nats F)).isSome);rw[hcb] at HC;have HCB:=zh hcb;clear hcb
  go_wp2_with fail
  refine zM HC ?_;rintro e w3 ⟨rfl,hb3⟩;have HB:=zh (HB.out.trans (hb3.mono HB.out.size));clear hb3 e1
  go_wp2_with fail
  go_ret2
  exact⟨by rw[HCB.out];simp,HB.out⟩
 ·have hzb:(er != 0)=true:=by simpa using hz
  have hze:(er==0)=false:=by simpa using hz
  have HZE:=zh hze;clear hz hze
  go_wp2_with fail
  go_ret2
  exact⟨by simp[HZE.out],HB.out⟩
theorem afterXR9_any (c:Cs)(hsm:c.Small)(pa:Option Addr)(pc:Nat)(l:List Prb)(qa:Option Addr)(qc:Nat)(sa:Option Addr)(S:List Int)(sc:Nat)(fa:Option Addr)(F:List Int)(fc:Nat)(hSl:S.length≤1000)(hFl:F.length≤1000)(w:World)(hp:PartsAt w pa c.parts)(hq:PrbsAt w qa l)(hS:Ints w sa S)(hF:Ints w fa F):
 Calls Tryz.prog 17 #[.agg #[.string c.ware,.int .i64 c.limit,.int .i64 c.by_,.slice pa c.parts.length pc],.slice qa l.length qc,.slice sa S.length sc,.slice fa F.length fc] w (AfterPost (afterC c l (nats S) (nats F)) (xErr c l (foundB c l S F)) w):=by
 obtain⟨w1,hw1⟩:=zx ((w.alloc (.cells #[.string c.ware,.int .i64 c.limit,.int .i64 c.by_,.slice pa c.parts.length pc] 24)).alloc (.cells #[.string ⟨#[]⟩,.int .i64 0,.int .i64 0,.slice none 0 0] 24));have hB1:Below w.heap.size w w1:=by rw[←hw1];go_grown
 have b1:Box w1 w.heap.size (csCells c pa pc) 24:=by rw[←hw1];exact(Box.new _ _ _).alloc _
 have b0:Box w1 (w.heap.size+1) #[.string ⟨#[]⟩,.int .i64 0,.int .i64 0,.slice none 0 0] 24:=by rw[←hw1];exact Box.new' zS
 have HZ:=zh b0;have HAS:=zh (askedR9_any c hsm pa pc l qa qc sa S sc zO fa F fc zO w1 (hp.below hB1) (hq.below hB1) (hS.below hB1) (hF.below hB1));have e1:=zC (b1);have HW:=zh hw1;have HX:=zh b1;have HB:=zh hB1;have HP:=zh (hp.below hB1);have HQ:=zh (hq.below hB1);have HS:=zh (hS.below hB1);have HF:=zh (hF.below hB1);clear hw1 b1 hB1 hp hq hS hF;have HXS:=zh (fun h=>xErr_set (c:=c) (l:=l) (ok:=foundB c l S F) h);have HFN:=zh (fun h=>found_nats (c:=c) (l:=l) (S:=S) (F:=F) h);obtain⟨ok,hok⟩:=zx (foundB c l S F);rw[hok] at HXS HFN HAS ⊢;clear hok;obtain⟨er,her⟩:=zx (xErr c l ok);rw[her] at HAS HXS ⊢;clear her
 go_enter Tryz.func17,Tryz.ntmps17
 go_upto_region 1 with fail
 simp only[HW.out]
 go_wp2_with fail
 refine zM HAS ?_;rintro e w2 ⟨rfl,hb2⟩;have HZ:=zh (HZ.out.below' hb2);have HX:=zh (HX.out.below' hb2);have HP:=zh (HP.out.below hb2);have HQ:=zh (HQ.out.below hb2);have HS:=zh (HS.out.below hb2);have HF:=zh (HF.out.below hb2);have HB:=zh (HB.out.trans (hb2.mono HB.out.size));clear hb2 e1
 by_cases hz:er=0
 ·obtain⟨z1,z2,_⟩:=HXS.out hz;subst hz;obtain⟨f1,f2,f3,f4⟩:=HFN.out z2;have l1:(nats S).length=S.length:=by simp[nats]
  have l2:(nats F).length=F.length:=by simp[nats]
  have hc:=afterR9_any hsm z1 pa pc qa qc sa (nats S) sc fa (nats F) fc f3 f4 zO w2 HP.out HQ.out (by rw[←f1];exact HS.out) (by rw[←f2];exact HF.out);rw[l1,l2] at hc;have HC:=zh hc;have e1:=zC (HX.out);clear z1 z2 f1 f2 f3 f4 l1 l2 hc
  go_wp2_with fail
  refine zM HC ?_;rintro e w3 ⟨hb3,cs,b,rfl,hcs⟩;obtain⟨u1,u2,u3,u4,u5,u6,hcse⟩:=hcs.four;subst hcse;obtain⟨w4,hw4⟩:=zx (w3.alloc (.cells #[.string u1,.int .i64 u2,.int .i64 u3,.slice u4 u5 u6] 24));have hb4:Below w3.heap.size w3 w4:=by rw[←hw4];go_grown
  have x4:Box w4 w3.heap.size #[.string u1,.int .i64 u2,.int .i64 u3,.slice u4 u5 u6] 24:=by rw[←hw4];exact Box.new _ _ _
  have hz4:=(HZ.out.below' hb3).below' hb4;have hB4:=(HB.out.trans (hb3.mono HB.out.size)).trans (hb4.mono (Nat.le_trans HB.out.size hb3.size));have HW4:=zh hw4;have e4:∀i,w4.cell? ⟨w3.heap.size,i,none⟩=(#[.string u1,.int .i64 u2,.int .i64 u3,.slice u4 u5 u6]:Array Value)[i]?:=x4.cell;obtain⟨z1,z2⟩:=hz4.rules;have hne:w3.heap.size≠w.heap.size+1:=by have:=hb3.size;have:=HB.out.size;have:=HZ.out.lt;omega
  have hC4:AftCells (afterC c l (nats S) (nats F)) w2.heap.size w4 #[.string u1,.int .i64 u2,.int .i64 u3,.slice u4 u5 u6] b:=hcs.keep (Keep.of_below' hb4);have HC4:=zh hC4;have HB4:=zh hB4;have HZ4:=zh hz4;have HS2:=zh (show w.heap.size+2≤w2.heap.size by have:=HZ.out.lt;omega);clear hb3 hcs hw4 hb4 x4 hz4 hB4 hC4 e1
  go_upto_region 5 with fail
  simp only[HW4.out]
  go_wp2_with fail
  refine bodyPost_ret (results_ctt rfl rfl (run_loadVar_row _ _ 24 24 _ (0,0) _ ((((HZ4.out.set_ 0 (.string u1)).set_ 1 (.int .i64 u2)).set_ 2 (.int .i64 u3)).set_ 3 (.slice u4 u5 u6)) Tryz.underlying24 rfl case_size)) rfl ?_;refine⟨(((HB4.out.setCell (p:=⟨w.heap.size+1,0,none⟩) zS (.string u1)).setCell (p:=⟨w.heap.size+1,1,none⟩) zS (.int .i64 u2)).setCell (p:=⟨w.heap.size+1,2,none⟩) zS (.int .i64 u3)).setCell (p:=⟨w.heap.size+1,3,none⟩) zS (.slice u4 u5 u6),_,b,rfl,?_⟩;have h2:=HS2.out;exact(HC4.out.keep ((((Keep.refl (fun k=>w2.heap.size≤k) w4).setCell (p:=⟨w.heap.size+1,0,none⟩) (.inl zT) (.string u1)).setCell (p:=⟨w.heap.size+1,1,none⟩) (.inl zT) (.int .i64 u2)).setCell (p:=⟨w.heap.size+1,2,none⟩) (.inl zT) (.int .i64 u3) |>.setCell (p:=⟨w.heap.size+1,3,none⟩) (.inl zT) (.slice u4 u5 u6))).mono zO
 ·have hzb:(er != 0)=true:=by simpa using hz
  have hze:¬er=0:=hz;have HZE:=zh hze;obtain⟨z1,z2⟩:=HZ.out.rules;clear hz hze
  go_wp2_with fail
  refine bodyPost_ret (results_ctt rfl rfl (run_loadVar_row _ _ 24 24 _ (0,0) _ ((((HZ.out.set_ 0 (.string ⟨#[]⟩)).set_ 1 (.int .i64 0)).set_ 2 (.int .i64 0)).set_ 3 (.slice none 0 0)) Tryz.underlying24 rfl case_size)) rfl ?_;exact⟨(((HB.out.setCell (p:=⟨w.heap.size+1,0,none⟩) zS (.string ⟨#[]⟩)).setCell (p:=⟨w.heap.size+1,1,none⟩) zS (.int .i64 0)).setCell (p:=⟨w.heap.size+1,2,none⟩) zS (.int .i64 0)).setCell (p:=⟨w.heap.size+1,3,none⟩) zS (.slice none 0 0),_,false,rfl,.inl ⟨if_neg HZE.out,rfl,rfl⟩⟩
end Go.Proofs.YtjgldeeianionaaGreat
