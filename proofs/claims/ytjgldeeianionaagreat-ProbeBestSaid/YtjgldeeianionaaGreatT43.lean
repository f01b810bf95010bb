/- The walks and plain laws of: MGrid MOpenR MQR8 MQR19. No condition. -/
import Derived.Deep.DeepCutAuto
import Derived.ArgAppend
import Derived.IntWalk
import Derived.WalkKit
import Derived.WalkSpells
import Derived.WalkLawsBesides
import Derived.RangeFuncKeeps
import Derived.Deep.Draws
import Derived.Sort.CutIn
import Derived.Maps.AppendAt
import Derived.OwnWalk
import Derived.OwnWalkIn
import Derived.Shelf.Abstract
import Derived.Deep.OwnRows
import Derived.Laws.EntriesVeiled
import Derived.Deep.RegionHeld3
import Derived.Test.YtjgldeeianionaaGreatProg
import Derived.Maps.OwnSet
import Derived.Maps.OwnOps
import Derived.Deep.LoopGhost
import Derived.Deep.QuietTactic
import Derived.BigQuiet
import Derived.Handy
import Derived.Lib.Hide
import Derived.Lib.ConvBytes
import Derived.RangeFuncNested
import Derived.RangeFuncBound
import Derived.RangeFuncCalls
import Derived.RangeFuncLeaves
import Derived.RangeFuncRecord
import Derived.TacticsInMore
import Derived.LoopNIn
import Derived.LoopIn
import Derived.Scope
import Derived.WalkMore
import Derived.Deep.Quiet
import Derived.OrdersIn
import Derived.StillTail
import Derived.StillTailTactics
import Derived.OrdersHeld
import Derived.Deep.RegionHeld
import Derived.Tactics2
import Derived.Defers
import Derived.Recover
import Derived.Laws.Pointers
import Derived.ChangeKeysEq
import Derived.Deep.MidRow
import Derived.Sort.QuietIn
import Derived.Lib.SliceRun
import Derived.Shelf.Sort.Plain
import Derived.Shelf.Slices.CompactI
import Derived.Shelf.Slices.Reverse
import Derived.Test.YtjgldeeianionaaGreatRows
import Derived.RowKit
import Derived.RowKit3
import Derived.Lib.SmallJoins
import Derived.Deep.Slices
import Derived.WideKeyArgs
import Derived.ChangeMaps5
import Derived.OpenShut
import Derived.Test.YtjgldeeianionaaGreatT13
import Derived.Test.YtjgldeeianionaaGreatT16
import Derived.Test.YtjgldeeianionaaGreatT17
import Derived.Test.YtjgldeeianionaaGreatT18
import Derived.Test.YtjgldeeianionaaGreatT34
import Derived.Test.YtjgldeeianionaaGreatT35
import Derived.Test.YtjgldeeianionaaGreatT42
import Derived.Test.YtjgldeeianionaaGreatT01
set_option maxHeartbeats 4000000
set_option maxRecDepth 100000
set_option linter.unusedSimpArgs false
set_option linter.unusedVariables false
namespace Go.Proofs.YtjgldeeianionaaGreat
open Go.RowKit
theorem grid_at {T:TypeId}{B:Nat}{Q:Nat→Prop}{W:World}{a:Option Addr}{m cap:Nat}{c:Cs}(h:RowsG T B Q W (.slice a m cap) (ansRows c)){i j:Nat}(hi:i<c.parts.length)(hj:j<c.parts.length):
 ∃b o b2 o2 rc,a=some ⟨b,o,none⟩∧W.cell? ⟨b,o+i,none⟩=some (.slice (some ⟨b2,o2,none⟩) c.parts.length rc)∧W.cell? ⟨b2,o2+j,none⟩=some (.int .u8 (ansAt c i j)):=by
 obtain⟨a',cap',hv,hr⟩:=h.at_
 injection hv with h1 h2 h3
 obtain⟨b,o,ra,rc,e1,e2,e3,_⟩:=hr i (ansRowTo c i c.parts.length) (by simp[ansRows,ansRowsTo,hi]);obtain⟨b2,o2,e4,e5⟩:=e3 j (.int .u8 (ansAt c i j)) (by simp[ansRowTo,hj]);subst e4;rw[ansRowTo_len] at e2;exact⟨b,o,b2,o2,rc,by rw[h1];exact e1,e2,e5⟩
end Go.Proofs.YtjgldeeianionaaGreat
namespace Go.Proofs.YtjgldeeianionaaGreat
open Go.RowKit
attribute [local go_sem] Oper.semAt_some
theorem app_pair {base:Nat}{W:World}{v:Value}{k:Nat}{xs:List Value}(h:W.ownsRow base 57 2 v k xs)(hk:k+1≤1000000)(hB:base≤W.heap.size)(x y:Nat):
 ∃v' U,(Builtin.append_ #[35,35] 35 #[v,.slice (some ⟨W.heap.size,0,none⟩) 1 1]).run Tryz.prog (W.alloc (.cells #[.int .i64 x,.int .i64 y] 57)) = .ok v' U∧U.ownsRow base 57 2 v' (k+1) (xs++[.int .i64 x,.int .i64 y])∧Below base W U:=by
 obtain⟨v',U,hrun,hown,hg,_⟩:=run_append_row (P:=Tryz.prog) (W.alloc (.cells #[.int .i64 x,.int .i64 y] 57)) base 35 35 57 (.agg #[.int .i64 0,.int .i64 0]) 2 16 Tryz.underlying35 info_pair rfl zO
  _ _ _ (ownsRow_keep h ((Keep.refl (fun _=>True) W).alloc (.cells #[.int .i64 x,.int .i64 y] 57)) (fun _ _=>trivial)) (some ⟨W.heap.size,0,none⟩) 1 1 [.int .i64 x,.int .i64 y] rfl (pair_row _ _ _ _) (by intro u hu;simp at hu;rcases hu with rfl|rfl<;>rfl) zO zO zT
 exact⟨v',U,hrun,hown,((Below.refl _ W).alloc hB (.cells #[.int .i64 x,.int .i64 y] 57)).grown hg zT (fun j hj=>(h.lt j hj).1)⟩
def openIn (c:Cs)(l:List (Nat×Nat)):List (Nat×Nat):=l.filter fun p=>ansAt c p.1 p.2==3
theorem openIn_yes {c:Cs}{l:List (Nat×Nat)}{x y:Nat}(h:(ansAt c x y==3)=true):openIn c (l++[(x,y)])=openIn c l++[(x,y)]:=by
 unfold openIn;rw[List.filter_append]
 simp[List.filter_cons,h]
theorem openIn_no {c:Cs}{l:List (Nat×Nat)}{x y:Nat}(h:(ansAt c x y==3)=false):openIn c (l++[(x,y)])=openIn c l:=by
 unfold openIn;rw[List.filter_append]
 simp[List.filter_cons,h]
theorem openIn_len {c:Cs}{l:List (Nat×Nat)}:(openIn c l).length≤l.length:=List.length_filter_le _ _
theorem pairsTo_room {n x y:Nat}(h8:n≤8)(hx:x<n)(hy:y<n):(pairsTo n x++rowTo x y).length≤1000:=by
 have h1:=pairsTo_len n x;have h2:x*n≤8*8:=Nat.mul_le_mul zO h8;rw[List.length_append];have h3:(rowTo x y).length≤y:=by simp[rowTo]
 omega
theorem pairCells_snoc (l:List (Nat×Nat))(x y:Nat):pairCells (l++[(x,y)])=pairCells l++[.int .i64 x,.int .i64 y]:=by simp[pairCells,List.flatMap_append]
theorem own_pairs {base:Nat}{W:World}{v:Value}{l:List (Nat×Nat)}(h:W.ownsRow base 57 2 v l.length (pairCells l)):OwnPairs base l W v:=by
 obtain⟨a,cap,hv,hr,_⟩:=ownsRow_own h;exact⟨a,cap,hv,hr⟩
theorem open_ref (c:Cs)(hsm:c.Small)(pa:Option Addr)(pc:Nat)(w:World)(hp:PartsAt w pa c.parts):
 Calls Tryz.prog 75 #[.agg #[.string c.ware,.int .i64 c.limit,.int .i64 c.by_,.slice pa c.parts.length pc]] w (PairsPost (askErr c []) (openOf c) w):=by
 obtain⟨w1,hw1⟩:=zx (w.alloc (.cells #[.string c.ware,.int .i64 c.limit,.int .i64 c.by_,.slice pa c.parts.length pc] 24));have hB1:Below w.heap.size w w1:=by rw[←hw1];go_grown
 have b1:Box w1 w.heap.size (csCells c pa pc) 24:=by rw[←hw1];exact Box.new _ _ _
 have e1:=zC (b1);have han:=answers_ref c hsm pa pc w1 (hp.below hB1);have HW:=zh hw1;have HB1:=zh hB1;clear hw1 hB1 b1 hp
 by_cases hz:askErr c []=0
 ·have h8:=check_small (ask_open hz);have HAN:=zh (han.mono (fun(e:Ending) (w':World) hh=>(by
   obtain⟨hb,⟨h,_⟩|⟨_,v,he,hr⟩⟩:=hh
   ·exact absurd hz h
   ·obtain⟨a,cap,rfl,_⟩:=hr.at_;have hm:(ansRows c).length=c.parts.length:=ansRowsTo_len _ _;rw[hm] at he hr;exact⟨a,cap,he,hr,hb⟩:∃(a:Option Addr) (cap:Nat),e=Ending.returned (.tuple #[.slice a c.parts.length cap,.int .i64 0])∧RowsG 187 w1.heap.size (fun b=>w1.heap.size≤b) w' (.slice a c.parts.length cap) (ansRows c)∧Below w1.heap.size w1 w')))
  have HZ:=zh hz;clear hz han
  go_enter Tryz.func75,Tryz.ntmps75
  go_upto_region 1 with fail
  simp only[HW.out]
  go_upto_region 4 with (go_at_call 157;refine zM HAN ?_;rintro e w3 ⟨la,lc,rfl,hr,hb3⟩;have HR:=zh hr;have HW3:=zh (HB1.out.trans (hb3.mono HB1.out.size));clear hr hb3)
  clear e1
  go_wp2_with fail
  go_loopw [6,7] (fun ov iv wr=>∃i:Nat,i≤c.parts.length∧iv = .int .i64 i∧wr.ownsRow w3.heap.size 57 2 ov (openIn c (pairsTo c.parts.length i)).length (pairCells (openIn c (pairsTo c.parts.length i)))∧Below w3.heap.size w3 wr) (fun _ iv _=>c.parts.length-(intOf iv).toNat)
  case atStart=>exact⟨0,Nat.zero_le _,rfl,ownsRow_nil _ _ _ _,Below.refl _ _⟩
  case round=>
   obtain⟨i,hi,rfl,hown,hbw⟩:=hrel;have HO:=zh hown;have HBW:=zh hbw;clear hown hbw
   by_cases hil:i<c.parts.length
   ·have hin:(i:Int)<(c.parts.length:Int):=by omega
    go_wp2_with fail
    go_loopw [6,8] (fun ov jv wx=>∃j:Nat,i+1≤j∧j≤c.parts.length∧jv = .int .i64 j∧wx.ownsRow w3.heap.size 57 2 ov (openIn c (pairsTo c.parts.length i++rowTo i j)).length (pairCells (openIn c (pairsTo c.parts.length i++rowTo i j)))∧Below w3.heap.size w3 wx) (fun _ jv _=>c.parts.length-(intOf jv).toNat)
    case atStart=>exact⟨i+1,Nat.le_refl _,zO,zN,by rw[rowTo_zero,List.append_nil];exact HO.out,HBW.out⟩
    case round=>
     clear HO HBW;obtain⟨j,hij,hj,rfl,hown,hbw⟩:=hrel;have HO:=zh hown;have HBW:=zh hbw;clear hown hbw
     by_cases hjl:j<c.parts.length
     ·have hjn:(j:Int)<(c.parts.length:Int):=by omega
      obtain⟨b,o,b2,o2,rc,hla,c1,c2⟩:=grid_at (HR.out.below HBW.out) hil hjl;subst hla;have hroom:=Nat.le_trans (openIn_len (c:=c)) (pairsTo_room (y:=j) h8 hil hjl)
      rcases h3:(ansAt c i j==3) with _|_
      ·have H3:=zh (openIn_no (l:=pairsTo c.parts.length i++rowTo i j) h3)
       go_wp2_with fail
       go_roundw
       case rel=>exact⟨j+1,zO,zO,zN,by rw[rowTo_succ hij,←List.append_assoc,H3.out];exact HO.out,HBW.out⟩
       case measure=>simp[intOf];omega
      ·have H3:=zh (openIn_yes (l:=pairsTo c.parts.length i++rowTo i j) h3);obtain⟨v6,w6,hrun,hown,hb6⟩:=app_pair HO.out zO HBW.out.size i j;have HRN:=zh hrun;have HOW:=zh hown;have HB6:=zh (HBW.out.trans hb6);clear hrun hown hb6
       go_wp2_with (at_builtin;refine wpList_app rfl _ _ _ rfl rfl rfl HRN.out ?_)
       go_roundw
       case rel=>
        refine⟨j+1,zO,zO,zN,?_,HB6.out⟩;rw[rowTo_succ hij,←List.append_assoc,H3.out,pairCells_snoc,List.length_append,List.length_singleton];exact HOW.out
       case measure=>simp[intOf];omega
     ·have hje:j=c.parts.length:=by omega
      have HJE:=zh hje;clear hje
      go_wp2_with fail
      go_roundw
      case rel=>
       refine⟨i+1,zO,zN,?_,HBW.out⟩;have:=HO.out;rw[HJE.out,←pairsTo_succ] at this;exact this
      case measure=>simp[intOf];omega
   ·have hie:i=c.parts.length:=by omega
    have HIE:=zh hie;clear hie
    go_wp2_with fail
    go_ret2
    refine⟨HW3.out.trans (HBW.out.mono HW3.out.size),.inr ⟨HZ.out,_,rfl,?_⟩⟩;have:=HO.out;rw[HIE.out] at this;exact own_pairs (ownsRow_less this HW3.out.size)
 ·have HAN:=zh (han.mono (fun(e:Ending) (w':World) hh=>(by
   obtain⟨hb,⟨_,he⟩|⟨h,_⟩⟩:=hh
   ·exact⟨he,hb⟩
   ·exact absurd h hz:e=Ending.returned (.tuple #[.slice none 0 0,.int .i64 (askErr c [])])∧Below w1.heap.size w1 w')))
  have hzz:(askErr c [] != 0)=true:=by simpa using hz
  have HZ:=zh hz;clear hz han
  go_enter Tryz.func75,Tryz.ntmps75
  go_upto_region 1 with fail
  simp only[HW.out]
  go_wp2_with (go_at_call 157;refine zM HAN ?_;rintro e w3 ⟨rfl,hb3⟩;have HW3:=zh (HB1.out.trans (hb3.mono HB1.out.size));clear hb3)
  go_ret2
  exact⟨HW3.out,.inl ⟨HZ.out,rfl⟩⟩
theorem askedR9_any (c:Cs)(hsm:c.Small)(pa:Option Addr)(pc:Nat)(l:List Prb)(qa:Option Addr)(qc:Nat)(sa:Option Addr)(S:List Int)(sc:Nat)(hSl:S.length≤1000000)(fa:Option Addr)(F:List Int)(fc:Nat)(hFl:F.length≤1000000)(w:World)(hp:PartsAt w pa c.parts)(hq:PrbsAt w qa l)(hS:Ints w sa S)(hF:Ints w fa F):
 Calls Tryz.prog 63 #[.agg #[.string c.ware,.int .i64 c.limit,.int .i64 c.by_,.slice pa c.parts.length pc],.slice qa l.length qc,.slice sa S.length sc,.slice fa F.length fc] w fun e w'=>e = .returned (.int .i64 (xErr c l (foundB c l S F)))∧Below w.heap.size w w':=by
 obtain⟨w1,hw1⟩:=zx (w.alloc (.cells #[.string c.ware,.int .i64 c.limit,.int .i64 c.by_,.slice pa c.parts.length pc] 24));have hB1:Below w.heap.size w w1:=by rw[←hw1];go_grown
 have b1:Box w1 w.heap.size (csCells c pa pc) 24:=by rw[←hw1];exact Box.new _ _ _
 have HCP:=zh (checkProbesR_any c hsm pa pc l qa qc w1 (hp.below hB1) (hq.below hB1));have e1:=zC (b1);have HW:=zh hw1;have HX:=zh b1;have HB1:=zh hB1;have HP:=zh (hp.below hB1);have HQ:=zh (hq.below hB1);have HS:=zh (hS.below hB1);have HF:=zh (hF.below hB1);clear hw1 b1 hB1 hp hq hS hF
 by_cases hz:probesErr c l=0
 ·have hl5:=(probes_ok hz).2.1;have HXW:=zh (fun(h:foundB c l S F=true)=>xErr_whole (ok:=foundB c l S F) hz h);have HXN:=zh (fun(h:foundB c l S F=false)=>show xErr c l (foundB c l S F)=1 by simp[xErr,hz,h]);have HZ:=zh hz;rw[hz] at HCP;clear hz
  go_enter Tryz.func63,Tryz.ntmps63
  go_upto_region 1 with fail
  simp only[HW.out]
  go_wp2_with fail
  refine zM HCP ?_;rintro e w2 ⟨rfl,hb2⟩;have HIS:=zh (isSetR9_any qa l.length qc zO sa S sc w2 (HS.out.below hb2) hSl);have HX2:=zh (HX.out.below' hb2);have HP2:=zh (HP.out.below hb2);have HQ2:=zh (HQ.out.below hb2);have HS2:=zh (HS.out.below hb2);have HF2:=zh (HF.out.below hb2);have HBW:=zh (HB1.out.trans (hb2.mono HB1.out.size));clear hb2 e1
  go_wp2_with fail
  refine zM HIS ?_;rintro e w3 ⟨rfl,hb3⟩;have e3:=zC ((HX2.out.below' hb3));have HX3:=zh (HX2.out.below' hb3);have HP3:=zh (HP2.out.below hb3);have HBW:=zh (HBW.out.trans (hb3.mono HBW.out.size))
  rcases hset:setB l.length S with _|_
  ·have HER:=zh (HXN.out (by simp[foundB,hset]));clear hset hb3
   go_wp2_with fail
   go_ret
   refine⟨?_,HBW.out⟩;rw[HER.out];rfl
  ·have HIF:=zh (isFoundR9_any HZ.out pa pc qa qc sa S sc hset fa F fc w3 HP3.out (HQ2.out.below hb3) (HS2.out.below hb3) (HF2.out.below hb3) hSl hFl);clear hset hb3
   go_wp2_with fail
   refine zM HIF ?_;rintro e w5 ⟨rfl,hb5⟩;have HWH:=zh (wholeR9_any c hsm pa pc w5 (HP3.out.below hb5));have e5:=zC ((HX3.out.below' hb5));have HBW:=zh (HBW.out.trans (hb5.mono HBW.out.size));clear hb5 e3
   rcases hfd:foundB c l S F with _|_
   ·have HER:=zh (HXN.out hfd);clear hfd
    go_wp2_with fail
    go_ret
    refine⟨?_,HBW.out⟩;rw[HER.out];rfl
   ·have HER:=zh (HXW.out hfd);clear hfd
    go_wp2_with fail
    refine zM HWH ?_;rintro e w4 ⟨rfl,hb4⟩;have HBW:=zh (HBW.out.trans (hb4.mono HBW.out.size));clear hb4 e5
    go_wp2_with fail
    go_ret
    refine⟨?_,HBW.out⟩;rw[HER.out];rfl
 ·have HER:=zh (show xErr c l (foundB c l S F)=probesErr c l by simp[xErr,hz]);obtain⟨er,her⟩:=zx (probesErr c l);rw[her] at hz HCP HER;have hzb:(er != 0)=true:=by simpa using hz
  clear her
  go_enter Tryz.func63,Tryz.ntmps63
  go_upto_region 1 with fail
  simp only[HW.out]
  go_wp2_with fail
  refine zM HCP ?_;rintro e w2 ⟨rfl,hb2⟩;have HBW:=zh (HB1.out.trans (hb2.mono HB1.out.size));clear hb2 e1
  go_wp2_with fail
  go_ret
  refine⟨?_,HBW.out⟩;rw[HER.out];rfl
def setlTo (d:Cs)(l:List (Nat×Nat)):List (Nat×Nat):=l.filter fun p=>!(ansAt d p.1 p.2==3)
theorem setlTo_yes {d:Cs}{l:List (Nat×Nat)}{k:Nat}{p:Nat×Nat}(hp:l[k]?=some p)(h:(ansAt d p.1 p.2==3)=false):setlTo d (l.take (k+1))=setlTo d (l.take k)++[p]:=by
 rw[take_snoc hp];unfold setlTo;rw[List.filter_append];simp[List.filter_cons,h]
theorem setlTo_no {d:Cs}{l:List (Nat×Nat)}{k:Nat}{p:Nat×Nat}(hp:l[k]?=some p)(h:(ansAt d p.1 p.2==3)=true):setlTo d (l.take (k+1))=setlTo d (l.take k):=by
 rw[take_snoc hp];unfold setlTo;rw[List.filter_append];simp[List.filter_cons,h]
theorem setlTo_len (d:Cs)(l:List (Nat×Nat)):(setlTo d l).length≤l.length:=List.length_filter_le _ _
theorem open_any_iff {d:Cs}{p:Nat×Nat}(hp:p∈pairsOf d.parts.length):((openOf d).any fun q=>p==q)=(ansAt d p.1 p.2==3):=by
 rcases h:(ansAt d p.1 p.2==3) with _|_
 ·rw[List.any_eq_false];intro q hq hpq;obtain rfl:p=q:=by simpa using hpq
  rw[openOf,List.mem_filter] at hq;rw[h] at hq;exact absurd hq.2 zS
 ·rw[List.any_eq_true];exact⟨p,by rw[openOf,List.mem_filter];exact⟨hp,h⟩,by simp⟩
theorem setl_eq {c d:Cs}(h:d.parts.length=c.parts.length):setlTo d (openOf c)=setlC c d:=by
 unfold setlTo setlC
 apply List.filter_congr
 intro p hp;rw[open_any_iff (d:=d) (p:=p) (by rw[h];exact(List.mem_filter.1 hp).1)]
theorem open_in9 {c:Cs}{p:Nat×Nat}(hp:p∈openOf c):p.1<c.parts.length∧p.2<c.parts.length:=pairs_mem (List.mem_filter.1 hp).1
theorem settledXR9_any (c:Cs)(hsm:c.Small)(pa:Option Addr)(pc:Nat)(l:List Prb)(qa:Option Addr)(qc:Nat)(sa:Option Addr)(S:List Int)(sc:Nat)(fa:Option Addr)(F:List Int)(fc:Nat)(hSl:S.length≤1000)(hFl:F.length≤1000)(w:World)(hp:PartsAt w pa c.parts)(hq:PrbsAt w qa l)(hS:Ints w sa S)(hF:Ints w fa F):
 Calls Tryz.prog 21 #[.agg #[.string c.ware,.int .i64 c.limit,.int .i64 c.by_,.slice pa c.parts.length pc],.slice qa l.length qc,.slice sa S.length sc,.slice fa F.length fc] w (XPost (xErr c l (foundB c l S F)) (.slice none 0 0) (SettledOut c (canC c l (nats S) (nats F))) w):=by
 obtain⟨w1,hw1⟩:=zx (w.alloc (.cells #[.string c.ware,.int .i64 c.limit,.int .i64 c.by_,.slice pa c.parts.length pc] 24));have hB1:Below w.heap.size w w1:=by rw[←hw1];go_grown
 have b1:Box w1 w.heap.size (csCells c pa pc) 24:=by rw[←hw1];exact Box.new _ _ _
 have HAS:=zh (askedR9_any c hsm pa pc l qa qc sa S sc zO fa F fc zO w1 (hp.below hB1) (hq.below hB1) (hS.below hB1) (hF.below hB1));have e1:=zC (b1);have HW:=zh hw1;have HX:=zh b1;have HB:=zh hB1;have HP:=zh (hp.below hB1);have HQ:=zh (hq.below hB1);have HS:=zh (hS.below hB1);have HF:=zh (hF.below hB1);clear hw1 b1 hB1 hp hq hS hF;have HXS:=zh (fun h=>xErr_set (c:=c) (l:=l) (ok:=foundB c l S F) h);have HFN:=zh (fun h=>found_nats (c:=c) (l:=l) (S:=S) (F:=F) h);obtain⟨ok,hok⟩:=zx (foundB c l S F);rw[hok] at HXS HFN HAS ⊢;clear hok;obtain⟨er,her⟩:=zx (xErr c l ok);rw[her] at HAS HXS ⊢;clear her
 go_enter Tryz.func21,Tryz.ntmps21
 go_upto_region 1 with fail
 simp only[HW.out]
 go_wp2_with fail
 refine zM HAS ?_;rintro e w2 ⟨rfl,hb2⟩;have HX:=zh (HX.out.below' hb2);have HP:=zh (HP.out.below hb2);have HQ:=zh (HQ.out.below hb2);have HS:=zh (HS.out.below hb2);have HF:=zh (HF.out.below hb2);have HB:=zh (HB.out.trans (hb2.mono HB.out.size));clear hb2 e1
 by_cases hz:er=0
 ·obtain⟨z1,z2,hne⟩:=HXS.out hz;subst hz;obtain⟨f1,f2,f3,f4⟩:=HFN.out z2;have l1:(nats S).length=S.length:=by simp[nats]
  have l2:(nats F).length=F.length:=by simp[nats]
  have hi1:Ints w2 sa (natInts (nats S)):=by rw[←f1];exact HS.out
  have hi2:Ints w2 fa (natInts (nats F)):=by rw[←f2];exact HF.out
  have hc:=canR9_any hsm z1 pa pc qa qc sa (nats S) sc fa (nats F) fc f3 f4 zO w2 HP.out HQ.out hi1 hi2;rw[l1,l2] at hc;have HC:=zh hc;have HAF:=zh (fun W (hb:Below w2.heap.size w2 W)=>afterR9_any hsm z1 pa pc qa qc sa (nats S) sc fa (nats F) fc f3 f4 zO W (HP.out.below hb) (HQ.out.below hb) (hi1.below hb) (hi2.below hb));rw[l1,l2] at HAF;have hzo:=ask_nil (probes_ok z1).1 hne;have HOP:=zh (fun W (hb:Below w2.heap.size w2 W)=>open_ref c hsm pa pc W (HP.out.below hb));have HZO:=zh hzo;have HPR:=zh z1;have hlen:=openOf_len c (check_small (ask_open hzo));have e1:=zC (HX.out);clear z1 z2 f1 f2 f3 f4 l1 l2 hc hi1 hi2 hzo hne HP HQ HS HF HAS HFN HXS HW;generalize hs:nats S=s at *;generalize hf:nats F=f at *;clear hs hf
  rcases hcan:canC c l s f with _|d
  ·rw[hcan] at HC;have HCN:=zh hcan;clear HAF HOP HPR hcan
   go_wp2_with fail
   refine zM HC ?_;rintro e w3 ⟨rfl,hb3⟩;have HB:=zh (HB.out.trans (hb3.mono HB.out.size));clear hb3 e1
   go_wp2_with fail
   go_ret2
   exact⟨HB.out,_,_,rfl,.inr ⟨rfl,.inl ⟨HCN.out,rfl,rfl⟩⟩⟩
  ·rw[hcan] at HC;obtain⟨hok,hned,haft⟩:=canC_ok HPR.out hcan;rw[haft] at HAF;have hsd:=zh (small_of hok.chk);have HLD:=zh hok.len;have HCK:=zh hok.chk;have HND:=zh hned;have HCN:=zh hcan;clear hok hned haft hcan HPR
   go_wp2_with fail
   refine zM HC ?_;rintro e w3 ⟨rfl,hb3⟩;have HX:=zh (HX.out.below' hb3);have HB:=zh (HB.out.trans (hb3.mono HB.out.size));have HA3:=zh (HAF.out w3 hb3);have HK3:=zh hb3;clear hb3 e1 HC HAF;have e1:=zC (HX.out)
   go_wp2_with fail
   refine zM HA3 ?_;rintro e w4 ⟨hb4,cs,bb,rfl,(⟨h1,rfl,rfl⟩|⟨d',ba,bc,h1,rfl,rfl,hpd⟩)⟩
   ·exact absurd h1 zS
   cases h1;obtain⟨w5,hw5⟩:=zx (w4.alloc (.cells #[.string d.ware,.int .i64 d.limit,.int .i64 d.by_,.slice ba d.parts.length bc] 24));have hb5:Below w4.heap.size w4 w5:=by rw[←hw5];go_grown
   have x5:Box w5 w4.heap.size (csCells d ba bc) 24:=by rw[←hw5];exact Box.new _ _ _
   have HB5:=zh ((HB.out.trans (hb4.mono HB.out.size)).trans (hb5.mono (Nat.le_trans HB.out.size hb4.size)));have HX:=zh ((HX.out.below' hb4).below' hb5);have HO5:=zh (HOP.out w5 ((HK3.out.trans (hb4.mono HK3.out.size)).trans (hb5.mono (Nat.le_trans HK3.out.size hb4.size))));have HPD:=zh (hpd.at_.below hb5);have HD:=zh x5;have HW5:=zh hw5;clear hb4 hw5 hb5 x5 e1 hpd HA3 HK3 HOP;have e1:=zC (HX.out)
   go_upto_region 7 with fail
   simp only[HW5.out]
   go_wp2_with fail
   refine zM HO5 ?_;rintro e w6 ⟨hb6,(⟨h1,_⟩|⟨_,v6,rfl,ao,co,rfl,hro⟩)⟩
   ·exact absurd HZO.out h1
   have HB6:=zh (HB5.out.trans (hb6.mono HB5.out.size));have HD:=zh (HD.out.below' hb6);have HPD:=zh (HPD.out.below hb6);have HRO:=zh (show PairsAt w6 ao (openOf c) from hro.row);clear hb6 hro e1 HW5 HO5 HX;obtain⟨L,hL⟩:=zx (openOf c);have HL:=zh hL;rw[hL] at hlen HRO ⊢;have hmem:Hid (∀p∈L,p.1<d.parts.length∧p.2<d.parts.length):=zh fun p hp=>by rw[HLD.out];exact open_in9 (by rw[HL.out];exact hp)
   clear hL
   go_wp2_with fail
   go_loopw [15,16] (fun ov iv wr=>∃k:Nat,k≤L.length∧iv = .int .i64 k∧wr.ownsRow w6.heap.size 57 2 ov (setlTo d (L.take k)).length (pairCells (setlTo d (L.take k)))∧Below w6.heap.size w6 wr) (fun _ iv _=>L.length-(intOf iv).toNat)
   case atStart=>exact⟨0,Nat.zero_le _,rfl,ownsRow_nil _ _ _ _,Below.refl _ _⟩
   case round=>
    obtain⟨k,hk,rfl,hown,hbw⟩:=hrel;have HBW:=zh hbw;have HO:=zh hown;clear hown hbw
    by_cases hlt:k<L.length
    ·obtain⟨p,hp⟩:=get_of_lt L hlt;obtain⟨b,o,hao,c1,c2⟩:=(HRO.out.below HBW.out).at_ hp;subst hao;have hpm:=hmem.out p (List.mem_of_getElem? hp);have hkl:(k:Int)<(L.length:Int):=by omega
     go_upto_region 12 with fail
     have hbd:Below wr.heap.size wr wr.drew:=(Below.refl _ wr).drew;have hb6:=HBW.out.trans (hbd.mono HBW.out.size);have HAN:=zh (answerTop_ref d hsd.out ba bc p.1 p.2 wr.drew (HPD.out.below hb6));rw[ask_two HCK.out HND.out hpm.1 hpm.2,Int.toNat_natCast,Int.toNat_natCast] at HAN;have K0:Hid (∀A,Below wr.drew.heap.size wr.drew A→(∀j,A.cell? ⟨w4.heap.size,j,none⟩=(#[.string d.ware,.int .i64 d.limit,.int .i64 d.by_,.slice ba d.parts.length bc]:Array Value)[j]?)∧A.cell? ⟨b,o+k*2,none⟩=some (.int .i64 (p.1:Int))∧A.cell? ⟨b,o+k*2+1,none⟩=some (.int .i64 (p.2:Int))):=
      zh fun A hA=>⟨((HD.out.below' hb6).below' hA).cell,below_cell hA (below_cell hbd c1),below_cell hA (below_cell hbd c2)⟩
     have HB7:=zh hb6;have HOD:=zh (ownsRow_keep (K:=fun _=>True) HO.out ((Keep.refl _ wr).drew) (fun _ _=>trivial));have HP:=zh hp;refine wp_region_L (fun A=>Below wr.drew.heap.size wr.drew A) 17 zK ?_;have hSS:Below wr.drew.heap.size wr.drew wr.drew:=Below.refl _ _;clear hbd hb6 c1 c2 hpm hp HO HBW;generalize wr.drew=w7 at *;refine tM K0 0 hSS ?_;refine tM K0 1 hSS ?_;refine tM K0 2 hSS ?_;refine tM K0 3 hSS ?_;refine tM K0 4 hSS ?_;refine tM K0 5 hSS ?_;refine tM K0 6 hSS ?_;refine tM K0 7 hSS ?_;refine tM K0 8 hSS ?_;refine tM K0 9 hSS ?_;refine tM K0 10 hSS ?_;refine anyL_call (i:=11) (f:=76) (args:=#[.agg #[.string d.ware,.int .i64 d.limit,.int .i64 d.by_,.slice ba d.parts.length bc],.int .i64 (p.1:Int),.int .i64 (p.2:Int)]) rfl zK (by rfl) (by go_simp) HAN.out ?_;rintro e8 w8 ⟨hb8,rfl⟩;refine .inl ⟨_,rfl,.inr hb8,?_⟩
     try simp only[pZ]
     have hSS:=hb8;have HB8:=zh (HB7.out.trans (hb8.mono HB7.out.size));have HO8:=zh (ownsRow_keep (K:=fun _=>True) HOD.out (Keep.mono (Keep.of_below' hb8) (fun _ _=>trivial)) (fun _ _=>trivial))
     try rw[if_pos rfl]
     refine tM K0 12 hSS ?_;refine tM K0 13 hSS ?_;refine tM K0 14 hSS ?_;refine tM K0 15 hSS ?_;refine tM K0 16 hSS ?_;refine anyL_done zK ?_ _;clear hSS hb8 HOD HAN K0 HB7;obtain⟨b,o,hao,c1,c2⟩:=(HRO.out.below HB8.out).at_ HP.out;cases hao;obtain⟨an,han⟩:=zx (ansAt d p.1 p.2);have HAN:=zh han;rw[han]
     by_cases h3:an=3
     ·have h3b:(an != 3)=false:=by simp[h3]
      have HS:=zh (setlTo_no (d:=d) HP.out (by rw[HAN.out,h3];rfl));clear han h3
      go_wp2_with fail
      go_roundw
      case rel=>exact⟨k+1,zO,zN,by rw[HS.out];exact HO8.out,HB8.out⟩
      case measure=>simp[intOf];omega
     ·have h3b:(an != 3)=true:=by simp[h3]
      have HS:=zh (setlTo_yes (d:=d) HP.out (by rw[HAN.out];simpa using h3));have hroom:=Nat.le_trans (setlTo_len d (L.take k)) (by simp;omega:(L.take k).length≤k);obtain⟨v9,w9,hrun,hown,hb9⟩:=app_pair HO8.out zO HB8.out.size p.1 p.2;have HRN:=zh hrun;have HOW:=zh hown;have HB9:=zh (HB8.out.trans hb9);clear hrun hown hb9 han h3 hroom
      go_wp2_with (at_builtin;refine wpList_app rfl _ _ _ rfl rfl rfl HRN.out ?_)
      go_roundw
      case rel=>
       refine⟨k+1,zO,zN,?_,HB9.out⟩;rw[HS.out,pairCells_snoc,List.length_append,List.length_singleton];exact HOW.out
      case measure=>simp[intOf];omega
    ·have hke:k=L.length:=by omega
     have HKE:=zh hke;clear hke
     go_wp2_with fail
     go_ret2
     have hO:=HO.out;rw[HKE.out,List.take_length,←HL.out,setl_eq HLD.out] at hO;obtain⟨a,cap,rfl,hro,hcap⟩:=ownsRow_own hO;exact⟨HB6.out.trans (HBW.out.mono HB6.out.size),_,_,rfl,.inr ⟨rfl,.inr ⟨d,a,cap,HCN.out,rfl,rfl,hro.row,hcap⟩⟩⟩
 ·have hzb:(er != 0)=true:=by simpa using hz
  have HZE:=zh hz;clear hz
  go_wp2_with fail
  go_ret2
  exact⟨HB.out,_,_,rfl,.inl ⟨HZE.out,rfl,rfl⟩⟩
end Go.Proofs.YtjgldeeianionaaGreat
