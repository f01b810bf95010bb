/- The walks and plain laws of: MQLFew MQXBest MQSoundL MQSounds MQLawC. No condition. -/
import Derived.WalkKit
import Derived.WalkSpells
import Derived.WalkLawsBesides
import Derived.RangeFuncKeeps
import Derived.Deep.Draws
import Derived.Sort.CutIn
import Derived.Maps.AppendAt
import Derived.OwnWalk
import Derived.OwnWalkIn
import Derived.Shelf.Abstract
import Derived.Deep.DeepCutAuto
import Derived.Deep.OwnRows
import Derived.Laws.EntriesVeiled
import Derived.Deep.RegionHeld3
import Derived.Test.YtjgldeeianionaaGreatProg
import Derived.Maps.OwnSet
import Derived.Maps.OwnOps
import Derived.Deep.LoopGhost
import Derived.Deep.QuietTactic
import Derived.BigQuiet
import Derived.Handy
import Derived.Lib.Hide
import Derived.Lib.ConvBytes
import Derived.RangeFuncNested
import Derived.RangeFuncBound
import Derived.RangeFuncCalls
import Derived.RangeFuncLeaves
import Derived.RangeFuncRecord
import Derived.TacticsInMore
import Derived.LoopNIn
import Derived.LoopIn
import Derived.Scope
import Derived.WalkMore
import Derived.Deep.Quiet
import Derived.OrdersIn
import Derived.StillTail
import Derived.StillTailTactics
import Derived.OrdersHeld
import Derived.Deep.RegionHeld
import Derived.ChangeKeysEq
import Derived.Tactics2
import Derived.Defers
import Derived.Recover
import Derived.Laws.Pointers
import Derived.Deep.MidRow
import Derived.Sort.QuietIn
import Derived.Lib.SliceRun
import Derived.Shelf.Sort.Plain
import Derived.Shelf.Slices.CompactI
import Derived.Shelf.Slices.Reverse
import Derived.ArgAppend
import Derived.IntWalk
import Derived.Test.YtjgldeeianionaaGreatT02
import Derived.Test.YtjgldeeianionaaGreatT17
import Derived.Test.YtjgldeeianionaaGreatT20
import Derived.Test.YtjgldeeianionaaGreatT22
import Derived.Test.YtjgldeeianionaaGreatT24
import Derived.Test.YtjgldeeianionaaGreatT25
import Derived.Test.YtjgldeeianionaaGreatT29
import Derived.Test.YtjgldeeianionaaGreatT30
import Derived.Test.YtjgldeeianionaaGreatT34
import Derived.Test.YtjgldeeianionaaGreatT35
import Derived.Test.YtjgldeeianionaaGreatT38
import Derived.Test.YtjgldeeianionaaGreatT39
import Derived.Test.YtjgldeeianionaaGreatT01
set_option maxHeartbeats 4000000
set_option maxRecDepth 100000
set_option linter.unusedSimpArgs false
set_option linter.unusedVariables false
namespace Go.Proofs.YtjgldeeianionaaGreat
open Go.RowKit
attribute [local go_sem] Oper.semAt_some
def FewPost (c:Cs)(l:List Prb)(w:World)(e:Ending)(w':World):Prop:=(∃b:Bool,e = .returned (.bool b)∧(b=true→c.Small∧l.length≤8))∧Below w.heap.size w w'
theorem cnt_at9 {c:Cs}{l:List Prb}{k:Nat}{p:Prb}(hz:probesErr c l=0)(hv:l[k]?=some p):∃(i:Nat) (q:Prt),p.part=i∧c.parts[i]?=some q∧(0≤q.span.low∧q.span.low≤q.span.high∧q.span.high≤1000)∧1≤p.width∧p.width≤1001:=by
 obtain⟨hc,_,hall⟩:=probes_ok hz;obtain⟨r1,r2,_⟩:=hall p (List.mem_of_getElem? hv);obtain⟨i,hi⟩:=Int.eq_ofNat_of_zero_le r2.1;obtain⟨q,hq⟩:=get_of_lt c.parts (k:=i) zO;exact⟨i,q,hi,hq,okSpn_of ((check_okCase hc).2.2.1 q (List.mem_of_getElem? hq)),(right_vals r1).2.1⟩
theorem few9_any (c:Cs)(hf:c.Fit)(pa:Option Addr)(pc:Nat)(l:List Prb)(hl:l.length≤maxLen)(qa:Option Addr)(qc:Nat)(w:World)(hp:PartsAt w pa c.parts)(hq:PrbsAt w qa l):
 Calls Tryz.prog 13 #[.agg #[.string c.ware,.int .i64 c.limit,.int .i64 c.by_,.slice pa c.parts.length pc],.slice qa l.length qc] w (FewPost c l w):=by
 obtain⟨hs1,hs2,hs3⟩:=hf;unfold maxLen at hs1 hs2 hs3 hl;obtain⟨w1,hw1⟩:=zx (w.alloc (.cells #[.string c.ware,.int .i64 c.limit,.int .i64 c.by_,.slice pa c.parts.length pc] 24));have hB1:Below w.heap.size w w1:=by rw[←hw1];go_grown
 have b1:Box w1 w.heap.size (csCells c pa pc) 24:=by rw[←hw1];exact Box.new _ _ _
 have e1:=zC (b1);have HP:=zh hp;have HQ:=zh hq;have H3:=zh hs3;have HW:=zh hw1;have HB1:=zh hB1;have HX1:=zh b1;clear hp hq hs3 hw1 b1 hB1
 go_enter Tryz.func13,Tryz.ntmps13
 go_upto_region 1 with fail
 simp only[HW.out]
 go_wp2_with fail
 go_loop [5] (fun i=>∃k:Nat,k≤c.parts.length∧k≤12∧i = .int .i64 k∧Hid (∀(j:Nat) q,j<k→c.parts[j]?=some q→q.sherds.length≤60∧q.rests.length≤250)) (fun i=>c.parts.length-(intOf i).toNat)
 case atStart=>exact⟨0,Nat.zero_le _,Nat.zero_le _,rfl,zh (fun j q hj=>absurd hj (Nat.not_lt_zero j))⟩
 case round=>
  obtain⟨k,hk,hk12,rfl,HA⟩:=hrel;have HBW:=HB1
  by_cases hlt:k<c.parts.length
  ·have hkn:(k:Int)<(c.parts.length:Int):=by omega
   by_cases hk2:k<12
   ·have hkn2:(k:Int)<12:=by omega
    obtain⟨b,o,p,rfl,hpk,hpart⟩:=HP.out.at_ hlt;obtain⟨sa,sc,ra,rc,c0,c1,c2,c3,c4,c5,c6,c7,hsi,hri,hsc,hrc⟩:=hpart.open;have d0:=below_cell HB1.out c0;have d7:=below_cell HB1.out c7;have hlen:=H3.out p (List.mem_of_getElem? hpk);have hl1:=hlen.1;have hl2:=hlen.2;have HPK:=zh hpk;clear c0 c1 c2 c3 c4 c5 c6 c7 hpart hpk hsi hri hlen hsc hrc
    by_cases h1:60<p.sherds.length
    ·have h1':(60:Int)<(p.sherds.length:Int):=by omega
     go_wp2_with fail
     go_ret
     exact⟨⟨false,rfl,fun h=>by cases h⟩,HBW.out⟩
    ·have h1':¬(60:Int)<(p.sherds.length:Int):=by omega
     by_cases h2:250<p.rests.length
     ·have h2':(250:Int)<(p.rests.length:Int):=by omega
      go_wp2_with fail
      go_ret
      exact⟨⟨false,rfl,fun h=>by cases h⟩,HBW.out⟩
     ·have h2':¬(250:Int)<(p.rests.length:Int):=by omega
      go_wp2_with fail
      go_round
      case rel=>exact⟨k+1,zO,zO,zN,zh (fun j q hj hq=>by
       rcases Nat.lt_or_ge j k with h|h
       ·exact HA.out j q h hq
       ·have:j=k:=by omega
        subst this;rw[HPK.out] at hq;cases hq
        omega)⟩
      case measure=>simp[intOf];omega
   ·have hkn2:¬(k:Int)<12:=by omega
    have h5:(5:Int)<(c.parts.length:Int):=by omega
    have h8:¬(c.parts.length:Int)≤8:=by omega
    have h12:(12:Int)<(c.parts.length:Int):=by omega
    by_cases h100:(100:Int)<(c.ware.size:Int)
    ·go_wp2_with fail
     go_ret
     exact⟨⟨false,rfl,fun h=>by cases h⟩,HBW.out⟩
    ·go_wp2_with fail
     go_ret
     exact⟨⟨false,rfl,fun h=>by cases h⟩,HBW.out⟩
  ·have hkn:¬(k:Int)<(c.parts.length:Int):=by omega
   have h12:¬(12:Int)<(c.parts.length:Int):=by omega
   by_cases h100:(100:Int)<(c.ware.size:Int)
   ·go_wp2_with fail
    go_ret
    exact⟨⟨false,rfl,fun h=>by cases h⟩,HBW.out⟩
   ·have HSM:=zh (show c.Small from⟨zO,zO,fun p hp=>by
     obtain⟨j,hj⟩:=List.mem_iff_getElem?.1 hp;have:=(List.getElem?_eq_some_iff.1 hj).1;exact HA.out j p zO hj⟩)
    have HCP:=zh (checkProbesR_any c HSM.out pa pc l qa qc w1 (HP.out.below HB1.out) (HQ.out.below HB1.out))
    by_cases h5:(5:Int)<(c.parts.length:Int)
    ·by_cases h8:(c.parts.length:Int)≤8
     ·go_wp2_with fail
      go_ret
      exact⟨⟨false,rfl,fun h=>by cases h⟩,HBW.out⟩
     ·by_cases hl8:(8:Int)<(l.length:Int)
      ·go_wp2_with fail
       go_ret
       exact⟨⟨false,rfl,fun h=>by cases h⟩,HBW.out⟩
      ·have hz:probesErr c l≠0:=fun h=>by
        have:=(check_okCase (probes_ok h).1).1
        omega
       obtain⟨er,her⟩:=zx (probesErr c l);rw[her] at hz HCP;have hzb:(er != 0)=true:=by simpa using hz
       clear her
       go_wp2_with fail
       refine zM HCP ?_;rintro e w2 ⟨rfl,hb2⟩;have HBW:=zh (HB1.out.trans (hb2.mono HB1.out.size));clear hb2 e1
       go_wp2_with fail
       go_ret
       exact⟨⟨true,rfl,fun _=>⟨HSM.out,zO⟩⟩,HBW.out⟩
    ·by_cases hl8:(8:Int)<(l.length:Int)
     ·go_wp2_with fail
      go_ret
      exact⟨⟨false,rfl,fun h=>by cases h⟩,HBW.out⟩
     ·by_cases hz:probesErr c l=0
      ·have HZ:=zh hz;rw[hz] at HCP;clear hz
       go_wp2_with fail
       refine zM HCP ?_;rintro e w2 ⟨rfl,hb2⟩;have HBW:=zh (HB1.out.trans (hb2.mono HB1.out.size));have HX2:=zh (HX1.out.below' hb2);clear hb2 e1
       go_wp2_with fail
       go_loopw [6,7] (fun nv iv wr=>∃(n:Int) (k:Nat),k≤l.length∧nv = .int .i64 n∧iv = .int .i64 k∧Below w2.heap.size w2 wr) (fun _ iv _=>l.length-(intOf iv).toNat)
       case atStart=>exact⟨1,0,Nat.zero_le _,rfl,rfl,Below.refl _ _⟩
       case round=>
        obtain⟨n,k',hk',rfl,rfl,hb⟩:=hrel
        by_cases hlt':k'<l.length
        ·obtain⟨g,e,p,rfl,hv,hG⟩:=(HQ.out.below (HBW.out.trans (hb.mono HBW.out.size))).at_ hlt';obtain⟨c0,c1,c2,c3⟩:=hG.open;have hkn':(k':Int)<(l.length:Int):=by omega
         go_upto_region 14 with fail
         have hbd:Below wr.heap.size wr wr.drew:=(Below.refl _ wr).drew;have hb6:=hb.trans (hbd.mono hb.size);have hX:=HX2.out.below' hb6;have e1:=zC (hX);obtain⟨i,q,hi,hq,⟨s1,s2,s3⟩,v1,v2⟩:=cnt_at9 HZ.out hv;have HCN:=zh (countR9_any hi hq s1 s2 s3 v1 v2 pa pc wr.drew (HP.out.below (HBW.out.trans (hb6.mono HBW.out.size))));generalize cntZ q.span p.width=M at *;have HB:=zh hb6;have c0:=below_cell hbd c0;have c1:=below_cell hbd c1;have c2:=below_cell hbd c2;have c3:=below_cell hbd c3
         have K0:Hid (∀A,Below wr.drew.heap.size wr.drew A→cC A (w.heap.size) c pa pc∧A.cell? ⟨g,e+k'*4,none⟩=some (.int .i64 p.id)∧A.cell? ⟨g,e+k'*4+1,none⟩=some (.int .i64 p.part)∧A.cell? ⟨g,e+k'*4+2,none⟩=some (.int .i64 p.width)∧A.cell? ⟨g,e+k'*4+3,none⟩=some (.int .i64 p.cost)):=zh fun A hA=>⟨(hX.below' hA).cell,below_cell hA c0,below_cell hA c1,below_cell hA c2,below_cell hA c3⟩
         refine wp_region_L (fun A=>Below wr.drew.heap.size wr.drew A) 9 zK ?_;have hSS:Below wr.drew.heap.size wr.drew wr.drew:=Below.refl _ _;clear hG hv hX hi hq s1 s2 s3 v1 v2 hb hb6 hbd c0 c1 c2 c3 e1;generalize wr.drew=w6 at *;refine tM K0 0 hSS ?_;refine tM K0 1 hSS ?_;refine tM K0 2 hSS ?_;refine tM K0 3 hSS ?_;refine tM K0 4 hSS ?_;refine tM K0 5 hSS ?_;refine anyL_call (i:=6) (f:=54) (args:=#[.agg #[.string c.ware,.int .i64 c.limit,.int .i64 c.by_,.slice pa c.parts.length pc],.agg #[.int .i64 p.id,.int .i64 p.part,.int .i64 p.width,.int .i64 p.cost]]) rfl zK (by rfl) (by go_simp) HCN.out ?_;rintro e7 w7 ⟨rfl,hb7⟩;refine .inl ⟨_,rfl,.inr hb7,?_⟩
         try simp only[pZ]
         have hSS:=hb7;have HB7:=zh (HB.out.trans (hb7.mono HB.out.size));refine tM K0 7 hSS ?_;refine tM K0 8 hSS ?_;refine anyL_done zK ?_ _;clear hSS hb7 K0
         go_wp2_with fail
         go_roundw
         case rel=>exact⟨_,k'+1,zO,rfl,zN,HB7.out⟩
         case measure=>simp[intOf];omega
        ·go_wp2_with fail
         go_ret
         exact⟨⟨_,rfl,fun _=>⟨HSM.out,zO⟩⟩,HBW.out.trans (hb.mono HBW.out.size)⟩
      ·obtain⟨er,her⟩:=zx (probesErr c l);rw[her] at hz HCP;have hzb:(er != 0)=true:=by simpa using hz
       clear her
       go_wp2_with fail
       refine zM HCP ?_;rintro e w2 ⟨rfl,hb2⟩;have HBW:=zh (HB1.out.trans (hb2.mono HB1.out.size));clear hb2 e1
       go_wp2_with fail
       go_ret
       exact⟨⟨true,rfl,fun _=>⟨HSM.out,zO⟩⟩,HBW.out⟩
def hdrs (hs:List (Option Addr×Nat×Nat)):List Value:=hs.map fun h=>.slice h.1 h.2.1 h.2.2
def shortB (hs:List (Option Addr×Nat×Nat)):Bool:=hs.all fun h=>decide (h.2.1≤20)
theorem short9_any (a:Option Addr)(hs:List (Option Addr×Nat×Nat))(cap:Nat)(hl:hs.length≤1000)(hm:∀h∈hs,h.2.1≤maxLen)(w:World)(h:Row w a (hdrs hs)):
 Calls Tryz.prog 14 #[.slice a hs.length cap] w fun e w'=>e = .returned (.bool (shortB hs))∧w=w':=by
 unfold maxLen at hm;have HM:=zh hm;have HR:=zh h;clear hm h
 go_enter Tryz.func14,Tryz.ntmps14
 go_wp2_with fail
 go_loop [3] (fun i=>∃k:Nat,k≤hs.length∧i = .int .i64 k∧Hid (∀(j:Nat) x,j<k→hs[j]?=some x→x.2.1≤20)) (fun i=>hs.length-(intOf i).toNat)
 case atStart=>exact⟨0,Nat.zero_le _,rfl,zh (fun j q hj=>absurd hj (Nat.not_lt_zero j))⟩
 case round=>
  obtain⟨k,hk,rfl,HA⟩:=hrel
  by_cases hlt:k<hs.length
  ·obtain⟨x,hx⟩:=get_of_lt hs hlt;obtain⟨b,o,rfl,hc⟩:=HR.out k (.slice x.1 x.2.1 x.2.2) (by simp[hdrs,hx]);have hxm:=HM.out x (List.mem_of_getElem? hx);obtain⟨x1,x2,x3⟩:=x;simp only at hc hxm;have HX:=zh hx;have hkn:(k:Int)<(hs.length:Int):=by omega
   clear hx
   by_cases h20:(20:Int)<(x2:Int)
   ·go_wp2_with fail
    go_ret
    refine⟨ret_bool ?_,rfl⟩;have:shortB hs=false:=by
     rw[shortB,List.all_eq_false];exact⟨_,List.mem_of_getElem? HX.out,by simp;omega⟩
    rw[this]
   ·go_wp2_with fail
    go_round
    case rel=>exact⟨k+1,zO,zN,zh (fun j y hj hy=>by
     rcases Nat.lt_or_ge j k with h|h
     ·exact HA.out j y h hy
     ·obtain rfl:j=k:=by omega
      rw[HX.out] at hy;cases hy;simp only;omega)⟩
    case measure=>simp[intOf];omega
  ·go_wp2_with fail
   go_ret
   refine⟨ret_bool ?_,rfl⟩;have:shortB hs=true:=by
    rw[shortB,List.all_eq_true];intro x hx;obtain⟨j,hj⟩:=List.mem_iff_getElem?.1 hx;have:=(List.getElem?_eq_some_iff.1 hj).1
    simpa using HA.out j x zO hj
   rw[this]
theorem best1_any (v:Value)(w:World):Calls Tryz.prog 95 #[v] w (NeedPost true w):=by
 go_enter Tryz.func95,Tryz.ntmps95
 go_wp2_with fail
 go_end0
 exact needPost_ok rfl (Below.refl _ _)
theorem results_cctt {P:Program}{fn:Func}{t u x y:Tmp}{ty tu:TypeId}(h:fn.results = #[.cell t ty,.cell u tu,.tmp x,.tmp y]){tmps:Array Value}{w:World}{p q:Addr}{v1 v2:Value}(hp:tmps.getD t undef = .pointer (some p))(hq:tmps.getD u undef = .pointer (some q))
 (h1:(loadVar ty p).run P w = .ok v1 w) (h2:(loadVar tu q).run P w = .ok v2 w):(results fn tmps).run P w = .ok (.tuple #[v1,v2,tmps.getD x undef,tmps.getD y undef]) w:=by
 have hp':tmps[t]?.getD undef = .pointer (some p):=by simpa using hp
 have hq':tmps[u]?.getD undef = .pointer (some q):=by simpa using hq
 simp[results,h,hp',hq',asAddr,h1,h2]
theorem pair_size9:(Tryz.prog.info? 57).map (·.size)=some 2:=zK
def BestX (c:Cs)(l:List Prb)(w:World)(e:Ending)(w':World):Prop:=Below w.heap.size w w'∧(((xErr c l true≠0∨bestOf c l=none)∧e = .returned (.tuple #[.agg #[.int .i64 0,.int .i64 0],.agg #[.slice none 0 0,.int .i64 0],.bool false,.int .i64 (xErr c l true)])) ∨
 ∃z:ChoE,xErr c l true=0∧bestOf c l=some z.d∧z.Ok l w'∧e = .returned (.tuple #[.agg #[.int .i64 (z.p1:Int),.int .i64 (z.p2:Int)],.agg #[.slice z.sa z.s.length z.sc,.int .i64 z.n],.bool true,.int .i64 0]))
theorem bestX_any (c:Cs)(hsm:c.Small)(pa:Option Addr)(pc:Nat)(l:List Prb)(qa:Option Addr)(qc:Nat)(w:World)(hp:PartsAt w pa c.parts)(hq:PrbsAt w qa l):
 Calls Tryz.prog 31 #[.agg #[.string c.ware,.int .i64 c.limit,.int .i64 c.by_,.slice pa c.parts.length pc],.slice qa l.length qc] w (BestX c l w):=by
 have hmf:=run_mf Tryz.prog;obtain⟨w4,hw4⟩:=zx ((((w.alloc (.cells #[.string c.ware,.int .i64 c.limit,.int .i64 c.by_,.slice pa c.parts.length pc] 24)).alloc (.cells #[.int .i64 0,.int .i64 0] 57)).alloc (.cells #[.slice none 0 0,.int .i64 0] 42)).alloc (.cells #[.slice none 0 0] 129));have hB4:Below w.heap.size w w4:=by rw[←hw4];go_grown
 have hs4:w4.heap.size=w.heap.size+4:=by rw[←hw4];simp
 have b0:Box w4 w.heap.size (csCells c pa pc) 24:=by rw[←hw4];exact(((Box.new _ _ _).alloc _).alloc _).alloc _
 have b1:Box w4 (w.heap.size+1) #[.int .i64 0,.int .i64 0] 57:=by rw[←hw4];exact((Box.new' zS).alloc _).alloc _
 have b2:Box w4 (w.heap.size+2) #[.slice none 0 0,.int .i64 0] 42:=by rw[←hw4];exact(Box.new' zS).alloc _
 have b3:Box w4 (w.heap.size+3) #[.slice none 0 0] 129:=by rw[←hw4];exact Box.new' zS
 have hask:=asked9_any c hsm pa pc l qa qc 95 #[] 96 #[.pointer (some ⟨w.heap.size,0,none⟩),.pointer (some ⟨w.heap.size+3,0,none⟩)] true
  (fun er W'=>er=0∧Below w.heap.size w W'∧Box W' (w.heap.size+1) #[.int .i64 0,.int .i64 0] 57∧Box W' (w.heap.size+2) #[.slice none 0 0,.int .i64 0] 42∧∃v zs,Box W' (w.heap.size+3) #[v] 129∧ChosO l (w.heap.size+4) W' v zs∧zs.map ChoE.d=chosOf c l∧(openOf c).length≤100000) w4 (hp.below hB4) (hq.below hB4)
  (fun hpr=>⟨fun args W=>by simp[go_sem],fun W t hW ht hlab=>best1_any _ W⟩)
  (fun hpr hok hne=>⟨fun args W=>by simp[go_sem],fun W t hW ht hlab=>by
   have h4:=hB4.size;have h5:=hW.size;refine(best2_any (t:=t) (pa:=pa) (pc:=pc) (qa:=qa) (qc:=qc) hsm hpr hne w.heap.size W (w.heap.size+3) (fun W' hk=>by
    have hbw:Below w.heap.size w W':=(hB4.trans (hW.mono h4)).trans ((hk.mono fun k (hk:k<w.heap.size)=>by omega).below zO);exact⟨hk.heap zO hlab.box,hp.below hbw,hq.below hbw⟩) (b0.below' hW) (b3.below' hW)).mono ?_
   rintro e W' ⟨rfl,hk,v,zs,hb1,hco,hzs⟩;have hz:=ask_nil (probes_ok hpr).1 hne;refine⟨0,rfl,rfl,(hB4.trans (hW.mono h4)).trans ((hk.mono fun k (hk:k<w.heap.size)=>by omega).below zO),hk.heap zO (b1.below' hW),hk.heap zO (b2.below' hW),v,zs,hb1,⟨⟨hco.1.1,?_⟩,fun z hz W2 hW2=>hco.2 z hz W2 (hW2.mono fun k ⟨q1,q2⟩=>⟨zO,q2⟩)⟩,hzs,openOf_len c (check_small (ask_open hz))⟩
   rcases hco.1.2 with h0|⟨g',cap,cur,q1,q2,q3,q4⟩
   ·exact .inl h0
   ·exact .inr ⟨g',cap,cur,q1,zO,q3,q4⟩⟩)
 have HA:=zh hask;have HW:=zh hw4;have HB4:=zh hB4;have H1:=zh b1;have H2:=zh b2;have e0:=zC (b0);clear hask hw4 hB4 b0 b1 b2 b3 hp hq hs4
 go_enter Tryz.func31,Tryz.ntmps31
 go_upto_region 2 with fail
 simp only[HW.out]
 go_wp2_with fail
 refine zM HA ?_;rintro e w5 hpost;obtain⟨er,rfl,(⟨h1,h2,hb5⟩|⟨h1,rfl,hb5,hx1,hx2,v,zs,hx3,hco,hzs,hol⟩)⟩:=ask_cases hpost
 ·have HB5:=zh (HB4.out.trans (hb5.mono HB4.out.size));have HX1:=zh (H1.out.below' hb5);have HX2:=zh (H2.out.below' hb5);have hne:(er != 0)=true:=by simpa using(h2▸h1)
  have HE:=zh (And.intro h1 h2);obtain⟨y1,y2⟩:=HX1.out.rules;obtain⟨z1,z2⟩:=HX2.out.rules;clear hpost hb5 e0 h1 h2 HA H1 H2
  go_wp2_with fail
  refine bodyPost_ret (results_cctt rfl rfl rfl (run_loadVar_row _ _ 57 57 _ (0,0) _ ((((HX1.out.set_ 0 _).set_ 1 _).far zS _).far zS _) Tryz.underlying57 rfl pair_size9) (run_loadVar_row _ _ 42 42 _ (0,0) _ ((((HX2.out.far zS _).far zS _).set_ 0 _).set_ 1 _) Tryz.underlying42 rfl plan_size)) rfl ?_;refine⟨(((HB5.out.setCell zS _).setCell zS _).setCell zT _).setCell zT _,.inl ⟨.inl HE.out.1,?_⟩⟩;rw[←HE.out.2]
  rfl
 ·have hzl:zs.length≤100000:=by
   have h2:=congrArg List.length hzs;rw[List.length_map] at h2;have h3:=List.length_filterMap_le (choF c l) (openOf c);unfold chosOf at h2
   omega
  have HCO:=zh hco.2;obtain⟨av,cv,rfl,hat,_⟩:=hco.at_;have HL:=zh (leastC_any l zs av cv w5 hat hzl);have HB5:=zh hb5;have HX1:=zh hx1;have HX2:=zh hx2;have HXE:=zh h1;have HZS:=zh (show leastD l (zs.map ChoE.d)=bestOf c l by rw[hzs];rfl);have e8:=hx3.cell;clear hpost hb5 e0 h1 HA H1 H2 hx1 hx2 hx3 hco hzs hat hol
  go_wp2_with fail
  refine zM HL ?_;rintro e w6 ⟨hb6,hcase⟩;rw[HZS.out] at hcase;have huni:∃(u1 u2:Int) (u3:Option Addr) (u4 u5:Nat) (u6:Int) (fd:Bool),e = .returned (.tuple #[.agg #[.int .i64 u1,.int .i64 u2,.slice u3 u4 u5,.int .i64 u6],.bool fd])∧((bestOf c l=none∧fd=false∧u1=0∧u2=0∧u3=none∧u4=0∧u5=0∧u6=0) ∨
   ∃z:ChoE,bestOf c l=some z.d∧z∈zs∧fd=true∧u1=z.p1∧u2=z.p2∧u3=z.sa∧u4=z.s.length∧u5=z.sc∧u6=z.n):=by
   rcases hcase with ⟨q1,rfl⟩|⟨z,q2,q1,_,rfl⟩
   ·exact⟨_,_,_,_,_,_,_,rfl,.inl ⟨q1,rfl,rfl,rfl,rfl,rfl,rfl,rfl⟩⟩
   ·exact⟨_,_,_,_,_,_,_,rfl,.inr ⟨z,q1,q2,rfl,rfl,rfl,rfl,rfl,rfl,rfl⟩⟩
  obtain⟨u1,u2,u3,u4,u5,u6,fd,rfl,hd⟩:=huni;obtain⟨w7,hw7⟩:=zx (w6.alloc (.cells #[.int .i64 u1,.int .i64 u2,.slice u3 u4 u5,.int .i64 u6] 131));have hB7:Below w6.heap.size w6 w7:=by rw[←hw7];go_grown
  have b7:Box w7 w6.heap.size #[.int .i64 u1,.int .i64 u2,.slice u3 u4 u5,.int .i64 u6] 131:=by rw[←hw7];exact Box.new _ _ _
  have HW7:=zh hw7;have hb67:=hb6.trans (hB7.mono hb6.size);have HB7:=zh (HB5.out.trans (hb67.mono HB5.out.size));have HY1:=zh (HX1.out.below' hb67);have HY2:=zh (HX2.out.below' hb67);have HD:=zh hd;have HOKB:=zh hb67;have hsz:w.heap.size+4≤w6.heap.size:=by
   have h1:=hb6.size;have h2:=HX2.out.lt;have h3:=lt_of_cell (w:=w5) (b:=w.heap.size+3) (o:=0) (e8 0)
   omega
  clear hw7 hB7 hb67 hcase hd e8 HL HX1 HX2
  go_upto_region 6 with fail
  simp only[HW7.out];have K0:Hid (∀A,Box A w6.heap.size #[.int .i64 u1,.int .i64 u2,.slice u3 u4 u5,.int .i64 u6] 131→(∀j,A.cell? ⟨w6.heap.size,j,none⟩=(#[.int .i64 u1,.int .i64 u2,.slice u3 u4 u5,.int .i64 u6]:Array Value)[j]?)):=zh fun A hA=>hA.cell
  refine wp_region_L (fun A=>Box A w6.heap.size #[.int .i64 u1,.int .i64 u2,.slice u3 u4 u5,.int .i64 u6] 131) 9 zK ?_;have hbd:Below w7.heap.size w7 w7.drew:=(Below.refl _ w7).drew;have hSS:=b7.below' hbd;have h1d:=HY1.out.below' hbd;have h2d:=HY2.out.below' hbd;have hBd:=HB7.out.trans (hbd.mono HB7.out.size);have hOd:=HOKB.out.trans (hbd.mono HOKB.out.size);clear hbd b7;generalize w7.drew=w8 at *;refine tM K0 0 hSS ?_;refine tM K0 1 hSS ?_;refine tM K0 2 hSS ?_;refine tM K0 3 hSS ?_;refine tM K0 4 hSS ?_;obtain⟨z1,z2⟩:=h1d.rules;refine anyL_skip (i:=5) (w':=(w8.setCell ⟨w.heap.size+1,0,none⟩ (.int .i64 u1)).setCell ⟨w.heap.size+1,1,none⟩ (.int .i64 u2)) rfl zK (by rfl) ?_ (.inr ((hSS.far zT _).far zT _)) ?_
  ·go_simp
   try with_reducible rfl
  try simp only[pZ]
  have hS9:Box ((w8.setCell ⟨w.heap.size+1,0,none⟩ (.int .i64 u1)).setCell ⟨w.heap.size+1,1,none⟩ (.int .i64 u2)) w6.heap.size #[.int .i64 u1,.int .i64 u2,.slice u3 u4 u5,.int .i64 u6] 131:=(hSS.far zT _).far zT _;have h19:Box ((w8.setCell ⟨w.heap.size+1,0,none⟩ (.int .i64 u1)).setCell ⟨w.heap.size+1,1,none⟩ (.int .i64 u2)) (w.heap.size+1) #[.int .i64 u1,.int .i64 u2] 57:=(h1d.set_ 0 _).set_ 1 _;have h29:Box ((w8.setCell ⟨w.heap.size+1,0,none⟩ (.int .i64 u1)).setCell ⟨w.heap.size+1,1,none⟩ (.int .i64 u2)) (w.heap.size+2) #[.slice none 0 0,.int .i64 0] 42:=(h2d.far zS _).far zS _;have hB9:Below w.heap.size w ((w8.setCell ⟨w.heap.size+1,0,none⟩ (.int .i64 u1)).setCell ⟨w.heap.size+1,1,none⟩ (.int .i64 u2)):=(hBd.setCell zS _).setCell zS _
  have hO9:Keep (fun k=>w.heap.size+4≤k) w5 ((w8.setCell ⟨w.heap.size+1,0,none⟩ (.int .i64 u1)).setCell ⟨w.heap.size+1,1,none⟩ (.int .i64 u2)):=((Keep.of_below' hOd).setCell (.inl zS) _).setCell (.inl zS) _;clear hSS h1d h2d hBd hOd z1 z2;generalize (w8.setCell ⟨w.heap.size+1,0,none⟩ (.int .i64 u1)).setCell ⟨w.heap.size+1,1,none⟩ (.int .i64 u2)=w9 at *;obtain⟨z1,z2⟩:=h29.rules;have hS10:Box ((w9.setCell ⟨w.heap.size+2,0,none⟩ (.slice u3 u4 u5)).setCell ⟨w.heap.size+2,1,none⟩ (.int .i64 u6)) w6.heap.size #[.int .i64 u1,.int .i64 u2,.slice u3 u4 u5,.int .i64 u6] 131:=(hS9.far zT _).far zT _;refine anyL_skip (i:=6) (w':=(w9.setCell ⟨w.heap.size+2,0,none⟩ (.slice u3 u4 u5)).setCell ⟨w.heap.size+2,1,none⟩ (.int .i64 u6)) rfl zK (by rfl) ?_ (.inr hS10) ?_
  ·go_simp
   try with_reducible rfl
  try simp only[pZ]
  have h110:Box ((w9.setCell ⟨w.heap.size+2,0,none⟩ (.slice u3 u4 u5)).setCell ⟨w.heap.size+2,1,none⟩ (.int .i64 u6)) (w.heap.size+1) #[.int .i64 u1,.int .i64 u2] 57:=(h19.far zS _).far zS _;have h210:Box ((w9.setCell ⟨w.heap.size+2,0,none⟩ (.slice u3 u4 u5)).setCell ⟨w.heap.size+2,1,none⟩ (.int .i64 u6)) (w.heap.size+2) #[.slice u3 u4 u5,.int .i64 u6] 42:=(h29.set_ 0 _).set_ 1 _;have hB10:Below w.heap.size w ((w9.setCell ⟨w.heap.size+2,0,none⟩ (.slice u3 u4 u5)).setCell ⟨w.heap.size+2,1,none⟩ (.int .i64 u6)):=(hB9.setCell zS _).setCell zS _;have hO10:Keep (fun k=>w.heap.size+4≤k) w5 ((w9.setCell ⟨w.heap.size+2,0,none⟩ (.slice u3 u4 u5)).setCell ⟨w.heap.size+2,1,none⟩ (.int .i64 u6)):=(hO9.setCell (.inl zS) _).setCell (.inl zS) _;clear hS9 h19 h29 hB9 hO9 z1 z2
  generalize (w9.setCell ⟨w.heap.size+2,0,none⟩ (.slice u3 u4 u5)).setCell ⟨w.heap.size+2,1,none⟩ (.int .i64 u6)=wa at *;refine anyL_run (i:=7) (v:=.bool fd) (w':=wa) rfl zK (by rfl) (by go_simp) (.inr hS10) ?_
  try simp only[pZ]
  refine anyL_run (i:=8) (v:=.int .i64 0) (w':=wa) rfl zK (by rfl) (by go_simp) (.inr hS10) ?_
  try simp only[pZ]
  refine anyL_done zK ?_ _;have HA1:=zh h110;have HA2:=zh h210;have HAB:=zh hB10;have HAO:=zh hO10;clear h110 h210 hB10 hO10 hS10 K0
  go_wp2_with fail
  refine bodyPost_ret (results_cctt rfl rfl rfl (run_loadVar_row _ _ 57 57 _ (0,0) _ HA1.out Tryz.underlying57 rfl pair_size9) (run_loadVar_row _ _ 42 42 _ (0,0) _ HA2.out Tryz.underlying42 rfl plan_size)) rfl ?_;refine⟨HAB.out,?_⟩
  rcases HD.out with ⟨q1,rfl,rfl,rfl,rfl,rfl,rfl,rfl⟩|⟨z,q1,q2,rfl,rfl,rfl,rfl,rfl,rfl,rfl⟩
  ·refine .inl ⟨.inr q1,?_⟩;rw[HXE.out]
   rfl
  ·exact .inr ⟨z,HXE.out,q1,HCO.out z q2 wa (HAO.out.mono fun k hk=>hk.1),rfl⟩
end Go.Proofs.YtjgldeeianionaaGreat
namespace Go.Proofs.YtjgldeeianionaaGreat
open Go.RowKit
theorem lit_ints9 {w:World}{g:Nat}{l:List Int}{t:TypeId}(h:Box w g (l.map (Value.int .i64)).toArray t):Ints w (some ⟨g,0,none⟩) l:=fun k v hv=>by
 refine⟨g,0,rfl,?_⟩;rw[h.cell,Nat.zero_add]
 simpa using hv
theorem lit_row9 {w:World}{g:Nat}{cs:Array Value}{t:TypeId}(h:Box w g cs t):Row w (some ⟨g,0,none⟩) cs.toList:=fun k v hv=>by
 refine⟨g,0,rfl,?_⟩;rw[h.cell,Nat.zero_add]
 simpa using hv
theorem same_lit9 (l:List Int)(hl:l.length≤1000000)(a b:Option Addr)(ca cb:Nat)(w:World)(ha:Ints w a l)(hb:Ints w b l):Calls Tryz.prog 30 #[.slice a l.length ca,.slice b l.length cb] w fun e w'=>e = .returned (.bool true)∧Below w.heap.size w w':=
 (same_ref a b ca cb l l w ha hb hl hl).mono (by rintro e w' ⟨rfl,h⟩;exact⟨by simp,h⟩)
theorem pairs_lit9 (l:List (Nat×Nat))(hl:l.length≤1000000)(a b:Option Addr)(ca cb:Nat)(w:World)(ha:Row w a (pairCells l))(hb:Row w b (pairCells l)):Calls Tryz.prog 23 #[.slice a l.length ca,.slice b l.length cb] w fun e w'=>e = .returned (.bool true)∧Below w.heap.size w w':=
 (samePairs_ref a b ca cb l l w ha hb hl hl).mono (by rintro e w' ⟨rfl,h⟩;exact⟨by simp,h⟩)
theorem same_two9 {a b:Option Addr}{ca cb:Nat}{w:World}(ha:Ints w a [0,2])(hb:Ints w b [0,2]):Calls Tryz.prog 30 #[.slice a 2 ca,.slice b 2 cb] w fun e w'=>e = .returned (.bool true)∧Below w.heap.size w w':=same_lit9 [0,2] zS a b ca cb w ha hb
theorem pairs_two9 {a b:Option Addr}{ca cb:Nat}{w:World}(ha:Row w a (pairCells [(0,1),(1,2)]))(hb:Row w b (pairCells [(0,1),(1,2)])):Calls Tryz.prog 23 #[.slice a 2 ca,.slice b 2 cb] w fun e w'=>e = .returned (.bool true)∧Below w.heap.size w w':=pairs_lit9 [(0,1),(1,2)] zS a b ca cb w ha hb
theorem vers_lit {w:World}{g1 g2 g3 g4 g5 g6:Nat}{t1 t2 t3 t4 t5 t6:TypeId}(h1:Box w g1 #[.int .i64 0] t1)(h2:Box w g2 #[.int .i64 0,.int .i64 1,.int .i64 2] t2)(h3:Box w g3 #[.int .u8 4,.int .i64 0,.int .i64 0,.slice (some ⟨g2,0,none⟩) 3 3] t3)
 (h4:Box w g4 #[.int .i64 1] t4) (h5:Box w g5 #[.int .u8 2,.int .i64 0,.int .i64 1,.slice none 0 0] t5)
 (h6:Box w g6 #[.slice (some ⟨g1,0,none⟩) 1 1,.int .u8 1,.slice (some ⟨g3,0,none⟩) 1 1,.slice (some ⟨g4,0,none⟩) 1 1,.int .u8 2,.slice (some ⟨g5,0,none⟩) 1 1] t6):VersAt w (some ⟨g6,0,none⟩) bellVs:=by
 have b1:BrsAt w (some ⟨g3,0,none⟩) [⟨4,0,0,[0,1,2]⟩]:=by
  intro k x hx
  match k,hx with
  |0,hx=>
   cases hx;exact⟨g3,0,rfl,some ⟨g2,0,none⟩,3,by rw[h3.cell];rfl,by rw[h3.cell];rfl,by rw[h3.cell];rfl,by rw[h3.cell];rfl,lit_ints9 (l:=[0,1,2]) h2,Nat.le_refl _⟩
  |k+1,hx=>simp at hx
 have b2:BrsAt w (some ⟨g5,0,none⟩) [⟨2,0,1,[]⟩]:=by
  intro k x hx
  match k,hx with
  |0,hx=>
   cases hx;exact⟨g5,0,rfl,none,0,by rw[h5.cell];rfl,by rw[h5.cell];rfl,by rw[h5.cell];rfl,by rw[h5.cell];rfl,Ints.nil _ _,Nat.le_refl _⟩
  |k+1,hx=>simp at hx
 intro k v hv
 match k,hv with
 |0,hv=>
  cases hv;exact⟨g6,0,some ⟨g1,0,none⟩,1,some ⟨g3,0,none⟩,1,rfl,by rw[h6.cell];rfl,by rw[h6.cell];rfl,by rw[h6.cell];rfl,lit_ints9 (l:=[0]) h1,b1,Nat.le_refl _⟩
 |1,hv=>
  cases hv;exact⟨g6,0,some ⟨g4,0,none⟩,1,some ⟨g5,0,none⟩,1,rfl,by rw[h6.cell];rfl,by rw[h6.cell];rfl,by rw[h6.cell];rfl,lit_ints9 (l:=[1]) h4,b2,Nat.le_refl _⟩
 |k+2,hv=>simp[bellVs] at hv
def bArg (pa:Option Addr)(pc:Nat):Value:=.agg #[.string bellC.ware,.int .i64 bellC.limit,.int .i64 bellC.by_,.slice pa bellC.parts.length pc]
def rArg (qa:Option Addr)(qc:Nat):Value:=.slice qa rodsL.length qc
theorem b_err {ok:Bool}(h:ok=true):xErr bellC rodsL ok=0:=xErr_ok b_probes h b_all
section
variable {w:World}{pa:Option Addr}{pc:Nat}{qa:Option Addr}{qc:Nat}
theorem s_cheap (hp:PartsAt w pa bellC.parts)(hq:PrbsAt w qa rodsL):Calls Tryz.prog 24 #[bArg pa pc,rArg qa qc,.int .i64 0,.int .i64 1] w fun e w'=>∃ra rc,e = .returned (.tuple #[.agg #[.slice ra 1 rc,.int .i64 5],.bool true,.int .i64 0])∧Ints w' ra [1]∧Below w.heap.size w w':=
 (cheapestX_any bellC bell_small pa pc rodsL qa qc 0 1 w hp hq).mono (by
  rintro e w' ⟨hb,cs,bb,rfl,h⟩;rw[show xErr bellC rodsL (twoB bellC.parts.length 0 1)=0 from b_err rfl] at h ⊢;rw[if_pos rfl,show cheapestOf bellC rodsL (0:Int).toNat (1:Int).toNat=some [1] from b_cheap] at h
  rcases h with ⟨h,_⟩|⟨x,ra,rc,hx,rfl,rfl,hi,_⟩
  ·cases h
  ·cases hx;rw[b_cost];exact⟨ra,rc,rfl,hi.at_,hb⟩)
theorem s_proof (hp:PartsAt w pa bellC.parts)(hq:PrbsAt w qa rodsL):Calls Tryz.prog 26 #[bArg pa pc,rArg qa qc,.int .i64 0,.int .i64 1] w fun e w'=>∃b o k a1 k1,e = .returned (.tuple #[.slice (some ⟨b,o,none⟩) 1 k,.int .i64 0])∧w'.cell? ⟨b,o,none⟩=some (.slice a1 2 k1)∧Ints w' a1 [0,2]∧Below w.heap.size w w':=
 (proofX_any bellC bell_small pa pc rodsL qa qc 0 1 w hp hq).mono (by
  rintro e w' ⟨hb,v,er,rfl,h⟩;rw[show xErr bellC rodsL (twoB bellC.parts.length 0 1)=0 from b_err rfl] at h
  rcases h with ⟨h,_⟩|⟨_,rfl,a,cap,rfl,ho,_⟩
  ·exact absurd rfl h
  ·have hd:=b_proof;rw[show proofOf bellC rodsL (0:Int).toNat (1:Int).toNat=proofOf bellC rodsL 0 1 from rfl] at ho ⊢;obtain⟨d,hds⟩:∃d,proofOf bellC rodsL 0 1=[d]:=by
    have hl:=congrArg List.length hd;rw[List.length_map] at hl;exact List.length_eq_one_iff.1 hl
   ·rw[hds] at ho hd;simp only[List.map_cons,List.map_nil,List.cons.injEq,and_true] at hd;obtain⟨b,o,a1,c1,a2,c2,a3,c3,a4,c4,rfl,h1,_,_,_,h2⟩:=ho 0 d rfl;obtain⟨a1',c1',a2',c2',a3',c3',a4',c4',he,i1,_⟩:=h2.at_;simp only[Value.agg.injEq,Array.mk.injEq,List.cons.injEq,Value.slice.injEq] at he;obtain⟨⟨rfl,_,_⟩,_⟩:=he;rw[hd] at h1 i1;refine⟨b,o,cap,a1,c1,?_,by simpa using h1,i1,hb⟩;rw[hds];rfl)
theorem s_best (hp:PartsAt w pa bellC.parts)(hq:PrbsAt w qa rodsL):Calls Tryz.prog 31 #[bArg pa pc,rArg qa qc] w fun e w'=>∃sa sc,e = .returned (.tuple #[.agg #[.int .i64 0,.int .i64 1],.agg #[.slice sa 1 sc,.int .i64 5],.bool true,.int .i64 0])∧Ints w' sa [1]∧Below w.heap.size w w':=
 (bestX_any bellC bell_small pa pc rodsL qa qc w hp hq).mono (by
  rintro e w' ⟨hb,(⟨h,rfl⟩|⟨z,_,h,hz,rfl⟩)⟩
  ·rcases h with h|h
   ·exact absurd (b_err rfl) h
   ·rw[b_best] at h;cases h
  ·rw[b_best] at h;obtain⟨p1,p2,s,n,sa,sc⟩:=z;simp only[ChoE.d,Option.some.injEq,Prod.mk.injEq] at h;obtain⟨⟨rfl,rfl⟩,rfl⟩:=h;obtain⟨h1,h2,_⟩:=hz;rw[b_cost] at h1;simp only at h1;subst h1;exact⟨sa,sc,rfl,h2,hb⟩)
theorem s_worth (hp:PartsAt w pa bellC.parts)(hq:PrbsAt w qa rodsL):Calls Tryz.prog 57 #[bArg pa pc,rArg qa qc,.int .i64 0,.int .i64 1,.int .i64 0] w fun e w'=>e = .returned (.tuple #[.int .i64 1,.int .i64 2,.int .i64 0])∧Below w.heap.size w w':=
 (worthX_any bellC bell_small pa pc rodsL qa qc 0 1 0 w hp hq).mono (by
  rintro e w' ⟨rfl,hb⟩;rw[b_worth.1,b_worth.2,b_err (ok:=worthOk bellC rodsL 0 1 0) rfl];exact⟨rfl,hb⟩)
theorem s_after {sa:Option Addr}{sc:Nat}{fa:Option Addr}{fc:Nat}(hp:PartsAt w pa bellC.parts)(hq:PrbsAt w qa rodsL)(hs:Ints w sa [1])(hf:Ints w fa [1]):Calls Tryz.prog 16 #[bArg pa pc,rArg qa qc,.slice sa 1 sc,.slice fa 1 fc] w fun e w'=>∃u1 u2 u3 b o m k,e = .returned (.tuple #[.agg #[.string u1,.int .i64 u2,.int .i64 u3,.slice (some ⟨b,o,none⟩) m k],.bool true,.int .i64 0])∧1<m∧w'.cell? ⟨b,o+8+1,none⟩=some (.int .i64 23)∧w'.cell? ⟨b,o+8+1+1,none⟩=some (.int .i64 30)∧w'.cell? ⟨b,o+8+1+2,none⟩=some (.int .i64 32)∧w'.cell? ⟨b,o+8+1+3,none⟩=some (.int .i64 4)∧Below w.heap.size w w':=
 (afterX_any bellC bell_small pa pc rodsL qa qc sa [1] sc fa [1] fc zS zS w hp hq hs hf).mono (by
  rintro e w' ⟨hb,cs,bb,rfl,h⟩;rw[b_err b_set1] at h ⊢;rw[if_pos rfl,show afterC bellC rodsL (nats [1]) (nats [1])=afterC bellC rodsL [1] [1] from rfl] at h;have ha:=b_after
  rcases h with ⟨h,_⟩|⟨d,ba,k,hd,rfl,rfl,hpp⟩
  ·rw[h] at ha;cases ha
  ·rw[hd] at ha;simp only[Option.map_some,Option.some.injEq,Option.map_eq_some_iff,Prod.mk.injEq] at ha;obtain⟨q,hq1,e1,e2,e3,e4⟩:=ha;have hl:=(List.getElem?_eq_some_iff.1 hq1).1;obtain⟨b,o,q',rfl,hq2,hP⟩:=hpp.at_.at_ hl;rw[hq1] at hq2;cases hq2;obtain⟨_,_,_,_,_,x1,x2,x3,x4,_⟩:=hP.open;rw[e1] at x1;rw[e2] at x2;rw[e3] at x3;rw[e4] at x4;simp only[Nat.one_mul] at x1 x2 x3 x4;exact⟨d.ware,d.limit,d.by_,b,o,d.parts.length,k,rfl,hl,x1,x2,x3,x4,hb⟩)
theorem s_settled {sa:Option Addr}{sc:Nat}{fa:Option Addr}{fc:Nat}(hp:PartsAt w pa bellC.parts)(hq:PrbsAt w qa rodsL)(hs:Ints w sa [1])(hf:Ints w fa [0]):Calls Tryz.prog 20 #[bArg pa pc,rArg qa qc,.slice sa 1 sc,.slice fa 1 fc] w fun e w'=>∃a k,e = .returned (.tuple #[.slice a 2 k,.int .i64 0])∧Row w' a (pairCells [(0,1),(1,2)])∧Below w.heap.size w w':=
 (settledX_any bellC bell_small pa pc rodsL qa qc sa [1] sc fa [0] fc w hp hq zS zS hs hf).mono (by
  rintro e w' ⟨hb,v,er,rfl,h⟩;rw[b_err b_set2] at h;have ha:=b_settled
  rcases h with ⟨h,_⟩|⟨_,h⟩
  ·exact absurd rfl h
  ·rw[show canC bellC rodsL (nats [1]) (nats [0])=canC bellC rodsL [1] [0] from rfl] at h
   rcases h with ⟨h,_⟩|⟨d,a,cap,hd,rfl,rfl,hpp,_⟩
   ·rw[h] at ha;cases ha
   ·rw[hd] at ha;simp only[Option.map_some,Option.some.injEq] at ha;rw[ha] at hpp ⊢;exact⟨a,cap,rfl,hpp,hb⟩)
theorem s_can {sa:Option Addr}{sc:Nat}{fa:Option Addr}{fc:Nat}(hp:PartsAt w pa bellC.parts)(hq:PrbsAt w qa rodsL)(hs:Ints w sa [0,1])(hf:Ints w fa [1,0]):Calls Tryz.prog 18 #[bArg pa pc,rArg qa qc,.slice sa 2 sc,.slice fa 2 fc] w fun e w'=>e = .returned (.tuple #[.bool false,.int .i64 0])∧Below w.heap.size w w':=
 (canX_any bellC bell_small pa pc rodsL qa qc sa [0,1] sc fa [1,0] fc zS zS w hp hq hs hf).mono (by
  rintro e w' ⟨hb,rfl⟩;rw[b_err b_set3,show(canC bellC rodsL (nats [0,1]) (nats [1,0])).isSome=false from b_can];exact⟨rfl,hb⟩)
theorem s_vers {sa:Option Addr}{sc:Nat}{va:Option Addr}{vc:Nat}(hp:PartsAt w pa bellC.parts)(hq:PrbsAt w qa rodsL)(hs:Ints w sa [1])(hv:VersAt w va bellVs)(hc:2≤vc):Calls Tryz.prog 39 #[bArg pa pc,rArg qa qc,.int .i64 0,.int .i64 1,.slice sa 1 sc,.slice va 2 vc] w fun e w'=>e = .returned (.tuple #[.bool true,.int .i64 0])∧Below w.heap.size w w':=
 (checkVersX_any bellC bell_small pa pc rodsL qa qc 0 1 sa [1] sc va bellVs vc (by
  intro v hv;simp only[bellVs,List.mem_cons,List.not_mem_nil,or_false] at hv
  rcases hv with rfl|rfl<;>exact⟨by decide,by decide,by decide,by intro z hz;rw[List.mem_singleton.1 hz];exact⟨by decide,by decide⟩⟩) (by simp[bellVs]) hc w hp hq zS hs hv).mono (by
  rintro e w' h;obtain⟨hb,rfl⟩:=h.bool;rw[b_err (ok:=twoB bellC.parts.length 0 1&&setB rodsL.length [1]) rfl,show checkVersB bellC rodsL (0:Int).toNat (1:Int).toNat (nats [1]) bellVs=true from b_vers];exact⟨rfl,hb⟩)
theorem s_doubt {a1 a2 a3 a4:Option Addr}{k1 k2 k3 k4:Nat}(hp:PartsAt w pa bellC.parts)(hq:PrbsAt w qa rodsL)(h1:Ints w a1 [0,2])(h2:Ints w a2 [0,0])(h3:Ints w a3 [0,0,1])(h4:Ints w a4 [0,1,1]):Calls Tryz.prog 43 #[bArg pa pc,rArg qa qc,.int .i64 0,.int .i64 1,.agg #[.slice a1 2 k1,.slice a2 2 k2,.slice a3 3 k3,.slice a4 3 k4]] w fun e w'=>e = .returned (.tuple #[.bool true,.int .i64 0])∧Below w.heap.size w w':=
 (checkDoubtX_any bellC bell_small pa pc rodsL qa qc 0 1 bellD ⟨by decide,by decide,by decide,by decide⟩ a1 a2 a3 a4 k1 k2 k3 k4 w hp hq ⟨a1,k1,a2,k2,a3,k3,a4,k4,rfl,h1,h2,h3,h4⟩).mono (by
  rintro e w' h;obtain⟨hb,rfl⟩:=h.bool;rw[b_err (ok:=twoB bellC.parts.length 0 1) rfl,show doubtedB bellC rodsL (0:Int).toNat (1:Int).toNat bellD=true from b_doubt];exact⟨rfl,hb⟩)
theorem s_plan {ra sa:Option Addr}{rc sc:Nat}(h1:Ints w ra [1])(h2:Ints w sa [1]):Calls Tryz.prog 27 #[.agg #[.slice ra 1 rc,.int .i64 5],.agg #[.slice sa 1 sc,.int .i64 5]] w fun e w'=>e = .returned (.bool true)∧Below w.heap.size w w':=
 (samePlanR9_any ra sa rc sc [1] [1] 5 5 w h1 h2 zS zS).mono (by rintro e w' ⟨rfl,h⟩;exact⟨rfl,h⟩)
theorem eq_pair9 (w:World):(binOp .eql 57 (.agg #[.int .i64 0,.int .i64 1]) (.agg #[.int .i64 0,.int .i64 1])).run Tryz.prog w = .ok (.bool true) w:=zK
theorem eq_span9 (w:World):(binOp .eql 78 (.agg #[.int .i64 23,.int .i64 30,.int .i64 32,.int .i64 4]) (.agg #[.int .i64 23,.int .i64 30,.int .i64 32,.int .i64 4])).run Tryz.prog w = .ok (.bool true) w:=zK
end
end Go.Proofs.YtjgldeeianionaaGreat
namespace Go.Proofs.YtjgldeeianionaaGreat
open Go.RowKit
attribute [local go_sem] Oper.semAt_some
theorem sounds_walk (c:Cs)(l:List Prb)
 (HBE:Hid (∀w:World,Calls Tryz.prog 55 #[] w fun e w'=>∃pa pc,e = .returned (.agg #[.string c.ware,.int .i64 c.limit,.int .i64 c.by_,.slice pa c.parts.length pc])∧PartsAt w' pa c.parts∧Below w.heap.size w w'))
 (HRO:Hid (∀w:World,Calls Tryz.prog 56 #[] w fun e w'=>∃qa qc,e = .returned (.slice qa l.length qc)∧PrbsAt w' qa l∧Below w.heap.size w w'))
 (HCH:Hid (∀(w:World) (pa:Option Addr) (pc:Nat) (qa:Option Addr) (qc:Nat),PartsAt w pa c.parts→PrbsAt w qa l→Calls Tryz.prog 24 #[.agg #[.string c.ware,.int .i64 c.limit,.int .i64 c.by_,.slice pa c.parts.length pc],.slice qa l.length qc,.int .i64 0,.int .i64 1] w fun e w'=>∃ra rc,e = .returned (.tuple #[.agg #[.slice ra 1 rc,.int .i64 5],.bool true,.int .i64 0])∧Ints w' ra [1]∧Below w.heap.size w w'))
 (HPR:Hid (∀(w:World) (pa:Option Addr) (pc:Nat) (qa:Option Addr) (qc:Nat),PartsAt w pa c.parts→PrbsAt w qa l→Calls Tryz.prog 26 #[.agg #[.string c.ware,.int .i64 c.limit,.int .i64 c.by_,.slice pa c.parts.length pc],.slice qa l.length qc,.int .i64 0,.int .i64 1] w fun e w'=>∃b o k a1 k1,e = .returned (.tuple #[.slice (some ⟨b,o,none⟩) 1 k,.int .i64 0])∧w'.cell? ⟨b,o,none⟩=some (.slice a1 2 k1)∧Ints w' a1 [0,2]∧Below w.heap.size w w'))
 (HBS:Hid (∀(w:World) (pa:Option Addr) (pc:Nat) (qa:Option Addr) (qc:Nat),PartsAt w pa c.parts→PrbsAt w qa l→Calls Tryz.prog 31 #[.agg #[.string c.ware,.int .i64 c.limit,.int .i64 c.by_,.slice pa c.parts.length pc],.slice qa l.length qc] w fun e w'=>∃sa sc,e = .returned (.tuple #[.agg #[.int .i64 0,.int .i64 1],.agg #[.slice sa 1 sc,.int .i64 5],.bool true,.int .i64 0])∧Ints w' sa [1]∧Below w.heap.size w w'))
 (HWO:Hid (∀(w:World) (pa:Option Addr) (pc:Nat) (qa:Option Addr) (qc:Nat),PartsAt w pa c.parts→PrbsAt w qa l→Calls Tryz.prog 57 #[.agg #[.string c.ware,.int .i64 c.limit,.int .i64 c.by_,.slice pa c.parts.length pc],.slice qa l.length qc,.int .i64 0,.int .i64 1,.int .i64 0] w fun e w'=>e = .returned (.tuple #[.int .i64 1,.int .i64 2,.int .i64 0])∧Below w.heap.size w w'))
 (HAF:Hid (∀(w:World) (pa:Option Addr) (pc:Nat) (qa:Option Addr) (qc:Nat),PartsAt w pa c.parts→PrbsAt w qa l→∀(sa:Option Addr) (sc:Nat) (fa:Option Addr) (fc:Nat),Ints w sa [1]→Ints w fa [1]→Calls Tryz.prog 16 #[.agg #[.string c.ware,.int .i64 c.limit,.int .i64 c.by_,.slice pa c.parts.length pc],.slice qa l.length qc,.slice sa 1 sc,.slice fa 1 fc] w fun e w'=>∃u1 u2 u3 b o m k,e = .returned (.tuple #[.agg #[.string u1,.int .i64 u2,.int .i64 u3,.slice (some ⟨b,o,none⟩) m k],.bool true,.int .i64 0])∧1<m∧w'.cell? ⟨b,o+8+1,none⟩=some (.int .i64 23)∧w'.cell? ⟨b,o+8+1+1,none⟩=some (.int .i64 30)∧w'.cell? ⟨b,o+8+1+2,none⟩=some (.int .i64 32)∧w'.cell? ⟨b,o+8+1+3,none⟩=some (.int .i64 4)∧Below w.heap.size w w'))
 (HSE:Hid (∀(w:World) (pa:Option Addr) (pc:Nat) (qa:Option Addr) (qc:Nat),PartsAt w pa c.parts→PrbsAt w qa l→∀(sa:Option Addr) (sc:Nat) (fa:Option Addr) (fc:Nat),Ints w sa [1]→Ints w fa [0]→Calls Tryz.prog 20 #[.agg #[.string c.ware,.int .i64 c.limit,.int .i64 c.by_,.slice pa c.parts.length pc],.slice qa l.length qc,.slice sa 1 sc,.slice fa 1 fc] w fun e w'=>∃a k,e = .returned (.tuple #[.slice a 2 k,.int .i64 0])∧Row w' a (pairCells [(0,1),(1,2)])∧Below w.heap.size w w'))
 (HCA:Hid (∀(w:World) (pa:Option Addr) (pc:Nat) (qa:Option Addr) (qc:Nat),PartsAt w pa c.parts→PrbsAt w qa l→∀(sa:Option Addr) (sc:Nat) (fa:Option Addr) (fc:Nat),Ints w sa [0,1]→Ints w fa [1,0]→Calls Tryz.prog 18 #[.agg #[.string c.ware,.int .i64 c.limit,.int .i64 c.by_,.slice pa c.parts.length pc],.slice qa l.length qc,.slice sa 2 sc,.slice fa 2 fc] w fun e w'=>e = .returned (.tuple #[.bool false,.int .i64 0])∧Below w.heap.size w w'))
 (HCV:Hid (∀(w:World) (pa:Option Addr) (pc:Nat) (qa:Option Addr) (qc:Nat),PartsAt w pa c.parts→PrbsAt w qa l→∀(sa:Option Addr) (sc:Nat) (va:Option Addr) (vc:Nat),Ints w sa [1]→VersAt w va bellVs→2≤vc→Calls Tryz.prog 39 #[.agg #[.string c.ware,.int .i64 c.limit,.int .i64 c.by_,.slice pa c.parts.length pc],.slice qa l.length qc,.int .i64 0,.int .i64 1,.slice sa 1 sc,.slice va 2 vc] w fun e w'=>e = .returned (.tuple #[.bool true,.int .i64 0])∧Below w.heap.size w w'))
 (HCD:Hid (∀(w:World) (pa:Option Addr) (pc:Nat) (qa:Option Addr) (qc:Nat),PartsAt w pa c.parts→PrbsAt w qa l→∀(a1:Option Addr) (k1:Nat) (a2:Option Addr) (k2:Nat) (a3:Option Addr) (k3:Nat) (a4:Option Addr) (k4:Nat),Ints w a1 [0,2]→Ints w a2 [0,0]→Ints w a3 [0,0,1]→Ints w a4 [0,1,1]→Calls Tryz.prog 43 #[.agg #[.string c.ware,.int .i64 c.limit,.int .i64 c.by_,.slice pa c.parts.length pc],.slice qa l.length qc,.int .i64 0,.int .i64 1,.agg #[.slice a1 2 k1,.slice a2 2 k2,.slice a3 3 k3,.slice a4 3 k4]] w fun e w'=>e = .returned (.tuple #[.bool true,.int .i64 0])∧Below w.heap.size w w'))
 (HSP:Hid (∀(w:World) (ra:Option Addr) (rc:Nat) (sa:Option Addr) (sc:Nat),Ints w ra [1]→Ints w sa [1]→Calls Tryz.prog 27 #[.agg #[.slice ra 1 rc,.int .i64 5],.agg #[.slice sa 1 sc,.int .i64 5]] w fun e w'=>e = .returned (.bool true)∧Below w.heap.size w w')) (w:World):
 Calls Tryz.prog 15 #[] w fun e w'=>e = .returned (.bool true)∧Below w.heap.size w w':=by
 have heq1:=eq_pair9;have heq2:=eq_span9
 go_enter Tryz.func15,Tryz.ntmps15
 go_wp2_with fail
 (with_reducible refine(HBE.out _).mono ?_)
 rintro e w1 ⟨pa,pc,rfl,hp,hb⟩;have P:=zh hp;clear hp;have B:=zh hb;clear hb
 go_upto_region 2 with fail
 have hb:Below w1.heap.size w1 (w1.alloc (.cells #[.string c.ware,.int .i64 c.limit,.int .i64 c.by_,.slice pa c.parts.length pc] 24)):=by go_grown
 have x1:Box (w1.alloc (.cells #[.string c.ware,.int .i64 c.limit,.int .i64 c.by_,.slice pa c.parts.length pc] 24)) (w1.heap.size) #[.string c.ware,.int .i64 c.limit,.int .i64 c.by_,.slice pa c.parts.length pc] 24:=Box.new _ _ _;generalize (w1.alloc (.cells #[.string c.ware,.int .i64 c.limit,.int .i64 c.by_,.slice pa c.parts.length pc] 24))=w2 at *;have P:=zh (P.out.below hb);have B:=zh (B.out.trans (hb.mono B.out.size));clear hb;have X1:=zh x1;clear x1
 go_wp2_with fail
 (with_reducible refine(HRO.out _).mono ?_)
 rintro e w3 ⟨qa,qc,rfl,hq,hb⟩;have Q:=zh hq;clear hq;have P:=zh (P.out.below hb);have X1:=zh (X1.out.below' hb);have B:=zh (B.out.trans (hb.mono B.out.size));clear hb
 go_upto_region 3 with fail
 have e1:=zC (X1.out)
 go_wp2_with fail
 (with_reducible refine(HCH.out _ _ _ _ _ P.out Q.out).mono ?_)
 rintro e w4 ⟨ra,rc,rfl,hr,hb⟩;clear e1;have R3:=zh hr;clear hr;have P:=zh (P.out.below hb);have X1:=zh (X1.out.below' hb);have Q:=zh (Q.out.below hb);have B:=zh (B.out.trans (hb.mono B.out.size));clear hb
 go_upto_region 4 with fail
 have hb:Below w4.heap.size w4 (w4.alloc (.cells #[.slice ra 1 rc,.int .i64 5] 42)):=by go_grown
 have x3:Box (w4.alloc (.cells #[.slice ra 1 rc,.int .i64 5] 42)) (w4.heap.size) #[.slice ra 1 rc,.int .i64 5] 42:=Box.new _ _ _;generalize (w4.alloc (.cells #[.slice ra 1 rc,.int .i64 5] 42))=w5 at *;have P:=zh (P.out.below hb);have X1:=zh (X1.out.below' hb);have Q:=zh (Q.out.below hb);have R3:=zh (R3.out.below hb);have B:=zh (B.out.trans (hb.mono B.out.size));clear hb;have X3:=zh x3;clear x3;have e1:=zC (X1.out)
 go_wp2_with fail
 (with_reducible refine(HPR.out _ _ _ _ _ P.out Q.out).mono ?_)
 rintro e w6 ⟨b6,o6,k6,a6,c6,rfl,hc,hr,hb⟩;clear e1;have C6:=zh hc;have R6:=zh hr;clear hc hr;have P:=zh (P.out.below hb);have X1:=zh (X1.out.below' hb);have Q:=zh (Q.out.below hb);have R3:=zh (R3.out.below hb);have X3:=zh (X3.out.below' hb);have B:=zh (B.out.trans (hb.mono B.out.size));clear hb
 go_upto_region 5 with fail
 have e1:=zC (X1.out)
 go_wp2_with fail
 (with_reducible refine(HBS.out _ _ _ _ _ P.out Q.out).mono ?_)
 rintro e w7 ⟨sa,sc,rfl,hr,hb⟩;clear e1;have R9:=zh hr;clear hr;have P:=zh (P.out.below hb);have X1:=zh (X1.out.below' hb);have Q:=zh (Q.out.below hb);have R3:=zh (R3.out.below hb);have X3:=zh (X3.out.below' hb);have C6:=zh (below_cell hb C6.out);have R6:=zh (R6.out.below hb);have B:=zh (B.out.trans (hb.mono B.out.size));clear hb
 go_upto_region 6 with fail
 have hb:Below w7.heap.size w7 ((w7.alloc (.cells #[.int .i64 0,.int .i64 1] 57)).alloc (.cells #[.slice sa 1 sc,.int .i64 5] 42)):=by go_grown
 have x8:Box ((w7.alloc (.cells #[.int .i64 0,.int .i64 1] 57)).alloc (.cells #[.slice sa 1 sc,.int .i64 5] 42)) (w7.heap.size) #[.int .i64 0,.int .i64 1] 57:=(Box.new _ _ _).alloc _;have x9:Box ((w7.alloc (.cells #[.int .i64 0,.int .i64 1] 57)).alloc (.cells #[.slice sa 1 sc,.int .i64 5] 42)) (w7.heap.size+1) #[.slice sa 1 sc,.int .i64 5] 42:=Box.new' zS;generalize ((w7.alloc (.cells #[.int .i64 0,.int .i64 1] 57)).alloc (.cells #[.slice sa 1 sc,.int .i64 5] 42))=w8 at *;have P:=zh (P.out.below hb);have X1:=zh (X1.out.below' hb);have Q:=zh (Q.out.below hb);have R3:=zh (R3.out.below hb);have X3:=zh (X3.out.below' hb);have C6:=zh (below_cell hb C6.out);have R6:=zh (R6.out.below hb);have R9:=zh (R9.out.below hb);have B:=zh (B.out.trans (hb.mono B.out.size));clear hb;have X8:=zh x8;clear x8;have X9:=zh x9;clear x9;have e1:=zC (X1.out)
 go_wp2_with fail
 (with_reducible refine(HWO.out _ _ _ _ _ P.out Q.out).mono ?_)
 rintro e w9 ⟨rfl,hb⟩;clear e1;have P:=zh (P.out.below hb);have X1:=zh (X1.out.below' hb);have Q:=zh (Q.out.below hb);have R3:=zh (R3.out.below hb);have X3:=zh (X3.out.below' hb);have C6:=zh (below_cell hb C6.out);have R6:=zh (R6.out.below hb);have R9:=zh (R9.out.below hb);have X8:=zh (X8.out.below' hb);have X9:=zh (X9.out.below' hb);have B:=zh (B.out.trans (hb.mono B.out.size));clear hb
 go_upto_region 7 with fail
 have e1:=zC (X1.out);have hbq:Below w9.heap.size w9 ((w9.alloc (.cells #[.int .i64 1] 3)).alloc (.cells #[.int .i64 1] 3)):=by go_grown
 go_wp2_with fail
 (with_reducible refine(HAF.out _ _ _ _ _ (P.out.below hbq) (Q.out.below hbq) _ _ _ _ (lit_ints9 (l:=[1]) ((Box.new _ _ _).alloc _)) (lit_ints9 (l:=[1]) (Box.new' zS))).mono ?_)
 rintro e w10 ⟨u1,u2,u3,bd,od,m,kd,rfl,hm,d0,d1,d2,d3,hb⟩;have hb:=hbq.trans (hb.mono hbq.size);clear e1 hbq;have D0:=zh d0;have D1:=zh d1;have D2:=zh d2;have D3:=zh d3;clear d0 d1 d2 d3;have P:=zh (P.out.below hb);have X1:=zh (X1.out.below' hb);have Q:=zh (Q.out.below hb);have R3:=zh (R3.out.below hb);have X3:=zh (X3.out.below' hb);have C6:=zh (below_cell hb C6.out);have R6:=zh (R6.out.below hb);have R9:=zh (R9.out.below hb);have X8:=zh (X8.out.below' hb);have X9:=zh (X9.out.below' hb);have B:=zh (B.out.trans (hb.mono B.out.size));clear hb
 go_upto_region 8 with fail
 have hb:Below w10.heap.size w10 (w10.alloc (.cells #[.string u1,.int .i64 u2,.int .i64 u3,.slice (some ⟨bd,od,none⟩) m kd] 24)):=by go_grown
 have x15:Box (w10.alloc (.cells #[.string u1,.int .i64 u2,.int .i64 u3,.slice (some ⟨bd,od,none⟩) m kd] 24)) (w10.heap.size) #[.string u1,.int .i64 u2,.int .i64 u3,.slice (some ⟨bd,od,none⟩) m kd] 24:=Box.new _ _ _;generalize (w10.alloc (.cells #[.string u1,.int .i64 u2,.int .i64 u3,.slice (some ⟨bd,od,none⟩) m kd] 24))=w11 at *;have P:=zh (P.out.below hb);have X1:=zh (X1.out.below' hb);have Q:=zh (Q.out.below hb);have R3:=zh (R3.out.below hb);have X3:=zh (X3.out.below' hb);have C6:=zh (below_cell hb C6.out);have R6:=zh (R6.out.below hb);have R9:=zh (R9.out.below hb);have X8:=zh (X8.out.below' hb);have X9:=zh (X9.out.below' hb);have D0:=zh (below_cell hb D0.out);have D1:=zh (below_cell hb D1.out);have D2:=zh (below_cell hb D2.out);have D3:=zh (below_cell hb D3.out);have B:=zh (B.out.trans (hb.mono B.out.size));clear hb
 have X15:=zh x15;clear x15;have e1:=zC (X1.out);have hbq:Below w11.heap.size w11 ((w11.alloc (.cells #[.int .i64 1] 3)).alloc (.cells #[.int .i64 0] 3)):=by go_grown
 go_wp2_with fail
 (with_reducible refine(HSE.out _ _ _ _ _ (P.out.below hbq) (Q.out.below hbq) _ _ _ _ (lit_ints9 (l:=[1]) ((Box.new _ _ _).alloc _)) (lit_ints9 (l:=[0]) (Box.new' zS))).mono ?_)
 rintro e w12 ⟨a12,k12,rfl,hr,hb⟩;have hb:=hbq.trans (hb.mono hbq.size);clear e1 hbq;have R12:=zh hr;clear hr;have P:=zh (P.out.below hb);have X1:=zh (X1.out.below' hb);have Q:=zh (Q.out.below hb);have R3:=zh (R3.out.below hb);have X3:=zh (X3.out.below' hb);have C6:=zh (below_cell hb C6.out);have R6:=zh (R6.out.below hb);have R9:=zh (R9.out.below hb);have X8:=zh (X8.out.below' hb);have X9:=zh (X9.out.below' hb);have D0:=zh (below_cell hb D0.out);have D1:=zh (below_cell hb D1.out);have D2:=zh (below_cell hb D2.out);have D3:=zh (below_cell hb D3.out);have X15:=zh (X15.out.below' hb);have B:=zh (B.out.trans (hb.mono B.out.size));clear hb
 go_upto_region 9 with fail
 have e1:=zC (X1.out);have hbq:Below w12.heap.size w12 ((w12.alloc (.cells #[.int .i64 0,.int .i64 1] 3)).alloc (.cells #[.int .i64 1,.int .i64 0] 3)):=by go_grown
 go_wp2_with fail
 (with_reducible refine(HCA.out _ _ _ _ _ (P.out.below hbq) (Q.out.below hbq) _ _ _ _ (lit_ints9 (l:=[0,1]) ((Box.new _ _ _).alloc _)) (lit_ints9 (l:=[1,0]) (Box.new' zS))).mono ?_)
 rintro e w13 ⟨rfl,hb⟩;have hb:=hbq.trans (hb.mono hbq.size);clear e1 hbq;have P:=zh (P.out.below hb);have X1:=zh (X1.out.below' hb);have Q:=zh (Q.out.below hb);have R3:=zh (R3.out.below hb);have X3:=zh (X3.out.below' hb);have C6:=zh (below_cell hb C6.out);have R6:=zh (R6.out.below hb);have R9:=zh (R9.out.below hb);have X8:=zh (X8.out.below' hb);have X9:=zh (X9.out.below' hb);have D0:=zh (below_cell hb D0.out);have D1:=zh (below_cell hb D1.out);have D2:=zh (below_cell hb D2.out);have D3:=zh (below_cell hb D3.out);have X15:=zh (X15.out.below' hb);have R12:=zh (R12.out.below hb);have B:=zh (B.out.trans (hb.mono B.out.size));clear hb
 go_upto_region 10 with fail
 go_upto_region 11 with fail
 have hb:Below w13.heap.size w13 ((((((w13.alloc (.cells #[.int .i64 0] 3)).alloc (.cells #[.int .i64 0,.int .i64 1,.int .i64 2] 3)).alloc (.cells #[.int .u8 4,.int .i64 0,.int .i64 0,.slice (some ⟨w13.heap.size+1,0,none⟩) 3 3] 99)).alloc (.cells #[.int .i64 1] 3)).alloc (.cells #[.int .u8 2,.int .i64 0,.int .i64 1,.slice none 0 0] 99)).alloc (.cells #[.slice (some ⟨w13.heap.size,0,none⟩) 1 1,.int .u8 1,.slice (some ⟨w13.heap.size+1+1,0,none⟩) 1 1,.slice (some ⟨w13.heap.size+1+1+1,0,none⟩) 1 1,.int .u8 2,.slice (some ⟨w13.heap.size+1+1+1+1,0,none⟩) 1 1] 102)):=by go_grown
 have hv:VersAt ((((((w13.alloc (.cells #[.int .i64 0] 3)).alloc (.cells #[.int .i64 0,.int .i64 1,.int .i64 2] 3)).alloc (.cells #[.int .u8 4,.int .i64 0,.int .i64 0,.slice (some ⟨w13.heap.size+1,0,none⟩) 3 3] 99)).alloc (.cells #[.int .i64 1] 3)).alloc (.cells #[.int .u8 2,.int .i64 0,.int .i64 1,.slice none 0 0] 99)).alloc (.cells #[.slice (some ⟨w13.heap.size,0,none⟩) 1 1,.int .u8 1,.slice (some ⟨w13.heap.size+1+1,0,none⟩) 1 1,.slice (some ⟨w13.heap.size+1+1+1,0,none⟩) 1 1,.int .u8 2,.slice (some ⟨w13.heap.size+1+1+1+1,0,none⟩) 1 1] 102)) (some ⟨w13.heap.size+1+1+1+1+1,0,none⟩) bellVs:=vers_lit ((((((Box.new _ _ _).alloc _).alloc _).alloc _).alloc _).alloc _) (((((Box.new' zS).alloc _).alloc _).alloc _).alloc _) ((((Box.new' zS).alloc _).alloc _).alloc _) (((Box.new' zS).alloc _).alloc _) ((Box.new' zS).alloc _) (Box.new' zS)
 generalize ((((((w13.alloc (.cells #[.int .i64 0] 3)).alloc (.cells #[.int .i64 0,.int .i64 1,.int .i64 2] 3)).alloc (.cells #[.int .u8 4,.int .i64 0,.int .i64 0,.slice (some ⟨w13.heap.size+1,0,none⟩) 3 3] 99)).alloc (.cells #[.int .i64 1] 3)).alloc (.cells #[.int .u8 2,.int .i64 0,.int .i64 1,.slice none 0 0] 99)).alloc (.cells #[.slice (some ⟨w13.heap.size,0,none⟩) 1 1,.int .u8 1,.slice (some ⟨w13.heap.size+1+1,0,none⟩) 1 1,.slice (some ⟨w13.heap.size+1+1+1,0,none⟩) 1 1,.int .u8 2,.slice (some ⟨w13.heap.size+1+1+1+1,0,none⟩) 1 1] 102))=w14 at *;generalize w13.heap.size+1+1+1+1+1=gv at *;have P:=zh (P.out.below hb);have X1:=zh (X1.out.below' hb);have Q:=zh (Q.out.below hb);have R3:=zh (R3.out.below hb);have X3:=zh (X3.out.below' hb);have C6:=zh (below_cell hb C6.out);have R6:=zh (R6.out.below hb)
 have R9:=zh (R9.out.below hb);have X8:=zh (X8.out.below' hb);have X9:=zh (X9.out.below' hb);have D0:=zh (below_cell hb D0.out);have D1:=zh (below_cell hb D1.out);have D2:=zh (below_cell hb D2.out);have D3:=zh (below_cell hb D3.out);have X15:=zh (X15.out.below' hb);have R12:=zh (R12.out.below hb);have B:=zh (B.out.trans (hb.mono B.out.size));clear hb;have V:=zh hv;clear hv;have e1:=zC (X1.out);have hbq:Below w14.heap.size w14 (w14.alloc (.cells #[.int .i64 1] 3)):=by go_grown
 go_wp2_with fail
 (with_reducible refine(HCV.out _ _ _ _ _ (P.out.below hbq) (Q.out.below hbq) _ _ _ _ (lit_ints9 (l:=[1]) (Box.new _ _ _)) (V.out.below hbq) (Nat.le_refl _)).mono ?_)
 rintro e w15 ⟨rfl,hb⟩;have hb:=hbq.trans (hb.mono hbq.size);clear e1 hbq;have P:=zh (P.out.below hb);have X1:=zh (X1.out.below' hb);have Q:=zh (Q.out.below hb);have R3:=zh (R3.out.below hb);have X3:=zh (X3.out.below' hb);have C6:=zh (below_cell hb C6.out);have R6:=zh (R6.out.below hb);have R9:=zh (R9.out.below hb);have X8:=zh (X8.out.below' hb);have X9:=zh (X9.out.below' hb);have D0:=zh (below_cell hb D0.out);have D1:=zh (below_cell hb D1.out);have D2:=zh (below_cell hb D2.out);have D3:=zh (below_cell hb D3.out);have X15:=zh (X15.out.below' hb);have R12:=zh (R12.out.below hb);have V:=zh (V.out.below hb);have B:=zh (B.out.trans (hb.mono B.out.size));clear hb
 go_upto_region 12 with fail
 have e1:=zC (X1.out);have hbq:Below w15.heap.size w15 ((((w15.alloc (.cells #[.int .i64 0,.int .i64 2] 3)).alloc (.cells #[.int .i64 0,.int .i64 0] 3)).alloc (.cells #[.int .i64 0,.int .i64 0,.int .i64 1] 3)).alloc (.cells #[.int .i64 0,.int .i64 1,.int .i64 1] 3)):=by go_grown
 go_wp2_with fail
 (with_reducible refine(HCD.out _ _ _ _ _ (P.out.below hbq) (Q.out.below hbq) _ _ _ _ _ _ _ _ (lit_ints9 (l:=[0,2]) ((((Box.new _ _ _).alloc _).alloc _).alloc _)) (lit_ints9 (l:=[0,0]) (((Box.new' zS).alloc _).alloc _)) (lit_ints9 (l:=[0,0,1]) ((Box.new' zS).alloc _)) (lit_ints9 (l:=[0,1,1]) (Box.new' zS))).mono ?_)
 rintro e w16 ⟨rfl,hb⟩;have hb:=hbq.trans (hb.mono hbq.size);clear e1 hbq;have P:=zh (P.out.below hb);have X1:=zh (X1.out.below' hb);have Q:=zh (Q.out.below hb);have R3:=zh (R3.out.below hb);have X3:=zh (X3.out.below' hb);have C6:=zh (below_cell hb C6.out);have R6:=zh (R6.out.below hb);have R9:=zh (R9.out.below hb);have X8:=zh (X8.out.below' hb);have X9:=zh (X9.out.below' hb);have D0:=zh (below_cell hb D0.out);have D1:=zh (below_cell hb D1.out);have D2:=zh (below_cell hb D2.out);have D3:=zh (below_cell hb D3.out);have X15:=zh (X15.out.below' hb);have R12:=zh (R12.out.below hb);have B:=zh (B.out.trans (hb.mono B.out.size));clear hb
 go_upto_region 15 with fail
 clear HBE HRO HCH HPR HBS HWO HAF HSE HCA HCV HCD;have e3:∀i,w16.cell? ⟨w4.heap.size,i,none⟩=(#[.slice ra 1 rc,.int .i64 5]:Array Value)[i]?:=X3.out.cell;have hbq:Below w16.heap.size w16 (w16.alloc (.cells #[.int .i64 1] 3)):=by go_grown
 go_wp2_with fail
 (with_reducible refine(HSP.out _ _ _ _ _ (R3.out.below hbq) (lit_ints9 (l:=[1]) (Box.new _ _ _))).mono ?_)
 rintro e w17 ⟨rfl,hb⟩;have hb:=hbq.trans (hb.mono hbq.size);clear e3 hbq;have R3:=zh (R3.out.below hb);have X3:=zh (X3.out.below' hb);have C6:=zh (below_cell hb C6.out);have R6:=zh (R6.out.below hb);have R9:=zh (R9.out.below hb);have X8:=zh (X8.out.below' hb);have X9:=zh (X9.out.below' hb);have D0:=zh (below_cell hb D0.out);have D1:=zh (below_cell hb D1.out);have D2:=zh (below_cell hb D2.out);have D3:=zh (below_cell hb D3.out);have X15:=zh (X15.out.below' hb);have R12:=zh (R12.out.below hb);have B:=zh (B.out.trans (hb.mono B.out.size));clear hb;have c6':=C6.out;have hbq:Below w17.heap.size w17 (w17.alloc (.cells #[.int .i64 0,.int .i64 2] 3)):=by go_grown
 go_wp2_with fail
 (with_reducible refine(same_two9 (R6.out.below hbq) (lit_ints9 (l:=[0,2]) (Box.new _ _ _))).mono ?_)
 rintro e w18 ⟨rfl,hb⟩;have hb:=hbq.trans (hb.mono hbq.size);clear c6' hbq;have R3:=zh (R3.out.below hb);have X3:=zh (X3.out.below' hb);have C6:=zh (below_cell hb C6.out);have R6:=zh (R6.out.below hb);have R9:=zh (R9.out.below hb);have X8:=zh (X8.out.below' hb);have X9:=zh (X9.out.below' hb);have D0:=zh (below_cell hb D0.out);have D1:=zh (below_cell hb D1.out);have D2:=zh (below_cell hb D2.out);have D3:=zh (below_cell hb D3.out);have X15:=zh (X15.out.below' hb);have R12:=zh (R12.out.below hb);have B:=zh (B.out.trans (hb.mono B.out.size));clear hb;have e3:∀i,w18.cell? ⟨w4.heap.size,i,none⟩=(#[.slice ra 1 rc,.int .i64 5]:Array Value)[i]?:=X3.out.cell;have e8:∀i,w18.cell? ⟨w7.heap.size,i,none⟩=(#[.int .i64 0,.int .i64 1]:Array Value)[i]?:=X8.out.cell
 have e9:∀i,w18.cell? ⟨w7.heap.size+1,i,none⟩=(#[.slice sa 1 sc,.int .i64 5]:Array Value)[i]?:=X9.out.cell
 go_wp2_with fail
 (with_reducible refine(HSP.out _ _ _ _ _ R9.out R3.out).mono ?_)
 rintro e w19 ⟨rfl,hb⟩;clear e3 e8 e9;have R3:=zh (R3.out.below hb);have X3:=zh (X3.out.below' hb);have C6:=zh (below_cell hb C6.out);have R6:=zh (R6.out.below hb);have R9:=zh (R9.out.below hb);have X8:=zh (X8.out.below' hb);have X9:=zh (X9.out.below' hb);have D0:=zh (below_cell hb D0.out);have D1:=zh (below_cell hb D1.out);have D2:=zh (below_cell hb D2.out);have D3:=zh (below_cell hb D3.out);have X15:=zh (X15.out.below' hb);have R12:=zh (R12.out.below hb);have B:=zh (B.out.trans (hb.mono B.out.size));clear hb;have e15:∀i,w19.cell? ⟨w10.heap.size,i,none⟩=(#[.string u1,.int .i64 u2,.int .i64 u3,.slice (some ⟨bd,od,none⟩) m kd]:Array Value)[i]?:=X15.out.cell;have d0':=D0.out;have d1':=D1.out;have d2':=D2.out;have d3':=D3.out;have hm1:(1:Int)<(m:Int):=by omega
 have hbq:Below w19.heap.size w19 (w19.alloc (.cells #[.int .i64 0,.int .i64 1,.int .i64 1,.int .i64 2] 57)):=by go_grown
 go_wp2_with fail
 (with_reducible refine(pairs_two9 (R12.out.below hbq) (lit_row9 (Box.new _ _ _))).mono ?_)
 rintro e w20 ⟨rfl,hb⟩;have hb:=hbq.trans (hb.mono hbq.size);have R3:=zh (R3.out.below hb);have X3:=zh (X3.out.below' hb);have C6:=zh (below_cell hb C6.out);have R6:=zh (R6.out.below hb);have R9:=zh (R9.out.below hb);have X8:=zh (X8.out.below' hb);have X9:=zh (X9.out.below' hb);have D0:=zh (below_cell hb D0.out);have D1:=zh (below_cell hb D1.out);have D2:=zh (below_cell hb D2.out);have D3:=zh (below_cell hb D3.out);have X15:=zh (X15.out.below' hb);have R12:=zh (R12.out.below hb);have B:=zh (B.out.trans (hb.mono B.out.size));clear hb
 go_wp2_with fail
 go_ret
 exact⟨rfl,B.out⟩
theorem sounds_any (w:World):Calls Tryz.prog 15 #[] w fun e w'=>e = .returned (.bool true)∧Below w.heap.size w w':=
 sounds_walk bellC rodsL (zh fun w=>bell_any w) (zh fun w=>rods_any w) (zh fun _ _ _ _ _ hp hq=>s_cheap hp hq) (zh fun _ _ _ _ _ hp hq=>s_proof hp hq) (zh fun _ _ _ _ _ hp hq=>s_best hp hq) (zh fun _ _ _ _ _ hp hq=>s_worth hp hq)
  (zh fun _ _ _ _ _ hp hq _ _ _ _ hs hf=>s_after hp hq hs hf) (zh fun _ _ _ _ _ hp hq _ _ _ _ hs hf=>s_settled hp hq hs hf) (zh fun _ _ _ _ _ hp hq _ _ _ _ hs hf=>s_can hp hq hs hf) (zh fun _ _ _ _ _ hp hq _ _ _ _ hs hv hc=>s_vers hp hq hs hv hc)
  (zh fun _ _ _ _ _ hp hq _ _ _ _ _ _ _ _ h1 h2 h3 h4=>s_doubt hp hq h1 h2 h3 h4) (zh fun _ _ _ _ _ h1 h2=>s_plan h1 h2) w
end Go.Proofs.YtjgldeeianionaaGreat
namespace Go.Proofs.YtjgldeeianionaaGreat
open Go.RowKit
section
variable {c:Cs}{l:List Prb}{w:World}{pa:Option Addr}{pc:Nat}{qa:Option Addr}{qc:Nat}
theorem can_tup (hsm:c.Small)(sa:Option Addr)(S:List Int)(sc:Nat)(fa:Option Addr)(F:List Int)(fc:Nat)(hSl:S.length≤1000)(hFl:F.length≤1000)(hp:PartsAt w pa c.parts)(hq:PrbsAt w qa l)(hS:Ints w sa S)(hF:Ints w fa F):
 Calls Tryz.prog 18 #[.agg #[.string c.ware,.int .i64 c.limit,.int .i64 c.by_,.slice pa c.parts.length pc],.slice qa l.length qc,.slice sa S.length sc,.slice fa F.length fc] w fun e w'=>
  e = .returned (.tuple #[.bool (xErr c l (foundB c l S F)==0&&(canC c l (nats S) (nats F)).isSome),.int .i64 (xErr c l (foundB c l S F))])∧Below w.heap.size w w':=
 (canX_any c hsm pa pc l qa qc sa S sc fa F fc hSl hFl w hp hq hS hF).mono fun e w' h=>⟨h.2,h.1⟩
end
theorem plans_same {s:List Nat}{k:Int}{w:World}{ra sa:Option Addr}{rc sc:Nat}(h1:Ints w ra (natInts s))(h2:Ints w sa (natInts s))(hl:s.length≤1000000):Calls Tryz.prog 27 #[.agg #[.slice ra s.length rc,.int .i64 k],.agg #[.slice sa s.length sc,.int .i64 k]] w fun e w'=>e = .returned (.bool true)∧Below w.heap.size w w':=by
 have h:=samePlanR9_any ra sa rc sc (natInts s) (natInts s) k k w h1 h2 (by rw[nat_len];exact hl) (by rw[nat_len];exact hl);rw[nat_len] at h;exact h.mono (by rintro e w' ⟨rfl,h⟩;exact⟨by simp,h⟩)
theorem short_two {a:Option Addr}{cap:Nat}{w:World}{sa fa:Option Addr}{n m sc fc:Nat}(h:Row w a [.slice sa n sc,.slice fa m fc])(hn:n≤maxLen)(hm:m≤maxLen):
 Calls Tryz.prog 14 #[.slice a 2 cap] w fun e w'=>e = .returned (.bool (decide (n≤20)&&decide (m≤20)))∧Below w.heap.size w w':=
 (short9_any a [(sa,n,sc),(fa,m,fc)] cap zS (by simp;exact⟨hn,hm⟩) w h).mono (by rintro e w' ⟨rfl,rfl⟩;exact⟨by simp[shortB],Below.refl _ _⟩)
theorem short_one {a:Option Addr}{cap:Nat}{w:World}{sa:Option Addr}{n sc:Nat}(h:Row w a [.slice sa n sc])(hn:n≤maxLen):
 Calls Tryz.prog 14 #[.slice a 1 cap] w fun e w'=>e = .returned (.bool (decide (n≤20)))∧Below w.heap.size w w':=
 (short9_any a [(sa,n,sc)] cap zS (by simp;exact hn) w h).mono (by rintro e w' ⟨rfl,rfl⟩;exact⟨by simp[shortB],Below.refl _ _⟩)
theorem box_case9 (w:World)(c:Cs)(pa:Option Addr)(pc:Nat):∃w1,w.alloc (.cells #[.string c.ware,.int .i64 c.limit,.int .i64 c.by_,.slice pa c.parts.length pc] 24)=w1∧Below w.heap.size w w1∧Box w1 w.heap.size (csCells c pa pc) 24:=
 ⟨_,rfl,by go_grown,Box.new _ _ _⟩
theorem xErr_zero {c:Cs}{l:List Prb}{ok:Bool}(h:xErr c l ok=0):probesErr c l=0∧ok=true∧(allR c).isEmpty=false:=by
 unfold xErr at h
 by_cases h1:probesErr c l=0
 ·rw[if_neg (by simp[h1])] at h;cases ok
  ·simp at h
  ·refine⟨h1,rfl,?_⟩;cases hL:(allR c).isEmpty
   ·rfl
   ·rw[hL] at h;simp at h
 ·rw[if_pos h1] at h;exact absurd h h1
end Go.Proofs.YtjgldeeianionaaGreat
