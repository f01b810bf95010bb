/- The walks and plain laws of: MQLeastP MQLawL MQR26 MQR30 MQXDoubt MQLawD. No condition. -/
import Derived.Deep.DeepCutAuto
import Derived.ArgAppend
import Derived.IntWalk
import Derived.WalkKit
import Derived.WalkSpells
import Derived.WalkLawsBesides
import Derived.RangeFuncKeeps
import Derived.Deep.Draws
import Derived.Sort.CutIn
import Derived.Maps.AppendAt
import Derived.OwnWalk
import Derived.OwnWalkIn
import Derived.Shelf.Abstract
import Derived.Deep.OwnRows
import Derived.Laws.EntriesVeiled
import Derived.Deep.RegionHeld3
import Derived.Test.YtjgldeeianionaaGreatProg
import Derived.Maps.OwnSet
import Derived.Maps.OwnOps
import Derived.Deep.LoopGhost
import Derived.Deep.QuietTactic
import Derived.BigQuiet
import Derived.Handy
import Derived.Lib.Hide
import Derived.Lib.ConvBytes
import Derived.RangeFuncNested
import Derived.RangeFuncBound
import Derived.RangeFuncCalls
import Derived.RangeFuncLeaves
import Derived.RangeFuncRecord
import Derived.TacticsInMore
import Derived.LoopNIn
import Derived.LoopIn
import Derived.Scope
import Derived.WalkMore
import Derived.Deep.Quiet
import Derived.OrdersIn
import Derived.StillTail
import Derived.StillTailTactics
import Derived.OrdersHeld
import Derived.Deep.RegionHeld
import Derived.Tactics2
import Derived.Defers
import Derived.Recover
import Derived.Laws.Pointers
import Derived.ChangeKeysEq
import Derived.Deep.MidRow
import Derived.Sort.QuietIn
import Derived.Lib.SliceRun
import Derived.Shelf.Sort.Plain
import Derived.Shelf.Slices.CompactI
import Derived.Shelf.Slices.Reverse
import Derived.Test.YtjgldeeianionaaGreatRows
import Derived.RowKit
import Derived.RowKit3
import Derived.Lib.SmallJoins
import Derived.Deep.Slices
import Derived.WideKeyArgs
import Derived.ChangeMaps5
import Derived.OpenShut
import Derived.Laws.StructEq
import Derived.Test.YtjgldeeianionaaGreatT18
import Derived.Test.YtjgldeeianionaaGreatT22
import Derived.Test.YtjgldeeianionaaGreatT29
import Derived.Test.YtjgldeeianionaaGreatT34
import Derived.Test.YtjgldeeianionaaGreatT36
import Derived.Test.YtjgldeeianionaaGreatT38
import Derived.Test.YtjgldeeianionaaGreatT40
import Derived.Test.YtjgldeeianionaaGreatT46
import Derived.Test.YtjgldeeianionaaGreatT01
set_option maxHeartbeats 4000000
set_option maxRecDepth 100000
set_option linter.unusedSimpArgs false
set_option linter.unusedVariables false
namespace Go.Proofs.YtjgldeeianionaaGreat
open Go.RowKit
theorem find_pair {d:Cs}{a b:Nat}(ha:a<d.parts.length)(hb:b<d.parts.length)(h:ansAt d a b=3)(t:Bool):∃x,(allR d).find? (asPair a b t)=some x∧fitsB d (natInts x)=true∧((natInts x)[a]?.getD 0==(natInts x)[b]?.getD 0)=t:=by
 have h1:((allR d).find? (asPair a b t)).isSome=true:=by
  rw[with_isSome ha hb];rw[ans_iff] at h
  split at h
  ·rename_i k1
   split at h
   ·rename_i k2
    cases t
    ·simpa using k1
    ·simpa using k2
   ·cases h
  ·cases h
 obtain⟨x,hx⟩:=Option.isSome_iff_exists.1 h1;have hm:=List.mem_of_find?_eq_some hx;have hp:=List.find?_some hx;have hr:=mem_allR.1 hm;have hl:=hr.len;obtain⟨u,hu⟩:=get_of_lt x (k:=a) zO;obtain⟨v,hv⟩:=get_of_lt x (k:=b) zO;refine⟨x,hx,fitsB_iff.2 ⟨x,hr,rfl⟩,?_⟩;simp only[asPair,hu,hv,beq_iff_eq] at hp;simp only[natInts,List.getElem?_map,hu,hv,Option.map_some,Option.getD_some];rw[←hp,Bool.eq_iff_iff]
 simp
 omega
theorem dbt_good {c:Cs}{l:List Prb}{a b:Nat}{s:List Nat}(hp:probesErr c l=0)(ha:a<c.parts.length)(hb:b<c.parts.length)(hs:s∈setsOf l.length)(hd:decidesB c l a b s=false):(dbtOf c l a b s).probes=natInts s∧doubtedB c l a b (dbtOf c l a b s)=true:=by
 have hin:=(sets_in hs).1
 rcases hx:doubtOf c l a b s with _|x
 ·simp[decidesB,hx] at hd
 ·have hm:=List.mem_of_find?_eq_some hx;have hsure:=List.find?_some hx;simp only[Bool.not_eq_true'] at hsure;have hff:=(mem_outs hin).1 hm
  rcases hcn:canC c l s x with _|d
  ·rw[sure_none hcn] at hsure;cases hsure
  ·rw[sure_some hcn] at hsure;have hans:ansAt d a b=3:=by simpa using hsure
   obtain⟨ok,hne,haf⟩:=canC_ok hp hcn;have hl:=ok.len;obtain⟨y,hy1,hy2,hy3⟩:=find_pair (d:=d) zO zO hans true;obtain⟨z,hz1,hz2,hz3⟩:=find_pair (d:=d) zO zO hans false;have e:dbtOf c l a b s=⟨natInts s,natInts x,natInts y,natInts z⟩:=by
    unfold dbtOf;rw[hx];simp only[hcn,hy1,hz1,Option.getD_some]
   rw[e];refine⟨rfl,?_⟩;unfold doubtedB;simp only[nats_nat,haf,hy2,hz2,hy3,Bool.and_true,Bool.true_and];have hz4:((natInts z)[a]?.getD 0 != (natInts z)[b]?.getD 0)=true:=by rw[bne,hz3];rfl
   rw[hz4,Bool.and_true];simp only[foundB,Bool.and_eq_true,decide_eq_true_eq];refine⟨⟨setB_of hs,by simp[natInts,hff.1]⟩,upto_iff.2 fun i hi=>?_⟩;have hi':i<s.length:=by rw[←hff.1];simpa[natInts] using hi
   obtain⟨v,hv⟩:=get_of_lt s hi';obtain⟨p,f,k1,k2,k3⟩:=hff.2 i v hv;simp only[foundAt,natInts,List.getElem?_map,hv,k2,Option.map_some,Option.getD_some,cntAt,Int.toNat_natCast,k1,inB,Bool.and_eq_true,decide_eq_true_eq]
   omega
theorem proofAll_open {c:Cs}{l:List Prb}{a b:Nat}{s:List Nat}(hs:s∈proofAll c l a b):s∈setsOf l.length∧decidesB c l a b s=false:=by
 refine⟨proofAll_mem s hs,?_⟩;unfold proofAll at hs
 split at hs
 ·rename_i p hp
  obtain⟨h1,h2⟩:=List.mem_filter.1 hs;rw[Bool.eq_false_iff];intro hd;have:=(cheapest_some hp).2.2 s h1 hd;simp only[decide_eq_true_eq] at h2
  omega
 ·rename_i hp
  exact cheapest_none hp s hs
section
variable {c:Cs}{l:List Prb}{w:World}{pa:Option Addr}{pc:Nat}{qa:Option Addr}{qc:Nat}
theorem proof_tup (hsm:c.Small)(a b:Int)(hp:PartsAt w pa c.parts)(hq:PrbsAt w qa l):
 Calls Tryz.prog 26 #[.agg #[.string c.ware,.int .i64 c.limit,.int .i64 c.by_,.slice pa c.parts.length pc],.slice qa l.length qc,.int .i64 a,.int .i64 b] w fun e w'=>
  ∃ra rn rc,e = .returned (.tuple #[.slice ra rn rc,.int .i64 (xErr c l (twoB c.parts.length a b))])∧(xErr c l (twoB c.parts.length a b)=0→rn=(proofOf c l a.toNat b.toNat).length∧OpnsAt w' ra (proofOf c l a.toNat b.toNat))∧(xErr c l (twoB c.parts.length a b)≠0→rn=0)∧Below w.heap.size w w':=
 (proofX_any c hsm pa pc l qa qc a b w hp hq).mono (by
  rintro e w' ⟨hb,v,er,rfl,(⟨h1,rfl,rfl⟩|⟨h1,rfl,x,k,rfl,h2,_⟩)⟩
  ·exact⟨none,0,0,rfl,fun h=>absurd h h1,fun _=>rfl,hb⟩
  ·rw[h1];exact⟨x,_,k,rfl,fun _=>⟨rfl,h2⟩,fun h=>absurd rfl h,hb⟩)
end
theorem doubted_small {c:Cs}{l:List Prb}{a b:Nat}{d:Opn}(hp:probesErr c l=0)(h:doubtedB c l a b d=true):d.Small:=by
 unfold doubtedB at h;simp only[Bool.and_eq_true] at h;obtain⟨h1,h2⟩:=h;have hl5:=(probes_ok hp).2.1;simp only[foundB,Bool.and_eq_true,decide_eq_true_eq] at h1;have h3:=set_len h1.1.1
 split at h2
 ·cases h2
 ·rename_i e he
  simp only[Bool.and_eq_true] at h2;obtain⟨⟨⟨k1,k2⟩,_⟩,_⟩:=h2;have ok:=after_ok hp he;have h8:=(check_okCase ok.chk).1;obtain⟨x,hx,ex⟩:=fitsB_iff.1 k1;obtain⟨y,hy,ey⟩:=fitsB_iff.1 k2;have hxl:=hx.len;have hyl:=hy.len;have e1:d.tog.length=x.length:=by rw[←ex,nat_len]
  have e2:d.apt.length=y.length:=by rw[←ey,nat_len]
  exact⟨zO,zO,zO,zO⟩
end Go.Proofs.YtjgldeeianionaaGreat
namespace Go.Proofs.YtjgldeeianionaaGreat
open Go.RowKit
attribute [local go_sem] Oper.semAt_some
theorem fits_len9 {e:Cs}{t:List Int}(h:fitsB e t=true):t.length=e.parts.length:=by
 obtain⟨x,hx,rfl⟩:=fitsB_iff.1 h;rw[nat_len];exact hx.1
theorem doubted_no9 {c:Cs}{l:List Prb}{a b:Nat}{d:Opn}(h:afterC c l (nats d.probes) (nats d.found)=none):doubtedB c l a b d=false:=by
 unfold doubtedB;rw[h];simp
theorem doubted_at9 {c x:Cs}{l:List Prb}{a b:Nat}{d:Opn}(hf:foundB c l d.probes d.found=true)(h:afterC c l (nats d.probes) (nats d.found)=some x):doubtedB c l a b d=(fitsB x d.tog&&fitsB x d.apt&&(d.tog[a]?.getD 0==d.tog[b]?.getD 0)&&(d.apt[a]?.getD 0 != d.apt[b]?.getD 0)):=by
 unfold doubtedB;rw[hf,h];rfl
theorem checkDoubtR9_any (c:Cs)(hsm:c.Small)(pa:Option Addr)(pc:Nat)(l:List Prb)(qa:Option Addr)(qc:Nat)(a:Int)(b:Int)(d:Opn)(hd:d.Small)(a1 a2 a3 a4:Option Addr)(c1 c2 c3 c4:Nat)(w:World)(hp:PartsAt w pa c.parts)(hq:PrbsAt w qa l)(h1:Ints w a1 d.probes)(h2:Ints w a2 d.found)(h3:Ints w a3 d.tog)(h4:Ints w a4 d.apt):
 Calls Tryz.prog 29 #[.agg #[.string c.ware,.int .i64 c.limit,.int .i64 c.by_,.slice pa c.parts.length pc],.slice qa l.length qc,.int .i64 a,.int .i64 b,.agg #[.slice a1 d.probes.length c1,.slice a2 d.found.length c2,.slice a3 d.tog.length c3,.slice a4 d.apt.length c4]] w (XPost (xErr c l (twoB c.parts.length a b)) (.bool false) (BoolOut (doubtedB c l a.toNat b.toNat d)) w):=by
 obtain⟨w1,hw1⟩:=zx ((w.alloc (.cells #[.string c.ware,.int .i64 c.limit,.int .i64 c.by_,.slice pa c.parts.length pc] 24)).alloc (.cells #[.slice a1 d.probes.length c1,.slice a2 d.found.length c2,.slice a3 d.tog.length c3,.slice a4 d.apt.length c4] 53));have hB1:Below w.heap.size w w1:=by rw[←hw1];go_grown
 have b1:Box w1 w.heap.size (csCells c pa pc) 24:=by rw[←hw1];exact(Box.new _ _ _).alloc _
 have b0:Box w1 (w.heap.size+1) #[.slice a1 d.probes.length c1,.slice a2 d.found.length c2,.slice a3 d.tog.length c3,.slice a4 d.apt.length c4] 53:=by rw[←hw1];exact Box.new' zS
 have e1:=zC (b1);have HAS:=zh (askedPairR9_any c hsm pa pc l qa qc a b none [] 0 zS w1 (hp.below hB1) (hq.below hB1) (Ints.nil _ _));rw[setB_nil,Bool.and_true,List.length_nil] at HAS;have HW:=zh hw1;have HX:=zh b1;have HZ:=zh b0;have HB:=zh hB1;have HP:=zh (fun W (h:Below w.heap.size w W)=>hp.below h);have HQ:=zh (fun W (h:Below w.heap.size w W)=>hq.below h);have HI1:=zh (fun W (h:Below w.heap.size w W)=>h1.below h);have HI2:=zh (fun W (h:Below w.heap.size w W)=>h2.below h);have HI3:=zh (fun W (h:Below w.heap.size w W)=>h3.below h);have HI4:=zh (fun W (h:Below w.heap.size w W)=>h4.below h);have HDS:=zh hd;clear hw1 b1 b0 hB1 hp hq h1 h2 h3 h4 hd;have HXS:=zh (fun h=>xErr_set (c:=c) (l:=l) (ok:=twoB c.parts.length a b) h);have HTN:=zh (fun h=>two_nats (n:=c.parts.length) (a:=a) (b:=b) h)
 obtain⟨ok,hok⟩:=zx (twoB c.parts.length a b);rw[hok] at HXS HTN HAS ⊢;clear hok;obtain⟨er,her⟩:=zx (xErr c l ok);rw[her] at HAS HXS ⊢;clear her
 go_enter Tryz.func29,Tryz.ntmps29
 go_upto_region 1 with fail
 simp only[HW.out]
 go_wp2_with fail
 refine zM HAS ?_;rintro e w2 ⟨rfl,hb2⟩;have HX:=zh (HX.out.below' hb2);have HZ:=zh (HZ.out.below' hb2);have HB:=zh (HB.out.trans (hb2.mono HB.out.size));clear hb2 e1 HAS HW
 by_cases hz:er=0
 ·obtain⟨z1,z2,_⟩:=HXS.out hz;subst hz;obtain⟨A,B,rfl,rfl,hA,hBn⟩:=HTN.out z2;have hl5:=(probes_ok z1).2.1;have hDR:doubtedB c l (A:Int).toNat (B:Int).toNat d=doubtedB c l A B d:=by rw[Int.toNat_natCast,Int.toNat_natCast]
  have HDT:=zh hDR;obtain⟨hs1,hs2,hs3,hs4⟩:=HDS.out;have HSE:=zh (isSetR9_any qa l.length qc zO a1 d.probes c1 w2 (HI1.out _ HB.out) zO);have HFO:=zh (fun(hst:setB l.length d.probes=true) W (h:Below w.heap.size w W)=>isFoundR9_any z1 pa pc qa qc a1 d.probes c1 hst a2 d.found c2 W (HP.out _ h) (HQ.out _ h) (HI1.out _ h) (HI2.out _ h) zO zO);have HAF:=zh (fun(hf:foundB c l d.probes d.found=true) W (h:Below w.heap.size w W)=>show Calls Tryz.prog 64 #[.agg #[.string c.ware,.int .i64 c.limit,.int .i64 c.by_,.slice pa c.parts.length pc],.slice qa l.length qc,.slice a1 d.probes.length c1,.slice a2 d.found.length c2] W (AfterRPost (afterC c l (nats d.probes) (nats d.found)) W) by
   obtain⟨f1,f2,f3,f4⟩:=found_nats hf;have l1:(nats d.probes).length=d.probes.length:=by simp[nats]
   have l2:(nats d.found).length=d.found.length:=by simp[nats]
   have hc:=afterR9_any hsm z1 pa pc qa qc a1 (nats d.probes) c1 a2 (nats d.found) c2 f3 f4 zO W (HP.out _ h) (HQ.out _ h) (by rw[←f1];exact HI1.out _ h) (by rw[←f2];exact HI2.out _ h)
   rwa [l1,l2] at hc)
  have HPR:=zh z1;have HAL:=zh (show A<c.parts.length from hA);have HBL:=zh (show B<c.parts.length from hBn);have e0:∀i,w2.cell? ⟨w.heap.size+1,i,none⟩=(#[.slice a1 d.probes.length c1,.slice a2 d.found.length c2,.slice a3 d.tog.length c3,.slice a4 d.apt.length c4]:Array Value)[i]?:=HZ.out.cell;clear z1 z2 hA hBn hDR hl5 hsm
  go_wp2_with fail
  refine zM HSE ?_;rintro e w3 ⟨rfl,hb3⟩;have HX:=zh (HX.out.below' hb3);have HZ:=zh (HZ.out.below' hb3);have HB:=zh (HB.out.trans (hb3.mono HB.out.size));clear hb3 e0 HSE;have e0:∀i,w3.cell? ⟨w.heap.size+1,i,none⟩=(#[.slice a1 d.probes.length c1,.slice a2 d.found.length c2,.slice a3 d.tog.length c3,.slice a4 d.apt.length c4]:Array Value)[i]?:=HZ.out.cell;have e1:=zC (HX.out)
  rcases hst:setB l.length d.probes with _|_
  ·have HR:=zh (show doubtedB c l A B d=false by simp[doubtedB,foundB,hst]);clear hst
   go_wp2_with fail
   go_ret2
   exact⟨HB.out,_,_,rfl,.inr ⟨rfl,rfl,by rw[HDT.out,HR.out];rfl⟩⟩
  have HF:=zh (HFO.out hst w3 HB.out);clear hst HFO
  go_wp2_with fail
  refine zM HF ?_;rintro e w4 ⟨rfl,hb4⟩;have HX:=zh (HX.out.below' hb4);have HZ:=zh (HZ.out.below' hb4);have HB:=zh (HB.out.trans (hb4.mono HB.out.size));clear hb4 e0 e1 HF;have e0:∀i,w4.cell? ⟨w.heap.size+1,i,none⟩=(#[.slice a1 d.probes.length c1,.slice a2 d.found.length c2,.slice a3 d.tog.length c3,.slice a4 d.apt.length c4]:Array Value)[i]?:=HZ.out.cell;have e1:=zC (HX.out)
  rcases hf:foundB c l d.probes d.found with _|_
  ·have HR:=zh (show doubtedB c l A B d=false by simp[doubtedB,hf]);clear hf
   go_wp2_with fail
   go_ret2
   exact⟨HB.out,_,_,rfl,.inr ⟨rfl,rfl,by rw[HDT.out,HR.out];rfl⟩⟩
  have HA:=zh (HAF.out hf w4 HB.out);have HD1:=zh (fun x h=>doubted_at9 (c:=c) (x:=x) (l:=l) (a:=A) (b:=B) (d:=d) hf h);have HOK:=zh (fun x (h:afterC c l (nats d.probes) (nats d.found)=some x)=>after_ok HPR.out h);clear hf HAF HPR
  go_wp2_with fail
  refine zM HA ?_;rintro e w5 ⟨hb5,cs,bb,rfl,(⟨k1,rfl,rfl⟩|⟨x,ba,bc,k1,rfl,rfl,hpx⟩)⟩
  ·have HR:=zh (show doubtedB c l A B d=false from doubted_no9 k1);have HB:=zh ((HB.out.trans (hb5.mono HB.out.size)).alloc (HB.out.trans (hb5.mono HB.out.size)).size (.cells #[.string ⟨#[]⟩,.int .i64 0,.int .i64 0,.slice none 0 0] 24));clear hb5 k1 e0 e1
   go_wp2_with fail
   go_ret2
   exact⟨HB.out,_,_,rfl,.inr ⟨rfl,rfl,by rw[HDT.out,HR.out];rfl⟩⟩
  have hok:=HOK.out x k1;have HD1:=zh (HD1.out x k1);obtain⟨w6,hw6⟩:=zx (w5.alloc (.cells #[.string x.ware,.int .i64 x.limit,.int .i64 x.by_,.slice ba x.parts.length bc] 24));have hb6:Below w5.heap.size w5 w6:=by rw[←hw6];go_grown
  have x6:Box w6 w5.heap.size (csCells x ba bc) 24:=by rw[←hw6];exact Box.new _ _ _
  have hb46:=hb5.trans (hb6.mono hb5.size);have HB:=zh (HB.out.trans (hb46.mono HB.out.size));have HZ:=zh (HZ.out.below' hb46);have HXD:=zh x6;have hpd:=hpx.at_.below hb6;have hsx:=small_of hok.chk;have HFI:=zh (fun(na:Option Addr) (t:List Int) (nc:Nat) (hl:t.length≤1000000) W (h:Below w6.heap.size w6 W) (hi:Ints W na t)=>fits_ref x hsx ba bc na t nc hl W (hpd.below h) hi);have HCK:=zh hok.chk;have HLX:=zh hok.len;have HW6:=zh hw6;clear hb5 hw6 hb6 x6 hb46 hpd hok k1 e0 e1 hpx HOK HA;rw[HCK.out] at HFI;simp only[beq_self_eq_true,Bool.true_and] at HFI;have e0:∀i,w6.cell? ⟨w.heap.size+1,i,none⟩=(#[.slice a1 d.probes.length c1,.slice a2 d.found.length c2,.slice a3 d.tog.length c3,.slice a4 d.apt.length c4]:Array Value)[i]?:=HZ.out.cell
  have e6:∀i,w6.cell? ⟨w5.heap.size,i,none⟩=(#[.string x.ware,.int .i64 x.limit,.int .i64 x.by_,.slice ba x.parts.length bc]:Array Value)[i]?:=HXD.out.cell;have HF1:=zh (HFI.out a3 d.tog c3 zO w6 (Below.refl _ _) (HI3.out _ HB.out))
  go_upto_region 7 with fail
  simp only[HW6.out]
  go_wp2_with fail
  refine zM HF1 ?_;rintro e w7 ⟨hb7,rfl⟩;have HZ:=zh (HZ.out.below' hb7);have HXD:=zh (HXD.out.below' hb7);have HB7:=zh (HB.out.trans (hb7.mono HB.out.size));have HF2:=zh (HFI.out a4 d.apt c4 zO w7 hb7 (HI4.out _ HB7.out));clear hb7 e0 e6 HF1 HFI HW6;have e0:∀i,w7.cell? ⟨w.heap.size+1,i,none⟩=(#[.slice a1 d.probes.length c1,.slice a2 d.found.length c2,.slice a3 d.tog.length c3,.slice a4 d.apt.length c4]:Array Value)[i]?:=HZ.out.cell;have e6:∀i,w7.cell? ⟨w5.heap.size,i,none⟩=(#[.string x.ware,.int .i64 x.limit,.int .i64 x.by_,.slice ba x.parts.length bc]:Array Value)[i]?:=HXD.out.cell
  go_wp2_with fail
  refine zM HF2 ?_;rintro e w8 ⟨hb8,rfl⟩;have HZ:=zh (HZ.out.below' hb8);have HB8:=zh (HB7.out.trans (hb8.mono HB7.out.size));clear hb8 e0 e6 HF2 HXD
  go_upto_region 11 with fail
  have hbd:Below w8.heap.size w8 w8.drew:=(Below.refl _ w8).drew;have HBZ:=zh (HB8.out.trans (hbd.mono HB8.out.size));have h3:=HI3.out _ HBZ.out;have h4:=HI4.out _ HBZ.out;have hzd:=HZ.out.below' hbd;clear hbd;refine wp_region_L (fun A=>Below w8.drew.heap.size w8.drew A) 32 zK ?_;have hSS:Below w8.drew.heap.size w8.drew w8.drew:=Below.refl _ _;generalize w8.drew=w9 at *
  rcases hf1:fitsB x d.tog with _|_
  ·have HR:=zh (show doubtedB c l A B d=false by rw[HD1.out];simp[hf1]);have K0:Hid (∀W,Below w9.heap.size w9 W→∀j,W.cell? ⟨w.heap.size+1,j,none⟩=(#[.slice a1 d.probes.length c1,.slice a2 d.found.length c2,.slice a3 d.tog.length c3,.slice a4 d.apt.length c4]:Array Value)[j]?):=zh fun W hW=>(hzd.below' hW).cell
   clear hf1 h3 h4 hzd;refine tM K0 0 hSS ?_;refine tM K0 1 hSS ?_;refine tN 2 hSS ?_;refine tM K0 3 hSS ?_;refine tM K0 4 hSS ?_;refine tN 5 hSS ?_;refine tN 6 hSS ?_;refine tN 7 hSS ?_;refine tN 8 hSS ?_;refine tN 9 hSS ?_;refine tN 10 hSS ?_;refine tN 11 hSS ?_;refine tN 12 hSS ?_;refine tN 13 hSS ?_;refine tN 14 hSS ?_;refine tN 15 hSS ?_;refine tM K0 16 hSS ?_;refine tM K0 17 hSS ?_;refine tN 18 hSS ?_;refine tN 19 hSS ?_;refine tN 20 hSS ?_;refine tN 21 hSS ?_;refine tN 22 hSS ?_;refine tN 23 hSS ?_;refine tN 24 hSS ?_;refine tN 25 hSS ?_;refine tN 26 hSS ?_;refine tN 27 hSS ?_;refine tN 28 hSS ?_;refine tM K0 29 hSS ?_;refine tM K0 30 hSS ?_;refine tM K0 31 hSS ?_;refine anyL_done zK ?_ _;clear hSS K0
   go_wp2_with fail
   go_ret2
   exact⟨HBZ.out,_,_,rfl,.inr ⟨rfl,rfl,by rw[HDT.out,HR.out];rfl⟩⟩
  rcases hf2:fitsB x d.apt with _|_
  ·have HR:=zh (show doubtedB c l A B d=false by rw[HD1.out];simp[hf2]);have K0:Hid (∀W,Below w9.heap.size w9 W→∀j,W.cell? ⟨w.heap.size+1,j,none⟩=(#[.slice a1 d.probes.length c1,.slice a2 d.found.length c2,.slice a3 d.tog.length c3,.slice a4 d.apt.length c4]:Array Value)[j]?):=zh fun W hW=>(hzd.below' hW).cell
   clear hf1 hf2 h3 h4 hzd;refine tM K0 0 hSS ?_;refine tM K0 1 hSS ?_;refine tM K0 2 hSS ?_;refine tM K0 3 hSS ?_;refine tM K0 4 hSS ?_;refine tN 5 hSS ?_;refine tN 6 hSS ?_;refine tN 7 hSS ?_;refine tN 8 hSS ?_;refine tN 9 hSS ?_;refine tN 10 hSS ?_;refine tN 11 hSS ?_;refine tN 12 hSS ?_;refine tN 13 hSS ?_;refine tN 14 hSS ?_;refine tN 15 hSS ?_;refine tM K0 16 hSS ?_;refine tM K0 17 hSS ?_;refine tN 18 hSS ?_;refine tN 19 hSS ?_;refine tN 20 hSS ?_;refine tN 21 hSS ?_;refine tN 22 hSS ?_;refine tN 23 hSS ?_;refine tN 24 hSS ?_;refine tN 25 hSS ?_;refine tN 26 hSS ?_;refine tN 27 hSS ?_;refine tN 28 hSS ?_;refine tM K0 29 hSS ?_;refine tM K0 30 hSS ?_;refine tM K0 31 hSS ?_;refine anyL_done zK ?_ _;clear hSS K0
   go_wp2_with fail
   go_ret2
   exact⟨HBZ.out,_,_,rfl,.inr ⟨rfl,rfl,by rw[HDT.out,HR.out];rfl⟩⟩
  have ht:=fits_len9 hf1;have hu:=fits_len9 hf2;rw[HLX.out] at ht hu;obtain⟨u1,hu1⟩:=get_of_lt d.tog (k:=A) (by have:=HAL.out;omega);obtain⟨u2,hu2⟩:=get_of_lt d.tog (k:=B) (by have:=HBL.out;omega);obtain⟨v1,hv1⟩:=get_of_lt d.apt (k:=A) (by have:=HAL.out;omega);obtain⟨v2,hv2⟩:=get_of_lt d.apt (k:=B) (by have:=HBL.out;omega);have HR0:=zh (show doubtedB c l A B d=((u1==u2)&&(v1 != v2)) by rw[HD1.out,hf1,hf2,hu1,hu2,hv1,hv2];simp);obtain⟨g3,o3,rfl,q3⟩:=h3.base (by have:=HAL.out;omega);obtain⟨g4,o4,rfl,q4⟩:=h4.base (by have:=HAL.out;omega)
  have K0:Hid (∀W,Below w9.heap.size w9 W→(∀j,W.cell? ⟨w.heap.size+1,j,none⟩=(#[.slice a1 d.probes.length c1,.slice a2 d.found.length c2,.slice (some ⟨g3,o3,none⟩) d.tog.length c3,.slice (some ⟨g4,o4,none⟩) d.apt.length c4]:Array Value)[j]?)∧W.cell? ⟨g3,o3+A,none⟩=some (.int .i64 u1)∧W.cell? ⟨g3,o3+B,none⟩=some (.int .i64 u2)∧W.cell? ⟨g4,o4+A,none⟩=some (.int .i64 v1)∧W.cell? ⟨g4,o4+B,none⟩=some (.int .i64 v2)):=
   zh fun W hW=>⟨(hzd.below' hW).cell,below_cell hW (q3 _ _ hu1),below_cell hW (q3 _ _ hu2),below_cell hW (q4 _ _ hv1),below_cell hW (q4 _ _ hv2)⟩
  have hA1:(A:Int)<(d.tog.length:Int):=by have:=HAL.out;omega
  have hB1:(B:Int)<(d.tog.length:Int):=by have:=HBL.out;omega
  have hA2:(A:Int)<(d.apt.length:Int):=by have:=HAL.out;omega
  have hB2:(B:Int)<(d.apt.length:Int):=by have:=HBL.out;omega
  clear hf1 hf2 h3 h4 hzd q3 q4 hu1 hu2 hv1 hv2 ht hu hs1 hs2 hs3 hs4
  rcases heq:(u1==u2) with _|_
  ·have HR:=zh (show doubtedB c l A B d=false by rw[HR0.out,heq];rfl);refine tM K0 0 hSS ?_;refine tM K0 1 hSS ?_;refine tM K0 2 hSS ?_;refine tM K0 3 hSS ?_;refine tM K0 4 hSS ?_;refine tM K0 5 hSS ?_;refine tM K0 6 hSS ?_;refine tM K0 7 hSS ?_;refine tM K0 8 hSS ?_;refine tM K0 9 hSS ?_;refine tM K0 10 hSS ?_;refine tM K0 11 hSS ?_;refine tM K0 12 hSS ?_;refine tM K0 13 hSS ?_;refine tM K0 14 hSS ?_;refine tM K0 15 hSS ?_;refine tM K0 16 hSS ?_;refine tM K0 17 hSS ?_;refine tN 18 hSS ?_;refine tN 19 hSS ?_;refine tN 20 hSS ?_;refine tN 21 hSS ?_;refine tN 22 hSS ?_;refine tN 23 hSS ?_;refine tN 24 hSS ?_;refine tN 25 hSS ?_;refine tN 26 hSS ?_;refine tN 27 hSS ?_;refine tN 28 hSS ?_;refine tM K0 29 hSS ?_;refine tM K0 30 hSS ?_;refine tM K0 31 hSS ?_;refine anyL_done zK ?_ _;clear hSS K0
   go_wp2_with fail
   go_ret2
   exact⟨HBZ.out,_,_,rfl,.inr ⟨rfl,rfl,by rw[HDT.out,HR.out];rfl⟩⟩
  ·rcases hne:(v1 != v2) with _|_
   ·have HR:=zh (show doubtedB c l A B d=false by rw[HR0.out,heq,hne];rfl);refine tM K0 0 hSS ?_;refine tM K0 1 hSS ?_;refine tM K0 2 hSS ?_;refine tM K0 3 hSS ?_;refine tM K0 4 hSS ?_;refine tM K0 5 hSS ?_;refine tM K0 6 hSS ?_;refine tM K0 7 hSS ?_;refine tM K0 8 hSS ?_;refine tM K0 9 hSS ?_;refine tM K0 10 hSS ?_;refine tM K0 11 hSS ?_;refine tM K0 12 hSS ?_;refine tM K0 13 hSS ?_;refine tM K0 14 hSS ?_;refine tM K0 15 hSS ?_;refine tM K0 16 hSS ?_;refine tM K0 17 hSS ?_;refine tM K0 18 hSS ?_;refine tM K0 19 hSS ?_;refine tM K0 20 hSS ?_;refine tM K0 21 hSS ?_;refine tM K0 22 hSS ?_;refine tM K0 23 hSS ?_;refine tM K0 24 hSS ?_;refine tM K0 25 hSS ?_;refine tM K0 26 hSS ?_;refine tM K0 27 hSS ?_;refine tM K0 28 hSS ?_;refine tM K0 29 hSS ?_;refine tM K0 30 hSS ?_;refine tM K0 31 hSS ?_;refine anyL_done zK ?_ _;clear hSS K0
    go_wp2_with fail
    go_ret2
    exact⟨HBZ.out,_,_,rfl,.inr ⟨rfl,rfl,by rw[HDT.out,HR.out];rfl⟩⟩
   ·have HR:=zh (show doubtedB c l A B d=true by rw[HR0.out,heq,hne];rfl);refine tM K0 0 hSS ?_;refine tM K0 1 hSS ?_;refine tM K0 2 hSS ?_;refine tM K0 3 hSS ?_;refine tM K0 4 hSS ?_;refine tM K0 5 hSS ?_;refine tM K0 6 hSS ?_;refine tM K0 7 hSS ?_;refine tM K0 8 hSS ?_;refine tM K0 9 hSS ?_;refine tM K0 10 hSS ?_;refine tM K0 11 hSS ?_;refine tM K0 12 hSS ?_;refine tM K0 13 hSS ?_;refine tM K0 14 hSS ?_;refine tM K0 15 hSS ?_;refine tM K0 16 hSS ?_;refine tM K0 17 hSS ?_;refine tM K0 18 hSS ?_;refine tM K0 19 hSS ?_;refine tM K0 20 hSS ?_;refine tM K0 21 hSS ?_;refine tM K0 22 hSS ?_;refine tM K0 23 hSS ?_;refine tM K0 24 hSS ?_;refine tM K0 25 hSS ?_;refine tM K0 26 hSS ?_;refine tM K0 27 hSS ?_;refine tM K0 28 hSS ?_;refine tM K0 29 hSS ?_;refine tM K0 30 hSS ?_;refine tM K0 31 hSS ?_;refine anyL_done zK ?_ _;clear hSS K0
    go_wp2_with fail
    go_ret2
    exact⟨HBZ.out,_,_,rfl,.inr ⟨rfl,rfl,by rw[HDT.out,HR.out];rfl⟩⟩
 ·have hzb:(er != 0)=true:=by simpa using hz
  have HZE:=zh hz;clear hz
  go_wp2_with fail
  go_ret2
  exact⟨HB.out,_,_,rfl,.inl ⟨HZE.out,rfl,rfl⟩⟩
theorem opn_ints {W:World}{d:Opn}{a1 a2 a3 a4:Option Addr}{c1 c2 c3 c4:Nat}(h:OpnAt W d (.agg #[.slice a1 d.probes.length c1,.slice a2 d.found.length c2,.slice a3 d.tog.length c3,.slice a4 d.apt.length c4])):Ints W a1 d.probes∧Ints W a2 d.found∧Ints W a3 d.tog∧Ints W a4 d.apt:=by
 obtain⟨b1,k1,b2,k2,b3,k3,b4,k4,hv,i1,i2,i3,i4⟩:=h.at_;simp only[Value.agg.injEq,Array.mk.injEq,List.cons.injEq,Value.slice.injEq,and_true,true_and] at hv;obtain⟨⟨rfl,_⟩,⟨rfl,_⟩,⟨rfl,_⟩,rfl,_⟩:=hv;exact⟨i1,i2,i3,i4⟩
theorem DbtAt.keep {c:Cs}{l:List Prb}{a b:Nat}{s:List Nat}{B M:Nat}{w w':World}{x y z:List Nat}{v:Value}(h:DbtAt c l a b s B M w x y z v)(hk:Keep (fun k=>B≤k∧k<M) w w'):DbtAt c l a b s B M w' x y z v:=by
 obtain⟨a1,c1,a2,c2,a3,c3,a4,c4,h1,i1,i2,i3,i4,h2,h3⟩:=h.at_;exact⟨h.fst,h.can,a1,c1,a2,c2,a3,c3,a4,c4,h1,i1.keep hk,i2.keep hk,i3.keep hk,i4.keep hk,h2,h3⟩
theorem DbtAt.mono {c:Cs}{l:List Prb}{a b:Nat}{s:List Nat}{B M B' M':Nat}{w:World}{x y z:List Nat}{v:Value}(h:DbtAt c l a b s B M w x y z v)(hB:B'≤B)(hM:M≤M'):DbtAt c l a b s B' M' w x y z v:=by
 obtain⟨a1,c1,a2,c2,a3,c3,a4,c4,h1,i1,i2,i3,i4,h2,h3⟩:=h.at_;exact⟨h.fst,h.can,a1,c1,a2,c2,a3,c3,a4,c4,h1,i1.mono hB hM,i2.mono hB hM,i3.mono hB hM,i4.mono hB hM,h2,h3⟩
def DbtCells (c:Cs)(l:List Prb)(a b:Nat)(s:List Nat)(ok:Prop)(B M:Nat)(W:World)(cs:Array Value)(bb:Bool):Prop:=
 ((¬ok∨doubtOf c l a b s=none)∧bb=false∧cs = #[.slice none 0 0,.slice none 0 0,.slice none 0 0,.slice none 0 0])∨∃x y z,ok∧bb=true∧DbtAt c l a b s B M W x y z (.agg cs)
theorem DbtCells.keep {c:Cs}{l:List Prb}{a b:Nat}{s:List Nat}{ok:Prop}{B M:Nat}{W W':World}{cs:Array Value}{bb:Bool}(h:DbtCells c l a b s ok B M W cs bb)(hk:Keep (fun k=>B≤k∧k<M) W W'):DbtCells c l a b s ok B M W' cs bb:=by
 rcases h with h|⟨x,y,z,h0,h1,h2⟩
 ·exact .inl h
 ·exact .inr ⟨x,y,z,h0,h1,h2.keep hk⟩
theorem DbtCells.mono {c:Cs}{l:List Prb}{a b:Nat}{s:List Nat}{ok:Prop}{B M B' M':Nat}{W:World}{cs:Array Value}{bb:Bool}(h:DbtCells c l a b s ok B M W cs bb)(hB:B'≤B)(hM:M≤M'):DbtCells c l a b s ok B' M' W cs bb:=by
 rcases h with h|⟨x,y,z,h0,h1,h2⟩
 ·exact .inl h
 ·exact .inr ⟨x,y,z,h0,h1,h2.mono hB hM⟩
theorem DbtCells.four {c:Cs}{l:List Prb}{a b:Nat}{s:List Nat}{ok:Prop}{B M:Nat}{W:World}{cs:Array Value}{bb:Bool}(h:DbtCells c l a b s ok B M W cs bb):∃u1 n1 k1 u2 n2 k2 u3 n3 k3 u4 n4 k4,cs = #[.slice u1 n1 k1,.slice u2 n2 k2,.slice u3 n3 k3,.slice u4 n4 k4]:=by
 rcases h with ⟨_,_,rfl⟩|⟨x,y,z,_,_,h⟩
 ·exact⟨_,_,_,_,_,_,_,_,_,_,_,_,rfl⟩
 ·obtain⟨a1,c1,a2,c2,a3,c3,a4,c4,h1,_⟩:=h.at_;cases h1;exact⟨_,_,_,_,_,_,_,_,_,_,_,_,rfl⟩
theorem DbtPost.cells {c:Cs}{l:List Prb}{a b:Nat}{s:List Nat}{w w':World}{e:Ending}(h:DbtPost c l a b s w e w'):Below w.heap.size w w'∧∃cs bb,e = .returned (.tuple #[.agg cs,.bool bb])∧DbtCells c l a b s True w.heap.size w'.heap.size w' cs bb:=by
 obtain⟨hb,(⟨h1,rfl⟩|⟨x,y,z,v,h1,rfl⟩)⟩:=h
 ·exact⟨hb,_,_,rfl,.inl ⟨.inr h1,rfl,rfl⟩⟩
 ·obtain⟨a1,c1,a2,c2,a3,c3,a4,c4,rfl,_⟩:=h1.at_;exact⟨hb,_,_,rfl,.inr ⟨x,y,z,trivial,rfl,h1⟩⟩
section
variable {t:Nat}{c:Cs}{pa:Option Addr}{pc:Nat}{l:List Prb}{qa:Option Addr}{qc:Nat}
theorem doubt2_any (hsm:c.Small)(hpr:probesErr c l=0)(g1 g2 g3 g:Nat)(hg:g+2≤t)(a b:Nat)(ha:a<c.parts.length)(hb:b<c.parts.length)(sa:Option Addr)(s:List Nat)(sc:Nat)(hs:∀v∈s,v<l.length)(hsl:s.length≤1000)(w:World)(h:LabAt w t c pa pc l qa qc)(hS:Ints w sa (natInts s))
 (h1:Box w g1 #[.int .i64 a] 3) (h2:Box w g2 #[.int .i64 b] 3) (h3:Box w g3 #[.slice sa s.length sc] 26) (h4:Box w g #[.slice none 0 0,.slice none 0 0,.slice none 0 0,.slice none 0 0] 53) (h5:Box w (g+1) #[.bool false] 4):
 Calls Tryz.prog 108 #[.pointer (some ⟨t,0,none⟩),.pointer (some ⟨g1,0,none⟩),.pointer (some ⟨g2,0,none⟩),.pointer (some ⟨g3,0,none⟩),.pointer (some ⟨g,0,none⟩),.pointer (some ⟨g+1,0,none⟩)] w fun e w'=>e = .returned (.int .i64 0)∧Keep (fun k=>k≠g∧k≠g+1) w w'∧∃cs bb,Box w' g cs 53∧Box w' (g+1) #[.bool bb] 4∧DbtCells c l a b s True t w'.heap.size w' cs bb:=by
 have htl:t<w.heap.size:=h.box.lt;have HC:=zh (doubt_any hsm hpr a b ha hb sa s sc hs hsl w h hS);have e1:=h1.cell;have e2:=h2.cell;have e3:=h3.cell;have H4:=zh h4;have H5:=zh h5;clear hpr h hS h1 h2 h3 h4 h5 hs
 go_enter Tryz.func108,Tryz.ntmps108
 go_wp2_with fail
 refine zM HC ?_;rintro e w2 hpost;obtain⟨hb2,cs,bb,rfl,hd⟩:=hpost.cells;obtain⟨u1,n1,k1,u2,n2,k2,u3,n3,k3,u4,n4,k4,rfl⟩:=hd.four;have HX:=zh (H4.out.below' hb2);have HY:=zh (H5.out.below' hb2);have HB:=zh hb2;have HD:=zh (hd.mono (Nat.le_of_lt htl) (Nat.le_refl _));obtain⟨z1,z2⟩:=HX.out.rules;obtain⟨y1,y2⟩:=HY.out.rules;clear hpost hb2 hd e1 e2 e3 HC
 go_wp2_with fail
 go_ret
 refine⟨rfl,?_,_,bb,(((((HX.out.set_ 0 _).set_ 1 _).set_ 2 _).set_ 3 _).far zS _),((((HY.out.far zS _).far zS _).far zS _).far zS _).set_ 0 _,?_⟩
 ·exact((((((Keep.of_below' HB.out).setCell (.inl zS) _).setCell (.inl zS) _).setCell (.inl zS) _).setCell (.inl zS) _).setCell (.inl zS) _)
 ·exact(HD.out.keep ((((((Keep.refl _ w2).setCell (.inl zT) _).setCell (.inl zT) _).setCell (.inl zT) _).setCell (.inl zT) _).setCell (.inl zT) _)).mono (Nat.le_refl _) zS
end
def DoubtX (c:Cs)(l:List Prb)(a b:Nat)(s:List Nat)(er:Int)(w:World)(e:Ending)(w':World):Prop:=
 Below w.heap.size w w'∧∃cs bb,e = .returned (.tuple #[.agg cs,.bool bb,.int .i64 er])∧DbtCells c l a b s (er=0) w.heap.size w'.heap.size w' cs bb
theorem doubtX_any (c:Cs)(hsm:c.Small)(pa:Option Addr)(pc:Nat)(l:List Prb)(qa:Option Addr)(qc:Nat)(a b:Int)(sa:Option Addr)(S:List Int)(sc:Nat)(hSl:S.length≤1000)(w:World)(hp:PartsAt w pa c.parts)(hq:PrbsAt w qa l)(hS:Ints w sa S):
 Calls Tryz.prog 35 #[.agg #[.string c.ware,.int .i64 c.limit,.int .i64 c.by_,.slice pa c.parts.length pc],.slice qa l.length qc,.int .i64 a,.int .i64 b,.slice sa S.length sc] w (DoubtX c l a.toNat b.toNat (nats S) (xErr c l (twoB c.parts.length a b&&setB l.length S)) w):=by
 have hmf:=run_mf Tryz.prog;obtain⟨w4,hw4⟩:=zx (((((((w.alloc (.cells #[.string c.ware,.int .i64 c.limit,.int .i64 c.by_,.slice pa c.parts.length pc] 24)).alloc (.cells #[.int .i64 a] 3)).alloc (.cells #[.int .i64 b] 3)).alloc (.cells #[.slice sa S.length sc] 26)).alloc (.cells #[.slice none 0 0,.slice none 0 0,.slice none 0 0,.slice none 0 0] 53)).alloc (.cells #[.slice none 0 0,.slice none 0 0,.slice none 0 0,.slice none 0 0] 53)).alloc (.cells #[.bool false] 4));have hB4:Below w.heap.size w w4:=by rw[←hw4];go_grown
 have hs4:w4.heap.size=w.heap.size+7:=by rw[←hw4];simp
 have b0:Box w4 w.heap.size (csCells c pa pc) 24:=by rw[←hw4];exact((((((Box.new _ _ _).alloc _).alloc _).alloc _).alloc _).alloc _).alloc _
 have b1:Box w4 (w.heap.size+1) #[.int .i64 a] 3:=by rw[←hw4];exact(((((Box.new' zS).alloc _).alloc _).alloc _).alloc _).alloc _
 have b2:Box w4 (w.heap.size+2) #[.int .i64 b] 3:=by rw[←hw4];exact((((Box.new' zS).alloc _).alloc _).alloc _).alloc _
 have b3:Box w4 (w.heap.size+3) #[.slice sa S.length sc] 26:=by rw[←hw4];exact(((Box.new' zS).alloc _).alloc _).alloc _
 have b4:Box w4 (w.heap.size+4) #[.slice none 0 0,.slice none 0 0,.slice none 0 0,.slice none 0 0] 53:=by rw[←hw4];exact((Box.new' zS).alloc _).alloc _
 have b5:Box w4 (w.heap.size+5) #[.slice none 0 0,.slice none 0 0,.slice none 0 0,.slice none 0 0] 53:=by rw[←hw4];exact(Box.new' zS).alloc _
 have b6:Box w4 (w.heap.size+6) #[.bool false] 4:=by rw[←hw4];exact Box.new' zS
 have hS4:=hS.below hB4;have hask:=asked9_any c hsm pa pc l qa qc 107 #[.pointer (some ⟨w.heap.size+1,0,none⟩),.pointer (some ⟨w.heap.size+2,0,none⟩),.pointer (some ⟨w.heap.size+3,0,none⟩)] 108 #[.pointer (some ⟨w.heap.size+1,0,none⟩),.pointer (some ⟨w.heap.size+2,0,none⟩),.pointer (some ⟨w.heap.size+3,0,none⟩),.pointer (some ⟨w.heap.size+5,0,none⟩),.pointer (some ⟨w.heap.size+6,0,none⟩)] (twoB c.parts.length a b&&setB l.length S)
  (fun er W'=>er=0∧Below w.heap.size w W'∧Box W' (w.heap.size+4) #[.slice none 0 0,.slice none 0 0,.slice none 0 0,.slice none 0 0] 53∧∃cs bb,Box W' (w.heap.size+5) cs 53∧Box W' (w.heap.size+6) #[.bool bb] 4∧DbtCells c l a.toNat b.toNat (nats S) True (w.heap.size+7) W'.heap.size W' cs bb) w4 (hp.below hB4) (hq.below hB4)
  (fun hpr=>⟨fun args W=>by simp[go_sem],fun W t hW ht hlab=>doubt1_arg hsm hpr _ _ _ a b sa S sc W hlab (hS4.below hW) zO (b1.below' hW) (b2.below' hW) (b3.below' hW)⟩)
  (fun hpr hok _=>⟨fun args W=>by simp[go_sem],fun W t hW ht hlab=>by
   simp only[Bool.and_eq_true] at hok;obtain⟨x,y,rfl,rfl,hx,hy⟩:=two_nats hok.1;obtain⟨e1,hsv⟩:=set_nats hok.2;have hl1:(nats S).length=S.length:=by simp[nats]
   refine(doubt2_any hsm hpr (w.heap.size+1) (w.heap.size+2) (w.heap.size+3) (w.heap.size+5) zO x y hx hy sa (nats S) sc hsv zO W hlab (by rw[←e1];exact hS4.below hW) (b1.below' hW) (b2.below' hW) (by rw[hl1];exact b3.below' hW) (b5.below' hW) (b6.below' hW)).mono ?_;rintro e W' ⟨rfl,hk,cs,bb,h1,h2,h3⟩;exact⟨0,rfl,rfl,(hB4.trans (hW.mono hB4.size)).trans ((hk.mono fun k (hk:k<w.heap.size)=>by omega).below (Nat.le_trans hB4.size hW.size)),hk.heap zO (b4.below' hW),cs,bb,h1,h2,h3.mono zO (Nat.le_refl _)⟩⟩)
 have HA:=zh hask;have HW:=zh hw4;have HB4:=zh hB4;have H3:=zh b4;have H4:=zh b5;have H5:=zh b6;have e0:=zC (b0);obtain⟨er0,her⟩:=zx (xErr c l (twoB c.parts.length a b&&setB l.length S));have HER:=zh her;clear hask hw4 hB4 b0 b1 b2 b3 b4 b5 b6 hp hq her hs4 hS hS4
 go_enter Tryz.func35,Tryz.ntmps35
 go_upto_region 3 with fail
 simp only[HW.out]
 go_wp2_with fail
 refine zM HA ?_;rintro e w5 hpost;obtain⟨er,rfl,hcs⟩:=ask_cases hpost;have hcom:Below w.heap.size w w5∧Box w5 (w.heap.size+4) #[.slice none 0 0,.slice none 0 0,.slice none 0 0,.slice none 0 0] 53∧er=xErr c l (twoB c.parts.length a b&&setB l.length S)∧∃cs bb,Box w5 (w.heap.size+5) cs 53∧Box w5 (w.heap.size+6) #[.bool bb] 4∧DbtCells c l a.toNat b.toNat (nats S) (er=0) (w.heap.size+7) w5.heap.size w5 cs bb:=by
  rcases hcs with ⟨h1,rfl,hb5⟩|⟨h1,rfl,hb5,h3,cs,bb,h4,h5,h6⟩
  ·exact⟨HB4.out.trans (hb5.mono HB4.out.size),H3.out.below' hb5,rfl,_,_,H4.out.below' hb5,H5.out.below' hb5,.inl ⟨.inl h1,rfl,rfl⟩⟩
  ·refine⟨hb5,h3,h1.symm,cs,bb,h4,h5,?_⟩
   rcases h6 with ⟨q1,q2,q3⟩|⟨x,y,z,_,q⟩
   ·exact .inl ⟨.inr (q1.resolve_left zS),q2,q3⟩
   ·exact .inr ⟨x,y,z,rfl,q⟩
 obtain⟨hb5,h3,her,cs,bb,h4,h5,h6⟩:=hcom;obtain⟨u1,n1,k1,u2,n2,k2,u3,n3,k3,u4,n4,k4,hcse⟩:=h6.four;subst hcse;have HB5:=zh hb5;have HR:=zh h3;have HX:=zh h4;have HY:=zh h5;have HC:=zh h6;have HE:=zh her;clear hcs hpost e0 hb5 h3 h4 h5 h6 her HA
 go_wp2_with fail
 have K0:Hid (∀A,Box A (w.heap.size+5) #[.slice u1 n1 k1,.slice u2 n2 k2,.slice u3 n3 k3,.slice u4 n4 k4] 53∧Box A (w.heap.size+6) #[.bool bb] 4→(∀j,A.cell? ⟨w.heap.size+5,j,none⟩=(#[.slice u1 n1 k1,.slice u2 n2 k2,.slice u3 n3 k3,.slice u4 n4 k4]:Array Value)[j]?)∧(∀j,A.cell? ⟨w.heap.size+6,j,none⟩=(#[.bool bb]:Array Value)[j]?)):=zh fun A hA=>⟨hA.1.cell,hA.2.cell⟩
 refine wp_region_L (fun A=>Box A (w.heap.size+5) #[.slice u1 n1 k1,.slice u2 n2 k2,.slice u3 n3 k3,.slice u4 n4 k4] 53∧Box A (w.heap.size+6) #[.bool bb] 4) 6 zK ?_;have hSS:Box w5.drew (w.heap.size+5) #[.slice u1 n1 k1,.slice u2 n2 k2,.slice u3 n3 k3,.slice u4 n4 k4] 53∧Box w5.drew (w.heap.size+6) #[.bool bb] 4:=⟨HX.out,HY.out⟩
 have hR:Box w5.drew (w.heap.size+4) #[.slice none 0 0,.slice none 0 0,.slice none 0 0,.slice none 0 0] 53:=HR.out;have hB:Below w.heap.size w w5.drew:=HB5.out.drew;obtain⟨M6,hM6⟩:=zx (w5.heap.size);have hC:DbtCells c l a.toNat b.toNat (nats S) (er=0) (w.heap.size+7) M6 w5.drew #[.slice u1 n1 k1,.slice u2 n2 k2,.slice u3 n3 k3,.slice u4 n4 k4] bb:=by
  have:=HC.out.keep (Keep.refl _ w5).drew
  rwa [hM6] at this
 have HM6:=zh (show w5.drew.heap.size=M6 by rw[World.size_drew];exact hM6);clear hM6;generalize w5.drew=w6 at *;refine tM K0 0 hSS ?_;refine tM K0 1 hSS ?_;refine tM K0 2 hSS ?_;obtain⟨z1,z2⟩:=hR.rules;have hS2:Box ((((w6.setCell ⟨w.heap.size+4,0,none⟩ (.slice u1 n1 k1)).setCell ⟨w.heap.size+4,1,none⟩ (.slice u2 n2 k2)).setCell ⟨w.heap.size+4,2,none⟩ (.slice u3 n3 k3)).setCell ⟨w.heap.size+4,3,none⟩ (.slice u4 n4 k4)) (w.heap.size+5) #[.slice u1 n1 k1,.slice u2 n2 k2,.slice u3 n3 k3,.slice u4 n4 k4] 53∧Box ((((w6.setCell ⟨w.heap.size+4,0,none⟩ (.slice u1 n1 k1)).setCell ⟨w.heap.size+4,1,none⟩ (.slice u2 n2 k2)).setCell ⟨w.heap.size+4,2,none⟩ (.slice u3 n3 k3)).setCell ⟨w.heap.size+4,3,none⟩ (.slice u4 n4 k4)) (w.heap.size+6) #[.bool bb] 4:=
  ⟨((((hSS.1.far zS _).far zS _).far zS _).far zS _),((((hSS.2.far zS _).far zS _).far zS _).far zS _)⟩
 have hR6:Box ((((w6.setCell ⟨w.heap.size+4,0,none⟩ (.slice u1 n1 k1)).setCell ⟨w.heap.size+4,1,none⟩ (.slice u2 n2 k2)).setCell ⟨w.heap.size+4,2,none⟩ (.slice u3 n3 k3)).setCell ⟨w.heap.size+4,3,none⟩ (.slice u4 n4 k4)) (w.heap.size+4) #[.slice u1 n1 k1,.slice u2 n2 k2,.slice u3 n3 k3,.slice u4 n4 k4] 53:=((((hR.set_ 0 _).set_ 1 _).set_ 2 _).set_ 3 _)
 have hB6:Below w.heap.size w ((((w6.setCell ⟨w.heap.size+4,0,none⟩ (.slice u1 n1 k1)).setCell ⟨w.heap.size+4,1,none⟩ (.slice u2 n2 k2)).setCell ⟨w.heap.size+4,2,none⟩ (.slice u3 n3 k3)).setCell ⟨w.heap.size+4,3,none⟩ (.slice u4 n4 k4)):=((((hB.setCell zS _).setCell zS _).setCell zS _).setCell zS _)
 have hC6:DbtCells c l a.toNat b.toNat (nats S) (er=0) (w.heap.size+7) M6 ((((w6.setCell ⟨w.heap.size+4,0,none⟩ (.slice u1 n1 k1)).setCell ⟨w.heap.size+4,1,none⟩ (.slice u2 n2 k2)).setCell ⟨w.heap.size+4,2,none⟩ (.slice u3 n3 k3)).setCell ⟨w.heap.size+4,3,none⟩ (.slice u4 n4 k4)) #[.slice u1 n1 k1,.slice u2 n2 k2,.slice u3 n3 k3,.slice u4 n4 k4] bb:=hC.keep (((((Keep.refl _ w6).setCell (.inl zS) _).setCell (.inl zS) _).setCell (.inl zS) _).setCell (.inl zS) _);have HSZ:=zh (show((((w6.setCell ⟨w.heap.size+4,0,none⟩ (.slice u1 n1 k1)).setCell ⟨w.heap.size+4,1,none⟩ (.slice u2 n2 k2)).setCell ⟨w.heap.size+4,2,none⟩ (.slice u3 n3 k3)).setCell ⟨w.heap.size+4,3,none⟩ (.slice u4 n4 k4)).heap.size=w6.heap.size by simp)
 refine anyL_skip (i:=3) (w':=((((w6.setCell ⟨w.heap.size+4,0,none⟩ (.slice u1 n1 k1)).setCell ⟨w.heap.size+4,1,none⟩ (.slice u2 n2 k2)).setCell ⟨w.heap.size+4,2,none⟩ (.slice u3 n3 k3)).setCell ⟨w.heap.size+4,3,none⟩ (.slice u4 n4 k4))) rfl zK (by rfl) ?_ (.inr hS2) ?_
 ·go_simp
  try with_reducible rfl
 try simp only[pZ]
 clear hSS hR hB hC z1 z2;generalize ((((w6.setCell ⟨w.heap.size+4,0,none⟩ (.slice u1 n1 k1)).setCell ⟨w.heap.size+4,1,none⟩ (.slice u2 n2 k2)).setCell ⟨w.heap.size+4,2,none⟩ (.slice u3 n3 k3)).setCell ⟨w.heap.size+4,3,none⟩ (.slice u4 n4 k4))=w7 at *;refine anyL_run (i:=4) (v:=.bool bb) (w':=w7) rfl zK (by rfl) (by go_simp) (.inr hS2) ?_
 try simp only[pZ]
 refine anyL_run (i:=5) (v:=.int .i64 er) (w':=w7) rfl zK (by rfl) (by go_simp) (.inr hS2) ?_
 try simp only[pZ]
 refine anyL_done zK ?_ _;have HR6:=zh hR6;have HB6:=zh hB6;have HC6:=zh hC6;clear hS2 hR6 hB6 hC6 K0 HC
 go_wp2_with fail
 refine bodyPost_ret (results_ctt rfl rfl (run_loadVar_row _ _ 53 53 _ (0,0) _ HR6.out Tryz.underlying53 rfl open_size)) rfl ?_;refine⟨HB6.out,_,bb,by rw[←HE.out];rfl,?_⟩;rw[←HE.out];exact HC6.out.mono zO (by rw[HSZ.out,HM6.out];exact Nat.le_refl _)
end Go.Proofs.YtjgldeeianionaaGreat
namespace Go.Proofs.YtjgldeeianionaaGreat
open Go.RowKit
def pvS (o:Option (List Nat)):List Nat:=o.getD []
def pvN (l:List Prb)(o:Option (List Nat)):Int:=match o with|some s=>costOf l s|none=>0
theorem plan_val {l:List Prb}{o:Option (List Nat)}{er:Int}{w w':World}{e:Ending}(h:PlanX l o er w e w'):∃a n cap,e = .returned (.tuple #[.agg #[.slice a n cap,.int .i64 (pvN l (if er=0 then o else none))],.bool (if er=0 then o else none).isSome,.int .i64 er])∧n=(pvS (if er=0 then o else none)).length∧Ints w' a (natInts (pvS (if er=0 then o else none)))∧Below w.heap.size w w':=by
 obtain⟨hb,cs,bb,rfl,hc⟩:=h;generalize (if er=0 then o else none)=p at *
 rcases hc with ⟨rfl,rfl,rfl⟩|⟨x,ra,rc,rfl,rfl,rfl,hi,_⟩
 ·exact⟨none,0,0,rfl,rfl,Ints.nil _ _,hb⟩
 ·exact⟨ra,_,rc,rfl,rfl,hi.at_,hb⟩
theorem pv_len {c:Cs}{l:List Prb}{a b:Nat}{ok:Bool}:(pvS (if xErr c l ok=0 then cheapestOf c l a b else none)).length≤1000000:=by
 split
 ·rename_i h
  obtain⟨h1,_,_⟩:=xErr_zero h;have h5:=(probes_ok h1).2.1
  rcases hb:cheapestOf c l a b with _|s
  ·simp[pvS]
  ·have:=(sets_in (cheapest_some hb).1).2;simp only[pvS,Option.getD_some]
   omega
 ·simp[pvS]
theorem proofSets_open {c:Cs}{l:List Prb}{a b:Nat}{s:List Nat}(hs:s∈proofSets c l a b):s∈setsOf l.length∧decidesB c l a b s=false:=proofAll_open (List.mem_filter.1 hs).1
theorem small_good {c:Cs}{l:List Prb}{a b:Nat}{d:Opn}(hp:probesErr c l=0)(h:doubtedB c l a b d=true):d.Small:=doubted_small hp h
section
variable {c:Cs}{l:List Prb}{pa:Option Addr}{pc:Nat}{qa:Option Addr}{qc:Nat}
theorem checkDoubt_good (hsm:c.Small){x y:Nat}(hx0:xErr c l (twoB c.parts.length (x:Int) (y:Int))=0)(d:Opn)(hd:doubtedB c l x y d=true)(a1 a2 a3 a4:Option Addr)(c1 c2 c3 c4:Nat)(w:World)(hp:PartsAt w pa c.parts)(hq:PrbsAt w qa l)(hv:OpnAt w d (.agg #[.slice a1 d.probes.length c1,.slice a2 d.found.length c2,.slice a3 d.tog.length c3,.slice a4 d.apt.length c4])):
 Calls Tryz.prog 29 #[.agg #[.string c.ware,.int .i64 c.limit,.int .i64 c.by_,.slice pa c.parts.length pc],.slice qa l.length qc,.int .i64 (x:Int),.int .i64 (y:Int),.agg #[.slice a1 d.probes.length c1,.slice a2 d.found.length c2,.slice a3 d.tog.length c3,.slice a4 d.apt.length c4]] w fun e w'=>e = .returned (.tuple #[.bool true,.int .i64 0])∧Below w.heap.size w w':=by
 obtain⟨i1,i2,i3,i4⟩:=opn_ints hv;obtain⟨z1,_,_⟩:=xErr_zero hx0;refine(checkDoubtR9_any c hsm pa pc l qa qc x y d (small_good z1 hd) a1 a2 a3 a4 c1 c2 c3 c4 w hp hq i1 i2 i3 i4).mono ?_;intro e w' h;obtain⟨hb,he⟩:=XPost.bool h;refine⟨?_,hb⟩;rw[he,hx0,Int.toNat_natCast,Int.toNat_natCast,hd]
 rfl
theorem same_nats {s:List Nat}{n m:Nat}{w:World}{ra sa:Option Addr}{rc sc:Nat}(h1:Ints w ra (natInts s))(h2:Ints w sa (natInts s))(hn:n=s.length)(hm:m=s.length)(hl:s.length≤1000000):Calls Tryz.prog 30 #[.slice ra n rc,.slice sa m sc] w fun e w'=>e = .returned (.bool true)∧Below w.heap.size w w':=by
 subst hn;subst hm;have h:=same_ref ra sa rc sc (natInts s) (natInts s) w h1 h2 (by rw[nat_len];exact hl) (by rw[nat_len];exact hl);rw[nat_len] at h;exact h.mono (by rintro e w' ⟨rfl,h⟩;exact⟨by simp,h⟩)
end
def dbtV (c:Cs)(l:List Prb)(a b:Nat)(s:List Nat)(er:Int):Opn:=if er=0 then dbtOf c l a b s else⟨[],[],[],[]⟩
theorem doubt_val {c:Cs}{l:List Prb}{a b:Nat}{s:List Nat}{er:Int}{w w':World}{e:Ending}(h:DoubtX c l a b s er w e w'):∃a1 n1 c1 a2 n2 c2 a3 n3 c3 a4 n4 c4,e = .returned (.tuple #[.agg #[.slice a1 n1 c1,.slice a2 n2 c2,.slice a3 n3 c3,.slice a4 n4 c4],.bool (er==0&&(doubtOf c l a b s).isSome),.int .i64 er])∧n1=(dbtV c l a b s er).probes.length∧n2=(dbtV c l a b s er).found.length∧n3=(dbtV c l a b s er).tog.length∧n4=(dbtV c l a b s er).apt.length ∧
 OpnAt w' (dbtV c l a b s er) (.agg #[.slice a1 (dbtV c l a b s er).probes.length c1,.slice a2 (dbtV c l a b s er).found.length c2,.slice a3 (dbtV c l a b s er).tog.length c3,.slice a4 (dbtV c l a b s er).apt.length c4])∧Below w.heap.size w w':=by
 obtain⟨hb,cs,bb,rfl,(⟨h1,rfl,rfl⟩|⟨x,y,z,h1,rfl,h2⟩)⟩:=h
 ·have hv:dbtV c l a b s er=⟨[],[],[],[]⟩:=by
   unfold dbtV
   split
   ·rename_i h0
    rcases h1 with h1|h1
    ·exact absurd h0 h1
    ·unfold dbtOf;rw[h1]
   ·rfl
  have hf:(er==0&&(doubtOf c l a b s).isSome)=false:=by
   rcases h1 with h1|h1
   ·simp[h1]
   ·simp[h1]
  rw[hv,hf];exact⟨none,0,0,none,0,0,none,0,0,none,0,0,rfl,rfl,rfl,rfl,rfl,⟨none,0,none,0,none,0,none,0,rfl,Ints.nil _ _,Ints.nil _ _,Ints.nil _ _,Ints.nil _ _⟩,hb⟩
 ·subst h1;have hd:(doubtOf c l a b s).isSome=true:=by rw[h2.fst];rfl
  obtain⟨u,hu,hv,hk⟩:=h2.opn;have hat:=hk w' (Keep.refl _ _);have hV:dbtV c l a b s 0=u.d:=by unfold dbtV;rw[if_pos rfl,hu]
  rw[hV,hd];simp only[OpnE.val,Value.agg.injEq] at hv;subst hv;exact⟨u.a1,_,u.c1,u.a2,_,u.c2,u.a3,_,u.c3,u.a4,_,u.c4,rfl,rfl,rfl,rfl,rfl,hat,hb⟩
theorem dbt_found {c:Cs}{l:List Prb}{a b:Nat}{s x:List Nat}(h:doubtOf c l a b s=some x):(dbtOf c l a b s).found=natInts x:=by
 have hsure:=List.find?_some h;simp only[Bool.not_eq_true'] at hsure;unfold dbtOf;rw[h]
 rcases hcn:canC c l s x with _|d
 ·rw[sure_none hcn] at hsure;cases hsure
 ·simp only[hcn]
end Go.Proofs.YtjgldeeianionaaGreat
