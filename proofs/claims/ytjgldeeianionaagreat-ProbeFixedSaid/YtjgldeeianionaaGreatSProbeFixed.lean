/- ProbeFixed: the empty set decides just what is not open, and no plan is cheaper than the best one: the law returns true for every input, and its arguments read as before. No condition. -/
import Derived.ProofKit
import Derived.JoinedCond
import Derived.Test.YtjgldeeianionaaGreatRows
import Derived.RowKit
import Derived.RowKit3
import Derived.Lib.SmallJoins
import Derived.Deep.Slices
import Derived.WideKeyArgs
import Derived.ChangeMaps5
import Derived.OpenShut
import Derived.WalkKit
import Derived.WalkSpells
import Derived.WalkLawsBesides
import Derived.RangeFuncKeeps
import Derived.Deep.Draws
import Derived.Test.YtjgldeeianionaaGreatProg
import Derived.Maps.OwnSet
import Derived.Maps.OwnOps
import Derived.Deep.LoopGhost
import Derived.Deep.DeepCutAuto
import Derived.Deep.QuietTactic
import Derived.BigQuiet
import Derived.Handy
import Derived.Lib.Hide
import Derived.Lib.ConvBytes
import Derived.Tactics2
import Derived.Defers
import Derived.Recover
import Derived.Laws.Pointers
import Derived.Deep.MidRow
import Derived.Sort.QuietIn
import Derived.ChangeKeysEq
import Derived.Sort.CutIn
import Derived.Maps.AppendAt
import Derived.OwnWalk
import Derived.OwnWalkIn
import Derived.Shelf.Abstract
import Derived.Deep.OwnRows
import Derived.Laws.EntriesVeiled
import Derived.Deep.RegionHeld3
import Derived.RangeFuncNested
import Derived.RangeFuncBound
import Derived.RangeFuncCalls
import Derived.RangeFuncLeaves
import Derived.RangeFuncRecord
import Derived.TacticsInMore
import Derived.LoopNIn
import Derived.LoopIn
import Derived.Scope
import Derived.WalkMore
import Derived.Deep.Quiet
import Derived.OrdersIn
import Derived.StillTail
import Derived.StillTailTactics
import Derived.OrdersHeld
import Derived.Deep.RegionHeld
import Derived.Test.YtjgldeeianionaaGreatS02
import Derived.Test.YtjgldeeianionaaGreatS11
import Derived.Test.YtjgldeeianionaaGreatS40
import Derived.Test.YtjgldeeianionaaGreatS44
import Derived.Test.YtjgldeeianionaaGreatS47
import Derived.Test.YtjgldeeianionaaGreatS01
set_option maxHeartbeats 4000000
set_option maxRecDepth 100000
set_option linter.unusedSimpArgs false
set_option linter.unusedVariables false
namespace Go.Proofs.YtjgldeeianionaaGreat
open Go.RowKit
attribute [local go_sem] Oper.semAt_some
theorem probeFixed_any (c:Cs)(hf:c.Fit)(pa:Option Addr)(pc:Nat)(_:c.parts.length≤pc)(qa:Option Addr)(l:List Prb)(qc:Nat)(hlk:l.length≤qc)(hlm:qc≤maxLen)(a:Int)(_:(Lit.int .i64 a).wf=true)(b:Int)(_:(Lit.int .i64 b).wf=true)(w:World)(hp:PartsAt w pa c.parts)(hq:PrbsAt w qa l):
 Calls Tryz.prog 7 #[.agg #[.string c.ware,.int .i64 c.limit,.int .i64 c.by_,.slice pa c.parts.length pc],.slice qa l.length qc,.int .i64 a,.int .i64 b] w fun e w'=>e = .returned (.bool true)∧Below w.heap.size w w':=by
 obtain⟨w1,hw1,hB1,b1⟩:=box_case9 w c pa pc
 have HFW:=zh (few9_any c hf pa pc l (Nat.le_trans hlk hlm) qa qc w1 (hp.below hB1) (hq.below hB1))
 have HW:=zh hw1
 have P:=zh (hp.below hB1)
 have Q:=zh (hq.below hB1)
 have X1:=zh b1
 have HB:=zh hB1
 have HSO:=zh sounds_any
 clear hw1 hB1 b1 hp hq
 have e1:∀i,w1.cell? ⟨w.heap.size,i,none⟩=(#[.string c.ware,.int .i64 c.limit,.int .i64 c.by_,.slice pa c.parts.length pc]:Array Value)[i]?:=X1.out.cell
 go_enter Tryz.func7,Tryz.ntmps7
 go_upto_region 1 with fail
 simp only[HW.out]
 go_wp2_with fail
 (with_reducible refine HFW.out.mono ?_)
 rintro e w2 ⟨⟨fb,rfl,hfb⟩,hb⟩
 clear e1
 have P:=zh (P.out.below hb)
 have Q:=zh (Q.out.below hb)
 have X1:=zh (X1.out.below' hb)
 have HB:=zh (HB.out.trans (hb.mono HB.out.size))
 clear hb HFW hf
 cases fb
 ·clear hfb
  go_wp2_with fail
  (with_reducible refine(HSO.out _).mono ?_)
  rintro e w3 ⟨rfl,hb⟩
  have P:=zh (P.out.below hb)
  have Q:=zh (Q.out.below hb)
  have X1:=zh (X1.out.below' hb)
  have HB:=zh (HB.out.trans (hb.mono HB.out.size))
  clear hb
  go_wp2_with fail
  go_ret
  exact⟨rfl,HB.out⟩
 ·have hsm:=(hfb rfl).1
  clear hfb
  have HDE:=zh (fun W h1 h2=>decides_nil_tup (c:=c) (l:=l) (w:=W) (pa:=pa) (pc:=pc) (qa:=qa) (qc:=qc) hsm a b h1 h2)
  have HCH:=zh (fun W h1 h2=>cheapest_tup (c:=c) (l:=l) (w:=W) (pa:=pa) (pc:=pc) (qa:=qa) (qc:=qc) hsm a b h1 h2)
  have HBE:=zh (fun W h1 h2=>best_tup (c:=c) (l:=l) (w:=W) (pa:=pa) (pc:=pc) (qa:=qa) (qc:=qc) hsm h1 h2)
  have HAN:=zh (fun W h1=>answer_tup (c:=c) (w:=W) (pa:=pa) (pc:=pc) hsm a b h1)
  have HC2:=zh (fun(x y:Nat) W h1 h2=>cheapest_tup (c:=c) (l:=l) (w:=W) (pa:=pa) (pc:=pc) (qa:=qa) (qc:=qc) hsm x y h1 h2)
  have HZ:=zh (fun h=>xErr_zero (c:=c) (l:=l) (ok:=twoB c.parts.length a b) h)
  obtain⟨X,hX⟩:=zx (xErr c l (twoB c.parts.length a b))
  rw[hX] at HDE HCH HZ
  by_cases h0:X=0
  ·subst h0
   obtain⟨z1,z2,z3⟩:=HZ.out rfl
   obtain⟨x,y,rfl,rfl,hx,hy⟩:=two_nats z2
   have hxy:=two_ne z2
   have hB0:xErr c l true=0:=xErr_ok z1 rfl z3
   have hak:=ask_two (probes_ok z1).1 z3 hx hy
   have hdn:decidesB c l x y []=(ansAt c x y != 3):=decides_nil z3
   simp only[Int.toNat_natCast] at HDE HCH HAN
   rw[hak] at HAN
   rw[hB0] at HBE
   rw[hdn] at HDE
   simp only[if_true,beq_self_eq_true,Bool.true_and,ne_eq,not_true_eq_false,false_or,true_and] at HDE HCH HAN HBE
   have HLE:=zh (fun(h3:ansAt c x y=3) s hs=>best_least (s:=s) z1 hx hy hxy h3 hs)
   have HNI:=zh (fun(h3:ansAt c x y≠3)=>cheapest_nil z1 (show decidesB c l x y []=true by rw[hdn];simpa using h3))
   have HTW:=zh (fun(x y:Nat) (hx:x<c.parts.length) (hy:y<c.parts.length) (hn:x≠y)=>show xErr c l (twoB c.parts.length x y)=0 from xErr_ok z1 (two_of hx hy hn) z3)
   have HX0:=zh hB0
   have hl5:=(probes_ok z1).2.1
   clear z1 z2 z3 hx hy hxy hak hB0 hdn hX hsm HZ
   generalize ansAt c x y=N at *
   by_cases hN:N=3
   ·subst hN
    clear HNI
    simp only[bne_self_eq_false] at HDE
    have e1:∀i,w2.cell? ⟨w.heap.size,i,none⟩=(#[.string c.ware,.int .i64 c.limit,.int .i64 c.by_,.slice pa c.parts.length pc]:Array Value)[i]?:=X1.out.cell
    go_wp2_with fail
    (with_reducible refine(HDE.out _ P.out Q.out).mono ?_)
    rintro e w3 ⟨rfl,hb⟩
    clear e1
    have P:=zh (P.out.below hb)
    have Q:=zh (Q.out.below hb)
    have X1:=zh (X1.out.below' hb)
    have HB:=zh (HB.out.trans (hb.mono HB.out.size))
    clear hb
    go_upto_region 4 with fail
    have e1:∀i,w3.cell? ⟨w.heap.size,i,none⟩=(#[.string c.ware,.int .i64 c.limit,.int .i64 c.by_,.slice pa c.parts.length pc]:Array Value)[i]?:=X1.out.cell
    go_wp2_with fail
    (with_reducible refine(HCH.out _ P.out Q.out).mono ?_)
    rintro e w4 ⟨ra,n,rc,k,bb,rfl,hpl,hb⟩
    clear e1
    have HPL:=zh hpl
    clear hpl
    have P:=zh (P.out.below hb)
    have Q:=zh (Q.out.below hb)
    have X1:=zh (X1.out.below' hb)
    have HB:=zh (HB.out.trans (hb.mono HB.out.size))
    clear hb
    go_upto_region 5 with fail
    have hb:Below w4.heap.size w4 (w4.alloc (.cells #[.slice ra n rc,.int .i64 k] 42)):=by go_grown
    have x11:Box (w4.alloc (.cells #[.slice ra n rc,.int .i64 k] 42)) (w4.heap.size) #[.slice ra n rc,.int .i64 k] 42:=Box.new _ _ _
    generalize (w4.alloc (.cells #[.slice ra n rc,.int .i64 k] 42))=w5 at *
    have P:=zh (P.out.below hb)
    have Q:=zh (Q.out.below hb)
    have X1:=zh (X1.out.below' hb)
    have HPL:=zh (HPL.out.below hb)
    have HB:=zh (HB.out.trans (hb.mono HB.out.size))
    clear hb
    have X11:=zh x11
    clear x11
    have e1:∀i,w5.cell? ⟨w.heap.size,i,none⟩=(#[.string c.ware,.int .i64 c.limit,.int .i64 c.by_,.slice pa c.parts.length pc]:Array Value)[i]?:=X1.out.cell
    go_wp2_with fail
    (with_reducible refine(HBE.out _ P.out Q.out).mono ?_)
    rintro e w6 ⟨bx,by_,ba,bn,bc,bk,bbb,rfl,hbe,hb⟩
    clear e1
    have HBP:=zh hbe
    clear hbe
    have P:=zh (P.out.below hb)
    have Q:=zh (Q.out.below hb)
    have X1:=zh (X1.out.below' hb)
    have HPL:=zh (HPL.out.below hb)
    have X11:=zh (X11.out.below' hb)
    have HB:=zh (HB.out.trans (hb.mono HB.out.size))
    clear hb
    go_upto_region 6 with fail
    have hb:Below w6.heap.size w6 ((w6.alloc (.cells #[.int .i64 bx,.int .i64 by_] 57)).alloc (.cells #[.slice ba bn bc,.int .i64 bk] 42)):=by go_grown
    have x14:Box ((w6.alloc (.cells #[.int .i64 bx,.int .i64 by_] 57)).alloc (.cells #[.slice ba bn bc,.int .i64 bk] 42)) (w6.heap.size) #[.int .i64 bx,.int .i64 by_] 57:=(Box.new _ _ _).alloc _
    have x15:Box ((w6.alloc (.cells #[.int .i64 bx,.int .i64 by_] 57)).alloc (.cells #[.slice ba bn bc,.int .i64 bk] 42)) (w6.heap.size+1) #[.slice ba bn bc,.int .i64 bk] 42:=Box.new' (by simp)
    generalize ((w6.alloc (.cells #[.int .i64 bx,.int .i64 by_] 57)).alloc (.cells #[.slice ba bn bc,.int .i64 bk] 42))=w7 at *
    have P:=zh (P.out.below hb)
    have Q:=zh (Q.out.below hb)
    have X1:=zh (X1.out.below' hb)
    have HPL:=zh (HPL.out.below hb)
    have X11:=zh (X11.out.below' hb)
    have HBP:=zh (HBP.out.below hb)
    have HB:=zh (HB.out.trans (hb.mono HB.out.size))
    clear hb
    have X14:=zh x14
    clear x14
    have X15:=zh x15
    clear x15
    go_upto_region 10 with fail
    have e1:∀i,w7.cell? ⟨w.heap.size,i,none⟩=(#[.string c.ware,.int .i64 c.limit,.int .i64 c.by_,.slice pa c.parts.length pc]:Array Value)[i]?:=X1.out.cell
    go_wp2_with fail
    (with_reducible refine(HAN.out _ P.out).mono ?_)
    rintro e w8 ⟨rfl,hb⟩
    clear e1
    have P:=zh (P.out.below hb)
    have Q:=zh (Q.out.below hb)
    have X1:=zh (X1.out.below' hb)
    have HPL:=zh (HPL.out.below hb)
    have X11:=zh (X11.out.below' hb)
    have HBP:=zh (HBP.out.below hb)
    have X14:=zh (X14.out.below' hb)
    have X15:=zh (X15.out.below' hb)
    have HB:=zh (HB.out.trans (hb.mono HB.out.size))
    clear hb
    rcases HPL.out with ⟨h1,rfl,rfl,rfl⟩|⟨s,h1,rfl,rfl,rfl,hi⟩
    ·clear h1 HPL
     have e11:∀i,w8.cell? ⟨w4.heap.size,i,none⟩=(#[.slice ra 0 rc,.int .i64 0]:Array Value)[i]?:=X11.out.cell
     go_upto_region 13 with fail
     clear e11
     go_wp2_with fail
     (with_reducible refine(HSO.out _).mono ?_)
     rintro e w9 ⟨rfl,hb⟩
     have P:=zh (P.out.below hb)
     have Q:=zh (Q.out.below hb)
     have X1:=zh (X1.out.below' hb)
     have X11:=zh (X11.out.below' hb)
     have HBP:=zh (HBP.out.below hb)
     have X14:=zh (X14.out.below' hb)
     have X15:=zh (X15.out.below' hb)
     have HB:=zh (HB.out.trans (hb.mono HB.out.size))
     clear hb
     go_wp2_with fail
     go_ret
     exact⟨rfl,HB.out⟩
    ·obtain⟨x2,y2,t2,h2,h3,h4,h5,h6,h7⟩:=HLE.out (by simp) s h1
     rcases HBP.out with ⟨h8,_⟩|⟨t,_,h8,rfl,rfl,rfl,hj⟩
     ·rcases h8 with h8|h8
      ·exact absurd HX0.out h8
      ·rw[h2] at h8;cases h8
     rw[h2] at h8
     simp only[Option.some.injEq,Prod.mk.injEq] at h8
     obtain⟨⟨rfl,rfl⟩,rfl⟩:=h8
     have HT:=HTW.out x2 y2 h4 h5 h6
     have HC2:=zh (HC2.out x2 y2)
     simp only[HT,if_true,Int.toNat_natCast,h7] at HC2
     have HSL:=zh (show t2.length≤1000000 from Nat.le_trans (sets_in (cheapest_some h7).1).2 (by omega))
     have HLE2:=zh h3
     have RI:=zh hj
     generalize costOf l s=K1 at *
     generalize hK2:costOf l t2=K2 at *
     have HK2:=zh hK2
     clear h1 h2 h3 h4 h5 h6 h7 hi hj HT HTW HLE HPL HBP hK2 HX0
     have e11:∀i,w8.cell? ⟨w4.heap.size,i,none⟩=(#[.slice ra s.length rc,.int .i64 K1]:Array Value)[i]?:=X11.out.cell
     have e14:∀i,w8.cell? ⟨w6.heap.size,i,none⟩=(#[.int .i64 x2,.int .i64 y2]:Array Value)[i]?:=X14.out.cell
     have e1:∀i,w8.cell? ⟨w.heap.size,i,none⟩=(#[.string c.ware,.int .i64 c.limit,.int .i64 c.by_,.slice pa c.parts.length pc]:Array Value)[i]?:=X1.out.cell
     go_wp2_with fail
     (with_reducible refine(HC2.out _ P.out Q.out).mono ?_)
     rintro e w9 ⟨rb,n2,rc2,k2,bb2,rfl,hp2,hb⟩
     clear e11 e14 e1
     have P:=zh (P.out.below hb)
     have Q:=zh (Q.out.below hb)
     have X1:=zh (X1.out.below' hb)
     have X11:=zh (X11.out.below' hb)
     have X14:=zh (X14.out.below' hb)
     have X15:=zh (X15.out.below' hb)
     have RI:=zh (RI.out.below hb)
     have HB:=zh (HB.out.trans (hb.mono HB.out.size))
     clear hb
     obtain⟨rfl,rfl,rfl,hi⟩:=hp2.yes
     have RJ:=zh hi
     clear hi
     rw[HK2.out]
     go_upto_region 16 with fail
     have hb:Below w9.heap.size w9 (w9.alloc (.cells #[.slice rb t2.length rc2,.int .i64 K2] 42)):=by go_grown
     have x20:Box (w9.alloc (.cells #[.slice rb t2.length rc2,.int .i64 K2] 42)) (w9.heap.size) #[.slice rb t2.length rc2,.int .i64 K2] 42:=Box.new _ _ _
     generalize (w9.alloc (.cells #[.slice rb t2.length rc2,.int .i64 K2] 42))=w10 at *
     have P:=zh (P.out.below hb)
     have Q:=zh (Q.out.below hb)
     have X1:=zh (X1.out.below' hb)
     have X11:=zh (X11.out.below' hb)
     have X14:=zh (X14.out.below' hb)
     have X15:=zh (X15.out.below' hb)
     have RI:=zh (RI.out.below hb)
     have RJ:=zh (RJ.out.below hb)
     have HB:=zh (HB.out.trans (hb.mono HB.out.size))
     clear hb
     have X20:=zh x20
     clear x20
     go_wp2_with fail
     (with_reducible refine(HSO.out _).mono ?_)
     rintro e w11 ⟨rfl,hb⟩
     have P:=zh (P.out.below hb)
     have Q:=zh (Q.out.below hb)
     have X1:=zh (X1.out.below' hb)
     have X11:=zh (X11.out.below' hb)
     have X14:=zh (X14.out.below' hb)
     have X15:=zh (X15.out.below' hb)
     have RI:=zh (RI.out.below hb)
     have RJ:=zh (RJ.out.below hb)
     have X20:=zh (X20.out.below' hb)
     have HB:=zh (HB.out.trans (hb.mono HB.out.size))
     clear hb
     have e15:∀i,w11.cell? ⟨w6.heap.size+1,i,none⟩=(#[.slice ba t2.length bc,.int .i64 K2]:Array Value)[i]?:=X15.out.cell
     have e11:∀i,w11.cell? ⟨w4.heap.size,i,none⟩=(#[.slice ra s.length rc,.int .i64 K1]:Array Value)[i]?:=X11.out.cell
     have e20:∀i,w11.cell? ⟨w9.heap.size,i,none⟩=(#[.slice rb t2.length rc2,.int .i64 K2]:Array Value)[i]?:=X20.out.cell
     have hle:K2≤K1:=HLE2.out
     go_wp2_with fail
     (with_reducible refine(plans_same RJ.out RI.out HSL.out).mono ?_)
     rintro e w12 ⟨rfl,hb⟩
     clear e15 e11 e20
     have P:=zh (P.out.below hb)
     have Q:=zh (Q.out.below hb)
     have X1:=zh (X1.out.below' hb)
     have X11:=zh (X11.out.below' hb)
     have X14:=zh (X14.out.below' hb)
     have X15:=zh (X15.out.below' hb)
     have RI:=zh (RI.out.below hb)
     have RJ:=zh (RJ.out.below hb)
     have X20:=zh (X20.out.below' hb)
     have HB:=zh (HB.out.trans (hb.mono HB.out.size))
     clear hb
     go_wp2_with fail
     go_ret
     exact⟨rfl,HB.out⟩
   ·have hNb:(N != 3)=true:=by simpa using hN
    rw[hNb] at HDE
    have HNI:=zh (HNI.out hN)
    rw[HNI.out] at HCH
    have e1:∀i,w2.cell? ⟨w.heap.size,i,none⟩=(#[.string c.ware,.int .i64 c.limit,.int .i64 c.by_,.slice pa c.parts.length pc]:Array Value)[i]?:=X1.out.cell
    go_wp2_with fail
    (with_reducible refine(HDE.out _ P.out Q.out).mono ?_)
    rintro e w3 ⟨rfl,hb⟩
    clear e1
    have P:=zh (P.out.below hb)
    have Q:=zh (Q.out.below hb)
    have X1:=zh (X1.out.below' hb)
    have HB:=zh (HB.out.trans (hb.mono HB.out.size))
    clear hb
    go_upto_region 4 with fail
    have e1:∀i,w3.cell? ⟨w.heap.size,i,none⟩=(#[.string c.ware,.int .i64 c.limit,.int .i64 c.by_,.slice pa c.parts.length pc]:Array Value)[i]?:=X1.out.cell
    go_wp2_with fail
    (with_reducible refine(HCH.out _ P.out Q.out).mono ?_)
    rintro e w4 ⟨ra,n,rc,k,bb,rfl,hpl,hb⟩
    clear e1
    have HPL:=zh hpl
    clear hpl
    have P:=zh (P.out.below hb)
    have Q:=zh (Q.out.below hb)
    have X1:=zh (X1.out.below' hb)
    have HB:=zh (HB.out.trans (hb.mono HB.out.size))
    clear hb
    go_upto_region 5 with fail
    have hb:Below w4.heap.size w4 (w4.alloc (.cells #[.slice ra n rc,.int .i64 k] 42)):=by go_grown
    have x11:Box (w4.alloc (.cells #[.slice ra n rc,.int .i64 k] 42)) (w4.heap.size) #[.slice ra n rc,.int .i64 k] 42:=Box.new _ _ _
    generalize (w4.alloc (.cells #[.slice ra n rc,.int .i64 k] 42))=w5 at *
    have P:=zh (P.out.below hb)
    have Q:=zh (Q.out.below hb)
    have X1:=zh (X1.out.below' hb)
    have HPL:=zh (HPL.out.below hb)
    have HB:=zh (HB.out.trans (hb.mono HB.out.size))
    clear hb
    have X11:=zh x11
    clear x11
    have e1:∀i,w5.cell? ⟨w.heap.size,i,none⟩=(#[.string c.ware,.int .i64 c.limit,.int .i64 c.by_,.slice pa c.parts.length pc]:Array Value)[i]?:=X1.out.cell
    go_wp2_with fail
    (with_reducible refine(HBE.out _ P.out Q.out).mono ?_)
    rintro e w6 ⟨bx,by_,ba,bn,bc,bk,bbb,rfl,hbe,hb⟩
    clear e1
    have HBP:=zh hbe
    clear hbe
    have P:=zh (P.out.below hb)
    have Q:=zh (Q.out.below hb)
    have X1:=zh (X1.out.below' hb)
    have HPL:=zh (HPL.out.below hb)
    have X11:=zh (X11.out.below' hb)
    have HB:=zh (HB.out.trans (hb.mono HB.out.size))
    clear hb
    go_upto_region 6 with fail
    have hb:Below w6.heap.size w6 ((w6.alloc (.cells #[.int .i64 bx,.int .i64 by_] 57)).alloc (.cells #[.slice ba bn bc,.int .i64 bk] 42)):=by go_grown
    have x14:Box ((w6.alloc (.cells #[.int .i64 bx,.int .i64 by_] 57)).alloc (.cells #[.slice ba bn bc,.int .i64 bk] 42)) (w6.heap.size) #[.int .i64 bx,.int .i64 by_] 57:=(Box.new _ _ _).alloc _
    have x15:Box ((w6.alloc (.cells #[.int .i64 bx,.int .i64 by_] 57)).alloc (.cells #[.slice ba bn bc,.int .i64 bk] 42)) (w6.heap.size+1) #[.slice ba bn bc,.int .i64 bk] 42:=Box.new' (by simp)
    generalize ((w6.alloc (.cells #[.int .i64 bx,.int .i64 by_] 57)).alloc (.cells #[.slice ba bn bc,.int .i64 bk] 42))=w7 at *
    have P:=zh (P.out.below hb)
    have Q:=zh (Q.out.below hb)
    have X1:=zh (X1.out.below' hb)
    have HPL:=zh (HPL.out.below hb)
    have X11:=zh (X11.out.below' hb)
    have HBP:=zh (HBP.out.below hb)
    have HB:=zh (HB.out.trans (hb.mono HB.out.size))
    clear hb
    have X14:=zh x14
    clear x14
    have X15:=zh x15
    clear x15
    go_upto_region 10 with fail
    have e1:∀i,w7.cell? ⟨w.heap.size,i,none⟩=(#[.string c.ware,.int .i64 c.limit,.int .i64 c.by_,.slice pa c.parts.length pc]:Array Value)[i]?:=X1.out.cell
    go_wp2_with fail
    (with_reducible refine(HAN.out _ P.out).mono ?_)
    rintro e w8 ⟨rfl,hb⟩
    clear e1
    have P:=zh (P.out.below hb)
    have Q:=zh (Q.out.below hb)
    have X1:=zh (X1.out.below' hb)
    have HPL:=zh (HPL.out.below hb)
    have X11:=zh (X11.out.below' hb)
    have HBP:=zh (HBP.out.below hb)
    have X14:=zh (X14.out.below' hb)
    have X15:=zh (X15.out.below' hb)
    have HB:=zh (HB.out.trans (hb.mono HB.out.size))
    clear hb
    obtain⟨rfl,rfl,rfl,hi⟩:=HPL.out.yes
    have hk0:costOf l []=0:=rfl
    rw[hk0] at *
    clear hi HPL
    have e11:∀i,w8.cell? ⟨w4.heap.size,i,none⟩=(#[.slice ra 0 rc,.int .i64 0]:Array Value)[i]?:=X11.out.cell
    go_wp2_with fail
    (with_reducible refine(HSO.out _).mono ?_)
    rintro e w9 ⟨rfl,hb⟩
    clear e11
    have P:=zh (P.out.below hb)
    have Q:=zh (Q.out.below hb)
    have X1:=zh (X1.out.below' hb)
    have X11:=zh (X11.out.below' hb)
    have HBP:=zh (HBP.out.below hb)
    have X14:=zh (X14.out.below' hb)
    have X15:=zh (X15.out.below' hb)
    have HB:=zh (HB.out.trans (hb.mono HB.out.size))
    clear hb
    go_wp2_with fail
    go_ret
    exact⟨rfl,HB.out⟩
  ·have hXb:(X==0)=false:=by simpa using h0
   have hXn:(X != 0)=true:=by simpa using h0
   simp only[hXb,Bool.false_and,if_neg h0] at HDE HCH
   clear h0 hX hXb HZ HAN HC2
   obtain⟨Y,hY⟩:=zx (xErr c l true)
   rw[hY] at HBE
   clear hY
   have e1:∀i,w2.cell? ⟨w.heap.size,i,none⟩=(#[.string c.ware,.int .i64 c.limit,.int .i64 c.by_,.slice pa c.parts.length pc]:Array Value)[i]?:=X1.out.cell
   go_wp2_with fail
   (with_reducible refine(HDE.out _ P.out Q.out).mono ?_)
   rintro e w3 ⟨rfl,hb⟩
   clear e1
   have P:=zh (P.out.below hb)
   have Q:=zh (Q.out.below hb)
   have X1:=zh (X1.out.below' hb)
   have HB:=zh (HB.out.trans (hb.mono HB.out.size))
   clear hb
   go_upto_region 4 with fail
   have e1:∀i,w3.cell? ⟨w.heap.size,i,none⟩=(#[.string c.ware,.int .i64 c.limit,.int .i64 c.by_,.slice pa c.parts.length pc]:Array Value)[i]?:=X1.out.cell
   go_wp2_with fail
   (with_reducible refine(HCH.out _ P.out Q.out).mono ?_)
   rintro e w4 ⟨ra,n,rc,k,bb,rfl,hpl,hb⟩
   clear e1
   have P:=zh (P.out.below hb)
   have Q:=zh (Q.out.below hb)
   have X1:=zh (X1.out.below' hb)
   have HB:=zh (HB.out.trans (hb.mono HB.out.size))
   clear hb
   obtain⟨rfl,rfl,rfl⟩:=hpl.no
   clear hpl
   go_upto_region 5 with fail
   have hb:Below w4.heap.size w4 (w4.alloc (.cells #[.slice ra 0 rc,.int .i64 0] 42)):=by go_grown
   have x11:Box (w4.alloc (.cells #[.slice ra 0 rc,.int .i64 0] 42)) (w4.heap.size) #[.slice ra 0 rc,.int .i64 0] 42:=Box.new _ _ _
   generalize (w4.alloc (.cells #[.slice ra 0 rc,.int .i64 0] 42))=w5 at *
   have P:=zh (P.out.below hb)
   have Q:=zh (Q.out.below hb)
   have X1:=zh (X1.out.below' hb)
   have HB:=zh (HB.out.trans (hb.mono HB.out.size))
   clear hb
   have X11:=zh x11
   clear x11
   have e1:∀i,w5.cell? ⟨w.heap.size,i,none⟩=(#[.string c.ware,.int .i64 c.limit,.int .i64 c.by_,.slice pa c.parts.length pc]:Array Value)[i]?:=X1.out.cell
   go_wp2_with fail
   (with_reducible refine(HBE.out _ P.out Q.out).mono ?_)
   rintro e w6 ⟨bx,by_,ba,bn,bc,bk,bbb,rfl,hbe,hb⟩
   clear e1
   have P:=zh (P.out.below hb)
   have Q:=zh (Q.out.below hb)
   have X1:=zh (X1.out.below' hb)
   have X11:=zh (X11.out.below' hb)
   have HB:=zh (HB.out.trans (hb.mono HB.out.size))
   clear hb
   clear hbe
   go_upto_region 6 with fail
   have hb:Below w6.heap.size w6 ((w6.alloc (.cells #[.int .i64 bx,.int .i64 by_] 57)).alloc (.cells #[.slice ba bn bc,.int .i64 bk] 42)):=by go_grown
   have x14:Box ((w6.alloc (.cells #[.int .i64 bx,.int .i64 by_] 57)).alloc (.cells #[.slice ba bn bc,.int .i64 bk] 42)) (w6.heap.size) #[.int .i64 bx,.int .i64 by_] 57:=(Box.new _ _ _).alloc _
   have x15:Box ((w6.alloc (.cells #[.int .i64 bx,.int .i64 by_] 57)).alloc (.cells #[.slice ba bn bc,.int .i64 bk] 42)) (w6.heap.size+1) #[.slice ba bn bc,.int .i64 bk] 42:=Box.new' (by simp)
   generalize ((w6.alloc (.cells #[.int .i64 bx,.int .i64 by_] 57)).alloc (.cells #[.slice ba bn bc,.int .i64 bk] 42))=w7 at *
   have P:=zh (P.out.below hb)
   have Q:=zh (Q.out.below hb)
   have X1:=zh (X1.out.below' hb)
   have X11:=zh (X11.out.below' hb)
   have HB:=zh (HB.out.trans (hb.mono HB.out.size))
   clear hb
   have X14:=zh x14
   clear x14
   have X15:=zh x15
   clear x15
   go_wp2_with fail
   (with_reducible refine(HSO.out _).mono ?_)
   rintro e w8 ⟨rfl,hb⟩
   have P:=zh (P.out.below hb)
   have Q:=zh (Q.out.below hb)
   have X1:=zh (X1.out.below' hb)
   have X11:=zh (X11.out.below' hb)
   have X14:=zh (X14.out.below' hb)
   have X15:=zh (X15.out.below' hb)
   have HB:=zh (HB.out.trans (hb.mono HB.out.size))
   clear hb
   go_wp2_with fail
   go_ret
   exact⟨rfl,HB.out⟩
end Go.Proofs.YtjgldeeianionaaGreat
namespace Go.Proofs.YtjgldeeianionaaGreat.ProbeFixedEnd
open Go.ChangeShapes Go.WideShapes Go.ChangeAt Go.RowKit
theorem own:ownKnob Tryz.prog.godebug=none:=zK
theorem lifted (os:Os)(started:os.Started)(H:Type)(enc:TypeId×Value→H):
 ReturnsInHanded {} Tryz.checked os 7 .any (Rows.probeFixedSpec.pre6 enc Tryz.prog Tryz.f7 Rows.probeFixedRow.domain false) (Rows.probeFixedSpec.post enc Tryz.prog Tryz.f7 false true false false):=by
 refine returnsInHanded_of_change (C:=Tryz.checked) own started zK Tryz.func7
  (ChangeSpec.witness6 (enc:=enc) (C:=Tryz.checked) false ⟨#[],#[.agg #[.string ⟨#[]⟩,.int .i64 0,.int .i64 0,.slice none 0 0],.slice none 0 0,.int .i64 0,.int .i64 0],[]⟩ 8 zK zK zK zK) ?_
 intro W base args ds gs before hval0 hW hcnd _
 have hval:∀(j:Nat) t v,Tryz.f7.params[j]?=some t→args[j]?=some v→Value.okWide Tryz.prog W .any base t v:=hval0
 have hW':=hW
 obtain⟨p,q,hA0,hV,rfl,hfz,hnd⟩:=hW
 have hA:DataW.TrodAll enc Tryz.prog W 0 (fun _=>true) true Tryz.f7.params.toList args.toList ds p:=hA0
 rw[Tryz.params7] at hA hval
 obtain⟨v0,vs0,d0,ds0,p0,q0,hargs,rfl,rfl,h0,r0⟩:=trodAll_cons hA
 obtain⟨v1,vs1,d1,ds1,p1,q1,rfl,rfl,rfl,h1,r1⟩:=trodAll_cons r0
 obtain⟨v2,vs2,d2,ds2,p2,q2,rfl,rfl,rfl,h2,r2⟩:=trodAll_cons r1
 obtain⟨v3,vs3,d3,ds3,p3,q3,rfl,rfl,rfl,h3,r3⟩:=trodAll_cons r2
 obtain⟨rfl,rfl,rfl⟩:=trodAll_nil r3
 obtain rfl:args = #[v0,v1,v2,v3]:=by cases args;simp_all
 obtain⟨rfl,rfl⟩:=trodVars_none hV
 obtain⟨c0,pa0,pc0,rfl,hp0,hpc0,hfit0,hlw0⟩:=case_of (hval 0 _ v0 rfl rfl) h0
 obtain⟨a1,l1,k1,rfl,hi1,hk1,hm1⟩:=prbs_arg (hval 1 _ v1 rfl rfl) h1
 obtain⟨a2,rfl,rfl,rfl,w2⟩:=open_int Tryz.underlying3 (hval 2 _ v2 rfl rfl) h2
 obtain⟨a3,rfl,rfl,rfl,w3⟩:=open_int Tryz.underlying3 (hval 3 _ v3 rfl rfl) h3
 clear hA0 hval0
 refine(probeFixed_any c0 hfit0 pa0 pc0 hpc0 a1 l1 k1 hk1 hm1 a2 w2 a3 w3 W hp0 hi1).mono fun e W' ⟨he,hb⟩=>?_
 subst he
 exact⟨_,rfl,law_post rfl rfl (of_decide_eq_true zK) hW' rfl rfl rfl hb⟩
theorem over:Rows.probeFixedRow.holds Tryz.pinned (OpenSpec.ofChange Rows.probeFixedSpec):=
 OpenClaim.holds_of_wide 7 Tryz.f7 rfl rfl rfl rfl rfl rfl rfl ⟨rfl,rfl,rfl,rfl,rfl⟩ rfl rfl rfl rfl rfl zK Tryz.func7 zK
  (of_decide_eq_true zK) (by unfold Func.isWrapper;first|(rw[if_pos (by decide +kernel)];kernel_rfl)|(rw[if_neg (by decide +kernel)];exact⟨rfl,rfl⟩))
  (fun os started H enc _=>lifted os started H enc)
theorem proved:Rows.ProbeFixedSaid:=
 over
#print axioms proved
end Go.Proofs.YtjgldeeianionaaGreat.ProbeFixedEnd
