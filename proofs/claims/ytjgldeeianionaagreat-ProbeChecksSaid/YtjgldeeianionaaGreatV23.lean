/- Walks and plain laws. No condition. -/
import Derived.Test.YtjgldeeianionaaGreatV21
import Derived.Test.YtjgldeeianionaaGreatV22
set_option maxHeartbeats 4000000
set_option maxRecDepth 100000
set_option linter.unusedSimpArgs false
set_option linter.unusedVariables false
namespace Go.Proofs.YtjgldeeianionaaGreat
open Go.RowKit
section
attribute [local go_sem] Oper.semAt_some
theorem after_nil {t pc qc:Nat}{c:Cs}{qa:Option Addr}(hc:c.parts.length=0)(sa:Option Addr)(sc:Nat)(fa:Option Addr)(fc:Nat)(w:World)(h:LabAt w t c none pc [] qa qc):
 Calls Tryz.prog 62 #[.pointer (some ⟨t,0,none⟩),.slice sa 0 sc,.slice fa 0 fc] w (AftPost (some c) w):=by
 have htl:t<w.heap.size:=h.box.lt;obtain⟨w1,hw1⟩:=zx (w.alloc (.cells #[.string ⟨#[]⟩,.int .i64 0,.int .i64 0,.slice none 0 0] 24));obtain⟨w2,hw2⟩:=zx (w1.alloc (.cells #[.string c.ware,.int .i64 c.limit,.int .i64 c.by_,.slice none 0 pc] 24));have hs1:w1.heap.size=w.heap.size+1:=by rw[←hw1];simp
 have hB2:Below w.heap.size w w2:=by rw[←hw2,←hw1];go_grown
 have b1:Box w2 w.heap.size #[.string ⟨#[]⟩,.int .i64 0,.int .i64 0,.slice none 0 0] 24:=by rw[←hw2,←hw1];exact(Box.new _ _ _).alloc _
 have b0:Box w2 (w.heap.size+1) #[.string c.ware,.int .i64 c.limit,.int .i64 c.by_,.slice none 0 pc] 24:=by rw[←hw2];exact Box.new' hs1.symm
 have hBa:Below w.heap.size w w1:=by rw[←hw1];go_grown
 have e1:=(h.below hBa).cells;rw[hc] at e1;have HW1:=zh hw1;have HW2:=zh hw2;have HB0:=zh b0;have HB1:=zh b1;have HB2:=zh hB2;have HS1:=zh hs1;have HC:=zh hc;clear hw1 hw2 b0 b1 h hB2 hBa hs1 hc
 go_enter Tryz.func62,Tryz.ntmps62
 go_upto_region 1 with fail
 simp only[HW1.out]
 go_upto_region 2 with fail
 simp only[HW2.out,HS1.out];have e0:=HB0.out.rules;obtain⟨e01,e02⟩:=e0;clear e1
 go_wp2_with (go_at_call 151;(with_reducible refine(cloneP_nil _ _).mono ?_);rintro e w3 ⟨rfl,rfl⟩)
 have hsz2:w.heap.size+1<w2.heap.size:=HB0.out.lt;have hc0:Box (w2.setCell ⟨w.heap.size+1,3,none⟩ (.slice none 0 0)) (w.heap.size+1) #[.string c.ware,.int .i64 c.limit,.int .i64 c.by_,.slice none 0 0] 24:=HB0.out.set_ 3 _;have hc1:Box (w2.setCell ⟨w.heap.size+1,3,none⟩ (.slice none 0 0)) w.heap.size #[.string ⟨#[]⟩,.int .i64 0,.int .i64 0,.slice none 0 0] 24:=HB1.out.far zS _;have hold:Below w.heap.size w (w2.setCell ⟨w.heap.size+1,3,none⟩ (.slice none 0 0)):=HB2.out.setCell zS _;generalize (w2.setCell ⟨w.heap.size+1,3,none⟩ (.slice none 0 0))=w4 at *;clear e01 e02;have HC0:=zh hc0;have HC1:=zh hc1;have HOLD:=zh hold;have e0:=hc0.cell;clear hc0 hc1 hold HB0 HB1
 go_loop [26] (fun i=>i = .int .i64 0) (fun _=>0)
 case atStart=>rfl
 case round=>
  obtain rfl:=hrel
  go_wp2_with fail
  go_loop [56] (fun i=>i = .int .i64 0) (fun _=>0)
  case atStart=>rfl
  case round=>
   obtain rfl:=hrel;have e3:=HC1.out.rules
   go_wp2_with fail
   refine bodyPost_ret (results_cell_tmp rfl rfl (run_loadVar_row _ _ 24 24 _ (0,0) _ ((((HC1.out.set_ 0 _).set_ 1 _).set_ 2 _).set_ 3 _) Tryz.underlying24 rfl case_size)) rfl ?_;have hp:c.parts=[]:=List.eq_nil_of_length_eq_zero HC.out;refine⟨(((HOLD.out.setCell zS _).setCell zS _).setCell zS _).setCell zS _,.inr ⟨c,none,0,rfl,by rw[HC.out];rfl,by rw[HC.out];exact Nat.le_refl _,.inr ⟨rfl,hp⟩⟩⟩
theorem after_all {t:Nat}{c:Cs}{pa:Option Addr}{pc:Nat}{l:List Prb}{qa:Option Addr}{qc:Nat}(hsm:c.Small)(hpr:probesErr c l=0)(sa:Option Addr)(s:List Nat)(sc:Nat)(fa:Option Addr)(fs:List Nat)(fc:Nat)(w:World)(h:LabAt w t c pa pc l qa qc)
 (hS:Ints w sa (natInts s)) (hF:Ints w fa (natInts fs)) (hsl:s.length≤1000) (hfl:fs.length=s.length) (hs:∀(i v:Nat),s[i]?=some v→∃(p:Prb) (f:Nat),l[v]?=some p∧fs[i]?=some f∧f<cntN (spanOf c p) p.width):
 Calls Tryz.prog 62 #[.pointer (some ⟨t,0,none⟩),.slice sa s.length sc,.slice fa fs.length fc] w (AftPost (afterC c l s fs) w):=by
 rcases pa with _|ad
 ·have hc:c.parts.length=0:=by
   rcases Nat.eq_zero_or_pos c.parts.length with h0|h0
   ·exact h0
   ·obtain⟨b,o,q,e,_⟩:=h.parts.at_ h0;cases e
  have hl:l=[]:=by
   rcases l with _|⟨p,l⟩
   ·rfl
   ·have:=((probes_ok hpr).2.2 p zS).2.1
    omega
  subst hl;have hsn:s=[]:=by
   rcases s with _|⟨v,s⟩
   ·rfl
   ·obtain⟨p,f,hp,_⟩:=hs 0 v rfl;simp at hp
  subst hsn;have hfn:fs=[]:=List.eq_nil_of_length_eq_zero (by simpa using hfl);subst hfn;exact after_nil hc sa sc fa fc w h
 ·exact after_any hsm hpr rfl sa s sc fa fs fc w h hS hF hsl hfl hs
theorem small_of {d:Cs}(h:checkCase d=0):d.Small:=by
 obtain⟨h8,h0,h1,_⟩:=check_okCase h;simp only[ok0,Bool.and_eq_true,isNameB,inB,decide_eq_true_eq] at h0;refine⟨zO,zO,fun p hp=>?_⟩;have h2:=h1 p hp;simp only[isPartB,Bool.and_eq_true,inB,decide_eq_true_eq] at h2
 omega
theorem partsB_keep {K:Nat→Prop}{B M:Nat}{w w':World}{PB:Nat}{cells:Array Value}{l:List Prt}(h:PartsB B M w PB cells l)(hk:Keep K w w')(hPB:K PB)(hK:∀b,PB<b→K b):PartsB B M w' PB cells l:=by
 refine⟨hk.heap hPB h.box,h.far,fun i p hp=>?_⟩;obtain⟨sa,sc,ra,rc,e1,e2,e3,e4,e5,e6,e7⟩:=h.one i p hp;have keepI:∀{a:Option Addr} {x:List Int},Ints w a x→(∀b o,a=some ⟨b,o,none⟩→0<x.length→K b)→Ints w' a x:=fun {a x} hx hb k u hu=>by
  obtain⟨b,o,ha,hc⟩:=hx k u hu;have hl:0<x.length:=by have:=(List.getElem?_eq_some_iff.1 hu).1;simp at this;omega
  exact⟨b,o,ha,hk.cell (hb b o ha hl) hc⟩
 exact⟨sa,sc,ra,rc,e1,keepI e2 (fun b o ha hl=>hK b (e6 b o ha hl).2.1),keepI e3 (fun b o ha hl=>hK b (e7 b o ha hl).2.1),e4,e5,e6,e7⟩
def PartsHi (B:Nat)(w:World)(a:Option Addr)(l:List Prt):Prop:=∀w',Keep (fun k=>B≤k) w w'→PartsAt w' a l
theorem PartsHi.at_ {B:Nat}{w:World}{a:Option Addr}{l:List Prt}(h:PartsHi B w a l):PartsAt w a l:=h _ (Keep.refl _ _)
theorem PartsHi.keep {B:Nat}{w w':World}{a:Option Addr}{l:List Prt}(h:PartsHi B w a l)(hk:Keep (fun k=>B≤k) w w'):PartsHi B w' a l:=fun w2 h2=>h w2 (hk.trans h2)
theorem PartsHi.below {B:Nat}{w w':World}{a:Option Addr}{l:List Prt}(h:PartsHi B w a l)(hk:Below w.heap.size w w'):PartsHi B w' a l:=h.keep (Keep.of_below' hk)
theorem PartsHi.mono {B B':Nat}{w:World}{a:Option Addr}{l:List Prt}(h:PartsHi B w a l)(hB:B'≤B):PartsHi B' w a l:=fun w2 h2=>h w2 (h2.mono fun k hk=>Nat.le_trans hB hk)
theorem PartsHi.set_ {B:Nat}{w:World}{a:Option Addr}{l:List Prt}(h:PartsHi B w a l){p:Addr}(hp:p.block<B)(v:Value):PartsHi B (w.setCell p v) a l:=h.keep ((Keep.refl _ w).setCell (.inl zO) v)
theorem PartsOwn.hi {B:Nat}{w:World}{PB:Nat}{cells:Array Value}{l:List Prt}(h:PartsOwn B w PB cells l.length l):PartsHi B w (some ⟨PB,0,none⟩) l:=fun w' hk=>by
 have hf:=h.far;exact(partsB_keep (h.toB rfl) hk (show B≤PB by omega) (fun b hb=>by omega)).at_
theorem AftPost.some_ {o:Option Cs}{w w':World}{e:Ending}(h:AftPost o w e w'):Below w.heap.size w w'∧((o=none∧e = .returned (.tuple #[.agg #[.string ⟨#[]⟩,.int .i64 0,.int .i64 0,.slice none 0 0],.bool false])) ∨
 ∃d ba pc',o=some d∧e = .returned (.tuple #[.agg #[.string d.ware,.int .i64 d.limit,.int .i64 d.by_,.slice ba d.parts.length pc'],.bool true])∧PartsHi w.heap.size w' ba d.parts):=by
 obtain⟨hb,h⟩:=h;refine⟨hb,h.imp id ?_⟩;rintro⟨d,ba,pc',h1,h2,_,h3⟩;refine⟨d,ba,pc',h1,h2,?_⟩
 rcases h3 with ⟨PB,cells,rfl,h4⟩|⟨rfl,h4⟩
 ·exact h4.hi
 ·rw[h4];intro w2 _ k p hp;simp at hp
def CanPost (o:Option Cs)(w:World)(e:Ending)(w':World):Prop:=
 Below w.heap.size w w'∧((o=none∧∃u1 u2 u3 u4 u5 u6,e = .returned (.tuple #[.agg #[.string u1,.int .i64 u2,.int .i64 u3,.slice u4 u5 u6],.bool false])) ∨
  ∃d ba pc',o=some d∧e = .returned (.tuple #[.agg #[.string d.ware,.int .i64 d.limit,.int .i64 d.by_,.slice ba d.parts.length pc'],.bool true])∧PartsHi w.heap.size w' ba d.parts)
theorem canC_none {c:Cs}{l:List Prb}{s fs:List Nat}(h:afterC c l s fs=none):canC c l s fs=none:=by simp[canC,h]
theorem canC_some {c d:Cs}{l:List Prb}{s fs:List Nat}(h:afterC c l s fs=some d):canC c l s fs=if(allR d).isEmpty then none else some d:=by simp[canC,h]
theorem can_any {t:Nat}{c:Cs}{pa:Option Addr}{pc:Nat}{l:List Prb}{qa:Option Addr}{qc:Nat}(hsm:c.Small)(hpr:probesErr c l=0)(sa:Option Addr)(s:List Nat)(sc:Nat)(fa:Option Addr)(fs:List Nat)(fc:Nat)(w:World)(h:LabAt w t c pa pc l qa qc)
 (hS:Ints w sa (natInts s)) (hF:Ints w fa (natInts fs)) (hsl:s.length≤1000) (hfl:fs.length=s.length) (hs:∀(i v:Nat),s[i]?=some v→∃(p:Prb) (f:Nat),l[v]?=some p∧fs[i]?=some f∧f<cntN (spanOf c p) p.width):
 Calls Tryz.prog 67 #[.pointer (some ⟨t,0,none⟩),.slice sa s.length sc,.slice fa fs.length fc] w (CanPost (canC c l s fs) w):=by
 obtain⟨w1,hw1⟩:=zx (w.alloc (.cells #[.string ⟨#[]⟩,.int .i64 0,.int .i64 0,.slice none 0 0] 24));have hB1:Below w.heap.size w w1:=by rw[←hw1];go_grown
 have b1:Box w1 w.heap.size #[.string ⟨#[]⟩,.int .i64 0,.int .i64 0,.slice none 0 0] 24:=by rw[←hw1];exact Box.new _ _ _
 have HA:=zh (after_all hsm hpr sa s sc fa fs fc w1 (h.below hB1) (hS.below hB1) (hF.below hB1) hsl hfl hs);have HW:=zh hw1;have HB1:=zh hB1;have HX:=zh b1;have HPR:=zh hpr;clear hw1 hB1 b1 h hS hF hs hfl hpr
 go_enter Tryz.func67,Tryz.ntmps67
 go_upto_region 1 with fail
 simp only[HW.out]
 go_wp2_with fail
 refine zM HA ?_;rintro e w2 hpost;obtain⟨hb2,(⟨ho,rfl⟩|⟨d,ba,pc',ho,rfl,hpt⟩)⟩:=hpost.some_
 ·obtain⟨w3,hw3⟩:=zx (w2.alloc (.cells #[.string ⟨#[]⟩,.int .i64 0,.int .i64 0,.slice none 0 0] 24));have hB3:Below w2.heap.size w2 w3:=by rw[←hw3];go_grown
  have HX3:=zh ((HX.out.below' hb2).below' hB3);have HB3:=zh (HB1.out.trans ((hb2.trans (hB3.mono hb2.size)).mono HB1.out.size));have HW3:=zh hw3;have HO:=zh ho;obtain⟨u1,u2⟩:=HX3.out.rules;clear hb2 ho hpost hB3 hw3
  go_upto_region 2 with fail
  simp only[HW3.out]
  go_wp2_with fail
  refine bodyPost_ret (results_cell_tmp rfl rfl (run_loadVar_row _ _ 24 24 _ (0,0) _ ((((HX3.out.set_ 0 _).set_ 1 _).set_ 2 _).set_ 3 _) Tryz.underlying24 rfl case_size)) rfl ?_;exact⟨(((HB3.out.setCell zS _).setCell zS _).setCell zS _).setCell zS _,.inl ⟨canC_none HO.out,_,_,_,_,_,_,rfl⟩⟩
 ·have HX2:=zh (HX.out.below' hb2);have HB2:=zh (HB1.out.trans (hb2.mono HB1.out.size));have HO:=zh ho;have HD:=zh (after_ok HPR.out ho);have HPT:=zh hpt;obtain⟨w3,hw3⟩:=zx (w2.alloc (.cells #[.string d.ware,.int .i64 d.limit,.int .i64 d.by_,.slice ba d.parts.length pc'] 24));have hB3:Below w2.heap.size w2 w3:=by rw[←hw3];go_grown
  have b3:Box w3 w2.heap.size #[.string d.ware,.int .i64 d.limit,.int .i64 d.by_,.slice ba d.parts.length pc'] 24:=by rw[←hw3];exact Box.new _ _ _
  have hsz2:w.heap.size<w2.heap.size:=HX2.out.lt;have hX3:=HX2.out.below' hB3;have hfi:=first_any d (small_of HD.out.chk) ba pc' w3 (HPT.out.below hB3).at_;rw[HD.out.chk] at hfi;have HFI:=zh hfi;have HW3:=zh hw3;have HX3:=zh hX3;have HY3:=zh b3;have HB3:=zh (HB2.out.trans (hB3.mono HB2.out.size));have HP3:=zh (HPT.out.below hB3);have HL1:=zh HX.out.lt;clear hb2 ho hpost hpt hB3 b3 hX3 hfi hw3;have e3:∀i,w3.cell? ⟨w2.heap.size,i,none⟩=(#[.string d.ware,.int .i64 d.limit,.int .i64 d.by_,.slice ba d.parts.length pc']:Array Value)[i]?:=HY3.out.cell
  go_upto_region 4 with fail
  simp only[HW3.out]
  go_wp2_with fail
  refine zM HFI ?_;rintro e w4 ⟨hb4,(⟨hz,rfl⟩|⟨-,hno,rfl⟩|⟨-,x,v,hso,rfl,-⟩)⟩
  ·exact absurd rfl hz
  ·have HX4:=zh (HX3.out.below' hb4);have HY4:=zh (HY3.out.below' hb4);have HB4:=zh (HB3.out.trans (hb4.mono HB3.out.size));have HNO:=zh hno;clear hb4 hno e3;obtain⟨u1,u2⟩:=HX4.out.rules;have e3:=HY4.out.cell
   go_wp2_with fail
   refine bodyPost_ret (results_cell_tmp rfl rfl (run_loadVar_row _ _ 24 24 _ (0,0) _ ((((HX4.out.set_ 0 _).set_ 1 _).set_ 2 _).set_ 3 _) Tryz.underlying24 rfl case_size)) rfl ?_;refine⟨(((HB4.out.setCell zS _).setCell zS _).setCell zS _).setCell zS _,.inl ⟨?_,_,_,_,_,_,_,rfl⟩⟩;rw[canC_some HO.out,if_pos];have:=HNO.out;cases ha:allR d with
   |nil=>rfl
   |cons y ys=>rw[ha] at this;simp at this
  ·have HX4:=zh (HX3.out.below' hb4);have HY4:=zh (HY3.out.below' hb4);have HB4:=zh (HB3.out.trans (hb4.mono HB3.out.size));have HP4:=zh (HP3.out.below hb4);have HSO:=zh hso;clear hb4 hso e3;obtain⟨u1,u2⟩:=HX4.out.rules;have e3:=HY4.out.cell
   go_wp2_with fail
   refine bodyPost_ret (results_cell_tmp rfl rfl (run_loadVar_row _ _ 24 24 _ (0,0) _ ((((HX4.out.set_ 0 _).set_ 1 _).set_ 2 _).set_ 3 _) Tryz.underlying24 rfl case_size)) rfl ?_;refine⟨(((HB4.out.setCell zS _).setCell zS _).setCell zS _).setCell zS _,.inr ⟨d,ba,pc',?_,rfl,?_⟩⟩
   ·rw[canC_some HO.out,if_neg];cases ha:allR d with
    |nil=>have:=HSO.out;rw[ha] at this;simp at this
    |cons y ys=>simp
   ·exact((((HP4.out.set_ HL1.out _).set_ HL1.out _).set_ HL1.out _).set_ HL1.out _).mono (Nat.le_of_lt HL1.out)
theorem answer9_any (d:Cs)(hsm:d.Small)(a b:Nat)(he:askErr d [(a:Int),(b:Int)]=0)(pa:Option Addr)(pc:Nat)(w:World)(hp:PartsAt w pa d.parts):
 Calls Tryz.prog 146 #[.agg #[.string d.ware,.int .i64 d.limit,.int .i64 d.by_,.slice pa d.parts.length pc],.int .i64 a,.int .i64 b] w fun e w'=>e = .returned (.int .u8 (ansAt d a b))∧Below w.heap.size w w':=by
 obtain⟨w1,hw1⟩:=zx (w.alloc (.cells #[.string d.ware,.int .i64 d.limit,.int .i64 d.by_,.slice pa d.parts.length pc] 24));have hB1:Below w.heap.size w w1:=by rw[←hw1];go_grown
 have b1:Box w1 w.heap.size #[.string d.ware,.int .i64 d.limit,.int .i64 d.by_,.slice pa d.parts.length pc] 24:=by rw[←hw1];exact Box.new _ _ _
 have ha:=answerTop_any d hsm pa pc a b w1 (hp.below hB1);rw[he] at ha;have e1:=b1.cell;have HA:=zh ha;have HW:=zh hw1;have HB1:=zh hB1;clear hw1 hB1 b1 ha hp he
 go_enter Tryz.func146,Tryz.ntmps146
 go_upto_region 1 with fail
 simp only[HW.out]
 go_wp2_with fail
 refine zM HA ?_;rintro e w2 ⟨hb2,rfl⟩;have HB2:=zh (HB1.out.trans (hb2.mono HB1.out.size));clear hb2 e1
 go_wp2_with fail
 go_ret
 exact⟨by simp,HB2.out⟩
end
theorem mem_outGo:∀(ns pre x:List Nat),x∈outGo ns pre↔∃y,x=pre++y∧y.length=ns.length∧∀(i n f:Nat),ns[i]?=some n→y[i]?=some f→f<n
 |[],pre,x=>by
  simp only[outGo,List.mem_singleton];constructor
  ·rintro rfl;exact⟨[],by simp,rfl,fun i n f h=>by simp at h⟩
  ·rintro⟨y,rfl,hl,_⟩;have:y=[]:=List.eq_nil_of_length_eq_zero (by simpa using hl)
   simp[this]
 |m::ns,pre,x=>by
  simp only[outGo,List.mem_flatMap,List.mem_range];constructor
  ·rintro⟨k,hk,hx⟩;obtain⟨y,rfl,hl,hy⟩:=(mem_outGo ns _ x).1 hx;refine⟨k::y,by simp,by simp[hl],fun i n f h1 h2=>?_⟩
   rcases i with _|i
   ·simp at h1 h2;omega
   ·exact hy i n f (by simpa using h1) (by simpa using h2)
  ·rintro⟨y,rfl,hl,hy⟩
   rcases y with _|⟨k,y⟩
   ·simp at hl
   ·exact⟨k,hy 0 m k rfl rfl,(mem_outGo ns _ _).2 ⟨y,by simp,by simpa using hl,fun i n f h1 h2=>hy (i+1) n f (by simpa using h1) (by simpa using h2)⟩⟩
def FoundFor (c:Cs)(l:List Prb)(s x:List Nat):Prop:=x.length=s.length∧∀(i v:Nat),s[i]?=some v→∃(p:Prb) (f:Nat),l[v]?=some p∧x[i]?=some f∧f<cntN (spanOf c p) p.width
theorem mem_outs {c:Cs}{l:List Prb}{s x:List Nat}(hs:∀v∈s,v<l.length):x∈outsOf (cntsOf c l s)↔FoundFor c l s x:=by
 unfold outsOf;rw[mem_outGo];constructor
 ·rintro⟨y,hx,hl,hy⟩;simp only[List.nil_append] at hx;subst hx;have hl':x.length=s.length:=by simpa[cntsOf] using hl
  refine⟨hl',fun i v hv=>?_⟩;have hi:i<x.length:=by rw[hl'];exact(List.getElem?_eq_some_iff.1 hv).1
  obtain⟨p,hp⟩:∃p,l[v]?=some p:=⟨l[v]'(hs v (List.mem_of_getElem? hv)),by simp[hs v (List.mem_of_getElem? hv)]⟩
  refine⟨p,x[i],hp,by simp[hi],?_⟩;exact hy i _ _ (by simp[cntsOf,hv,hp]) (by simp[hi])
 ·rintro⟨hl,hx⟩;refine⟨x,rfl,by simpa[cntsOf] using hl,fun i n f h1 h2=>?_⟩;obtain⟨v,hv⟩:∃v,s[i]?=some v:=by
   have hi:i<s.length:=by rw[←hl];exact(List.getElem?_eq_some_iff.1 h2).1
   exact⟨s[i],by simp[hi]⟩
  obtain⟨p,g,hp,hg,hlt⟩:=hx i v hv;rw[h2] at hg;cases hg
  simp[cntsOf,hv,hp] at h1
  omega
theorem canC_ok {c d:Cs}{l:List Prb}{s x:List Nat}(hp:probesErr c l=0)(h:canC c l s x=some d):AftOk c d∧(allR d).isEmpty=false∧afterC c l s x=some d:=by
 unfold canC at h
 split at h
 ·rename_i d' ha
  split at h
  ·cases h
  ·rename_i hne
   cases h;exact⟨after_ok hp ha,by simpa using hne,ha⟩
 ·cases h
theorem ask_two {d:Cs}(h:checkCase d=0)(hne:(allR d).isEmpty=false){a b:Nat}(ha:a<d.parts.length)(hb:b<d.parts.length):askErr d [(a:Int),(b:Int)]=0:=by
 have ho:openErr d [(a:Int),(b:Int)]=0:=by
  unfold openErr;rw[if_pos h,if_pos]
  simp[inB];omega
 unfold askErr;rw[if_pos ho,hne];simp
theorem find_at {α:Type}{f:α→Bool}{pre L:List α}{x:α}(h:(pre++[x]) <+: L)(hp:∀y∈pre,f y=false)(hx:f x=true):L.find? f=some x:=by
 obtain⟨r,rfl⟩:=h;rw[List.append_assoc,List.find?_append,List.find?_eq_none.2 (fun y hy=>by simp[hp y hy])]
 simp[hx]
theorem doubt_at {c:Cs}{l:List Prb}{a b:Nat}{s x:List Nat}{pre:List (List Nat)}(h:(pre++[x]) <+: outsOf (cntsOf c l s))(hp:∀y∈pre,sureB c l a b s y=true)(hx:sureB c l a b s x=false):doubtOf c l a b s=some x:=
 find_at h (fun y hy=>by simp[hp y hy]) (by simp[hx])
theorem doubt_none {c:Cs}{l:List Prb}{a b:Nat}{s:List Nat}(hp:∀y∈outsOf (cntsOf c l s),sureB c l a b s y=true):doubtOf c l a b s=none:=by
 unfold doubtOf;rw[List.find?_eq_none];intro y hy;simp[hp y hy]
theorem sure_none {c:Cs}{l:List Prb}{a b:Nat}{s x:List Nat}(h:canC c l s x=none):sureB c l a b s x=true:=by simp[sureB,h]
theorem sure_some {c d:Cs}{l:List Prb}{a b:Nat}{s x:List Nat}(h:canC c l s x=some d):sureB c l a b s x=(ansAt d a b != 3):=by simp[sureB,h]
section
attribute [local go_sem] Oper.semAt_some
def DtPost (c:Cs)(l:List Prb)(a b:Nat)(s:List Nat)(w:World)(e:Ending)(w':World):Prop:=
 Below w.heap.size w w'∧((doubtOf c l a b s=none∧e = .returned (.tuple #[.slice none 0 0,.agg #[.string ⟨#[]⟩,.int .i64 0,.int .i64 0,.slice none 0 0],.bool false])) ∨
  ∃x d fa fc ba pc',doubtOf c l a b s=some x∧canC c l s x=some d∧ansAt d a b=3∧e = .returned (.tuple #[.slice fa x.length fc,.agg #[.string d.ware,.int .i64 d.limit,.int .i64 d.by_,.slice ba d.parts.length pc'],.bool true]) ∧
   RowOwn w.heap.size w' fa ((natInts x).map (Value.int .i64))∧x.length≤fc∧PartsHi w.heap.size w' ba d.parts)
structure DtI (c:Cs) (l:List Prb) (t a b:Nat) (sa:Option Addr) (s:List Nat) (sc:Nat) (w:World) (pre:List (List Nat)) (A:World):Prop where
 old:Below w.heap.size w A
 b0:Box A w.heap.size #[.pointer (some ⟨t,0,none⟩)] 104
 b1:Box A (w.heap.size+1) #[.int .i64 a] 3
 b2:Box A (w.heap.size+2) #[.int .i64 b] 3
 b3:Box A (w.heap.size+3) #[.slice sa s.length sc] 26
 r4:Box A (w.heap.size+4) #[.slice none 0 0] 26
 r5:Box A (w.heap.size+5) #[.string ⟨#[]⟩,.int .i64 0,.int .i64 0,.slice none 0 0] 24
 r6:Box A (w.heap.size+6) #[.bool false] 4
 tb:Box A (w.heap.size+7) #[.pointer (some ⟨t,0,none⟩)] 104
 sb:Box A (w.heap.size+8) #[.slice sa s.length sc] 26
 all:∀y∈pre,sureB c l a b s y=true
structure DtX (c:Cs) (l:List Prb) (a b:Nat) (s:List Nat) (w:World) (A:World):Prop where
 old:Below w.heap.size w A
 res:∃x d fa fc ba pc',doubtOf c l a b s=some x∧canC c l s x=some d∧ansAt d a b=3∧Box A (w.heap.size+4) #[.slice fa x.length fc] 26 ∧
  Box A (w.heap.size+5) #[.string d.ware,.int .i64 d.limit,.int .i64 d.by_,.slice ba d.parts.length pc'] 24∧Box A (w.heap.size+6) #[.bool true] 4 ∧
   RowOwn (w.heap.size+11) A fa ((natInts x).map (Value.int .i64))∧x.length≤fc∧PartsHi (w.heap.size+11) A ba d.parts
section
variable {c:Cs}{l:List Prb}{t a b:Nat}{sa:Option Addr}{s:List Nat}{sc:Nat}{w:World}{pre:List (List Nat)}{A B:World}
theorem DtI.below (hi:DtI c l t a b sa s sc w pre A)(hb:Below A.heap.size A B):DtI c l t a b sa s sc w pre B:=
 ⟨hi.old.trans (hb.mono hi.old.size),hi.b0.below' hb,hi.b1.below' hb,hi.b2.below' hb,hi.b3.below' hb,hi.r4.below' hb,hi.r5.below' hb,hi.r6.below' hb,hi.tb.below' hb,hi.sb.below' hb,hi.all⟩
theorem DtI.snoc (hi:DtI c l t a b sa s sc w pre A){x:List Nat}(hx:sureB c l a b s x=true):DtI c l t a b sa s sc w (pre++[x]) A:=
 ⟨hi.old,hi.b0,hi.b1,hi.b2,hi.b3,hi.r4,hi.r5,hi.r6,hi.tb,hi.sb,fun y hy=>by rcases List.mem_append.1 hy with h|h;exact hi.all y h;rw[List.mem_singleton.1 h];exact hx⟩
end
def DtC (w:World)(_:World)(k:Nat):Prop:=k=w.heap.size+4∨k=w.heap.size+5∨k=w.heap.size+6
def DtAs (t:Nat)(a b:Nat)(sa:Option Addr)(n sc:Nat)(w:World)(x:List Nat)(_:Array Value)(act:Act)(A:World):Prop:=
 ∃fa fc,RowOwn (w.heap.size+11) A fa ((natInts x).map (Value.int .i64))∧x.length≤fc ∧
  act={tmps:=#[.pointer (some ⟨t,0,none⟩),.int .i64 a,.int .i64 b,.slice sa n sc,.pointer (some ⟨w.heap.size,0,none⟩),.pointer (some ⟨w.heap.size+1,0,none⟩),.pointer (some ⟨w.heap.size+2,0,none⟩),.pointer (some ⟨w.heap.size+3,0,none⟩),
   .pointer (some ⟨w.heap.size+4,0,none⟩),.pointer (some ⟨w.heap.size+5,0,none⟩),.pointer (some ⟨w.heap.size+6,0,none⟩),.slice fa x.length fc,undef,undef,
   .pointer (some ⟨t,0,none⟩),.slice sa n sc,.func (.func 176) #[] #[.pointer (some ⟨w.heap.size+8,0,none⟩),.pointer (some ⟨w.heap.size+7,0,none⟩)],.slice fa x.length fc,
   undef,undef,undef,undef,undef,undef,undef,undef,undef,undef,undef,undef,undef,undef,undef,undef,undef,undef],defers:=[]}
theorem rowOwn_keep {K:Nat→Prop}{B:Nat}{A A':World}{fa:Option Addr}{xs:List Value}(h:RowOwn B A fa xs)(hk:Keep K A A')(hK:∀k,B≤k→K k):RowOwn B A' fa xs:=fun k v hv=>by
 obtain⟨b,o,h1,h2,h3,h4⟩:=h k v hv;refine⟨b,o,h1,h2,hk.cell (hK b h2) h3,?_⟩;have hb:=hk.block b (hK b h2) (lt_of_cell h3);exact(World.frozen?_of_block (w:=A) (a:=⟨b,o+k,none⟩) hb).trans h4
theorem results_cells3 {P:Program}{fn:Func}{t u x:Tmp}{ty tu tx:TypeId}(h:fn.results = #[.cell t ty,.cell u tu,.cell x tx]){tmps:Array Value}{w:World}{p q r:Addr}{v1 v2 v3:Value}(hp:tmps.getD t undef = .pointer (some p))(hq:tmps.getD u undef = .pointer (some q))(hr:tmps.getD x undef = .pointer (some r))
 (h1:(loadVar ty p).run P w = .ok v1 w) (h2:(loadVar tu q).run P w = .ok v2 w) (h3:(loadVar tx r).run P w = .ok v3 w):(results fn tmps).run P w = .ok (.tuple #[v1,v2,v3]) w:=by
 have hp':tmps[t]?.getD undef = .pointer (some p):=by simpa using hp
 have hq':tmps[u]?.getD undef = .pointer (some q):=by simpa using hq
 have hr':tmps[x]?.getD undef = .pointer (some r):=by simpa using hr
 simp[results,h,hp',hq',hr',asAddr,h1,h2,h3]
theorem load_ints9 {w:World}{g:Nat}{v:Value}(h:Box w g #[v] 26):(loadVar 26 ⟨g,0,none⟩).run Tryz.prog w = .ok v w:=by
 have:=h.cell 0;simp at this
 simp[go_sem,this]
theorem load_bool9 {w:World}{g:Nat}{v:Value}(h:Box w g #[v] 4):(loadVar 4 ⟨g,0,none⟩).run Tryz.prog w = .ok v w:=by
 have:=h.cell 0;simp at this
 simp[go_sem,this]
theorem doubtful_any {t:Nat}{c:Cs}{pa:Option Addr}{pc:Nat}{l:List Prb}{qa:Option Addr}{qc:Nat}(hsm:c.Small)(hpr:probesErr c l=0)(a b:Nat)(ha:a<c.parts.length)(hb:b<c.parts.length)(sa:Option Addr)(s:List Nat)(sc:Nat)(hs:∀v∈s,v<l.length)(hsl:s.length≤1000)(w:World)(h:LabAt w t c pa pc l qa qc)(hS:Ints w sa (natInts s)):
 Calls Tryz.prog 170 #[.pointer (some ⟨t,0,none⟩),.int .i64 a,.int .i64 b,.slice sa s.length sc] w (DtPost c l a b s w):=by
 have hmf:=run_mf Tryz.prog;refine(callsIn_wide (n:=0)).1 (callsIn_of_wp_marks Tryz.func170 rfl trivial ?_ rfl);simp only[Tryz.ntmps170,List.size_toArray,List.length_cons,List.length_nil,Nat.reduceAdd,Nat.reduceSub,Array.replicate_succ,Array.replicate_zero,List.push_toArray,List.append_toArray,List.nil_append,List.cons_append]
 gi_wp2_with (gi_at_call 115;(with_reducible refine(callsIn_wide.2 (outcomes_any _ _ _ _ _)).mono ?_);rintro e w' ⟨rfl,rfl⟩)
 obtain⟨w4,hw4⟩:=zx ((((((((((w.alloc (.cells #[.pointer (some ⟨t,0,none⟩)] 104)).alloc (.cells #[.int .i64 (a:Int)] 3)).alloc (.cells #[.int .i64 (b:Int)] 3)).alloc (.cells #[.slice sa s.length sc] 26)).alloc (.cells #[.slice none 0 0] 26)).alloc (.cells #[.string ⟨#[]⟩,.int .i64 0,.int .i64 0,.slice none 0 0] 24)).alloc (.cells #[.bool false] 4)).alloc (.cells #[.pointer (some ⟨t,0,none⟩)] 104)).alloc (.cells #[.slice sa s.length sc] 26)));have gI:DtI c l t a b sa s sc w [] w4:=by
  rw[←hw4];refine⟨by go_grown,((((((((Box.new _ _ _).alloc _).alloc _).alloc _).alloc _).alloc _).alloc _).alloc _).alloc _,(((((((Box.new' zS).alloc _).alloc _).alloc _).alloc _).alloc _).alloc _).alloc _,((((((Box.new' zS).alloc _).alloc _).alloc _).alloc _).alloc _).alloc _,(((((Box.new' zS).alloc _).alloc _).alloc _).alloc _).alloc _,((((Box.new' zS).alloc _).alloc _).alloc _).alloc _,(((Box.new' zS).alloc _).alloc _).alloc _,((Box.new' zS).alloc _).alloc _,(Box.new' zS).alloc _,Box.new' zS,fun y hy=>by cases hy⟩
 have gs:w4.heap.size=w.heap.size+9:=by rw[←hw4];simp
 simp only[hw4];clear hw4;refine wpIn_rangeD (gf:=176) (lb:=#[.pointer (some ⟨w.heap.size+8,0,none⟩),.pointer (some ⟨w.heap.size+7,0,none⟩)]) (Rd:=OutRd (w.heap.size+11)) (xs:=outsOf (cntsOf c l s)) rfl (enters_of Tryz.func176 zK rfl)
  (fun o1 o2=>outs_gives (t:=t) (pa:=pa) (pc:=pc) (qa:=qa) (qc:=qc) hpr sa s sc (w.heap.size+7) (w.heap.size+8) (w.heap.size+11) hs hsl _ zT) ?ps
  (DtC w) (DtI c l t a b sa s sc w) (fun co _ A=>co = .ret∧DtX c l a b s w A) ?hC1 ?hC2 ?hC3 ?hC4 ?hOk ?hI ?hI2 ?hX ?hX2 gI (DtAs t a b sa s.length sc w) ?hAs ?assign ?body ?done ?stop
 case ps=>rintro D x args W ⟨fa,fc,rfl,_⟩;rfl
 case hC1=>intro s A B k _ _ _ h;exact h
 case hC2=>
  intro s A k hi _ hk
  rcases hk with rfl|rfl|rfl
  ·exact hi.r4.lt
  ·exact hi.r5.lt
  ·exact hi.r6.lt
 case hC3=>intro A o;rfl
 case hC4=>intro s A hi _;rw[gs];unfold DtC;omega
 case hOk=>intro rec pre A hi;exact⟨h.below hi.1.old,hS.below hi.1.old,hi.1.tb,hi.1.sb⟩
 case hI=>intro s A B hi hb;exact hi.below hb
 case hI2=>
  intro s A o hi;have hk:Keep (fun k=>k≠w4.heap.size+1) A (A.putObj (w4.heap.size+1) o):=(Keep.refl _ A).putObj (fun h=>h rfl) _;rw[gs] at hk ⊢;exact⟨below_put hi.old zO _,hk.heap zO hi.b0,hk.heap zO hi.b1,hk.heap zO hi.b2,hk.heap zO hi.b3,hk.heap zO hi.r4,hk.heap zO hi.r5,hk.heap zO hi.r6,hk.heap zO hi.tb,hk.heap zO hi.sb,hi.all⟩
 case hX=>
  rintro co s A B ⟨hc,hx⟩ hb;obtain⟨x,d,fa,fc,ba,pc',h1,h2,h3,h4,h5,h6,h7,h8,h9⟩:=hx.res;exact⟨hc,hx.old.trans (hb.mono hx.old.size),x,d,fa,fc,ba,pc',h1,h2,h3,h4.below' hb,h5.below' hb,h6.below' hb,h7.below hb,h8,h9.below hb⟩
 case hX2=>
  rintro co s A o ⟨hc,hx⟩;have hk:Keep (fun k=>k≠w4.heap.size+1) A (A.putObj (w4.heap.size+1) o):=(Keep.refl _ A).putObj (fun h=>h rfl) _;rw[gs] at hk ⊢;obtain⟨x,d,fa,fc,ba,pc',h1,h2,h3,h4,h5,h6,h7,h8,h9⟩:=hx.res;exact⟨hc,below_put hx.old zO _,x,d,fa,fc,ba,pc',h1,h2,h3,hk.heap zO h4,hk.heap zO h5,hk.heap zO h6,rowOwn_keep h7 hk (fun k hk=>by omega),h8,h9.keep (hk.mono fun k hk=>by omega)⟩
 case hAs=>
  rintro x args act A o ⟨fa,fc,h1,h2,h3⟩;have hk:Keep (fun k=>k≠w4.heap.size+1) A (A.putObj (w4.heap.size+1) o):=(Keep.refl _ A).putObj (fun h=>h rfl) _;rw[gs] at hk ⊢;exact⟨fa,fc,rowOwn_keep h1 hk (fun k hk=>by omega),h2,h3⟩
 case assign=>
  rintro l pre x args W Kk hi ⟨fa,fc,rfl,hro,hfc,_⟩ hlt hk
  gi_wp2_with fail
  exact hk _ _ ⟨fa,fc,hro,hfc,rfl⟩ (Below.refl _ _)
 case body=>
  rintro lo pre x args act W hi ⟨fa,fc,hro,hfc,rfl⟩ hpre hlt rfl hlp;have hx:=(mem_outs hs).1 (hpre.subset (by simp:x∈pre++[x]));have e0:=hi.b0.cell;have e1:=hi.b1.cell;have e2:=hi.b2.cell;have e3:=hi.b3.cell;have hcan:=can_any hsm hpr sa s sc fa x fc W (h.below hi.old) (hS.below hi.old) hro.row hsl hx.1 hx.2;have HCAN:=zh hcan;have HI:=zh hi;have HRO:=zh hro;have HPRE:=zh hpre;have HLT:=zh (show w.heap.size+11≤W.heap.size by omega);clear hcan hi hro hpre hx
  gi_wp2_with fail
  (with_reducible refine(CallsIn.inRound _ (callsIn_wide.2 HCAN.out)).mono ?_)
  rintro e w2 ⟨hb2,(⟨hcn,u1,u2,u3,u4,u5,u6,rfl⟩|⟨d,ba,pc',hcn,rfl,hhi⟩)⟩
  ·have hb3:Below W.heap.size W (w2.alloc (.cells #[.string u1,.int .i64 u2,.int .i64 u3,.slice u4 u5 u6] 24)):=hb2.alloc hb2.size _;have HB3:=zh hb3;have HCN:=zh hcn;clear hb2 hb3 hcn e0 e1 e2 e3
   gi_wp2_with fail
   exact⟨Keep.of_below' HB3.out,fun k hk=>.inl hk,(HI.out.below HB3.out).snoc (sure_none HCN.out)⟩
  ·have hcok:=canC_ok hpr hcn;have hl:=hcok.1.len;obtain⟨G,hG⟩:=zx (w2.heap.size);obtain⟨w3,hw3⟩:=zx (w2.alloc (.cells #[.string d.ware,.int .i64 d.limit,.int .i64 d.by_,.slice ba d.parts.length pc'] 24));have hB3:Below w2.heap.size w2 w3:=by rw[←hw3];go_grown
   have g3:Box w3 G #[.string d.ware,.int .i64 d.limit,.int .i64 d.by_,.slice ba d.parts.length pc'] 24:=by rw[←hw3,←hG];exact Box.new _ _ _
   have hi3:=(HI.out.below hb2).below hB3;have hhi3:=hhi.below hB3;have han:=answer9_any d (small_of hcok.1.chk) a b (ask_two hcok.1.chk hcok.2.1 zO zO) ba pc' w3 hhi3.at_;have HAN:=zh han;have HW3:=zh hw3;have HG3:=zh g3;have HI3:=zh hi3;have HH3:=zh hhi3;have HB3:=zh (hb2.trans (hB3.mono hb2.size));have HCN:=zh hcn;have HGE:=zh hG;have HGL:=zh (show W.heap.size≤G by rw[←hG];exact hb2.size);have HB3L:=zh (Nat.le_refl W.heap.size);clear e0 e1 e2 e3 hb2 hcn hhi hcok hl hw3 hB3 g3 hi3 hhi3 han hG;have e1:=HI3.out.b1.cell;have e2:=HI3.out.b2.cell;have eG:=HG3.out.cell
   gi_upto_region 4 with fail
   simp only[HW3.out,HGE.out]
   gi_wp2_with fail
   (with_reducible refine(CallsIn.inRound _ (callsIn_wide.2 HAN.out)).mono ?_)
   rintro e w5 ⟨rfl,hb5⟩;have HI5:=zh (HI3.out.below hb5);have HG5:=zh (HG3.out.below' hb5);have HH5:=zh (HH3.out.below hb5);have HB5:=zh (HB3.out.trans (hb5.mono HB3.out.size));have HSS:=zh (sure_some (a:=a) (b:=b) HCN.out);have HAA:=zh (show ansAt d a b=ansAt d a b from rfl);obtain⟨n,hn⟩:=zx (ansAt d a b);have HN:=zh hn;rw[hn];clear hb5 e1 e2 eG hn HAA
   by_cases hq:n=3
   ·subst hq
    gi_wp2_with fail
    rename_i K3 hK3
    have hk0:Keep (fun k=>¬DtC w W k) W w5.drew:=(Keep.of_below' HB5.out).drew;have hi6:DtI c l t a b sa s sc w pre w5.drew:=HI5.out.below (Below.refl _ w5).drew;have hG6:Box w5.drew G #[.string d.ware,.int .i64 d.limit,.int .i64 d.by_,.slice ba d.parts.length pc'] 24:=HG5.out;have hh6:PartsHi W.heap.size w5.drew ba d.parts:=HH5.out.below (Below.refl _ w5).drew;refine wpIn_region_L_round (fun A=>Box A G #[.string d.ware,.int .i64 d.limit,.int .i64 d.by_,.slice ba d.parts.length pc'] 24) 5 zK zK ?_;have KG:Hid (∀A,Box A G #[.string d.ware,.int .i64 d.limit,.int .i64 d.by_,.slice ba d.parts.length pc'] 24→∀j,A.cell? ⟨G,j,none⟩=(#[.string d.ware,.int .i64 d.limit,.int .i64 d.by_,.slice ba d.parts.length pc']:Array Value)[j]?):=zh fun A hA=>hA.cell
    have hSS:=hG6;generalize w5.drew=w6 at *;refine tM KG 0 hSS ?_;refine tM KG 1 hSS ?_;have hlt:=HLT.out;have hgl:=HGL.out;obtain⟨z1,z2⟩:=hi6.r4.rules;have hk7:=hk0.setCell (p:=⟨w.heap.size+4,0,none⟩) (.inl (by simp[DtC])) (.slice fa x.length fc);have h7:Below w.heap.size w (w6.setCell ⟨w.heap.size+4,0,none⟩ (.slice fa x.length fc)):=hi6.old.setCell zS _;have r4:Box (w6.setCell ⟨w.heap.size+4,0,none⟩ (.slice fa x.length fc)) (w.heap.size+4) #[.slice fa x.length fc] 26:=hi6.r4.set_ 0 _;have r5:Box (w6.setCell ⟨w.heap.size+4,0,none⟩ (.slice fa x.length fc)) (w.heap.size+5) _ _:=hi6.r5.far zS _;have r6:Box (w6.setCell ⟨w.heap.size+4,0,none⟩ (.slice fa x.length fc)) (w.heap.size+6) _ _:=hi6.r6.far zS _;have hG7:Box (w6.setCell ⟨w.heap.size+4,0,none⟩ (.slice fa x.length fc)) G _ _:=hG6.far zT _
    have hh7:PartsHi W.heap.size (w6.setCell ⟨w.heap.size+4,0,none⟩ (.slice fa x.length fc)) ba d.parts:=hh6.set_ zT _;refine anyL_skip (i:=2) (w':=w6.setCell ⟨w.heap.size+4,0,none⟩ (.slice fa x.length fc)) rfl zK (by rfl) ?_ (.inr hG7) ?_
    ·go_simp
     try with_reducible rfl
    try simp only[pZ]
    clear z1 z2 hi6 hG6 hh6 hk0 hSS;generalize w6.setCell ⟨w.heap.size+4,0,none⟩ (.slice fa x.length fc)=w7 at *;obtain⟨z1,z2⟩:=r5.rules;have hk8:=(((hk7.setCell (p:=⟨w.heap.size+5,0,none⟩) (.inl (by simp[DtC])) (.string d.ware)).setCell (p:=⟨w.heap.size+5,1,none⟩) (.inl (by simp[DtC])) (.int .i64 d.limit)).setCell (p:=⟨w.heap.size+5,2,none⟩) (.inl (by simp[DtC])) (.int .i64 d.by_)).setCell (p:=⟨w.heap.size+5,3,none⟩) (.inl (by simp[DtC])) (.slice ba d.parts.length pc');have h8:Below w.heap.size w ((((w7.setCell ⟨w.heap.size+5,0,none⟩ (.string d.ware)).setCell ⟨w.heap.size+5,1,none⟩ (.int .i64 d.limit)).setCell ⟨w.heap.size+5,2,none⟩ (.int .i64 d.by_)).setCell ⟨w.heap.size+5,3,none⟩ (.slice ba d.parts.length pc')):=(((h7.setCell zS _).setCell zS _).setCell zS _).setCell zS _
    have hG8:Box ((((w7.setCell ⟨w.heap.size+5,0,none⟩ (.string d.ware)).setCell ⟨w.heap.size+5,1,none⟩ (.int .i64 d.limit)).setCell ⟨w.heap.size+5,2,none⟩ (.int .i64 d.by_)).setCell ⟨w.heap.size+5,3,none⟩ (.slice ba d.parts.length pc')) G _ _:=(((hG7.far zT _).far zT _).far zT _).far zT _;have q4:Box ((((w7.setCell ⟨w.heap.size+5,0,none⟩ (.string d.ware)).setCell ⟨w.heap.size+5,1,none⟩ (.int .i64 d.limit)).setCell ⟨w.heap.size+5,2,none⟩ (.int .i64 d.by_)).setCell ⟨w.heap.size+5,3,none⟩ (.slice ba d.parts.length pc')) (w.heap.size+4) #[.slice fa x.length fc] 26:=(((r4.far zS _).far zS _).far zS _).far zS _
    have q6:Box ((((w7.setCell ⟨w.heap.size+5,0,none⟩ (.string d.ware)).setCell ⟨w.heap.size+5,1,none⟩ (.int .i64 d.limit)).setCell ⟨w.heap.size+5,2,none⟩ (.int .i64 d.by_)).setCell ⟨w.heap.size+5,3,none⟩ (.slice ba d.parts.length pc')) (w.heap.size+6) #[.bool false] 4:=(((r6.far zS _).far zS _).far zS _).far zS _;have q5:Box ((((w7.setCell ⟨w.heap.size+5,0,none⟩ (.string d.ware)).setCell ⟨w.heap.size+5,1,none⟩ (.int .i64 d.limit)).setCell ⟨w.heap.size+5,2,none⟩ (.int .i64 d.by_)).setCell ⟨w.heap.size+5,3,none⟩ (.slice ba d.parts.length pc')) (w.heap.size+5) #[.string d.ware,.int .i64 d.limit,.int .i64 d.by_,.slice ba d.parts.length pc'] 24:=(((r5.set_ 0 _).set_ 1 _).set_ 2 _).set_ 3 _
    have hh8:PartsHi W.heap.size ((((w7.setCell ⟨w.heap.size+5,0,none⟩ (.string d.ware)).setCell ⟨w.heap.size+5,1,none⟩ (.int .i64 d.limit)).setCell ⟨w.heap.size+5,2,none⟩ (.int .i64 d.by_)).setCell ⟨w.heap.size+5,3,none⟩ (.slice ba d.parts.length pc')) ba d.parts:=(((hh7.set_ zT _).set_ zT _).set_ zT _).set_ zT _;refine anyL_skip (i:=3) (w':=(((w7.setCell ⟨w.heap.size+5,0,none⟩ (.string d.ware)).setCell ⟨w.heap.size+5,1,none⟩ (.int .i64 d.limit)).setCell ⟨w.heap.size+5,2,none⟩ (.int .i64 d.by_)).setCell ⟨w.heap.size+5,3,none⟩ (.slice ba d.parts.length pc')) rfl zK (by rfl) ?_ (.inr hG8) ?_
    ·go_simp
     try with_reducible rfl
    try simp only[pZ]
    clear z1 z2 r4 r5 r6 hG7 hh7 hk7 h7;generalize (((w7.setCell ⟨w.heap.size+5,0,none⟩ (.string d.ware)).setCell ⟨w.heap.size+5,1,none⟩ (.int .i64 d.limit)).setCell ⟨w.heap.size+5,2,none⟩ (.int .i64 d.by_)).setCell ⟨w.heap.size+5,3,none⟩ (.slice ba d.parts.length pc')=w8 at *;obtain⟨z1,z2⟩:=q6.rules;have hk9:=hk8.setCell (p:=⟨w.heap.size+6,0,none⟩) (.inl (by simp[DtC])) (.bool true);refine anyL_skip (i:=4) (w':=w8.setCell ⟨w.heap.size+6,0,none⟩ (.bool true)) rfl zK (by rfl) ?_ (.inr (hG8.far zT _)) ?_
    ·go_simp
     try with_reducible rfl
    refine anyL_done zK ?_ _;have hx9:DtX c l a b s w (w8.setCell ⟨w.heap.size+6,0,none⟩ (.bool true)):=
     ⟨h8.setCell zS _,x,d,fa,fc,ba,pc',doubt_at HPRE.out (fun y hy=>HI.out.all y hy) (by rw[HSS.out,HN.out];rfl),HCN.out,HN.out,q4.far zS _,q5.far zS _,q6.set_ 0 _,rowOwn_keep HRO.out hk9 (fun k hk=>by simp[DtC];omega),hfc,(hh8.set_ zT _).mono hlt⟩
    have HX9:=zh hx9;have HK9:=zh hk9;clear hx9 hk9 hk8 h8 hG8 q4 q5 q6 hh8 z1 z2 KG;refine hK3 _ _ ?_
    gi_wp2_with fail
    exact⟨HK9.out,fun k hk=>.inl hk,rfl,HX9.out⟩
   ·have hqb:(n==3)=false:=by simpa using hq
    have HQ:=zh hq;clear hq
    gi_wp2_with fail
    exact⟨Keep.of_below' HB5.out,fun k hk=>.inl hk,HI5.out.snoc (by rw[HSS.out,HN.out];simpa using HQ.out)⟩
 case done=>
  intro W hi hD;have HI:=zh hi;have HD:=zh hD;obtain⟨z1,z2⟩:=hi.r4.rules;obtain⟨y1,y2⟩:=hi.r5.rules;obtain⟨x1,x2⟩:=hi.r6.rules;clear hi hD
  gi_wp2_with fail
  have hd1:W.heap[w.heap.size+9]?=some (.deferred (some [])):=by have:=HD.out;rwa [gs] at this
  refine⟨by simp,.inl ⟨_,_,rfl,run_takeDeferred (((((((Keep.refl (fun k=>k=w4.heap.size) W).setCell (.inl zT) _).setCell (.inl zT) _).setCell (.inl zT) _).setCell (.inl zT) _).setCell (.inl zT) _).setCell (.inl zT) _ |>.heap rfl HD.out),?_⟩⟩;rw[gs];refine⟨_,results_cells3 rfl rfl rfl rfl (load_ints9 (((Keep.refl (fun k=>k≠w.heap.size+9) _).putObj (fun h=>h rfl) _).heap zO ((((((HI.out.r4.set_ 0 _).far zS _).far zS _).far zS _).far zS _).far zS _)))
   (run_loadVar_row _ _ 24 24 _ (0,0) _ (((Keep.refl (fun k=>k≠w.heap.size+9) _).putObj (fun h=>h rfl) _).heap zO ((((((HI.out.r5.far zS _).set_ 0 _).set_ 1 _).set_ 2 _).set_ 3 _).far zS _)) Tryz.underlying24 rfl case_size)
   (load_bool9 (((Keep.refl (fun k=>k≠w.heap.size+9) _).putObj (fun h=>h rfl) _).heap zO ((((((HI.out.r6.far zS _).far zS _).far zS _).far zS _).far zS _).set_ 0 _))),?_⟩
  exact⟨below_put ((((((HI.out.old.setCell zT _).setCell zT _).setCell zT _).setCell zT _).setCell zT _).setCell zT _) zO _,.inl ⟨doubt_none HI.out.all,rfl⟩⟩
 case stop=>
  rintro co pre W hpre ⟨rfl,hx⟩ hD;have HX:=zh hx;have HD:=zh hD;clear hx hD
  gi_wp2_with fail
  have hd1:W.heap[w.heap.size+9]?=some (.deferred (some [])):=by have:=HD.out;rwa [gs] at this
  obtain⟨x,d,fa,fc,ba,pc',h1,h2,h3,h4,h5,h6,h7,h8,h9⟩:=HX.out.res;refine⟨by simp,.inl ⟨_,_,rfl,run_takeDeferred (by rw[gs];exact hd1),?_⟩⟩;rw[gs];have hk:Keep (fun k=>k≠w.heap.size+9) W (W.putObj (w.heap.size+9) (.deferred none)):=(Keep.refl _ W).putObj (fun h=>h rfl) _;refine⟨_,results_cells3 rfl rfl rfl rfl (load_ints9 (hk.heap zO h4)) (run_loadVar_row _ _ 24 24 _ (0,0) _ (hk.heap zO h5) Tryz.underlying24 rfl case_size) (load_bool9 (hk.heap zO h6)),?_⟩;exact⟨below_put HX.out.old zO _,.inr ⟨x,d,fa,fc,ba,pc',h1,h2,h3,rfl,fun k v hv=>by
   obtain⟨b',o',q1,q2,q3⟩:=rowOwn_keep h7 hk (fun k hk=>by omega) k v hv;exact⟨b',o',q1,zO,q3⟩,h8,(h9.keep (hk.mono fun k hk=>by omega)).mono zO⟩⟩
end
theorem okAll_check {c:Cs}(h:checkCase c=0):okAll c=true:=by
 rw[okAll_iff];intro a q hq;have:=okSpn_of ((check_okCase h).2.2.1 q (List.mem_of_getElem? hq));exact this.2.1
theorem zip_at {s fs:List Nat}{x:Nat×Nat}(h:x∈s.zip fs):∃i:Nat,s[i]?=some x.1∧fs[i]?=some x.2:=by
 obtain⟨i,hi⟩:=List.mem_iff_getElem?.1 h;rw[List.getElem?_zip_eq_some] at hi;exact⟨i,hi⟩
theorem after_ref {c:Cs}{l:List Prb}{s fs:List Nat}(hp:probesErr c l=0)(hs:∀v∈s,v<l.length):afterC c l s fs=if okAll (refAft c l (s.zip fs) c) then some (refAft c l (s.zip fs) c) else none:=by
 obtain⟨hc,_,hall⟩:=probes_ok hp;refine aft_ref _ c (fun x hx=>?_) (okAll_check hc);obtain⟨i,h1,_⟩:=zip_at hx;obtain⟨p,hpp⟩:=get_of_lt l (hs x.1 (List.mem_of_getElem? h1));have:=(hall p (List.mem_of_getElem? hpp)).2.1;exact⟨p,hpp,zO⟩
