/- Walks and plain laws. No condition. -/
import Derived.Test.YtjgldeeianionaaGreatV20
import Derived.Test.YtjgldeeianionaaGreatV24
set_option maxHeartbeats 2000000
set_option maxRecDepth 100000
set_option linter.unusedSimpArgs false
set_option linter.unusedVariables false
namespace Go.Proofs.YtjgldeeianionaaGreat
open Go.RowKit
section
attribute [local go_sem] Oper.semAt_some
theorem costOf_snoc (l:List Prb)(s:List Nat)(v:Nat):costOf l (s++[v])=costOf l s+((l[v]?).map (·.cost)).getD 0:=by simp[costOf,List.foldl_append]
theorem costOf_in {c:Cs}{l:List Prb}(hp:probesErr c l=0):∀s:List Nat,0≤costOf l s∧costOf l s≤1000*s.length:=by
 intro s;have key:∀r:List Nat,0≤costOf l r.reverse∧costOf l r.reverse≤1000*r.length:=by
  intro r
  induction r with
  |nil=>simp[costOf]
  |cons v r ih=>
   rw[List.reverse_cons,costOf_snoc,List.length_cons]
   rcases hv:l[v]? with _|p
   ·simp only[Option.map_none,Option.getD_none];omega
   ·have:=(right_vals ((probes_ok hp).2.2 p (List.mem_of_getElem? hv)).1).2.2;simp only[Option.map_some,Option.getD_some];omega
 have:=key s.reverse
 simpa using this
theorem cost_any {t:Nat}{c:Cs}{pa:Option Addr}{pc:Nat}{l:List Prb}{qa:Option Addr}{qc:Nat}(hp:probesErr c l=0)(sa:Option Addr)(s:List Nat)(sc:Nat)(w:World)(h:LabAt w t c pa pc l qa qc)(hS:Ints w sa (natInts s))(hs:∀v∈s,v<l.length)(hsl:s.length≤1000):
 Calls Tryz.prog 134 #[.pointer (some ⟨t,0,none⟩),.slice sa s.length sc] w fun e w'=>e = .returned (.int .i64 (costOf l s))∧w=w':=by
 have e1:=h.cells;have HS:=zh hs;have HC:=zh (costOf_in hp);have HPR:=zh h.probes;have hl5:=(probes_ok hp).2.1;have HRV:=zh (fun(v:Nat) (p:Prb) (hv:l[v]?=some p)=>(right_vals ((probes_ok hp).2.2 p (List.mem_of_getElem? hv)).1).2.2);clear hs h hp
 go_enter Tryz.func134,Tryz.ntmps134
 go_wp2_with fail
 go_loop [5,10] (fun nv iv=>∃k:Nat,k≤s.length∧iv = .int .i64 k∧nv = .int .i64 (costOf l (s.take k))) (fun _ iv=>s.length-(intOf iv).toNat)
 case atStart=>exact⟨0,Nat.zero_le _,rfl,by simp[costOf]⟩
 case round=>
  obtain⟨k,hk,rfl,rfl⟩:=hrel
  by_cases hlt:k<s.length
  ·obtain⟨v,hv⟩:=get_of_lt s hlt;have hvl:=HS.out v (List.mem_of_getElem? hv);obtain⟨p,hp⟩:=get_of_lt l hvl;have hvi:(natInts s)[k]?=some (v:Int):=by simp[natInts,hv]
   obtain⟨b,o,rfl,hb⟩:=hS.base (by simp[natInts];omega);have c1:=hb _ _ hvi;obtain⟨g,e,p',rfl,hp',hG⟩:=HPR.out.at_ hvl;rw[hp] at hp';cases hp';have c2:=hG.open.2.2.2;have hr:=HRV.out v p hp;have h1:=HC.out (s.take k);have htl:(s.take k).length≤1000:=by have:=List.length_take_le k s;omega
   have hkn:(k:Int)<(s.length:Int):=by omega
   have hvn:(v:Int)<(l.length:Int):=by omega
   have hnx:costOf l (s.take (k+1))=costOf l (s.take k)+p.cost:=by rw[take_snoc hv,costOf_snoc,hp];rfl
   have HNX:=zh hnx;obtain⟨n,hn⟩:=zx (costOf l (s.take k));rw[hn] at h1 HNX;simp only[hn];have hn1:n≤1000000:=by omega
   clear hv hp hvi hb hG hnx hn
   go_wp2_with fail
   go_round
   case rel=>exact⟨k+1,zO,zN,by rw[HNX.out]⟩
   case measure=>exact zJ
  ·have hkn:decide ((k:Int)<(s.length:Int))=false:=by simp;omega
   have HT:=zh (show s.take k=s by rw[List.take_of_length_le zO]);simp only[HT.out]
   go_wp2_with fail
   go_ret
   exact⟨rfl,rfl⟩
def AskPost (c:Cs)(l:List Prb)(okA:Bool)(Q:Int→World→Prop)(w:World)(e:Ending)(w':World):Prop:=
 ∃er:Int,e = .returned (.int .i64 er)∧((probesErr c l≠0∧er=probesErr c l∧Below w.heap.size w w')∨(probesErr c l=0∧okA=false∧er=1∧Below w.heap.size w w') ∨
  (probesErr c l=0∧okA=true∧(allR c).isEmpty=true∧er=61∧Below w.heap.size w w')∨(probesErr c l=0∧okA=true∧(allR c).isEmpty=false∧Q er w'))
def ArgFn (K:Nat)(caps:Array Value)(c:Cs)(pa:Option Addr)(pc:Nat)(l:List Prb)(qa:Option Addr)(qc:Nat)(w:World)(okA:Bool):Prop:=
 (∀args W,(callFunc K args).run Tryz.prog W = .ok (.enter K args) W)∧∀W t,Below w.heap.size w W→w.heap.size≤t→LabAt W t c pa pc l qa qc→Calls Tryz.prog K (#[.pointer (some ⟨t,0,none⟩)]++caps) W (NeedPost okA W)
def WhatFn (K:Nat)(caps:Array Value)(c:Cs)(pa:Option Addr)(pc:Nat)(l:List Prb)(qa:Option Addr)(qc:Nat)(w:World)(Q:Int→World→Prop):Prop:=
 (∀args W,(callFunc K args).run Tryz.prog W = .ok (.enter K args) W)∧∀W t,Below w.heap.size w W→w.heap.size≤t→LabAt W t c pa pc l qa qc→Calls Tryz.prog K (#[.pointer (some ⟨t,0,none⟩)]++caps) W fun e W'=>∃er,e = .returned (.int .i64 er)∧Q er W'
theorem asked1_any {KA:Nat}{capsA:Array Value}{okA:Bool}{t g h:Nat}(W:World)(hent:∀args W,(callFunc KA args).run Tryz.prog W = .ok (.enter KA args) W)
 (hg:Box W g #[.func (.func KA) #[] capsA] 106) (hh:Box W h #[.pointer (some ⟨t,0,none⟩)] 104) (hc:Calls Tryz.prog KA (#[.pointer (some ⟨t,0,none⟩)]++capsA) W (NeedPost okA W)):
 Calls Tryz.prog 148 #[.pointer (some ⟨g,0,none⟩),.pointer (some ⟨h,0,none⟩)] W (NeedPost okA W):=by
 have hmf:=run_mf Tryz.prog;obtain⟨u1,-⟩:=hg.rules;obtain⟨u2,-⟩:=hh.rules;have HD:=zh hc;clear hc hg hh
 go_enter Tryz.func148,Tryz.ntmps148
 go_wp2_with fail
 refine zM HD ?_;rintro e W' ⟨hb,(⟨hok,rfl⟩|⟨hok,rfl⟩)⟩
 ·go_wp2_with fail
  go_end0
  exact needPost_ok hok hb
 ·go_wp2_with fail
  exact⟨rfl,needPost_no rfl hb⟩
theorem asked9_any (c:Cs)(hsm:c.Small)(pa:Option Addr)(pc:Nat)(l:List Prb)(qa:Option Addr)(qc:Nat)(KA:Nat)(capsA:Array Value)(KW:Nat)(capsW:Array Value)(okA:Bool)(Q:Int→World→Prop)(w:World)(hp:PartsAt w pa c.parts)(hq:PrbsAt w qa l)
 (hA:probesErr c l=0→ArgFn KA capsA c pa pc l qa qc w okA) (hW:probesErr c l=0→okA=true→(allR c).isEmpty=false→WhatFn KW capsW c pa pc l qa qc w Q):
 Calls Tryz.prog 58 #[.agg #[.string c.ware,.int .i64 c.limit,.int .i64 c.by_,.slice pa c.parts.length pc],.slice qa l.length qc,.func (.func KA) #[] capsA,.func (.func KW) #[] capsW] w (AskPost c l okA Q w):=by
 have hmf:=run_mf Tryz.prog;obtain⟨w1,hw1⟩:=zx ((w.alloc (.cells #[.string c.ware,.int .i64 c.limit,.int .i64 c.by_,.slice pa c.parts.length pc] 24)).alloc (.cells #[.func (.func KA) #[] capsA] 106));have hB1:Below w.heap.size w w1:=by rw[←hw1];go_grown
 have b1:Box w1 w.heap.size (csCells c pa pc) 24:=by rw[←hw1];exact(Box.new _ _ _).alloc _
 have b2:Box w1 (w.heap.size+1) #[.func (.func KA) #[] capsA] 106:=by rw[←hw1];exact Box.new' zS
 have e1:=zC (b1);have HCP:=zh (checkProbes_any c hsm pa pc l qa qc w1 (hp.below hB1) (hq.below hB1));have HP:=zh hp;have HQ:=zh hq;have HW:=zh hw1;have HB1:=zh hB1;have HX:=zh b1;have HY:=zh b2;clear hw1 hB1 b1 b2 hp hq
 by_cases hz:probesErr c l=0
 rotate_left
 ·have HZ:=zh hz;have hzz:(probesErr c l != 0)=true:=by simpa using hz
  clear hz hA hW
  go_enter Tryz.func58,Tryz.ntmps58
  go_upto_region 1 with fail
  simp only[HW.out]
  go_wp2_with fail
  refine zM HCP ?_;rintro e w3 ⟨rfl,hb3⟩;have HB3:=zh (HB1.out.trans (hb3.mono HB1.out.size));clear hb3 e1
  go_wp2_with fail
  go_ret
  exact⟨_,rfl,.inl ⟨HZ.out,rfl,HB3.out⟩⟩
 rw[hz] at HCP;have HAF:=zh (hA hz);have HWF:=zh (hW hz);have HZ:=zh hz;clear hz hA hW
 go_enter Tryz.func58,Tryz.ntmps58
 go_upto_region 1 with fail
 simp only[HW.out]
 go_wp2_with fail
 refine zM HCP ?_;rintro e w3 ⟨rfl,hb3⟩;have HB3:=zh (HB1.out.trans (hb3.mono HB1.out.size));have HX3:=zh (HX.out.below' hb3);have HY3:=zh (HY.out.below' hb3);clear hb3 e1;have e1:=zC (HX3.out)
 go_upto_region 5 with fail
 obtain⟨w5,hw5⟩:=zx ((w3.alloc (.cells #[.string c.ware,.int .i64 c.limit,.int .i64 c.by_,.slice pa c.parts.length pc,.slice qa l.length qc] 171)).alloc (.cells #[.pointer (some ⟨w3.heap.size,0,none⟩)] 104));simp only[hw5];have hB35:Below w3.heap.size w3 w5:=by rw[←hw5];go_grown
 have hsz:w5.heap.size=w3.heap.size+2:=by rw[←hw5];simp
 have hB5:Below w.heap.size w w5:=HB3.out.trans (hB35.mono HB3.out.size);have hlab:LabAt w5 w3.heap.size c pa pc l qa qc:=⟨by rw[←hw5];exact(Box.new _ _ _).alloc _,HP.out.below hB5,HQ.out.below hB5⟩
 have hh:Box w5 (w3.heap.size+1) #[.pointer (some ⟨w3.heap.size,0,none⟩)] 104:=by rw[←hw5];exact Box.new' zS
 have hX5:=HX3.out.below' hB35;have hY5:=HY3.out.below' hB35;clear hw5;have hA5:Below w5.heap.size w5 (w5.alloc (.cells #[.bool false] 4)):=by go_grown
 have HFI:=zh (fine_any 148 #[.pointer (some ⟨w.heap.size+1,0,none⟩),.pointer (some ⟨w3.heap.size+1,0,none⟩)] w5 (fun W=>okA=true∧Below w5.heap.size w5 W) (fun W=>okA=false∧Below w5.heap.size w5 W) (fun args W=>by simp[go_sem])
  ((asked1_any (w5.alloc (.cells #[.bool false] 4)) HAF.out.1 (hY5.alloc _) (hh.alloc _) (HAF.out.2 _ w3.heap.size (hB5.trans (hA5.mono hB5.size)) HB3.out.size (hlab.below hA5))).mono (by
   rintro e W ⟨hb,hr⟩;refine⟨(Box.new _ _ _).below' hb,?_⟩
   rcases hr with ⟨hok,rfl⟩|⟨hok,rfl⟩
   ·exact .inl ⟨rfl,hok,hA5.trans (hb.mono hA5.size)⟩
   ·exact .inr ⟨rfl,hok,hA5.trans (hb.mono hA5.size)⟩)))
 have HB5:=zh hB5;have HL5:=zh hlab;have HH5:=zh hh;have HX5:=zh hX5;clear hB35 hB5 hlab hh hX5 hY5 hA5 e1 hsz
 go_wp2_with fail
 refine zM HFI ?_;rintro e w6 (⟨rfl,W,⟨hok,hbW⟩,hk⟩|⟨rfl,W,⟨hok,hbW⟩,hk⟩);rotate_left
 ·have HB6:=zh (HB5.out.trans ((hbW.trans ((hk.mono fun k (hl:k<w5.heap.size)=>Nat.ne_of_lt hl).below hbW.size)).mono HB5.out.size));clear hbW hk
  go_wp2_with fail
  go_ret
  exact⟨_,rfl,.inr (.inl ⟨HZ.out,hok,rfl,HB6.out⟩)⟩
 have hb56:=hbW.trans ((hk.mono fun k (hl:k<w5.heap.size)=>Nat.ne_of_lt hl).below hbW.size);have HB6:=zh (HB5.out.trans (hb56.mono HB5.out.size));have HX6:=zh (HX5.out.below' hb56);have HL6:=zh (HL5.out.below hb56);have HH6:=zh (HH5.out.below' hb56);have HOK:=zh hok;have HLT:=zh HB3.out.size;clear hb56 hbW hk hok W;have e1:=zC (HX6.out)
 go_wp2_with fail
 have hfi:=first_any c hsm pa pc w6 (HP.out.below HB6.out);rw[(probes_ok HZ.out).1] at hfi
 (with_reducible refine hfi.mono ?_)
 clear hfi e1;rintro e w7 ⟨hb7,(⟨hz,rfl⟩|⟨-,hno,rfl⟩|⟨-,x,v,hso,rfl,-⟩)⟩
 ·exact absurd rfl hz
 ·have HB7:=zh (HB6.out.trans (hb7.mono HB6.out.size));have HNO:=zh hno;clear hb7 hno
  go_wp2_with fail
  go_ret
  refine⟨_,rfl,.inr (.inr (.inl ⟨HZ.out,HOK.out,?_,rfl,HB7.out⟩))⟩;have:=HNO.out;cases ha:allR c with
  |nil=>rfl
  |cons y ys=>rw[ha] at this;simp at this
 ·have hne:(allR c).isEmpty=false:=by
   cases ha:allR c with
   |nil=>rw[ha] at hso;simp at hso
   |cons y ys=>rfl
  obtain⟨hent,hcw⟩:=HWF.out HOK.out hne;have HW7:=zh hcw;have HB7:=zh (HB6.out.trans (hb7.mono HB6.out.size));have HL7:=zh (HL6.out.below hb7);obtain⟨u1,-⟩:=(HH6.out.below' hb7).rules;have HNE:=zh hne;clear hb7 hso hne hcw
  go_wp2_with fail
  (with_reducible refine(HW7.out _ _ HB7.out HLT.out HL7.out).mono ?_)
  rintro e w8 ⟨er,rfl,hq⟩;have HQ8:=zh hq;clear hq
  go_wp2_with fail
  go_ret
  exact⟨_,rfl,.inr (.inr (.inr ⟨HZ.out,HOK.out,HNE.out,HQ8.out⟩))⟩
theorem withinR9_any (a b c:Int)(w:World):
 Calls Tryz.prog 109 #[.int .i64 a,.int .i64 b,.int .i64 c] w fun e w'=>e = .returned (.bool (inB a b c))∧w=w':=by
 go_enter Tryz.func109,Tryz.ntmps109
 go_wp2
 all_goals go_ret
 all_goals (refine⟨ret_bool ?_,rfl⟩;rw[Bool.eq_iff_iff];simp[inB];omega)
theorem costR9_any {c:Cs}{l:List Prb}{qa:Option Addr}{qc:Nat}(hp:probesErr c l=0)(sa:Option Addr)(s:List Nat)(sc:Nat)(w:World)(hq:PrbsAt w qa l)(hS:Ints w sa (natInts s))(hs:∀v∈s,v<l.length)(hsl:s.length≤1000):
 Calls Tryz.prog 90 #[.slice qa l.length qc,.slice sa s.length sc] w fun e w'=>e = .returned (.int .i64 (costOf l s))∧w=w':=by
 have HS:=zh hs;have HC:=zh (costOf_in hp);have HPR:=zh hq;have hl5:=(probes_ok hp).2.1;have HRV:=zh (fun(v:Nat) (p:Prb) (hv:l[v]?=some p)=>(right_vals ((probes_ok hp).2.2 p (List.mem_of_getElem? hv)).1).2.2);clear hs hq hp
 go_enter Tryz.func90,Tryz.ntmps90
 go_wp2_with fail
 go_loop [5,6] (fun nv iv=>∃k:Nat,k≤s.length∧iv = .int .i64 k∧nv = .int .i64 (costOf l (s.take k))) (fun _ iv=>s.length-(intOf iv).toNat)
 case atStart=>exact⟨0,Nat.zero_le _,rfl,by simp[costOf]⟩
 case round=>
  obtain⟨k,hk,rfl,rfl⟩:=hrel
  by_cases hlt:k<s.length
  ·obtain⟨v,hv⟩:=get_of_lt s hlt;have hvl:=HS.out v (List.mem_of_getElem? hv);obtain⟨p,hp⟩:=get_of_lt l hvl;have hvi:(natInts s)[k]?=some (v:Int):=by simp[natInts,hv]
   obtain⟨b,o,rfl,hb⟩:=hS.base (by simp[natInts];omega);have c1:=hb _ _ hvi;obtain⟨g,e,p',rfl,hp',hG⟩:=HPR.out.at_ hvl;rw[hp] at hp';cases hp';have c2:=hG.open.2.2.2;have hr:=HRV.out v p hp;have h1:=HC.out (s.take k);have htl:(s.take k).length≤1000:=by have:=List.length_take_le k s;omega
   have hkn:(k:Int)<(s.length:Int):=by omega
   have hvn:(v:Int)<(l.length:Int):=by omega
   have hnx:costOf l (s.take (k+1))=costOf l (s.take k)+p.cost:=by rw[take_snoc hv,costOf_snoc,hp];rfl
   have HNX:=zh hnx;obtain⟨n,hn⟩:=zx (costOf l (s.take k));rw[hn] at h1 HNX;simp only[hn];have hn1:n≤1000000:=by omega
   clear hv hp hvi hb hG hnx hn
   go_wp2_with fail
   go_round
   case rel=>exact⟨k+1,zO,zN,by rw[HNX.out]⟩
   case measure=>exact zJ
  ·have hks:s.take k=s:=List.take_of_length_le zO;have HK:=zh hks;clear hks
   go_wp2_with fail
   go_ret
   exact⟨by rw[HK.out];rfl,rfl⟩
theorem natIn {t:List Nat}{x:Nat}:(natInts t).contains (x:Int)=t.contains x:=by
 rw[Bool.eq_iff_iff];simp only[natInts,List.contains_iff_mem,List.mem_map];constructor
 ·rintro⟨a,h,e⟩;obtain rfl:a=x:=by exact_mod_cast e
  exact h
 ·intro h;exact⟨x,h,rfl⟩
theorem con_snoc {t:List Nat}{x y:Nat}:(t++[y]).contains x=(t.contains x||((y:Int)==(x:Int))):=by
 rw[Bool.eq_iff_iff];simp only[List.contains_iff_mem,List.mem_append,List.mem_singleton,Bool.or_eq_true,beq_iff_eq];constructor
 ·rintro (h|rfl)
  ·exact .inl h
  ·exact .inr rfl
 ·rintro (h|h)
  ·exact .inl h
  ·exact .inr zO
theorem inR9_any (sa:Option Addr)(s:List Nat)(sc:Nat)(ta:Option Addr)(t:List Nat)(tc:Nat)(w:World)(hS:Ints w sa (natInts s))(hT:Ints w ta (natInts t))(hsl:s.length≤1000)(htl:t.length≤1000):
 Calls Tryz.prog 91 #[.slice sa s.length sc,.slice ta t.length tc] w fun e w'=>e = .returned (.bool (isInB s t))∧Below w.heap.size w w':=by
 have HS:=zh hS;have HT:=zh hT;clear hS hT
 go_enter Tryz.func91,Tryz.ntmps91
 go_wp2_with fail
 go_loopw [5] (fun iv wr=>∃k:Nat,k≤s.length∧iv = .int .i64 k∧Below w.heap.size w wr∧∀x∈s.take k,t.contains x=true) (fun iv _=>s.length-(intOf iv).toNat)
 case atStart=>exact⟨0,Nat.zero_le _,rfl,Below.refl _ _,by simp⟩
 case round=>
  obtain⟨k,hk,rfl,hb,hall⟩:=hrel;have HB:=zh hb;have HA:=zh hall;clear hall
  by_cases hlt:k<s.length
  ·obtain⟨x,hx⟩:=get_of_lt s hlt;have hxi:(natInts s)[k]?=some (x:Int):=by simp[natInts,hx]
   have HX:=zh hx;have hkn:(k:Int)<(s.length:Int):=by omega
   obtain⟨wo,hwo⟩:∃wo:World,wo=wr:=⟨_,rfl⟩
   subst hwo;have HSX:=zh hxi;clear hx hxi
   go_wp2_with fail
   go_loopw [6,7] (fun fv jv wr=>∃m:Nat,m≤t.length∧jv = .int .i64 m∧fv = .bool ((t.take m).contains x)∧Below wo.heap.size wo wr) (fun _ jv _=>t.length-(intOf jv).toNat)
   case atStart=>exact⟨0,Nat.zero_le _,rfl,by simp,Below.refl _ _⟩
   case round=>
    obtain⟨m,hm,rfl,rfl,hbo⟩:=hrel;have HBO:=zh hbo
    by_cases hlm:m<t.length
    ·obtain⟨y,hy⟩:=get_of_lt t hlm;have hyi:(natInts t)[m]?=some (y:Int):=by simp[natInts,hy]
     obtain⟨b1,o1,e1,q1⟩:=(HT.out.below (hb.trans (hbo.mono hb.size))).base (by simp[natInts];omega);obtain⟨b2,o2,e2,q2⟩:=(HS.out.below (hb.trans (hbo.mono hb.size))).base (by simp[natInts];omega);have c1:=q1 _ _ hyi;have c2:=q2 _ _ HSX.out;subst e1 e2;have hmn:(m:Int)<(t.length:Int):=by omega
     have hcs:(t.take (m+1)).contains x=((t.take m).contains x||((y:Int)==(x:Int))):=by
      rw[take_snoc hy,con_snoc]
     have HCS:=zh hcs;obtain⟨r,hr⟩:=zx ((t.take m).contains x);rw[hr] at HCS ⊢;obtain⟨r2,hr2⟩:=zx (((y:Int)==(x:Int)));have HR2:=zh hr2;clear hy hyi q1 q2 hcs hr hb hbo;cases r
     ·go_wp2_with fail
      go_quiet (fail)
      clear hr2
      go_wp2_with fail
      go_roundw
      case rel=>exact⟨m+1,zO,zN,by rw[HCS.out,HR2.out];rfl,below_drewN HBO.out _⟩
      case measure=>exact zJ
     ·clear hr2
      go_wp2_with fail
      go_quiet (fail)
      go_wp2_with fail
      go_roundw
      case rel=>exact⟨m+1,zO,zN,by rw[HCS.out];rfl,below_drewN HBO.out _⟩
      case measure=>exact zJ
    ·have htk:t.take m=t:=List.take_of_length_le zO;rw[htk];have HBB:=zh (HB.out.trans (hbo.mono HB.out.size))
     rcases hc:t.contains x with _|_
     ·have HC:=zh hc;clear hc htk hb hbo
      go_wp2_with fail
      go_ret
      refine⟨?_,HBB.out⟩;have:isInB s t=false:=by
       rw[isInB,List.all_eq_false];exact⟨x,List.mem_of_getElem? HX.out,by rw[HC.out];simp⟩
      rw[this];rfl
     ·have HC:=zh hc;clear hc htk hb hbo
      go_wp2_with fail
      go_roundw
      case rel=>
       refine⟨k+1,zO,zN,HBB.out,fun y hy=>?_⟩;rw[List.take_add_one,HX.out] at hy;simp at hy
       rcases hy with hy|rfl
       ·exact HA.out y hy
       ·exact HC.out
      case measure=>exact zJ
  ·go_wp2_with fail
   go_ret
   refine⟨?_,HB.out⟩;have:isInB s t=true:=by
    rw[isInB,List.all_eq_true];intro x hx;exact HA.out x (by rw[List.take_of_length_le zO];exact hx)
   rw[this];rfl
theorem isSetR9_any (qa:Option Addr)(m qc:Nat)(hm:m≤1000000)(sa:Option Addr)(S:List Int)(sc:Nat)(w:World)(hS:Ints w sa S)(hsl:S.length≤1000000):
 Calls Tryz.prog 92 #[.slice qa m qc,.slice sa S.length sc] w fun e w'=>e = .returned (.bool (setB m S))∧Below w.heap.size w w':=by
 have HS:=zh hS;clear hS
 go_enter Tryz.func92,Tryz.ntmps92
 go_wp2_with fail
 go_loopw [5] (fun iv wr=>∃k:Nat,k≤S.length∧iv = .int .i64 k∧Below w.heap.size w wr∧∀j,j<k→setAt m S j=true) (fun iv _=>S.length-(intOf iv).toNat)
 case atStart=>exact⟨0,Nat.zero_le _,rfl,Below.refl _ _,fun j hj=>by omega⟩
 case round=>
  obtain⟨k,hk,rfl,hb,hall⟩:=hrel;have HB:=zh hb;have HA:=zh hall;clear hall
  by_cases hlt:k<S.length
  ·obtain⟨x,hx⟩:=get_of_lt S hlt;have hkn:(k:Int)<(S.length:Int):=by omega
   have HX:=zh hx;clear hx
   go_upto_region 4 with fail
   refine wp_region_L (fun A=>Below wr.drew.heap.size wr.drew A) 25 zK ?_;have hbd:Below wr.heap.size wr wr.drew:=(Below.refl _ wr).drew;have hSS:Below wr.drew.heap.size wr.drew wr.drew:=Below.refl _ _;have HI:=zh (HS.out.below (hb.trans (hbd.mono hb.size)));have HB6:=zh (HB.out.trans (hbd.mono HB.out.size));clear hbd hb;generalize wr.drew=w6 at *;obtain⟨b,o,rfl,hbase⟩:=HI.out.base zO;have c1:=hbase _ _ HX.out;have hmw:IntKind.i64.wrap ((m:Int)-1)=(m:Int)-1:=IntWalk.i64_in _ zO
   rcases k with _|j
   ·have K0:Hid (∀A,Below w6.heap.size w6 A→A.cell? ⟨b,o,none⟩=some (.int .i64 x)):=zh fun A hA=>below_cell hA (by simpa using c1)
    refine tM K0 0 hSS ?_;refine tM K0 1 hSS ?_;refine tM K0 2 hSS ?_;refine tM K0 3 hSS ?_;refine tM K0 4 hSS ?_;refine tM K0 5 hSS ?_;refine tM K0 6 hSS ?_;refine anyL_call (i:=7) (f:=109) (args:=#[.int .i64 x,.int .i64 0,.int .i64 ((m:Int)-1)]) rfl zK (by rfl) (by go_simp) (withinR9_any x 0 ((m:Int)-1) w6) ?_;rintro e w7 ⟨rfl,rfl⟩;refine .inl ⟨_,rfl,.inr hSS,?_⟩
    try simp only[pZ]
    rcases hin:inB x 0 ((m:Int)-1) with _|_
    ·have HNO:=zh (show setB m S=false from upto_false hlt (by rw[setAt_zero HX.out,hin]));clear hin;refine tM K0 8 hSS ?_;refine tM K0 9 hSS ?_;refine tN 10 hSS ?_;refine tN 11 hSS ?_;refine tN 12 hSS ?_;refine tN 13 hSS ?_;refine tN 14 hSS ?_;refine tN 15 hSS ?_;refine tN 16 hSS ?_;refine tN 17 hSS ?_;refine tN 18 hSS ?_;refine tN 19 hSS ?_;refine tN 20 hSS ?_;refine tN 21 hSS ?_;refine tN 22 hSS ?_;refine tN 23 hSS ?_;refine tM K0 24 hSS ?_;refine anyL_done zK ?_ _;clear hSS K0 hbase c1
     go_wp2_with fail
     go_ret
     refine⟨?_,HB6.out⟩;rw[HNO.out];rfl
    ·have HYES:=zh (show setAt m S 0=true by rw[setAt_zero HX.out,hin]);clear hin;refine tM K0 8 hSS ?_;refine tM K0 9 hSS ?_;refine tM K0 10 hSS ?_;refine tM K0 11 hSS ?_;refine tM K0 12 hSS ?_;refine tN 13 hSS ?_;refine tN 14 hSS ?_;refine tN 15 hSS ?_;refine tN 16 hSS ?_;refine tN 17 hSS ?_;refine tN 18 hSS ?_;refine tN 19 hSS ?_;refine tN 20 hSS ?_;refine tN 21 hSS ?_;refine tN 22 hSS ?_;refine tM K0 23 hSS ?_;refine tM K0 24 hSS ?_;refine anyL_done zK ?_ _;clear hSS K0 hbase c1
     go_wp2_with fail
     go_roundw
     case rel=>exact⟨_,hlt,zN,HB6.out,all_step HA.out HYES.out⟩
     case measure=>exact zJ
   ·obtain⟨y,hy⟩:=get_of_lt S (k:=j) zO;have c2:=hbase _ _ hy;have HY:=zh hy;have hjn:(j:Int)<(S.length:Int):=by omega
    have hjw:IntKind.i64.wrap (j:Int)=(j:Int):=IntWalk.i64_in _ zO;have h01:(0:Int)≤(j:Int)+1:=by omega
    have hj1:(j:Int)+1<(S.length:Int):=by omega
    have K0:Hid (∀A,Below w6.heap.size w6 A→A.cell? ⟨b,o+(j+1),none⟩=some (.int .i64 x)∧A.cell? ⟨b,o+j,none⟩=some (.int .i64 y)):=zh fun A hA=>⟨below_cell hA c1,below_cell hA c2⟩
    clear hy c2;refine tM K0 0 hSS ?_;refine tM K0 1 hSS ?_;refine tM K0 2 hSS ?_;refine tM K0 3 hSS ?_;refine tM K0 4 hSS ?_;refine tM K0 5 hSS ?_;refine tM K0 6 hSS ?_;refine anyL_call (i:=7) (f:=109) (args:=#[.int .i64 x,.int .i64 0,.int .i64 ((m:Int)-1)]) rfl zK (by rfl) (by go_simp) (withinR9_any x 0 ((m:Int)-1) w6) ?_;rintro e w7 ⟨rfl,rfl⟩;refine .inl ⟨_,rfl,.inr hSS,?_⟩
    try simp only[pZ]
    rcases hin:inB x 0 ((m:Int)-1) with _|_
    ·have HNO:=zh (show setB m S=false from upto_false hlt (by rw[setAt_succ HX.out HY.out,hin];rfl));clear hin;refine tM K0 8 hSS ?_;refine tM K0 9 hSS ?_;refine tN 10 hSS ?_;refine tN 11 hSS ?_;refine tN 12 hSS ?_;refine tN 13 hSS ?_;refine tN 14 hSS ?_;refine tN 15 hSS ?_;refine tN 16 hSS ?_;refine tN 17 hSS ?_;refine tN 18 hSS ?_;refine tN 19 hSS ?_;refine tN 20 hSS ?_;refine tN 21 hSS ?_;refine tN 22 hSS ?_;refine tN 23 hSS ?_;refine tM K0 24 hSS ?_;refine anyL_done zK ?_ _;clear hSS K0 hbase c1
     go_wp2_with fail
     go_ret
     refine⟨?_,HB6.out⟩;rw[HNO.out];rfl
    ·by_cases hyx:y<x
     ·have HYES:=zh (show setAt m S (j+1)=true by rw[setAt_succ HX.out HY.out,hin];simpa using hyx);have hnx:¬x≤y:=by omega
      clear hin;refine tM K0 8 hSS ?_;refine tM K0 9 hSS ?_;refine tM K0 10 hSS ?_;refine tM K0 11 hSS ?_;refine tM K0 12 hSS ?_;refine tM K0 13 hSS ?_;refine tM K0 14 hSS ?_;refine tM K0 15 hSS ?_;refine tM K0 16 hSS ?_;refine tM K0 17 hSS ?_;refine tM K0 18 hSS ?_;refine tM K0 19 hSS ?_;refine tM K0 20 hSS ?_;refine tM K0 21 hSS ?_;refine tM K0 22 hSS ?_;refine tM K0 23 hSS ?_;refine tM K0 24 hSS ?_;refine anyL_done zK ?_ _;clear hSS K0 hbase c1
      go_wp2_with fail
      go_roundw
      case rel=>exact⟨_,hlt,zN,HB6.out,all_step HA.out HYES.out⟩
      case measure=>exact zJ
     ·have HNO:=zh (show setB m S=false from upto_false hlt (by rw[setAt_succ HX.out HY.out,hin];simpa using hyx));have hnx:x≤y:=by omega
      clear hin;refine tM K0 8 hSS ?_;refine tM K0 9 hSS ?_;refine tM K0 10 hSS ?_;refine tM K0 11 hSS ?_;refine tM K0 12 hSS ?_;refine tM K0 13 hSS ?_;refine tM K0 14 hSS ?_;refine tM K0 15 hSS ?_;refine tM K0 16 hSS ?_;refine tM K0 17 hSS ?_;refine tM K0 18 hSS ?_;refine tM K0 19 hSS ?_;refine tM K0 20 hSS ?_;refine tM K0 21 hSS ?_;refine tM K0 22 hSS ?_;refine tM K0 23 hSS ?_;refine tM K0 24 hSS ?_;refine anyL_done zK ?_ _;clear hSS K0 hbase c1
      go_wp2_with fail
      go_ret
      refine⟨?_,HB6.out⟩;rw[HNO.out];rfl
  ·go_wp2_with fail
   go_ret
   refine⟨?_,HB.out⟩;have:setB m S=true:=upto_iff.2 fun j hj=>HA.out j zO
   rw[this];rfl
theorem samePlanR9_any (a b:Option Addr)(ca cb:Nat)(l m:List Int)(n k:Int)(w:World)(ha:Ints w a l)(hb:Ints w b m)(hl:l.length≤1000000)(hm:m.length≤1000000):
 Calls Tryz.prog 27 #[.agg #[.slice a l.length ca,.int .i64 n],.agg #[.slice b m.length cb,.int .i64 k]] w fun e w'=>e = .returned (.bool ((n==k)&&decide (l=m)))∧Below w.heap.size w w':=by
 obtain⟨w2,hw2⟩:=zx ((w.alloc (.cells #[.slice a l.length ca,.int .i64 n] 42)).alloc (.cells #[.slice b m.length cb,.int .i64 k] 42));have hB2:Below w.heap.size w w2:=by rw[←hw2];go_grown
 have e0:∀j,w2.cell? ⟨w.heap.size,j,none⟩=(#[.slice a l.length ca,.int .i64 n]:Array Value)[j]?:=by rw[←hw2];exact((Box.new _ _ _).alloc _).cell
 have e1:∀j,w2.cell? ⟨w.heap.size+1,j,none⟩=(#[.slice b m.length cb,.int .i64 k]:Array Value)[j]?:=by rw[←hw2];exact(Box.new' (t:=42) zS).cell
 have HS:=zh (same_ref a b ca cb l m w2 (ha.below hB2) (hb.below hB2) hl hm);have HW:=zh hw2;have HB:=zh hB2;clear hw2 hB2 ha hb;obtain⟨r,hr⟩:=zx (decide (l=m));rw[hr] at HS ⊢;clear hr
 by_cases hnk:n=k
 ·have h1:(n==k)=true:=beq_iff_eq.2 hnk;rw[h1];clear hnk
  go_enter Tryz.func27,Tryz.ntmps27
  go_upto_region 1 with fail
  simp only[HW.out]
  go_wp2_with fail
  refine zM HS ?_;rintro e w3 ⟨rfl,hb3⟩;have HB3:=zh (HB.out.trans (hb3.mono HB.out.size));clear hb3 e0 e1
  go_wp2_with fail
  go_ret
  exact⟨by simp,HB3.out⟩
 ·have h1:(n==k)=false:=beq_eq_false_iff_ne.2 hnk;rw[h1];clear hnk
  go_enter Tryz.func27,Tryz.ntmps27
  go_upto_region 1 with fail
  simp only[HW.out]
  go_wp2_with fail
  go_ret
  exact⟨by simp,HB.out⟩
end
