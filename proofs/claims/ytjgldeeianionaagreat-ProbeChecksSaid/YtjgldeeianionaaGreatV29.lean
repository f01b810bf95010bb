/- Walks and plain laws. No condition. -/
import Derived.Test.YtjgldeeianionaaGreatV28
set_option maxHeartbeats 2000000
set_option maxRecDepth 100000
set_option linter.unusedSimpArgs false
set_option linter.unusedVariables false
namespace Go.Proofs.YtjgldeeianionaaGreat
open Go.RowKit
section
attribute [local go_sem] Oper.semAt_some
section
variable {t:Nat}{c:Cs}{pa:Option Addr}{pc:Nat}{l:List Prb}{qa:Option Addr}{qc:Nat}
theorem below1_any (hpr:probesErr c l=0)(g0 g1:Nat)(n:Int)(sa:Option Addr)(s:List Nat)(sc:Nat)(w:World)(h:LabAt w t c pa pc l qa qc)(hS:Ints w sa (natInts s))(hs:∀v∈s,v<l.length)(hsl:s.length≤1000)(h0:Box w g0 #[.pointer (some ⟨t,0,none⟩)] 104)(h1:Box w g1 #[.int .i64 n] 3):
 Calls Tryz.prog 166 #[.slice sa s.length sc,.pointer (some ⟨g0,0,none⟩),.pointer (some ⟨g1,0,none⟩)] w fun e w'=>e = .returned (.bool (!decide (costOf l s<n)))∧Below w.heap.size w w':=by
 have HC:=zh (fun W (hW:Below w.heap.size w W)=>cost_any hpr sa s sc W (h.below hW) (hS.below hW) hs hsl);have K0:Hid (∀A,Below w.heap.size w A→(∀j,A.cell? ⟨g0,j,none⟩=(#[.pointer (some ⟨t,0,none⟩)]:Array Value)[j]?)∧(∀j,A.cell? ⟨g1,j,none⟩=(#[.int .i64 n]:Array Value)[j]?)):=zh fun A hA=>⟨(h0.below' hA).cell,(h1.below' hA).cell⟩
 clear hpr h hS hs h0 h1
 go_enter Tryz.func166,Tryz.ntmps166
 go_wp2_with fail
 refine wp_region_L (fun A=>Below w.heap.size w A) 6 zK ?_;have hSS:Below w.heap.size w w.drew:=(Below.refl _ w).drew;refine tM K0 0 hSS ?_;refine tM K0 1 hSS ?_;refine tM K0 3 hSS ?_;refine anyL_call (i:=2) (f:=134) (args:=#[.pointer (some ⟨t,0,none⟩),.slice sa s.length sc]) rfl zK (by rfl) ?_ (HC.out w.drew hSS) ?_
 ·go_simp
 rintro e w2 ⟨rfl,rfl⟩;refine .inl ⟨_,rfl,.inr hSS,?_⟩
 try simp only[pZ]
 obtain⟨m,hm⟩:=zx (costOf l s);have HM:=zh hm;rw[hm];refine anyL_run (i:=4) (v:=.bool (!decide (m<n))) (w':=w.drew) rfl zK (by rfl) ?_ (.inr hSS) ?_
 ·by_cases hlt:m<n
  ·have:¬n≤m:=by omega
   have:decide (n≤m)=false:=by simpa using this
   have:decide (m<n)=true:=by simpa using hlt
   go_simp
   all_goals simp[*]
  ·have:n≤m:=by omega
   have:decide (m<n)=false:=by simpa using hlt
   have:decide (n≤m)=true:=by simpa using this
   go_simp
   all_goals simp[*]
 try simp only[pZ]
 refine anyL_run (i:=5) (v:=.bool (!decide (m<n))) (w':=w.drew) rfl zK (by rfl) (by go_simp) (.inr hSS) ?_
 try simp only[pZ]
 refine anyL_done zK ?_ _;have HSS:=zh hSS;clear hSS K0 hm;obtain⟨r,hr⟩:=zx ((!decide (m<n)));rw[hr];have HR:=zh hr;clear hr
 go_wp2_with fail
 go_ret
 exact⟨by rw[HM.out,HR.out];rfl,HSS.out⟩
def BelowPost (L:List (List Nat))(w:World)(e:Ending)(w':World):Prop:=∃a' c',e = .returned (.slice a' L.length c')∧RowsHi w.heap.size w'.heap.size w' a' L∧Below w.heap.size w w'
theorem below9_any (hpr:probesErr c l=0)(n:Int)(w:World)(h:LabAt w t c pa pc l qa qc):
 Calls Tryz.prog 86 #[.pointer (some ⟨t,0,none⟩),.int .i64 n] w (BelowPost (belowOf l n) w):=by
 have hmf:=run_mf Tryz.prog;have hl5:=(probes_ok hpr).2.1;obtain⟨w2,hw2⟩:=zx ((w.alloc (.cells #[.pointer (some ⟨t,0,none⟩)] 104)).alloc (.cells #[.int .i64 n] 3));have hB2:Below w.heap.size w w2:=by rw[←hw2];go_grown
 have hs2:w2.heap.size=w.heap.size+2:=by rw[←hw2];simp
 have b0:Box w2 w.heap.size #[.pointer (some ⟨t,0,none⟩)] 104:=by rw[←hw2];exact(Box.new _ _ _).alloc _
 have b1:Box w2 (w.heap.size+1) #[.int .i64 n] 3:=by rw[←hw2];exact Box.new' zS
 have hrf:RowFn 166 #[.pointer (some ⟨w.heap.size,0,none⟩),.pointer (some ⟨w.heap.size+1,0,none⟩)] w2 w2.heap.size (fun s=>!decide (costOf l s<n)) (setsOf l.length):=
  ⟨fun args W=>by simp[go_sem],fun W x ra rc hk hx hi _=>below1_any hpr _ _ n ra x rc W (h.below (hB2.trans ((hk.below (Nat.le_refl _)).mono hB2.size))) hi (sets_in hx).1 (by have:=(sets_in hx).2;omega) (hk.heap zO b0) (hk.heap zO b1)⟩
 have e1:=b0.cell;have HST:=zh (sets_any hl5 w2 (h.below hB2));have HRF:=zh hrf;have HW:=zh hw2;have HB2:=zh hB2;have HS2:=zh hs2;clear hpr h hw2 b0 b1 hrf hB2 hs2
 go_enter Tryz.func86,Tryz.ntmps86
 go_upto_region 1 with fail
 simp only[HW.out]
 go_wp2_with fail
 refine zM HST ?_;rintro e w3 ⟨v,rfl,hrow,hb3⟩;have hdl:=deleteRows_any HRF.out v w3 (keep_of hb3) hb3.size hrow (by have:=sets_len (m:=l.length) hl5;omega);have HD:=zh hdl;have HB3:=zh hb3;clear hrow hb3 hdl e1
 go_wp2_with fail
 refine zM HD ?_;rintro e w4 ⟨a',c',rfl,hhi,hb4⟩;have HH:=zh hhi;have HB4:=zh (HB2.out.trans ((HB3.out.trans hb4).mono HB2.out.size));have hfe:((setsOf l.length).filter fun x=>!!decide (costOf l x<n))=belowOf l n:=by simp[belowOf]
 have HFE:=zh hfe;clear hhi hb4 hfe
 go_wp2_with fail
 go_ret
 refine⟨a',c',?_,?_,HB4.out⟩
 ·rfl
 ·have h:=HH.out.mono (B':=w.heap.size) (by have:=HS2.out;omega) (Nat.le_refl _)
  rwa [HFE.out] at h
theorem cheapest1_any (hsm:c.Small)(hpr:probesErr c l=0)(a b:Nat)(ha:a<c.parts.length)(hb:b<c.parts.length)(g0 g1 g2:Nat)(sa:Option Addr)(s:List Nat)(sc:Nat)(hs:∀v∈s,v<l.length)(hsl:s.length≤1000)(w:World)(h:LabAt w t c pa pc l qa qc)(hS:Ints w sa (natInts s))
 (h0:Box w g0 #[.pointer (some ⟨t,0,none⟩)] 104) (h1:Box w g1 #[.int .i64 a] 3) (h2:Box w g2 #[.int .i64 b] 3):
 Calls Tryz.prog 162 #[.slice sa s.length sc,.pointer (some ⟨g0,0,none⟩),.pointer (some ⟨g1,0,none⟩),.pointer (some ⟨g2,0,none⟩)] w fun e w'=>e = .returned (.bool (decidesB c l a b s))∧Below w.heap.size w w':=by
 have HD:=zh (decides_any hsm hpr a b ha hb sa s sc hs hsl w h hS);have e0:=h0.cell;have e1:=h1.cell;have e2:=h2.cell;generalize decidesB c l a b s=r at *;clear hpr h hS hs h0 h1 h2
 go_enter Tryz.func162,Tryz.ntmps162
 go_wp2_with fail
 refine zM HD ?_;rintro e w2 ⟨rfl,hb2⟩;have HB2:=zh hb2;clear hb2 e0 e1 e2
 go_wp2_with fail
 go_ret
 exact⟨rfl,HB2.out⟩
end
def PlanPost (l:List Prb)(o:Option (List Nat))(w:World)(e:Ending)(w':World):Prop:=
 Below w.heap.size w w'∧((o=none∧e = .returned (.tuple #[.agg #[.slice none 0 0,.int .i64 0],.bool false])) ∨
  ∃x ra rc,o=some x∧e = .returned (.tuple #[.agg #[.slice ra x.length rc,.int .i64 (costOf l x)],.bool true])∧IntsHi w.heap.size w'.heap.size w' ra (natInts x)∧x.length≤rc)
theorem plan_size:(Tryz.prog.info? 42).map (·.size)=some 2:=zK
section
variable {t:Nat}{c:Cs}{pa:Option Addr}{pc:Nat}{l:List Prb}{qa:Option Addr}{qc:Nat}
theorem sets_cost (hpr:probesErr c l=0):∀x∈setsOf l.length,0≤costOf l x∧costOf l x≤1000000:=fun x hx=>by
 have h1:=costOf_in hpr x;have h2:=(sets_in hx).2;have h3:=(probes_ok hpr).2.1
 omega
theorem cheapest_any (hsm:c.Small)(hpr:probesErr c l=0)(a b:Nat)(ha:a<c.parts.length)(hb:b<c.parts.length)(w:World)(h:LabAt w t c pa pc l qa qc):
 Calls Tryz.prog 81 #[.pointer (some ⟨t,0,none⟩),.int .i64 a,.int .i64 b] w (PlanPost l (cheapestOf c l a b) w):=by
 have hmf:=run_mf Tryz.prog;have hl5:=(probes_ok hpr).2.1;obtain⟨w4,hw4⟩:=zx ((((w.alloc (.cells #[.pointer (some ⟨t,0,none⟩)] 104)).alloc (.cells #[.int .i64 (a:Int)] 3)).alloc (.cells #[.int .i64 (b:Int)] 3)).alloc (.cells #[.slice none 0 0,.int .i64 0] 42));have hB4:Below w.heap.size w w4:=by rw[←hw4];go_grown
 have hs4:w4.heap.size=w.heap.size+4:=by rw[←hw4];simp
 have b0:Box w4 w.heap.size #[.pointer (some ⟨t,0,none⟩)] 104:=by rw[←hw4];exact(((Box.new _ _ _).alloc _).alloc _).alloc _
 have b1:Box w4 (w.heap.size+1) #[.int .i64 a] 3:=by rw[←hw4];exact((Box.new' zS).alloc _).alloc _
 have b2:Box w4 (w.heap.size+2) #[.int .i64 b] 3:=by rw[←hw4];exact(Box.new' zS).alloc _
 have b3:Box w4 (w.heap.size+3) #[.slice none 0 0,.int .i64 0] 42:=by rw[←hw4];exact Box.new' zS
 have K0:Hid (∀A,Below w4.heap.size w4 A→(∀j,A.cell? ⟨w.heap.size,j,none⟩=(#[.pointer (some ⟨t,0,none⟩)]:Array Value)[j]?)):=zh fun A hA=>(b0.below' hA).cell
 have HST:=zh (fun W (hW:Below w4.heap.size w4 W)=>sets_any hl5 W (h.below (hB4.trans (hW.mono hB4.size))));have hcf:∀W,Below w4.heap.size w4 W→CostFn 134 #[.pointer (some ⟨t,0,none⟩)] W (costOf l) (setsOf l.length):=fun W hW=>
  ⟨fun args W=>by simp[go_sem],fun W2 x ra rc hk hx hi _=>by
   have:=cost_any hpr ra x rc W2 (h.below (hB4.trans ((hW.trans (hk.mono hW.size)).mono hB4.size))) hi (sets_in hx).1 (by have:=(sets_in hx).2;omega)
   simpa using this⟩
 have hrf:∀W,Below w4.heap.size w4 W→RowFn 162 #[.pointer (some ⟨w.heap.size,0,none⟩),.pointer (some ⟨w.heap.size+1,0,none⟩),.pointer (some ⟨w.heap.size+2,0,none⟩)] W W.heap.size (decidesB c l a b) (setsOf l.length):=fun W hW=>
  ⟨fun args W=>by simp[go_sem],fun W2 x ra rc hk hx hi _=>by
   have hb2:=hW.trans ((hk.below (Nat.le_refl _)).mono hW.size);exact cheapest1_any hsm hpr a b ha hb _ _ _ ra x rc (sets_in hx).1 (by have:=(sets_in hx).2;omega) W2 (h.below (hB4.trans (hb2.mono hB4.size))) hi (b0.below' hb2) (b1.below' hb2) (b2.below' hb2)⟩
 have HCF:=zh hcf;have HRF:=zh hrf;have HCB:=zh (sets_cost hpr);have HW:=zh hw4;have HB4:=zh hB4;have HS4:=zh hs4;have HX:=zh b3;have HY:=zh b0;have HCO:=zh (fun W (hW:Below w4.heap.size w4 W) x ra rc (hx:x∈setsOf l.length) (hi:Ints W ra (natInts x))=>cost_any hpr ra x rc W (h.below (hB4.trans (hW.mono hB4.size))) hi (sets_in hx).1 (by have:=(sets_in hx).2;omega));have HSL:=zh (sets_len (m:=l.length) hl5);clear hpr h hw4 b0 b1 b2 b3 hB4 hcf hrf hs4
 go_enter Tryz.func81,Tryz.ntmps81
 go_upto_region 1 with fail
 simp only[HW.out];refine wp_region_L (fun A=>Below w4.heap.size w4 A) 11 zK ?_;have hSS:Below w4.heap.size w4 w4.drew:=(Below.refl _ w4).drew;refine tM K0 0 hSS ?_;refine tM K0 2 hSS ?_;refine tM K0 3 hSS ?_;refine tM K0 4 hSS ?_;refine anyL_call (i:=1) (f:=85) (args:=#[.pointer (some ⟨t,0,none⟩)]) rfl zK (by rfl) ?_ (HST.out w4.drew hSS) ?_
 ·go_simp
 rintro e w5 ⟨v,rfl,hrow,hb5⟩;have hSS5:Below w4.heap.size w4 w5:=hSS.trans hb5;refine .inl ⟨_,rfl,.inr hSS5,?_⟩;obtain⟨ra,rc,rfl,-,hat⟩:=hrow.hi
 try simp only[pZ]
 refine anyL_call (i:=5) (f:=161) (args:=#[.slice ra (setsOf l.length).length rc,.func (.func 134) #[.pointer (some ⟨t,0,none⟩)] #[],.func (.func 162) #[] #[.pointer (some ⟨w.heap.size,0,none⟩),.pointer (some ⟨w.heap.size+1,0,none⟩),.pointer (some ⟨w.heap.size+2,0,none⟩)]]) rfl zK (by rfl) ?_ (leastRows_any ra rc w5 (HCF.out w5 hSS5) (HRF.out w5 hSS5) hat (by have:=HSL.out;omega) HCB.out) ?_
 ·go_simp
 rintro e w6 ⟨hb6,(⟨ho,rfl⟩|⟨x,xa,xc,ho,rfl,hxi,hxc⟩)⟩
 ·have hSS:Below w4.heap.size w4 w6:=hSS5.trans (hb6.mono hSS5.size);refine .inl ⟨_,rfl,.inr hSS,?_⟩
  try simp only[pZ]
  refine anyL_run (i:=6) (v:=.tuple #[.slice none 0 0,.bool false]) (w':=w6) rfl zK (by rfl) (by go_simp) (.inr hSS) ?_
  try simp only[pZ]
  refine tM K0 7 hSS ?_;refine tM K0 8 hSS ?_;refine anyL_run (i:=9) (v:=.slice none 0 0) (w':=w6) rfl zK (by rfl) (by go_simp) (.inr hSS) ?_
  try simp only[pZ]
  refine anyL_run (i:=10) (v:=.bool false) (w':=w6) rfl zK (by rfl) (by go_simp) (.inr hSS) ?_
  try simp only[pZ]
  refine anyL_done zK ?_ _;have HX6:=zh (HX.out.below' hSS);have HB6:=zh (HB4.out.trans (hSS.mono HB4.out.size));have HO:=zh ho;obtain⟨u1,u2⟩:=HX6.out.rules;clear hSS hb6 ho hSS5 hb5 hrow hat K0
  go_wp2_with fail
  refine bodyPost_ret (results_cell_tmp rfl rfl (run_loadVar_row _ _ 42 42 _ (0,0) _ ((HX6.out.set_ 0 _).set_ 1 _) Tryz.underlying42 rfl plan_size)) rfl ?_;exact⟨(HB6.out.setCell zT _).setCell zT _,.inl ⟨HO.out,rfl⟩⟩
 ·have hSS:Below w4.heap.size w4 w6:=hSS5.trans (hb6.mono hSS5.size);have hxm:=((leastOf_some (cost:=costOf l) (wanted:=decidesB c l a b) (setsOf l.length)).1 x ho).1;refine .inl ⟨_,rfl,.inr hSS,?_⟩
  try simp only[pZ]
  refine anyL_run (i:=6) (v:=.tuple #[.slice xa x.length xc,.bool true]) (w':=w6) rfl zK (by rfl) (by go_simp) (.inr hSS) ?_
  try simp only[pZ]
  refine tM K0 7 hSS ?_;refine tM K0 8 hSS ?_;refine anyL_run (i:=9) (v:=.slice xa x.length xc) (w':=w6) rfl zK (by rfl) (by go_simp) (.inr hSS) ?_
  try simp only[pZ]
  refine anyL_run (i:=10) (v:=.bool true) (w':=w6) rfl zK (by rfl) (by go_simp) (.inr hSS) ?_
  try simp only[pZ]
  refine anyL_done zK ?_ _;have HX6:=zh (HX.out.below' hSS);have HB6:=zh (HB4.out.trans (hSS.mono HB4.out.size));have HO:=zh ho;have HSZ:=zh hb6.size;have HXI:=zh (hxi.mono (B':=w.heap.size+4) (by have:=HS4.out;rw[World.size_drew];omega) (Nat.le_refl _));have HCC:=zh (HCO.out w6 hSS x xa xc hxm hxi.at_);have e1:=(HY.out.below' hSS).cell;obtain⟨u1,u2⟩:=HX6.out.rules;clear hSS hb6 ho hSS5 hb5 hrow hat K0 hxi hxm
  go_wp2_with fail
  refine zM HCC ?_;rintro e w7 ⟨rfl,rfl⟩
  go_wp2_with fail
  refine bodyPost_ret (results_cell_tmp rfl rfl (run_loadVar_row _ _ 42 42 _ (0,0) _ ((HX6.out.set_ 0 _).set_ 1 _) Tryz.underlying42 rfl plan_size)) rfl ?_;exact⟨(HB6.out.setCell zT _).setCell zT _,.inr ⟨x,xa,xc,HO.out,rfl,(HXI.out.keep (((Keep.refl _ w6).setCell (.inl zT) _).setCell (.inl zT) _)).mono zO (by simpa using HSZ.out),hxc⟩⟩
end
theorem RowOwn.hiInts {B:Nat}{w:World}{a:Option Addr}{l:List Int}(h:RowOwn B w a (l.map (Value.int .i64))):IntsHi B w.heap.size w a l:=fun k v hv=>by
 obtain⟨b,o,h1,h2,h3,_⟩:=h k v hv;exact⟨b,o,h1,h2,lt_of_cell h3,h3⟩
theorem ask_open9 {d:Cs}{ps:List Int}(h:askErr d ps=0):openErr d ps=0:=by
 unfold askErr at h
 split at h
 ·assumption
 ·exact h
theorem open_find {d:Cs}{a b:Nat}(t:Bool)(ha:a<d.parts.length)(hb:b<d.parts.length)(h:ansAt d a b=3):∃y,(allR d).find? (asPair a b t)=some y:=by
 have h1:=with_isSome (c:=d) (t:=t) ha hb;have h2:togB d.parts.length (allR d) a b=true∧aptB d.parts.length (allR d) a b=true:=by
  unfold ansAt ansOf at h;cases hg:aptB d.parts.length (allR d) a b<;>cases hf:togB d.parts.length (allR d) a b<;>simp[hf,hg] at h ⊢
 rw[h2.1,h2.2] at h1;have h3:((allR d).find? (asPair a b t)).isSome=true:=by rw[h1];cases t<;>rfl
 exact Option.isSome_iff_exists.1 h3
theorem with_open {d:Cs}(hsm:d.Small)(a b:Nat)(tt:Bool)(hoe:openErr d [(a:Int),(b:Int)]=0){y:List Nat}(hy:(allR d).find? (asPair a b tt)=some y)(pa:Option Addr)(pc:Nat)(W:World)(hp:PartsAt W pa d.parts):
 Calls Tryz.prog 171 #[.agg #[.string d.ware,.int .i64 d.limit,.int .i64 d.by_,.slice pa d.parts.length pc],.int .i64 a,.int .i64 b,.bool tt] W fun e W'=>∃a1 c1,e = .returned (.tuple #[.slice a1 y.length c1,.bool true,.int .i64 0])∧RowOwn W.heap.size W' a1 ((natInts y).map (Value.int .i64))∧Below W.heap.size W W':=by
 refine(with_any d hsm pa pc a b tt W hp).mono ?_;rintro e W' ⟨hb,h⟩;rw[hoe] at h;simp only[Int.toNat_natCast,hy] at h
 rcases h with ⟨h,_⟩|⟨_,h,_⟩|⟨_,x,v,hx,rfl,a1,c1,rfl,hr⟩
 ·exact absurd rfl h
 ·cases h
 ·cases hx;exact⟨a1,c1,by rw[nat_len],hr,hb⟩
structure DbtAt (c:Cs) (l:List Prb) (a b:Nat) (s:List Nat) (B M:Nat) (w:World) (x y z:List Nat) (v:Value):Prop where
 fst:doubtOf c l a b s=some x
 can:∃d,canC c l s x=some d∧ansAt d a b=3∧(allR d).find? (asPair a b true)=some y∧(allR d).find? (asPair a b false)=some z
 at_:∃a1 c1 a2 c2 a3 c3 a4 c4,v = .agg #[.slice a1 s.length c1,.slice a2 x.length c2,.slice a3 y.length c3,.slice a4 z.length c4] ∧
  IntsHi B M w a1 (natInts s)∧IntsHi B M w a2 (natInts x)∧IntsHi B M w a3 (natInts y)∧IntsHi B M w a4 (natInts z)∧s.length≤c1∧x.length≤c2
def DbtPost (c:Cs)(l:List Prb)(a b:Nat)(s:List Nat)(w:World)(e:Ending)(w':World):Prop:=
 Below w.heap.size w w'∧((doubtOf c l a b s=none∧e = .returned (.tuple #[.agg #[.slice none 0 0,.slice none 0 0,.slice none 0 0,.slice none 0 0],.bool false])) ∨
  ∃x y z v,DbtAt c l a b s w.heap.size w'.heap.size w' x y z v∧e = .returned (.tuple #[v,.bool true]))
theorem open_size:(Tryz.prog.info? 53).map (·.size)=some 4:=zK
section
variable {t:Nat}{c:Cs}{pa:Option Addr}{pc:Nat}{l:List Prb}{qa:Option Addr}{qc:Nat}
theorem doubt_any (hsm:c.Small)(hpr:probesErr c l=0)(a b:Nat)(ha:a<c.parts.length)(hb:b<c.parts.length)(sa:Option Addr)(s:List Nat)(sc:Nat)(hs:∀v∈s,v<l.length)(hsl:s.length≤1000)(w:World)(h:LabAt w t c pa pc l qa qc)(hS:Ints w sa (natInts s)):
 Calls Tryz.prog 88 #[.pointer (some ⟨t,0,none⟩),.int .i64 a,.int .i64 b,.slice sa s.length sc] w (DbtPost c l a b s w):=by
 obtain⟨w1,hw1⟩:=zx (w.alloc (.cells #[.slice none 0 0,.slice none 0 0,.slice none 0 0,.slice none 0 0] 53));have hB1:Below w.heap.size w w1:=by rw[←hw1];go_grown
 have hs1:w1.heap.size=w.heap.size+1:=by rw[←hw1];simp
 have b1:Box w1 w.heap.size #[.slice none 0 0,.slice none 0 0,.slice none 0 0,.slice none 0 0] 53:=by rw[←hw1];exact Box.new _ _ _
 have HD:=zh (doubtful_any hsm hpr a b ha hb sa s sc hs hsl w1 (h.below hB1) (hS.below hB1));have HW:=zh hw1;have HB1:=zh hB1;have HX:=zh b1;have HS:=zh hS;have HPR:=zh hpr;have HS1:=zh hs1;clear hpr hs h hS hw1 hB1 b1 hs1
 go_enter Tryz.func88,Tryz.ntmps88
 go_upto_region 1 with fail
 simp only[HW.out]
 go_wp2_with fail
 refine zM HD ?_;rintro e w2 ⟨hb2,(⟨ho,rfl⟩|⟨x,d,fa,fc,ba,pc',ho,hcan,hans,rfl,hro,hfc,hhi⟩)⟩
 ·obtain⟨w3,hw3⟩:=zx (w2.alloc (.cells #[.string ⟨#[]⟩,.int .i64 0,.int .i64 0,.slice none 0 0] 24));have hB3:Below w2.heap.size w2 w3:=by rw[←hw3];go_grown
  have HX3:=zh ((HX.out.below' hb2).below' hB3);have HB3:=zh (HB1.out.trans ((hb2.trans (hB3.mono hb2.size)).mono HB1.out.size));have HW3:=zh hw3;have HO:=zh ho;obtain⟨u1,u2⟩:=HX3.out.rules;clear hb2 ho hB3 hw3
  go_upto_region 2 with fail
  simp only[HW3.out]
  go_wp2_with fail
  refine bodyPost_ret (results_cell_tmp rfl rfl (run_loadVar_row _ _ 53 53 _ (0,0) _ ((((HX3.out.set_ 0 _).set_ 1 _).set_ 2 _).set_ 3 _) Tryz.underlying53 rfl open_size)) rfl ?_;exact⟨(((HB3.out.setCell zS _).setCell zS _).setCell zS _).setCell zS _,.inl ⟨HO.out,rfl⟩⟩
 ·have hcok:=canC_ok HPR.out hcan;have hl:=hcok.1.len;obtain⟨y,hy⟩:=open_find (d:=d) true zO zO hans;obtain⟨z,hz⟩:=open_find (d:=d) false zO zO hans;obtain⟨w3,hw3⟩:=zx (w2.alloc (.cells #[.string d.ware,.int .i64 d.limit,.int .i64 d.by_,.slice ba d.parts.length pc'] 24));have hB3:Below w2.heap.size w2 w3:=by rw[←hw3];go_grown
  have g3:Box w3 w2.heap.size #[.string d.ware,.int .i64 d.limit,.int .i64 d.by_,.slice ba d.parts.length pc'] 24:=by rw[←hw3];exact Box.new _ _ _
  have hoe:openErr d [(a:Int),(b:Int)]=0:=ask_open9 (ask_two hcok.1.chk hcok.2.1 zO zO);have HWY:=zh (fun(W:World) (hW:Below w3.heap.size w3 W)=>with_open (small_of hcok.1.chk) a b true hoe hy ba pc' W ((hhi.below (hB3.trans (hW.mono hB3.size))).at_));have HWZ:=zh (fun(W:World) (hW:Below w3.heap.size w3 W)=>with_open (small_of hcok.1.chk) a b false hoe hz ba pc' W ((hhi.below (hB3.trans (hW.mono hB3.size))).at_));have HX3:=zh ((HX.out.below' hb2).below' hB3);have HB3:=zh (HB1.out.trans ((hb2.trans (hB3.mono hb2.size)).mono HB1.out.size));have HG3:=zh g3;have HW3:=zh hw3;have HRO:=zh (hro.below hB3);have HS3:=zh (HS.out.below HB3.out);have HF:=zh (And.intro ho (And.intro hcan hans));have HY:=zh (And.intro hy hz);have HL1:=zh HB1.out.size;have e3:=g3.cell;clear hb2 hB3 ho hcan hans hro hhi hcok hl hy hz hw3 g3 hoe
  go_upto_region 2 with fail
  simp only[HW3.out]
  go_wp2_with fail
  (with_reducible refine(HWY.out _ (Below.refl _ _)).mono ?_)
  rintro e w4 ⟨a3,c3,rfl,hr3,hb4⟩;have HB4:=zh hb4;have HR3:=zh hr3;have HWZ2:=zh (HWZ.out w4 hb4);have e3:=(HG3.out.below' hb4).cell;clear hb4 hr3 HWY HWZ
  go_wp2_with fail
  refine zM HWZ2 ?_;rintro e w5 ⟨a4,c4,rfl,hr4,hb5⟩;have HB5:=zh (HB4.out.trans (hb5.mono HB4.out.size));have HR3:=zh (HR3.out.below hb5);have HR4:=zh hr4;have hcl:=clone2_any sa sc (natInts s) w5 (HS3.out.below HB5.out) (by rw[nat_len];omega);rw[nat_len] at hcl;have HCL:=zh hcl;clear hb5 hr4 hcl HWZ2 e3
  go_wp2_with fail
  refine zM HCL ?_;rintro e w6 ⟨a1,c1,rfl,hr1,hc1,hb6⟩;rw[nat_len] at hc1 ⊢;have h36:=HB5.out.trans (hb6.mono HB5.out.size);have HX6:=zh (HX3.out.below' h36);have HI1:=zh (hr1.hiInts.mono (B':=w.heap.size+1) (M':=w6.heap.size) (by have:=HB3.out.size;have:=HB5.out.size;have:=HX3.out.lt;omega) (Nat.le_refl _));have HI2:=zh ((HRO.out.below h36).hiInts.mono (B':=w.heap.size+1) (M':=w6.heap.size) (by have:=HS1.out;omega) (Nat.le_refl _));have HI3:=zh ((HR3.out.below hb6).hiInts.mono (B':=w.heap.size+1) (M':=w6.heap.size) (by have:=HX3.out.lt;omega) (Nat.le_refl _));have HI4:=zh ((HR4.out.below hb6).hiInts.mono (B':=w.heap.size+1) (M':=w6.heap.size) (by have:=HX3.out.lt;have:=HB4.out.size;omega) (Nat.le_refl _));have HB6:=zh (HB3.out.trans (h36.mono HB3.out.size));obtain⟨u1,u2⟩:=HX6.out.rules
  clear hr1 hb6 h36 HCL HR3 HR4 HRO HX3 HG3
  go_wp2_with fail
  refine bodyPost_ret (results_cell_tmp rfl rfl (run_loadVar_row _ _ 53 53 _ (0,0) _ ((((HX6.out.set_ 0 _).set_ 1 _).set_ 2 _).set_ 3 _) Tryz.underlying53 rfl open_size)) rfl ?_;have kS:∀v1 v2 v3 v4,Keep (fun k=>w.heap.size+1≤k∧k<w6.heap.size) w6 ((((w6.setCell ⟨w.heap.size,0,none⟩ v1).setCell ⟨w.heap.size,1,none⟩ v2).setCell ⟨w.heap.size,2,none⟩ v3).setCell ⟨w.heap.size,3,none⟩ v4):=fun v1 v2 v3 v4=>
   ((((Keep.refl _ w6).setCell (.inl zT) _).setCell (.inl zT) _).setCell (.inl zT) _).setCell (.inl zT) _
  refine⟨(((HB6.out.setCell zS _).setCell zS _).setCell zS _).setCell zS _,.inr ⟨x,y,z,_,⟨HF.out.1,⟨d,HF.out.2.1,HF.out.2.2,HY.out.1,HY.out.2⟩,a1,c1,fa,fc,a3,c3,a4,c4,rfl,?_,?_,?_,?_,hc1,hfc⟩,rfl⟩⟩
  ·exact(HI1.out.keep (kS _ _ _ _)).mono zO zS
  ·exact(HI2.out.keep (kS _ _ _ _)).mono zO zS
  ·exact(HI3.out.keep (kS _ _ _ _)).mono zO zS
  ·exact(HI4.out.keep (kS _ _ _ _)).mono zO zS
end
end
