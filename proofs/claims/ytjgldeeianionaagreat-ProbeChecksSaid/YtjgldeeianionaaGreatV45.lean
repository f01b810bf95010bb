/- Walks and plain laws. No condition. -/
import Derived.Test.YtjgldeeianionaaGreatV44
set_option maxHeartbeats 8000000
set_option maxRecDepth 100000
set_option linter.unusedSimpArgs false
set_option linter.unusedVariables false
namespace Go.Proofs.YtjgldeeianionaaGreat
open Go.RowKit
section
attribute [local go_sem] Oper.semAt_some
def LeafPost (ok:Bool)(ids:List Int)(w:World)(e:Ending)(w':World):Prop:=
 Below w.heap.size w w'∧∃a k cap,e = .returned (.tuple #[.slice a k cap,.bool ok])∧(ok=true→k=ids.length∧Ints w' a ids∧ids.length≤cap)∧(ok=false→k=0)
theorem leafPost_no {ids:List Int}{w w':World}(h:Below w.heap.size w w'):LeafPost false ids w (.returned (.tuple #[.slice none 0 0,.bool false])) w':=⟨h,none,0,0,rfl,fun h=>(by cases h),fun _=>rfl⟩
structure LeafSt (c:Cs) (pa:Option Addr) (pc:Nat) (d:Dec) (x:Br) (ma:Option Addr) (mc:Nat) (w W:World):Prop where
 cs:Box W w.heap.size (csCells c pa pc) 24
 dc:Box W (w.heap.size+1) (dciCells d) 232
 br:Box W (w.heap.size+2) #[.int .u8 x.kind,.int .i64 x.a,.int .i64 x.b,.slice ma x.many.length mc] 99
 old:Below w.heap.size w W
theorem LeafSt.below {c:Cs}{pa:Option Addr}{pc:Nat}{d:Dec}{x:Br}{ma:Option Addr}{mc:Nat}{w W W':World}(h:LeafSt c pa pc d x ma mc w W)(hb:Below W.heap.size W W'):LeafSt c pa pc d x ma mc w W':=
 ⟨h.cs.below' hb,h.dc.below' hb,h.br.below' hb,h.old.trans (hb.mono h.old.size)⟩
theorem LeafSt.cells {c:Cs}{pa:Option Addr}{pc:Nat}{d:Dec}{x:Br}{ma:Option Addr}{mc:Nat}{w W:World}(h:LeafSt c pa pc d x ma mc w W):
 cC W (w.heap.size) c pa pc∧(∀i,W.cell? ⟨w.heap.size+2,i,none⟩=(#[.int .u8 x.kind,.int .i64 x.a,.int .i64 x.b,.slice ma x.many.length mc]:Array Value)[i]?):=⟨h.cs.cell,h.br.cell⟩
theorem run_dci {d:Dec}{b:Nat}{W:World}(h:Box W b (dciCells d) 232):(Instr.loadAt 232 (.pointer (some ⟨b,0,none⟩))).run Tryz.prog W = .ok (.agg (dciCells d)) W:=run_load_row h Tryz.underlying232 rfl (dci_info _)
theorem leafR_two (c:Cs)(n:Nat)(hn:c.parts.length=n)(hn8:n≤8)(pa:Option Addr)(pc:Nat)(d:Dec)(hs:SymD d)(hp:Supp d n)(hd:∀a b,d a b≤3)(x:Br)(hk:x.kind≠4)(ma:Option Addr)(mc:Nat)(w:World)(hparts:PartsAt w pa c.parts)(hml:x.many.length≤1000000):
 Calls Tryz.prog 232 #[.agg #[.string c.ware,.int .i64 c.limit,.int .i64 c.by_,.slice pa c.parts.length pc],.agg (dciCells d),.agg #[.int .u8 x.kind,.int .i64 x.a,.int .i64 x.b,.slice ma x.many.length mc]] w (LeafPost (leafB c d n x) (leafIds c d x) w):=by
 subst hn;obtain⟨w1,hw1⟩:=zx (((w.alloc (.cells #[.string c.ware,.int .i64 c.limit,.int .i64 c.by_,.slice pa c.parts.length pc] 24)).alloc (.cells (dciCells d) 232)).alloc (.cells #[.int .u8 x.kind,.int .i64 x.a,.int .i64 x.b,.slice ma x.many.length mc] 99));have hS:LeafSt c pa pc d x ma mc w w1:=by
  rw[←hw1];exact⟨((Box.new _ _ _).alloc _).alloc _,(Box.new' zS).alloc _,Box.new' zS,by go_grown⟩
 have HW:=zh hw1;have HS:=zh hS;clear hw1 hS;have hk4:(((x.kind:Nat):Int)==4)=false:=by simp;omega
 have hwn:IntKind.i64.wrap ((c.parts.length:Int)-1)=(c.parts.length:Int)-1:=IntWalk.i64_in _ zO;have HP:=zh hparts;have HSY:=zh hs;have HD:=zh hd;have HSU:=zh hp;clear hparts hs hd hp
 rcases ha:inB x.a 0 ((c.parts.length:Int)-1) with _|_
 ·have HL:=zh (show leafB c d c.parts.length x=false by simp only[leafB,clashesB,partedB,sameB];rw[ha];simp[hk]);have HIN:=zh (within_held ha);have HIN2:=HIN;clear ha
  go_enter Tryz.func232,Tryz.ntmps232
  go_upto_region 1 with fail
  simp only[HW.out,Nat.add_assoc,Nat.reduceAdd];obtain⟨e1,e2⟩:=HS.out.cells
  go_wp2_with (go_at_call 192;(with_reducible refine(HIN.out _).mono ?_);rintro e w3 ⟨rfl,hb3⟩;have HS3:=zh (HS.out.below hb3);obtain⟨e1,e2⟩:=HS3.out.cells;clear hb3)
  go_ret2
  rw[HL.out];exact leafPost_no HS3.out.old
 rcases hb:inB x.b 0 ((c.parts.length:Int)-1) with _|_
 ·have HL:=zh (show leafB c d c.parts.length x=false by simp only[leafB,clashesB,partedB,sameB];rw[hb];simp[hk]);have HIN:=zh (within_held ha);have HIN2:=zh (within_held hb);clear ha hb
  go_enter Tryz.func232,Tryz.ntmps232
  go_upto_region 1 with fail
  simp only[HW.out,Nat.add_assoc,Nat.reduceAdd];obtain⟨e1,e2⟩:=HS.out.cells
  go_wp2_with (go_at_call 192;(first|(with_reducible refine(HIN.out _).mono ?_)|(with_reducible refine(HIN2.out _).mono ?_));rintro e w3 ⟨rfl,hb3⟩;have HS:=zh (HS.out.below hb3);obtain⟨e1,e2⟩:=HS.out.cells;clear hb3)
  go_ret2
  rw[HL.out];exact leafPost_no HS.out.old
 by_cases hm0:x.many.length=0
 ·obtain⟨kd,xa,xb,xm⟩:=x;dsimp only at *;have hxm:xm=[]:=List.length_eq_zero_iff.1 hm0;subst hxm;clear hm0;have ha':=ha;have hb':=hb;simp only[inB,decide_eq_true_eq] at ha' hb';obtain⟨a,rfl⟩:=Int.eq_ofNat_of_zero_le ha'.1;obtain⟨b,rfl⟩:=Int.eq_ofNat_of_zero_le hb'.1;have hal:a<c.parts.length:=by omega
  have hbl:b<c.parts.length:=by omega
  have HSB:=zh (show sameB d c.parts.length a b []=(clsR d a).contains b by
   rw[has_cls hn8 HSY.out HSU.out hal hbl];simp only[sameB,ha,hb,Int.toNat_natCast]
   simp)
  have HIN:=zh (within_held ha);have HIN2:=zh (within_held hb);clear ha hb ha' hb';simp only[List.length_nil] at *
  go_enter Tryz.func232,Tryz.ntmps232
  go_upto_region 1 with fail
  simp only[HW.out,Nat.add_assoc,Nat.reduceAdd];obtain⟨e1,e2⟩:=HS.out.cells
  go_upto_region 28 with (go_at_call 192;(first|(with_reducible refine(HIN.out _).mono ?_)|(with_reducible refine(HIN2.out _).mono ?_));rintro e w3 ⟨rfl,hb3⟩;have HS:=zh (HS.out.below hb3);obtain⟨e1,e2⟩:=HS.out.cells;clear hb3)
  have hS1:=HS.out;have k0:∀A,Below w3.heap.size w3 A→A.cell? ⟨w.heap.size+2,1,none⟩=some (.int .i64 (a:Int))∧A.cell? ⟨w.heap.size+2,2,none⟩=some (.int .i64 (b:Int)):=fun A hA=>⟨(hS1.br.below' hA).cell 1,(hS1.br.below' hA).cell 2⟩
  have kd:∀A,Below w3.heap.size w3 A→(Instr.loadAt 232 (.pointer (some ⟨w.heap.size+1,0,none⟩))).run Tryz.prog A = .ok (.agg (dciCells d)) A:=fun A hA=>run_dci (hS1.dc.below' hA)
  have K0:=zh k0;have KD:=zh kd;clear k0 kd hS1 e1 e2;refine wp_region_L (fun A=>Below w3.heap.size w3 A) 7 zK ?_;have hSS:Below w3.heap.size w3 w3.drew:=(Below.refl _ w3).drew;refine anyL_load (i:=0) 232 _ zK rfl zK zK zK zK zI (by rfl) rfl rfl KD.out hSS ?_
  try simp only[pZ]
  refine tM K0 1 hSS ?_;refine tM K0 2 hSS ?_;refine tM K0 4 hSS ?_;refine tM K0 5 hSS ?_;refine anyL_call (i:=3) (f:=235) (args:=#[.agg (dciCells d),.int .i64 (a:Int)]) rfl zK (by rfl) ?_ (classR_any d HSY.out HD.out a zO _) ?_
  ·go_simp
  rintro e w4 ⟨v4,rfl,ho4,hb4⟩;have hb5:Below w3.heap.size w3 w4:=hSS.trans hb4;refine .inl ⟨v4,rfl,.inr hb5,?_⟩
  try simp only[pZ]
  obtain⟨a4,c4,hv4,hi4⟩:=own_has ho4;subst hv4;refine anyL_call (i:=6) (f:=194) (args:=#[.slice a4 (clsR d a).length c4,.int .i64 (b:Int)]) rfl zK (by rfl) ?_ (has_nat a4 c4 (clsR d a) b _ hi4 (by have:=clsR_len d a;omega)) ?_
  ·go_simp
  rintro e w5 ⟨rfl,hb6⟩;have hb7:Below w3.heap.size w3 w5:=hb5.trans (hb6.mono hb5.size);refine .inl ⟨_,rfl,.inr hb7,?_⟩
  try simp only[pZ]
  refine anyL_run (i:=7) (v:=.bool ((clsR d a).contains b)) (w':=w5) rfl zK (by rfl) (by go_simp) (.inl rfl) ?_
  try simp only[pZ]
  refine anyL_done zK ?_ _;have HS:=zh (HS.out.below hb7);have HPW:=zh (HP.out.below HS.out.old);clear hb7 hb6 hb5 hb4 ho4 hi4 hSS K0 KD;obtain⟨e1,e2⟩:=HS.out.cells;generalize (clsR d a).contains b=one at *;obtain⟨no,hno⟩:=zx (clashB c a b);have HNO:=zh hno
  go_upto_region 30 with (go_at_call 216;(with_reducible refine(clash_ref c zO a b pa pc _ HPW.out hal hbl).mono ?_);rintro e w6 ⟨rfl,hb6⟩;rw[HNO.out];have HS:=zh (HS.out.below hb6);have HPW:=zh (HPW.out.below hb6);obtain⟨e1,e2⟩:=HS.out.cells;clear hb6)
  clear hno;have c3:w6.cell? ⟨w.heap.size+1,a*8+b,none⟩=some (.int .i64 (d a b:Nat)):=by rw[HS.out.dc.cell,dciCells_at _ zO zO]
  have hai8:(a:Int)<8:=by omega
  have hbi8:(b:Int)<8:=by omega
  have hbit:(bits .and .i64 (d a b:Int) 2==2)=decide (d a b &&& 2≠0):=bit_is (HD.out a b) (.inr rfl);have HL2:=zh (show leafB c d c.parts.length ⟨2,a,b,[]⟩=(one&&no) by simp only[leafB,clashesB,HSB.out,Int.toNat_natCast,HNO.out];simp);have HL3:=zh (show leafB c d c.parts.length ⟨3,a,b,[]⟩=(one&&decide (d a b &&& 2≠0)) by simp only[leafB,partedB,apartB,HSB.out,Int.toNat_natCast];rw[Bool.eq_iff_iff];simp);have HLO:=zh (fun(h2:kd≠2) (h3:kd≠3)=>show leafB c d c.parts.length ⟨kd,a,b,[]⟩=false by simp[leafB,h2,h3,hk]);have HI2:=zh (show leafIds c d ⟨2,a,b,[]⟩=causeB c a b by simp[leafIds]);have HI3:=zh (show leafIds c d ⟨3,a,b,[]⟩=[] by simp[leafIds]);generalize decide (d a b &&& 2≠0)=bt at *;clear hk4
  by_cases h2:kd=2
  ·subst h2
   rcases one with _|_
   ·go_wp2_with fail
    go_quiet (fail)
    go_wp2_with fail
    go_ret2
    rw[HL2.out];exact leafPost_no (below_drewN HS.out.old _)
   ·rcases no with _|_
    ·go_wp2_with fail
     go_quiet (fail)
     go_wp2_with fail
     go_ret2
     rw[HL2.out];exact leafPost_no (below_drewN HS.out.old _)
    ·go_wp2_with (go_at_call 238;(with_reducible refine(idsR_any c zO a b pa pc _ HPW.out hal hbl).mono ?_);rintro e w7 ⟨gi,rfl,hi,hl,hb7⟩;have HB7:=zh hb7;have HII:=zh hi;have HIL:=zh hl;clear hb7 hi hl)
     go_ret2
     rw[HL2.out,HI2.out];exact⟨(HS.out.below HB7.out).old,_,_,_,rfl,fun _=>⟨HIL.out.symm,HII.out,by have:=HIL.out;omega⟩,fun h=>by simp at h⟩
  ·by_cases h3:kd=3
   ·subst h3
    rcases one with _|_
    ·go_wp2_with fail
     go_quiet (fail)
     go_wp2_with fail
     go_ret2
     rw[HL3.out];exact leafPost_no (below_drewN HS.out.old _)
    ·go_wp2_with fail
     go_quiet (fail)
     go_wp2_with fail
     go_ret2
     rw[HL3.out,HI3.out];exact⟨(below_drewN HS.out.old _),_,_,_,rfl,fun _=>⟨rfl,Ints.nil _ _,Nat.zero_le _⟩,fun _=>rfl⟩
   ·have hk2:(((kd:Nat):Int)==2)=false:=by simp;omega
    have hk3:(((kd:Nat):Int)==3)=false:=by simp;omega
    have HF:=zh (HLO.out h2 h3);clear h2 h3 hk
    go_wp2_with fail
    go_quiet (fail)
    go_wp2_with fail
    go_ret2
    rw[HF.out];exact leafPost_no (below_drewN HS.out.old _)
 ·have HL:=zh (show leafB c d c.parts.length x=false by simp only[leafB,clashesB,partedB,sameB];rw[show(x.many.length==0)=false from beq_eq_false_iff_ne.2 hm0];simp[hk]);have HIN:=zh (within_held ha);have HIN2:=zh (within_held hb);have hpos:(0:Int)<(x.many.length:Int):=by omega
  clear ha hb hm0
  go_enter Tryz.func232,Tryz.ntmps232
  go_upto_region 1 with fail
  simp only[HW.out,Nat.add_assoc,Nat.reduceAdd];obtain⟨e1,e2⟩:=HS.out.cells
  go_wp2_with (go_at_call 192;(first|(with_reducible refine(HIN.out _).mono ?_)|(with_reducible refine(HIN2.out _).mono ?_));rintro e w3 ⟨rfl,hb3⟩;have HS:=zh (HS.out.below hb3);obtain⟨e1,e2⟩:=HS.out.cells;clear hb3)
  go_ret2
  rw[HL.out];exact leafPost_no HS.out.old
def PairOk (c:Cs)(d:Dec)(L:List Nat)(i k:Nat):Prop:=(partedR d (clsR d (nth L i)) (clsR d (nth L k))||(clashR c (clsR d (nth L i)) (clsR d (nth L k))).isSome)=true
theorem leafR_head (c:Cs)(n:Nat)(hn:c.parts.length=n)(hn8:n≤8)(hlim:0≤c.limit∧c.limit≤40)(pa:Option Addr)(pc:Nat)(d:Dec)(x:Br)(ma:Option Addr)(mc:Nat)(w:World)(hml:x.many.length≤1000000)(hh:manyHead c x.a x.b x.many=false):
 Calls Tryz.prog 232 #[.agg #[.string c.ware,.int .i64 c.limit,.int .i64 c.by_,.slice pa c.parts.length pc],.agg (dciCells d),.agg #[.int .u8 4,.int .i64 x.a,.int .i64 x.b,.slice ma x.many.length mc]] w (LeafPost (leafB c d n ⟨4,x.a,x.b,x.many⟩) (leafIds c d ⟨4,x.a,x.b,x.many⟩) w):=by
 subst hn;obtain⟨hl0,hl1⟩:=hlim;have hw1:IntKind.i64.wrap (c.limit+1)=c.limit+1:=IntWalk.i64_in _ zO;have HL:=zh (show leafB c d c.parts.length ⟨4,x.a,x.b,x.many⟩=false by rw[leaf_many,manyB,hh];rfl);obtain⟨w1,hw1⟩:=zx (((w.alloc (.cells #[.string c.ware,.int .i64 c.limit,.int .i64 c.by_,.slice pa c.parts.length pc] 24)).alloc (.cells (dciCells d) 232)).alloc (.cells #[.int .u8 4,.int .i64 x.a,.int .i64 x.b,.slice ma x.many.length mc] 99));have hS:LeafSt c pa pc d ⟨4,x.a,x.b,x.many⟩ ma mc w w1:=by
  rw[←hw1];exact⟨((Box.new _ _ _).alloc _).alloc _,(Box.new' zS).alloc _,Box.new' zS,by go_grown⟩
 have HW:=zh hw1;have HS:=zh hS;clear hw1 hS
 rcases h3:(c.limit==0) with _|_
 ·rcases h4:((x.many.length:Int) != c.limit+1) with _|_
  ·rcases h1:(x.a != 0) with _|_
   ·rcases h2:(x.b != 0) with _|_
    ·simp[manyHead,h1,h2,h3,h4] at hh
    ·clear hh
     go_enter Tryz.func232,Tryz.ntmps232
     go_upto_region 1 with fail
     simp only[HW.out,Nat.add_assoc,Nat.reduceAdd];obtain⟨e1,e2⟩:=HS.out.cells;dsimp only at e2
     go_wp2_with fail
     go_ret2
     rw[HL.out];exact leafPost_no HS.out.old
   ·clear hh
    go_enter Tryz.func232,Tryz.ntmps232
    go_upto_region 1 with fail
    simp only[HW.out,Nat.add_assoc,Nat.reduceAdd];obtain⟨e1,e2⟩:=HS.out.cells;dsimp only at e2
    go_wp2_with fail
    go_ret2
    rw[HL.out];exact leafPost_no HS.out.old
  ·clear hh
   go_enter Tryz.func232,Tryz.ntmps232
   go_upto_region 1 with fail
   simp only[HW.out,Nat.add_assoc,Nat.reduceAdd];obtain⟨e1,e2⟩:=HS.out.cells;dsimp only at e2
   go_wp2_with fail
   go_ret2
   rw[HL.out];exact leafPost_no HS.out.old
 ·clear hh
  go_enter Tryz.func232,Tryz.ntmps232
  go_upto_region 1 with fail
  simp only[HW.out,Nat.add_assoc,Nat.reduceAdd];obtain⟨e1,e2⟩:=HS.out.cells;dsimp only at e2
  go_wp2_with fail
  go_ret2
  rw[HL.out];exact leafPost_no HS.out.old
theorem clashR_mem {c:Cs}{one two:List Nat}{z:Nat×Nat}(h:clashR c one two=some z):z.1∈one∧z.2∈two:=by
 have h1:=List.mem_of_find?_eq_some h;obtain⟨p,hp,hq⟩:=List.mem_flatMap.1 h1;obtain⟨q,hq2,rfl⟩:=List.mem_map.1 hq;exact⟨hp,hq2⟩
theorem pairIds_parted {c:Cs}{d:Dec}{x y:Nat}(h:partedR d (clsR d x) (clsR d y)=true):pairIds c d x y=[]:=by simp[pairIds,h]
theorem pairIds_clash {c:Cs}{d:Dec}{x y:Nat}{z:Nat×Nat}(h:partedR d (clsR d x) (clsR d y)=false)(hz:clashR c (clsR d x) (clsR d y)=some z):pairIds c d x y=causeB c z.1 z.2:=by simp[pairIds,h,hz]
theorem leafR_good (c:Cs)(n:Nat)(hn:c.parts.length=n)(hn8:n≤8)(hlim:0≤c.limit∧c.limit≤40)(pa:Option Addr)(pc:Nat)(d:Dec)(hs:SymD d)(hp:Supp d n)(hd:∀a b,d a b≤3)(x:Br)(ma:Option Addr)(mc:Nat)(w:World)(hparts:PartsAt w pa c.parts)(hi:Ints w ma x.many)(hmc:x.many.length≤mc)(hml:x.many.length≤1000000)(hh:manyHead c x.a x.b x.many=true):
 Calls Tryz.prog 232 #[.agg #[.string c.ware,.int .i64 c.limit,.int .i64 c.by_,.slice pa c.parts.length pc],.agg (dciCells d),.agg #[.int .u8 4,.int .i64 x.a,.int .i64 x.b,.slice ma x.many.length mc]] w (LeafPost (leafB c d n ⟨4,x.a,x.b,x.many⟩) (leafIds c d ⟨4,x.a,x.b,x.many⟩) w):=by
 subst hn;obtain⟨hl0,hl1⟩:=hlim;have hw1:IntKind.i64.wrap (c.limit+1)=c.limit+1:=IntWalk.i64_in _ zO;have hwn:IntKind.i64.wrap ((c.parts.length:Int)-1)=(c.parts.length:Int)-1:=IntWalk.i64_in _ zO;have HP:=zh hparts;have HSY:=zh hs;have HD:=zh hd;have HSU:=zh hp;have HI:=zh hi;have HH:=zh hh;have h3:(c.limit==0)=false:=by cases h:(c.limit==0)<;>simp_all [manyHead]
 have h4:((x.many.length:Int) != c.limit+1)=false:=by cases h:((x.many.length:Int) != c.limit+1)<;>simp_all [manyHead]
 have h1:(x.a != 0)=false:=by cases h:(x.a != 0)<;>simp_all [manyHead]
 have h2:(x.b != 0)=false:=by cases h:(x.b != 0)<;>simp_all [manyHead]
 have hl41:x.many.length≤41:=by
  rw[bne_eq_false_iff_eq] at h4
  omega
 have hlpos:0<x.many.length:=by
  rw[bne_eq_false_iff_eq] at h4
  omega
 clear hparts hs hd hp hi hh;obtain⟨w1,hw1⟩:=zx (((w.alloc (.cells #[.string c.ware,.int .i64 c.limit,.int .i64 c.by_,.slice pa c.parts.length pc] 24)).alloc (.cells (dciCells d) 232)).alloc (.cells #[.int .u8 4,.int .i64 x.a,.int .i64 x.b,.slice ma x.many.length mc] 99));have hS:LeafSt c pa pc d ⟨4,x.a,x.b,x.many⟩ ma mc w w1:=by
  rw[←hw1];exact⟨((Box.new _ _ _).alloc _).alloc _,(Box.new' zS).alloc _,Box.new' zS,by go_grown⟩
 have HW:=zh hw1;have HS:=zh hS;clear hw1 hS;have hs1:w1.heap.size=w.heap.size+3:=by rw[←HW.out];simp
 go_enter Tryz.func232,Tryz.ntmps232
 go_upto_region 1 with fail
 simp only[HW.out,Nat.add_assoc,Nat.reduceAdd];obtain⟨e1,e2⟩:=HS.out.cells;dsimp only at e2
 go_upto_region 6 with fail
 have g0:(w1.alloc (.cells #[.int .i64 c.by_] 3)).ownsRow (w.heap.size+3) 3 1 (.slice (some ⟨w.heap.size+3,0,none⟩) 1 1) 1 [.int .i64 c.by_]:=ownsRow_one (Box.new' hs1.symm) (Nat.le_refl _);have gS:=HS.out.below ((Below.refl _ w1).alloc (Nat.le_refl _) (.cells #[.int .i64 c.by_] 3));have gs:w.heap.size+3≤(w1.alloc (.cells #[.int .i64 c.by_] 3)).heap.size:=by simp;omega
 generalize w1.alloc (.cells #[.int .i64 c.by_] 3)=w2 at *;have HO:=zh g0;have HS:=zh gS;obtain⟨mb,mo,hma,hcell⟩:=HI.out.base hlpos;subst hma;have HCELL:=zh hcell;clear g0 gS h1 h2 h3 h4 hs1 e1 e2 HW hcell
 go_wp2_with fail
 go_loopw [10] (fun iv wr=>∃i:Nat,i≤x.many.length∧iv = .int .i64 i∧Hid (riseTo c.parts.length x.many i=true)∧Below w2.heap.size w2 wr) (fun iv _=>x.many.length-(intOf iv).toNat)
 case atStart=>exact⟨0,Nat.zero_le _,rfl,zh rfl,Below.refl _ _⟩
 case round=>
  obtain⟨i,hil,rfl,HRT,hb⟩:=hrel;have HBR:=zh hb;have HSR:=zh (HS.out.below hb);clear hb;obtain⟨e1,e2⟩:=HSR.out.cells;dsimp only at e2
  by_cases hlt:i<x.many.length
  ·have hlti:(i:Int)<(x.many.length:Int):=by omega
   obtain⟨y,hy⟩:=get_of_lt x.many hlt;have hb0:Below w.heap.size w wr:=HSR.out.old;have c1:=below_cell hb0 (HCELL.out i y hy);have hrs:=riseTo_succ c.parts.length x.many i;rw[hy] at hrs;simp only[Option.getD_some] at hrs;rw[HRT.out,Bool.true_and] at hrs
   rcases hin:inB y 0 ((c.parts.length:Int)-1) with _|_
   ·have hno:riseTo c.parts.length x.many (i+1)=false:=by rw[hrs,hin];rfl
    have HNL:=zh (show leafB c d c.parts.length ⟨4,x.a,x.b,x.many⟩=false by rw[leaf_many];exact many_not (rise_less hno hlt));have HIN:=zh (within_held hin);have HC:=zh (And.intro c1 c1);clear hrs hno hin hy c1
    go_wp2_with fail
    refine wp_region_heldB 27 [] zK zK zK zS ?_;intro S hS;have k0:=fun W (h:S W)=>(⟨(HSR.out.br.below' (hS W h)).cell 3,below_cell (hS W h) HC.out.1,below_cell (hS W h) HC.out.2⟩:_∧_∧_)
    have K0:=zh k0;have HSS:=zh hS;clear k0 hS e1 e2;simp only[pT]
    repeat (first
     |refine xN ?_
     |refine xV K0 ?_
     |(refine held_skip rfl (by rfl) ?_ ?_;(· (intro W hW;obtain⟨q0,q1,q2⟩:=K0.out W hW;go_simp;try with_reducible rfl));try simp only[pZ])
     |(refine xC (fun W hW=>HIN.out W) ?_ ?_;(· (intro W hW;go_simp;done))))
    refine held_nil ?_;intro τ hτ wn hW hO;obtain rfl:=laid0 hτ;have hbn:=HSS.out wn hW;have HBN:=zh (HBR.out.trans (hbn.mono HBR.out.size));have HSN:=zh (HSR.out.below hbn);clear hτ hO hW K0 HSS hbn;simp only[overs,List.foldl_nil]
    go_wp2_with fail
    go_ret2
    rw[HNL.out];exact leafPost_no HSN.out.old
   ·have HIN:=zh (within_held hin);rw[hin,Bool.true_and] at hrs
    rcases i with _|j
    ·have HRS:=zh (show riseTo c.parts.length x.many (0+1)=true by rw[hrs];rfl);rw[Nat.add_zero] at c1;have HC:=zh (And.intro c1 c1);clear hrs hin hy c1
     go_wp2_with fail
     refine wp_region_heldB 27 [] zK zK zK zS ?_;intro S hS;have k0:=fun W (h:S W)=>(⟨(HSR.out.br.below' (hS W h)).cell 3,below_cell (hS W h) HC.out.1,below_cell (hS W h) HC.out.2⟩:_∧_∧_)
     have K0:=zh k0;have HSS:=zh hS;clear k0 hS e1 e2;simp only[pT]
     repeat (first
      |refine xN ?_
      |refine xV K0 ?_
      |(refine held_skip rfl (by rfl) ?_ ?_;(· (intro W hW;obtain⟨q0,q1,q2⟩:=K0.out W hW;go_simp;try with_reducible rfl));try simp only[pZ])
      |(refine xC (fun W hW=>HIN.out W) ?_ ?_;(· (intro W hW;go_simp;done))))
     refine held_nil ?_;intro τ hτ wn hW hO;obtain rfl:=laid0 hτ;have hbn:=HSS.out wn hW;have HBN:=zh (HBR.out.trans (hbn.mono HBR.out.size));have HSN:=zh (HSR.out.below hbn);clear hτ hO hW K0 HSS hbn;simp only[overs,List.foldl_nil]
     go_wp2_with fail
     go_roundw
     case rel=>exact⟨1,zO,zN,HRS,HBN.out⟩
     case measure=>exact zJ
    ·obtain⟨z,hz⟩:=get_of_lt x.many (k:=j) zO;have c2:=below_cell hb0 (HCELL.out j z hz);have hjl:(j:Int)<(x.many.length:Int):=by omega
     have hjl1:(j:Int)+1<(x.many.length:Int):=by omega
     have hj0:(0:Int)≤(j:Int)+1:=by omega
     have hsb2:IntKind.i64.wrap (j:Int)=(j:Int):=IntWalk.i64_in _ zO;have hsb:IntKind.i64.wrap (((j+1:Nat):Int)-1)=(j:Int):=by rw[IntWalk.i64_in _ zO];omega
     have hrs2:riseTo c.parts.length x.many (j+1+1)=decide (z<y):=by
      rw[hrs,show(j+1-1)=j by omega,hz];simp
     have HC:=zh (And.intro c1 c2)
     by_cases hyz:y≤z
     ·have hno:riseTo c.parts.length x.many (j+1+1)=false:=by rw[hrs2];simp;omega
      have HNL:=zh (show leafB c d c.parts.length ⟨4,x.a,x.b,x.many⟩=false by rw[leaf_many];exact many_not (rise_less hno hlt));clear hrs hrs2 hin hy hz c1 c2 hno
      go_wp2_with fail
      refine wp_region_heldB 27 [] zK zK zK zS ?_;intro S hS;have k0:=fun W (h:S W)=>(⟨(HSR.out.br.below' (hS W h)).cell 3,below_cell (hS W h) HC.out.1,below_cell (hS W h) HC.out.2⟩:_∧_∧_)
      have K0:=zh k0;have HSS:=zh hS;clear k0 hS e1 e2;simp only[pT]
      repeat (first
       |refine xN ?_
       |refine xV K0 ?_
       |(refine held_skip rfl (by rfl) ?_ ?_;(· (intro W hW;obtain⟨q0,q1,q2⟩:=K0.out W hW;go_simp;try with_reducible rfl));try simp only[pZ])
       |(refine xC (fun W hW=>HIN.out W) ?_ ?_;(· (intro W hW;go_simp;done))))
      refine held_nil ?_;intro τ hτ wn hW hO;obtain rfl:=laid0 hτ;have hbn:=HSS.out wn hW;have HBN:=zh (HBR.out.trans (hbn.mono HBR.out.size));have HSN:=zh (HSR.out.below hbn);clear hτ hO hW K0 HSS hbn;simp only[overs,List.foldl_nil]
      go_wp2_with fail
      go_ret2
      rw[HNL.out];exact leafPost_no HSN.out.old
     ·have HRS:=zh (show riseTo c.parts.length x.many (j+1+1)=true by rw[hrs2];simp;omega);clear hrs hrs2 hin hy hz c1 c2
      go_wp2_with fail
      refine wp_region_heldB 27 [] zK zK zK zS ?_;intro S hS;have k0:=fun W (h:S W)=>(⟨(HSR.out.br.below' (hS W h)).cell 3,below_cell (hS W h) HC.out.1,below_cell (hS W h) HC.out.2⟩:_∧_∧_)
      have K0:=zh k0;have HSS:=zh hS;clear k0 hS e1 e2;simp only[pT]
      repeat (first
       |refine xN ?_
       |refine xV K0 ?_
       |(refine held_skip rfl (by rfl) ?_ ?_;(· (intro W hW;obtain⟨q0,q1,q2⟩:=K0.out W hW;go_simp;try with_reducible rfl));try simp only[pZ])
       |(refine xC (fun W hW=>HIN.out W) ?_ ?_;(· (intro W hW;go_simp;done))))
      refine held_nil ?_;intro τ hτ wn hW hO;obtain rfl:=laid0 hτ;have hbn:=HSS.out wn hW;have HBN:=zh (HBR.out.trans (hbn.mono HBR.out.size));have HSN:=zh (HSR.out.below hbn);clear hτ hO hW K0 HSS hbn;simp only[overs,List.foldl_nil]
      go_wp2_with fail
      go_roundw
      case rel=>exact⟨j+1+1,zO,zN,HRS,HBN.out⟩
      case measure=>exact zJ
  ·have hie:i=x.many.length:=by omega
   subst hie;have HS:=HSR;have HBW:=zh HSR.out.old;have HO:=zh (ownsRow_keep HO.out (K:=fun _=>True) (Keep.of_below' HBR.out) (fun _ _=>trivial));have gs2:w.heap.size+3≤wr.heap.size:=Nat.le_trans gs HBR.out.size;clear HSR HBR gs;obtain⟨L,hL⟩:∃L:List Nat,x.many.map Int.toNat=L:=⟨_,rfl⟩
   have hval:=fun(j:Nat) (hj:j<x.many.length)=>rise_val HRT.out hj hj
   rw[hL] at hval;have hLl:L.length=x.many.length:=by rw[←hL];simp
   have HVAL:=zh hval;have HLL:=zh hLl;have h8:=rise_len HRT.out;have HMR:=zh (many_rows (c:=c) (A:=x.a) (B:=x.b) hn8 HSY.out HSU.out HH.out HRT.out);rw[hL] at HMR;have HIDS:=zh (show leafIds c d ⟨4,x.a,x.b,x.many⟩=c.by_::manyIds c d L x.many.length by simp only[leafIds];rw[hL];rfl);clear hval hLl hL hlt
   go_wp2_with fail
   go_loopw [9,11] (fun ov iv wx=>∃i:Nat,i≤x.many.length∧iv = .int .i64 i∧wx.ownsRow (w.heap.size+3) 3 1 ov (c.by_::manyIds c d L i).length ((c.by_::manyIds c d L i).map (Value.int .i64))∧Hid (∀i' k',i'<i→i'<k'→k'<x.many.length→PairOk c d L i' k')∧LeafSt c pa pc d ⟨4,x.a,x.b,x.many⟩ (some ⟨mb,mo,none⟩) mc w wx∧w.heap.size+3≤wx.heap.size) (fun _ iv _=>x.many.length-(intOf iv).toNat)
   case atStart=>exact⟨0,Nat.zero_le _,rfl,HO.out,zh (fun i' k' h=>absurd h (Nat.not_lt_zero i')),HS.out,gs2⟩
   case round=>
    clear HO HS gs2 HBW HRT e1 e2;obtain⟨i,hil,rfl,hown,HOKS,hst,hgs⟩:=hrel;have HO:=zh hown;have HS:=zh hst;clear hown hst;obtain⟨e1,e2⟩:=HS.out.cells;dsimp only at e2
    by_cases hlt:i<x.many.length
    ·have hlti:(i:Int)<(x.many.length:Int):=by omega
     go_wp2_with fail
     go_loopw [9,12] (fun ov kv wx=>∃k:Nat,i+1≤k∧k≤x.many.length∧kv = .int .i64 k∧wx.ownsRow (w.heap.size+3) 3 1 ov (c.by_::(manyIds c d L i++rowIds c d L i k)).length ((c.by_::(manyIds c d L i++rowIds c d L i k)).map (Value.int .i64))∧Hid (∀k',i<k'→k'<k→PairOk c d L i k')∧LeafSt c pa pc d ⟨4,x.a,x.b,x.many⟩ (some ⟨mb,mo,none⟩) mc w wx∧w.heap.size+3≤wx.heap.size) (fun _ kv _=>x.many.length-(intOf kv).toNat)
     case atStart=>exact⟨i+1,Nat.le_refl _,hlt,zN,by rw[rowIds_start,List.append_nil];exact HO.out,zh (fun k' h1 h2=>by omega),HS.out,hgs⟩
     case round=>
      clear HO HS hgs e1 e2;obtain⟨k,hik,hkl,rfl,hown,HOKR,hst,hgs⟩:=hrel;have HO:=zh hown;have HS:=zh hst;clear hown hst;obtain⟨e1,e2⟩:=HS.out.cells;dsimp only at e2
      by_cases hlk:k<x.many.length
      ·have hlki:(k:Int)<(x.many.length:Int):=by omega
       obtain⟨hp1,hp2⟩:=HVAL.out i hlt;obtain⟨hq1,hq2⟩:=HVAL.out k hlk;have HC1:=zh (below_cell HS.out.old (HCELL.out i _ hp1));have HC2:=zh (below_cell HS.out.old (HCELL.out k _ hq1));have hrow:=rowIds_succ (c:=c) (d:=d) L i k zO;have HOKX:=zh (show PairOk c d L i k=((partedR d (clsR d (nth L i)) (clsR d (nth L k))||(clashR c (clsR d (nth L i)) (clsR d (nth L k))).isSome)=true) from rfl);generalize nth L i=p at *;generalize nth L k=q at *;have HROW:=zh hrow;clear hp1 hq1 hrow
       go_upto_region 17 with fail
       clear e1 e2;have k0:∀A,Below wr.heap.size wr A→A.cell? ⟨w.heap.size+2,3,none⟩=some (.slice (some ⟨mb,mo,none⟩) x.many.length mc)∧A.cell? ⟨mb,mo+i,none⟩=some (.int .i64 (p:Int)):=fun A hA=>⟨(HS.out.br.below' hA).cell 3,below_cell hA HC1.out⟩
       have kd:∀A,Below wr.heap.size wr A→(Instr.loadAt 232 (.pointer (some ⟨w.heap.size+1,0,none⟩))).run Tryz.prog A = .ok (.agg (dciCells d)) A:=fun A hA=>run_dci (HS.out.dc.below' hA)
       have K0:=zh k0;have KD:=zh kd;clear k0 kd;refine wp_region_L (fun A=>Below wr.heap.size wr A) 7 zK ?_;have hSS:Below wr.heap.size wr wr.drew:=(Below.refl _ wr).drew;refine anyL_load (i:=0) 232 _ zK rfl zK zK zK zK zI (by rfl) rfl rfl KD.out hSS ?_
       try simp only[pZ]
       refine tM K0 1 hSS ?_;refine tM K0 2 hSS ?_;refine tM K0 3 hSS ?_;refine tM K0 4 hSS ?_;refine tM K0 5 hSS ?_;refine anyL_call (i:=6) (f:=235) (args:=#[.agg (dciCells d),.int .i64 (p:Int)]) rfl zK (by rfl) ?_ (classR_any d HSY.out HD.out p zO _) ?_
       ·go_simp
       rintro e w4 ⟨v4,rfl,ho4,hb4⟩;have hb5:Below wr.heap.size wr w4:=hSS.trans hb4;refine .inl ⟨v4,rfl,.inr hb5,?_⟩
       try simp only[pZ]
       refine anyL_run (i:=7) (v:=v4) (w':=w4) rfl zK (by rfl) (by go_simp) (.inl rfl) ?_
       try simp only[pZ]
       refine anyL_done zK ?_ _;obtain⟨a4,c4,hv4,hi4⟩:=own_has ho4;subst hv4;have HS:=zh (HS.out.below hb5);have HC2:=zh (below_cell hb5 HC2.out);have HO:=zh (ownsRow_keep HO.out (K:=fun _=>True) (Keep.of_below' hb5) (fun _ _=>trivial));have HI4:=zh hi4;have hgs4:=Nat.le_trans hgs hb5.size;clear hb4 hb5 ho4 hi4 hSS K0 KD HC1
       go_upto_region 18 with fail
       have k0:∀A,Below w4.heap.size w4 A→A.cell? ⟨w.heap.size+2,3,none⟩=some (.slice (some ⟨mb,mo,none⟩) x.many.length mc)∧A.cell? ⟨mb,mo+k,none⟩=some (.int .i64 (q:Int)):=fun A hA=>⟨(HS.out.br.below' hA).cell 3,below_cell hA HC2.out⟩
       have kd:∀A,Below w4.heap.size w4 A→(Instr.loadAt 232 (.pointer (some ⟨w.heap.size+1,0,none⟩))).run Tryz.prog A = .ok (.agg (dciCells d)) A:=fun A hA=>run_dci (HS.out.dc.below' hA)
       have K0:=zh k0;have KD:=zh kd;clear k0 kd;refine wp_region_L (fun A=>Below w4.heap.size w4 A) 7 zK ?_;have hSS:Below w4.heap.size w4 w4.drew:=(Below.refl _ w4).drew;refine anyL_load (i:=0) 232 _ zK rfl zK zK zK zK zI (by rfl) rfl rfl KD.out hSS ?_
       try simp only[pZ]
       refine tM K0 1 hSS ?_;refine tM K0 2 hSS ?_;refine tM K0 3 hSS ?_;refine tM K0 4 hSS ?_;refine tM K0 5 hSS ?_;refine anyL_call (i:=6) (f:=235) (args:=#[.agg (dciCells d),.int .i64 (q:Int)]) rfl zK (by rfl) ?_ (classR_any d HSY.out HD.out q zO _) ?_
       ·go_simp
       rintro e w5 ⟨v5,rfl,ho6,hb6⟩;have hb7:Below w4.heap.size w4 w5:=hSS.trans hb6;refine .inl ⟨v5,rfl,.inr hb7,?_⟩
       try simp only[pZ]
       refine anyL_run (i:=7) (v:=v5) (w':=w5) rfl zK (by rfl) (by go_simp) (.inl rfl) ?_
       try simp only[pZ]
       refine anyL_done zK ?_ _;obtain⟨a5,c5,hv5,hi5⟩:=own_has ho6;subst hv5;have HS:=zh (HS.out.below hb7);have HO:=zh (ownsRow_keep HO.out (K:=fun _=>True) (Keep.of_below' hb7) (fun _ _=>trivial));have HI4:=zh (HI4.out.below hb7);have HI5:=zh hi5;have hgs5:=Nat.le_trans hgs4 hb7.size;clear hb6 hb7 ho6 hi5 hSS K0 KD HC2;have hL:=run_dci HS.out.dc;have hlp:=clsR_len d p;have hlq:=clsR_len d q;have HPT:=zh (partedR_any d HD.out (clsR d p) (clsR d q) (clsR_eight HSY.out) (clsR_eight HSY.out) zO zO a4 a5 c4 c5 w5 HI4.out HI5.out)
       go_upto_region 20 with (first
        |(refine wpList_load_box rfl 232 _ rfl rfl hL ?_)
        |(go_at_call 236;refine zM HPT ?_;rintro e w6 ⟨rfl,hb6⟩))
       have HS:=zh (HS.out.below hb6);have HO:=zh (ownsRow_keep HO.out (K:=fun _=>True) (Keep.of_below' hb6) (fun _ _=>trivial));have HI4:=zh (HI4.out.below hb6);have HI5:=zh (HI5.out.below hb6);have hgs6:=Nat.le_trans hgs5 hb6.size;obtain⟨e1,e2⟩:=HS.out.cells;dsimp only at e2;have hpin:=clsR_in HSY.out HSU.out hp2;have hqin:=clsR_in HSY.out HSU.out hq2;have hcg:=clashingR_any c zO pa pc (clsR d p) (clsR d q) hpin hqin zO zO a4 a5 c4 c5 w6 (HP.out.below HS.out.old) HI4.out HI5.out;simp only[clashOut] at hcg;have HCG:=zh hcg;have HPI:=zh hpin;have HQI:=zh hqin;clear hb6 hL HPT hcg hpin hqin;have HMEM:=zh (fun z=>@clashR_mem c (clsR d p) (clsR d q) z);have HPC:=zh (fun z=>@pairIds_clash c d p q z);have HPP:=zh (@pairIds_parted c d p q);generalize partedR d (clsR d p) (clsR d q)=pt at *;generalize clashR c (clsR d p) (clsR d q)=cl at *
       go_upto_region 21 with (go_at_call 237;refine zM HCG ?_;rintro e w7 ⟨rfl,hb7⟩)
       have hb8:Below w6.heap.size w6 (w7.alloc (.cells #[.int .i64 ((cl.getD (0,0)).1:Nat),.int .i64 ((cl.getD (0,0)).2:Nat)] 57)):=hb7.alloc hb7.size _;have g8:Box (w7.alloc (.cells #[.int .i64 ((cl.getD (0,0)).1:Nat),.int .i64 ((cl.getD (0,0)).2:Nat)] 57)) w7.heap.size #[.int .i64 ((cl.getD (0,0)).1:Nat),.int .i64 ((cl.getD (0,0)).2:Nat)] 57:=Box.new _ _ _;generalize w7.alloc (.cells #[.int .i64 ((cl.getD (0,0)).1:Nat),.int .i64 ((cl.getD (0,0)).2:Nat)] 57)=w8 at *;generalize w7.heap.size=g7 at *;have HS:=zh (HS.out.below hb8);have HO:=zh (ownsRow_keep HO.out (K:=fun _=>True) (Keep.of_below' hb8) (fun _ _=>trivial));have hgs8:=Nat.le_trans hgs6 hb8.size;have HG8:=zh g8;clear hb7 hb8 g8 HI4 HI5 HCG e1 e2
       rcases pt with _|_
       ·rcases cl with _|z
        ·have HNL:=zh (show leafB c d c.parts.length ⟨4,x.a,x.b,x.many⟩=false by
          rw[leaf_many]
          rcases hm:manyB c d c.parts.length x.a x.b x.many with _|_
          ·rfl
          ·have h1:PairOk c d L i k:=HMR.out.1 hm i k zO hlk;rw[HOKX.out] at h1;simp at h1)
         go_wp2_with fail
         go_ret2
         rw[HNL.out];exact leafPost_no HS.out.old
        ·have hz1:=HPI.out z.1 (HMEM.out z rfl).1;have hz2:=HQI.out z.2 (HMEM.out z rfl).2;have HPE:=zh (HPC.out z rfl rfl);have HOKY:=zh (show PairOk c d L i k by rw[HOKX.out];rfl);have f1:∀i,w8.cell? ⟨g7,i,none⟩=(#[.int .i64 (z.1:Nat),.int .i64 (z.2:Nat)]:Array Value)[i]?:=HG8.out.cell;obtain⟨e1,e2⟩:=HS.out.cells;dsimp only at e2;have HIR:=zh (idsR_any c zO z.1 z.2 pa pc w8 (HP.out.below HS.out.old) hz1 hz2);have hlen1:=manyIds_len (c:=c) (d:=d) L i (by rw[HLL.out];omega);have hlen2:=rowIds_len (c:=c) (d:=d) L i k;have hlen3:L.length*i≤8*8:=Nat.mul_le_mul (by rw[HLL.out];omega) zO;have HLEN:=zh (show(c.by_::(manyIds c d L i++rowIds c d L i k)).length≤1000 by rw[List.length_cons,List.length_append];omega);clear hlen1 hlen2 hlen3
         go_wp2_with (first
          |(go_at_call 238;refine zM HIR ?_;rintro e w9 ⟨g9,rfl,hi9,hl9,hb9⟩
            have HS:=zh (HS.out.below hb9);have hgs9:=Nat.le_trans hgs8 hb9.size;obtain⟨v10,w10,hrun,hown,hb10⟩:=app_ints (ownsRow_keep HO.out (K:=fun _=>True) (Keep.of_below' hb9) (fun _ _=>trivial)) (cap:=2) hl9 hi9 (by have:=HLEN.out;omega) hgs9;have HRN:=zh hrun;have HOW:=zh hown;have HL9:=zh hl9;have hS10:LeafSt c pa pc d ⟨4,x.a,x.b,x.many⟩ (some ⟨mb,mo,none⟩) mc w w10:=⟨HS.out.cs.below hb10 zO,HS.out.dc.below hb10 zO,HS.out.br.below hb10 zO,HS.out.old.trans (hb10.mono zO)⟩
            have HS10:=zh hS10;have hgs10:=Nat.le_trans hgs9 hb10.size;clear hrun hown hb9 hb10 hi9 hl9 hS10)
          |(at_builtin;refine wpList_app rfl _ _ _ rfl rfl rfl HRN.out ?_))
         go_roundw
         case rel=>
          refine⟨k+1,zO,zO,zN,?_,zh (fun k' h1 h2=>?_),HS10.out,zO⟩
          ·have h:=HOW.out;rw[HROW.out,HPE.out,←List.append_assoc,←List.cons_append,List.length_append,List.map_append,HL9.out];exact h
          ·rcases Nat.lt_or_ge k' k with h3|h3
           ·exact HOKR.out k' h1 h3
           ·have:k'=k:=by omega
            rw[this];exact HOKY.out
         case measure=>exact zJ
       ·have HPE:=zh (HPP.out rfl);have HOKY:=zh (show PairOk c d L i k by rw[HOKX.out];rfl)
        go_wp2_with fail
        go_roundw
        case rel=>
         refine⟨k+1,zO,zO,zN,?_,zh (fun k' h1 h2=>?_),HS.out,zO⟩
         ·rw[HROW.out,HPE.out,List.append_nil];exact HO.out
         ·rcases Nat.lt_or_ge k' k with h3|h3
          ·exact HOKR.out k' h1 h3
          ·have:k'=k:=by omega
           rw[this];exact HOKY.out
        case measure=>exact zJ
      ·have hke:k=x.many.length:=by omega
       go_wp2_with fail
       go_roundw
       case rel=>
        refine⟨i+1,zO,zN,?_,zh (fun i' k' h1 h2 h3=>?_),HS.out,hgs⟩
        ·have h:=HO.out;rw[hke,←HLL.out,←manyIds_succ] at h;exact h
        ·rcases Nat.lt_or_ge i' i with h4|h4
         ·exact HOKS.out i' k' h4 h2 h3
         ·have:i'=i:=by omega
          rw[this] at h2 ⊢;exact HOKR.out k' h2 zO
       case measure=>exact zJ
    ·have hie:i=x.many.length:=by omega
     subst hie;have HYES:=zh (show leafB c d c.parts.length ⟨4,x.a,x.b,x.many⟩=true by
      rw[leaf_many];exact HMR.out.2 fun i' k' h1 h2=>HOKS.out i' k' zO h1 h2)
     obtain⟨av,cv,hv,hro,hcv⟩:=ownsRow_own HO.out;subst hv;have HRO:=zh hro;have HCV:=zh hcv;clear hro hcv
     go_wp2_with fail
     go_ret2
     rw[HYES.out,HIDS.out];exact⟨HS.out.old,_,_,_,rfl,fun _=>⟨rfl,ints_rowOwn HRO.out,HCV.out⟩,fun h=>by cases h⟩
theorem leafR_any (c:Cs)(n:Nat)(hn:c.parts.length=n)(hn8:n≤8)(hlim:0≤c.limit∧c.limit≤40)(pa:Option Addr)(pc:Nat)(d:Dec)(hs:SymD d)(hp:Supp d n)(hd:∀a b,d a b≤3)(x:Br)(ma:Option Addr)(mc:Nat)(w:World)(hparts:PartsAt w pa c.parts)(hi:Ints w ma x.many)(hmc:x.many.length≤mc)(hml:x.many.length≤1000000):
 Calls Tryz.prog 232 #[.agg #[.string c.ware,.int .i64 c.limit,.int .i64 c.by_,.slice pa c.parts.length pc],.agg (dciCells d),.agg #[.int .u8 x.kind,.int .i64 x.a,.int .i64 x.b,.slice ma x.many.length mc]] w (LeafPost (leafB c d n x) (leafIds c d x) w):=by
 by_cases hk:x.kind=4
 ·obtain⟨kd,xa,xb,xm⟩:=x;dsimp only at hk;subst hk
  rcases hh:manyHead c xa xb xm with _|_
  ·exact leafR_head c n hn hn8 hlim pa pc d ⟨4,xa,xb,xm⟩ ma mc w hml hh
  ·exact leafR_good c n hn hn8 hlim pa pc d hs hp hd ⟨4,xa,xb,xm⟩ ma mc w hparts hi hmc hml hh
 ·exact leafR_two c n hn hn8 pa pc d hs hp hd x hk ma mc w hparts hml
def WalkRPost (c:Cs)(N:Nat)(o:Option (List Br×List (Dec×Br)))(w:World)(e:Ending)(w':World):Prop:=
 Below w.heap.size w w'∧((o=none∧∃a1 n1 c1 a2 c2,∃L:List Int,e = .returned (.tuple #[.slice a1 n1 c1,.slice a2 L.length c2,.bool false])∧Ints w' a2 L∧2*L.length≤57*(N+1)) ∨
  ∃r ev,o=some (r,ev)∧∃ra rc a cap,e = .returned (.tuple #[.slice ra r.length rc,.slice a (evIds c ev).length cap,.bool true])∧BrsAt w' ra r∧r.length≤rc∧Ints w' a (evIds c ev)∧(evIds c ev).length≤cap)
theorem walkRPost_no {c:Cs}{N:Nat}{o:Option (List Br×List (Dec×Br))}{w w':World}{a1 a2:Option Addr}{n1 c1 c2:Nat}(ho:o=none)(h:Below w.heap.size w w'):WalkRPost c N o w (.returned (.tuple #[.slice a1 n1 c1,.slice a2 0 c2,.bool false])) w':=⟨h,.inl ⟨ho,_,_,_,_,_,[],rfl,Ints.nil _ _,by simp⟩⟩
structure WalkSt (c:Cs) (pa:Option Addr) (pc:Nat) (d:Dec) (w W:World):Prop where
 cs:Box W w.heap.size (csCells c pa pc) 24
 dc:Box W (w.heap.size+1) (dciCells d) 232
 old:Below w.heap.size w W
theorem WalkSt.below {c:Cs}{pa:Option Addr}{pc:Nat}{d:Dec}{w W W':World}(h:WalkSt c pa pc d w W)(hb:Below W.heap.size W W'):WalkSt c pa pc d w W':=
 ⟨h.cs.below' hb,h.dc.below' hb,h.old.trans (hb.mono h.old.size)⟩
theorem WalkSt.cells {c:Cs}{pa:Option Addr}{pc:Nat}{d:Dec}{w W:World}(h:WalkSt c pa pc d w W):∀i,W.cell? ⟨w.heap.size,i,none⟩=(#[.string c.ware,.int .i64 c.limit,.int .i64 c.by_,.slice pa c.parts.length pc]:Array Value)[i]?:=h.cs.cell
theorem walkR_any (c:Cs)(n:Nat)(hn:c.parts.length=n)(hn8:n≤8)(hlim:0≤c.limit∧c.limit≤40)(pa:Option Addr)(pc:Nat):
 ∀(k:Nat) (d:Dec) (l:List Br) (ra:Option Addr) (rc:Nat) (w:World),l.length<k→l.length≤20000→SymD d→Supp d n→(∀a b,d a b≤3)→(∀z∈l,z.Small)→l.length≤rc→PartsAt w pa c.parts→BrsAt w ra l →
 Calls Tryz.prog 225 #[.agg #[.string c.ware,.int .i64 c.limit,.int .i64 c.by_,.slice pa c.parts.length pc],.agg (dciCells d),.slice ra l.length rc] w (WalkRPost c l.length (walkM c n k d l) w)
 |0,_,_,_,_,_,h,_,_,_,_,_,_,_,_=>absurd h (Nat.not_lt_zero _)
 |k+1,d,[],ra,rc,w,_,_,_,_,_,_,_,_,_=>by
  subst hn;obtain⟨w1,hw1⟩:=zx ((w.alloc (.cells #[.string c.ware,.int .i64 c.limit,.int .i64 c.by_,.slice pa c.parts.length pc] 24)).alloc (.cells (dciCells d) 232));have hS:WalkSt c pa pc d w w1:=by
   rw[←hw1];exact⟨(Box.new _ _ _).alloc _,Box.new' zS,by go_grown⟩
  have hs1:w1.heap.size=w.heap.size+2:=by rw[←hw1];simp
  have HW:=zh hw1;have HS:=zh hS;clear hw1 hS
  go_enter Tryz.func225,Tryz.ntmps225
  go_upto_region 1 with fail
  simp only[HW.out]
  go_wp2_with fail
  go_ret3
  exact walkRPost_no rfl HS.out.old
 |k+1,d,x::l,ra,rc,w,hlk,hll,hs,hp,hd,hsm,hrc,hparts,hbr=>by
  have ih:=walkR_any c n hn hn8 hlim pa pc k;subst hn;obtain⟨b,o,rfl,hx⟩:=hbr 0 x rfl;obtain⟨ma,mc,y1,y2,y3,y4,x5,x6⟩:=hx;simp only[Nat.zero_mul,Nat.add_zero,List.length_cons] at y1 y2 y3 y4 hrc hll hlk;simp only[List.length_cons];obtain⟨hx256,hxml⟩:=hsm x zS;obtain⟨w1,hw1⟩:=zx ((w.alloc (.cells #[.string c.ware,.int .i64 c.limit,.int .i64 c.by_,.slice pa c.parts.length pc] 24)).alloc (.cells (dciCells d) 232));have hS:WalkSt c pa pc d w w1:=by
   rw[←hw1];exact⟨(Box.new _ _ _).alloc _,Box.new' zS,by go_grown⟩
  have hs1:w1.heap.size=w.heap.size+2:=by rw[←hw1];simp
  have HW:=zh hw1;have HS:=zh hS;clear hw1 hS;have x1:=below_cell HS.out.old y1;have x2:=below_cell HS.out.old y2;have x3:=below_cell HS.out.old y3;have x4:=below_cell HS.out.old y4;obtain⟨a2,ha2⟩:=zx ((if rc=1 then some (⟨b,o,none⟩:Addr) else some ⟨b,o+4,none⟩));have hbr2:BrsAt w a2 l:=by
   rw[←ha2]
   split
   ·have:l=[]:=List.length_eq_zero_iff.1 zO;rw[this];intro j y hy;simp at hy
   ·exact hbr.tail
  have HA2:=zh ha2;have HBR2:=zh hbr2;have HSM:=zh (fun z (hz:z∈l)=>hsm z (by simp[hz]));have HP:=zh hparts;have HSY:=zh hs;have HSU:=zh hp;have HD:=zh hd;have HIH:=zh ih;have X5:=zh x5;have hz0:(((l.length:Int)+1)==0)=false:=by rw[beq_eq_false_iff_ne];omega
  have h1l:(1:Int)≤(l.length:Int)+1:=by omega
  have hwn:IntKind.i64.wrap ((c.parts.length:Int)-1)=(c.parts.length:Int)-1:=IntWalk.i64_in _ zO;clear ha2 hbr2 hsm hparts hs hp hd ih x5 hbr y1 y2 y3 y4
  go_enter Tryz.func225,Tryz.ntmps225
  go_upto_region 1 with fail
  simp only[HW.out,Nat.add_assoc,Nat.reduceAdd]
  go_upto_region 4 with fail
  have g3:Box (w1.alloc (.cells #[.int .u8 x.kind,.int .i64 x.a,.int .i64 x.b,.slice ma x.many.length mc] 99)) (w.heap.size+2) #[.int .u8 x.kind,.int .i64 x.a,.int .i64 x.b,.slice ma x.many.length mc] 99:=Box.new' hs1.symm;have gS:=HS.out.below ((Below.refl _ w1).alloc (Nat.le_refl _) (.cells #[.int .u8 x.kind,.int .i64 x.a,.int .i64 x.b,.slice ma x.many.length mc] 99));generalize w1.alloc (.cells #[.int .u8 x.kind,.int .i64 x.a,.int .i64 x.b,.slice ma x.many.length mc] 99)=w2 at *;have HS:=zh gS;have HBX:=zh g3;have e1:=HS.out.cells;have e3:∀i,w2.cell? ⟨w.heap.size+2,i,none⟩=(#[.int .u8 x.kind,.int .i64 x.a,.int .i64 x.b,.slice ma x.many.length mc]:Array Value)[i]?:=g3.cell;clear g3 gS x1 x2 x3 x4 HW hs1
  by_cases hk1:x.kind=1
  ·have hk1b:(((x.kind:Nat):Int) != 1)=false:=by simp[hk1]
   rcases ha:inB x.a 0 ((c.parts.length:Int)-1) with _|_
   ·have HSP:=zh (show splitB c.parts.length x=false by simp[splitB,ha]);have HIN:=zh (within_held ha);have HIN2:=HIN;clear ha
    go_wp2_with (go_at_call 192;(first|(with_reducible refine(HIN.out _).mono ?_)|(with_reducible refine(HIN2.out _).mono ?_));rintro e w3 ⟨rfl,hb3⟩;have HS:=zh (HS.out.below hb3);have HBX:=zh (HBX.out.below' hb3);have e1:=HS.out.cells;have e3:∀i,w3.cell? ⟨w.heap.size+2,i,none⟩=(#[.int .u8 x.kind,.int .i64 x.a,.int .i64 x.b,.slice ma x.many.length mc]:Array Value)[i]?:=HBX.out.cell;clear hb3)
    go_ret3
    exact walkRPost_no (walkM_no hk1 HSP.out) HS.out.old
   rcases hb:inB x.b 0 ((c.parts.length:Int)-1) with _|_
   ·have HSP:=zh (show splitB c.parts.length x=false by simp[splitB,hb]);have HIN:=zh (within_held ha);have HIN2:=zh (within_held hb);clear ha hb
    go_wp2_with (go_at_call 192;(first|(with_reducible refine(HIN.out _).mono ?_)|(with_reducible refine(HIN2.out _).mono ?_));rintro e w3 ⟨rfl,hb3⟩;have HS:=zh (HS.out.below hb3);have HBX:=zh (HBX.out.below' hb3);have e1:=HS.out.cells;have e3:∀i,w3.cell? ⟨w.heap.size+2,i,none⟩=(#[.int .u8 x.kind,.int .i64 x.a,.int .i64 x.b,.slice ma x.many.length mc]:Array Value)[i]?:=HBX.out.cell;clear hb3)
    go_ret3
    exact walkRPost_no (walkM_no hk1 HSP.out) HS.out.old
   by_cases hab:x.a=x.b
   ·have HSP:=zh (show splitB c.parts.length x=false by simp[splitB,hab]);have HIN:=zh (within_held ha);have HIN2:=zh (within_held hb);have habb:(x.a==x.b)=true:=by simpa using hab
    clear ha hb hab
    go_wp2_with (go_at_call 192;(first|(with_reducible refine(HIN.out _).mono ?_)|(with_reducible refine(HIN2.out _).mono ?_));rintro e w3 ⟨rfl,hb3⟩;have HS:=zh (HS.out.below hb3);have HBX:=zh (HBX.out.below' hb3);have e1:=HS.out.cells;have e3:∀i,w3.cell? ⟨w.heap.size+2,i,none⟩=(#[.int .u8 x.kind,.int .i64 x.a,.int .i64 x.b,.slice ma x.many.length mc]:Array Value)[i]?:=HBX.out.cell;clear hb3)
    go_ret3
    exact walkRPost_no (walkM_no hk1 HSP.out) HS.out.old
   have habb:(x.a==x.b)=false:=by simpa using hab
   by_cases hm0:x.many.length=0
   ·have hsp:splitB c.parts.length x=true:=by
     have:((x.many.length:Int)==0)=true:=by rw[beq_iff_eq];omega
     have h2:(x.a != x.b)=true:=by simpa using hab
     simp only[splitB,this,ha,hb,h2,Bool.and_true]
    obtain⟨a,b',hxa,hxb,hal,hbl⟩:∃a b':Nat,x.a=a∧x.b=b'∧a<c.parts.length∧b'<c.parts.length:=by
     obtain⟨⟨a,h1,h2⟩,b',h3,h4⟩:=split_in hsp;exact⟨a,b',h1,h3,h2,h4⟩
    have HIN:=zh (within_held ha);have HIN2:=zh (within_held hb);have hpos:¬((0:Int)<(x.many.length:Int)):=by omega
    have HWY:=zh (fun(l1 l2:List Br) (f1 f2:List (Dec×Br)) (h3:walkM c c.parts.length k (decWith d a b' 1) l=some (l1,f1)) (h4:walkM c c.parts.length k (decWith d a b' 2) l1=some (l2,f2))=>@walkM_yes c c.parts.length k d x l l1 l2 f1 f2 hk1 hsp (by rw[hxa,hxb];exact h3) (by rw[hxa,hxb];exact h4));have HWO:=zh (fun(h3:walkM c c.parts.length k (decWith d a b' 1) l=none)=>@walkM_one c c.parts.length k d x l hk1 hsp (by rw[hxa,hxb];exact h3));have HWT:=zh (fun(l1:List Br) (f1:List (Dec×Br)) (h3:walkM c c.parts.length k (decWith d a b' 1) l=some (l1,f1)) (h4:walkM c c.parts.length k (decWith d a b' 2) l1=none)=>@walkM_two c c.parts.length k d x l l1 f1 hk1 hsp (by rw[hxa,hxb];exact h3) (by rw[hxa,hxb];exact h4));have HXA:=zh hxa;have HXB:=zh hxb;clear ha hb hab hm0 hsp hxa hxb
    go_upto_region 9 with (go_at_call 192;(first|(with_reducible refine(HIN.out _).mono ?_)|(with_reducible refine(HIN2.out _).mono ?_));rintro e w3 ⟨rfl,hb3⟩;have HS:=zh (HS.out.below hb3);have HBX:=zh (HBX.out.below' hb3);have e1:=HS.out.cells;have e3:∀i,w3.cell? ⟨w.heap.size+2,i,none⟩=(#[.int .u8 x.kind,.int .i64 x.a,.int .i64 x.b,.slice ma x.many.length mc]:Array Value)[i]?:=HBX.out.cell;clear hb3)
    clear e1 e3;have k0:∀A,Below w3.heap.size w3 A→cC A (w.heap.size) c pa pc∧A.cell? ⟨w.heap.size+2,1,none⟩=some (.int .i64 (a:Int))∧A.cell? ⟨w.heap.size+2,2,none⟩=some (.int .i64 (b':Int)):=fun A hA=>by
     have h1:=(HBX.out.below' hA).cell 1;have h2:=(HBX.out.below' hA).cell 2;rw[HXA.out] at h1;rw[HXB.out] at h2;exact⟨(HS.out.below hA).cells,h1,h2⟩
    have kd:∀A,Below w3.heap.size w3 A→(Instr.loadAt 232 (.pointer (some ⟨w.heap.size+1,0,none⟩))).run Tryz.prog A = .ok (.agg (dciCells d)) A:=fun A hA=>run_dci (HS.out.below hA).dc
    have K0:=zh k0;have KD:=zh kd;clear k0 kd;refine wp_region_L (fun A=>Below w3.heap.size w3 A) 16 zK ?_;have hSS:Below w3.heap.size w3 w3.drew:=(Below.refl _ w3).drew;refine tM K0 0 hSS ?_;refine anyL_load (i:=1) 232 _ zK rfl zK zK zK zK zI (by rfl) rfl rfl KD.out hSS ?_
    try simp only[pZ]
    refine tM K0 2 hSS ?_;refine tM K0 3 hSS ?_;refine tM K0 4 hSS ?_;refine tM K0 5 hSS ?_;refine tM K0 7 hSS ?_;refine tM K0 8 hSS ?_;simp only[HA2.out];refine anyL_call (i:=6) (f:=208) (args:=#[.agg (dciCells d),.int .i64 (a:Int),.int .i64 (b':Int),.int .i64 1]) rfl zK (by rfl) ?_ (withR_any d HSY.out a b' 1 _ zO zO HD.out zO) ?_
    ·go_simp
    rintro e w4 ⟨rfl,hb4⟩;have hb5:Below w3.heap.size w3 w4:=hSS.trans hb4;refine .inl ⟨_,rfl,.inr hb5,?_⟩
    try simp only[pZ]
    have hold4:=HS.out.old.trans (hb5.mono HS.out.old.size);have hih:=HIH.out (decWith d a b' 1) l a2 (rc-1) w4 zO zO (decWith_sym HSY.out _ _ _) (supp_with HSU.out HSY.out hal hbl) (decWith_le HD.out zO) HSM.out zO (HP.out.below hold4) (HBR2.out.below hold4);refine anyL_call (i:=9) (f:=225) (args:=#[.agg #[.string c.ware,.int .i64 c.limit,.int .i64 c.by_,.slice pa c.parts.length pc],.agg (dciCells (decWith d a b' 1)),.slice a2 l.length (rc-1)]) rfl zK (by rfl) ?_ hih ?_
    ·go_simp
    rintro e w5 ⟨hb6',⟨hno,q1,q2,q3,q4,q5,L5,rfl,hi5,hl5⟩|⟨r,ev,hyes,ra3,rc3,a3,cap3,rfl,hbr3,hrc3,hi3,hc3⟩⟩
    ·have hb6:Below w3.heap.size w3 w5:=hb5.trans (hb6'.mono hb5.size);refine .inl ⟨_,rfl,.inr hb6,?_⟩
     try simp only[pZ]
     have hSS:=hb6;refine anyL_run (i:=10) (v:=?_) (w':=w5) rfl zK (by rfl) (by(go_simp;try with_reducible rfl)) (.inr hb6) ?_
     try simp only[pZ]
     refine tM K0 11 hSS ?_;refine tM K0 12 hSS ?_;refine tM K0 13 hSS ?_;refine anyL_run (i:=14) (v:=?_) (w':=w5) rfl zK (by rfl) (by(go_simp;try with_reducible rfl)) (.inr hb6) ?_
     try simp only[pZ]
     refine anyL_run (i:=15) (v:=?_) (w':=w5) rfl zK (by rfl) (by(go_simp;try with_reducible rfl)) (.inr hb6) ?_
     try simp only[pZ]
     refine anyL_run (i:=16) (v:=?_) (w':=w5) rfl zK (by rfl) (by(go_simp;try with_reducible rfl)) (.inl rfl) ?_
     try simp only[pZ]
     refine anyL_done zK ?_ _;have HS:=zh (HS.out.below hb6);have HNO:=zh (HWO.out hno);clear hb6 hb6' hb5 hb4 hSS hold4 hih hno K0 KD
     go_wp2_with fail
     go_ret3
     exact walkRPost_no HNO.out HS.out.old
    ·have hb6:Below w3.heap.size w3 w5:=hb5.trans (hb6'.mono hb5.size);refine .inl ⟨_,rfl,.inr hb6,?_⟩
     try simp only[pZ]
     have hSS:=hb6;refine anyL_run (i:=10) (v:=?_) (w':=w5) rfl zK (by rfl) (by(go_simp;try with_reducible rfl)) (.inr hb6) ?_
     try simp only[pZ]
     refine tM K0 11 hSS ?_;refine tM K0 12 hSS ?_;refine tM K0 13 hSS ?_;refine anyL_run (i:=14) (v:=?_) (w':=w5) rfl zK (by rfl) (by(go_simp;try with_reducible rfl)) (.inr hb6) ?_
     try simp only[pZ]
     refine anyL_run (i:=15) (v:=?_) (w':=w5) rfl zK (by rfl) (by(go_simp;try with_reducible rfl)) (.inr hb6) ?_
     try simp only[pZ]
     refine anyL_run (i:=16) (v:=?_) (w':=w5) rfl zK (by rfl) (by(go_simp;try with_reducible rfl)) (.inl rfl) ?_
     try simp only[pZ]
     refine anyL_done zK ?_ _;have HS:=zh (HS.out.below hb6);have HBX:=zh (HBX.out.below' hb6);have HEV:=zh (walkM_ev _ _ _ hyes);have HRL:=zh (walkM_len _ _ _ hyes);have HRS:=zh (walkM_small _ _ _ HSM.out hyes);have HY:=zh hyes;have HBR3:=zh hbr3;have HI3:=zh hi3;clear hb6 hb6' hb5 hb4 hSS hold4 hih hyes hbr3 hi3 K0 KD
     go_upto_region 12 with fail
     have k0:∀A,Below w5.heap.size w5 A→cC A (w.heap.size) c pa pc∧A.cell? ⟨w.heap.size+2,1,none⟩=some (.int .i64 (a:Int))∧A.cell? ⟨w.heap.size+2,2,none⟩=some (.int .i64 (b':Int)):=fun A hA=>by
      have h1:=(HBX.out.below' hA).cell 1;have h2:=(HBX.out.below' hA).cell 2;rw[HXA.out] at h1;rw[HXB.out] at h2;exact⟨(HS.out.below hA).cells,h1,h2⟩
     have kd:∀A,Below w5.heap.size w5 A→(Instr.loadAt 232 (.pointer (some ⟨w.heap.size+1,0,none⟩))).run Tryz.prog A = .ok (.agg (dciCells d)) A:=fun A hA=>run_dci (HS.out.below hA).dc
     have K0:=zh k0;have KD:=zh kd;clear k0 kd;refine wp_region_L (fun A=>Below w5.heap.size w5 A) 15 zK ?_;have hSS:Below w5.heap.size w5 w5.drew:=(Below.refl _ w5).drew;refine tM K0 0 hSS ?_;refine anyL_load (i:=1) 232 _ zK rfl zK zK zK zK zI (by rfl) rfl rfl KD.out hSS ?_
     try simp only[pZ]
     refine tM K0 2 hSS ?_;refine tM K0 3 hSS ?_;refine tM K0 4 hSS ?_;refine tM K0 5 hSS ?_;refine tM K0 7 hSS ?_;refine anyL_call (i:=6) (f:=208) (args:=#[.agg (dciCells d),.int .i64 (a:Int),.int .i64 (b':Int),.int .i64 2]) rfl zK (by rfl) ?_ (withR_any d HSY.out a b' 2 _ zO zO HD.out zO) ?_
     ·go_simp
     rintro e w6 ⟨rfl,hb7⟩;have hb8:Below w5.heap.size w5 w6:=hSS.trans hb7;refine .inl ⟨_,rfl,.inr hb8,?_⟩
     try simp only[pZ]
     have hold6:=HS.out.old.trans (hb8.mono HS.out.old.size);have hih:=HIH.out (decWith d a b' 2) r ra3 rc3 w6 (by have:=HRL.out;omega) (by have:=HRL.out;omega) (decWith_sym HSY.out _ _ _) (supp_with HSU.out HSY.out hal hbl) (decWith_le HD.out zO) HRS.out hrc3 (HP.out.below hold6) (HBR3.out.below hb8);refine anyL_call (i:=8) (f:=225) (args:=#[.agg #[.string c.ware,.int .i64 c.limit,.int .i64 c.by_,.slice pa c.parts.length pc],.agg (dciCells (decWith d a b' 2)),.slice ra3 r.length rc3]) rfl zK (by rfl) ?_ hih ?_
     ·go_simp
     rintro e w7 ⟨hb9',⟨hno,q1,q2,q3,q4,q5,L5,rfl,hi5,hl5⟩|⟨r2,ev2,hyes,ra4,rc4,a4,cap4,rfl,hbr4,hrc4,hi4,hc4⟩⟩
     ·have hb9:Below w5.heap.size w5 w7:=hb8.trans (hb9'.mono hb8.size);refine .inl ⟨_,rfl,.inr hb9,?_⟩
      try simp only[pZ]
      have hSS:=hb9;refine anyL_run (i:=9) (v:=?_) (w':=w7) rfl zK (by rfl) (by(go_simp;try with_reducible rfl)) (.inr hb9) ?_
      try simp only[pZ]
      refine tM K0 10 hSS ?_;refine tM K0 11 hSS ?_;refine tM K0 12 hSS ?_;refine anyL_run (i:=13) (v:=?_) (w':=w7) rfl zK (by rfl) (by(go_simp;try with_reducible rfl)) (.inr hb9) ?_
      try simp only[pZ]
      refine anyL_run (i:=14) (v:=?_) (w':=w7) rfl zK (by rfl) (by(go_simp;try with_reducible rfl)) (.inr hb9) ?_
      try simp only[pZ]
      refine anyL_run (i:=15) (v:=?_) (w':=w7) rfl zK (by rfl) (by(go_simp;try with_reducible rfl)) (.inl rfl) ?_
      try simp only[pZ]
      refine anyL_done zK ?_ _;have HS:=zh (HS.out.below hb9);have HI3:=zh (HI3.out.below hb9);have HNO:=zh (HWT.out _ _ HY.out hno);clear hb9 hb9' hb8 hb7 hSS hold6 hih hno K0 KD;have hold:=HS.out.old;have hev:=HEV.out.1;have hel:=evIds_len (c:=c) hn8 HEV.out.2;have hle:(evIds c ev).length≤600000:=by omega
      obtain⟨v8,w8,hrun,hown,hb10⟩:=app_ints (ownsRow_empty w7 w7.heap.size 3 1 (Nat.le_refl _)) (a:=a3) (cap:=cap3) rfl (HI3.out.below ((Below.refl _ w7).alloc (Nat.le_refl _) (.cells #[] 3))) zO zS;have hb7a:Below w7.heap.size w7 (w7.alloc (.cells #[] 3)):=(Below.refl _ w7).alloc (Nat.le_refl _) _;have hb78:Below w7.heap.size w7 w8:=hb7a.trans hb10;obtain⟨v9,w9,hrun9,hown9,hb11⟩:=app_ints hown (a:=q4) (cap:=q5) rfl (hi5.below hb78) zO hb78.size;obtain⟨a9,c9,hv9,hro9,hc9⟩:=ownsRow_own hown9;subst hv9;have HRN:=zh hrun;have HRN9:=zh hrun9;have HRO:=zh hro9;have HEND:=zh (hold.trans ((hb78.trans hb11).mono hold.size));have HLE:=zh (show 2*((evIds c ev)++L5).length≤57*(l.length+1+1) by rw[List.length_append];omega);clear hrun hrun9 hro9 hown hown9 hb10 hb11 hb7a hb78 hold hev hel hle hi5 hl5
      go_wp2_with (at_builtin;first|(refine wpList_app rfl _ _ _ rfl rfl rfl HRN.out ?_)|(refine wpList_app rfl _ _ _ rfl rfl rfl HRN9.out ?_))
      go_ret3
      refine⟨HEND.out,.inl ⟨HNO.out,q1,q2,q3,a9,c9,evIds c ev++L5,?_,?_,HLE.out⟩⟩
      ·rw[List.length_append];rfl
      ·have h:=HRO.out;rw[List.nil_append,←List.map_append] at h;exact ints_rowOwn h
     ·have hb9:Below w5.heap.size w5 w7:=hb8.trans (hb9'.mono hb8.size);refine .inl ⟨_,rfl,.inr hb9,?_⟩
      try simp only[pZ]
      have hSS:=hb9;refine anyL_run (i:=9) (v:=?_) (w':=w7) rfl zK (by rfl) (by(go_simp;try with_reducible rfl)) (.inr hb9) ?_
      try simp only[pZ]
      refine tM K0 10 hSS ?_;refine tM K0 11 hSS ?_;refine tM K0 12 hSS ?_;refine anyL_run (i:=13) (v:=?_) (w':=w7) rfl zK (by rfl) (by(go_simp;try with_reducible rfl)) (.inr hb9) ?_
      try simp only[pZ]
      refine anyL_run (i:=14) (v:=?_) (w':=w7) rfl zK (by rfl) (by(go_simp;try with_reducible rfl)) (.inr hb9) ?_
      try simp only[pZ]
      refine anyL_run (i:=15) (v:=?_) (w':=w7) rfl zK (by rfl) (by(go_simp;try with_reducible rfl)) (.inl rfl) ?_
      try simp only[pZ]
      refine anyL_done zK ?_ _;have HS:=zh (HS.out.below hb9);have HI3:=zh (HI3.out.below hb9);have HYS:=zh (HWY.out _ _ _ _ HY.out hyes);have HEV2:=zh (walkM_ev _ _ _ hyes);have HBR4:=zh hbr4;clear hb9 hb9' hb8 hb7 hSS hold6 hih hyes hbr4 K0 KD;have hold:=HS.out.old;have hev:=HEV.out.1;have hel:=evIds_len (c:=c) hn8 HEV.out.2;have hle:(evIds c ev).length≤600000:=by omega
      obtain⟨v8,w8,hrun,hown,hb10⟩:=app_ints (ownsRow_empty w7 w7.heap.size 3 1 (Nat.le_refl _)) (a:=a3) (cap:=cap3) rfl (HI3.out.below ((Below.refl _ w7).alloc (Nat.le_refl _) (.cells #[] 3))) zO zS;have hb7a:Below w7.heap.size w7 (w7.alloc (.cells #[] 3)):=(Below.refl _ w7).alloc (Nat.le_refl _) _;have hb78:Below w7.heap.size w7 w8:=hb7a.trans hb10;have hev2:=HEV2.out.1;have hel2:=evIds_len (c:=c) hn8 HEV2.out.2;have hle2:(evIds c ev).length+(evIds c ev2).length≤600000:=by omega
      obtain⟨v9,w9,hrun9,hown9,hb11⟩:=app_ints hown (a:=a4) (cap:=cap4) rfl (hi4.below hb78) zO hb78.size;obtain⟨a9,c9,hv9,hro9,hc9⟩:=ownsRow_own hown9;subst hv9;have HRN:=zh hrun;have HRN9:=zh hrun9;have HRO:=zh hro9;have HC9:=zh hc9;have HEND:=zh (hold.trans ((hb78.trans hb11).mono hold.size));have HBE:=zh (HBR4.out.below (hb78.trans hb11));clear hrun hrun9 hro9 hown hown9 hb10 hb11 hb7a hb78 hold hev hel hle hev2 hel2 hle2 hi4 hc9
      go_wp2_with (at_builtin;first|(refine wpList_app rfl _ _ _ rfl rfl rfl HRN.out ?_)|(refine wpList_app rfl _ _ _ rfl rfl rfl HRN9.out ?_))
      go_ret3
      refine⟨HEND.out,.inr ⟨r2,ev++ev2,HYS.out,ra4,rc4,a9,c9,?_,HBE.out,hrc4,?_,?_⟩⟩
      ·rw[evIds_app,List.length_append];rfl
      ·have h:=HRO.out;rw[List.nil_append,←List.map_append,←evIds_app] at h;exact ints_rowOwn h
      ·rw[evIds_app,List.length_append];have:=HC9.out;omega
   ·have HSP:=zh (show splitB c.parts.length x=false by
     have:((x.many.length:Int)==0)=false:=by rw[beq_eq_false_iff_ne];omega
     simp only[splitB,this,Bool.and_false])
    have HIN:=zh (within_held ha);have HIN2:=zh (within_held hb);have hpos:(0:Int)<(x.many.length:Int):=by omega
    clear ha hb hab hm0
    go_wp2_with (go_at_call 192;(first|(with_reducible refine(HIN.out _).mono ?_)|(with_reducible refine(HIN2.out _).mono ?_));rintro e w3 ⟨rfl,hb3⟩;have HS:=zh (HS.out.below hb3);have HBX:=zh (HBX.out.below' hb3);have e1:=HS.out.cells;have e3:∀i,w3.cell? ⟨w.heap.size+2,i,none⟩=(#[.int .u8 x.kind,.int .i64 x.a,.int .i64 x.b,.slice ma x.many.length mc]:Array Value)[i]?:=HBX.out.cell;clear hb3)
    go_ret3
    exact walkRPost_no (walkM_no hk1 HSP.out) HS.out.old
  ·have hk1b:(((x.kind:Nat):Int) != 1)=true:=by simp;omega
   have hL:=run_dci HS.out.dc;have hlf:=leafR_any c c.parts.length rfl hn8 hlim pa pc d HSY.out HSU.out HD.out x ma mc w2 (HP.out.below HS.out.old) (X5.out.below HS.out.old) x6 hxml;have HLF:=zh (hlf.mono (fun(e:Ending) (w':World) hh=>(by
    obtain⟨hb,a,k,cap,he,h,h0⟩:=hh;exact⟨a,k,cap,he,h,hb,h0⟩:∃(a:Option Addr) (k cap:Nat),e=Ending.returned (.tuple #[.slice a k cap,.bool (leafB c d c.parts.length x)])∧(leafB c d c.parts.length x=true→k=(leafIds c d x).length∧Ints w' a (leafIds c d x)∧(leafIds c d x).length≤cap)∧Below w2.heap.size w2 w'∧(leafB c d c.parts.length x=false→k=0))))
   have HWL:=zh (walkM_leaf (c:=c) (n:=c.parts.length) (k:=k) (d:=d) (l:=l) hk1);clear hlf hk1
   go_wp2_with (first
    |(refine wpList_load_box rfl 232 _ rfl rfl hL ?_)
    |(go_at_call 232;refine zM HLF ?_;rintro e w3 ⟨la,lk,lc,rfl,hi3,hb3,h03⟩;have HI3:=zh hi3;have HB3:=zh hb3;have H03:=zh h03;clear hb3 hi3 h03))
   all_goals
    have ha2:=HA2.out;simp only[*] at ha2
    go_ret3
    have hold:=HS.out.old.trans (HB3.out.mono HS.out.old.size)
    rcases hlb:leafB c d c.parts.length x with _|_
    ·obtain rfl:=H03.out hlb;exact walkRPost_no (by rw[HWL.out,hlb];rfl) hold
    ·obtain⟨rfl,hi4,hc4⟩:=HI3.out hlb;have he:evIds c [(d,x)]=leafIds c d x:=by simp[evIds]
     refine⟨hold,.inr ⟨l,[(d,x)],by rw[HWL.out,hlb];rfl,a2,_,la,lc,by rw[he,←ha2];rfl,HBR2.out.below hold,zO,by rw[he];exact hi4,by rw[he];exact hc4⟩⟩
def RefutedPost (c:Cs)(o:Option (List (Dec×Br)))(w:World)(e:Ending)(w':World):Prop:=
 Below w.heap.size w w'∧∃a k cap,e = .returned (.tuple #[.slice a k cap,.bool o.isSome])∧∀ev,o=some ev→k=(evIds c ev).length∧Ints w' a (evIds c ev)∧(evIds c ev).length≤cap∧(evIds c ev).length≤600000
theorem alloc_dci (w:World):∃w4,w.alloc (.cells #[.int .i64 0,.int .i64 0,.int .i64 0,.int .i64 0,.int .i64 0,.int .i64 0,.int .i64 0,.int .i64 0,.int .i64 0,.int .i64 0,.int .i64 0,.int .i64 0,.int .i64 0,.int .i64 0,.int .i64 0,.int .i64 0,.int .i64 0,.int .i64 0,.int .i64 0,.int .i64 0,.int .i64 0,.int .i64 0,.int .i64 0,.int .i64 0,.int .i64 0,.int .i64 0,.int .i64 0,.int .i64 0,.int .i64 0,.int .i64 0,.int .i64 0,.int .i64 0,.int .i64 0,.int .i64 0,.int .i64 0,.int .i64 0,.int .i64 0,.int .i64 0,.int .i64 0,.int .i64 0,.int .i64 0,.int .i64 0,.int .i64 0,.int .i64 0,.int .i64 0,.int .i64 0,.int .i64 0,.int .i64 0,.int .i64 0,.int .i64 0,.int .i64 0,.int .i64 0,.int .i64 0,.int .i64 0,.int .i64 0,.int .i64 0,.int .i64 0,.int .i64 0,.int .i64 0,.int .i64 0,.int .i64 0,.int .i64 0,.int .i64 0,.int .i64 0] 232)=w4∧Box w4 w.heap.size (dciCells fun _ _=>0) 232∧Below w.heap.size w w4:=⟨_,rfl,by rw[zero_dci];exact Box.new _ _ _,(Below.refl _ w).alloc (Nat.le_refl _) _⟩
theorem refutedB_no {c:Cs}{n:Nat}{d:Dec}{l:List Br}(h:walkM c n (l.length+1) d l=none):refutedB c n d l=none:=by simp[refutedB,h]
theorem refutedB_yes {c:Cs}{n:Nat}{d:Dec}{l:List Br}{ev:List (Dec×Br)}(h20:¬20000<l.length)(h:walkM c n (l.length+1) d l=some ([],ev)):refutedB c n d l=some ev:=by simp[refutedB,h,h20]
theorem refutedB_rest {c:Cs}{n:Nat}{d:Dec}{l r:List Br}{z:Br}{ev:List (Dec×Br)}(h:walkM c n (l.length+1) d l=some (z::r,ev)):refutedB c n d l=none:=by simp[refutedB,h]
theorem refutedR_any (c:Cs)(n:Nat)(hn:c.parts.length=n)(hn8:n≤8)(hlim:0≤c.limit∧c.limit≤40)(pa:Option Addr)(pc:Nat)(d:Dec)(l:List Br)(ra:Option Addr)(rc:Nat)(w:World)(hll:l.length≤1000000)(hs:SymD d)(hp:Supp d n)(hd:∀a b,d a b≤3)(hsm:∀z∈l,z.Small)(hrc:l.length≤rc)(hparts:PartsAt w pa c.parts)(hbr:BrsAt w ra l):
 Calls Tryz.prog 207 #[.agg #[.string c.ware,.int .i64 c.limit,.int .i64 c.by_,.slice pa c.parts.length pc],.agg (dciCells d),.slice ra l.length rc] w (RefutedPost c (refutedB c n d l) w):=by
 subst hn;obtain⟨w1,hw1⟩:=zx ((w.alloc (.cells #[.string c.ware,.int .i64 c.limit,.int .i64 c.by_,.slice pa c.parts.length pc] 24)).alloc (.cells (dciCells d) 232));have hS:WalkSt c pa pc d w w1:=by
  rw[←hw1];exact⟨(Box.new _ _ _).alloc _,Box.new' zS,by go_grown⟩
 have e1:=hS.cells;have hL:=run_dci hS.dc
 by_cases h20:20000<l.length
 ·have HR:=zh (refuted_long (c:=c) (n:=c.parts.length) (d:=d) h20);have HO:=zh hS.old;have HW:=zh hw1;clear hS hw1 hbr
  go_enter Tryz.func207,Tryz.ntmps207
  go_upto_region 1 with fail
  simp only[HW.out]
  go_wp2_with fail
  go_ret2
  rw[HR.out];exact⟨HO.out,_,_,_,rfl,fun ev h=>by cases h⟩
 ·have hwk:=walkR_any c c.parts.length rfl hn8 hlim pa pc (l.length+1) d l ra rc w1 zO zO hs hp hd hsm hrc (hparts.below hS.old) (hbr.below hS.old);have HWK:=zh hwk;have HO:=zh hS.old;have HW:=zh hw1;clear hS hw1 hbr hwk
  go_enter Tryz.func207,Tryz.ntmps207
  go_upto_region 1 with fail
  simp only[HW.out]
  go_upto_region 3 with fail
  go_upto_region 4 with (first
   |(refine wpList_load_box rfl 232 _ rfl rfl hL ?_)
   |(go_at_call 225;refine zM HWK ?_;rintro e w2 ⟨hb2,⟨hno,a1,n1,c1,a2,c2,L,rfl,hi2,hl2⟩|⟨r,ev,hyes,ra3,rc3,a3,cap3,rfl,hbr3,hrc3,hi3,hc3⟩⟩))
  ·have HE:=zh (show refutedB c c.parts.length d l=none from refutedB_no hno);have HB2:=zh hb2;clear hno hi2 hl2 hb2
   go_wp2_with fail
   go_ret2
   rw[HE.out];exact⟨HO.out.trans (HB2.out.mono HO.out.size),_,_,_,rfl,fun ev h=>by cases h⟩
  ·have HB2:=zh hb2;have HI3:=zh hi3;have HEV:=zh (walkM_ev _ _ _ hyes)
   rcases r with _|⟨z,r⟩
   ·have HE:=zh (show refutedB c c.parts.length d l=some ev from refutedB_yes h20 hyes);clear hb2 hi3 hyes hbr3
    go_wp2_with fail
    go_ret2
    rw[HE.out];refine⟨HO.out.trans (HB2.out.mono HO.out.size),_,_,_,rfl,fun ev' h=>?_⟩;cases h;have h1:=HEV.out.1;have h2:=evIds_len (c:=c) hn8 HEV.out.2;exact⟨rfl,HI3.out,hc3,by simp at h1;omega⟩
   ·have HE:=zh (show refutedB c c.parts.length d l=none from refutedB_rest hyes);have hne:(((r.length+1:Nat):Int)==0)=false:=by rw[beq_eq_false_iff_ne];omega
    clear hb2 hi3 hyes hbr3;simp only[List.length_cons] at *
    go_wp2_with fail
    go_ret2
    rw[HE.out];exact⟨HO.out.trans (HB2.out.mono HO.out.size),_,_,_,rfl,fun ev h=>by cases h⟩
theorem checkRefute_ref (c:Cs)(hsm:c.Small)(pa:Option Addr)(pc:Nat)(x y:Int)(t:Bool)(l:List Br)(hll:l.length≤1000000)(hls:∀z∈l,z.Small)(ra:Option Addr)(rc:Nat)(w:World)(hp:PartsAt w pa c.parts)(hbr:BrsAt w ra l)(hrc:l.length≤rc):
 Calls Tryz.prog 181 #[.agg #[.string c.ware,.int .i64 c.limit,.int .i64 c.by_,.slice pa c.parts.length pc],.int .i64 x,.int .i64 y,.bool t,.slice ra l.length rc] w
  (BoolPost (openErr c [x,y]) (openErr c [x,y]==0&&(refutedB c c.parts.length (beginD x.toNat y.toNat t) l).isSome) w):=by
 obtain⟨w1,hw1⟩:=zx (w.alloc (.cells #[.string c.ware,.int .i64 c.limit,.int .i64 c.by_,.slice pa c.parts.length pc] 24));have hB1:Below w.heap.size w w1:=by rw[←hw1];go_grown
 have b1:Box w1 w.heap.size (csCells c pa pc) 24:=by rw[←hw1];exact Box.new _ _ _
 have e1:=zC (b1);have hak:=asked_ref c hsm pa pc x y w1 (hp.below hB1);have HP:=zh hp;have HBR:=zh hbr;have HLS:=zh hls;have HW:=zh hw1;have HB1:=zh hB1;have HX:=zh b1;have HAK:=zh hak;clear hw1 hB1 b1 hak hp hbr hls
 by_cases hz:openErr c [x,y]=0
 ·have h8:=check_small hz;have hlim:=check_lim (open_check hz);have hx:=open_in hz x zS;have hy:=open_in hz y zS;obtain⟨a,rfl⟩:=Int.eq_ofNat_of_zero_le hx.1;obtain⟨b,rfl⟩:=Int.eq_ofNat_of_zero_le hy.1;have hal:a<c.parts.length:=by omega
  have hbl:b<c.parts.length:=by omega
  have HZ:=zh hz;rw[hz] at HAK;simp only[Int.toNat_natCast];clear hz hx hy
  go_enter Tryz.func181,Tryz.ntmps181
  go_upto_region 1 with fail
  simp only[HW.out]
  go_upto_region 5 with (go_at_call 158;refine zM HAK ?_;rintro e w3 ⟨rfl,hb3⟩;have HX:=zh (HX.out.below' hb3);have HB3:=zh (HB1.out.trans (hb3.mono HB1.out.size));clear hb3)
  obtain⟨w4,hw4,g4,hb4⟩:=alloc_dci w3;have gX:=HX.out.below' hb4;have gB:=HB3.out.trans (hb4.mono HB3.out.size);simp only[hw4];clear hw4 hb4;generalize w3.heap.size=g at *;have HX:=zh gX;have HG:=zh g4;have HB4:=zh gB;clear gX g4 gB e1 HB3;have k0:∀A,Below w4.heap.size w4 A→∀i,A.cell? ⟨w.heap.size,i,none⟩=(#[.string c.ware,.int .i64 c.limit,.int .i64 c.by_,.slice pa c.parts.length pc]:Array Value)[i]?:=fun A hA=>(HX.out.below' hA).cell
  have kd:∀A,Below w4.heap.size w4 A→(Instr.loadAt 232 (.pointer (some ⟨g,0,none⟩))).run Tryz.prog A = .ok (.agg (dciCells fun _ _=>0)) A:=fun A hA=>run_dci (HG.out.below' hA)
  have K0:=zh k0;have KD:=zh kd;clear k0 kd;refine wp_region_L (fun A=>Below w4.heap.size w4 A) 13 zK ?_;have hSS:Below w4.heap.size w4 w4.drew:=(Below.refl _ w4).drew;refine tM K0 0 hSS ?_;refine anyL_load (i:=1) 232 _ zK rfl zK zK zK zK zI (by rfl) rfl rfl KD.out hSS ?_
  try simp only[pZ]
  rcases t with _|_
  ·have hal:=hal;refine tM K0 2 hSS ?_;refine tM K0 3 hSS ?_;refine tM K0 4 hSS ?_;refine tM K0 7 hSS ?_;refine anyL_call (i:=5) (f:=209) (args:=#[.bool false]) rfl zK (by rfl) (by go_simp) (how_any false _) ?_;rintro e w5 ⟨rfl,rfl⟩;refine .inl ⟨_,rfl,.inr hSS,?_⟩
   try simp only[pZ]
   refine anyL_call (i:=6) (f:=208) (args:=#[.agg (dciCells fun _ _=>0),.int .i64 (a:Int),.int .i64 (b:Int),.int .i64 2]) rfl zK (by rfl) ?_ (withR_any _ zero_sym a b 2 _ zO zO zero_le3 zO) ?_
   ·go_simp
   rintro e w6 ⟨rfl,hb6⟩;have hb7:Below w4.heap.size w4 w6:=hSS.trans hb6;refine .inl ⟨_,rfl,.inr hb7,?_⟩
   try simp only[pZ]
   have hold6:Below w.heap.size w w6:=HB4.out.trans (hb7.mono HB4.out.size);refine anyL_call (i:=8) (f:=207) (args:=#[.agg #[.string c.ware,.int .i64 c.limit,.int .i64 c.by_,.slice pa c.parts.length pc],.agg (dciCells (decWith (fun _ _=>0) a b 2)),.slice ra l.length rc]) rfl zK (by rfl) ?_ (refutedR_any c c.parts.length rfl h8 hlim pa pc (decWith (fun _ _=>0) a b 2) l ra rc w6 hll (decWith_sym zero_sym _ _ _) (supp_with (zero_supp _) zero_sym hal hbl) (decWith_le zero_le3 zO) HLS.out hrc (HP.out.below hold6) (HBR.out.below hold6)) ?_
   ·go_simp
   rintro e w7 ⟨hb8,qa,qk,qc,rfl,hev⟩;have hb9:Below w4.heap.size w4 w7:=hb7.trans (hb8.mono hb7.size);refine .inl ⟨_,rfl,.inr hb9,?_⟩
   try simp only[pZ]
   have hSS:=hb9;refine anyL_run (i:=9) (v:=?_) (w':=w7) rfl zK (by rfl) (by(go_simp;try with_reducible rfl)) (.inr hb9) ?_
   try simp only[pZ]
   refine tM K0 10 hSS ?_;refine tM K0 11 hSS ?_;refine anyL_run (i:=12) (v:=?_) (w':=w7) rfl zK (by rfl) (by(go_simp;try with_reducible rfl)) (.inr hb9) ?_
   try simp only[pZ]
   refine anyL_run (i:=13) (v:=?_) (w':=w7) rfl zK (by rfl) (by(go_simp;try with_reducible rfl)) (.inl rfl) ?_
   try simp only[pZ]
   refine anyL_done zK ?_ _;have HEND:=zh (HB4.out.trans (hb9.mono HB4.out.size));have HBD:=zh (show(refutedB c c.parts.length (decWith (fun _ _=>0) a b 2) l).isSome=(refutedB c c.parts.length (beginD a b false) l).isSome from rfl);clear hb6 hb7 hb8 hb9 hold6 hSS hev K0 KD;rw[HBD.out];generalize (refutedB c c.parts.length (beginD a b false) l).isSome=res at *
   go_wp2_with fail
   go_ret2
   exact⟨HEND.out,by rw[HZ.out];rfl⟩
  ·have hal:=hal;refine tM K0 2 hSS ?_;refine tM K0 3 hSS ?_;refine tM K0 4 hSS ?_;refine tM K0 7 hSS ?_;refine anyL_call (i:=5) (f:=209) (args:=#[.bool true]) rfl zK (by rfl) (by go_simp) (how_any true _) ?_;rintro e w5 ⟨rfl,rfl⟩;refine .inl ⟨_,rfl,.inr hSS,?_⟩
   try simp only[pZ]
   refine anyL_call (i:=6) (f:=208) (args:=#[.agg (dciCells fun _ _=>0),.int .i64 (a:Int),.int .i64 (b:Int),.int .i64 1]) rfl zK (by rfl) ?_ (withR_any _ zero_sym a b 1 _ zO zO zero_le3 zO) ?_
   ·go_simp
   rintro e w6 ⟨rfl,hb6⟩;have hb7:Below w4.heap.size w4 w6:=hSS.trans hb6;refine .inl ⟨_,rfl,.inr hb7,?_⟩
   try simp only[pZ]
   have hold6:Below w.heap.size w w6:=HB4.out.trans (hb7.mono HB4.out.size);refine anyL_call (i:=8) (f:=207) (args:=#[.agg #[.string c.ware,.int .i64 c.limit,.int .i64 c.by_,.slice pa c.parts.length pc],.agg (dciCells (decWith (fun _ _=>0) a b 1)),.slice ra l.length rc]) rfl zK (by rfl) ?_ (refutedR_any c c.parts.length rfl h8 hlim pa pc (decWith (fun _ _=>0) a b 1) l ra rc w6 hll (decWith_sym zero_sym _ _ _) (supp_with (zero_supp _) zero_sym hal hbl) (decWith_le zero_le3 zO) HLS.out hrc (HP.out.below hold6) (HBR.out.below hold6)) ?_
   ·go_simp
   rintro e w7 ⟨hb8,qa,qk,qc,rfl,hev⟩;have hb9:Below w4.heap.size w4 w7:=hb7.trans (hb8.mono hb7.size);refine .inl ⟨_,rfl,.inr hb9,?_⟩
   try simp only[pZ]
   have hSS:=hb9;refine anyL_run (i:=9) (v:=?_) (w':=w7) rfl zK (by rfl) (by(go_simp;try with_reducible rfl)) (.inr hb9) ?_
   try simp only[pZ]
   refine tM K0 10 hSS ?_;refine tM K0 11 hSS ?_;refine anyL_run (i:=12) (v:=?_) (w':=w7) rfl zK (by rfl) (by(go_simp;try with_reducible rfl)) (.inr hb9) ?_
   try simp only[pZ]
   refine anyL_run (i:=13) (v:=?_) (w':=w7) rfl zK (by rfl) (by(go_simp;try with_reducible rfl)) (.inl rfl) ?_
   try simp only[pZ]
   refine anyL_done zK ?_ _;have HEND:=zh (HB4.out.trans (hb9.mono HB4.out.size));have HBD:=zh (show(refutedB c c.parts.length (decWith (fun _ _=>0) a b 1) l).isSome=(refutedB c c.parts.length (beginD a b true) l).isSome from rfl);clear hb6 hb7 hb8 hb9 hold6 hSS hev K0 KD;rw[HBD.out];generalize (refutedB c c.parts.length (beginD a b true) l).isSome=res at *
   go_wp2_with fail
   go_ret2
   exact⟨HEND.out,by rw[HZ.out];rfl⟩
 ·have HZ:=zh hz;have hzz:(openErr c [x,y] != 0)=true:=by simpa using hz
  have hzf:(openErr c [x,y]==0)=false:=by simpa using hz
  clear hz
  go_enter Tryz.func181,Tryz.ntmps181
  go_upto_region 1 with fail
  simp only[HW.out]
  go_wp2_with (go_at_call 158;refine zM HAK ?_;rintro e w3 ⟨rfl,hb3⟩;have HB3:=zh (HB1.out.trans (hb3.mono HB1.out.size));clear hb3)
  go_ret2
  exact⟨HB3.out,by rw[hzf];rfl⟩
theorem checkNone_ref (c:Cs)(hsm:c.Small)(pa:Option Addr)(pc:Nat)(l:List Br)(hll:l.length≤1000000)(hls:∀z∈l,z.Small)(ra:Option Addr)(rc:Nat)(w:World)(hp:PartsAt w pa c.parts)(hbr:BrsAt w ra l)(hrc:l.length≤rc):
 Calls Tryz.prog 180 #[.agg #[.string c.ware,.int .i64 c.limit,.int .i64 c.by_,.slice pa c.parts.length pc],.slice ra l.length rc] w
  (BoolPost (openErr c []) (openErr c []==0&&(refutedB c c.parts.length (fun _ _=>0) l).isSome) w):=by
 obtain⟨w1,hw1⟩:=zx (w.alloc (.cells #[.string c.ware,.int .i64 c.limit,.int .i64 c.by_,.slice pa c.parts.length pc] 24));have hB1:Below w.heap.size w w1:=by rw[←hw1];go_grown
 have b1:Box w1 w.heap.size (csCells c pa pc) 24:=by rw[←hw1];exact Box.new _ _ _
 have e1:=zC (b1);have heq:openErr c []=checkCase c:=by unfold openErr;split<;>simp[*]
 have hck:=checkCase_ref c hsm pa pc w1 (hp.below hB1);rw[heq];have HP:=zh hp;have HBR:=zh hbr;have HLS:=zh hls;have HW:=zh hw1;have HB1:=zh hB1;have HX:=zh b1;have HCK:=zh hck
 by_cases hz:checkCase c=0
 ·have h8:=check_small (heq.trans hz);have hlim:=check_lim hz;have HZ:=zh hz;rw[hz] at HCK;clear hw1 hB1 b1 hck hp hbr hls hz heq
  go_enter Tryz.func180,Tryz.ntmps180
  go_upto_region 1 with fail
  simp only[HW.out]
  go_upto_region 5 with (go_at_call 143;refine zM HCK ?_;rintro e w3 ⟨rfl,hb3⟩;have HX:=zh (HX.out.below' hb3);have HB3:=zh (HB1.out.trans (hb3.mono HB1.out.size));clear hb3)
  obtain⟨w4,hw4,g4,hb4⟩:=alloc_dci w3;have gX:=HX.out.below' hb4;have gB:=HB3.out.trans (hb4.mono HB3.out.size);simp only[hw4];clear hw4 hb4;generalize w3.heap.size=g at *;have hL:=run_dci g4;have HB4:=zh gB;have e4:=zC (gX);have HRF:=zh (refutedR_any c c.parts.length rfl h8 hlim pa pc (fun _ _=>0) l ra rc w4 hll zero_sym (zero_supp _) zero_le3 HLS.out hrc (HP.out.below gB) (HBR.out.below gB));clear gX gB g4 e1 HB3
  go_wp2_with (first
   |(refine wpList_load_box rfl 232 _ rfl rfl hL ?_)
   |(go_at_call 207;refine zM HRF ?_;rintro e w7 ⟨hb8,qa,qk,qc,rfl,hev⟩;have HEND:=zh (HB4.out.trans (hb8.mono HB4.out.size));clear hb8 hev))
  go_ret2
  exact⟨HEND.out,by rw[HZ.out];rfl⟩
 ·have HZ:=zh hz;have hzz:(checkCase c != 0)=true:=by simpa using hz
  have hzf:(checkCase c==0)=false:=by simpa using hz
  clear hw1 hB1 b1 hck hp hbr hls hz heq
  go_enter Tryz.func180,Tryz.ntmps180
  go_upto_region 1 with fail
  simp only[HW.out]
  go_wp2_with (go_at_call 143;refine zM HCK ?_;rintro e w3 ⟨rfl,hb3⟩;have HB3:=zh (HB1.out.trans (hb3.mono HB1.out.size));clear hb3)
  go_ret2
  exact⟨HB3.out,by rw[hzf];rfl⟩
theorem verdictR9_any {c:Cs}{l:List Prb}(hsm:c.Small)(hz:probesErr c l=0)(pa:Option Addr)(pc:Nat)(qa:Option Addr)(qc:Nat){a b:Nat}(ha:a<c.parts.length)(hb_:b<c.parts.length)(sa:Option Addr)(s:List Nat)(sc:Nat)(fa:Option Addr)(fs:List Nat)(fc:Nat)(hs:∀v∈s,v<l.length)(hff:FoundFor c l s fs)(hsl:s.length≤1000)(n:Nat)(ra:Option Addr)(pf:List Br)(rc:Nat)(hll:pf.length≤1000000)(hls:∀z∈pf,z.Small)(hrc:pf.length≤rc)(w:World)(hp:PartsAt w pa c.parts)(hq:PrbsAt w qa l)(hS:Ints w sa (natInts s))(hF:Ints w fa (natInts fs))(hbr:BrsAt w ra pf):
 Calls Tryz.prog 118 #[.agg #[.string c.ware,.int .i64 c.limit,.int .i64 c.by_,.slice pa c.parts.length pc],.slice qa l.length qc,.int .i64 (a:Int),.int .i64 (b:Int),.slice sa s.length sc,.agg #[.slice fa fs.length fc,.int .u8 (n:Int),.slice ra pf.length rc]] w fun e w'=>e = .returned (.bool (provedB c l a b s fs n pf))∧Below w.heap.size w w':=by
 obtain⟨w1,hw1⟩:=zx ((w.alloc (.cells #[.string c.ware,.int .i64 c.limit,.int .i64 c.by_,.slice pa c.parts.length pc] 24)).alloc (.cells #[.slice fa fs.length fc,.int .u8 (n:Int),.slice ra pf.length rc] 102));have hB1:Below w.heap.size w w1:=by rw[←hw1];go_grown
 have b1:Box w1 w.heap.size (csCells c pa pc) 24:=by rw[←hw1];exact(Box.new _ _ _).alloc _
 have b0:Box w1 (w.heap.size+1) #[.slice fa fs.length fc,.int .u8 (n:Int),.slice ra pf.length rc] 102:=by rw[←hw1];exact Box.new' zS
 have e1:=zC (b1);have e0:∀i,w1.cell? ⟨w.heap.size+1,i,none⟩=(#[.slice fa fs.length fc,.int .u8 (n:Int),.slice ra pf.length rc]:Array Value)[i]?:=b0.cell;have HA:=zh (afterR9_any hsm hz pa pc qa qc sa s sc fa fs fc hs hff hsl w1 (hp.below hB1) (hq.below hB1) (hS.below hB1) (hF.below hB1));have HOK:=zh (fun d (h:afterC c l s fs=some d)=>after_ok hz h);have HBR:=zh (hbr.below hB1);have HW:=zh hw1;have HB1:=zh hB1;have HZ:=zh b0;clear hw1 hB1 b1 b0 hp hq hS hF hz hs hff hsl hsm hbr
 go_enter Tryz.func118,Tryz.ntmps118
 go_upto_region 1 with fail
 simp only[HW.out]
 go_wp2_with fail
 refine zM HA ?_;rintro e w2 ⟨hb2,cs,bb,rfl,(⟨h1,rfl,rfl⟩|⟨d,ba,bc,h1,rfl,rfl,hpd⟩)⟩
 ·have HB2:=zh (HB1.out.trans (hb2.mono HB1.out.size));have HR:=zh (show provedB c l a b s fs n pf=(n==0&&pf.length==0) by unfold provedB;rw[h1]);have hal:Below w2.heap.size w2 (w2.alloc (.cells #[.string ⟨#[]⟩,.int .i64 0,.int .i64 0,.slice none 0 0] 24)):=by go_grown
  have HB3:=zh (HB2.out.trans (hal.mono HB2.out.size));have hz3:=(HZ.out.below' hb2).below' hal;clear hal
  go_upto_region 2 with fail
  generalize w2.alloc (.cells #[.string ⟨#[]⟩,.int .i64 0,.int .i64 0,.slice none 0 0] 24)=w3 at *;clear e0 e1 h1 hb2;have e0:∀i,w3.cell? ⟨w.heap.size+1,i,none⟩=(#[.slice fa fs.length fc,.int .u8 (n:Int),.slice ra pf.length rc]:Array Value)[i]?:=hz3.cell;clear hz3
  by_cases hn:n=0
  ·subst hn
   go_wp2_with fail
   go_ret
   refine⟨?_,HB3.out⟩;rw[HR.out]
   first|rfl|(rcases pf with _|⟨z,pf⟩<;>simp<;>omega)
  ·have hnb:((n:Int)==0)=false:=beq_eq_false_iff_ne.2 zO;have HN:=zh hn;clear hn
   go_wp2_with fail
   go_ret
   refine⟨?_,HB3.out⟩;rw[HR.out];have:=HN.out
   first|rfl|simp[this]
 ·have ok:=HOK.out d h1;have hl:=ok.len;have hsd:=small_of ok.chk;obtain⟨w4,hw4⟩:=zx (w2.alloc (.cells #[.string d.ware,.int .i64 d.limit,.int .i64 d.by_,.slice ba d.parts.length bc] 24));have hb4:Below w2.heap.size w2 w4:=by rw[←hw4];go_grown
  have x4:Box w4 w2.heap.size (csCells d ba bc) 24:=by rw[←hw4];exact Box.new _ _ _
  have hb24:=hb2.trans (hb4.mono hb2.size);have HB4:=zh (HB1.out.trans (hb24.mono HB1.out.size));have hpd4:=hpd.at_.below hb4;have hbr4:=HBR.out.below hb24;have hz4:=HZ.out.below' hb24;have HCN:=zh (checkNone_ref d hsd ba bc pf hll hls ra rc w4 hpd4 hbr4 hrc);rw[open_none ok.chk] at HCN;have HCR:=zh (fun t=>checkRefute_ref d hsd ba bc (a:Int) (b:Int) t pf hll hls ra rc w4 hpd4 hbr4 hrc);rw[open_two ok.chk zO zO,Int.toNat_natCast,Int.toNat_natCast] at HCR;simp only[beq_self_eq_true,Bool.true_and] at HCN HCR;have HR0:=zh (fun(h:n=0)=>show provedB c l a b s fs n pf=(refutedB d d.parts.length (fun _ _=>0) pf).isSome by unfold provedB;simp only[h1];rw[if_pos h])
  have HR1:=zh (fun(h:n=1)=>show provedB c l a b s fs n pf=(refutedB d d.parts.length (beginD a b false) pf).isSome by unfold provedB;simp only[h1];rw[if_neg zO,if_pos zO];subst h;rfl);have HR2:=zh (fun(h:n=2)=>show provedB c l a b s fs n pf=(refutedB d d.parts.length (beginD a b true) pf).isSome by unfold provedB;simp only[h1];rw[if_neg zO,if_pos zO];subst h;rfl);have HR3:=zh (fun(h:n≠0∧n≠1∧n≠2)=>show provedB c l a b s fs n pf=false by unfold provedB;simp only[h1];rw[if_neg zO,if_neg zO]);have HW4:=zh hw4;have e5:∀i,w4.cell? ⟨w2.heap.size,i,none⟩=(#[.string d.ware,.int .i64 d.limit,.int .i64 d.by_,.slice ba d.parts.length bc]:Array Value)[i]?:=x4.cell;have e7:∀i,w4.cell? ⟨w.heap.size+1,i,none⟩=(#[.slice fa fs.length fc,.int .u8 (n:Int),.slice ra pf.length rc]:Array Value)[i]?:=hz4.cell
  clear hw4 hb4 x4 hb24 hpd4 hbr4 hz4 e0 e1 ok hl hsd h1 hpd hb2 HA HOK ha hb_ hll hls hrc HBR HZ;generalize (refutedB d d.parts.length (fun _ _=>0) pf).isSome=r0 at *
  go_upto_region 4 with fail
  simp only[HW4.out]
  by_cases hn0:n=0
  ·have HR:=zh (HR0.out hn0);subst hn0;clear HR0 HR1 HR2 HR3
   go_wp2_with fail
   refine zM HCN ?_;rintro e w6 ⟨hb6,rfl⟩;have HB6:=zh (HB4.out.trans (hb6.mono HB4.out.size));clear hb6 e5 e7
   rcases r0 with _|_
   ·go_wp2_with fail
    go_ret
    exact⟨by rw[HR.out];rfl,HB6.out⟩
   ·go_wp2_with fail
    go_ret
    exact⟨by rw[HR.out];rfl,HB6.out⟩
  have hb0:((n:Int)==0)=false:=beq_eq_false_iff_ne.2 zO
  by_cases hn1:n=1
  ·have HR:=zh (HR1.out hn1);have HC:=zh (HCR.out false);generalize (refutedB d d.parts.length (beginD a b false) pf).isSome=r1 at *;subst hn1;clear HR0 HR1 HR2 HR3 hn0
   go_wp2_with fail
   refine zM HC ?_;rintro e w6 ⟨hb6,rfl⟩;have HB6:=zh (HB4.out.trans (hb6.mono HB4.out.size));clear hb6 e5 e7
   rcases r1 with _|_
   ·go_wp2_with fail
    go_ret
    exact⟨by rw[HR.out];rfl,HB6.out⟩
   ·go_wp2_with fail
    go_ret
    exact⟨by rw[HR.out];rfl,HB6.out⟩
  have hb1:((n:Int)==1)=false:=beq_eq_false_iff_ne.2 zO
  by_cases hn2:n=2
  ·have HR:=zh (HR2.out hn2);have HC:=zh (HCR.out true);generalize (refutedB d d.parts.length (beginD a b true) pf).isSome=r2 at *;subst hn2;clear HR0 HR1 HR2 HR3 hn0 hn1
   go_wp2_with fail
   refine zM HC ?_;rintro e w6 ⟨hb6,rfl⟩;have HB6:=zh (HB4.out.trans (hb6.mono HB4.out.size));clear hb6 e5 e7
   rcases r2 with _|_
   ·go_wp2_with fail
    go_ret
    exact⟨by rw[HR.out];rfl,HB6.out⟩
   ·go_wp2_with fail
    go_ret
    exact⟨by rw[HR.out];rfl,HB6.out⟩
  ·have hb2:((n:Int)==2)=false:=beq_eq_false_iff_ne.2 zO;have HR:=zh (HR3.out ⟨hn0,hn1,hn2⟩);clear HR0 HR1 HR2 HR3 hn0 hn1 hn2
   go_wp2_with fail
   go_ret
   exact⟨by rw[HR.out];rfl,HB4.out⟩
theorem verGo_len {c:Cs}{l:List Prb}{a b:Nat}{s:List Nat}:∀{L:List (List Nat)} {vs:List Ver},verGo c l a b s L vs=true→vs.length=L.length
 |[],[],_=>rfl
 |[],v::vs,h=>by simp[verGo] at h
 |x::L,[],h=>by simp[verGo] at h
 |x::L,v::vs,h=>by
  simp only[verGo,Bool.and_eq_true] at h
  simp[verGo_len h.2]
theorem verGo_at {c:Cs}{l:List Prb}{a b:Nat}{s:List Nat}{L:List (List Nat)}{vs:List Ver}{k:Nat}{x:List Nat}{v:Ver}(hx:L[k]?=some x)(hv:vs[k]?=some v):verGo c l a b s (L.drop k) (vs.drop k)=(decide (v.found=natInts x)&&provedB c l a b s x v.ans v.proof&&verGo c l a b s (L.drop (k+1)) (vs.drop (k+1))):=by
 obtain⟨h1,h2⟩:=List.getElem?_eq_some_iff.1 hx;obtain⟨h3,h4⟩:=List.getElem?_eq_some_iff.1 hv;rw[List.drop_eq_getElem_cons h1,List.drop_eq_getElem_cons h3,h2,h4,verGo]
theorem checkVersXR9_any (c:Cs)(hsm:c.Small)(pa:Option Addr)(pc:Nat)(l:List Prb)(qa:Option Addr)(qc:Nat)(a:Int)(b:Int)(sa:Option Addr)(S:List Int)(sc:Nat)(va:Option Addr)(vs:List Ver)(vc:Nat)(hvs:∀v∈vs,v.Small)(hvl:vs.length≤1000000)(w:World)(hp:PartsAt w pa c.parts)(hq:PrbsAt w qa l)(hSl:S.length≤1000)(hS:Ints w sa S)(hv:VersAt w va vs):
 Calls Tryz.prog 40 #[.agg #[.string c.ware,.int .i64 c.limit,.int .i64 c.by_,.slice pa c.parts.length pc],.slice qa l.length qc,.int .i64 a,.int .i64 b,.slice sa S.length sc,.slice va vs.length vc] w (XPost (xErr c l (twoB c.parts.length a b&&setB l.length S)) (.bool false) (BoolOut (checkVersB c l a.toNat b.toNat (nats S) vs)) w):=by
 obtain⟨w1,hw1⟩:=zx (w.alloc (.cells #[.string c.ware,.int .i64 c.limit,.int .i64 c.by_,.slice pa c.parts.length pc] 24));have hB1:Below w.heap.size w w1:=by rw[←hw1];go_grown
 have b1:Box w1 w.heap.size (csCells c pa pc) 24:=by rw[←hw1];exact Box.new _ _ _
 have e1:=zC (b1);have HAS:=zh (askedPairR9_any c hsm pa pc l qa qc a b sa S sc zO w1 (hp.below hB1) (hq.below hB1) (hS.below hB1));have HW:=zh hw1;have HX:=zh b1;have HB:=zh hB1;have HP:=zh (fun W (h:Below w.heap.size w W)=>hp.below h);have HQ:=zh (fun W (h:Below w.heap.size w W)=>hq.below h);have HS:=zh (fun W (h:Below w.heap.size w W)=>hS.below h);have HV:=zh (fun W (h:Below w.heap.size w W)=>hv.below h);clear hw1 b1 hB1 hp hq hS hv;have HXS:=zh (fun h=>xErr_set (c:=c) (l:=l) (ok:=twoB c.parts.length a b&&setB l.length S) h);obtain⟨ok,hok⟩:=zx ((twoB c.parts.length a b&&setB l.length S));have HOK:=zh hok;rw[hok] at HXS HAS ⊢;clear hok;obtain⟨er,her⟩:=zx (xErr c l ok);rw[her] at HAS HXS ⊢;clear her;obtain⟨R,hR⟩:=zx (checkVersB c l a.toNat b.toNat (nats S) vs);have HR:=zh hR;rw[hR];clear hR
 go_enter Tryz.func40,Tryz.ntmps40
 go_upto_region 1 with fail
 simp only[HW.out]
 go_wp2_with fail
 refine zM HAS ?_;rintro e w2 ⟨rfl,hb2⟩;have HX:=zh (HX.out.below' hb2);have HB:=zh (HB.out.trans (hb2.mono HB.out.size));clear hb2 e1 HAS HW
 by_cases hz:er=0
 ·obtain⟨z1,z2,_⟩:=HXS.out hz;subst hz;have z2':=HOK.out;rw[z2,Bool.and_eq_true] at z2';obtain⟨zt,zs⟩:=z2';obtain⟨A,B,rfl,rfl,hA,hBn⟩:=two_nats zt;obtain⟨f1,f2⟩:=set_nats zs;have hl5:=(probes_ok z1).2.1;have hsl:=set_len zs;have hl1:(nats S).length=S.length:=by simp[nats]
  rw[Int.toNat_natCast,Int.toNat_natCast] at HR;have HOU:=zh (show Calls Tryz.prog 111 #[.agg #[.string c.ware,.int .i64 c.limit,.int .i64 c.by_,.slice pa c.parts.length pc],.slice qa l.length qc,.slice sa S.length sc,.slice none 0 0] w2 _ by
   have h:=outs_ref z1 (nats S) f2 zO pa pc qa qc sa sc w2 (HP.out _ HB.out) (HQ.out _ HB.out) (by rw[←f1];exact HS.out _ HB.out)
   rwa [hl1] at h)
  have hLL:=outs_len z1 (s:=nats S) zO (c:=c);have HVD:=zh (fun(x:List Nat) (hx:x∈outsOf (cntsOf c l (nats S))) (v:Ver) (hv:v∈vs) (hfx:v.found=natInts x) fa fc ra rc W (h:Below w.heap.size w W) (hF:Ints W fa v.found) (hbr:BrsAt W ra v.proof) (hrc:v.proof.length≤rc)=>show Calls Tryz.prog 118 #[.agg #[.string c.ware,.int .i64 c.limit,.int .i64 c.by_,.slice pa c.parts.length pc],.slice qa l.length qc,.int .i64 (A:Int),.int .i64 (B:Int),.slice sa S.length sc,.agg #[.slice fa v.found.length fc,.int .u8 (v.ans:Int),.slice ra v.proof.length rc]] W (fun e w'=>e = .returned (.bool (provedB c l A B (nats S) x v.ans v.proof))∧Below W.heap.size W w') by
   have h:=verdictR9_any hsm z1 pa pc qa qc hA hBn sa (nats S) sc fa x fc f2 ((mem_outs f2).1 hx) zO v.ans ra v.proof rc (hvs v hv).2.2.1 (hvs v hv).2.2.2 hrc W (HP.out _ h) (HQ.out _ h) (by rw[←f1];exact HS.out _ h) (by rw[←hfx];exact hF) hbr;rw[hl1] at h;have hfl:v.found.length=x.length:=by rw[hfx,nat_len]
   rw[hfl];exact h)
  have HSZ:=zh (fun v (hv:v∈vs)=>(hvs v hv).2.1);have HXL:=zh (fun(x:List Nat) (hx:x∈outsOf (cntsOf c l (nats S)))=>show x.length≤1000 by have:=((mem_outs f2).1 hx).1;omega);have e1:=zC (HX.out);have HR:=zh (show verGo c l A B (nats S) (outsOf (cntsOf c l (nats S))) vs=R from HR.out);obtain⟨L,hL⟩:=zx (outsOf (cntsOf c l (nats S)));rw[hL] at HOU HVD HXL HR hLL;clear hL z1 z2 zt zs hA hBn f1 f2 hl5 hsl hl1 HXS HOK HP HQ HS hvs hsm;generalize nats S=s at *
  go_wp2_with fail
  refine zM HOU ?_;rintro e w3 ⟨la,lc,rfl,hr,hb3⟩;have HB3:=zh (HB.out.trans (hb3.mono HB.out.size));have HX3:=zh (HX.out.below' hb3);have HL3:=zh hr;have HV3:=zh (HV.out w3 HB3.out);clear hb3 hr e1 HOU HX HV
  by_cases hlen:vs.length=L.length
  ·have HLE:=zh hlen;have hlb:((vs.length:Int) != (L.length:Int))=false:=by simp[hlen]
   have hvn:vs.length=L.length:=hlen;clear hlen hvn
   go_wp2_with fail
   go_loopw [16] (fun iv wr=>∃k:Nat,k≤vs.length∧iv = .int .i64 k∧verGo c l A B s (L.drop k) (vs.drop k)=R∧Below w3.heap.size w3 wr) (fun iv _=>vs.length-(intOf iv).toNat)
   case atStart=>exact⟨0,Nat.zero_le _,rfl,HR.out,Below.refl _ _⟩
   case round=>
    obtain⟨k,hk,rfl,hall,hbw⟩:=hrel;have HBW:=zh hbw;have HAL:=zh hall;clear hall hbw
    by_cases hlt:k<vs.length
    ·obtain⟨v,hv⟩:=get_of_lt vs hlt;obtain⟨x,hx⟩:=get_of_lt L (k:=k) (by have:=HLE.out;omega);have hkl:(k:Int)<(vs.length:Int):=by omega
     have hkL:(k:Int)<(L.length:Int):=by have:=HLE.out;omega
     go_upto_region 10 with fail
     have hbd:Below wr.heap.size wr wr.drew:=(Below.refl _ wr).drew;have hb6:=HBW.out.trans (hbd.mono HBW.out.size);have hbw6:=HB3.out.trans (hb6.mono HB3.out.size);obtain⟨b1,o1,fa,fc,ra,rc,hva,d1,d2,d3,hif,hbr,hrc⟩:=(HV3.out.below hb6) k v hv;obtain⟨b2,o2,xa,xc,hla,d4,hix,_⟩:=(HL3.out.below hb6) k x hx;subst hva;subst hla;have HSM:=zh (same_ref fa xa fc xc v.found (natInts x) wr.drew hif hix (by have:=HSZ.out v (List.mem_of_getElem? hv);omega) (by rw[nat_len];have:=HXL.out x (List.mem_of_getElem? hx);omega));rw[nat_len] at HSM;have HVV:=zh (fun(hfx:v.found=natInts x) W (hW:Below wr.drew.heap.size wr.drew W)=>HVD.out x (List.mem_of_getElem? hx) v (List.mem_of_getElem? hv) hfx fa fc ra rc W (hbw6.trans (hW.mono hbw6.size)) (hif.below hW) (hbr.below hW) hrc);have HVG:=zh (verGo_at (c:=c) (l:=l) (a:=A) (b:=B) (s:=s) hx hv)
     have hx3:=HX3.out.below' hb6;have K0:Hid (∀A,Below wr.drew.heap.size wr.drew A→cC A (w.heap.size) c pa pc∧A.cell? ⟨b1,o1+k*3,none⟩=some (.slice fa v.found.length fc)∧A.cell? ⟨b1,o1+k*3+1,none⟩=some (.int .u8 v.ans)∧A.cell? ⟨b1,o1+k*3+2,none⟩=some (.slice ra v.proof.length rc)∧A.cell? ⟨b2,o2+k,none⟩=some (.slice xa x.length xc)):=
      zh fun A hA=>⟨(hx3.below' hA).cell,below_cell hA d1,below_cell hA d2,below_cell hA d3,below_cell hA d4⟩
     have HB6:=zh hb6;refine wp_region_L (fun A=>Below wr.drew.heap.size wr.drew A) 24 zK ?_;have hSS:Below wr.drew.heap.size wr.drew wr.drew:=Below.refl _ _;clear hbd hb6 hbw6 d1 d2 d3 d4 hif hix hbr hrc hx hv hx3 HBW;generalize wr.drew=w6 at *;refine tM K0 0 hSS ?_;refine tM K0 1 hSS ?_;refine tM K0 2 hSS ?_;refine tM K0 3 hSS ?_;refine tM K0 4 hSS ?_;refine tM K0 5 hSS ?_;refine tM K0 6 hSS ?_;refine tM K0 7 hSS ?_;refine tM K0 8 hSS ?_;refine anyL_call (i:=9) (f:=30) (args:=#[.slice fa v.found.length fc,.slice xa x.length xc]) rfl zK (by rfl) (by go_simp) HSM.out ?_;rintro e7 w7 ⟨rfl,hb7⟩;refine .inl ⟨_,rfl,.inr hb7,?_⟩
     try simp only[pZ]
     have hSS:=hb7
     by_cases hfx:v.found=natInts x
     ·have hd:decide (v.found=natInts x)=true:=decide_eq_true hfx;have HV7:=zh (HVV.out hfx w7 hb7);have HVG:=zh (show verGo c l A B s (L.drop k) (vs.drop k)=(provedB c l A B s x v.ans v.proof&&verGo c l A B s (L.drop (k+1)) (vs.drop (k+1))) by rw[HVG.out,hd,Bool.true_and]);rw[hd];clear hd hfx hb7;refine tM K0 10 hSS ?_;refine tM K0 11 hSS ?_;refine tM K0 12 hSS ?_;refine tM K0 13 hSS ?_;refine tM K0 14 hSS ?_;refine tM K0 15 hSS ?_;refine tM K0 16 hSS ?_;refine tM K0 17 hSS ?_;refine tM K0 18 hSS ?_;refine tM K0 19 hSS ?_;refine tM K0 20 hSS ?_
      refine anyL_call (i:=21) (f:=118) (args:=#[.agg #[.string c.ware,.int .i64 c.limit,.int .i64 c.by_,.slice pa c.parts.length pc],.slice qa l.length qc,.int .i64 (A:Int),.int .i64 (B:Int),.slice sa S.length sc,.agg #[.slice fa v.found.length fc,.int .u8 (v.ans:Int),.slice ra v.proof.length rc]]) rfl zK (by rfl) (by go_simp) HV7.out ?_;rintro e8 w8 ⟨rfl,hb8⟩;have hSS:=hSS.trans (hb8.mono hSS.size);refine .inl ⟨_,rfl,.inr hSS,?_⟩
      try simp only[pZ]
      clear hb8
      rcases hpv:provedB c l A B s x v.ans v.proof with _|_
      ·have HRF:=zh (show R=false by rw[←HAL.out,HVG.out,hpv];rfl);clear hpv;refine tM K0 22 hSS ?_;refine tM K0 23 hSS ?_;refine anyL_done zK ?_ _;have HB9:=zh (HB6.out.trans (hSS.mono HB6.out.size));clear hSS K0
       go_wp2_with fail
       go_ret2
       exact⟨(HB3.out.trans (HB9.out.mono HB3.out.size)),_,_,rfl,.inr ⟨rfl,rfl,by rw[HRF.out];rfl⟩⟩
      ·have HRN:=zh (show verGo c l A B s (L.drop (k+1)) (vs.drop (k+1))=R by rw[←HAL.out,HVG.out,hpv];rfl);clear hpv;refine tM K0 22 hSS ?_;refine tM K0 23 hSS ?_;refine anyL_done zK ?_ _;have HB9:=zh (HB6.out.trans (hSS.mono HB6.out.size));clear hSS K0
       go_wp2_with fail
       go_roundw
       case rel=>exact⟨k+1,zO,zN,HRN.out,HB9.out⟩
       case measure=>exact zJ
     ·have hd:decide (v.found=natInts x)=false:=decide_eq_false hfx;have HRF:=zh (show R=false by rw[←HAL.out,HVG.out,hd];rfl);rw[hd];clear hd hfx hb7;refine tM K0 10 hSS ?_;refine tM K0 11 hSS ?_;refine tN 12 hSS ?_;refine tN 13 hSS ?_;refine tN 14 hSS ?_;refine tN 15 hSS ?_;refine tN 16 hSS ?_;refine tN 17 hSS ?_;refine tN 18 hSS ?_;refine tN 19 hSS ?_;refine tN 20 hSS ?_;refine tN 21 hSS ?_;refine tN 22 hSS ?_;refine tM K0 23 hSS ?_;refine anyL_done zK ?_ _;have HB9:=zh (HB6.out.trans (hSS.mono HB6.out.size));clear hSS K0
      go_wp2_with fail
      go_ret2
      exact⟨(HB3.out.trans (HB9.out.mono HB3.out.size)),_,_,rfl,.inr ⟨rfl,rfl,by rw[HRF.out];rfl⟩⟩
    ·have hke:k=vs.length:=by omega
     have HRT:=zh (show R=true by
      rw[←HAL.out,hke,List.drop_of_length_le (Nat.le_refl _),List.drop_of_length_le (by have:=HLE.out;omega)];rfl)
     clear hke
     go_wp2_with fail
     go_ret2
     exact⟨HB3.out.trans (HBW.out.mono HB3.out.size),_,_,rfl,.inr ⟨rfl,rfl,by rw[HRT.out];rfl⟩⟩
  ·have hlb:((vs.length:Int) != (L.length:Int))=true:=by simp;omega
   have HRF:=zh (show R=false by
    rw[←HR.out]
    rcases h:verGo c l A B s L vs with _|_
    ·rfl
    ·exact absurd (verGo_len h) hlen)
   clear hlen
   go_wp2_with fail
   go_ret2
   exact⟨HB3.out,_,_,rfl,.inr ⟨rfl,rfl,by rw[HRF.out];rfl⟩⟩
 ·have hzb:(er != 0)=true:=by simpa using hz
  have HZE:=zh hz;clear hz
  go_wp2_with fail
  go_ret2
  exact⟨HB.out,_,_,rfl,.inl ⟨HZE.out,rfl,rfl⟩⟩
end
theorem VerOk.small {v:Ver}(h:VerOk v)(h1:v.ans<256)(h2:∀z∈v.proof,z.kind<256):v.Small:=⟨h1,by have:=h.1;omega,by have:=h.2.1;omega,fun z hz=>⟨h2 z hz,by have:=h.2.2 z hz;omega⟩⟩
theorem zero_small:(⟨[],[],[],[]⟩:Opn).Small:=⟨by simp,by simp,by simp,by simp⟩
theorem zero_opn (W:World):OpnAt W ⟨[],[],[],[]⟩ (.agg #[.slice none 0 0,.slice none 0 0,.slice none 0 0,.slice none 0 0]):=⟨none,0,none,0,none,0,none,0,rfl,Ints.nil _ _,Ints.nil _ _,Ints.nil _ _,Ints.nil _ _⟩
theorem bool_tup {xe:Int}{b:Bool}{w w':World}{e:Ending}(h:XPost xe (.bool false) (BoolOut b) w e w'):e = .returned (.tuple #[.bool (xe==0&&b),.int .i64 xe])∧Below w.heap.size w w':=⟨(XPost.bool h).2,(XPost.bool h).1⟩
