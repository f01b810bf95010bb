/- Walks and plain laws. No condition. -/
import Derived.Test.YtjgldeeianionaaGreatV23
import Derived.Test.YtjgldeeianionaaGreatV34
set_option maxHeartbeats 2000000
set_option maxRecDepth 100000
set_option linter.unusedSimpArgs false
set_option linter.unusedVariables false
namespace Go.Proofs.YtjgldeeianionaaGreat
open Go.RowKit
section
attribute [local go_sem] Oper.semAt_some
theorem range_size9:(Tryz.prog.info? 164).map (·.size)=some 2:=zK
theorem stepR9_any {c:Cs}{p:Prb}{q:Prt}{i:Nat}(hi:p.part=i)(hq:c.parts[i]?=some q)(h0:0≤q.span.low)(h1:q.span.low≤q.span.high)(h2:q.span.high≤1000)(hw1:1≤p.width)(hw2:p.width≤1001)(k:Nat)(hk:k≤1001)(pa:Option Addr)(pc:Nat)(w:World)(hp:PartsAt w pa c.parts):
 Calls Tryz.prog 138 #[.agg #[.string c.ware,.int .i64 c.limit,.int .i64 c.by_,.slice pa c.parts.length pc],.agg #[.int .i64 p.id,.int .i64 p.part,.int .i64 p.width,.int .i64 p.cost],.int .i64 k] w fun e w'=>e = .returned (.agg #[.int .i64 (stepAt q.span p.width k).1,.int .i64 (stepAt q.span p.width k).2])∧Below w.heap.size w w':=by
 rw[hi];have hil:=(List.getElem?_eq_some_iff.1 hq).1;have hin:(i:Int)<(c.parts.length:Int):=by omega
 obtain⟨b,o,q',rfl,hq',hP⟩:=hp.at_ hil;rw[hq] at hq';cases hq';obtain⟨w2,hw2'⟩:∃w2,((w.alloc (.cells #[.string c.ware,.int .i64 c.limit,.int .i64 c.by_,.slice (some ⟨b,o,none⟩) c.parts.length pc] 24)).alloc (.cells #[.int .i64 p.id,.int .i64 i,.int .i64 p.width,.int .i64 p.cost] 93)).alloc (.cells #[.int .i64 0,.int .i64 0] 164)=w2:=⟨_,rfl⟩
 have hB2:Below w.heap.size w w2:=by rw[←hw2'];go_grown
 have hs2:w2.heap.size=w.heap.size+3:=by rw[←hw2'];simp
 have e0:∀j,w2.cell? ⟨w.heap.size,j,none⟩=(#[.string c.ware,.int .i64 c.limit,.int .i64 c.by_,.slice (some ⟨b,o,none⟩) c.parts.length pc]:Array Value)[j]?:=by rw[←hw2'];exact(((Box.new _ _ _).alloc _).alloc _).cell
 have b3:Box w2 (w.heap.size+1) #[.int .i64 p.id,.int .i64 i,.int .i64 p.width,.int .i64 p.cost] 93:=by rw[←hw2'];exact(Box.new' zS).alloc _
 have b5:Box w2 (w.heap.size+2) #[.int .i64 0,.int .i64 0] 164:=by rw[←hw2'];exact Box.new' zS
 have e1:=b3.cell;obtain⟨sa,sc,ra,rc,x0,x1,x2,x3,x4,x5,x6,x7,_⟩:=hP.open;have y1:=below_cell hB2 x1;have y2:=below_cell hB2 x2;have y3:=below_cell hB2 x3;have y4:=below_cell hB2 x4;have HW:=zh hw2';obtain⟨w3,hw3⟩:=zx (w2.alloc (.cells #[.int .i64 q.span.low,.int .i64 q.span.high,.int .i64 q.span.lowBy,.int .i64 q.span.highBy] 78));have hB3:Below w2.heap.size w2 w3:=by rw[←hw3];go_grown
 have b4:Box w3 w2.heap.size #[.int .i64 q.span.low,.int .i64 q.span.high,.int .i64 q.span.lowBy,.int .i64 q.span.highBy] 78:=by rw[←hw3];exact Box.new _ _ _
 rw[hs2] at b4;have e3:=(b3.below' hB3).cell;have e4:=b4.cell;have b6:=b5.below' hB3;have HB3:=zh (hB2.trans (hB3.mono hB2.size));have HW3:=zh hw3;have HR:=zh b6;obtain⟨z1,z2⟩:=b6.rules;have hm1:(k:Int)*p.width≤1001*1001:=Int.mul_le_mul zO hw2 zO zO;have hm0:0≤(k:Int)*p.width:=Int.mul_nonneg zO zO;have hm2:((k:Int)+1)*p.width=(k:Int)*p.width+p.width:=by rw[Int.add_mul,Int.one_mul]
 obtain⟨kw,hkw⟩:=zx ((k:Int)*p.width);rw[hkw] at hm1 hm0 hm2;have f1:IntKind.i64.wrap kw=kw:=IntWalk.i64_in _ zO;have f2:IntKind.i64.wrap (q.span.low+kw)=q.span.low+kw:=IntWalk.i64_in _ zO;have f3:IntKind.i64.wrap ((k:Int)+1)=(k:Int)+1:=IntWalk.i64_in _ zO;have f4:IntKind.i64.wrap (kw+p.width)=kw+p.width:=IntWalk.i64_in _ zO;have f5:IntKind.i64.wrap (q.span.low+(kw+p.width))=q.span.low+(kw+p.width):=IntWalk.i64_in _ zO;have f6:IntKind.i64.wrap (q.span.low+(kw+p.width)-1)=q.span.low+(kw+p.width)-1:=IntWalk.i64_in _ zO;have hst:stepAt q.span p.width k=(q.span.low+kw,min q.span.high (q.span.low+(kw+p.width)-1)):=by unfold stepAt;rw[hm2,hkw]
 rw[hst];clear hP hw2' x0 x1 x2 x3 x4 x5 x6 x7 hp b3 hw3 hB3 b4 hB2 hq hi b5 b6 hst
 by_cases hmin:q.span.high≤q.span.low+(kw+p.width)-1
 ·have hme:min q.span.high (q.span.low+(kw+p.width)-1)=q.span.high:=by omega
  rw[hme]
  go_enter Tryz.func138,Tryz.ntmps138
  go_upto_region 1 with fail
  simp only[HW.out]
  go_upto_region 2 with fail
  simp only[HW3.out];clear e0 e1 y1 y2 y3 y4
  go_wp2_with fail
  refine bodyPost_ret (results_cell rfl rfl (run_loadVar_row _ _ 164 164 _ (0,0) _ ((HR.out.set_ 0 _).set_ 1 _) Tryz.underlying164 rfl range_size9)) rfl ?_;exact⟨rfl,(HB3.out.setCell zT _).setCell zT _⟩
 ·have hme:min q.span.high (q.span.low+(kw+p.width)-1)=q.span.low+(kw+p.width)-1:=by omega
  rw[hme]
  go_enter Tryz.func138,Tryz.ntmps138
  go_upto_region 1 with fail
  simp only[HW.out]
  go_upto_region 2 with fail
  simp only[HW3.out];clear e0 e1 y1 y2 y3 y4
  go_wp2_with fail
  refine bodyPost_ret (results_cell rfl rfl (run_loadVar_row _ _ 164 164 _ (0,0) _ ((HR.out.set_ 0 _).set_ 1 _) Tryz.underlying164 rfl range_size9)) rfl ?_;exact⟨rfl,(HB3.out.setCell zT _).setCell zT _⟩
end
