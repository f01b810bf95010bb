/- Walks and plain laws. No condition. -/
import Derived.Test.YtjgldeeianionaaGreatV17
set_option maxHeartbeats 1000000
set_option maxRecDepth 100000
set_option linter.unusedSimpArgs false
set_option linter.unusedVariables false
namespace Go.Proofs.YtjgldeeianionaaGreat
open Go.RowKit
section
attribute [local go_sem] Oper.semAt_some
def bellPart (s l h:Int)(a b:Int):Prt:=⟨[s],⟨l,h,a,b⟩,false,0,[]⟩
def bellC:Cs:=⟨⟨#[98,101,108,108]⟩,2,20,[bellPart 101 10 20 1 2,bellPart 102 15 30 3 4,bellPart 103 25 40 5 6]⟩
def rodsL:List Prb:=[⟨31,1,12,1⟩,⟨32,1,8,5⟩,⟨33,2,8,2⟩]
theorem case_size9:(Tryz.prog.info? 24).map (·.size)=some 4:=zK
def bpCells (g:Nat)(s l h a b:Int):List Value:=[.slice (some ⟨g,0,none⟩) 1 1,.int .i64 l,.int .i64 h,.int .i64 a,.int .i64 b,.bool false,.int .i64 0,.slice none 0 0]
theorem bell_row {w:World}{g:Nat}{x:Int}{t:TypeId}(h:Box w g #[.int .i64 x] t):Ints w (some ⟨g,0,none⟩) [x]:=fun k v hv=>by
 refine⟨g,0,rfl,?_⟩;rw[h.cell,Nat.zero_add]
 simpa using hv
theorem bp_at {w:World}{B g:Nat}{cs:Array Value}{T:TypeId}(hB:Box w B cs T)(k:Nat)(s l h a b:Int)(hc:∀j,j<8→cs[k*8+j]?=(bpCells g s l h a b)[j]?)(hg:Box w g #[.int .i64 s] 3):PartAt w B (0+k*8) (bellPart s l h a b):=by
 refine⟨some ⟨g,0,none⟩,1,none,0,fun i v hv=>?_,bell_row hg,Ints.nil _ _,Nat.le_refl _,Nat.le_refl _⟩;have hi:i<8:=by
  have:=(List.getElem?_eq_some_iff.1 hv).1
  simpa[prtCells] using this
 rw[hB.cell,Nat.zero_add,hc i hi];exact hv
theorem bell_parts {w:World}{B g1 g2 g3:Nat}{T:TypeId}(hB:Box w B (bpCells g1 101 10 20 1 2++bpCells g2 102 15 30 3 4++bpCells g3 103 25 40 5 6).toArray T)
 (h1:Box w g1 #[.int .i64 101] 3) (h2:Box w g2 #[.int .i64 102] 3) (h3:Box w g3 #[.int .i64 103] 3):PartsAt w (some ⟨B,0,none⟩) bellC.parts:=by
 intro k p hp;refine⟨B,0,rfl,?_⟩
 match k,hp with
 |0,hp=>cases hp;exact bp_at hB 0 101 10 20 1 2 (fun j hj=>by match j,hj with|0,_=>rfl|1,_=>rfl|2,_=>rfl|3,_=>rfl|4,_=>rfl|5,_=>rfl|6,_=>rfl|7,_=>rfl) h1
 |1,hp=>cases hp;exact bp_at hB 1 102 15 30 3 4 (fun j hj=>by match j,hj with|0,_=>rfl|1,_=>rfl|2,_=>rfl|3,_=>rfl|4,_=>rfl|5,_=>rfl|6,_=>rfl|7,_=>rfl) h2
 |2,hp=>cases hp;exact bp_at hB 2 103 25 40 5 6 (fun j hj=>by match j,hj with|0,_=>rfl|1,_=>rfl|2,_=>rfl|3,_=>rfl|4,_=>rfl|5,_=>rfl|6,_=>rfl|7,_=>rfl) h3
 |k+3,hp=>simp[bellC] at hp
theorem rods_at {w:World}{B:Nat}{T:TypeId}(hB:Box w B (rodsL.flatMap prbCells).toArray T):PrbsAt w (some ⟨B,0,none⟩) rodsL:=by
 intro k p hp;refine⟨B,0,rfl,fun i v hv=>?_⟩;rw[hB.cell];have hi:i<4:=by
  have:=(List.getElem?_eq_some_iff.1 hv).1
  simpa[prbCells] using this
 match k,hp with
 |0,hp=>cases hp;match i,hi with|0,_=>exact hv|1,_=>exact hv|2,_=>exact hv|3,_=>exact hv
 |1,hp=>cases hp;match i,hi with|0,_=>exact hv|1,_=>exact hv|2,_=>exact hv|3,_=>exact hv
 |2,hp=>cases hp;match i,hi with|0,_=>exact hv|1,_=>exact hv|2,_=>exact hv|3,_=>exact hv
 |k+3,hp=>simp[rodsL] at hp
theorem rods_any (w:World):Calls Tryz.prog 56 #[] w fun e w'=>∃qa qc,e = .returned (.slice qa rodsL.length qc)∧PrbsAt w' qa rodsL∧Below w.heap.size w w':=by
 go_enter Tryz.func56,Tryz.ntmps56
 go_wp2_with fail
 go_ret
 exact⟨some ⟨w.heap.size,0,none⟩,3,rfl,rods_at (T:=93) (Box.new _ _ _),by go_grown⟩
theorem bell_any (w:World):Calls Tryz.prog 55 #[] w fun e w'=>∃pa pc,e = .returned (.agg #[.string bellC.ware,.int .i64 bellC.limit,.int .i64 bellC.by_,.slice pa bellC.parts.length pc])∧PartsAt w' pa bellC.parts∧Below w.heap.size w w':=by
 obtain⟨w1,hw1⟩:=zx (w.alloc (.cells #[.string ⟨#[]⟩,.int .i64 0,.int .i64 0,.slice none 0 0] 24));have hB1:Below w.heap.size w w1:=by rw[←hw1];go_grown
 have b1:Box w1 w.heap.size #[.string ⟨#[]⟩,.int .i64 0,.int .i64 0,.slice none 0 0] 24:=by rw[←hw1];exact Box.new _ _ _
 have hs1:w1.heap.size=w.heap.size+1:=by rw[←hw1];simp
 have HS:=zh hs1;have HW:=zh hw1;have HB1:=zh hB1;have HX:=zh b1;have e0:=b1.rules;have hl1:=b1.lt;have hl2:w.heap.size<w1.heap.size+1:=by omega
 have hl3:w.heap.size<w1.heap.size+1+1:=by omega
 have hl4:w.heap.size<w1.heap.size+1+1+1:=by omega
 clear hw1 hB1 b1 hs1
 go_enter Tryz.func55,Tryz.ntmps55
 go_upto_region 1 with fail
 simp only[HW.out]
 go_wp2_with fail
 refine bodyPost_ret (results_cell rfl rfl (run_loadVar_row _ _ 24 24 _ (0,0) _ ((((((((HX.out.set_ 0 _).set_ 1 _).set_ 2 _).set_ 3 _).alloc _).alloc _).alloc _).alloc _) Tryz.underlying24 rfl case_size9)) rfl ⟨some ⟨w1.heap.size+1+1+1,0,none⟩,3,rfl,?_,?_⟩
 ·exact bell_parts (T:=80) (Box.new' zS) ((((Box.new' zS).alloc _).alloc _).alloc _) (((Box.new' zS).alloc _).alloc _) ((Box.new' zS).alloc _)
 ·exact(((((((HB1.out.setCell zS _).setCell zS _).setCell zS _).setCell zS _).alloc zT _).alloc zT _).alloc zT _).alloc zT _
end
