/- Walks and plain laws. No condition. -/
import Derived.Test.YtjgldeeianionaaGreatV17
set_option maxHeartbeats 2000000
set_option maxRecDepth 100000
set_option linter.unusedSimpArgs false
set_option linter.unusedVariables false
namespace Go.Proofs.YtjgldeeianionaaGreat
open Go.RowKit
theorem fine1_idle (p:Addr)(w:World):
 CallsD Tryz.prog 195 #[.pointer (some p)] .returning w fun e u' w'=>e = .returned (.tuple #[])∧u' = .returning∧w'=w:=by
 refine callsD_of_wpS Tryz.func195 rfl fun c₀ cs hu=>?_
 apply wpS_seq
 apply wpS_region
 simp[wpOpsS,go_sem,recoverD,hu,Tryz.ntmps195,Exit.thenS]
 refine wpS_of_wp ?_
 go_wp2
 cases c₀
 simp_all [bodyPostS,results,Tryz.results195]
theorem fine1_caught (g:Nat)(w:World)(hb:Box w g #[.bool false] 4):
 CallsD Tryz.prog 195 #[.pointer (some ⟨g,0,none⟩)] (.panicking ({v:=unfit,recovered:=false}::[])) w fun e u' w'=>
  e = .returned (.tuple #[])∧u' = .panicking ({v:=unfit,recovered:=true}::[])∧w'=(w.alloc (.cells #[] 215)).setCell ⟨g,0,none⟩ (.bool false):=by
 obtain⟨r1,r2⟩:=(hb.alloc (.cells #[] 215)).rules;clear hb;refine callsD_of_wpS Tryz.func195 rfl fun c₀ cs hu=>?_
 apply wpS_seq
 apply wpS_region
 simp[unfit,wpOpsS,go_sem,recoverD,hu,Tryz.ntmps195,Exit.thenS]
 refine wpS_of_wp ?_;have hta:∀w:World,(Instr.typeAssert (.iface 215 (.agg #[])) 20 215 true).run Tryz.prog w = .ok (.tuple #[.agg #[],.bool true]) w:=fun w=>by kernel_rfl
 go_wp2
 cases c₀
 simp_all [bodyPostS,results,Tryz.results195]
theorem fine_any (K:Nat)(caps:Array Value)(w:World)(G B:World→Prop)(hent:∀args W,(callFunc K args).run Tryz.prog W = .ok (.enter K args) W)
 (hdo:Calls Tryz.prog K caps (w.alloc (.cells #[.bool false] 4)) fun e W=>Box W w.heap.size #[.bool false] 4∧((e = .returned (.tuple #[])∧G W)∨(e = .panicked [{v:=unfit,recovered:=false}]∧B W))):
 Calls Tryz.prog 147 #[.func (.func K) #[] caps] w fun e w'=>(e = .returned (.bool true)∧∃W,G W∧Keep (fun k=>k≠w.heap.size) W w')∨(e = .returned (.bool false)∧∃W,B W∧Keep (fun k=>k≠w.heap.size) W w'):=by
 have hmf:=run_mf Tryz.prog;have HD:=zh hdo;clear hdo
 go_enter_defers Tryz.func147,Tryz.ntmps147
 go_wp2_with fail
 refine HD.out.mono ?_;rintro e W ⟨hb,(⟨rfl,hg⟩|⟨rfl,hbd⟩)⟩
 ·obtain⟨u1,u2⟩:=hb.rules
  go_wp2_with fail
  refine leaves_cons (f:=195) (args:=#[.pointer (some ⟨w.heap.size,0,none⟩)]) zS (by simp[go_sem]) ?_;refine(fine1_idle ⟨w.heap.size,0,none⟩ _).mono ?_;rintro e u' w'' ⟨rfl,rfl,rfl⟩;have m1:=(hb.set_ 0 (.bool true)).cell 0;have m2:(W.setCell ⟨w.heap.size,0,none⟩ (.bool true)).cell? ⟨w.heap.size,0,none⟩=some (.bool true):=m1;have hk:Keep (fun k=>k≠w.heap.size) W (W.setCell ⟨w.heap.size,0,none⟩ (.bool true)):=(Keep.refl _ W).setCell (.inl zS) _;generalize W.setCell ⟨w.heap.size,0,none⟩ (.bool true)=W2 at *
  simp[Leaves,settle,results,Tryz.results147,go_sem,m2]
  exact⟨W,hg,hk⟩
 ·obtain⟨u1,u2⟩:=hb.rules
  go_wp2_with fail
  refine leaves_cons (f:=195) (args:=#[.pointer (some ⟨w.heap.size,0,none⟩)]) zS (by simp[go_sem]) ?_;refine(fine1_caught w.heap.size _ hb).mono ?_;rintro e u' w'' ⟨rfl,rfl,rfl⟩;have m1:=((hb.alloc (.cells #[] 215)).set_ 0 (.bool false)).cell 0;have m2:((W.alloc (.cells #[] 215)).setCell ⟨w.heap.size,0,none⟩ (.bool false)).cell? ⟨w.heap.size,0,none⟩=some (.bool false):=m1;have hk:Keep (fun k=>k≠w.heap.size) W ((W.alloc (.cells #[] 215)).setCell ⟨w.heap.size,0,none⟩ (.bool false)):=((Keep.refl _ W).alloc _).setCell (.inl zS) _;generalize (W.alloc (.cells #[] 215)).setCell ⟨w.heap.size,0,none⟩ (.bool false)=W2 at *
  simp[Leaves,settle,results,Tryz.results147,go_sem,m2]
  exact⟨W,hbd,hk⟩
