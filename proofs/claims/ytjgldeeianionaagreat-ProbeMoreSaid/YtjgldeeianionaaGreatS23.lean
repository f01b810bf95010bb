/- The walks and plain laws of: MAnswers. No condition. -/
import Derived.Test.YtjgldeeianionaaGreatS06
import Derived.Test.YtjgldeeianionaaGreatS22
import Derived.Test.YtjgldeeianionaaGreatS01
set_option linter.unusedSimpArgs false
set_option linter.unusedVariables false
namespace Go.Proofs.YtjgldeeianionaaGreat
open Go.RowKit
attribute [local go_sem] Oper.semAt_some
theorem app_one {E TT:TypeId}{z:Value}{bytes:Nat}(ht:Tryz.prog.underlying TT=some (.slice E))(hi:(Tryz.prog.info? E).map (fun i=>(i.zero,i.size,i.bytes))=some (some z,1,bytes))(hz:z.cells.size=1)(hby:bytes≤10000){base:Nat}{W:World}{v:Value}{j:Nat}{xs:List Value}(h:W.ownsRow base E 1 v j xs)(hj:j+1≤1000000)(hB:base≤W.heap.size)(u:Value)(hu:u.oneCell'=true):
 ∃v' U,(Builtin.append_ #[TT,TT] TT #[v,.slice (some ⟨W.heap.size,0,none⟩) 1 1]).run Tryz.prog (W.alloc (.cells #[u] E)) = .ok v' U∧U.ownsRow base E 1 v' (j+1) (xs++[u])∧Below base W U:=by
 obtain⟨v',U,hrun,hown,hg,_⟩:=run_append_row (P:=Tryz.prog) (W.alloc (.cells #[u] E)) base TT TT E z 1 bytes ht hi hz (by omega)
  _ _ _ (ownsRow_keep h ((Keep.refl (fun _=>True) W).alloc (.cells #[u] E)) (fun _ _=>trivial)) (some ⟨W.heap.size,0,none⟩) 1 1 [u] rfl (fun j u hu=>⟨W.heap.size,0,rfl,by rw[(Box.new W _ _).cell,Nat.zero_add];simpa using hu⟩) (by simpa using hu) (by omega) (by omega) (by simp;omega)
 exact⟨v',U,hrun,hown,((Below.refl _ W).alloc hB (.cells #[u] E)).grown hg (by simp;omega) (fun k hk=>(h.lt k hk).1)⟩
end Go.Proofs.YtjgldeeianionaaGreat
