/- The walks and plain laws of: MLaw. No condition. -/
import Derived.Test.YtjgldeeianionaaGreatT02
import Derived.Test.YtjgldeeianionaaGreatT10
import Derived.Test.YtjgldeeianionaaGreatT01
set_option maxRecDepth 100000
set_option linter.unusedSimpArgs false
set_option linter.unusedVariables false
namespace Go.Proofs.YtjgldeeianionaaGreat
open Go.RowKit Go.ChangeShapes Go.WideShapes Go.Deep Go.Joins
section
variable {H:Type}{enc:TypeId×Value→H}{w:World}{base:Nat}{spare:Nat→Bool}{held:Bool}
theorem ints_arg {r:Reach}{b0:Nat}{v:Value}{d:DataW H}{ps:List MemPlace}(hv:Value.okWide Tryz.prog w r b0 26 v)(h:DataW.Trod enc Tryz.prog w base spare held 26 v d ps):
 ∃(a:Option Addr) (l:List Int) (cap:Nat),v = .slice a l.length cap∧Ints w a l∧l.length≤cap∧cap≤maxLen:=by
 obtain⟨a,len,cap,rfl⟩:=okWide_slice Tryz.underlying26 hv;obtain⟨n,hn⟩:=field_of_Trod h rfl;obtain⟨a',l,cap',e,h1,h2,h3⟩:=ints_of hn;rw[List.singleton_inj] at e;exact⟨a',l,cap',e,h1,h2,h3⟩
instance:Inhabited Br:=⟨⟨0,0,0,[]⟩⟩
end
end Go.Proofs.YtjgldeeianionaaGreat
namespace Go.Proofs.YtjgldeeianionaaGreat
open Go.RowKit
attribute [local go_sem] Oper.semAt_some
end Go.Proofs.YtjgldeeianionaaGreat
