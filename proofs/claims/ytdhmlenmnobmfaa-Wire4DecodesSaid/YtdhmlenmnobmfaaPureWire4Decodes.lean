/- The plain statement of Wire4Decodes: both ways of reading a message come to one: no condition. -/
import Derived.Test.YtdhmlenmnobmfaaG0
import Derived.Test.YtdhmlenmnobmfaaG1
import Derived.Test.YtdhmlenmnobmfaaG2
import Derived.Test.YtdhmlenmnobmfaaG3
import Derived.Test.YtdhmlenmnobmfaaG7
import Derived.Test.YtdhmlenmnobmfaaG8
import Derived.Test.YtdhmlenmnobmfaaG9
import Derived.Laws.BitsAllLaws
import Derived.Lib.Strings
import Derived.Test.YtdhmlenmnobmfaaXWk
import Derived.Test.YtdhmlenmnobmfaaXRd
set_option linter.unusedVariables false
set_option linter.unusedSimpArgs false
namespace Go.Proofs.Ytdhmlenmnobmfaa.Pure
open Go.RowKit Go.Proofs.YtdhmlenmnobmfaaW.PrintWords Go.Proofs.YtdhmlenmnobmfaaW.PrintLast Go.Proofs.YtdhmlenmnobmfaaW.PrintMore Go.Proofs.Ytdhmlenmnobmfaa.X Go.Proofs.Ytdhmlenmnobmfaa.Oct Go.Proofs.Ytdhmlenmnobmfaa.Opt Go.Proofs.Ytdhmlenmnobmfaa.W4
theorem Wire4Decodes : tenancylaw14_Wire4Decodes.Pure := by
  intro s _
  refine ⟨300000, ?_⟩
  unfold tenancylaw14_Wire4Decodes.f
  rw [awake_true (by omega), Option.bind_some, if_pos rfl]
  rcases hp : decV s with ⟨n, e⟩
  have h1 : wire4_Decode.f 300000 s = some (n.f0, n.f1, n.f2, n.f3, n.f4, n.f5, n.f6, n.f7, n.f8, n.f9, n.f10, n.f11, n.f12, n.f13, n.f14, e) := by rw [decode_eq (by omega) s, hp]; rfl
  have h2 : tenancyref14_Decode.f 300000 s = some (n.f0, n.f1, n.f2, n.f3, n.f4, n.f5, n.f6, n.f7, n.f8, n.f9, n.f10, n.f11, n.f12, n.f13, n.f14, e) := by rw [rdecode_eq (by omega) s, hp]; rfl
  rw [h1, Option.bind_some, h2, Option.bind_some]
  dsimp only
  rw [same_true n, Option.bind_some, if_pos rfl, beq_self_eq_true]
end Go.Proofs.Ytdhmlenmnobmfaa.Pure
