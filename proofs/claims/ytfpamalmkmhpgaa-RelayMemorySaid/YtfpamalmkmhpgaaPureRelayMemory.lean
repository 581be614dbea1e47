/- RelayMemory: no condition beyond the arguments' own. -/
import Derived.Test.YtfpamalmkmhpgaaG0
import Derived.Test.YtfpamalmkmhpgaaG1
import Derived.Test.YtfpamalmkmhpgaaG2
import Derived.Test.YtfpamalmkmhpgaaG3
import Derived.Laws.BitsAllLaws
import Derived.Lib.Strings
import Derived.Test.YtfpamalmkmhpgaaXGm
import Derived.Test.YtfpamalmkmhpgaaXRl3
set_option linter.unusedVariables false
namespace Go.Proofs.Ytfpamalmkmhpgaa.Pure
open Go Go.RowKit Go.Proofs.YtfpamalmkmhpgaaW.PrintWords Go.Proofs.YtfpamalmkmhpgaaW.PrintLast Go.Proofs.YtfpamalmkmhpgaaW.PrintMore Go.Proofs.Ytfpamalmkmhpgaa.X Go.Proofs.Ytfpamalmkmhpgaa.Oct Go.Proofs.Ytfpamalmkmhpgaa.Rl
theorem RelayMemory (l0 : List S39) (a1 : ByteArray) (w0 : l0.length * 64 ≤ 140737488351232 ∧ ∀ y_ ∈ l0, wf39 y_) (w1 : a1.size ≤ 140737488351232) (A0 : Option Addr) (c0 : Nat) (w : World) (hr0 : Kd.C k39 w A0 l0.length l0) (hc0 : l0.length ≤ c0) :
    Calls Try.prog 8 #[.slice A0 l0.length c0, .string a1] w fun e w' => e = .returned (.bool true) ∧ Below w.heap.size w w' :=
  memory_walk (200000 + l0.length) A0 c0 l0 a1 w w0.1 hr0 hc0 (awake _ (by omega)) (same_true l0 (by have := w0.1; omega) _ (by omega))
end Go.Proofs.Ytfpamalmkmhpgaa.Pure
