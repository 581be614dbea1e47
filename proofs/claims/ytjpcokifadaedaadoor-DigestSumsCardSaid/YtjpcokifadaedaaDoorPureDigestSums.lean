/- The plain side of DigestSums. No condition. Own text. -/
import Derived.Test.YtjpcokifadaedaaDoorXDB
import Derived.Test.YtjpcokifadaedaaDoorXMd
import Derived.Test.YtjpcokifadaedaaDoorXCrcR
set_option linter.unusedVariables false
namespace Go.Proofs.YtjpcokifadaedaaDoor.X.Pure
open Go Go.RowKit Go.Proofs.YtjpcokifadaedaaDoorW.PrintWords Go.Proofs.YtjpcokifadaedaaDoorW.PrintLast Go.Proofs.YtjpcokifadaedaaDoorW.PrintMore
theorem DigestSums (s : ByteArray) (hs : s.size ≤ 140737488351232) (W : World) (gl : Glob W) (rgl : RGlob W) :
    Calls Tryd.prog 3 #[.string s] W fun e W' => e = .returned (.bool true) ∧ Below W.heap.size W W' :=
  tenancylaw05_DigestSums.calls s hs (crcV s) _ (crcRef_eq s (by omega)).2 (crcRef_eq s (by omega)).1 (md5_eq s) W gl rgl
end Go.Proofs.YtjpcokifadaedaaDoor.X.Pure
