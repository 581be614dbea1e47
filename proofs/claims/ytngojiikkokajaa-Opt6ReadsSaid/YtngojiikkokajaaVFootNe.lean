/- Words of the printed texts, those that this seat uses; by this session's own program out of what the kit's print laid: no condition. -/
import Derived.Test.YtngojiikkokajaaVN
/-! ### 52. A row that stays read whatever happens to a block (a set of blocks) doesn't lie there -/
namespace Go.Proofs.YtngojiikkokajaaW.PrintWords
open Go.RowKit
namespace Kd
section
variable {α : Type} {d : Kd α} {W : World} {g n : Nat} {S ok : Nat → Prop} {A : Option Addr} {ad : Addr} {xs : List α}
end
end Kd
end Go.Proofs.YtngojiikkokajaaW.PrintWords
