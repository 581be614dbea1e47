/- strings.Repeat off the shelf, at every count that fits: its text in the form that the print's contracts have: what a call comes to, where the bytes fit. -/
import Derived.Test.YtdhmlenmnobmfaaShelf
import Derived.Below
namespace Go.Proofs.Ytdhmlenmnobmfaa
open Go.RowKit
theorem repeat_any (s : ByteArray) (c : Nat) (w : World) (hl : s.size * c ≤ 140737488355328) (hc : c ≤ 9223372036854775807) :
    Calls Try.prog 44 #[.string s, .int .i64 c] w fun e w' => e = .returned (.string ⟨(Lib.repeatL s.data.toList c).toArray⟩) ∧ Below w.heap.size w w' :=
  Try.strings_Repeat s c w hc hl
end Go.Proofs.Ytdhmlenmnobmfaa
