/- Opt6: rows of options, read and written by the reference: plain lemmas; conditions: strings are within 2^62. -/
import Derived.Test.YtngojiikkokajaaG0
import Derived.Test.YtngojiikkokajaaG1
import Derived.Test.YtngojiikkokajaaG2
import Derived.Test.YtngojiikkokajaaG3
import Derived.Test.YtngojiikkokajaaG4
import Derived.Test.YtngojiikkokajaaG5
import Derived.Test.YtngojiikkokajaaG7
import Derived.Laws.BitsAllLaws
import Derived.Lib.Strings
import Derived.Test.YtngojiikkokajaaXO1
import Derived.Test.YtngojiikkokajaaXOctRefP
set_option linter.unusedVariables false
set_option linter.unusedSimpArgs false
namespace Go.Proofs.Ytngojiikkokajaa.O6
open Go Go.RowKit Go.Proofs.YtngojiikkokajaaW.PrintWords Go.Proofs.YtngojiikkokajaaW.PrintLast Go.Proofs.YtngojiikkokajaaW.PrintMore Go.Proofs.Ytngojiikkokajaa.X Go.Proofs.Ytngojiikkokajaa.Oct
theorem rputStatus_eq (c : Int) (k : Nat) (hk : 10 ≤ k) : tenancyref15_PutStatus.f k c = some (B (stD c)) := by
  unfold tenancyref15_PutStatus.f stD
  by_cases h1 : c < 0
  · rw [if_pos h1, if_neg (by omega)]
    rfl
  · rw [if_neg h1]
    by_cases h2 : c > 65535
    · rw [if_pos h2, if_neg (by omega)]
      rfl
    · rw [if_neg h2, if_pos (by omega), u16_wrap, Int.emod_eq_of_lt (by omega) (by omega), rPut16 (by omega) c (by omega) (by omega), Option.bind_some]
end Go.Proofs.Ytngojiikkokajaa.O6
