/- What the reference of octet comes to, in the same words: plain lemmas; conditions: each number is of its kind, strings are within the form's reach. -/
import Derived.Test.YtngojiikkokajaaXOct
import Derived.Test.YtngojiikkokajaaG0
import Derived.Test.YtngojiikkokajaaG1
import Derived.Test.YtngojiikkokajaaG2
import Derived.Test.YtngojiikkokajaaG3
import Derived.Test.YtngojiikkokajaaG4
import Derived.Test.YtngojiikkokajaaG5
import Derived.Test.YtngojiikkokajaaG7
import Derived.Test.YtngojiikkokajaaG8
import Derived.Test.YtngojiikkokajaaG10
import Derived.Test.YtngojiikkokajaaG11
import Derived.Test.YtngojiikkokajaaG12
import Derived.Laws.BitsAllLaws
import Derived.Lib.Strings
import Derived.Test.YtngojiikkokajaaXOctRefP
set_option linter.unusedVariables false
set_option linter.unusedSimpArgs false
namespace Go.Proofs.Ytngojiikkokajaa.Oct
open Go.RowKit Go.Proofs.YtngojiikkokajaaW.PrintWords Go.Proofs.YtngojiikkokajaaW.PrintLast Go.Proofs.YtngojiikkokajaaW.PrintMore Go.Proofs.Ytngojiikkokajaa.X

theorem rPut32 {k : Nat} (hk : 6 ≤ k) (a : Int) (h0 : 0 ≤ a) (h1 : a < 4294967296) : tenancyref04_Put32.f k a = some (B (be4 a)) := by
  unfold tenancyref04_Put32.f; rw [u64_wrap, Int.emod_eq_of_lt h0 (by omega), rput4 hk a h0 h1]; rfl
theorem rPut64 {k : Nat} (hk : 10 ≤ k) (a : Int) (h0 : 0 ≤ a) (h1 : a < 18446744073709551616) : tenancyref04_Put64.f k a = some (B (be8 a)) := by
  unfold tenancyref04_Put64.f; rw [rput8 hk a h0 h1]; rfl
theorem rputAddr {k : Nat} (hk : 10 ≤ k) (a b : Int) (h0 : 0 ≤ a ∧ a < 18446744073709551616) (h1 : 0 ≤ b ∧ b < 18446744073709551616) : tenancyref04_PutAddr.f k a b = some (B (be8 a ++ be8 b)) := by
  unfold tenancyref04_PutAddr.f
  rw [rPut64 hk a h0.1 h0.2, rPut64 hk b h1.1 h1.2]
  simp only [Option.bind_some]
  rw [if_pos (by rw [size_B, size_B, be8_length, be8_length]; omega), B_append]
end Go.Proofs.Ytngojiikkokajaa.Oct
