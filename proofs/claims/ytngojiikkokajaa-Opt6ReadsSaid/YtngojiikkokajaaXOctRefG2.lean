/- What the reference of octet comes to, in the same words: plain lemmas; conditions: each number is of its kind, strings are within the form's reach. -/
import Derived.Test.YtngojiikkokajaaXOct
import Derived.Test.YtngojiikkokajaaG0
import Derived.Test.YtngojiikkokajaaG1
import Derived.Test.YtngojiikkokajaaG2
import Derived.Test.YtngojiikkokajaaG3
import Derived.Test.YtngojiikkokajaaG4
import Derived.Test.YtngojiikkokajaaG5
import Derived.Test.YtngojiikkokajaaG6
import Derived.Test.YtngojiikkokajaaG8
import Derived.Test.YtngojiikkokajaaG13
import Derived.Test.YtngojiikkokajaaG14
import Derived.Test.YtngojiikkokajaaG15
import Derived.Test.YtngojiikkokajaaG16
import Derived.Laws.BitsAllLaws
import Derived.Lib.Strings
import Derived.Test.YtngojiikkokajaaXOctRefG
set_option linter.unusedVariables false
set_option linter.unusedSimpArgs false
namespace Go.Proofs.Ytngojiikkokajaa.Oct
open Go.RowKit Go.Proofs.YtngojiikkokajaaW.PrintWords Go.Proofs.YtngojiikkokajaaW.PrintLast Go.Proofs.YtngojiikkokajaaW.PrintMore Go.Proofs.Ytngojiikkokajaa.X

theorem rget32 {k : Nat} (hk : 10 ≤ k) (s : ByteArray) (at_ : Int) (hs : s.size ≤ 4611686018427387904) (ha : -9223372036854775808 ≤ at_ ∧ at_ ≤ 9223372036854775807) : tenancyref04_Get32.f k s at_ = some (getN (L s) at_ 4, cutB (L s) at_ 4) := by
  have hr : 0 ≤ getN (L s) at_ 4 ∧ getN (L s) at_ 4 < 256 ^ 4 := getN_range (L s) at_ 4
  unfold tenancyref04_Get32.f
  rw [show (4 : Int) = ((4 : Nat) : Int) from rfl, rget hk s at_ 4 (by omega) hs ha]
  simp only [Option.bind_some]
  refine congrArg some (Prod.ext ?_ rfl)
  exact Int.emod_eq_of_lt hr.1 (by simpa using hr.2)
theorem rget64 {k : Nat} (hk : 10 ≤ k) (s : ByteArray) (at_ : Int) (hs : s.size ≤ 4611686018427387904) (ha : -9223372036854775808 ≤ at_ ∧ at_ ≤ 9223372036854775807) : tenancyref04_Get64.f k s at_ = some (getN (L s) at_ 8, cutB (L s) at_ 8) := by
  unfold tenancyref04_Get64.f
  rw [show (8 : Int) = ((8 : Nat) : Int) from rfl, rget hk s at_ 8 (by omega) hs ha]
  rfl
theorem rgetAddr {k : Nat} (hk : 10 ≤ k) (s : ByteArray) (at_ : Int) (hs : s.size ≤ 4611686018427387904) (ha : -9223372036854775808 ≤ at_ ∧ at_ ≤ 9223372036854775807) :
    tenancyref04_GetAddr.f k s at_ = some (if cutB (L s) at_ 16 = true then (getN (cutL (L s) at_ 16) 0 8, getN (cutL (L s) at_ 16) 8 8, true) else (0, 0, false)) := by
  unfold tenancyref04_GetAddr.f
  rw [rcut s at_ 16 hs ha (by omega)]
  simp only [Option.bind_some]
  by_cases h : cutB (L s) at_ 16 = true
  · have hc : (cutL (L s) at_ 16).length ≤ 16 := cut_small (L s) at_ 16
    rw [if_pos h, if_pos h, rget64 hk _ 0 (by rw [size_B]; omega) (by omega), rget64 hk _ 8 (by rw [size_B]; omega) (by omega)]
    rfl
  · rw [if_neg h, if_neg h]
end Go.Proofs.Ytngojiikkokajaa.Oct
