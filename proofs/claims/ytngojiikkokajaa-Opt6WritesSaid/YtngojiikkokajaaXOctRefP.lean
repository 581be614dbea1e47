/- What the reference of octet comes to, in the same words: plain lemmas; conditions: each number is of its kind, strings are within the form's reach. -/
import Derived.Test.YtngojiikkokajaaXOct
import Derived.Test.YtngojiikkokajaaG0
import Derived.Test.YtngojiikkokajaaG1
import Derived.Test.YtngojiikkokajaaG2
import Derived.Test.YtngojiikkokajaaG3
import Derived.Test.YtngojiikkokajaaG4
import Derived.Test.YtngojiikkokajaaG5
import Derived.Test.YtngojiikkokajaaG7
import Derived.Laws.BitsAllLaws
import Derived.Lib.Strings
set_option linter.unusedVariables false
set_option linter.unusedSimpArgs false
namespace Go.Proofs.Ytngojiikkokajaa.Oct
open Go.RowKit Go.Proofs.YtngojiikkokajaaW.PrintWords Go.Proofs.YtngojiikkokajaaW.PrintLast Go.Proofs.YtngojiikkokajaaW.PrintMore Go.Proofs.Ytngojiikkokajaa.X

theorem rput2 {k : Nat} (hk : 4 ≤ k) (a : Int) (h0 : 0 ≤ a) (h1 : a < 65536) : tenancyref04_put.f k a 2 = some (B (be2 a)) := by
  obtain ⟨k, rfl⟩ : ∃ m, k = m + 4 := ⟨k - 4, by omega⟩
  have e : strOfNums [a / 256 % 256, a % 256] = B (be2 a) := by
    rw [strOfNums_B _ (by intro x hx; simp at hx; omega)]
    simp [be2, b8_mod]
  rw [← e]
  simp [tenancyref04_put.f, tenancyref04_put.l0, wrap64, shr, IntKind.bits, u64_wrap]
theorem rput4 {k : Nat} (hk : 6 ≤ k) (a : Int) (h0 : 0 ≤ a) (h1 : a < 4294967296) : tenancyref04_put.f k a 4 = some (B (be4 a)) := by
  obtain ⟨k, rfl⟩ : ∃ m, k = m + 6 := ⟨k - 6, by omega⟩
  have e : strOfNums [a / 16777216 % 256, a / 65536 % 256, a / 256 % 256, a % 256] = B (be4 a) := by
    rw [strOfNums_B _ (by intro x hx; simp at hx; omega)]
    simp [be4, b8_mod]
  rw [← e]
  simp [tenancyref04_put.f, tenancyref04_put.l0, wrap64, shr, IntKind.bits, u64_wrap]
theorem rput8 {k : Nat} (hk : 10 ≤ k) (a : Int) (h0 : 0 ≤ a) (h1 : a < 18446744073709551616) : tenancyref04_put.f k a 8 = some (B (be8 a)) := by
  obtain ⟨k, rfl⟩ : ∃ m, k = m + 10 := ⟨k - 10, by omega⟩
  have e : strOfNums [a / 72057594037927936 % 256, a / 281474976710656 % 256, a / 1099511627776 % 256, a / 4294967296 % 256, a / 16777216 % 256, a / 65536 % 256, a / 256 % 256, a % 256] = B (be8 a) := by
    rw [strOfNums_B _ (by intro x hx; simp at hx; omega)]
    simp [be8, b8_mod]
  rw [← e]
  simp [tenancyref04_put.f, tenancyref04_put.l0, wrap64, shr, IntKind.bits, u64_wrap]
theorem rPut16 {k : Nat} (hk : 4 ≤ k) (a : Int) (h0 : 0 ≤ a) (h1 : a < 65536) : tenancyref04_Put16.f k a = some (B (be2 a)) := by
  unfold tenancyref04_Put16.f; rw [u64_wrap, Int.emod_eq_of_lt h0 (by omega), rput2 hk a h0 h1]; rfl
theorem rrun {k : Nat} (hk : 4 ≤ k) (s : ByteArray) : tenancyref04_Run.f k s = some (B (runL (L s)), runOk (L s)) := by
  unfold tenancyref04_Run.f runL
  have hl : ((L s).length : Int) = s.size := by rw [size_L]
  by_cases h : (s.size : Int) > 65535
  · have hb : runOk (L s) = false := by simp only [runOk, decide_eq_false_iff_not]; omega
    rw [if_pos h, hb]; rfl
  · have hb : runOk (L s) = true := by simp only [runOk, decide_eq_true_eq]; omega
    rw [if_neg h, hb, if_pos rfl, u16_wrap, Int.emod_eq_of_lt (by omega) (by omega), rPut16 hk _ (by omega) (by omega)]
    simp only [Option.bind_some]
    rw [if_pos (by rw [size_B, be2_length]; omega), hl]
    refine congrArg some (Prod.ext ?_ rfl)
    apply ext_L
    rw [L_append, L_B, L_B]
end Go.Proofs.Ytngojiikkokajaa.Oct
