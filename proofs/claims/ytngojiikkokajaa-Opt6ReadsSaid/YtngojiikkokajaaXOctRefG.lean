/- What the reference of octet comes to, in the same words: plain lemmas; conditions: each number is of its kind, strings are within the form's reach. -/
import Derived.Test.YtngojiikkokajaaXOct
import Derived.Test.YtngojiikkokajaaG0
import Derived.Test.YtngojiikkokajaaG1
import Derived.Test.YtngojiikkokajaaG2
import Derived.Test.YtngojiikkokajaaG3
import Derived.Test.YtngojiikkokajaaG4
import Derived.Test.YtngojiikkokajaaG5
import Derived.Test.YtngojiikkokajaaG6
import Derived.Laws.BitsAllLaws
import Derived.Lib.Strings
set_option linter.unusedVariables false
set_option linter.unusedSimpArgs false
namespace Go.Proofs.Ytngojiikkokajaa.Oct
open Go.RowKit Go.Proofs.YtngojiikkokajaaW.PrintWords Go.Proofs.YtngojiikkokajaaW.PrintLast Go.Proofs.YtngojiikkokajaaW.PrintMore Go.Proofs.Ytngojiikkokajaa.X

theorem rcut (s : ByteArray) (at_ n : Int) (hs : s.size ≤ 4611686018427387904) (ha : -9223372036854775808 ≤ at_ ∧ at_ ≤ 9223372036854775807) (hn : -9223372036854775808 ≤ n ∧ n ≤ 9223372036854775807) :
    tenancyref04_Cut.f s at_ n = some (B (cutL (L s) at_ n), cutB (L s) at_ n) := by
  unfold tenancyref04_Cut.f cutL
  have hl : ((L s).length : Int) = s.size := by rw [size_L]
  by_cases h1 : at_ < 0
  · rw [if_pos h1]
    have hb : cutB (L s) at_ n = false := by simp only [cutB, decide_eq_false_iff_not]; omega
    rw [hb]; rfl
  by_cases h1b : n < 0
  · rw [if_neg h1, if_pos h1b]
    have hb : cutB (L s) at_ n = false := by simp only [cutB, decide_eq_false_iff_not]; omega
    rw [hb]; rfl
  rw [if_neg h1, if_neg h1b]
  by_cases h2 : at_ > (s.size : Int)
  · rw [if_pos h2]
    have hb : cutB (L s) at_ n = false := by simp only [cutB, decide_eq_false_iff_not]; omega
    rw [hb]; rfl
  rw [if_neg h2, w64 (n := (s.size : Int) - at_) (by omega)]
  by_cases h3 : n > (s.size : Int) - at_
  · rw [if_pos h3]
    have hb : cutB (L s) at_ n = false := by simp only [cutB, decide_eq_false_iff_not]; omega
    rw [hb]; rfl
  have hb : cutB (L s) at_ n = true := by simp only [cutB, decide_eq_true_eq]; omega
  rw [if_neg h3, w64 (n := at_ + n) (by omega), if_pos (by omega), if_pos (by omega), if_pos (by omega), hb, if_pos rfl]
  refine congrArg some (Prod.ext ?_ rfl)
  apply ext_L
  rw [L_extract, L_B]
  congr 1
  omega
theorem rloop (s : ByteArray) (b : Bool) (hl : (L s).length ≤ 4611686018427387904) (d : Nat) : ∀ (k i : Nat) (x : Int), (L s).length - i = d → i ≤ (L s).length → d < k → 0 ≤ x →
    tenancyref04_get.l0 k s b x (i : Int) = some (((L s).drop i).foldl (fun x c => (x * 256 + (c.toNat : Int)) % 18446744073709551616) x, b) := by
  have hsz : (s.size : Int) = (L s).length := by rw [size_L]
  induction d with
  | zero =>
    intro k i x hd hi hk h0
    obtain ⟨k, rfl⟩ : ∃ m, k = m + 1 := ⟨k - 1, by omega⟩
    rw [tenancyref04_get.l0, if_neg (by omega), List.drop_of_length_le (by omega)]
    rfl
  | succ d ih =>
    intro k i x hd hi hk h0
    obtain ⟨k, rfl⟩ : ∃ m, k = m + 1 := ⟨k - 1, by omega⟩
    have hlt : i < (L s).length := by omega
    have hc := (L s)[i].toNat_lt
    rw [tenancyref04_get.l0, if_pos (by omega), if_pos (by omega), bt_L s i hlt, w64 (by omega), drop_cons _ i hlt, List.foldl_cons, u64_wrap, u64_wrap, u64_wrap, ← Int.add_emod]
    exact ih k (i + 1) _ (by omega) (by omega) (by omega) (Int.emod_nonneg _ (by omega))
theorem rget {k : Nat} (hk : 10 ≤ k) (s : ByteArray) (at_ : Int) (n : Nat) (hn : n ≤ 8) (hs : s.size ≤ 4611686018427387904) (ha : -9223372036854775808 ≤ at_ ∧ at_ ≤ 9223372036854775807) : tenancyref04_get.f k s at_ (n : Int) = some (getN (L s) at_ n, cutB (L s) at_ n) := by
  have hr := getN_range (L s) at_ n
  have hc := cut_small (L s) at_ n
  unfold tenancyref04_get.f
  rw [rcut s at_ n hs ha (by omega)]
  simp only [Option.bind_some]
  rw [show ((0 : Int)) = ((0 : Nat) : Int) from rfl]
  rw [rloop (B (cutL (L s) at_ n)) _ (by rw [L_B]; omega) _ k 0 ((0 : Nat) : Int) rfl (by omega) (by rw [L_B]; omega) (by omega)]
  rw [List.drop_zero, L_B, show (((0 : Nat) : Int)) = (0 : Int) % 18446744073709551616 from rfl, fold_mod]
  refine congrArg some (Prod.ext ?_ rfl)
  show (num (cutL (L s) at_ n)) % 18446744073709551616 = getN (L s) at_ n
  unfold getN at hr ⊢
  have h8 : (256 : Nat) ^ n ≤ 256 ^ 8 := Nat.pow_le_pow_right (by omega) hn
  have h9 : ((256 ^ n : Nat) : Int) ≤ ((256 ^ 8 : Nat) : Int) := Int.ofNat_le.2 h8
  rw [Int.natCast_pow] at h9
  have h10 : ((256 ^ 8 : Nat) : Int) = 18446744073709551616 := by decide
  rw [h10] at h9
  exact Int.emod_eq_of_lt hr.1 (Int.lt_of_lt_of_le hr.2 h9)
theorem rget16 {k : Nat} (hk : 10 ≤ k) (s : ByteArray) (at_ : Int) (hs : s.size ≤ 4611686018427387904) (ha : -9223372036854775808 ≤ at_ ∧ at_ ≤ 9223372036854775807) : tenancyref04_Get16.f k s at_ = some (getN (L s) at_ 2, cutB (L s) at_ 2) := by
  have hr : 0 ≤ getN (L s) at_ 2 ∧ getN (L s) at_ 2 < 256 ^ 2 := getN_range (L s) at_ 2
  unfold tenancyref04_Get16.f
  rw [show (2 : Int) = ((2 : Nat) : Int) from rfl, rget hk s at_ 2 (by omega) hs ha]
  simp only [Option.bind_some]
  rw [u16_wrap]
  refine congrArg some (Prod.ext ?_ rfl)
  exact Int.emod_eq_of_lt hr.1 (by simpa using hr.2)
theorem rtakeRun {k : Nat} (hk : 10 ≤ k) (s : ByteArray) (at_ : Int) (hs : s.size ≤ 4611686018427387904) (ha : -9223372036854775808 ≤ at_ ∧ at_ ≤ 9223372036854775807) :
    tenancyref04_TakeRun.f k s at_ = some (B (takeL (L s) at_), takeTo (L s) at_, takeOk (L s) at_) := by
  have hl : ((L s).length : Int) = s.size := by rw [size_L]
  have hr : 0 ≤ getN (L s) at_ 2 ∧ getN (L s) at_ 2 < 256 ^ 2 := getN_range (L s) at_ 2
  have hr2 : getN (L s) at_ 2 < 65536 := by simpa using hr.2
  unfold tenancyref04_TakeRun.f takeL takeTo takeOk
  rw [rget16 hk s at_ hs ha]
  simp only [Option.bind_some]
  by_cases h1 : cutB (L s) at_ 2 = true
  · have hb := cutB_bound h1
    rw [if_pos h1, h1, w64 (n := at_ + 2) (by omega), w64 (n := getN (L s) at_ 2) (by omega), rcut s _ _ hs (by omega) (by omega)]
    simp only [Option.bind_some, Bool.true_and]
    by_cases h2 : cutB (L s) (at_ + 2) (getN (L s) at_ 2) = true
    · have hb2 := cutB_bound h2
      rw [if_pos h2, h2, if_pos rfl, if_pos rfl, w64 (by omega)]
    · replace h2 := Bool.eq_false_iff.mpr h2
      rw [h2, if_neg (by decide), if_neg (by decide), if_neg (by decide)]; rfl
  · replace h1 := Bool.eq_false_iff.mpr h1
    rw [h1, if_neg (by decide)]
    rfl
end Go.Proofs.Ytngojiikkokajaa.Oct
