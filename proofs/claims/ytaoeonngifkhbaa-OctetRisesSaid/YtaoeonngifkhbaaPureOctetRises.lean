/- The plain statement of OctetRises: bytes rise as numbers do: no condition. -/
import Derived.Test.YtaoeonngifkhbaaX5
import Derived.Test.YtaoeonngifkhbaaX4
import Derived.Test.YtaoeonngifkhbaaXOct
set_option linter.unusedVariables false
set_option linter.unusedSimpArgs false
namespace Go.Proofs.Ytaoeonngifkhbaa.Pure
open Go.RowKit Go.Proofs.YtaoeonngifkhbaaW.PrintWords Go.Proofs.YtaoeonngifkhbaaW.PrintLast Go.Proofs.YtaoeonngifkhbaaW.PrintMore Go.Proofs.Ytaoeonngifkhbaa.X Go.Proofs.Ytaoeonngifkhbaa.Oct

theorem awake_true1 {k : Nat} (hk : 12 ≤ k) : tenancylaw04_awake.f k = some true :=
  at_rounds tenancylaw04_awake.mono hk (by decide +kernel)
/-- Bytes of one length are in order as their numbers are. -/
theorem less_num : ∀ (a b : List UInt8), a.length = b.length → Op.bytesLess a b = decide (num a < num b)
  | [], [], _ => by simp [Op.bytesLess]
  | x :: a, y :: b, h => by
    have hl : a.length = b.length := by simpa using h
    have ih := less_num a b hl
    have ra := num_range a
    have rb := num_range b
    rw [num_cons, num_cons, hl] at *
    have hp : (0 : Int) < 256 ^ b.length := Int.pow_pos (by omega)
    rw [Op.bytesLess, ih]
    have hx : (x < y) ↔ x.toNat < y.toNat := UInt8.lt_iff_toNat_lt
    rcases Nat.lt_trichotomy x.toNat y.toNat with h1 | h1 | h1
    · have h2 : (x.toNat : Int) + 1 ≤ (y.toNat : Int) := by omega
      have h3 : ((x.toNat : Int) + 1) * 256 ^ b.length ≤ (y.toNat : Int) * 256 ^ b.length := Int.mul_le_mul_of_nonneg_right h2 (Int.le_of_lt hp)
      rw [Int.add_mul, Int.one_mul] at h3
      have h4 : decide ((x.toNat : Int) * 256 ^ b.length + num a < (y.toNat : Int) * 256 ^ b.length + num b) = true := decide_eq_true (by omega)
      rw [h4]
      simp [hx, h1]
    · have h2 : x = y := UInt8.toNat_inj.1 h1
      subst h2
      have h5 : ¬ x < x := by rw [hx]; omega
      simp [h5]
    · have h2 : (y.toNat : Int) + 1 ≤ (x.toNat : Int) := by omega
      have h3 : ((y.toNat : Int) + 1) * 256 ^ b.length ≤ (x.toNat : Int) * 256 ^ b.length := Int.mul_le_mul_of_nonneg_right h2 (Int.le_of_lt hp)
      rw [Int.add_mul, Int.one_mul] at h3
      have h4 : decide ((x.toNat : Int) * 256 ^ b.length + num a < (y.toNat : Int) * 256 ^ b.length + num b) = false := decide_eq_false (by omega)
      have h5 : ¬ x < y := by rw [hx]; omega
      have h6 : ¬ x = y := fun h => by subst h; omega
      rw [h4]
      simp [h5, h6]
theorem less8 (a b : Int) (ha : 0 ≤ a ∧ a < 18446744073709551616) (hb : 0 ≤ b ∧ b < 18446744073709551616) : Op.bytesLess (be8 a) (be8 b) = decide (a < b) := by
  rw [less_num _ _ (by rw [be8_length, be8_length]), num_be8 a ha.1 ha.2, num_be8 b hb.1 hb.2]
theorem less16 (a b c d : Int) (ha : 0 ≤ a ∧ a < 18446744073709551616) (hb : 0 ≤ b ∧ b < 18446744073709551616) (hc : 0 ≤ c ∧ c < 18446744073709551616) (hd : 0 ≤ d ∧ d < 18446744073709551616) :
    Op.bytesLess (be8 a ++ be8 b) (be8 c ++ be8 d) = decide (a < c ∨ a = c ∧ b < d) := by
  rw [less_num _ _ (by simp [be8_length]), num_append, num_append, be8_length, be8_length, num_be8 a ha.1 ha.2, num_be8 b hb.1 hb.2, num_be8 c hc.1 hc.2, num_be8 d hd.1 hd.2]
  apply decide_eq_decide.2
  simp only [show (256 : Int) ^ 8 = 18446744073709551616 from rfl]
  omega
theorem OctetRises : tenancylaw04_OctetRises.Pure := by
  intro x y hx hy
  obtain ⟨hx0, hx1⟩ := hx
  obtain ⟨hy0, hy1⟩ := hy
  have a0 := wf_u64 hx0
  have a1 := wf_u64 hx1
  have b0 := wf_u64 hy0
  have b1 := wf_u64 hy1
  refine ⟨30, ?_⟩
  have key : ∀ b : Bool, b = decide (x.f0 < y.f0 ∨ x.f0 = y.f0 ∧ x.f1 < y.f1) → tenancylaw04_OctetRises.j0 30 b x.f0 x.f1 y.f0 y.f1 = some true := by
    intro b hb
    rw [tenancylaw04_OctetRises.j0, putAddr (by omega) _ _ a0 a1, putAddr (by omega) _ _ b0 b1, Put64 (by omega) _ a1.1 a1.2, Put64 (by omega) _ b1.1 b1.2]
    simp only [Option.bind_some]
    rw [if_pos (by rw [size_B]; rfl), toList_L, toList_L, toList_L, toList_L, L_B, L_B, L_B, L_B, less16 _ _ _ _ a0 a1 b0 b1, less8 _ _ a1 b1, hb]
    simp
  unfold tenancylaw04_OctetRises.f
  rw [awake_true1 (by omega)]
  simp only [Option.bind_some, if_true]
  by_cases h1 : x.f0 < y.f0
  · rw [if_pos h1]
    exact key _ (by simp [h1])
  · rw [if_neg h1]
    by_cases h2 : x.f0 = y.f0
    · rw [if_pos h2]
      exact key _ (by simp [h1, h2])
    · rw [if_neg h2]
      exact key _ (by simp [h1, h2])
end Go.Proofs.Ytaoeonngifkhbaa.Pure
