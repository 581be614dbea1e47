/- Prefixes bit by bit: plain lemmas; conditions: numbers are of their kind. -/
import Derived.Test.YtngojiikkokajaaG0
import Derived.Test.YtngojiikkokajaaG1
import Derived.Test.YtngojiikkokajaaG2
import Derived.Test.YtngojiikkokajaaG3
import Derived.Test.YtngojiikkokajaaG4
import Derived.Test.YtngojiikkokajaaG5
import Derived.Test.YtngojiikkokajaaG8
import Derived.Laws.BitsAllLaws
import Derived.Lib.Strings
import Derived.Test.YtngojiikkokajaaXO2
set_option linter.unusedVariables false
set_option linter.unusedSimpArgs false
namespace Go.Proofs.Ytngojiikkokajaa.O6
open Go Go.RowKit Go.Proofs.YtngojiikkokajaaW.PrintWords Go.Proofs.YtngojiikkokajaaW.PrintLast Go.Proofs.YtngojiikkokajaaW.PrintMore Go.Proofs.Ytngojiikkokajaa.X Go.Proofs.Ytngojiikkokajaa.Oct Go.Proofs.Ytngojiikkokajaa.Adr Go.Proofs.Ytngojiikkokajaa.Pre

/-- One bit, the first is the highest. -/
def bitn (h l i : Nat) : Nat := if i < 64 then h / 2 ^ (63 - i) % 2 else l / 2 ^ (127 - i) % 2
theorem and_one (x : Nat) (hx : x < 18446744073709551616) : Go.bits .and .u64 (x : Int) 1 = ((x % 2 : Nat) : Int) := by
  have := Go.u64_and_nat x 1 hx (by decide)
  rw [Nat.and_one_is_mod] at this
  exact this
theorem bit_eq (h l i : Nat) (hh : h < 18446744073709551616) (hl : l < 18446744073709551616) (hi : i < 128) : tenancyref01_bit.f h l (i : Int) = some ((bitn h l i : Nat) : Int) := by
  unfold tenancyref01_bit.f bitn
  by_cases c : i < 64
  · have hw : IntKind.u64.wrap (wrap64 (63 - (i : Int))) = ((63 - i : Nat) : Int) := by rw [Adr.u64_wrap]; unfold wrap64; omega
    rw [if_pos (by omega), if_pos c, hw, if_pos (by omega), shr_nat _ _ (by omega), and_one _ (Nat.lt_of_le_of_lt (Nat.div_le_self _ _) hh)]
  · have hw : IntKind.u64.wrap (wrap64 (127 - (i : Int))) = ((127 - i : Nat) : Int) := by rw [Adr.u64_wrap]; unfold wrap64; omega
    rw [if_neg (by omega), if_neg c, hw, if_pos (by omega), shr_nat _ _ (by omega), and_one _ (Nat.lt_of_le_of_lt (Nat.div_le_self _ _) hl)]
theorem pow_small (m : Nat) (hm : m < 64) : 2 ^ m < 18446744073709551616 := by
  have := Nat.pow_lt_pow_right (a := 2) (by decide) hm
  omega
theorem shl_one (m : Nat) (hm : m < 64) : shl .u64 1 (m : Int) = ((2 ^ m : Nat) : Int) := by
  have h := shl_nat 1 m (by omega)
  rw [Nat.one_mul, Nat.mod_eq_of_lt (pow_small m hm)] at h
  exact h
theorem with_hi (h l i : Nat) (hh : h < 18446744073709551616) (hi : i < 64) : tenancyref01_with.f h l (i : Int) = some (((h ||| 2 ^ (63 - i) : Nat) : Int), (l : Int)) := by
  unfold tenancyref01_with.f
  have hw : IntKind.u64.wrap (wrap64 (63 - (i : Int))) = ((63 - i : Nat) : Int) := by rw [Adr.u64_wrap]; unfold wrap64; omega
  rw [if_pos (by omega), hw, if_pos (by omega), shl_one _ (by omega), Go.u64_or_nat _ _ hh (pow_small _ (by omega))]
theorem with_lo (h l i : Nat) (hl : l < 18446744073709551616) (hi : 64 ≤ i) (hi2 : i < 128) : tenancyref01_with.f h l (i : Int) = some ((h : Int), ((l ||| 2 ^ (127 - i) : Nat) : Int)) := by
  unfold tenancyref01_with.f
  have hw : IntKind.u64.wrap (wrap64 (127 - (i : Int))) = ((127 - i : Nat) : Int) := by rw [Adr.u64_wrap]; unfold wrap64; omega
  rw [if_neg (by omega), hw, if_pos (by omega), shl_one _ (by omega), Go.u64_or_nat _ _ hl (pow_small _ (by omega))]
theorem clip_top (A : Nat) (h : A < 18446744073709551616) : clip 64 A = 0 := by
  unfold clip
  rw [Nat.div_eq_of_lt (by omega), Nat.zero_mul]
theorem bit_set (j A : Nat) (h : A / 2 ^ j % 2 = 1) : clip (j + 1) A ||| 2 ^ j = clip j A := by
  rw [or_bit, clip_bit j A, h, Nat.one_mul]
theorem bit_unset (j A : Nat) (h : ¬ A / 2 ^ j % 2 = 1) : clip (j + 1) A = clip j A := by
  rw [clip_bit j A, show A / 2 ^ j % 2 = 0 by omega, Nat.zero_mul]; rfl
theorem clip_lt64 (k A : Nat) (h : A < 18446744073709551616) : clip k A < 18446744073709551616 := Nat.lt_of_le_of_lt (clip_le k A) h
theorem clip_loop (h l : Nat) (hh : h < 18446744073709551616) (hl : l < 18446744073709551616) (n : Nat) (hn : n ≤ 128) : ∀ (d k i : Nat), i + d = n → d < k →
    tenancyref01_Clip.l0 k (n : Int) (i : Int) h l (ch (128 - i) h : Nat) (cl (128 - i) l : Nat) = some (((ch (128 - n) h : Nat) : Int), ((cl (128 - n) l : Nat) : Int), (n : Int), true)
  | 0, k, i, hi, hk => by
    obtain ⟨j, rfl⟩ : ∃ j, k = j + 1 := ⟨k - 1, by omega⟩
    rw [tenancyref01_Clip.l0, if_neg (by omega), show i = n by omega]
  | d + 1, k, i, hi, hk => by
    obtain ⟨j, rfl⟩ : ∃ j, k = j + 1 := ⟨k - 1, by omega⟩
    have ih := clip_loop h l hh hl n hn d j (i + 1) (by omega) (by omega)
    have hwi : wrap64 ((i : Int) + 1) = ((i + 1 : Nat) : Int) := by unfold wrap64; omega
    rw [tenancyref01_Clip.l0, if_pos (by omega), bit_eq h l i hh hl (by omega), Option.bind_some, hwi]
    unfold bitn
    by_cases c : i < 64
    · have e1 : ch (128 - i) h = clip (63 - i + 1) h := by unfold ch; rw [if_pos (by omega)]; congr 1; omega
      have e2 : ch (128 - (i + 1)) h = clip (63 - i) h := by unfold ch; rw [if_pos (by omega)]; congr 1; omega
      have e3 : cl (128 - i) l = 0 := by unfold cl; rw [if_pos (by omega)]
      have e4 : cl (128 - (i + 1)) l = 0 := by unfold cl; rw [if_pos (by omega)]
      rw [e2, e4] at ih
      rw [if_pos c, e1, e3]
      by_cases b : h / 2 ^ (63 - i) % 2 = 1
      · rw [if_pos (by omega), with_hi _ _ i (clip_lt64 _ _ hh) c, Option.bind_some, bit_set _ _ b]
        exact ih
      · rw [if_neg (by omega), bit_unset _ _ b]
        exact ih
    · have e1 : ch (128 - i) h = h := by
        unfold ch
        split
        · rw [show 128 - i - 64 = 0 by omega, clip_zero]
        · rfl
      have e2 : ch (128 - (i + 1)) h = h := by unfold ch; rw [if_neg (by omega)]
      have e3 : cl (128 - i) l = clip (127 - i + 1) l := by
        unfold cl
        split
        · rw [show 127 - i + 1 = 64 by omega, clip_top l hl]
        · congr 1; omega
      have e4 : cl (128 - (i + 1)) l = clip (127 - i) l := by unfold cl; rw [if_neg (by omega)]; congr 1; omega
      rw [e2, e4] at ih
      rw [if_neg c, e1, e3]
      by_cases b : l / 2 ^ (127 - i) % 2 = 1
      · rw [if_pos (by omega), with_lo _ _ i (clip_lt64 _ _ hl) (by omega) (by omega), Option.bind_some, bit_set _ _ b]
        exact ih
      · rw [if_neg (by omega), bit_unset _ _ b]
        exact ih
theorem rclip_eq {k : Nat} (hk : 200 ≤ k) (h l : Nat) (hh : h < 18446744073709551616) (hl : l < 18446744073709551616) (n : Int) (h0 : 0 ≤ n) (h1 : n ≤ 128) :
    tenancyref01_Clip.f k h l n = some (((ch (128 - n).toNat h : Nat) : Int), ((cl (128 - n).toNat l : Nat) : Int), n, true) := by
  obtain ⟨j, rfl⟩ : ∃ j, k = j + 1 := ⟨k - 1, by omega⟩
  obtain ⟨m, rfl⟩ : ∃ m : Nat, n = (m : Int) := ⟨n.toNat, by omega⟩
  unfold tenancyref01_Clip.f
  rw [if_neg (by omega), tenancyref01_Clip.j0, decide_eq_false (by omega), if_neg (by decide)]
  have := clip_loop h l hh hl m (by omega) m j 0 (by omega) (by omega)
  have c0 : ch (128 - 0) h = 0 := by
    unfold ch
    rw [if_pos (by omega), show 128 - 0 - 64 = 64 by omega]
    exact clip_top h hh
  have c1 : cl (128 - 0) l = 0 := by
    unfold cl
    rw [if_pos (by omega)]
  rw [c0, c1, show ((0 : Nat) : Int) = 0 from rfl] at this
  rw [show (128 - (m : Int)).toNat = 128 - m by omega]
  exact this
theorem rclip_bad {k : Nat} (hk : 1 ≤ k) (h l n : Int) (hn : n < 0 ∨ n > 128) : tenancyref01_Clip.f k h l n = some (0, 0, 0, false) := by
  obtain ⟨j, rfl⟩ : ∃ j, k = j + 1 := ⟨k - 1, by omega⟩
  unfold tenancyref01_Clip.f
  by_cases h0 : n < 0
  · rw [if_pos h0, tenancyref01_Clip.j0, if_pos rfl]
  · rw [if_neg h0, tenancyref01_Clip.j0, decide_eq_true (by omega), if_pos rfl]
theorem rsound_eq {k : Nat} (hk : 200 ≤ k) (h l : Nat) (hh : h < 18446744073709551616) (hl : l < 18446744073709551616) (n : Int) : tenancyref01_Sound.f k h l n = some (decide (snd h l n)) := by
  unfold tenancyref01_Sound.f
  by_cases hn : 0 ≤ n ∧ n ≤ 128
  · rw [rclip_eq hk h l hh hl n hn.1 hn.2, Option.bind_some, if_pos rfl]
    congr 1
    have hc := cheq (128 - n).toNat h l (by omega) hh hl
    rw [Bool.eq_iff_iff]
    simp only [Bool.and_eq_true, beq_iff_eq, decide_eq_true_eq, Int.natCast_inj]
    unfold snd
    rw [← hc]
    constructor
    · rintro ⟨⟨e1, e2⟩, _⟩; exact ⟨hn.1, hn.2, e1, e2⟩
    · rintro ⟨_, _, e1, e2⟩; exact ⟨⟨e1, e2⟩, trivial⟩
  · rw [rclip_bad (by omega) _ _ n (by omega), Option.bind_some, if_neg (by decide), decide_eq_false]
    unfold snd
    omega
theorem rsd_eq {k : Nat} (hk : 200 ≤ k) (a b n : Int) (ha : 0 ≤ a ∧ a < 18446744073709551616) (hb : 0 ≤ b ∧ b < 18446744073709551616) : tenancyref01_Sound.f k a b n = some (sd a b n) := by
  have := rsound_eq hk a.toNat b.toNat (by omega) (by omega) n
  rw [Int.toNat_of_nonneg ha.1, Int.toNat_of_nonneg hb.1] at this
  exact this
end Go.Proofs.Ytngojiikkokajaa.O6
