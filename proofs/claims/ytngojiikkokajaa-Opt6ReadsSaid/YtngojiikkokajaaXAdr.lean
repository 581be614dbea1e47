/- Prefixes as the program reckons them: plain lemmas; conditions: numbers are of their kind. -/
import Derived.Test.YtngojiikkokajaaG0
import Derived.Test.YtngojiikkokajaaG1
import Derived.Test.YtngojiikkokajaaG2
import Derived.Test.YtngojiikkokajaaG3
import Derived.Test.YtngojiikkokajaaG4
import Derived.Test.YtngojiikkokajaaG5
import Derived.Laws.BitsAllLaws
import Derived.Lib.Strings
import Derived.Test.YtngojiikkokajaaXPre
set_option linter.unusedVariables false
set_option linter.unusedSimpArgs false
namespace Go.Proofs.Ytngojiikkokajaa.Adr
open Go.RowKit Go.Proofs.YtngojiikkokajaaW.PrintWords Go.Proofs.YtngojiikkokajaaW.PrintLast Go.Proofs.YtngojiikkokajaaW.PrintMore Go.Proofs.Ytngojiikkokajaa.X Go.Proofs.Ytngojiikkokajaa.Pre

theorem u64_wrap (n : Int) : IntKind.u64.wrap n = n % 18446744073709551616 := by simp [IntKind.wrap, IntKind.bits, IntKind.signed]
theorem shr_nat (h m : Nat) (hm : m ≤ 64) : shr .u64 (h : Int) (m : Int) = ((h / 2 ^ m : Nat) : Int) := by
  unfold shr
  rw [Int.toNat_natCast, show min m IntKind.u64.bits = m from Nat.min_eq_left hm]
  norm_cast
theorem shl_nat (h m : Nat) (hm : m ≤ 64) : shl .u64 (h : Int) (m : Int) = ((h * 2 ^ m % 18446744073709551616 : Nat) : Int) := by
  unfold shl
  rw [Int.toNat_natCast, show min m IntKind.u64.bits = m from Nat.min_eq_left hm, u64_wrap, Int.natCast_emod, Int.natCast_mul, Int.natCast_pow]
  rfl
theorem or_add (j x y : Nat) (hx : x % 2 ^ j = 0) (hy : y < 2 ^ j) : x ||| y = x + y := by
  have h := Nat.shiftLeft_add_eq_or_of_lt hy (x / 2 ^ j)
  rw [Nat.shiftLeft_eq, Nat.div_mul_cancel (Nat.dvd_of_mod_eq_zero hx)] at h
  exact h.symm
theorem pow64 (m : Nat) (hm : m ≤ 64) : 2 ^ m * 2 ^ (64 - m) = 18446744073709551616 := by
  rw [← Nat.pow_add, show m + (64 - m) = 64 by omega]
/-- The lower half of a number turned down by m. -/
def lowd (m h l : Nat) : Nat := (h % 2 ^ m) * 2 ^ (64 - m) + l / 2 ^ m
theorem low_or (m h l : Nat) (hm : m ≤ 64) (hl : l < 18446744073709551616) : (l / 2 ^ m) ||| (h * 2 ^ (64 - m) % 18446744073709551616) = lowd m h l := by
  have hp := pow64 m hm
  have h1 : h * 2 ^ (64 - m) % 18446744073709551616 = (h % 2 ^ m) * 2 ^ (64 - m) := by
    rw [← hp, Nat.mul_mod_mul_right]
  have h2 : l / 2 ^ m < 2 ^ (64 - m) := by
    rw [Nat.div_lt_iff_lt_mul (Nat.two_pow_pos m), Nat.mul_comm, hp]; exact hl
  rw [h1, Nat.or_comm, or_add (64 - m) _ _ (Nat.mul_mod_left _ _) h2]
  rfl
theorem lowd_lt (m h l : Nat) (hm : m ≤ 64) (hl : l < 18446744073709551616) : lowd m h l < 18446744073709551616 := by
  have hp := pow64 m hm
  have h2 : l / 2 ^ m < 2 ^ (64 - m) := by
    rw [Nat.div_lt_iff_lt_mul (Nat.two_pow_pos m), Nat.mul_comm, hp]; exact hl
  have h3 : h % 2 ^ m + 1 ≤ 2 ^ m := Nat.mod_lt _ (Nat.two_pow_pos m)
  have h4 := Nat.mul_le_mul_right (2 ^ (64 - m)) h3
  rw [hp, Nat.add_mul, Nat.one_mul] at h4
  unfold lowd
  omega
theorem down_small {n : Int} (h l : Nat) (hn : n ≤ 0) : addr_Down.f h l n = some ((h : Int), (l : Int)) := by
  unfold addr_Down.f; rw [if_pos hn]
theorem down_mid (m h l : Nat) (h0 : 0 < m) (hm : m < 64) (hh : h < 18446744073709551616) (hl : l < 18446744073709551616) : addr_Down.f h l (m : Int) = some (((h / 2 ^ m : Nat) : Int), ((lowd m h l : Nat) : Int)) := by
  unfold addr_Down.f
  have hw : wrap64 (64 - (m : Int)) = ((64 - m : Nat) : Int) := by unfold wrap64; omega
  have hd : l / 2 ^ m < 18446744073709551616 := Nat.lt_of_le_of_lt (Nat.div_le_self _ _) hl
  rw [if_neg (by omega), if_neg (by omega), if_pos (by omega), hw, if_pos (by omega), shr_nat _ _ (by omega), shr_nat _ _ (by omega), shl_nat _ _ (by omega), u64_or_nat _ _ hd (Nat.mod_lt _ (by decide)), low_or m h l (by omega) hl]
theorem down_high (m h l : Nat) (hm : 64 ≤ m) (hm2 : m ≤ 128) : addr_Down.f h l (m : Int) = some (0, ((h / 2 ^ (m - 64) : Nat) : Int)) := by
  unfold addr_Down.f
  have hw : wrap64 ((m : Int) - 64) = ((m - 64 : Nat) : Int) := by unfold wrap64; omega
  rw [if_neg (by omega), if_pos (by omega), hw, if_pos (by omega), shr_nat _ _ (by omega)]
theorem up_small {n : Int} (h l : Nat) (hn : n ≤ 0) : addr_Up.f h l n = some ((h : Int), (l : Int)) := by
  unfold addr_Up.f; rw [if_pos hn]
theorem up_mid (m h l : Nat) (h0 : 0 < m) (hm : m < 64) (hl : l < 18446744073709551616) : addr_Up.f h l (m : Int) = some ((((h * 2 ^ m % 18446744073709551616) ||| (l / 2 ^ (64 - m)) : Nat) : Int), ((l * 2 ^ m % 18446744073709551616 : Nat) : Int)) := by
  unfold addr_Up.f
  have hw : wrap64 (64 - (m : Int)) = ((64 - m : Nat) : Int) := by unfold wrap64; omega
  have hd : l / 2 ^ (64 - m) < 18446744073709551616 := Nat.lt_of_le_of_lt (Nat.div_le_self _ _) hl
  rw [if_neg (by omega), if_neg (by omega), if_pos (by omega), hw, if_pos (by omega), shr_nat _ _ (by omega), shl_nat _ _ (by omega), shl_nat _ _ (by omega), u64_or_nat _ _ (Nat.mod_lt _ (by decide)) hd]
theorem up_high (m h l : Nat) (hm : 64 ≤ m) (hm2 : m ≤ 128) : addr_Up.f h l (m : Int) = some (((l * 2 ^ (m - 64) % 18446744073709551616 : Nat) : Int), 0) := by
  unfold addr_Up.f
  have hw : wrap64 ((m : Int) - 64) = ((m - 64 : Nat) : Int) := by unfold wrap64; omega
  rw [if_neg (by omega), if_pos (by omega), hw, if_pos (by omega), shl_nat _ _ (by omega)]
/-- What a clipped number's halves are. -/
def ch (m h : Nat) : Nat := if 64 ≤ m then clip (m - 64) h else h
def cl (m l : Nat) : Nat := if 64 ≤ m then 0 else clip m l
theorem cW (m h l : Nat) (hm : m ≤ 128) (hl : l < 18446744073709551616) : W (ch m h) (cl m l) = clip m (W h l) := by
  unfold ch cl
  by_cases h1 : 64 ≤ m
  · rw [if_pos h1, if_pos h1]
    obtain ⟨d, rfl⟩ : ∃ d, m = d + 64 := ⟨m - 64, by omega⟩
    rw [clip_high d h l hl, Nat.add_sub_cancel]
  · rw [if_neg h1, if_neg h1, clip_low m h l (by omega)]
theorem clip_le' (k A : Nat) : clip k A ≤ A := clip_le k A
theorem ch_lt (m h : Nat) (hh : h < 18446744073709551616) : ch m h < 18446744073709551616 := by
  unfold ch; split
  · exact Nat.lt_of_le_of_lt (clip_le _ _) hh
  · exact hh
theorem cl_lt (m l : Nat) (hl : l < 18446744073709551616) : cl m l < 18446744073709551616 := by
  unfold cl; split
  · decide
  · exact Nat.lt_of_le_of_lt (clip_le _ _) hl
theorem updown (m h l : Nat) (hm : m ≤ 128) (hh : h < 18446744073709551616) (hl : l < 18446744073709551616) :
    ((addr_Down.f h l (m : Int)).bind fun b => (addr_Up.f b.1 b.2 (m : Int)).bind fun c => some (c.1, c.2)) = some (((ch m h : Nat) : Int), ((cl m l : Nat) : Int)) := by
  unfold ch cl
  by_cases h1 : 64 ≤ m
  · rw [if_pos h1, if_pos h1, down_high m h l h1 hm, Option.bind_some]
    show ((addr_Up.f ((0 : Nat) : Int) _ _).bind _) = _
    rw [up_high m 0 _ h1 hm, Option.bind_some, Nat.mod_eq_of_lt (Nat.lt_of_le_of_lt (Nat.div_mul_le_self _ _) hh)]
    rfl
  · rw [if_neg h1, if_neg h1]
    by_cases h0 : m = 0
    · subst h0
      rw [down_small h l (by decide), Option.bind_some]
      show ((addr_Up.f (h : Int) (l : Int) _).bind _) = _
      rw [up_small h l (by decide), Option.bind_some]
      simp [clip]
    · rw [down_mid m h l (by omega) (by omega) hh hl, Option.bind_some]
      show ((addr_Up.f ((h / 2 ^ m : Nat) : Int) ((lowd m h l : Nat) : Int) _).bind _) = _
      have hp := pow64 m (by omega)
      have h2 : l / 2 ^ m < 2 ^ (64 - m) := by
        rw [Nat.div_lt_iff_lt_mul (Nat.two_pow_pos m), Nat.mul_comm, hp]; exact hl
      have e1 : lowd m h l / 2 ^ (64 - m) = h % 2 ^ m := by
        unfold lowd
        rw [Nat.add_comm, Nat.add_mul_div_right _ _ (Nat.two_pow_pos _), Nat.div_eq_of_lt h2, Nat.zero_add]
      have e2 : lowd m h l * 2 ^ m % 18446744073709551616 = clip m l := by
        unfold lowd clip
        rw [Nat.add_mul, Nat.mul_assoc, Nat.mul_comm (2 ^ (64 - m)), hp, Nat.add_comm, Nat.add_mul_mod_self_right, Nat.mod_eq_of_lt]
        exact Nat.lt_of_le_of_lt (Nat.div_mul_le_self _ _) hl
      have e3 : h / 2 ^ m * 2 ^ m % 18446744073709551616 = h / 2 ^ m * 2 ^ m := Nat.mod_eq_of_lt (Nat.lt_of_le_of_lt (Nat.div_mul_le_self _ _) hh)
      have e4 : h / 2 ^ m * 2 ^ m ||| h % 2 ^ m = h := by
        rw [or_add m _ _ (Nat.mul_mod_left _ _) (Nat.mod_lt _ (Nat.two_pow_pos m)), Nat.mul_comm, Nat.div_add_mod]
      rw [up_mid m _ _ (by omega) (by omega) (lowd_lt m h l (by omega) hl), Option.bind_some, e1, e2, e3, e4]
theorem clip_eq {k : Nat} (hk : 1 ≤ k) (h l : Nat) (hh : h < 18446744073709551616) (hl : l < 18446744073709551616) (n : Int) (h0 : 0 ≤ n) (h1 : n ≤ 128) :
    addr_Clip.f k h l n = some (((ch (128 - n).toNat h : Nat) : Int), ((cl (128 - n).toNat l : Nat) : Int), n, true) := by
  obtain ⟨j, rfl⟩ : ∃ j, k = j + 1 := ⟨k - 1, by omega⟩
  unfold addr_Clip.f
  have hw : wrap64 (128 - n) = (((128 - n).toNat : Nat) : Int) := by unfold wrap64; omega
  rw [if_neg (by omega), addr_Clip.j0, decide_eq_false (by omega), if_neg (by decide), hw]
  have hu := updown (128 - n).toNat h l (by omega) hh hl
  obtain ⟨b, hb, hu⟩ := Option.bind_eq_some_iff.1 hu
  obtain ⟨c, hc, hu⟩ := Option.bind_eq_some_iff.1 hu
  simp only [Option.some.injEq, Prod.mk.injEq] at hu
  rw [hb, Option.bind_some, hc, Option.bind_some, hu.1, hu.2]
theorem clip_bad {k : Nat} (hk : 1 ≤ k) (h l n : Int) (hn : n < 0 ∨ n > 128) : addr_Clip.f k h l n = some (0, 0, 0, false) := by
  obtain ⟨j, rfl⟩ : ∃ j, k = j + 1 := ⟨k - 1, by omega⟩
  unfold addr_Clip.f
  by_cases h0 : n < 0
  · rw [if_pos h0, addr_Clip.j0, if_pos rfl]
  · rw [if_neg h0, addr_Clip.j0, decide_eq_true (by omega), if_pos rfl]
/-- A prefix: so many bits, and nothing behind them. -/
def snd (h l : Nat) (n : Int) : Prop := 0 ≤ n ∧ n ≤ 128 ∧ clip (128 - n).toNat (W h l) = W h l
instance (h l : Nat) (n : Int) : Decidable (snd h l n) := by unfold snd; infer_instance
theorem cheq (m h l : Nat) (hm : m ≤ 128) (hh : h < 18446744073709551616) (hl : l < 18446744073709551616) : (ch m h = h ∧ cl m l = l) ↔ clip m (W h l) = W h l := by
  rw [← cW m h l hm hl]
  constructor
  · rintro ⟨e1, e2⟩; rw [e1, e2]
  · intro e; exact W_inj (cl_lt m l hl) hl e
theorem sound_eq {k : Nat} (hk : 1 ≤ k) (h l : Nat) (hh : h < 18446744073709551616) (hl : l < 18446744073709551616) (n : Int) : addr_Sound.f k h l n = some (decide (snd h l n)) := by
  unfold addr_Sound.f
  by_cases hn : 0 ≤ n ∧ n ≤ 128
  · rw [clip_eq hk h l hh hl n hn.1 hn.2, Option.bind_some, if_pos rfl]
    congr 1
    have hc := cheq (128 - n).toNat h l (by omega) hh hl
    rw [Bool.eq_iff_iff]
    simp only [Bool.and_eq_true, beq_iff_eq, decide_eq_true_eq, Int.natCast_inj]
    unfold snd
    rw [← hc]
    constructor
    · rintro ⟨⟨e1, e2⟩, _⟩; exact ⟨hn.1, hn.2, e1, e2⟩
    · rintro ⟨_, _, e1, e2⟩; exact ⟨⟨e1, e2⟩, trivial⟩
  · rw [clip_bad hk _ _ n (by omega), Option.bind_some, if_neg (by decide), decide_eq_false]
    unfold snd
    omega
end Go.Proofs.Ytngojiikkokajaa.Adr
