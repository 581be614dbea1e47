/- A prefix's addresses, as the program reckons them; what meets what: plain lemmas; conditions: numbers are of their kind. -/
import Derived.Test.YtpdopkhdhbdljaaXAdr
import Derived.Test.YtpdopkhdhbdljaaXLea
set_option linter.unusedVariables false
set_option linter.unusedSimpArgs false
namespace Go.Proofs.Ytpdopkhdhbdljaa.Adr
open Go.RowKit Go.Proofs.YtpdopkhdhbdljaaW.PrintWords Go.Proofs.YtpdopkhdhbdljaaW.PrintLast Go.Proofs.YtpdopkhdhbdljaaW.PrintMore Go.Proofs.Ytpdopkhdhbdljaa.X Go.Proofs.Ytpdopkhdhbdljaa.Pre Go.Proofs.Ytpdopkhdhbdljaa.Lea

theorem ones_div (n : Nat) (hn : n ≤ 64) : 18446744073709551615 / 2 ^ n = 2 ^ (64 - n) - 1 := by
  have hp := pow64 n hn
  have h1 := Nat.two_pow_pos n
  have h2 := Nat.two_pow_pos (64 - n)
  generalize 2 ^ n = p at *
  generalize 2 ^ (64 - n) = q at *
  have e : 18446744073709551615 = (p - 1) + p * (q - 1) := by
    rw [Nat.mul_sub, hp, Nat.mul_one]
    have : p ≤ p * q := Nat.le_mul_of_pos_right _ h2
    omega
  rw [e, Nat.add_mul_div_left _ _ h1, Nat.div_eq_of_lt (by omega), Nat.zero_add]
theorem ones_low (n : Nat) (hn : n ≤ 64) : lowd n 18446744073709551615 18446744073709551615 = 18446744073709551615 := by
  unfold lowd
  have hp := pow64 n hn
  rw [ones_div n hn]
  have h1 := Nat.two_pow_pos n
  have h2 := Nat.two_pow_pos (64 - n)
  have hm : 18446744073709551615 % 2 ^ n = 2 ^ n - 1 := by
    have := Nat.div_add_mod 18446744073709551615 (2 ^ n)
    rw [ones_div n hn, Nat.mul_sub, hp, Nat.mul_one] at this
    have : 2 ^ n ≤ 2 ^ n * 2 ^ (64 - n) := Nat.le_mul_of_pos_right _ h2
    omega
  rw [hm, Nat.sub_mul, hp, Nat.one_mul]
  have : 2 ^ (64 - n) ≤ 2 ^ n * 2 ^ (64 - n) := Nat.le_mul_of_pos_left _ h1
  omega
theorem clip_mod {k A : Nat} (h : clip k A = A) : A % 2 ^ k = 0 := by
  unfold clip at h
  rw [← h]
  exact Nat.mul_mod_left _ _
theorem span_eq {k : Nat} (hk : 1 ≤ k) (h l : Nat) (hh : h < 18446744073709551616) (hl : l < 18446744073709551616) (n : Int) (hs : snd h l n) :
    ∃ sh sl : Nat, addr_Span.f k h l n = some ((h : Int), (l : Int), (sh : Int), (sl : Int)) ∧ sh < 18446744073709551616 ∧ sl < 18446744073709551616 ∧ W sh sl = W h l + (2 ^ (128 - n).toNat - 1) := by
  have hs' := hs
  obtain ⟨h0, h1, h2⟩ := hs
  have h3 := (cheq (128 - n).toNat h l (by omega) hh hl).2 h2
  unfold ch cl at h3
  have hone : (18446744073709551615 : Int) = ((18446744073709551615 : Nat) : Int) := rfl
  unfold addr_Span.f
  rw [sound_eq hk h l hh hl n, decide_eq_true hs', Option.bind_some, if_pos rfl]
  obtain ⟨m, rfl⟩ := Int.eq_ofNat_of_zero_le h0
  by_cases hm : 64 ≤ m
  · rw [show (128 - (m : Int)).toNat = 128 - m by omega] at *
    rw [hone, down_high m 18446744073709551615 18446744073709551615 hm (by omega), Option.bind_some]
    show ∃ sh sl : Nat, some ((h : Int), (l : Int), Go.bits .or .u64 (h : Int) ((0 : Nat) : Int), Go.bits .or .u64 (l : Int) ((18446744073709551615 / 2 ^ (m - 64) : Nat) : Int)) = _ ∧ _
    have e1 : 18446744073709551615 / 2 ^ (m - 64) = 2 ^ (128 - m) - 1 := by rw [ones_div _ (by omega), show 64 - (m - 64) = 128 - m by omega]
    have hp : 2 ^ (128 - m) ≤ 18446744073709551616 := by
      have := Nat.pow_le_pow_right (n := 2) (by decide) (show 128 - m ≤ 64 by omega)
      simpa using this
    have hp0 := Nat.two_pow_pos (128 - m)
    have hml : l % 2 ^ (128 - m) = 0 := by
      by_cases h64 : m = 64
      · subst h64
        rw [if_pos (by omega), if_pos (by omega)] at h3
        rw [← h3.2]
      · rw [if_neg (by omega), if_neg (by omega)] at h3
        exact clip_mod h3.2
    have hll : l + (2 ^ (128 - m) - 1) < 18446744073709551616 := by
      have := or_add (128 - m) l (2 ^ (128 - m) - 1) hml (by omega)
      rw [← this]
      exact Nat.or_lt_two_pow (n := 64) hl (by omega)
    refine ⟨h, l + (2 ^ (128 - m) - 1), ?_, hh, hll, ?_⟩
    · rw [e1, u64_or_nat _ _ hh (by decide), u64_or_nat _ _ hl (by omega), Nat.or_zero, or_add (128 - m) _ _ hml (by omega)]
    · unfold W; omega
  · rw [show (128 - (m : Int)).toNat = 128 - m by omega] at *
    rw [if_pos (by omega), if_pos (by omega)] at h3
    have hl0 : l = 0 := h3.2.symm
    subst hl0
    have hmh : h % 2 ^ (64 - m) = 0 := by
      have := clip_mod h3.1
      rwa [show 128 - m - 64 = 64 - m by omega] at this
    have hp0 := Nat.two_pow_pos (64 - m)
    have e2 : 2 ^ (128 - m) = 2 ^ (64 - m) * 18446744073709551616 := by
      rw [show 128 - m = (64 - m) + 64 by omega, Nat.pow_add]
    have hp : 2 ^ (64 - m) ≤ 18446744073709551616 := by
      have := Nat.pow_le_pow_right (n := 2) (by decide) (show 64 - m ≤ 64 by omega)
      simpa using this
    have hd : addr_Down.f 18446744073709551615 18446744073709551615 (m : Int) = some (((2 ^ (64 - m) - 1 : Nat) : Int), ((18446744073709551615 : Nat) : Int)) := by
      by_cases hm0 : m = 0
      · subst hm0
        rw [hone, down_small _ _ (by decide)]
      · rw [hone, down_mid m _ _ (by omega) (by omega) (by decide) (by decide), ones_div m (by omega), ones_low m (by omega)]
    rw [hd, Option.bind_some]
    have hll : h + (2 ^ (64 - m) - 1) < 18446744073709551616 := by
      have := or_add (64 - m) h (2 ^ (64 - m) - 1) hmh (by omega)
      rw [← this]
      exact Nat.or_lt_two_pow (n := 64) hh (by omega)
    refine ⟨h + (2 ^ (64 - m) - 1), 18446744073709551615, ?_, hll, by decide, ?_⟩
    · rw [u64_or_nat _ _ hh (by omega), or_add (64 - m) _ _ hmh (by omega)]
      show some (_, _, _, Go.bits .or .u64 ((0 : Nat) : Int) ((18446744073709551615 : Nat) : Int)) = _
      rw [u64_or_nat _ _ (by decide) (by decide), Nat.zero_or]
    · rw [e2]; unfold W
      have : 1 ≤ 2 ^ (64 - m) := hp0
      generalize 2 ^ (64 - m) = p at *
      omega
theorem cmp_le (a b c d : Nat) (hb : b < 18446744073709551616) (hd : d < 18446744073709551616) : (cmpA ((a : Int), (b : Int)) ((c : Int), (d : Int)) ≤ 0) ↔ W a b ≤ W c d := by
  unfold cmpA lex cmpI W
  dsimp only
  repeat' split
  all_goals omega
/-- In a prefix. -/
def has (h l : Nat) (n : Int) (a b : Nat) : Prop := snd h l n ∧ clip (128 - n).toNat (W a b) = W h l
instance (h l : Nat) (n : Int) (a b : Nat) : Decidable (has h l n a b) := by unfold has; infer_instance
theorem has_eq {k : Nat} (hk : 4 ≤ k) (h l : Nat) (hh : h < 18446744073709551616) (hl : l < 18446744073709551616) (n : Int) (a b : Nat) (ha : a < 18446744073709551616) (hb : b < 18446744073709551616) :
    addr_Has.f k h l n a b = some (decide (has h l n a b)) := by
  unfold addr_Has.f
  by_cases hs : snd h l n
  · obtain ⟨sh, sl, e, h1, h2, h3⟩ := span_eq (show 1 ≤ k by omega) h l hh hl n hs
    have hi := has_iff (A := W a b) hs.2.2
    rw [e, Option.bind_some, sound_eq (by omega) h l hh hl n, decide_eq_true hs, Option.bind_some, if_pos rfl, addrCmp hk, Option.bind_some]
    have c1 := cmp_le h l a b hl hb
    have c2 := cmp_le a b sh sl hb h2
    rw [h3] at c2
    by_cases g1 : W h l ≤ W a b
    · rw [if_pos (c1.2 g1), addrCmp hk, Option.bind_some]
      congr 1
      rw [decide_eq_decide, c2]
      unfold has
      rw [← hi]
      exact ⟨fun g => ⟨hs, g1, g⟩, fun g => g.2.2⟩
    · rw [if_neg (fun g => g1 (c1.1 g)), decide_eq_false]
      unfold has
      rw [← hi]
      exact fun g => g1 g.2.1
  · have e : addr_Span.f k h l n = some (0, 0, 0, 0) := by
      unfold addr_Span.f
      rw [sound_eq (by omega) h l hh hl n, decide_eq_false hs, Option.bind_some, if_neg (by decide)]
    rw [e, Option.bind_some, sound_eq (by omega) h l hh hl n, decide_eq_false hs, Option.bind_some, if_neg (by decide), decide_eq_false (fun g => hs g.1)]
/-- All of the second in the first. -/
def cov (h l : Nat) (n : Int) (a b : Nat) (m : Int) : Prop := snd a b m ∧ n ≤ m ∧ has h l n a b
instance (h l : Nat) (n : Int) (a b : Nat) (m : Int) : Decidable (cov h l n a b m) := by unfold cov; infer_instance
theorem cov_eq {k : Nat} (hk : 4 ≤ k) (h l : Nat) (hh : h < 18446744073709551616) (hl : l < 18446744073709551616) (n : Int) (a b : Nat) (ha : a < 18446744073709551616) (hb : b < 18446744073709551616) (m : Int) :
    addr_Covers.f k h l n a b m = some (decide (cov h l n a b m)) := by
  unfold addr_Covers.f
  by_cases hs : snd a b m
  · obtain ⟨sh, sl, e, h1, h2, h3⟩ := span_eq (show 1 ≤ k by omega) a b ha hb m hs
    rw [e, Option.bind_some, sound_eq (by omega) a b ha hb m, decide_eq_true hs, Option.bind_some, if_pos rfl, has_eq hk h l hh hl n a b ha hb, Option.bind_some]
    by_cases g : has h l n a b
    · have hc := covers_iff (j := (128 - m).toNat) (Q := W a b) g.1.2.2 hs.2.2
      rw [decide_eq_true g, if_pos rfl, has_eq hk h l hh hl n sh sl h1 h2, Option.bind_some]
      congr 1
      rw [decide_eq_decide]
      unfold cov has
      rw [h3]
      have hn := g.1
      have := hn.1; have := hn.2.1; have := hs.1; have := hs.2.1
      constructor
      · rintro ⟨_, q⟩
        have := (hc.1 ⟨g.2, q⟩).1
        exact ⟨hs, by omega, g⟩
      · rintro ⟨_, q1, q2⟩
        exact ⟨hn, (hc.2 ⟨by omega, g.2⟩).2⟩
    · rw [decide_eq_false g, if_neg (by decide), decide_eq_false (fun q => g q.2.2)]
  · have e : addr_Span.f k a b m = some (0, 0, 0, 0) := by
      unfold addr_Span.f
      rw [sound_eq (by omega) a b ha hb m, decide_eq_false hs, Option.bind_some, if_neg (by decide)]
    rw [e, Option.bind_some, sound_eq (by omega) a b ha hb m, decide_eq_false hs, Option.bind_some, if_neg (by decide), decide_eq_false (fun q => hs q.1)]
def meet (h l : Nat) (n : Int) (a b : Nat) (m : Int) : Prop := cov h l n a b m ∨ cov a b m h l n
instance (h l : Nat) (n : Int) (a b : Nat) (m : Int) : Decidable (meet h l n a b m) := by unfold meet; infer_instance
theorem meet_eq {k : Nat} (hk : 4 ≤ k) (h l : Nat) (hh : h < 18446744073709551616) (hl : l < 18446744073709551616) (n : Int) (a b : Nat) (ha : a < 18446744073709551616) (hb : b < 18446744073709551616) (m : Int) :
    addr_Meets.f k h l n a b m = some (decide (meet h l n a b m)) := by
  unfold addr_Meets.f
  rw [cov_eq hk h l hh hl n a b ha hb m, Option.bind_some]
  by_cases g : cov h l n a b m
  · rw [decide_eq_true g, if_pos rfl, decide_eq_true (show meet h l n a b m from Or.inl g)]
  · rw [decide_eq_false g, if_neg (by decide), cov_eq hk a b ha hb m h l hh hl n, Option.bind_some]
    congr 1
    rw [decide_eq_decide]
    exact ⟨Or.inr, fun q => q.resolve_left g⟩
theorem meet_comm (h l : Nat) (n : Int) (a b : Nat) (m : Int) : meet h l n a b m ↔ meet a b m h l n := Or.comm
theorem meet_has {h l : Nat} {n : Int} {a b : Nat} {m : Int} (h1 : snd h l n) (h2 : snd a b m) : meet h l n a b m ↔ (has h l n a b ∨ has a b m h l) := by
  have hm := meets_iff (j := (128 - m).toNat) (k := (128 - n).toNat) h1.2.2 h2.2.2
  have := h1.1; have := h1.2.1; have := h2.1; have := h2.2.1
  unfold meet cov has
  constructor
  · rintro (⟨_, _, q⟩ | ⟨_, _, q⟩)
    · exact .inl q
    · exact .inr q
  · rintro (⟨_, q⟩ | ⟨_, q⟩)
    · rcases hm.2 (.inl q) with ⟨e1, e2⟩ | ⟨e1, e2⟩
      · exact .inl ⟨h2, by omega, h1, e2⟩
      · exact .inr ⟨h1, by omega, h2, e2⟩
    · rcases hm.2 (.inr q) with ⟨e1, e2⟩ | ⟨e1, e2⟩
      · exact .inl ⟨h2, by omega, h1, e2⟩
      · exact .inr ⟨h1, by omega, h2, e2⟩
end Go.Proofs.Ytpdopkhdhbdljaa.Adr
