/- Prefixes of numbers: plain lemmas: a block of 2^k numbers; no condition. -/
namespace Go.Proofs.Ytngojiikkokajaa.Pre
/-- A's block of 2^k numbers begins at this number. -/
def clip (k A : Nat) : Nat := A / 2 ^ k * 2 ^ k
theorem clip_le (k A : Nat) : clip k A ≤ A := Nat.div_mul_le_self A _
theorem clip_lt (k A : Nat) : A < clip k A + 2 ^ k := by
  unfold clip
  have h := Nat.div_add_mod A (2 ^ k)
  have h2 := Nat.mod_lt A (Nat.two_pow_pos k)
  rw [Nat.mul_comm] at h
  omega
theorem clip_clip (k A : Nat) : clip k (clip k A) = clip k A := by
  unfold clip
  rw [Nat.mul_div_cancel _ (Nat.two_pow_pos k)]
/-- In the block that begins at P. -/
theorem has_iff {k P A : Nat} (hP : clip k P = P) : (P ≤ A ∧ A ≤ P + (2 ^ k - 1)) ↔ clip k A = P := by
  have h0 := Nat.two_pow_pos k
  constructor
  · rintro ⟨h1, h2⟩
    unfold clip at hP ⊢
    have e : A / 2 ^ k = P / 2 ^ k := by
      apply Nat.le_antisymm
      · have : A < (P / 2 ^ k + 1) * 2 ^ k := by rw [Nat.add_mul, Nat.one_mul, hP]; omega
        exact Nat.lt_succ_iff.1 ((Nat.div_lt_iff_lt_mul h0).2 this)
      · exact Nat.div_le_div_right h1
    rw [e, hP]
  · intro h
    have h1 := clip_le k A
    have h2 := clip_lt k A
    rw [h] at h1 h2
    omega
theorem clip_mono {j k A : Nat} (h : clip k A = A) (hj : j ≤ k) : clip j A = A := by
  unfold clip at h ⊢
  obtain ⟨d, rfl⟩ := Nat.le.dest hj
  have : 2 ^ j ∣ A := by
    rw [← h, Nat.pow_add]
    exact Nat.dvd_trans (Nat.dvd_mul_right _ _) (Nat.dvd_mul_left _ _)
  exact Nat.div_mul_cancel this
theorem pow_mono {j k : Nat} (h : j ≤ k) : 2 ^ j ≤ 2 ^ k := Nat.pow_le_pow_right (by decide) h
/-- All of q in p: by its first and its last number. -/
theorem covers_iff {j k P Q : Nat} (hP : clip k P = P) (hQ : clip j Q = Q) : (clip k Q = P ∧ clip k (Q + (2 ^ j - 1)) = P) ↔ (j ≤ k ∧ clip k Q = P) := by
  have hj := Nat.two_pow_pos j
  have hk := Nat.two_pow_pos k
  constructor
  · rintro ⟨h1, h2⟩
    refine ⟨?_, h1⟩
    obtain ⟨a1, a2⟩ := (has_iff hP).2 h1
    obtain ⟨b1, b2⟩ := (has_iff hP).2 h2
    rcases Nat.lt_or_ge k j with h | h
    · have := pow_mono (show k + 1 ≤ j from h)
      rw [Nat.pow_succ] at this
      omega
    · exact h
  · rintro ⟨h1, h2⟩
    refine ⟨h2, (has_iff hP).1 ?_⟩
    obtain ⟨a1, a2⟩ := (has_iff hP).2 h2
    have hPj := clip_mono hP h1
    unfold clip at hQ hPj
    obtain ⟨d, rfl⟩ := Nat.le.dest h1
    have e : P + 2 ^ (j + d) = (P / 2 ^ j + 2 ^ d) * 2 ^ j := by
      rw [Nat.add_mul, hPj, Nat.pow_add, Nat.mul_comm (2 ^ d)]
    have h3 : Q / 2 ^ j < P / 2 ^ j + 2 ^ d := by
      apply Nat.lt_of_mul_lt_mul_right (a := 2 ^ j)
      rw [hQ, ← e]
      omega
    have h4 : (Q / 2 ^ j + 1) * 2 ^ j ≤ (P / 2 ^ j + 2 ^ d) * 2 ^ j := Nat.mul_le_mul_right _ h3
    rw [Nat.add_mul, hQ, Nat.one_mul, ← e] at h4
    omega
/-- Two blocks meet just if the beginning of one is in the other. -/
theorem meets_iff {j k P Q : Nat} (hP : clip k P = P) (hQ : clip j Q = Q) : ((j ≤ k ∧ clip k Q = P) ∨ (k ≤ j ∧ clip j P = Q)) ↔ (clip k Q = P ∨ clip j P = Q) := by
  constructor
  · rintro (⟨_, h⟩ | ⟨_, h⟩)
    · exact .inl h
    · exact .inr h
  · rintro (h | h)
    · rcases Nat.le_total j k with hl | hl
      · exact .inl ⟨hl, h⟩
      · have := clip_mono hQ hl
        rw [h] at this
        subst this
        exact .inr ⟨hl, hQ⟩
    · rcases Nat.le_total j k with hl | hl
      · have := clip_mono hP hl
        rw [h] at this
        subst this
        exact .inl ⟨hl, hP⟩
      · exact .inr ⟨hl, h⟩
/-- One bit more. -/
theorem clip_bit (j A : Nat) : clip j A = clip (j + 1) A + A / 2 ^ j % 2 * 2 ^ j := by
  unfold clip
  rw [Nat.pow_succ, ← Nat.div_div_eq_div_mul, Nat.mul_comm (2 ^ j) 2, ← Nat.mul_assoc, ← Nat.add_mul]
  congr 1
  omega
theorem or_bit (j A : Nat) : clip (j + 1) A ||| 2 ^ j = clip (j + 1) A + 2 ^ j := by
  unfold clip
  have h := Nat.shiftLeft_add_eq_or_of_lt (Nat.pow_lt_pow_right (a := 2) (by decide) (Nat.lt_succ_self j)) (A / 2 ^ (j + 1))
  rw [Nat.shiftLeft_eq] at h
  exact h.symm
/-- The two halves of a number of 128 bits. -/
def W (hi lo : Nat) : Nat := hi * 18446744073709551616 + lo
theorem clip_high (n hi lo : Nat) (hl : lo < 18446744073709551616) : clip (n + 64) (W hi lo) = W (clip n hi) 0 := by
  unfold clip W
  rw [Nat.pow_add, Nat.mul_comm (2 ^ n), ← Nat.div_div_eq_div_mul, show (2 : Nat) ^ 64 = 18446744073709551616 by decide, show (hi * 18446744073709551616 + lo) / 18446744073709551616 = hi by omega, Nat.mul_comm 18446744073709551616, ← Nat.mul_assoc, Nat.add_zero]
theorem clip_low (n hi lo : Nat) (hn : n ≤ 64) : clip n (W hi lo) = W hi (clip n lo) := by
  unfold clip W
  obtain ⟨d, hd⟩ := Nat.le.dest hn
  have e : (18446744073709551616 : Nat) = 2 ^ d * 2 ^ n := by rw [← Nat.pow_add, Nat.add_comm d, hd]
  rw [e, ← Nat.mul_assoc, Nat.add_comm _ lo, Nat.add_mul_div_right _ _ (Nat.two_pow_pos n), Nat.add_mul]
  omega
theorem W_inj {a b c d : Nat} (hb : b < 18446744073709551616) (hd : d < 18446744073709551616) (h : W a b = W c d) : a = c ∧ b = d := by unfold W at h; omega
end Go.Proofs.Ytngojiikkokajaa.Pre
