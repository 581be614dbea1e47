set_option linter.unusedVariables false
namespace Go.Proofs.Crc
def step (r : Nat) : Nat := if r % 2 = 1 then (r / 2) ^^^ 3988292384 else r / 2
theorem xor_div2 (a b : Nat) : (a ^^^ b) / 2 = (a / 2) ^^^ (b / 2) := by
  apply Nat.eq_of_testBit_eq
  intro i
  simp [Nat.testBit_div_two]
theorem xor_mod2 (a b : Nat) : (a ^^^ b) % 2 = (a % 2 + b % 2) % 2 := by
  have h := Nat.xor_mod_two_pow (a := a) (b := b) (n := 1)
  rw [Nat.pow_one] at h
  rw [h]
  rcases Nat.mod_two_eq_zero_or_one a with ha | ha <;> rcases Nat.mod_two_eq_zero_or_one b with hb | hb <;> rw [ha, hb] <;> rfl
theorem xz {a b : Nat} (h : a ^^^ b = 0) : a = b := by
  have : a ^^^ b ^^^ b = b := by rw [h, Nat.zero_xor]
  rwa [Nat.xor_assoc, Nat.xor_self, Nat.xor_zero] at this
theorem xor_lt {n a b : Nat} (ha : a < 2 ^ n) (hb : b < 2 ^ n) : a ^^^ b < 2 ^ n := Nat.xor_lt_two_pow ha hb
theorem step_lt {r : Nat} (h : r < 4294967296) : step r < 4294967296 := by
  unfold step
  split
  · exact xor_lt (n := 32) (by omega) (by omega)
  · omega
theorem step_xor (a b : Nat) : step (a ^^^ b) = step a ^^^ step b := by
  unfold step
  rw [xor_mod2, xor_div2]
  rcases Nat.mod_two_eq_zero_or_one a with ha | ha <;> rcases Nat.mod_two_eq_zero_or_one b with hb | hb <;> simp only [ha, hb] <;> simp
  · rw [Nat.xor_assoc]
  · rw [Nat.xor_assoc, Nat.xor_assoc, Nat.xor_comm (b / 2)]
  · rw [Nat.xor_comm (b / 2) 3988292384, Nat.xor_assoc, ← Nat.xor_assoc 3988292384 3988292384]; simp
theorem step_zero {d : Nat} (h : d < 4294967296) (hs : step d = 0) : d = 0 := by
  unfold step at hs
  split at hs
  · have := xz hs
    omega
  · omega
def steps : Nat → Nat → Nat
  | 0, r => r
  | n + 1, r => steps n (step r)
theorem steps_lt : ∀ (n : Nat) {r : Nat}, r < 4294967296 → steps n r < 4294967296
  | 0, _, h => h
  | n + 1, _, h => steps_lt n (step_lt h)
theorem steps_xor : ∀ (n a b : Nat), steps n (a ^^^ b) = steps n a ^^^ steps n b
  | 0, _, _ => rfl
  | n + 1, a, b => by simp only [steps]; rw [step_xor, steps_xor n]
theorem steps_zero : ∀ (n : Nat) {d : Nat}, d < 4294967296 → steps n d = 0 → d = 0
  | 0, _, _, h => h
  | n + 1, d, h, hs => step_zero h (steps_zero n (step_lt h) hs)
theorem steps_inj (n : Nat) {a b : Nat} (ha : a < 4294967296) (hb : b < 4294967296) (h : steps n a = steps n b) : a = b := by
  have : steps n (a ^^^ b) = 0 := by rw [steps_xor, h, Nat.xor_self]
  exact xz (steps_zero n (xor_lt (n := 32) ha hb) this)
theorem step_even (y : Nat) : step (2 * y) = y := by
  unfold step
  rw [if_neg (by omega)]; omega
theorem steps8 (y : Nat) : steps 8 (256 * y) = y := by
  have h : 256 * y = 2 * (2 * (2 * (2 * (2 * (2 * (2 * (2 * y))))))) := by omega
  rw [h]
  simp only [steps, step_even]
/-- One byte, and a row of bytes. -/
def byte (r c : Nat) : Nat := steps 8 (r ^^^ c)
def row (l : List Nat) (r : Nat) : Nat := l.foldl byte r
theorem row_lt : ∀ (l : List Nat) (r : Nat), (∀ c ∈ l, c < 256) → r < 4294967296 → row l r < 4294967296
  | [], _, _, h => h
  | c :: l, r, hl, h => by
    refine row_lt l (byte r c) (fun x hx => hl x (by simp [hx])) (steps_lt 8 ?_)
    exact xor_lt (n := 32) h (by have := hl c (by simp); omega)
theorem row_append (a b : List Nat) (r : Nat) : row (a ++ b) r = row b (row a r) := List.foldl_append ..
theorem row_xor : ∀ (l m : List Nat) (r s : Nat), l.length = m.length → row (List.zipWith (· ^^^ ·) l m) (r ^^^ s) = row l r ^^^ row m s
  | [], [], _, _, _ => rfl
  | c :: l, d :: m, r, s, h => by
    simp only [List.zipWith_cons_cons, row, List.foldl_cons]
    have : byte (r ^^^ s) (c ^^^ d) = byte r c ^^^ byte s d := by
      unfold byte
      rw [← steps_xor]
      congr 1
      rw [Nat.xor_assoc, ← Nat.xor_assoc s, Nat.xor_comm s, Nat.xor_assoc c, ← Nat.xor_assoc]
    rw [this]
    exact row_xor l m _ _ (by simpa using h)
/-- The sum: of rows of as many bytes it is linear. -/
def crc (l : List Nat) : Nat := row l 4294967295 ^^^ 4294967295
theorem crc_linear (a b c : List Nat) (h1 : a.length = b.length) (h2 : b.length = c.length) :
    crc (List.zipWith (· ^^^ ·) (List.zipWith (· ^^^ ·) a b) c) = crc a ^^^ crc b ^^^ crc c := by
  unfold crc
  have e := row_xor (List.zipWith (· ^^^ ·) a b) c (4294967295 ^^^ 4294967295) 4294967295 (by simp; omega)
  rw [row_xor a b _ _ h1] at e
  rw [show (4294967295 ^^^ 4294967295 ^^^ 4294967295 : Nat) = 4294967295 by decide] at e
  rw [e]
  generalize row a 4294967295 = A
  generalize row b 4294967295 = B
  generalize row c 4294967295 = C
  generalize (4294967295 : Nat) = M
  apply Nat.eq_of_testBit_eq
  intro i
  simp only [Nat.testBit_xor]
  cases A.testBit i <;> cases B.testBit i <;> cases C.testBit i <;> cases M.testBit i <;> rfl
theorem xor_cancel {a b c d : Nat} (h : a ^^^ b = c ^^^ d) : a ^^^ c = b ^^^ d := by
  have h1 : a = c ^^^ d ^^^ b := by rw [← h, Nat.xor_assoc, Nat.xor_self, Nat.xor_zero]
  rw [h1, Nat.xor_comm _ c, ← Nat.xor_assoc, ← Nat.xor_assoc, Nat.xor_self, Nat.zero_xor, Nat.xor_comm]
theorem xor_move {x d y : Nat} (h : x ^^^ d = y) : x = y ^^^ d := by rw [← h, Nat.xor_assoc, Nat.xor_self, Nat.xor_zero]
theorem row_inj : ∀ (l : List Nat) (r s : Nat), (∀ c ∈ l, c < 256) → r < 4294967296 → s < 4294967296 → row l r = row l s → r = s
  | [], _, _, _, _, _, h => h
  | c :: l, r, s, hl, hr, hs, h => by
    have hc := hl c (by simp)
    have h1 := xor_lt (n := 32) hr (by omega : c < 2 ^ 32)
    have h2 := xor_lt (n := 32) hs (by omega : c < 2 ^ 32)
    have := row_inj l _ _ (fun x hx => hl x (by simp [hx])) (steps_lt 8 h1) (steps_lt 8 h2) h
    have h3 := steps_inj 8 h1 h2 this
    have h4 := xor_cancel h3
    rw [Nat.xor_self] at h4
    exact xz h4
theorem back8 {x m : Nat} (hx : x < 4294967296) (hm : m < 16777216) (h : steps 8 x = m) : x = 256 * m :=
  steps_inj 8 hx (by omega) (by rw [h, steps8])
/-- Four bytes in a row turned turn the sum. -/
theorem row_burst (r a0 a1 a2 a3 b0 b1 b2 b3 : Nat) (hr : r < 4294967296) (ha0 : a0 < 256) (ha1 : a1 < 256) (ha2 : a2 < 256) (ha3 : a3 < 256) (hb0 : b0 < 256) (hb1 : b1 < 256) (hb2 : b2 < 256) (hb3 : b3 < 256)
    (h : row [a0, a1, a2, a3] r = row [b0, b1, b2, b3] r) : a0 = b0 ∧ a1 = b1 ∧ a2 = b2 ∧ a3 = b3 := by
  have hz : row (List.zipWith (· ^^^ ·) [a0, a1, a2, a3] [b0, b1, b2, b3]) (r ^^^ r) = 0 := by
    rw [row_xor [a0, a1, a2, a3] [b0, b1, b2, b3] r r rfl, h, Nat.xor_self]
  rw [Nat.xor_self] at hz
  simp only [List.zipWith_cons_cons, List.zipWith_nil_left] at hz
  have m0 := xor_lt (n := 8) ha0 hb0
  have m1 := xor_lt (n := 8) ha1 hb1
  have m2 := xor_lt (n := 8) ha2 hb2
  have m3 := xor_lt (n := 8) ha3 hb3
  have e0 : a0 ^^^ b0 = 0 → a0 = b0 := xz
  have e1 : a1 ^^^ b1 = 0 → a1 = b1 := xz
  have e2 : a2 ^^^ b2 = 0 → a2 = b2 := xz
  have e3 : a3 ^^^ b3 = 0 → a3 = b3 := xz
  generalize a0 ^^^ b0 = d0 at *
  generalize a1 ^^^ b1 = d1 at *
  generalize a2 ^^^ b2 = d2 at *
  generalize a3 ^^^ b3 = d3 at *
  simp only [row, List.foldl_cons, List.foldl_nil, byte, Nat.zero_xor] at hz
  have z : ∀ {x d : Nat}, x ^^^ d = 0 → x = d := fun h => xz h
  have lt : ∀ {x d : Nat}, x < 4294967296 → d < 256 → x ^^^ d < 4294967296 := fun hx hd => xor_lt (n := 32) hx (by omega)
  have l0 : d0 < 4294967296 := by omega
  have l1 := lt (steps_lt 8 l0) m1
  have l2 := lt (steps_lt 8 l1) m2
  have l3 := lt (steps_lt 8 l2) m3
  have s3 := z (steps_zero 8 l3 hz)
  have s2 := back8 l2 (by omega) s3
  have t2 : steps 8 (steps 8 d0 ^^^ d1) = 256 * d3 ^^^ d2 := xor_move s2
  have y2 : 256 * d3 ^^^ d2 < 65536 := xor_lt (n := 16) (by omega) (by omega)
  have s1 := back8 l1 (by omega) t2
  have t1 : steps 8 d0 = 256 * (256 * d3 ^^^ d2) ^^^ d1 := xor_move s1
  have y1 : 256 * (256 * d3 ^^^ d2) ^^^ d1 < 16777216 := xor_lt (n := 24) (by omega) (by omega)
  have s0 := back8 l0 y1 t1
  have f1 : 256 * (256 * d3 ^^^ d2) ^^^ d1 = 0 := by omega
  have f0 : d0 = 0 := by omega
  have g1 := z f1
  have f2 : 256 * d3 ^^^ d2 = 0 := by omega
  have h1 : d1 = 0 := by omega
  have g2 := z f2
  exact ⟨e0 f0, e1 h1, e2 (by omega), e3 (by omega)⟩
end Go.Proofs.Crc
