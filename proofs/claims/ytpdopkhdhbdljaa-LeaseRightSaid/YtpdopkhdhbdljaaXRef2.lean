/- Prefixes in one another, and leases that meet, by bits: plain lemmas; conditions: numbers are of their kind. -/
import Derived.Test.YtpdopkhdhbdljaaG9
import Derived.Laws.BitsAllLaws
import Derived.Lib.Strings
import Derived.Test.YtpdopkhdhbdljaaXRef1
set_option linter.unusedVariables false
set_option linter.unusedSimpArgs false
namespace Go.Proofs.Ytpdopkhdhbdljaa.Lea
open Go.RowKit Go.Proofs.YtpdopkhdhbdljaaW.PrintWords Go.Proofs.YtpdopkhdhbdljaaW.PrintLast Go.Proofs.YtpdopkhdhbdljaaW.PrintMore Go.Proofs.Ytpdopkhdhbdljaa.X Go.Proofs.Ytpdopkhdhbdljaa.Oct Go.Proofs.Ytpdopkhdhbdljaa.Adr Go.Proofs.Ytpdopkhdhbdljaa.Pre

theorem rhas_eq {k : Nat} (hk : 200 ≤ k) (h l : Nat) (hh : h < 18446744073709551616) (hl : l < 18446744073709551616) (n : Int) (a b : Nat) (ha : a < 18446744073709551616) (hb : b < 18446744073709551616) :
    tenancyref01_Has.f k h l n a b = some (decide (has h l n a b)) := by
  unfold tenancyref01_Has.f
  by_cases hs : snd h l n
  · rw [rclip_eq hk a b ha hb n hs.1 hs.2.1, Option.bind_some, rsound_eq hk h l hh hl n, Option.bind_some, decide_eq_true hs, if_pos rfl]
    congr 1
    have hw := cW (128 - n).toNat a b (by have := hs.1; omega) hb
    rw [Bool.eq_iff_iff]
    simp only [Bool.and_eq_true, beq_iff_eq, decide_eq_true_eq, Int.natCast_inj]
    unfold has
    rw [← hw]
    constructor
    · rintro ⟨⟨e1, e2⟩, _⟩; exact ⟨hs, by rw [e1, e2]⟩
    · rintro ⟨_, e⟩; exact ⟨W_inj (cl_lt _ b hb) hl e, trivial⟩
  · have hf : ∃ r, tenancyref01_Clip.f k (a : Int) (b : Int) n = some r := by
      by_cases hn : 0 ≤ n ∧ n ≤ 128
      · exact ⟨_, rclip_eq hk a b ha hb n hn.1 hn.2⟩
      · exact ⟨_, rclip_bad (by omega) _ _ n (by omega)⟩
    obtain ⟨r, hr⟩ := hf
    rw [hr, Option.bind_some, rsound_eq hk h l hh hl n, Option.bind_some, decide_eq_false hs, if_neg (by decide), decide_eq_false (fun q => hs q.1)]
theorem rcov_eq {k : Nat} (hk : 200 ≤ k) (h l : Nat) (hh : h < 18446744073709551616) (hl : l < 18446744073709551616) (n : Int) (a b : Nat) (ha : a < 18446744073709551616) (hb : b < 18446744073709551616) (m : Int) :
    tenancyref01_Covers.f k h l n a b m = some (decide (cov h l n a b m)) := by
  unfold tenancyref01_Covers.f
  rw [rsound_eq hk a b ha hb m, Option.bind_some]
  by_cases hs : snd a b m
  · rw [decide_eq_true hs, if_pos rfl]
    by_cases g : m ≥ n
    · rw [if_pos g, rhas_eq hk h l hh hl n a b ha hb, Option.bind_some]
      congr 1
      rw [decide_eq_decide]
      exact ⟨fun q => ⟨hs, g, q⟩, fun q => q.2.2⟩
    · rw [if_neg g, decide_eq_false (fun q => g q.2.1)]
  · rw [decide_eq_false hs, if_neg (by decide), decide_eq_false (fun q => hs q.1)]
theorem rmeet_eq {k : Nat} (hk : 200 ≤ k) (h l : Nat) (hh : h < 18446744073709551616) (hl : l < 18446744073709551616) (n : Int) (a b : Nat) (ha : a < 18446744073709551616) (hb : b < 18446744073709551616) (m : Int) :
    tenancyref01_Meets.f k h l n a b m = some (decide (meet h l n a b m)) := by
  unfold tenancyref01_Meets.f
  rw [rcov_eq hk h l hh hl n a b ha hb m, Option.bind_some]
  by_cases g : cov h l n a b m
  · rw [decide_eq_true g, if_pos rfl, decide_eq_true (show meet h l n a b m from Or.inl g)]
  · rw [decide_eq_false g, if_neg (by decide), rcov_eq hk a b ha hb m h l hh hl n, Option.bind_some]
    congr 1
    rw [decide_eq_decide]
    exact ⟨Or.inr, fun q => q.resolve_left g⟩
/-! comparing -/
theorem bitn_W (h l i : Nat) (hl : l < 18446744073709551616) (hi : i < 128) : bitn h l i = W h l / 2 ^ (127 - i) % 2 := by
  unfold bitn W
  by_cases c : i < 64
  · rw [if_pos c, show 127 - i = 64 + (63 - i) by omega, Nat.pow_add, ← Nat.div_div_eq_div_mul, show (2 : Nat) ^ 64 = 18446744073709551616 by decide, show (h * 18446744073709551616 + l) / 18446744073709551616 = h by omega]
  · have e : (18446744073709551616 : Nat) = 2 ^ (i - 64) * 2 * 2 ^ (127 - i) := by
      rw [← Nat.pow_succ, ← Nat.pow_add, show i - 64 + 1 + (127 - i) = 64 by omega]
    rw [if_neg c, e, ← Nat.mul_assoc, Nat.add_comm _ l, Nat.add_mul_div_right _ _ (Nat.two_pow_pos _), ← Nat.mul_assoc]
    omega
theorem W_div_lt {X Y m : Nat} (h : X / 2 ^ m < Y / 2 ^ m) : X < Y := by
  apply Nat.lt_of_not_le
  intro q
  have := Nat.div_le_div_right (c := 2 ^ m) q
  omega
theorem div_step (X m : Nat) : X / 2 ^ m = 2 * (X / 2 ^ (m + 1)) + X / 2 ^ m % 2 := by
  rw [Nat.pow_succ, ← Nat.div_div_eq_div_mul]; omega
theorem cmp_loop (a b c d : Nat) (ha : a < 18446744073709551616) (hb : b < 18446744073709551616) (hc : c < 18446744073709551616) (hd : d < 18446744073709551616) : ∀ (e k i : Nat), i + e = 128 → e < k →
    W a b / 2 ^ (128 - i) = W c d / 2 ^ (128 - i) → tenancyref01_Cmp.l0 k (i : Int) a b c d = some (cmpI (W a b : Nat) (W c d : Nat))
  | 0, k, i, hi, hk, he => by
    obtain ⟨j, rfl⟩ : ∃ j, k = j + 1 := ⟨k - 1, by omega⟩
    rw [show 128 - i = 0 by omega, Nat.pow_zero, Nat.div_one, Nat.div_one] at he
    rw [tenancyref01_Cmp.l0, if_neg (by omega), he]
    unfold cmpI
    rw [if_neg (by omega), if_neg (by omega)]
  | e + 1, k, i, hi, hk, he => by
    obtain ⟨j, rfl⟩ : ∃ j, k = j + 1 := ⟨k - 1, by omega⟩
    have hwi : wrap64 ((i : Int) + 1) = ((i + 1 : Nat) : Int) := by unfold wrap64; omega
    have b1 := bitn_W a b i hb (by omega)
    have b2 := bitn_W c d i hd (by omega)
    have s1 := div_step (W a b) (127 - i)
    have s2 := div_step (W c d) (127 - i)
    rw [show 127 - i + 1 = 128 - i by omega] at s1 s2
    rw [← b1] at s1
    rw [← b2] at s2
    rw [tenancyref01_Cmp.l0, if_pos (by omega), bit_eq a b i ha hb (by omega), Option.bind_some, bit_eq c d i hc hd (by omega), Option.bind_some, hwi]
    by_cases q1 : bitn a b i < bitn c d i
    · have := W_div_lt (X := W a b) (Y := W c d) (m := 127 - i) (by omega)
      rw [if_pos (by omega)]
      unfold cmpI
      rw [if_pos (by omega)]
    · rw [if_neg (by omega), Option.bind_some, Option.bind_some]
      by_cases q2 : bitn a b i > bitn c d i
      · have := W_div_lt (X := W c d) (Y := W a b) (m := 127 - i) (by omega)
        rw [if_pos (by omega)]
        unfold cmpI
        rw [if_neg (by omega), if_pos (by omega)]
      · rw [if_neg (by omega)]
        exact cmp_loop a b c d ha hb hc hd e j (i + 1) (by omega) (by omega) (by rw [show 128 - (i + 1) = 127 - i by omega]; omega)
theorem cmpA_W (a b c d : Nat) (hb : b < 18446744073709551616) (hd : d < 18446744073709551616) : cmpA ((a : Int), (b : Int)) ((c : Int), (d : Int)) = cmpI (W a b : Nat) (W c d : Nat) := by
  unfold cmpA lex cmpI W
  dsimp only
  repeat' split
  all_goals omega
theorem rcmp_eq {k : Nat} (hk : 200 ≤ k) (a b c d : Nat) (ha : a < 18446744073709551616) (hb : b < 18446744073709551616) (hc : c < 18446744073709551616) (hd : d < 18446744073709551616) :
    tenancyref01_Cmp.f k a b c d = some (cmpA ((a : Int), (b : Int)) ((c : Int), (d : Int))) := by
  unfold tenancyref01_Cmp.f
  rw [cmpA_W a b c d hb hd]
  exact cmp_loop a b c d ha hb hc hd 128 k 0 (by omega) (by omega) (by
    rw [Nat.div_eq_of_lt, Nat.div_eq_of_lt]
    · unfold W; rw [show 128 - 0 = 128 by rfl, show (2 : Nat) ^ 128 = 18446744073709551616 * 18446744073709551616 by decide]; omega
    · unfold W; rw [show 128 - 0 = 128 by rfl, show (2 : Nat) ^ 128 = 18446744073709551616 * 18446744073709551616 by decide]; omega)
theorem rcompare_eq {k : Nat} (hk : 300 ≤ k) (c : Int) (h l : Nat) (hh : h < 18446744073709551616) (hl : l < 18446744073709551616) (n : Int) (d : Int) (a b : Nat) (ha : a < 18446744073709551616) (hb : b < 18446744073709551616) (m : Int) :
    tenancyref08_Compare.f k c h l n d a b m = some (cmpP (c, ((h : Int), (l : Int)), n) (d, ((a : Int), (b : Int)), m)) := by
  obtain ⟨j, rfl⟩ : ∃ j, k = j + 1 := ⟨k - 1, by omega⟩
  unfold tenancyref08_Compare.f cmpP
  rw [rcmp_eq (by omega) h l a b hh hl ha hb, Option.bind_some]
  simp only [lex]
  generalize cmpA ((h : Int), (l : Int)) ((a : Int), (b : Int)) = t
  by_cases q : c = d
  · have e : cmpI c d = 0 := by unfold cmpI; rw [if_neg (by omega), if_neg (by omega)]
    rw [if_pos q, if_pos e]
    by_cases q2 : t = 0
    · rw [if_pos q2, if_pos q2, tenancyref08_Compare.j0, q2]
      unfold cmpI
      by_cases q3 : n = m
      · rw [if_pos (by rw [beq_iff_eq]; exact q3), if_neg (by omega), if_neg (by omega)]
      · rw [if_neg (by rw [beq_iff_eq]; exact q3)]
        by_cases q4 : n < m
        · rw [if_pos q4, if_pos q4]
        · rw [if_neg q4, if_neg q4, if_pos (by omega)]
    · rw [if_neg q2, if_neg q2, tenancyref08_Compare.j0, if_pos rfl]
  · rw [if_neg q]
    unfold cmpI
    by_cases q2 : c < d
    · rw [if_pos q2, if_pos q2, if_neg (by decide)]
    · rw [if_neg q2, if_neg q2, if_pos (show c > d by omega), if_neg (by decide)]
theorem rlmeet_eq {k : Nat} (hk : 301 ≤ k) (c : Int) (h l : Nat) (hh : h < 18446744073709551616) (hl : l < 18446744073709551616) (n : Int) (d : Int) (a b : Nat) (ha : a < 18446744073709551616) (hb : b < 18446744073709551616) (m : Int) :
    tenancyref08_Meets.f k c h l n d a b m = some (decide (lmeet c h l n d a b m)) := by
  obtain ⟨j, rfl⟩ : ∃ j, k = j + 1 := ⟨k - 1, by omega⟩
  unfold tenancyref08_Meets.f
  rw [rright_eq (by omega) c h l hh hl n, Option.bind_some]
  by_cases r1 : right c h l n
  · rw [decide_eq_true r1, if_pos rfl, rright_eq (by omega) d a b ha hb m, Option.bind_some, tenancyref08_Meets.j0]
    by_cases r2 : right d a b m
    · rw [decide_eq_true r2, if_neg (by decide)]
      have same : (((h : Int) == (a : Int) && ((l : Int) == (b : Int))) && (n == m)) = decide ((h = a ∧ l = b) ∧ n = m) := by
        rw [Bool.eq_iff_iff]
        simp only [Bool.and_eq_true, beq_iff_eq, decide_eq_true_eq, Int.natCast_inj]
      have fin : (if c = d then some (((h : Int) == (a : Int) && ((l : Int) == (b : Int))) && (n == m)) else some false) = some (decide (c = d ∧ (h = a ∧ l = b) ∧ n = m)) := by
        by_cases hcd : c = d
        · rw [if_pos hcd, same]; congr 1; rw [decide_eq_decide]; simp [hcd]
        · rw [if_neg hcd, decide_eq_false (fun q => hcd q.1)]
      by_cases c1 : c = 1
      · rw [if_pos c1, fin]
        congr 1
        rw [decide_eq_decide]
        exact ⟨fun q => ⟨r1, r2, .inl ⟨.inl c1, q⟩⟩, fun q => q.2.2.elim (·.2) (fun z => absurd (.inl c1) z.1)⟩
      · rw [if_neg c1]
        by_cases d1 : d = 1
        · rw [if_pos d1, fin]
          congr 1
          rw [decide_eq_decide]
          exact ⟨fun q => ⟨r1, r2, .inl ⟨.inr d1, q⟩⟩, fun q => q.2.2.elim (·.2) (fun z => absurd (.inr d1) z.1)⟩
        · rw [if_neg d1, rmeet_eq (by omega) h l hh hl n a b ha hb m, Option.bind_some]
          congr 1
          rw [decide_eq_decide]
          exact ⟨fun q => ⟨r1, r2, .inr ⟨fun z => z.elim c1 d1, q⟩⟩, fun q => q.2.2.elim (fun z => absurd z.1 (fun z => z.elim c1 d1)) (·.2)⟩
    · rw [decide_eq_false r2, if_pos (show (!false) = true from rfl), decide_eq_false (fun q => r2 q.2.1)]
  · rw [decide_eq_false r1, if_neg (by decide), tenancyref08_Meets.j0, if_pos rfl, decide_eq_false (fun q => r1 q.1)]
end Go.Proofs.Ytpdopkhdhbdljaa.Lea
