/- Prefixes bit by bit, and leases by them: plain lemmas; conditions: numbers are of their kind. -/
import Derived.Test.YtpdopkhdhbdljaaG6
import Derived.Laws.BitsAllLaws
import Derived.Lib.Strings
import Derived.Test.YtpdopkhdhbdljaaXLea3
set_option linter.unusedVariables false
set_option linter.unusedSimpArgs false
namespace Go.Proofs.Ytpdopkhdhbdljaa.Lea
open Go.RowKit Go.Proofs.YtpdopkhdhbdljaaW.PrintWords Go.Proofs.YtpdopkhdhbdljaaW.PrintLast Go.Proofs.YtpdopkhdhbdljaaW.PrintMore Go.Proofs.Ytpdopkhdhbdljaa.X Go.Proofs.Ytpdopkhdhbdljaa.Oct Go.Proofs.Ytpdopkhdhbdljaa.Adr Go.Proofs.Ytpdopkhdhbdljaa.Pre

/-- One bit, the first is the highest. -/
def bitn (h l i : Nat) : Nat := if i < 64 then h / 2 ^ (63 - i) % 2 else l / 2 ^ (127 - i) % 2
theorem and_one (x : Nat) (hx : x < 18446744073709551616) : Go.bits .and .u64 (x : Int) 1 = ((x % 2 : Nat) : Int) := by
  have := Go.u64_and_nat x 1 hx (by decide)
  rw [Nat.and_one_is_mod] at this
  exact this
theorem bit_eq (h l i : Nat) (hh : h < 18446744073709551616) (hl : l < 18446744073709551616) (hi : i < 128) : tenancyref01_bit.f h l (i : Int) = some ((bitn h l i : Nat) : Int) := by
  unfold tenancyref01_bit.f bitn
  by_cases c : i < 64
  · have hw : IntKind.u64.wrap (wrap64 (63 - (i : Int))) = ((63 - i : Nat) : Int) := by rw [Adr.u64_wrap]; unfold wrap64; omega
    rw [if_pos (by omega), if_pos c, hw, if_pos (by omega), shr_nat _ _ (by omega), and_one _ (Nat.lt_of_le_of_lt (Nat.div_le_self _ _) hh)]
  · have hw : IntKind.u64.wrap (wrap64 (127 - (i : Int))) = ((127 - i : Nat) : Int) := by rw [Adr.u64_wrap]; unfold wrap64; omega
    rw [if_neg (by omega), if_neg c, hw, if_pos (by omega), shr_nat _ _ (by omega), and_one _ (Nat.lt_of_le_of_lt (Nat.div_le_self _ _) hl)]
theorem pow_small (m : Nat) (hm : m < 64) : 2 ^ m < 18446744073709551616 := by
  have := Nat.pow_lt_pow_right (a := 2) (by decide) hm
  omega
theorem shl_one (m : Nat) (hm : m < 64) : shl .u64 1 (m : Int) = ((2 ^ m : Nat) : Int) := by
  have h := shl_nat 1 m (by omega)
  rw [Nat.one_mul, Nat.mod_eq_of_lt (pow_small m hm)] at h
  exact h
theorem with_hi (h l i : Nat) (hh : h < 18446744073709551616) (hi : i < 64) : tenancyref01_with.f h l (i : Int) = some (((h ||| 2 ^ (63 - i) : Nat) : Int), (l : Int)) := by
  unfold tenancyref01_with.f
  have hw : IntKind.u64.wrap (wrap64 (63 - (i : Int))) = ((63 - i : Nat) : Int) := by rw [Adr.u64_wrap]; unfold wrap64; omega
  rw [if_pos (by omega), hw, if_pos (by omega), shl_one _ (by omega), Go.u64_or_nat _ _ hh (pow_small _ (by omega))]
theorem with_lo (h l i : Nat) (hl : l < 18446744073709551616) (hi : 64 ≤ i) (hi2 : i < 128) : tenancyref01_with.f h l (i : Int) = some ((h : Int), ((l ||| 2 ^ (127 - i) : Nat) : Int)) := by
  unfold tenancyref01_with.f
  have hw : IntKind.u64.wrap (wrap64 (127 - (i : Int))) = ((127 - i : Nat) : Int) := by rw [Adr.u64_wrap]; unfold wrap64; omega
  rw [if_neg (by omega), hw, if_pos (by omega), shl_one _ (by omega), Go.u64_or_nat _ _ hl (pow_small _ (by omega))]
theorem clip_zero (A : Nat) : clip 0 A = A := by simp [clip]
theorem clip_top (A : Nat) (h : A < 18446744073709551616) : clip 64 A = 0 := by
  unfold clip
  rw [Nat.div_eq_of_lt (by omega), Nat.zero_mul]
theorem bit_set (j A : Nat) (h : A / 2 ^ j % 2 = 1) : clip (j + 1) A ||| 2 ^ j = clip j A := by
  rw [or_bit, clip_bit j A, h, Nat.one_mul]
theorem bit_unset (j A : Nat) (h : ¬ A / 2 ^ j % 2 = 1) : clip (j + 1) A = clip j A := by
  rw [clip_bit j A, show A / 2 ^ j % 2 = 0 by omega, Nat.zero_mul]; rfl
theorem clip_lt64 (k A : Nat) (h : A < 18446744073709551616) : clip k A < 18446744073709551616 := Nat.lt_of_le_of_lt (clip_le k A) h
theorem clip_loop (h l : Nat) (hh : h < 18446744073709551616) (hl : l < 18446744073709551616) (n : Nat) (hn : n ≤ 128) : ∀ (d k i : Nat), i + d = n → d < k →
    tenancyref01_Clip.l0 k (n : Int) (i : Int) h l (ch (128 - i) h : Nat) (cl (128 - i) l : Nat) = some (((ch (128 - n) h : Nat) : Int), ((cl (128 - n) l : Nat) : Int), (n : Int), true)
  | 0, k, i, hi, hk => by
    obtain ⟨j, rfl⟩ : ∃ j, k = j + 1 := ⟨k - 1, by omega⟩
    rw [tenancyref01_Clip.l0, if_neg (by omega), show i = n by omega]
  | d + 1, k, i, hi, hk => by
    obtain ⟨j, rfl⟩ : ∃ j, k = j + 1 := ⟨k - 1, by omega⟩
    have ih := clip_loop h l hh hl n hn d j (i + 1) (by omega) (by omega)
    have hwi : wrap64 ((i : Int) + 1) = ((i + 1 : Nat) : Int) := by unfold wrap64; omega
    rw [tenancyref01_Clip.l0, if_pos (by omega), bit_eq h l i hh hl (by omega), Option.bind_some, hwi]
    unfold bitn
    by_cases c : i < 64
    · have e1 : ch (128 - i) h = clip (63 - i + 1) h := by unfold ch; rw [if_pos (by omega)]; congr 1; omega
      have e2 : ch (128 - (i + 1)) h = clip (63 - i) h := by unfold ch; rw [if_pos (by omega)]; congr 1; omega
      have e3 : cl (128 - i) l = 0 := by unfold cl; rw [if_pos (by omega)]
      have e4 : cl (128 - (i + 1)) l = 0 := by unfold cl; rw [if_pos (by omega)]
      rw [e2, e4] at ih
      rw [if_pos c, e1, e3]
      by_cases b : h / 2 ^ (63 - i) % 2 = 1
      · rw [if_pos (by omega), with_hi _ _ i (clip_lt64 _ _ hh) c, Option.bind_some, bit_set _ _ b]
        exact ih
      · rw [if_neg (by omega), bit_unset _ _ b]
        exact ih
    · have e1 : ch (128 - i) h = h := by
        unfold ch
        split
        · rw [show 128 - i - 64 = 0 by omega, clip_zero]
        · rfl
      have e2 : ch (128 - (i + 1)) h = h := by unfold ch; rw [if_neg (by omega)]
      have e3 : cl (128 - i) l = clip (127 - i + 1) l := by
        unfold cl
        split
        · rw [show 127 - i + 1 = 64 by omega, clip_top l hl]
        · congr 1; omega
      have e4 : cl (128 - (i + 1)) l = clip (127 - i) l := by unfold cl; rw [if_neg (by omega)]; congr 1; omega
      rw [e2, e4] at ih
      rw [if_neg c, e1, e3]
      by_cases b : l / 2 ^ (127 - i) % 2 = 1
      · rw [if_pos (by omega), with_lo _ _ i (clip_lt64 _ _ hl) (by omega) (by omega), Option.bind_some, bit_set _ _ b]
        exact ih
      · rw [if_neg (by omega), bit_unset _ _ b]
        exact ih
theorem rclip_eq {k : Nat} (hk : 200 ≤ k) (h l : Nat) (hh : h < 18446744073709551616) (hl : l < 18446744073709551616) (n : Int) (h0 : 0 ≤ n) (h1 : n ≤ 128) :
    tenancyref01_Clip.f k h l n = some (((ch (128 - n).toNat h : Nat) : Int), ((cl (128 - n).toNat l : Nat) : Int), n, true) := by
  obtain ⟨j, rfl⟩ : ∃ j, k = j + 1 := ⟨k - 1, by omega⟩
  obtain ⟨m, rfl⟩ : ∃ m : Nat, n = (m : Int) := ⟨n.toNat, by omega⟩
  unfold tenancyref01_Clip.f
  rw [if_neg (by omega), tenancyref01_Clip.j0, decide_eq_false (by omega), if_neg (by decide)]
  have := clip_loop h l hh hl m (by omega) m j 0 (by omega) (by omega)
  have c0 : ch (128 - 0) h = 0 := by
    unfold ch
    rw [if_pos (by omega), show 128 - 0 - 64 = 64 by omega]
    exact clip_top h hh
  have c1 : cl (128 - 0) l = 0 := by
    unfold cl
    rw [if_pos (by omega)]
  rw [c0, c1, show ((0 : Nat) : Int) = 0 from rfl] at this
  rw [show (128 - (m : Int)).toNat = 128 - m by omega]
  exact this
theorem rclip_bad {k : Nat} (hk : 1 ≤ k) (h l n : Int) (hn : n < 0 ∨ n > 128) : tenancyref01_Clip.f k h l n = some (0, 0, 0, false) := by
  obtain ⟨j, rfl⟩ : ∃ j, k = j + 1 := ⟨k - 1, by omega⟩
  unfold tenancyref01_Clip.f
  by_cases h0 : n < 0
  · rw [if_pos h0, tenancyref01_Clip.j0, if_pos rfl]
  · rw [if_neg h0, tenancyref01_Clip.j0, decide_eq_true (by omega), if_pos rfl]
theorem rsound_eq {k : Nat} (hk : 200 ≤ k) (h l : Nat) (hh : h < 18446744073709551616) (hl : l < 18446744073709551616) (n : Int) : tenancyref01_Sound.f k h l n = some (decide (snd h l n)) := by
  unfold tenancyref01_Sound.f
  by_cases hn : 0 ≤ n ∧ n ≤ 128
  · rw [rclip_eq hk h l hh hl n hn.1 hn.2, Option.bind_some, if_pos rfl]
    congr 1
    have hc := cheq (128 - n).toNat h l (by omega) hh hl
    rw [Bool.eq_iff_iff]
    simp only [Bool.and_eq_true, beq_iff_eq, decide_eq_true_eq, Int.natCast_inj]
    unfold snd
    rw [← hc]
    constructor
    · rintro ⟨⟨e1, e2⟩, _⟩; exact ⟨hn.1, hn.2, e1, e2⟩
    · rintro ⟨_, _, e1, e2⟩; exact ⟨⟨e1, e2⟩, trivial⟩
  · rw [rclip_bad (by omega) _ _ n (by omega), Option.bind_some, if_neg (by decide), decide_eq_false]
    unfold snd
    omega
/-! leases, changes -/
theorem rright_eq {k : Nat} (hk : 300 ≤ k) (c : Int) (h l : Nat) (hh : h < 18446744073709551616) (hl : l < 18446744073709551616) (n : Int) : tenancyref08_Right.f k c h l n = some (decide (right c h l n)) := by
  obtain ⟨j, rfl⟩ : ∃ j, k = j + 1 := ⟨k - 1, by omega⟩
  unfold tenancyref08_Right.f
  rw [rsound_eq (by omega) h l hh hl n, Option.bind_some]
  by_cases s : snd h l n
  · rw [decide_eq_true s, if_pos rfl]
    by_cases c1 : c = 1
    · rw [if_pos c1]
      by_cases n1 : n = 128
      · rw [if_pos n1]
        by_cases h0 : h = 0
        · rw [if_pos (by omega)]
          refine congrArg some ?_
          rw [decide_eq_decide]
          unfold right
          constructor
          · intro q; exact .inl ⟨c1, n1, h0, by omega⟩
          · rintro (⟨_, _, _, q⟩ | ⟨q, _⟩ | ⟨q, _⟩) <;> omega
        · rw [if_neg (by omega), decide_eq_false]
          rintro (⟨_, _, q, _⟩ | ⟨q, _⟩ | ⟨q, _⟩) <;> omega
      · rw [if_neg n1, decide_eq_false]
        rintro (⟨_, q, _, _⟩ | ⟨q, _⟩ | ⟨q, _⟩) <;> omega
    · rw [if_neg c1]
      have key : ∀ b : Bool, (b = true ↔ (c = 2 ∨ c = 3)) → tenancyref08_Right.j0 (j + 1) c b h l n = some (decide (right c h l n)) := by
        intro b hb
        rw [tenancyref08_Right.j0]
        by_cases q : b = true
        · rw [if_pos q]
          congr 1
          rw [Bool.eq_iff_iff, beq_iff_eq, decide_eq_true_eq]
          have := hb.1 q
          constructor
          · intro z; exact .inr (.inl ⟨this, z⟩)
          · rintro (⟨z, _⟩ | ⟨_, z⟩ | ⟨z, _⟩)
            · omega
            · exact z
            · omega
        · have hq : ¬ (c = 2 ∨ c = 3) := fun z => q (hb.2 z)
          rw [if_neg q]
          by_cases c4 : c = 4
          · rw [if_pos c4]
            by_cases n1 : n ≥ 1
            · rw [if_pos n1]
              congr 1
              rw [decide_eq_decide]
              constructor
              · intro z; exact .inr (.inr ⟨c4, s, by omega, by omega⟩)
              · rintro (⟨z, _⟩ | ⟨z, _⟩ | ⟨_, _, _, z⟩)
                · exact absurd z c1
                · exact absurd z hq
                · omega
            · rw [if_neg n1, decide_eq_false]
              rintro (⟨z, _⟩ | ⟨z, _⟩ | ⟨_, _, z, _⟩)
              · exact absurd z c1
              · exact absurd z hq
              · omega
          · rw [if_neg c4, decide_eq_false]
            rintro (⟨z, _⟩ | ⟨z, _⟩ | ⟨z, _⟩)
            · exact c1 z
            · exact hq z
            · exact c4 z
      by_cases c2 : c = 2
      · rw [if_pos c2]; exact key _ (by rw [beq_iff_eq]; omega)
      · rw [if_neg c2]; exact key _ (by rw [beq_iff_eq]; omega)
  · rw [decide_eq_false s, if_neg (by decide), decide_eq_false (fun q => s (right_snd q))]
theorem rright_eq' {k : Nat} (hk : 300 ≤ k) (c h l n : Int) (hh : 0 ≤ h ∧ h < 18446744073709551616) (hl : 0 ≤ l ∧ l < 18446744073709551616) : tenancyref08_Right.f k c h l n = some (decide (right c h.toNat l.toNat n)) := by
  have := rright_eq hk c h.toNat l.toNat (by omega) (by omega) n
  rwa [Int.toNat_of_nonneg hh.1, Int.toNat_of_nonneg hl.1] at this
theorem rsnd_eq {k : Nat} (hk : 300 ≤ k) (c : S31) (h : Fit c) : tenancyref08_Sound.f k c.f1.f0 c.f1.f1.f0.f0 c.f1.f1.f0.f1 c.f1.f1.f1 c.f1.f2 c.f1.f3 c.f1.f4 c.f1.f5 = some (decide (soundP c)) := by
  obtain ⟨j, rfl⟩ : ∃ j, k = j + 1 := ⟨k - 1, by omega⟩
  unfold tenancyref08_Sound.f
  rw [rright_eq' (by omega) c.f1.f0 c.f1.f1.f0.f0 c.f1.f1.f0.f1 c.f1.f1.f1 h.hi h.lo, Option.bind_some]
  by_cases r : right c.f1.f0 c.f1.f1.f0.f0.toNat c.f1.f1.f0.f1.toNat c.f1.f1.f1
  · rw [decide_eq_true r, if_pos rfl]
    have key : ∀ b : Bool, (b = true ↔ (c.f1.f5 < 0 ∨ c.f1.f5 > 1099511627776)) → tenancyref08_Sound.j0 (j + 1) b c.f1.f0 c.f1.f1.f0.f0 c.f1.f1.f0.f1 c.f1.f1.f1 c.f1.f2 c.f1.f3 c.f1.f4 c.f1.f5 = some (decide (soundP c)) := by
      intro b hb
      rw [tenancyref08_Sound.j0]
      by_cases q : b = true
      · rw [if_pos q, decide_eq_false]
        have := hb.1 q
        rintro ⟨_, h1, h2, _⟩
        omega
      · have hr : ¬ (c.f1.f5 < 0 ∨ c.f1.f5 > 1099511627776) := fun z => q (hb.2 z)
        rw [if_neg q, toList_L]
        have hsz : (c.f1.f3.size : Int) = (L c.f1.f3).length := by rw [size_L]
        by_cases s2 : c.f1.f2 = 2
        · rw [if_pos s2]
          by_cases k4 : c.f1.f0 = 4
          · rw [if_pos k4, decide_eq_false]
            rintro ⟨_, _, _, ⟨z, _⟩ | ⟨_, z, _⟩⟩
            · omega
            · exact z k4
          · rw [if_neg k4]
            by_cases e : L c.f1.f3 = []
            · rw [if_pos e]
              congr 1
              rw [Bool.eq_iff_iff, beq_iff_eq, decide_eq_true_eq]
              exact ⟨fun z => ⟨r, by omega, by omega, .inr ⟨s2, k4, e, z⟩⟩, fun z => z.2.2.2.elim (fun z => by have := z.1; omega) (fun z => z.2.2.2)⟩
            · rw [if_neg e, decide_eq_false]
              rintro ⟨_, _, _, ⟨z, _⟩ | ⟨_, _, z, _⟩⟩
              · omega
              · exact e z
        · rw [if_neg s2]
          by_cases s1 : c.f1.f2 = 1
          · rw [if_pos s1]
            by_cases e : (c.f1.f3.size : Int) ≥ 1
            · have e' : L c.f1.f3 ≠ [] := by intro z; rw [hsz, z] at e; simp at e
              rw [if_pos e]
              by_cases e2 : (c.f1.f3.size : Int) ≤ 130
              · rw [if_pos e2]
                by_cases k1 : c.f1.f0 = 1
                · rw [if_pos k1]
                  congr 1
                  rw [Bool.eq_iff_iff, beq_iff_eq, decide_eq_true_eq]
                  exact ⟨fun z => ⟨r, by omega, by omega, .inl ⟨s1, e', by omega, fun _ => z⟩⟩, fun z => z.2.2.2.elim (fun z => z.2.2.2 k1) (fun z => z.2.2.2)⟩
                · rw [if_neg k1, decide_eq_true (show soundP c from ⟨r, by omega, by omega, .inl ⟨s1, e', by omega, fun z => absurd z k1⟩⟩)]
              · rw [if_neg e2, decide_eq_false]
                rintro ⟨_, _, _, ⟨_, _, z, _⟩ | ⟨z, _⟩⟩ <;> omega
            · have e' : L c.f1.f3 = [] := by
                apply List.eq_nil_of_length_eq_zero; omega
              rw [if_neg e, decide_eq_false]
              rintro ⟨_, _, _, ⟨_, z, _, _⟩ | ⟨z, _⟩⟩
              · exact z e'
              · exact s2 z
          · rw [if_neg s1, decide_eq_false]
            rintro ⟨_, _, _, ⟨z, _⟩ | ⟨z, _⟩⟩
            · exact s1 z
            · exact s2 z
    by_cases u : c.f1.f5 < 0
    · rw [if_pos u]; exact key true ⟨fun _ => .inl u, fun _ => rfl⟩
    · rw [if_neg u]; exact key _ (by rw [decide_eq_true_eq]; omega)
  · rw [decide_eq_false r, if_neg (by decide), tenancyref08_Sound.j0, if_pos rfl, decide_eq_false (fun z => r z.1)]
theorem rchange_eq {k : Nat} (hk : 300 ≤ k) (c : S31) (h : Fit c) : tenancyref08_Change.f k c.f0 c.f1.f0 c.f1.f1.f0.f0 c.f1.f1.f0.f1 c.f1.f1.f1 c.f1.f2 c.f1.f3 c.f1.f4 c.f1.f5 = some (decide (chgP c)) := by
  unfold tenancyref08_Change.f
  by_cases g : c.f0 = true
  · rw [if_pos g, rright_eq' (by omega) _ _ _ _ h.hi h.lo, Option.bind_some]
    have nf : ∀ q : Prop, ¬ q → (chgP c → q) → some false = some (decide (chgP c)) := fun q hq hc => by rw [decide_eq_false (fun z => hq (hc z))]
    have gn : ¬ (c.f0 = false) := by rw [g]; decide
    by_cases r : right c.f1.f0 c.f1.f1.f0.f0.toNat c.f1.f1.f0.f1.toNat c.f1.f1.f1
    · rw [decide_eq_true r, if_pos rfl, toList_L]
      by_cases q1 : c.f1.f2 = 0
      · rw [if_pos q1]
        by_cases q2 : L c.f1.f3 = []
        · rw [if_pos q2]
          by_cases q3 : c.f1.f4 = 0
          · rw [if_pos q3]
            congr 1
            rw [Bool.eq_iff_iff, beq_iff_eq, decide_eq_true_eq]
            exact ⟨fun z => .inl ⟨g, r, q1, q2, q3, z⟩, fun z => z.elim (fun z => z.2.2.2.2.2) (fun z => absurd z.1 gn)⟩
          · rw [if_neg q3]
            exact nf _ q3 (fun z => z.elim (fun z => z.2.2.2.2.1) (fun z => absurd z.1 gn))
        · rw [if_neg q2]
          exact nf _ q2 (fun z => z.elim (fun z => z.2.2.2.1) (fun z => absurd z.1 gn))
      · rw [if_neg q1]
        exact nf _ q1 (fun z => z.elim (fun z => z.2.2.1) (fun z => absurd z.1 gn))
    · rw [decide_eq_false r, if_neg (by decide)]
      exact nf _ r (fun z => z.elim (fun z => z.2.1) (fun z => absurd z.1 gn))
  · rw [if_neg g, rsnd_eq (by omega) c h, Option.bind_some]
    congr 1
    rw [decide_eq_decide]
    exact ⟨fun z => .inr ⟨Bool.eq_false_iff.2 g, z⟩, fun z => z.elim (fun z => absurd z.1 g) (·.2)⟩
end Go.Proofs.Ytpdopkhdhbdljaa.Lea
