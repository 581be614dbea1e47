/- What can be leased; what can't be leased at one time: plain lemmas; conditions: numbers are of their kind. -/
import Derived.Test.YtpdopkhdhbdljaaXAdr2
set_option linter.unusedVariables false
set_option linter.unusedSimpArgs false
namespace Go.Proofs.Ytpdopkhdhbdljaa.Lea
open Go.RowKit Go.Proofs.YtpdopkhdhbdljaaW.PrintWords Go.Proofs.YtpdopkhdhbdljaaW.PrintLast Go.Proofs.YtpdopkhdhbdljaaW.PrintMore Go.Proofs.Ytpdopkhdhbdljaa.X Go.Proofs.Ytpdopkhdhbdljaa.Pre Go.Proofs.Ytpdopkhdhbdljaa.Adr

def right (c : Int) (h l : Nat) (n : Int) : Prop := (c = 1 ∧ n = 128 ∧ h = 0 ∧ l ≤ 4294967295) ∨ ((c = 2 ∨ c = 3) ∧ n = 128) ∨ (c = 4 ∧ snd h l n ∧ 1 ≤ n ∧ n < 128)
instance (c : Int) (h l : Nat) (n : Int) : Decidable (right c h l n) := by unfold right; infer_instance
theorem snd128 (h l : Nat) : snd h l 128 := ⟨by decide, by decide, by rw [show ((128 : Int) - 128).toNat = 0 by decide]; simp [clip]⟩
theorem right_snd {c : Int} {h l : Nat} {n : Int} (hr : right c h l n) : snd h l n := by
  rcases hr with ⟨_, rfl, _⟩ | ⟨_, rfl⟩ | ⟨_, hs, _⟩
  · exact snd128 h l
  · exact snd128 h l
  · exact hs
theorem to4 (h l : Nat) : addr_To4.f h l = some (if h = 0 ∧ l ≤ 4294967295 then ((l : Int) % 4294967296, true) else (0, false)) := by
  unfold addr_To4.f
  by_cases h0 : h = 0
  · subst h0
    rw [if_pos (show ((0 : Nat) : Int) = 0 from rfl)]
    by_cases h1 : l ≤ 4294967295
    · rw [if_neg (by omega), if_pos ⟨rfl, h1⟩]
    · rw [if_pos (by omega), if_neg (by omega)]
  · rw [if_neg (by omega), if_neg (by omega)]
theorem right_eq {k : Nat} (hk : 2 ≤ k) (c : Int) (h l : Nat) (hh : h < 18446744073709551616) (hl : l < 18446744073709551616) (n : Int) : lease_Right.f k c h l n = some (decide (right c h l n)) := by
  obtain ⟨j, rfl⟩ : ∃ j, k = j + 1 := ⟨k - 1, by omega⟩
  unfold lease_Right.f
  rw [to4, Option.bind_some]
  by_cases c1 : c = 1
  · subst c1
    rw [if_pos rfl]
    by_cases hn : n = 128
    · rw [if_pos hn]
      congr 1
      by_cases h4 : h = 0 ∧ l ≤ 4294967295
      · rw [if_pos h4, decide_eq_true (show right 1 h l n from Or.inl ⟨rfl, hn, h4⟩)]
      · rw [if_neg h4, decide_eq_false]
        unfold right
        omega
    · rw [if_neg hn, decide_eq_false]
      unfold right
      omega
  · rw [if_neg c1]
    have key : ∀ b : Bool, (b = true ↔ (c = 2 ∨ c = 3)) → lease_Right.j0 (j + 1) c b h l n = some (decide (right c h l n)) := by
      intro b hb
      rw [lease_Right.j0]
      by_cases h2 : b = true
      · have h23 := hb.1 h2
        rw [if_pos h2]
        congr 1
        rw [Bool.eq_iff_iff, beq_iff_eq, decide_eq_true_eq]
        unfold right
        omega
      · have h23 : ¬ (c = 2 ∨ c = 3) := fun q => h2 (hb.2 q)
        rw [if_neg h2]
        by_cases c4 : c = 4
        · rw [if_pos c4, sound_eq (by omega) h l hh hl n, Option.bind_some]
          by_cases hs : snd h l n
          · rw [decide_eq_true hs, if_pos rfl]
            by_cases h1 : n ≥ 1
            · rw [if_pos h1]
              congr 1
              rw [decide_eq_decide]
              unfold right
              constructor
              · intro q; exact .inr (.inr ⟨c4, hs, h1, q⟩)
              · rintro (q | q | q)
                · omega
                · omega
                · exact q.2.2.2
            · rw [if_neg h1, decide_eq_false]
              unfold right
              omega
          · rw [decide_eq_false hs, if_neg (by decide), decide_eq_false]
            rintro (q | q | q)
            · omega
            · omega
            · exact hs q.2.1
        · rw [if_neg c4, decide_eq_false]
          unfold right
          omega
    by_cases c2 : c = 2
    · rw [if_pos c2]; exact key _ (by rw [beq_iff_eq]; omega)
    · rw [if_neg c2]; exact key _ (by rw [beq_iff_eq]; omega)
def lmeet (c : Int) (h l : Nat) (n : Int) (d : Int) (a b : Nat) (m : Int) : Prop :=
  right c h l n ∧ right d a b m ∧ (((c = 1 ∨ d = 1) ∧ c = d ∧ (h = a ∧ l = b) ∧ n = m) ∨ (¬ (c = 1 ∨ d = 1) ∧ meet h l n a b m))
instance (c : Int) (h l : Nat) (n : Int) (d : Int) (a b : Nat) (m : Int) : Decidable (lmeet c h l n d a b m) := by unfold lmeet; infer_instance
theorem lmeet_eq {k : Nat} (hk : 6 ≤ k) (c : Int) (h l : Nat) (hh : h < 18446744073709551616) (hl : l < 18446744073709551616) (n : Int) (d : Int) (a b : Nat) (ha : a < 18446744073709551616) (hb : b < 18446744073709551616) (m : Int) :
    lease_Meets.f k c h l n d a b m = some (decide (lmeet c h l n d a b m)) := by
  obtain ⟨j, rfl⟩ : ∃ j, k = j + 1 := ⟨k - 1, by omega⟩
  unfold lease_Meets.f
  rw [right_eq (by omega) c h l hh hl n, Option.bind_some]
  by_cases r1 : right c h l n
  · rw [decide_eq_true r1, if_pos rfl, right_eq (by omega) d a b ha hb m, Option.bind_some, lease_Meets.j0]
    by_cases r2 : right d a b m
    · rw [decide_eq_true r2, if_neg (by decide)]
      have same : (((h : Int) == (a : Int) && ((l : Int) == (b : Int))) && (n == m)) = decide ((h = a ∧ l = b) ∧ n = m) := by
        rw [Bool.eq_iff_iff]
        simp only [Bool.and_eq_true, beq_iff_eq, decide_eq_true_eq, Int.natCast_inj]
      have fin : (if c = d then some (((h : Int) == (a : Int) && ((l : Int) == (b : Int))) && (n == m)) else some false) = some (decide (c = d ∧ (h = a ∧ l = b) ∧ n = m)) := by
        by_cases hcd : c = d
        · rw [if_pos hcd, same]; congr 1; rw [decide_eq_decide]; simp [hcd]
        · rw [if_neg hcd, decide_eq_false (fun q => hcd q.1)]
      by_cases c1 : c = 1
      · rw [if_pos c1, fin]
        congr 1
        rw [decide_eq_decide]
        exact ⟨fun q => ⟨r1, r2, .inl ⟨.inl c1, q⟩⟩, fun q => q.2.2.elim (·.2) (fun z => absurd (.inl c1) z.1)⟩
      · rw [if_neg c1]
        by_cases d1 : d = 1
        · rw [if_pos d1, fin]
          congr 1
          rw [decide_eq_decide]
          exact ⟨fun q => ⟨r1, r2, .inl ⟨.inr d1, q⟩⟩, fun q => q.2.2.elim (·.2) (fun z => absurd (.inr d1) z.1)⟩
        · rw [if_neg d1, meet_eq (by omega) h l hh hl n a b ha hb m, Option.bind_some]
          congr 1
          rw [decide_eq_decide]
          exact ⟨fun q => ⟨r1, r2, .inr ⟨fun z => z.elim c1 d1, q⟩⟩, fun q => q.2.2.elim (fun z => absurd z.1 (fun z => z.elim c1 d1)) (·.2)⟩
    · rw [decide_eq_false r2, if_pos (show (!false) = true from rfl), decide_eq_false (fun q => r2 q.2.1)]
  · rw [decide_eq_false r1, if_neg (by decide), lease_Meets.j0, if_pos rfl, decide_eq_false (fun q => r1 q.1)]
theorem lmeet_comm (c : Int) (h l : Nat) (n : Int) (d : Int) (a b : Nat) (m : Int) : lmeet c h l n d a b m ↔ lmeet d a b m c h l n := by
  unfold lmeet
  rw [meet_comm h l n a b m]
  constructor
  · rintro ⟨r1, r2, ⟨q, e1, ⟨e2, e3⟩, e4⟩ | ⟨q, e⟩⟩
    · exact ⟨r2, r1, .inl ⟨q.symm, e1.symm, ⟨e2.symm, e3.symm⟩, e4.symm⟩⟩
    · exact ⟨r2, r1, .inr ⟨fun z => q z.symm, e⟩⟩
  · rintro ⟨r1, r2, ⟨q, e1, ⟨e2, e3⟩, e4⟩ | ⟨q, e⟩⟩
    · exact ⟨r2, r1, .inl ⟨q.symm, e1.symm, ⟨e2.symm, e3.symm⟩, e4.symm⟩⟩
    · exact ⟨r2, r1, .inr ⟨fun z => q z.symm, e⟩⟩
theorem lmeet_self (c : Int) (h l : Nat) (n : Int) : lmeet c h l n c h l n ↔ right c h l n := by
  constructor
  · exact (·.1)
  · intro r
    refine ⟨r, r, ?_⟩
    by_cases c1 : c = 1
    · exact .inl ⟨.inl c1, rfl, ⟨rfl, rfl⟩, rfl⟩
    · exact .inr ⟨fun z => z.elim c1 c1, (meet_has (right_snd r) (right_snd r)).2 (.inl ⟨right_snd r, (right_snd r).2.2⟩)⟩
theorem nat_u64 {x : Int} (h : (Lit.int .u64 x).wf = true) : ∃ y : Nat, x = (y : Int) ∧ y < 18446744073709551616 := by
  have h : 0 ≤ x ∧ x ≤ 18446744073709551615 := by simpa [Lit.wf, IntKind.min, IntKind.max, IntKind.bits, IntKind.signed] using h
  exact ⟨x.toNat, by omega, by omega⟩
end Go.Proofs.Ytpdopkhdhbdljaa.Lea
