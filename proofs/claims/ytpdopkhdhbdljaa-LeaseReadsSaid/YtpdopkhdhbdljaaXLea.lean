/- Leases in one row: comparing; awake: plain lemmas; no condition. -/
import Derived.Test.YtpdopkhdhbdljaaG5
import Derived.Laws.BitsAllLaws
import Derived.Lib.Strings
set_option linter.unusedVariables false
set_option linter.unusedSimpArgs false
namespace Go.Proofs.Ytpdopkhdhbdljaa.Lea
open Go.RowKit Go.Proofs.YtpdopkhdhbdljaaW.PrintWords Go.Proofs.YtpdopkhdhbdljaaW.PrintLast Go.Proofs.YtpdopkhdhbdljaaW.PrintMore Go.Proofs.Ytpdopkhdhbdljaa.X
theorem awake_true {k : Nat} (hk : 100 ≤ k) : tenancylaw08_awake.f k = some true :=
  at_rounds tenancylaw08_awake.mono hk (by decide +kernel)
/-- What orders: -1, 0, 1. -/
structure Ordr {α : Type} (f : α → α → Int) : Prop where
  rng : ∀ a b, -1 ≤ f a b ∧ f a b ≤ 1
  sym : ∀ a b, f b a = - f a b
  zero : ∀ a b, f a b = 0 ↔ a = b
  tr : ∀ a b c, f a b ≤ 0 → f b c ≤ 0 → f a c ≤ 0 ∧ (f a b < 0 ∨ f b c < 0 → f a c < 0)
def cmpI (a b : Int) : Int := if a < b then -1 else if a > b then 1 else 0
theorem ordI : Ordr cmpI := by
  constructor
  · intro a b; unfold cmpI; repeat' split
    all_goals omega
  · intro a b; unfold cmpI; repeat' split
    all_goals omega
  · intro a b; unfold cmpI; repeat' split
    all_goals omega
  · intro a b c; unfold cmpI; repeat' split
    all_goals omega
def lex {α β : Type} (f : α → α → Int) (g : β → β → Int) (x y : α × β) : Int := if f x.1 y.1 = 0 then g x.2 y.2 else f x.1 y.1
theorem ordL {α β : Type} {f : α → α → Int} {g : β → β → Int} (hf : Ordr f) (hg : Ordr g) : Ordr (lex f g) := by
  constructor
  · intro a b; unfold lex; split
    · exact hg.rng _ _
    · exact hf.rng _ _
  · intro a b; unfold lex
    have := hf.sym a.1 b.1
    by_cases h : f a.1 b.1 = 0
    · rw [if_pos h, if_pos (by omega)]; exact hg.sym _ _
    · rw [if_neg h, if_neg (by omega)]; exact this
  · intro a b; unfold lex
    by_cases h : f a.1 b.1 = 0
    · rw [if_pos h, hg.zero]
      have := (hf.zero _ _).1 h
      constructor
      · intro h2; exact Prod.ext this h2
      · intro h2; rw [h2]
    · rw [if_neg h]
      constructor
      · intro h2; exact absurd h2 h
      · intro h2; exact absurd ((hf.zero _ _).2 (by rw [h2])) h
  · intro a b c; unfold lex
    have t1 := hf.tr a.1 b.1 c.1
    by_cases h1 : f a.1 b.1 = 0
    · have e1 := (hf.zero _ _).1 h1
      by_cases h2 : f b.1 c.1 = 0
      · have e2 := (hf.zero _ _).1 h2
        rw [if_pos h1, if_pos h2, if_pos ((hf.zero _ _).2 (e1.trans e2))]
        exact hg.tr _ _ _
      · rw [if_pos h1, if_neg h2, e1, if_neg h2]
        omega
    · by_cases h2 : f b.1 c.1 = 0
      · have e2 := (hf.zero _ _).1 h2
        rw [if_neg h1, if_pos h2, ← e2, if_neg h1]
        omega
      · rw [if_neg h1, if_neg h2]
        intro h3 h4
        obtain ⟨h5, h6⟩ := t1 h3 h4
        have h7 := h6 (.inl (by omega))
        rw [if_neg (by omega)]
        omega
theorem or2 {k : Nat} (hk : 4 ≤ k) (a b : Int) : cmp_Or_int.f k [a, b] = some (if a = 0 then b else a) := by
  obtain ⟨m, rfl⟩ : ∃ m, k = m + 4 := ⟨k - 4, by omega⟩
  by_cases ha : a = 0 <;> by_cases hb : b = 0 <;> simp [cmp_Or_int.f, cmp_Or_int.l0, rd, wrap64, ha, hb]
theorem or3 {k : Nat} (hk : 5 ≤ k) (a b c : Int) : cmp_Or_int.f k [a, b, c] = some (if a = 0 then (if b = 0 then c else b) else a) := by
  obtain ⟨m, rfl⟩ : ∃ m, k = m + 5 := ⟨k - 5, by omega⟩
  by_cases ha : a = 0 <;> by_cases hb : b = 0 <;> by_cases hc : c = 0 <;> simp [cmp_Or_int.f, cmp_Or_int.l0, rd, wrap64, ha, hb, hc]
theorem cmpInt (a b : Int) : cmp_Compare_int.f a b = some (cmpI a b) := by
  unfold cmp_Compare_int.f cmp_isNaN_int.f cmpI
  simp only [Option.bind_some, bne_self_eq_false, Bool.false_eq_true, if_false]
  split
  · rfl
  · split <;> rfl
theorem cmpU (a b : Int) : cmp_Compare_uint64.f a b = some (cmpI a b) := by
  unfold cmp_Compare_uint64.f cmp_isNaN_uint64.f cmpI
  simp only [Option.bind_some, bne_self_eq_false, Bool.false_eq_true, if_false]
  split
  · rfl
  · split <;> rfl
def cmpA : Int × Int → Int × Int → Int := lex cmpI cmpI
theorem addrCmp {k : Nat} (hk : 4 ≤ k) (a b c d : Int) : addr_Cmp.f k a b c d = some (cmpA (a, b) (c, d)) := by
  unfold addr_Cmp.f
  rw [cmpU, Option.bind_some, cmpU, Option.bind_some, or2 hk, Option.bind_some]
  rfl
def cmpP : Int × (Int × Int) × Int → Int × (Int × Int) × Int → Int := lex cmpI (lex cmpA cmpI)
theorem ordP : Ordr cmpP := ordL ordI (ordL (ordL ordI ordI) ordI)
theorem cmpLease {k : Nat} (hk : 5 ≤ k) (a b c d e f g h : Int) : lease_Compare.f k a b c d e f g h = some (cmpP (a, (b, c), d) (e, (f, g), h)) := by
  unfold lease_Compare.f
  rw [cmpInt, Option.bind_some, addrCmp (by omega), Option.bind_some, cmpInt, Option.bind_some, or3 hk, Option.bind_some]
  rfl
end Go.Proofs.Ytpdopkhdhbdljaa.Lea
