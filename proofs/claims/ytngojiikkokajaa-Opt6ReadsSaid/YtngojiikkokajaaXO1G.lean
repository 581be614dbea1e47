/- Opt6: rows of options, read and written by the reference: plain lemmas; conditions: strings are within 2^62. -/
import Derived.Test.YtngojiikkokajaaG0
import Derived.Test.YtngojiikkokajaaG1
import Derived.Test.YtngojiikkokajaaG2
import Derived.Test.YtngojiikkokajaaG3
import Derived.Test.YtngojiikkokajaaG4
import Derived.Test.YtngojiikkokajaaG5
import Derived.Test.YtngojiikkokajaaG6
import Derived.Laws.BitsAllLaws
import Derived.Lib.Strings
import Derived.Test.YtngojiikkokajaaXO1
import Derived.Test.YtngojiikkokajaaXOctRefG
set_option linter.unusedVariables false
set_option linter.unusedSimpArgs false
namespace Go.Proofs.Ytngojiikkokajaa.O6
open Go Go.RowKit Go.Proofs.YtngojiikkokajaaW.PrintWords Go.Proofs.YtngojiikkokajaaW.PrintLast Go.Proofs.YtngojiikkokajaaW.PrintMore Go.Proofs.Ytngojiikkokajaa.X Go.Proofs.Ytngojiikkokajaa.Oct
theorem rparse_go (s : ByteArray) (hs : s.size ≤ 4611686018427387904) (d : Nat) : ∀ (k : Nat) (acc : List S40) (i : Int), 0 ≤ i → i ≤ s.size → (s.size : Int) - i < d → 2 * (129 - acc.length) + 20 ≤ k → acc.length ≤ 128 →
    tenancyref15_Parse.l0 k s acc i = some (prs (L s) d acc i) := by
  have hsz : ((L s).length : Int) = s.size := by rw [size_L]
  induction d with
  | zero => intro k acc i h0 h1 hd; omega
  | succ d ih =>
    intro k acc i h0 h1 hd hk hacc
    obtain ⟨k, rfl⟩ : ∃ m, k = m + 2 := ⟨k - 2, by omega⟩
    rw [tenancyref15_Parse.l0, prs]
    by_cases hlt : i < (s.size : Int)
    · rw [if_pos hlt, if_pos (by rw [hsz]; exact hlt), rget16 (by omega) s i hs (by omega), Option.bind_some, w64 (n := i + 2) (by omega), rtakeRun (by omega) s (i + 2) hs (by omega), Option.bind_some]
      dsimp only
      have hj : ∀ b, tenancyref15_Parse.j1 (k + 1) s acc (getN (L s) i 2) (B (takeL (L s) (i + 2))) (takeTo (L s) (i + 2)) b = if b = true then some (([] : List S40), 3) else if 128 ≤ acc.length then some ([], 6) else tenancyref15_Parse.l0 k s (acc ++ [⟨getN (L s) i 2, B (takeL (L s) (i + 2))⟩]) (takeTo (L s) (i + 2)) := by
        intro b
        rw [tenancyref15_Parse.j1]
        by_cases hb : b = true
        · rw [if_pos hb, if_pos hb]
        · rw [if_neg hb, if_neg hb]
          by_cases h128 : 128 ≤ acc.length
          · rw [if_pos (by omega), if_pos h128]
          · rw [if_neg (by omega), if_neg h128, if_pos (by omega)]
      by_cases hc : cutB (L s) i 2 = true
      · rw [if_pos hc, hj]
        by_cases ht : takeOk (L s) (i + 2) = true
        · rw [if_neg (by rw [ht]; decide), if_pos (show cutB (L s) i 2 = true ∧ takeOk (L s) (i + 2) = true from ⟨hc, ht⟩)]
          have hb := take_bound ht
          by_cases h128 : 128 ≤ acc.length
          · rw [if_pos h128, if_pos h128]
          · rw [if_neg h128, if_neg h128]
            exact ih k _ _ (by omega) (by omega) (by omega) (by rw [List.length_append, List.length_singleton]; omega) (by rw [List.length_append, List.length_singleton]; omega)
        · rw [if_pos (by rw [Bool.eq_false_iff.2 ht]; rfl), if_neg (fun h => ht h.2)]
      · rw [if_neg hc, hj, if_pos rfl, if_neg (fun h => hc h.1)]
    · rw [if_neg hlt, if_neg (by rw [hsz]; exact hlt)]
theorem rparse_eq (s : ByteArray) (hs : s.size ≤ 4611686018427387904) (k : Nat) (hk : 300 ≤ k) : tenancyref15_Parse.f k s = some (opts (L s)) := by
  unfold tenancyref15_Parse.f opts
  rw [rparse_go s hs (s.size + 1) k [] 0 (by omega) (by omega) (by omega) (by simp; omega) (by decide), size_L]
theorem rgetStatus_eq (s : ByteArray) (hs : s.size ≤ 4611686018427387904) (k : Nat) (hk : 12 ≤ k) : tenancyref15_GetStatus.f k s = some (if cutB (L s) 0 2 = true then (getN (L s) 0 2, true) else (-1, false)) := by
  unfold tenancyref15_GetStatus.f
  rw [rget16 (by omega) s 0 hs (by omega), Option.bind_some]
  dsimp only
  by_cases h : cutB (L s) 0 2 = true
  · have hr : 0 ≤ getN (L s) 0 2 ∧ getN (L s) 0 2 < 65536 := by have := getN_range (L s) 0 2; simpa using this
    rw [if_pos h, if_pos h, w64 (by omega)]
  · rw [if_neg h, if_neg h]
end Go.Proofs.Ytngojiikkokajaa.O6
