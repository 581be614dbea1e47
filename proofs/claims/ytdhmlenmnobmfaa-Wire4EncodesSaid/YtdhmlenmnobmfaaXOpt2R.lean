/- The reference's side of the plain lemmas: no condition. -/
import Derived.Test.YtdhmlenmnobmfaaG0
import Derived.Test.YtdhmlenmnobmfaaG1
import Derived.Test.YtdhmlenmnobmfaaG2
import Derived.Test.YtdhmlenmnobmfaaG3
import Derived.Test.YtdhmlenmnobmfaaG4
import Derived.Test.YtdhmlenmnobmfaaG5
import Derived.Laws.BitsAllLaws
import Derived.Lib.Strings
import Derived.Test.YtdhmlenmnobmfaaXOpt2
import Derived.Test.YtdhmlenmnobmfaaXOptR
set_option linter.unusedVariables false
set_option linter.unusedSimpArgs false
namespace Go.Proofs.Ytdhmlenmnobmfaa.Opt
open Go.RowKit Go.Proofs.YtdhmlenmnobmfaaW.PrintWords Go.Proofs.YtdhmlenmnobmfaaW.PrintLast Go.Proofs.YtdhmlenmnobmfaaW.PrintMore Go.Proofs.Ytdhmlenmnobmfaa.X Go.Proofs.Ytdhmlenmnobmfaa.Oct

theorem find_eq {k : Nat} (l : List S47) (c : Int) (hs : l.length ≤ 140737488351232) (hk : l.length + 1 ≤ k) : tenancyref13_Find.f k l c = opt4_Find.f l c := by
  rw [tenancyref13_Find.f, opt4_Find.f, place_eq l c hs hk, hasix.f]
theorem rinner_go : ∀ (n K : Nat) (x0 : List S47) (x4 : List Int) (s : ByteArray) (x5 : Int) (c : Int) (d : ByteArray) (r : ByteArray × Int), s.size ≤ 255 * n + 255 → x4.length + s.size + 2 * n ≤ 10000000 →
    (∀ k, K ≤ k → tenancyref13_Emit.l0 k x0 (x4 ++ pieceL n c (L s)) (wrap64 (x5 + 1)) = some r) → ∀ k, K + n + 1 ≤ k → tenancyref13_Emit.l1 k x0 x4 x5 s c d = some r := by
  intro n
  induction n with
  | zero =>
    intro K x0 x4 s x5 c d r hs hb h k hk
    obtain ⟨k, rfl⟩ : ∃ m, k = m + 1 := ⟨k - 1, by omega⟩
    rw [tenancyref13_Emit.l1, if_neg (by omega), Option.bind_some, if_pos (by simp; omega), Option.bind_some, if_pos (by simp; omega), bytesOf_L]
    have := h k (by omega)
    rw [pieceL, ← size_L] at this
    rw [show ((s.size : Nat) : Int) % 256 = (s.size : Int) by omega]
    simpa using this
  | succ m ih =>
    intro K x0 x4 s x5 c d r hs hb h k hk
    obtain ⟨k, rfl⟩ : ∃ m, k = m + 1 := ⟨k - 1, by omega⟩
    by_cases h255 : s.size ≤ 255
    · rw [tenancyref13_Emit.l1, if_neg (by omega), Option.bind_some, if_pos (by simp; omega), Option.bind_some, if_pos (by simp; omega), bytesOf_L]
      have := h k (by omega)
      rw [pieceL, if_pos (by rw [← size_L]; exact h255), ← size_L] at this
      rw [show ((s.size : Nat) : Int) % 256 = (s.size : Int) by omega]
      simpa using this
    · have hz : (s.extract 0 255).size = 255 := by rw [ByteArray.size_extract]; omega
      have hd : (s.extract 255 s.size).size = s.size - 255 := by rw [ByteArray.size_extract]; omega
      rw [tenancyref13_Emit.l1, if_pos (by omega), Option.bind_some, if_pos (by simp; omega), Option.bind_some, if_pos (by decide), if_pos (by omega), if_pos (by rw [hz]; simp; omega), bytes_take]
      refine ih K x0 _ _ x5 c d r (by omega) ?_ ?_ k (by omega)
      · rw [hd]
        simp only [List.length_append, List.length_map, List.length_take, List.length_cons, List.length_nil]
        omega
      · intro k' hk'
        have := h k' hk'
        rw [pieceL, if_neg (by rw [← size_L]; exact h255)] at this
        rw [L_drop]
        simpa [List.append_assoc] using this
theorem remit_go : ∀ (n k : Nat) (l : List S47) (j : Nat) (acc : List Int), l.length ≤ 128 → l.length - j = n → j ≤ l.length → acc.length ≤ 5000 * j → 60 * n + 200 ≤ k → tenancyref13_Emit.l0 k l acc (j : Int) = some (emitS l n j acc) := by
  intro n
  induction n with
  | zero =>
    intro k l j acc hs hn hj ha hk
    obtain ⟨k, rfl⟩ : ∃ m, k = m + 1 := ⟨k - 1, by omega⟩
    rw [tenancyref13_Emit.l0, if_neg (by omega), if_pos (by omega)]; rfl
  | succ m ih =>
    intro k l j acc hs hn hj ha hk
    obtain ⟨k, rfl⟩ : ∃ m, k = m + 2 := ⟨k - 2, by omega⟩
    have hrd : rd_T47 l (j : Int) = l.getD j z47 := rfl
    have hw : wrap64 ((j : Int) + 1) = ((j + 1 : Nat) : Int) := (w64 (n := (j : Int) + 1) (by omega)).trans (by omega)
    rw [tenancyref13_Emit.l0, if_pos (by omega), if_pos (by omega), hrd, emitS]
    by_cases h0 : (l.getD j z47).f0 = 0
    · rw [if_pos h0, tenancyref13_Emit.j1, if_pos rfl, if_pos (show badO l j from Or.inl h0)]
    rw [if_neg h0]
    by_cases h1 : (l.getD j z47).f0 = 255
    · rw [if_pos h1, tenancyref13_Emit.j1, if_pos rfl, if_pos (show badO l j from Or.inr (Or.inl h1))]
    rw [if_neg h1, place_eq l _ (by omega) (by omega), Option.bind_some]
    by_cases h3 : idxOf (l.getD j z47).f0 l 0 < (j : Int)
    · rw [if_pos h3, tenancyref13_Emit.j1, if_pos rfl, if_pos (show badO l j from Or.inr (Or.inr (Or.inr h3)))]
    rw [if_neg h3, tenancyref13_Emit.j1]
    by_cases h2 : 4096 < (l.getD j z47).f1.size
    · rw [if_pos (by rw [decide_eq_true_eq]; omega), if_pos (show badO l j from Or.inr (Or.inr (Or.inl h2)))]
    · rw [if_neg (by rw [decide_eq_true_eq]; omega), if_neg (show ¬ badO l j by rintro (h | h | h | h); exact h0 h; exact h1 h; exact h2 h; exact h3 h)]
      have hpl := piece_len 17 (l.getD j z47).f0 (L (l.getD j z47).f1)
      rw [← size_L] at hpl
      refine rinner_go 17 (60 * m + 200) l acc _ _ _ _ _ (by omega) (by omega) (fun k' hk' => ?_) k (by omega)
      rw [hw]
      exact ih k' l (j + 1) _ hs (by omega) (by omega) (by rw [List.length_append]; omega) hk'
theorem remit_eq {k : Nat} (l : List S47) (hk : 60 * l.length + 200 ≤ k) : tenancyref13_Emit.f k l = some (if 128 < l.length then (⟨#[]⟩, 6) else emitS l l.length 0 []) := by
  rw [tenancyref13_Emit.f]
  by_cases h : 128 < l.length
  · rw [if_pos (by omega), if_pos h]
  · rw [if_neg (by omega), if_neg h]
    exact remit_go l.length k l 0 [] (by omega) (by omega) (by omega) (by simp) hk
end Go.Proofs.Ytdhmlenmnobmfaa.Opt
