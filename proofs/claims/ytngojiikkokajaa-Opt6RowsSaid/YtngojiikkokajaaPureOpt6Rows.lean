/- Opt6Rows: no condition. -/
import Derived.Test.YtngojiikkokajaaG0
import Derived.Test.YtngojiikkokajaaG1
import Derived.Test.YtngojiikkokajaaG2
import Derived.Test.YtngojiikkokajaaG3
import Derived.Test.YtngojiikkokajaaG4
import Derived.Test.YtngojiikkokajaaG5
import Derived.Test.YtngojiikkokajaaG18
import Derived.Laws.BitsAllLaws
import Derived.Lib.Strings
import Derived.Test.YtngojiikkokajaaXO4
set_option linter.unusedVariables false
namespace Go.Proofs.Ytngojiikkokajaa.Pure
open Go Go.RowKit Go.Proofs.YtngojiikkokajaaW.PrintWords Go.Proofs.YtngojiikkokajaaW.PrintLast Go.Proofs.YtngojiikkokajaaW.PrintMore Go.Proofs.Ytngojiikkokajaa.X Go.Proofs.Ytngojiikkokajaa.Oct Go.Proofs.Ytngojiikkokajaa.O6
theorem rows_j0 (s t : ByteArray) (hs : s.size ≤ 140737488351232) (ht : t.size ≤ 140737488351232) (x y : List S40) (h1 : opts (L s) = (x, 0)) (h2 : opts (L t) = (y, 0)) (k : Nat) (hk : 600 ≤ k) : tenancylaw15_Opt6Rows.j0 k s t x y false = some true := by
  obtain ⟨k, rfl⟩ : ∃ m, k = m + 1 := ⟨k - 1, by omega⟩
  obtain ⟨e1, o1, z1, l1⟩ := opts_back h1
  obtain ⟨e2, o2, z2, l2⟩ := opts_back h2
  have hz : ∀ q ∈ x ++ y, okF q := fun q hq => (List.mem_append.1 hq).elim (z1 q) (z2 q)
  have ho : emOk (x ++ y) = true := by rw [emOk_append, o1, o2]; rfl
  have hL : L (s ++ t) = emL (x ++ y) := by rw [L_append, emL_append, e1, e2]
  have hsz : (s ++ t).size ≤ 4611686018427387904 := by rw [ByteArray.size_append]; omega
  rw [tenancylaw15_Opt6Rows.j0, if_neg (by decide), emit_eq x z1 l1, if_pos o1, Option.bind_some, if_pos rfl, if_pos (by rw [toList_L, toList_L, L_B, e1]), if_pos (by omega), parse_eq _ hsz _ (by omega), Option.bind_some, hL, w64 (by omega)]
  by_cases h128 : (x.length : Int) + (y.length : Int) > 128
  · rw [if_pos h128, opts_many (x ++ y) ho hz (by rw [List.length_append]; omega), if_pos rfl]
    rfl
  · rw [if_neg h128, opts_emit (x ++ y) ho hz (by rw [List.length_append]; omega), if_pos rfl]
    dsimp only
    rw [if_pos (by rw [List.length_append]; omega), if_pos (by omega), if_pos (by rw [List.length_append]; omega), List.take_left' rfl, same_true x (by omega) k (by omega), Option.bind_some, if_pos rfl, List.drop_left' rfl, same_true y (by omega) k (by omega), Option.bind_some, if_pos rfl]
    by_cases h0 : (t.size : Int) = 0
    · rw [if_pos h0]
    · have ht0 : 0 < t.size := by omega
      have hy : y ≠ [] := fun e => by
        rw [e] at e2
        have := congrArg List.length e2
        rw [size_L] at ht0
        rw [← this] at ht0
        exact absurd ht0 (by decide)
      have hw : wrap64 ((t.size : Int) - 1) = (t.size : Int) - 1 := w64 (by omega)
      have hte : L (s ++ t.extract 0 ((t.size : Int) - 1).toNat) = (emL (x ++ y)).take ((emL (x ++ y)).length - 1) := by
        have hlen : (emL (x ++ y)).length = s.size + t.size := by rw [← hL, L_append, List.length_append, size_L, size_L]
        rw [L_append, L_extract, List.drop_zero, hlen, emL_append, e1, e2, List.take_append, List.take_of_length_le (show (L s).length ≤ s.size + t.size - 1 by rw [← size_L]; omega)]
        congr 2
        rw [← size_L]
        omega
      have hsh := opts_short (x ++ y) ho hz (by rw [List.length_append]; omega) (fun e => hy (List.append_eq_nil_iff.1 e).2)
      rw [if_neg h0, hw, if_pos (by omega), if_pos (by omega), if_pos (by rw [ByteArray.size_extract]; omega), parse_eq _ (by rw [ByteArray.size_append, ByteArray.size_extract]; omega) _ (by omega), Option.bind_some, hte, hsh]
      rfl
theorem Opt6Rows : tenancylaw15_Opt6Rows.Pure := by
  intro s t hs ht
  refine ⟨1000, ?_⟩
  obtain ⟨x, e1, h1⟩ : ∃ x e, opts (L s) = (x, e) := ⟨_, _, rfl⟩
  obtain ⟨y, e2, h2⟩ : ∃ x e, opts (L t) = (x, e) := ⟨_, _, rfl⟩
  unfold tenancylaw15_Opt6Rows.f
  rw [awake _ (by decide), Option.bind_some, if_pos rfl, parse_eq s (by omega) _ (by decide), parse_eq t (by omega) _ (by decide), h1, h2, Option.bind_some, Option.bind_some]
  dsimp only
  have stop : ∀ b, b = true → tenancylaw15_Opt6Rows.j0 1000 s t x y b = some true := fun b hb => by
    rw [show (1000 : Nat) = 999 + 1 from rfl, tenancylaw15_Opt6Rows.j0, if_pos hb]
  by_cases a : e1 = 0
  · rw [if_pos a]
    by_cases b : e2 = 0
    · subst a
      subst b
      exact rows_j0 s t hs ht x y h1 h2 1000 (by decide)
    · exact stop _ (by simpa using b)
  · rw [if_neg a]
    exact stop _ rfl
end Go.Proofs.Ytngojiikkokajaa.Pure
