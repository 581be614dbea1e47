/- The reference's side of the plain lemmas: no condition. -/
import Derived.Test.YtdhmlenmnobmfaaG0
import Derived.Test.YtdhmlenmnobmfaaG1
import Derived.Test.YtdhmlenmnobmfaaG2
import Derived.Test.YtdhmlenmnobmfaaG3
import Derived.Test.YtdhmlenmnobmfaaG7
import Derived.Test.YtdhmlenmnobmfaaG8
import Derived.Laws.BitsAllLaws
import Derived.Lib.Strings
import Derived.Test.YtdhmlenmnobmfaaXOpt2
import Derived.Test.YtdhmlenmnobmfaaXDoR
set_option linter.unusedVariables false
set_option linter.unusedSimpArgs false
namespace Go.Proofs.Ytdhmlenmnobmfaa.Opt
open Go.RowKit Go.Proofs.YtdhmlenmnobmfaaW.PrintWords Go.Proofs.YtdhmlenmnobmfaaW.PrintLast Go.Proofs.YtdhmlenmnobmfaaW.PrintMore Go.Proofs.Ytdhmlenmnobmfaa.X Go.Proofs.Ytdhmlenmnobmfaa.Oct

theorem find_eq {k : Nat} (l : List S47) (c : Int) (hs : l.length ≤ 140737488351232) (hk : l.length + 1 ≤ k) : tenancyref13_Find.f k l c = opt4_Find.f l c := by
  rw [tenancyref13_Find.f, opt4_Find.f, place_eq l c hs hk, hasix.f]
theorem without_go : ∀ (n k : Nat) (l : List S47) (c : Int) (x : List S47) (i : Nat), l.length ≤ 300 → x.length ≤ i → l.length - i ≤ n → n + 1 ≤ k → tenancyref13_Without.l0 k l c x (i : Int) = some (x ++ (l.drop i).filter (fun y => !(y.f0 == c))) := by
  intro n
  induction n with
  | zero =>
    intro k l c x i hs hx hn hk
    obtain ⟨k, rfl⟩ : ∃ m, k = m + 1 := ⟨k - 1, by omega⟩
    rw [tenancyref13_Without.l0, if_neg (by omega), List.drop_eq_nil_of_le (by omega)]; simp
  | succ m ih =>
    intro k l c x i hs hx hn hk
    obtain ⟨k, rfl⟩ : ∃ m, k = m + 1 := ⟨k - 1, by omega⟩
    rw [tenancyref13_Without.l0]
    by_cases hlt : i < l.length
    · have hrd : rd_T47 l (i : Int) = l[i] := by
        show List.getD _ _ _ = _
        rw [List.getD_eq_getElem?_getD, Int.toNat_natCast, List.getElem?_eq_getElem hlt]; rfl
      have hw : wrap64 ((i : Int) + 1) = ((i + 1 : Nat) : Int) := (w64 (n := (i : Int) + 1) (by omega)).trans (by omega)
      rw [if_pos (by omega), if_pos (by omega), hrd, hw, List.drop_eq_getElem_cons hlt]
      by_cases h : l[i].f0 = c
      · rw [if_pos h, ih k l c x (i + 1) hs (by omega) (by omega) (by omega), List.filter_cons_of_neg (by simpa using h)]
      · rw [if_neg h, if_pos (by omega), ih k l c _ (i + 1) hs (by rw [List.length_append]; simp; omega) (by omega) (by omega), List.filter_cons_of_pos (by simpa using h)]
        simp
    · rw [if_neg (by omega), List.drop_eq_nil_of_le (by omega)]; simp
theorem without_eq {k : Nat} (l : List S47) (c : Int) (hs : l.length ≤ 300) (hk : l.length + 1 ≤ k) : tenancyref13_Without.f k l c = some (l.filter (fun y => !(y.f0 == c))) := by
  have h := without_go l.length k l c [] 0 hs (by simp) (by omega) hk
  rw [List.drop_zero, List.nil_append] at h
  exact h

end Go.Proofs.Ytdhmlenmnobmfaa.Opt
