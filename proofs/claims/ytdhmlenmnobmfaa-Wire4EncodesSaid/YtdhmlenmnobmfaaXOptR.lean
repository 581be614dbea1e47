/- The reference's side of the plain lemmas: no condition. -/
import Derived.Test.YtdhmlenmnobmfaaG0
import Derived.Test.YtdhmlenmnobmfaaG1
import Derived.Test.YtdhmlenmnobmfaaG2
import Derived.Test.YtdhmlenmnobmfaaG3
import Derived.Test.YtdhmlenmnobmfaaG4
import Derived.Test.YtdhmlenmnobmfaaG5
import Derived.Laws.BitsAllLaws
import Derived.Lib.Strings
import Derived.Test.YtdhmlenmnobmfaaXOpt
set_option linter.unusedVariables false
set_option linter.unusedSimpArgs false
namespace Go.Proofs.Ytdhmlenmnobmfaa.Opt
open Go.RowKit Go.Proofs.YtdhmlenmnobmfaaW.PrintWords Go.Proofs.YtdhmlenmnobmfaaW.PrintLast Go.Proofs.YtdhmlenmnobmfaaW.PrintMore Go.Proofs.Ytdhmlenmnobmfaa.X Go.Proofs.Ytdhmlenmnobmfaa.Oct

theorem place_go : ∀ (n k : Nat) (l : List S47) (c : Int) (i : Nat), l.length ≤ 140737488351232 → l.length - i ≤ n → n + 1 ≤ k → tenancyref13_place.l0 k l c (i : Int) = some (idxOf c (l.drop i) i) := by
  intro n
  induction n using Nat.strongRecOn with
  | ind n ih =>
      intro k l c i hs hn hk
      obtain ⟨k, rfl⟩ : ∃ m, k = m + 1 := ⟨k - 1, by omega⟩
      rw [tenancyref13_place.l0]
      by_cases hlt : i < l.length
      · obtain ⟨m, rfl⟩ : ∃ m, n = m + 1 := ⟨n - 1, by omega⟩
        have hrd : rd_T47 l (i : Int) = l[i] := by
          show List.getD _ _ _ = _
          rw [List.getD_eq_getElem?_getD, Int.toNat_natCast, List.getElem?_eq_getElem hlt]; rfl
        rw [if_pos (by omega), if_pos (by omega), hrd, List.drop_eq_getElem_cons hlt, idxOf]
        by_cases h : l[i].f0 = c
        · rw [if_pos h, if_pos h]
        · rw [if_neg h, if_neg h, w64 (by omega), show ((i : Int) + 1) = ((i + 1 : Nat) : Int) by omega, ih m (by omega) k l c (i + 1) hs (by omega) (by omega)]
      · rw [if_neg (by omega), List.drop_eq_nil_of_le (by omega)]; rfl
theorem place_eq {k : Nat} (l : List S47) (c : Int) (hs : l.length ≤ 140737488351232) (hk : l.length + 1 ≤ k) : tenancyref13_place.f k l c = some (idxOf c l 0) := by
  have h := place_go l.length k l c 0 hs (by omega) hk
  rw [List.drop_zero] at h
  exact h
end Go.Proofs.Ytdhmlenmnobmfaa.Opt
