/- The plain statement of LeaseReads: the reference reads the same: no condition. -/
import Derived.Test.YtpdopkhdhbdljaaG17
import Derived.Laws.BitsAllLaws
import Derived.Lib.Strings
import Derived.Test.YtpdopkhdhbdljaaXRefD
set_option linter.unusedVariables false
namespace Go.Proofs.Ytpdopkhdhbdljaa.Pure
open Go.RowKit Go.Proofs.YtpdopkhdhbdljaaW.PrintWords Go.Proofs.YtpdopkhdhbdljaaW.PrintLast Go.Proofs.YtpdopkhdhbdljaaW.PrintMore Go.Proofs.Ytpdopkhdhbdljaa.X Go.Proofs.Ytpdopkhdhbdljaa.Lea Go.Proofs.Ytpdopkhdhbdljaa.Oct
theorem same_go (x : List S31) (hx : x.length ≤ 2048) : ∀ (d k i : Nat), i + d = x.length → d < k → tenancylaw08_same.l0 k x x (i : Int) = some true
  | 0, k, i, hi, hk => by
    obtain ⟨j, rfl⟩ : ∃ j, k = j + 1 := ⟨k - 1, by omega⟩
    rw [tenancylaw08_same.l0, if_neg (by omega)]
  | d + 1, k, i, hi, hk => by
    obtain ⟨j, rfl⟩ : ∃ j, k = j + 1 := ⟨k - 1, by omega⟩
    rw [tenancylaw08_same.l0, if_pos (by omega), if_pos (by omega), if_pos (by omega), if_neg (by simp), w64 (by omega)]
    exact same_go x hx d j (i + 1) (by omega) (by omega)
theorem same_eq {k : Nat} (hk : 2100 ≤ k) (x : List S31) (hx : x.length ≤ 2048) : tenancylaw08_same.f k x x = some true := by
  unfold tenancylaw08_same.f
  rw [if_pos rfl]
  exact same_go x hx x.length k 0 (by omega) (by omega)
theorem LeaseReads : tenancylaw08_LeaseReads.Pure := by
  intro s hs
  refine ⟨7000, ?_⟩
  unfold tenancylaw08_LeaseReads.f
  rw [awake_true (by omega), Option.bind_some, if_pos rfl, decode_eq (by omega) s (by omega), Option.bind_some, rdecode_eq (by omega) s (by omega), Option.bind_some, same_eq (by omega) _ (decS_len _), Option.bind_some, if_pos rfl, beq_self_eq_true]
end Go.Proofs.Ytpdopkhdhbdljaa.Pure
