/- The reference's side of the plain lemmas: no condition. -/
import Derived.Test.YtdhmlenmnobmfaaG0
import Derived.Test.YtdhmlenmnobmfaaG1
import Derived.Test.YtdhmlenmnobmfaaG2
import Derived.Test.YtdhmlenmnobmfaaG3
import Derived.Test.YtdhmlenmnobmfaaG4
import Derived.Test.YtdhmlenmnobmfaaG5
import Derived.Laws.BitsAllLaws
import Derived.Lib.Strings
import Derived.Test.YtdhmlenmnobmfaaXWi
import Derived.Test.YtdhmlenmnobmfaaXOpt2R
import Derived.Test.YtdhmlenmnobmfaaXOctRefP
set_option linter.unusedVariables false
set_option linter.unusedSimpArgs false
namespace Go.Proofs.Ytdhmlenmnobmfaa.W4
open Go.RowKit Go.Proofs.YtdhmlenmnobmfaaW.PrintWords Go.Proofs.YtdhmlenmnobmfaaW.PrintLast Go.Proofs.YtdhmlenmnobmfaaW.PrintMore Go.Proofs.Ytdhmlenmnobmfaa.X Go.Proofs.Ytdhmlenmnobmfaa.Oct Go.Proofs.Ytdhmlenmnobmfaa.Opt

theorem remit_eqV {k : Nat} (l : List S47) (hk : 60 * l.length + 200 ≤ k) : tenancyref13_Emit.f k l = some (emitV l) := remit_eq l hk
theorem rsound_eq {k : Nat} (m : S26) (hl : m.f14.length ≤ 140737488351232) (hk : 60 * m.f14.length + 200 ≤ k) : tenancyref14_Sound.f k m.f0 m.f1 m.f2 m.f3 m.f4 m.f5 m.f6 m.f7 m.f8 m.f9 m.f10 m.f11 m.f12 m.f13 m.f14 = some (soundV m) := by
  unfold tenancyref14_Sound.f soundV
  rw [remit_eq m.f14 hk, Option.bind_some, find_eq m.f14 52 hl (by omega), find52, Option.bind_some]
  show (if (m.f11.size : Int) = 16 then (if (m.f12.size : Int) = 64 then (if (m.f13.size : Int) = 128 then (if (emitV m.f14).2 = 0 then some (!(findL m.f14).2) else _) else _) else _) else _) = _
  by_cases h1 : m.f11.size = 16
  · rw [if_pos (by omega)]
    by_cases h2 : m.f12.size = 64
    · rw [if_pos (by omega)]
      by_cases h3 : m.f13.size = 128
      · rw [if_pos (by omega)]
        by_cases h5 : (emitV m.f14).2 = 0
        · rw [if_pos h5]
          cases h4 : (findL m.f14).2
          · rw [decide_eq_true ⟨h1, h2, h3, rfl, h5⟩]; rfl
          · rw [decide_eq_false (fun h => by cases h.2.2.2.1)]; rfl
        · rw [if_neg h5, decide_eq_false (fun h => h5 h.2.2.2.2)]
      · rw [if_neg (by omega), decide_eq_false (fun h => h3 h.2.2.1)]
    · rw [if_neg (by omega), decide_eq_false (fun h => h2 h.2.1)]
  · rw [if_neg (by omega), decide_eq_false (fun h => h1 h.1)]
end Go.Proofs.Ytdhmlenmnobmfaa.W4
