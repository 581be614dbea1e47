/- The plain statement of LeaseMeets: what meets what, both ways: no condition. -/
import Derived.Test.YtpdopkhdhbdljaaG12
import Derived.Laws.BitsAllLaws
import Derived.Lib.Strings
import Derived.Test.YtpdopkhdhbdljaaXLea2
set_option linter.unusedVariables false
namespace Go.Proofs.Ytpdopkhdhbdljaa.Pure
open Go.RowKit Go.Proofs.YtpdopkhdhbdljaaW.PrintWords Go.Proofs.YtpdopkhdhbdljaaW.PrintLast Go.Proofs.YtpdopkhdhbdljaaW.PrintMore Go.Proofs.Ytpdopkhdhbdljaa.X Go.Proofs.Ytpdopkhdhbdljaa.Lea Go.Proofs.Ytpdopkhdhbdljaa.Adr
theorem LeaseMeets : tenancylaw08_LeaseMeets.Pure := by
  intro x0 x1 w0 w1
  obtain ⟨g0, c, ⟨⟨h, l⟩, n⟩, s0, t0, i0, u0⟩ := x0
  obtain ⟨g1, d, ⟨⟨a, b⟩, m⟩, s1, t1, i1, u1⟩ := x1
  obtain ⟨h, rfl, hh⟩ := nat_u64 w0.2.2.1.1.1
  obtain ⟨l, rfl, hl⟩ := nat_u64 w0.2.2.1.1.2
  obtain ⟨a, rfl, ha⟩ := nat_u64 w1.2.2.1.1.1
  obtain ⟨b, rfl, hb⟩ := nat_u64 w1.2.2.1.1.2
  clear w0 w1
  refine ⟨200, ?_⟩
  unfold tenancylaw08_LeaseMeets.f
  dsimp only
  rw [awake_true (by omega), Option.bind_some, if_pos rfl, lmeet_eq (by omega) c h l hh hl n d a b ha hb m, Option.bind_some, lmeet_eq (by omega) d a b ha hb m c h l hh hl n, Option.bind_some]
  rw [show (decide (lmeet d a b m c h l n)) = decide (lmeet c h l n d a b m) from decide_eq_decide.2 (lmeet_comm _ _ _ _ _ _ _ _), bne_self_eq_false, if_neg (by decide)]
  rw [lmeet_eq (by omega) c h l hh hl n c h l hh hl n, Option.bind_some, right_eq (by omega) c h l hh hl n, Option.bind_some]
  rw [show (decide (lmeet c h l n c h l n)) = decide (right c h l n) from decide_eq_decide.2 (lmeet_self _ _ _ _), bne_self_eq_false, if_neg (by decide), Option.bind_some]
  by_cases r1 : right c h l n
  · rw [decide_eq_true r1, if_pos rfl, right_eq (by omega) d a b ha hb m, Option.bind_some, tenancylaw08_LeaseMeets.j0]
    by_cases r2 : right d a b m
    · rw [decide_eq_true r2, if_neg (by decide)]
      have key : ∀ q : Bool, (q = true ↔ (c = 1 ∨ d = 1)) → tenancylaw08_LeaseMeets.j1 199 (decide (lmeet c h l n d a b m)) q c h l n s0 t0 i0 u0 d a b m s1 t1 i1 u1 = some true := by
        intro q hq
        rw [tenancylaw08_LeaseMeets.j1]
        by_cases h1 : q = true
        · have hc := hq.1 h1
          rw [if_pos h1]
          have same : (((h : Int) == (a : Int) && ((l : Int) == (b : Int))) && (n == m)) = decide ((h = a ∧ l = b) ∧ n = m) := by
            rw [Bool.eq_iff_iff]
            simp only [Bool.and_eq_true, beq_iff_eq, decide_eq_true_eq, Int.natCast_inj]
          by_cases hcd : c = d
          · rw [if_pos hcd, same]
            congr 1
            rw [beq_iff_eq, decide_eq_decide]
            exact ⟨fun z => z.2.2.elim (·.2.2) (fun z => absurd hc z.1), fun z => ⟨r1, r2, .inl ⟨hc, hcd, z⟩⟩⟩
          · rw [if_neg hcd, decide_eq_false (fun z => z.2.2.elim (fun z => hcd z.2.1) (fun z => z.1 hc)), beq_self_eq_true]
        · have hc : ¬ (c = 1 ∨ d = 1) := fun z => h1 (hq.2 z)
          have hm : lmeet c h l n d a b m ↔ (has h l n a b ∨ has a b m h l) := by
            rw [← meet_has (right_snd r1) (right_snd r2)]
            exact ⟨fun z => z.2.2.elim (fun z => absurd z.1 hc) (·.2), fun z => ⟨r1, r2, .inr ⟨hc, z⟩⟩⟩
          rw [if_neg h1, has_eq (by omega) h l hh hl n a b ha hb, Option.bind_some]
          by_cases q1 : has h l n a b
          · rw [decide_eq_true q1, if_pos rfl, decide_eq_true (hm.2 (.inl q1)), beq_self_eq_true]
          · rw [decide_eq_false q1, if_neg (by decide), has_eq (by omega) a b ha hb m h l hh hl, Option.bind_some]
            congr 1
            rw [beq_iff_eq, decide_eq_decide, hm]
            exact ⟨fun z => z.resolve_left q1, .inr⟩
      by_cases c1 : c = 1
      · rw [if_pos c1]; exact key true ⟨fun _ => .inl c1, fun _ => rfl⟩
      · rw [if_neg c1]; exact key _ (by rw [beq_iff_eq]; exact ⟨.inr, fun z => z.resolve_left c1⟩)
    · rw [decide_eq_false r2, if_pos (show (!false) = true from rfl), decide_eq_false (fun q => r2 q.2.1)]
      rfl
  · rw [decide_eq_false r1, if_neg (by decide), tenancylaw08_LeaseMeets.j0, if_pos rfl, decide_eq_false (fun q => r1 q.1)]
    rfl
end Go.Proofs.Ytpdopkhdhbdljaa.Pure
