/- Functions of the program as Lean functions, and that the calls come to them: no condition.  By this session's own program (wip/xprint). -/
import Derived.Test.YthadapbekmmgpaaDX0
import Derived.Test.YthadapbekmmgpaaDX4
namespace Go.Proofs.Ythadapbekmmgpaa.X
open Go.RowKit Go.Proofs.YthadapbekmmgpaaW.PrintWords Go.Proofs.YthadapbekmmgpaaW.PrintLast Go.Proofs.YthadapbekmmgpaaW.PrintMore
attribute [local go_sem] max2_int min2_int max_two min_two max_three min_three max_four min_four
set_option linter.unusedVariables false
set_option linter.unusedSimpArgs false

def tenancyref16_own.f (a0 : Int) : Option (Bool) := if a0 = 1 then (some true) else (if a0 = 2 then (some true) else (if a0 = 3 then (some true) else (if a0 = 4 then (some true) else (if a0 = 13 then (some true) else (if a0 = 14 then (some true) else (if a0 = 19 then (some true) else (if a0 = 20 then (some true) else (if a0 = 25 then (some true) else (some false)))))))))
set_option maxHeartbeats 8000000 in
set_option maxRecDepth 100000 in
theorem tenancyref16_own.calls (a0 : Int) (r : Bool) (w : World) (h : tenancyref16_own.f a0 = some r) :
 Calls Try.prog 28 #[.int .u16 a0] w fun e w' => e = .returned (.bool r) ∧ Drawn0 w w' := by
 have H : (if a0 = 1 then (some true) else (if a0 = 2 then (some true) else (if a0 = 3 then (some true) else (if a0 = 4 then (some true) else (if a0 = 13 then (some true) else (if a0 = 14 then (some true) else (if a0 = 19 then (some true) else (if a0 = 20 then (some true) else (if a0 = 25 then (some true) else (some false)))))))))) = some r := h
 clear h
 by_cases c2 : a0 = 1
 ·rw [if_pos c2] at H
  have c2b0 : (a0 == 1) = true := beq_iff_eq.mpr c2
  have c2b1 : (a0 != 1) = false := bne_eq_false_iff_eq.mpr c2
  clear c2
  obtain rfl := Option.some.inj H
  go_enter Try.func28, Try.ntmps28
  go_wp2
  go_ret
  exact ⟨by rfl, by repeat (first | exact Drawn0.refl _)⟩
 rw [if_neg c2] at H
 have c2b0 : (a0 == 1) = false := beq_eq_false_iff_ne.mpr c2
 have c2b1 : (a0 != 1) = true := bne_iff_ne.mpr c2
 by_cases c3 : a0 = 2
 ·rw [if_pos c3] at H
  have c3b0 : (a0 == 2) = true := beq_iff_eq.mpr c3
  have c3b1 : (a0 != 2) = false := bne_eq_false_iff_eq.mpr c3
  clear c3
  obtain rfl := Option.some.inj H
  go_enter Try.func28, Try.ntmps28
  go_wp2
  go_ret
  exact ⟨by rfl, by repeat (first | exact Drawn0.refl _)⟩
 rw [if_neg c3] at H
 have c3b0 : (a0 == 2) = false := beq_eq_false_iff_ne.mpr c3
 have c3b1 : (a0 != 2) = true := bne_iff_ne.mpr c3
 by_cases c4 : a0 = 3
 ·rw [if_pos c4] at H
  have c4b0 : (a0 == 3) = true := beq_iff_eq.mpr c4
  have c4b1 : (a0 != 3) = false := bne_eq_false_iff_eq.mpr c4
  clear c4
  obtain rfl := Option.some.inj H
  go_enter Try.func28, Try.ntmps28
  go_wp2
  go_ret
  exact ⟨by rfl, by repeat (first | exact Drawn0.refl _)⟩
 rw [if_neg c4] at H
 have c4b0 : (a0 == 3) = false := beq_eq_false_iff_ne.mpr c4
 have c4b1 : (a0 != 3) = true := bne_iff_ne.mpr c4
 by_cases c5 : a0 = 4
 ·rw [if_pos c5] at H
  have c5b0 : (a0 == 4) = true := beq_iff_eq.mpr c5
  have c5b1 : (a0 != 4) = false := bne_eq_false_iff_eq.mpr c5
  clear c5
  obtain rfl := Option.some.inj H
  go_enter Try.func28, Try.ntmps28
  go_wp2
  go_ret
  exact ⟨by rfl, by repeat (first | exact Drawn0.refl _)⟩
 rw [if_neg c5] at H
 have c5b0 : (a0 == 4) = false := beq_eq_false_iff_ne.mpr c5
 have c5b1 : (a0 != 4) = true := bne_iff_ne.mpr c5
 by_cases c6 : a0 = 13
 ·rw [if_pos c6] at H
  have c6b0 : (a0 == 13) = true := beq_iff_eq.mpr c6
  have c6b1 : (a0 != 13) = false := bne_eq_false_iff_eq.mpr c6
  clear c6
  obtain rfl := Option.some.inj H
  go_enter Try.func28, Try.ntmps28
  go_wp2
  go_ret
  exact ⟨by rfl, by repeat (first | exact Drawn0.refl _)⟩
 rw [if_neg c6] at H
 have c6b0 : (a0 == 13) = false := beq_eq_false_iff_ne.mpr c6
 have c6b1 : (a0 != 13) = true := bne_iff_ne.mpr c6
 by_cases c7 : a0 = 14
 ·rw [if_pos c7] at H
  have c7b0 : (a0 == 14) = true := beq_iff_eq.mpr c7
  have c7b1 : (a0 != 14) = false := bne_eq_false_iff_eq.mpr c7
  clear c7
  obtain rfl := Option.some.inj H
  go_enter Try.func28, Try.ntmps28
  go_wp2
  go_ret
  exact ⟨by rfl, by repeat (first | exact Drawn0.refl _)⟩
 rw [if_neg c7] at H
 have c7b0 : (a0 == 14) = false := beq_eq_false_iff_ne.mpr c7
 have c7b1 : (a0 != 14) = true := bne_iff_ne.mpr c7
 by_cases c8 : a0 = 19
 ·rw [if_pos c8] at H
  have c8b0 : (a0 == 19) = true := beq_iff_eq.mpr c8
  have c8b1 : (a0 != 19) = false := bne_eq_false_iff_eq.mpr c8
  clear c8
  obtain rfl := Option.some.inj H
  go_enter Try.func28, Try.ntmps28
  go_wp2
  go_ret
  exact ⟨by rfl, by repeat (first | exact Drawn0.refl _)⟩
 rw [if_neg c8] at H
 have c8b0 : (a0 == 19) = false := beq_eq_false_iff_ne.mpr c8
 have c8b1 : (a0 != 19) = true := bne_iff_ne.mpr c8
 by_cases c9 : a0 = 20
 ·rw [if_pos c9] at H
  have c9b0 : (a0 == 20) = true := beq_iff_eq.mpr c9
  have c9b1 : (a0 != 20) = false := bne_eq_false_iff_eq.mpr c9
  clear c9
  obtain rfl := Option.some.inj H
  go_enter Try.func28, Try.ntmps28
  go_wp2
  go_ret
  exact ⟨by rfl, by repeat (first | exact Drawn0.refl _)⟩
 rw [if_neg c9] at H
 have c9b0 : (a0 == 20) = false := beq_eq_false_iff_ne.mpr c9
 have c9b1 : (a0 != 20) = true := bne_iff_ne.mpr c9
 by_cases c10 : a0 = 25
 ·rw [if_pos c10] at H
  have c10b0 : (a0 == 25) = true := beq_iff_eq.mpr c10
  have c10b1 : (a0 != 25) = false := bne_eq_false_iff_eq.mpr c10
  clear c10
  obtain rfl := Option.some.inj H
  go_enter Try.func28, Try.ntmps28
  go_wp2
  go_ret
  exact ⟨by rfl, by repeat (first | exact Drawn0.refl _)⟩
 rw [if_neg c10] at H
 have c10b0 : (a0 == 25) = false := beq_eq_false_iff_ne.mpr c10
 have c10b1 : (a0 != 25) = true := bne_iff_ne.mpr c10
 obtain rfl := Option.some.inj H
 go_enter Try.func28, Try.ntmps28
 go_wp2
 go_ret
 exact ⟨by rfl, by repeat (first | exact Drawn0.refl _)⟩

end Go.Proofs.Ythadapbekmmgpaa.X
