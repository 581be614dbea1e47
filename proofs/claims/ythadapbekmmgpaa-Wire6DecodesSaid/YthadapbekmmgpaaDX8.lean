/- Functions of the program as Lean functions, and that the calls come to them: no condition.  By this session's own program (wip/xprint). -/
import Derived.Test.YthadapbekmmgpaaDX0
import Derived.Test.YthadapbekmmgpaaDX4
import Derived.Test.YthadapbekmmgpaaDX7
namespace Go.Proofs.Ythadapbekmmgpaa.X
open Go.RowKit Go.Proofs.YthadapbekmmgpaaW.PrintWords Go.Proofs.YthadapbekmmgpaaW.PrintLast Go.Proofs.YthadapbekmmgpaaW.PrintMore
attribute [local go_sem] max2_int min2_int max_two min_two max_three min_three max_four min_four
set_option linter.unusedVariables false
set_option linter.unusedSimpArgs false


def tenancyref04_Cut.f (a0 : ByteArray) (a1 : Int) (a2 : Int) : Option (ByteArray × Bool) := if a1 < 0 then (some ((⟨#[]⟩ : ByteArray), false)) else (if a2 < 0 then (some ((⟨#[]⟩ : ByteArray), false)) else (if a1 > (a0.size : Int) then (some ((⟨#[]⟩ : ByteArray), false)) else (if a2 > (wrap64 ((a0.size : Int) - a1)) then (some ((⟨#[]⟩ : ByteArray), false)) else (if 0 ≤ a1 then (if a1 ≤ (wrap64 (a1 + a2)) then (if (wrap64 (a1 + a2)) ≤ (a0.size : Int) then (some (a0.extract (a1 : Int).toNat ((wrap64 (a1 + a2)) : Int).toNat, true)) else (none)) else (none)) else (none)))))
set_option maxHeartbeats 8000000 in
set_option maxRecDepth 100000 in
theorem tenancyref04_Cut.calls (a0 : ByteArray) (a1 : Int) (a2 : Int) (r1 : ByteArray) (r2 : Bool) (w : World) (h : tenancyref04_Cut.f a0 a1 a2 = some (r1, r2)) :
 Calls Try.prog 84 #[.string a0, .int .i64 a1, .int .i64 a2] w fun e w' => e = .returned (.tuple #[.string r1, .bool r2]) ∧ Drawn0 w w' := by
 have H : (if a1 < 0 then (some ((⟨#[]⟩ : ByteArray), false)) else (if a2 < 0 then (some ((⟨#[]⟩ : ByteArray), false)) else (if a1 > (a0.size : Int) then (some ((⟨#[]⟩ : ByteArray), false)) else (if a2 > (wrap64 ((a0.size : Int) - a1)) then (some ((⟨#[]⟩ : ByteArray), false)) else (if 0 ≤ a1 then (if a1 ≤ (wrap64 (a1 + a2)) then (if (wrap64 (a1 + a2)) ≤ (a0.size : Int) then (some (a0.extract (a1 : Int).toNat ((wrap64 (a1 + a2)) : Int).toNat, true)) else (none)) else (none)) else (none)))))) = some (r1, r2) := h
 clear h
 by_cases c4 : a1 < 0
 ·rw [if_pos c4] at H
  have c4b0 : decide (a1 < 0) = true := decide_eq_true c4
  clear c4
  simp only [Option.some.injEq, Prod.mk.injEq] at H
  obtain ⟨rfl, rfl⟩ := H
  go_enter Try.func84, Try.ntmps84
  go_wp2
  go_ret2
  exact ⟨by rfl, by repeat (first | exact Drawn0.refl _)⟩
 rw [if_neg c4] at H
 have c4b0 : decide (a1 < 0) = false := decide_eq_false c4
 clear c4
 by_cases c5 : a2 < 0
 ·rw [if_pos c5] at H
  have c5b0 : decide (a2 < 0) = true := decide_eq_true c5
  clear c5
  simp only [Option.some.injEq, Prod.mk.injEq] at H
  obtain ⟨rfl, rfl⟩ := H
  go_enter Try.func84, Try.ntmps84
  go_wp2
  go_ret2
  exact ⟨by rfl, by repeat (first | exact Drawn0.refl _)⟩
 rw [if_neg c5] at H
 have c5b0 : decide (a2 < 0) = false := decide_eq_false c5
 clear c5
 by_cases c6 : a1 > (a0.size : Int)
 ·rw [if_pos c6] at H
  have c6b0 : decide ((a0.size : Int) < a1) = true := decide_eq_true c6
  clear c6
  simp only [Option.some.injEq, Prod.mk.injEq] at H
  obtain ⟨rfl, rfl⟩ := H
  go_enter Try.func84, Try.ntmps84
  go_wp2
  go_ret2
  exact ⟨by rfl, by repeat (first | exact Drawn0.refl _)⟩
 rw [if_neg c6] at H
 have c6b0 : decide ((a0.size : Int) < a1) = false := decide_eq_false c6
 clear c6
 by_cases c7 : a2 > (wrap64 ((a0.size : Int) - a1))
 ·rw [if_pos c7] at H
  have c7b0 : decide ((wrap64 ((a0.size : Int) - a1)) < a2) = true := decide_eq_true c7
  clear c7
  simp only [Option.some.injEq, Prod.mk.injEq] at H
  obtain ⟨rfl, rfl⟩ := H
  go_enter Try.func84, Try.ntmps84
  go_wp2
  go_ret2
  exact ⟨by rfl, by repeat (first | exact Drawn0.refl _)⟩
 rw [if_neg c7] at H
 have c7b0 : decide ((wrap64 ((a0.size : Int) - a1)) < a2) = false := decide_eq_false c7
 clear c7
 by_cases c8 : 0 ≤ a1
 ·rw [if_pos c8] at H
  have c8b0 := eq_true c8
  have c8b1 : decide (0 ≤ a1) = true := decide_eq_true c8
  clear c8
  by_cases c9 : a1 ≤ (wrap64 (a1 + a2))
  ·rw [if_pos c9] at H
   have c9b0 := eq_true c9
   have c9b1 : decide (a1 ≤ (wrap64 (a1 + a2))) = true := decide_eq_true c9
   by_cases c10 : (wrap64 (a1 + a2)) ≤ (a0.size : Int)
   ·rw [if_pos c10] at H
    have c10b0 := eq_true c10
    have c10b1 : decide ((wrap64 (a1 + a2)) ≤ (a0.size : Int)) = true := decide_eq_true c10
    simp only [Option.some.injEq, Prod.mk.injEq] at H
    obtain ⟨rfl, rfl⟩ := H
    go_enter Try.func84, Try.ntmps84
    go_wp2
    go_ret2
    exact ⟨by rfl, by repeat (first | exact Drawn0.refl _)⟩
   rw [if_neg c10] at H
   exact absurd H (by simp)
  rw [if_neg c9] at H
  exact absurd H (by simp)
 rw [if_neg c8] at H
 exact absurd H (by simp)

def tenancyref04_get.l0 : Nat → ByteArray → Bool → Int → Int → Option (Int × Bool)
  | 0, _, _, _, _ => none
  | k + 1, x8, x9, x10, x11 => if x11 < (x8.size : Int) then (if 0 ≤ x11 then (tenancyref04_get.l0 k x8 x9 (IntKind.u64.wrap ((IntKind.u64.wrap (x10 * 256)) + (IntKind.u64.wrap (bt x8 x11)))) (wrap64 (x11 + 1))) else (none)) else (some (x10, x9))
def tenancyref04_get.f (k : Nat) (a0 : ByteArray) (a1 : Int) (a2 : Int) : Option (Int × Bool) := (tenancyref04_Cut.f a0 a1 a2).bind fun bt416 => (tenancyref04_get.l0 k bt416.1 bt416.2 0 0)
set_option maxHeartbeats 8000000 in
set_option maxRecDepth 100000 in
theorem tenancyref04_get.calls (k : Nat) (a0 : ByteArray) (a1 : Int) (a2 : Int) (r1 : Int) (r2 : Bool) (w : World) (h : tenancyref04_get.f k a0 a1 a2 = some (r1, r2)) :
 Calls Try.prog 56 #[.string a0, .int .i64 a1, .int .i64 a2] w fun e w' => e = .returned (.tuple #[.int .u64 r1, .bool r2]) ∧ Drawn0 w w' := by
 have H : ((tenancyref04_Cut.f a0 a1 a2).bind fun bt416 => (tenancyref04_get.l0 k bt416.1 bt416.2 0 0)) = some (r1, r2) := h
 clear h
 replace H := Option.bind_eq_some_iff.mp H
 obtain ⟨⟨t416, t417⟩, A40, H⟩ := H
 replace H : (tenancyref04_get.l0 k t416 t417 0 0) = some (r1, r2) := H
 have A4 := ak_ A40
 clear A40
 have H' := ak_ H
 clear H
 go_enter Try.func56, Try.ntmps56
 go_wp2_with (first | ((with_reducible refine gate_callee (f := 84) rfl ?_); refine goesL_ (some 16) rfl rfl Try.func84 (by kernel_rfl) rfl #[.string a0, .int .i64 a1, .int .i64 a2] rfl (by (try simp only [List.map_toArray, List.map_cons, List.map_nil]); first | rfl) ?_; (with_reducible refine (tenancyref04_Cut.calls a0 a1 a2 t416 t417 _ A4.out).mono ?_); rintro e w' ⟨rfl, ⟨nd, rfl⟩⟩; refine ⟨_, rfl, ?_⟩))
 go_loopg [10, 11] k (fun kq v10 v11 w' => ∃ (x10_1 : Int) (x11_1 : Int), v10 = .int .u64 x10_1 ∧ v11 = .int .i64 x11_1 ∧ Aside0 (tenancyref04_get.l0 kq t416 t417 x10_1 x11_1 = some (r1, r2)) ∧ Aside0 (kq ≤ k) ∧ Drawn0 w w')
 case atStart => exact ⟨(0), (0), (by rfl), (by rfl), H', ⟨Nat.le_refl _⟩, by repeat (first | exact Drawn0.refl _ | apply Drawn0.step)⟩
 case round =>
 clear H'
 try clear p2
 obtain ⟨x10_1, x11_1, rfl, rfl, HA, HK1, ⟨m1, rfl⟩⟩ := hrel
 cases gk with
 | zero => exact absurd HA.out (by simp [tenancyref04_get.l0])
 | succ k1 =>
 have H := HA.out
 clear HA
 simp only [tenancyref04_get.l0] at H
 by_cases c5 : x11_1 < (t416.size : Int)
 ·rw [if_pos c5] at H
  have c5b0 : decide (x11_1 < (t416.size : Int)) = true := decide_eq_true c5
  clear c5
  by_cases c6 : 0 ≤ x11_1
  ·rw [if_pos c6] at H
   have c6b0 : decide (0 ≤ x11_1) = true := decide_eq_true c6
   clear c6
   have H' := ak_ H
   clear H
   have p7 : 0 ≤ (x11_1 : Int) := of_decide_eq_true (by first | (with_reducible assumption))
   have q7 : x11_1 < (t416.size : Int) := of_decide_eq_true (by first | (with_reducible assumption))
   have hx7 := bt_at t416 x11_1
   replace p7 := eq_true p7
   replace q7 := eq_true q7
   go_wp2
   go_roundg k1
   case measure => have := HK1.out; omega
   case rel => exact ⟨(IntKind.u64.wrap ((IntKind.u64.wrap (x10_1 * 256)) + (IntKind.u64.wrap (bt t416 x11_1)))), (wrap64 (x11_1 + 1)), (by rfl), (by rfl), H', ⟨by have := HK1.out; omega⟩, by repeat (first | exact Drawn0.refl _ | apply Drawn0.step)⟩
  rw [if_neg c6] at H
  exact absurd H (by simp)
 rw [if_neg c5] at H
 have c5b0 : decide (x11_1 < (t416.size : Int)) = false := decide_eq_false c5
 clear c5
 simp only [Option.some.injEq, Prod.mk.injEq] at H
 obtain ⟨rfl, rfl⟩ := H
 go_wp2
 go_ret2
 exact ⟨by rfl, by repeat (first | exact Drawn0.refl _ | apply Drawn0.step)⟩

def tenancyref04_Get16.f (k : Nat) (a0 : ByteArray) (a1 : Int) : Option (Int × Bool) := (tenancyref04_get.f k a0 a1 2).bind fun bt418 => (some (IntKind.u16.wrap (bt418.1), bt418.2))
set_option maxHeartbeats 8000000 in
set_option maxRecDepth 100000 in
theorem tenancyref04_Get16.calls (k : Nat) (a0 : ByteArray) (a1 : Int) (r1 : Int) (r2 : Bool) (w : World) (h : tenancyref04_Get16.f k a0 a1 = some (r1, r2)) :
 Calls Try.prog 54 #[.string a0, .int .i64 a1] w fun e w' => e = .returned (.tuple #[.int .u16 r1, .bool r2]) ∧ Drawn0 w w' := by
 have H : ((tenancyref04_get.f k a0 a1 2).bind fun bt418 => (some (IntKind.u16.wrap (bt418.1), bt418.2))) = some (r1, r2) := h
 clear h
 replace H := Option.bind_eq_some_iff.mp H
 obtain ⟨⟨t418, t419⟩, A30, H⟩ := H
 replace H : (some (IntKind.u16.wrap (t418), t419)) = some (r1, r2) := H
 have A3 := ak_ A30
 clear A30
 simp only [Option.some.injEq, Prod.mk.injEq] at H
 obtain ⟨rfl, rfl⟩ := H
 go_enter Try.func54, Try.ntmps54
 go_wp2_with (first | ((with_reducible refine gate_callee (f := 56) rfl ?_); refine goesL_ (some 11) rfl rfl Try.func56 (by kernel_rfl) rfl #[.string a0, .int .i64 a1, .int .i64 2] rfl (by (try simp only [List.map_toArray, List.map_cons, List.map_nil]); first | rfl) ?_; (with_reducible refine (tenancyref04_get.calls k a0 a1 2 t418 t419 _ A3.out).mono ?_); rintro e w' ⟨rfl, ⟨nd, rfl⟩⟩; refine ⟨_, rfl, ?_⟩))
 go_ret2
 exact ⟨by rfl, by repeat (first | exact Drawn0.refl _ | apply Drawn0.step)⟩

def tenancyref04_TakeRun.f (k : Nat) (a0 : ByteArray) (a1 : Int) : Option (ByteArray × Int × Bool) := (tenancyref04_Get16.f k a0 a1).bind fun bt420 => (if bt420.2 = true then ((tenancyref04_Cut.f a0 (wrap64 (a1 + 2)) (wrap64 (bt420.1))).bind fun bt422 => (if bt422.2 = true then (some (bt422.1, wrap64 ((wrap64 (a1 + 2)) + (wrap64 (bt420.1))), true)) else (some ((⟨#[]⟩ : ByteArray), 0, false)))) else (some ((⟨#[]⟩ : ByteArray), 0, false)))
set_option maxHeartbeats 8000000 in
set_option maxRecDepth 100000 in
theorem tenancyref04_TakeRun.calls (k : Nat) (a0 : ByteArray) (a1 : Int) (r1 : ByteArray) (r2 : Int) (r3 : Bool) (w : World) (h : tenancyref04_TakeRun.f k a0 a1 = some (r1, r2, r3)) :
 Calls Try.prog 55 #[.string a0, .int .i64 a1] w fun e w' => e = .returned (.tuple #[.string r1, .int .i64 r2, .bool r3]) ∧ Drawn0 w w' := by
 have H : ((tenancyref04_Get16.f k a0 a1).bind fun bt420 => (if bt420.2 = true then ((tenancyref04_Cut.f a0 (wrap64 (a1 + 2)) (wrap64 (bt420.1))).bind fun bt422 => (if bt422.2 = true then (some (bt422.1, wrap64 ((wrap64 (a1 + 2)) + (wrap64 (bt420.1))), true)) else (some ((⟨#[]⟩ : ByteArray), 0, false)))) else (some ((⟨#[]⟩ : ByteArray), 0, false)))) = some (r1, r2, r3) := h
 clear h
 replace H := Option.bind_eq_some_iff.mp H
 obtain ⟨⟨t420, t421⟩, A30, H⟩ := H
 replace H : (if t421 = true then ((tenancyref04_Cut.f a0 (wrap64 (a1 + 2)) (wrap64 (t420))).bind fun bt422 => (if bt422.2 = true then (some (bt422.1, wrap64 ((wrap64 (a1 + 2)) + (wrap64 (t420))), true)) else (some ((⟨#[]⟩ : ByteArray), 0, false)))) else (some ((⟨#[]⟩ : ByteArray), 0, false))) = some (r1, r2, r3) := H
 have A3 := ak_ A30
 clear A30
 by_cases c4 : t421 = true
 ·subst c4
  have H1 : ((tenancyref04_Cut.f a0 (wrap64 (a1 + 2)) (wrap64 (t420))).bind fun bt422 => (if bt422.2 = true then (some (bt422.1, wrap64 ((wrap64 (a1 + 2)) + (wrap64 (t420))), true)) else (some ((⟨#[]⟩ : ByteArray), 0, false)))) = some (r1, r2, r3) := by rw [if_pos rfl] at H; exact H
  clear H
  have H := H1
  clear H1
  replace H := Option.bind_eq_some_iff.mp H
  obtain ⟨⟨t422, t423⟩, A50, H⟩ := H
  replace H : (if t423 = true then (some (t422, wrap64 ((wrap64 (a1 + 2)) + (wrap64 (t420))), true)) else (some ((⟨#[]⟩ : ByteArray), 0, false))) = some (r1, r2, r3) := H
  have A5 := ak_ A50
  clear A50
  by_cases c6 : t423 = true
  ·subst c6
   have H1 : (some (t422, wrap64 ((wrap64 (a1 + 2)) + (wrap64 (t420))), true)) = some (r1, r2, r3) := by rw [if_pos rfl] at H; exact H
   clear H
   have H := H1
   clear H1
   simp only [Option.some.injEq, Prod.mk.injEq] at H
   obtain ⟨rfl, rfl, rfl⟩ := H
   go_enter Try.func55, Try.ntmps55
   go_wp2_with (first | ((with_reducible refine gate_callee (f := 54) rfl ?_); refine goesL_ (some 13) rfl rfl Try.func54 (by kernel_rfl) rfl #[.string a0, .int .i64 a1] rfl (by (try simp only [List.map_toArray, List.map_cons, List.map_nil]); first | rfl) ?_; (with_reducible refine (tenancyref04_Get16.calls k a0 a1 t420 true _ A3.out).mono ?_); rintro e w' ⟨rfl, ⟨nd, rfl⟩⟩; refine ⟨_, rfl, ?_⟩) | ((with_reducible refine gate_callee (f := 84) rfl ?_); refine goesL_ (some 24) rfl rfl Try.func84 (by kernel_rfl) rfl #[.string a0, .int .i64 (wrap64 (a1 + 2)), .int .i64 (wrap64 (t420))] rfl (by (try simp only [List.map_toArray, List.map_cons, List.map_nil]); first | rfl) ?_; (with_reducible refine (tenancyref04_Cut.calls a0 (wrap64 (a1 + 2)) (wrap64 (t420)) t422 true _ A5.out).mono ?_); rintro e w' ⟨rfl, ⟨nd, rfl⟩⟩; refine ⟨_, rfl, ?_⟩))
   go_ret3
   exact ⟨by rfl, by repeat (first | exact Drawn0.refl _ | apply Drawn0.step)⟩
  replace c6 := Bool.eq_false_iff.mpr c6
  subst c6
  have H1 : (some ((⟨#[]⟩ : ByteArray), 0, false)) = some (r1, r2, r3) := by rw [if_neg (show ¬ (false = true) by decide)] at H; exact H
  clear H
  have H := H1
  clear H1
  simp only [Option.some.injEq, Prod.mk.injEq] at H
  obtain ⟨rfl, rfl, rfl⟩ := H
  go_enter Try.func55, Try.ntmps55
  go_wp2_with (first | ((with_reducible refine gate_callee (f := 54) rfl ?_); refine goesL_ (some 13) rfl rfl Try.func54 (by kernel_rfl) rfl #[.string a0, .int .i64 a1] rfl (by (try simp only [List.map_toArray, List.map_cons, List.map_nil]); first | rfl) ?_; (with_reducible refine (tenancyref04_Get16.calls k a0 a1 t420 true _ A3.out).mono ?_); rintro e w' ⟨rfl, ⟨nd, rfl⟩⟩; refine ⟨_, rfl, ?_⟩) | ((with_reducible refine gate_callee (f := 84) rfl ?_); refine goesL_ (some 24) rfl rfl Try.func84 (by kernel_rfl) rfl #[.string a0, .int .i64 (wrap64 (a1 + 2)), .int .i64 (wrap64 (t420))] rfl (by (try simp only [List.map_toArray, List.map_cons, List.map_nil]); first | rfl) ?_; (with_reducible refine (tenancyref04_Cut.calls a0 (wrap64 (a1 + 2)) (wrap64 (t420)) t422 false _ A5.out).mono ?_); rintro e w' ⟨rfl, ⟨nd, rfl⟩⟩; refine ⟨_, rfl, ?_⟩))
  go_ret3
  exact ⟨by rfl, by repeat (first | exact Drawn0.refl _ | apply Drawn0.step)⟩
 replace c4 := Bool.eq_false_iff.mpr c4
 subst c4
 have H1 : (some ((⟨#[]⟩ : ByteArray), 0, false)) = some (r1, r2, r3) := by rw [if_neg (show ¬ (false = true) by decide)] at H; exact H
 clear H
 have H := H1
 clear H1
 simp only [Option.some.injEq, Prod.mk.injEq] at H
 obtain ⟨rfl, rfl, rfl⟩ := H
 go_enter Try.func55, Try.ntmps55
 go_wp2_with (first | ((with_reducible refine gate_callee (f := 54) rfl ?_); refine goesL_ (some 13) rfl rfl Try.func54 (by kernel_rfl) rfl #[.string a0, .int .i64 a1] rfl (by (try simp only [List.map_toArray, List.map_cons, List.map_nil]); first | rfl) ?_; (with_reducible refine (tenancyref04_Get16.calls k a0 a1 t420 false _ A3.out).mono ?_); rintro e w' ⟨rfl, ⟨nd, rfl⟩⟩; refine ⟨_, rfl, ?_⟩))
 go_ret3
 exact ⟨by rfl, by repeat (first | exact Drawn0.refl _ | apply Drawn0.step)⟩

mutual
def tenancyref15_Parse.l0 : Nat → ByteArray → List (S42) → Int → Option ((List (S42)) × Int)
  | 0, _, _, _ => none
  | k + 1, x0, x4, x5 => if x5 < (x0.size : Int) then ((tenancyref04_Get16.f k x0 x5).bind fun bt427 => ((tenancyref04_TakeRun.f k x0 (wrap64 (x5 + 2))).bind fun bt429 => (if bt427.2 = true then (tenancyref15_Parse.j1 k x0 x4 bt427.1 bt429.1 bt429.2.1 (!bt429.2.2)) else (tenancyref15_Parse.j1 k x0 x4 bt427.1 bt429.1 bt429.2.1 true)))) else (some (x4, 0))
def tenancyref15_Parse.j1 : Nat → ByteArray → List (S42) → Int → ByteArray → Int → Bool → Option ((List (S42)) × Int)
  | 0, _, _, _, _, _, _ => none
  | k + 1, x0, x4, x6, x8, x9, x35 => if x35 = true then (some (([] : List (S42)), 3)) else (if (x4.length : Int) ≥ 128 then (some (([] : List (S42)), 6)) else (if x4.length < 5864062014805 then (tenancyref15_Parse.l0 k x0 (x4 ++ [(⟨x6, x8⟩ : S42)]) x9) else (none)))
end
def tenancyref15_Parse.f (k : Nat) (a0 : ByteArray) : Option ((List (S42)) × Int) := tenancyref15_Parse.l0 k a0 (([] : List (S42))) 0
set_option maxHeartbeats 8000000 in
set_option maxRecDepth 100000 in
theorem tenancyref15_Parse.calls (k : Nat) (a0 : ByteArray) (r1 : List (S42)) (r2 : Int) (w : World) (h : tenancyref15_Parse.f k a0 = some (r1, r2)) :
 Calls Try.prog 31 #[.string a0] w fun e w' => ∃ v0_ : Value, e = .returned (.tuple #[v0_, .int .i64 r2]) ∧ Kd.R k42 42 w' w.heap.size (fun _ => True) v0_ r1 ∧ Below w.heap.size w w' := by
 have hu42 := Try.underlying42
 have HB := ak_ (Below.refl w.heap.size w)
 have H : (tenancyref15_Parse.l0 k a0 (([] : List (S42))) 0) = some (r1, r2) := h
 clear h
 obtain ⟨y424, hy424⟩ : ∃ y_ : List (S42), y_ = (([] : List (S42))) := ⟨_, rfl⟩
 replace H : (tenancyref15_Parse.l0 k a0 y424 0) = some (r1, r2) := by first | (rw [hy424]; with_reducible exact H)
 have Ny424 := ak_ hy424
 clear hy424
 have H' := ak_ H
 clear H
 go_enter Try.func31, Try.ntmps31
 go_wp2_with (first | ((with_reducible refine gate_dst (N := 11) rfl ?_); refine Kd.R_lit k42 _ 42 ?hg (N := 11) ?hd (xs := ([] : List (S42))) (inner := []) (ok := fun _ => True) (okp := fun _ => True) ?hr ?hp (fun _ hk => hk) trivial (Below.refl _ _) (Nat.le_refl _) (by simp) ?_; (case hd => rfl); (case hg => rfl); (case hr => go_simp; done); (case hp => exact (Reps.none _ _)); intro v425 w2 ho3 hb hg_ hnew_; clear hg_ hnew_; (first | rw [← Ny424.out] at ho3); have HO426 := ak_ (Kd.R_lower ho3 (below_size HB.out)); replace HB := bs_ HB hb; clear hb ho3))
 go_loopg [4, 5] k (fun kq v4 v5 w' => ∃ (x4_1 : List (S42)) (x5_1 : Int), v5 = .int .i64 x5_1 ∧ Aside0 (tenancyref15_Parse.l0 kq a0 x4_1 x5_1 = some (r1, r2)) ∧ Aside0 (kq ≤ k) ∧ Aside0 (Kd.R k42 42 w' w.heap.size (fun _ => True) v4 x4_1) ∧ Aside0 (Below w.heap.size w w'))
 case atStart => exact ⟨(y424), (0), (by rfl), H', ⟨Nat.le_refl _⟩, ⟨by exact HO426.out⟩, ⟨by exact HB.out⟩⟩
 case round =>
 clear H'
 try clear p2
 try clear c3
 obtain ⟨x4_1, x5_1, rfl, HA, HK1, HO_4, HB⟩ := hrel
 cases gk with
 | zero => exact absurd HA.out (by simp [tenancyref15_Parse.l0])
 | succ k1 =>
 have H := HA.out
 clear HA
 simp only [tenancyref15_Parse.l0] at H
 by_cases c4 : x5_1 < (a0.size : Int)
 ·rw [if_pos c4] at H
  have c4b0 : decide (x5_1 < (a0.size : Int)) = true := decide_eq_true c4
  clear c4
  replace H := Option.bind_eq_some_iff.mp H
  obtain ⟨⟨t427, t428⟩, A50, H⟩ := H
  replace H : ((tenancyref04_TakeRun.f k1 a0 (wrap64 (x5_1 + 2))).bind fun bt429 => (if t428 = true then (tenancyref15_Parse.j1 k1 a0 x4_1 t427 bt429.1 bt429.2.1 (!bt429.2.2)) else (tenancyref15_Parse.j1 k1 a0 x4_1 t427 bt429.1 bt429.2.1 true))) = some (r1, r2) := H
  have A5 := ak_ A50
  clear A50
  replace H := Option.bind_eq_some_iff.mp H
  obtain ⟨⟨t429, t430, t431⟩, A60, H⟩ := H
  replace H : (if t428 = true then (tenancyref15_Parse.j1 k1 a0 x4_1 t427 t429 t430 (!t431)) else (tenancyref15_Parse.j1 k1 a0 x4_1 t427 t429 t430 true)) = some (r1, r2) := H
  have A6 := ak_ A60
  clear A60
  have HC7 := ak_ H
  clear H
  go_upto_region 6 with (first | ((with_reducible refine gate_callee (f := 54) rfl ?_); refine goesL_ (some 19) rfl rfl Try.func54 (by kernel_rfl) rfl #[.string a0, .int .i64 x5_1] rfl (by (try simp only [List.map_toArray, List.map_cons, List.map_nil]); first | rfl) ?_; (with_reducible refine (tenancyref04_Get16.calls k1 a0 x5_1 t427 t428 _ A5.out).mono ?_); rintro e w' ⟨rfl, ⟨nd, rfl⟩⟩; refine ⟨_, rfl, ?_⟩) | ((with_reducible refine gate_callee (f := 55) rfl ?_); refine goesL_ (some 26) rfl rfl Try.func55 (by kernel_rfl) rfl #[.string a0, .int .i64 (wrap64 (x5_1 + 2))] rfl (by (try simp only [List.map_toArray, List.map_cons, List.map_nil]); first | rfl) ?_; (with_reducible refine (tenancyref04_TakeRun.calls k1 a0 (wrap64 (x5_1 + 2)) t429 t430 t431 _ A6.out).mono ?_); rintro e w' ⟨rfl, ⟨nd, rfl⟩⟩; refine ⟨_, rfl, ?_⟩))
  (try simp only [Act.put, List.setIfInBounds_toArray, List.set_cons_zero, List.set_cons_succ])
  go_cut [35] (fun v35 wc => ∃ (kq : Nat) (x35_6 : Bool), v35 = .bool x35_6 ∧ Aside0 (tenancyref15_Parse.j1 kq a0 x4_1 t427 t429 t430 x35_6 = some (r1, r2)) ∧ Aside0 (kq ≤ k1) ∧ Aside0 (Kd.R k42 42 wc w.heap.size (fun _ => True) u4 x4_1) ∧ Aside0 (Below w.heap.size w wc))
  case first =>
   have H := HC7.out
   clear HC7
   by_cases c8 : t428 = true
   ·subst c8
    have H1 : (tenancyref15_Parse.j1 k1 a0 x4_1 t427 t429 t430 (!t431)) = some (r1, r2) := by rw [if_pos rfl] at H; exact H
    clear H
    have H := H1
    clear H1
    have H' := ak_ H
    clear H
    go_wp2
    go_meet
    case rel => exact ⟨_, (!t431), (by rfl), H', ⟨by have := HK1.out; first | omega⟩, ⟨by (with_reducible repeat (first | apply Kd.R_drewN)); exact HO_4.out⟩, ⟨by repeat (first | (with_reducible first | exact HB.out | apply pw_below_drewN))⟩⟩
   replace c8 := Bool.eq_false_iff.mpr c8
   subst c8
   have H1 : (tenancyref15_Parse.j1 k1 a0 x4_1 t427 t429 t430 true) = some (r1, r2) := by rw [if_neg (show ¬ (false = true) by decide)] at H; exact H
   clear H
   have H := H1
   clear H1
   have H' := ak_ H
   clear H
   go_wp2
   go_meet
   case rel => exact ⟨_, (true), (by rfl), H', ⟨by have := HK1.out; first | omega⟩, ⟨by (with_reducible repeat (first | apply Kd.R_drewN)); exact HO_4.out⟩, ⟨by repeat (first | (with_reducible first | exact HB.out | apply pw_below_drewN))⟩⟩
  case rest =>
  clear HC7
  try clear p2
  try clear c3
  try clear c4
  try clear c4b0
  try clear c5
  try clear p6
  try clear c8
  try clear p2
  obtain ⟨kq, x35_6, rfl, HA, HJ6, HO_4, HB⟩ := hcut
  cases kq with
  | zero => exact absurd HA.out (by simp [tenancyref15_Parse.j1])
  | succ kj6 =>
  have H := HA.out
  clear HA
  simp only [tenancyref15_Parse.j1] at H
  by_cases c9 : x35_6 = true
  ·subst c9
   have H1 : (some (([] : List (S42)), 3)) = some (r1, r2) := by rw [if_pos rfl] at H; exact H
   clear H
   have H := H1
   clear H1
   simp only [Option.some.injEq, Prod.mk.injEq] at H
   obtain ⟨rfl, rfl⟩ := H
   go_wp2
   go_ret2
   exact ⟨_, by rfl, by first | exact Kd.R_nil _ _ _ _ _, by exact HB.out⟩
  replace c9 := Bool.eq_false_iff.mpr c9
  subst c9
  have H1 : (if (x4_1.length : Int) ≥ 128 then (some (([] : List (S42)), 6)) else (if x4_1.length < 5864062014805 then (tenancyref15_Parse.l0 kj6 a0 (x4_1 ++ [(⟨t427, t429⟩ : S42)]) t430) else (none))) = some (r1, r2) := by rw [if_neg (show ¬ (false = true) by decide)] at H; exact H
  clear H
  have H := H1
  clear H1
  by_cases c10 : (x4_1.length : Int) ≥ 128
  ·rw [if_pos c10] at H
   have c10b0 : decide (128 ≤ (x4_1.length : Int)) = true := decide_eq_true c10
   have c10b1 : decide (128 ≤ x4_1.length) = true := decide_eq_true (by omega)
   clear c10
   simp only [Option.some.injEq, Prod.mk.injEq] at H
   obtain ⟨rfl, rfl⟩ := H
   obtain ⟨Ao11, co11, eo11⟩ := Kd.R_slice HO_4.out
   subst eo11
   go_wp2
   go_ret2
   exact ⟨_, by rfl, by first | exact Kd.R_nil _ _ _ _ _, by exact HB.out⟩
  rw [if_neg c10] at H
  have c10b0 : decide (128 ≤ (x4_1.length : Int)) = false := decide_eq_false c10
  have c10b1 : decide (128 ≤ x4_1.length) = false := decide_eq_false (by omega)
  clear c10
  by_cases c12 : x4_1.length < 5864062014805
  ·rw [if_pos c12] at H
   have LMc12 := ak_ c12
   clear c12
   obtain ⟨y432, hy432⟩ : ∃ y_ : List (S42), y_ = (x4_1 ++ [(⟨t427, t429⟩ : S42)]) := ⟨_, rfl⟩
   replace H : (tenancyref15_Parse.l0 kj6 a0 y432 t430) = some (r1, r2) := by first | (rw [hy432]; with_reducible exact H)
   have Ny432 := ak_ hy432
   clear hy432
   have H' := ak_ H
   clear H
   obtain ⟨Ao13, co13, eo13⟩ := Kd.R_slice HO_4.out
   subst eo13
   go_wp2_with (first | ((with_reducible refine gate_builtin (b := .append) (xs := #[.tmp 39, .tmp 43]) rfl ?_); at_builtin; refine Kd.R_append k42 (w0 := w) w.heap.size rfl (.tmp 39) (.tmp 43) 24 42 (.agg #[(.int .u16 0), (.string ⟨#[]⟩)]) 24 rfl Try.underlying24 info42 rfl (by decide) (by omega) (.slice Ao13 x4_1.length co13) x4_1 (⟨t427, t429⟩ : S42) [.int .u16 t427, .string t429] (fun _ => True) (fun _ => False) rfl rfl ?aP (fun _ hk => hk.elim) ?aF ?aO ?aB ?aS ?aL ?_; (case aP => exact k42_mkM _ _ _ (⟨t427, t429⟩ : S42)); (case aB => exact HB.out); (case aF => exact (fun _ _ => trivial)); (case aO => exact HO_4.out); (case aS => exact (below_size HB.out)); (case aL => have := LMc12.out; omega); intro v433 w14 ho hb hg hat; rw [← Ny432.out] at ho; replace HB := ak_ hb; have HO434 := ak_ ho; clear HO_4; clear ho hb hg hat))
   go_roundg kj6
   case measure => have := HK1.out; have := HJ6.out; omega
   case rel => exact ⟨(y432), (t430), (by rfl), H', ⟨by have := HK1.out; have := HJ6.out; omega⟩, ⟨by exact HO434.out⟩, ⟨by exact HB.out⟩⟩
  rw [if_neg c12] at H
  exact absurd H (by simp)
 rw [if_neg c4] at H
 have c4b0 : decide (x5_1 < (a0.size : Int)) = false := decide_eq_false c4
 clear c4
 simp only [Option.some.injEq, Prod.mk.injEq] at H
 obtain ⟨rfl, rfl⟩ := H
 go_wp2
 go_ret2
 exact ⟨_, by rfl, by exact HO_4.out, by exact HB.out⟩

def tenancyref04_Get32.f (k : Nat) (a0 : ByteArray) (a1 : Int) : Option (Int × Bool) := (tenancyref04_get.f k a0 a1 4).bind fun bt435 => (some ((bt435.1) % 4294967296, bt435.2))
set_option maxHeartbeats 8000000 in
set_option maxRecDepth 100000 in
theorem tenancyref04_Get32.calls (k : Nat) (a0 : ByteArray) (a1 : Int) (r1 : Int) (r2 : Bool) (w : World) (h : tenancyref04_Get32.f k a0 a1 = some (r1, r2)) :
 Calls Try.prog 32 #[.string a0, .int .i64 a1] w fun e w' => e = .returned (.tuple #[.int .u32 r1, .bool r2]) ∧ Drawn0 w w' := by
 have H : ((tenancyref04_get.f k a0 a1 4).bind fun bt435 => (some ((bt435.1) % 4294967296, bt435.2))) = some (r1, r2) := h
 clear h
 replace H := Option.bind_eq_some_iff.mp H
 obtain ⟨⟨t435, t436⟩, A30, H⟩ := H
 replace H : (some ((t435) % 4294967296, t436)) = some (r1, r2) := H
 have A3 := ak_ A30
 clear A30
 simp only [Option.some.injEq, Prod.mk.injEq] at H
 obtain ⟨rfl, rfl⟩ := H
 go_enter Try.func32, Try.ntmps32
 go_wp2_with (first | ((with_reducible refine gate_callee (f := 56) rfl ?_); refine goesL_ (some 11) rfl rfl Try.func56 (by kernel_rfl) rfl #[.string a0, .int .i64 a1, .int .i64 4] rfl (by (try simp only [List.map_toArray, List.map_cons, List.map_nil]); first | rfl) ?_; (with_reducible refine (tenancyref04_get.calls k a0 a1 4 t435 t436 _ A3.out).mono ?_); rintro e w' ⟨rfl, ⟨nd, rfl⟩⟩; refine ⟨_, rfl, ?_⟩))
 go_ret2
 exact ⟨by rfl, by repeat (first | exact Drawn0.refl _ | apply Drawn0.step)⟩

def tenancyref16_met.l0 : Nat → List (S42) → Int → Int → Int → Option (Bool)
  | 0, _, _, _, _ => none
  | k + 1, x0, x1, x2, x7 => if x7 < x1 then (if 0 ≤ x7 then (if x7 < (x0.length : Int) then (if ((rd_T42 x0 x7).f0) = x2 then (some true) else (tenancyref16_met.l0 k x0 x1 x2 (wrap64 (x7 + 1)))) else (none)) else (none)) else (some false)
def tenancyref16_met.f (k : Nat) (l0 : List (S42)) (a1 : Int) (a2 : Int) : Option (Bool) := tenancyref16_met.l0 k l0 a1 a2 0
set_option maxHeartbeats 8000000 in
set_option maxRecDepth 100000 in
theorem tenancyref16_met.calls (k : Nat) (A0 : Option Addr) (c0 : Nat) (l0 : List (S42)) (a1 : Int) (a2 : Int) (r : Bool) (w : World) (hr0 : Kd.C k42 w A0 l0.length l0) (hc0 : l0.length ≤ c0) (h : tenancyref16_met.f k l0 a1 a2 = some r) :
 Calls Try.prog 33 #[.slice A0 l0.length c0, .int .i64 a1, .int .u16 a2] w fun e w' => e = .returned (.bool r) ∧ Drawn0 w w' := by
 have HR0 := ak_ hr0
 have HC0 := ak_ hc0
 clear hr0 hc0
 have H : (tenancyref16_met.l0 k l0 a1 a2 0) = some r := h
 clear h
 have H' := ak_ H
 clear H
 go_enter Try.func33, Try.ntmps33
 go_wp2
 go_loopg [7] k (fun kq v7 w' => ∃ (x7_1 : Int), v7 = .int .i64 x7_1 ∧ Aside0 (tenancyref16_met.l0 kq l0 a1 a2 x7_1 = some r) ∧ Aside0 (kq ≤ k) ∧ Drawn0 w w')
 case atStart => exact ⟨(0), (by rfl), H', ⟨Nat.le_refl _⟩, by repeat (first | exact Drawn0.refl _)⟩
 case round =>
 clear H'
 try clear p2
 try clear c3
 obtain ⟨x7_1, rfl, HA, HK1, ⟨m1, rfl⟩⟩ := hrel
 cases gk with
 | zero => exact absurd HA.out (by simp [tenancyref16_met.l0])
 | succ k1 =>
 have H := HA.out
 clear HA
 simp only [tenancyref16_met.l0] at H
 by_cases c4 : x7_1 < a1
 ·rw [if_pos c4] at H
  have c4b0 : decide (x7_1 < a1) = true := decide_eq_true c4
  clear c4
  by_cases c5 : 0 ≤ x7_1
  ·rw [if_pos c5] at H
   have c5b0 : decide (0 ≤ x7_1) = true := decide_eq_true c5
   clear c5
   by_cases c6 : x7_1 < (l0.length : Int)
   ·rw [if_pos c6] at H
    have c6b0 : decide (x7_1 < (l0.length : Int)) = true := decide_eq_true c6
    clear c6
    by_cases c7 : ((rd_T42 l0 x7_1).f0) = a2
    ·rw [if_pos c7] at H
     have c7b0 : (((rd_T42 l0 x7_1).f0) == a2) = true := beq_iff_eq.mpr c7
     have c7b1 : (((rd_T42 l0 x7_1).f0) != a2) = false := bne_eq_false_iff_eq.mpr c7
     clear c7
     obtain rfl := Option.some.inj H
     have p437 : 0 ≤ (x7_1 : Int) := of_decide_eq_true (by first | (with_reducible assumption))
     have q437 : x7_1 < (l0.length : Int) := of_decide_eq_true (by first | (with_reducible assumption))
     obtain ⟨ad437, e437, hx437_0, hx437_1⟩ := at_T42 HR0.out x7_1 p437 q437
     cases e437
     replace p437 := eq_true p437
     replace q437 := eq_true q437
     go_wp2
     go_ret
     exact ⟨by rfl, by repeat (first | exact Drawn0.refl _ | apply Drawn0.step)⟩
    rw [if_neg c7] at H
    have c7b0 : (((rd_T42 l0 x7_1).f0) == a2) = false := beq_eq_false_iff_ne.mpr c7
    have c7b1 : (((rd_T42 l0 x7_1).f0) != a2) = true := bne_iff_ne.mpr c7
    have H' := ak_ H
    clear H
    have p437 : 0 ≤ (x7_1 : Int) := of_decide_eq_true (by first | (with_reducible assumption))
    have q437 : x7_1 < (l0.length : Int) := of_decide_eq_true (by first | (with_reducible assumption))
    obtain ⟨ad437, e437, hx437_0, hx437_1⟩ := at_T42 HR0.out x7_1 p437 q437
    cases e437
    replace p437 := eq_true p437
    replace q437 := eq_true q437
    go_wp2
    go_roundg k1
    case measure => have := HK1.out; omega
    case rel => exact ⟨(wrap64 (x7_1 + 1)), (by rfl), H', ⟨by have := HK1.out; omega⟩, by repeat (first | exact Drawn0.refl _ | apply Drawn0.step)⟩
   rw [if_neg c6] at H
   exact absurd H (by simp)
  rw [if_neg c5] at H
  exact absurd H (by simp)
 rw [if_neg c4] at H
 have c4b0 : decide (x7_1 < a1) = false := decide_eq_false c4
 clear c4
 obtain rfl := Option.some.inj H
 go_wp2
 go_ret
 exact ⟨by rfl, by repeat (first | exact Drawn0.refl _ | apply Drawn0.step)⟩

def tenancyref15_GetStatus.f (k : Nat) (a0 : ByteArray) : Option (Int × Bool) := (tenancyref04_Get16.f k a0 0).bind fun bt438 => (if bt438.2 = true then (some (wrap64 (bt438.1), true)) else (some ((-1), false)))
set_option maxHeartbeats 8000000 in
set_option maxRecDepth 100000 in
theorem tenancyref15_GetStatus.calls (k : Nat) (a0 : ByteArray) (r1 : Int) (r2 : Bool) (w : World) (h : tenancyref15_GetStatus.f k a0 = some (r1, r2)) :
 Calls Try.prog 57 #[.string a0] w fun e w' => e = .returned (.tuple #[.int .i64 r1, .bool r2]) ∧ Drawn0 w w' := by
 have H : ((tenancyref04_Get16.f k a0 0).bind fun bt438 => (if bt438.2 = true then (some (wrap64 (bt438.1), true)) else (some ((-1), false)))) = some (r1, r2) := h
 clear h
 replace H := Option.bind_eq_some_iff.mp H
 obtain ⟨⟨t438, t439⟩, A20, H⟩ := H
 replace H : (if t439 = true then (some (wrap64 (t438), true)) else (some ((-1), false))) = some (r1, r2) := H
 have A2 := ak_ A20
 clear A20
 by_cases c3 : t439 = true
 ·subst c3
  have H1 : (some (wrap64 (t438), true)) = some (r1, r2) := by rw [if_pos rfl] at H; exact H
  clear H
  have H := H1
  clear H1
  simp only [Option.some.injEq, Prod.mk.injEq] at H
  obtain ⟨rfl, rfl⟩ := H
  go_enter Try.func57, Try.ntmps57
  go_wp2_with (first | ((with_reducible refine gate_callee (f := 54) rfl ?_); refine goesL_ (some 8) rfl rfl Try.func54 (by kernel_rfl) rfl #[.string a0, .int .i64 0] rfl (by (try simp only [List.map_toArray, List.map_cons, List.map_nil]); first | rfl) ?_; (with_reducible refine (tenancyref04_Get16.calls k a0 0 t438 true _ A2.out).mono ?_); rintro e w' ⟨rfl, ⟨nd, rfl⟩⟩; refine ⟨_, rfl, ?_⟩))
  go_ret2
  exact ⟨by rfl, by repeat (first | exact Drawn0.refl _ | apply Drawn0.step)⟩
 replace c3 := Bool.eq_false_iff.mpr c3
 subst c3
 have H1 : (some ((-1), false)) = some (r1, r2) := by rw [if_neg (show ¬ (false = true) by decide)] at H; exact H
 clear H
 have H := H1
 clear H1
 simp only [Option.some.injEq, Prod.mk.injEq] at H
 obtain ⟨rfl, rfl⟩ := H
 go_enter Try.func57, Try.ntmps57
 go_wp2_with (first | ((with_reducible refine gate_callee (f := 54) rfl ?_); refine goesL_ (some 8) rfl rfl Try.func54 (by kernel_rfl) rfl #[.string a0, .int .i64 0] rfl (by (try simp only [List.map_toArray, List.map_cons, List.map_nil]); first | rfl) ?_; (with_reducible refine (tenancyref04_Get16.calls k a0 0 t438 false _ A2.out).mono ?_); rintro e w' ⟨rfl, ⟨nd, rfl⟩⟩; refine ⟨_, rfl, ?_⟩))
 go_ret2
 exact ⟨by rfl, by repeat (first | exact Drawn0.refl _ | apply Drawn0.step)⟩

def tenancyref15_word.f (k : Nat) (a0 : ByteArray) (a1 : Int) : Option (Int) := (tenancyref04_Get32.f k a0 a1).bind fun bt440 => (some bt440.1)
set_option maxHeartbeats 8000000 in
set_option maxRecDepth 100000 in
theorem tenancyref15_word.calls (k : Nat) (a0 : ByteArray) (a1 : Int) (r : Int) (w : World) (h : tenancyref15_word.f k a0 a1 = some r) :
 Calls Try.prog 85 #[.string a0, .int .i64 a1] w fun e w' => e = .returned (.int .u32 r) ∧ Drawn0 w w' := by
 have H : ((tenancyref04_Get32.f k a0 a1).bind fun bt440 => (some bt440.1)) = some r := h
 clear h
 replace H := Option.bind_eq_some_iff.mp H
 obtain ⟨⟨t440, t441⟩, A30, H⟩ := H
 replace H : (some t440) = some r := H
 have A3 := ak_ A30
 clear A30
 obtain rfl := Option.some.inj H
 go_enter Try.func85, Try.ntmps85
 go_wp2_with (first | ((with_reducible refine gate_callee (f := 32) rfl ?_); refine goesL_ (some 10) rfl rfl Try.func32 (by kernel_rfl) rfl #[.string a0, .int .i64 a1] rfl (by (try simp only [List.map_toArray, List.map_cons, List.map_nil]); first | rfl) ?_; (with_reducible refine (tenancyref04_Get32.calls k a0 a1 t440 t441 _ A3.out).mono ?_); rintro e w' ⟨rfl, ⟨nd, rfl⟩⟩; refine ⟨_, rfl, ?_⟩))
 go_ret
 exact ⟨by rfl, by repeat (first | exact Drawn0.refl _ | apply Drawn0.step)⟩

def tenancyref04_Get64.f (k : Nat) (a0 : ByteArray) (a1 : Int) : Option (Int × Bool) := (tenancyref04_get.f k a0 a1 8).bind fun bt442 => (some (bt442.1, bt442.2))
set_option maxHeartbeats 8000000 in
set_option maxRecDepth 100000 in
theorem tenancyref04_Get64.calls (k : Nat) (a0 : ByteArray) (a1 : Int) (r1 : Int) (r2 : Bool) (w : World) (h : tenancyref04_Get64.f k a0 a1 = some (r1, r2)) :
 Calls Try.prog 103 #[.string a0, .int .i64 a1] w fun e w' => e = .returned (.tuple #[.int .u64 r1, .bool r2]) ∧ Drawn0 w w' := by
 have H : ((tenancyref04_get.f k a0 a1 8).bind fun bt442 => (some (bt442.1, bt442.2))) = some (r1, r2) := h
 clear h
 replace H := Option.bind_eq_some_iff.mp H
 obtain ⟨⟨t442, t443⟩, A30, H⟩ := H
 replace H : (some (t442, t443)) = some (r1, r2) := H
 have A3 := ak_ A30
 clear A30
 simp only [Option.some.injEq, Prod.mk.injEq] at H
 obtain ⟨rfl, rfl⟩ := H
 go_enter Try.func103, Try.ntmps103
 go_wp2_with (first | ((with_reducible refine gate_callee (f := 56) rfl ?_); refine goesL_ (some 8) rfl rfl Try.func56 (by kernel_rfl) rfl #[.string a0, .int .i64 a1, .int .i64 8] rfl (by (try simp only [List.map_toArray, List.map_cons, List.map_nil]); first | rfl) ?_; (with_reducible refine (tenancyref04_get.calls k a0 a1 8 t442 t443 _ A3.out).mono ?_); rintro e w' ⟨rfl, ⟨nd, rfl⟩⟩; refine ⟨_, rfl, ?_⟩))
 go_ret2
 exact ⟨by rfl, by repeat (first | exact Drawn0.refl _ | apply Drawn0.step)⟩

def tenancyref04_GetAddr.f (k : Nat) (a0 : ByteArray) (a1 : Int) : Option (Int × Int × Bool) := (tenancyref04_Cut.f a0 a1 16).bind fun bt445 => (if bt445.2 = true then ((tenancyref04_Get64.f k bt445.1 0).bind fun bt447 => ((tenancyref04_Get64.f k bt445.1 8).bind fun bt449 => (some (bt447.1, bt449.1, true)))) else (some (0, 0, false)))
set_option maxHeartbeats 8000000 in
set_option maxRecDepth 100000 in
theorem tenancyref04_GetAddr.calls (k : Nat) (a0 : ByteArray) (a1 : Int) (r1 : Int) (r2 : Int) (r3 : Bool) (w : World) (h : tenancyref04_GetAddr.f k a0 a1 = some (r1, r2, r3)) :
 Calls Try.prog 96 #[.string a0, .int .i64 a1] w fun e w' => e = .returned (.tuple #[.agg #[.int .u64 r1, .int .u64 r2], .bool r3]) ∧ Below w.heap.size w w' := by
 have hu54 := Try.underlying54
 have HB := ak_ (Below.refl w.heap.size w)
 have H : ((tenancyref04_Cut.f a0 a1 16).bind fun bt445 => (if bt445.2 = true then ((tenancyref04_Get64.f k bt445.1 0).bind fun bt447 => ((tenancyref04_Get64.f k bt445.1 8).bind fun bt449 => (some (bt447.1, bt449.1, true)))) else (some (0, 0, false)))) = some (r1, r2, r3) := h
 clear h
 replace H := Option.bind_eq_some_iff.mp H
 obtain ⟨⟨t445, t446⟩, A30, H⟩ := H
 replace H : (if t446 = true then ((tenancyref04_Get64.f k t445 0).bind fun bt447 => ((tenancyref04_Get64.f k t445 8).bind fun bt449 => (some (bt447.1, bt449.1, true)))) else (some (0, 0, false))) = some (r1, r2, r3) := H
 have A3 := ak_ A30
 clear A30
 by_cases c4 : t446 = true
 ·subst c4
  have H1 : ((tenancyref04_Get64.f k t445 0).bind fun bt447 => ((tenancyref04_Get64.f k t445 8).bind fun bt449 => (some (bt447.1, bt449.1, true)))) = some (r1, r2, r3) := by rw [if_pos rfl] at H; exact H
  clear H
  have H := H1
  clear H1
  replace H := Option.bind_eq_some_iff.mp H
  obtain ⟨⟨t447, t448⟩, A50, H⟩ := H
  replace H : ((tenancyref04_Get64.f k t445 8).bind fun bt449 => (some (t447, bt449.1, true))) = some (r1, r2, r3) := H
  have A5 := ak_ A50
  clear A50
  replace H := Option.bind_eq_some_iff.mp H
  obtain ⟨⟨t449, t450⟩, A60, H⟩ := H
  replace H : (some (t447, t449, true)) = some (r1, r2, r3) := H
  have A6 := ak_ A60
  clear A60
  simp only [Option.some.injEq, Prod.mk.injEq] at H
  obtain ⟨rfl, rfl, rfl⟩ := H
  go_enter Try.func96, Try.ntmps96
  go_wp2_with (first | ((with_reducible refine gate_dst (N := 4) rfl ?_); refine box_event ?hg (N := 4) ?hd (cs := #[.int .u64 0, .int .u64 0]) (t := 54) ?hr ?_; (case hd => rfl); (case hg => rfl); (case hr => go_simp; done); intro gb444 hg w7 hbox hb; have BK444 := ak_ hbox; have GW444 := gz_ HB hg; have GE444 := gz_ HB hg; replace HB := bs_ HB hb; clear hb hbox hg) | ((with_reducible refine gate_callee (f := 84) rfl ?_); refine goesL_ (some 15) rfl rfl Try.func84 (by kernel_rfl) rfl #[.string a0, .int .i64 a1, .int .i64 16] rfl (by (try simp only [List.map_toArray, List.map_cons, List.map_nil]); first | rfl) ?_; (with_reducible refine (tenancyref04_Cut.calls a0 a1 16 t445 true _ A3.out).mono ?_); rintro e w' ⟨rfl, ⟨nd, rfl⟩⟩; refine ⟨_, rfl, ?_⟩; (try (rw [drewN_self w7]; generalize hq_ : World.drewN w7 _ = w7; have n0_ : Aside0 (w7.heap[gb444]? = some (.cells #[.int .u64 0, .int .u64 0] 54 (0, 0))) := ⟨by rw [← hq_]; exact (by (with_reducible repeat (first | refine blk_drewN ?_ _)); exact BK444.out)⟩; have n1_ : Aside0 (Below w.heap.size w w7) := ⟨by rw [← hq_]; exact (by repeat (first | (with_reducible first | exact HB.out | apply pw_below_drewN)))⟩; clear BK444 HB hq_; have BK444 := n0_; have HB := n1_; clear n0_ n1_))) | ((with_reducible refine gate_callee (f := 103) rfl ?_); refine goesL_ (some 23) rfl rfl Try.func103 (by kernel_rfl) rfl #[.string t445, .int .i64 0] rfl (by (try simp only [List.map_toArray, List.map_cons, List.map_nil]); first | rfl) ?_; (with_reducible refine (tenancyref04_Get64.calls k t445 0 t447 t448 _ A5.out).mono ?_); rintro e w' ⟨rfl, ⟨nd, rfl⟩⟩; refine ⟨_, rfl, ?_⟩; (try (rw [drewN_self w7]; generalize hq_ : World.drewN w7 _ = w7; have n0_ : Aside0 (w7.heap[gb444]? = some (.cells #[.int .u64 0, .int .u64 0] 54 (0, 0))) := ⟨by rw [← hq_]; exact (by (with_reducible repeat (first | refine blk_drewN ?_ _)); exact BK444.out)⟩; have n1_ : Aside0 (Below w.heap.size w w7) := ⟨by rw [← hq_]; exact (by repeat (first | (with_reducible first | exact HB.out | apply pw_below_drewN)))⟩; clear BK444 HB hq_; have BK444 := n0_; have HB := n1_; clear n0_ n1_))) | ((with_reducible refine gate_callee (f := 103) rfl ?_); refine goesL_ (some 28) rfl rfl Try.func103 (by kernel_rfl) rfl #[.string t445, .int .i64 8] rfl (by (try simp only [List.map_toArray, List.map_cons, List.map_nil]); first | rfl) ?_; (with_reducible refine (tenancyref04_Get64.calls k t445 8 t449 t450 _ A6.out).mono ?_); rintro e w' ⟨rfl, ⟨nd, rfl⟩⟩; refine ⟨_, rfl, ?_⟩; (try (rw [drewN_self w7]; generalize hq_ : World.drewN w7 _ = w7; have n0_ : Aside0 (w7.heap[gb444]? = some (.cells #[.int .u64 0, .int .u64 0] 54 (0, 0))) := ⟨by rw [← hq_]; exact (by (with_reducible repeat (first | refine blk_drewN ?_ _)); exact BK444.out)⟩; have n1_ : Aside0 (Below w.heap.size w w7) := ⟨by rw [← hq_]; exact (by repeat (first | (with_reducible first | exact HB.out | apply pw_below_drewN)))⟩; clear BK444 HB hq_; have BK444 := n0_; have HB := n1_; clear n0_ n1_)); have hz8 := bz2_ BK444))
  refine bodyPost_ret (results_ct rfl _ _ gb444 54 #[.int .u64 t447, .int .u64 t449] (0, 0) _ rfl (by refine blk_put (cs := #[.int .u64 t447, .int .u64 0]) ?_ 1 _ rfl; refine blk_put (cs := #[.int .u64 0, .int .u64 0]) ?_ 0 _ rfl; exact BK444.out) Try.underlying54 rfl (by kernel_rfl)) rfl ?_
  exact ⟨by rfl, by repeat (first | (with_reducible first | exact HB.out | refine below_set ?_ GE444.out))⟩
 replace c4 := Bool.eq_false_iff.mpr c4
 subst c4
 have H1 : (some (0, 0, false)) = some (r1, r2, r3) := by rw [if_neg (show ¬ (false = true) by decide)] at H; exact H
 clear H
 have H := H1
 clear H1
 simp only [Option.some.injEq, Prod.mk.injEq] at H
 obtain ⟨rfl, rfl, rfl⟩ := H
 go_enter Try.func96, Try.ntmps96
 go_wp2_with (first | ((with_reducible refine gate_dst (N := 4) rfl ?_); refine box_event ?hg (N := 4) ?hd (cs := #[.int .u64 0, .int .u64 0]) (t := 54) ?hr ?_; (case hd => rfl); (case hg => rfl); (case hr => go_simp; done); intro gb444 hg w9 hbox hb; have BK444 := ak_ hbox; have GW444 := gz_ HB hg; have GE444 := gz_ HB hg; replace HB := bs_ HB hb; clear hb hbox hg) | ((with_reducible refine gate_callee (f := 84) rfl ?_); refine goesL_ (some 15) rfl rfl Try.func84 (by kernel_rfl) rfl #[.string a0, .int .i64 a1, .int .i64 16] rfl (by (try simp only [List.map_toArray, List.map_cons, List.map_nil]); first | rfl) ?_; (with_reducible refine (tenancyref04_Cut.calls a0 a1 16 t445 false _ A3.out).mono ?_); rintro e w' ⟨rfl, ⟨nd, rfl⟩⟩; refine ⟨_, rfl, ?_⟩; (try (rw [drewN_self w9]; generalize hq_ : World.drewN w9 _ = w9; have n0_ : Aside0 (w9.heap[gb444]? = some (.cells #[.int .u64 0, .int .u64 0] 54 (0, 0))) := ⟨by rw [← hq_]; exact (by (with_reducible repeat (first | refine blk_drewN ?_ _)); exact BK444.out)⟩; have n1_ : Aside0 (Below w.heap.size w w9) := ⟨by rw [← hq_]; exact (by repeat (first | (with_reducible first | exact HB.out | apply pw_below_drewN)))⟩; clear BK444 HB hq_; have BK444 := n0_; have HB := n1_; clear n0_ n1_)); have hz10 := bz2_ BK444))
 refine bodyPost_ret (results_ct rfl _ _ gb444 54 #[.int .u64 0, .int .u64 0] (0, 0) _ rfl (by refine blk_put (cs := #[.int .u64 0, .int .u64 0]) ?_ 1 _ rfl; refine blk_put (cs := #[.int .u64 0, .int .u64 0]) ?_ 0 _ rfl; exact BK444.out) Try.underlying54 rfl (by kernel_rfl)) rfl ?_
 exact ⟨by rfl, by repeat (first | (with_reducible first | exact HB.out | refine below_set ?_ GE444.out))⟩

def tenancyref15_statuses.l0 : Nat → List (S42) → Int → Int → Option (Int × Int)
  | 0, _, _, _ => none
  | k + 1, x0, x4, x5 => if x5 < (x0.length : Int) then (if 0 ≤ x5 then (if ((rd_T42 x0 x5).f0) = 13 then ((tenancyref15_GetStatus.f k ((rd_T42 x0 x5).f1)).bind fun bt453 => (if bt453.2 = true then (if x4 < 0 then (tenancyref15_statuses.l0 k x0 bt453.1 (wrap64 (x5 + 1))) else (tenancyref15_statuses.l0 k x0 x4 (wrap64 (x5 + 1)))) else (some (0, 130)))) else (tenancyref15_statuses.l0 k x0 x4 (wrap64 (x5 + 1)))) else (none)) else (some (x4, 0))
def tenancyref15_statuses.f (k : Nat) (l0 : List (S42)) : Option (Int × Int) := tenancyref15_statuses.l0 k l0 (-1) 0
set_option maxHeartbeats 8000000 in
set_option maxRecDepth 100000 in
theorem tenancyref15_statuses.calls (k : Nat) (A0 : Option Addr) (c0 : Nat) (l0 : List (S42)) (r1 : Int) (r2 : Int) (w : World) (hr0 : Kd.C k42 w A0 l0.length l0) (hc0 : l0.length ≤ c0) (h : tenancyref15_statuses.f k l0 = some (r1, r2)) :
 Calls Try.prog 97 #[.slice A0 l0.length c0] w fun e w' => e = .returned (.tuple #[.int .i64 r1, .int .i64 r2]) ∧ Drawn0 w w' := by
 have HR0 := ak_ hr0
 have HC0 := ak_ hc0
 clear hr0 hc0
 have H : (tenancyref15_statuses.l0 k l0 (-1) 0) = some (r1, r2) := h
 clear h
 have H' := ak_ H
 clear H
 go_enter Try.func97, Try.ntmps97
 go_wp2
 go_loopg [4, 5] k (fun kq v4 v5 w' => ∃ (x4_1 : Int) (x5_1 : Int), v4 = .int .i64 x4_1 ∧ v5 = .int .i64 x5_1 ∧ Aside0 (tenancyref15_statuses.l0 kq l0 x4_1 x5_1 = some (r1, r2)) ∧ Aside0 (kq ≤ k) ∧ Drawn0 w w')
 case atStart => exact ⟨((-1)), (0), (by rfl), (by rfl), H', ⟨Nat.le_refl _⟩, by repeat (first | exact Drawn0.refl _)⟩
 case round =>
 clear H'
 obtain ⟨x4_1, x5_1, rfl, rfl, HA, HK1, ⟨m1, rfl⟩⟩ := hrel
 cases gk with
 | zero => exact absurd HA.out (by simp [tenancyref15_statuses.l0])
 | succ k1 =>
 have H := HA.out
 clear HA
 simp only [tenancyref15_statuses.l0] at H
 by_cases c2 : x5_1 < (l0.length : Int)
 ·rw [if_pos c2] at H
  have c2b0 : decide (x5_1 < (l0.length : Int)) = true := decide_eq_true c2
  clear c2
  by_cases c3 : 0 ≤ x5_1
  ·rw [if_pos c3] at H
   have c3b0 : decide (0 ≤ x5_1) = true := decide_eq_true c3
   clear c3
   by_cases c4 : ((rd_T42 l0 x5_1).f0) = 13
   ·rw [if_pos c4] at H
    have c4b0 : (((rd_T42 l0 x5_1).f0) == 13) = true := beq_iff_eq.mpr c4
    have c4b1 : (((rd_T42 l0 x5_1).f0) != 13) = false := bne_eq_false_iff_eq.mpr c4
    clear c4
    replace H := Option.bind_eq_some_iff.mp H
    obtain ⟨⟨t453, t454⟩, A50, H⟩ := H
    replace H : (if t454 = true then (if x4_1 < 0 then (tenancyref15_statuses.l0 k1 l0 t453 (wrap64 (x5_1 + 1))) else (tenancyref15_statuses.l0 k1 l0 x4_1 (wrap64 (x5_1 + 1)))) else (some (0, 130))) = some (r1, r2) := H
    have A5 := ak_ A50
    clear A50
    by_cases c6 : t454 = true
    ·subst c6
     have H1 : (if x4_1 < 0 then (tenancyref15_statuses.l0 k1 l0 t453 (wrap64 (x5_1 + 1))) else (tenancyref15_statuses.l0 k1 l0 x4_1 (wrap64 (x5_1 + 1)))) = some (r1, r2) := by rw [if_pos rfl] at H; exact H
     clear H
     have H := H1
     clear H1
     by_cases c7 : x4_1 < 0
     ·rw [if_pos c7] at H
      have c7b0 : decide (x4_1 < 0) = true := decide_eq_true c7
      clear c7
      have H' := ak_ H
      clear H
      have p451 : 0 ≤ (x5_1 : Int) := of_decide_eq_true (by first | (with_reducible assumption))
      have q451 : x5_1 < (l0.length : Int) := of_decide_eq_true (by first | (with_reducible assumption))
      obtain ⟨ad451, e451, hx451_0, hx451_1⟩ := at_T42 HR0.out x5_1 p451 q451
      cases e451
      replace p451 := eq_true p451
      replace q451 := eq_true q451
      have p452 : 0 ≤ (x5_1 : Int) := of_decide_eq_true (by first | (with_reducible assumption))
      have q452 : x5_1 < (l0.length : Int) := of_decide_eq_true (by first | (with_reducible assumption))
      obtain ⟨ad452, e452, hx452_0, hx452_1⟩ := at_T42 HR0.out x5_1 p452 q452
      obtain rfl : ad451 = ad452 := (by injection e452)
      replace p452 := eq_true p452
      replace q452 := eq_true q452
      go_wp2_with (first | ((with_reducible refine gate_callee (f := 57) rfl ?_); refine goesL_ (some 26) rfl rfl Try.func57 (by kernel_rfl) rfl #[.string ((rd_T42 l0 x5_1).f1)] rfl (by (try simp only [List.map_toArray, List.map_cons, List.map_nil]); first | rfl) ?_; (with_reducible refine (tenancyref15_GetStatus.calls k1 ((rd_T42 l0 x5_1).f1) t453 true _ A5.out).mono ?_); rintro e w' ⟨rfl, ⟨nd, rfl⟩⟩; refine ⟨_, rfl, ?_⟩))
      go_roundg k1
      case measure => have := HK1.out; omega
      case rel => exact ⟨(t453), (wrap64 (x5_1 + 1)), (by rfl), (by rfl), H', ⟨by have := HK1.out; omega⟩, by repeat (first | exact Drawn0.refl _ | apply Drawn0.step)⟩
     rw [if_neg c7] at H
     have c7b0 : decide (x4_1 < 0) = false := decide_eq_false c7
     clear c7
     have H' := ak_ H
     clear H
     have p451 : 0 ≤ (x5_1 : Int) := of_decide_eq_true (by first | (with_reducible assumption))
     have q451 : x5_1 < (l0.length : Int) := of_decide_eq_true (by first | (with_reducible assumption))
     obtain ⟨ad451, e451, hx451_0, hx451_1⟩ := at_T42 HR0.out x5_1 p451 q451
     cases e451
     replace p451 := eq_true p451
     replace q451 := eq_true q451
     have p452 : 0 ≤ (x5_1 : Int) := of_decide_eq_true (by first | (with_reducible assumption))
     have q452 : x5_1 < (l0.length : Int) := of_decide_eq_true (by first | (with_reducible assumption))
     obtain ⟨ad452, e452, hx452_0, hx452_1⟩ := at_T42 HR0.out x5_1 p452 q452
     obtain rfl : ad451 = ad452 := (by injection e452)
     replace p452 := eq_true p452
     replace q452 := eq_true q452
     go_wp2_with (first | ((with_reducible refine gate_callee (f := 57) rfl ?_); refine goesL_ (some 26) rfl rfl Try.func57 (by kernel_rfl) rfl #[.string ((rd_T42 l0 x5_1).f1)] rfl (by (try simp only [List.map_toArray, List.map_cons, List.map_nil]); first | rfl) ?_; (with_reducible refine (tenancyref15_GetStatus.calls k1 ((rd_T42 l0 x5_1).f1) t453 true _ A5.out).mono ?_); rintro e w' ⟨rfl, ⟨nd, rfl⟩⟩; refine ⟨_, rfl, ?_⟩))
     go_roundg k1
     case measure => have := HK1.out; omega
     case rel => exact ⟨(x4_1), (wrap64 (x5_1 + 1)), (by rfl), (by rfl), H', ⟨by have := HK1.out; omega⟩, by repeat (first | exact Drawn0.refl _ | apply Drawn0.step)⟩
    replace c6 := Bool.eq_false_iff.mpr c6
    subst c6
    have H1 : (some (0, 130)) = some (r1, r2) := by rw [if_neg (show ¬ (false = true) by decide)] at H; exact H
    clear H
    have H := H1
    clear H1
    simp only [Option.some.injEq, Prod.mk.injEq] at H
    obtain ⟨rfl, rfl⟩ := H
    have p451 : 0 ≤ (x5_1 : Int) := of_decide_eq_true (by first | (with_reducible assumption))
    have q451 : x5_1 < (l0.length : Int) := of_decide_eq_true (by first | (with_reducible assumption))
    obtain ⟨ad451, e451, hx451_0, hx451_1⟩ := at_T42 HR0.out x5_1 p451 q451
    cases e451
    replace p451 := eq_true p451
    replace q451 := eq_true q451
    have p452 : 0 ≤ (x5_1 : Int) := of_decide_eq_true (by first | (with_reducible assumption))
    have q452 : x5_1 < (l0.length : Int) := of_decide_eq_true (by first | (with_reducible assumption))
    obtain ⟨ad452, e452, hx452_0, hx452_1⟩ := at_T42 HR0.out x5_1 p452 q452
    obtain rfl : ad451 = ad452 := (by injection e452)
    replace p452 := eq_true p452
    replace q452 := eq_true q452
    go_wp2_with (first | ((with_reducible refine gate_callee (f := 57) rfl ?_); refine goesL_ (some 26) rfl rfl Try.func57 (by kernel_rfl) rfl #[.string ((rd_T42 l0 x5_1).f1)] rfl (by (try simp only [List.map_toArray, List.map_cons, List.map_nil]); first | rfl) ?_; (with_reducible refine (tenancyref15_GetStatus.calls k1 ((rd_T42 l0 x5_1).f1) t453 false _ A5.out).mono ?_); rintro e w' ⟨rfl, ⟨nd, rfl⟩⟩; refine ⟨_, rfl, ?_⟩))
    go_ret2
    exact ⟨by rfl, by repeat (first | exact Drawn0.refl _ | apply Drawn0.step)⟩
   rw [if_neg c4] at H
   have c4b0 : (((rd_T42 l0 x5_1).f0) == 13) = false := beq_eq_false_iff_ne.mpr c4
   have c4b1 : (((rd_T42 l0 x5_1).f0) != 13) = true := bne_iff_ne.mpr c4
   have H' := ak_ H
   clear H
   have p451 : 0 ≤ (x5_1 : Int) := of_decide_eq_true (by first | (with_reducible assumption))
   have q451 : x5_1 < (l0.length : Int) := of_decide_eq_true (by first | (with_reducible assumption))
   obtain ⟨ad451, e451, hx451_0, hx451_1⟩ := at_T42 HR0.out x5_1 p451 q451
   cases e451
   replace p451 := eq_true p451
   replace q451 := eq_true q451
   go_wp2
   go_roundg k1
   case measure => have := HK1.out; omega
   case rel => exact ⟨(x4_1), (wrap64 (x5_1 + 1)), (by rfl), (by rfl), H', ⟨by have := HK1.out; omega⟩, by repeat (first | exact Drawn0.refl _ | apply Drawn0.step)⟩
  rw [if_neg c3] at H
  exact absurd H (by simp)
 rw [if_neg c2] at H
 have c2b0 : decide (x5_1 < (l0.length : Int)) = false := decide_eq_false c2
 clear c2
 simp only [Option.some.injEq, Prod.mk.injEq] at H
 obtain ⟨rfl, rfl⟩ := H
 go_wp2
 go_ret2
 exact ⟨by rfl, by repeat (first | exact Drawn0.refl _ | apply Drawn0.step)⟩

mutual
def tenancyref15_inner.j0 : Nat → Int → ByteArray → Int → Int → Int → Int → Int → Int → Int → Int → Option (Int × Int × Int × Int × Int × Int × Int)
  | 0, _, _, _, _, _, _, _, _, _, _ => none
  | k + 1, x0, x1, x7, x8, x457000, x457001, x457002, x457003, x457004, x457005 => (tenancyref04_Cut.f x1 0 x7).bind fun bt457 => (if bt457.2 = true then ((tenancyref15_word.f k bt457.1 x8).bind fun t459 => ((tenancyref15_word.f k bt457.1 (wrap64 (x8 + 4))).bind fun t460 => (if x0 = 4 then (if 8 < (bt457.1.size : Int) then (tenancyref15_inner.j1 k x0 x1 x7 bt457.1 9 x457000 x457001 (wrap64 (bt bt457.1 8)) t459 t460 x457005) else (none)) else (tenancyref15_inner.j1 k x0 x1 x7 bt457.1 0 x457000 x457001 128 t459 t460 x457005)))) else (some (x457000, x457001, x457002, x457003, x457004, x457005, 3)))
def tenancyref15_inner.j1 : Nat → Int → ByteArray → Int → ByteArray → Int → Int → Int → Int → Int → Int → Int → Option (Int × Int × Int × Int × Int × Int × Int)
  | 0, _, _, _, _, _, _, _, _, _, _, _ => none
  | k + 1, x0, x1, x7, x9, x11, x457000, x457001, x457002, x457003, x457004, x457005 => (tenancyref04_GetAddr.f k x9 x11).bind fun bt461 => (if x0 = 4 then ((tenancyref01_Sound.f k bt461.1 bt461.2.1 x457002).bind fun t465 => (if t465 = true then (tenancyref15_inner.j2 k x1 x7 bt461.1 bt461.2.1 x457002 x457003 x457004 x457005) else (some (0, 0, 0, 0, 0, 0, 130)))) else (tenancyref15_inner.j2 k x1 x7 bt461.1 bt461.2.1 x457002 x457003 x457004 x457005))
def tenancyref15_inner.j2 : Nat → ByteArray → Int → Int → Int → Int → Int → Int → Int → Option (Int × Int × Int × Int × Int × Int × Int)
  | 0, _, _, _, _, _, _, _, _ => none
  | k + 1, x1, x7, x457000, x457001, x457002, x457003, x457004, x457005 => if 0 ≤ x7 then (if x7 ≤ (x1.size : Int) then ((tenancyref15_Parse.f k (x1.extract (x7 : Int).toNat x1.size)).bind fun bt466 => (if bt466.2 = 0 then ((tenancyref15_statuses.f k bt466.1).bind fun bt470 => (if bt470.2 = 0 then (some (x457000, x457001, x457002, x457003, x457004, bt470.1, 0)) else (some (0, 0, 0, 0, 0, 0, bt470.2)))) else (some (0, 0, 0, 0, 0, 0, bt466.2)))) else (none)) else (none)
end
def tenancyref15_inner.f (k : Nat) (a0 : Int) (a1 : ByteArray) : Option (Int × Int × Int × Int × Int × Int × Int) := if a0 = 4 then (tenancyref15_inner.j0 k a0 a1 25 0 0 0 0 0 0 0) else (tenancyref15_inner.j0 k a0 a1 24 16 0 0 0 0 0 0)
set_option maxHeartbeats 8000000 in
set_option maxRecDepth 100000 in
theorem tenancyref15_inner.calls (k : Nat) (a0 : Int) (a1 : ByteArray) (r1 : Int) (r2 : Int) (r3 : Int) (r4 : Int) (r5 : Int) (r6 : Int) (r7 : Int) (w : World) (h : tenancyref15_inner.f k a0 a1 = some (r1, r2, r3, r4, r5, r6, r7)) :
 Calls Try.prog 86 #[.int .i64 a0, .string a1] w fun e w' => e = .returned (.tuple #[.agg #[.int .u64 r1, .int .u64 r2, .int .i64 r3, .int .u32 r4, .int .u32 r5, .int .i64 r6], .int .i64 r7]) ∧ Below w.heap.size w w' := by
 have hu58 := Try.underlying58
 have hu54 := Try.underlying54
 have hu56 := Try.underlying56
 have HB := ak_ (Below.refl w.heap.size w)
 have H : (if a0 = 4 then (tenancyref15_inner.j0 k a0 a1 25 0 0 0 0 0 0 0) else (tenancyref15_inner.j0 k a0 a1 24 16 0 0 0 0 0 0)) = some (r1, r2, r3, r4, r5, r6, r7) := h
 clear h
 have HC3 := ak_ H
 clear H
 go_enter Try.func86, Try.ntmps86
 go_upto_if 19 with (first | ((with_reducible refine gate_dst (N := 4) rfl ?_); refine box_event ?hg (N := 4) ?hd (cs := #[.int .u64 0, .int .u64 0, .int .i64 0, .int .u32 0, .int .u32 0, .int .i64 0]) (t := 58) ?hr ?_; (case hd => rfl); (case hg => rfl); (case hr => go_simp; done); intro gb455 hg w4 hbox hb; have BK455 := ak_ hbox; have GW455 := gz_ HB hg; have GE455 := gz_ HB hg; replace HB := bs_ HB hb; clear hb hbox hg) | ((with_reducible refine gate_dst (N := 6) rfl ?_); refine box_event ?hg (N := 6) ?hd (cs := #[.int .u64 0, .int .u64 0, .int .i64 0, .int .u32 0, .int .u32 0, .int .i64 0]) (t := 58) ?hr ?_; (case hd => rfl); (case hg => rfl); (case hr => go_simp; done); intro gb456 hg w5 hbox hb; have BK456 := ak_ hbox; have GW456 := gz_ HB hg; have GE456 := gz_ HB hg; replace HB := bs_ HB hb; have NB455_456 := gl_ BK455 hg; have NB456_455 := gr_ BK455 hg; replace BK455 := bb_ BK455 hb; clear hb hbox hg; have hnb6 := NB456_455.out; have hnc6 := NB455_456.out; have hz7 := bz6_ BK456))
 (try simp only [Act.put, List.setIfInBounds_toArray, List.set_cons_zero, List.set_cons_succ])
 go_cut [7, 8] (fun v7 v8 wc => ∃ (kq : Nat) (x7_2 : Int) (x8_2 : Int), v7 = .int .i64 x7_2 ∧ v8 = .int .i64 x8_2 ∧ Aside0 (tenancyref15_inner.j0 kq a0 a1 x7_2 x8_2 0 0 0 0 0 0 = some (r1, r2, r3, r4, r5, r6, r7)) ∧ Aside0 (kq ≤ k) ∧ Aside0 (wc.heap[gb455]? = some (.cells #[.int .u64 0, .int .u64 0, .int .i64 0, .int .u32 0, .int .u32 0, .int .i64 0] 58 (0, 0))) ∧ Aside0 (wc.heap[gb456]? = some (.cells #[.int .u64 0, .int .u64 0, .int .i64 0, .int .u32 0, .int .u32 0, .int .i64 0] 58 (0, 0))) ∧ Aside0 (Below w.heap.size w wc))
 case first =>
  have H := HC3.out
  clear HC3
  by_cases c8 : a0 = 4
  ·rw [if_pos c8] at H
   have c8b0 : (a0 == 4) = true := beq_iff_eq.mpr c8
   have c8b1 : (a0 != 4) = false := bne_eq_false_iff_eq.mpr c8
   clear c8
   rw [c8b0]
   have H' := ak_ H
   clear H
   go_wp2
   go_meet
   case rel => exact ⟨_, (25), (0), (by rfl), (by rfl), H', ⟨by omega⟩, ⟨by refine blk_far ?_ NB455_456.out _; refine blk_far ?_ NB455_456.out _; refine blk_far ?_ NB455_456.out _; refine blk_far ?_ NB455_456.out _; refine blk_far ?_ NB455_456.out _; refine blk_far ?_ NB455_456.out _; exact BK455.out⟩, ⟨by refine blk_put (cs := #[.int .u64 0, .int .u64 0, .int .i64 0, .int .u32 0, .int .u32 0, .int .i64 0]) ?_ 5 _ rfl; refine blk_put (cs := #[.int .u64 0, .int .u64 0, .int .i64 0, .int .u32 0, .int .u32 0, .int .i64 0]) ?_ 4 _ rfl; refine blk_put (cs := #[.int .u64 0, .int .u64 0, .int .i64 0, .int .u32 0, .int .u32 0, .int .i64 0]) ?_ 3 _ rfl; refine blk_put (cs := #[.int .u64 0, .int .u64 0, .int .i64 0, .int .u32 0, .int .u32 0, .int .i64 0]) ?_ 2 _ rfl; refine blk_put (cs := #[.int .u64 0, .int .u64 0, .int .i64 0, .int .u32 0, .int .u32 0, .int .i64 0]) ?_ 1 _ rfl; refine blk_put (cs := #[.int .u64 0, .int .u64 0, .int .i64 0, .int .u32 0, .int .u32 0, .int .i64 0]) ?_ 0 _ rfl; exact BK456.out⟩, ⟨by repeat (first | (with_reducible first | exact HB.out | refine below_set ?_ GE456.out))⟩⟩
  rw [if_neg c8] at H
  have c8b0 : (a0 == 4) = false := beq_eq_false_iff_ne.mpr c8
  have c8b1 : (a0 != 4) = true := bne_iff_ne.mpr c8
  rw [c8b0]
  have H' := ak_ H
  clear H
  go_wp2
  go_meet
  case rel => exact ⟨_, (24), (16), (by rfl), (by rfl), H', ⟨by omega⟩, ⟨by refine blk_far ?_ NB455_456.out _; refine blk_far ?_ NB455_456.out _; refine blk_far ?_ NB455_456.out _; refine blk_far ?_ NB455_456.out _; refine blk_far ?_ NB455_456.out _; refine blk_far ?_ NB455_456.out _; exact BK455.out⟩, ⟨by refine blk_put (cs := #[.int .u64 0, .int .u64 0, .int .i64 0, .int .u32 0, .int .u32 0, .int .i64 0]) ?_ 5 _ rfl; refine blk_put (cs := #[.int .u64 0, .int .u64 0, .int .i64 0, .int .u32 0, .int .u32 0, .int .i64 0]) ?_ 4 _ rfl; refine blk_put (cs := #[.int .u64 0, .int .u64 0, .int .i64 0, .int .u32 0, .int .u32 0, .int .i64 0]) ?_ 3 _ rfl; refine blk_put (cs := #[.int .u64 0, .int .u64 0, .int .i64 0, .int .u32 0, .int .u32 0, .int .i64 0]) ?_ 2 _ rfl; refine blk_put (cs := #[.int .u64 0, .int .u64 0, .int .i64 0, .int .u32 0, .int .u32 0, .int .i64 0]) ?_ 1 _ rfl; refine blk_put (cs := #[.int .u64 0, .int .u64 0, .int .i64 0, .int .u32 0, .int .u32 0, .int .i64 0]) ?_ 0 _ rfl; exact BK456.out⟩, ⟨by repeat (first | (with_reducible first | exact HB.out | refine below_set ?_ GE456.out))⟩⟩
 case rest =>
 clear HC3
 try clear p2
 try clear c6
 try clear c8
 try clear c8b0
 try clear c8b1
 try clear hz7
 obtain ⟨kq, x7_2, x8_2, rfl, rfl, HA, HJ2, BK455, BK456, HB⟩ := hcut
 cases kq with
 | zero => exact absurd HA.out (by simp [tenancyref15_inner.j0])
 | succ kj2 =>
 have H := HA.out
 clear HA
 simp only [tenancyref15_inner.j0] at H
 replace H := Option.bind_eq_some_iff.mp H
 obtain ⟨⟨t457, t458⟩, A90, H⟩ := H
 replace H : (if t458 = true then ((tenancyref15_word.f kj2 t457 x8_2).bind fun t459 => ((tenancyref15_word.f kj2 t457 (wrap64 (x8_2 + 4))).bind fun t460 => (if a0 = 4 then (if 8 < (t457.size : Int) then (tenancyref15_inner.j1 kj2 a0 a1 x7_2 t457 9 0 0 (wrap64 (bt t457 8)) t459 t460 0) else (none)) else (tenancyref15_inner.j1 kj2 a0 a1 x7_2 t457 0 0 0 128 t459 t460 0)))) else (some (0, 0, 0, 0, 0, 0, 3))) = some (r1, r2, r3, r4, r5, r6, r7) := H
 have A9 := ak_ A90
 clear A90
 by_cases c10 : t458 = true
 ·subst c10
  have H1 : ((tenancyref15_word.f kj2 t457 x8_2).bind fun t459 => ((tenancyref15_word.f kj2 t457 (wrap64 (x8_2 + 4))).bind fun t460 => (if a0 = 4 then (if 8 < (t457.size : Int) then (tenancyref15_inner.j1 kj2 a0 a1 x7_2 t457 9 0 0 (wrap64 (bt t457 8)) t459 t460 0) else (none)) else (tenancyref15_inner.j1 kj2 a0 a1 x7_2 t457 0 0 0 128 t459 t460 0)))) = some (r1, r2, r3, r4, r5, r6, r7) := by rw [if_pos rfl] at H; exact H
  clear H
  have H := H1
  clear H1
  replace H := Option.bind_eq_some_iff.mp H
  obtain ⟨t459, A110, H⟩ := H
  replace H : ((tenancyref15_word.f kj2 t457 (wrap64 (x8_2 + 4))).bind fun t460 => (if a0 = 4 then (if 8 < (t457.size : Int) then (tenancyref15_inner.j1 kj2 a0 a1 x7_2 t457 9 0 0 (wrap64 (bt t457 8)) t459 t460 0) else (none)) else (tenancyref15_inner.j1 kj2 a0 a1 x7_2 t457 0 0 0 128 t459 t460 0))) = some (r1, r2, r3, r4, r5, r6, r7) := H
  have A11 := ak_ A110
  clear A110
  replace H := Option.bind_eq_some_iff.mp H
  obtain ⟨t460, A120, H⟩ := H
  replace H : (if a0 = 4 then (if 8 < (t457.size : Int) then (tenancyref15_inner.j1 kj2 a0 a1 x7_2 t457 9 0 0 (wrap64 (bt t457 8)) t459 t460 0) else (none)) else (tenancyref15_inner.j1 kj2 a0 a1 x7_2 t457 0 0 0 128 t459 t460 0)) = some (r1, r2, r3, r4, r5, r6, r7) := H
  have A12 := ak_ A120
  clear A120
  have HC13 := ak_ H
  clear H
  go_upto_if 41 with (first | ((with_reducible refine gate_callee (f := 84) rfl ?_); refine goesL_ (some 23) rfl rfl Try.func84 (by kernel_rfl) rfl #[.string a1, .int .i64 0, .int .i64 x7_2] rfl (by (try simp only [List.map_toArray, List.map_cons, List.map_nil]); first | rfl) ?_; (with_reducible refine (tenancyref04_Cut.calls a1 0 x7_2 t457 true _ A9.out).mono ?_); rintro e w' ⟨rfl, ⟨nd, rfl⟩⟩; refine ⟨_, rfl, ?_⟩; (try (rw [drewN_self wc]; generalize hq_ : World.drewN wc _ = wc; have n0_ : Aside0 (wc.heap[gb455]? = some (.cells #[.int .u64 0, .int .u64 0, .int .i64 0, .int .u32 0, .int .u32 0, .int .i64 0] 58 (0, 0))) := ⟨by rw [← hq_]; exact (by (with_reducible repeat (first | refine blk_drewN ?_ _)); exact BK455.out)⟩; have n1_ : Aside0 (wc.heap[gb456]? = some (.cells #[.int .u64 0, .int .u64 0, .int .i64 0, .int .u32 0, .int .u32 0, .int .i64 0] 58 (0, 0))) := ⟨by rw [← hq_]; exact (by (with_reducible repeat (first | refine blk_drewN ?_ _)); exact BK456.out)⟩; have n2_ : Aside0 (Below w.heap.size w wc) := ⟨by rw [← hq_]; exact (by repeat (first | (with_reducible first | exact HB.out | apply pw_below_drewN)))⟩; clear BK455 BK456 HB hq_; have BK455 := n0_; have BK456 := n1_; have HB := n2_; clear n0_ n1_ n2_))) | ((with_reducible refine gate_callee (f := 85) rfl ?_); refine goesL_ (some 31) rfl rfl Try.func85 (by kernel_rfl) rfl #[.string t457, .int .i64 x8_2] rfl (by (try simp only [List.map_toArray, List.map_cons, List.map_nil]); first | rfl) ?_; (with_reducible refine (tenancyref15_word.calls kj2 t457 x8_2 t459 _ A11.out).mono ?_); rintro e w' ⟨rfl, ⟨nd, rfl⟩⟩; refine ⟨_, rfl, ?_⟩; (try (rw [drewN_self wc]; generalize hq_ : World.drewN wc _ = wc; have n0_ : Aside0 (wc.heap[gb455]? = some (.cells #[.int .u64 0, .int .u64 0, .int .i64 0, .int .u32 0, .int .u32 0, .int .i64 0] 58 (0, 0))) := ⟨by rw [← hq_]; exact (by (with_reducible repeat (first | refine blk_drewN ?_ _)); exact BK455.out)⟩; have n1_ : Aside0 (wc.heap[gb456]? = some (.cells #[.int .u64 0, .int .u64 0, .int .i64 0, .int .u32 0, .int .u32 0, .int .i64 0] 58 (0, 0))) := ⟨by rw [← hq_]; exact (by (with_reducible repeat (first | refine blk_drewN ?_ _)); exact BK456.out)⟩; have n2_ : Aside0 (Below w.heap.size w wc) := ⟨by rw [← hq_]; exact (by repeat (first | (with_reducible first | exact HB.out | apply pw_below_drewN)))⟩; clear BK455 BK456 HB hq_; have BK455 := n0_; have BK456 := n1_; have HB := n2_; clear n0_ n1_ n2_)); have hnb14 := NB456_455.out; have hnc14 := NB455_456.out; have hz15 := bz6_ BK456) | ((with_reducible refine gate_callee (f := 85) rfl ?_); refine goesL_ (some 36) rfl rfl Try.func85 (by kernel_rfl) rfl #[.string t457, .int .i64 (wrap64 (x8_2 + 4))] rfl (by (try simp only [List.map_toArray, List.map_cons, List.map_nil]); first | rfl) ?_; (with_reducible refine (tenancyref15_word.calls kj2 t457 (wrap64 (x8_2 + 4)) t460 _ A12.out).mono ?_); rintro e w' ⟨rfl, ⟨nd, rfl⟩⟩; refine ⟨_, rfl, ?_⟩))
  (try simp only [Act.put, List.setIfInBounds_toArray, List.set_cons_zero, List.set_cons_succ])
  go_cut [11] (fun v11 wc => ∃ (kq : Nat) (x11_12 : Int) (x457002_12 : Int), v11 = .int .i64 x11_12 ∧ Aside0 (tenancyref15_inner.j1 kq a0 a1 x7_2 t457 x11_12 0 0 x457002_12 t459 t460 0 = some (r1, r2, r3, r4, r5, r6, r7)) ∧ Aside0 (kq ≤ kj2) ∧ Aside0 (wc.heap[gb455]? = some (.cells #[.int .u64 0, .int .u64 0, .int .i64 0, .int .u32 0, .int .u32 0, .int .i64 0] 58 (0, 0))) ∧ Aside0 (wc.heap[gb456]? = some (.cells #[.int .u64 0, .int .u64 0, .int .i64 x457002_12, .int .u32 t459, .int .u32 t460, .int .i64 0] 58 (0, 0))) ∧ Aside0 (Below w.heap.size w wc))
  case first =>
   have H := HC13.out
   clear HC13
   by_cases c16 : a0 = 4
   ·rw [if_pos c16] at H
    have c16b0 : (a0 == 4) = true := beq_iff_eq.mpr c16
    have c16b1 : (a0 != 4) = false := bne_eq_false_iff_eq.mpr c16
    clear c16
    rw [c16b0]
    by_cases c17 : 8 < (t457.size : Int)
    ·rw [if_pos c17] at H
     have c17b0 : decide (8 < (t457.size : Int)) = true := decide_eq_true c17
     have c17b1 : decide (8 < t457.size) = true := decide_eq_true (by omega)
     clear c17
     have H' := ak_ H
     clear H
     have p18 : 0 ≤ (8 : Int) := (by omega)
     have q18 : 8 < t457.size := (by have : (8 : Int) < (t457.size : Int) := of_decide_eq_true (by first | (with_reducible assumption)); omega)
     have hx18 : ∀ h : 8 < t457.size, ((t457[8]'h).toNat : Int) = bt t457 8 := bt_at t457 8
     clear p18
     have qi18 : (8 < (t457.size : Int)) = True := eq_true (of_decide_eq_true (by first | (with_reducible assumption)))
     replace q18 := eq_true q18
     have hnb19 := NB456_455.out
     have hnc19 := NB455_456.out
     have hz20 := bz6_ BK456
     go_wp2
     go_meet
     case rel => exact ⟨_, (9), (wrap64 (bt t457 8)), (by rfl), H', ⟨by have := HJ2.out; first | omega⟩, ⟨by refine blk_far ?_ NB455_456.out _; refine blk_far ?_ NB455_456.out _; refine blk_far ?_ NB455_456.out _; (with_reducible repeat (first | refine blk_drewN ?_ _)); refine blk_far ?_ NB455_456.out _; exact BK455.out⟩, ⟨by refine blk_put (cs := #[.int .u64 0, .int .u64 0, .int .i64 128, .int .u32 t459, .int .u32 t460, .int .i64 0]) ?_ 2 _ rfl; refine blk_put (cs := #[.int .u64 0, .int .u64 0, .int .i64 0, .int .u32 t459, .int .u32 t460, .int .i64 0]) ?_ 2 _ rfl; refine blk_put (cs := #[.int .u64 0, .int .u64 0, .int .i64 0, .int .u32 t459, .int .u32 0, .int .i64 0]) ?_ 4 _ rfl; (with_reducible repeat (first | refine blk_drewN ?_ _)); refine blk_put (cs := #[.int .u64 0, .int .u64 0, .int .i64 0, .int .u32 0, .int .u32 0, .int .i64 0]) ?_ 3 _ rfl; exact BK456.out⟩, ⟨by repeat (first | (with_reducible first | exact HB.out | apply pw_below_drewN | refine below_set ?_ GE456.out))⟩⟩
    rw [if_neg c17] at H
    exact absurd H (by simp)
   rw [if_neg c16] at H
   have c16b0 : (a0 == 4) = false := beq_eq_false_iff_ne.mpr c16
   have c16b1 : (a0 != 4) = true := bne_iff_ne.mpr c16
   rw [c16b0]
   have H' := ak_ H
   clear H
   go_wp2
   go_meet
   case rel => exact ⟨_, (0), (128), (by rfl), H', ⟨by have := HJ2.out; first | omega⟩, ⟨by refine blk_far ?_ NB455_456.out _; refine blk_far ?_ NB455_456.out _; (with_reducible repeat (first | refine blk_drewN ?_ _)); refine blk_far ?_ NB455_456.out _; exact BK455.out⟩, ⟨by refine blk_put (cs := #[.int .u64 0, .int .u64 0, .int .i64 0, .int .u32 t459, .int .u32 t460, .int .i64 0]) ?_ 2 _ rfl; refine blk_put (cs := #[.int .u64 0, .int .u64 0, .int .i64 0, .int .u32 t459, .int .u32 0, .int .i64 0]) ?_ 4 _ rfl; (with_reducible repeat (first | refine blk_drewN ?_ _)); refine blk_put (cs := #[.int .u64 0, .int .u64 0, .int .i64 0, .int .u32 0, .int .u32 0, .int .i64 0]) ?_ 3 _ rfl; exact BK456.out⟩, ⟨by repeat (first | (with_reducible first | exact HB.out | apply pw_below_drewN | refine below_set ?_ GE456.out))⟩⟩
  case rest =>
  clear HC13
  try clear c1
  try clear p1
  try clear q1
  try clear hx1
  try clear qi1
  try clear p2
  try clear c6
  try clear p6
  try clear c8
  try clear c8b0
  try clear c8b1
  try clear c10
  try clear c14
  try clear c16
  try clear c16b0
  try clear c16b1
  try clear c17
  try clear c17b0
  try clear c17b1
  try clear p18
  try clear q18
  try clear hx18
  try clear qi18
  try clear c19
  try clear hz15
  try clear hz20
  try clear hz7
  try clear p18
  try clear p2
  try clear q18
  obtain ⟨kq, x11_12, x457002_12, rfl, HA, HJ12, BK455, BK456, HB⟩ := hcut
  cases kq with
  | zero => exact absurd HA.out (by simp [tenancyref15_inner.j1])
  | succ kj12 =>
  have H := HA.out
  clear HA
  simp only [tenancyref15_inner.j1] at H
  replace H := Option.bind_eq_some_iff.mp H
  obtain ⟨⟨t461, t462, t463⟩, A210, H⟩ := H
  replace H : (if a0 = 4 then ((tenancyref01_Sound.f kj12 t461 t462 x457002_12).bind fun t465 => (if t465 = true then (tenancyref15_inner.j2 kj12 a1 x7_2 t461 t462 x457002_12 t459 t460 0) else (some (0, 0, 0, 0, 0, 0, 130)))) else (tenancyref15_inner.j2 kj12 a1 x7_2 t461 t462 x457002_12 t459 t460 0)) = some (r1, r2, r3, r4, r5, r6, r7) := H
  have A21 := ak_ A210
  clear A210
  have HC22 := ak_ H
  clear H
  go_upto_if 57 with (first | ((with_reducible refine gate_callee (f := 96) rfl ?_); refine goesL_ (some 50) rfl rfl Try.func96 (by kernel_rfl) rfl #[.string t457, .int .i64 x11_12] rfl (by (try simp only [List.map_toArray, List.map_cons, List.map_nil]); first | rfl) ?_; (with_reducible refine (tenancyref04_GetAddr.calls kj12 t457 x11_12 t461 t462 t463 _ A21.out).mono ?_); rintro e w23 ⟨rfl, hb⟩; refine ⟨_, rfl, ?_⟩; replace BK455 := bb_ BK455 hb; replace BK456 := bb_ BK456 hb; replace HB := bs_ HB hb; (try clear hb)) | ((with_reducible refine gate_dst (N := 12) rfl ?_); refine box_event ?hg (N := 12) ?hd (cs := #[.int .u64 0, .int .u64 0]) (t := 54) ?hr ?_; (case hd => rfl); (case hg => rfl); (case hr => go_simp; done); intro gb464 hg w24 hbox hb; have BK464 := ak_ hbox; have GW464 := gz_ HB hg; have GE464 := gz_ HB hg; replace HB := bs_ HB hb; have NB455_464 := gl_ BK455 hg; have NB464_455 := gr_ BK455 hg; replace BK455 := bb_ BK455 hb; have NB456_464 := gl_ BK456 hg; have NB464_456 := gr_ BK456 hg; replace BK456 := bb_ BK456 hb; clear hb hbox hg; have hnb25 := NB464_455.out; have hnc25 := NB455_464.out; have hnb26 := NB464_456.out; have hnc26 := NB456_464.out; have hz27 := bz2_ BK464; have hnb28 := NB456_455.out; have hnc28 := NB455_456.out; have hz29 := bz6_ BK456))
  (try simp only [Act.put, List.setIfInBounds_toArray, List.set_cons_zero, List.set_cons_succ])
  go_cut [] (fun wc => ∃ (kq : Nat) (x456000_21 : Int) (x456001_21 : Int) (x456002_21 : Int) (x456003_21 : Int) (x456004_21 : Int) (x456005_21 : Int), Aside0 (tenancyref15_inner.j2 kq a1 x7_2 t461 t462 x457002_12 t459 t460 0 = some (r1, r2, r3, r4, r5, r6, r7)) ∧ Aside0 (kq ≤ kj12) ∧ Aside0 (wc.heap[gb455]? = some (.cells #[.int .u64 x456000_21, .int .u64 x456001_21, .int .i64 x456002_21, .int .u32 x456003_21, .int .u32 x456004_21, .int .i64 x456005_21] 58 (0, 0))) ∧ Aside0 (wc.heap[gb456]? = some (.cells #[.int .u64 t461, .int .u64 t462, .int .i64 x457002_12, .int .u32 t459, .int .u32 t460, .int .i64 0] 58 (0, 0))) ∧ Aside0 (wc.heap[gb464]? = some (.cells #[.int .u64 t461, .int .u64 t462] 54 (0, 0))) ∧ Aside0 (Below w.heap.size w wc))
  case first =>
   have H := HC22.out
   clear HC22
   by_cases c30 : a0 = 4
   ·rw [if_pos c30] at H
    have c30b0 : (a0 == 4) = true := beq_iff_eq.mpr c30
    have c30b1 : (a0 != 4) = false := bne_eq_false_iff_eq.mpr c30
    clear c30
    rw [c30b0]
    replace H := Option.bind_eq_some_iff.mp H
    obtain ⟨t465, A310, H⟩ := H
    replace H : (if t465 = true then (tenancyref15_inner.j2 kj12 a1 x7_2 t461 t462 x457002_12 t459 t460 0) else (some (0, 0, 0, 0, 0, 0, 130))) = some (r1, r2, r3, r4, r5, r6, r7) := H
    have A31 := ak_ A310
    clear A310
    by_cases c32 : t465 = true
    ·subst c32
     have H1 : (tenancyref15_inner.j2 kj12 a1 x7_2 t461 t462 x457002_12 t459 t460 0) = some (r1, r2, r3, r4, r5, r6, r7) := by rw [if_pos rfl] at H; exact H
     clear H
     have H := H1
     clear H1
     have H' := ak_ H
     clear H
     have hnb33 := NB456_455.out
     have hnc33 := NB455_456.out
     have hnb34 := NB456_464.out
     have hnc34 := NB464_456.out
     have hz35 := bz6_ BK456
     go_wp2_with (first | ((with_reducible refine gate_callee (f := 93) rfl ?_); refine goesL_ (some 60) rfl rfl Try.func93 (by kernel_rfl) rfl #[.agg #[.int .u64 t461, .int .u64 t462, .int .i64 x457002_12]] rfl (by (try simp only [List.map_toArray, List.map_cons, List.map_nil]); first | rfl) ?_; (with_reducible refine (tenancyref01_Sound.calls kj12 t461 t462 x457002_12 true _ A31.out).mono ?_); rintro e w36 ⟨rfl, hb⟩; refine ⟨_, rfl, ?_⟩; replace BK455 := ak_ (blk_below (g := gb455) (o := .cells #[.int .u64 0, .int .u64 0, .int .i64 0, .int .u32 0, .int .u32 0, .int .i64 0] 58 (0, 0)) (by refine blk_far ?_ NB455_456.out _; refine blk_far ?_ NB455_456.out _; refine blk_far ?_ NB455_464.out _; refine blk_far ?_ NB455_464.out _; exact BK455.out) hb); replace BK456 := ak_ (blk_below (g := gb456) (o := .cells #[.int .u64 t461, .int .u64 t462, .int .i64 x457002_12, .int .u32 t459, .int .u32 t460, .int .i64 0] 58 (0, 0)) (by refine blk_put (cs := #[.int .u64 t461, .int .u64 0, .int .i64 x457002_12, .int .u32 t459, .int .u32 t460, .int .i64 0]) ?_ 1 _ rfl; refine blk_put (cs := #[.int .u64 0, .int .u64 0, .int .i64 x457002_12, .int .u32 t459, .int .u32 t460, .int .i64 0]) ?_ 0 _ rfl; refine blk_far ?_ NB456_464.out _; refine blk_far ?_ NB456_464.out _; exact BK456.out) hb); replace BK464 := ak_ (blk_below (g := gb464) (o := .cells #[.int .u64 t461, .int .u64 t462] 54 (0, 0)) (by refine blk_far ?_ NB464_456.out _; refine blk_far ?_ NB464_456.out _; refine blk_put (cs := #[.int .u64 t461, .int .u64 0]) ?_ 1 _ rfl; refine blk_put (cs := #[.int .u64 0, .int .u64 0]) ?_ 0 _ rfl; exact BK464.out) hb); replace HB := ak_ (below_step (by repeat (first | (with_reducible first | exact HB.out | refine below_set ?_ GE456.out | refine below_set ?_ GE464.out))) hb); (try clear hb)))
     go_meet
     case rel => exact ⟨_, (0), (0), (0), (0), (0), (0), H', ⟨by have := HJ2.out; have := HJ12.out; first | omega⟩, ⟨by exact BK455.out⟩, ⟨by exact BK456.out⟩, ⟨by exact BK464.out⟩, ⟨by exact HB.out⟩⟩
    replace c32 := Bool.eq_false_iff.mpr c32
    subst c32
    have H1 : (some (0, 0, 0, 0, 0, 0, 130)) = some (r1, r2, r3, r4, r5, r6, r7) := by rw [if_neg (show ¬ (false = true) by decide)] at H; exact H
    clear H
    have H := H1
    clear H1
    simp only [Option.some.injEq, Prod.mk.injEq] at H
    obtain ⟨rfl, rfl, rfl, rfl, rfl, rfl, rfl⟩ := H
    have hnb37 := NB456_455.out
    have hnc37 := NB455_456.out
    have hnb38 := NB456_464.out
    have hnc38 := NB464_456.out
    have hz39 := bz6_ BK456
    go_wp2_with (first | ((with_reducible refine gate_callee (f := 93) rfl ?_); refine goesL_ (some 60) rfl rfl Try.func93 (by kernel_rfl) rfl #[.agg #[.int .u64 t461, .int .u64 t462, .int .i64 x457002_12]] rfl (by (try simp only [List.map_toArray, List.map_cons, List.map_nil]); first | rfl) ?_; (with_reducible refine (tenancyref01_Sound.calls kj12 t461 t462 x457002_12 false _ A31.out).mono ?_); rintro e w40 ⟨rfl, hb⟩; refine ⟨_, rfl, ?_⟩; replace BK455 := ak_ (blk_below (g := gb455) (o := .cells #[.int .u64 0, .int .u64 0, .int .i64 0, .int .u32 0, .int .u32 0, .int .i64 0] 58 (0, 0)) (by refine blk_far ?_ NB455_456.out _; refine blk_far ?_ NB455_456.out _; refine blk_far ?_ NB455_464.out _; refine blk_far ?_ NB455_464.out _; exact BK455.out) hb); replace BK456 := ak_ (blk_below (g := gb456) (o := .cells #[.int .u64 t461, .int .u64 t462, .int .i64 x457002_12, .int .u32 t459, .int .u32 t460, .int .i64 0] 58 (0, 0)) (by refine blk_put (cs := #[.int .u64 t461, .int .u64 0, .int .i64 x457002_12, .int .u32 t459, .int .u32 t460, .int .i64 0]) ?_ 1 _ rfl; refine blk_put (cs := #[.int .u64 0, .int .u64 0, .int .i64 x457002_12, .int .u32 t459, .int .u32 t460, .int .i64 0]) ?_ 0 _ rfl; refine blk_far ?_ NB456_464.out _; refine blk_far ?_ NB456_464.out _; exact BK456.out) hb); replace BK464 := ak_ (blk_below (g := gb464) (o := .cells #[.int .u64 t461, .int .u64 t462] 54 (0, 0)) (by refine blk_far ?_ NB464_456.out _; refine blk_far ?_ NB464_456.out _; refine blk_put (cs := #[.int .u64 t461, .int .u64 0]) ?_ 1 _ rfl; refine blk_put (cs := #[.int .u64 0, .int .u64 0]) ?_ 0 _ rfl; exact BK464.out) hb); replace HB := ak_ (below_step (by repeat (first | (with_reducible first | exact HB.out | refine below_set ?_ GE456.out | refine below_set ?_ GE464.out))) hb); (try clear hb); have hnb41 := NB455_464.out; have hnc41 := NB464_455.out; have hz42 := bz6_ BK455))
    refine bodyPost_ret (results_ct rfl _ _ gb455 58 #[.int .u64 0, .int .u64 0, .int .i64 0, .int .u32 0, .int .u32 0, .int .i64 0] (0, 0) _ rfl (by refine blk_put (cs := #[.int .u64 0, .int .u64 0, .int .i64 0, .int .u32 0, .int .u32 0, .int .i64 0]) ?_ 5 _ rfl; refine blk_put (cs := #[.int .u64 0, .int .u64 0, .int .i64 0, .int .u32 0, .int .u32 0, .int .i64 0]) ?_ 4 _ rfl; refine blk_put (cs := #[.int .u64 0, .int .u64 0, .int .i64 0, .int .u32 0, .int .u32 0, .int .i64 0]) ?_ 3 _ rfl; refine blk_put (cs := #[.int .u64 0, .int .u64 0, .int .i64 0, .int .u32 0, .int .u32 0, .int .i64 0]) ?_ 2 _ rfl; refine blk_put (cs := #[.int .u64 0, .int .u64 0, .int .i64 0, .int .u32 0, .int .u32 0, .int .i64 0]) ?_ 1 _ rfl; refine blk_put (cs := #[.int .u64 0, .int .u64 0, .int .i64 0, .int .u32 0, .int .u32 0, .int .i64 0]) ?_ 0 _ rfl; exact BK455.out) Try.underlying58 rfl (by kernel_rfl)) rfl ?_
    exact ⟨by rfl, by repeat (first | (with_reducible first | exact HB.out | refine below_set ?_ GE455.out))⟩
   rw [if_neg c30] at H
   have c30b0 : (a0 == 4) = false := beq_eq_false_iff_ne.mpr c30
   have c30b1 : (a0 != 4) = true := bne_iff_ne.mpr c30
   rw [c30b0]
   have H' := ak_ H
   clear H
   go_wp2
   go_meet
   case rel => exact ⟨_, (0), (0), (0), (0), (0), (0), H', ⟨by have := HJ2.out; have := HJ12.out; first | omega⟩, ⟨by refine blk_far ?_ NB455_456.out _; refine blk_far ?_ NB455_456.out _; refine blk_far ?_ NB455_464.out _; refine blk_far ?_ NB455_464.out _; exact BK455.out⟩, ⟨by refine blk_put (cs := #[.int .u64 t461, .int .u64 0, .int .i64 x457002_12, .int .u32 t459, .int .u32 t460, .int .i64 0]) ?_ 1 _ rfl; refine blk_put (cs := #[.int .u64 0, .int .u64 0, .int .i64 x457002_12, .int .u32 t459, .int .u32 t460, .int .i64 0]) ?_ 0 _ rfl; refine blk_far ?_ NB456_464.out _; refine blk_far ?_ NB456_464.out _; exact BK456.out⟩, ⟨by refine blk_far ?_ NB464_456.out _; refine blk_far ?_ NB464_456.out _; refine blk_put (cs := #[.int .u64 t461, .int .u64 0]) ?_ 1 _ rfl; refine blk_put (cs := #[.int .u64 0, .int .u64 0]) ?_ 0 _ rfl; exact BK464.out⟩, ⟨by repeat (first | (with_reducible first | exact HB.out | refine below_set ?_ GE456.out | refine below_set ?_ GE464.out))⟩⟩
  case rest =>
  clear HC22
  try clear c1
  try clear p1
  try clear q1
  try clear hx1
  try clear qi1
  try clear c2
  try clear p2
  try clear c3
  try clear c4
  try clear c6
  try clear p6
  try clear c8
  try clear c8b0
  try clear c8b1
  try clear c9
  try clear c10
  try clear c14
  try clear c16
  try clear c16b0
  try clear c16b1
  try clear c17
  try clear c17b0
  try clear c17b1
  try clear p18
  try clear q18
  try clear hx18
  try clear qi18
  try clear c19
  try clear c25
  try clear c26
  try clear c28
  try clear c30
  try clear c30b0
  try clear c30b1
  try clear c32
  try clear c33
  try clear c34
  try clear c37
  try clear c38
  try clear c41
  try clear hz15
  try clear hz20
  try clear hz27
  try clear hz29
  try clear hz35
  try clear hz39
  try clear hz42
  try clear hz7
  try clear p1
  try clear p18
  try clear p2
  try clear p6
  try clear q1
  try clear q18
  obtain ⟨kq, x456000_21, x456001_21, x456002_21, x456003_21, x456004_21, x456005_21, HA, HJ21, BK455, BK456, BK464, HB⟩ := hcut
  cases kq with
  | zero => exact absurd HA.out (by simp [tenancyref15_inner.j2])
  | succ kj21 =>
  have H := HA.out
  clear HA
  simp only [tenancyref15_inner.j2] at H
  by_cases c43 : 0 ≤ x7_2
  ·rw [if_pos c43] at H
   have c43b0 := eq_true c43
   have c43b1 : decide (0 ≤ x7_2) = true := decide_eq_true c43
   clear c43
   by_cases c44 : x7_2 ≤ (a1.size : Int)
   ·rw [if_pos c44] at H
    have c44b0 := eq_true c44
    have c44b1 : decide (x7_2 ≤ (a1.size : Int)) = true := decide_eq_true c44
    clear c44
    replace H := Option.bind_eq_some_iff.mp H
    obtain ⟨⟨t466, t467⟩, A450, H⟩ := H
    replace H : (if t467 = 0 then ((tenancyref15_statuses.f kj21 t466).bind fun bt470 => (if bt470.2 = 0 then (some (t461, t462, x457002_12, t459, t460, bt470.1, 0)) else (some (0, 0, 0, 0, 0, 0, bt470.2)))) else (some (0, 0, 0, 0, 0, 0, t467))) = some (r1, r2, r3, r4, r5, r6, r7) := H
    have A45 := ak_ A450
    clear A450
    by_cases c46 : t467 = 0
    ·rw [if_pos c46] at H
     have c46b0 : (t467 == 0) = true := beq_iff_eq.mpr c46
     have c46b1 : (t467 != 0) = false := bne_eq_false_iff_eq.mpr c46
     clear c46
     replace H := Option.bind_eq_some_iff.mp H
     obtain ⟨⟨t470, t471⟩, A470, H⟩ := H
     replace H : (if t471 = 0 then (some (t461, t462, x457002_12, t459, t460, t470, 0)) else (some (0, 0, 0, 0, 0, 0, t471))) = some (r1, r2, r3, r4, r5, r6, r7) := H
     have A47 := ak_ A470
     clear A470
     by_cases c48 : t471 = 0
     ·rw [if_pos c48] at H
      have c48b0 : (t471 == 0) = true := beq_iff_eq.mpr c48
      have c48b1 : (t471 != 0) = false := bne_eq_false_iff_eq.mpr c48
      clear c48
      simp only [Option.some.injEq, Prod.mk.injEq] at H
      obtain ⟨rfl, rfl, rfl, rfl, rfl, rfl, rfl⟩ := H
      go_wp2_with (first | ((with_reducible refine gate_callee (f := 31) rfl ?_); refine goesL_ (some 67) rfl rfl Try.func31 (by kernel_rfl) rfl #[.string (a1.extract (x7_2 : Int).toNat a1.size)] rfl (by (try simp only [List.map_toArray, List.map_cons, List.map_nil]); first | rfl) ?_; (with_reducible refine (tenancyref15_Parse.calls kj21 (a1.extract (x7_2 : Int).toNat a1.size) t466 t467 _ A45.out).mono ?_); rintro e w49 ⟨v468, rfl, ho0, hb⟩; refine ⟨_, rfl, ?_⟩; have HO469 := ak_ (Kd.R_lower ho0 (below_size HB.out)); replace BK455 := bb_ BK455 hb; replace BK456 := bb_ BK456 hb; replace BK464 := bb_ BK464 hb; replace HB := bs_ HB hb; (try clear hb); (try clear ho0); obtain ⟨Ao50, co50, eo50⟩ := Kd.R_slice HO469.out; subst eo50) | ((with_reducible refine gate_callee (f := 97) rfl ?_); refine goesL_ (some 76) rfl rfl Try.func97 (by kernel_rfl) rfl #[.slice Ao50 t466.length co50] rfl (by (try simp only [List.map_toArray, List.map_cons, List.map_nil]); first | rfl) ?_; (with_reducible refine (tenancyref15_statuses.calls kj21 _ _ t466 t470 t471 _ ?side1 ?side2 A47.out).mono ?_); (case side1 => repeat (first | exact (Kd.R_reads' HO469.out).2.2)); (case side2 => exact (Kd.R_reads' HO469.out).2.1); rintro e w' ⟨rfl, ⟨nd, rfl⟩⟩; refine ⟨_, rfl, ?_⟩; (try (rw [drewN_self w49]; generalize hq_ : World.drewN w49 _ = w49; have n0_ : Aside0 (Kd.R k42 42 w49 w.heap.size (fun _ => True) (.slice Ao50 t466.length co50) t466) := ⟨by rw [← hq_]; exact (by (with_reducible repeat (first | apply Kd.R_drewN)); exact HO469.out)⟩; have n1_ : Aside0 (w49.heap[gb455]? = some (.cells #[.int .u64 x456000_21, .int .u64 x456001_21, .int .i64 x456002_21, .int .u32 x456003_21, .int .u32 x456004_21, .int .i64 x456005_21] 58 (0, 0))) := ⟨by rw [← hq_]; exact (by (with_reducible repeat (first | refine blk_drewN ?_ _)); exact BK455.out)⟩; have n2_ : Aside0 (w49.heap[gb456]? = some (.cells #[.int .u64 t461, .int .u64 t462, .int .i64 x457002_12, .int .u32 t459, .int .u32 t460, .int .i64 0] 58 (0, 0))) := ⟨by rw [← hq_]; exact (by (with_reducible repeat (first | refine blk_drewN ?_ _)); exact BK456.out)⟩; have n3_ : Aside0 (w49.heap[gb464]? = some (.cells #[.int .u64 t461, .int .u64 t462] 54 (0, 0))) := ⟨by rw [← hq_]; exact (by (with_reducible repeat (first | refine blk_drewN ?_ _)); exact BK464.out)⟩; have n4_ : Aside0 (Below w.heap.size w w49) := ⟨by rw [← hq_]; exact (by repeat (first | (with_reducible first | exact HB.out | apply pw_below_drewN)))⟩; clear HO469 BK455 BK456 BK464 HB hq_; have HO469 := n0_; have BK455 := n1_; have BK456 := n2_; have BK464 := n3_; have HB := n4_; clear n0_ n1_ n2_ n3_ n4_)); have hnb51 := NB456_455.out; have hnc51 := NB455_456.out; have hnb52 := NB456_464.out; have hnc52 := NB464_456.out; have hz53 := bz6_ BK456; have hnb54 := NB455_464.out; have hnc54 := NB464_455.out; have hz55 := bz6_ BK455))
      refine bodyPost_ret (results_ct rfl _ _ gb455 58 #[.int .u64 t461, .int .u64 t462, .int .i64 x457002_12, .int .u32 t459, .int .u32 t460, .int .i64 t470] (0, 0) _ rfl (by refine blk_put (cs := #[.int .u64 t461, .int .u64 t462, .int .i64 x457002_12, .int .u32 t459, .int .u32 t460, .int .i64 x456005_21]) ?_ 5 _ rfl; refine blk_put (cs := #[.int .u64 t461, .int .u64 t462, .int .i64 x457002_12, .int .u32 t459, .int .u32 x456004_21, .int .i64 x456005_21]) ?_ 4 _ rfl; refine blk_put (cs := #[.int .u64 t461, .int .u64 t462, .int .i64 x457002_12, .int .u32 x456003_21, .int .u32 x456004_21, .int .i64 x456005_21]) ?_ 3 _ rfl; refine blk_put (cs := #[.int .u64 t461, .int .u64 t462, .int .i64 x456002_21, .int .u32 x456003_21, .int .u32 x456004_21, .int .i64 x456005_21]) ?_ 2 _ rfl; refine blk_put (cs := #[.int .u64 t461, .int .u64 x456001_21, .int .i64 x456002_21, .int .u32 x456003_21, .int .u32 x456004_21, .int .i64 x456005_21]) ?_ 1 _ rfl; refine blk_put (cs := #[.int .u64 x456000_21, .int .u64 x456001_21, .int .i64 x456002_21, .int .u32 x456003_21, .int .u32 x456004_21, .int .i64 x456005_21]) ?_ 0 _ rfl; refine blk_far ?_ NB455_456.out _; exact BK455.out) Try.underlying58 rfl (by kernel_rfl)) rfl ?_
      exact ⟨by rfl, by repeat (first | (with_reducible first | exact HB.out | refine below_set ?_ GE455.out | refine below_set ?_ GE456.out))⟩
     rw [if_neg c48] at H
     have c48b0 : (t471 == 0) = false := beq_eq_false_iff_ne.mpr c48
     have c48b1 : (t471 != 0) = true := bne_iff_ne.mpr c48
     simp only [Option.some.injEq, Prod.mk.injEq] at H
     obtain ⟨rfl, rfl, rfl, rfl, rfl, rfl, rfl⟩ := H
     go_wp2_with (first | ((with_reducible refine gate_callee (f := 31) rfl ?_); refine goesL_ (some 67) rfl rfl Try.func31 (by kernel_rfl) rfl #[.string (a1.extract (x7_2 : Int).toNat a1.size)] rfl (by (try simp only [List.map_toArray, List.map_cons, List.map_nil]); first | rfl) ?_; (with_reducible refine (tenancyref15_Parse.calls kj21 (a1.extract (x7_2 : Int).toNat a1.size) t466 t467 _ A45.out).mono ?_); rintro e w56 ⟨v468, rfl, ho0, hb⟩; refine ⟨_, rfl, ?_⟩; have HO469 := ak_ (Kd.R_lower ho0 (below_size HB.out)); replace BK455 := bb_ BK455 hb; replace BK456 := bb_ BK456 hb; replace BK464 := bb_ BK464 hb; replace HB := bs_ HB hb; (try clear hb); (try clear ho0); obtain ⟨Ao57, co57, eo57⟩ := Kd.R_slice HO469.out; subst eo57) | ((with_reducible refine gate_callee (f := 97) rfl ?_); refine goesL_ (some 76) rfl rfl Try.func97 (by kernel_rfl) rfl #[.slice Ao57 t466.length co57] rfl (by (try simp only [List.map_toArray, List.map_cons, List.map_nil]); first | rfl) ?_; (with_reducible refine (tenancyref15_statuses.calls kj21 _ _ t466 t470 t471 _ ?side1 ?side2 A47.out).mono ?_); (case side1 => repeat (first | exact (Kd.R_reads' HO469.out).2.2)); (case side2 => exact (Kd.R_reads' HO469.out).2.1); rintro e w' ⟨rfl, ⟨nd, rfl⟩⟩; refine ⟨_, rfl, ?_⟩; (try (rw [drewN_self w56]; generalize hq_ : World.drewN w56 _ = w56; have n0_ : Aside0 (Kd.R k42 42 w56 w.heap.size (fun _ => True) (.slice Ao57 t466.length co57) t466) := ⟨by rw [← hq_]; exact (by (with_reducible repeat (first | apply Kd.R_drewN)); exact HO469.out)⟩; have n1_ : Aside0 (w56.heap[gb455]? = some (.cells #[.int .u64 x456000_21, .int .u64 x456001_21, .int .i64 x456002_21, .int .u32 x456003_21, .int .u32 x456004_21, .int .i64 x456005_21] 58 (0, 0))) := ⟨by rw [← hq_]; exact (by (with_reducible repeat (first | refine blk_drewN ?_ _)); exact BK455.out)⟩; have n2_ : Aside0 (w56.heap[gb456]? = some (.cells #[.int .u64 t461, .int .u64 t462, .int .i64 x457002_12, .int .u32 t459, .int .u32 t460, .int .i64 0] 58 (0, 0))) := ⟨by rw [← hq_]; exact (by (with_reducible repeat (first | refine blk_drewN ?_ _)); exact BK456.out)⟩; have n3_ : Aside0 (w56.heap[gb464]? = some (.cells #[.int .u64 t461, .int .u64 t462] 54 (0, 0))) := ⟨by rw [← hq_]; exact (by (with_reducible repeat (first | refine blk_drewN ?_ _)); exact BK464.out)⟩; have n4_ : Aside0 (Below w.heap.size w w56) := ⟨by rw [← hq_]; exact (by repeat (first | (with_reducible first | exact HB.out | apply pw_below_drewN)))⟩; clear HO469 BK455 BK456 BK464 HB hq_; have HO469 := n0_; have BK455 := n1_; have BK456 := n2_; have BK464 := n3_; have HB := n4_; clear n0_ n1_ n2_ n3_ n4_)); have hnb58 := NB455_456.out; have hnc58 := NB456_455.out; have hnb59 := NB455_464.out; have hnc59 := NB464_455.out; have hz60 := bz6_ BK455))
     refine bodyPost_ret (results_ct rfl _ _ gb455 58 #[.int .u64 0, .int .u64 0, .int .i64 0, .int .u32 0, .int .u32 0, .int .i64 0] (0, 0) _ rfl (by refine blk_put (cs := #[.int .u64 0, .int .u64 0, .int .i64 0, .int .u32 0, .int .u32 0, .int .i64 x456005_21]) ?_ 5 _ rfl; refine blk_put (cs := #[.int .u64 0, .int .u64 0, .int .i64 0, .int .u32 0, .int .u32 x456004_21, .int .i64 x456005_21]) ?_ 4 _ rfl; refine blk_put (cs := #[.int .u64 0, .int .u64 0, .int .i64 0, .int .u32 x456003_21, .int .u32 x456004_21, .int .i64 x456005_21]) ?_ 3 _ rfl; refine blk_put (cs := #[.int .u64 0, .int .u64 0, .int .i64 x456002_21, .int .u32 x456003_21, .int .u32 x456004_21, .int .i64 x456005_21]) ?_ 2 _ rfl; refine blk_put (cs := #[.int .u64 0, .int .u64 x456001_21, .int .i64 x456002_21, .int .u32 x456003_21, .int .u32 x456004_21, .int .i64 x456005_21]) ?_ 1 _ rfl; refine blk_put (cs := #[.int .u64 x456000_21, .int .u64 x456001_21, .int .i64 x456002_21, .int .u32 x456003_21, .int .u32 x456004_21, .int .i64 x456005_21]) ?_ 0 _ rfl; exact BK455.out) Try.underlying58 rfl (by kernel_rfl)) rfl ?_
     exact ⟨by rfl, by repeat (first | (with_reducible first | exact HB.out | refine below_set ?_ GE455.out))⟩
    rw [if_neg c46] at H
    have c46b0 : (t467 == 0) = false := beq_eq_false_iff_ne.mpr c46
    have c46b1 : (t467 != 0) = true := bne_iff_ne.mpr c46
    simp only [Option.some.injEq, Prod.mk.injEq] at H
    obtain ⟨rfl, rfl, rfl, rfl, rfl, rfl, rfl⟩ := H
    go_wp2_with (first | ((with_reducible refine gate_callee (f := 31) rfl ?_); refine goesL_ (some 67) rfl rfl Try.func31 (by kernel_rfl) rfl #[.string (a1.extract (x7_2 : Int).toNat a1.size)] rfl (by (try simp only [List.map_toArray, List.map_cons, List.map_nil]); first | rfl) ?_; (with_reducible refine (tenancyref15_Parse.calls kj21 (a1.extract (x7_2 : Int).toNat a1.size) t466 t467 _ A45.out).mono ?_); rintro e w61 ⟨v468, rfl, ho0, hb⟩; refine ⟨_, rfl, ?_⟩; have HO469 := ak_ (Kd.R_lower ho0 (below_size HB.out)); replace BK455 := bb_ BK455 hb; replace BK456 := bb_ BK456 hb; replace BK464 := bb_ BK464 hb; replace HB := bs_ HB hb; (try clear hb); (try clear ho0); have hnb62 := NB455_456.out; have hnc62 := NB456_455.out; have hnb63 := NB455_464.out; have hnc63 := NB464_455.out; have hz64 := bz6_ BK455))
    refine bodyPost_ret (results_ct rfl _ _ gb455 58 #[.int .u64 0, .int .u64 0, .int .i64 0, .int .u32 0, .int .u32 0, .int .i64 0] (0, 0) _ rfl (by refine blk_put (cs := #[.int .u64 0, .int .u64 0, .int .i64 0, .int .u32 0, .int .u32 0, .int .i64 x456005_21]) ?_ 5 _ rfl; refine blk_put (cs := #[.int .u64 0, .int .u64 0, .int .i64 0, .int .u32 0, .int .u32 x456004_21, .int .i64 x456005_21]) ?_ 4 _ rfl; refine blk_put (cs := #[.int .u64 0, .int .u64 0, .int .i64 0, .int .u32 x456003_21, .int .u32 x456004_21, .int .i64 x456005_21]) ?_ 3 _ rfl; refine blk_put (cs := #[.int .u64 0, .int .u64 0, .int .i64 x456002_21, .int .u32 x456003_21, .int .u32 x456004_21, .int .i64 x456005_21]) ?_ 2 _ rfl; refine blk_put (cs := #[.int .u64 0, .int .u64 x456001_21, .int .i64 x456002_21, .int .u32 x456003_21, .int .u32 x456004_21, .int .i64 x456005_21]) ?_ 1 _ rfl; refine blk_put (cs := #[.int .u64 x456000_21, .int .u64 x456001_21, .int .i64 x456002_21, .int .u32 x456003_21, .int .u32 x456004_21, .int .i64 x456005_21]) ?_ 0 _ rfl; exact BK455.out) Try.underlying58 rfl (by kernel_rfl)) rfl ?_
    exact ⟨by rfl, by repeat (first | (with_reducible first | exact HB.out | refine below_set ?_ GE455.out))⟩
   rw [if_neg c44] at H
   exact absurd H (by simp)
  rw [if_neg c43] at H
  exact absurd H (by simp)
 replace c10 := Bool.eq_false_iff.mpr c10
 subst c10
 have H1 : (some (0, 0, 0, 0, 0, 0, 3)) = some (r1, r2, r3, r4, r5, r6, r7) := by rw [if_neg (show ¬ (false = true) by decide)] at H; exact H
 clear H
 have H := H1
 clear H1
 simp only [Option.some.injEq, Prod.mk.injEq] at H
 obtain ⟨rfl, rfl, rfl, rfl, rfl, rfl, rfl⟩ := H
 go_wp2_with (first | ((with_reducible refine gate_callee (f := 84) rfl ?_); refine goesL_ (some 23) rfl rfl Try.func84 (by kernel_rfl) rfl #[.string a1, .int .i64 0, .int .i64 x7_2] rfl (by (try simp only [List.map_toArray, List.map_cons, List.map_nil]); first | rfl) ?_; (with_reducible refine (tenancyref04_Cut.calls a1 0 x7_2 t457 false _ A9.out).mono ?_); rintro e w' ⟨rfl, ⟨nd, rfl⟩⟩; refine ⟨_, rfl, ?_⟩; (try (rw [drewN_self wc]; generalize hq_ : World.drewN wc _ = wc; have n0_ : Aside0 (wc.heap[gb455]? = some (.cells #[.int .u64 0, .int .u64 0, .int .i64 0, .int .u32 0, .int .u32 0, .int .i64 0] 58 (0, 0))) := ⟨by rw [← hq_]; exact (by (with_reducible repeat (first | refine blk_drewN ?_ _)); exact BK455.out)⟩; have n1_ : Aside0 (wc.heap[gb456]? = some (.cells #[.int .u64 0, .int .u64 0, .int .i64 0, .int .u32 0, .int .u32 0, .int .i64 0] 58 (0, 0))) := ⟨by rw [← hq_]; exact (by (with_reducible repeat (first | refine blk_drewN ?_ _)); exact BK456.out)⟩; have n2_ : Aside0 (Below w.heap.size w wc) := ⟨by rw [← hq_]; exact (by repeat (first | (with_reducible first | exact HB.out | apply pw_below_drewN)))⟩; clear BK455 BK456 HB hq_; have BK455 := n0_; have BK456 := n1_; have HB := n2_; clear n0_ n1_ n2_)); have hnb65 := NB456_455.out; have hnc65 := NB455_456.out; have hz66 := bz6_ BK456; have hz67 := bz6_ BK455))
 refine bodyPost_ret (results_ct rfl _ _ gb455 58 #[.int .u64 0, .int .u64 0, .int .i64 0, .int .u32 0, .int .u32 0, .int .i64 0] (0, 0) _ rfl (by refine blk_put (cs := #[.int .u64 0, .int .u64 0, .int .i64 0, .int .u32 0, .int .u32 0, .int .i64 0]) ?_ 5 _ rfl; refine blk_put (cs := #[.int .u64 0, .int .u64 0, .int .i64 0, .int .u32 0, .int .u32 0, .int .i64 0]) ?_ 4 _ rfl; refine blk_put (cs := #[.int .u64 0, .int .u64 0, .int .i64 0, .int .u32 0, .int .u32 0, .int .i64 0]) ?_ 3 _ rfl; refine blk_put (cs := #[.int .u64 0, .int .u64 0, .int .i64 0, .int .u32 0, .int .u32 0, .int .i64 0]) ?_ 2 _ rfl; refine blk_put (cs := #[.int .u64 0, .int .u64 0, .int .i64 0, .int .u32 0, .int .u32 0, .int .i64 0]) ?_ 1 _ rfl; refine blk_put (cs := #[.int .u64 0, .int .u64 0, .int .i64 0, .int .u32 0, .int .u32 0, .int .i64 0]) ?_ 0 _ rfl; exact BK455.out) Try.underlying58 rfl (by kernel_rfl)) rfl ?_
 exact ⟨by rfl, by repeat (first | (with_reducible first | exact HB.out | refine below_set ?_ GE455.out))⟩

end Go.Proofs.Ythadapbekmmgpaa.X
