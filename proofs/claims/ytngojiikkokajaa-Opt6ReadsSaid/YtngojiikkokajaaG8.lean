/- Functions of the program as Lean functions, and that the calls come to them: no condition.  By this session's own program (wip/xprint). -/
import Derived.Test.YtngojiikkokajaaG0
import Derived.Test.YtngojiikkokajaaG1
namespace Go.Proofs.Ytngojiikkokajaa.X
open Go.RowKit Go.Proofs.YtngojiikkokajaaW.PrintWords Go.Proofs.YtngojiikkokajaaW.PrintLast Go.Proofs.YtngojiikkokajaaW.PrintMore
attribute [local go_sem] max2_int min2_int max_two min_two max_three min_three max_four min_four   -- for this text's walks alone
set_option linter.unusedVariables false
set_option linter.unusedSimpArgs false
attribute [local go_sem high] eqA40 eqA74
/-! ### tenancyref01_bit: function 84 -/
def tenancyref01_bit.f (a0_0 : Int) (a0_1 : Int) (a1 : Int) : Option (Int) := if a1 < 64 then (if 0 ≤ (IntKind.u64.wrap (wrap64 (63 - a1))) then (some (Go.bits .and .u64 (shr .u64 a0_0 (IntKind.u64.wrap (wrap64 (63 - a1)))) 1)) else (none)) else (if 0 ≤ (IntKind.u64.wrap (wrap64 (127 - a1))) then (some (Go.bits .and .u64 (shr .u64 a0_1 (IntKind.u64.wrap (wrap64 (127 - a1)))) 1)) else (none))
set_option maxHeartbeats 8000000 in
set_option maxRecDepth 100000 in
theorem tenancyref01_bit.calls (a0_0 : Int) (a0_1 : Int) (a1 : Int) (r : Int) (w : World) (h : tenancyref01_bit.f a0_0 a0_1 a1 = some r) :
    Calls Try.prog 84 #[.agg #[.int .u64 a0_0, .int .u64 a0_1], .int .i64 a1] w fun e w' => e = .returned (.int .u64 r) ∧ Below w.heap.size w w' := by
  have hu72 := Try.underlying72
  have HB := Aside0.mk (Below.refl w.heap.size w)
  have H : (if a1 < 64 then (if 0 ≤ (IntKind.u64.wrap (wrap64 (63 - a1))) then (some (Go.bits .and .u64 (shr .u64 a0_0 (IntKind.u64.wrap (wrap64 (63 - a1)))) 1)) else (none)) else (if 0 ≤ (IntKind.u64.wrap (wrap64 (127 - a1))) then (some (Go.bits .and .u64 (shr .u64 a0_1 (IntKind.u64.wrap (wrap64 (127 - a1)))) 1)) else (none))) = some r := h
  clear h
  by_cases c3 : a1 < 64
  · rw [if_pos c3] at H
    have c3b0 : decide (a1 < 64) = true := decide_eq_true c3
    clear c3
    obtain ⟨ji4, hji4⟩ : ∃ j_ : Int, (IntKind.u64.wrap (wrap64 (63 - a1))) = j_ := ⟨_, rfl⟩
    replace H : (if 0 ≤ (ji4) then (some (Go.bits .and .u64 (shr .u64 a0_0 (ji4)) 1)) else (none)) = some r := by first | (rw [hji4] at H; exact H)
    by_cases c5 : 0 ≤ (ji4)
    · rw [if_pos c5] at H
      have c5b0 := eq_true c5
      have c5b1 : decide (0 ≤ (ji4)) = true := decide_eq_true c5
      clear c5
      obtain ⟨ji6, hji6⟩ : ∃ j_ : Int, (shr .u64 a0_0 (ji4)) = j_ := ⟨_, rfl⟩
      replace H : (some (Go.bits .and .u64 (ji6) 1)) = some r := by first | (rw [hji6] at H; exact H)
      have hji6_ : (a0_0 / 2 ^ min (ji4).toNat 64) = ji6 := hji6
      have hji6z : (ji4) ≤ 64 → (a0_0 / 2 ^ (ji4).toNat) = ji6 := shr_small hji6
      obtain rfl := Option.some.inj H
      go_enter Try.func84, Try.ntmps84
      go_wp2_with (first | ((with_reducible refine gate_dst (N := 2) rfl ?_); refine box_event ?hg (N := 2) ?hd (cs := #[.int .u64 a0_0, .int .u64 a0_1]) (t := 72) ?hr ?_; (case hd => rfl); (case hg => rfl); (case hr => go_simp; done); intro gb281 hg w7 hbox hb; have n0_ := Aside0.mk (below_step HB.out hb); have n1_ := Aside0.mk (hbox); have n2_ := Aside0.mk ((by rw [hg]; exact (below_size HB.out) : w.heap.size ≤ gb281)); have n3_ := Aside0.mk ((by rw [hg]; exact (below_size HB.out) : w.heap.size ≤ gb281)); clear HB; have HB := n0_; have BK281 := n1_; have GW281 := n2_; have GE281 := n3_; clear n0_ n1_ n2_ n3_; clear hb hbox hg; obtain ⟨hcz8_0, hcz8_1⟩ := XRun.bc2 BK281.out; obtain ⟨hfz8_0, hfz8_1⟩ := XRun.bf2 BK281.out))
      go_ret
      exact ⟨by rfl, by exact HB.out⟩
    · rw [if_neg c5] at H
      exact absurd H (by simp)
  · rw [if_neg c3] at H
    have c3b0 : decide (a1 < 64) = false := decide_eq_false c3
    clear c3
    obtain ⟨ji9, hji9⟩ : ∃ j_ : Int, (IntKind.u64.wrap (wrap64 (127 - a1))) = j_ := ⟨_, rfl⟩
    replace H : (if 0 ≤ (ji9) then (some (Go.bits .and .u64 (shr .u64 a0_1 (ji9)) 1)) else (none)) = some r := by first | (rw [hji9] at H; exact H)
    by_cases c10 : 0 ≤ (ji9)
    · rw [if_pos c10] at H
      have c10b0 := eq_true c10
      have c10b1 : decide (0 ≤ (ji9)) = true := decide_eq_true c10
      clear c10
      obtain ⟨ji11, hji11⟩ : ∃ j_ : Int, (shr .u64 a0_1 (ji9)) = j_ := ⟨_, rfl⟩
      replace H : (some (Go.bits .and .u64 (ji11) 1)) = some r := by first | (rw [hji11] at H; exact H)
      have hji11_ : (a0_1 / 2 ^ min (ji9).toNat 64) = ji11 := hji11
      have hji11z : (ji9) ≤ 64 → (a0_1 / 2 ^ (ji9).toNat) = ji11 := shr_small hji11
      obtain rfl := Option.some.inj H
      go_enter Try.func84, Try.ntmps84
      go_wp2_with (first | ((with_reducible refine gate_dst (N := 2) rfl ?_); refine box_event ?hg (N := 2) ?hd (cs := #[.int .u64 a0_0, .int .u64 a0_1]) (t := 72) ?hr ?_; (case hd => rfl); (case hg => rfl); (case hr => go_simp; done); intro gb281 hg w12 hbox hb; have n0_ := Aside0.mk (below_step HB.out hb); have n1_ := Aside0.mk (hbox); have n2_ := Aside0.mk ((by rw [hg]; exact (below_size HB.out) : w.heap.size ≤ gb281)); have n3_ := Aside0.mk ((by rw [hg]; exact (below_size HB.out) : w.heap.size ≤ gb281)); clear HB; have HB := n0_; have BK281 := n1_; have GW281 := n2_; have GE281 := n3_; clear n0_ n1_ n2_ n3_; clear hb hbox hg; obtain ⟨hcz13_0, hcz13_1⟩ := XRun.bc2 BK281.out; obtain ⟨hfz13_0, hfz13_1⟩ := XRun.bf2 BK281.out))
      go_ret
      exact ⟨by rfl, by exact HB.out⟩
    · rw [if_neg c10] at H
      exact absurd H (by simp)

/-! ### tenancyref01_with: function 85 -/
def tenancyref01_with.f (a0_0 : Int) (a0_1 : Int) (a1 : Int) : Option (Int × Int) := if a1 < 64 then (if 0 ≤ (IntKind.u64.wrap (wrap64 (63 - a1))) then (some (Go.bits .or .u64 a0_0 (shl .u64 1 (IntKind.u64.wrap (wrap64 (63 - a1)))), a0_1)) else (none)) else (if 0 ≤ (IntKind.u64.wrap (wrap64 (127 - a1))) then (some (a0_0, Go.bits .or .u64 a0_1 (shl .u64 1 (IntKind.u64.wrap (wrap64 (127 - a1)))))) else (none))
set_option maxHeartbeats 8000000 in
set_option maxRecDepth 100000 in
theorem tenancyref01_with.calls (a0_0 : Int) (a0_1 : Int) (a1 : Int) (r1 : Int) (r2 : Int) (w : World) (h : tenancyref01_with.f a0_0 a0_1 a1 = some (r1, r2)) :
    Calls Try.prog 85 #[.agg #[.int .u64 a0_0, .int .u64 a0_1], .int .i64 a1] w fun e w' => e = .returned (.agg #[.int .u64 r1, .int .u64 r2]) ∧ Below w.heap.size w w' := by
  have hu72 := Try.underlying72
  have HB := Aside0.mk (Below.refl w.heap.size w)
  have H : (if a1 < 64 then (if 0 ≤ (IntKind.u64.wrap (wrap64 (63 - a1))) then (some (Go.bits .or .u64 a0_0 (shl .u64 1 (IntKind.u64.wrap (wrap64 (63 - a1)))), a0_1)) else (none)) else (if 0 ≤ (IntKind.u64.wrap (wrap64 (127 - a1))) then (some (a0_0, Go.bits .or .u64 a0_1 (shl .u64 1 (IntKind.u64.wrap (wrap64 (127 - a1)))))) else (none))) = some (r1, r2) := h
  clear h
  by_cases c3 : a1 < 64
  · rw [if_pos c3] at H
    have c3b0 : decide (a1 < 64) = true := decide_eq_true c3
    clear c3
    obtain ⟨ji4, hji4⟩ : ∃ j_ : Int, (IntKind.u64.wrap (wrap64 (63 - a1))) = j_ := ⟨_, rfl⟩
    replace H : (if 0 ≤ (ji4) then (some (Go.bits .or .u64 a0_0 (shl .u64 1 (ji4)), a0_1)) else (none)) = some (r1, r2) := by first | (rw [hji4] at H; exact H)
    by_cases c5 : 0 ≤ (ji4)
    · rw [if_pos c5] at H
      have c5b0 := eq_true c5
      have c5b1 : decide (0 ≤ (ji4)) = true := decide_eq_true c5
      clear c5
      obtain ⟨ji6, hji6⟩ : ∃ j_ : Int, (shl .u64 1 (ji4)) = j_ := ⟨_, rfl⟩
      replace H : (some (Go.bits .or .u64 a0_0 (ji6), a0_1)) = some (r1, r2) := by first | (rw [hji6] at H; exact H)
      have hji6_ : (IntKind.u64.wrap (1 * 2 ^ min (ji4).toNat 64)) = ji6 := hji6
      have hji6z : (ji4) ≤ 64 → (IntKind.u64.wrap (1 * 2 ^ (ji4).toNat)) = ji6 := shl_small hji6
      have hji6u : (IntKind.u64.wrap (2 ^ min (ji4).toNat 64)) = ji6 := by have h_ := hji6_; rw [Int.one_mul] at h_; exact h_
      have hji6v : (ji4) ≤ 64 → (IntKind.u64.wrap (2 ^ (ji4).toNat)) = ji6 := fun hle_ => by have h_ := hji6z hle_; rw [Int.one_mul] at h_; exact h_
      simp only [Option.some.injEq, Prod.mk.injEq] at H
      obtain ⟨rfl, rfl⟩ := H
      go_enter Try.func85, Try.ntmps85
      go_wp2_with (first | ((with_reducible refine gate_dst (N := 2) rfl ?_); refine box_event ?hg (N := 2) ?hd (cs := #[.int .u64 a0_0, .int .u64 a0_1]) (t := 72) ?hr ?_; (case hd => rfl); (case hg => rfl); (case hr => go_simp; done); intro gb282 hg w7 hbox hb; have n0_ := Aside0.mk (below_step HB.out hb); have n1_ := Aside0.mk (hbox); have n2_ := Aside0.mk ((by rw [hg]; exact (below_size HB.out) : w.heap.size ≤ gb282)); have n3_ := Aside0.mk ((by rw [hg]; exact (below_size HB.out) : w.heap.size ≤ gb282)); clear HB; have HB := n0_; have BK282 := n1_; have GW282 := n2_; have GE282 := n3_; clear n0_ n1_ n2_ n3_; clear hb hbox hg) | ((with_reducible refine gate_dst (N := 4) rfl ?_); refine box_event ?hg (N := 4) ?hd (cs := #[.int .u64 0, .int .u64 0]) (t := 72) ?hr ?_; (case hd => rfl); (case hg => rfl); (case hr => go_simp; done); intro gb283 hg w8 hbox hb; have n0_ := Aside0.mk (blk_below (g := gb282) (o := .cells #[.int .u64 a0_0, .int .u64 a0_1] 72 (0, 0)) BK282.out hb); have n1_ := Aside0.mk (below_step HB.out hb); have n2_ := Aside0.mk (hbox); have n3_ := Aside0.mk ((by rw [hg]; exact (below_size HB.out) : w.heap.size ≤ gb283)); have n4_ := Aside0.mk ((by rw [hg]; exact (below_size HB.out) : w.heap.size ≤ gb283)); have n5_ := Aside0.mk ((by rw [hg]; exact Nat.ne_of_lt (blk_lt (g := gb282) (o := .cells #[.int .u64 a0_0, .int .u64 a0_1] 72 (0, 0)) BK282.out) : gb282 ≠ gb283)); have n6_ := Aside0.mk ((by rw [hg]; exact Nat.ne_of_gt (blk_lt (g := gb282) (o := .cells #[.int .u64 a0_0, .int .u64 a0_1] 72 (0, 0)) BK282.out) : gb283 ≠ gb282)); clear BK282; clear HB; have BK282 := n0_; have HB := n1_; have BK283 := n2_; have GW283 := n3_; have GE283 := n4_; have NB282_283 := n5_; have NB283_282 := n6_; clear n0_ n1_ n2_ n3_ n4_ n5_ n6_; clear hb hbox hg; have hnb9 := NB282_283.out; have hnc9 := NB283_282.out; obtain ⟨hcz10_0, hcz10_1⟩ := XRun.bc2 BK282.out; obtain ⟨hfz10_0, hfz10_1⟩ := XRun.bf2 BK282.out; obtain ⟨hcz11_0, hcz11_1⟩ := XRun.bc2 BK283.out; obtain ⟨hfz11_0, hfz11_1⟩ := XRun.bf2 BK283.out))
      refine bodyPost_ret (results_cell_row rfl _ _ gb283 72 #[.int .u64 (Go.bits .or .u64 a0_0 (ji6)), .int .u64 a0_1] (0, 0) _ rfl (by refine blk_put (cs := #[.int .u64 (Go.bits .or .u64 a0_0 (ji6)), .int .u64 0]) ?_ 1 _ rfl; refine blk_put (cs := #[.int .u64 0, .int .u64 0]) ?_ 0 _ rfl; refine blk_far ?_ NB283_282.out _; exact BK283.out) Try.underlying72 rfl (by kernel_rfl)) rfl ?_
      exact ⟨by rfl, by repeat (first | (with_reducible first | exact HB.out | refine below_set ?_ GE282.out | refine below_set ?_ GE283.out))⟩
    · rw [if_neg c5] at H
      exact absurd H (by simp)
  · rw [if_neg c3] at H
    have c3b0 : decide (a1 < 64) = false := decide_eq_false c3
    clear c3
    obtain ⟨ji12, hji12⟩ : ∃ j_ : Int, (IntKind.u64.wrap (wrap64 (127 - a1))) = j_ := ⟨_, rfl⟩
    replace H : (if 0 ≤ (ji12) then (some (a0_0, Go.bits .or .u64 a0_1 (shl .u64 1 (ji12)))) else (none)) = some (r1, r2) := by first | (rw [hji12] at H; exact H)
    by_cases c13 : 0 ≤ (ji12)
    · rw [if_pos c13] at H
      have c13b0 := eq_true c13
      have c13b1 : decide (0 ≤ (ji12)) = true := decide_eq_true c13
      clear c13
      obtain ⟨ji14, hji14⟩ : ∃ j_ : Int, (shl .u64 1 (ji12)) = j_ := ⟨_, rfl⟩
      replace H : (some (a0_0, Go.bits .or .u64 a0_1 (ji14))) = some (r1, r2) := by first | (rw [hji14] at H; exact H)
      have hji14_ : (IntKind.u64.wrap (1 * 2 ^ min (ji12).toNat 64)) = ji14 := hji14
      have hji14z : (ji12) ≤ 64 → (IntKind.u64.wrap (1 * 2 ^ (ji12).toNat)) = ji14 := shl_small hji14
      have hji14u : (IntKind.u64.wrap (2 ^ min (ji12).toNat 64)) = ji14 := by have h_ := hji14_; rw [Int.one_mul] at h_; exact h_
      have hji14v : (ji12) ≤ 64 → (IntKind.u64.wrap (2 ^ (ji12).toNat)) = ji14 := fun hle_ => by have h_ := hji14z hle_; rw [Int.one_mul] at h_; exact h_
      simp only [Option.some.injEq, Prod.mk.injEq] at H
      obtain ⟨rfl, rfl⟩ := H
      go_enter Try.func85, Try.ntmps85
      go_wp2_with (first | ((with_reducible refine gate_dst (N := 2) rfl ?_); refine box_event ?hg (N := 2) ?hd (cs := #[.int .u64 a0_0, .int .u64 a0_1]) (t := 72) ?hr ?_; (case hd => rfl); (case hg => rfl); (case hr => go_simp; done); intro gb282 hg w15 hbox hb; have n0_ := Aside0.mk (below_step HB.out hb); have n1_ := Aside0.mk (hbox); have n2_ := Aside0.mk ((by rw [hg]; exact (below_size HB.out) : w.heap.size ≤ gb282)); have n3_ := Aside0.mk ((by rw [hg]; exact (below_size HB.out) : w.heap.size ≤ gb282)); clear HB; have HB := n0_; have BK282 := n1_; have GW282 := n2_; have GE282 := n3_; clear n0_ n1_ n2_ n3_; clear hb hbox hg) | ((with_reducible refine gate_dst (N := 4) rfl ?_); refine box_event ?hg (N := 4) ?hd (cs := #[.int .u64 0, .int .u64 0]) (t := 72) ?hr ?_; (case hd => rfl); (case hg => rfl); (case hr => go_simp; done); intro gb283 hg w16 hbox hb; have n0_ := Aside0.mk (blk_below (g := gb282) (o := .cells #[.int .u64 a0_0, .int .u64 a0_1] 72 (0, 0)) BK282.out hb); have n1_ := Aside0.mk (below_step HB.out hb); have n2_ := Aside0.mk (hbox); have n3_ := Aside0.mk ((by rw [hg]; exact (below_size HB.out) : w.heap.size ≤ gb283)); have n4_ := Aside0.mk ((by rw [hg]; exact (below_size HB.out) : w.heap.size ≤ gb283)); have n5_ := Aside0.mk ((by rw [hg]; exact Nat.ne_of_lt (blk_lt (g := gb282) (o := .cells #[.int .u64 a0_0, .int .u64 a0_1] 72 (0, 0)) BK282.out) : gb282 ≠ gb283)); have n6_ := Aside0.mk ((by rw [hg]; exact Nat.ne_of_gt (blk_lt (g := gb282) (o := .cells #[.int .u64 a0_0, .int .u64 a0_1] 72 (0, 0)) BK282.out) : gb283 ≠ gb282)); clear BK282; clear HB; have BK282 := n0_; have HB := n1_; have BK283 := n2_; have GW283 := n3_; have GE283 := n4_; have NB282_283 := n5_; have NB283_282 := n6_; clear n0_ n1_ n2_ n3_ n4_ n5_ n6_; clear hb hbox hg; have hnb17 := NB282_283.out; have hnc17 := NB283_282.out; obtain ⟨hcz18_0, hcz18_1⟩ := XRun.bc2 BK282.out; obtain ⟨hfz18_0, hfz18_1⟩ := XRun.bf2 BK282.out; obtain ⟨hcz19_0, hcz19_1⟩ := XRun.bc2 BK283.out; obtain ⟨hfz19_0, hfz19_1⟩ := XRun.bf2 BK283.out))
      refine bodyPost_ret (results_cell_row rfl _ _ gb283 72 #[.int .u64 a0_0, .int .u64 (Go.bits .or .u64 a0_1 (ji14))] (0, 0) _ rfl (by refine blk_put (cs := #[.int .u64 a0_0, .int .u64 0]) ?_ 1 _ rfl; refine blk_put (cs := #[.int .u64 0, .int .u64 0]) ?_ 0 _ rfl; refine blk_far ?_ NB283_282.out _; exact BK283.out) Try.underlying72 rfl (by kernel_rfl)) rfl ?_
      exact ⟨by rfl, by repeat (first | (with_reducible first | exact HB.out | refine below_set ?_ GE282.out | refine below_set ?_ GE283.out))⟩
    · rw [if_neg c13] at H
      exact absurd H (by simp)

/-! ### tenancyref01_Clip: function 73 -/
mutual
def tenancyref01_Clip.j0 : Nat → Int → Bool → Int → Int → Option (Int × Int × Int × Bool)
  | 0, _, _, _, _ => none
  | k + 1, x1, x13, x285000, x285001 => if x13 = true then (some (0, 0, 0, false)) else (tenancyref01_Clip.l0 k x1 0 x285000 x285001 0 0)
def tenancyref01_Clip.l0 : Nat → Int → Int → Int → Int → Int → Int → Option (Int × Int × Int × Bool)
  | 0, _, _, _, _, _, _ => none
  | k + 1, x1, x7, x285000, x285001, x287000, x287001 => if x7 < x1 then ((tenancyref01_bit.f x285000 x285001 x7).bind fun t287 => (if t287 = 1 then ((tenancyref01_with.f x287000 x287001 x7).bind fun bt288 => (tenancyref01_Clip.l0 k x1 (wrap64 (x7 + 1)) x285000 x285001 bt288.1 bt288.2)) else (tenancyref01_Clip.l0 k x1 (wrap64 (x7 + 1)) x285000 x285001 x287000 x287001))) else (some (x287000, x287001, x1, true))
end
def tenancyref01_Clip.f (k : Nat) (a0_0 : Int) (a0_1 : Int) (a1 : Int) : Option (Int × Int × Int × Bool) := if a1 < 0 then (tenancyref01_Clip.j0 k a1 true a0_0 a0_1) else (tenancyref01_Clip.j0 k a1 (decide (a1 > 128)) a0_0 a0_1)
theorem tenancyref01_Clip.mono_l : ∀ k, (∀ y0 y1 y2 y3, LeO (tenancyref01_Clip.j0 k y0 y1 y2 y3) (tenancyref01_Clip.j0 (k + 1) y0 y1 y2 y3)) ∧ (∀ y0 y1 y2 y3 y4 y5, LeO (tenancyref01_Clip.l0 k y0 y1 y2 y3 y4 y5) (tenancyref01_Clip.l0 (k + 1) y0 y1 y2 y3 y4 y5))
  | 0 => ⟨fun _ _ _ _ r h => by simp [tenancyref01_Clip.j0] at h, fun _ _ _ _ _ _ r h => by simp [tenancyref01_Clip.l0] at h⟩
  | k + 1 => by
    obtain ⟨ih0, ih1⟩ := tenancyref01_Clip.mono_l k
    refine ⟨?_, ?_⟩
    · intro y0 y1 y2 y3
      unfold tenancyref01_Clip.j0
      repeat' first
      | (with_reducible exact ih0 _ _ _ _)
      | (with_reducible exact ih1 _ _ _ _ _ _)
      | (with_reducible exact LeO.refl _)
      | (with_reducible exact LeO.none _)
      | (with_reducible refine LeO.ite ?_ ?_)
      | (with_reducible refine LeO.bind ?_ (fun _ => ?_))
      | exact ih0 _ _ _ _
      | exact ih1 _ _ _ _ _ _
      | exact LeO.none _
      | refine LeO.ite ?_ ?_
      | refine LeO.bind ?_ (fun _ => ?_)
    · intro y0 y1 y2 y3 y4 y5
      unfold tenancyref01_Clip.l0
      repeat' first
      | (with_reducible exact ih0 _ _ _ _)
      | (with_reducible exact ih1 _ _ _ _ _ _)
      | (with_reducible exact LeO.refl _)
      | (with_reducible exact LeO.none _)
      | (with_reducible refine LeO.ite ?_ ?_)
      | (with_reducible refine LeO.bind ?_ (fun _ => ?_))
      | exact ih0 _ _ _ _
      | exact ih1 _ _ _ _ _ _
      | exact LeO.none _
      | refine LeO.ite ?_ ?_
      | refine LeO.bind ?_ (fun _ => ?_)
theorem tenancyref01_Clip.mono : ∀ a0 a1 a2 k, LeO (tenancyref01_Clip.f k a0 a1 a2) (tenancyref01_Clip.f (k + 1) a0 a1 a2) := by
  intro a0 a1 a2 k
  obtain ⟨ih0, ih1⟩ := tenancyref01_Clip.mono_l k
  unfold tenancyref01_Clip.f
  repeat' first
      | (with_reducible exact ih0 _ _ _ _)
      | (with_reducible exact ih1 _ _ _ _ _ _)
      | (with_reducible exact LeO.refl _)
      | (with_reducible exact LeO.none _)
      | (with_reducible refine LeO.ite ?_ ?_)
      | (with_reducible refine LeO.bind ?_ (fun _ => ?_))
      | exact ih0 _ _ _ _
      | exact ih1 _ _ _ _ _ _
      | exact LeO.none _
      | refine LeO.ite ?_ ?_
      | refine LeO.bind ?_ (fun _ => ?_)
set_option maxHeartbeats 8000000 in
set_option maxRecDepth 100000 in
theorem tenancyref01_Clip.calls (k : Nat) (a0_0 : Int) (a0_1 : Int) (a1 : Int) (r1 : Int) (r2 : Int) (r3 : Int) (r4 : Bool) (w : World) (h : tenancyref01_Clip.f k a0_0 a0_1 a1 = some (r1, r2, r3, r4)) :
    Calls Try.prog 73 #[.agg #[.int .u64 a0_0, .int .u64 a0_1], .int .i64 a1] w fun e w' => e = .returned (.tuple #[.agg #[.int .u64 r1, .int .u64 r2, .int .i64 r3], .bool r4]) ∧ Below w.heap.size w w' := by
  have hu72 := Try.underlying72
  have hu74 := Try.underlying74
  have HB := Aside0.mk (Below.refl w.heap.size w)
  have H : (if a1 < 0 then (tenancyref01_Clip.j0 k a1 true a0_0 a0_1) else (tenancyref01_Clip.j0 k a1 (decide (a1 > 128)) a0_0 a0_1)) = some (r1, r2, r3, r4) := h
  clear h
  have HC3 := Aside0.mk H
  clear H
  go_enter Try.func73, Try.ntmps73
  go_upto_region 1 with (first | ((with_reducible refine gate_dst (N := 2) rfl ?_); refine box_event ?hg (N := 2) ?hd (cs := #[.int .u64 a0_0, .int .u64 a0_1]) (t := 72) ?hr ?_; (case hd => rfl); (case hg => rfl); (case hr => go_simp; done); intro gb284 hg w4 hbox hb; have n0_ := Aside0.mk (below_step HB.out hb); have n1_ := Aside0.mk (hbox); have n2_ := Aside0.mk ((by rw [hg]; exact (below_size HB.out) : w.heap.size ≤ gb284)); have n3_ := Aside0.mk ((by rw [hg]; exact (below_size HB.out) : w.heap.size ≤ gb284)); clear HB; have HB := n0_; have BK284 := n1_; have GW284 := n2_; have GE284 := n3_; clear n0_ n1_ n2_ n3_; clear hb hbox hg) | ((with_reducible refine gate_dst (N := 4) rfl ?_); refine box_event ?hg (N := 4) ?hd (cs := #[.int .u64 0, .int .u64 0, .int .i64 0]) (t := 74) ?hr ?_; (case hd => rfl); (case hg => rfl); (case hr => go_simp; done); intro gb285 hg w5 hbox hb; have n0_ := Aside0.mk (blk_below (g := gb284) (o := .cells #[.int .u64 a0_0, .int .u64 a0_1] 72 (0, 0)) BK284.out hb); have n1_ := Aside0.mk (below_step HB.out hb); have n2_ := Aside0.mk (hbox); have n3_ := Aside0.mk ((by rw [hg]; exact (below_size HB.out) : w.heap.size ≤ gb285)); have n4_ := Aside0.mk ((by rw [hg]; exact (below_size HB.out) : w.heap.size ≤ gb285)); have n5_ := Aside0.mk ((by rw [hg]; exact Nat.ne_of_lt (blk_lt (g := gb284) (o := .cells #[.int .u64 a0_0, .int .u64 a0_1] 72 (0, 0)) BK284.out) : gb284 ≠ gb285)); have n6_ := Aside0.mk ((by rw [hg]; exact Nat.ne_of_gt (blk_lt (g := gb284) (o := .cells #[.int .u64 a0_0, .int .u64 a0_1] 72 (0, 0)) BK284.out) : gb285 ≠ gb284)); clear BK284; clear HB; have BK284 := n0_; have HB := n1_; have BK285 := n2_; have GW285 := n3_; have GE285 := n4_; have NB284_285 := n5_; have NB285_284 := n6_; clear n0_ n1_ n2_ n3_ n4_ n5_ n6_; clear hb hbox hg))
  (try simp only [Act.put, List.setIfInBounds_toArray, List.set_cons_zero, List.set_cons_succ])
  go_cut [13] (fun v13 wc => ∃ (kq : Nat) (x13_2 : Bool), v13 = .bool x13_2 ∧ Aside0 (tenancyref01_Clip.j0 kq a1 x13_2 a0_0 a0_1 = some (r1, r2, r3, r4)) ∧ Aside0 (kq ≤ k) ∧ Aside0 (wc.heap[gb284]? = some (.cells #[.int .u64 a0_0, .int .u64 a0_1] 72 (0, 0))) ∧ Aside0 (wc.heap[gb285]? = some (.cells #[.int .u64 0, .int .u64 0, .int .i64 0] 74 (0, 0))) ∧ Aside0 (Below w.heap.size w wc))
  case first =>
    have H := HC3.out
    clear HC3
    by_cases c6 : a1 < 0
    · rw [if_pos c6] at H
      have c6b0 : decide (a1 < 0) = true := decide_eq_true c6
      clear c6
      (first | skip)
      have H' := Aside0.mk H
      clear H
      go_wp2
      go_meet
      case rel => exact ⟨_, (true), (by rfl), H', ⟨by omega⟩, ⟨by exact BK284.out⟩, ⟨by exact BK285.out⟩, ⟨by exact HB.out⟩⟩
    · rw [if_neg c6] at H
      have c6b0 : decide (a1 < 0) = false := decide_eq_false c6
      clear c6
      (first | skip)
      have H' := Aside0.mk H
      clear H
      go_wp2
      go_meet
      case rel => exact ⟨_, (decide (a1 > 128)), (by rfl), H', ⟨by omega⟩, ⟨by exact BK284.out⟩, ⟨by exact BK285.out⟩, ⟨by exact HB.out⟩⟩
  case rest =>
    clear HC3
    try clear p2
    try clear c6
    try clear c6b0
    obtain ⟨kq, x13_2, rfl, HA, HJ2, BK284, BK285, HB⟩ := hcut
    cases kq with
    | zero => exact absurd HA.out (by simp [tenancyref01_Clip.j0])
    | succ kj2 =>
      have H := HA.out
      clear HA
      simp only [tenancyref01_Clip.j0] at H
      by_cases c7 : x13_2 = true
      · subst c7
        have H1 : (some (0, 0, 0, false)) = some (r1, r2, r3, r4) := by rw [if_pos rfl] at H; exact H
        clear H
        have H := H1
        clear H1
        simp only [Option.some.injEq, Prod.mk.injEq] at H
        obtain ⟨rfl, rfl, rfl, rfl⟩ := H
        have hnb8 := NB285_284.out
        have hnc8 := NB284_285.out
        obtain ⟨hcz9_0, hcz9_1, hcz9_2⟩ := XRun.bc3 BK285.out
        obtain ⟨hfz9_0, hfz9_1, hfz9_2⟩ := XRun.bf3 BK285.out
        go_wp2
        refine bodyPost_ret (results_ct rfl _ _ gb285 74 #[.int .u64 0, .int .u64 0, .int .i64 0] (0, 0) _ rfl (by refine blk_put (cs := #[.int .u64 0, .int .u64 0, .int .i64 0]) ?_ 2 _ rfl; refine blk_put (cs := #[.int .u64 0, .int .u64 0, .int .i64 0]) ?_ 1 _ rfl; refine blk_put (cs := #[.int .u64 0, .int .u64 0, .int .i64 0]) ?_ 0 _ rfl; exact BK285.out) Try.underlying74 rfl (by kernel_rfl)) rfl ?_
        exact ⟨by rfl, by repeat (first | (with_reducible first | exact HB.out | refine below_set ?_ GE285.out))⟩
      · replace c7 := Bool.eq_false_iff.mpr c7
        subst c7
        have H1 : (tenancyref01_Clip.l0 kj2 a1 0 a0_0 a0_1 0 0) = some (r1, r2, r3, r4) := by rw [if_neg (show ¬ (false = true) by decide)] at H; exact H
        clear H
        have H := H1
        clear H1
        have H' := Aside0.mk H
        clear H
        go_wp2_with (first | ((with_reducible refine gate_dst (N := 6) rfl ?_); refine box_event ?hg (N := 6) ?hd (cs := #[.int .u64 0, .int .u64 0]) (t := 72) ?hr ?_; (case hd => rfl); (case hg => rfl); (case hr => go_simp; done); intro gb286 hg w10 hbox hb; have n0_ := Aside0.mk (blk_below (g := gb284) (o := .cells #[.int .u64 a0_0, .int .u64 a0_1] 72 (0, 0)) BK284.out hb); have n1_ := Aside0.mk (blk_below (g := gb285) (o := .cells #[.int .u64 0, .int .u64 0, .int .i64 0] 74 (0, 0)) BK285.out hb); have n2_ := Aside0.mk (below_step HB.out hb); have n3_ := Aside0.mk (hbox); have n4_ := Aside0.mk ((by rw [hg]; exact (below_size HB.out) : w.heap.size ≤ gb286)); have n5_ := Aside0.mk ((by rw [hg]; exact (below_size HB.out) : w.heap.size ≤ gb286)); have n6_ := Aside0.mk ((by rw [hg]; exact Nat.ne_of_lt (blk_lt (g := gb284) (o := .cells #[.int .u64 a0_0, .int .u64 a0_1] 72 (0, 0)) BK284.out) : gb284 ≠ gb286)); have n7_ := Aside0.mk ((by rw [hg]; exact Nat.ne_of_gt (blk_lt (g := gb284) (o := .cells #[.int .u64 a0_0, .int .u64 a0_1] 72 (0, 0)) BK284.out) : gb286 ≠ gb284)); have n8_ := Aside0.mk ((by rw [hg]; exact Nat.ne_of_lt (blk_lt (g := gb285) (o := .cells #[.int .u64 0, .int .u64 0, .int .i64 0] 74 (0, 0)) BK285.out) : gb285 ≠ gb286)); have n9_ := Aside0.mk ((by rw [hg]; exact Nat.ne_of_gt (blk_lt (g := gb285) (o := .cells #[.int .u64 0, .int .u64 0, .int .i64 0] 74 (0, 0)) BK285.out) : gb286 ≠ gb285)); clear BK284; clear BK285; clear HB; have BK284 := n0_; have BK285 := n1_; have HB := n2_; have BK286 := n3_; have GW286 := n4_; have GE286 := n5_; have NB284_286 := n6_; have NB286_284 := n7_; have NB285_286 := n8_; have NB286_285 := n9_; clear n0_ n1_ n2_ n3_ n4_ n5_ n6_ n7_ n8_ n9_; clear hb hbox hg; have hnb11 := NB286_284.out; have hnc11 := NB284_286.out; have hnb12 := NB286_285.out; have hnc12 := NB285_286.out; obtain ⟨hcz13_0, hcz13_1⟩ := XRun.bc2 BK286.out; obtain ⟨hfz13_0, hfz13_1⟩ := XRun.bf2 BK286.out))
        go_loopg [7] kj2 (fun kq v7 w' => ∃ (x7_2 : Int) (x287000_2 : Int) (x287001_2 : Int), v7 = .int .i64 x7_2 ∧ Aside0 (tenancyref01_Clip.l0 kq a1 x7_2 a0_0 a0_1 x287000_2 x287001_2 = some (r1, r2, r3, r4)) ∧ Aside0 (kq ≤ kj2) ∧ Aside0 (w'.heap[gb284]? = some (.cells #[.int .u64 a0_0, .int .u64 a0_1] 72 (0, 0))) ∧ Aside0 (w'.heap[gb285]? = some (.cells #[.int .u64 0, .int .u64 0, .int .i64 0] 74 (0, 0))) ∧ Aside0 (w'.heap[gb286]? = some (.cells #[.int .u64 x287000_2, .int .u64 x287001_2] 72 (0, 0))) ∧ Aside0 (Below w.heap.size w w'))
        case atStart => exact ⟨(0), (0), (0), (by rfl), H', ⟨Nat.le_refl _⟩, ⟨by refine blk_far ?_ NB284_286.out _; refine blk_far ?_ NB284_286.out _; exact BK284.out⟩, ⟨by refine blk_far ?_ NB285_286.out _; refine blk_far ?_ NB285_286.out _; exact BK285.out⟩, ⟨by refine blk_put (cs := #[.int .u64 0, .int .u64 0]) ?_ 1 _ rfl; refine blk_put (cs := #[.int .u64 0, .int .u64 0]) ?_ 0 _ rfl; exact BK286.out⟩, ⟨by repeat (first | (with_reducible first | exact HB.out | refine below_set ?_ GE286.out))⟩⟩
        case round =>
          clear H'
          try clear c1
          try clear p2
          try clear c6
          try clear c6b0
          try clear c7
          try clear c8
          try clear c11
          try clear c12
          try clear hcz13_0
          try clear hcz13_1
          try clear hcz9_0
          try clear hcz9_1
          try clear hcz9_2
          try clear hfz13_0
          try clear hfz13_1
          try clear hfz9_0
          try clear hfz9_1
          try clear hfz9_2
          try clear p2
          obtain ⟨x7_2, x287000_2, x287001_2, rfl, HA, HK2, BK284, BK285, BK286, HB⟩ := hrel
          cases gk with
          | zero => exact absurd HA.out (by simp [tenancyref01_Clip.l0])
          | succ k2 =>
            have H := HA.out
            clear HA
            simp only [tenancyref01_Clip.l0] at H
            by_cases c14 : x7_2 < a1
            · rw [if_pos c14] at H
              have c14b0 : decide (x7_2 < a1) = true := decide_eq_true c14
              clear c14
              replace H := Option.bind_eq_some_iff.mp H
              obtain ⟨t287, A150, H⟩ := H
              replace H : (if t287 = 1 then ((tenancyref01_with.f x287000_2 x287001_2 x7_2).bind fun bt288 => (tenancyref01_Clip.l0 k2 a1 (wrap64 (x7_2 + 1)) a0_0 a0_1 bt288.1 bt288.2)) else (tenancyref01_Clip.l0 k2 a1 (wrap64 (x7_2 + 1)) a0_0 a0_1 x287000_2 x287001_2)) = some (r1, r2, r3, r4) := H
              have A15 := Aside0.mk A150
              clear A150
              by_cases c16 : t287 = 1
              · rw [if_pos c16] at H
                have c16b0 : (t287 == 1) = true := beq_iff_eq.mpr c16
                have c16b1 : (t287 != 1) = false := bne_eq_false_iff_eq.mpr c16
                clear c16
                replace H := Option.bind_eq_some_iff.mp H
                obtain ⟨⟨t288, t289⟩, A170, H⟩ := H
                replace H : (tenancyref01_Clip.l0 k2 a1 (wrap64 (x7_2 + 1)) a0_0 a0_1 t288 t289) = some (r1, r2, r3, r4) := H
                have A17 := Aside0.mk A170
                clear A170
                have H' := Aside0.mk H
                clear H
                have hnb18 := NB284_285.out
                have hnc18 := NB285_284.out
                have hnb19 := NB284_286.out
                have hnc19 := NB286_284.out
                obtain ⟨hcz20_0, hcz20_1⟩ := XRun.bc2 BK284.out
                obtain ⟨hfz20_0, hfz20_1⟩ := XRun.bf2 BK284.out
                go_wp2_with (first | ((with_reducible refine gate_callee (f := 84) rfl ?_); refine goesL_ (some 23) rfl rfl Try.func84 (by kernel_rfl) rfl #[.agg #[.int .u64 a0_0, .int .u64 a0_1], .int .i64 x7_2] rfl (by (try simp only [List.map_toArray, List.map_cons, List.map_nil]); first | rfl) ?_; (with_reducible refine (tenancyref01_bit.calls a0_0 a0_1 x7_2 t287 _ A15.out).mono ?_); rintro e w21 ⟨rfl, hb⟩; refine ⟨_, rfl, ?_⟩; have n0_ := Aside0.mk (blk_below (g := gb284) (o := .cells #[.int .u64 a0_0, .int .u64 a0_1] 72 (0, 0)) BK284.out hb); have n1_ := Aside0.mk (blk_below (g := gb285) (o := .cells #[.int .u64 0, .int .u64 0, .int .i64 0] 74 (0, 0)) BK285.out hb); have n2_ := Aside0.mk (blk_below (g := gb286) (o := .cells #[.int .u64 x287000_2, .int .u64 x287001_2] 72 (0, 0)) BK286.out hb); have n3_ := Aside0.mk (below_step HB.out hb); clear BK284; clear BK285; clear BK286; clear HB; have BK284 := n0_; have BK285 := n1_; have BK286 := n2_; have HB := n3_; clear n0_ n1_ n2_ n3_; (try clear hb); (try clear hb2); (try clear hk); (try clear hi); have hnb22 := NB286_285.out; have hnc22 := NB285_286.out; obtain ⟨hcz23_0, hcz23_1⟩ := XRun.bc2 BK286.out; obtain ⟨hfz23_0, hfz23_1⟩ := XRun.bf2 BK286.out) | ((with_reducible refine gate_callee (f := 85) rfl ?_); refine goesL_ (some 27) rfl rfl Try.func85 (by kernel_rfl) rfl #[.agg #[.int .u64 x287000_2, .int .u64 x287001_2], .int .i64 x7_2] rfl (by (try simp only [List.map_toArray, List.map_cons, List.map_nil]); first | rfl) ?_; (with_reducible refine (tenancyref01_with.calls x287000_2 x287001_2 x7_2 t288 t289 _ A17.out).mono ?_); rintro e w24 ⟨rfl, hb⟩; refine ⟨_, rfl, ?_⟩; have n0_ := Aside0.mk (blk_below (g := gb284) (o := .cells #[.int .u64 a0_0, .int .u64 a0_1] 72 (0, 0)) BK284.out hb); have n1_ := Aside0.mk (blk_below (g := gb285) (o := .cells #[.int .u64 0, .int .u64 0, .int .i64 0] 74 (0, 0)) BK285.out hb); have n2_ := Aside0.mk (blk_below (g := gb286) (o := .cells #[.int .u64 x287000_2, .int .u64 x287001_2] 72 (0, 0)) BK286.out hb); have n3_ := Aside0.mk (below_step HB.out hb); clear BK284; clear BK285; clear BK286; clear HB; have BK284 := n0_; have BK285 := n1_; have BK286 := n2_; have HB := n3_; clear n0_ n1_ n2_ n3_; (try clear hb); (try clear hb2); (try clear hk); (try clear hi); obtain ⟨hcz25_0, hcz25_1⟩ := XRun.bc2 BK286.out; obtain ⟨hfz25_0, hfz25_1⟩ := XRun.bf2 BK286.out))
                go_roundg k2
                case measure => have := HJ2.out; have := HK2.out; omega
                case rel => exact ⟨(wrap64 (x7_2 + 1)), (t288), (t289), (by rfl), H', ⟨by have := HJ2.out; have := HK2.out; omega⟩, ⟨by refine blk_far ?_ NB284_286.out _; refine blk_far ?_ NB284_286.out _; exact BK284.out⟩, ⟨by refine blk_far ?_ NB285_286.out _; refine blk_far ?_ NB285_286.out _; exact BK285.out⟩, ⟨by refine blk_put (cs := #[.int .u64 t288, .int .u64 x287001_2]) ?_ 1 _ rfl; refine blk_put (cs := #[.int .u64 x287000_2, .int .u64 x287001_2]) ?_ 0 _ rfl; exact BK286.out⟩, ⟨by repeat (first | (with_reducible first | exact HB.out | refine below_set ?_ GE286.out))⟩⟩
              · rw [if_neg c16] at H
                have c16b0 : (t287 == 1) = false := beq_eq_false_iff_ne.mpr c16
                have c16b1 : (t287 != 1) = true := bne_iff_ne.mpr c16
                have H' := Aside0.mk H
                clear H
                have hnb26 := NB284_285.out
                have hnc26 := NB285_284.out
                have hnb27 := NB284_286.out
                have hnc27 := NB286_284.out
                obtain ⟨hcz28_0, hcz28_1⟩ := XRun.bc2 BK284.out
                obtain ⟨hfz28_0, hfz28_1⟩ := XRun.bf2 BK284.out
                go_wp2_with (first | ((with_reducible refine gate_callee (f := 84) rfl ?_); refine goesL_ (some 23) rfl rfl Try.func84 (by kernel_rfl) rfl #[.agg #[.int .u64 a0_0, .int .u64 a0_1], .int .i64 x7_2] rfl (by (try simp only [List.map_toArray, List.map_cons, List.map_nil]); first | rfl) ?_; (with_reducible refine (tenancyref01_bit.calls a0_0 a0_1 x7_2 t287 _ A15.out).mono ?_); rintro e w29 ⟨rfl, hb⟩; refine ⟨_, rfl, ?_⟩; have n0_ := Aside0.mk (blk_below (g := gb284) (o := .cells #[.int .u64 a0_0, .int .u64 a0_1] 72 (0, 0)) BK284.out hb); have n1_ := Aside0.mk (blk_below (g := gb285) (o := .cells #[.int .u64 0, .int .u64 0, .int .i64 0] 74 (0, 0)) BK285.out hb); have n2_ := Aside0.mk (blk_below (g := gb286) (o := .cells #[.int .u64 x287000_2, .int .u64 x287001_2] 72 (0, 0)) BK286.out hb); have n3_ := Aside0.mk (below_step HB.out hb); clear BK284; clear BK285; clear BK286; clear HB; have BK284 := n0_; have BK285 := n1_; have BK286 := n2_; have HB := n3_; clear n0_ n1_ n2_ n3_; (try clear hb); (try clear hb2); (try clear hk); (try clear hi)))
                go_roundg k2
                case measure => have := HJ2.out; have := HK2.out; omega
                case rel => exact ⟨(wrap64 (x7_2 + 1)), (x287000_2), (x287001_2), (by rfl), H', ⟨by have := HJ2.out; have := HK2.out; omega⟩, ⟨by exact BK284.out⟩, ⟨by exact BK285.out⟩, ⟨by exact BK286.out⟩, ⟨by exact HB.out⟩⟩
            · rw [if_neg c14] at H
              have c14b0 : decide (x7_2 < a1) = false := decide_eq_false c14
              clear c14
              simp only [Option.some.injEq, Prod.mk.injEq] at H
              obtain ⟨rfl, rfl, rfl, rfl⟩ := H
              have hnb30 := NB286_284.out
              have hnc30 := NB284_286.out
              have hnb31 := NB286_285.out
              have hnc31 := NB285_286.out
              obtain ⟨hcz32_0, hcz32_1⟩ := XRun.bc2 BK286.out
              obtain ⟨hfz32_0, hfz32_1⟩ := XRun.bf2 BK286.out
              have hnb33 := NB285_284.out
              have hnc33 := NB284_285.out
              obtain ⟨hcz34_0, hcz34_1, hcz34_2⟩ := XRun.bc3 BK285.out
              obtain ⟨hfz34_0, hfz34_1, hfz34_2⟩ := XRun.bf3 BK285.out
              go_wp2
              refine bodyPost_ret (results_ct rfl _ _ gb285 74 #[.int .u64 x287000_2, .int .u64 x287001_2, .int .i64 a1] (0, 0) _ rfl (by refine blk_put (cs := #[.int .u64 x287000_2, .int .u64 x287001_2, .int .i64 0]) ?_ 2 _ rfl; refine blk_put (cs := #[.int .u64 x287000_2, .int .u64 0, .int .i64 0]) ?_ 1 _ rfl; refine blk_put (cs := #[.int .u64 0, .int .u64 0, .int .i64 0]) ?_ 0 _ rfl; exact BK285.out) Try.underlying74 rfl (by kernel_rfl)) rfl ?_
              exact ⟨by rfl, by repeat (first | (with_reducible first | exact HB.out | refine below_set ?_ GE285.out))⟩

/-! ### tenancyref01_Sound: function 50 -/
def tenancyref01_Sound.f (k : Nat) (a0_0 : Int) (a0_1 : Int) (a0_2 : Int) : Option (Bool) := (tenancyref01_Clip.f k a0_0 a0_1 a0_2).bind fun bt291 => (if bt291.2.2.2 = true then (some ((bt291.1 == a0_0 && (bt291.2.1 == a0_1)) && (bt291.2.2.1 == a0_2))) else (some false))
theorem tenancyref01_Sound.mono : ∀ a0 a1 a2 k, LeO (tenancyref01_Sound.f k a0 a1 a2) (tenancyref01_Sound.f (k + 1) a0 a1 a2) := by
  intro a0 a1 a2 k
  unfold tenancyref01_Sound.f
  repeat' first
      | (with_reducible exact tenancyref01_Clip.mono _ _ _ _)
      | (with_reducible exact LeO.refl _)
      | (with_reducible exact LeO.none _)
      | (with_reducible refine LeO.ite ?_ ?_)
      | (with_reducible refine LeO.bind ?_ (fun _ => ?_))
      | exact tenancyref01_Clip.mono _ _ _ _
      | exact LeO.none _
      | refine LeO.ite ?_ ?_
      | refine LeO.bind ?_ (fun _ => ?_)
set_option maxHeartbeats 8000000 in
set_option maxRecDepth 100000 in
theorem tenancyref01_Sound.calls (k : Nat) (a0_0 : Int) (a0_1 : Int) (a0_2 : Int) (r : Bool) (w : World) (h : tenancyref01_Sound.f k a0_0 a0_1 a0_2 = some r) :
    Calls Try.prog 50 #[.agg #[.int .u64 a0_0, .int .u64 a0_1, .int .i64 a0_2]] w fun e w' => e = .returned (.bool r) ∧ Below w.heap.size w w' := by
  have hu74 := Try.underlying74
  have hu72 := Try.underlying72
  have HB := Aside0.mk (Below.refl w.heap.size w)
  have H : ((tenancyref01_Clip.f k a0_0 a0_1 a0_2).bind fun bt291 => (if bt291.2.2.2 = true then (some ((bt291.1 == a0_0 && (bt291.2.1 == a0_1)) && (bt291.2.2.1 == a0_2))) else (some false))) = some r := h
  clear h
  replace H := Option.bind_eq_some_iff.mp H
  obtain ⟨⟨t291, t292, t293, t294⟩, A20, H⟩ := H
  replace H : (if t294 = true then (some ((t291 == a0_0 && (t292 == a0_1)) && (t293 == a0_2))) else (some false)) = some r := H
  have A2 := Aside0.mk A20
  clear A20
  by_cases c3 : t294 = true
  · subst c3
    have H1 : (some ((t291 == a0_0 && (t292 == a0_1)) && (t293 == a0_2))) = some r := by rw [if_pos rfl] at H; exact H
    clear H
    have H := H1
    clear H1
    obtain rfl := Option.some.inj H
    go_enter Try.func50, Try.ntmps50
    go_wp2_with (first | ((with_reducible refine gate_dst (N := 1) rfl ?_); refine box_event ?hg (N := 1) ?hd (cs := #[.int .u64 a0_0, .int .u64 a0_1, .int .i64 a0_2]) (t := 74) ?hr ?_; (case hd => rfl); (case hg => rfl); (case hr => go_simp; done); intro gb290 hg w4 hbox hb; have n0_ := Aside0.mk (below_step HB.out hb); have n1_ := Aside0.mk (hbox); have n2_ := Aside0.mk ((by rw [hg]; exact (below_size HB.out) : w.heap.size ≤ gb290)); have n3_ := Aside0.mk ((by rw [hg]; exact (below_size HB.out) : w.heap.size ≤ gb290)); clear HB; have HB := n0_; have BK290 := n1_; have GW290 := n2_; have GE290 := n3_; clear n0_ n1_ n2_ n3_; clear hb hbox hg; obtain ⟨hcz5_0, hcz5_1, hcz5_2⟩ := XRun.bc3 BK290.out; obtain ⟨hfz5_0, hfz5_1, hfz5_2⟩ := XRun.bf3 BK290.out) | ((with_reducible refine gate_callee (f := 73) rfl ?_); refine goesL_ (some 10) rfl rfl Try.func73 (by kernel_rfl) rfl #[.agg #[.int .u64 a0_0, .int .u64 a0_1], .int .i64 a0_2] rfl (by (try simp only [List.map_toArray, List.map_cons, List.map_nil]); first | rfl) ?_; (with_reducible refine (tenancyref01_Clip.calls k a0_0 a0_1 a0_2 t291 t292 t293 true _ A2.out).mono ?_); rintro e w6 ⟨rfl, hb⟩; refine ⟨_, rfl, ?_⟩; have n0_ := Aside0.mk (blk_below (g := gb290) (o := .cells #[.int .u64 a0_0, .int .u64 a0_1, .int .i64 a0_2] 74 (0, 0)) BK290.out hb); have n1_ := Aside0.mk (below_step HB.out hb); clear BK290; clear HB; have BK290 := n0_; have HB := n1_; clear n0_ n1_; (try clear hb); (try clear hb2); (try clear hk); (try clear hi)) | ((with_reducible refine gate_dst (N := 3) rfl ?_); refine box_event ?hg (N := 3) ?hd (cs := #[.int .u64 0, .int .u64 0, .int .i64 0]) (t := 74) ?hr ?_; (case hd => rfl); (case hg => rfl); (case hr => go_simp; done); intro gb295 hg w7 hbox hb; have n0_ := Aside0.mk (blk_below (g := gb290) (o := .cells #[.int .u64 a0_0, .int .u64 a0_1, .int .i64 a0_2] 74 (0, 0)) BK290.out hb); have n1_ := Aside0.mk (below_step HB.out hb); have n2_ := Aside0.mk (hbox); have n3_ := Aside0.mk ((by rw [hg]; exact (below_size HB.out) : w.heap.size ≤ gb295)); have n4_ := Aside0.mk ((by rw [hg]; exact (below_size HB.out) : w.heap.size ≤ gb295)); have n5_ := Aside0.mk ((by rw [hg]; exact Nat.ne_of_lt (blk_lt (g := gb290) (o := .cells #[.int .u64 a0_0, .int .u64 a0_1, .int .i64 a0_2] 74 (0, 0)) BK290.out) : gb290 ≠ gb295)); have n6_ := Aside0.mk ((by rw [hg]; exact Nat.ne_of_gt (blk_lt (g := gb290) (o := .cells #[.int .u64 a0_0, .int .u64 a0_1, .int .i64 a0_2] 74 (0, 0)) BK290.out) : gb295 ≠ gb290)); clear BK290; clear HB; have BK290 := n0_; have HB := n1_; have BK295 := n2_; have GW295 := n3_; have GE295 := n4_; have NB290_295 := n5_; have NB295_290 := n6_; clear n0_ n1_ n2_ n3_ n4_ n5_ n6_; clear hb hbox hg; have hnb8 := NB295_290.out; have hnc8 := NB290_295.out; obtain ⟨hcz9_0, hcz9_1, hcz9_2⟩ := XRun.bc3 BK295.out; obtain ⟨hfz9_0, hfz9_1, hfz9_2⟩ := XRun.bf3 BK295.out; obtain ⟨hcz10_0, hcz10_1, hcz10_2⟩ := XRun.bc3 BK290.out; obtain ⟨hfz10_0, hfz10_1, hfz10_2⟩ := XRun.bf3 BK290.out))
    go_ret
    exact ⟨by rfl, by repeat (first | (with_reducible first | exact HB.out | refine below_set ?_ GE295.out))⟩
  · replace c3 := Bool.eq_false_iff.mpr c3
    subst c3
    have H1 : (some false) = some r := by rw [if_neg (show ¬ (false = true) by decide)] at H; exact H
    clear H
    have H := H1
    clear H1
    obtain rfl := Option.some.inj H
    go_enter Try.func50, Try.ntmps50
    go_wp2_with (first | ((with_reducible refine gate_dst (N := 1) rfl ?_); refine box_event ?hg (N := 1) ?hd (cs := #[.int .u64 a0_0, .int .u64 a0_1, .int .i64 a0_2]) (t := 74) ?hr ?_; (case hd => rfl); (case hg => rfl); (case hr => go_simp; done); intro gb290 hg w11 hbox hb; have n0_ := Aside0.mk (below_step HB.out hb); have n1_ := Aside0.mk (hbox); have n2_ := Aside0.mk ((by rw [hg]; exact (below_size HB.out) : w.heap.size ≤ gb290)); have n3_ := Aside0.mk ((by rw [hg]; exact (below_size HB.out) : w.heap.size ≤ gb290)); clear HB; have HB := n0_; have BK290 := n1_; have GW290 := n2_; have GE290 := n3_; clear n0_ n1_ n2_ n3_; clear hb hbox hg; obtain ⟨hcz12_0, hcz12_1, hcz12_2⟩ := XRun.bc3 BK290.out; obtain ⟨hfz12_0, hfz12_1, hfz12_2⟩ := XRun.bf3 BK290.out) | ((with_reducible refine gate_callee (f := 73) rfl ?_); refine goesL_ (some 10) rfl rfl Try.func73 (by kernel_rfl) rfl #[.agg #[.int .u64 a0_0, .int .u64 a0_1], .int .i64 a0_2] rfl (by (try simp only [List.map_toArray, List.map_cons, List.map_nil]); first | rfl) ?_; (with_reducible refine (tenancyref01_Clip.calls k a0_0 a0_1 a0_2 t291 t292 t293 false _ A2.out).mono ?_); rintro e w13 ⟨rfl, hb⟩; refine ⟨_, rfl, ?_⟩; have n0_ := Aside0.mk (blk_below (g := gb290) (o := .cells #[.int .u64 a0_0, .int .u64 a0_1, .int .i64 a0_2] 74 (0, 0)) BK290.out hb); have n1_ := Aside0.mk (below_step HB.out hb); clear BK290; clear HB; have BK290 := n0_; have HB := n1_; clear n0_ n1_; (try clear hb); (try clear hb2); (try clear hk); (try clear hi)) | ((with_reducible refine gate_dst (N := 3) rfl ?_); refine box_event ?hg (N := 3) ?hd (cs := #[.int .u64 0, .int .u64 0, .int .i64 0]) (t := 74) ?hr ?_; (case hd => rfl); (case hg => rfl); (case hr => go_simp; done); intro gb295 hg w14 hbox hb; have n0_ := Aside0.mk (blk_below (g := gb290) (o := .cells #[.int .u64 a0_0, .int .u64 a0_1, .int .i64 a0_2] 74 (0, 0)) BK290.out hb); have n1_ := Aside0.mk (below_step HB.out hb); have n2_ := Aside0.mk (hbox); have n3_ := Aside0.mk ((by rw [hg]; exact (below_size HB.out) : w.heap.size ≤ gb295)); have n4_ := Aside0.mk ((by rw [hg]; exact (below_size HB.out) : w.heap.size ≤ gb295)); have n5_ := Aside0.mk ((by rw [hg]; exact Nat.ne_of_lt (blk_lt (g := gb290) (o := .cells #[.int .u64 a0_0, .int .u64 a0_1, .int .i64 a0_2] 74 (0, 0)) BK290.out) : gb290 ≠ gb295)); have n6_ := Aside0.mk ((by rw [hg]; exact Nat.ne_of_gt (blk_lt (g := gb290) (o := .cells #[.int .u64 a0_0, .int .u64 a0_1, .int .i64 a0_2] 74 (0, 0)) BK290.out) : gb295 ≠ gb290)); clear BK290; clear HB; have BK290 := n0_; have HB := n1_; have BK295 := n2_; have GW295 := n3_; have GE295 := n4_; have NB290_295 := n5_; have NB295_290 := n6_; clear n0_ n1_ n2_ n3_ n4_ n5_ n6_; clear hb hbox hg; have hnb15 := NB295_290.out; have hnc15 := NB290_295.out; obtain ⟨hcz16_0, hcz16_1, hcz16_2⟩ := XRun.bc3 BK295.out; obtain ⟨hfz16_0, hfz16_1, hfz16_2⟩ := XRun.bf3 BK295.out))
    go_ret
    exact ⟨by rfl, by repeat (first | (with_reducible first | exact HB.out | refine below_set ?_ GE295.out))⟩

end Go.Proofs.Ytngojiikkokajaa.X
