/- Functions of the program as Lean functions, and that the calls come to them: no condition.  By this session's own program (wip/xprint). -/
import Derived.Test.YtngojiikkokajaaG0
import Derived.Test.YtngojiikkokajaaG7
import Derived.Test.YtngojiikkokajaaG8
import Derived.Test.YtngojiikkokajaaG10
namespace Go.Proofs.Ytngojiikkokajaa.X
open Go.RowKit Go.Proofs.YtngojiikkokajaaW.PrintWords Go.Proofs.YtngojiikkokajaaW.PrintLast Go.Proofs.YtngojiikkokajaaW.PrintMore
attribute [local go_sem] max2_int min2_int max_two min_two max_three min_three max_four min_four   -- for this text's walks alone
set_option linter.unusedVariables false
set_option linter.unusedSimpArgs false
/-! ### tenancyref15_Sound: function 22 -/
mutual
def tenancyref15_Sound.j0 : Nat → Bool → Int → Int → Int → Int → List (S76) → Int → Option (Bool)
  | 0, _, _, _, _, _, _, _ => none
  | k + 1, x39, x297000, x297001, x297002, x297003, x297004, x297005 => if x39 = true then (some false) else (tenancyref15_Sound.l0 k 0 x297000 x297001 x297002 x297003 x297004 x297005)
def tenancyref15_Sound.l0 : Nat → Int → Int → Int → Int → Int → List (S76) → Int → Option (Bool)
  | 0, _, _, _, _, _, _, _ => none
  | k + 1, x3, x297000, x297001, x297002, x297003, x297004, x297005 => if x3 < (x297004.length : Int) then (if 0 ≤ x3 then ((tenancyref15_status.f ((rd_T76 x297004 x3).f3)).bind fun t301 => (if t301 = true then ((tenancyref01_Sound.f k ((rd_T76 x297004 x3).f0.f0.f0) ((rd_T76 x297004 x3).f0.f0.f1) ((rd_T76 x297004 x3).f0.f1)).bind fun t302 => (if t302 = true then (if x297000 = 4 then (tenancyref15_Sound.l0 k (wrap64 (x3 + 1)) x297000 x297001 x297002 x297003 x297004 x297005) else (if ((rd_T76 x297004 x3).f0.f1) = 128 then (tenancyref15_Sound.l0 k (wrap64 (x3 + 1)) x297000 x297001 x297002 x297003 x297004 x297005) else (some false))) else (some false))) else (some false))) else (none)) else (some true)
end
def tenancyref15_Sound.f (k : Nat) (a0_0 : Int) (a0_1 : Int) (a0_2 : Int) (a0_3 : Int) (l0_4 : List (S76)) (a0_5 : Int) : Option (Bool) := if a0_0 < 2 then (tenancyref15_Sound.j0 k true a0_0 a0_1 a0_2 a0_3 l0_4 a0_5) else (if a0_0 > 4 then (tenancyref15_Sound.j0 k true a0_0 a0_1 a0_2 a0_3 l0_4 a0_5) else (if a0_0 = 3 then (if a0_2 = 0 then (if a0_3 = 0 then (if (l0_4.length : Int) > 8 then (tenancyref15_Sound.j0 k true a0_0 a0_1 a0_2 a0_3 l0_4 a0_5) else ((tenancyref15_status.f a0_5).bind fun t297 => (tenancyref15_Sound.j0 k (!t297) a0_0 a0_1 a0_2 a0_3 l0_4 a0_5))) else (tenancyref15_Sound.j0 k true a0_0 a0_1 a0_2 a0_3 l0_4 a0_5)) else (tenancyref15_Sound.j0 k true a0_0 a0_1 a0_2 a0_3 l0_4 a0_5)) else (if (l0_4.length : Int) > 8 then (tenancyref15_Sound.j0 k true a0_0 a0_1 a0_2 a0_3 l0_4 a0_5) else ((tenancyref15_status.f a0_5).bind fun t298 => (tenancyref15_Sound.j0 k (!t298) a0_0 a0_1 a0_2 a0_3 l0_4 a0_5)))))
theorem tenancyref15_Sound.mono_l : ∀ k, (∀ y0 y1 y2 y3 y4 y5 y6, LeO (tenancyref15_Sound.j0 k y0 y1 y2 y3 y4 y5 y6) (tenancyref15_Sound.j0 (k + 1) y0 y1 y2 y3 y4 y5 y6)) ∧ (∀ y0 y1 y2 y3 y4 y5 y6, LeO (tenancyref15_Sound.l0 k y0 y1 y2 y3 y4 y5 y6) (tenancyref15_Sound.l0 (k + 1) y0 y1 y2 y3 y4 y5 y6))
  | 0 => ⟨fun _ _ _ _ _ _ _ r h => by simp [tenancyref15_Sound.j0] at h, fun _ _ _ _ _ _ _ r h => by simp [tenancyref15_Sound.l0] at h⟩
  | k + 1 => by
    obtain ⟨ih0, ih1⟩ := tenancyref15_Sound.mono_l k
    refine ⟨?_, ?_⟩
    · intro y0 y1 y2 y3 y4 y5 y6
      unfold tenancyref15_Sound.j0
      repeat' first
      | (with_reducible exact ih0 _ _ _ _ _ _ _)
      | (with_reducible exact ih1 _ _ _ _ _ _ _)
      | (with_reducible exact tenancyref01_Sound.mono _ _ _ _)
      | (with_reducible exact LeO.refl _)
      | (with_reducible exact LeO.none _)
      | (with_reducible refine LeO.ite ?_ ?_)
      | (with_reducible refine LeO.bind ?_ (fun _ => ?_))
      | exact ih0 _ _ _ _ _ _ _
      | exact ih1 _ _ _ _ _ _ _
      | exact tenancyref01_Sound.mono _ _ _ _
      | exact LeO.none _
      | refine LeO.ite ?_ ?_
      | refine LeO.bind ?_ (fun _ => ?_)
    · intro y0 y1 y2 y3 y4 y5 y6
      unfold tenancyref15_Sound.l0
      repeat' first
      | (with_reducible exact ih0 _ _ _ _ _ _ _)
      | (with_reducible exact ih1 _ _ _ _ _ _ _)
      | (with_reducible exact tenancyref01_Sound.mono _ _ _ _)
      | (with_reducible exact LeO.refl _)
      | (with_reducible exact LeO.none _)
      | (with_reducible refine LeO.ite ?_ ?_)
      | (with_reducible refine LeO.bind ?_ (fun _ => ?_))
      | exact ih0 _ _ _ _ _ _ _
      | exact ih1 _ _ _ _ _ _ _
      | exact tenancyref01_Sound.mono _ _ _ _
      | exact LeO.none _
      | refine LeO.ite ?_ ?_
      | refine LeO.bind ?_ (fun _ => ?_)
theorem tenancyref15_Sound.mono : ∀ a0 a1 a2 a3 a4 a5 k, LeO (tenancyref15_Sound.f k a0 a1 a2 a3 a4 a5) (tenancyref15_Sound.f (k + 1) a0 a1 a2 a3 a4 a5) := by
  intro a0 a1 a2 a3 a4 a5 k
  obtain ⟨ih0, ih1⟩ := tenancyref15_Sound.mono_l k
  unfold tenancyref15_Sound.f
  repeat' first
      | (with_reducible exact ih0 _ _ _ _ _ _ _)
      | (with_reducible exact ih1 _ _ _ _ _ _ _)
      | (with_reducible exact tenancyref01_Sound.mono _ _ _ _)
      | (with_reducible exact LeO.refl _)
      | (with_reducible exact LeO.none _)
      | (with_reducible refine LeO.ite ?_ ?_)
      | (with_reducible refine LeO.bind ?_ (fun _ => ?_))
      | exact ih0 _ _ _ _ _ _ _
      | exact ih1 _ _ _ _ _ _ _
      | exact tenancyref01_Sound.mono _ _ _ _
      | exact LeO.none _
      | refine LeO.ite ?_ ?_
      | refine LeO.bind ?_ (fun _ => ?_)
set_option maxHeartbeats 8000000 in
set_option maxRecDepth 100000 in
theorem tenancyref15_Sound.calls (k : Nat) (a0_0 : Int) (a0_1 : Int) (a0_2 : Int) (a0_3 : Int) (A0_4 : Option Addr) (c0_4 : Nat) (l0_4 : List (S76)) (a0_5 : Int) (r : Bool) (w : World) (hr0_4 : Kd.C k76 w A0_4 l0_4.length l0_4) (hc0_4 : l0_4.length ≤ c0_4) (h : tenancyref15_Sound.f k a0_0 a0_1 a0_2 a0_3 l0_4 a0_5 = some r) :
    Calls Try.prog 22 #[.agg #[.int .i64 a0_0, .int .u32 a0_1, .int .u32 a0_2, .int .u32 a0_3, .slice A0_4 l0_4.length c0_4, .int .i64 a0_5]] w fun e w' => e = .returned (.bool r) ∧ Below w.heap.size w w' := by
  have hu37 := Try.underlying37
  have hu76 := Try.underlying76
  have hu74 := Try.underlying74
  have HR0_4 := Aside0.mk hr0_4
  have HC0_4 := Aside0.mk hc0_4
  clear hr0_4 hc0_4
  have HB := Aside0.mk (Below.refl w.heap.size w)
  have H : (if a0_0 < 2 then (tenancyref15_Sound.j0 k true a0_0 a0_1 a0_2 a0_3 l0_4 a0_5) else (if a0_0 > 4 then (tenancyref15_Sound.j0 k true a0_0 a0_1 a0_2 a0_3 l0_4 a0_5) else (if a0_0 = 3 then (if a0_2 = 0 then (if a0_3 = 0 then (if (l0_4.length : Int) > 8 then (tenancyref15_Sound.j0 k true a0_0 a0_1 a0_2 a0_3 l0_4 a0_5) else ((tenancyref15_status.f a0_5).bind fun t297 => (tenancyref15_Sound.j0 k (!t297) a0_0 a0_1 a0_2 a0_3 l0_4 a0_5))) else (tenancyref15_Sound.j0 k true a0_0 a0_1 a0_2 a0_3 l0_4 a0_5)) else (tenancyref15_Sound.j0 k true a0_0 a0_1 a0_2 a0_3 l0_4 a0_5)) else (if (l0_4.length : Int) > 8 then (tenancyref15_Sound.j0 k true a0_0 a0_1 a0_2 a0_3 l0_4 a0_5) else ((tenancyref15_status.f a0_5).bind fun t298 => (tenancyref15_Sound.j0 k (!t298) a0_0 a0_1 a0_2 a0_3 l0_4 a0_5)))))) = some r := h
  clear h
  have HC2 := Aside0.mk H
  clear H
  go_enter Try.func22, Try.ntmps22
  go_upto_region 1 with (first | ((with_reducible refine gate_dst (N := 1) rfl ?_); (try (refine gate_guard (by rfl) ?_; dsimp only)); refine box_event ?hg (N := 1) ?hd (cs := #[.int .i64 a0_0, .int .u32 a0_1, .int .u32 a0_2, .int .u32 a0_3, .slice A0_4 l0_4.length c0_4, .int .i64 a0_5]) (t := 37) ?hr ?_; (case hd => rfl); (case hg => rfl); (case hr => go_simp; done); intro gb296 hg w3 hbox hb; have n0_ := Aside0.mk (below_step HB.out hb); have n1_ := Aside0.mk (hbox); have n2_ := Aside0.mk ((by rw [hg]; exact (below_size HB.out) : w.heap.size ≤ gb296)); have n3_ := Aside0.mk ((by rw [hg]; exact (below_size HB.out) : w.heap.size ≤ gb296)); clear HB; have HB := n0_; have BK296 := n1_; have GW296 := n2_; have GE296 := n3_; clear n0_ n1_ n2_ n3_; clear hb hbox hg))
  (try simp only [Act.put, List.setIfInBounds_toArray, List.set_cons_zero, List.set_cons_succ])
  go_cut [39] (fun v39 wc => ∃ (kq : Nat) (x39_1 : Bool), v39 = .bool x39_1 ∧ Aside0 (tenancyref15_Sound.j0 kq x39_1 a0_0 a0_1 a0_2 a0_3 l0_4 a0_5 = some r) ∧ Aside0 (kq ≤ k) ∧ Aside0 (wc.heap[gb296]? = some (.cells #[.int .i64 a0_0, .int .u32 a0_1, .int .u32 a0_2, .int .u32 a0_3, (.slice A0_4 l0_4.length c0_4), .int .i64 a0_5] 37 (0, 0))) ∧ Aside0 (Below w.heap.size w wc))
  case first =>
    have H := HC2.out
    clear HC2
    by_cases c4 : a0_0 < 2
    · rw [if_pos c4] at H
      have c4b0 : decide (a0_0 < 2) = true := decide_eq_true c4
      clear c4
      (first | skip)
      have H' := Aside0.mk H
      clear H
      obtain ⟨hcz5_0, hcz5_1, hcz5_2, hcz5_3, hcz5_4, hcz5_5⟩ := XRun.bc6 BK296.out
      obtain ⟨hfz5_0, hfz5_1, hfz5_2, hfz5_3, hfz5_4, hfz5_5⟩ := XRun.bf6 BK296.out
      go_wp2
      go_meet
      case rel => exact ⟨_, (true), (by rfl), H', ⟨by omega⟩, ⟨by exact BK296.out⟩, ⟨by exact HB.out⟩⟩
    · rw [if_neg c4] at H
      have c4b0 : decide (a0_0 < 2) = false := decide_eq_false c4
      clear c4
      (first | skip)
      by_cases c6 : a0_0 > 4
      · rw [if_pos c6] at H
        have c6b0 : decide (4 < a0_0) = true := decide_eq_true c6
        clear c6
        have H' := Aside0.mk H
        clear H
        obtain ⟨hcz7_0, hcz7_1, hcz7_2, hcz7_3, hcz7_4, hcz7_5⟩ := XRun.bc6 BK296.out
        obtain ⟨hfz7_0, hfz7_1, hfz7_2, hfz7_3, hfz7_4, hfz7_5⟩ := XRun.bf6 BK296.out
        go_wp2
        go_meet
        case rel => exact ⟨_, (true), (by rfl), H', ⟨by omega⟩, ⟨by exact BK296.out⟩, ⟨by exact HB.out⟩⟩
      · rw [if_neg c6] at H
        have c6b0 : decide (4 < a0_0) = false := decide_eq_false c6
        clear c6
        by_cases c8 : a0_0 = 3
        · rw [if_pos c8] at H
          have c8b0 : (a0_0 == 3) = true := beq_iff_eq.mpr c8
          have c8b1 : (a0_0 != 3) = false := bne_eq_false_iff_eq.mpr c8
          clear c8
          by_cases c9 : a0_2 = 0
          · rw [if_pos c9] at H
            have c9b0 : (a0_2 == 0) = true := beq_iff_eq.mpr c9
            have c9b1 : (a0_2 != 0) = false := bne_eq_false_iff_eq.mpr c9
            clear c9
            by_cases c10 : a0_3 = 0
            · rw [if_pos c10] at H
              have c10b0 : (a0_3 == 0) = true := beq_iff_eq.mpr c10
              have c10b1 : (a0_3 != 0) = false := bne_eq_false_iff_eq.mpr c10
              clear c10
              by_cases c11 : (l0_4.length : Int) > 8
              · rw [if_pos c11] at H
                have c11b0 : decide (8 < (l0_4.length : Int)) = true := decide_eq_true c11
                have c11b1 : decide (8 < l0_4.length) = true := decide_eq_true (by omega)
                clear c11
                have H' := Aside0.mk H
                clear H
                obtain ⟨hcz12_0, hcz12_1, hcz12_2, hcz12_3, hcz12_4, hcz12_5⟩ := XRun.bc6 BK296.out
                obtain ⟨hfz12_0, hfz12_1, hfz12_2, hfz12_3, hfz12_4, hfz12_5⟩ := XRun.bf6 BK296.out
                go_wp2
                go_meet
                case rel => exact ⟨_, (true), (by rfl), H', ⟨by omega⟩, ⟨by exact BK296.out⟩, ⟨by exact HB.out⟩⟩
              · rw [if_neg c11] at H
                have c11b0 : decide (8 < (l0_4.length : Int)) = false := decide_eq_false c11
                have c11b1 : decide (8 < l0_4.length) = false := decide_eq_false (by omega)
                clear c11
                replace H := Option.bind_eq_some_iff.mp H
                obtain ⟨t297, A130, H⟩ := H
                replace H : (tenancyref15_Sound.j0 k (!t297) a0_0 a0_1 a0_2 a0_3 l0_4 a0_5) = some r := H
                have A13 := Aside0.mk A130
                clear A130
                have H' := Aside0.mk H
                clear H
                obtain ⟨hcz14_0, hcz14_1, hcz14_2, hcz14_3, hcz14_4, hcz14_5⟩ := XRun.bc6 BK296.out
                obtain ⟨hfz14_0, hfz14_1, hfz14_2, hfz14_3, hfz14_4, hfz14_5⟩ := XRun.bf6 BK296.out
                go_wp2_with (first | (go_at_call 49; (with_reducible refine (tenancyref15_status.calls a0_5 t297 _ A13.out).mono ?_); rintro e w' ⟨rfl, ⟨nd, rfl⟩⟩))
                go_meet
                case rel => exact ⟨_, (!t297), (by rfl), H', ⟨by omega⟩, ⟨by (with_reducible repeat (first | refine blk_drewN ?_ _)); exact BK296.out⟩, ⟨by repeat (first | (with_reducible first | exact HB.out | apply pw_below_drewN))⟩⟩
            · rw [if_neg c10] at H
              have c10b0 : (a0_3 == 0) = false := beq_eq_false_iff_ne.mpr c10
              have c10b1 : (a0_3 != 0) = true := bne_iff_ne.mpr c10
              have H' := Aside0.mk H
              clear H
              obtain ⟨hcz15_0, hcz15_1, hcz15_2, hcz15_3, hcz15_4, hcz15_5⟩ := XRun.bc6 BK296.out
              obtain ⟨hfz15_0, hfz15_1, hfz15_2, hfz15_3, hfz15_4, hfz15_5⟩ := XRun.bf6 BK296.out
              go_wp2
              go_meet
              case rel => exact ⟨_, (true), (by rfl), H', ⟨by omega⟩, ⟨by exact BK296.out⟩, ⟨by exact HB.out⟩⟩
          · rw [if_neg c9] at H
            have c9b0 : (a0_2 == 0) = false := beq_eq_false_iff_ne.mpr c9
            have c9b1 : (a0_2 != 0) = true := bne_iff_ne.mpr c9
            have H' := Aside0.mk H
            clear H
            obtain ⟨hcz16_0, hcz16_1, hcz16_2, hcz16_3, hcz16_4, hcz16_5⟩ := XRun.bc6 BK296.out
            obtain ⟨hfz16_0, hfz16_1, hfz16_2, hfz16_3, hfz16_4, hfz16_5⟩ := XRun.bf6 BK296.out
            go_wp2
            go_meet
            case rel => exact ⟨_, (true), (by rfl), H', ⟨by omega⟩, ⟨by exact BK296.out⟩, ⟨by exact HB.out⟩⟩
        · rw [if_neg c8] at H
          have c8b0 : (a0_0 == 3) = false := beq_eq_false_iff_ne.mpr c8
          have c8b1 : (a0_0 != 3) = true := bne_iff_ne.mpr c8
          by_cases c17 : (l0_4.length : Int) > 8
          · rw [if_pos c17] at H
            have c17b0 : decide (8 < (l0_4.length : Int)) = true := decide_eq_true c17
            have c17b1 : decide (8 < l0_4.length) = true := decide_eq_true (by omega)
            clear c17
            have H' := Aside0.mk H
            clear H
            obtain ⟨hcz18_0, hcz18_1, hcz18_2, hcz18_3, hcz18_4, hcz18_5⟩ := XRun.bc6 BK296.out
            obtain ⟨hfz18_0, hfz18_1, hfz18_2, hfz18_3, hfz18_4, hfz18_5⟩ := XRun.bf6 BK296.out
            go_wp2
            go_meet
            case rel => exact ⟨_, (true), (by rfl), H', ⟨by omega⟩, ⟨by exact BK296.out⟩, ⟨by exact HB.out⟩⟩
          · rw [if_neg c17] at H
            have c17b0 : decide (8 < (l0_4.length : Int)) = false := decide_eq_false c17
            have c17b1 : decide (8 < l0_4.length) = false := decide_eq_false (by omega)
            clear c17
            replace H := Option.bind_eq_some_iff.mp H
            obtain ⟨t298, A190, H⟩ := H
            replace H : (tenancyref15_Sound.j0 k (!t298) a0_0 a0_1 a0_2 a0_3 l0_4 a0_5) = some r := H
            have A19 := Aside0.mk A190
            clear A190
            have H' := Aside0.mk H
            clear H
            obtain ⟨hcz20_0, hcz20_1, hcz20_2, hcz20_3, hcz20_4, hcz20_5⟩ := XRun.bc6 BK296.out
            obtain ⟨hfz20_0, hfz20_1, hfz20_2, hfz20_3, hfz20_4, hfz20_5⟩ := XRun.bf6 BK296.out
            go_wp2_with (first | (go_at_call 49; (with_reducible refine (tenancyref15_status.calls a0_5 t298 _ A19.out).mono ?_); rintro e w' ⟨rfl, ⟨nd, rfl⟩⟩))
            go_meet
            case rel => exact ⟨_, (!t298), (by rfl), H', ⟨by omega⟩, ⟨by (with_reducible repeat (first | refine blk_drewN ?_ _)); exact BK296.out⟩, ⟨by repeat (first | (with_reducible first | exact HB.out | apply pw_below_drewN))⟩⟩
  case rest =>
    clear HC2
    try clear c1
    try clear c2
    try clear p2
    try clear c4
    try clear c4b0
    try clear c6
    try clear c6b0
    try clear c8
    try clear c8b0
    try clear c8b1
    try clear c9
    try clear c9b0
    try clear c9b1
    try clear c10
    try clear c10b0
    try clear c10b1
    try clear c11
    try clear c11b0
    try clear c11b1
    try clear c17
    try clear c17b0
    try clear c17b1
    try clear hcz12_0
    try clear hcz12_1
    try clear hcz12_2
    try clear hcz12_3
    try clear hcz12_4
    try clear hcz12_5
    try clear hcz14_0
    try clear hcz14_1
    try clear hcz14_2
    try clear hcz14_3
    try clear hcz14_4
    try clear hcz14_5
    try clear hcz15_0
    try clear hcz15_1
    try clear hcz15_2
    try clear hcz15_3
    try clear hcz15_4
    try clear hcz15_5
    try clear hcz16_0
    try clear hcz16_1
    try clear hcz16_2
    try clear hcz16_3
    try clear hcz16_4
    try clear hcz16_5
    try clear hcz18_0
    try clear hcz18_1
    try clear hcz18_2
    try clear hcz18_3
    try clear hcz18_4
    try clear hcz18_5
    try clear hcz20_0
    try clear hcz20_1
    try clear hcz20_2
    try clear hcz20_3
    try clear hcz20_4
    try clear hcz20_5
    try clear hcz5_0
    try clear hcz5_1
    try clear hcz5_2
    try clear hcz5_3
    try clear hcz5_4
    try clear hcz5_5
    try clear hcz7_0
    try clear hcz7_1
    try clear hcz7_2
    try clear hcz7_3
    try clear hcz7_4
    try clear hcz7_5
    try clear hfz12_0
    try clear hfz12_1
    try clear hfz12_2
    try clear hfz12_3
    try clear hfz12_4
    try clear hfz12_5
    try clear hfz14_0
    try clear hfz14_1
    try clear hfz14_2
    try clear hfz14_3
    try clear hfz14_4
    try clear hfz14_5
    try clear hfz15_0
    try clear hfz15_1
    try clear hfz15_2
    try clear hfz15_3
    try clear hfz15_4
    try clear hfz15_5
    try clear hfz16_0
    try clear hfz16_1
    try clear hfz16_2
    try clear hfz16_3
    try clear hfz16_4
    try clear hfz16_5
    try clear hfz18_0
    try clear hfz18_1
    try clear hfz18_2
    try clear hfz18_3
    try clear hfz18_4
    try clear hfz18_5
    try clear hfz20_0
    try clear hfz20_1
    try clear hfz20_2
    try clear hfz20_3
    try clear hfz20_4
    try clear hfz20_5
    try clear hfz5_0
    try clear hfz5_1
    try clear hfz5_2
    try clear hfz5_3
    try clear hfz5_4
    try clear hfz5_5
    try clear hfz7_0
    try clear hfz7_1
    try clear hfz7_2
    try clear hfz7_3
    try clear hfz7_4
    try clear hfz7_5
    obtain ⟨kq, x39_1, rfl, HA, HJ1, BK296, HB⟩ := hcut
    cases kq with
    | zero => exact absurd HA.out (by simp [tenancyref15_Sound.j0])
    | succ kj1 =>
      have H := HA.out
      clear HA
      simp only [tenancyref15_Sound.j0] at H
      by_cases c21 : x39_1 = true
      · subst c21
        have H1 : (some false) = some r := by rw [if_pos rfl] at H; exact H
        clear H
        have H := H1
        clear H1
        obtain rfl := Option.some.inj H
        go_wp2
        go_ret
        exact ⟨by rfl, by exact HB.out⟩
      · replace c21 := Bool.eq_false_iff.mpr c21
        subst c21
        have H1 : (tenancyref15_Sound.l0 kj1 0 a0_0 a0_1 a0_2 a0_3 l0_4 a0_5) = some r := by rw [if_neg (show ¬ (false = true) by decide)] at H; exact H
        clear H
        have H := H1
        clear H1
        have H' := Aside0.mk H
        clear H
        go_wp2
        go_loopg [3] kj1 (fun kq v3 w' => ∃ (x3_2 : Int), v3 = .int .i64 x3_2 ∧ Aside0 (tenancyref15_Sound.l0 kq x3_2 a0_0 a0_1 a0_2 a0_3 l0_4 a0_5 = some r) ∧ Aside0 (kq ≤ kj1) ∧ Aside0 (w'.heap[gb296]? = some (.cells #[.int .i64 a0_0, .int .u32 a0_1, .int .u32 a0_2, .int .u32 a0_3, (.slice A0_4 l0_4.length c0_4), .int .i64 a0_5] 37 (0, 0))) ∧ Aside0 (Below w.heap.size w w'))
        case atStart => exact ⟨(0), (by rfl), H', ⟨Nat.le_refl _⟩, ⟨by exact BK296.out⟩, ⟨by exact HB.out⟩⟩
        case round =>
          clear H'
          try clear c1
          try clear c2
          try clear p2
          try clear c4
          try clear c4b0
          try clear c6
          try clear c6b0
          try clear c8
          try clear c8b0
          try clear c8b1
          try clear c9
          try clear c9b0
          try clear c9b1
          try clear c10
          try clear c10b0
          try clear c10b1
          try clear c11
          try clear c11b0
          try clear c11b1
          try clear c17
          try clear c17b0
          try clear c17b1
          try clear c21
          try clear hcz12_0
          try clear hcz12_1
          try clear hcz12_2
          try clear hcz12_3
          try clear hcz12_4
          try clear hcz12_5
          try clear hcz14_0
          try clear hcz14_1
          try clear hcz14_2
          try clear hcz14_3
          try clear hcz14_4
          try clear hcz14_5
          try clear hcz15_0
          try clear hcz15_1
          try clear hcz15_2
          try clear hcz15_3
          try clear hcz15_4
          try clear hcz15_5
          try clear hcz16_0
          try clear hcz16_1
          try clear hcz16_2
          try clear hcz16_3
          try clear hcz16_4
          try clear hcz16_5
          try clear hcz18_0
          try clear hcz18_1
          try clear hcz18_2
          try clear hcz18_3
          try clear hcz18_4
          try clear hcz18_5
          try clear hcz20_0
          try clear hcz20_1
          try clear hcz20_2
          try clear hcz20_3
          try clear hcz20_4
          try clear hcz20_5
          try clear hcz5_0
          try clear hcz5_1
          try clear hcz5_2
          try clear hcz5_3
          try clear hcz5_4
          try clear hcz5_5
          try clear hcz7_0
          try clear hcz7_1
          try clear hcz7_2
          try clear hcz7_3
          try clear hcz7_4
          try clear hcz7_5
          try clear hfz12_0
          try clear hfz12_1
          try clear hfz12_2
          try clear hfz12_3
          try clear hfz12_4
          try clear hfz12_5
          try clear hfz14_0
          try clear hfz14_1
          try clear hfz14_2
          try clear hfz14_3
          try clear hfz14_4
          try clear hfz14_5
          try clear hfz15_0
          try clear hfz15_1
          try clear hfz15_2
          try clear hfz15_3
          try clear hfz15_4
          try clear hfz15_5
          try clear hfz16_0
          try clear hfz16_1
          try clear hfz16_2
          try clear hfz16_3
          try clear hfz16_4
          try clear hfz16_5
          try clear hfz18_0
          try clear hfz18_1
          try clear hfz18_2
          try clear hfz18_3
          try clear hfz18_4
          try clear hfz18_5
          try clear hfz20_0
          try clear hfz20_1
          try clear hfz20_2
          try clear hfz20_3
          try clear hfz20_4
          try clear hfz20_5
          try clear hfz5_0
          try clear hfz5_1
          try clear hfz5_2
          try clear hfz5_3
          try clear hfz5_4
          try clear hfz5_5
          try clear hfz7_0
          try clear hfz7_1
          try clear hfz7_2
          try clear hfz7_3
          try clear hfz7_4
          try clear hfz7_5
          try clear p2
          obtain ⟨x3_2, rfl, HA, HK2, BK296, HB⟩ := hrel
          cases gk with
          | zero => exact absurd HA.out (by simp [tenancyref15_Sound.l0])
          | succ k2 =>
            have H := HA.out
            clear HA
            simp only [tenancyref15_Sound.l0] at H
            by_cases c22 : x3_2 < (l0_4.length : Int)
            · rw [if_pos c22] at H
              have c22b0 : decide (x3_2 < (l0_4.length : Int)) = true := decide_eq_true c22
              clear c22
              by_cases c23 : 0 ≤ x3_2
              · rw [if_pos c23] at H
                have c23b0 : decide (0 ≤ x3_2) = true := decide_eq_true c23
                clear c23
                replace H := Option.bind_eq_some_iff.mp H
                obtain ⟨t301, A240, H⟩ := H
                replace H : (if t301 = true then ((tenancyref01_Sound.f k2 ((rd_T76 l0_4 x3_2).f0.f0.f0) ((rd_T76 l0_4 x3_2).f0.f0.f1) ((rd_T76 l0_4 x3_2).f0.f1)).bind fun t302 => (if t302 = true then (if a0_0 = 4 then (tenancyref15_Sound.l0 k2 (wrap64 (x3_2 + 1)) a0_0 a0_1 a0_2 a0_3 l0_4 a0_5) else (if ((rd_T76 l0_4 x3_2).f0.f1) = 128 then (tenancyref15_Sound.l0 k2 (wrap64 (x3_2 + 1)) a0_0 a0_1 a0_2 a0_3 l0_4 a0_5) else (some false))) else (some false))) else (some false)) = some r := H
                have A24 := Aside0.mk A240
                clear A240
                by_cases c25 : t301 = true
                · subst c25
                  have H1 : ((tenancyref01_Sound.f k2 ((rd_T76 l0_4 x3_2).f0.f0.f0) ((rd_T76 l0_4 x3_2).f0.f0.f1) ((rd_T76 l0_4 x3_2).f0.f1)).bind fun t302 => (if t302 = true then (if a0_0 = 4 then (tenancyref15_Sound.l0 k2 (wrap64 (x3_2 + 1)) a0_0 a0_1 a0_2 a0_3 l0_4 a0_5) else (if ((rd_T76 l0_4 x3_2).f0.f1) = 128 then (tenancyref15_Sound.l0 k2 (wrap64 (x3_2 + 1)) a0_0 a0_1 a0_2 a0_3 l0_4 a0_5) else (some false))) else (some false))) = some r := by rw [if_pos rfl] at H; exact H
                  clear H
                  have H := H1
                  clear H1
                  replace H := Option.bind_eq_some_iff.mp H
                  obtain ⟨t302, A260, H⟩ := H
                  replace H : (if t302 = true then (if a0_0 = 4 then (tenancyref15_Sound.l0 k2 (wrap64 (x3_2 + 1)) a0_0 a0_1 a0_2 a0_3 l0_4 a0_5) else (if ((rd_T76 l0_4 x3_2).f0.f1) = 128 then (tenancyref15_Sound.l0 k2 (wrap64 (x3_2 + 1)) a0_0 a0_1 a0_2 a0_3 l0_4 a0_5) else (some false))) else (some false)) = some r := H
                  have A26 := Aside0.mk A260
                  clear A260
                  by_cases c27 : t302 = true
                  · subst c27
                    have H1 : (if a0_0 = 4 then (tenancyref15_Sound.l0 k2 (wrap64 (x3_2 + 1)) a0_0 a0_1 a0_2 a0_3 l0_4 a0_5) else (if ((rd_T76 l0_4 x3_2).f0.f1) = 128 then (tenancyref15_Sound.l0 k2 (wrap64 (x3_2 + 1)) a0_0 a0_1 a0_2 a0_3 l0_4 a0_5) else (some false))) = some r := by rw [if_pos rfl] at H; exact H
                    clear H
                    have H := H1
                    clear H1
                    by_cases c28 : a0_0 = 4
                    · rw [if_pos c28] at H
                      have c28b0 : (a0_0 == 4) = true := beq_iff_eq.mpr c28
                      have c28b1 : (a0_0 != 4) = false := bne_eq_false_iff_eq.mpr c28
                      clear c28
                      have H' := Aside0.mk H
                      clear H
                      obtain ⟨hcz29_0, hcz29_1, hcz29_2, hcz29_3, hcz29_4, hcz29_5⟩ := XRun.bc6 BK296.out
                      obtain ⟨hfz29_0, hfz29_1, hfz29_2, hfz29_3, hfz29_4, hfz29_5⟩ := XRun.bf6 BK296.out
                      have p299 : 0 ≤ (x3_2 : Int) := of_decide_eq_true (by first | (with_reducible assumption))
                      have q299 : x3_2 < (l0_4.length : Int) := of_decide_eq_true (by first | (with_reducible assumption))
                      obtain ⟨ad299, e299, hx299_0, hx299_1, hx299_2, hx299_3, hx299_4, hx299_5⟩ := at_T76 HR0_4.out x3_2 p299 q299
                      cases e299
                      replace hx299_0 := (HB.out.cell (World.block_lt_of_cell? w _ hx299_0)).trans hx299_0
                      replace hx299_1 := (HB.out.cell (World.block_lt_of_cell? w _ hx299_1)).trans hx299_1
                      replace hx299_2 := (HB.out.cell (World.block_lt_of_cell? w _ hx299_2)).trans hx299_2
                      replace hx299_3 := (HB.out.cell (World.block_lt_of_cell? w _ hx299_3)).trans hx299_3
                      replace hx299_4 := (HB.out.cell (World.block_lt_of_cell? w _ hx299_4)).trans hx299_4
                      replace hx299_5 := (HB.out.cell (World.block_lt_of_cell? w _ hx299_5)).trans hx299_5
                      replace p299 := eq_true p299
                      replace q299 := eq_true q299
                      go_wp2_with (first | ((with_reducible refine gate_dst (N := 4) rfl ?_); (try (refine gate_guard (by rfl) ?_; dsimp only)); refine box_event ?hg (N := 4) ?hd (cs := #[.int .u64 0, .int .u64 0, .int .i64 0, .int .u32 0, .int .u32 0, .int .i64 0]) (t := 76) ?hr ?_; (case hd => rfl); (case hg => rfl); (case hr => go_simp; done); intro gb300 hg w30 hbox hb; have n0_ := Aside0.mk (blk_below (g := gb296) (o := .cells #[.int .i64 a0_0, .int .u32 a0_1, .int .u32 a0_2, .int .u32 a0_3, .slice (some ad299) l0_4.length c0_4, .int .i64 a0_5] 37 (0, 0)) BK296.out hb); have n1_ := Aside0.mk (below_step HB.out hb); have n2_ := Aside0.mk (hbox); have n3_ := Aside0.mk ((by rw [hg]; exact (below_size HB.out) : w.heap.size ≤ gb300)); have n4_ := Aside0.mk ((by rw [hg]; exact (below_size HB.out) : w.heap.size ≤ gb300)); have n5_ := Aside0.mk ((by rw [hg]; exact Nat.ne_of_lt (blk_lt (g := gb296) (o := .cells #[.int .i64 a0_0, .int .u32 a0_1, .int .u32 a0_2, .int .u32 a0_3, .slice (some ad299) l0_4.length c0_4, .int .i64 a0_5] 37 (0, 0)) BK296.out) : gb296 ≠ gb300)); have n6_ := Aside0.mk ((by rw [hg]; exact Nat.ne_of_gt (blk_lt (g := gb296) (o := .cells #[.int .i64 a0_0, .int .u32 a0_1, .int .u32 a0_2, .int .u32 a0_3, .slice (some ad299) l0_4.length c0_4, .int .i64 a0_5] 37 (0, 0)) BK296.out) : gb300 ≠ gb296)); clear BK296; clear HB; have BK296 := n0_; have HB := n1_; have BK300 := n2_; have GW300 := n3_; have GE300 := n4_; have NB296_300 := n5_; have NB300_296 := n6_; clear n0_ n1_ n2_ n3_ n4_ n5_ n6_; clear hb hbox hg; have hnb31 := NB300_296.out; have hnc31 := NB296_300.out; obtain ⟨hcz32_0, hcz32_1, hcz32_2, hcz32_3, hcz32_4, hcz32_5⟩ := XRun.bc6 BK300.out; obtain ⟨hfz32_0, hfz32_1, hfz32_2, hfz32_3, hfz32_4, hfz32_5⟩ := XRun.bf6 BK300.out) | ((with_reducible refine gate_callee (f := 49) rfl ?_); refine goesL_ (some 54) rfl rfl Try.func49 (by kernel_rfl) rfl #[.int .i64 ((rd_T76 l0_4 x3_2).f3)] rfl (by (try simp only [List.map_toArray, List.map_cons, List.map_nil]); first | rfl) ?_; (with_reducible refine (tenancyref15_status.calls ((rd_T76 l0_4 x3_2).f3) true _ A24.out).mono ?_); rintro e w' ⟨rfl, ⟨nd, rfl⟩⟩; refine ⟨_, rfl, ?_⟩) | (go_at_call 50; (with_reducible refine (tenancyref01_Sound.calls k2 ((rd_T76 l0_4 x3_2).f0.f0.f0) ((rd_T76 l0_4 x3_2).f0.f0.f1) ((rd_T76 l0_4 x3_2).f0.f1) true _ A26.out).mono ?_); rintro e w33 ⟨rfl, hb⟩; have n0_ := Aside0.mk (blk_below (g := gb296) (o := .cells #[.int .i64 a0_0, .int .u32 a0_1, .int .u32 a0_2, .int .u32 a0_3, .slice (some ad299) l0_4.length c0_4, .int .i64 a0_5] 37 (0, 0)) (by (with_reducible repeat (first | refine blk_drewN ?_ _)); refine blk_far ?_ NB296_300.out _; refine blk_far ?_ NB296_300.out _; refine blk_far ?_ NB296_300.out _; refine blk_far ?_ NB296_300.out _; refine blk_far ?_ NB296_300.out _; refine blk_far ?_ NB296_300.out _; exact BK296.out) hb); have n1_ := Aside0.mk (blk_below (g := gb300) (o := .cells #[.int .u64 ((rd_T76 l0_4 x3_2).f0.f0.f0), .int .u64 ((rd_T76 l0_4 x3_2).f0.f0.f1), .int .i64 ((rd_T76 l0_4 x3_2).f0.f1), .int .u32 ((rd_T76 l0_4 x3_2).f1), .int .u32 ((rd_T76 l0_4 x3_2).f2), .int .i64 ((rd_T76 l0_4 x3_2).f3)] 76 (0, 0)) (by (with_reducible repeat (first | refine blk_drewN ?_ _)); refine blk_put (cs := #[.int .u64 ((rd_T76 l0_4 x3_2).f0.f0.f0), .int .u64 ((rd_T76 l0_4 x3_2).f0.f0.f1), .int .i64 ((rd_T76 l0_4 x3_2).f0.f1), .int .u32 ((rd_T76 l0_4 x3_2).f1), .int .u32 ((rd_T76 l0_4 x3_2).f2), .int .i64 0]) ?_ 5 _ rfl; refine blk_put (cs := #[.int .u64 ((rd_T76 l0_4 x3_2).f0.f0.f0), .int .u64 ((rd_T76 l0_4 x3_2).f0.f0.f1), .int .i64 ((rd_T76 l0_4 x3_2).f0.f1), .int .u32 ((rd_T76 l0_4 x3_2).f1), .int .u32 0, .int .i64 0]) ?_ 4 _ rfl; refine blk_put (cs := #[.int .u64 ((rd_T76 l0_4 x3_2).f0.f0.f0), .int .u64 ((rd_T76 l0_4 x3_2).f0.f0.f1), .int .i64 ((rd_T76 l0_4 x3_2).f0.f1), .int .u32 0, .int .u32 0, .int .i64 0]) ?_ 3 _ rfl; refine blk_put (cs := #[.int .u64 ((rd_T76 l0_4 x3_2).f0.f0.f0), .int .u64 ((rd_T76 l0_4 x3_2).f0.f0.f1), .int .i64 0, .int .u32 0, .int .u32 0, .int .i64 0]) ?_ 2 _ rfl; refine blk_put (cs := #[.int .u64 ((rd_T76 l0_4 x3_2).f0.f0.f0), .int .u64 0, .int .i64 0, .int .u32 0, .int .u32 0, .int .i64 0]) ?_ 1 _ rfl; refine blk_put (cs := #[.int .u64 0, .int .u64 0, .int .i64 0, .int .u32 0, .int .u32 0, .int .i64 0]) ?_ 0 _ rfl; exact BK300.out) hb); have n2_ := Aside0.mk (below_step (by repeat (first | (with_reducible first | exact HB.out | apply pw_below_drewN | refine below_set ?_ GE300.out))) hb); clear BK296; clear BK300; clear HB; have BK296 := n0_; have BK300 := n1_; have HB := n2_; clear n0_ n1_ n2_; (try clear hb); (try clear hb2); (try clear hk); (try clear hi); obtain ⟨hcz34_0, hcz34_1, hcz34_2, hcz34_3, hcz34_4, hcz34_5⟩ := XRun.bc6 BK296.out; obtain ⟨hfz34_0, hfz34_1, hfz34_2, hfz34_3, hfz34_4, hfz34_5⟩ := XRun.bf6 BK296.out))
                      go_roundg k2
                      case measure => have := HJ1.out; have := HK2.out; omega
                      case rel => exact ⟨(wrap64 (x3_2 + 1)), (by rfl), H', ⟨by have := HJ1.out; have := HK2.out; omega⟩, ⟨by exact BK296.out⟩, ⟨by exact HB.out⟩⟩
                    · rw [if_neg c28] at H
                      have c28b0 : (a0_0 == 4) = false := beq_eq_false_iff_ne.mpr c28
                      have c28b1 : (a0_0 != 4) = true := bne_iff_ne.mpr c28
                      by_cases c35 : ((rd_T76 l0_4 x3_2).f0.f1) = 128
                      · rw [if_pos c35] at H
                        have c35b0 : (((rd_T76 l0_4 x3_2).f0.f1) == 128) = true := beq_iff_eq.mpr c35
                        have c35b1 : (((rd_T76 l0_4 x3_2).f0.f1) != 128) = false := bne_eq_false_iff_eq.mpr c35
                        clear c35
                        have H' := Aside0.mk H
                        clear H
                        obtain ⟨hcz36_0, hcz36_1, hcz36_2, hcz36_3, hcz36_4, hcz36_5⟩ := XRun.bc6 BK296.out
                        obtain ⟨hfz36_0, hfz36_1, hfz36_2, hfz36_3, hfz36_4, hfz36_5⟩ := XRun.bf6 BK296.out
                        have p299 : 0 ≤ (x3_2 : Int) := of_decide_eq_true (by first | (with_reducible assumption))
                        have q299 : x3_2 < (l0_4.length : Int) := of_decide_eq_true (by first | (with_reducible assumption))
                        obtain ⟨ad299, e299, hx299_0, hx299_1, hx299_2, hx299_3, hx299_4, hx299_5⟩ := at_T76 HR0_4.out x3_2 p299 q299
                        cases e299
                        replace hx299_0 := (HB.out.cell (World.block_lt_of_cell? w _ hx299_0)).trans hx299_0
                        replace hx299_1 := (HB.out.cell (World.block_lt_of_cell? w _ hx299_1)).trans hx299_1
                        replace hx299_2 := (HB.out.cell (World.block_lt_of_cell? w _ hx299_2)).trans hx299_2
                        replace hx299_3 := (HB.out.cell (World.block_lt_of_cell? w _ hx299_3)).trans hx299_3
                        replace hx299_4 := (HB.out.cell (World.block_lt_of_cell? w _ hx299_4)).trans hx299_4
                        replace hx299_5 := (HB.out.cell (World.block_lt_of_cell? w _ hx299_5)).trans hx299_5
                        replace p299 := eq_true p299
                        replace q299 := eq_true q299
                        go_wp2_with (first | ((with_reducible refine gate_dst (N := 4) rfl ?_); (try (refine gate_guard (by rfl) ?_; dsimp only)); refine box_event ?hg (N := 4) ?hd (cs := #[.int .u64 0, .int .u64 0, .int .i64 0, .int .u32 0, .int .u32 0, .int .i64 0]) (t := 76) ?hr ?_; (case hd => rfl); (case hg => rfl); (case hr => go_simp; done); intro gb300 hg w37 hbox hb; have n0_ := Aside0.mk (blk_below (g := gb296) (o := .cells #[.int .i64 a0_0, .int .u32 a0_1, .int .u32 a0_2, .int .u32 a0_3, .slice (some ad299) l0_4.length c0_4, .int .i64 a0_5] 37 (0, 0)) BK296.out hb); have n1_ := Aside0.mk (below_step HB.out hb); have n2_ := Aside0.mk (hbox); have n3_ := Aside0.mk ((by rw [hg]; exact (below_size HB.out) : w.heap.size ≤ gb300)); have n4_ := Aside0.mk ((by rw [hg]; exact (below_size HB.out) : w.heap.size ≤ gb300)); have n5_ := Aside0.mk ((by rw [hg]; exact Nat.ne_of_lt (blk_lt (g := gb296) (o := .cells #[.int .i64 a0_0, .int .u32 a0_1, .int .u32 a0_2, .int .u32 a0_3, .slice (some ad299) l0_4.length c0_4, .int .i64 a0_5] 37 (0, 0)) BK296.out) : gb296 ≠ gb300)); have n6_ := Aside0.mk ((by rw [hg]; exact Nat.ne_of_gt (blk_lt (g := gb296) (o := .cells #[.int .i64 a0_0, .int .u32 a0_1, .int .u32 a0_2, .int .u32 a0_3, .slice (some ad299) l0_4.length c0_4, .int .i64 a0_5] 37 (0, 0)) BK296.out) : gb300 ≠ gb296)); clear BK296; clear HB; have BK296 := n0_; have HB := n1_; have BK300 := n2_; have GW300 := n3_; have GE300 := n4_; have NB296_300 := n5_; have NB300_296 := n6_; clear n0_ n1_ n2_ n3_ n4_ n5_ n6_; clear hb hbox hg; have hnb38 := NB300_296.out; have hnc38 := NB296_300.out; obtain ⟨hcz39_0, hcz39_1, hcz39_2, hcz39_3, hcz39_4, hcz39_5⟩ := XRun.bc6 BK300.out; obtain ⟨hfz39_0, hfz39_1, hfz39_2, hfz39_3, hfz39_4, hfz39_5⟩ := XRun.bf6 BK300.out) | ((with_reducible refine gate_callee (f := 49) rfl ?_); refine goesL_ (some 54) rfl rfl Try.func49 (by kernel_rfl) rfl #[.int .i64 ((rd_T76 l0_4 x3_2).f3)] rfl (by (try simp only [List.map_toArray, List.map_cons, List.map_nil]); first | rfl) ?_; (with_reducible refine (tenancyref15_status.calls ((rd_T76 l0_4 x3_2).f3) true _ A24.out).mono ?_); rintro e w' ⟨rfl, ⟨nd, rfl⟩⟩; refine ⟨_, rfl, ?_⟩) | (go_at_call 50; (with_reducible refine (tenancyref01_Sound.calls k2 ((rd_T76 l0_4 x3_2).f0.f0.f0) ((rd_T76 l0_4 x3_2).f0.f0.f1) ((rd_T76 l0_4 x3_2).f0.f1) true _ A26.out).mono ?_); rintro e w40 ⟨rfl, hb⟩; have n0_ := Aside0.mk (blk_below (g := gb296) (o := .cells #[.int .i64 a0_0, .int .u32 a0_1, .int .u32 a0_2, .int .u32 a0_3, .slice (some ad299) l0_4.length c0_4, .int .i64 a0_5] 37 (0, 0)) (by (with_reducible repeat (first | refine blk_drewN ?_ _)); refine blk_far ?_ NB296_300.out _; refine blk_far ?_ NB296_300.out _; refine blk_far ?_ NB296_300.out _; refine blk_far ?_ NB296_300.out _; refine blk_far ?_ NB296_300.out _; refine blk_far ?_ NB296_300.out _; exact BK296.out) hb); have n1_ := Aside0.mk (blk_below (g := gb300) (o := .cells #[.int .u64 ((rd_T76 l0_4 x3_2).f0.f0.f0), .int .u64 ((rd_T76 l0_4 x3_2).f0.f0.f1), .int .i64 ((rd_T76 l0_4 x3_2).f0.f1), .int .u32 ((rd_T76 l0_4 x3_2).f1), .int .u32 ((rd_T76 l0_4 x3_2).f2), .int .i64 ((rd_T76 l0_4 x3_2).f3)] 76 (0, 0)) (by (with_reducible repeat (first | refine blk_drewN ?_ _)); refine blk_put (cs := #[.int .u64 ((rd_T76 l0_4 x3_2).f0.f0.f0), .int .u64 ((rd_T76 l0_4 x3_2).f0.f0.f1), .int .i64 ((rd_T76 l0_4 x3_2).f0.f1), .int .u32 ((rd_T76 l0_4 x3_2).f1), .int .u32 ((rd_T76 l0_4 x3_2).f2), .int .i64 0]) ?_ 5 _ rfl; refine blk_put (cs := #[.int .u64 ((rd_T76 l0_4 x3_2).f0.f0.f0), .int .u64 ((rd_T76 l0_4 x3_2).f0.f0.f1), .int .i64 ((rd_T76 l0_4 x3_2).f0.f1), .int .u32 ((rd_T76 l0_4 x3_2).f1), .int .u32 0, .int .i64 0]) ?_ 4 _ rfl; refine blk_put (cs := #[.int .u64 ((rd_T76 l0_4 x3_2).f0.f0.f0), .int .u64 ((rd_T76 l0_4 x3_2).f0.f0.f1), .int .i64 ((rd_T76 l0_4 x3_2).f0.f1), .int .u32 0, .int .u32 0, .int .i64 0]) ?_ 3 _ rfl; refine blk_put (cs := #[.int .u64 ((rd_T76 l0_4 x3_2).f0.f0.f0), .int .u64 ((rd_T76 l0_4 x3_2).f0.f0.f1), .int .i64 0, .int .u32 0, .int .u32 0, .int .i64 0]) ?_ 2 _ rfl; refine blk_put (cs := #[.int .u64 ((rd_T76 l0_4 x3_2).f0.f0.f0), .int .u64 0, .int .i64 0, .int .u32 0, .int .u32 0, .int .i64 0]) ?_ 1 _ rfl; refine blk_put (cs := #[.int .u64 0, .int .u64 0, .int .i64 0, .int .u32 0, .int .u32 0, .int .i64 0]) ?_ 0 _ rfl; exact BK300.out) hb); have n2_ := Aside0.mk (below_step (by repeat (first | (with_reducible first | exact HB.out | apply pw_below_drewN | refine below_set ?_ GE300.out))) hb); clear BK296; clear BK300; clear HB; have BK296 := n0_; have BK300 := n1_; have HB := n2_; clear n0_ n1_ n2_; (try clear hb); (try clear hb2); (try clear hk); (try clear hi); obtain ⟨hcz41_0, hcz41_1, hcz41_2, hcz41_3, hcz41_4, hcz41_5⟩ := XRun.bc6 BK296.out; obtain ⟨hfz41_0, hfz41_1, hfz41_2, hfz41_3, hfz41_4, hfz41_5⟩ := XRun.bf6 BK296.out; obtain ⟨hcz42_0, hcz42_1, hcz42_2, hcz42_3, hcz42_4, hcz42_5⟩ := XRun.bc6 BK300.out; obtain ⟨hfz42_0, hfz42_1, hfz42_2, hfz42_3, hfz42_4, hfz42_5⟩ := XRun.bf6 BK300.out))
                        go_roundg k2
                        case measure => have := HJ1.out; have := HK2.out; omega
                        case rel => exact ⟨(wrap64 (x3_2 + 1)), (by rfl), H', ⟨by have := HJ1.out; have := HK2.out; omega⟩, ⟨by exact BK296.out⟩, ⟨by exact HB.out⟩⟩
                      · rw [if_neg c35] at H
                        have c35b0 : (((rd_T76 l0_4 x3_2).f0.f1) == 128) = false := beq_eq_false_iff_ne.mpr c35
                        have c35b1 : (((rd_T76 l0_4 x3_2).f0.f1) != 128) = true := bne_iff_ne.mpr c35
                        obtain rfl := Option.some.inj H
                        obtain ⟨hcz43_0, hcz43_1, hcz43_2, hcz43_3, hcz43_4, hcz43_5⟩ := XRun.bc6 BK296.out
                        obtain ⟨hfz43_0, hfz43_1, hfz43_2, hfz43_3, hfz43_4, hfz43_5⟩ := XRun.bf6 BK296.out
                        have p299 : 0 ≤ (x3_2 : Int) := of_decide_eq_true (by first | (with_reducible assumption))
                        have q299 : x3_2 < (l0_4.length : Int) := of_decide_eq_true (by first | (with_reducible assumption))
                        obtain ⟨ad299, e299, hx299_0, hx299_1, hx299_2, hx299_3, hx299_4, hx299_5⟩ := at_T76 HR0_4.out x3_2 p299 q299
                        cases e299
                        replace hx299_0 := (HB.out.cell (World.block_lt_of_cell? w _ hx299_0)).trans hx299_0
                        replace hx299_1 := (HB.out.cell (World.block_lt_of_cell? w _ hx299_1)).trans hx299_1
                        replace hx299_2 := (HB.out.cell (World.block_lt_of_cell? w _ hx299_2)).trans hx299_2
                        replace hx299_3 := (HB.out.cell (World.block_lt_of_cell? w _ hx299_3)).trans hx299_3
                        replace hx299_4 := (HB.out.cell (World.block_lt_of_cell? w _ hx299_4)).trans hx299_4
                        replace hx299_5 := (HB.out.cell (World.block_lt_of_cell? w _ hx299_5)).trans hx299_5
                        replace p299 := eq_true p299
                        replace q299 := eq_true q299
                        go_wp2_with (first | ((with_reducible refine gate_dst (N := 4) rfl ?_); (try (refine gate_guard (by rfl) ?_; dsimp only)); refine box_event ?hg (N := 4) ?hd (cs := #[.int .u64 0, .int .u64 0, .int .i64 0, .int .u32 0, .int .u32 0, .int .i64 0]) (t := 76) ?hr ?_; (case hd => rfl); (case hg => rfl); (case hr => go_simp; done); intro gb300 hg w44 hbox hb; have n0_ := Aside0.mk (blk_below (g := gb296) (o := .cells #[.int .i64 a0_0, .int .u32 a0_1, .int .u32 a0_2, .int .u32 a0_3, .slice (some ad299) l0_4.length c0_4, .int .i64 a0_5] 37 (0, 0)) BK296.out hb); have n1_ := Aside0.mk (below_step HB.out hb); have n2_ := Aside0.mk (hbox); have n3_ := Aside0.mk ((by rw [hg]; exact (below_size HB.out) : w.heap.size ≤ gb300)); have n4_ := Aside0.mk ((by rw [hg]; exact (below_size HB.out) : w.heap.size ≤ gb300)); have n5_ := Aside0.mk ((by rw [hg]; exact Nat.ne_of_lt (blk_lt (g := gb296) (o := .cells #[.int .i64 a0_0, .int .u32 a0_1, .int .u32 a0_2, .int .u32 a0_3, .slice (some ad299) l0_4.length c0_4, .int .i64 a0_5] 37 (0, 0)) BK296.out) : gb296 ≠ gb300)); have n6_ := Aside0.mk ((by rw [hg]; exact Nat.ne_of_gt (blk_lt (g := gb296) (o := .cells #[.int .i64 a0_0, .int .u32 a0_1, .int .u32 a0_2, .int .u32 a0_3, .slice (some ad299) l0_4.length c0_4, .int .i64 a0_5] 37 (0, 0)) BK296.out) : gb300 ≠ gb296)); clear BK296; clear HB; have BK296 := n0_; have HB := n1_; have BK300 := n2_; have GW300 := n3_; have GE300 := n4_; have NB296_300 := n5_; have NB300_296 := n6_; clear n0_ n1_ n2_ n3_ n4_ n5_ n6_; clear hb hbox hg; have hnb45 := NB300_296.out; have hnc45 := NB296_300.out; obtain ⟨hcz46_0, hcz46_1, hcz46_2, hcz46_3, hcz46_4, hcz46_5⟩ := XRun.bc6 BK300.out; obtain ⟨hfz46_0, hfz46_1, hfz46_2, hfz46_3, hfz46_4, hfz46_5⟩ := XRun.bf6 BK300.out) | ((with_reducible refine gate_callee (f := 49) rfl ?_); refine goesL_ (some 54) rfl rfl Try.func49 (by kernel_rfl) rfl #[.int .i64 ((rd_T76 l0_4 x3_2).f3)] rfl (by (try simp only [List.map_toArray, List.map_cons, List.map_nil]); first | rfl) ?_; (with_reducible refine (tenancyref15_status.calls ((rd_T76 l0_4 x3_2).f3) true _ A24.out).mono ?_); rintro e w' ⟨rfl, ⟨nd, rfl⟩⟩; refine ⟨_, rfl, ?_⟩) | (go_at_call 50; (with_reducible refine (tenancyref01_Sound.calls k2 ((rd_T76 l0_4 x3_2).f0.f0.f0) ((rd_T76 l0_4 x3_2).f0.f0.f1) ((rd_T76 l0_4 x3_2).f0.f1) true _ A26.out).mono ?_); rintro e w47 ⟨rfl, hb⟩; have n0_ := Aside0.mk (blk_below (g := gb296) (o := .cells #[.int .i64 a0_0, .int .u32 a0_1, .int .u32 a0_2, .int .u32 a0_3, .slice (some ad299) l0_4.length c0_4, .int .i64 a0_5] 37 (0, 0)) (by (with_reducible repeat (first | refine blk_drewN ?_ _)); refine blk_far ?_ NB296_300.out _; refine blk_far ?_ NB296_300.out _; refine blk_far ?_ NB296_300.out _; refine blk_far ?_ NB296_300.out _; refine blk_far ?_ NB296_300.out _; refine blk_far ?_ NB296_300.out _; exact BK296.out) hb); have n1_ := Aside0.mk (blk_below (g := gb300) (o := .cells #[.int .u64 ((rd_T76 l0_4 x3_2).f0.f0.f0), .int .u64 ((rd_T76 l0_4 x3_2).f0.f0.f1), .int .i64 ((rd_T76 l0_4 x3_2).f0.f1), .int .u32 ((rd_T76 l0_4 x3_2).f1), .int .u32 ((rd_T76 l0_4 x3_2).f2), .int .i64 ((rd_T76 l0_4 x3_2).f3)] 76 (0, 0)) (by (with_reducible repeat (first | refine blk_drewN ?_ _)); refine blk_put (cs := #[.int .u64 ((rd_T76 l0_4 x3_2).f0.f0.f0), .int .u64 ((rd_T76 l0_4 x3_2).f0.f0.f1), .int .i64 ((rd_T76 l0_4 x3_2).f0.f1), .int .u32 ((rd_T76 l0_4 x3_2).f1), .int .u32 ((rd_T76 l0_4 x3_2).f2), .int .i64 0]) ?_ 5 _ rfl; refine blk_put (cs := #[.int .u64 ((rd_T76 l0_4 x3_2).f0.f0.f0), .int .u64 ((rd_T76 l0_4 x3_2).f0.f0.f1), .int .i64 ((rd_T76 l0_4 x3_2).f0.f1), .int .u32 ((rd_T76 l0_4 x3_2).f1), .int .u32 0, .int .i64 0]) ?_ 4 _ rfl; refine blk_put (cs := #[.int .u64 ((rd_T76 l0_4 x3_2).f0.f0.f0), .int .u64 ((rd_T76 l0_4 x3_2).f0.f0.f1), .int .i64 ((rd_T76 l0_4 x3_2).f0.f1), .int .u32 0, .int .u32 0, .int .i64 0]) ?_ 3 _ rfl; refine blk_put (cs := #[.int .u64 ((rd_T76 l0_4 x3_2).f0.f0.f0), .int .u64 ((rd_T76 l0_4 x3_2).f0.f0.f1), .int .i64 0, .int .u32 0, .int .u32 0, .int .i64 0]) ?_ 2 _ rfl; refine blk_put (cs := #[.int .u64 ((rd_T76 l0_4 x3_2).f0.f0.f0), .int .u64 0, .int .i64 0, .int .u32 0, .int .u32 0, .int .i64 0]) ?_ 1 _ rfl; refine blk_put (cs := #[.int .u64 0, .int .u64 0, .int .i64 0, .int .u32 0, .int .u32 0, .int .i64 0]) ?_ 0 _ rfl; exact BK300.out) hb); have n2_ := Aside0.mk (below_step (by repeat (first | (with_reducible first | exact HB.out | apply pw_below_drewN | refine below_set ?_ GE300.out))) hb); clear BK296; clear BK300; clear HB; have BK296 := n0_; have BK300 := n1_; have HB := n2_; clear n0_ n1_ n2_; (try clear hb); (try clear hb2); (try clear hk); (try clear hi); obtain ⟨hcz48_0, hcz48_1, hcz48_2, hcz48_3, hcz48_4, hcz48_5⟩ := XRun.bc6 BK296.out; obtain ⟨hfz48_0, hfz48_1, hfz48_2, hfz48_3, hfz48_4, hfz48_5⟩ := XRun.bf6 BK296.out; obtain ⟨hcz49_0, hcz49_1, hcz49_2, hcz49_3, hcz49_4, hcz49_5⟩ := XRun.bc6 BK300.out; obtain ⟨hfz49_0, hfz49_1, hfz49_2, hfz49_3, hfz49_4, hfz49_5⟩ := XRun.bf6 BK300.out))
                        go_ret
                        exact ⟨by rfl, by exact HB.out⟩
                  · replace c27 := Bool.eq_false_iff.mpr c27
                    subst c27
                    have H1 : (some false) = some r := by rw [if_neg (show ¬ (false = true) by decide)] at H; exact H
                    clear H
                    have H := H1
                    clear H1
                    obtain rfl := Option.some.inj H
                    obtain ⟨hcz50_0, hcz50_1, hcz50_2, hcz50_3, hcz50_4, hcz50_5⟩ := XRun.bc6 BK296.out
                    obtain ⟨hfz50_0, hfz50_1, hfz50_2, hfz50_3, hfz50_4, hfz50_5⟩ := XRun.bf6 BK296.out
                    have p299 : 0 ≤ (x3_2 : Int) := of_decide_eq_true (by first | (with_reducible assumption))
                    have q299 : x3_2 < (l0_4.length : Int) := of_decide_eq_true (by first | (with_reducible assumption))
                    obtain ⟨ad299, e299, hx299_0, hx299_1, hx299_2, hx299_3, hx299_4, hx299_5⟩ := at_T76 HR0_4.out x3_2 p299 q299
                    cases e299
                    replace hx299_0 := (HB.out.cell (World.block_lt_of_cell? w _ hx299_0)).trans hx299_0
                    replace hx299_1 := (HB.out.cell (World.block_lt_of_cell? w _ hx299_1)).trans hx299_1
                    replace hx299_2 := (HB.out.cell (World.block_lt_of_cell? w _ hx299_2)).trans hx299_2
                    replace hx299_3 := (HB.out.cell (World.block_lt_of_cell? w _ hx299_3)).trans hx299_3
                    replace hx299_4 := (HB.out.cell (World.block_lt_of_cell? w _ hx299_4)).trans hx299_4
                    replace hx299_5 := (HB.out.cell (World.block_lt_of_cell? w _ hx299_5)).trans hx299_5
                    replace p299 := eq_true p299
                    replace q299 := eq_true q299
                    go_wp2_with (first | ((with_reducible refine gate_dst (N := 4) rfl ?_); (try (refine gate_guard (by rfl) ?_; dsimp only)); refine box_event ?hg (N := 4) ?hd (cs := #[.int .u64 0, .int .u64 0, .int .i64 0, .int .u32 0, .int .u32 0, .int .i64 0]) (t := 76) ?hr ?_; (case hd => rfl); (case hg => rfl); (case hr => go_simp; done); intro gb300 hg w51 hbox hb; have n0_ := Aside0.mk (blk_below (g := gb296) (o := .cells #[.int .i64 a0_0, .int .u32 a0_1, .int .u32 a0_2, .int .u32 a0_3, .slice (some ad299) l0_4.length c0_4, .int .i64 a0_5] 37 (0, 0)) BK296.out hb); have n1_ := Aside0.mk (below_step HB.out hb); have n2_ := Aside0.mk (hbox); have n3_ := Aside0.mk ((by rw [hg]; exact (below_size HB.out) : w.heap.size ≤ gb300)); have n4_ := Aside0.mk ((by rw [hg]; exact (below_size HB.out) : w.heap.size ≤ gb300)); have n5_ := Aside0.mk ((by rw [hg]; exact Nat.ne_of_lt (blk_lt (g := gb296) (o := .cells #[.int .i64 a0_0, .int .u32 a0_1, .int .u32 a0_2, .int .u32 a0_3, .slice (some ad299) l0_4.length c0_4, .int .i64 a0_5] 37 (0, 0)) BK296.out) : gb296 ≠ gb300)); have n6_ := Aside0.mk ((by rw [hg]; exact Nat.ne_of_gt (blk_lt (g := gb296) (o := .cells #[.int .i64 a0_0, .int .u32 a0_1, .int .u32 a0_2, .int .u32 a0_3, .slice (some ad299) l0_4.length c0_4, .int .i64 a0_5] 37 (0, 0)) BK296.out) : gb300 ≠ gb296)); clear BK296; clear HB; have BK296 := n0_; have HB := n1_; have BK300 := n2_; have GW300 := n3_; have GE300 := n4_; have NB296_300 := n5_; have NB300_296 := n6_; clear n0_ n1_ n2_ n3_ n4_ n5_ n6_; clear hb hbox hg; have hnb52 := NB300_296.out; have hnc52 := NB296_300.out; obtain ⟨hcz53_0, hcz53_1, hcz53_2, hcz53_3, hcz53_4, hcz53_5⟩ := XRun.bc6 BK300.out; obtain ⟨hfz53_0, hfz53_1, hfz53_2, hfz53_3, hfz53_4, hfz53_5⟩ := XRun.bf6 BK300.out) | ((with_reducible refine gate_callee (f := 49) rfl ?_); refine goesL_ (some 54) rfl rfl Try.func49 (by kernel_rfl) rfl #[.int .i64 ((rd_T76 l0_4 x3_2).f3)] rfl (by (try simp only [List.map_toArray, List.map_cons, List.map_nil]); first | rfl) ?_; (with_reducible refine (tenancyref15_status.calls ((rd_T76 l0_4 x3_2).f3) true _ A24.out).mono ?_); rintro e w' ⟨rfl, ⟨nd, rfl⟩⟩; refine ⟨_, rfl, ?_⟩) | (go_at_call 50; (with_reducible refine (tenancyref01_Sound.calls k2 ((rd_T76 l0_4 x3_2).f0.f0.f0) ((rd_T76 l0_4 x3_2).f0.f0.f1) ((rd_T76 l0_4 x3_2).f0.f1) false _ A26.out).mono ?_); rintro e w54 ⟨rfl, hb⟩; have n0_ := Aside0.mk (blk_below (g := gb296) (o := .cells #[.int .i64 a0_0, .int .u32 a0_1, .int .u32 a0_2, .int .u32 a0_3, .slice (some ad299) l0_4.length c0_4, .int .i64 a0_5] 37 (0, 0)) (by (with_reducible repeat (first | refine blk_drewN ?_ _)); refine blk_far ?_ NB296_300.out _; refine blk_far ?_ NB296_300.out _; refine blk_far ?_ NB296_300.out _; refine blk_far ?_ NB296_300.out _; refine blk_far ?_ NB296_300.out _; refine blk_far ?_ NB296_300.out _; exact BK296.out) hb); have n1_ := Aside0.mk (blk_below (g := gb300) (o := .cells #[.int .u64 ((rd_T76 l0_4 x3_2).f0.f0.f0), .int .u64 ((rd_T76 l0_4 x3_2).f0.f0.f1), .int .i64 ((rd_T76 l0_4 x3_2).f0.f1), .int .u32 ((rd_T76 l0_4 x3_2).f1), .int .u32 ((rd_T76 l0_4 x3_2).f2), .int .i64 ((rd_T76 l0_4 x3_2).f3)] 76 (0, 0)) (by (with_reducible repeat (first | refine blk_drewN ?_ _)); refine blk_put (cs := #[.int .u64 ((rd_T76 l0_4 x3_2).f0.f0.f0), .int .u64 ((rd_T76 l0_4 x3_2).f0.f0.f1), .int .i64 ((rd_T76 l0_4 x3_2).f0.f1), .int .u32 ((rd_T76 l0_4 x3_2).f1), .int .u32 ((rd_T76 l0_4 x3_2).f2), .int .i64 0]) ?_ 5 _ rfl; refine blk_put (cs := #[.int .u64 ((rd_T76 l0_4 x3_2).f0.f0.f0), .int .u64 ((rd_T76 l0_4 x3_2).f0.f0.f1), .int .i64 ((rd_T76 l0_4 x3_2).f0.f1), .int .u32 ((rd_T76 l0_4 x3_2).f1), .int .u32 0, .int .i64 0]) ?_ 4 _ rfl; refine blk_put (cs := #[.int .u64 ((rd_T76 l0_4 x3_2).f0.f0.f0), .int .u64 ((rd_T76 l0_4 x3_2).f0.f0.f1), .int .i64 ((rd_T76 l0_4 x3_2).f0.f1), .int .u32 0, .int .u32 0, .int .i64 0]) ?_ 3 _ rfl; refine blk_put (cs := #[.int .u64 ((rd_T76 l0_4 x3_2).f0.f0.f0), .int .u64 ((rd_T76 l0_4 x3_2).f0.f0.f1), .int .i64 0, .int .u32 0, .int .u32 0, .int .i64 0]) ?_ 2 _ rfl; refine blk_put (cs := #[.int .u64 ((rd_T76 l0_4 x3_2).f0.f0.f0), .int .u64 0, .int .i64 0, .int .u32 0, .int .u32 0, .int .i64 0]) ?_ 1 _ rfl; refine blk_put (cs := #[.int .u64 0, .int .u64 0, .int .i64 0, .int .u32 0, .int .u32 0, .int .i64 0]) ?_ 0 _ rfl; exact BK300.out) hb); have n2_ := Aside0.mk (below_step (by repeat (first | (with_reducible first | exact HB.out | apply pw_below_drewN | refine below_set ?_ GE300.out))) hb); clear BK296; clear BK300; clear HB; have BK296 := n0_; have BK300 := n1_; have HB := n2_; clear n0_ n1_ n2_; (try clear hb); (try clear hb2); (try clear hk); (try clear hi)))
                    go_ret
                    exact ⟨by rfl, by exact HB.out⟩
                · replace c25 := Bool.eq_false_iff.mpr c25
                  subst c25
                  have H1 : (some false) = some r := by rw [if_neg (show ¬ (false = true) by decide)] at H; exact H
                  clear H
                  have H := H1
                  clear H1
                  obtain rfl := Option.some.inj H
                  obtain ⟨hcz55_0, hcz55_1, hcz55_2, hcz55_3, hcz55_4, hcz55_5⟩ := XRun.bc6 BK296.out
                  obtain ⟨hfz55_0, hfz55_1, hfz55_2, hfz55_3, hfz55_4, hfz55_5⟩ := XRun.bf6 BK296.out
                  have p299 : 0 ≤ (x3_2 : Int) := of_decide_eq_true (by first | (with_reducible assumption))
                  have q299 : x3_2 < (l0_4.length : Int) := of_decide_eq_true (by first | (with_reducible assumption))
                  obtain ⟨ad299, e299, hx299_0, hx299_1, hx299_2, hx299_3, hx299_4, hx299_5⟩ := at_T76 HR0_4.out x3_2 p299 q299
                  cases e299
                  replace hx299_0 := (HB.out.cell (World.block_lt_of_cell? w _ hx299_0)).trans hx299_0
                  replace hx299_1 := (HB.out.cell (World.block_lt_of_cell? w _ hx299_1)).trans hx299_1
                  replace hx299_2 := (HB.out.cell (World.block_lt_of_cell? w _ hx299_2)).trans hx299_2
                  replace hx299_3 := (HB.out.cell (World.block_lt_of_cell? w _ hx299_3)).trans hx299_3
                  replace hx299_4 := (HB.out.cell (World.block_lt_of_cell? w _ hx299_4)).trans hx299_4
                  replace hx299_5 := (HB.out.cell (World.block_lt_of_cell? w _ hx299_5)).trans hx299_5
                  replace p299 := eq_true p299
                  replace q299 := eq_true q299
                  go_wp2_with (first | ((with_reducible refine gate_dst (N := 4) rfl ?_); (try (refine gate_guard (by rfl) ?_; dsimp only)); refine box_event ?hg (N := 4) ?hd (cs := #[.int .u64 0, .int .u64 0, .int .i64 0, .int .u32 0, .int .u32 0, .int .i64 0]) (t := 76) ?hr ?_; (case hd => rfl); (case hg => rfl); (case hr => go_simp; done); intro gb300 hg w56 hbox hb; have n0_ := Aside0.mk (blk_below (g := gb296) (o := .cells #[.int .i64 a0_0, .int .u32 a0_1, .int .u32 a0_2, .int .u32 a0_3, .slice (some ad299) l0_4.length c0_4, .int .i64 a0_5] 37 (0, 0)) BK296.out hb); have n1_ := Aside0.mk (below_step HB.out hb); have n2_ := Aside0.mk (hbox); have n3_ := Aside0.mk ((by rw [hg]; exact (below_size HB.out) : w.heap.size ≤ gb300)); have n4_ := Aside0.mk ((by rw [hg]; exact (below_size HB.out) : w.heap.size ≤ gb300)); have n5_ := Aside0.mk ((by rw [hg]; exact Nat.ne_of_lt (blk_lt (g := gb296) (o := .cells #[.int .i64 a0_0, .int .u32 a0_1, .int .u32 a0_2, .int .u32 a0_3, .slice (some ad299) l0_4.length c0_4, .int .i64 a0_5] 37 (0, 0)) BK296.out) : gb296 ≠ gb300)); have n6_ := Aside0.mk ((by rw [hg]; exact Nat.ne_of_gt (blk_lt (g := gb296) (o := .cells #[.int .i64 a0_0, .int .u32 a0_1, .int .u32 a0_2, .int .u32 a0_3, .slice (some ad299) l0_4.length c0_4, .int .i64 a0_5] 37 (0, 0)) BK296.out) : gb300 ≠ gb296)); clear BK296; clear HB; have BK296 := n0_; have HB := n1_; have BK300 := n2_; have GW300 := n3_; have GE300 := n4_; have NB296_300 := n5_; have NB300_296 := n6_; clear n0_ n1_ n2_ n3_ n4_ n5_ n6_; clear hb hbox hg; have hnb57 := NB300_296.out; have hnc57 := NB296_300.out; obtain ⟨hcz58_0, hcz58_1, hcz58_2, hcz58_3, hcz58_4, hcz58_5⟩ := XRun.bc6 BK300.out; obtain ⟨hfz58_0, hfz58_1, hfz58_2, hfz58_3, hfz58_4, hfz58_5⟩ := XRun.bf6 BK300.out) | ((with_reducible refine gate_callee (f := 49) rfl ?_); refine goesL_ (some 54) rfl rfl Try.func49 (by kernel_rfl) rfl #[.int .i64 ((rd_T76 l0_4 x3_2).f3)] rfl (by (try simp only [List.map_toArray, List.map_cons, List.map_nil]); first | rfl) ?_; (with_reducible refine (tenancyref15_status.calls ((rd_T76 l0_4 x3_2).f3) false _ A24.out).mono ?_); rintro e w' ⟨rfl, ⟨nd, rfl⟩⟩; refine ⟨_, rfl, ?_⟩))
                  go_ret
                  exact ⟨by rfl, by repeat (first | (with_reducible first | exact HB.out | apply pw_below_drewN | refine below_set ?_ GE300.out))⟩
              · rw [if_neg c23] at H
                exact absurd H (by simp)
            · rw [if_neg c22] at H
              have c22b0 : decide (x3_2 < (l0_4.length : Int)) = false := decide_eq_false c22
              clear c22
              obtain rfl := Option.some.inj H
              obtain ⟨hcz59_0, hcz59_1, hcz59_2, hcz59_3, hcz59_4, hcz59_5⟩ := XRun.bc6 BK296.out
              obtain ⟨hfz59_0, hfz59_1, hfz59_2, hfz59_3, hfz59_4, hfz59_5⟩ := XRun.bf6 BK296.out
              go_wp2
              go_ret
              exact ⟨by rfl, by exact HB.out⟩

/-! ### tenancyref04_Put32: function 42 -/
def tenancyref04_Put32.f (k : Nat) (a0 : Int) : Option (ByteArray) := (tenancyref04_put.f k (IntKind.u64.wrap (a0)) 4).bind fun t303 => (some t303)
theorem tenancyref04_Put32.mono : ∀ a0 k, LeO (tenancyref04_Put32.f k a0) (tenancyref04_Put32.f (k + 1) a0) := by
  intro a0 k
  unfold tenancyref04_Put32.f
  repeat' first
      | (with_reducible exact tenancyref04_put.mono _ _ _)
      | (with_reducible exact LeO.refl _)
      | (with_reducible exact LeO.none _)
      | (with_reducible refine LeO.ite ?_ ?_)
      | (with_reducible refine LeO.bind ?_ (fun _ => ?_))
      | exact tenancyref04_put.mono _ _ _
      | exact LeO.none _
      | refine LeO.ite ?_ ?_
      | refine LeO.bind ?_ (fun _ => ?_)
set_option maxHeartbeats 8000000 in
set_option maxRecDepth 100000 in
theorem tenancyref04_Put32.calls (k : Nat) (a0 : Int) (r : ByteArray) (w : World) (h : tenancyref04_Put32.f k a0 = some r) :
    Calls Try.prog 42 #[.int .u32 a0] w fun e w' => e = .returned (.string r) ∧ Below w.heap.size w w' := by
  have HB := Aside0.mk (Below.refl w.heap.size w)
  have H : ((tenancyref04_put.f k (IntKind.u64.wrap (a0)) 4).bind fun t303 => (some t303)) = some r := h
  clear h
  replace H := Option.bind_eq_some_iff.mp H
  obtain ⟨t303, A20, H⟩ := H
  replace H : (some t303) = some r := H
  have A2 := Aside0.mk A20
  clear A20
  obtain rfl := Option.some.inj H
  go_enter Try.func42, Try.ntmps42
  go_wp2_with (first | ((with_reducible refine gate_callee (f := 67) rfl ?_); refine goesL_ (some 5) rfl rfl Try.func67 (by kernel_rfl) rfl #[.int .u64 (IntKind.u64.wrap (a0)), .int .i64 4] rfl (by (try simp only [List.map_toArray, List.map_cons, List.map_nil]); first | rfl) ?_; (with_reducible refine (tenancyref04_put.calls k (IntKind.u64.wrap (a0)) 4 t303 _ A2.out).mono ?_); rintro e w3 ⟨rfl, hb⟩; refine ⟨_, rfl, ?_⟩; have n0_ := Aside0.mk (below_step HB.out hb); clear HB; have HB := n0_; clear n0_; (try clear hb); (try clear hb2); (try clear hk); (try clear hi)))
  go_ret
  exact ⟨by rfl, by exact HB.out⟩

/-! ### tenancyref15_option: function 43 -/
def tenancyref15_option.f (k : Nat) (a0 : Int) (a1 : ByteArray) : Option (ByteArray) := (tenancyref04_Run.f k a1).bind fun bt304 => ((tenancyref04_Put16.f k a0).bind fun t306 => (if t306.size + bt304.1.size ≤ 9223372036854775807 then (some (t306 ++ bt304.1)) else (none)))
theorem tenancyref15_option.mono : ∀ a0 a1 k, LeO (tenancyref15_option.f k a0 a1) (tenancyref15_option.f (k + 1) a0 a1) := by
  intro a0 a1 k
  unfold tenancyref15_option.f
  repeat' first
      | (with_reducible exact tenancyref04_Put16.mono _ _)
      | (with_reducible exact tenancyref04_Run.mono _ _)
      | (with_reducible exact LeO.refl _)
      | (with_reducible exact LeO.none _)
      | (with_reducible refine LeO.ite ?_ ?_)
      | (with_reducible refine LeO.bind ?_ (fun _ => ?_))
      | exact tenancyref04_Put16.mono _ _
      | exact tenancyref04_Run.mono _ _
      | exact LeO.none _
      | refine LeO.ite ?_ ?_
      | refine LeO.bind ?_ (fun _ => ?_)
set_option maxHeartbeats 8000000 in
set_option maxRecDepth 100000 in
theorem tenancyref15_option.calls (k : Nat) (a0 : Int) (a1 : ByteArray) (r : ByteArray) (w : World) (h : tenancyref15_option.f k a0 a1 = some r) :
    Calls Try.prog 43 #[.int .u16 a0, .string a1] w fun e w' => e = .returned (.string r) ∧ Below w.heap.size w w' := by
  have HB := Aside0.mk (Below.refl w.heap.size w)
  have H : ((tenancyref04_Run.f k a1).bind fun bt304 => ((tenancyref04_Put16.f k a0).bind fun t306 => (if t306.size + bt304.1.size ≤ 9223372036854775807 then (some (t306 ++ bt304.1)) else (none)))) = some r := h
  clear h
  replace H := Option.bind_eq_some_iff.mp H
  obtain ⟨⟨t304, t305⟩, A30, H⟩ := H
  replace H : ((tenancyref04_Put16.f k a0).bind fun t306 => (if t306.size + t304.size ≤ 9223372036854775807 then (some (t306 ++ t304)) else (none))) = some r := H
  have A3 := Aside0.mk A30
  clear A30
  replace H := Option.bind_eq_some_iff.mp H
  obtain ⟨t306, A40, H⟩ := H
  replace H : (if t306.size + t304.size ≤ 9223372036854775807 then (some (t306 ++ t304)) else (none)) = some r := H
  have A4 := Aside0.mk A40
  clear A40
  by_cases c5 : t306.size + t304.size ≤ 9223372036854775807
  · rw [if_pos c5] at H
    have c5b0 := eq_true c5
    have c5b1 : decide (t306.size + t304.size ≤ 9223372036854775807) = true := decide_eq_true c5
    try have c5b2 : (9223372036854775807 < t306.size + t304.size) = False := eq_false (Nat.not_lt.2 c5)
    obtain rfl := Option.some.inj H
    go_enter Try.func43, Try.ntmps43
    go_wp2_with (first | ((with_reducible refine gate_callee (f := 34) rfl ?_); refine goesL_ (some 9) rfl rfl Try.func34 (by kernel_rfl) rfl #[.string a1] rfl (by (try simp only [List.map_toArray, List.map_cons, List.map_nil]); first | rfl) ?_; (with_reducible refine (tenancyref04_Run.calls k a1 t304 t305 _ A3.out).mono ?_); rintro e w6 ⟨rfl, hb⟩; refine ⟨_, rfl, ?_⟩; have n0_ := Aside0.mk (below_step HB.out hb); clear HB; have HB := n0_; clear n0_; (try clear hb); (try clear hb2); (try clear hk); (try clear hi)) | ((with_reducible refine gate_callee (f := 35) rfl ?_); refine goesL_ (some 13) rfl rfl Try.func35 (by kernel_rfl) rfl #[.int .u16 a0] rfl (by (try simp only [List.map_toArray, List.map_cons, List.map_nil]); first | rfl) ?_; (with_reducible refine (tenancyref04_Put16.calls k a0 t306 _ A4.out).mono ?_); rintro e w7 ⟨rfl, hb⟩; refine ⟨_, rfl, ?_⟩; have n0_ := Aside0.mk (below_step HB.out hb); clear HB; have HB := n0_; clear n0_; (try clear hb); (try clear hb2); (try clear hk); (try clear hi)))
    go_ret
    exact ⟨by rfl, by exact HB.out⟩
  · rw [if_neg c5] at H
    exact absurd H (by simp)

/-! ### tenancyref04_Put64: function 71 -/
def tenancyref04_Put64.f (k : Nat) (a0 : Int) : Option (ByteArray) := (tenancyref04_put.f k a0 8).bind fun t307 => (some t307)
theorem tenancyref04_Put64.mono : ∀ a0 k, LeO (tenancyref04_Put64.f k a0) (tenancyref04_Put64.f (k + 1) a0) := by
  intro a0 k
  unfold tenancyref04_Put64.f
  repeat' first
      | (with_reducible exact tenancyref04_put.mono _ _ _)
      | (with_reducible exact LeO.refl _)
      | (with_reducible exact LeO.none _)
      | (with_reducible refine LeO.ite ?_ ?_)
      | (with_reducible refine LeO.bind ?_ (fun _ => ?_))
      | exact tenancyref04_put.mono _ _ _
      | exact LeO.none _
      | refine LeO.ite ?_ ?_
      | refine LeO.bind ?_ (fun _ => ?_)
set_option maxHeartbeats 8000000 in
set_option maxRecDepth 100000 in
theorem tenancyref04_Put64.calls (k : Nat) (a0 : Int) (r : ByteArray) (w : World) (h : tenancyref04_Put64.f k a0 = some r) :
    Calls Try.prog 71 #[.int .u64 a0] w fun e w' => e = .returned (.string r) ∧ Below w.heap.size w w' := by
  have HB := Aside0.mk (Below.refl w.heap.size w)
  have H : ((tenancyref04_put.f k a0 8).bind fun t307 => (some t307)) = some r := h
  clear h
  replace H := Option.bind_eq_some_iff.mp H
  obtain ⟨t307, A20, H⟩ := H
  replace H : (some t307) = some r := H
  have A2 := Aside0.mk A20
  clear A20
  obtain rfl := Option.some.inj H
  go_enter Try.func71, Try.ntmps71
  go_wp2_with (first | ((with_reducible refine gate_callee (f := 67) rfl ?_); refine goesL_ (some 4) rfl rfl Try.func67 (by kernel_rfl) rfl #[.int .u64 a0, .int .i64 8] rfl (by (try simp only [List.map_toArray, List.map_cons, List.map_nil]); first | rfl) ?_; (with_reducible refine (tenancyref04_put.calls k a0 8 t307 _ A2.out).mono ?_); rintro e w3 ⟨rfl, hb⟩; refine ⟨_, rfl, ?_⟩; have n0_ := Aside0.mk (below_step HB.out hb); clear HB; have HB := n0_; clear n0_; (try clear hb); (try clear hb2); (try clear hk); (try clear hi)))
  go_ret
  exact ⟨by rfl, by exact HB.out⟩

/-! ### tenancyref04_PutAddr: function 44 -/
def tenancyref04_PutAddr.f (k : Nat) (a0_0 : Int) (a0_1 : Int) : Option (ByteArray) := (tenancyref04_Put64.f k a0_0).bind fun t309 => ((tenancyref04_Put64.f k a0_1).bind fun t310 => (if t309.size + t310.size ≤ 9223372036854775807 then (some (t309 ++ t310)) else (none)))
theorem tenancyref04_PutAddr.mono : ∀ a0 a1 k, LeO (tenancyref04_PutAddr.f k a0 a1) (tenancyref04_PutAddr.f (k + 1) a0 a1) := by
  intro a0 a1 k
  unfold tenancyref04_PutAddr.f
  repeat' first
      | (with_reducible exact tenancyref04_Put64.mono _ _)
      | (with_reducible exact LeO.refl _)
      | (with_reducible exact LeO.none _)
      | (with_reducible refine LeO.ite ?_ ?_)
      | (with_reducible refine LeO.bind ?_ (fun _ => ?_))
      | exact tenancyref04_Put64.mono _ _
      | exact LeO.none _
      | refine LeO.ite ?_ ?_
      | refine LeO.bind ?_ (fun _ => ?_)
def tenancyref04_PutAddr.T1 : Bool × List (List Nat × List Nat) := (true, [([], []), ([0], [0]), ([1], [1]), ([], []), ([3], [3]), ([4, 2], [4]), ([2, 5], [2, 5]), ([6, 5, 0, 1, 2, 3, 4, 5, 6], [6])])
def tenancyref04_PutAddr.B1 : List Nat := [0, 1, 3, 0, 8, 31, 63, 127]
theorem tenancyref04_PutAddr.tab1 : rtab .any (opsOf Try.f44 1) = tenancyref04_PutAddr.T1 := by kernel_rfl
theorem tenancyref04_PutAddr.bits1 : waitsOk tenancyref04_PutAddr.T1.2 tenancyref04_PutAddr.B1 = true := by kernel_rfl
set_option maxHeartbeats 8000000 in
set_option maxRecDepth 100000 in
theorem tenancyref04_PutAddr.calls (k : Nat) (a0_0 : Int) (a0_1 : Int) (r : ByteArray) (w : World) (h : tenancyref04_PutAddr.f k a0_0 a0_1 = some r) :
    Calls Try.prog 44 #[.agg #[.int .u64 a0_0, .int .u64 a0_1]] w fun e w' => e = .returned (.string r) ∧ Below w.heap.size w w' := by
  have hu72 := Try.underlying72
  have HB := Aside0.mk (Below.refl w.heap.size w)
  have H : ((tenancyref04_Put64.f k a0_0).bind fun t309 => ((tenancyref04_Put64.f k a0_1).bind fun t310 => (if t309.size + t310.size ≤ 9223372036854775807 then (some (t309 ++ t310)) else (none)))) = some r := h
  clear h
  replace H := Option.bind_eq_some_iff.mp H
  obtain ⟨t309, A20, H⟩ := H
  replace H : ((tenancyref04_Put64.f k a0_1).bind fun t310 => (if t309.size + t310.size ≤ 9223372036854775807 then (some (t309 ++ t310)) else (none))) = some r := H
  have A2 := Aside0.mk A20
  clear A20
  replace H := Option.bind_eq_some_iff.mp H
  obtain ⟨t310, A30, H⟩ := H
  replace H : (if t309.size + t310.size ≤ 9223372036854775807 then (some (t309 ++ t310)) else (none)) = some r := H
  have A3 := Aside0.mk A30
  clear A30
  by_cases c4 : t309.size + t310.size ≤ 9223372036854775807
  · rw [if_pos c4] at H
    have c4b0 := eq_true c4
    have c4b1 : decide (t309.size + t310.size ≤ 9223372036854775807) = true := decide_eq_true c4
    try have c4b2 : (9223372036854775807 < t309.size + t310.size) = False := eq_false (Nat.not_lt.2 c4)
    obtain rfl := Option.some.inj H
    go_enter Try.func44, Try.ntmps44
    try go_wp2_with (first | ((with_reducible refine gate_dst (N := 1) rfl ?_); refine box_event ?hg (N := 1) ?hd (cs := #[.int .u64 a0_0, .int .u64 a0_1]) (t := 72) ?hr ?_; (case hd => rfl); (case hg => rfl); (case hr => go_simp; done); intro gb308 hg w5 hbox hb; have n0_ := Aside0.mk (below_step HB.out hb); have n1_ := Aside0.mk (hbox); have n2_ := Aside0.mk ((by rw [hg]; exact (below_size HB.out) : w.heap.size ≤ gb308)); have n3_ := Aside0.mk ((by rw [hg]; exact (below_size HB.out) : w.heap.size ≤ gb308)); clear HB; have HB := n0_; have BK308 := n1_; have GW308 := n2_; have GE308 := n3_; clear n0_ n1_ n2_ n3_; clear hb hbox hg))
    have n0_ := Aside0.mk (blk_drew BK308.out)
    have n1_ := Aside0.mk (below_drew1 HB.out)
    clear BK308
    clear HB
    have BK308 := n0_
    have HB := n1_
    clear n0_ n1_
    refine start_ (n := 8) (S := fun w' => w'.cell? ⟨gb308, 0, none⟩ = some (.int .u64 a0_0) ∧ w'.cell? ⟨gb308, 1, none⟩ = some (.int .u64 a0_1)) (ds := []) #[false, false, false, false, false, false, false, false] (by kernel_rfl) rfl rfl ⟨(blk_cell BK308.out 0).trans rfl, (blk_cell BK308.out 1).trans rfl⟩ (fun hHeld => ?_); refine with_tabW tenancyref04_PutAddr.tab1 tenancyref04_PutAddr.bits1 (fun HT_ HW_ => ?_)
    generalize w5.drew = w6 at BK308 HB hHeld ⊢
    refine pure_ (i := 0) (N := some 3) (v := ?_) (a' := ?_) #[true, false, false, false, false, false, false, false] rfl rfl (any_of HT_.out (by kernel_rfl)) (fun _ _ _ h => h) (Or.inl ⟨by rfl, ?_⟩) ?_ ?_
    rotate_left
    · intro w'
      go_simp
      with_reducible rfl
    rotate_left
    · simp only [Act.put, List.setIfInBounds_toArray, List.set_cons_zero, List.set_cons_succ, i64_w, i32_w]
      rfl
    refine pure_ (i := 3) (N := some 6) (v := ?_) (a' := ?_) #[true, false, false, true, false, false, false, false] rfl rfl (any_of HT_.out (by kernel_rfl)) (fun _ _ _ h => h) (Or.inl ⟨by rfl, ?_⟩) ?_ ?_
    rotate_left
    · intro w'
      go_simp
      with_reducible rfl
    rotate_left
    · simp only [Act.put, List.setIfInBounds_toArray, List.set_cons_zero, List.set_cons_succ, i64_w, i32_w]
      rfl
    refine take_ (i := 1) (N := some 4) (v := ?_) (a' := ?_) #[true, true, false, true, false, false, false, false] rfl rfl (take_ofW HT_.out HW_.out (by kernel_rfl)) (fun _ _ _ h => h) (Or.inl ⟨by rfl, ?_⟩) hHeld ?_ ?_
    rotate_left
    · rintro w' ⟨s0, s1⟩
      go_simp
      with_reducible rfl
    rotate_left
    · simp only [Act.put, List.setIfInBounds_toArray, List.set_cons_zero, List.set_cons_succ, i64_w, i32_w]
      rfl
    refine take_ (i := 4) (N := some 7) (v := ?_) (a' := ?_) #[true, true, false, true, true, false, false, false] rfl rfl (take_ofW HT_.out HW_.out (by kernel_rfl)) (fun _ _ _ h => h) (Or.inl ⟨by rfl, ?_⟩) hHeld ?_ ?_
    rotate_left
    · rintro w' ⟨s0, s1⟩
      go_simp
      with_reducible rfl
    rotate_left
    · simp only [Act.put, List.setIfInBounds_toArray, List.set_cons_zero, List.set_cons_succ, i64_w, i32_w]
      rfl
    refine one_ (i := 2) (N := some 5) #[true, true, true, true, true, false, false, false] rfl rfl (one_of HT_.out (by kernel_rfl)) (by decide) (fun K hK => ?_)
    refine goes_ Try.func71 (by kernel_rfl) rfl #[.int .u64 a0_0] (by rfl) rfl rfl (by (try simp only [List.map_toArray, List.map_cons, List.map_nil]); first | rfl) ?_
    with_reducible refine (tenancyref04_Put64.calls k a0_0 t309 _ A2.out).mono ?_
    rintro e w7 ⟨rfl, hb⟩
    refine ⟨_, rfl, ?_⟩
    have n0_ := Aside0.mk (blk_below (g := gb308) (o := .cells #[.int .u64 a0_0, .int .u64 a0_1] 72 (0, 0)) BK308.out hb)
    have n1_ := Aside0.mk (below_step HB.out hb)
    clear BK308
    clear HB
    have BK308 := n0_
    have HB := n1_
    clear n0_ n1_
    (try clear hb)
    (try clear hb2)
    (try clear hk)
    (try clear hi)
    refine hK.out _ _ ⟨(blk_cell BK308.out 0).trans rfl, (blk_cell BK308.out 1).trans rfl⟩ (fun hHeld => ?_)
    clear hK K
    refine norm_ (a' := ?_) ?_ ?_
    rotate_left
    · show Act.put _ (some 5) _ = _
      simp only [Act.put, List.setIfInBounds_toArray, List.set_cons_zero, List.set_cons_succ, i64_w, i32_w]
      rfl
    refine one_ (i := 5) (N := some 8) #[true, true, true, true, true, true, false, false] rfl rfl (one_of HT_.out (by kernel_rfl)) (by decide) (fun K hK => ?_)
    refine goes_ Try.func71 (by kernel_rfl) rfl #[.int .u64 a0_1] (by rfl) rfl rfl (by (try simp only [List.map_toArray, List.map_cons, List.map_nil]); first | rfl) ?_
    with_reducible refine (tenancyref04_Put64.calls k a0_1 t310 _ A3.out).mono ?_
    rintro e w8 ⟨rfl, hb⟩
    refine ⟨_, rfl, ?_⟩
    have n0_ := Aside0.mk (blk_below (g := gb308) (o := .cells #[.int .u64 a0_0, .int .u64 a0_1] 72 (0, 0)) BK308.out hb)
    have n1_ := Aside0.mk (below_step HB.out hb)
    clear BK308
    clear HB
    have BK308 := n0_
    have HB := n1_
    clear n0_ n1_
    (try clear hb)
    (try clear hb2)
    (try clear hk)
    (try clear hi)
    refine hK.out _ _ ⟨(blk_cell BK308.out 0).trans rfl, (blk_cell BK308.out 1).trans rfl⟩ (fun hHeld => ?_)
    clear hK K
    refine norm_ (a' := ?_) ?_ ?_
    rotate_left
    · show Act.put _ (some 8) _ = _
      simp only [Act.put, List.setIfInBounds_toArray, List.set_cons_zero, List.set_cons_succ, i64_w, i32_w]
      rfl
    refine pure_ (i := 6) (N := some 9) (v := ?_) (a' := ?_) #[true, true, true, true, true, true, true, false] rfl rfl (any_of HT_.out (by kernel_rfl)) (fun _ _ _ h => h) (Or.inl ⟨by rfl, ?_⟩) ?_ ?_
    rotate_left
    · intro w'
      go_simp
      with_reducible rfl
    rotate_left
    · simp only [Act.put, List.setIfInBounds_toArray, List.set_cons_zero, List.set_cons_succ, i64_w, i32_w]
      rfl
    refine pure_ (i := 7) (N := some 2) (v := ?_) (a' := ?_) #[true, true, true, true, true, true, true, true] rfl rfl (any_of HT_.out (by kernel_rfl)) (fun _ _ _ h => h) (Or.inl ⟨by rfl, ?_⟩) ?_ ?_
    rotate_left
    · intro w'
      go_simp
      with_reducible rfl
    rotate_left
    · simp only [Act.put, List.setIfInBounds_toArray, List.set_cons_zero, List.set_cons_succ, i64_w, i32_w]
      rfl
    refine done_ (done_of HT_.out (by kernel_rfl)) ?_
    try go_wp2
    go_ret
    exact ⟨by rfl, by exact HB.out⟩
  · rw [if_neg c4] at H
    exact absurd H (by simp)

/-! ### tenancyref15_statusOption: function 45 -/
def tenancyref15_statusOption.f (k : Nat) (a0 : Int) : Option (ByteArray) := if a0 < 0 then (some (⟨#[]⟩ : ByteArray)) else ((tenancyref15_PutStatus.f k a0).bind fun t311 => ((tenancyref15_option.f k 13 t311).bind fun t312 => (some t312)))
theorem tenancyref15_statusOption.mono : ∀ a0 k, LeO (tenancyref15_statusOption.f k a0) (tenancyref15_statusOption.f (k + 1) a0) := by
  intro a0 k
  unfold tenancyref15_statusOption.f
  repeat' first
      | (with_reducible exact tenancyref15_PutStatus.mono _ _)
      | (with_reducible exact tenancyref15_option.mono _ _ _)
      | (with_reducible exact LeO.refl _)
      | (with_reducible exact LeO.none _)
      | (with_reducible refine LeO.ite ?_ ?_)
      | (with_reducible refine LeO.bind ?_ (fun _ => ?_))
      | exact tenancyref15_PutStatus.mono _ _
      | exact tenancyref15_option.mono _ _ _
      | exact LeO.none _
      | refine LeO.ite ?_ ?_
      | refine LeO.bind ?_ (fun _ => ?_)
set_option maxHeartbeats 8000000 in
set_option maxRecDepth 100000 in
theorem tenancyref15_statusOption.calls (k : Nat) (a0 : Int) (r : ByteArray) (w : World) (h : tenancyref15_statusOption.f k a0 = some r) :
    Calls Try.prog 45 #[.int .i64 a0] w fun e w' => e = .returned (.string r) ∧ Below w.heap.size w w' := by
  have HB := Aside0.mk (Below.refl w.heap.size w)
  have H : (if a0 < 0 then (some (⟨#[]⟩ : ByteArray)) else ((tenancyref15_PutStatus.f k a0).bind fun t311 => ((tenancyref15_option.f k 13 t311).bind fun t312 => (some t312)))) = some r := h
  clear h
  by_cases c2 : a0 < 0
  · rw [if_pos c2] at H
    have c2b0 : decide (a0 < 0) = true := decide_eq_true c2
    clear c2
    obtain rfl := Option.some.inj H
    go_enter Try.func45, Try.ntmps45
    go_wp2
    go_ret
    exact ⟨by rfl, by exact HB.out⟩
  · rw [if_neg c2] at H
    have c2b0 : decide (a0 < 0) = false := decide_eq_false c2
    clear c2
    replace H := Option.bind_eq_some_iff.mp H
    obtain ⟨t311, A30, H⟩ := H
    replace H : ((tenancyref15_option.f k 13 t311).bind fun t312 => (some t312)) = some r := H
    have A3 := Aside0.mk A30
    clear A30
    replace H := Option.bind_eq_some_iff.mp H
    obtain ⟨t312, A40, H⟩ := H
    replace H : (some t312) = some r := H
    have A4 := Aside0.mk A40
    clear A40
    obtain rfl := Option.some.inj H
    go_enter Try.func45, Try.ntmps45
    go_wp2_with (first | ((with_reducible refine gate_callee (f := 18) rfl ?_); refine goesL_ (some 6) rfl rfl Try.func18 (by kernel_rfl) rfl #[.int .i64 a0] rfl (by (try simp only [List.map_toArray, List.map_cons, List.map_nil]); first | rfl) ?_; (with_reducible refine (tenancyref15_PutStatus.calls k a0 t311 _ A3.out).mono ?_); rintro e w5 ⟨rfl, hb⟩; refine ⟨_, rfl, ?_⟩; have n0_ := Aside0.mk (below_step HB.out hb); clear HB; have HB := n0_; clear n0_; (try clear hb); (try clear hb2); (try clear hk); (try clear hi)) | ((with_reducible refine gate_callee (f := 43) rfl ?_); refine goesL_ (some 7) rfl rfl Try.func43 (by kernel_rfl) rfl #[.int .u16 13, .string t311] rfl (by (try simp only [List.map_toArray, List.map_cons, List.map_nil]); first | rfl) ?_; (with_reducible refine (tenancyref15_option.calls k 13 t311 t312 _ A4.out).mono ?_); rintro e w6 ⟨rfl, hb⟩; refine ⟨_, rfl, ?_⟩; have n0_ := Aside0.mk (below_step HB.out hb); clear HB; have HB := n0_; clear n0_; (try clear hb); (try clear hb2); (try clear hk); (try clear hi)))
    go_ret
    exact ⟨by rfl, by exact HB.out⟩

/-! ### tenancyref15_Code: function 46 -/
def tenancyref15_Code.f (a0 : Int) : Option (Int) := if a0 = 2 then (some 3) else (if a0 = 3 then (some 4) else (some 25))
set_option maxHeartbeats 8000000 in
set_option maxRecDepth 100000 in
theorem tenancyref15_Code.calls (a0 : Int) (r : Int) (w : World) (h : tenancyref15_Code.f a0 = some r) :
    Calls Try.prog 46 #[.int .i64 a0] w fun e w' => e = .returned (.int .u16 r) ∧ Drawn0 w w' := by
  have H : (if a0 = 2 then (some 3) else (if a0 = 3 then (some 4) else (some 25))) = some r := h
  clear h
  by_cases c2 : a0 = 2
  · rw [if_pos c2] at H
    have c2b0 : (a0 == 2) = true := beq_iff_eq.mpr c2
    have c2b1 : (a0 != 2) = false := bne_eq_false_iff_eq.mpr c2
    clear c2
    obtain rfl := Option.some.inj H
    go_enter Try.func46, Try.ntmps46
    go_wp2
    go_ret
    exact ⟨by rfl, by repeat (first | exact Drawn0.refl _)⟩
  · rw [if_neg c2] at H
    have c2b0 : (a0 == 2) = false := beq_eq_false_iff_ne.mpr c2
    have c2b1 : (a0 != 2) = true := bne_iff_ne.mpr c2
    by_cases c3 : a0 = 3
    · rw [if_pos c3] at H
      have c3b0 : (a0 == 3) = true := beq_iff_eq.mpr c3
      have c3b1 : (a0 != 3) = false := bne_eq_false_iff_eq.mpr c3
      clear c3
      obtain rfl := Option.some.inj H
      go_enter Try.func46, Try.ntmps46
      go_wp2
      go_ret
      exact ⟨by rfl, by repeat (first | exact Drawn0.refl _)⟩
    · rw [if_neg c3] at H
      have c3b0 : (a0 == 3) = false := beq_eq_false_iff_ne.mpr c3
      have c3b1 : (a0 != 3) = true := bne_iff_ne.mpr c3
      obtain rfl := Option.some.inj H
      go_enter Try.func46, Try.ntmps46
      go_wp2
      go_ret
      exact ⟨by rfl, by repeat (first | exact Drawn0.refl _)⟩

end Go.Proofs.Ytngojiikkokajaa.X
