/- Functions of the program as Lean functions, and that the calls come to them: no condition.  By this session's own program (wip/xprint). -/
import Derived.Test.YthadapbekmmgpaaEX0
import Derived.Test.YthadapbekmmgpaaEX4
namespace Go.Proofs.Ythadapbekmmgpaa.X
open Go.RowKit Go.Proofs.YthadapbekmmgpaaW.PrintWords Go.Proofs.YthadapbekmmgpaaW.PrintLast Go.Proofs.YthadapbekmmgpaaW.PrintMore
attribute [local go_sem] max2_int min2_int max_two min_two max_three min_three max_four min_four
set_option linter.unusedVariables false
set_option linter.unusedSimpArgs false

mutual
def tenancyref15_Sound.j0 : Nat → Bool → Int → Int → Int → Int → List (S58) → Int → Option (Bool)
  | 0, _, _, _, _, _, _, _ => none
  | k + 1, x39, x306000, x306001, x306002, x306003, x306004, x306005 => if x39 = true then (some false) else (tenancyref15_Sound.l0 k 0 x306000 x306001 x306002 x306003 x306004 x306005)
def tenancyref15_Sound.l0 : Nat → Int → Int → Int → Int → Int → List (S58) → Int → Option (Bool)
  | 0, _, _, _, _, _, _, _ => none
  | k + 1, x3, x306000, x306001, x306002, x306003, x306004, x306005 => if x3 < (x306004.length : Int) then (if 0 ≤ x3 then ((tenancyref15_status.f ((rd_T58 x306004 x3).f3)).bind fun t310 => (if t310 = true then ((tenancyref01_Sound.f k ((rd_T58 x306004 x3).f0.f0.f0) ((rd_T58 x306004 x3).f0.f0.f1) ((rd_T58 x306004 x3).f0.f1)).bind fun t311 => (if t311 = true then (if x306000 = 4 then (tenancyref15_Sound.l0 k (wrap64 (x3 + 1)) x306000 x306001 x306002 x306003 x306004 x306005) else (if ((rd_T58 x306004 x3).f0.f1) = 128 then (tenancyref15_Sound.l0 k (wrap64 (x3 + 1)) x306000 x306001 x306002 x306003 x306004 x306005) else (some false))) else (some false))) else (some false))) else (none)) else (some true)
end
def tenancyref15_Sound.f (k : Nat) (a0_0 : Int) (a0_1 : Int) (a0_2 : Int) (a0_3 : Int) (l0_4 : List (S58)) (a0_5 : Int) : Option (Bool) := if a0_0 < 2 then (tenancyref15_Sound.j0 k true a0_0 a0_1 a0_2 a0_3 l0_4 a0_5) else (if a0_0 > 4 then (tenancyref15_Sound.j0 k true a0_0 a0_1 a0_2 a0_3 l0_4 a0_5) else (if a0_0 = 3 then (if a0_2 = 0 then (if a0_3 = 0 then (if (l0_4.length : Int) > 8 then (tenancyref15_Sound.j0 k true a0_0 a0_1 a0_2 a0_3 l0_4 a0_5) else ((tenancyref15_status.f a0_5).bind fun t306 => (tenancyref15_Sound.j0 k (!t306) a0_0 a0_1 a0_2 a0_3 l0_4 a0_5))) else (tenancyref15_Sound.j0 k true a0_0 a0_1 a0_2 a0_3 l0_4 a0_5)) else (tenancyref15_Sound.j0 k true a0_0 a0_1 a0_2 a0_3 l0_4 a0_5)) else (if (l0_4.length : Int) > 8 then (tenancyref15_Sound.j0 k true a0_0 a0_1 a0_2 a0_3 l0_4 a0_5) else ((tenancyref15_status.f a0_5).bind fun t307 => (tenancyref15_Sound.j0 k (!t307) a0_0 a0_1 a0_2 a0_3 l0_4 a0_5)))))
set_option maxHeartbeats 8000000 in
set_option maxRecDepth 100000 in
theorem tenancyref15_Sound.calls (k : Nat) (a0_0 : Int) (a0_1 : Int) (a0_2 : Int) (a0_3 : Int) (A0_4 : Option Addr) (c0_4 : Nat) (l0_4 : List (S58)) (a0_5 : Int) (r : Bool) (w : World) (hr0_4 : Kd.C k58 w A0_4 l0_4.length l0_4) (hc0_4 : l0_4.length ≤ c0_4) (h : tenancyref15_Sound.f k a0_0 a0_1 a0_2 a0_3 l0_4 a0_5 = some r) :
 Calls Try.prog 69 #[.agg #[.int .i64 a0_0, .int .u32 a0_1, .int .u32 a0_2, .int .u32 a0_3, .slice A0_4 l0_4.length c0_4, .int .i64 a0_5]] w fun e w' => e = .returned (.bool r) ∧ Below w.heap.size w w' := by
 have hu51 := Try.underlying51
 have hu58 := Try.underlying58
 have hu56 := Try.underlying56
 have HR0_4 := ak_ hr0_4
 have HC0_4 := ak_ hc0_4
 clear hr0_4 hc0_4
 have HB := ak_ (Below.refl w.heap.size w)
 have H : (if a0_0 < 2 then (tenancyref15_Sound.j0 k true a0_0 a0_1 a0_2 a0_3 l0_4 a0_5) else (if a0_0 > 4 then (tenancyref15_Sound.j0 k true a0_0 a0_1 a0_2 a0_3 l0_4 a0_5) else (if a0_0 = 3 then (if a0_2 = 0 then (if a0_3 = 0 then (if (l0_4.length : Int) > 8 then (tenancyref15_Sound.j0 k true a0_0 a0_1 a0_2 a0_3 l0_4 a0_5) else ((tenancyref15_status.f a0_5).bind fun t306 => (tenancyref15_Sound.j0 k (!t306) a0_0 a0_1 a0_2 a0_3 l0_4 a0_5))) else (tenancyref15_Sound.j0 k true a0_0 a0_1 a0_2 a0_3 l0_4 a0_5)) else (tenancyref15_Sound.j0 k true a0_0 a0_1 a0_2 a0_3 l0_4 a0_5)) else (if (l0_4.length : Int) > 8 then (tenancyref15_Sound.j0 k true a0_0 a0_1 a0_2 a0_3 l0_4 a0_5) else ((tenancyref15_status.f a0_5).bind fun t307 => (tenancyref15_Sound.j0 k (!t307) a0_0 a0_1 a0_2 a0_3 l0_4 a0_5)))))) = some r := h
 clear h
 have HC2 := ak_ H
 clear H
 go_enter Try.func69, Try.ntmps69
 go_upto_region 1 with (first | ((with_reducible refine gate_dst (N := 1) rfl ?_); (try (refine gate_guard (by rfl) ?_; dsimp only)); refine box_event ?hg (N := 1) ?hd (cs := #[.int .i64 a0_0, .int .u32 a0_1, .int .u32 a0_2, .int .u32 a0_3, .slice A0_4 l0_4.length c0_4, .int .i64 a0_5]) (t := 51) ?hr ?_; (case hd => rfl); (case hg => rfl); (case hr => go_simp; done); intro gb305 hg w3 hbox hb; have BK305 := ak_ hbox; have GW305 := gz_ HB hg; have GE305 := gz_ HB hg; replace HB := bs_ HB hb; clear hb hbox hg))
 (try simp only [Act.put, List.setIfInBounds_toArray, List.set_cons_zero, List.set_cons_succ])
 go_cut [39] (fun v39 wc => ∃ (kq : Nat) (x39_1 : Bool), v39 = .bool x39_1 ∧ Aside0 (tenancyref15_Sound.j0 kq x39_1 a0_0 a0_1 a0_2 a0_3 l0_4 a0_5 = some r) ∧ Aside0 (kq ≤ k) ∧ Aside0 (wc.heap[gb305]? = some (.cells #[.int .i64 a0_0, .int .u32 a0_1, .int .u32 a0_2, .int .u32 a0_3, (.slice A0_4 l0_4.length c0_4), .int .i64 a0_5] 51 (0, 0))) ∧ Aside0 (Below w.heap.size w wc))
 case first =>
  have H := HC2.out
  clear HC2
  by_cases c4 : a0_0 < 2
  ·rw [if_pos c4] at H
   have c4b0 : decide (a0_0 < 2) = true := decide_eq_true c4
   clear c4
   (first | skip)
   have H' := ak_ H
   clear H
   have hz5 := bz6_ BK305
   go_wp2
   go_meet
   case rel => exact ⟨_, (true), (by rfl), H', ⟨by omega⟩, ⟨by exact BK305.out⟩, ⟨by exact HB.out⟩⟩
  rw [if_neg c4] at H
  have c4b0 : decide (a0_0 < 2) = false := decide_eq_false c4
  clear c4
  (first | skip)
  by_cases c6 : a0_0 > 4
  ·rw [if_pos c6] at H
   have c6b0 : decide (4 < a0_0) = true := decide_eq_true c6
   clear c6
   have H' := ak_ H
   clear H
   have hz7 := bz6_ BK305
   go_wp2
   go_meet
   case rel => exact ⟨_, (true), (by rfl), H', ⟨by omega⟩, ⟨by exact BK305.out⟩, ⟨by exact HB.out⟩⟩
  rw [if_neg c6] at H
  have c6b0 : decide (4 < a0_0) = false := decide_eq_false c6
  clear c6
  by_cases c8 : a0_0 = 3
  ·rw [if_pos c8] at H
   have c8b0 : (a0_0 == 3) = true := beq_iff_eq.mpr c8
   have c8b1 : (a0_0 != 3) = false := bne_eq_false_iff_eq.mpr c8
   clear c8
   by_cases c9 : a0_2 = 0
   ·rw [if_pos c9] at H
    have c9b0 : (a0_2 == 0) = true := beq_iff_eq.mpr c9
    have c9b1 : (a0_2 != 0) = false := bne_eq_false_iff_eq.mpr c9
    clear c9
    by_cases c10 : a0_3 = 0
    ·rw [if_pos c10] at H
     have c10b0 : (a0_3 == 0) = true := beq_iff_eq.mpr c10
     have c10b1 : (a0_3 != 0) = false := bne_eq_false_iff_eq.mpr c10
     clear c10
     by_cases c11 : (l0_4.length : Int) > 8
     ·rw [if_pos c11] at H
      have c11b0 : decide (8 < (l0_4.length : Int)) = true := decide_eq_true c11
      have c11b1 : decide (8 < l0_4.length) = true := decide_eq_true (by omega)
      clear c11
      have H' := ak_ H
      clear H
      have hz12 := bz6_ BK305
      go_wp2
      go_meet
      case rel => exact ⟨_, (true), (by rfl), H', ⟨by omega⟩, ⟨by exact BK305.out⟩, ⟨by exact HB.out⟩⟩
     rw [if_neg c11] at H
     have c11b0 : decide (8 < (l0_4.length : Int)) = false := decide_eq_false c11
     have c11b1 : decide (8 < l0_4.length) = false := decide_eq_false (by omega)
     clear c11
     replace H := Option.bind_eq_some_iff.mp H
     obtain ⟨t306, A130, H⟩ := H
     replace H : (tenancyref15_Sound.j0 k (!t306) a0_0 a0_1 a0_2 a0_3 l0_4 a0_5) = some r := H
     have A13 := ak_ A130
     clear A130
     have H' := ak_ H
     clear H
     have hz14 := bz6_ BK305
     go_wp2_with (first | (go_at_call 92; (with_reducible refine (tenancyref15_status.calls a0_5 t306 _ A13.out).mono ?_); rintro e w' ⟨rfl, ⟨nd, rfl⟩⟩))
     go_meet
     case rel => exact ⟨_, (!t306), (by rfl), H', ⟨by omega⟩, ⟨by (with_reducible repeat (first | refine blk_drewN ?_ _)); exact BK305.out⟩, ⟨by repeat (first | (with_reducible first | exact HB.out | apply pw_below_drewN))⟩⟩
    rw [if_neg c10] at H
    have c10b0 : (a0_3 == 0) = false := beq_eq_false_iff_ne.mpr c10
    have c10b1 : (a0_3 != 0) = true := bne_iff_ne.mpr c10
    have H' := ak_ H
    clear H
    have hz15 := bz6_ BK305
    go_wp2
    go_meet
    case rel => exact ⟨_, (true), (by rfl), H', ⟨by omega⟩, ⟨by exact BK305.out⟩, ⟨by exact HB.out⟩⟩
   rw [if_neg c9] at H
   have c9b0 : (a0_2 == 0) = false := beq_eq_false_iff_ne.mpr c9
   have c9b1 : (a0_2 != 0) = true := bne_iff_ne.mpr c9
   have H' := ak_ H
   clear H
   have hz16 := bz6_ BK305
   go_wp2
   go_meet
   case rel => exact ⟨_, (true), (by rfl), H', ⟨by omega⟩, ⟨by exact BK305.out⟩, ⟨by exact HB.out⟩⟩
  rw [if_neg c8] at H
  have c8b0 : (a0_0 == 3) = false := beq_eq_false_iff_ne.mpr c8
  have c8b1 : (a0_0 != 3) = true := bne_iff_ne.mpr c8
  by_cases c17 : (l0_4.length : Int) > 8
  ·rw [if_pos c17] at H
   have c17b0 : decide (8 < (l0_4.length : Int)) = true := decide_eq_true c17
   have c17b1 : decide (8 < l0_4.length) = true := decide_eq_true (by omega)
   clear c17
   have H' := ak_ H
   clear H
   have hz18 := bz6_ BK305
   go_wp2
   go_meet
   case rel => exact ⟨_, (true), (by rfl), H', ⟨by omega⟩, ⟨by exact BK305.out⟩, ⟨by exact HB.out⟩⟩
  rw [if_neg c17] at H
  have c17b0 : decide (8 < (l0_4.length : Int)) = false := decide_eq_false c17
  have c17b1 : decide (8 < l0_4.length) = false := decide_eq_false (by omega)
  clear c17
  replace H := Option.bind_eq_some_iff.mp H
  obtain ⟨t307, A190, H⟩ := H
  replace H : (tenancyref15_Sound.j0 k (!t307) a0_0 a0_1 a0_2 a0_3 l0_4 a0_5) = some r := H
  have A19 := ak_ A190
  clear A190
  have H' := ak_ H
  clear H
  have hz20 := bz6_ BK305
  go_wp2_with (first | (go_at_call 92; (with_reducible refine (tenancyref15_status.calls a0_5 t307 _ A19.out).mono ?_); rintro e w' ⟨rfl, ⟨nd, rfl⟩⟩))
  go_meet
  case rel => exact ⟨_, (!t307), (by rfl), H', ⟨by omega⟩, ⟨by (with_reducible repeat (first | refine blk_drewN ?_ _)); exact BK305.out⟩, ⟨by repeat (first | (with_reducible first | exact HB.out | apply pw_below_drewN))⟩⟩
 case rest =>
 clear HC2
 try clear c1
 try clear p2
 try clear c4
 try clear c4b0
 try clear c6
 try clear c6b0
 try clear c8
 try clear c8b0
 try clear c8b1
 try clear c9
 try clear c9b0
 try clear c9b1
 try clear c10
 try clear c10b0
 try clear c10b1
 try clear c11
 try clear c11b0
 try clear c11b1
 try clear c17
 try clear c17b0
 try clear c17b1
 try clear hz12
 try clear hz14
 try clear hz15
 try clear hz16
 try clear hz18
 try clear hz20
 try clear hz5
 try clear hz7
 obtain ⟨kq, x39_1, rfl, HA, HJ1, BK305, HB⟩ := hcut
 cases kq with
 | zero => exact absurd HA.out (by simp [tenancyref15_Sound.j0])
 | succ kj1 =>
 have H := HA.out
 clear HA
 simp only [tenancyref15_Sound.j0] at H
 by_cases c21 : x39_1 = true
 ·subst c21
  have H1 : (some false) = some r := by rw [if_pos rfl] at H; exact H
  clear H
  have H := H1
  clear H1
  obtain rfl := Option.some.inj H
  go_wp2
  go_ret
  exact ⟨by rfl, by exact HB.out⟩
 replace c21 := Bool.eq_false_iff.mpr c21
 subst c21
 have H1 : (tenancyref15_Sound.l0 kj1 0 a0_0 a0_1 a0_2 a0_3 l0_4 a0_5) = some r := by rw [if_neg (show ¬ (false = true) by decide)] at H; exact H
 clear H
 have H := H1
 clear H1
 have H' := ak_ H
 clear H
 go_wp2
 go_loopg [3] kj1 (fun kq v3 w' => ∃ (x3_2 : Int), v3 = .int .i64 x3_2 ∧ Aside0 (tenancyref15_Sound.l0 kq x3_2 a0_0 a0_1 a0_2 a0_3 l0_4 a0_5 = some r) ∧ Aside0 (kq ≤ kj1) ∧ Aside0 (w'.heap[gb305]? = some (.cells #[.int .i64 a0_0, .int .u32 a0_1, .int .u32 a0_2, .int .u32 a0_3, (.slice A0_4 l0_4.length c0_4), .int .i64 a0_5] 51 (0, 0))) ∧ Aside0 (Below w.heap.size w w'))
 case atStart => exact ⟨(0), (by rfl), H', ⟨Nat.le_refl _⟩, ⟨by exact BK305.out⟩, ⟨by exact HB.out⟩⟩
 case round =>
 clear H'
 try clear c1
 try clear c2
 try clear p2
 try clear c4
 try clear c4b0
 try clear c6
 try clear c6b0
 try clear c8
 try clear c8b0
 try clear c8b1
 try clear c9
 try clear c9b0
 try clear c9b1
 try clear c10
 try clear c10b0
 try clear c10b1
 try clear c11
 try clear c11b0
 try clear c11b1
 try clear c17
 try clear c17b0
 try clear c17b1
 try clear c21
 try clear hz12
 try clear hz14
 try clear hz15
 try clear hz16
 try clear hz18
 try clear hz20
 try clear hz5
 try clear hz7
 try clear p2
 obtain ⟨x3_2, rfl, HA, HK2, BK305, HB⟩ := hrel
 cases gk with
 | zero => exact absurd HA.out (by simp [tenancyref15_Sound.l0])
 | succ k2 =>
 have H := HA.out
 clear HA
 simp only [tenancyref15_Sound.l0] at H
 by_cases c22 : x3_2 < (l0_4.length : Int)
 ·rw [if_pos c22] at H
  have c22b0 : decide (x3_2 < (l0_4.length : Int)) = true := decide_eq_true c22
  clear c22
  by_cases c23 : 0 ≤ x3_2
  ·rw [if_pos c23] at H
   have c23b0 : decide (0 ≤ x3_2) = true := decide_eq_true c23
   clear c23
   replace H := Option.bind_eq_some_iff.mp H
   obtain ⟨t310, A240, H⟩ := H
   replace H : (if t310 = true then ((tenancyref01_Sound.f k2 ((rd_T58 l0_4 x3_2).f0.f0.f0) ((rd_T58 l0_4 x3_2).f0.f0.f1) ((rd_T58 l0_4 x3_2).f0.f1)).bind fun t311 => (if t311 = true then (if a0_0 = 4 then (tenancyref15_Sound.l0 k2 (wrap64 (x3_2 + 1)) a0_0 a0_1 a0_2 a0_3 l0_4 a0_5) else (if ((rd_T58 l0_4 x3_2).f0.f1) = 128 then (tenancyref15_Sound.l0 k2 (wrap64 (x3_2 + 1)) a0_0 a0_1 a0_2 a0_3 l0_4 a0_5) else (some false))) else (some false))) else (some false)) = some r := H
   have A24 := ak_ A240
   clear A240
   by_cases c25 : t310 = true
   ·subst c25
    have H1 : ((tenancyref01_Sound.f k2 ((rd_T58 l0_4 x3_2).f0.f0.f0) ((rd_T58 l0_4 x3_2).f0.f0.f1) ((rd_T58 l0_4 x3_2).f0.f1)).bind fun t311 => (if t311 = true then (if a0_0 = 4 then (tenancyref15_Sound.l0 k2 (wrap64 (x3_2 + 1)) a0_0 a0_1 a0_2 a0_3 l0_4 a0_5) else (if ((rd_T58 l0_4 x3_2).f0.f1) = 128 then (tenancyref15_Sound.l0 k2 (wrap64 (x3_2 + 1)) a0_0 a0_1 a0_2 a0_3 l0_4 a0_5) else (some false))) else (some false))) = some r := by rw [if_pos rfl] at H; exact H
    clear H
    have H := H1
    clear H1
    replace H := Option.bind_eq_some_iff.mp H
    obtain ⟨t311, A260, H⟩ := H
    replace H : (if t311 = true then (if a0_0 = 4 then (tenancyref15_Sound.l0 k2 (wrap64 (x3_2 + 1)) a0_0 a0_1 a0_2 a0_3 l0_4 a0_5) else (if ((rd_T58 l0_4 x3_2).f0.f1) = 128 then (tenancyref15_Sound.l0 k2 (wrap64 (x3_2 + 1)) a0_0 a0_1 a0_2 a0_3 l0_4 a0_5) else (some false))) else (some false)) = some r := H
    have A26 := ak_ A260
    clear A260
    by_cases c27 : t311 = true
    ·subst c27
     have H1 : (if a0_0 = 4 then (tenancyref15_Sound.l0 k2 (wrap64 (x3_2 + 1)) a0_0 a0_1 a0_2 a0_3 l0_4 a0_5) else (if ((rd_T58 l0_4 x3_2).f0.f1) = 128 then (tenancyref15_Sound.l0 k2 (wrap64 (x3_2 + 1)) a0_0 a0_1 a0_2 a0_3 l0_4 a0_5) else (some false))) = some r := by rw [if_pos rfl] at H; exact H
     clear H
     have H := H1
     clear H1
     by_cases c28 : a0_0 = 4
     ·rw [if_pos c28] at H
      have c28b0 : (a0_0 == 4) = true := beq_iff_eq.mpr c28
      have c28b1 : (a0_0 != 4) = false := bne_eq_false_iff_eq.mpr c28
      clear c28
      have H' := ak_ H
      clear H
      have hz29 := bz6_ BK305
      have p308 : 0 ≤ (x3_2 : Int) := of_decide_eq_true (by first | (with_reducible assumption))
      have q308 : x3_2 < (l0_4.length : Int) := of_decide_eq_true (by first | (with_reducible assumption))
      obtain ⟨ad308, e308, hx308_0, hx308_1, hx308_2, hx308_3, hx308_4, hx308_5⟩ := at_T58 HR0_4.out x3_2 p308 q308
      cases e308
      replace hx308_0 := (HB.out.cell (World.block_lt_of_cell? w _ hx308_0)).trans hx308_0
      replace hx308_1 := (HB.out.cell (World.block_lt_of_cell? w _ hx308_1)).trans hx308_1
      replace hx308_2 := (HB.out.cell (World.block_lt_of_cell? w _ hx308_2)).trans hx308_2
      replace hx308_3 := (HB.out.cell (World.block_lt_of_cell? w _ hx308_3)).trans hx308_3
      replace hx308_4 := (HB.out.cell (World.block_lt_of_cell? w _ hx308_4)).trans hx308_4
      replace hx308_5 := (HB.out.cell (World.block_lt_of_cell? w _ hx308_5)).trans hx308_5
      replace p308 := eq_true p308
      replace q308 := eq_true q308
      go_wp2_with (first | ((with_reducible refine gate_dst (N := 4) rfl ?_); (try (refine gate_guard (by rfl) ?_; dsimp only)); refine box_event ?hg (N := 4) ?hd (cs := #[.int .u64 0, .int .u64 0, .int .i64 0, .int .u32 0, .int .u32 0, .int .i64 0]) (t := 58) ?hr ?_; (case hd => rfl); (case hg => rfl); (case hr => go_simp; done); intro gb309 hg w30 hbox hb; have BK309 := ak_ hbox; have GW309 := gz_ HB hg; have GE309 := gz_ HB hg; replace HB := bs_ HB hb; have NB305_309 := gl_ BK305 hg; have NB309_305 := gr_ BK305 hg; replace BK305 := bb_ BK305 hb; clear hb hbox hg; have hnb31 := NB309_305.out; have hnc31 := NB305_309.out; have hz32 := bz6_ BK309) | ((with_reducible refine gate_callee (f := 92) rfl ?_); refine goesL_ (some 54) rfl rfl Try.func92 (by kernel_rfl) rfl #[.int .i64 ((rd_T58 l0_4 x3_2).f3)] rfl (by (try simp only [List.map_toArray, List.map_cons, List.map_nil]); first | rfl) ?_; (with_reducible refine (tenancyref15_status.calls ((rd_T58 l0_4 x3_2).f3) true _ A24.out).mono ?_); rintro e w' ⟨rfl, ⟨nd, rfl⟩⟩; refine ⟨_, rfl, ?_⟩) | (go_at_call 93; (with_reducible refine (tenancyref01_Sound.calls k2 ((rd_T58 l0_4 x3_2).f0.f0.f0) ((rd_T58 l0_4 x3_2).f0.f0.f1) ((rd_T58 l0_4 x3_2).f0.f1) true _ A26.out).mono ?_); rintro e w33 ⟨rfl, hb⟩; replace BK305 := ak_ (blk_below (g := gb305) (o := .cells #[.int .i64 a0_0, .int .u32 a0_1, .int .u32 a0_2, .int .u32 a0_3, .slice (some ad308) l0_4.length c0_4, .int .i64 a0_5] 51 (0, 0)) (by (with_reducible repeat (first | refine blk_drewN ?_ _)); refine blk_far ?_ NB305_309.out _; refine blk_far ?_ NB305_309.out _; refine blk_far ?_ NB305_309.out _; refine blk_far ?_ NB305_309.out _; refine blk_far ?_ NB305_309.out _; refine blk_far ?_ NB305_309.out _; exact BK305.out) hb); replace BK309 := ak_ (blk_below (g := gb309) (o := .cells #[.int .u64 ((rd_T58 l0_4 x3_2).f0.f0.f0), .int .u64 ((rd_T58 l0_4 x3_2).f0.f0.f1), .int .i64 ((rd_T58 l0_4 x3_2).f0.f1), .int .u32 ((rd_T58 l0_4 x3_2).f1), .int .u32 ((rd_T58 l0_4 x3_2).f2), .int .i64 ((rd_T58 l0_4 x3_2).f3)] 58 (0, 0)) (by (with_reducible repeat (first | refine blk_drewN ?_ _)); refine blk_put (cs := #[.int .u64 ((rd_T58 l0_4 x3_2).f0.f0.f0), .int .u64 ((rd_T58 l0_4 x3_2).f0.f0.f1), .int .i64 ((rd_T58 l0_4 x3_2).f0.f1), .int .u32 ((rd_T58 l0_4 x3_2).f1), .int .u32 ((rd_T58 l0_4 x3_2).f2), .int .i64 0]) ?_ 5 _ rfl; refine blk_put (cs := #[.int .u64 ((rd_T58 l0_4 x3_2).f0.f0.f0), .int .u64 ((rd_T58 l0_4 x3_2).f0.f0.f1), .int .i64 ((rd_T58 l0_4 x3_2).f0.f1), .int .u32 ((rd_T58 l0_4 x3_2).f1), .int .u32 0, .int .i64 0]) ?_ 4 _ rfl; refine blk_put (cs := #[.int .u64 ((rd_T58 l0_4 x3_2).f0.f0.f0), .int .u64 ((rd_T58 l0_4 x3_2).f0.f0.f1), .int .i64 ((rd_T58 l0_4 x3_2).f0.f1), .int .u32 0, .int .u32 0, .int .i64 0]) ?_ 3 _ rfl; refine blk_put (cs := #[.int .u64 ((rd_T58 l0_4 x3_2).f0.f0.f0), .int .u64 ((rd_T58 l0_4 x3_2).f0.f0.f1), .int .i64 0, .int .u32 0, .int .u32 0, .int .i64 0]) ?_ 2 _ rfl; refine blk_put (cs := #[.int .u64 ((rd_T58 l0_4 x3_2).f0.f0.f0), .int .u64 0, .int .i64 0, .int .u32 0, .int .u32 0, .int .i64 0]) ?_ 1 _ rfl; refine blk_put (cs := #[.int .u64 0, .int .u64 0, .int .i64 0, .int .u32 0, .int .u32 0, .int .i64 0]) ?_ 0 _ rfl; exact BK309.out) hb); replace HB := ak_ (below_step (by repeat (first | (with_reducible first | exact HB.out | apply pw_below_drewN | refine below_set ?_ GE309.out))) hb); (try clear hb); have hz34 := bz6_ BK305))
      go_roundg k2
      case measure => have := HJ1.out; have := HK2.out; omega
      case rel => exact ⟨(wrap64 (x3_2 + 1)), (by rfl), H', ⟨by have := HJ1.out; have := HK2.out; omega⟩, ⟨by exact BK305.out⟩, ⟨by exact HB.out⟩⟩
     rw [if_neg c28] at H
     have c28b0 : (a0_0 == 4) = false := beq_eq_false_iff_ne.mpr c28
     have c28b1 : (a0_0 != 4) = true := bne_iff_ne.mpr c28
     by_cases c35 : ((rd_T58 l0_4 x3_2).f0.f1) = 128
     ·rw [if_pos c35] at H
      have c35b0 : (((rd_T58 l0_4 x3_2).f0.f1) == 128) = true := beq_iff_eq.mpr c35
      have c35b1 : (((rd_T58 l0_4 x3_2).f0.f1) != 128) = false := bne_eq_false_iff_eq.mpr c35
      clear c35
      have H' := ak_ H
      clear H
      have hz36 := bz6_ BK305
      have p308 : 0 ≤ (x3_2 : Int) := of_decide_eq_true (by first | (with_reducible assumption))
      have q308 : x3_2 < (l0_4.length : Int) := of_decide_eq_true (by first | (with_reducible assumption))
      obtain ⟨ad308, e308, hx308_0, hx308_1, hx308_2, hx308_3, hx308_4, hx308_5⟩ := at_T58 HR0_4.out x3_2 p308 q308
      cases e308
      replace hx308_0 := (HB.out.cell (World.block_lt_of_cell? w _ hx308_0)).trans hx308_0
      replace hx308_1 := (HB.out.cell (World.block_lt_of_cell? w _ hx308_1)).trans hx308_1
      replace hx308_2 := (HB.out.cell (World.block_lt_of_cell? w _ hx308_2)).trans hx308_2
      replace hx308_3 := (HB.out.cell (World.block_lt_of_cell? w _ hx308_3)).trans hx308_3
      replace hx308_4 := (HB.out.cell (World.block_lt_of_cell? w _ hx308_4)).trans hx308_4
      replace hx308_5 := (HB.out.cell (World.block_lt_of_cell? w _ hx308_5)).trans hx308_5
      replace p308 := eq_true p308
      replace q308 := eq_true q308
      go_wp2_with (first | ((with_reducible refine gate_dst (N := 4) rfl ?_); (try (refine gate_guard (by rfl) ?_; dsimp only)); refine box_event ?hg (N := 4) ?hd (cs := #[.int .u64 0, .int .u64 0, .int .i64 0, .int .u32 0, .int .u32 0, .int .i64 0]) (t := 58) ?hr ?_; (case hd => rfl); (case hg => rfl); (case hr => go_simp; done); intro gb309 hg w37 hbox hb; have BK309 := ak_ hbox; have GW309 := gz_ HB hg; have GE309 := gz_ HB hg; replace HB := bs_ HB hb; have NB305_309 := gl_ BK305 hg; have NB309_305 := gr_ BK305 hg; replace BK305 := bb_ BK305 hb; clear hb hbox hg; have hnb38 := NB309_305.out; have hnc38 := NB305_309.out; have hz39 := bz6_ BK309) | ((with_reducible refine gate_callee (f := 92) rfl ?_); refine goesL_ (some 54) rfl rfl Try.func92 (by kernel_rfl) rfl #[.int .i64 ((rd_T58 l0_4 x3_2).f3)] rfl (by (try simp only [List.map_toArray, List.map_cons, List.map_nil]); first | rfl) ?_; (with_reducible refine (tenancyref15_status.calls ((rd_T58 l0_4 x3_2).f3) true _ A24.out).mono ?_); rintro e w' ⟨rfl, ⟨nd, rfl⟩⟩; refine ⟨_, rfl, ?_⟩) | (go_at_call 93; (with_reducible refine (tenancyref01_Sound.calls k2 ((rd_T58 l0_4 x3_2).f0.f0.f0) ((rd_T58 l0_4 x3_2).f0.f0.f1) ((rd_T58 l0_4 x3_2).f0.f1) true _ A26.out).mono ?_); rintro e w40 ⟨rfl, hb⟩; replace BK305 := ak_ (blk_below (g := gb305) (o := .cells #[.int .i64 a0_0, .int .u32 a0_1, .int .u32 a0_2, .int .u32 a0_3, .slice (some ad308) l0_4.length c0_4, .int .i64 a0_5] 51 (0, 0)) (by (with_reducible repeat (first | refine blk_drewN ?_ _)); refine blk_far ?_ NB305_309.out _; refine blk_far ?_ NB305_309.out _; refine blk_far ?_ NB305_309.out _; refine blk_far ?_ NB305_309.out _; refine blk_far ?_ NB305_309.out _; refine blk_far ?_ NB305_309.out _; exact BK305.out) hb); replace BK309 := ak_ (blk_below (g := gb309) (o := .cells #[.int .u64 ((rd_T58 l0_4 x3_2).f0.f0.f0), .int .u64 ((rd_T58 l0_4 x3_2).f0.f0.f1), .int .i64 ((rd_T58 l0_4 x3_2).f0.f1), .int .u32 ((rd_T58 l0_4 x3_2).f1), .int .u32 ((rd_T58 l0_4 x3_2).f2), .int .i64 ((rd_T58 l0_4 x3_2).f3)] 58 (0, 0)) (by (with_reducible repeat (first | refine blk_drewN ?_ _)); refine blk_put (cs := #[.int .u64 ((rd_T58 l0_4 x3_2).f0.f0.f0), .int .u64 ((rd_T58 l0_4 x3_2).f0.f0.f1), .int .i64 ((rd_T58 l0_4 x3_2).f0.f1), .int .u32 ((rd_T58 l0_4 x3_2).f1), .int .u32 ((rd_T58 l0_4 x3_2).f2), .int .i64 0]) ?_ 5 _ rfl; refine blk_put (cs := #[.int .u64 ((rd_T58 l0_4 x3_2).f0.f0.f0), .int .u64 ((rd_T58 l0_4 x3_2).f0.f0.f1), .int .i64 ((rd_T58 l0_4 x3_2).f0.f1), .int .u32 ((rd_T58 l0_4 x3_2).f1), .int .u32 0, .int .i64 0]) ?_ 4 _ rfl; refine blk_put (cs := #[.int .u64 ((rd_T58 l0_4 x3_2).f0.f0.f0), .int .u64 ((rd_T58 l0_4 x3_2).f0.f0.f1), .int .i64 ((rd_T58 l0_4 x3_2).f0.f1), .int .u32 0, .int .u32 0, .int .i64 0]) ?_ 3 _ rfl; refine blk_put (cs := #[.int .u64 ((rd_T58 l0_4 x3_2).f0.f0.f0), .int .u64 ((rd_T58 l0_4 x3_2).f0.f0.f1), .int .i64 0, .int .u32 0, .int .u32 0, .int .i64 0]) ?_ 2 _ rfl; refine blk_put (cs := #[.int .u64 ((rd_T58 l0_4 x3_2).f0.f0.f0), .int .u64 0, .int .i64 0, .int .u32 0, .int .u32 0, .int .i64 0]) ?_ 1 _ rfl; refine blk_put (cs := #[.int .u64 0, .int .u64 0, .int .i64 0, .int .u32 0, .int .u32 0, .int .i64 0]) ?_ 0 _ rfl; exact BK309.out) hb); replace HB := ak_ (below_step (by repeat (first | (with_reducible first | exact HB.out | apply pw_below_drewN | refine below_set ?_ GE309.out))) hb); (try clear hb); have hz41 := bz6_ BK305; have hz42 := bz6_ BK309))
      go_roundg k2
      case measure => have := HJ1.out; have := HK2.out; omega
      case rel => exact ⟨(wrap64 (x3_2 + 1)), (by rfl), H', ⟨by have := HJ1.out; have := HK2.out; omega⟩, ⟨by exact BK305.out⟩, ⟨by exact HB.out⟩⟩
     rw [if_neg c35] at H
     have c35b0 : (((rd_T58 l0_4 x3_2).f0.f1) == 128) = false := beq_eq_false_iff_ne.mpr c35
     have c35b1 : (((rd_T58 l0_4 x3_2).f0.f1) != 128) = true := bne_iff_ne.mpr c35
     obtain rfl := Option.some.inj H
     have hz43 := bz6_ BK305
     have p308 : 0 ≤ (x3_2 : Int) := of_decide_eq_true (by first | (with_reducible assumption))
     have q308 : x3_2 < (l0_4.length : Int) := of_decide_eq_true (by first | (with_reducible assumption))
     obtain ⟨ad308, e308, hx308_0, hx308_1, hx308_2, hx308_3, hx308_4, hx308_5⟩ := at_T58 HR0_4.out x3_2 p308 q308
     cases e308
     replace hx308_0 := (HB.out.cell (World.block_lt_of_cell? w _ hx308_0)).trans hx308_0
     replace hx308_1 := (HB.out.cell (World.block_lt_of_cell? w _ hx308_1)).trans hx308_1
     replace hx308_2 := (HB.out.cell (World.block_lt_of_cell? w _ hx308_2)).trans hx308_2
     replace hx308_3 := (HB.out.cell (World.block_lt_of_cell? w _ hx308_3)).trans hx308_3
     replace hx308_4 := (HB.out.cell (World.block_lt_of_cell? w _ hx308_4)).trans hx308_4
     replace hx308_5 := (HB.out.cell (World.block_lt_of_cell? w _ hx308_5)).trans hx308_5
     replace p308 := eq_true p308
     replace q308 := eq_true q308
     go_wp2_with (first | ((with_reducible refine gate_dst (N := 4) rfl ?_); (try (refine gate_guard (by rfl) ?_; dsimp only)); refine box_event ?hg (N := 4) ?hd (cs := #[.int .u64 0, .int .u64 0, .int .i64 0, .int .u32 0, .int .u32 0, .int .i64 0]) (t := 58) ?hr ?_; (case hd => rfl); (case hg => rfl); (case hr => go_simp; done); intro gb309 hg w44 hbox hb; have BK309 := ak_ hbox; have GW309 := gz_ HB hg; have GE309 := gz_ HB hg; replace HB := bs_ HB hb; have NB305_309 := gl_ BK305 hg; have NB309_305 := gr_ BK305 hg; replace BK305 := bb_ BK305 hb; clear hb hbox hg; have hnb45 := NB309_305.out; have hnc45 := NB305_309.out; have hz46 := bz6_ BK309) | ((with_reducible refine gate_callee (f := 92) rfl ?_); refine goesL_ (some 54) rfl rfl Try.func92 (by kernel_rfl) rfl #[.int .i64 ((rd_T58 l0_4 x3_2).f3)] rfl (by (try simp only [List.map_toArray, List.map_cons, List.map_nil]); first | rfl) ?_; (with_reducible refine (tenancyref15_status.calls ((rd_T58 l0_4 x3_2).f3) true _ A24.out).mono ?_); rintro e w' ⟨rfl, ⟨nd, rfl⟩⟩; refine ⟨_, rfl, ?_⟩) | (go_at_call 93; (with_reducible refine (tenancyref01_Sound.calls k2 ((rd_T58 l0_4 x3_2).f0.f0.f0) ((rd_T58 l0_4 x3_2).f0.f0.f1) ((rd_T58 l0_4 x3_2).f0.f1) true _ A26.out).mono ?_); rintro e w47 ⟨rfl, hb⟩; replace BK305 := ak_ (blk_below (g := gb305) (o := .cells #[.int .i64 a0_0, .int .u32 a0_1, .int .u32 a0_2, .int .u32 a0_3, .slice (some ad308) l0_4.length c0_4, .int .i64 a0_5] 51 (0, 0)) (by (with_reducible repeat (first | refine blk_drewN ?_ _)); refine blk_far ?_ NB305_309.out _; refine blk_far ?_ NB305_309.out _; refine blk_far ?_ NB305_309.out _; refine blk_far ?_ NB305_309.out _; refine blk_far ?_ NB305_309.out _; refine blk_far ?_ NB305_309.out _; exact BK305.out) hb); replace BK309 := ak_ (blk_below (g := gb309) (o := .cells #[.int .u64 ((rd_T58 l0_4 x3_2).f0.f0.f0), .int .u64 ((rd_T58 l0_4 x3_2).f0.f0.f1), .int .i64 ((rd_T58 l0_4 x3_2).f0.f1), .int .u32 ((rd_T58 l0_4 x3_2).f1), .int .u32 ((rd_T58 l0_4 x3_2).f2), .int .i64 ((rd_T58 l0_4 x3_2).f3)] 58 (0, 0)) (by (with_reducible repeat (first | refine blk_drewN ?_ _)); refine blk_put (cs := #[.int .u64 ((rd_T58 l0_4 x3_2).f0.f0.f0), .int .u64 ((rd_T58 l0_4 x3_2).f0.f0.f1), .int .i64 ((rd_T58 l0_4 x3_2).f0.f1), .int .u32 ((rd_T58 l0_4 x3_2).f1), .int .u32 ((rd_T58 l0_4 x3_2).f2), .int .i64 0]) ?_ 5 _ rfl; refine blk_put (cs := #[.int .u64 ((rd_T58 l0_4 x3_2).f0.f0.f0), .int .u64 ((rd_T58 l0_4 x3_2).f0.f0.f1), .int .i64 ((rd_T58 l0_4 x3_2).f0.f1), .int .u32 ((rd_T58 l0_4 x3_2).f1), .int .u32 0, .int .i64 0]) ?_ 4 _ rfl; refine blk_put (cs := #[.int .u64 ((rd_T58 l0_4 x3_2).f0.f0.f0), .int .u64 ((rd_T58 l0_4 x3_2).f0.f0.f1), .int .i64 ((rd_T58 l0_4 x3_2).f0.f1), .int .u32 0, .int .u32 0, .int .i64 0]) ?_ 3 _ rfl; refine blk_put (cs := #[.int .u64 ((rd_T58 l0_4 x3_2).f0.f0.f0), .int .u64 ((rd_T58 l0_4 x3_2).f0.f0.f1), .int .i64 0, .int .u32 0, .int .u32 0, .int .i64 0]) ?_ 2 _ rfl; refine blk_put (cs := #[.int .u64 ((rd_T58 l0_4 x3_2).f0.f0.f0), .int .u64 0, .int .i64 0, .int .u32 0, .int .u32 0, .int .i64 0]) ?_ 1 _ rfl; refine blk_put (cs := #[.int .u64 0, .int .u64 0, .int .i64 0, .int .u32 0, .int .u32 0, .int .i64 0]) ?_ 0 _ rfl; exact BK309.out) hb); replace HB := ak_ (below_step (by repeat (first | (with_reducible first | exact HB.out | apply pw_below_drewN | refine below_set ?_ GE309.out))) hb); (try clear hb); have hz48 := bz6_ BK305; have hz49 := bz6_ BK309))
     go_ret
     exact ⟨by rfl, by exact HB.out⟩
    replace c27 := Bool.eq_false_iff.mpr c27
    subst c27
    have H1 : (some false) = some r := by rw [if_neg (show ¬ (false = true) by decide)] at H; exact H
    clear H
    have H := H1
    clear H1
    obtain rfl := Option.some.inj H
    have hz50 := bz6_ BK305
    have p308 : 0 ≤ (x3_2 : Int) := of_decide_eq_true (by first | (with_reducible assumption))
    have q308 : x3_2 < (l0_4.length : Int) := of_decide_eq_true (by first | (with_reducible assumption))
    obtain ⟨ad308, e308, hx308_0, hx308_1, hx308_2, hx308_3, hx308_4, hx308_5⟩ := at_T58 HR0_4.out x3_2 p308 q308
    cases e308
    replace hx308_0 := (HB.out.cell (World.block_lt_of_cell? w _ hx308_0)).trans hx308_0
    replace hx308_1 := (HB.out.cell (World.block_lt_of_cell? w _ hx308_1)).trans hx308_1
    replace hx308_2 := (HB.out.cell (World.block_lt_of_cell? w _ hx308_2)).trans hx308_2
    replace hx308_3 := (HB.out.cell (World.block_lt_of_cell? w _ hx308_3)).trans hx308_3
    replace hx308_4 := (HB.out.cell (World.block_lt_of_cell? w _ hx308_4)).trans hx308_4
    replace hx308_5 := (HB.out.cell (World.block_lt_of_cell? w _ hx308_5)).trans hx308_5
    replace p308 := eq_true p308
    replace q308 := eq_true q308
    go_wp2_with (first | ((with_reducible refine gate_dst (N := 4) rfl ?_); (try (refine gate_guard (by rfl) ?_; dsimp only)); refine box_event ?hg (N := 4) ?hd (cs := #[.int .u64 0, .int .u64 0, .int .i64 0, .int .u32 0, .int .u32 0, .int .i64 0]) (t := 58) ?hr ?_; (case hd => rfl); (case hg => rfl); (case hr => go_simp; done); intro gb309 hg w51 hbox hb; have BK309 := ak_ hbox; have GW309 := gz_ HB hg; have GE309 := gz_ HB hg; replace HB := bs_ HB hb; have NB305_309 := gl_ BK305 hg; have NB309_305 := gr_ BK305 hg; replace BK305 := bb_ BK305 hb; clear hb hbox hg; have hnb52 := NB309_305.out; have hnc52 := NB305_309.out; have hz53 := bz6_ BK309) | ((with_reducible refine gate_callee (f := 92) rfl ?_); refine goesL_ (some 54) rfl rfl Try.func92 (by kernel_rfl) rfl #[.int .i64 ((rd_T58 l0_4 x3_2).f3)] rfl (by (try simp only [List.map_toArray, List.map_cons, List.map_nil]); first | rfl) ?_; (with_reducible refine (tenancyref15_status.calls ((rd_T58 l0_4 x3_2).f3) true _ A24.out).mono ?_); rintro e w' ⟨rfl, ⟨nd, rfl⟩⟩; refine ⟨_, rfl, ?_⟩) | (go_at_call 93; (with_reducible refine (tenancyref01_Sound.calls k2 ((rd_T58 l0_4 x3_2).f0.f0.f0) ((rd_T58 l0_4 x3_2).f0.f0.f1) ((rd_T58 l0_4 x3_2).f0.f1) false _ A26.out).mono ?_); rintro e w54 ⟨rfl, hb⟩; replace BK305 := ak_ (blk_below (g := gb305) (o := .cells #[.int .i64 a0_0, .int .u32 a0_1, .int .u32 a0_2, .int .u32 a0_3, .slice (some ad308) l0_4.length c0_4, .int .i64 a0_5] 51 (0, 0)) (by (with_reducible repeat (first | refine blk_drewN ?_ _)); refine blk_far ?_ NB305_309.out _; refine blk_far ?_ NB305_309.out _; refine blk_far ?_ NB305_309.out _; refine blk_far ?_ NB305_309.out _; refine blk_far ?_ NB305_309.out _; refine blk_far ?_ NB305_309.out _; exact BK305.out) hb); replace BK309 := ak_ (blk_below (g := gb309) (o := .cells #[.int .u64 ((rd_T58 l0_4 x3_2).f0.f0.f0), .int .u64 ((rd_T58 l0_4 x3_2).f0.f0.f1), .int .i64 ((rd_T58 l0_4 x3_2).f0.f1), .int .u32 ((rd_T58 l0_4 x3_2).f1), .int .u32 ((rd_T58 l0_4 x3_2).f2), .int .i64 ((rd_T58 l0_4 x3_2).f3)] 58 (0, 0)) (by (with_reducible repeat (first | refine blk_drewN ?_ _)); refine blk_put (cs := #[.int .u64 ((rd_T58 l0_4 x3_2).f0.f0.f0), .int .u64 ((rd_T58 l0_4 x3_2).f0.f0.f1), .int .i64 ((rd_T58 l0_4 x3_2).f0.f1), .int .u32 ((rd_T58 l0_4 x3_2).f1), .int .u32 ((rd_T58 l0_4 x3_2).f2), .int .i64 0]) ?_ 5 _ rfl; refine blk_put (cs := #[.int .u64 ((rd_T58 l0_4 x3_2).f0.f0.f0), .int .u64 ((rd_T58 l0_4 x3_2).f0.f0.f1), .int .i64 ((rd_T58 l0_4 x3_2).f0.f1), .int .u32 ((rd_T58 l0_4 x3_2).f1), .int .u32 0, .int .i64 0]) ?_ 4 _ rfl; refine blk_put (cs := #[.int .u64 ((rd_T58 l0_4 x3_2).f0.f0.f0), .int .u64 ((rd_T58 l0_4 x3_2).f0.f0.f1), .int .i64 ((rd_T58 l0_4 x3_2).f0.f1), .int .u32 0, .int .u32 0, .int .i64 0]) ?_ 3 _ rfl; refine blk_put (cs := #[.int .u64 ((rd_T58 l0_4 x3_2).f0.f0.f0), .int .u64 ((rd_T58 l0_4 x3_2).f0.f0.f1), .int .i64 0, .int .u32 0, .int .u32 0, .int .i64 0]) ?_ 2 _ rfl; refine blk_put (cs := #[.int .u64 ((rd_T58 l0_4 x3_2).f0.f0.f0), .int .u64 0, .int .i64 0, .int .u32 0, .int .u32 0, .int .i64 0]) ?_ 1 _ rfl; refine blk_put (cs := #[.int .u64 0, .int .u64 0, .int .i64 0, .int .u32 0, .int .u32 0, .int .i64 0]) ?_ 0 _ rfl; exact BK309.out) hb); replace HB := ak_ (below_step (by repeat (first | (with_reducible first | exact HB.out | apply pw_below_drewN | refine below_set ?_ GE309.out))) hb); (try clear hb)))
    go_ret
    exact ⟨by rfl, by exact HB.out⟩
   replace c25 := Bool.eq_false_iff.mpr c25
   subst c25
   have H1 : (some false) = some r := by rw [if_neg (show ¬ (false = true) by decide)] at H; exact H
   clear H
   have H := H1
   clear H1
   obtain rfl := Option.some.inj H
   have hz55 := bz6_ BK305
   have p308 : 0 ≤ (x3_2 : Int) := of_decide_eq_true (by first | (with_reducible assumption))
   have q308 : x3_2 < (l0_4.length : Int) := of_decide_eq_true (by first | (with_reducible assumption))
   obtain ⟨ad308, e308, hx308_0, hx308_1, hx308_2, hx308_3, hx308_4, hx308_5⟩ := at_T58 HR0_4.out x3_2 p308 q308
   cases e308
   replace hx308_0 := (HB.out.cell (World.block_lt_of_cell? w _ hx308_0)).trans hx308_0
   replace hx308_1 := (HB.out.cell (World.block_lt_of_cell? w _ hx308_1)).trans hx308_1
   replace hx308_2 := (HB.out.cell (World.block_lt_of_cell? w _ hx308_2)).trans hx308_2
   replace hx308_3 := (HB.out.cell (World.block_lt_of_cell? w _ hx308_3)).trans hx308_3
   replace hx308_4 := (HB.out.cell (World.block_lt_of_cell? w _ hx308_4)).trans hx308_4
   replace hx308_5 := (HB.out.cell (World.block_lt_of_cell? w _ hx308_5)).trans hx308_5
   replace p308 := eq_true p308
   replace q308 := eq_true q308
   go_wp2_with (first | ((with_reducible refine gate_dst (N := 4) rfl ?_); (try (refine gate_guard (by rfl) ?_; dsimp only)); refine box_event ?hg (N := 4) ?hd (cs := #[.int .u64 0, .int .u64 0, .int .i64 0, .int .u32 0, .int .u32 0, .int .i64 0]) (t := 58) ?hr ?_; (case hd => rfl); (case hg => rfl); (case hr => go_simp; done); intro gb309 hg w56 hbox hb; have BK309 := ak_ hbox; have GW309 := gz_ HB hg; have GE309 := gz_ HB hg; replace HB := bs_ HB hb; have NB305_309 := gl_ BK305 hg; have NB309_305 := gr_ BK305 hg; replace BK305 := bb_ BK305 hb; clear hb hbox hg; have hnb57 := NB309_305.out; have hnc57 := NB305_309.out; have hz58 := bz6_ BK309) | ((with_reducible refine gate_callee (f := 92) rfl ?_); refine goesL_ (some 54) rfl rfl Try.func92 (by kernel_rfl) rfl #[.int .i64 ((rd_T58 l0_4 x3_2).f3)] rfl (by (try simp only [List.map_toArray, List.map_cons, List.map_nil]); first | rfl) ?_; (with_reducible refine (tenancyref15_status.calls ((rd_T58 l0_4 x3_2).f3) false _ A24.out).mono ?_); rintro e w' ⟨rfl, ⟨nd, rfl⟩⟩; refine ⟨_, rfl, ?_⟩))
   go_ret
   exact ⟨by rfl, by repeat (first | (with_reducible first | exact HB.out | apply pw_below_drewN | refine below_set ?_ GE309.out))⟩
  rw [if_neg c23] at H
  exact absurd H (by simp)
 rw [if_neg c22] at H
 have c22b0 : decide (x3_2 < (l0_4.length : Int)) = false := decide_eq_false c22
 clear c22
 obtain rfl := Option.some.inj H
 have hz59 := bz6_ BK305
 go_wp2
 go_ret
 exact ⟨by rfl, by exact HB.out⟩

def tenancyref04_Put32.f (k : Nat) (a0 : Int) : Option (ByteArray) := (tenancyref04_put.f k (IntKind.u64.wrap (a0)) 4).bind fun t312 => (some t312)
set_option maxHeartbeats 8000000 in
set_option maxRecDepth 100000 in
theorem tenancyref04_Put32.calls (k : Nat) (a0 : Int) (r : ByteArray) (w : World) (h : tenancyref04_Put32.f k a0 = some r) :
 Calls Try.prog 70 #[.int .u32 a0] w fun e w' => e = .returned (.string r) ∧ Below w.heap.size w w' := by
 have HB := ak_ (Below.refl w.heap.size w)
 have H : ((tenancyref04_put.f k (IntKind.u64.wrap (a0)) 4).bind fun t312 => (some t312)) = some r := h
 clear h
 replace H := Option.bind_eq_some_iff.mp H
 obtain ⟨t312, A20, H⟩ := H
 replace H : (some t312) = some r := H
 have A2 := ak_ A20
 clear A20
 obtain rfl := Option.some.inj H
 go_enter Try.func70, Try.ntmps70
 go_wp2_with (first | ((with_reducible refine gate_callee (f := 75) rfl ?_); refine goesL_ (some 5) rfl rfl Try.func75 (by kernel_rfl) rfl #[.int .u64 (IntKind.u64.wrap (a0)), .int .i64 4] rfl (by (try simp only [List.map_toArray, List.map_cons, List.map_nil]); first | rfl) ?_; (with_reducible refine (tenancyref04_put.calls k (IntKind.u64.wrap (a0)) 4 t312 _ A2.out).mono ?_); rintro e w3 ⟨rfl, hb⟩; refine ⟨_, rfl, ?_⟩; replace HB := bs_ HB hb; (try clear hb)))
 go_ret
 exact ⟨by rfl, by exact HB.out⟩

def tenancyref04_Run.f (k : Nat) (a0 : ByteArray) : Option (ByteArray × Bool) := if (a0.size : Int) > 65535 then (some ((⟨#[]⟩ : ByteArray), false)) else ((tenancyref04_Put16.f k (IntKind.u16.wrap ((a0.size : Int)))).bind fun t313 => (if t313.size + a0.size ≤ 9223372036854775807 then (some (t313 ++ a0, true)) else (none)))
set_option maxHeartbeats 8000000 in
set_option maxRecDepth 100000 in
theorem tenancyref04_Run.calls (k : Nat) (a0 : ByteArray) (r1 : ByteArray) (r2 : Bool) (w : World) (h : tenancyref04_Run.f k a0 = some (r1, r2)) :
 Calls Try.prog 47 #[.string a0] w fun e w' => e = .returned (.tuple #[.string r1, .bool r2]) ∧ Below w.heap.size w w' := by
 have HB := ak_ (Below.refl w.heap.size w)
 have H : (if (a0.size : Int) > 65535 then (some ((⟨#[]⟩ : ByteArray), false)) else ((tenancyref04_Put16.f k (IntKind.u16.wrap ((a0.size : Int)))).bind fun t313 => (if t313.size + a0.size ≤ 9223372036854775807 then (some (t313 ++ a0, true)) else (none)))) = some (r1, r2) := h
 clear h
 by_cases c2 : (a0.size : Int) > 65535
 ·rw [if_pos c2] at H
  have c2b0 : decide (65535 < (a0.size : Int)) = true := decide_eq_true c2
  have c2b1 : decide (65535 < a0.size) = true := decide_eq_true (by omega)
  clear c2
  simp only [Option.some.injEq, Prod.mk.injEq] at H
  obtain ⟨rfl, rfl⟩ := H
  go_enter Try.func47, Try.ntmps47
  go_wp2
  go_ret2
  exact ⟨by rfl, by exact HB.out⟩
 rw [if_neg c2] at H
 have c2b0 : decide (65535 < (a0.size : Int)) = false := decide_eq_false c2
 have c2b1 : decide (65535 < a0.size) = false := decide_eq_false (by omega)
 clear c2
 replace H := Option.bind_eq_some_iff.mp H
 obtain ⟨t313, A30, H⟩ := H
 replace H : (if t313.size + a0.size ≤ 9223372036854775807 then (some (t313 ++ a0, true)) else (none)) = some (r1, r2) := H
 have A3 := ak_ A30
 clear A30
 by_cases c4 : t313.size + a0.size ≤ 9223372036854775807
 ·rw [if_pos c4] at H
  have c4b0 := eq_true c4
  have c4b1 : decide (t313.size + a0.size ≤ 9223372036854775807) = true := decide_eq_true c4
  try have c4b2 : (9223372036854775807 < t313.size + a0.size) = False := eq_false (Nat.not_lt.2 c4)
  simp only [Option.some.injEq, Prod.mk.injEq] at H
  obtain ⟨rfl, rfl⟩ := H
  go_enter Try.func47, Try.ntmps47
  go_wp2_with (first | ((with_reducible refine gate_callee (f := 48) rfl ?_); refine goesL_ (some 10) rfl rfl Try.func48 (by kernel_rfl) rfl #[.int .u16 (IntKind.u16.wrap ((a0.size : Int)))] rfl (by (try simp only [List.map_toArray, List.map_cons, List.map_nil]); first | rfl) ?_; (with_reducible refine (tenancyref04_Put16.calls k (IntKind.u16.wrap ((a0.size : Int))) t313 _ A3.out).mono ?_); rintro e w5 ⟨rfl, hb⟩; refine ⟨_, rfl, ?_⟩; replace HB := bs_ HB hb; (try clear hb)))
  go_ret2
  exact ⟨by rfl, by exact HB.out⟩
 rw [if_neg c4] at H
 exact absurd H (by simp)

def tenancyref15_option.f (k : Nat) (a0 : Int) (a1 : ByteArray) : Option (ByteArray) := (tenancyref04_Run.f k a1).bind fun bt314 => ((tenancyref04_Put16.f k a0).bind fun t316 => (if t316.size + bt314.1.size ≤ 9223372036854775807 then (some (t316 ++ bt314.1)) else (none)))
set_option maxHeartbeats 8000000 in
set_option maxRecDepth 100000 in
theorem tenancyref15_option.calls (k : Nat) (a0 : Int) (a1 : ByteArray) (r : ByteArray) (w : World) (h : tenancyref15_option.f k a0 a1 = some r) :
 Calls Try.prog 71 #[.int .u16 a0, .string a1] w fun e w' => e = .returned (.string r) ∧ Below w.heap.size w w' := by
 have HB := ak_ (Below.refl w.heap.size w)
 have H : ((tenancyref04_Run.f k a1).bind fun bt314 => ((tenancyref04_Put16.f k a0).bind fun t316 => (if t316.size + bt314.1.size ≤ 9223372036854775807 then (some (t316 ++ bt314.1)) else (none)))) = some r := h
 clear h
 replace H := Option.bind_eq_some_iff.mp H
 obtain ⟨⟨t314, t315⟩, A30, H⟩ := H
 replace H : ((tenancyref04_Put16.f k a0).bind fun t316 => (if t316.size + t314.size ≤ 9223372036854775807 then (some (t316 ++ t314)) else (none))) = some r := H
 have A3 := ak_ A30
 clear A30
 replace H := Option.bind_eq_some_iff.mp H
 obtain ⟨t316, A40, H⟩ := H
 replace H : (if t316.size + t314.size ≤ 9223372036854775807 then (some (t316 ++ t314)) else (none)) = some r := H
 have A4 := ak_ A40
 clear A40
 by_cases c5 : t316.size + t314.size ≤ 9223372036854775807
 ·rw [if_pos c5] at H
  have c5b0 := eq_true c5
  have c5b1 : decide (t316.size + t314.size ≤ 9223372036854775807) = true := decide_eq_true c5
  try have c5b2 : (9223372036854775807 < t316.size + t314.size) = False := eq_false (Nat.not_lt.2 c5)
  obtain rfl := Option.some.inj H
  go_enter Try.func71, Try.ntmps71
  go_wp2_with (first | ((with_reducible refine gate_callee (f := 47) rfl ?_); refine goesL_ (some 9) rfl rfl Try.func47 (by kernel_rfl) rfl #[.string a1] rfl (by (try simp only [List.map_toArray, List.map_cons, List.map_nil]); first | rfl) ?_; (with_reducible refine (tenancyref04_Run.calls k a1 t314 t315 _ A3.out).mono ?_); rintro e w6 ⟨rfl, hb⟩; refine ⟨_, rfl, ?_⟩; replace HB := bs_ HB hb; (try clear hb)) | ((with_reducible refine gate_callee (f := 48) rfl ?_); refine goesL_ (some 13) rfl rfl Try.func48 (by kernel_rfl) rfl #[.int .u16 a0] rfl (by (try simp only [List.map_toArray, List.map_cons, List.map_nil]); first | rfl) ?_; (with_reducible refine (tenancyref04_Put16.calls k a0 t316 _ A4.out).mono ?_); rintro e w7 ⟨rfl, hb⟩; refine ⟨_, rfl, ?_⟩; replace HB := bs_ HB hb; (try clear hb)))
  go_ret
  exact ⟨by rfl, by exact HB.out⟩
 rw [if_neg c5] at H
 exact absurd H (by simp)

def tenancyref04_Put64.f (k : Nat) (a0 : Int) : Option (ByteArray) := (tenancyref04_put.f k a0 8).bind fun t317 => (some t317)
set_option maxHeartbeats 8000000 in
set_option maxRecDepth 100000 in
theorem tenancyref04_Put64.calls (k : Nat) (a0 : Int) (r : ByteArray) (w : World) (h : tenancyref04_Put64.f k a0 = some r) :
 Calls Try.prog 94 #[.int .u64 a0] w fun e w' => e = .returned (.string r) ∧ Below w.heap.size w w' := by
 have HB := ak_ (Below.refl w.heap.size w)
 have H : ((tenancyref04_put.f k a0 8).bind fun t317 => (some t317)) = some r := h
 clear h
 replace H := Option.bind_eq_some_iff.mp H
 obtain ⟨t317, A20, H⟩ := H
 replace H : (some t317) = some r := H
 have A2 := ak_ A20
 clear A20
 obtain rfl := Option.some.inj H
 go_enter Try.func94, Try.ntmps94
 go_wp2_with (first | ((with_reducible refine gate_callee (f := 75) rfl ?_); refine goesL_ (some 4) rfl rfl Try.func75 (by kernel_rfl) rfl #[.int .u64 a0, .int .i64 8] rfl (by (try simp only [List.map_toArray, List.map_cons, List.map_nil]); first | rfl) ?_; (with_reducible refine (tenancyref04_put.calls k a0 8 t317 _ A2.out).mono ?_); rintro e w3 ⟨rfl, hb⟩; refine ⟨_, rfl, ?_⟩; replace HB := bs_ HB hb; (try clear hb)))
 go_ret
 exact ⟨by rfl, by exact HB.out⟩

def tenancyref04_PutAddr.f (k : Nat) (a0_0 : Int) (a0_1 : Int) : Option (ByteArray) := (tenancyref04_Put64.f k a0_0).bind fun t319 => ((tenancyref04_Put64.f k a0_1).bind fun t320 => (if t319.size + t320.size ≤ 9223372036854775807 then (some (t319 ++ t320)) else (none)))
def tenancyref04_PutAddr.T1 : Bool × List (List Nat × List Nat) := (true, [([], []), ([0], [0]), ([1], [1]), ([], []), ([3], [3]), ([4, 2], [4]), ([2, 5], [2, 5]), ([6, 5, 0, 1, 2, 3, 4, 5, 6], [6])])
def tenancyref04_PutAddr.B1 : List Nat := [0, 1, 3, 0, 8, 31, 63, 127]
theorem tenancyref04_PutAddr.tab1 : rtab .any (opsOf Try.f72 1) = tenancyref04_PutAddr.T1 := by kernel_rfl
theorem tenancyref04_PutAddr.bits1 : waitsOk tenancyref04_PutAddr.T1.2 tenancyref04_PutAddr.B1 = true := by kernel_rfl
set_option maxHeartbeats 8000000 in
set_option maxRecDepth 100000 in
theorem tenancyref04_PutAddr.calls (k : Nat) (a0_0 : Int) (a0_1 : Int) (r : ByteArray) (w : World) (h : tenancyref04_PutAddr.f k a0_0 a0_1 = some r) :
 Calls Try.prog 72 #[.agg #[.int .u64 a0_0, .int .u64 a0_1]] w fun e w' => e = .returned (.string r) ∧ Below w.heap.size w w' := by
 have hu54 := Try.underlying54
 have HB := ak_ (Below.refl w.heap.size w)
 have H : ((tenancyref04_Put64.f k a0_0).bind fun t319 => ((tenancyref04_Put64.f k a0_1).bind fun t320 => (if t319.size + t320.size ≤ 9223372036854775807 then (some (t319 ++ t320)) else (none)))) = some r := h
 clear h
 replace H := Option.bind_eq_some_iff.mp H
 obtain ⟨t319, A20, H⟩ := H
 replace H : ((tenancyref04_Put64.f k a0_1).bind fun t320 => (if t319.size + t320.size ≤ 9223372036854775807 then (some (t319 ++ t320)) else (none))) = some r := H
 have A2 := ak_ A20
 clear A20
 replace H := Option.bind_eq_some_iff.mp H
 obtain ⟨t320, A30, H⟩ := H
 replace H : (if t319.size + t320.size ≤ 9223372036854775807 then (some (t319 ++ t320)) else (none)) = some r := H
 have A3 := ak_ A30
 clear A30
 by_cases c4 : t319.size + t320.size ≤ 9223372036854775807
 ·rw [if_pos c4] at H
  have c4b0 := eq_true c4
  have c4b1 : decide (t319.size + t320.size ≤ 9223372036854775807) = true := decide_eq_true c4
  try have c4b2 : (9223372036854775807 < t319.size + t320.size) = False := eq_false (Nat.not_lt.2 c4)
  obtain rfl := Option.some.inj H
  go_enter Try.func72, Try.ntmps72
  try go_wp2_with (first | ((with_reducible refine gate_dst (N := 1) rfl ?_); refine box_event ?hg (N := 1) ?hd (cs := #[.int .u64 a0_0, .int .u64 a0_1]) (t := 54) ?hr ?_; (case hd => rfl); (case hg => rfl); (case hr => go_simp; done); intro gb318 hg w5 hbox hb; have BK318 := ak_ hbox; have GW318 := gz_ HB hg; have GE318 := gz_ HB hg; replace HB := bs_ HB hb; clear hb hbox hg))
  replace BK318 := ak_ (blk_drew BK318.out)
  replace HB := ak_ (below_drew1 HB.out)
  refine start_ (n := 8) (S := fun w' => w'.cell? ⟨gb318, 0, none⟩ = some (.int .u64 a0_0) ∧ w'.cell? ⟨gb318, 1, none⟩ = some (.int .u64 a0_1)) (ds := []) #[false, false, false, false, false, false, false, false] (by kernel_rfl) rfl rfl ⟨(blk_cell BK318.out 0).trans rfl, (blk_cell BK318.out 1).trans rfl⟩ (fun hHeld => ?_); refine with_tabW tenancyref04_PutAddr.tab1 tenancyref04_PutAddr.bits1 (fun HT_ HW_ => ?_)
  generalize w5.drew = w6 at BK318 HB hHeld ⊢
  refine pure_ (i := 0) (N := some 3) (v := ?_) (a' := ?_) #[true, false, false, false, false, false, false, false] rfl rfl (any_of HT_.out (by kernel_rfl)) (fun _ _ _ h => h) (Or.inl ⟨by rfl, ?_⟩) ?_ ?_
  rotate_left
  ·intro w'
   go_simp
   with_reducible rfl
  rotate_left
  ·simp only [Act.put, List.setIfInBounds_toArray, List.set_cons_zero, List.set_cons_succ, i64_w, i32_w]
   rfl
  refine pure_ (i := 3) (N := some 6) (v := ?_) (a' := ?_) #[true, false, false, true, false, false, false, false] rfl rfl (any_of HT_.out (by kernel_rfl)) (fun _ _ _ h => h) (Or.inl ⟨by rfl, ?_⟩) ?_ ?_
  rotate_left
  ·intro w'
   go_simp
   with_reducible rfl
  rotate_left
  ·simp only [Act.put, List.setIfInBounds_toArray, List.set_cons_zero, List.set_cons_succ, i64_w, i32_w]
   rfl
  refine take_ (i := 1) (N := some 4) (v := ?_) (a' := ?_) #[true, true, false, true, false, false, false, false] rfl rfl (take_ofW HT_.out HW_.out (by kernel_rfl)) (fun _ _ _ h => h) (Or.inl ⟨by rfl, ?_⟩) hHeld ?_ ?_
  rotate_left
  ·rintro w' ⟨s0, s1⟩
   go_simp
   with_reducible rfl
  rotate_left
  ·simp only [Act.put, List.setIfInBounds_toArray, List.set_cons_zero, List.set_cons_succ, i64_w, i32_w]
   rfl
  refine take_ (i := 4) (N := some 7) (v := ?_) (a' := ?_) #[true, true, false, true, true, false, false, false] rfl rfl (take_ofW HT_.out HW_.out (by kernel_rfl)) (fun _ _ _ h => h) (Or.inl ⟨by rfl, ?_⟩) hHeld ?_ ?_
  rotate_left
  ·rintro w' ⟨s0, s1⟩
   go_simp
   with_reducible rfl
  rotate_left
  ·simp only [Act.put, List.setIfInBounds_toArray, List.set_cons_zero, List.set_cons_succ, i64_w, i32_w]
   rfl
  refine one_ (i := 2) (N := some 5) #[true, true, true, true, true, false, false, false] rfl rfl (one_of HT_.out (by kernel_rfl)) (by decide) (fun K hK => ?_)
  refine goes_ Try.func94 (by kernel_rfl) rfl #[.int .u64 a0_0] (by rfl) rfl rfl (by (try simp only [List.map_toArray, List.map_cons, List.map_nil]); first | rfl) ?_
  with_reducible refine (tenancyref04_Put64.calls k a0_0 t319 _ A2.out).mono ?_
  rintro e w7 ⟨rfl, hb⟩
  refine ⟨_, rfl, ?_⟩
  replace BK318 := bb_ BK318 hb
  replace HB := bs_ HB hb
  (try clear hb)
  (try clear hb2)
  (try clear hk)
  (try clear hi)
  refine hK.out _ _ ⟨(blk_cell BK318.out 0).trans rfl, (blk_cell BK318.out 1).trans rfl⟩ (fun hHeld => ?_)
  clear hK K
  refine norm_ (a' := ?_) ?_ ?_
  rotate_left
  ·show Act.put _ (some 5) _ = _
   simp only [Act.put, List.setIfInBounds_toArray, List.set_cons_zero, List.set_cons_succ, i64_w, i32_w]
   rfl
  refine one_ (i := 5) (N := some 8) #[true, true, true, true, true, true, false, false] rfl rfl (one_of HT_.out (by kernel_rfl)) (by decide) (fun K hK => ?_)
  refine goes_ Try.func94 (by kernel_rfl) rfl #[.int .u64 a0_1] (by rfl) rfl rfl (by (try simp only [List.map_toArray, List.map_cons, List.map_nil]); first | rfl) ?_
  with_reducible refine (tenancyref04_Put64.calls k a0_1 t320 _ A3.out).mono ?_
  rintro e w8 ⟨rfl, hb⟩
  refine ⟨_, rfl, ?_⟩
  replace BK318 := bb_ BK318 hb
  replace HB := bs_ HB hb
  (try clear hb)
  (try clear hb2)
  (try clear hk)
  (try clear hi)
  refine hK.out _ _ ⟨(blk_cell BK318.out 0).trans rfl, (blk_cell BK318.out 1).trans rfl⟩ (fun hHeld => ?_)
  clear hK K
  refine norm_ (a' := ?_) ?_ ?_
  rotate_left
  ·show Act.put _ (some 8) _ = _
   simp only [Act.put, List.setIfInBounds_toArray, List.set_cons_zero, List.set_cons_succ, i64_w, i32_w]
   rfl
  refine pure_ (i := 6) (N := some 9) (v := ?_) (a' := ?_) #[true, true, true, true, true, true, true, false] rfl rfl (any_of HT_.out (by kernel_rfl)) (fun _ _ _ h => h) (Or.inl ⟨by rfl, ?_⟩) ?_ ?_
  rotate_left
  ·intro w'
   go_simp
   with_reducible rfl
  rotate_left
  ·simp only [Act.put, List.setIfInBounds_toArray, List.set_cons_zero, List.set_cons_succ, i64_w, i32_w]
   rfl
  refine pure_ (i := 7) (N := some 2) (v := ?_) (a' := ?_) #[true, true, true, true, true, true, true, true] rfl rfl (any_of HT_.out (by kernel_rfl)) (fun _ _ _ h => h) (Or.inl ⟨by rfl, ?_⟩) ?_ ?_
  rotate_left
  ·intro w'
   go_simp
   with_reducible rfl
  rotate_left
  ·simp only [Act.put, List.setIfInBounds_toArray, List.set_cons_zero, List.set_cons_succ, i64_w, i32_w]
   rfl
  refine done_ (done_of HT_.out (by kernel_rfl)) ?_
  try go_wp2
  go_ret
  exact ⟨by rfl, by exact HB.out⟩
 rw [if_neg c4] at H
 exact absurd H (by simp)

def tenancyref15_statusOption.f (k : Nat) (a0 : Int) : Option (ByteArray) := if a0 < 0 then (some (⟨#[]⟩ : ByteArray)) else ((tenancyref15_PutStatus.f k a0).bind fun t321 => ((tenancyref15_option.f k 13 t321).bind fun t322 => (some t322)))
set_option maxHeartbeats 8000000 in
set_option maxRecDepth 100000 in
theorem tenancyref15_statusOption.calls (k : Nat) (a0 : Int) (r : ByteArray) (w : World) (h : tenancyref15_statusOption.f k a0 = some r) :
 Calls Try.prog 73 #[.int .i64 a0] w fun e w' => e = .returned (.string r) ∧ Below w.heap.size w w' := by
 have HB := ak_ (Below.refl w.heap.size w)
 have H : (if a0 < 0 then (some (⟨#[]⟩ : ByteArray)) else ((tenancyref15_PutStatus.f k a0).bind fun t321 => ((tenancyref15_option.f k 13 t321).bind fun t322 => (some t322)))) = some r := h
 clear h
 by_cases c2 : a0 < 0
 ·rw [if_pos c2] at H
  have c2b0 : decide (a0 < 0) = true := decide_eq_true c2
  clear c2
  obtain rfl := Option.some.inj H
  go_enter Try.func73, Try.ntmps73
  go_wp2
  go_ret
  exact ⟨by rfl, by exact HB.out⟩
 rw [if_neg c2] at H
 have c2b0 : decide (a0 < 0) = false := decide_eq_false c2
 clear c2
 replace H := Option.bind_eq_some_iff.mp H
 obtain ⟨t321, A30, H⟩ := H
 replace H : ((tenancyref15_option.f k 13 t321).bind fun t322 => (some t322)) = some r := H
 have A3 := ak_ A30
 clear A30
 replace H := Option.bind_eq_some_iff.mp H
 obtain ⟨t322, A40, H⟩ := H
 replace H : (some t322) = some r := H
 have A4 := ak_ A40
 clear A40
 obtain rfl := Option.some.inj H
 go_enter Try.func73, Try.ntmps73
 go_wp2_with (first | ((with_reducible refine gate_callee (f := 45) rfl ?_); refine goesL_ (some 6) rfl rfl Try.func45 (by kernel_rfl) rfl #[.int .i64 a0] rfl (by (try simp only [List.map_toArray, List.map_cons, List.map_nil]); first | rfl) ?_; (with_reducible refine (tenancyref15_PutStatus.calls k a0 t321 _ A3.out).mono ?_); rintro e w5 ⟨rfl, hb⟩; refine ⟨_, rfl, ?_⟩; replace HB := bs_ HB hb; (try clear hb)) | ((with_reducible refine gate_callee (f := 71) rfl ?_); refine goesL_ (some 7) rfl rfl Try.func71 (by kernel_rfl) rfl #[.int .u16 13, .string t321] rfl (by (try simp only [List.map_toArray, List.map_cons, List.map_nil]); first | rfl) ?_; (with_reducible refine (tenancyref15_option.calls k 13 t321 t322 _ A4.out).mono ?_); rintro e w6 ⟨rfl, hb⟩; refine ⟨_, rfl, ?_⟩; replace HB := bs_ HB hb; (try clear hb)))
 go_ret
 exact ⟨by rfl, by exact HB.out⟩

def tenancyref15_Code.f (a0 : Int) : Option (Int) := if a0 = 2 then (some 3) else (if a0 = 3 then (some 4) else (some 25))
set_option maxHeartbeats 8000000 in
set_option maxRecDepth 100000 in
theorem tenancyref15_Code.calls (a0 : Int) (r : Int) (w : World) (h : tenancyref15_Code.f a0 = some r) :
 Calls Try.prog 74 #[.int .i64 a0] w fun e w' => e = .returned (.int .u16 r) ∧ Drawn0 w w' := by
 have H : (if a0 = 2 then (some 3) else (if a0 = 3 then (some 4) else (some 25))) = some r := h
 clear h
 by_cases c2 : a0 = 2
 ·rw [if_pos c2] at H
  have c2b0 : (a0 == 2) = true := beq_iff_eq.mpr c2
  have c2b1 : (a0 != 2) = false := bne_eq_false_iff_eq.mpr c2
  clear c2
  obtain rfl := Option.some.inj H
  go_enter Try.func74, Try.ntmps74
  go_wp2
  go_ret
  exact ⟨by rfl, by repeat (first | exact Drawn0.refl _)⟩
 rw [if_neg c2] at H
 have c2b0 : (a0 == 2) = false := beq_eq_false_iff_ne.mpr c2
 have c2b1 : (a0 != 2) = true := bne_iff_ne.mpr c2
 by_cases c3 : a0 = 3
 ·rw [if_pos c3] at H
  have c3b0 : (a0 == 3) = true := beq_iff_eq.mpr c3
  have c3b1 : (a0 != 3) = false := bne_eq_false_iff_eq.mpr c3
  clear c3
  obtain rfl := Option.some.inj H
  go_enter Try.func74, Try.ntmps74
  go_wp2
  go_ret
  exact ⟨by rfl, by repeat (first | exact Drawn0.refl _)⟩
 rw [if_neg c3] at H
 have c3b0 : (a0 == 3) = false := beq_eq_false_iff_ne.mpr c3
 have c3b1 : (a0 != 3) = true := bne_iff_ne.mpr c3
 obtain rfl := Option.some.inj H
 go_enter Try.func74, Try.ntmps74
 go_wp2
 go_ret
 exact ⟨by rfl, by repeat (first | exact Drawn0.refl _)⟩

end Go.Proofs.Ythadapbekmmgpaa.X
