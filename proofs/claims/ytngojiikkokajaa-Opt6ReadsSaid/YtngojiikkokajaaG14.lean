/- Functions of the program as Lean functions, and that the calls come to them: no condition.  By this session's own program (wip/xprint). -/
import Derived.Test.YtngojiikkokajaaG0
import Derived.Test.YtngojiikkokajaaG2
import Derived.Test.YtngojiikkokajaaG6
import Derived.Test.YtngojiikkokajaaG8
import Derived.Test.YtngojiikkokajaaG13
namespace Go.Proofs.Ytngojiikkokajaa.X
open Go.RowKit Go.Proofs.YtngojiikkokajaaW.PrintWords Go.Proofs.YtngojiikkokajaaW.PrintLast Go.Proofs.YtngojiikkokajaaW.PrintMore
attribute [local go_sem] max2_int min2_int max_two min_two max_three min_three max_four min_four   -- for this text's walks alone
set_option linter.unusedVariables false
set_option linter.unusedSimpArgs false
/-! ### tenancyref04_Get64: function 87 -/
def tenancyref04_Get64.f (k : Nat) (a0 : ByteArray) (a1 : Int) : Option (Int × Bool) := (tenancyref04_get.f k a0 a1 8).bind fun bt350 => (some (bt350.1, bt350.2))
theorem tenancyref04_Get64.mono : ∀ a0 a1 k, LeO (tenancyref04_Get64.f k a0 a1) (tenancyref04_Get64.f (k + 1) a0 a1) := by
  intro a0 a1 k
  unfold tenancyref04_Get64.f
  repeat' first
      | (with_reducible exact tenancyref04_get.mono _ _ _ _)
      | (with_reducible exact LeO.refl _)
      | (with_reducible exact LeO.none _)
      | (with_reducible refine LeO.ite ?_ ?_)
      | (with_reducible refine LeO.bind ?_ (fun _ => ?_))
      | exact tenancyref04_get.mono _ _ _ _
      | exact LeO.none _
      | refine LeO.ite ?_ ?_
      | refine LeO.bind ?_ (fun _ => ?_)
set_option maxHeartbeats 8000000 in
set_option maxRecDepth 100000 in
theorem tenancyref04_Get64.calls (k : Nat) (a0 : ByteArray) (a1 : Int) (r1 : Int) (r2 : Bool) (w : World) (h : tenancyref04_Get64.f k a0 a1 = some (r1, r2)) :
    Calls Try.prog 87 #[.string a0, .int .i64 a1] w fun e w' => e = .returned (.tuple #[.int .u64 r1, .bool r2]) ∧ Drawn0 w w' := by
  have H : ((tenancyref04_get.f k a0 a1 8).bind fun bt350 => (some (bt350.1, bt350.2))) = some (r1, r2) := h
  clear h
  replace H := Option.bind_eq_some_iff.mp H
  obtain ⟨⟨t350, t351⟩, A30, H⟩ := H
  replace H : (some (t350, t351)) = some (r1, r2) := H
  have A3 := Aside0.mk A30
  clear A30
  simp only [Option.some.injEq, Prod.mk.injEq] at H
  obtain ⟨rfl, rfl⟩ := H
  go_enter Try.func87, Try.ntmps87
  go_wp2_with (first | ((with_reducible refine gate_callee (f := 64) rfl ?_); refine goesL_ (some 8) rfl rfl Try.func64 (by kernel_rfl) rfl #[.string a0, .int .i64 a1, .int .i64 8] rfl (by (try simp only [List.map_toArray, List.map_cons, List.map_nil]); first | rfl) ?_; (with_reducible refine (tenancyref04_get.calls k a0 a1 8 t350 t351 _ A3.out).mono ?_); rintro e w' ⟨rfl, ⟨nd, rfl⟩⟩; refine ⟨_, rfl, ?_⟩))
  go_ret2
  exact ⟨by rfl, by repeat (first | exact Drawn0.refl _ | apply Drawn0.step)⟩

/-! ### tenancyref04_GetAddr: function 77 -/
def tenancyref04_GetAddr.f (k : Nat) (a0 : ByteArray) (a1 : Int) : Option (Int × Int × Bool) := (tenancyref04_Cut.f a0 a1 16).bind fun bt353 => (if bt353.2 = true then ((tenancyref04_Get64.f k bt353.1 0).bind fun bt355 => ((tenancyref04_Get64.f k bt353.1 8).bind fun bt357 => (some (bt355.1, bt357.1, true)))) else (some (0, 0, false)))
theorem tenancyref04_GetAddr.mono : ∀ a0 a1 k, LeO (tenancyref04_GetAddr.f k a0 a1) (tenancyref04_GetAddr.f (k + 1) a0 a1) := by
  intro a0 a1 k
  unfold tenancyref04_GetAddr.f
  repeat' first
      | (with_reducible exact tenancyref04_Get64.mono _ _ _)
      | (with_reducible exact LeO.refl _)
      | (with_reducible exact LeO.none _)
      | (with_reducible refine LeO.ite ?_ ?_)
      | (with_reducible refine LeO.bind ?_ (fun _ => ?_))
      | exact tenancyref04_Get64.mono _ _ _
      | exact LeO.none _
      | refine LeO.ite ?_ ?_
      | refine LeO.bind ?_ (fun _ => ?_)
set_option maxHeartbeats 8000000 in
set_option maxRecDepth 100000 in
theorem tenancyref04_GetAddr.calls (k : Nat) (a0 : ByteArray) (a1 : Int) (r1 : Int) (r2 : Int) (r3 : Bool) (w : World) (h : tenancyref04_GetAddr.f k a0 a1 = some (r1, r2, r3)) :
    Calls Try.prog 77 #[.string a0, .int .i64 a1] w fun e w' => e = .returned (.tuple #[.agg #[.int .u64 r1, .int .u64 r2], .bool r3]) ∧ Below w.heap.size w w' := by
  have hu72 := Try.underlying72
  have HB := Aside0.mk (Below.refl w.heap.size w)
  have H : ((tenancyref04_Cut.f a0 a1 16).bind fun bt353 => (if bt353.2 = true then ((tenancyref04_Get64.f k bt353.1 0).bind fun bt355 => ((tenancyref04_Get64.f k bt353.1 8).bind fun bt357 => (some (bt355.1, bt357.1, true)))) else (some (0, 0, false)))) = some (r1, r2, r3) := h
  clear h
  replace H := Option.bind_eq_some_iff.mp H
  obtain ⟨⟨t353, t354⟩, A30, H⟩ := H
  replace H : (if t354 = true then ((tenancyref04_Get64.f k t353 0).bind fun bt355 => ((tenancyref04_Get64.f k t353 8).bind fun bt357 => (some (bt355.1, bt357.1, true)))) else (some (0, 0, false))) = some (r1, r2, r3) := H
  have A3 := Aside0.mk A30
  clear A30
  by_cases c4 : t354 = true
  · subst c4
    have H1 : ((tenancyref04_Get64.f k t353 0).bind fun bt355 => ((tenancyref04_Get64.f k t353 8).bind fun bt357 => (some (bt355.1, bt357.1, true)))) = some (r1, r2, r3) := by rw [if_pos rfl] at H; exact H
    clear H
    have H := H1
    clear H1
    replace H := Option.bind_eq_some_iff.mp H
    obtain ⟨⟨t355, t356⟩, A50, H⟩ := H
    replace H : ((tenancyref04_Get64.f k t353 8).bind fun bt357 => (some (t355, bt357.1, true))) = some (r1, r2, r3) := H
    have A5 := Aside0.mk A50
    clear A50
    replace H := Option.bind_eq_some_iff.mp H
    obtain ⟨⟨t357, t358⟩, A60, H⟩ := H
    replace H : (some (t355, t357, true)) = some (r1, r2, r3) := H
    have A6 := Aside0.mk A60
    clear A60
    simp only [Option.some.injEq, Prod.mk.injEq] at H
    obtain ⟨rfl, rfl, rfl⟩ := H
    go_enter Try.func77, Try.ntmps77
    go_wp2_with (first | ((with_reducible refine gate_dst (N := 4) rfl ?_); refine box_event ?hg (N := 4) ?hd (cs := #[.int .u64 0, .int .u64 0]) (t := 72) ?hr ?_; (case hd => rfl); (case hg => rfl); (case hr => go_simp; done); intro gb352 hg w7 hbox hb; have n0_ := Aside0.mk (below_step HB.out hb); have n1_ := Aside0.mk (hbox); have n2_ := Aside0.mk ((by rw [hg]; exact (below_size HB.out) : w.heap.size ≤ gb352)); have n3_ := Aside0.mk ((by rw [hg]; exact (below_size HB.out) : w.heap.size ≤ gb352)); clear HB; have HB := n0_; have BK352 := n1_; have GW352 := n2_; have GE352 := n3_; clear n0_ n1_ n2_ n3_; clear hb hbox hg) | ((with_reducible refine gate_callee (f := 59) rfl ?_); refine goesL_ (some 15) rfl rfl Try.func59 (by kernel_rfl) rfl #[.string a0, .int .i64 a1, .int .i64 16] rfl (by (try simp only [List.map_toArray, List.map_cons, List.map_nil]); first | rfl) ?_; (with_reducible refine (tenancyref04_Cut.calls a0 a1 16 t353 true _ A3.out).mono ?_); rintro e w' ⟨rfl, ⟨nd, rfl⟩⟩; refine ⟨_, rfl, ?_⟩; (try (rw [drewN_self w7]; generalize hq_ : World.drewN w7 _ = w7; have n0_ : Aside0 (w7.heap[gb352]? = some (.cells #[.int .u64 0, .int .u64 0] 72 (0, 0))) := ⟨by rw [← hq_]; exact (by (with_reducible repeat (first | refine blk_drewN ?_ _)); exact BK352.out)⟩; have n1_ : Aside0 (Below w.heap.size w w7) := ⟨by rw [← hq_]; exact (by repeat (first | (with_reducible first | exact HB.out | apply pw_below_drewN)))⟩; clear BK352 HB hq_; have BK352 := n0_; have HB := n1_; clear n0_ n1_))) | ((with_reducible refine gate_callee (f := 87) rfl ?_); refine goesL_ (some 23) rfl rfl Try.func87 (by kernel_rfl) rfl #[.string t353, .int .i64 0] rfl (by (try simp only [List.map_toArray, List.map_cons, List.map_nil]); first | rfl) ?_; (with_reducible refine (tenancyref04_Get64.calls k t353 0 t355 t356 _ A5.out).mono ?_); rintro e w' ⟨rfl, ⟨nd, rfl⟩⟩; refine ⟨_, rfl, ?_⟩; (try (rw [drewN_self w7]; generalize hq_ : World.drewN w7 _ = w7; have n0_ : Aside0 (w7.heap[gb352]? = some (.cells #[.int .u64 0, .int .u64 0] 72 (0, 0))) := ⟨by rw [← hq_]; exact (by (with_reducible repeat (first | refine blk_drewN ?_ _)); exact BK352.out)⟩; have n1_ : Aside0 (Below w.heap.size w w7) := ⟨by rw [← hq_]; exact (by repeat (first | (with_reducible first | exact HB.out | apply pw_below_drewN)))⟩; clear BK352 HB hq_; have BK352 := n0_; have HB := n1_; clear n0_ n1_))) | ((with_reducible refine gate_callee (f := 87) rfl ?_); refine goesL_ (some 28) rfl rfl Try.func87 (by kernel_rfl) rfl #[.string t353, .int .i64 8] rfl (by (try simp only [List.map_toArray, List.map_cons, List.map_nil]); first | rfl) ?_; (with_reducible refine (tenancyref04_Get64.calls k t353 8 t357 t358 _ A6.out).mono ?_); rintro e w' ⟨rfl, ⟨nd, rfl⟩⟩; refine ⟨_, rfl, ?_⟩; (try (rw [drewN_self w7]; generalize hq_ : World.drewN w7 _ = w7; have n0_ : Aside0 (w7.heap[gb352]? = some (.cells #[.int .u64 0, .int .u64 0] 72 (0, 0))) := ⟨by rw [← hq_]; exact (by (with_reducible repeat (first | refine blk_drewN ?_ _)); exact BK352.out)⟩; have n1_ : Aside0 (Below w.heap.size w w7) := ⟨by rw [← hq_]; exact (by repeat (first | (with_reducible first | exact HB.out | apply pw_below_drewN)))⟩; clear BK352 HB hq_; have BK352 := n0_; have HB := n1_; clear n0_ n1_)); obtain ⟨hcz8_0, hcz8_1⟩ := XRun.bc2 BK352.out; obtain ⟨hfz8_0, hfz8_1⟩ := XRun.bf2 BK352.out))
    refine bodyPost_ret (results_ct rfl _ _ gb352 72 #[.int .u64 t355, .int .u64 t357] (0, 0) _ rfl (by refine blk_put (cs := #[.int .u64 t355, .int .u64 0]) ?_ 1 _ rfl; refine blk_put (cs := #[.int .u64 0, .int .u64 0]) ?_ 0 _ rfl; exact BK352.out) Try.underlying72 rfl (by kernel_rfl)) rfl ?_
    exact ⟨by rfl, by repeat (first | (with_reducible first | exact HB.out | refine below_set ?_ GE352.out))⟩
  · replace c4 := Bool.eq_false_iff.mpr c4
    subst c4
    have H1 : (some (0, 0, false)) = some (r1, r2, r3) := by rw [if_neg (show ¬ (false = true) by decide)] at H; exact H
    clear H
    have H := H1
    clear H1
    simp only [Option.some.injEq, Prod.mk.injEq] at H
    obtain ⟨rfl, rfl, rfl⟩ := H
    go_enter Try.func77, Try.ntmps77
    go_wp2_with (first | ((with_reducible refine gate_dst (N := 4) rfl ?_); refine box_event ?hg (N := 4) ?hd (cs := #[.int .u64 0, .int .u64 0]) (t := 72) ?hr ?_; (case hd => rfl); (case hg => rfl); (case hr => go_simp; done); intro gb352 hg w9 hbox hb; have n0_ := Aside0.mk (below_step HB.out hb); have n1_ := Aside0.mk (hbox); have n2_ := Aside0.mk ((by rw [hg]; exact (below_size HB.out) : w.heap.size ≤ gb352)); have n3_ := Aside0.mk ((by rw [hg]; exact (below_size HB.out) : w.heap.size ≤ gb352)); clear HB; have HB := n0_; have BK352 := n1_; have GW352 := n2_; have GE352 := n3_; clear n0_ n1_ n2_ n3_; clear hb hbox hg) | ((with_reducible refine gate_callee (f := 59) rfl ?_); refine goesL_ (some 15) rfl rfl Try.func59 (by kernel_rfl) rfl #[.string a0, .int .i64 a1, .int .i64 16] rfl (by (try simp only [List.map_toArray, List.map_cons, List.map_nil]); first | rfl) ?_; (with_reducible refine (tenancyref04_Cut.calls a0 a1 16 t353 false _ A3.out).mono ?_); rintro e w' ⟨rfl, ⟨nd, rfl⟩⟩; refine ⟨_, rfl, ?_⟩; (try (rw [drewN_self w9]; generalize hq_ : World.drewN w9 _ = w9; have n0_ : Aside0 (w9.heap[gb352]? = some (.cells #[.int .u64 0, .int .u64 0] 72 (0, 0))) := ⟨by rw [← hq_]; exact (by (with_reducible repeat (first | refine blk_drewN ?_ _)); exact BK352.out)⟩; have n1_ : Aside0 (Below w.heap.size w w9) := ⟨by rw [← hq_]; exact (by repeat (first | (with_reducible first | exact HB.out | apply pw_below_drewN)))⟩; clear BK352 HB hq_; have BK352 := n0_; have HB := n1_; clear n0_ n1_)); obtain ⟨hcz10_0, hcz10_1⟩ := XRun.bc2 BK352.out; obtain ⟨hfz10_0, hfz10_1⟩ := XRun.bf2 BK352.out))
    refine bodyPost_ret (results_ct rfl _ _ gb352 72 #[.int .u64 0, .int .u64 0] (0, 0) _ rfl (by refine blk_put (cs := #[.int .u64 0, .int .u64 0]) ?_ 1 _ rfl; refine blk_put (cs := #[.int .u64 0, .int .u64 0]) ?_ 0 _ rfl; exact BK352.out) Try.underlying72 rfl (by kernel_rfl)) rfl ?_
    exact ⟨by rfl, by repeat (first | (with_reducible first | exact HB.out | refine below_set ?_ GE352.out))⟩

/-! ### tenancyref15_statuses: function 78 -/
def tenancyref15_statuses.l0 : Nat → List (S40) → Int → Int → Option (Int × Int)
  | 0, _, _, _ => none
  | k + 1, x0, x4, x5 => if x5 < (x0.length : Int) then (if 0 ≤ x5 then (if ((rd_T40 x0 x5).f0) = 13 then ((tenancyref15_GetStatus.f k ((rd_T40 x0 x5).f1)).bind fun bt361 => (if bt361.2 = true then (if x4 < 0 then (tenancyref15_statuses.l0 k x0 bt361.1 (wrap64 (x5 + 1))) else (tenancyref15_statuses.l0 k x0 x4 (wrap64 (x5 + 1)))) else (some (0, 130)))) else (tenancyref15_statuses.l0 k x0 x4 (wrap64 (x5 + 1)))) else (none)) else (some (x4, 0))
def tenancyref15_statuses.f (k : Nat) (l0 : List (S40)) : Option (Int × Int) := tenancyref15_statuses.l0 k l0 (-1) 0
theorem tenancyref15_statuses.mono_l : ∀ k, (∀ y0 y1 y2, LeO (tenancyref15_statuses.l0 k y0 y1 y2) (tenancyref15_statuses.l0 (k + 1) y0 y1 y2))
  | 0 => fun _ _ _ r h => by simp [tenancyref15_statuses.l0] at h
  | k + 1 => by
    have ih0 := tenancyref15_statuses.mono_l k
    · intro y0 y1 y2
      unfold tenancyref15_statuses.l0
      repeat' first
      | (with_reducible exact ih0 _ _ _)
      | (with_reducible exact tenancyref15_GetStatus.mono _ _)
      | (with_reducible exact LeO.refl _)
      | (with_reducible exact LeO.none _)
      | (with_reducible refine LeO.ite ?_ ?_)
      | (with_reducible refine LeO.bind ?_ (fun _ => ?_))
      | exact ih0 _ _ _
      | exact tenancyref15_GetStatus.mono _ _
      | exact LeO.none _
      | refine LeO.ite ?_ ?_
      | refine LeO.bind ?_ (fun _ => ?_)
theorem tenancyref15_statuses.mono : ∀ a0 k, LeO (tenancyref15_statuses.f k a0) (tenancyref15_statuses.f (k + 1) a0) := by
  intro a0 k
  have ih0 := tenancyref15_statuses.mono_l k
  unfold tenancyref15_statuses.f
  repeat' first
      | (with_reducible exact ih0 _ _ _)
      | (with_reducible exact tenancyref15_GetStatus.mono _ _)
      | (with_reducible exact LeO.refl _)
      | (with_reducible exact LeO.none _)
      | (with_reducible refine LeO.ite ?_ ?_)
      | (with_reducible refine LeO.bind ?_ (fun _ => ?_))
      | exact ih0 _ _ _
      | exact tenancyref15_GetStatus.mono _ _
      | exact LeO.none _
      | refine LeO.ite ?_ ?_
      | refine LeO.bind ?_ (fun _ => ?_)
set_option maxHeartbeats 8000000 in
set_option maxRecDepth 100000 in
theorem tenancyref15_statuses.calls (k : Nat) (A0 : Option Addr) (c0 : Nat) (l0 : List (S40)) (r1 : Int) (r2 : Int) (w : World) (hr0 : Kd.C k40 w A0 l0.length l0) (hc0 : l0.length ≤ c0) (h : tenancyref15_statuses.f k l0 = some (r1, r2)) :
    Calls Try.prog 78 #[.slice A0 l0.length c0] w fun e w' => e = .returned (.tuple #[.int .i64 r1, .int .i64 r2]) ∧ Drawn0 w w' := by
  have HR0 := Aside0.mk hr0
  have HC0 := Aside0.mk hc0
  clear hr0 hc0
  have H : (tenancyref15_statuses.l0 k l0 (-1) 0) = some (r1, r2) := h
  clear h
  have H' := Aside0.mk H
  clear H
  go_enter Try.func78, Try.ntmps78
  go_wp2
  go_loopg [4, 5] k (fun kq v4 v5 w' => ∃ (x4_1 : Int) (x5_1 : Int), v4 = .int .i64 x4_1 ∧ v5 = .int .i64 x5_1 ∧ Aside0 (tenancyref15_statuses.l0 kq l0 x4_1 x5_1 = some (r1, r2)) ∧ Aside0 (kq ≤ k) ∧ Drawn0 w w')
  case atStart => exact ⟨((-1)), (0), (by rfl), (by rfl), H', ⟨Nat.le_refl _⟩, by repeat (first | exact Drawn0.refl _)⟩
  case round =>
    clear H'
    obtain ⟨x4_1, x5_1, rfl, rfl, HA, HK1, ⟨m1, rfl⟩⟩ := hrel
    cases gk with
    | zero => exact absurd HA.out (by simp [tenancyref15_statuses.l0])
    | succ k1 =>
      have H := HA.out
      clear HA
      simp only [tenancyref15_statuses.l0] at H
      by_cases c2 : x5_1 < (l0.length : Int)
      · rw [if_pos c2] at H
        have c2b0 : decide (x5_1 < (l0.length : Int)) = true := decide_eq_true c2
        clear c2
        by_cases c3 : 0 ≤ x5_1
        · rw [if_pos c3] at H
          have c3b0 : decide (0 ≤ x5_1) = true := decide_eq_true c3
          clear c3
          by_cases c4 : ((rd_T40 l0 x5_1).f0) = 13
          · rw [if_pos c4] at H
            have c4b0 : (((rd_T40 l0 x5_1).f0) == 13) = true := beq_iff_eq.mpr c4
            have c4b1 : (((rd_T40 l0 x5_1).f0) != 13) = false := bne_eq_false_iff_eq.mpr c4
            clear c4
            replace H := Option.bind_eq_some_iff.mp H
            obtain ⟨⟨t361, t362⟩, A50, H⟩ := H
            replace H : (if t362 = true then (if x4_1 < 0 then (tenancyref15_statuses.l0 k1 l0 t361 (wrap64 (x5_1 + 1))) else (tenancyref15_statuses.l0 k1 l0 x4_1 (wrap64 (x5_1 + 1)))) else (some (0, 130))) = some (r1, r2) := H
            have A5 := Aside0.mk A50
            clear A50
            by_cases c6 : t362 = true
            · subst c6
              have H1 : (if x4_1 < 0 then (tenancyref15_statuses.l0 k1 l0 t361 (wrap64 (x5_1 + 1))) else (tenancyref15_statuses.l0 k1 l0 x4_1 (wrap64 (x5_1 + 1)))) = some (r1, r2) := by rw [if_pos rfl] at H; exact H
              clear H
              have H := H1
              clear H1
              by_cases c7 : x4_1 < 0
              · rw [if_pos c7] at H
                have c7b0 : decide (x4_1 < 0) = true := decide_eq_true c7
                clear c7
                have H' := Aside0.mk H
                clear H
                have p359 : 0 ≤ (x5_1 : Int) := of_decide_eq_true (by first | (with_reducible assumption))
                have q359 : x5_1 < (l0.length : Int) := of_decide_eq_true (by first | (with_reducible assumption))
                obtain ⟨ad359, e359, hx359_0, hx359_1⟩ := at_T40 HR0.out x5_1 p359 q359
                cases e359
                replace p359 := eq_true p359
                replace q359 := eq_true q359
                have p360 : 0 ≤ (x5_1 : Int) := of_decide_eq_true (by first | (with_reducible assumption))
                have q360 : x5_1 < (l0.length : Int) := of_decide_eq_true (by first | (with_reducible assumption))
                obtain ⟨ad360, e360, hx360_0, hx360_1⟩ := at_T40 HR0.out x5_1 p360 q360
                obtain rfl : ad359 = ad360 := (by injection e360)
                replace p360 := eq_true p360
                replace q360 := eq_true q360
                go_wp2_with (first | ((with_reducible refine gate_callee (f := 16) rfl ?_); refine goesL_ (some 26) rfl rfl Try.func16 (by kernel_rfl) rfl #[.string ((rd_T40 l0 x5_1).f1)] rfl (by (try simp only [List.map_toArray, List.map_cons, List.map_nil]); first | rfl) ?_; (with_reducible refine (tenancyref15_GetStatus.calls k1 ((rd_T40 l0 x5_1).f1) t361 true _ A5.out).mono ?_); rintro e w' ⟨rfl, ⟨nd, rfl⟩⟩; refine ⟨_, rfl, ?_⟩))
                go_roundg k1
                case measure => have := HK1.out; omega
                case rel => exact ⟨(t361), (wrap64 (x5_1 + 1)), (by rfl), (by rfl), H', ⟨by have := HK1.out; omega⟩, by repeat (first | exact Drawn0.refl _ | apply Drawn0.step)⟩
              · rw [if_neg c7] at H
                have c7b0 : decide (x4_1 < 0) = false := decide_eq_false c7
                clear c7
                have H' := Aside0.mk H
                clear H
                have p359 : 0 ≤ (x5_1 : Int) := of_decide_eq_true (by first | (with_reducible assumption))
                have q359 : x5_1 < (l0.length : Int) := of_decide_eq_true (by first | (with_reducible assumption))
                obtain ⟨ad359, e359, hx359_0, hx359_1⟩ := at_T40 HR0.out x5_1 p359 q359
                cases e359
                replace p359 := eq_true p359
                replace q359 := eq_true q359
                have p360 : 0 ≤ (x5_1 : Int) := of_decide_eq_true (by first | (with_reducible assumption))
                have q360 : x5_1 < (l0.length : Int) := of_decide_eq_true (by first | (with_reducible assumption))
                obtain ⟨ad360, e360, hx360_0, hx360_1⟩ := at_T40 HR0.out x5_1 p360 q360
                obtain rfl : ad359 = ad360 := (by injection e360)
                replace p360 := eq_true p360
                replace q360 := eq_true q360
                go_wp2_with (first | ((with_reducible refine gate_callee (f := 16) rfl ?_); refine goesL_ (some 26) rfl rfl Try.func16 (by kernel_rfl) rfl #[.string ((rd_T40 l0 x5_1).f1)] rfl (by (try simp only [List.map_toArray, List.map_cons, List.map_nil]); first | rfl) ?_; (with_reducible refine (tenancyref15_GetStatus.calls k1 ((rd_T40 l0 x5_1).f1) t361 true _ A5.out).mono ?_); rintro e w' ⟨rfl, ⟨nd, rfl⟩⟩; refine ⟨_, rfl, ?_⟩))
                go_roundg k1
                case measure => have := HK1.out; omega
                case rel => exact ⟨(x4_1), (wrap64 (x5_1 + 1)), (by rfl), (by rfl), H', ⟨by have := HK1.out; omega⟩, by repeat (first | exact Drawn0.refl _ | apply Drawn0.step)⟩
            · replace c6 := Bool.eq_false_iff.mpr c6
              subst c6
              have H1 : (some (0, 130)) = some (r1, r2) := by rw [if_neg (show ¬ (false = true) by decide)] at H; exact H
              clear H
              have H := H1
              clear H1
              simp only [Option.some.injEq, Prod.mk.injEq] at H
              obtain ⟨rfl, rfl⟩ := H
              have p359 : 0 ≤ (x5_1 : Int) := of_decide_eq_true (by first | (with_reducible assumption))
              have q359 : x5_1 < (l0.length : Int) := of_decide_eq_true (by first | (with_reducible assumption))
              obtain ⟨ad359, e359, hx359_0, hx359_1⟩ := at_T40 HR0.out x5_1 p359 q359
              cases e359
              replace p359 := eq_true p359
              replace q359 := eq_true q359
              have p360 : 0 ≤ (x5_1 : Int) := of_decide_eq_true (by first | (with_reducible assumption))
              have q360 : x5_1 < (l0.length : Int) := of_decide_eq_true (by first | (with_reducible assumption))
              obtain ⟨ad360, e360, hx360_0, hx360_1⟩ := at_T40 HR0.out x5_1 p360 q360
              obtain rfl : ad359 = ad360 := (by injection e360)
              replace p360 := eq_true p360
              replace q360 := eq_true q360
              go_wp2_with (first | ((with_reducible refine gate_callee (f := 16) rfl ?_); refine goesL_ (some 26) rfl rfl Try.func16 (by kernel_rfl) rfl #[.string ((rd_T40 l0 x5_1).f1)] rfl (by (try simp only [List.map_toArray, List.map_cons, List.map_nil]); first | rfl) ?_; (with_reducible refine (tenancyref15_GetStatus.calls k1 ((rd_T40 l0 x5_1).f1) t361 false _ A5.out).mono ?_); rintro e w' ⟨rfl, ⟨nd, rfl⟩⟩; refine ⟨_, rfl, ?_⟩))
              go_ret2
              exact ⟨by rfl, by repeat (first | exact Drawn0.refl _ | apply Drawn0.step)⟩
          · rw [if_neg c4] at H
            have c4b0 : (((rd_T40 l0 x5_1).f0) == 13) = false := beq_eq_false_iff_ne.mpr c4
            have c4b1 : (((rd_T40 l0 x5_1).f0) != 13) = true := bne_iff_ne.mpr c4
            have H' := Aside0.mk H
            clear H
            have p359 : 0 ≤ (x5_1 : Int) := of_decide_eq_true (by first | (with_reducible assumption))
            have q359 : x5_1 < (l0.length : Int) := of_decide_eq_true (by first | (with_reducible assumption))
            obtain ⟨ad359, e359, hx359_0, hx359_1⟩ := at_T40 HR0.out x5_1 p359 q359
            cases e359
            replace p359 := eq_true p359
            replace q359 := eq_true q359
            go_wp2
            go_roundg k1
            case measure => have := HK1.out; omega
            case rel => exact ⟨(x4_1), (wrap64 (x5_1 + 1)), (by rfl), (by rfl), H', ⟨by have := HK1.out; omega⟩, by repeat (first | exact Drawn0.refl _ | apply Drawn0.step)⟩
        · rw [if_neg c3] at H
          exact absurd H (by simp)
      · rw [if_neg c2] at H
        have c2b0 : decide (x5_1 < (l0.length : Int)) = false := decide_eq_false c2
        clear c2
        simp only [Option.some.injEq, Prod.mk.injEq] at H
        obtain ⟨rfl, rfl⟩ := H
        go_wp2
        go_ret2
        exact ⟨by rfl, by repeat (first | exact Drawn0.refl _ | apply Drawn0.step)⟩

/-! ### tenancyref15_inner: function 61 -/
mutual
def tenancyref15_inner.j0 : Nat → Int → ByteArray → Int → Int → Int → Int → Int → Int → Int → Int → Option (Int × Int × Int × Int × Int × Int × Int)
  | 0, _, _, _, _, _, _, _, _, _, _ => none
  | k + 1, x0, x1, x7, x8, x365000, x365001, x365002, x365003, x365004, x365005 => (tenancyref04_Cut.f x1 0 x7).bind fun bt365 => (if bt365.2 = true then ((tenancyref15_word.f k bt365.1 x8).bind fun t367 => ((tenancyref15_word.f k bt365.1 (wrap64 (x8 + 4))).bind fun t368 => (if x0 = 4 then (if 8 < (bt365.1.size : Int) then (tenancyref15_inner.j1 k x0 x1 x7 bt365.1 9 x365000 x365001 (wrap64 (bt bt365.1 8)) t367 t368 x365005) else (none)) else (tenancyref15_inner.j1 k x0 x1 x7 bt365.1 0 x365000 x365001 128 t367 t368 x365005)))) else (some (x365000, x365001, x365002, x365003, x365004, x365005, 3)))
def tenancyref15_inner.j1 : Nat → Int → ByteArray → Int → ByteArray → Int → Int → Int → Int → Int → Int → Int → Option (Int × Int × Int × Int × Int × Int × Int)
  | 0, _, _, _, _, _, _, _, _, _, _, _ => none
  | k + 1, x0, x1, x7, x9, x11, x365000, x365001, x365002, x365003, x365004, x365005 => (tenancyref04_GetAddr.f k x9 x11).bind fun bt369 => (if x0 = 4 then ((tenancyref01_Sound.f k bt369.1 bt369.2.1 x365002).bind fun t373 => (if t373 = true then (tenancyref15_inner.j2 k x1 x7 bt369.1 bt369.2.1 x365002 x365003 x365004 x365005) else (some (0, 0, 0, 0, 0, 0, 130)))) else (tenancyref15_inner.j2 k x1 x7 bt369.1 bt369.2.1 x365002 x365003 x365004 x365005))
def tenancyref15_inner.j2 : Nat → ByteArray → Int → Int → Int → Int → Int → Int → Int → Option (Int × Int × Int × Int × Int × Int × Int)
  | 0, _, _, _, _, _, _, _, _ => none
  | k + 1, x1, x7, x365000, x365001, x365002, x365003, x365004, x365005 => if 0 ≤ x7 then (if x7 ≤ (x1.size : Int) then ((tenancyref15_Parse.f k (x1.extract (x7 : Int).toNat x1.size)).bind fun bt374 => (if bt374.2 = 0 then ((tenancyref15_statuses.f k bt374.1).bind fun bt378 => (if bt378.2 = 0 then (some (x365000, x365001, x365002, x365003, x365004, bt378.1, 0)) else (some (0, 0, 0, 0, 0, 0, bt378.2)))) else (some (0, 0, 0, 0, 0, 0, bt374.2)))) else (none)) else (none)
end
def tenancyref15_inner.f (k : Nat) (a0 : Int) (a1 : ByteArray) : Option (Int × Int × Int × Int × Int × Int × Int) := if a0 = 4 then (tenancyref15_inner.j0 k a0 a1 25 0 0 0 0 0 0 0) else (tenancyref15_inner.j0 k a0 a1 24 16 0 0 0 0 0 0)
theorem tenancyref15_inner.mono_l : ∀ k, (∀ y0 y1 y2 y3 y4 y5 y6 y7 y8 y9, LeO (tenancyref15_inner.j0 k y0 y1 y2 y3 y4 y5 y6 y7 y8 y9) (tenancyref15_inner.j0 (k + 1) y0 y1 y2 y3 y4 y5 y6 y7 y8 y9)) ∧ (∀ y0 y1 y2 y3 y4 y5 y6 y7 y8 y9 y10, LeO (tenancyref15_inner.j1 k y0 y1 y2 y3 y4 y5 y6 y7 y8 y9 y10) (tenancyref15_inner.j1 (k + 1) y0 y1 y2 y3 y4 y5 y6 y7 y8 y9 y10)) ∧ (∀ y0 y1 y2 y3 y4 y5 y6 y7, LeO (tenancyref15_inner.j2 k y0 y1 y2 y3 y4 y5 y6 y7) (tenancyref15_inner.j2 (k + 1) y0 y1 y2 y3 y4 y5 y6 y7))
  | 0 => ⟨fun _ _ _ _ _ _ _ _ _ _ r h => by simp [tenancyref15_inner.j0] at h, fun _ _ _ _ _ _ _ _ _ _ _ r h => by simp [tenancyref15_inner.j1] at h, fun _ _ _ _ _ _ _ _ r h => by simp [tenancyref15_inner.j2] at h⟩
  | k + 1 => by
    obtain ⟨ih0, ih1, ih2⟩ := tenancyref15_inner.mono_l k
    refine ⟨?_, ?_, ?_⟩
    · intro y0 y1 y2 y3 y4 y5 y6 y7 y8 y9
      unfold tenancyref15_inner.j0
      repeat' first
      | (with_reducible exact ih0 _ _ _ _ _ _ _ _ _ _)
      | (with_reducible exact ih1 _ _ _ _ _ _ _ _ _ _ _)
      | (with_reducible exact ih2 _ _ _ _ _ _ _ _)
      | (with_reducible exact tenancyref01_Sound.mono _ _ _ _)
      | (with_reducible exact tenancyref04_GetAddr.mono _ _ _)
      | (with_reducible exact tenancyref15_Parse.mono _ _)
      | (with_reducible exact tenancyref15_statuses.mono _ _)
      | (with_reducible exact tenancyref15_word.mono _ _ _)
      | (with_reducible exact LeO.refl _)
      | (with_reducible exact LeO.none _)
      | (with_reducible refine LeO.ite ?_ ?_)
      | (with_reducible refine LeO.bind ?_ (fun _ => ?_))
      | exact ih0 _ _ _ _ _ _ _ _ _ _
      | exact ih1 _ _ _ _ _ _ _ _ _ _ _
      | exact ih2 _ _ _ _ _ _ _ _
      | exact tenancyref01_Sound.mono _ _ _ _
      | exact tenancyref04_GetAddr.mono _ _ _
      | exact tenancyref15_Parse.mono _ _
      | exact tenancyref15_statuses.mono _ _
      | exact tenancyref15_word.mono _ _ _
      | exact LeO.none _
      | refine LeO.ite ?_ ?_
      | refine LeO.bind ?_ (fun _ => ?_)
    · intro y0 y1 y2 y3 y4 y5 y6 y7 y8 y9 y10
      unfold tenancyref15_inner.j1
      repeat' first
      | (with_reducible exact ih0 _ _ _ _ _ _ _ _ _ _)
      | (with_reducible exact ih1 _ _ _ _ _ _ _ _ _ _ _)
      | (with_reducible exact ih2 _ _ _ _ _ _ _ _)
      | (with_reducible exact tenancyref01_Sound.mono _ _ _ _)
      | (with_reducible exact tenancyref04_GetAddr.mono _ _ _)
      | (with_reducible exact tenancyref15_Parse.mono _ _)
      | (with_reducible exact tenancyref15_statuses.mono _ _)
      | (with_reducible exact tenancyref15_word.mono _ _ _)
      | (with_reducible exact LeO.refl _)
      | (with_reducible exact LeO.none _)
      | (with_reducible refine LeO.ite ?_ ?_)
      | (with_reducible refine LeO.bind ?_ (fun _ => ?_))
      | exact ih0 _ _ _ _ _ _ _ _ _ _
      | exact ih1 _ _ _ _ _ _ _ _ _ _ _
      | exact ih2 _ _ _ _ _ _ _ _
      | exact tenancyref01_Sound.mono _ _ _ _
      | exact tenancyref04_GetAddr.mono _ _ _
      | exact tenancyref15_Parse.mono _ _
      | exact tenancyref15_statuses.mono _ _
      | exact tenancyref15_word.mono _ _ _
      | exact LeO.none _
      | refine LeO.ite ?_ ?_
      | refine LeO.bind ?_ (fun _ => ?_)
    · intro y0 y1 y2 y3 y4 y5 y6 y7
      unfold tenancyref15_inner.j2
      repeat' first
      | (with_reducible exact ih0 _ _ _ _ _ _ _ _ _ _)
      | (with_reducible exact ih1 _ _ _ _ _ _ _ _ _ _ _)
      | (with_reducible exact ih2 _ _ _ _ _ _ _ _)
      | (with_reducible exact tenancyref01_Sound.mono _ _ _ _)
      | (with_reducible exact tenancyref04_GetAddr.mono _ _ _)
      | (with_reducible exact tenancyref15_Parse.mono _ _)
      | (with_reducible exact tenancyref15_statuses.mono _ _)
      | (with_reducible exact tenancyref15_word.mono _ _ _)
      | (with_reducible exact LeO.refl _)
      | (with_reducible exact LeO.none _)
      | (with_reducible refine LeO.ite ?_ ?_)
      | (with_reducible refine LeO.bind ?_ (fun _ => ?_))
      | exact ih0 _ _ _ _ _ _ _ _ _ _
      | exact ih1 _ _ _ _ _ _ _ _ _ _ _
      | exact ih2 _ _ _ _ _ _ _ _
      | exact tenancyref01_Sound.mono _ _ _ _
      | exact tenancyref04_GetAddr.mono _ _ _
      | exact tenancyref15_Parse.mono _ _
      | exact tenancyref15_statuses.mono _ _
      | exact tenancyref15_word.mono _ _ _
      | exact LeO.none _
      | refine LeO.ite ?_ ?_
      | refine LeO.bind ?_ (fun _ => ?_)
theorem tenancyref15_inner.mono : ∀ a0 a1 k, LeO (tenancyref15_inner.f k a0 a1) (tenancyref15_inner.f (k + 1) a0 a1) := by
  intro a0 a1 k
  obtain ⟨ih0, ih1, ih2⟩ := tenancyref15_inner.mono_l k
  unfold tenancyref15_inner.f
  repeat' first
      | (with_reducible exact ih0 _ _ _ _ _ _ _ _ _ _)
      | (with_reducible exact ih1 _ _ _ _ _ _ _ _ _ _ _)
      | (with_reducible exact ih2 _ _ _ _ _ _ _ _)
      | (with_reducible exact tenancyref01_Sound.mono _ _ _ _)
      | (with_reducible exact tenancyref04_GetAddr.mono _ _ _)
      | (with_reducible exact tenancyref15_Parse.mono _ _)
      | (with_reducible exact tenancyref15_statuses.mono _ _)
      | (with_reducible exact tenancyref15_word.mono _ _ _)
      | (with_reducible exact LeO.refl _)
      | (with_reducible exact LeO.none _)
      | (with_reducible refine LeO.ite ?_ ?_)
      | (with_reducible refine LeO.bind ?_ (fun _ => ?_))
      | exact ih0 _ _ _ _ _ _ _ _ _ _
      | exact ih1 _ _ _ _ _ _ _ _ _ _ _
      | exact ih2 _ _ _ _ _ _ _ _
      | exact tenancyref01_Sound.mono _ _ _ _
      | exact tenancyref04_GetAddr.mono _ _ _
      | exact tenancyref15_Parse.mono _ _
      | exact tenancyref15_statuses.mono _ _
      | exact tenancyref15_word.mono _ _ _
      | exact LeO.none _
      | refine LeO.ite ?_ ?_
      | refine LeO.bind ?_ (fun _ => ?_)
set_option maxHeartbeats 8000000 in
set_option maxRecDepth 100000 in
theorem tenancyref15_inner.calls (k : Nat) (a0 : Int) (a1 : ByteArray) (r1 : Int) (r2 : Int) (r3 : Int) (r4 : Int) (r5 : Int) (r6 : Int) (r7 : Int) (w : World) (h : tenancyref15_inner.f k a0 a1 = some (r1, r2, r3, r4, r5, r6, r7)) :
    Calls Try.prog 61 #[.int .i64 a0, .string a1] w fun e w' => e = .returned (.tuple #[.agg #[.int .u64 r1, .int .u64 r2, .int .i64 r3, .int .u32 r4, .int .u32 r5, .int .i64 r6], .int .i64 r7]) ∧ Below w.heap.size w w' := by
  have hu76 := Try.underlying76
  have hu72 := Try.underlying72
  have hu74 := Try.underlying74
  have HB := Aside0.mk (Below.refl w.heap.size w)
  have H : (if a0 = 4 then (tenancyref15_inner.j0 k a0 a1 25 0 0 0 0 0 0 0) else (tenancyref15_inner.j0 k a0 a1 24 16 0 0 0 0 0 0)) = some (r1, r2, r3, r4, r5, r6, r7) := h
  clear h
  have HC3 := Aside0.mk H
  clear H
  go_enter Try.func61, Try.ntmps61
  go_upto_if 19 with (first | ((with_reducible refine gate_dst (N := 4) rfl ?_); refine box_event ?hg (N := 4) ?hd (cs := #[.int .u64 0, .int .u64 0, .int .i64 0, .int .u32 0, .int .u32 0, .int .i64 0]) (t := 76) ?hr ?_; (case hd => rfl); (case hg => rfl); (case hr => go_simp; done); intro gb363 hg w4 hbox hb; have n0_ := Aside0.mk (below_step HB.out hb); have n1_ := Aside0.mk (hbox); have n2_ := Aside0.mk ((by rw [hg]; exact (below_size HB.out) : w.heap.size ≤ gb363)); have n3_ := Aside0.mk ((by rw [hg]; exact (below_size HB.out) : w.heap.size ≤ gb363)); clear HB; have HB := n0_; have BK363 := n1_; have GW363 := n2_; have GE363 := n3_; clear n0_ n1_ n2_ n3_; clear hb hbox hg) | ((with_reducible refine gate_dst (N := 6) rfl ?_); refine box_event ?hg (N := 6) ?hd (cs := #[.int .u64 0, .int .u64 0, .int .i64 0, .int .u32 0, .int .u32 0, .int .i64 0]) (t := 76) ?hr ?_; (case hd => rfl); (case hg => rfl); (case hr => go_simp; done); intro gb364 hg w5 hbox hb; have n0_ := Aside0.mk (blk_below (g := gb363) (o := .cells #[.int .u64 0, .int .u64 0, .int .i64 0, .int .u32 0, .int .u32 0, .int .i64 0] 76 (0, 0)) BK363.out hb); have n1_ := Aside0.mk (below_step HB.out hb); have n2_ := Aside0.mk (hbox); have n3_ := Aside0.mk ((by rw [hg]; exact (below_size HB.out) : w.heap.size ≤ gb364)); have n4_ := Aside0.mk ((by rw [hg]; exact (below_size HB.out) : w.heap.size ≤ gb364)); have n5_ := Aside0.mk ((by rw [hg]; exact Nat.ne_of_lt (blk_lt (g := gb363) (o := .cells #[.int .u64 0, .int .u64 0, .int .i64 0, .int .u32 0, .int .u32 0, .int .i64 0] 76 (0, 0)) BK363.out) : gb363 ≠ gb364)); have n6_ := Aside0.mk ((by rw [hg]; exact Nat.ne_of_gt (blk_lt (g := gb363) (o := .cells #[.int .u64 0, .int .u64 0, .int .i64 0, .int .u32 0, .int .u32 0, .int .i64 0] 76 (0, 0)) BK363.out) : gb364 ≠ gb363)); clear BK363; clear HB; have BK363 := n0_; have HB := n1_; have BK364 := n2_; have GW364 := n3_; have GE364 := n4_; have NB363_364 := n5_; have NB364_363 := n6_; clear n0_ n1_ n2_ n3_ n4_ n5_ n6_; clear hb hbox hg; have hnb6 := NB364_363.out; have hnc6 := NB363_364.out; obtain ⟨hcz7_0, hcz7_1, hcz7_2, hcz7_3, hcz7_4, hcz7_5⟩ := XRun.bc6 BK364.out; obtain ⟨hfz7_0, hfz7_1, hfz7_2, hfz7_3, hfz7_4, hfz7_5⟩ := XRun.bf6 BK364.out))
  (try simp only [Act.put, List.setIfInBounds_toArray, List.set_cons_zero, List.set_cons_succ])
  go_cut [7, 8] (fun v7 v8 wc => ∃ (kq : Nat) (x7_2 : Int) (x8_2 : Int), v7 = .int .i64 x7_2 ∧ v8 = .int .i64 x8_2 ∧ Aside0 (tenancyref15_inner.j0 kq a0 a1 x7_2 x8_2 0 0 0 0 0 0 = some (r1, r2, r3, r4, r5, r6, r7)) ∧ Aside0 (kq ≤ k) ∧ Aside0 (wc.heap[gb363]? = some (.cells #[.int .u64 0, .int .u64 0, .int .i64 0, .int .u32 0, .int .u32 0, .int .i64 0] 76 (0, 0))) ∧ Aside0 (wc.heap[gb364]? = some (.cells #[.int .u64 0, .int .u64 0, .int .i64 0, .int .u32 0, .int .u32 0, .int .i64 0] 76 (0, 0))) ∧ Aside0 (Below w.heap.size w wc))
  case first =>
    have H := HC3.out
    clear HC3
    by_cases c8 : a0 = 4
    · rw [if_pos c8] at H
      have c8b0 : (a0 == 4) = true := beq_iff_eq.mpr c8
      have c8b1 : (a0 != 4) = false := bne_eq_false_iff_eq.mpr c8
      clear c8
      (first | rw [c8b0])
      have H' := Aside0.mk H
      clear H
      go_wp2
      go_meet
      case rel => exact ⟨_, (25), (0), (by rfl), (by rfl), H', ⟨by omega⟩, ⟨by refine blk_far ?_ NB363_364.out _; refine blk_far ?_ NB363_364.out _; refine blk_far ?_ NB363_364.out _; refine blk_far ?_ NB363_364.out _; refine blk_far ?_ NB363_364.out _; refine blk_far ?_ NB363_364.out _; exact BK363.out⟩, ⟨by refine blk_put (cs := #[.int .u64 0, .int .u64 0, .int .i64 0, .int .u32 0, .int .u32 0, .int .i64 0]) ?_ 5 _ rfl; refine blk_put (cs := #[.int .u64 0, .int .u64 0, .int .i64 0, .int .u32 0, .int .u32 0, .int .i64 0]) ?_ 4 _ rfl; refine blk_put (cs := #[.int .u64 0, .int .u64 0, .int .i64 0, .int .u32 0, .int .u32 0, .int .i64 0]) ?_ 3 _ rfl; refine blk_put (cs := #[.int .u64 0, .int .u64 0, .int .i64 0, .int .u32 0, .int .u32 0, .int .i64 0]) ?_ 2 _ rfl; refine blk_put (cs := #[.int .u64 0, .int .u64 0, .int .i64 0, .int .u32 0, .int .u32 0, .int .i64 0]) ?_ 1 _ rfl; refine blk_put (cs := #[.int .u64 0, .int .u64 0, .int .i64 0, .int .u32 0, .int .u32 0, .int .i64 0]) ?_ 0 _ rfl; exact BK364.out⟩, ⟨by repeat (first | (with_reducible first | exact HB.out | refine below_set ?_ GE364.out))⟩⟩
    · rw [if_neg c8] at H
      have c8b0 : (a0 == 4) = false := beq_eq_false_iff_ne.mpr c8
      have c8b1 : (a0 != 4) = true := bne_iff_ne.mpr c8
      (first | rw [c8b0])
      have H' := Aside0.mk H
      clear H
      go_wp2
      go_meet
      case rel => exact ⟨_, (24), (16), (by rfl), (by rfl), H', ⟨by omega⟩, ⟨by refine blk_far ?_ NB363_364.out _; refine blk_far ?_ NB363_364.out _; refine blk_far ?_ NB363_364.out _; refine blk_far ?_ NB363_364.out _; refine blk_far ?_ NB363_364.out _; refine blk_far ?_ NB363_364.out _; exact BK363.out⟩, ⟨by refine blk_put (cs := #[.int .u64 0, .int .u64 0, .int .i64 0, .int .u32 0, .int .u32 0, .int .i64 0]) ?_ 5 _ rfl; refine blk_put (cs := #[.int .u64 0, .int .u64 0, .int .i64 0, .int .u32 0, .int .u32 0, .int .i64 0]) ?_ 4 _ rfl; refine blk_put (cs := #[.int .u64 0, .int .u64 0, .int .i64 0, .int .u32 0, .int .u32 0, .int .i64 0]) ?_ 3 _ rfl; refine blk_put (cs := #[.int .u64 0, .int .u64 0, .int .i64 0, .int .u32 0, .int .u32 0, .int .i64 0]) ?_ 2 _ rfl; refine blk_put (cs := #[.int .u64 0, .int .u64 0, .int .i64 0, .int .u32 0, .int .u32 0, .int .i64 0]) ?_ 1 _ rfl; refine blk_put (cs := #[.int .u64 0, .int .u64 0, .int .i64 0, .int .u32 0, .int .u32 0, .int .i64 0]) ?_ 0 _ rfl; exact BK364.out⟩, ⟨by repeat (first | (with_reducible first | exact HB.out | refine below_set ?_ GE364.out))⟩⟩
  case rest =>
    clear HC3
    try clear p2
    try clear c6
    try clear c8
    try clear c8b0
    try clear c8b1
    try clear hcz7_0
    try clear hcz7_1
    try clear hcz7_2
    try clear hcz7_3
    try clear hcz7_4
    try clear hcz7_5
    try clear hfz7_0
    try clear hfz7_1
    try clear hfz7_2
    try clear hfz7_3
    try clear hfz7_4
    try clear hfz7_5
    obtain ⟨kq, x7_2, x8_2, rfl, rfl, HA, HJ2, BK363, BK364, HB⟩ := hcut
    cases kq with
    | zero => exact absurd HA.out (by simp [tenancyref15_inner.j0])
    | succ kj2 =>
      have H := HA.out
      clear HA
      simp only [tenancyref15_inner.j0] at H
      replace H := Option.bind_eq_some_iff.mp H
      obtain ⟨⟨t365, t366⟩, A90, H⟩ := H
      replace H : (if t366 = true then ((tenancyref15_word.f kj2 t365 x8_2).bind fun t367 => ((tenancyref15_word.f kj2 t365 (wrap64 (x8_2 + 4))).bind fun t368 => (if a0 = 4 then (if 8 < (t365.size : Int) then (tenancyref15_inner.j1 kj2 a0 a1 x7_2 t365 9 0 0 (wrap64 (bt t365 8)) t367 t368 0) else (none)) else (tenancyref15_inner.j1 kj2 a0 a1 x7_2 t365 0 0 0 128 t367 t368 0)))) else (some (0, 0, 0, 0, 0, 0, 3))) = some (r1, r2, r3, r4, r5, r6, r7) := H
      have A9 := Aside0.mk A90
      clear A90
      by_cases c10 : t366 = true
      · subst c10
        have H1 : ((tenancyref15_word.f kj2 t365 x8_2).bind fun t367 => ((tenancyref15_word.f kj2 t365 (wrap64 (x8_2 + 4))).bind fun t368 => (if a0 = 4 then (if 8 < (t365.size : Int) then (tenancyref15_inner.j1 kj2 a0 a1 x7_2 t365 9 0 0 (wrap64 (bt t365 8)) t367 t368 0) else (none)) else (tenancyref15_inner.j1 kj2 a0 a1 x7_2 t365 0 0 0 128 t367 t368 0)))) = some (r1, r2, r3, r4, r5, r6, r7) := by rw [if_pos rfl] at H; exact H
        clear H
        have H := H1
        clear H1
        replace H := Option.bind_eq_some_iff.mp H
        obtain ⟨t367, A110, H⟩ := H
        replace H : ((tenancyref15_word.f kj2 t365 (wrap64 (x8_2 + 4))).bind fun t368 => (if a0 = 4 then (if 8 < (t365.size : Int) then (tenancyref15_inner.j1 kj2 a0 a1 x7_2 t365 9 0 0 (wrap64 (bt t365 8)) t367 t368 0) else (none)) else (tenancyref15_inner.j1 kj2 a0 a1 x7_2 t365 0 0 0 128 t367 t368 0))) = some (r1, r2, r3, r4, r5, r6, r7) := H
        have A11 := Aside0.mk A110
        clear A110
        replace H := Option.bind_eq_some_iff.mp H
        obtain ⟨t368, A120, H⟩ := H
        replace H : (if a0 = 4 then (if 8 < (t365.size : Int) then (tenancyref15_inner.j1 kj2 a0 a1 x7_2 t365 9 0 0 (wrap64 (bt t365 8)) t367 t368 0) else (none)) else (tenancyref15_inner.j1 kj2 a0 a1 x7_2 t365 0 0 0 128 t367 t368 0)) = some (r1, r2, r3, r4, r5, r6, r7) := H
        have A12 := Aside0.mk A120
        clear A120
        have HC13 := Aside0.mk H
        clear H
        go_upto_if 41 with (first | ((with_reducible refine gate_callee (f := 59) rfl ?_); refine goesL_ (some 23) rfl rfl Try.func59 (by kernel_rfl) rfl #[.string a1, .int .i64 0, .int .i64 x7_2] rfl (by (try simp only [List.map_toArray, List.map_cons, List.map_nil]); first | rfl) ?_; (with_reducible refine (tenancyref04_Cut.calls a1 0 x7_2 t365 true _ A9.out).mono ?_); rintro e w' ⟨rfl, ⟨nd, rfl⟩⟩; refine ⟨_, rfl, ?_⟩; (try (rw [drewN_self wc]; generalize hq_ : World.drewN wc _ = wc; have n0_ : Aside0 (wc.heap[gb363]? = some (.cells #[.int .u64 0, .int .u64 0, .int .i64 0, .int .u32 0, .int .u32 0, .int .i64 0] 76 (0, 0))) := ⟨by rw [← hq_]; exact (by (with_reducible repeat (first | refine blk_drewN ?_ _)); exact BK363.out)⟩; have n1_ : Aside0 (wc.heap[gb364]? = some (.cells #[.int .u64 0, .int .u64 0, .int .i64 0, .int .u32 0, .int .u32 0, .int .i64 0] 76 (0, 0))) := ⟨by rw [← hq_]; exact (by (with_reducible repeat (first | refine blk_drewN ?_ _)); exact BK364.out)⟩; have n2_ : Aside0 (Below w.heap.size w wc) := ⟨by rw [← hq_]; exact (by repeat (first | (with_reducible first | exact HB.out | apply pw_below_drewN)))⟩; clear BK363 BK364 HB hq_; have BK363 := n0_; have BK364 := n1_; have HB := n2_; clear n0_ n1_ n2_))) | ((with_reducible refine gate_callee (f := 60) rfl ?_); refine goesL_ (some 31) rfl rfl Try.func60 (by kernel_rfl) rfl #[.string t365, .int .i64 x8_2] rfl (by (try simp only [List.map_toArray, List.map_cons, List.map_nil]); first | rfl) ?_; (with_reducible refine (tenancyref15_word.calls kj2 t365 x8_2 t367 _ A11.out).mono ?_); rintro e w' ⟨rfl, ⟨nd, rfl⟩⟩; refine ⟨_, rfl, ?_⟩; (try (rw [drewN_self wc]; generalize hq_ : World.drewN wc _ = wc; have n0_ : Aside0 (wc.heap[gb363]? = some (.cells #[.int .u64 0, .int .u64 0, .int .i64 0, .int .u32 0, .int .u32 0, .int .i64 0] 76 (0, 0))) := ⟨by rw [← hq_]; exact (by (with_reducible repeat (first | refine blk_drewN ?_ _)); exact BK363.out)⟩; have n1_ : Aside0 (wc.heap[gb364]? = some (.cells #[.int .u64 0, .int .u64 0, .int .i64 0, .int .u32 0, .int .u32 0, .int .i64 0] 76 (0, 0))) := ⟨by rw [← hq_]; exact (by (with_reducible repeat (first | refine blk_drewN ?_ _)); exact BK364.out)⟩; have n2_ : Aside0 (Below w.heap.size w wc) := ⟨by rw [← hq_]; exact (by repeat (first | (with_reducible first | exact HB.out | apply pw_below_drewN)))⟩; clear BK363 BK364 HB hq_; have BK363 := n0_; have BK364 := n1_; have HB := n2_; clear n0_ n1_ n2_)); have hnb14 := NB364_363.out; have hnc14 := NB363_364.out; obtain ⟨hcz15_0, hcz15_1, hcz15_2, hcz15_3, hcz15_4, hcz15_5⟩ := XRun.bc6 BK364.out; obtain ⟨hfz15_0, hfz15_1, hfz15_2, hfz15_3, hfz15_4, hfz15_5⟩ := XRun.bf6 BK364.out) | ((with_reducible refine gate_callee (f := 60) rfl ?_); refine goesL_ (some 36) rfl rfl Try.func60 (by kernel_rfl) rfl #[.string t365, .int .i64 (wrap64 (x8_2 + 4))] rfl (by (try simp only [List.map_toArray, List.map_cons, List.map_nil]); first | rfl) ?_; (with_reducible refine (tenancyref15_word.calls kj2 t365 (wrap64 (x8_2 + 4)) t368 _ A12.out).mono ?_); rintro e w' ⟨rfl, ⟨nd, rfl⟩⟩; refine ⟨_, rfl, ?_⟩))
        (try simp only [Act.put, List.setIfInBounds_toArray, List.set_cons_zero, List.set_cons_succ])
        go_cut [11] (fun v11 wc => ∃ (kq : Nat) (x11_12 : Int) (x365002_12 : Int), v11 = .int .i64 x11_12 ∧ Aside0 (tenancyref15_inner.j1 kq a0 a1 x7_2 t365 x11_12 0 0 x365002_12 t367 t368 0 = some (r1, r2, r3, r4, r5, r6, r7)) ∧ Aside0 (kq ≤ kj2) ∧ Aside0 (wc.heap[gb363]? = some (.cells #[.int .u64 0, .int .u64 0, .int .i64 0, .int .u32 0, .int .u32 0, .int .i64 0] 76 (0, 0))) ∧ Aside0 (wc.heap[gb364]? = some (.cells #[.int .u64 0, .int .u64 0, .int .i64 x365002_12, .int .u32 t367, .int .u32 t368, .int .i64 0] 76 (0, 0))) ∧ Aside0 (Below w.heap.size w wc))
        case first =>
          have H := HC13.out
          clear HC13
          by_cases c16 : a0 = 4
          · rw [if_pos c16] at H
            have c16b0 : (a0 == 4) = true := beq_iff_eq.mpr c16
            have c16b1 : (a0 != 4) = false := bne_eq_false_iff_eq.mpr c16
            clear c16
            (first | rw [c16b0])
            by_cases c17 : 8 < (t365.size : Int)
            · rw [if_pos c17] at H
              have c17b0 : decide (8 < (t365.size : Int)) = true := decide_eq_true c17
              have c17b1 : decide (8 < t365.size) = true := decide_eq_true (by omega)
              clear c17
              have H' := Aside0.mk H
              clear H
              have p18 : 0 ≤ (8 : Int) := (by omega)
              have q18 : 8 < t365.size := (by have : (8 : Int) < (t365.size : Int) := of_decide_eq_true (by first | (with_reducible assumption)); omega)
              have hx18 : ∀ h : 8 < t365.size, ((t365[8]'h).toNat : Int) = bt t365 8 := bt_at t365 8
              clear p18
              have qi18 : (8 < (t365.size : Int)) = True := eq_true (of_decide_eq_true (by first | (with_reducible assumption)))
              replace q18 := eq_true q18
              have hnb19 := NB364_363.out
              have hnc19 := NB363_364.out
              obtain ⟨hcz20_0, hcz20_1, hcz20_2, hcz20_3, hcz20_4, hcz20_5⟩ := XRun.bc6 BK364.out
              obtain ⟨hfz20_0, hfz20_1, hfz20_2, hfz20_3, hfz20_4, hfz20_5⟩ := XRun.bf6 BK364.out
              go_wp2
              go_meet
              case rel => exact ⟨_, (9), (wrap64 (bt t365 8)), (by rfl), H', ⟨by have := HJ2.out; first | omega⟩, ⟨by refine blk_far ?_ NB363_364.out _; refine blk_far ?_ NB363_364.out _; refine blk_far ?_ NB363_364.out _; (with_reducible repeat (first | refine blk_drewN ?_ _)); refine blk_far ?_ NB363_364.out _; exact BK363.out⟩, ⟨by refine blk_put (cs := #[.int .u64 0, .int .u64 0, .int .i64 128, .int .u32 t367, .int .u32 t368, .int .i64 0]) ?_ 2 _ rfl; refine blk_put (cs := #[.int .u64 0, .int .u64 0, .int .i64 0, .int .u32 t367, .int .u32 t368, .int .i64 0]) ?_ 2 _ rfl; refine blk_put (cs := #[.int .u64 0, .int .u64 0, .int .i64 0, .int .u32 t367, .int .u32 0, .int .i64 0]) ?_ 4 _ rfl; (with_reducible repeat (first | refine blk_drewN ?_ _)); refine blk_put (cs := #[.int .u64 0, .int .u64 0, .int .i64 0, .int .u32 0, .int .u32 0, .int .i64 0]) ?_ 3 _ rfl; exact BK364.out⟩, ⟨by repeat (first | (with_reducible first | exact HB.out | apply pw_below_drewN | refine below_set ?_ GE364.out))⟩⟩
            · rw [if_neg c17] at H
              exact absurd H (by simp)
          · rw [if_neg c16] at H
            have c16b0 : (a0 == 4) = false := beq_eq_false_iff_ne.mpr c16
            have c16b1 : (a0 != 4) = true := bne_iff_ne.mpr c16
            (first | rw [c16b0])
            have H' := Aside0.mk H
            clear H
            go_wp2
            go_meet
            case rel => exact ⟨_, (0), (128), (by rfl), H', ⟨by have := HJ2.out; first | omega⟩, ⟨by refine blk_far ?_ NB363_364.out _; refine blk_far ?_ NB363_364.out _; (with_reducible repeat (first | refine blk_drewN ?_ _)); refine blk_far ?_ NB363_364.out _; exact BK363.out⟩, ⟨by refine blk_put (cs := #[.int .u64 0, .int .u64 0, .int .i64 0, .int .u32 t367, .int .u32 t368, .int .i64 0]) ?_ 2 _ rfl; refine blk_put (cs := #[.int .u64 0, .int .u64 0, .int .i64 0, .int .u32 t367, .int .u32 0, .int .i64 0]) ?_ 4 _ rfl; (with_reducible repeat (first | refine blk_drewN ?_ _)); refine blk_put (cs := #[.int .u64 0, .int .u64 0, .int .i64 0, .int .u32 0, .int .u32 0, .int .i64 0]) ?_ 3 _ rfl; exact BK364.out⟩, ⟨by repeat (first | (with_reducible first | exact HB.out | apply pw_below_drewN | refine below_set ?_ GE364.out))⟩⟩
        case rest =>
          clear HC13
          try clear c1
          try clear p1
          try clear q1
          try clear hx1
          try clear qi1
          try clear p2
          try clear c5
          try clear c6
          try clear p6
          try clear c8
          try clear c8b0
          try clear c8b1
          try clear c10
          try clear c14
          try clear c16
          try clear c16b0
          try clear c16b1
          try clear c17
          try clear c17b0
          try clear c17b1
          try clear p18
          try clear q18
          try clear hx18
          try clear qi18
          try clear c19
          try clear hcz15_0
          try clear hcz15_1
          try clear hcz15_2
          try clear hcz15_3
          try clear hcz15_4
          try clear hcz15_5
          try clear hcz20_0
          try clear hcz20_1
          try clear hcz20_2
          try clear hcz20_3
          try clear hcz20_4
          try clear hcz20_5
          try clear hcz7_0
          try clear hcz7_1
          try clear hcz7_2
          try clear hcz7_3
          try clear hcz7_4
          try clear hcz7_5
          try clear hfz15_0
          try clear hfz15_1
          try clear hfz15_2
          try clear hfz15_3
          try clear hfz15_4
          try clear hfz15_5
          try clear hfz20_0
          try clear hfz20_1
          try clear hfz20_2
          try clear hfz20_3
          try clear hfz20_4
          try clear hfz20_5
          try clear hfz7_0
          try clear hfz7_1
          try clear hfz7_2
          try clear hfz7_3
          try clear hfz7_4
          try clear hfz7_5
          try clear p18
          try clear p2
          try clear q18
          obtain ⟨kq, x11_12, x365002_12, rfl, HA, HJ12, BK363, BK364, HB⟩ := hcut
          cases kq with
          | zero => exact absurd HA.out (by simp [tenancyref15_inner.j1])
          | succ kj12 =>
            have H := HA.out
            clear HA
            simp only [tenancyref15_inner.j1] at H
            replace H := Option.bind_eq_some_iff.mp H
            obtain ⟨⟨t369, t370, t371⟩, A210, H⟩ := H
            replace H : (if a0 = 4 then ((tenancyref01_Sound.f kj12 t369 t370 x365002_12).bind fun t373 => (if t373 = true then (tenancyref15_inner.j2 kj12 a1 x7_2 t369 t370 x365002_12 t367 t368 0) else (some (0, 0, 0, 0, 0, 0, 130)))) else (tenancyref15_inner.j2 kj12 a1 x7_2 t369 t370 x365002_12 t367 t368 0)) = some (r1, r2, r3, r4, r5, r6, r7) := H
            have A21 := Aside0.mk A210
            clear A210
            have HC22 := Aside0.mk H
            clear H
            go_upto_if 57 with (first | ((with_reducible refine gate_callee (f := 77) rfl ?_); refine goesL_ (some 50) rfl rfl Try.func77 (by kernel_rfl) rfl #[.string t365, .int .i64 x11_12] rfl (by (try simp only [List.map_toArray, List.map_cons, List.map_nil]); first | rfl) ?_; (with_reducible refine (tenancyref04_GetAddr.calls kj12 t365 x11_12 t369 t370 t371 _ A21.out).mono ?_); rintro e w23 ⟨rfl, hb⟩; refine ⟨_, rfl, ?_⟩; have n0_ := Aside0.mk (blk_below (g := gb363) (o := .cells #[.int .u64 0, .int .u64 0, .int .i64 0, .int .u32 0, .int .u32 0, .int .i64 0] 76 (0, 0)) BK363.out hb); have n1_ := Aside0.mk (blk_below (g := gb364) (o := .cells #[.int .u64 0, .int .u64 0, .int .i64 x365002_12, .int .u32 t367, .int .u32 t368, .int .i64 0] 76 (0, 0)) BK364.out hb); have n2_ := Aside0.mk (below_step HB.out hb); clear BK363; clear BK364; clear HB; have BK363 := n0_; have BK364 := n1_; have HB := n2_; clear n0_ n1_ n2_; (try clear hb); (try clear hb2); (try clear hk); (try clear hi)) | ((with_reducible refine gate_dst (N := 12) rfl ?_); refine box_event ?hg (N := 12) ?hd (cs := #[.int .u64 0, .int .u64 0]) (t := 72) ?hr ?_; (case hd => rfl); (case hg => rfl); (case hr => go_simp; done); intro gb372 hg w24 hbox hb; have n0_ := Aside0.mk (blk_below (g := gb363) (o := .cells #[.int .u64 0, .int .u64 0, .int .i64 0, .int .u32 0, .int .u32 0, .int .i64 0] 76 (0, 0)) BK363.out hb); have n1_ := Aside0.mk (blk_below (g := gb364) (o := .cells #[.int .u64 0, .int .u64 0, .int .i64 x365002_12, .int .u32 t367, .int .u32 t368, .int .i64 0] 76 (0, 0)) BK364.out hb); have n2_ := Aside0.mk (below_step HB.out hb); have n3_ := Aside0.mk (hbox); have n4_ := Aside0.mk ((by rw [hg]; exact (below_size HB.out) : w.heap.size ≤ gb372)); have n5_ := Aside0.mk ((by rw [hg]; exact (below_size HB.out) : w.heap.size ≤ gb372)); have n6_ := Aside0.mk ((by rw [hg]; exact Nat.ne_of_lt (blk_lt (g := gb363) (o := .cells #[.int .u64 0, .int .u64 0, .int .i64 0, .int .u32 0, .int .u32 0, .int .i64 0] 76 (0, 0)) BK363.out) : gb363 ≠ gb372)); have n7_ := Aside0.mk ((by rw [hg]; exact Nat.ne_of_gt (blk_lt (g := gb363) (o := .cells #[.int .u64 0, .int .u64 0, .int .i64 0, .int .u32 0, .int .u32 0, .int .i64 0] 76 (0, 0)) BK363.out) : gb372 ≠ gb363)); have n8_ := Aside0.mk ((by rw [hg]; exact Nat.ne_of_lt (blk_lt (g := gb364) (o := .cells #[.int .u64 0, .int .u64 0, .int .i64 x365002_12, .int .u32 t367, .int .u32 t368, .int .i64 0] 76 (0, 0)) BK364.out) : gb364 ≠ gb372)); have n9_ := Aside0.mk ((by rw [hg]; exact Nat.ne_of_gt (blk_lt (g := gb364) (o := .cells #[.int .u64 0, .int .u64 0, .int .i64 x365002_12, .int .u32 t367, .int .u32 t368, .int .i64 0] 76 (0, 0)) BK364.out) : gb372 ≠ gb364)); clear BK363; clear BK364; clear HB; have BK363 := n0_; have BK364 := n1_; have HB := n2_; have BK372 := n3_; have GW372 := n4_; have GE372 := n5_; have NB363_372 := n6_; have NB372_363 := n7_; have NB364_372 := n8_; have NB372_364 := n9_; clear n0_ n1_ n2_ n3_ n4_ n5_ n6_ n7_ n8_ n9_; clear hb hbox hg; have hnb25 := NB372_363.out; have hnc25 := NB363_372.out; have hnb26 := NB372_364.out; have hnc26 := NB364_372.out; obtain ⟨hcz27_0, hcz27_1⟩ := XRun.bc2 BK372.out; obtain ⟨hfz27_0, hfz27_1⟩ := XRun.bf2 BK372.out; have hnb28 := NB364_363.out; have hnc28 := NB363_364.out; obtain ⟨hcz29_0, hcz29_1, hcz29_2, hcz29_3, hcz29_4, hcz29_5⟩ := XRun.bc6 BK364.out; obtain ⟨hfz29_0, hfz29_1, hfz29_2, hfz29_3, hfz29_4, hfz29_5⟩ := XRun.bf6 BK364.out))
            (try simp only [Act.put, List.setIfInBounds_toArray, List.set_cons_zero, List.set_cons_succ])
            go_cut [] (fun wc => ∃ (kq : Nat) (x364000_21 : Int) (x364001_21 : Int) (x364002_21 : Int) (x364003_21 : Int) (x364004_21 : Int) (x364005_21 : Int), Aside0 (tenancyref15_inner.j2 kq a1 x7_2 t369 t370 x365002_12 t367 t368 0 = some (r1, r2, r3, r4, r5, r6, r7)) ∧ Aside0 (kq ≤ kj12) ∧ Aside0 (wc.heap[gb363]? = some (.cells #[.int .u64 x364000_21, .int .u64 x364001_21, .int .i64 x364002_21, .int .u32 x364003_21, .int .u32 x364004_21, .int .i64 x364005_21] 76 (0, 0))) ∧ Aside0 (wc.heap[gb364]? = some (.cells #[.int .u64 t369, .int .u64 t370, .int .i64 x365002_12, .int .u32 t367, .int .u32 t368, .int .i64 0] 76 (0, 0))) ∧ Aside0 (wc.heap[gb372]? = some (.cells #[.int .u64 t369, .int .u64 t370] 72 (0, 0))) ∧ Aside0 (Below w.heap.size w wc))
            case first =>
              have H := HC22.out
              clear HC22
              by_cases c30 : a0 = 4
              · rw [if_pos c30] at H
                have c30b0 : (a0 == 4) = true := beq_iff_eq.mpr c30
                have c30b1 : (a0 != 4) = false := bne_eq_false_iff_eq.mpr c30
                clear c30
                (first | rw [c30b0])
                replace H := Option.bind_eq_some_iff.mp H
                obtain ⟨t373, A310, H⟩ := H
                replace H : (if t373 = true then (tenancyref15_inner.j2 kj12 a1 x7_2 t369 t370 x365002_12 t367 t368 0) else (some (0, 0, 0, 0, 0, 0, 130))) = some (r1, r2, r3, r4, r5, r6, r7) := H
                have A31 := Aside0.mk A310
                clear A310
                by_cases c32 : t373 = true
                · subst c32
                  have H1 : (tenancyref15_inner.j2 kj12 a1 x7_2 t369 t370 x365002_12 t367 t368 0) = some (r1, r2, r3, r4, r5, r6, r7) := by rw [if_pos rfl] at H; exact H
                  clear H
                  have H := H1
                  clear H1
                  have H' := Aside0.mk H
                  clear H
                  have hnb33 := NB364_363.out
                  have hnc33 := NB363_364.out
                  have hnb34 := NB364_372.out
                  have hnc34 := NB372_364.out
                  obtain ⟨hcz35_0, hcz35_1, hcz35_2, hcz35_3, hcz35_4, hcz35_5⟩ := XRun.bc6 BK364.out
                  obtain ⟨hfz35_0, hfz35_1, hfz35_2, hfz35_3, hfz35_4, hfz35_5⟩ := XRun.bf6 BK364.out
                  go_wp2_with (first | ((with_reducible refine gate_callee (f := 50) rfl ?_); refine goesL_ (some 60) rfl rfl Try.func50 (by kernel_rfl) rfl #[.agg #[.int .u64 t369, .int .u64 t370, .int .i64 x365002_12]] rfl (by (try simp only [List.map_toArray, List.map_cons, List.map_nil]); first | rfl) ?_; (with_reducible refine (tenancyref01_Sound.calls kj12 t369 t370 x365002_12 true _ A31.out).mono ?_); rintro e w36 ⟨rfl, hb⟩; refine ⟨_, rfl, ?_⟩; have n0_ := Aside0.mk (blk_below (g := gb363) (o := .cells #[.int .u64 0, .int .u64 0, .int .i64 0, .int .u32 0, .int .u32 0, .int .i64 0] 76 (0, 0)) (by refine blk_far ?_ NB363_364.out _; refine blk_far ?_ NB363_364.out _; refine blk_far ?_ NB363_372.out _; refine blk_far ?_ NB363_372.out _; exact BK363.out) hb); have n1_ := Aside0.mk (blk_below (g := gb364) (o := .cells #[.int .u64 t369, .int .u64 t370, .int .i64 x365002_12, .int .u32 t367, .int .u32 t368, .int .i64 0] 76 (0, 0)) (by refine blk_put (cs := #[.int .u64 t369, .int .u64 0, .int .i64 x365002_12, .int .u32 t367, .int .u32 t368, .int .i64 0]) ?_ 1 _ rfl; refine blk_put (cs := #[.int .u64 0, .int .u64 0, .int .i64 x365002_12, .int .u32 t367, .int .u32 t368, .int .i64 0]) ?_ 0 _ rfl; refine blk_far ?_ NB364_372.out _; refine blk_far ?_ NB364_372.out _; exact BK364.out) hb); have n2_ := Aside0.mk (blk_below (g := gb372) (o := .cells #[.int .u64 t369, .int .u64 t370] 72 (0, 0)) (by refine blk_far ?_ NB372_364.out _; refine blk_far ?_ NB372_364.out _; refine blk_put (cs := #[.int .u64 t369, .int .u64 0]) ?_ 1 _ rfl; refine blk_put (cs := #[.int .u64 0, .int .u64 0]) ?_ 0 _ rfl; exact BK372.out) hb); have n3_ := Aside0.mk (below_step (by repeat (first | (with_reducible first | exact HB.out | refine below_set ?_ GE364.out | refine below_set ?_ GE372.out))) hb); clear BK363; clear BK364; clear BK372; clear HB; have BK363 := n0_; have BK364 := n1_; have BK372 := n2_; have HB := n3_; clear n0_ n1_ n2_ n3_; (try clear hb); (try clear hb2); (try clear hk); (try clear hi)))
                  go_meet
                  case rel => exact ⟨_, (0), (0), (0), (0), (0), (0), H', ⟨by have := HJ2.out; have := HJ12.out; first | omega⟩, ⟨by exact BK363.out⟩, ⟨by exact BK364.out⟩, ⟨by exact BK372.out⟩, ⟨by exact HB.out⟩⟩
                · replace c32 := Bool.eq_false_iff.mpr c32
                  subst c32
                  have H1 : (some (0, 0, 0, 0, 0, 0, 130)) = some (r1, r2, r3, r4, r5, r6, r7) := by rw [if_neg (show ¬ (false = true) by decide)] at H; exact H
                  clear H
                  have H := H1
                  clear H1
                  simp only [Option.some.injEq, Prod.mk.injEq] at H
                  obtain ⟨rfl, rfl, rfl, rfl, rfl, rfl, rfl⟩ := H
                  have hnb37 := NB364_363.out
                  have hnc37 := NB363_364.out
                  have hnb38 := NB364_372.out
                  have hnc38 := NB372_364.out
                  obtain ⟨hcz39_0, hcz39_1, hcz39_2, hcz39_3, hcz39_4, hcz39_5⟩ := XRun.bc6 BK364.out
                  obtain ⟨hfz39_0, hfz39_1, hfz39_2, hfz39_3, hfz39_4, hfz39_5⟩ := XRun.bf6 BK364.out
                  go_wp2_with (first | ((with_reducible refine gate_callee (f := 50) rfl ?_); refine goesL_ (some 60) rfl rfl Try.func50 (by kernel_rfl) rfl #[.agg #[.int .u64 t369, .int .u64 t370, .int .i64 x365002_12]] rfl (by (try simp only [List.map_toArray, List.map_cons, List.map_nil]); first | rfl) ?_; (with_reducible refine (tenancyref01_Sound.calls kj12 t369 t370 x365002_12 false _ A31.out).mono ?_); rintro e w40 ⟨rfl, hb⟩; refine ⟨_, rfl, ?_⟩; have n0_ := Aside0.mk (blk_below (g := gb363) (o := .cells #[.int .u64 0, .int .u64 0, .int .i64 0, .int .u32 0, .int .u32 0, .int .i64 0] 76 (0, 0)) (by refine blk_far ?_ NB363_364.out _; refine blk_far ?_ NB363_364.out _; refine blk_far ?_ NB363_372.out _; refine blk_far ?_ NB363_372.out _; exact BK363.out) hb); have n1_ := Aside0.mk (blk_below (g := gb364) (o := .cells #[.int .u64 t369, .int .u64 t370, .int .i64 x365002_12, .int .u32 t367, .int .u32 t368, .int .i64 0] 76 (0, 0)) (by refine blk_put (cs := #[.int .u64 t369, .int .u64 0, .int .i64 x365002_12, .int .u32 t367, .int .u32 t368, .int .i64 0]) ?_ 1 _ rfl; refine blk_put (cs := #[.int .u64 0, .int .u64 0, .int .i64 x365002_12, .int .u32 t367, .int .u32 t368, .int .i64 0]) ?_ 0 _ rfl; refine blk_far ?_ NB364_372.out _; refine blk_far ?_ NB364_372.out _; exact BK364.out) hb); have n2_ := Aside0.mk (blk_below (g := gb372) (o := .cells #[.int .u64 t369, .int .u64 t370] 72 (0, 0)) (by refine blk_far ?_ NB372_364.out _; refine blk_far ?_ NB372_364.out _; refine blk_put (cs := #[.int .u64 t369, .int .u64 0]) ?_ 1 _ rfl; refine blk_put (cs := #[.int .u64 0, .int .u64 0]) ?_ 0 _ rfl; exact BK372.out) hb); have n3_ := Aside0.mk (below_step (by repeat (first | (with_reducible first | exact HB.out | refine below_set ?_ GE364.out | refine below_set ?_ GE372.out))) hb); clear BK363; clear BK364; clear BK372; clear HB; have BK363 := n0_; have BK364 := n1_; have BK372 := n2_; have HB := n3_; clear n0_ n1_ n2_ n3_; (try clear hb); (try clear hb2); (try clear hk); (try clear hi); have hnb41 := NB363_372.out; have hnc41 := NB372_363.out; obtain ⟨hcz42_0, hcz42_1, hcz42_2, hcz42_3, hcz42_4, hcz42_5⟩ := XRun.bc6 BK363.out; obtain ⟨hfz42_0, hfz42_1, hfz42_2, hfz42_3, hfz42_4, hfz42_5⟩ := XRun.bf6 BK363.out))
                  refine bodyPost_ret (results_ct rfl _ _ gb363 76 #[.int .u64 0, .int .u64 0, .int .i64 0, .int .u32 0, .int .u32 0, .int .i64 0] (0, 0) _ rfl (by refine blk_put (cs := #[.int .u64 0, .int .u64 0, .int .i64 0, .int .u32 0, .int .u32 0, .int .i64 0]) ?_ 5 _ rfl; refine blk_put (cs := #[.int .u64 0, .int .u64 0, .int .i64 0, .int .u32 0, .int .u32 0, .int .i64 0]) ?_ 4 _ rfl; refine blk_put (cs := #[.int .u64 0, .int .u64 0, .int .i64 0, .int .u32 0, .int .u32 0, .int .i64 0]) ?_ 3 _ rfl; refine blk_put (cs := #[.int .u64 0, .int .u64 0, .int .i64 0, .int .u32 0, .int .u32 0, .int .i64 0]) ?_ 2 _ rfl; refine blk_put (cs := #[.int .u64 0, .int .u64 0, .int .i64 0, .int .u32 0, .int .u32 0, .int .i64 0]) ?_ 1 _ rfl; refine blk_put (cs := #[.int .u64 0, .int .u64 0, .int .i64 0, .int .u32 0, .int .u32 0, .int .i64 0]) ?_ 0 _ rfl; exact BK363.out) Try.underlying76 rfl (by kernel_rfl)) rfl ?_
                  exact ⟨by rfl, by repeat (first | (with_reducible first | exact HB.out | refine below_set ?_ GE363.out))⟩
              · rw [if_neg c30] at H
                have c30b0 : (a0 == 4) = false := beq_eq_false_iff_ne.mpr c30
                have c30b1 : (a0 != 4) = true := bne_iff_ne.mpr c30
                (first | rw [c30b0])
                have H' := Aside0.mk H
                clear H
                go_wp2
                go_meet
                case rel => exact ⟨_, (0), (0), (0), (0), (0), (0), H', ⟨by have := HJ2.out; have := HJ12.out; first | omega⟩, ⟨by refine blk_far ?_ NB363_364.out _; refine blk_far ?_ NB363_364.out _; refine blk_far ?_ NB363_372.out _; refine blk_far ?_ NB363_372.out _; exact BK363.out⟩, ⟨by refine blk_put (cs := #[.int .u64 t369, .int .u64 0, .int .i64 x365002_12, .int .u32 t367, .int .u32 t368, .int .i64 0]) ?_ 1 _ rfl; refine blk_put (cs := #[.int .u64 0, .int .u64 0, .int .i64 x365002_12, .int .u32 t367, .int .u32 t368, .int .i64 0]) ?_ 0 _ rfl; refine blk_far ?_ NB364_372.out _; refine blk_far ?_ NB364_372.out _; exact BK364.out⟩, ⟨by refine blk_far ?_ NB372_364.out _; refine blk_far ?_ NB372_364.out _; refine blk_put (cs := #[.int .u64 t369, .int .u64 0]) ?_ 1 _ rfl; refine blk_put (cs := #[.int .u64 0, .int .u64 0]) ?_ 0 _ rfl; exact BK372.out⟩, ⟨by repeat (first | (with_reducible first | exact HB.out | refine below_set ?_ GE364.out | refine below_set ?_ GE372.out))⟩⟩
            case rest =>
              clear HC22
              try clear c1
              try clear p1
              try clear q1
              try clear hx1
              try clear qi1
              try clear c2
              try clear p2
              try clear c3
              try clear c4
              try clear c5
              try clear c6
              try clear p6
              try clear c7
              try clear c8
              try clear c8b0
              try clear c8b1
              try clear c10
              try clear c14
              try clear c16
              try clear c16b0
              try clear c16b1
              try clear c17
              try clear c17b0
              try clear c17b1
              try clear p18
              try clear q18
              try clear hx18
              try clear qi18
              try clear c19
              try clear c25
              try clear c26
              try clear c28
              try clear c30
              try clear c30b0
              try clear c30b1
              try clear c32
              try clear c33
              try clear c34
              try clear c37
              try clear c38
              try clear c41
              try clear hcz15_0
              try clear hcz15_1
              try clear hcz15_2
              try clear hcz15_3
              try clear hcz15_4
              try clear hcz15_5
              try clear hcz20_0
              try clear hcz20_1
              try clear hcz20_2
              try clear hcz20_3
              try clear hcz20_4
              try clear hcz20_5
              try clear hcz27_0
              try clear hcz27_1
              try clear hcz29_0
              try clear hcz29_1
              try clear hcz29_2
              try clear hcz29_3
              try clear hcz29_4
              try clear hcz29_5
              try clear hcz35_0
              try clear hcz35_1
              try clear hcz35_2
              try clear hcz35_3
              try clear hcz35_4
              try clear hcz35_5
              try clear hcz39_0
              try clear hcz39_1
              try clear hcz39_2
              try clear hcz39_3
              try clear hcz39_4
              try clear hcz39_5
              try clear hcz42_0
              try clear hcz42_1
              try clear hcz42_2
              try clear hcz42_3
              try clear hcz42_4
              try clear hcz42_5
              try clear hcz7_0
              try clear hcz7_1
              try clear hcz7_2
              try clear hcz7_3
              try clear hcz7_4
              try clear hcz7_5
              try clear hfz15_0
              try clear hfz15_1
              try clear hfz15_2
              try clear hfz15_3
              try clear hfz15_4
              try clear hfz15_5
              try clear hfz20_0
              try clear hfz20_1
              try clear hfz20_2
              try clear hfz20_3
              try clear hfz20_4
              try clear hfz20_5
              try clear hfz27_0
              try clear hfz27_1
              try clear hfz29_0
              try clear hfz29_1
              try clear hfz29_2
              try clear hfz29_3
              try clear hfz29_4
              try clear hfz29_5
              try clear hfz35_0
              try clear hfz35_1
              try clear hfz35_2
              try clear hfz35_3
              try clear hfz35_4
              try clear hfz35_5
              try clear hfz39_0
              try clear hfz39_1
              try clear hfz39_2
              try clear hfz39_3
              try clear hfz39_4
              try clear hfz39_5
              try clear hfz42_0
              try clear hfz42_1
              try clear hfz42_2
              try clear hfz42_3
              try clear hfz42_4
              try clear hfz42_5
              try clear hfz7_0
              try clear hfz7_1
              try clear hfz7_2
              try clear hfz7_3
              try clear hfz7_4
              try clear hfz7_5
              try clear p1
              try clear p18
              try clear p2
              try clear p6
              try clear q1
              try clear q18
              obtain ⟨kq, x364000_21, x364001_21, x364002_21, x364003_21, x364004_21, x364005_21, HA, HJ21, BK363, BK364, BK372, HB⟩ := hcut
              cases kq with
              | zero => exact absurd HA.out (by simp [tenancyref15_inner.j2])
              | succ kj21 =>
                have H := HA.out
                clear HA
                simp only [tenancyref15_inner.j2] at H
                by_cases c43 : 0 ≤ x7_2
                · rw [if_pos c43] at H
                  have c43b0 := eq_true c43
                  have c43b1 : decide (0 ≤ x7_2) = true := decide_eq_true c43
                  clear c43
                  by_cases c44 : x7_2 ≤ (a1.size : Int)
                  · rw [if_pos c44] at H
                    have c44b0 := eq_true c44
                    have c44b1 : decide (x7_2 ≤ (a1.size : Int)) = true := decide_eq_true c44
                    clear c44
                    replace H := Option.bind_eq_some_iff.mp H
                    obtain ⟨⟨t374, t375⟩, A450, H⟩ := H
                    replace H : (if t375 = 0 then ((tenancyref15_statuses.f kj21 t374).bind fun bt378 => (if bt378.2 = 0 then (some (t369, t370, x365002_12, t367, t368, bt378.1, 0)) else (some (0, 0, 0, 0, 0, 0, bt378.2)))) else (some (0, 0, 0, 0, 0, 0, t375))) = some (r1, r2, r3, r4, r5, r6, r7) := H
                    have A45 := Aside0.mk A450
                    clear A450
                    by_cases c46 : t375 = 0
                    · rw [if_pos c46] at H
                      have c46b0 : (t375 == 0) = true := beq_iff_eq.mpr c46
                      have c46b1 : (t375 != 0) = false := bne_eq_false_iff_eq.mpr c46
                      clear c46
                      replace H := Option.bind_eq_some_iff.mp H
                      obtain ⟨⟨t378, t379⟩, A470, H⟩ := H
                      replace H : (if t379 = 0 then (some (t369, t370, x365002_12, t367, t368, t378, 0)) else (some (0, 0, 0, 0, 0, 0, t379))) = some (r1, r2, r3, r4, r5, r6, r7) := H
                      have A47 := Aside0.mk A470
                      clear A470
                      by_cases c48 : t379 = 0
                      · rw [if_pos c48] at H
                        have c48b0 : (t379 == 0) = true := beq_iff_eq.mpr c48
                        have c48b1 : (t379 != 0) = false := bne_eq_false_iff_eq.mpr c48
                        clear c48
                        simp only [Option.some.injEq, Prod.mk.injEq] at H
                        obtain ⟨rfl, rfl, rfl, rfl, rfl, rfl, rfl⟩ := H
                        go_wp2_with (first | ((with_reducible refine gate_callee (f := 11) rfl ?_); refine goesL_ (some 67) rfl rfl Try.func11 (by kernel_rfl) rfl #[.string (a1.extract (x7_2 : Int).toNat a1.size)] rfl (by (try simp only [List.map_toArray, List.map_cons, List.map_nil]); first | rfl) ?_; (with_reducible refine (tenancyref15_Parse.calls kj21 (a1.extract (x7_2 : Int).toNat a1.size) t374 t375 _ A45.out).mono ?_); rintro e w49 ⟨v376, rfl, ho0, hb⟩; refine ⟨_, rfl, ?_⟩; have n0_ := Aside0.mk (Kd.R_lower ho0 (below_size HB.out)); have n1_ := Aside0.mk (blk_below (g := gb363) (o := .cells #[.int .u64 x364000_21, .int .u64 x364001_21, .int .i64 x364002_21, .int .u32 x364003_21, .int .u32 x364004_21, .int .i64 x364005_21] 76 (0, 0)) BK363.out hb); have n2_ := Aside0.mk (blk_below (g := gb364) (o := .cells #[.int .u64 t369, .int .u64 t370, .int .i64 x365002_12, .int .u32 t367, .int .u32 t368, .int .i64 0] 76 (0, 0)) BK364.out hb); have n3_ := Aside0.mk (blk_below (g := gb372) (o := .cells #[.int .u64 t369, .int .u64 t370] 72 (0, 0)) BK372.out hb); have n4_ := Aside0.mk (below_step HB.out hb); clear BK363; clear BK364; clear BK372; clear HB; have HO377 := n0_; have BK363 := n1_; have BK364 := n2_; have BK372 := n3_; have HB := n4_; clear n0_ n1_ n2_ n3_ n4_; (try clear hb); (try clear hb2); (try clear hk); (try clear hi); (try clear ho0); obtain ⟨Ao50, co50, eo50⟩ := Kd.R_slice HO377.out; subst eo50) | ((with_reducible refine gate_callee (f := 78) rfl ?_); refine goesL_ (some 76) rfl rfl Try.func78 (by kernel_rfl) rfl #[.slice Ao50 t374.length co50] rfl (by (try simp only [List.map_toArray, List.map_cons, List.map_nil]); first | rfl) ?_; (with_reducible refine (tenancyref15_statuses.calls kj21 _ _ t374 t378 t379 _ ?side1 ?side2 A47.out).mono ?_); (case side1 => repeat (first | exact (Kd.R_reads' HO377.out).2.2)); (case side2 => exact (Kd.R_reads' HO377.out).2.1); rintro e w' ⟨rfl, ⟨nd, rfl⟩⟩; refine ⟨_, rfl, ?_⟩; (try (rw [drewN_self w49]; generalize hq_ : World.drewN w49 _ = w49; have n0_ : Aside0 (Kd.R k40 40 w49 w.heap.size (fun _ => True) (.slice Ao50 t374.length co50) t374) := ⟨by rw [← hq_]; exact (by (with_reducible repeat (first | apply Kd.R_drewN)); exact HO377.out)⟩; have n1_ : Aside0 (w49.heap[gb363]? = some (.cells #[.int .u64 x364000_21, .int .u64 x364001_21, .int .i64 x364002_21, .int .u32 x364003_21, .int .u32 x364004_21, .int .i64 x364005_21] 76 (0, 0))) := ⟨by rw [← hq_]; exact (by (with_reducible repeat (first | refine blk_drewN ?_ _)); exact BK363.out)⟩; have n2_ : Aside0 (w49.heap[gb364]? = some (.cells #[.int .u64 t369, .int .u64 t370, .int .i64 x365002_12, .int .u32 t367, .int .u32 t368, .int .i64 0] 76 (0, 0))) := ⟨by rw [← hq_]; exact (by (with_reducible repeat (first | refine blk_drewN ?_ _)); exact BK364.out)⟩; have n3_ : Aside0 (w49.heap[gb372]? = some (.cells #[.int .u64 t369, .int .u64 t370] 72 (0, 0))) := ⟨by rw [← hq_]; exact (by (with_reducible repeat (first | refine blk_drewN ?_ _)); exact BK372.out)⟩; have n4_ : Aside0 (Below w.heap.size w w49) := ⟨by rw [← hq_]; exact (by repeat (first | (with_reducible first | exact HB.out | apply pw_below_drewN)))⟩; clear HO377 BK363 BK364 BK372 HB hq_; have HO377 := n0_; have BK363 := n1_; have BK364 := n2_; have BK372 := n3_; have HB := n4_; clear n0_ n1_ n2_ n3_ n4_)); have hnb51 := NB364_363.out; have hnc51 := NB363_364.out; have hnb52 := NB364_372.out; have hnc52 := NB372_364.out; obtain ⟨hcz53_0, hcz53_1, hcz53_2, hcz53_3, hcz53_4, hcz53_5⟩ := XRun.bc6 BK364.out; obtain ⟨hfz53_0, hfz53_1, hfz53_2, hfz53_3, hfz53_4, hfz53_5⟩ := XRun.bf6 BK364.out; have hnb54 := NB363_372.out; have hnc54 := NB372_363.out; obtain ⟨hcz55_0, hcz55_1, hcz55_2, hcz55_3, hcz55_4, hcz55_5⟩ := XRun.bc6 BK363.out; obtain ⟨hfz55_0, hfz55_1, hfz55_2, hfz55_3, hfz55_4, hfz55_5⟩ := XRun.bf6 BK363.out))
                        refine bodyPost_ret (results_ct rfl _ _ gb363 76 #[.int .u64 t369, .int .u64 t370, .int .i64 x365002_12, .int .u32 t367, .int .u32 t368, .int .i64 t378] (0, 0) _ rfl (by refine blk_put (cs := #[.int .u64 t369, .int .u64 t370, .int .i64 x365002_12, .int .u32 t367, .int .u32 t368, .int .i64 x364005_21]) ?_ 5 _ rfl; refine blk_put (cs := #[.int .u64 t369, .int .u64 t370, .int .i64 x365002_12, .int .u32 t367, .int .u32 x364004_21, .int .i64 x364005_21]) ?_ 4 _ rfl; refine blk_put (cs := #[.int .u64 t369, .int .u64 t370, .int .i64 x365002_12, .int .u32 x364003_21, .int .u32 x364004_21, .int .i64 x364005_21]) ?_ 3 _ rfl; refine blk_put (cs := #[.int .u64 t369, .int .u64 t370, .int .i64 x364002_21, .int .u32 x364003_21, .int .u32 x364004_21, .int .i64 x364005_21]) ?_ 2 _ rfl; refine blk_put (cs := #[.int .u64 t369, .int .u64 x364001_21, .int .i64 x364002_21, .int .u32 x364003_21, .int .u32 x364004_21, .int .i64 x364005_21]) ?_ 1 _ rfl; refine blk_put (cs := #[.int .u64 x364000_21, .int .u64 x364001_21, .int .i64 x364002_21, .int .u32 x364003_21, .int .u32 x364004_21, .int .i64 x364005_21]) ?_ 0 _ rfl; refine blk_far ?_ NB363_364.out _; exact BK363.out) Try.underlying76 rfl (by kernel_rfl)) rfl ?_
                        exact ⟨by rfl, by repeat (first | (with_reducible first | exact HB.out | refine below_set ?_ GE363.out | refine below_set ?_ GE364.out))⟩
                      · rw [if_neg c48] at H
                        have c48b0 : (t379 == 0) = false := beq_eq_false_iff_ne.mpr c48
                        have c48b1 : (t379 != 0) = true := bne_iff_ne.mpr c48
                        simp only [Option.some.injEq, Prod.mk.injEq] at H
                        obtain ⟨rfl, rfl, rfl, rfl, rfl, rfl, rfl⟩ := H
                        go_wp2_with (first | ((with_reducible refine gate_callee (f := 11) rfl ?_); refine goesL_ (some 67) rfl rfl Try.func11 (by kernel_rfl) rfl #[.string (a1.extract (x7_2 : Int).toNat a1.size)] rfl (by (try simp only [List.map_toArray, List.map_cons, List.map_nil]); first | rfl) ?_; (with_reducible refine (tenancyref15_Parse.calls kj21 (a1.extract (x7_2 : Int).toNat a1.size) t374 t375 _ A45.out).mono ?_); rintro e w56 ⟨v376, rfl, ho0, hb⟩; refine ⟨_, rfl, ?_⟩; have n0_ := Aside0.mk (Kd.R_lower ho0 (below_size HB.out)); have n1_ := Aside0.mk (blk_below (g := gb363) (o := .cells #[.int .u64 x364000_21, .int .u64 x364001_21, .int .i64 x364002_21, .int .u32 x364003_21, .int .u32 x364004_21, .int .i64 x364005_21] 76 (0, 0)) BK363.out hb); have n2_ := Aside0.mk (blk_below (g := gb364) (o := .cells #[.int .u64 t369, .int .u64 t370, .int .i64 x365002_12, .int .u32 t367, .int .u32 t368, .int .i64 0] 76 (0, 0)) BK364.out hb); have n3_ := Aside0.mk (blk_below (g := gb372) (o := .cells #[.int .u64 t369, .int .u64 t370] 72 (0, 0)) BK372.out hb); have n4_ := Aside0.mk (below_step HB.out hb); clear BK363; clear BK364; clear BK372; clear HB; have HO377 := n0_; have BK363 := n1_; have BK364 := n2_; have BK372 := n3_; have HB := n4_; clear n0_ n1_ n2_ n3_ n4_; (try clear hb); (try clear hb2); (try clear hk); (try clear hi); (try clear ho0); obtain ⟨Ao57, co57, eo57⟩ := Kd.R_slice HO377.out; subst eo57) | ((with_reducible refine gate_callee (f := 78) rfl ?_); refine goesL_ (some 76) rfl rfl Try.func78 (by kernel_rfl) rfl #[.slice Ao57 t374.length co57] rfl (by (try simp only [List.map_toArray, List.map_cons, List.map_nil]); first | rfl) ?_; (with_reducible refine (tenancyref15_statuses.calls kj21 _ _ t374 t378 t379 _ ?side1 ?side2 A47.out).mono ?_); (case side1 => repeat (first | exact (Kd.R_reads' HO377.out).2.2)); (case side2 => exact (Kd.R_reads' HO377.out).2.1); rintro e w' ⟨rfl, ⟨nd, rfl⟩⟩; refine ⟨_, rfl, ?_⟩; (try (rw [drewN_self w56]; generalize hq_ : World.drewN w56 _ = w56; have n0_ : Aside0 (Kd.R k40 40 w56 w.heap.size (fun _ => True) (.slice Ao57 t374.length co57) t374) := ⟨by rw [← hq_]; exact (by (with_reducible repeat (first | apply Kd.R_drewN)); exact HO377.out)⟩; have n1_ : Aside0 (w56.heap[gb363]? = some (.cells #[.int .u64 x364000_21, .int .u64 x364001_21, .int .i64 x364002_21, .int .u32 x364003_21, .int .u32 x364004_21, .int .i64 x364005_21] 76 (0, 0))) := ⟨by rw [← hq_]; exact (by (with_reducible repeat (first | refine blk_drewN ?_ _)); exact BK363.out)⟩; have n2_ : Aside0 (w56.heap[gb364]? = some (.cells #[.int .u64 t369, .int .u64 t370, .int .i64 x365002_12, .int .u32 t367, .int .u32 t368, .int .i64 0] 76 (0, 0))) := ⟨by rw [← hq_]; exact (by (with_reducible repeat (first | refine blk_drewN ?_ _)); exact BK364.out)⟩; have n3_ : Aside0 (w56.heap[gb372]? = some (.cells #[.int .u64 t369, .int .u64 t370] 72 (0, 0))) := ⟨by rw [← hq_]; exact (by (with_reducible repeat (first | refine blk_drewN ?_ _)); exact BK372.out)⟩; have n4_ : Aside0 (Below w.heap.size w w56) := ⟨by rw [← hq_]; exact (by repeat (first | (with_reducible first | exact HB.out | apply pw_below_drewN)))⟩; clear HO377 BK363 BK364 BK372 HB hq_; have HO377 := n0_; have BK363 := n1_; have BK364 := n2_; have BK372 := n3_; have HB := n4_; clear n0_ n1_ n2_ n3_ n4_)); have hnb58 := NB363_364.out; have hnc58 := NB364_363.out; have hnb59 := NB363_372.out; have hnc59 := NB372_363.out; obtain ⟨hcz60_0, hcz60_1, hcz60_2, hcz60_3, hcz60_4, hcz60_5⟩ := XRun.bc6 BK363.out; obtain ⟨hfz60_0, hfz60_1, hfz60_2, hfz60_3, hfz60_4, hfz60_5⟩ := XRun.bf6 BK363.out))
                        refine bodyPost_ret (results_ct rfl _ _ gb363 76 #[.int .u64 0, .int .u64 0, .int .i64 0, .int .u32 0, .int .u32 0, .int .i64 0] (0, 0) _ rfl (by refine blk_put (cs := #[.int .u64 0, .int .u64 0, .int .i64 0, .int .u32 0, .int .u32 0, .int .i64 x364005_21]) ?_ 5 _ rfl; refine blk_put (cs := #[.int .u64 0, .int .u64 0, .int .i64 0, .int .u32 0, .int .u32 x364004_21, .int .i64 x364005_21]) ?_ 4 _ rfl; refine blk_put (cs := #[.int .u64 0, .int .u64 0, .int .i64 0, .int .u32 x364003_21, .int .u32 x364004_21, .int .i64 x364005_21]) ?_ 3 _ rfl; refine blk_put (cs := #[.int .u64 0, .int .u64 0, .int .i64 x364002_21, .int .u32 x364003_21, .int .u32 x364004_21, .int .i64 x364005_21]) ?_ 2 _ rfl; refine blk_put (cs := #[.int .u64 0, .int .u64 x364001_21, .int .i64 x364002_21, .int .u32 x364003_21, .int .u32 x364004_21, .int .i64 x364005_21]) ?_ 1 _ rfl; refine blk_put (cs := #[.int .u64 x364000_21, .int .u64 x364001_21, .int .i64 x364002_21, .int .u32 x364003_21, .int .u32 x364004_21, .int .i64 x364005_21]) ?_ 0 _ rfl; exact BK363.out) Try.underlying76 rfl (by kernel_rfl)) rfl ?_
                        exact ⟨by rfl, by repeat (first | (with_reducible first | exact HB.out | refine below_set ?_ GE363.out))⟩
                    · rw [if_neg c46] at H
                      have c46b0 : (t375 == 0) = false := beq_eq_false_iff_ne.mpr c46
                      have c46b1 : (t375 != 0) = true := bne_iff_ne.mpr c46
                      simp only [Option.some.injEq, Prod.mk.injEq] at H
                      obtain ⟨rfl, rfl, rfl, rfl, rfl, rfl, rfl⟩ := H
                      go_wp2_with (first | ((with_reducible refine gate_callee (f := 11) rfl ?_); refine goesL_ (some 67) rfl rfl Try.func11 (by kernel_rfl) rfl #[.string (a1.extract (x7_2 : Int).toNat a1.size)] rfl (by (try simp only [List.map_toArray, List.map_cons, List.map_nil]); first | rfl) ?_; (with_reducible refine (tenancyref15_Parse.calls kj21 (a1.extract (x7_2 : Int).toNat a1.size) t374 t375 _ A45.out).mono ?_); rintro e w61 ⟨v376, rfl, ho0, hb⟩; refine ⟨_, rfl, ?_⟩; have n0_ := Aside0.mk (Kd.R_lower ho0 (below_size HB.out)); have n1_ := Aside0.mk (blk_below (g := gb363) (o := .cells #[.int .u64 x364000_21, .int .u64 x364001_21, .int .i64 x364002_21, .int .u32 x364003_21, .int .u32 x364004_21, .int .i64 x364005_21] 76 (0, 0)) BK363.out hb); have n2_ := Aside0.mk (blk_below (g := gb364) (o := .cells #[.int .u64 t369, .int .u64 t370, .int .i64 x365002_12, .int .u32 t367, .int .u32 t368, .int .i64 0] 76 (0, 0)) BK364.out hb); have n3_ := Aside0.mk (blk_below (g := gb372) (o := .cells #[.int .u64 t369, .int .u64 t370] 72 (0, 0)) BK372.out hb); have n4_ := Aside0.mk (below_step HB.out hb); clear BK363; clear BK364; clear BK372; clear HB; have HO377 := n0_; have BK363 := n1_; have BK364 := n2_; have BK372 := n3_; have HB := n4_; clear n0_ n1_ n2_ n3_ n4_; (try clear hb); (try clear hb2); (try clear hk); (try clear hi); (try clear ho0); have hnb62 := NB363_364.out; have hnc62 := NB364_363.out; have hnb63 := NB363_372.out; have hnc63 := NB372_363.out; obtain ⟨hcz64_0, hcz64_1, hcz64_2, hcz64_3, hcz64_4, hcz64_5⟩ := XRun.bc6 BK363.out; obtain ⟨hfz64_0, hfz64_1, hfz64_2, hfz64_3, hfz64_4, hfz64_5⟩ := XRun.bf6 BK363.out))
                      refine bodyPost_ret (results_ct rfl _ _ gb363 76 #[.int .u64 0, .int .u64 0, .int .i64 0, .int .u32 0, .int .u32 0, .int .i64 0] (0, 0) _ rfl (by refine blk_put (cs := #[.int .u64 0, .int .u64 0, .int .i64 0, .int .u32 0, .int .u32 0, .int .i64 x364005_21]) ?_ 5 _ rfl; refine blk_put (cs := #[.int .u64 0, .int .u64 0, .int .i64 0, .int .u32 0, .int .u32 x364004_21, .int .i64 x364005_21]) ?_ 4 _ rfl; refine blk_put (cs := #[.int .u64 0, .int .u64 0, .int .i64 0, .int .u32 x364003_21, .int .u32 x364004_21, .int .i64 x364005_21]) ?_ 3 _ rfl; refine blk_put (cs := #[.int .u64 0, .int .u64 0, .int .i64 x364002_21, .int .u32 x364003_21, .int .u32 x364004_21, .int .i64 x364005_21]) ?_ 2 _ rfl; refine blk_put (cs := #[.int .u64 0, .int .u64 x364001_21, .int .i64 x364002_21, .int .u32 x364003_21, .int .u32 x364004_21, .int .i64 x364005_21]) ?_ 1 _ rfl; refine blk_put (cs := #[.int .u64 x364000_21, .int .u64 x364001_21, .int .i64 x364002_21, .int .u32 x364003_21, .int .u32 x364004_21, .int .i64 x364005_21]) ?_ 0 _ rfl; exact BK363.out) Try.underlying76 rfl (by kernel_rfl)) rfl ?_
                      exact ⟨by rfl, by repeat (first | (with_reducible first | exact HB.out | refine below_set ?_ GE363.out))⟩
                  · rw [if_neg c44] at H
                    exact absurd H (by simp)
                · rw [if_neg c43] at H
                  exact absurd H (by simp)
      · replace c10 := Bool.eq_false_iff.mpr c10
        subst c10
        have H1 : (some (0, 0, 0, 0, 0, 0, 3)) = some (r1, r2, r3, r4, r5, r6, r7) := by rw [if_neg (show ¬ (false = true) by decide)] at H; exact H
        clear H
        have H := H1
        clear H1
        simp only [Option.some.injEq, Prod.mk.injEq] at H
        obtain ⟨rfl, rfl, rfl, rfl, rfl, rfl, rfl⟩ := H
        go_wp2_with (first | ((with_reducible refine gate_callee (f := 59) rfl ?_); refine goesL_ (some 23) rfl rfl Try.func59 (by kernel_rfl) rfl #[.string a1, .int .i64 0, .int .i64 x7_2] rfl (by (try simp only [List.map_toArray, List.map_cons, List.map_nil]); first | rfl) ?_; (with_reducible refine (tenancyref04_Cut.calls a1 0 x7_2 t365 false _ A9.out).mono ?_); rintro e w' ⟨rfl, ⟨nd, rfl⟩⟩; refine ⟨_, rfl, ?_⟩; (try (rw [drewN_self wc]; generalize hq_ : World.drewN wc _ = wc; have n0_ : Aside0 (wc.heap[gb363]? = some (.cells #[.int .u64 0, .int .u64 0, .int .i64 0, .int .u32 0, .int .u32 0, .int .i64 0] 76 (0, 0))) := ⟨by rw [← hq_]; exact (by (with_reducible repeat (first | refine blk_drewN ?_ _)); exact BK363.out)⟩; have n1_ : Aside0 (wc.heap[gb364]? = some (.cells #[.int .u64 0, .int .u64 0, .int .i64 0, .int .u32 0, .int .u32 0, .int .i64 0] 76 (0, 0))) := ⟨by rw [← hq_]; exact (by (with_reducible repeat (first | refine blk_drewN ?_ _)); exact BK364.out)⟩; have n2_ : Aside0 (Below w.heap.size w wc) := ⟨by rw [← hq_]; exact (by repeat (first | (with_reducible first | exact HB.out | apply pw_below_drewN)))⟩; clear BK363 BK364 HB hq_; have BK363 := n0_; have BK364 := n1_; have HB := n2_; clear n0_ n1_ n2_)); have hnb65 := NB364_363.out; have hnc65 := NB363_364.out; obtain ⟨hcz66_0, hcz66_1, hcz66_2, hcz66_3, hcz66_4, hcz66_5⟩ := XRun.bc6 BK364.out; obtain ⟨hfz66_0, hfz66_1, hfz66_2, hfz66_3, hfz66_4, hfz66_5⟩ := XRun.bf6 BK364.out; obtain ⟨hcz67_0, hcz67_1, hcz67_2, hcz67_3, hcz67_4, hcz67_5⟩ := XRun.bc6 BK363.out; obtain ⟨hfz67_0, hfz67_1, hfz67_2, hfz67_3, hfz67_4, hfz67_5⟩ := XRun.bf6 BK363.out))
        refine bodyPost_ret (results_ct rfl _ _ gb363 76 #[.int .u64 0, .int .u64 0, .int .i64 0, .int .u32 0, .int .u32 0, .int .i64 0] (0, 0) _ rfl (by refine blk_put (cs := #[.int .u64 0, .int .u64 0, .int .i64 0, .int .u32 0, .int .u32 0, .int .i64 0]) ?_ 5 _ rfl; refine blk_put (cs := #[.int .u64 0, .int .u64 0, .int .i64 0, .int .u32 0, .int .u32 0, .int .i64 0]) ?_ 4 _ rfl; refine blk_put (cs := #[.int .u64 0, .int .u64 0, .int .i64 0, .int .u32 0, .int .u32 0, .int .i64 0]) ?_ 3 _ rfl; refine blk_put (cs := #[.int .u64 0, .int .u64 0, .int .i64 0, .int .u32 0, .int .u32 0, .int .i64 0]) ?_ 2 _ rfl; refine blk_put (cs := #[.int .u64 0, .int .u64 0, .int .i64 0, .int .u32 0, .int .u32 0, .int .i64 0]) ?_ 1 _ rfl; refine blk_put (cs := #[.int .u64 0, .int .u64 0, .int .i64 0, .int .u32 0, .int .u32 0, .int .i64 0]) ?_ 0 _ rfl; exact BK363.out) Try.underlying76 rfl (by kernel_rfl)) rfl ?_
        exact ⟨by rfl, by repeat (first | (with_reducible first | exact HB.out | refine below_set ?_ GE363.out))⟩

end Go.Proofs.Ytngojiikkokajaa.X
