/- Functions of the program as Lean functions, and that the calls come to them: no condition.  By this session's own program (wip/xprint). -/
import Derived.Test.YtaoeonngifkhbaaX0
import Derived.Test.YtaoeonngifkhbaaX1
import Derived.Test.YtaoeonngifkhbaaX2
import Derived.Test.YtaoeonngifkhbaaX4
namespace Go.Proofs.Ytaoeonngifkhbaa.X
open Go.RowKit Go.Proofs.YtaoeonngifkhbaaW.PrintWords Go.Proofs.YtaoeonngifkhbaaW.PrintLast Go.Proofs.YtaoeonngifkhbaaW.PrintMore
attribute [local go_sem] max2_int min2_int max_two min_two max_three min_three max_four min_four   -- for this text's walks alone
set_option linter.unusedVariables false
set_option linter.unusedSimpArgs false

attribute [local go_sem high] eqA30
/-! ### tenancylaw04_OctetBack: function 7 -/
mutual
def tenancylaw04_OctetBack.j0 : Nat → ByteArray → ByteArray → Bool → Int → Int → Option (Bool)
  | 0, _, _, _, _, _ => none
  | k + 1, x1, x2, x31, x269000, x269001 => if x31 = true then ((tenancylaw04_awake.f k).bind fun t270 => (some t270)) else ((octet_PutAddr.f k x269000 x269001).bind fun t271 => (if x2.size + t271.size ≤ 9223372036854775807 then (if (x2 ++ t271).size + x1.size ≤ 9223372036854775807 then ((octet_GetAddr.f k ((x2 ++ t271) ++ x1) (x2.size : Int)).bind fun bt272 => (if 0 ≤ (wrap64 ((t271.size : Int) - 1)) then (if (wrap64 ((t271.size : Int) - 1)) ≤ (t271.size : Int) then (if x2.size + (t271.extract 0 ((wrap64 ((t271.size : Int) - 1)) : Int).toNat).size ≤ 9223372036854775807 then ((octet_GetAddr.f k (x2 ++ (t271.extract 0 ((wrap64 ((t271.size : Int) - 1)) : Int).toNat)) (x2.size : Int)).bind fun bt276 => ((octet_Get64.f k (x2 ++ t271) (wrap64 ((x2.size : Int) + 8))).bind fun bt280 => ((octet_Put32.f k ((x269001) % 4294967296)).bind fun t282 => (if x2.size + t282.size ≤ 9223372036854775807 then (if (x2 ++ t282).size + x1.size ≤ 9223372036854775807 then ((octet_Get32.f k ((x2 ++ t282) ++ x1) (x2.size : Int)).bind fun bt283 => ((octet_Put16.f k (IntKind.u16.wrap (x269000))).bind fun t285 => (if x2.size + t285.size ≤ 9223372036854775807 then (if (x2 ++ t285).size + x1.size ≤ 9223372036854775807 then ((octet_Get16.f k ((x2 ++ t285) ++ x1) (x2.size : Int)).bind fun bt286 => (if (!(bt272.1 == x269000) || (!(bt272.2.1 == x269001))) = true then (tenancylaw04_OctetBack.j1 k x1 x2 (x2.size : Int) true) else (if bt272.2.2 = true then (if bt276.2.2 = true then (tenancylaw04_OctetBack.j1 k x1 x2 (x2.size : Int) true) else (if bt280.1 = x269001 then (if bt280.2 = true then (if bt283.1 = ((x269001) % 4294967296) then (if bt283.2 = true then (if bt286.1 = (IntKind.u16.wrap (x269000)) then (tenancylaw04_OctetBack.j1 k x1 x2 (x2.size : Int) (!bt286.2)) else (tenancylaw04_OctetBack.j1 k x1 x2 (x2.size : Int) true)) else (tenancylaw04_OctetBack.j1 k x1 x2 (x2.size : Int) true)) else (tenancylaw04_OctetBack.j1 k x1 x2 (x2.size : Int) true)) else (tenancylaw04_OctetBack.j1 k x1 x2 (x2.size : Int) true)) else (tenancylaw04_OctetBack.j1 k x1 x2 (x2.size : Int) true))) else (tenancylaw04_OctetBack.j1 k x1 x2 (x2.size : Int) true)))) else (none)) else (none)))) else (none)) else (none))))) else (none)) else (none)) else (none))) else (none)) else (none)))
def tenancylaw04_OctetBack.j1 : Nat → ByteArray → ByteArray → Int → Bool → Option (Bool)
  | 0, _, _, _, _ => none
  | k + 1, x1, x2, x7, x135 => if x135 = true then (some false) else ((octet_Run.f k x1).bind fun bt288 => (if bt288.2 = true then (if x2.size + bt288.1.size ≤ 9223372036854775807 then (if (x2 ++ bt288.1).size + x2.size ≤ 9223372036854775807 then ((octet_TakeRun.f k ((x2 ++ bt288.1) ++ x2) x7).bind fun bt290 => (if 0 ≤ (wrap64 ((bt288.1.size : Int) - 1)) then (if (wrap64 ((bt288.1.size : Int) - 1)) ≤ (bt288.1.size : Int) then (if x2.size + (bt288.1.extract 0 ((wrap64 ((bt288.1.size : Int) - 1)) : Int).toNat).size ≤ 9223372036854775807 then ((octet_TakeRun.f k (x2 ++ (bt288.1.extract 0 ((wrap64 ((bt288.1.size : Int) - 1)) : Int).toNat)) x7).bind fun bt293 => (if bt290.2.2 = true then (if bt290.1.toList = x1.toList then (if bt290.2.1 = (wrap64 ((wrap64 (x7 + 2)) + (x1.size : Int))) then (some (!bt293.2.2)) else (some false)) else (some false)) else (some false))) else (none)) else (none)) else (none))) else (none)) else (none)) else (if (x1.size : Int) = 65536 then (some (bt288.1.toList == ([] : List UInt8))) else (some false))))
end
def tenancylaw04_OctetBack.f (k : Nat) (a0_0 : Int) (a0_1 : Int) (a1 : ByteArray) (a2 : ByteArray) : Option (Bool) := (tenancylaw04_awake.f k).bind fun t269 => (if t269 = true then (tenancylaw04_OctetBack.j0 k a1 a2 (decide ((a1.size : Int) > 65536)) a0_0 a0_1) else (tenancylaw04_OctetBack.j0 k a1 a2 true a0_0 a0_1))
theorem tenancylaw04_OctetBack.mono_l : ∀ k, (∀ y0 y1 y2 y3 y4, LeO (tenancylaw04_OctetBack.j0 k y0 y1 y2 y3 y4) (tenancylaw04_OctetBack.j0 (k + 1) y0 y1 y2 y3 y4)) ∧ (∀ y0 y1 y2 y3, LeO (tenancylaw04_OctetBack.j1 k y0 y1 y2 y3) (tenancylaw04_OctetBack.j1 (k + 1) y0 y1 y2 y3))
  | 0 => ⟨fun _ _ _ _ _ r h => by simp [tenancylaw04_OctetBack.j0] at h, fun _ _ _ _ r h => by simp [tenancylaw04_OctetBack.j1] at h⟩
  | k + 1 => by
    obtain ⟨ih0, ih1⟩ := tenancylaw04_OctetBack.mono_l k
    refine ⟨?_, ?_⟩
    · intro y0 y1 y2 y3 y4
      unfold tenancylaw04_OctetBack.j0
      repeat' first
      | (with_reducible exact ih0 _ _ _ _ _)
      | (with_reducible exact ih1 _ _ _ _)
      | (with_reducible exact octet_Get16.mono _ _ _)
      | (with_reducible exact octet_Get32.mono _ _ _)
      | (with_reducible exact octet_Get64.mono _ _ _)
      | (with_reducible exact octet_GetAddr.mono _ _ _)
      | (with_reducible exact octet_Put16.mono _ _)
      | (with_reducible exact octet_Put32.mono _ _)
      | (with_reducible exact octet_PutAddr.mono _ _ _)
      | (with_reducible exact octet_Run.mono _ _)
      | (with_reducible exact octet_TakeRun.mono _ _ _)
      | (with_reducible exact tenancylaw04_awake.mono _)
      | (with_reducible exact LeO.refl _)
      | (with_reducible exact LeO.none _)
      | (with_reducible refine LeO.ite ?_ ?_)
      | (with_reducible refine LeO.bind ?_ (fun _ => ?_))
      | exact ih0 _ _ _ _ _
      | exact ih1 _ _ _ _
      | exact octet_Get16.mono _ _ _
      | exact octet_Get32.mono _ _ _
      | exact octet_Get64.mono _ _ _
      | exact octet_GetAddr.mono _ _ _
      | exact octet_Put16.mono _ _
      | exact octet_Put32.mono _ _
      | exact octet_PutAddr.mono _ _ _
      | exact octet_Run.mono _ _
      | exact octet_TakeRun.mono _ _ _
      | exact tenancylaw04_awake.mono _
      | exact LeO.none _
      | refine LeO.ite ?_ ?_
      | refine LeO.bind ?_ (fun _ => ?_)
    · intro y0 y1 y2 y3
      unfold tenancylaw04_OctetBack.j1
      repeat' first
      | (with_reducible exact ih0 _ _ _ _ _)
      | (with_reducible exact ih1 _ _ _ _)
      | (with_reducible exact octet_Get16.mono _ _ _)
      | (with_reducible exact octet_Get32.mono _ _ _)
      | (with_reducible exact octet_Get64.mono _ _ _)
      | (with_reducible exact octet_GetAddr.mono _ _ _)
      | (with_reducible exact octet_Put16.mono _ _)
      | (with_reducible exact octet_Put32.mono _ _)
      | (with_reducible exact octet_PutAddr.mono _ _ _)
      | (with_reducible exact octet_Run.mono _ _)
      | (with_reducible exact octet_TakeRun.mono _ _ _)
      | (with_reducible exact tenancylaw04_awake.mono _)
      | (with_reducible exact LeO.refl _)
      | (with_reducible exact LeO.none _)
      | (with_reducible refine LeO.ite ?_ ?_)
      | (with_reducible refine LeO.bind ?_ (fun _ => ?_))
      | exact ih0 _ _ _ _ _
      | exact ih1 _ _ _ _
      | exact octet_Get16.mono _ _ _
      | exact octet_Get32.mono _ _ _
      | exact octet_Get64.mono _ _ _
      | exact octet_GetAddr.mono _ _ _
      | exact octet_Put16.mono _ _
      | exact octet_Put32.mono _ _
      | exact octet_PutAddr.mono _ _ _
      | exact octet_Run.mono _ _
      | exact octet_TakeRun.mono _ _ _
      | exact tenancylaw04_awake.mono _
      | exact LeO.none _
      | refine LeO.ite ?_ ?_
      | refine LeO.bind ?_ (fun _ => ?_)
theorem tenancylaw04_OctetBack.mono : ∀ a0 a1 a2 a3 k, LeO (tenancylaw04_OctetBack.f k a0 a1 a2 a3) (tenancylaw04_OctetBack.f (k + 1) a0 a1 a2 a3) := by
  intro a0 a1 a2 a3 k
  obtain ⟨ih0, ih1⟩ := tenancylaw04_OctetBack.mono_l k
  unfold tenancylaw04_OctetBack.f
  repeat' first
      | (with_reducible exact ih0 _ _ _ _ _)
      | (with_reducible exact ih1 _ _ _ _)
      | (with_reducible exact octet_Get16.mono _ _ _)
      | (with_reducible exact octet_Get32.mono _ _ _)
      | (with_reducible exact octet_Get64.mono _ _ _)
      | (with_reducible exact octet_GetAddr.mono _ _ _)
      | (with_reducible exact octet_Put16.mono _ _)
      | (with_reducible exact octet_Put32.mono _ _)
      | (with_reducible exact octet_PutAddr.mono _ _ _)
      | (with_reducible exact octet_Run.mono _ _)
      | (with_reducible exact octet_TakeRun.mono _ _ _)
      | (with_reducible exact tenancylaw04_awake.mono _)
      | (with_reducible exact LeO.refl _)
      | (with_reducible exact LeO.none _)
      | (with_reducible refine LeO.ite ?_ ?_)
      | (with_reducible refine LeO.bind ?_ (fun _ => ?_))
      | exact ih0 _ _ _ _ _
      | exact ih1 _ _ _ _
      | exact octet_Get16.mono _ _ _
      | exact octet_Get32.mono _ _ _
      | exact octet_Get64.mono _ _ _
      | exact octet_GetAddr.mono _ _ _
      | exact octet_Put16.mono _ _
      | exact octet_Put32.mono _ _
      | exact octet_PutAddr.mono _ _ _
      | exact octet_Run.mono _ _
      | exact octet_TakeRun.mono _ _ _
      | exact tenancylaw04_awake.mono _
      | exact LeO.none _
      | refine LeO.ite ?_ ?_
      | refine LeO.bind ?_ (fun _ => ?_)
set_option maxHeartbeats 8000000 in
set_option maxRecDepth 100000 in
theorem tenancylaw04_OctetBack.calls (k : Nat) (a0_0 : Int) (a0_1 : Int) (a1 : ByteArray) (a2 : ByteArray) (r : Bool) (w : World) (h : tenancylaw04_OctetBack.f k a0_0 a0_1 a1 a2 = some r) :
    Calls Try.prog 7 #[.agg #[.int .u64 a0_0, .int .u64 a0_1], .string a1, .string a2] w fun e w' => e = .returned (.bool r) ∧ Below w.heap.size w w' := by
  have hu30 := Try.underlying30
  have HB := Aside0.mk (Below.refl w.heap.size w)
  have H : ((tenancylaw04_awake.f k).bind fun t269 => (if t269 = true then (tenancylaw04_OctetBack.j0 k a1 a2 (decide ((a1.size : Int) > 65536)) a0_0 a0_1) else (tenancylaw04_OctetBack.j0 k a1 a2 true a0_0 a0_1))) = some r := h
  clear h
  have HC4 := Aside0.mk H
  clear H
  go_enter Try.func7, Try.ntmps7
  go_upto_region 1 with (first | ((with_reducible refine gate_dst (N := 3) rfl ?_); (try (refine gate_guard (by rfl) ?_; dsimp only)); refine box_event ?hg (N := 3) ?hd (cs := #[.int .u64 a0_0, .int .u64 a0_1]) (t := 30) ?hr ?_; (case hd => rfl); (case hg => rfl); (case hr => first | (go_simp; done) | (go_simp; rfl)); intro gb268 hg w5 hbox hb; have n0_ := Aside0.mk (below_step (by repeat (first | (with_reducible first | exact HB.out | apply below_alloc | apply pw_below_drewN | apply below_drew1) | exact HB.out)) hb); have n1_ := Aside0.mk (hbox); have n2_ := Aside0.mk ((by rw [hg]; exact (below_size (by repeat (first | (with_reducible first | exact HB.out | apply below_alloc | apply pw_below_drewN | apply below_drew1) | exact HB.out))) : w.heap.size ≤ gb268)); have n3_ := Aside0.mk ((by rw [hg]; exact (below_size (by repeat (first | (with_reducible first | exact HB.out | apply below_alloc | apply pw_below_drewN | apply below_drew1) | exact HB.out))) : w.heap.size ≤ gb268)); clear HB; have HB := n0_; have BK268 := n1_; have GW268 := n2_; have GE268 := n3_; clear n0_ n1_ n2_ n3_; clear hb hbox hg))
  (try simp only [Act.put, List.setIfInBounds_toArray, List.set_cons_zero, List.set_cons_succ])
  go_cut [31] (fun v31 wc => ∃ (kq : Nat) (x31_3 : Bool), v31 = .bool x31_3 ∧ Aside0 (tenancylaw04_OctetBack.j0 kq a1 a2 x31_3 a0_0 a0_1 = some r) ∧ Aside0 (kq ≤ k) ∧ Aside0 (wc.heap[gb268]? = some (.cells #[.int .u64 a0_0, .int .u64 a0_1] 30 (0, 0))) ∧ Aside0 (Below w.heap.size w wc))
  case first =>
    have H := HC4.out
    clear HC4
    replace H := Option.bind_eq_some_iff.mp H
    obtain ⟨t269, A60, H⟩ := H
    replace H : (if t269 = true then (tenancylaw04_OctetBack.j0 k a1 a2 (decide ((a1.size : Int) > 65536)) a0_0 a0_1) else (tenancylaw04_OctetBack.j0 k a1 a2 true a0_0 a0_1)) = some r := H
    have A6 := Aside0.mk A60
    clear A60
    by_cases c7 : t269 = true
    · subst c7
      have H1 : (tenancylaw04_OctetBack.j0 k a1 a2 (decide ((a1.size : Int) > 65536)) a0_0 a0_1) = some r := by rw [if_pos rfl] at H; exact H
      clear H
      have H := H1
      clear H1
      have H' := Aside0.mk H
      clear H
      go_wp2_with (first | ((with_reducible refine gate_callee (f := 8) rfl ?_); refine goesL_ (some 25) rfl rfl Try.func8 (by kernel_rfl) rfl #[] rfl (by (try simp only [List.map_toArray, List.map_cons, List.map_nil]); first | done | rfl | (simp only [List.length_drop, List.length_take]; rfl)) ?_; (with_reducible refine (tenancylaw04_awake.calls k  true _ A6.out).mono ?_); rintro e w8 ⟨rfl, hb⟩; refine ⟨_, rfl, ?_⟩; have n0_ := Aside0.mk (blk_below (g := gb268) (o := .cells #[.int .u64 a0_0, .int .u64 a0_1] 30 (0, 0)) (by (with_reducible repeat (first | refine blk_drewN ?_ _ | refine blk_drew ?_ | refine blk_alloc ?_ _)); exact BK268.out) hb); have n1_ := Aside0.mk (below_step (by repeat (first | (with_reducible first | exact HB.out | apply below_alloc | apply pw_below_drewN | apply below_drew1 | refine below_set ?_ GE268.out) | exact HB.out)) hb); clear BK268; clear HB; have BK268 := n0_; have HB := n1_; clear n0_ n1_; (try clear hb); (try clear hb2); (try clear hk); (try clear hi)))
      go_meet
      case rel => exact ⟨_, (decide ((a1.size : Int) > 65536)), (by first | rfl | (simp; done) | (simp [*]; done)), H', ⟨by first | omega | exact Nat.le_refl _⟩, ⟨by (with_reducible repeat (first | refine blk_drewN ?_ _ | refine blk_drew ?_ | refine blk_alloc ?_ _)); exact BK268.out⟩, ⟨by repeat (first | (with_reducible first | exact HB.out | apply below_alloc | apply pw_below_drewN | apply below_drew1 | refine below_set ?_ GE268.out) | exact HB.out)⟩⟩
    · replace c7 := Bool.eq_false_iff.mpr c7
      subst c7
      have H1 : (tenancylaw04_OctetBack.j0 k a1 a2 true a0_0 a0_1) = some r := by rw [if_neg (show ¬ (false = true) by decide)] at H; exact H
      clear H
      have H := H1
      clear H1
      have H' := Aside0.mk H
      clear H
      go_wp2_with (first | ((with_reducible refine gate_callee (f := 8) rfl ?_); refine goesL_ (some 25) rfl rfl Try.func8 (by kernel_rfl) rfl #[] rfl (by (try simp only [List.map_toArray, List.map_cons, List.map_nil]); first | done | rfl | (simp only [List.length_drop, List.length_take]; rfl)) ?_; (with_reducible refine (tenancylaw04_awake.calls k  false _ A6.out).mono ?_); rintro e w9 ⟨rfl, hb⟩; refine ⟨_, rfl, ?_⟩; have n0_ := Aside0.mk (blk_below (g := gb268) (o := .cells #[.int .u64 a0_0, .int .u64 a0_1] 30 (0, 0)) (by (with_reducible repeat (first | refine blk_drewN ?_ _ | refine blk_drew ?_ | refine blk_alloc ?_ _)); exact BK268.out) hb); have n1_ := Aside0.mk (below_step (by repeat (first | (with_reducible first | exact HB.out | apply below_alloc | apply pw_below_drewN | apply below_drew1 | refine below_set ?_ GE268.out) | exact HB.out)) hb); clear BK268; clear HB; have BK268 := n0_; have HB := n1_; clear n0_ n1_; (try clear hb); (try clear hb2); (try clear hk); (try clear hi)))
      go_meet
      case rel => exact ⟨_, (true), (by first | rfl | (simp; done) | (simp [*]; done)), H', ⟨by first | omega | exact Nat.le_refl _⟩, ⟨by (with_reducible repeat (first | refine blk_drewN ?_ _ | refine blk_drew ?_ | refine blk_alloc ?_ _)); exact BK268.out⟩, ⟨by repeat (first | (with_reducible first | exact HB.out | apply below_alloc | apply pw_below_drewN | apply below_drew1 | refine below_set ?_ GE268.out) | exact HB.out)⟩⟩
  case rest =>
    clear HC4
    try clear p2
    try clear c7
    try clear c8
    obtain ⟨kq, x31_3, rfl, HA, HJ3, BK268, HB⟩ := hcut
    cases kq with
    | zero => exact absurd HA.out (by simp [tenancylaw04_OctetBack.j0])
    | succ kj3 =>
      have H := HA.out
      clear HA
      simp only [tenancylaw04_OctetBack.j0] at H
      by_cases c10 : x31_3 = true
      · subst c10
        have H1 : ((tenancylaw04_awake.f kj3).bind fun t270 => (some t270)) = some r := by rw [if_pos rfl] at H; exact H
        clear H
        have H := H1
        clear H1
        replace H := Option.bind_eq_some_iff.mp H
        obtain ⟨t270, A110, H⟩ := H
        replace H : (some t270) = some r := H
        have A11 := Aside0.mk A110
        clear A110
        obtain rfl := Option.some.inj H
        go_wp2_with (first | ((with_reducible refine gate_callee (f := 8) rfl ?_); refine goesL_ (some 32) rfl rfl Try.func8 (by kernel_rfl) rfl #[] rfl (by (try simp only [List.map_toArray, List.map_cons, List.map_nil]); first | done | rfl | (simp only [List.length_drop, List.length_take]; rfl)) ?_; (with_reducible refine (tenancylaw04_awake.calls kj3  t270 _ A11.out).mono ?_); rintro e w12 ⟨rfl, hb⟩; refine ⟨_, rfl, ?_⟩; have n0_ := Aside0.mk (blk_below (g := gb268) (o := .cells #[.int .u64 a0_0, .int .u64 a0_1] 30 (0, 0)) (by (with_reducible repeat (first | refine blk_drewN ?_ _ | refine blk_drew ?_ | refine blk_alloc ?_ _)); exact BK268.out) hb); have n1_ := Aside0.mk (below_step (by repeat (first | (with_reducible first | exact HB.out | apply below_alloc | apply pw_below_drewN | apply below_drew1 | refine below_set ?_ GE268.out) | exact HB.out)) hb); clear BK268; clear HB; have BK268 := n0_; have HB := n1_; clear n0_ n1_; (try clear hb); (try clear hb2); (try clear hk); (try clear hi)))
        go_ret
        exact ⟨by first | rfl | (simp [errW_none, errW_some] <;> rfl) | (simp [*, errW_none, errW_some] <;> rfl), by repeat (first | (with_reducible first | exact HB.out | apply below_alloc | apply pw_below_drewN | apply below_drew1 | refine below_set ?_ GE268.out) | exact HB.out)⟩
      · replace c10 := Bool.eq_false_iff.mpr c10
        subst c10
        have H1 : ((octet_PutAddr.f kj3 a0_0 a0_1).bind fun t271 => (if a2.size + t271.size ≤ 9223372036854775807 then (if (a2 ++ t271).size + a1.size ≤ 9223372036854775807 then ((octet_GetAddr.f kj3 ((a2 ++ t271) ++ a1) (a2.size : Int)).bind fun bt272 => (if 0 ≤ (wrap64 ((t271.size : Int) - 1)) then (if (wrap64 ((t271.size : Int) - 1)) ≤ (t271.size : Int) then (if a2.size + (t271.extract 0 ((wrap64 ((t271.size : Int) - 1)) : Int).toNat).size ≤ 9223372036854775807 then ((octet_GetAddr.f kj3 (a2 ++ (t271.extract 0 ((wrap64 ((t271.size : Int) - 1)) : Int).toNat)) (a2.size : Int)).bind fun bt276 => ((octet_Get64.f kj3 (a2 ++ t271) (wrap64 ((a2.size : Int) + 8))).bind fun bt280 => ((octet_Put32.f kj3 ((a0_1) % 4294967296)).bind fun t282 => (if a2.size + t282.size ≤ 9223372036854775807 then (if (a2 ++ t282).size + a1.size ≤ 9223372036854775807 then ((octet_Get32.f kj3 ((a2 ++ t282) ++ a1) (a2.size : Int)).bind fun bt283 => ((octet_Put16.f kj3 (IntKind.u16.wrap (a0_0))).bind fun t285 => (if a2.size + t285.size ≤ 9223372036854775807 then (if (a2 ++ t285).size + a1.size ≤ 9223372036854775807 then ((octet_Get16.f kj3 ((a2 ++ t285) ++ a1) (a2.size : Int)).bind fun bt286 => (if (!(bt272.1 == a0_0) || (!(bt272.2.1 == a0_1))) = true then (tenancylaw04_OctetBack.j1 kj3 a1 a2 (a2.size : Int) true) else (if bt272.2.2 = true then (if bt276.2.2 = true then (tenancylaw04_OctetBack.j1 kj3 a1 a2 (a2.size : Int) true) else (if bt280.1 = a0_1 then (if bt280.2 = true then (if bt283.1 = ((a0_1) % 4294967296) then (if bt283.2 = true then (if bt286.1 = (IntKind.u16.wrap (a0_0)) then (tenancylaw04_OctetBack.j1 kj3 a1 a2 (a2.size : Int) (!bt286.2)) else (tenancylaw04_OctetBack.j1 kj3 a1 a2 (a2.size : Int) true)) else (tenancylaw04_OctetBack.j1 kj3 a1 a2 (a2.size : Int) true)) else (tenancylaw04_OctetBack.j1 kj3 a1 a2 (a2.size : Int) true)) else (tenancylaw04_OctetBack.j1 kj3 a1 a2 (a2.size : Int) true)) else (tenancylaw04_OctetBack.j1 kj3 a1 a2 (a2.size : Int) true))) else (tenancylaw04_OctetBack.j1 kj3 a1 a2 (a2.size : Int) true)))) else (none)) else (none)))) else (none)) else (none))))) else (none)) else (none)) else (none))) else (none)) else (none))) = some r := by rw [if_neg (show ¬ (false = true) by decide)] at H; exact H
        clear H
        have H := H1
        clear H1
        replace H := Option.bind_eq_some_iff.mp H
        obtain ⟨t271, A130, H⟩ := H
        replace H : (if a2.size + t271.size ≤ 9223372036854775807 then (if (a2 ++ t271).size + a1.size ≤ 9223372036854775807 then ((octet_GetAddr.f kj3 ((a2 ++ t271) ++ a1) (a2.size : Int)).bind fun bt272 => (if 0 ≤ (wrap64 ((t271.size : Int) - 1)) then (if (wrap64 ((t271.size : Int) - 1)) ≤ (t271.size : Int) then (if a2.size + (t271.extract 0 ((wrap64 ((t271.size : Int) - 1)) : Int).toNat).size ≤ 9223372036854775807 then ((octet_GetAddr.f kj3 (a2 ++ (t271.extract 0 ((wrap64 ((t271.size : Int) - 1)) : Int).toNat)) (a2.size : Int)).bind fun bt276 => ((octet_Get64.f kj3 (a2 ++ t271) (wrap64 ((a2.size : Int) + 8))).bind fun bt280 => ((octet_Put32.f kj3 ((a0_1) % 4294967296)).bind fun t282 => (if a2.size + t282.size ≤ 9223372036854775807 then (if (a2 ++ t282).size + a1.size ≤ 9223372036854775807 then ((octet_Get32.f kj3 ((a2 ++ t282) ++ a1) (a2.size : Int)).bind fun bt283 => ((octet_Put16.f kj3 (IntKind.u16.wrap (a0_0))).bind fun t285 => (if a2.size + t285.size ≤ 9223372036854775807 then (if (a2 ++ t285).size + a1.size ≤ 9223372036854775807 then ((octet_Get16.f kj3 ((a2 ++ t285) ++ a1) (a2.size : Int)).bind fun bt286 => (if (!(bt272.1 == a0_0) || (!(bt272.2.1 == a0_1))) = true then (tenancylaw04_OctetBack.j1 kj3 a1 a2 (a2.size : Int) true) else (if bt272.2.2 = true then (if bt276.2.2 = true then (tenancylaw04_OctetBack.j1 kj3 a1 a2 (a2.size : Int) true) else (if bt280.1 = a0_1 then (if bt280.2 = true then (if bt283.1 = ((a0_1) % 4294967296) then (if bt283.2 = true then (if bt286.1 = (IntKind.u16.wrap (a0_0)) then (tenancylaw04_OctetBack.j1 kj3 a1 a2 (a2.size : Int) (!bt286.2)) else (tenancylaw04_OctetBack.j1 kj3 a1 a2 (a2.size : Int) true)) else (tenancylaw04_OctetBack.j1 kj3 a1 a2 (a2.size : Int) true)) else (tenancylaw04_OctetBack.j1 kj3 a1 a2 (a2.size : Int) true)) else (tenancylaw04_OctetBack.j1 kj3 a1 a2 (a2.size : Int) true)) else (tenancylaw04_OctetBack.j1 kj3 a1 a2 (a2.size : Int) true))) else (tenancylaw04_OctetBack.j1 kj3 a1 a2 (a2.size : Int) true)))) else (none)) else (none)))) else (none)) else (none))))) else (none)) else (none)) else (none))) else (none)) else (none)) = some r := H
        have A13 := Aside0.mk A130
        clear A130
        by_cases c14 : a2.size + t271.size ≤ 9223372036854775807
        · rw [if_pos c14] at H
          have c14b0 := eq_true c14
          have c14b1 : decide (a2.size + t271.size ≤ 9223372036854775807) = true := decide_eq_true c14
          try have c14b2 : (9223372036854775807 < a2.size + t271.size) = False := eq_false (Nat.not_lt.2 c14)
          by_cases c15 : (a2 ++ t271).size + a1.size ≤ 9223372036854775807
          · rw [if_pos c15] at H
            have c15b0 := eq_true c15
            have c15b1 : decide ((a2 ++ t271).size + a1.size ≤ 9223372036854775807) = true := decide_eq_true c15
            try have c15b2 : (9223372036854775807 < (a2 ++ t271).size + a1.size) = False := eq_false (Nat.not_lt.2 c15)
            replace H := Option.bind_eq_some_iff.mp H
            obtain ⟨⟨t272, t273, t274⟩, A160, H⟩ := H
            replace H : (if 0 ≤ (wrap64 ((t271.size : Int) - 1)) then (if (wrap64 ((t271.size : Int) - 1)) ≤ (t271.size : Int) then (if a2.size + (t271.extract 0 ((wrap64 ((t271.size : Int) - 1)) : Int).toNat).size ≤ 9223372036854775807 then ((octet_GetAddr.f kj3 (a2 ++ (t271.extract 0 ((wrap64 ((t271.size : Int) - 1)) : Int).toNat)) (a2.size : Int)).bind fun bt276 => ((octet_Get64.f kj3 (a2 ++ t271) (wrap64 ((a2.size : Int) + 8))).bind fun bt280 => ((octet_Put32.f kj3 ((a0_1) % 4294967296)).bind fun t282 => (if a2.size + t282.size ≤ 9223372036854775807 then (if (a2 ++ t282).size + a1.size ≤ 9223372036854775807 then ((octet_Get32.f kj3 ((a2 ++ t282) ++ a1) (a2.size : Int)).bind fun bt283 => ((octet_Put16.f kj3 (IntKind.u16.wrap (a0_0))).bind fun t285 => (if a2.size + t285.size ≤ 9223372036854775807 then (if (a2 ++ t285).size + a1.size ≤ 9223372036854775807 then ((octet_Get16.f kj3 ((a2 ++ t285) ++ a1) (a2.size : Int)).bind fun bt286 => (if (!(t272 == a0_0) || (!(t273 == a0_1))) = true then (tenancylaw04_OctetBack.j1 kj3 a1 a2 (a2.size : Int) true) else (if t274 = true then (if bt276.2.2 = true then (tenancylaw04_OctetBack.j1 kj3 a1 a2 (a2.size : Int) true) else (if bt280.1 = a0_1 then (if bt280.2 = true then (if bt283.1 = ((a0_1) % 4294967296) then (if bt283.2 = true then (if bt286.1 = (IntKind.u16.wrap (a0_0)) then (tenancylaw04_OctetBack.j1 kj3 a1 a2 (a2.size : Int) (!bt286.2)) else (tenancylaw04_OctetBack.j1 kj3 a1 a2 (a2.size : Int) true)) else (tenancylaw04_OctetBack.j1 kj3 a1 a2 (a2.size : Int) true)) else (tenancylaw04_OctetBack.j1 kj3 a1 a2 (a2.size : Int) true)) else (tenancylaw04_OctetBack.j1 kj3 a1 a2 (a2.size : Int) true)) else (tenancylaw04_OctetBack.j1 kj3 a1 a2 (a2.size : Int) true))) else (tenancylaw04_OctetBack.j1 kj3 a1 a2 (a2.size : Int) true)))) else (none)) else (none)))) else (none)) else (none))))) else (none)) else (none)) else (none)) = some r := H
            have A16 := Aside0.mk A160
            clear A160
            obtain ⟨ji17, hji17⟩ : ∃ j_ : Int, (wrap64 ((t271.size : Int) - 1)) = j_ := ⟨_, rfl⟩
            replace H : (if 0 ≤ (ji17) then (if (ji17) ≤ (t271.size : Int) then (if a2.size + (t271.extract 0 ((ji17) : Int).toNat).size ≤ 9223372036854775807 then ((octet_GetAddr.f kj3 (a2 ++ (t271.extract 0 ((ji17) : Int).toNat)) (a2.size : Int)).bind fun bt276 => ((octet_Get64.f kj3 (a2 ++ t271) (wrap64 ((a2.size : Int) + 8))).bind fun bt280 => ((octet_Put32.f kj3 ((a0_1) % 4294967296)).bind fun t282 => (if a2.size + t282.size ≤ 9223372036854775807 then (if (a2 ++ t282).size + a1.size ≤ 9223372036854775807 then ((octet_Get32.f kj3 ((a2 ++ t282) ++ a1) (a2.size : Int)).bind fun bt283 => ((octet_Put16.f kj3 (IntKind.u16.wrap (a0_0))).bind fun t285 => (if a2.size + t285.size ≤ 9223372036854775807 then (if (a2 ++ t285).size + a1.size ≤ 9223372036854775807 then ((octet_Get16.f kj3 ((a2 ++ t285) ++ a1) (a2.size : Int)).bind fun bt286 => (if (!(t272 == a0_0) || (!(t273 == a0_1))) = true then (tenancylaw04_OctetBack.j1 kj3 a1 a2 (a2.size : Int) true) else (if t274 = true then (if bt276.2.2 = true then (tenancylaw04_OctetBack.j1 kj3 a1 a2 (a2.size : Int) true) else (if bt280.1 = a0_1 then (if bt280.2 = true then (if bt283.1 = ((a0_1) % 4294967296) then (if bt283.2 = true then (if bt286.1 = (IntKind.u16.wrap (a0_0)) then (tenancylaw04_OctetBack.j1 kj3 a1 a2 (a2.size : Int) (!bt286.2)) else (tenancylaw04_OctetBack.j1 kj3 a1 a2 (a2.size : Int) true)) else (tenancylaw04_OctetBack.j1 kj3 a1 a2 (a2.size : Int) true)) else (tenancylaw04_OctetBack.j1 kj3 a1 a2 (a2.size : Int) true)) else (tenancylaw04_OctetBack.j1 kj3 a1 a2 (a2.size : Int) true)) else (tenancylaw04_OctetBack.j1 kj3 a1 a2 (a2.size : Int) true))) else (tenancylaw04_OctetBack.j1 kj3 a1 a2 (a2.size : Int) true)))) else (none)) else (none)))) else (none)) else (none))))) else (none)) else (none)) else (none)) = some r := by first | (rw [hji17] at H; exact H) | (simp only [hji17] at H ⊢; exact H)
            (try rw [hji17] at A13)
            (try rw [hji17] at A16)
            have hji17w : (IntKind.i64.wrap ((t271.size : Int) - 1)) = ji17 := (i64_w _).trans hji17
            by_cases c18 : 0 ≤ (ji17)
            · rw [if_pos c18] at H
              have c18b0 := eq_true c18
              have c18b1 : decide (0 ≤ (ji17)) = true := decide_eq_true c18
              clear c18
              by_cases c19 : (ji17) ≤ (t271.size : Int)
              · rw [if_pos c19] at H
                have c19b0 := eq_true c19
                have c19b1 : decide ((ji17) ≤ (t271.size : Int)) = true := decide_eq_true c19
                clear c19
                by_cases c20 : a2.size + (t271.extract 0 ((ji17) : Int).toNat).size ≤ 9223372036854775807
                · rw [if_pos c20] at H
                  have c20b0 := eq_true c20
                  have c20b1 : decide (a2.size + (t271.extract 0 ((ji17) : Int).toNat).size ≤ 9223372036854775807) = true := decide_eq_true c20
                  (try (have c20bs := c20; simp at c20bs))
                  try have c20b2 : (9223372036854775807 < a2.size + (t271.extract 0 ((ji17) : Int).toNat).size) = False := eq_false (Nat.not_lt.2 c20)
                  replace H := Option.bind_eq_some_iff.mp H
                  obtain ⟨⟨t276, t277, t278⟩, A210, H⟩ := H
                  replace H : ((octet_Get64.f kj3 (a2 ++ t271) (wrap64 ((a2.size : Int) + 8))).bind fun bt280 => ((octet_Put32.f kj3 ((a0_1) % 4294967296)).bind fun t282 => (if a2.size + t282.size ≤ 9223372036854775807 then (if (a2 ++ t282).size + a1.size ≤ 9223372036854775807 then ((octet_Get32.f kj3 ((a2 ++ t282) ++ a1) (a2.size : Int)).bind fun bt283 => ((octet_Put16.f kj3 (IntKind.u16.wrap (a0_0))).bind fun t285 => (if a2.size + t285.size ≤ 9223372036854775807 then (if (a2 ++ t285).size + a1.size ≤ 9223372036854775807 then ((octet_Get16.f kj3 ((a2 ++ t285) ++ a1) (a2.size : Int)).bind fun bt286 => (if (!(t272 == a0_0) || (!(t273 == a0_1))) = true then (tenancylaw04_OctetBack.j1 kj3 a1 a2 (a2.size : Int) true) else (if t274 = true then (if t278 = true then (tenancylaw04_OctetBack.j1 kj3 a1 a2 (a2.size : Int) true) else (if bt280.1 = a0_1 then (if bt280.2 = true then (if bt283.1 = ((a0_1) % 4294967296) then (if bt283.2 = true then (if bt286.1 = (IntKind.u16.wrap (a0_0)) then (tenancylaw04_OctetBack.j1 kj3 a1 a2 (a2.size : Int) (!bt286.2)) else (tenancylaw04_OctetBack.j1 kj3 a1 a2 (a2.size : Int) true)) else (tenancylaw04_OctetBack.j1 kj3 a1 a2 (a2.size : Int) true)) else (tenancylaw04_OctetBack.j1 kj3 a1 a2 (a2.size : Int) true)) else (tenancylaw04_OctetBack.j1 kj3 a1 a2 (a2.size : Int) true)) else (tenancylaw04_OctetBack.j1 kj3 a1 a2 (a2.size : Int) true))) else (tenancylaw04_OctetBack.j1 kj3 a1 a2 (a2.size : Int) true)))) else (none)) else (none)))) else (none)) else (none)))) = some r := H
                  have A21 := Aside0.mk A210
                  clear A210
                  replace H := Option.bind_eq_some_iff.mp H
                  obtain ⟨⟨t280, t281⟩, A220, H⟩ := H
                  replace H : ((octet_Put32.f kj3 ((a0_1) % 4294967296)).bind fun t282 => (if a2.size + t282.size ≤ 9223372036854775807 then (if (a2 ++ t282).size + a1.size ≤ 9223372036854775807 then ((octet_Get32.f kj3 ((a2 ++ t282) ++ a1) (a2.size : Int)).bind fun bt283 => ((octet_Put16.f kj3 (IntKind.u16.wrap (a0_0))).bind fun t285 => (if a2.size + t285.size ≤ 9223372036854775807 then (if (a2 ++ t285).size + a1.size ≤ 9223372036854775807 then ((octet_Get16.f kj3 ((a2 ++ t285) ++ a1) (a2.size : Int)).bind fun bt286 => (if (!(t272 == a0_0) || (!(t273 == a0_1))) = true then (tenancylaw04_OctetBack.j1 kj3 a1 a2 (a2.size : Int) true) else (if t274 = true then (if t278 = true then (tenancylaw04_OctetBack.j1 kj3 a1 a2 (a2.size : Int) true) else (if t280 = a0_1 then (if t281 = true then (if bt283.1 = ((a0_1) % 4294967296) then (if bt283.2 = true then (if bt286.1 = (IntKind.u16.wrap (a0_0)) then (tenancylaw04_OctetBack.j1 kj3 a1 a2 (a2.size : Int) (!bt286.2)) else (tenancylaw04_OctetBack.j1 kj3 a1 a2 (a2.size : Int) true)) else (tenancylaw04_OctetBack.j1 kj3 a1 a2 (a2.size : Int) true)) else (tenancylaw04_OctetBack.j1 kj3 a1 a2 (a2.size : Int) true)) else (tenancylaw04_OctetBack.j1 kj3 a1 a2 (a2.size : Int) true)) else (tenancylaw04_OctetBack.j1 kj3 a1 a2 (a2.size : Int) true))) else (tenancylaw04_OctetBack.j1 kj3 a1 a2 (a2.size : Int) true)))) else (none)) else (none)))) else (none)) else (none))) = some r := H
                  have A22 := Aside0.mk A220
                  clear A220
                  replace H := Option.bind_eq_some_iff.mp H
                  obtain ⟨t282, A230, H⟩ := H
                  replace H : (if a2.size + t282.size ≤ 9223372036854775807 then (if (a2 ++ t282).size + a1.size ≤ 9223372036854775807 then ((octet_Get32.f kj3 ((a2 ++ t282) ++ a1) (a2.size : Int)).bind fun bt283 => ((octet_Put16.f kj3 (IntKind.u16.wrap (a0_0))).bind fun t285 => (if a2.size + t285.size ≤ 9223372036854775807 then (if (a2 ++ t285).size + a1.size ≤ 9223372036854775807 then ((octet_Get16.f kj3 ((a2 ++ t285) ++ a1) (a2.size : Int)).bind fun bt286 => (if (!(t272 == a0_0) || (!(t273 == a0_1))) = true then (tenancylaw04_OctetBack.j1 kj3 a1 a2 (a2.size : Int) true) else (if t274 = true then (if t278 = true then (tenancylaw04_OctetBack.j1 kj3 a1 a2 (a2.size : Int) true) else (if t280 = a0_1 then (if t281 = true then (if bt283.1 = ((a0_1) % 4294967296) then (if bt283.2 = true then (if bt286.1 = (IntKind.u16.wrap (a0_0)) then (tenancylaw04_OctetBack.j1 kj3 a1 a2 (a2.size : Int) (!bt286.2)) else (tenancylaw04_OctetBack.j1 kj3 a1 a2 (a2.size : Int) true)) else (tenancylaw04_OctetBack.j1 kj3 a1 a2 (a2.size : Int) true)) else (tenancylaw04_OctetBack.j1 kj3 a1 a2 (a2.size : Int) true)) else (tenancylaw04_OctetBack.j1 kj3 a1 a2 (a2.size : Int) true)) else (tenancylaw04_OctetBack.j1 kj3 a1 a2 (a2.size : Int) true))) else (tenancylaw04_OctetBack.j1 kj3 a1 a2 (a2.size : Int) true)))) else (none)) else (none)))) else (none)) else (none)) = some r := H
                  have A23 := Aside0.mk A230
                  clear A230
                  by_cases c24 : a2.size + t282.size ≤ 9223372036854775807
                  · rw [if_pos c24] at H
                    have c24b0 := eq_true c24
                    have c24b1 : decide (a2.size + t282.size ≤ 9223372036854775807) = true := decide_eq_true c24
                    try have c24b2 : (9223372036854775807 < a2.size + t282.size) = False := eq_false (Nat.not_lt.2 c24)
                    by_cases c25 : (a2 ++ t282).size + a1.size ≤ 9223372036854775807
                    · rw [if_pos c25] at H
                      have c25b0 := eq_true c25
                      have c25b1 : decide ((a2 ++ t282).size + a1.size ≤ 9223372036854775807) = true := decide_eq_true c25
                      try have c25b2 : (9223372036854775807 < (a2 ++ t282).size + a1.size) = False := eq_false (Nat.not_lt.2 c25)
                      replace H := Option.bind_eq_some_iff.mp H
                      obtain ⟨⟨t283, t284⟩, A260, H⟩ := H
                      replace H : ((octet_Put16.f kj3 (IntKind.u16.wrap (a0_0))).bind fun t285 => (if a2.size + t285.size ≤ 9223372036854775807 then (if (a2 ++ t285).size + a1.size ≤ 9223372036854775807 then ((octet_Get16.f kj3 ((a2 ++ t285) ++ a1) (a2.size : Int)).bind fun bt286 => (if (!(t272 == a0_0) || (!(t273 == a0_1))) = true then (tenancylaw04_OctetBack.j1 kj3 a1 a2 (a2.size : Int) true) else (if t274 = true then (if t278 = true then (tenancylaw04_OctetBack.j1 kj3 a1 a2 (a2.size : Int) true) else (if t280 = a0_1 then (if t281 = true then (if t283 = ((a0_1) % 4294967296) then (if t284 = true then (if bt286.1 = (IntKind.u16.wrap (a0_0)) then (tenancylaw04_OctetBack.j1 kj3 a1 a2 (a2.size : Int) (!bt286.2)) else (tenancylaw04_OctetBack.j1 kj3 a1 a2 (a2.size : Int) true)) else (tenancylaw04_OctetBack.j1 kj3 a1 a2 (a2.size : Int) true)) else (tenancylaw04_OctetBack.j1 kj3 a1 a2 (a2.size : Int) true)) else (tenancylaw04_OctetBack.j1 kj3 a1 a2 (a2.size : Int) true)) else (tenancylaw04_OctetBack.j1 kj3 a1 a2 (a2.size : Int) true))) else (tenancylaw04_OctetBack.j1 kj3 a1 a2 (a2.size : Int) true)))) else (none)) else (none))) = some r := H
                      have A26 := Aside0.mk A260
                      clear A260
                      replace H := Option.bind_eq_some_iff.mp H
                      obtain ⟨t285, A270, H⟩ := H
                      replace H : (if a2.size + t285.size ≤ 9223372036854775807 then (if (a2 ++ t285).size + a1.size ≤ 9223372036854775807 then ((octet_Get16.f kj3 ((a2 ++ t285) ++ a1) (a2.size : Int)).bind fun bt286 => (if (!(t272 == a0_0) || (!(t273 == a0_1))) = true then (tenancylaw04_OctetBack.j1 kj3 a1 a2 (a2.size : Int) true) else (if t274 = true then (if t278 = true then (tenancylaw04_OctetBack.j1 kj3 a1 a2 (a2.size : Int) true) else (if t280 = a0_1 then (if t281 = true then (if t283 = ((a0_1) % 4294967296) then (if t284 = true then (if bt286.1 = (IntKind.u16.wrap (a0_0)) then (tenancylaw04_OctetBack.j1 kj3 a1 a2 (a2.size : Int) (!bt286.2)) else (tenancylaw04_OctetBack.j1 kj3 a1 a2 (a2.size : Int) true)) else (tenancylaw04_OctetBack.j1 kj3 a1 a2 (a2.size : Int) true)) else (tenancylaw04_OctetBack.j1 kj3 a1 a2 (a2.size : Int) true)) else (tenancylaw04_OctetBack.j1 kj3 a1 a2 (a2.size : Int) true)) else (tenancylaw04_OctetBack.j1 kj3 a1 a2 (a2.size : Int) true))) else (tenancylaw04_OctetBack.j1 kj3 a1 a2 (a2.size : Int) true)))) else (none)) else (none)) = some r := H
                      have A27 := Aside0.mk A270
                      clear A270
                      by_cases c28 : a2.size + t285.size ≤ 9223372036854775807
                      · rw [if_pos c28] at H
                        have c28b0 := eq_true c28
                        have c28b1 : decide (a2.size + t285.size ≤ 9223372036854775807) = true := decide_eq_true c28
                        try have c28b2 : (9223372036854775807 < a2.size + t285.size) = False := eq_false (Nat.not_lt.2 c28)
                        by_cases c29 : (a2 ++ t285).size + a1.size ≤ 9223372036854775807
                        · rw [if_pos c29] at H
                          have c29b0 := eq_true c29
                          have c29b1 : decide ((a2 ++ t285).size + a1.size ≤ 9223372036854775807) = true := decide_eq_true c29
                          try have c29b2 : (9223372036854775807 < (a2 ++ t285).size + a1.size) = False := eq_false (Nat.not_lt.2 c29)
                          replace H := Option.bind_eq_some_iff.mp H
                          obtain ⟨⟨t286, t287⟩, A300, H⟩ := H
                          replace H : (if (!(t272 == a0_0) || (!(t273 == a0_1))) = true then (tenancylaw04_OctetBack.j1 kj3 a1 a2 (a2.size : Int) true) else (if t274 = true then (if t278 = true then (tenancylaw04_OctetBack.j1 kj3 a1 a2 (a2.size : Int) true) else (if t280 = a0_1 then (if t281 = true then (if t283 = ((a0_1) % 4294967296) then (if t284 = true then (if t286 = (IntKind.u16.wrap (a0_0)) then (tenancylaw04_OctetBack.j1 kj3 a1 a2 (a2.size : Int) (!t287)) else (tenancylaw04_OctetBack.j1 kj3 a1 a2 (a2.size : Int) true)) else (tenancylaw04_OctetBack.j1 kj3 a1 a2 (a2.size : Int) true)) else (tenancylaw04_OctetBack.j1 kj3 a1 a2 (a2.size : Int) true)) else (tenancylaw04_OctetBack.j1 kj3 a1 a2 (a2.size : Int) true)) else (tenancylaw04_OctetBack.j1 kj3 a1 a2 (a2.size : Int) true))) else (tenancylaw04_OctetBack.j1 kj3 a1 a2 (a2.size : Int) true))) = some r := H
                          have A30 := Aside0.mk A300
                          clear A300
                          have HC31 := Aside0.mk H
                          clear H
                          have hcz32_0 : wc.cell? ⟨gb268, 0, none⟩ = some (.int .u64 a0_0) := (blk_cell BK268.out 0).trans rfl
                          have hcz32_1 : wc.cell? ⟨gb268, 1, none⟩ = some (.int .u64 a0_1) := (blk_cell BK268.out 1).trans rfl
                          have hfz32_0 := blk_frozen BK268.out 0
                          have hfz32_1 := blk_frozen BK268.out 1
                          go_upto_region 10 with (first | ((with_reducible refine gate_callee (f := 19) rfl ?_); refine goesL_ (some 36) rfl rfl Try.func19 (by kernel_rfl) rfl #[.agg #[.int .u64 a0_0, .int .u64 a0_1]] rfl (by (try simp only [List.map_toArray, List.map_cons, List.map_nil]); first | done | rfl | (simp only [List.length_drop, List.length_take]; rfl)) ?_; (with_reducible refine (octet_PutAddr.calls kj3 a0_0 a0_1 t271 _ A13.out).mono ?_); rintro e w33 ⟨rfl, hb⟩; refine ⟨_, rfl, ?_⟩; have n0_ := Aside0.mk (blk_below (g := gb268) (o := .cells #[.int .u64 a0_0, .int .u64 a0_1] 30 (0, 0)) (by (with_reducible repeat (first | refine blk_drewN ?_ _ | refine blk_drew ?_ | refine blk_alloc ?_ _)); exact BK268.out) hb); have n1_ := Aside0.mk (below_step (by repeat (first | (with_reducible first | exact HB.out | apply below_alloc | apply pw_below_drewN | apply below_drew1 | refine below_set ?_ GE268.out) | exact HB.out)) hb); clear BK268; clear HB; have BK268 := n0_; have HB := n1_; clear n0_ n1_; (try clear hb); (try clear hb2); (try clear hk); (try clear hi)) | ((with_reducible refine gate_callee (f := 28) rfl ?_); refine goesL_ (some 44) rfl rfl Try.func28 (by kernel_rfl) rfl #[.string ((a2 ++ t271) ++ a1), .int .i64 (a2.size : Int)] rfl (by (try simp only [List.map_toArray, List.map_cons, List.map_nil]); first | done | rfl | (simp only [List.length_drop, List.length_take]; rfl)) ?_; (with_reducible refine (octet_GetAddr.calls kj3 ((a2 ++ t271) ++ a1) (a2.size : Int) t272 t273 t274 _ A16.out).mono ?_); rintro e w34 ⟨rfl, hb⟩; refine ⟨_, rfl, ?_⟩; have n0_ := Aside0.mk (blk_below (g := gb268) (o := .cells #[.int .u64 a0_0, .int .u64 a0_1] 30 (0, 0)) (by (with_reducible repeat (first | refine blk_drewN ?_ _ | refine blk_drew ?_ | refine blk_alloc ?_ _)); exact BK268.out) hb); have n1_ := Aside0.mk (below_step (by repeat (first | (with_reducible first | exact HB.out | apply below_alloc | apply pw_below_drewN | apply below_drew1 | refine below_set ?_ GE268.out) | exact HB.out)) hb); clear BK268; clear HB; have BK268 := n0_; have HB := n1_; clear n0_ n1_; (try clear hb); (try clear hb2); (try clear hk); (try clear hi)) | ((with_reducible refine gate_dst (N := 9) rfl ?_); (try (refine gate_guard (by rfl) ?_; dsimp only)); refine box_event ?hg (N := 9) ?hd (cs := #[.int .u64 0, .int .u64 0]) (t := 30) ?hr ?_; (case hd => rfl); (case hg => rfl); (case hr => first | (go_simp; done) | (go_simp; rfl)); intro gb275 hg w35 hbox hb; have n0_ := Aside0.mk (blk_below (g := gb268) (o := .cells #[.int .u64 a0_0, .int .u64 a0_1] 30 (0, 0)) (by (with_reducible repeat (first | refine blk_drewN ?_ _ | refine blk_drew ?_ | refine blk_alloc ?_ _)); exact BK268.out) hb); have n1_ := Aside0.mk (below_step (by repeat (first | (with_reducible first | exact HB.out | apply below_alloc | apply pw_below_drewN | apply below_drew1 | refine below_set ?_ GE268.out) | exact HB.out)) hb); have n2_ := Aside0.mk (hbox); have n3_ := Aside0.mk ((by rw [hg]; exact (below_size (by repeat (first | (with_reducible first | exact HB.out | apply below_alloc | apply pw_below_drewN | apply below_drew1 | refine below_set ?_ GE268.out) | exact HB.out))) : w.heap.size ≤ gb275)); have n4_ := Aside0.mk ((by rw [hg]; exact (below_size (by repeat (first | (with_reducible first | exact HB.out | apply below_alloc | apply pw_below_drewN | apply below_drew1 | refine below_set ?_ GE268.out) | exact HB.out))) : w.heap.size ≤ gb275)); have n5_ := Aside0.mk ((by rw [hg]; exact Nat.ne_of_lt (blk_lt (g := gb268) (o := .cells #[.int .u64 a0_0, .int .u64 a0_1] 30 (0, 0)) (by (with_reducible repeat (first | refine blk_drewN ?_ _ | refine blk_drew ?_ | refine blk_alloc ?_ _)); exact BK268.out)) : gb268 ≠ gb275)); have n6_ := Aside0.mk ((by rw [hg]; exact Nat.ne_of_gt (blk_lt (g := gb268) (o := .cells #[.int .u64 a0_0, .int .u64 a0_1] 30 (0, 0)) (by (with_reducible repeat (first | refine blk_drewN ?_ _ | refine blk_drew ?_ | refine blk_alloc ?_ _)); exact BK268.out)) : gb275 ≠ gb268)); clear BK268; clear HB; have BK268 := n0_; have HB := n1_; have BK275 := n2_; have GW275 := n3_; have GE275 := n4_; have NB268_275 := n5_; have NB275_268 := n6_; clear n0_ n1_ n2_ n3_ n4_ n5_ n6_; clear hb hbox hg; have hnb36 := NB275_268.out; have hnc36 := NB268_275.out; have hcz37_0 : w35.cell? ⟨gb275, 0, none⟩ = some (.int .u64 0) := (blk_cell BK275.out 0).trans rfl; have hcz37_1 : w35.cell? ⟨gb275, 1, none⟩ = some (.int .u64 0) := (blk_cell BK275.out 1).trans rfl; have hfz37_0 := blk_frozen BK275.out 0; have hfz37_1 := blk_frozen BK275.out 1) | ((with_reducible refine gate_callee (f := 28) rfl ?_); refine goesL_ (some 56) rfl rfl Try.func28 (by kernel_rfl) rfl #[.string (a2 ++ (t271.extract 0 ((ji17) : Int).toNat)), .int .i64 (a2.size : Int)] rfl (by (try simp only [List.map_toArray, List.map_cons, List.map_nil]); first | done | (simp only [hji17]; rfl) | rfl | (simp only [List.length_drop, List.length_take]; rfl)) ?_; (with_reducible refine (octet_GetAddr.calls kj3 (a2 ++ (t271.extract 0 ((ji17) : Int).toNat)) (a2.size : Int) t276 t277 t278 _ A21.out).mono ?_); rintro e w38 ⟨rfl, hb⟩; refine ⟨_, rfl, ?_⟩; have n0_ := Aside0.mk (blk_below (g := gb268) (o := .cells #[.int .u64 a0_0, .int .u64 a0_1] 30 (0, 0)) (by (with_reducible repeat (first | refine blk_drewN ?_ _ | refine blk_drew ?_ | refine blk_alloc ?_ _)); refine blk_far ?_ NB268_275.out _; (with_reducible repeat (first | refine blk_drewN ?_ _ | refine blk_drew ?_ | refine blk_alloc ?_ _)); refine blk_far ?_ NB268_275.out _; (with_reducible repeat (first | refine blk_drewN ?_ _ | refine blk_drew ?_ | refine blk_alloc ?_ _)); exact BK268.out) hb); have n1_ := Aside0.mk (blk_below (g := gb275) (o := .cells #[.int .u64 t272, .int .u64 t273] 30 (0, 0)) (by (with_reducible repeat (first | refine blk_drewN ?_ _ | refine blk_drew ?_ | refine blk_alloc ?_ _)); refine blk_put (cs := #[.int .u64 t272, .int .u64 0]) ?_ 1 _ rfl; (with_reducible repeat (first | refine blk_drewN ?_ _ | refine blk_drew ?_ | refine blk_alloc ?_ _)); refine blk_put (cs := #[.int .u64 0, .int .u64 0]) ?_ 0 _ rfl; (with_reducible repeat (first | refine blk_drewN ?_ _ | refine blk_drew ?_ | refine blk_alloc ?_ _)); exact BK275.out) hb); have n2_ := Aside0.mk (below_step (by repeat (first | (with_reducible first | exact HB.out | apply below_alloc | apply pw_below_drewN | apply below_drew1 | refine below_set ?_ GE268.out | refine below_set ?_ GE275.out) | exact HB.out)) hb); clear BK268; clear BK275; clear HB; have BK268 := n0_; have BK275 := n1_; have HB := n2_; clear n0_ n1_ n2_; (try clear hb); (try clear hb2); (try clear hk); (try clear hi)) | ((with_reducible refine gate_dst (N := 11) rfl ?_); (try (refine gate_guard (by rfl) ?_; dsimp only)); refine box_event ?hg (N := 11) ?hd (cs := #[.int .u64 0, .int .u64 0]) (t := 30) ?hr ?_; (case hd => rfl); (case hg => rfl); (case hr => first | (go_simp; done) | (go_simp; rfl)); intro gb279 hg w39 hbox hb; have n0_ := Aside0.mk (blk_below (g := gb268) (o := .cells #[.int .u64 a0_0, .int .u64 a0_1] 30 (0, 0)) (by (with_reducible repeat (first | refine blk_drewN ?_ _ | refine blk_drew ?_ | refine blk_alloc ?_ _)); exact BK268.out) hb); have n1_ := Aside0.mk (blk_below (g := gb275) (o := .cells #[.int .u64 t272, .int .u64 t273] 30 (0, 0)) (by (with_reducible repeat (first | refine blk_drewN ?_ _ | refine blk_drew ?_ | refine blk_alloc ?_ _)); exact BK275.out) hb); have n2_ := Aside0.mk (below_step (by repeat (first | (with_reducible first | exact HB.out | apply below_alloc | apply pw_below_drewN | apply below_drew1 | refine below_set ?_ GE268.out | refine below_set ?_ GE275.out) | exact HB.out)) hb); have n3_ := Aside0.mk (hbox); have n4_ := Aside0.mk ((by rw [hg]; exact (below_size (by repeat (first | (with_reducible first | exact HB.out | apply below_alloc | apply pw_below_drewN | apply below_drew1 | refine below_set ?_ GE268.out | refine below_set ?_ GE275.out) | exact HB.out))) : w.heap.size ≤ gb279)); have n5_ := Aside0.mk ((by rw [hg]; exact (below_size (by repeat (first | (with_reducible first | exact HB.out | apply below_alloc | apply pw_below_drewN | apply below_drew1 | refine below_set ?_ GE268.out | refine below_set ?_ GE275.out) | exact HB.out))) : w.heap.size ≤ gb279)); have n6_ := Aside0.mk ((by rw [hg]; exact Nat.ne_of_lt (blk_lt (g := gb268) (o := .cells #[.int .u64 a0_0, .int .u64 a0_1] 30 (0, 0)) (by (with_reducible repeat (first | refine blk_drewN ?_ _ | refine blk_drew ?_ | refine blk_alloc ?_ _)); exact BK268.out)) : gb268 ≠ gb279)); have n7_ := Aside0.mk ((by rw [hg]; exact Nat.ne_of_gt (blk_lt (g := gb268) (o := .cells #[.int .u64 a0_0, .int .u64 a0_1] 30 (0, 0)) (by (with_reducible repeat (first | refine blk_drewN ?_ _ | refine blk_drew ?_ | refine blk_alloc ?_ _)); exact BK268.out)) : gb279 ≠ gb268)); have n8_ := Aside0.mk ((by rw [hg]; exact Nat.ne_of_lt (blk_lt (g := gb275) (o := .cells #[.int .u64 t272, .int .u64 t273] 30 (0, 0)) (by (with_reducible repeat (first | refine blk_drewN ?_ _ | refine blk_drew ?_ | refine blk_alloc ?_ _)); exact BK275.out)) : gb275 ≠ gb279)); have n9_ := Aside0.mk ((by rw [hg]; exact Nat.ne_of_gt (blk_lt (g := gb275) (o := .cells #[.int .u64 t272, .int .u64 t273] 30 (0, 0)) (by (with_reducible repeat (first | refine blk_drewN ?_ _ | refine blk_drew ?_ | refine blk_alloc ?_ _)); exact BK275.out)) : gb279 ≠ gb275)); clear BK268; clear BK275; clear HB; have BK268 := n0_; have BK275 := n1_; have HB := n2_; have BK279 := n3_; have GW279 := n4_; have GE279 := n5_; have NB268_279 := n6_; have NB279_268 := n7_; have NB275_279 := n8_; have NB279_275 := n9_; clear n0_ n1_ n2_ n3_ n4_ n5_ n6_ n7_ n8_ n9_; clear hb hbox hg; have hnb40 := NB279_268.out; have hnc40 := NB268_279.out; have hnb41 := NB279_275.out; have hnc41 := NB275_279.out; have hcz42_0 : w39.cell? ⟨gb279, 0, none⟩ = some (.int .u64 0) := (blk_cell BK279.out 0).trans rfl; have hcz42_1 : w39.cell? ⟨gb279, 1, none⟩ = some (.int .u64 0) := (blk_cell BK279.out 1).trans rfl; have hfz42_0 := blk_frozen BK279.out 0; have hfz42_1 := blk_frozen BK279.out 1) | ((with_reducible refine gate_callee (f := 26) rfl ?_); refine goesL_ (some 65) rfl rfl Try.func26 (by kernel_rfl) rfl #[.string (a2 ++ t271), .int .i64 (wrap64 ((a2.size : Int) + 8))] rfl (by (try simp only [List.map_toArray, List.map_cons, List.map_nil]); first | done | rfl | (simp only [List.length_drop, List.length_take]; rfl)) ?_; (with_reducible refine (octet_Get64.calls kj3 (a2 ++ t271) (wrap64 ((a2.size : Int) + 8)) t280 t281 _ A22.out).mono ?_); rintro e w43 ⟨rfl, hb⟩; refine ⟨_, rfl, ?_⟩; have n0_ := Aside0.mk (blk_below (g := gb268) (o := .cells #[.int .u64 a0_0, .int .u64 a0_1] 30 (0, 0)) (by (with_reducible repeat (first | refine blk_drewN ?_ _ | refine blk_drew ?_ | refine blk_alloc ?_ _)); refine blk_far ?_ NB268_279.out _; (with_reducible repeat (first | refine blk_drewN ?_ _ | refine blk_drew ?_ | refine blk_alloc ?_ _)); refine blk_far ?_ NB268_279.out _; (with_reducible repeat (first | refine blk_drewN ?_ _ | refine blk_drew ?_ | refine blk_alloc ?_ _)); exact BK268.out) hb); have n1_ := Aside0.mk (blk_below (g := gb275) (o := .cells #[.int .u64 t272, .int .u64 t273] 30 (0, 0)) (by (with_reducible repeat (first | refine blk_drewN ?_ _ | refine blk_drew ?_ | refine blk_alloc ?_ _)); refine blk_far ?_ NB275_279.out _; (with_reducible repeat (first | refine blk_drewN ?_ _ | refine blk_drew ?_ | refine blk_alloc ?_ _)); refine blk_far ?_ NB275_279.out _; (with_reducible repeat (first | refine blk_drewN ?_ _ | refine blk_drew ?_ | refine blk_alloc ?_ _)); exact BK275.out) hb); have n2_ := Aside0.mk (blk_below (g := gb279) (o := .cells #[.int .u64 t276, .int .u64 t277] 30 (0, 0)) (by (with_reducible repeat (first | refine blk_drewN ?_ _ | refine blk_drew ?_ | refine blk_alloc ?_ _)); refine blk_put (cs := #[.int .u64 t276, .int .u64 0]) ?_ 1 _ rfl; (with_reducible repeat (first | refine blk_drewN ?_ _ | refine blk_drew ?_ | refine blk_alloc ?_ _)); refine blk_put (cs := #[.int .u64 0, .int .u64 0]) ?_ 0 _ rfl; (with_reducible repeat (first | refine blk_drewN ?_ _ | refine blk_drew ?_ | refine blk_alloc ?_ _)); exact BK279.out) hb); have n3_ := Aside0.mk (below_step (by repeat (first | (with_reducible first | exact HB.out | apply below_alloc | apply pw_below_drewN | apply below_drew1 | refine below_set ?_ GE268.out | refine below_set ?_ GE275.out | refine below_set ?_ GE279.out) | exact HB.out)) hb); clear BK268; clear BK275; clear BK279; clear HB; have BK268 := n0_; have BK275 := n1_; have BK279 := n2_; have HB := n3_; clear n0_ n1_ n2_ n3_; (try clear hb); (try clear hb2); (try clear hk); (try clear hi); have hcz44_0 : w43.cell? ⟨gb268, 0, none⟩ = some (.int .u64 a0_0) := (blk_cell BK268.out 0).trans rfl; have hcz44_1 : w43.cell? ⟨gb268, 1, none⟩ = some (.int .u64 a0_1) := (blk_cell BK268.out 1).trans rfl; have hfz44_0 := blk_frozen BK268.out 0; have hfz44_1 := blk_frozen BK268.out 1) | ((with_reducible refine gate_callee (f := 15) rfl ?_); refine goesL_ (some 73) rfl rfl Try.func15 (by kernel_rfl) rfl #[.int .u32 ((a0_1) % 4294967296)] rfl (by (try simp only [List.map_toArray, List.map_cons, List.map_nil]); first | done | rfl | (simp only [List.length_drop, List.length_take]; rfl)) ?_; (with_reducible refine (octet_Put32.calls kj3 ((a0_1) % 4294967296) t282 _ A23.out).mono ?_); rintro e w45 ⟨rfl, hb⟩; refine ⟨_, rfl, ?_⟩; have n0_ := Aside0.mk (blk_below (g := gb268) (o := .cells #[.int .u64 a0_0, .int .u64 a0_1] 30 (0, 0)) (by (with_reducible repeat (first | refine blk_drewN ?_ _ | refine blk_drew ?_ | refine blk_alloc ?_ _)); exact BK268.out) hb); have n1_ := Aside0.mk (blk_below (g := gb275) (o := .cells #[.int .u64 t272, .int .u64 t273] 30 (0, 0)) (by (with_reducible repeat (first | refine blk_drewN ?_ _ | refine blk_drew ?_ | refine blk_alloc ?_ _)); exact BK275.out) hb); have n2_ := Aside0.mk (blk_below (g := gb279) (o := .cells #[.int .u64 t276, .int .u64 t277] 30 (0, 0)) (by (with_reducible repeat (first | refine blk_drewN ?_ _ | refine blk_drew ?_ | refine blk_alloc ?_ _)); exact BK279.out) hb); have n3_ := Aside0.mk (below_step (by repeat (first | (with_reducible first | exact HB.out | apply below_alloc | apply pw_below_drewN | apply below_drew1 | refine below_set ?_ GE268.out | refine below_set ?_ GE275.out | refine below_set ?_ GE279.out) | exact HB.out)) hb); clear BK268; clear BK275; clear BK279; clear HB; have BK268 := n0_; have BK275 := n1_; have BK279 := n2_; have HB := n3_; clear n0_ n1_ n2_ n3_; (try clear hb); (try clear hb2); (try clear hk); (try clear hi)) | ((with_reducible refine gate_callee (f := 24) rfl ?_); refine goesL_ (some 78) rfl rfl Try.func24 (by kernel_rfl) rfl #[.string ((a2 ++ t282) ++ a1), .int .i64 (a2.size : Int)] rfl (by (try simp only [List.map_toArray, List.map_cons, List.map_nil]); first | done | rfl | (simp only [List.length_drop, List.length_take]; rfl)) ?_; (with_reducible refine (octet_Get32.calls kj3 ((a2 ++ t282) ++ a1) (a2.size : Int) t283 t284 _ A26.out).mono ?_); rintro e w46 ⟨rfl, hb⟩; refine ⟨_, rfl, ?_⟩; have n0_ := Aside0.mk (blk_below (g := gb268) (o := .cells #[.int .u64 a0_0, .int .u64 a0_1] 30 (0, 0)) (by (with_reducible repeat (first | refine blk_drewN ?_ _ | refine blk_drew ?_ | refine blk_alloc ?_ _)); exact BK268.out) hb); have n1_ := Aside0.mk (blk_below (g := gb275) (o := .cells #[.int .u64 t272, .int .u64 t273] 30 (0, 0)) (by (with_reducible repeat (first | refine blk_drewN ?_ _ | refine blk_drew ?_ | refine blk_alloc ?_ _)); exact BK275.out) hb); have n2_ := Aside0.mk (blk_below (g := gb279) (o := .cells #[.int .u64 t276, .int .u64 t277] 30 (0, 0)) (by (with_reducible repeat (first | refine blk_drewN ?_ _ | refine blk_drew ?_ | refine blk_alloc ?_ _)); exact BK279.out) hb); have n3_ := Aside0.mk (below_step (by repeat (first | (with_reducible first | exact HB.out | apply below_alloc | apply pw_below_drewN | apply below_drew1 | refine below_set ?_ GE268.out | refine below_set ?_ GE275.out | refine below_set ?_ GE279.out) | exact HB.out)) hb); clear BK268; clear BK275; clear BK279; clear HB; have BK268 := n0_; have BK275 := n1_; have BK279 := n2_; have HB := n3_; clear n0_ n1_ n2_ n3_; (try clear hb); (try clear hb2); (try clear hk); (try clear hi); have hcz47_0 : w46.cell? ⟨gb268, 0, none⟩ = some (.int .u64 a0_0) := (blk_cell BK268.out 0).trans rfl; have hcz47_1 : w46.cell? ⟨gb268, 1, none⟩ = some (.int .u64 a0_1) := (blk_cell BK268.out 1).trans rfl; have hfz47_0 := blk_frozen BK268.out 0; have hfz47_1 := blk_frozen BK268.out 1) | ((with_reducible refine gate_callee (f := 13) rfl ?_); refine goesL_ (some 86) rfl rfl Try.func13 (by kernel_rfl) rfl #[.int .u16 (IntKind.u16.wrap (a0_0))] rfl (by (try simp only [List.map_toArray, List.map_cons, List.map_nil]); first | done | rfl | (simp only [List.length_drop, List.length_take]; rfl)) ?_; (with_reducible refine (octet_Put16.calls kj3 (IntKind.u16.wrap (a0_0)) t285 _ A27.out).mono ?_); rintro e w48 ⟨rfl, hb⟩; refine ⟨_, rfl, ?_⟩; have n0_ := Aside0.mk (blk_below (g := gb268) (o := .cells #[.int .u64 a0_0, .int .u64 a0_1] 30 (0, 0)) (by (with_reducible repeat (first | refine blk_drewN ?_ _ | refine blk_drew ?_ | refine blk_alloc ?_ _)); exact BK268.out) hb); have n1_ := Aside0.mk (blk_below (g := gb275) (o := .cells #[.int .u64 t272, .int .u64 t273] 30 (0, 0)) (by (with_reducible repeat (first | refine blk_drewN ?_ _ | refine blk_drew ?_ | refine blk_alloc ?_ _)); exact BK275.out) hb); have n2_ := Aside0.mk (blk_below (g := gb279) (o := .cells #[.int .u64 t276, .int .u64 t277] 30 (0, 0)) (by (with_reducible repeat (first | refine blk_drewN ?_ _ | refine blk_drew ?_ | refine blk_alloc ?_ _)); exact BK279.out) hb); have n3_ := Aside0.mk (below_step (by repeat (first | (with_reducible first | exact HB.out | apply below_alloc | apply pw_below_drewN | apply below_drew1 | refine below_set ?_ GE268.out | refine below_set ?_ GE275.out | refine below_set ?_ GE279.out) | exact HB.out)) hb); clear BK268; clear BK275; clear BK279; clear HB; have BK268 := n0_; have BK275 := n1_; have BK279 := n2_; have HB := n3_; clear n0_ n1_ n2_ n3_; (try clear hb); (try clear hb2); (try clear hk); (try clear hi)) | ((with_reducible refine gate_callee (f := 22) rfl ?_); refine goesL_ (some 91) rfl rfl Try.func22 (by kernel_rfl) rfl #[.string ((a2 ++ t285) ++ a1), .int .i64 (a2.size : Int)] rfl (by (try simp only [List.map_toArray, List.map_cons, List.map_nil]); first | done | rfl | (simp only [List.length_drop, List.length_take]; rfl)) ?_; (with_reducible refine (octet_Get16.calls kj3 ((a2 ++ t285) ++ a1) (a2.size : Int) t286 t287 _ A30.out).mono ?_); rintro e w49 ⟨rfl, hb⟩; refine ⟨_, rfl, ?_⟩; have n0_ := Aside0.mk (blk_below (g := gb268) (o := .cells #[.int .u64 a0_0, .int .u64 a0_1] 30 (0, 0)) (by (with_reducible repeat (first | refine blk_drewN ?_ _ | refine blk_drew ?_ | refine blk_alloc ?_ _)); exact BK268.out) hb); have n1_ := Aside0.mk (blk_below (g := gb275) (o := .cells #[.int .u64 t272, .int .u64 t273] 30 (0, 0)) (by (with_reducible repeat (first | refine blk_drewN ?_ _ | refine blk_drew ?_ | refine blk_alloc ?_ _)); exact BK275.out) hb); have n2_ := Aside0.mk (blk_below (g := gb279) (o := .cells #[.int .u64 t276, .int .u64 t277] 30 (0, 0)) (by (with_reducible repeat (first | refine blk_drewN ?_ _ | refine blk_drew ?_ | refine blk_alloc ?_ _)); exact BK279.out) hb); have n3_ := Aside0.mk (below_step (by repeat (first | (with_reducible first | exact HB.out | apply below_alloc | apply pw_below_drewN | apply below_drew1 | refine below_set ?_ GE268.out | refine below_set ?_ GE275.out | refine below_set ?_ GE279.out) | exact HB.out)) hb); clear BK268; clear BK275; clear BK279; clear HB; have BK268 := n0_; have BK275 := n1_; have BK279 := n2_; have HB := n3_; clear n0_ n1_ n2_ n3_; (try clear hb); (try clear hb2); (try clear hk); (try clear hi)))
                          (try simp only [Act.put, List.setIfInBounds_toArray, List.set_cons_zero, List.set_cons_succ])
                          go_cut [135] (fun v135 wc => ∃ (kq : Nat) (x135_30 : Bool), v135 = .bool x135_30 ∧ Aside0 (tenancylaw04_OctetBack.j1 kq a1 a2 (a2.size : Int) x135_30 = some r) ∧ Aside0 (kq ≤ kj3) ∧ Aside0 (wc.heap[gb268]? = some (.cells #[.int .u64 a0_0, .int .u64 a0_1] 30 (0, 0))) ∧ Aside0 (wc.heap[gb275]? = some (.cells #[.int .u64 t272, .int .u64 t273] 30 (0, 0))) ∧ Aside0 (wc.heap[gb279]? = some (.cells #[.int .u64 t276, .int .u64 t277] 30 (0, 0))) ∧ Aside0 (Below w.heap.size w wc))
                          case first =>
                            have H := HC31.out
                            clear HC31
                            by_cases c50 : (!(t272 == a0_0) || (!(t273 == a0_1))) = true
                            · rw [if_pos c50] at H
                              have c50b0 : (!(t272 == a0_0) || (!(t273 == a0_1))) = true := c50
                              clear c50
                              (first | rw [c50b0] | (simp only [i64_w, i32_w]; rw [c50b0]) | skip)
                              have H' := Aside0.mk H
                              clear H
                              have hnb51 := NB275_268.out
                              have hnc51 := NB268_275.out
                              have hnb52 := NB275_279.out
                              have hnc52 := NB279_275.out
                              have hcz53_0 : w49.cell? ⟨gb275, 0, none⟩ = some (.int .u64 t272) := (blk_cell BK275.out 0).trans rfl
                              have hcz53_1 : w49.cell? ⟨gb275, 1, none⟩ = some (.int .u64 t273) := (blk_cell BK275.out 1).trans rfl
                              have hfz53_0 := blk_frozen BK275.out 0
                              have hfz53_1 := blk_frozen BK275.out 1
                              have hnb54 := NB268_279.out
                              have hnc54 := NB279_268.out
                              have hcz55_0 : w49.cell? ⟨gb268, 0, none⟩ = some (.int .u64 a0_0) := (blk_cell BK268.out 0).trans rfl
                              have hcz55_1 : w49.cell? ⟨gb268, 1, none⟩ = some (.int .u64 a0_1) := (blk_cell BK268.out 1).trans rfl
                              have hfz55_0 := blk_frozen BK268.out 0
                              have hfz55_1 := blk_frozen BK268.out 1
                              go_wp2
                              go_meet
                              case rel => exact ⟨_, (true), (by first | rfl | (simp; done) | (simp [*]; done)), H', ⟨by have := HJ3.out; first | omega | exact Nat.le_refl _⟩, ⟨by (with_reducible repeat (first | refine blk_drewN ?_ _ | refine blk_drew ?_ | refine blk_alloc ?_ _)); exact BK268.out⟩, ⟨by (with_reducible repeat (first | refine blk_drewN ?_ _ | refine blk_drew ?_ | refine blk_alloc ?_ _)); exact BK275.out⟩, ⟨by (with_reducible repeat (first | refine blk_drewN ?_ _ | refine blk_drew ?_ | refine blk_alloc ?_ _)); exact BK279.out⟩, ⟨by repeat (first | (with_reducible first | exact HB.out | apply below_alloc | apply pw_below_drewN | apply below_drew1 | refine below_set ?_ GE268.out | refine below_set ?_ GE275.out | refine below_set ?_ GE279.out) | exact HB.out)⟩⟩
                            · rw [if_neg c50] at H
                              have c50b0 : (!(t272 == a0_0) || (!(t273 == a0_1))) = false := by simpa using c50
                              clear c50
                              (first | rw [c50b0] | (simp only [i64_w, i32_w]; rw [c50b0]) | skip)
                              by_cases c56 : t274 = true
                              · subst c56
                                have H1 : (if t278 = true then (tenancylaw04_OctetBack.j1 kj3 a1 a2 (a2.size : Int) true) else (if t280 = a0_1 then (if t281 = true then (if t283 = ((a0_1) % 4294967296) then (if t284 = true then (if t286 = (IntKind.u16.wrap (a0_0)) then (tenancylaw04_OctetBack.j1 kj3 a1 a2 (a2.size : Int) (!t287)) else (tenancylaw04_OctetBack.j1 kj3 a1 a2 (a2.size : Int) true)) else (tenancylaw04_OctetBack.j1 kj3 a1 a2 (a2.size : Int) true)) else (tenancylaw04_OctetBack.j1 kj3 a1 a2 (a2.size : Int) true)) else (tenancylaw04_OctetBack.j1 kj3 a1 a2 (a2.size : Int) true)) else (tenancylaw04_OctetBack.j1 kj3 a1 a2 (a2.size : Int) true))) = some r := by rw [if_pos rfl] at H; exact H
                                clear H
                                have H := H1
                                clear H1
                                by_cases c57 : t278 = true
                                · subst c57
                                  have H1 : (tenancylaw04_OctetBack.j1 kj3 a1 a2 (a2.size : Int) true) = some r := by rw [if_pos rfl] at H; exact H
                                  clear H
                                  have H := H1
                                  clear H1
                                  have H' := Aside0.mk H
                                  clear H
                                  have hnb58 := NB275_268.out
                                  have hnc58 := NB268_275.out
                                  have hnb59 := NB275_279.out
                                  have hnc59 := NB279_275.out
                                  have hcz60_0 : w49.cell? ⟨gb275, 0, none⟩ = some (.int .u64 t272) := (blk_cell BK275.out 0).trans rfl
                                  have hcz60_1 : w49.cell? ⟨gb275, 1, none⟩ = some (.int .u64 t273) := (blk_cell BK275.out 1).trans rfl
                                  have hfz60_0 := blk_frozen BK275.out 0
                                  have hfz60_1 := blk_frozen BK275.out 1
                                  have hnb61 := NB268_279.out
                                  have hnc61 := NB279_268.out
                                  have hcz62_0 : w49.cell? ⟨gb268, 0, none⟩ = some (.int .u64 a0_0) := (blk_cell BK268.out 0).trans rfl
                                  have hcz62_1 : w49.cell? ⟨gb268, 1, none⟩ = some (.int .u64 a0_1) := (blk_cell BK268.out 1).trans rfl
                                  have hfz62_0 := blk_frozen BK268.out 0
                                  have hfz62_1 := blk_frozen BK268.out 1
                                  go_wp2
                                  go_meet
                                  case rel => exact ⟨_, (true), (by first | rfl | (simp; done) | (simp [*]; done)), H', ⟨by have := HJ3.out; first | omega | exact Nat.le_refl _⟩, ⟨by (with_reducible repeat (first | refine blk_drewN ?_ _ | refine blk_drew ?_ | refine blk_alloc ?_ _)); exact BK268.out⟩, ⟨by (with_reducible repeat (first | refine blk_drewN ?_ _ | refine blk_drew ?_ | refine blk_alloc ?_ _)); exact BK275.out⟩, ⟨by (with_reducible repeat (first | refine blk_drewN ?_ _ | refine blk_drew ?_ | refine blk_alloc ?_ _)); exact BK279.out⟩, ⟨by repeat (first | (with_reducible first | exact HB.out | apply below_alloc | apply pw_below_drewN | apply below_drew1 | refine below_set ?_ GE268.out | refine below_set ?_ GE275.out | refine below_set ?_ GE279.out) | exact HB.out)⟩⟩
                                · replace c57 := Bool.eq_false_iff.mpr c57
                                  subst c57
                                  have H1 : (if t280 = a0_1 then (if t281 = true then (if t283 = ((a0_1) % 4294967296) then (if t284 = true then (if t286 = (IntKind.u16.wrap (a0_0)) then (tenancylaw04_OctetBack.j1 kj3 a1 a2 (a2.size : Int) (!t287)) else (tenancylaw04_OctetBack.j1 kj3 a1 a2 (a2.size : Int) true)) else (tenancylaw04_OctetBack.j1 kj3 a1 a2 (a2.size : Int) true)) else (tenancylaw04_OctetBack.j1 kj3 a1 a2 (a2.size : Int) true)) else (tenancylaw04_OctetBack.j1 kj3 a1 a2 (a2.size : Int) true)) else (tenancylaw04_OctetBack.j1 kj3 a1 a2 (a2.size : Int) true)) = some r := by rw [if_neg (show ¬ (false = true) by decide)] at H; exact H
                                  clear H
                                  have H := H1
                                  clear H1
                                  by_cases c63 : t280 = a0_1
                                  · rw [if_pos c63] at H
                                    have c63b0 : (t280 == a0_1) = true := beq_iff_eq.mpr c63
                                    have c63b1 : (t280 != a0_1) = false := bne_eq_false_iff_eq.mpr c63
                                    clear c63
                                    by_cases c64 : t281 = true
                                    · subst c64
                                      have H1 : (if t283 = ((a0_1) % 4294967296) then (if t284 = true then (if t286 = (IntKind.u16.wrap (a0_0)) then (tenancylaw04_OctetBack.j1 kj3 a1 a2 (a2.size : Int) (!t287)) else (tenancylaw04_OctetBack.j1 kj3 a1 a2 (a2.size : Int) true)) else (tenancylaw04_OctetBack.j1 kj3 a1 a2 (a2.size : Int) true)) else (tenancylaw04_OctetBack.j1 kj3 a1 a2 (a2.size : Int) true)) = some r := by rw [if_pos rfl] at H; exact H
                                      clear H
                                      have H := H1
                                      clear H1
                                      by_cases c65 : t283 = ((a0_1) % 4294967296)
                                      · rw [if_pos c65] at H
                                        have c65b0 : (t283 == ((a0_1) % 4294967296)) = true := beq_iff_eq.mpr c65
                                        have c65b1 : (t283 != ((a0_1) % 4294967296)) = false := bne_eq_false_iff_eq.mpr c65
                                        clear c65
                                        by_cases c66 : t284 = true
                                        · subst c66
                                          have H1 : (if t286 = (IntKind.u16.wrap (a0_0)) then (tenancylaw04_OctetBack.j1 kj3 a1 a2 (a2.size : Int) (!t287)) else (tenancylaw04_OctetBack.j1 kj3 a1 a2 (a2.size : Int) true)) = some r := by rw [if_pos rfl] at H; exact H
                                          clear H
                                          have H := H1
                                          clear H1
                                          by_cases c67 : t286 = (IntKind.u16.wrap (a0_0))
                                          · rw [if_pos c67] at H
                                            have c67b0 : (t286 == (IntKind.u16.wrap (a0_0))) = true := beq_iff_eq.mpr c67
                                            have c67b1 : (t286 != (IntKind.u16.wrap (a0_0))) = false := bne_eq_false_iff_eq.mpr c67
                                            clear c67
                                            have H' := Aside0.mk H
                                            clear H
                                            have hnb68 := NB275_268.out
                                            have hnc68 := NB268_275.out
                                            have hnb69 := NB275_279.out
                                            have hnc69 := NB279_275.out
                                            have hcz70_0 : w49.cell? ⟨gb275, 0, none⟩ = some (.int .u64 t272) := (blk_cell BK275.out 0).trans rfl
                                            have hcz70_1 : w49.cell? ⟨gb275, 1, none⟩ = some (.int .u64 t273) := (blk_cell BK275.out 1).trans rfl
                                            have hfz70_0 := blk_frozen BK275.out 0
                                            have hfz70_1 := blk_frozen BK275.out 1
                                            have hnb71 := NB268_279.out
                                            have hnc71 := NB279_268.out
                                            have hcz72_0 : w49.cell? ⟨gb268, 0, none⟩ = some (.int .u64 a0_0) := (blk_cell BK268.out 0).trans rfl
                                            have hcz72_1 : w49.cell? ⟨gb268, 1, none⟩ = some (.int .u64 a0_1) := (blk_cell BK268.out 1).trans rfl
                                            have hfz72_0 := blk_frozen BK268.out 0
                                            have hfz72_1 := blk_frozen BK268.out 1
                                            go_wp2
                                            go_meet
                                            case rel => exact ⟨_, (!t287), (by first | rfl | (simp; done) | (simp [*]; done)), H', ⟨by have := HJ3.out; first | omega | exact Nat.le_refl _⟩, ⟨by (with_reducible repeat (first | refine blk_drewN ?_ _ | refine blk_drew ?_ | refine blk_alloc ?_ _)); exact BK268.out⟩, ⟨by (with_reducible repeat (first | refine blk_drewN ?_ _ | refine blk_drew ?_ | refine blk_alloc ?_ _)); exact BK275.out⟩, ⟨by (with_reducible repeat (first | refine blk_drewN ?_ _ | refine blk_drew ?_ | refine blk_alloc ?_ _)); exact BK279.out⟩, ⟨by repeat (first | (with_reducible first | exact HB.out | apply below_alloc | apply pw_below_drewN | apply below_drew1 | refine below_set ?_ GE268.out | refine below_set ?_ GE275.out | refine below_set ?_ GE279.out) | exact HB.out)⟩⟩
                                          · rw [if_neg c67] at H
                                            have c67b0 : (t286 == (IntKind.u16.wrap (a0_0))) = false := beq_eq_false_iff_ne.mpr c67
                                            have c67b1 : (t286 != (IntKind.u16.wrap (a0_0))) = true := bne_iff_ne.mpr c67
                                            have H' := Aside0.mk H
                                            clear H
                                            have hnb73 := NB275_268.out
                                            have hnc73 := NB268_275.out
                                            have hnb74 := NB275_279.out
                                            have hnc74 := NB279_275.out
                                            have hcz75_0 : w49.cell? ⟨gb275, 0, none⟩ = some (.int .u64 t272) := (blk_cell BK275.out 0).trans rfl
                                            have hcz75_1 : w49.cell? ⟨gb275, 1, none⟩ = some (.int .u64 t273) := (blk_cell BK275.out 1).trans rfl
                                            have hfz75_0 := blk_frozen BK275.out 0
                                            have hfz75_1 := blk_frozen BK275.out 1
                                            have hnb76 := NB268_279.out
                                            have hnc76 := NB279_268.out
                                            have hcz77_0 : w49.cell? ⟨gb268, 0, none⟩ = some (.int .u64 a0_0) := (blk_cell BK268.out 0).trans rfl
                                            have hcz77_1 : w49.cell? ⟨gb268, 1, none⟩ = some (.int .u64 a0_1) := (blk_cell BK268.out 1).trans rfl
                                            have hfz77_0 := blk_frozen BK268.out 0
                                            have hfz77_1 := blk_frozen BK268.out 1
                                            go_wp2
                                            go_meet
                                            case rel => exact ⟨_, (true), (by first | rfl | (simp; done) | (simp [*]; done)), H', ⟨by have := HJ3.out; first | omega | exact Nat.le_refl _⟩, ⟨by (with_reducible repeat (first | refine blk_drewN ?_ _ | refine blk_drew ?_ | refine blk_alloc ?_ _)); exact BK268.out⟩, ⟨by (with_reducible repeat (first | refine blk_drewN ?_ _ | refine blk_drew ?_ | refine blk_alloc ?_ _)); exact BK275.out⟩, ⟨by (with_reducible repeat (first | refine blk_drewN ?_ _ | refine blk_drew ?_ | refine blk_alloc ?_ _)); exact BK279.out⟩, ⟨by repeat (first | (with_reducible first | exact HB.out | apply below_alloc | apply pw_below_drewN | apply below_drew1 | refine below_set ?_ GE268.out | refine below_set ?_ GE275.out | refine below_set ?_ GE279.out) | exact HB.out)⟩⟩
                                        · replace c66 := Bool.eq_false_iff.mpr c66
                                          subst c66
                                          have H1 : (tenancylaw04_OctetBack.j1 kj3 a1 a2 (a2.size : Int) true) = some r := by rw [if_neg (show ¬ (false = true) by decide)] at H; exact H
                                          clear H
                                          have H := H1
                                          clear H1
                                          have H' := Aside0.mk H
                                          clear H
                                          have hnb78 := NB275_268.out
                                          have hnc78 := NB268_275.out
                                          have hnb79 := NB275_279.out
                                          have hnc79 := NB279_275.out
                                          have hcz80_0 : w49.cell? ⟨gb275, 0, none⟩ = some (.int .u64 t272) := (blk_cell BK275.out 0).trans rfl
                                          have hcz80_1 : w49.cell? ⟨gb275, 1, none⟩ = some (.int .u64 t273) := (blk_cell BK275.out 1).trans rfl
                                          have hfz80_0 := blk_frozen BK275.out 0
                                          have hfz80_1 := blk_frozen BK275.out 1
                                          have hnb81 := NB268_279.out
                                          have hnc81 := NB279_268.out
                                          have hcz82_0 : w49.cell? ⟨gb268, 0, none⟩ = some (.int .u64 a0_0) := (blk_cell BK268.out 0).trans rfl
                                          have hcz82_1 : w49.cell? ⟨gb268, 1, none⟩ = some (.int .u64 a0_1) := (blk_cell BK268.out 1).trans rfl
                                          have hfz82_0 := blk_frozen BK268.out 0
                                          have hfz82_1 := blk_frozen BK268.out 1
                                          go_wp2
                                          go_meet
                                          case rel => exact ⟨_, (true), (by first | rfl | (simp; done) | (simp [*]; done)), H', ⟨by have := HJ3.out; first | omega | exact Nat.le_refl _⟩, ⟨by (with_reducible repeat (first | refine blk_drewN ?_ _ | refine blk_drew ?_ | refine blk_alloc ?_ _)); exact BK268.out⟩, ⟨by (with_reducible repeat (first | refine blk_drewN ?_ _ | refine blk_drew ?_ | refine blk_alloc ?_ _)); exact BK275.out⟩, ⟨by (with_reducible repeat (first | refine blk_drewN ?_ _ | refine blk_drew ?_ | refine blk_alloc ?_ _)); exact BK279.out⟩, ⟨by repeat (first | (with_reducible first | exact HB.out | apply below_alloc | apply pw_below_drewN | apply below_drew1 | refine below_set ?_ GE268.out | refine below_set ?_ GE275.out | refine below_set ?_ GE279.out) | exact HB.out)⟩⟩
                                      · rw [if_neg c65] at H
                                        have c65b0 : (t283 == ((a0_1) % 4294967296)) = false := beq_eq_false_iff_ne.mpr c65
                                        have c65b1 : (t283 != ((a0_1) % 4294967296)) = true := bne_iff_ne.mpr c65
                                        have H' := Aside0.mk H
                                        clear H
                                        have hnb83 := NB275_268.out
                                        have hnc83 := NB268_275.out
                                        have hnb84 := NB275_279.out
                                        have hnc84 := NB279_275.out
                                        have hcz85_0 : w49.cell? ⟨gb275, 0, none⟩ = some (.int .u64 t272) := (blk_cell BK275.out 0).trans rfl
                                        have hcz85_1 : w49.cell? ⟨gb275, 1, none⟩ = some (.int .u64 t273) := (blk_cell BK275.out 1).trans rfl
                                        have hfz85_0 := blk_frozen BK275.out 0
                                        have hfz85_1 := blk_frozen BK275.out 1
                                        have hnb86 := NB268_279.out
                                        have hnc86 := NB279_268.out
                                        have hcz87_0 : w49.cell? ⟨gb268, 0, none⟩ = some (.int .u64 a0_0) := (blk_cell BK268.out 0).trans rfl
                                        have hcz87_1 : w49.cell? ⟨gb268, 1, none⟩ = some (.int .u64 a0_1) := (blk_cell BK268.out 1).trans rfl
                                        have hfz87_0 := blk_frozen BK268.out 0
                                        have hfz87_1 := blk_frozen BK268.out 1
                                        go_wp2
                                        go_meet
                                        case rel => exact ⟨_, (true), (by first | rfl | (simp; done) | (simp [*]; done)), H', ⟨by have := HJ3.out; first | omega | exact Nat.le_refl _⟩, ⟨by (with_reducible repeat (first | refine blk_drewN ?_ _ | refine blk_drew ?_ | refine blk_alloc ?_ _)); exact BK268.out⟩, ⟨by (with_reducible repeat (first | refine blk_drewN ?_ _ | refine blk_drew ?_ | refine blk_alloc ?_ _)); exact BK275.out⟩, ⟨by (with_reducible repeat (first | refine blk_drewN ?_ _ | refine blk_drew ?_ | refine blk_alloc ?_ _)); exact BK279.out⟩, ⟨by repeat (first | (with_reducible first | exact HB.out | apply below_alloc | apply pw_below_drewN | apply below_drew1 | refine below_set ?_ GE268.out | refine below_set ?_ GE275.out | refine below_set ?_ GE279.out) | exact HB.out)⟩⟩
                                    · replace c64 := Bool.eq_false_iff.mpr c64
                                      subst c64
                                      have H1 : (tenancylaw04_OctetBack.j1 kj3 a1 a2 (a2.size : Int) true) = some r := by rw [if_neg (show ¬ (false = true) by decide)] at H; exact H
                                      clear H
                                      have H := H1
                                      clear H1
                                      have H' := Aside0.mk H
                                      clear H
                                      have hnb88 := NB275_268.out
                                      have hnc88 := NB268_275.out
                                      have hnb89 := NB275_279.out
                                      have hnc89 := NB279_275.out
                                      have hcz90_0 : w49.cell? ⟨gb275, 0, none⟩ = some (.int .u64 t272) := (blk_cell BK275.out 0).trans rfl
                                      have hcz90_1 : w49.cell? ⟨gb275, 1, none⟩ = some (.int .u64 t273) := (blk_cell BK275.out 1).trans rfl
                                      have hfz90_0 := blk_frozen BK275.out 0
                                      have hfz90_1 := blk_frozen BK275.out 1
                                      have hnb91 := NB268_279.out
                                      have hnc91 := NB279_268.out
                                      have hcz92_0 : w49.cell? ⟨gb268, 0, none⟩ = some (.int .u64 a0_0) := (blk_cell BK268.out 0).trans rfl
                                      have hcz92_1 : w49.cell? ⟨gb268, 1, none⟩ = some (.int .u64 a0_1) := (blk_cell BK268.out 1).trans rfl
                                      have hfz92_0 := blk_frozen BK268.out 0
                                      have hfz92_1 := blk_frozen BK268.out 1
                                      go_wp2
                                      go_meet
                                      case rel => exact ⟨_, (true), (by first | rfl | (simp; done) | (simp [*]; done)), H', ⟨by have := HJ3.out; first | omega | exact Nat.le_refl _⟩, ⟨by (with_reducible repeat (first | refine blk_drewN ?_ _ | refine blk_drew ?_ | refine blk_alloc ?_ _)); exact BK268.out⟩, ⟨by (with_reducible repeat (first | refine blk_drewN ?_ _ | refine blk_drew ?_ | refine blk_alloc ?_ _)); exact BK275.out⟩, ⟨by (with_reducible repeat (first | refine blk_drewN ?_ _ | refine blk_drew ?_ | refine blk_alloc ?_ _)); exact BK279.out⟩, ⟨by repeat (first | (with_reducible first | exact HB.out | apply below_alloc | apply pw_below_drewN | apply below_drew1 | refine below_set ?_ GE268.out | refine below_set ?_ GE275.out | refine below_set ?_ GE279.out) | exact HB.out)⟩⟩
                                  · rw [if_neg c63] at H
                                    have c63b0 : (t280 == a0_1) = false := beq_eq_false_iff_ne.mpr c63
                                    have c63b1 : (t280 != a0_1) = true := bne_iff_ne.mpr c63
                                    have H' := Aside0.mk H
                                    clear H
                                    have hnb93 := NB275_268.out
                                    have hnc93 := NB268_275.out
                                    have hnb94 := NB275_279.out
                                    have hnc94 := NB279_275.out
                                    have hcz95_0 : w49.cell? ⟨gb275, 0, none⟩ = some (.int .u64 t272) := (blk_cell BK275.out 0).trans rfl
                                    have hcz95_1 : w49.cell? ⟨gb275, 1, none⟩ = some (.int .u64 t273) := (blk_cell BK275.out 1).trans rfl
                                    have hfz95_0 := blk_frozen BK275.out 0
                                    have hfz95_1 := blk_frozen BK275.out 1
                                    have hnb96 := NB268_279.out
                                    have hnc96 := NB279_268.out
                                    have hcz97_0 : w49.cell? ⟨gb268, 0, none⟩ = some (.int .u64 a0_0) := (blk_cell BK268.out 0).trans rfl
                                    have hcz97_1 : w49.cell? ⟨gb268, 1, none⟩ = some (.int .u64 a0_1) := (blk_cell BK268.out 1).trans rfl
                                    have hfz97_0 := blk_frozen BK268.out 0
                                    have hfz97_1 := blk_frozen BK268.out 1
                                    go_wp2
                                    go_meet
                                    case rel => exact ⟨_, (true), (by first | rfl | (simp; done) | (simp [*]; done)), H', ⟨by have := HJ3.out; first | omega | exact Nat.le_refl _⟩, ⟨by (with_reducible repeat (first | refine blk_drewN ?_ _ | refine blk_drew ?_ | refine blk_alloc ?_ _)); exact BK268.out⟩, ⟨by (with_reducible repeat (first | refine blk_drewN ?_ _ | refine blk_drew ?_ | refine blk_alloc ?_ _)); exact BK275.out⟩, ⟨by (with_reducible repeat (first | refine blk_drewN ?_ _ | refine blk_drew ?_ | refine blk_alloc ?_ _)); exact BK279.out⟩, ⟨by repeat (first | (with_reducible first | exact HB.out | apply below_alloc | apply pw_below_drewN | apply below_drew1 | refine below_set ?_ GE268.out | refine below_set ?_ GE275.out | refine below_set ?_ GE279.out) | exact HB.out)⟩⟩
                              · replace c56 := Bool.eq_false_iff.mpr c56
                                subst c56
                                have H1 : (tenancylaw04_OctetBack.j1 kj3 a1 a2 (a2.size : Int) true) = some r := by rw [if_neg (show ¬ (false = true) by decide)] at H; exact H
                                clear H
                                have H := H1
                                clear H1
                                have H' := Aside0.mk H
                                clear H
                                have hnb98 := NB275_268.out
                                have hnc98 := NB268_275.out
                                have hnb99 := NB275_279.out
                                have hnc99 := NB279_275.out
                                have hcz100_0 : w49.cell? ⟨gb275, 0, none⟩ = some (.int .u64 t272) := (blk_cell BK275.out 0).trans rfl
                                have hcz100_1 : w49.cell? ⟨gb275, 1, none⟩ = some (.int .u64 t273) := (blk_cell BK275.out 1).trans rfl
                                have hfz100_0 := blk_frozen BK275.out 0
                                have hfz100_1 := blk_frozen BK275.out 1
                                have hnb101 := NB268_279.out
                                have hnc101 := NB279_268.out
                                have hcz102_0 : w49.cell? ⟨gb268, 0, none⟩ = some (.int .u64 a0_0) := (blk_cell BK268.out 0).trans rfl
                                have hcz102_1 : w49.cell? ⟨gb268, 1, none⟩ = some (.int .u64 a0_1) := (blk_cell BK268.out 1).trans rfl
                                have hfz102_0 := blk_frozen BK268.out 0
                                have hfz102_1 := blk_frozen BK268.out 1
                                go_wp2
                                go_meet
                                case rel => exact ⟨_, (true), (by first | rfl | (simp; done) | (simp [*]; done)), H', ⟨by have := HJ3.out; first | omega | exact Nat.le_refl _⟩, ⟨by (with_reducible repeat (first | refine blk_drewN ?_ _ | refine blk_drew ?_ | refine blk_alloc ?_ _)); exact BK268.out⟩, ⟨by (with_reducible repeat (first | refine blk_drewN ?_ _ | refine blk_drew ?_ | refine blk_alloc ?_ _)); exact BK275.out⟩, ⟨by (with_reducible repeat (first | refine blk_drewN ?_ _ | refine blk_drew ?_ | refine blk_alloc ?_ _)); exact BK279.out⟩, ⟨by repeat (first | (with_reducible first | exact HB.out | apply below_alloc | apply pw_below_drewN | apply below_drew1 | refine below_set ?_ GE268.out | refine below_set ?_ GE275.out | refine below_set ?_ GE279.out) | exact HB.out)⟩⟩
                          case rest =>
                            clear HC31
                            try clear c1
                            try clear c2
                            try clear p2
                            try clear c3
                            try clear c4
                            try clear c5
                            try clear c6
                            try clear p6
                            try clear c7
                            try clear c8
                            try clear c9
                            try clear c10
                            try clear c13
                            try clear c14
                            try clear c14b0
                            try clear c14b1
                            try clear c14b2
                            try clear c15
                            try clear c15b0
                            try clear c15b1
                            try clear c15b2
                            try clear c18
                            try clear c18b0
                            try clear c18b1
                            try clear c19
                            try clear c19b0
                            try clear c19b1
                            try clear c20
                            try clear c20b0
                            try clear c20b1
                            try clear c20b2
                            try clear c22
                            try clear c24
                            try clear c24b0
                            try clear c24b1
                            try clear c24b2
                            try clear c25
                            try clear c25b0
                            try clear c25b1
                            try clear c25b2
                            try clear c26
                            try clear c28
                            try clear c28b0
                            try clear c28b1
                            try clear c28b2
                            try clear c29
                            try clear c29b0
                            try clear c29b1
                            try clear c29b2
                            try clear c36
                            try clear c40
                            try clear c41
                            try clear c50
                            try clear c50b0
                            try clear c51
                            try clear c52
                            try clear c54
                            try clear c56
                            try clear c57
                            try clear c58
                            try clear c59
                            try clear c61
                            try clear c63
                            try clear c63b0
                            try clear c63b1
                            try clear c64
                            try clear p64
                            try clear c65
                            try clear c65b0
                            try clear c65b1
                            try clear c66
                            try clear c67
                            try clear c67b0
                            try clear c67b1
                            try clear c68
                            try clear c69
                            try clear c71
                            try clear c73
                            try clear c74
                            try clear c76
                            try clear c78
                            try clear c79
                            try clear c81
                            try clear c83
                            try clear c84
                            try clear c86
                            try clear c88
                            try clear c89
                            try clear c91
                            try clear c93
                            try clear c94
                            try clear c96
                            try clear c98
                            try clear c99
                            try clear c101
                            try clear hcz100_0
                            try clear hcz100_1
                            try clear hcz102_0
                            try clear hcz102_1
                            try clear hcz32_0
                            try clear hcz32_1
                            try clear hcz37_0
                            try clear hcz37_1
                            try clear hcz42_0
                            try clear hcz42_1
                            try clear hcz44_0
                            try clear hcz44_1
                            try clear hcz47_0
                            try clear hcz47_1
                            try clear hcz53_0
                            try clear hcz53_1
                            try clear hcz55_0
                            try clear hcz55_1
                            try clear hcz60_0
                            try clear hcz60_1
                            try clear hcz62_0
                            try clear hcz62_1
                            try clear hcz70_0
                            try clear hcz70_1
                            try clear hcz72_0
                            try clear hcz72_1
                            try clear hcz75_0
                            try clear hcz75_1
                            try clear hcz77_0
                            try clear hcz77_1
                            try clear hcz80_0
                            try clear hcz80_1
                            try clear hcz82_0
                            try clear hcz82_1
                            try clear hcz85_0
                            try clear hcz85_1
                            try clear hcz87_0
                            try clear hcz87_1
                            try clear hcz90_0
                            try clear hcz90_1
                            try clear hcz92_0
                            try clear hcz92_1
                            try clear hcz95_0
                            try clear hcz95_1
                            try clear hcz97_0
                            try clear hcz97_1
                            try clear hfz100_0
                            try clear hfz100_1
                            try clear hfz102_0
                            try clear hfz102_1
                            try clear hfz32_0
                            try clear hfz32_1
                            try clear hfz37_0
                            try clear hfz37_1
                            try clear hfz42_0
                            try clear hfz42_1
                            try clear hfz44_0
                            try clear hfz44_1
                            try clear hfz47_0
                            try clear hfz47_1
                            try clear hfz53_0
                            try clear hfz53_1
                            try clear hfz55_0
                            try clear hfz55_1
                            try clear hfz60_0
                            try clear hfz60_1
                            try clear hfz62_0
                            try clear hfz62_1
                            try clear hfz70_0
                            try clear hfz70_1
                            try clear hfz72_0
                            try clear hfz72_1
                            try clear hfz75_0
                            try clear hfz75_1
                            try clear hfz77_0
                            try clear hfz77_1
                            try clear hfz80_0
                            try clear hfz80_1
                            try clear hfz82_0
                            try clear hfz82_1
                            try clear hfz85_0
                            try clear hfz85_1
                            try clear hfz87_0
                            try clear hfz87_1
                            try clear hfz90_0
                            try clear hfz90_1
                            try clear hfz92_0
                            try clear hfz92_1
                            try clear hfz95_0
                            try clear hfz95_1
                            try clear hfz97_0
                            try clear hfz97_1
                            try clear p2
                            obtain ⟨kq, x135_30, rfl, HA, HJ30, BK268, BK275, BK279, HB⟩ := hcut
                            cases kq with
                            | zero => exact absurd HA.out (by simp [tenancylaw04_OctetBack.j1])
                            | succ kj30 =>
                              have H := HA.out
                              clear HA
                              simp only [tenancylaw04_OctetBack.j1] at H
                              by_cases c103 : x135_30 = true
                              · subst c103
                                have H1 : (some false) = some r := by rw [if_pos rfl] at H; exact H
                                clear H
                                have H := H1
                                clear H1
                                obtain rfl := Option.some.inj H
                                go_wp2
                                go_ret
                                exact ⟨by first | rfl | (simp [errW_none, errW_some] <;> rfl) | (simp only [← hji17]; first | rfl | (simp [errW_none, errW_some] <;> rfl)) | (simp [*, errW_none, errW_some] <;> rfl), by repeat (first | (with_reducible first | exact HB.out | apply below_alloc | apply pw_below_drewN | apply below_drew1 | refine below_set ?_ GE268.out | refine below_set ?_ GE275.out | refine below_set ?_ GE279.out) | exact HB.out)⟩
                              · replace c103 := Bool.eq_false_iff.mpr c103
                                subst c103
                                have H1 : ((octet_Run.f kj30 a1).bind fun bt288 => (if bt288.2 = true then (if a2.size + bt288.1.size ≤ 9223372036854775807 then (if (a2 ++ bt288.1).size + a2.size ≤ 9223372036854775807 then ((octet_TakeRun.f kj30 ((a2 ++ bt288.1) ++ a2) (a2.size : Int)).bind fun bt290 => (if 0 ≤ (wrap64 ((bt288.1.size : Int) - 1)) then (if (wrap64 ((bt288.1.size : Int) - 1)) ≤ (bt288.1.size : Int) then (if a2.size + (bt288.1.extract 0 ((wrap64 ((bt288.1.size : Int) - 1)) : Int).toNat).size ≤ 9223372036854775807 then ((octet_TakeRun.f kj30 (a2 ++ (bt288.1.extract 0 ((wrap64 ((bt288.1.size : Int) - 1)) : Int).toNat)) (a2.size : Int)).bind fun bt293 => (if bt290.2.2 = true then (if bt290.1.toList = a1.toList then (if bt290.2.1 = (wrap64 ((wrap64 ((a2.size : Int) + 2)) + (a1.size : Int))) then (some (!bt293.2.2)) else (some false)) else (some false)) else (some false))) else (none)) else (none)) else (none))) else (none)) else (none)) else (if (a1.size : Int) = 65536 then (some (bt288.1.toList == ([] : List UInt8))) else (some false)))) = some r := by rw [if_neg (show ¬ (false = true) by decide)] at H; exact H
                                clear H
                                have H := H1
                                clear H1
                                replace H := Option.bind_eq_some_iff.mp H
                                obtain ⟨⟨t288, t289⟩, A1040, H⟩ := H
                                replace H : (if t289 = true then (if a2.size + t288.size ≤ 9223372036854775807 then (if (a2 ++ t288).size + a2.size ≤ 9223372036854775807 then ((octet_TakeRun.f kj30 ((a2 ++ t288) ++ a2) (a2.size : Int)).bind fun bt290 => (if 0 ≤ (wrap64 ((t288.size : Int) - 1)) then (if (wrap64 ((t288.size : Int) - 1)) ≤ (t288.size : Int) then (if a2.size + (t288.extract 0 ((wrap64 ((t288.size : Int) - 1)) : Int).toNat).size ≤ 9223372036854775807 then ((octet_TakeRun.f kj30 (a2 ++ (t288.extract 0 ((wrap64 ((t288.size : Int) - 1)) : Int).toNat)) (a2.size : Int)).bind fun bt293 => (if bt290.2.2 = true then (if bt290.1.toList = a1.toList then (if bt290.2.1 = (wrap64 ((wrap64 ((a2.size : Int) + 2)) + (a1.size : Int))) then (some (!bt293.2.2)) else (some false)) else (some false)) else (some false))) else (none)) else (none)) else (none))) else (none)) else (none)) else (if (a1.size : Int) = 65536 then (some (t288.toList == ([] : List UInt8))) else (some false))) = some r := H
                                have A104 := Aside0.mk A1040
                                clear A1040
                                by_cases c105 : t289 = true
                                · subst c105
                                  have H1 : (if a2.size + t288.size ≤ 9223372036854775807 then (if (a2 ++ t288).size + a2.size ≤ 9223372036854775807 then ((octet_TakeRun.f kj30 ((a2 ++ t288) ++ a2) (a2.size : Int)).bind fun bt290 => (if 0 ≤ (wrap64 ((t288.size : Int) - 1)) then (if (wrap64 ((t288.size : Int) - 1)) ≤ (t288.size : Int) then (if a2.size + (t288.extract 0 ((wrap64 ((t288.size : Int) - 1)) : Int).toNat).size ≤ 9223372036854775807 then ((octet_TakeRun.f kj30 (a2 ++ (t288.extract 0 ((wrap64 ((t288.size : Int) - 1)) : Int).toNat)) (a2.size : Int)).bind fun bt293 => (if bt290.2.2 = true then (if bt290.1.toList = a1.toList then (if bt290.2.1 = (wrap64 ((wrap64 ((a2.size : Int) + 2)) + (a1.size : Int))) then (some (!bt293.2.2)) else (some false)) else (some false)) else (some false))) else (none)) else (none)) else (none))) else (none)) else (none)) = some r := by rw [if_pos rfl] at H; exact H
                                  clear H
                                  have H := H1
                                  clear H1
                                  by_cases c106 : a2.size + t288.size ≤ 9223372036854775807
                                  · rw [if_pos c106] at H
                                    have c106b0 := eq_true c106
                                    have c106b1 : decide (a2.size + t288.size ≤ 9223372036854775807) = true := decide_eq_true c106
                                    try have c106b2 : (9223372036854775807 < a2.size + t288.size) = False := eq_false (Nat.not_lt.2 c106)
                                    by_cases c107 : (a2 ++ t288).size + a2.size ≤ 9223372036854775807
                                    · rw [if_pos c107] at H
                                      have c107b0 := eq_true c107
                                      have c107b1 : decide ((a2 ++ t288).size + a2.size ≤ 9223372036854775807) = true := decide_eq_true c107
                                      try have c107b2 : (9223372036854775807 < (a2 ++ t288).size + a2.size) = False := eq_false (Nat.not_lt.2 c107)
                                      replace H := Option.bind_eq_some_iff.mp H
                                      obtain ⟨⟨t290, t291, t292⟩, A1080, H⟩ := H
                                      replace H : (if 0 ≤ (wrap64 ((t288.size : Int) - 1)) then (if (wrap64 ((t288.size : Int) - 1)) ≤ (t288.size : Int) then (if a2.size + (t288.extract 0 ((wrap64 ((t288.size : Int) - 1)) : Int).toNat).size ≤ 9223372036854775807 then ((octet_TakeRun.f kj30 (a2 ++ (t288.extract 0 ((wrap64 ((t288.size : Int) - 1)) : Int).toNat)) (a2.size : Int)).bind fun bt293 => (if t292 = true then (if t290.toList = a1.toList then (if t291 = (wrap64 ((wrap64 ((a2.size : Int) + 2)) + (a1.size : Int))) then (some (!bt293.2.2)) else (some false)) else (some false)) else (some false))) else (none)) else (none)) else (none)) = some r := H
                                      have A108 := Aside0.mk A1080
                                      clear A1080
                                      obtain ⟨ji109, hji109⟩ : ∃ j_ : Int, (wrap64 ((t288.size : Int) - 1)) = j_ := ⟨_, rfl⟩
                                      replace H : (if 0 ≤ (ji109) then (if (ji109) ≤ (t288.size : Int) then (if a2.size + (t288.extract 0 ((ji109) : Int).toNat).size ≤ 9223372036854775807 then ((octet_TakeRun.f kj30 (a2 ++ (t288.extract 0 ((ji109) : Int).toNat)) (a2.size : Int)).bind fun bt293 => (if t292 = true then (if t290.toList = a1.toList then (if t291 = (wrap64 ((wrap64 ((a2.size : Int) + 2)) + (a1.size : Int))) then (some (!bt293.2.2)) else (some false)) else (some false)) else (some false))) else (none)) else (none)) else (none)) = some r := by first | (rw [hji109] at H; exact H) | (simp only [hji109] at H ⊢; exact H)
                                      (try rw [hji109] at A104)
                                      (try rw [hji109] at A108)
                                      have hji109w : (IntKind.i64.wrap ((t288.size : Int) - 1)) = ji109 := (i64_w _).trans hji109
                                      by_cases c110 : 0 ≤ (ji109)
                                      · rw [if_pos c110] at H
                                        have c110b0 := eq_true c110
                                        have c110b1 : decide (0 ≤ (ji109)) = true := decide_eq_true c110
                                        clear c110
                                        by_cases c111 : (ji109) ≤ (t288.size : Int)
                                        · rw [if_pos c111] at H
                                          have c111b0 := eq_true c111
                                          have c111b1 : decide ((ji109) ≤ (t288.size : Int)) = true := decide_eq_true c111
                                          clear c111
                                          by_cases c112 : a2.size + (t288.extract 0 ((ji109) : Int).toNat).size ≤ 9223372036854775807
                                          · rw [if_pos c112] at H
                                            have c112b0 := eq_true c112
                                            have c112b1 : decide (a2.size + (t288.extract 0 ((ji109) : Int).toNat).size ≤ 9223372036854775807) = true := decide_eq_true c112
                                            (try (have c112bs := c112; simp at c112bs))
                                            try have c112b2 : (9223372036854775807 < a2.size + (t288.extract 0 ((ji109) : Int).toNat).size) = False := eq_false (Nat.not_lt.2 c112)
                                            replace H := Option.bind_eq_some_iff.mp H
                                            obtain ⟨⟨t293, t294, t295⟩, A1130, H⟩ := H
                                            replace H : (if t292 = true then (if t290.toList = a1.toList then (if t291 = (wrap64 ((wrap64 ((a2.size : Int) + 2)) + (a1.size : Int))) then (some (!t295)) else (some false)) else (some false)) else (some false)) = some r := H
                                            have A113 := Aside0.mk A1130
                                            clear A1130
                                            by_cases c114 : t292 = true
                                            · subst c114
                                              have H1 : (if t290.toList = a1.toList then (if t291 = (wrap64 ((wrap64 ((a2.size : Int) + 2)) + (a1.size : Int))) then (some (!t295)) else (some false)) else (some false)) = some r := by rw [if_pos rfl] at H; exact H
                                              clear H
                                              have H := H1
                                              clear H1
                                              by_cases c115 : t290.toList = a1.toList
                                              · rw [if_pos c115] at H
                                                have c115b0 : (t290.toList == a1.toList) = true := beq_iff_eq.mpr c115
                                                have c115b1 : (t290.toList != a1.toList) = false := bne_eq_false_iff_eq.mpr c115
                                                clear c115
                                                by_cases c116 : t291 = (wrap64 ((wrap64 ((a2.size : Int) + 2)) + (a1.size : Int)))
                                                · rw [if_pos c116] at H
                                                  have c116b0 : (t291 == (wrap64 ((wrap64 ((a2.size : Int) + 2)) + (a1.size : Int)))) = true := beq_iff_eq.mpr c116
                                                  have c116b1 : (t291 != (wrap64 ((wrap64 ((a2.size : Int) + 2)) + (a1.size : Int)))) = false := bne_eq_false_iff_eq.mpr c116
                                                  clear c116
                                                  obtain rfl := Option.some.inj H
                                                  go_wp2_with (first | ((with_reducible refine gate_callee (f := 11) rfl ?_); refine goesL_ (some 138) rfl rfl Try.func11 (by kernel_rfl) rfl #[.string a1] rfl (by (try simp only [List.map_toArray, List.map_cons, List.map_nil]); first | done | rfl | (simp only [List.length_drop, List.length_take]; rfl)) ?_; (with_reducible refine (octet_Run.calls kj30 a1 t288 true _ A104.out).mono ?_); rintro e w117 ⟨rfl, hb⟩; refine ⟨_, rfl, ?_⟩; have n0_ := Aside0.mk (blk_below (g := gb268) (o := .cells #[.int .u64 a0_0, .int .u64 a0_1] 30 (0, 0)) (by (with_reducible repeat (first | refine blk_drewN ?_ _ | refine blk_drew ?_ | refine blk_alloc ?_ _)); exact BK268.out) hb); have n1_ := Aside0.mk (blk_below (g := gb275) (o := .cells #[.int .u64 t272, .int .u64 t273] 30 (0, 0)) (by (with_reducible repeat (first | refine blk_drewN ?_ _ | refine blk_drew ?_ | refine blk_alloc ?_ _)); exact BK275.out) hb); have n2_ := Aside0.mk (blk_below (g := gb279) (o := .cells #[.int .u64 t276, .int .u64 t277] 30 (0, 0)) (by (with_reducible repeat (first | refine blk_drewN ?_ _ | refine blk_drew ?_ | refine blk_alloc ?_ _)); exact BK279.out) hb); have n3_ := Aside0.mk (below_step (by repeat (first | (with_reducible first | exact HB.out | apply below_alloc | apply pw_below_drewN | apply below_drew1 | refine below_set ?_ GE268.out | refine below_set ?_ GE275.out | refine below_set ?_ GE279.out) | exact HB.out)) hb); clear BK268; clear BK275; clear BK279; clear HB; have BK268 := n0_; have BK275 := n1_; have BK279 := n2_; have HB := n3_; clear n0_ n1_ n2_ n3_; (try clear hb); (try clear hb2); (try clear hk); (try clear hi)) | ((with_reducible refine gate_callee (f := 31) rfl ?_); refine goesL_ (some 157) rfl rfl Try.func31 (by kernel_rfl) rfl #[.string ((a2 ++ t288) ++ a2), .int .i64 (a2.size : Int)] rfl (by (try simp only [List.map_toArray, List.map_cons, List.map_nil]); first | done | rfl | (simp only [List.length_drop, List.length_take]; rfl)) ?_; (with_reducible refine (octet_TakeRun.calls kj30 ((a2 ++ t288) ++ a2) (a2.size : Int) t290 t291 true _ A108.out).mono ?_); rintro e w118 ⟨rfl, hb⟩; refine ⟨_, rfl, ?_⟩; have n0_ := Aside0.mk (blk_below (g := gb268) (o := .cells #[.int .u64 a0_0, .int .u64 a0_1] 30 (0, 0)) (by (with_reducible repeat (first | refine blk_drewN ?_ _ | refine blk_drew ?_ | refine blk_alloc ?_ _)); exact BK268.out) hb); have n1_ := Aside0.mk (blk_below (g := gb275) (o := .cells #[.int .u64 t272, .int .u64 t273] 30 (0, 0)) (by (with_reducible repeat (first | refine blk_drewN ?_ _ | refine blk_drew ?_ | refine blk_alloc ?_ _)); exact BK275.out) hb); have n2_ := Aside0.mk (blk_below (g := gb279) (o := .cells #[.int .u64 t276, .int .u64 t277] 30 (0, 0)) (by (with_reducible repeat (first | refine blk_drewN ?_ _ | refine blk_drew ?_ | refine blk_alloc ?_ _)); exact BK279.out) hb); have n3_ := Aside0.mk (below_step (by repeat (first | (with_reducible first | exact HB.out | apply below_alloc | apply pw_below_drewN | apply below_drew1 | refine below_set ?_ GE268.out | refine below_set ?_ GE275.out | refine below_set ?_ GE279.out) | exact HB.out)) hb); clear BK268; clear BK275; clear BK279; clear HB; have BK268 := n0_; have BK275 := n1_; have BK279 := n2_; have HB := n3_; clear n0_ n1_ n2_ n3_; (try clear hb); (try clear hb2); (try clear hk); (try clear hi)) | ((with_reducible refine gate_callee (f := 31) rfl ?_); refine goesL_ (some 170) rfl rfl Try.func31 (by kernel_rfl) rfl #[.string (a2 ++ (t288.extract 0 ((ji109) : Int).toNat)), .int .i64 (a2.size : Int)] rfl (by (try simp only [List.map_toArray, List.map_cons, List.map_nil]); first | done | (simp only [hji109]; rfl) | rfl | (simp only [List.length_drop, List.length_take]; rfl)) ?_; (with_reducible refine (octet_TakeRun.calls kj30 (a2 ++ (t288.extract 0 ((ji109) : Int).toNat)) (a2.size : Int) t293 t294 t295 _ A113.out).mono ?_); rintro e w119 ⟨rfl, hb⟩; refine ⟨_, rfl, ?_⟩; have n0_ := Aside0.mk (blk_below (g := gb268) (o := .cells #[.int .u64 a0_0, .int .u64 a0_1] 30 (0, 0)) (by (with_reducible repeat (first | refine blk_drewN ?_ _ | refine blk_drew ?_ | refine blk_alloc ?_ _)); exact BK268.out) hb); have n1_ := Aside0.mk (blk_below (g := gb275) (o := .cells #[.int .u64 t272, .int .u64 t273] 30 (0, 0)) (by (with_reducible repeat (first | refine blk_drewN ?_ _ | refine blk_drew ?_ | refine blk_alloc ?_ _)); exact BK275.out) hb); have n2_ := Aside0.mk (blk_below (g := gb279) (o := .cells #[.int .u64 t276, .int .u64 t277] 30 (0, 0)) (by (with_reducible repeat (first | refine blk_drewN ?_ _ | refine blk_drew ?_ | refine blk_alloc ?_ _)); exact BK279.out) hb); have n3_ := Aside0.mk (below_step (by repeat (first | (with_reducible first | exact HB.out | apply below_alloc | apply pw_below_drewN | apply below_drew1 | refine below_set ?_ GE268.out | refine below_set ?_ GE275.out | refine below_set ?_ GE279.out) | exact HB.out)) hb); clear BK268; clear BK275; clear BK279; clear HB; have BK268 := n0_; have BK275 := n1_; have BK279 := n2_; have HB := n3_; clear n0_ n1_ n2_ n3_; (try clear hb); (try clear hb2); (try clear hk); (try clear hi)))
                                                  go_ret
                                                  exact ⟨by first | rfl | (simp [errW_none, errW_some] <;> rfl) | (simp only [← hji17, ← hji109]; first | rfl | (simp [errW_none, errW_some] <;> rfl)) | (simp [*, errW_none, errW_some] <;> rfl), by repeat (first | (with_reducible first | exact HB.out | apply below_alloc | apply pw_below_drewN | apply below_drew1 | refine below_set ?_ GE268.out | refine below_set ?_ GE275.out | refine below_set ?_ GE279.out) | exact HB.out)⟩
                                                · rw [if_neg c116] at H
                                                  have c116b0 : (t291 == (wrap64 ((wrap64 ((a2.size : Int) + 2)) + (a1.size : Int)))) = false := beq_eq_false_iff_ne.mpr c116
                                                  have c116b1 : (t291 != (wrap64 ((wrap64 ((a2.size : Int) + 2)) + (a1.size : Int)))) = true := bne_iff_ne.mpr c116
                                                  obtain rfl := Option.some.inj H
                                                  go_wp2_with (first | ((with_reducible refine gate_callee (f := 11) rfl ?_); refine goesL_ (some 138) rfl rfl Try.func11 (by kernel_rfl) rfl #[.string a1] rfl (by (try simp only [List.map_toArray, List.map_cons, List.map_nil]); first | done | rfl | (simp only [List.length_drop, List.length_take]; rfl)) ?_; (with_reducible refine (octet_Run.calls kj30 a1 t288 true _ A104.out).mono ?_); rintro e w120 ⟨rfl, hb⟩; refine ⟨_, rfl, ?_⟩; have n0_ := Aside0.mk (blk_below (g := gb268) (o := .cells #[.int .u64 a0_0, .int .u64 a0_1] 30 (0, 0)) (by (with_reducible repeat (first | refine blk_drewN ?_ _ | refine blk_drew ?_ | refine blk_alloc ?_ _)); exact BK268.out) hb); have n1_ := Aside0.mk (blk_below (g := gb275) (o := .cells #[.int .u64 t272, .int .u64 t273] 30 (0, 0)) (by (with_reducible repeat (first | refine blk_drewN ?_ _ | refine blk_drew ?_ | refine blk_alloc ?_ _)); exact BK275.out) hb); have n2_ := Aside0.mk (blk_below (g := gb279) (o := .cells #[.int .u64 t276, .int .u64 t277] 30 (0, 0)) (by (with_reducible repeat (first | refine blk_drewN ?_ _ | refine blk_drew ?_ | refine blk_alloc ?_ _)); exact BK279.out) hb); have n3_ := Aside0.mk (below_step (by repeat (first | (with_reducible first | exact HB.out | apply below_alloc | apply pw_below_drewN | apply below_drew1 | refine below_set ?_ GE268.out | refine below_set ?_ GE275.out | refine below_set ?_ GE279.out) | exact HB.out)) hb); clear BK268; clear BK275; clear BK279; clear HB; have BK268 := n0_; have BK275 := n1_; have BK279 := n2_; have HB := n3_; clear n0_ n1_ n2_ n3_; (try clear hb); (try clear hb2); (try clear hk); (try clear hi)) | ((with_reducible refine gate_callee (f := 31) rfl ?_); refine goesL_ (some 157) rfl rfl Try.func31 (by kernel_rfl) rfl #[.string ((a2 ++ t288) ++ a2), .int .i64 (a2.size : Int)] rfl (by (try simp only [List.map_toArray, List.map_cons, List.map_nil]); first | done | rfl | (simp only [List.length_drop, List.length_take]; rfl)) ?_; (with_reducible refine (octet_TakeRun.calls kj30 ((a2 ++ t288) ++ a2) (a2.size : Int) t290 t291 true _ A108.out).mono ?_); rintro e w121 ⟨rfl, hb⟩; refine ⟨_, rfl, ?_⟩; have n0_ := Aside0.mk (blk_below (g := gb268) (o := .cells #[.int .u64 a0_0, .int .u64 a0_1] 30 (0, 0)) (by (with_reducible repeat (first | refine blk_drewN ?_ _ | refine blk_drew ?_ | refine blk_alloc ?_ _)); exact BK268.out) hb); have n1_ := Aside0.mk (blk_below (g := gb275) (o := .cells #[.int .u64 t272, .int .u64 t273] 30 (0, 0)) (by (with_reducible repeat (first | refine blk_drewN ?_ _ | refine blk_drew ?_ | refine blk_alloc ?_ _)); exact BK275.out) hb); have n2_ := Aside0.mk (blk_below (g := gb279) (o := .cells #[.int .u64 t276, .int .u64 t277] 30 (0, 0)) (by (with_reducible repeat (first | refine blk_drewN ?_ _ | refine blk_drew ?_ | refine blk_alloc ?_ _)); exact BK279.out) hb); have n3_ := Aside0.mk (below_step (by repeat (first | (with_reducible first | exact HB.out | apply below_alloc | apply pw_below_drewN | apply below_drew1 | refine below_set ?_ GE268.out | refine below_set ?_ GE275.out | refine below_set ?_ GE279.out) | exact HB.out)) hb); clear BK268; clear BK275; clear BK279; clear HB; have BK268 := n0_; have BK275 := n1_; have BK279 := n2_; have HB := n3_; clear n0_ n1_ n2_ n3_; (try clear hb); (try clear hb2); (try clear hk); (try clear hi)) | ((with_reducible refine gate_callee (f := 31) rfl ?_); refine goesL_ (some 170) rfl rfl Try.func31 (by kernel_rfl) rfl #[.string (a2 ++ (t288.extract 0 ((ji109) : Int).toNat)), .int .i64 (a2.size : Int)] rfl (by (try simp only [List.map_toArray, List.map_cons, List.map_nil]); first | done | (simp only [hji109]; rfl) | rfl | (simp only [List.length_drop, List.length_take]; rfl)) ?_; (with_reducible refine (octet_TakeRun.calls kj30 (a2 ++ (t288.extract 0 ((ji109) : Int).toNat)) (a2.size : Int) t293 t294 t295 _ A113.out).mono ?_); rintro e w122 ⟨rfl, hb⟩; refine ⟨_, rfl, ?_⟩; have n0_ := Aside0.mk (blk_below (g := gb268) (o := .cells #[.int .u64 a0_0, .int .u64 a0_1] 30 (0, 0)) (by (with_reducible repeat (first | refine blk_drewN ?_ _ | refine blk_drew ?_ | refine blk_alloc ?_ _)); exact BK268.out) hb); have n1_ := Aside0.mk (blk_below (g := gb275) (o := .cells #[.int .u64 t272, .int .u64 t273] 30 (0, 0)) (by (with_reducible repeat (first | refine blk_drewN ?_ _ | refine blk_drew ?_ | refine blk_alloc ?_ _)); exact BK275.out) hb); have n2_ := Aside0.mk (blk_below (g := gb279) (o := .cells #[.int .u64 t276, .int .u64 t277] 30 (0, 0)) (by (with_reducible repeat (first | refine blk_drewN ?_ _ | refine blk_drew ?_ | refine blk_alloc ?_ _)); exact BK279.out) hb); have n3_ := Aside0.mk (below_step (by repeat (first | (with_reducible first | exact HB.out | apply below_alloc | apply pw_below_drewN | apply below_drew1 | refine below_set ?_ GE268.out | refine below_set ?_ GE275.out | refine below_set ?_ GE279.out) | exact HB.out)) hb); clear BK268; clear BK275; clear BK279; clear HB; have BK268 := n0_; have BK275 := n1_; have BK279 := n2_; have HB := n3_; clear n0_ n1_ n2_ n3_; (try clear hb); (try clear hb2); (try clear hk); (try clear hi)))
                                                  go_ret
                                                  exact ⟨by first | rfl | (simp [errW_none, errW_some] <;> rfl) | (simp only [← hji17, ← hji109]; first | rfl | (simp [errW_none, errW_some] <;> rfl)) | (simp [*, errW_none, errW_some] <;> rfl), by repeat (first | (with_reducible first | exact HB.out | apply below_alloc | apply pw_below_drewN | apply below_drew1 | refine below_set ?_ GE268.out | refine below_set ?_ GE275.out | refine below_set ?_ GE279.out) | exact HB.out)⟩
                                              · rw [if_neg c115] at H
                                                have c115b0 : (t290.toList == a1.toList) = false := beq_eq_false_iff_ne.mpr c115
                                                have c115b1 : (t290.toList != a1.toList) = true := bne_iff_ne.mpr c115
                                                obtain rfl := Option.some.inj H
                                                go_wp2_with (first | ((with_reducible refine gate_callee (f := 11) rfl ?_); refine goesL_ (some 138) rfl rfl Try.func11 (by kernel_rfl) rfl #[.string a1] rfl (by (try simp only [List.map_toArray, List.map_cons, List.map_nil]); first | done | rfl | (simp only [List.length_drop, List.length_take]; rfl)) ?_; (with_reducible refine (octet_Run.calls kj30 a1 t288 true _ A104.out).mono ?_); rintro e w123 ⟨rfl, hb⟩; refine ⟨_, rfl, ?_⟩; have n0_ := Aside0.mk (blk_below (g := gb268) (o := .cells #[.int .u64 a0_0, .int .u64 a0_1] 30 (0, 0)) (by (with_reducible repeat (first | refine blk_drewN ?_ _ | refine blk_drew ?_ | refine blk_alloc ?_ _)); exact BK268.out) hb); have n1_ := Aside0.mk (blk_below (g := gb275) (o := .cells #[.int .u64 t272, .int .u64 t273] 30 (0, 0)) (by (with_reducible repeat (first | refine blk_drewN ?_ _ | refine blk_drew ?_ | refine blk_alloc ?_ _)); exact BK275.out) hb); have n2_ := Aside0.mk (blk_below (g := gb279) (o := .cells #[.int .u64 t276, .int .u64 t277] 30 (0, 0)) (by (with_reducible repeat (first | refine blk_drewN ?_ _ | refine blk_drew ?_ | refine blk_alloc ?_ _)); exact BK279.out) hb); have n3_ := Aside0.mk (below_step (by repeat (first | (with_reducible first | exact HB.out | apply below_alloc | apply pw_below_drewN | apply below_drew1 | refine below_set ?_ GE268.out | refine below_set ?_ GE275.out | refine below_set ?_ GE279.out) | exact HB.out)) hb); clear BK268; clear BK275; clear BK279; clear HB; have BK268 := n0_; have BK275 := n1_; have BK279 := n2_; have HB := n3_; clear n0_ n1_ n2_ n3_; (try clear hb); (try clear hb2); (try clear hk); (try clear hi)) | ((with_reducible refine gate_callee (f := 31) rfl ?_); refine goesL_ (some 157) rfl rfl Try.func31 (by kernel_rfl) rfl #[.string ((a2 ++ t288) ++ a2), .int .i64 (a2.size : Int)] rfl (by (try simp only [List.map_toArray, List.map_cons, List.map_nil]); first | done | rfl | (simp only [List.length_drop, List.length_take]; rfl)) ?_; (with_reducible refine (octet_TakeRun.calls kj30 ((a2 ++ t288) ++ a2) (a2.size : Int) t290 t291 true _ A108.out).mono ?_); rintro e w124 ⟨rfl, hb⟩; refine ⟨_, rfl, ?_⟩; have n0_ := Aside0.mk (blk_below (g := gb268) (o := .cells #[.int .u64 a0_0, .int .u64 a0_1] 30 (0, 0)) (by (with_reducible repeat (first | refine blk_drewN ?_ _ | refine blk_drew ?_ | refine blk_alloc ?_ _)); exact BK268.out) hb); have n1_ := Aside0.mk (blk_below (g := gb275) (o := .cells #[.int .u64 t272, .int .u64 t273] 30 (0, 0)) (by (with_reducible repeat (first | refine blk_drewN ?_ _ | refine blk_drew ?_ | refine blk_alloc ?_ _)); exact BK275.out) hb); have n2_ := Aside0.mk (blk_below (g := gb279) (o := .cells #[.int .u64 t276, .int .u64 t277] 30 (0, 0)) (by (with_reducible repeat (first | refine blk_drewN ?_ _ | refine blk_drew ?_ | refine blk_alloc ?_ _)); exact BK279.out) hb); have n3_ := Aside0.mk (below_step (by repeat (first | (with_reducible first | exact HB.out | apply below_alloc | apply pw_below_drewN | apply below_drew1 | refine below_set ?_ GE268.out | refine below_set ?_ GE275.out | refine below_set ?_ GE279.out) | exact HB.out)) hb); clear BK268; clear BK275; clear BK279; clear HB; have BK268 := n0_; have BK275 := n1_; have BK279 := n2_; have HB := n3_; clear n0_ n1_ n2_ n3_; (try clear hb); (try clear hb2); (try clear hk); (try clear hi)) | ((with_reducible refine gate_callee (f := 31) rfl ?_); refine goesL_ (some 170) rfl rfl Try.func31 (by kernel_rfl) rfl #[.string (a2 ++ (t288.extract 0 ((ji109) : Int).toNat)), .int .i64 (a2.size : Int)] rfl (by (try simp only [List.map_toArray, List.map_cons, List.map_nil]); first | done | (simp only [hji109]; rfl) | rfl | (simp only [List.length_drop, List.length_take]; rfl)) ?_; (with_reducible refine (octet_TakeRun.calls kj30 (a2 ++ (t288.extract 0 ((ji109) : Int).toNat)) (a2.size : Int) t293 t294 t295 _ A113.out).mono ?_); rintro e w125 ⟨rfl, hb⟩; refine ⟨_, rfl, ?_⟩; have n0_ := Aside0.mk (blk_below (g := gb268) (o := .cells #[.int .u64 a0_0, .int .u64 a0_1] 30 (0, 0)) (by (with_reducible repeat (first | refine blk_drewN ?_ _ | refine blk_drew ?_ | refine blk_alloc ?_ _)); exact BK268.out) hb); have n1_ := Aside0.mk (blk_below (g := gb275) (o := .cells #[.int .u64 t272, .int .u64 t273] 30 (0, 0)) (by (with_reducible repeat (first | refine blk_drewN ?_ _ | refine blk_drew ?_ | refine blk_alloc ?_ _)); exact BK275.out) hb); have n2_ := Aside0.mk (blk_below (g := gb279) (o := .cells #[.int .u64 t276, .int .u64 t277] 30 (0, 0)) (by (with_reducible repeat (first | refine blk_drewN ?_ _ | refine blk_drew ?_ | refine blk_alloc ?_ _)); exact BK279.out) hb); have n3_ := Aside0.mk (below_step (by repeat (first | (with_reducible first | exact HB.out | apply below_alloc | apply pw_below_drewN | apply below_drew1 | refine below_set ?_ GE268.out | refine below_set ?_ GE275.out | refine below_set ?_ GE279.out) | exact HB.out)) hb); clear BK268; clear BK275; clear BK279; clear HB; have BK268 := n0_; have BK275 := n1_; have BK279 := n2_; have HB := n3_; clear n0_ n1_ n2_ n3_; (try clear hb); (try clear hb2); (try clear hk); (try clear hi)))
                                                go_ret
                                                exact ⟨by first | rfl | (simp [errW_none, errW_some] <;> rfl) | (simp only [← hji17, ← hji109]; first | rfl | (simp [errW_none, errW_some] <;> rfl)) | (simp [*, errW_none, errW_some] <;> rfl), by repeat (first | (with_reducible first | exact HB.out | apply below_alloc | apply pw_below_drewN | apply below_drew1 | refine below_set ?_ GE268.out | refine below_set ?_ GE275.out | refine below_set ?_ GE279.out) | exact HB.out)⟩
                                            · replace c114 := Bool.eq_false_iff.mpr c114
                                              subst c114
                                              have H1 : (some false) = some r := by rw [if_neg (show ¬ (false = true) by decide)] at H; exact H
                                              clear H
                                              have H := H1
                                              clear H1
                                              obtain rfl := Option.some.inj H
                                              go_wp2_with (first | ((with_reducible refine gate_callee (f := 11) rfl ?_); refine goesL_ (some 138) rfl rfl Try.func11 (by kernel_rfl) rfl #[.string a1] rfl (by (try simp only [List.map_toArray, List.map_cons, List.map_nil]); first | done | rfl | (simp only [List.length_drop, List.length_take]; rfl)) ?_; (with_reducible refine (octet_Run.calls kj30 a1 t288 true _ A104.out).mono ?_); rintro e w126 ⟨rfl, hb⟩; refine ⟨_, rfl, ?_⟩; have n0_ := Aside0.mk (blk_below (g := gb268) (o := .cells #[.int .u64 a0_0, .int .u64 a0_1] 30 (0, 0)) (by (with_reducible repeat (first | refine blk_drewN ?_ _ | refine blk_drew ?_ | refine blk_alloc ?_ _)); exact BK268.out) hb); have n1_ := Aside0.mk (blk_below (g := gb275) (o := .cells #[.int .u64 t272, .int .u64 t273] 30 (0, 0)) (by (with_reducible repeat (first | refine blk_drewN ?_ _ | refine blk_drew ?_ | refine blk_alloc ?_ _)); exact BK275.out) hb); have n2_ := Aside0.mk (blk_below (g := gb279) (o := .cells #[.int .u64 t276, .int .u64 t277] 30 (0, 0)) (by (with_reducible repeat (first | refine blk_drewN ?_ _ | refine blk_drew ?_ | refine blk_alloc ?_ _)); exact BK279.out) hb); have n3_ := Aside0.mk (below_step (by repeat (first | (with_reducible first | exact HB.out | apply below_alloc | apply pw_below_drewN | apply below_drew1 | refine below_set ?_ GE268.out | refine below_set ?_ GE275.out | refine below_set ?_ GE279.out) | exact HB.out)) hb); clear BK268; clear BK275; clear BK279; clear HB; have BK268 := n0_; have BK275 := n1_; have BK279 := n2_; have HB := n3_; clear n0_ n1_ n2_ n3_; (try clear hb); (try clear hb2); (try clear hk); (try clear hi)) | ((with_reducible refine gate_callee (f := 31) rfl ?_); refine goesL_ (some 157) rfl rfl Try.func31 (by kernel_rfl) rfl #[.string ((a2 ++ t288) ++ a2), .int .i64 (a2.size : Int)] rfl (by (try simp only [List.map_toArray, List.map_cons, List.map_nil]); first | done | rfl | (simp only [List.length_drop, List.length_take]; rfl)) ?_; (with_reducible refine (octet_TakeRun.calls kj30 ((a2 ++ t288) ++ a2) (a2.size : Int) t290 t291 false _ A108.out).mono ?_); rintro e w127 ⟨rfl, hb⟩; refine ⟨_, rfl, ?_⟩; have n0_ := Aside0.mk (blk_below (g := gb268) (o := .cells #[.int .u64 a0_0, .int .u64 a0_1] 30 (0, 0)) (by (with_reducible repeat (first | refine blk_drewN ?_ _ | refine blk_drew ?_ | refine blk_alloc ?_ _)); exact BK268.out) hb); have n1_ := Aside0.mk (blk_below (g := gb275) (o := .cells #[.int .u64 t272, .int .u64 t273] 30 (0, 0)) (by (with_reducible repeat (first | refine blk_drewN ?_ _ | refine blk_drew ?_ | refine blk_alloc ?_ _)); exact BK275.out) hb); have n2_ := Aside0.mk (blk_below (g := gb279) (o := .cells #[.int .u64 t276, .int .u64 t277] 30 (0, 0)) (by (with_reducible repeat (first | refine blk_drewN ?_ _ | refine blk_drew ?_ | refine blk_alloc ?_ _)); exact BK279.out) hb); have n3_ := Aside0.mk (below_step (by repeat (first | (with_reducible first | exact HB.out | apply below_alloc | apply pw_below_drewN | apply below_drew1 | refine below_set ?_ GE268.out | refine below_set ?_ GE275.out | refine below_set ?_ GE279.out) | exact HB.out)) hb); clear BK268; clear BK275; clear BK279; clear HB; have BK268 := n0_; have BK275 := n1_; have BK279 := n2_; have HB := n3_; clear n0_ n1_ n2_ n3_; (try clear hb); (try clear hb2); (try clear hk); (try clear hi)) | ((with_reducible refine gate_callee (f := 31) rfl ?_); refine goesL_ (some 170) rfl rfl Try.func31 (by kernel_rfl) rfl #[.string (a2 ++ (t288.extract 0 ((ji109) : Int).toNat)), .int .i64 (a2.size : Int)] rfl (by (try simp only [List.map_toArray, List.map_cons, List.map_nil]); first | done | (simp only [hji109]; rfl) | rfl | (simp only [List.length_drop, List.length_take]; rfl)) ?_; (with_reducible refine (octet_TakeRun.calls kj30 (a2 ++ (t288.extract 0 ((ji109) : Int).toNat)) (a2.size : Int) t293 t294 t295 _ A113.out).mono ?_); rintro e w128 ⟨rfl, hb⟩; refine ⟨_, rfl, ?_⟩; have n0_ := Aside0.mk (blk_below (g := gb268) (o := .cells #[.int .u64 a0_0, .int .u64 a0_1] 30 (0, 0)) (by (with_reducible repeat (first | refine blk_drewN ?_ _ | refine blk_drew ?_ | refine blk_alloc ?_ _)); exact BK268.out) hb); have n1_ := Aside0.mk (blk_below (g := gb275) (o := .cells #[.int .u64 t272, .int .u64 t273] 30 (0, 0)) (by (with_reducible repeat (first | refine blk_drewN ?_ _ | refine blk_drew ?_ | refine blk_alloc ?_ _)); exact BK275.out) hb); have n2_ := Aside0.mk (blk_below (g := gb279) (o := .cells #[.int .u64 t276, .int .u64 t277] 30 (0, 0)) (by (with_reducible repeat (first | refine blk_drewN ?_ _ | refine blk_drew ?_ | refine blk_alloc ?_ _)); exact BK279.out) hb); have n3_ := Aside0.mk (below_step (by repeat (first | (with_reducible first | exact HB.out | apply below_alloc | apply pw_below_drewN | apply below_drew1 | refine below_set ?_ GE268.out | refine below_set ?_ GE275.out | refine below_set ?_ GE279.out) | exact HB.out)) hb); clear BK268; clear BK275; clear BK279; clear HB; have BK268 := n0_; have BK275 := n1_; have BK279 := n2_; have HB := n3_; clear n0_ n1_ n2_ n3_; (try clear hb); (try clear hb2); (try clear hk); (try clear hi)))
                                              go_ret
                                              exact ⟨by first | rfl | (simp [errW_none, errW_some] <;> rfl) | (simp only [← hji17, ← hji109]; first | rfl | (simp [errW_none, errW_some] <;> rfl)) | (simp [*, errW_none, errW_some] <;> rfl), by repeat (first | (with_reducible first | exact HB.out | apply below_alloc | apply pw_below_drewN | apply below_drew1 | refine below_set ?_ GE268.out | refine below_set ?_ GE275.out | refine below_set ?_ GE279.out) | exact HB.out)⟩
                                          · rw [if_neg c112] at H
                                            exact absurd H (by simp)
                                        · rw [if_neg c111] at H
                                          exact absurd H (by simp)
                                      · rw [if_neg c110] at H
                                        exact absurd H (by simp)
                                    · rw [if_neg c107] at H
                                      exact absurd H (by simp)
                                  · rw [if_neg c106] at H
                                    exact absurd H (by simp)
                                · replace c105 := Bool.eq_false_iff.mpr c105
                                  subst c105
                                  have H1 : (if (a1.size : Int) = 65536 then (some (t288.toList == ([] : List UInt8))) else (some false)) = some r := by rw [if_neg (show ¬ (false = true) by decide)] at H; exact H
                                  clear H
                                  have H := H1
                                  clear H1
                                  by_cases c129 : (a1.size : Int) = 65536
                                  · rw [if_pos c129] at H
                                    have c129b0 : ((a1.size : Int) == 65536) = true := beq_iff_eq.mpr c129
                                    have c129b1 : ((a1.size : Int) != 65536) = false := bne_eq_false_iff_eq.mpr c129
                                    clear c129
                                    obtain rfl := Option.some.inj H
                                    go_wp2_with (first | ((with_reducible refine gate_callee (f := 11) rfl ?_); refine goesL_ (some 138) rfl rfl Try.func11 (by kernel_rfl) rfl #[.string a1] rfl (by (try simp only [List.map_toArray, List.map_cons, List.map_nil]); first | done | rfl | (simp only [List.length_drop, List.length_take]; rfl)) ?_; (with_reducible refine (octet_Run.calls kj30 a1 t288 false _ A104.out).mono ?_); rintro e w130 ⟨rfl, hb⟩; refine ⟨_, rfl, ?_⟩; have n0_ := Aside0.mk (blk_below (g := gb268) (o := .cells #[.int .u64 a0_0, .int .u64 a0_1] 30 (0, 0)) (by (with_reducible repeat (first | refine blk_drewN ?_ _ | refine blk_drew ?_ | refine blk_alloc ?_ _)); exact BK268.out) hb); have n1_ := Aside0.mk (blk_below (g := gb275) (o := .cells #[.int .u64 t272, .int .u64 t273] 30 (0, 0)) (by (with_reducible repeat (first | refine blk_drewN ?_ _ | refine blk_drew ?_ | refine blk_alloc ?_ _)); exact BK275.out) hb); have n2_ := Aside0.mk (blk_below (g := gb279) (o := .cells #[.int .u64 t276, .int .u64 t277] 30 (0, 0)) (by (with_reducible repeat (first | refine blk_drewN ?_ _ | refine blk_drew ?_ | refine blk_alloc ?_ _)); exact BK279.out) hb); have n3_ := Aside0.mk (below_step (by repeat (first | (with_reducible first | exact HB.out | apply below_alloc | apply pw_below_drewN | apply below_drew1 | refine below_set ?_ GE268.out | refine below_set ?_ GE275.out | refine below_set ?_ GE279.out) | exact HB.out)) hb); clear BK268; clear BK275; clear BK279; clear HB; have BK268 := n0_; have BK275 := n1_; have BK279 := n2_; have HB := n3_; clear n0_ n1_ n2_ n3_; (try clear hb); (try clear hb2); (try clear hk); (try clear hi)))
                                    go_ret
                                    exact ⟨by first | rfl | (simp [errW_none, errW_some] <;> rfl) | (simp only [← hji17]; first | rfl | (simp [errW_none, errW_some] <;> rfl)) | (simp [*, errW_none, errW_some] <;> rfl), by repeat (first | (with_reducible first | exact HB.out | apply below_alloc | apply pw_below_drewN | apply below_drew1 | refine below_set ?_ GE268.out | refine below_set ?_ GE275.out | refine below_set ?_ GE279.out) | exact HB.out)⟩
                                  · rw [if_neg c129] at H
                                    have c129b0 : ((a1.size : Int) == 65536) = false := beq_eq_false_iff_ne.mpr c129
                                    have c129b1 : ((a1.size : Int) != 65536) = true := bne_iff_ne.mpr c129
                                    obtain rfl := Option.some.inj H
                                    go_wp2_with (first | ((with_reducible refine gate_callee (f := 11) rfl ?_); refine goesL_ (some 138) rfl rfl Try.func11 (by kernel_rfl) rfl #[.string a1] rfl (by (try simp only [List.map_toArray, List.map_cons, List.map_nil]); first | done | rfl | (simp only [List.length_drop, List.length_take]; rfl)) ?_; (with_reducible refine (octet_Run.calls kj30 a1 t288 false _ A104.out).mono ?_); rintro e w131 ⟨rfl, hb⟩; refine ⟨_, rfl, ?_⟩; have n0_ := Aside0.mk (blk_below (g := gb268) (o := .cells #[.int .u64 a0_0, .int .u64 a0_1] 30 (0, 0)) (by (with_reducible repeat (first | refine blk_drewN ?_ _ | refine blk_drew ?_ | refine blk_alloc ?_ _)); exact BK268.out) hb); have n1_ := Aside0.mk (blk_below (g := gb275) (o := .cells #[.int .u64 t272, .int .u64 t273] 30 (0, 0)) (by (with_reducible repeat (first | refine blk_drewN ?_ _ | refine blk_drew ?_ | refine blk_alloc ?_ _)); exact BK275.out) hb); have n2_ := Aside0.mk (blk_below (g := gb279) (o := .cells #[.int .u64 t276, .int .u64 t277] 30 (0, 0)) (by (with_reducible repeat (first | refine blk_drewN ?_ _ | refine blk_drew ?_ | refine blk_alloc ?_ _)); exact BK279.out) hb); have n3_ := Aside0.mk (below_step (by repeat (first | (with_reducible first | exact HB.out | apply below_alloc | apply pw_below_drewN | apply below_drew1 | refine below_set ?_ GE268.out | refine below_set ?_ GE275.out | refine below_set ?_ GE279.out) | exact HB.out)) hb); clear BK268; clear BK275; clear BK279; clear HB; have BK268 := n0_; have BK275 := n1_; have BK279 := n2_; have HB := n3_; clear n0_ n1_ n2_ n3_; (try clear hb); (try clear hb2); (try clear hk); (try clear hi)))
                                    go_ret
                                    exact ⟨by first | rfl | (simp [errW_none, errW_some] <;> rfl) | (simp only [← hji17]; first | rfl | (simp [errW_none, errW_some] <;> rfl)) | (simp [*, errW_none, errW_some] <;> rfl), by repeat (first | (with_reducible first | exact HB.out | apply below_alloc | apply pw_below_drewN | apply below_drew1 | refine below_set ?_ GE268.out | refine below_set ?_ GE275.out | refine below_set ?_ GE279.out) | exact HB.out)⟩
                        · rw [if_neg c29] at H
                          exact absurd H (by simp)
                      · rw [if_neg c28] at H
                        exact absurd H (by simp)
                    · rw [if_neg c25] at H
                      exact absurd H (by simp)
                  · rw [if_neg c24] at H
                    exact absurd H (by simp)
                · rw [if_neg c20] at H
                  exact absurd H (by simp)
              · rw [if_neg c19] at H
                exact absurd H (by simp)
            · rw [if_neg c18] at H
              exact absurd H (by simp)
          · rw [if_neg c15] at H
            exact absurd H (by simp)
        · rw [if_neg c14] at H
          exact absurd H (by simp)

/-- The one plain statement of tenancylaw04_OctetBack. -/
def tenancylaw04_OctetBack.Pure : Prop := ∀ (x0 : S30) (a1 : ByteArray) (a2 : ByteArray), (wf30 x0) → (a1.size ≤ 140737488351232) → (a2.size ≤ 140737488351232) → ∃ k, tenancylaw04_OctetBack.f k (x0.f0) (x0.f1) a1 a2 = some true

end Go.Proofs.Ytaoeonngifkhbaa.X
