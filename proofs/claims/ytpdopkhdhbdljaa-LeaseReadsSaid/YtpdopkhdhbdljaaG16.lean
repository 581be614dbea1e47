/- Functions of the program as Lean functions, and that the calls come to them: no condition.  By this session's own program (wip/xprint). -/
import Derived.Test.YtpdopkhdhbdljaaG0
import Derived.Test.YtpdopkhdhbdljaaG6
import Derived.Test.YtpdopkhdhbdljaaG7
import Derived.Test.YtpdopkhdhbdljaaG15
namespace Go.Proofs.Ytpdopkhdhbdljaa.X
open Go.RowKit Go.Proofs.YtpdopkhdhbdljaaW.PrintWords Go.Proofs.YtpdopkhdhbdljaaW.PrintLast Go.Proofs.YtpdopkhdhbdljaaW.PrintMore
attribute [local go_sem] max2_int min2_int max_two min_two max_three min_three max_four min_four   -- for this text's walks alone
set_option linter.unusedVariables false
set_option linter.unusedSimpArgs false
attribute [local go_sem high] eqA31
/-! ### tenancyref04_TakeRun: function 79 -/
def tenancyref04_TakeRun.f (k : Nat) (a0 : ByteArray) (a1 : Int) : Option (ByteArray × Int × Bool) := (tenancyref04_Get16.f k a0 a1).bind fun bt459 => (if bt459.2 = true then ((tenancyref04_Cut.f a0 (wrap64 (a1 + 2)) (wrap64 (bt459.1))).bind fun bt461 => (if bt461.2 = true then (some (bt461.1, wrap64 ((wrap64 (a1 + 2)) + (wrap64 (bt459.1))), true)) else (some ((⟨#[]⟩ : ByteArray), 0, false)))) else (some ((⟨#[]⟩ : ByteArray), 0, false)))
theorem tenancyref04_TakeRun.mono : ∀ a0 a1 k, LeO (tenancyref04_TakeRun.f k a0 a1) (tenancyref04_TakeRun.f (k + 1) a0 a1) := by
  intro a0 a1 k
  unfold tenancyref04_TakeRun.f
  repeat' first
      | (with_reducible exact tenancyref04_Get16.mono _ _ _)
      | (with_reducible exact LeO.refl _)
      | (with_reducible exact LeO.none _)
      | (with_reducible refine LeO.ite ?_ ?_)
      | (with_reducible refine LeO.bind ?_ (fun _ => ?_))
      | exact tenancyref04_Get16.mono _ _ _
      | exact LeO.none _
      | refine LeO.ite ?_ ?_
      | refine LeO.bind ?_ (fun _ => ?_)
set_option maxHeartbeats 20000000 in
set_option maxRecDepth 100000 in
theorem tenancyref04_TakeRun.calls (k : Nat) (a0 : ByteArray) (a1 : Int) (r1 : ByteArray) (r2 : Int) (r3 : Bool) (w : World) (h : tenancyref04_TakeRun.f k a0 a1 = some (r1, r2, r3)) :
    Calls Try.prog 79 #[.string a0, .int .i64 a1] w fun e w' => e = .returned (.tuple #[.string r1, .int .i64 r2, .bool r3]) ∧ Drawn0 w w' := by
  have H : ((tenancyref04_Get16.f k a0 a1).bind fun bt459 => (if bt459.2 = true then ((tenancyref04_Cut.f a0 (wrap64 (a1 + 2)) (wrap64 (bt459.1))).bind fun bt461 => (if bt461.2 = true then (some (bt461.1, wrap64 ((wrap64 (a1 + 2)) + (wrap64 (bt459.1))), true)) else (some ((⟨#[]⟩ : ByteArray), 0, false)))) else (some ((⟨#[]⟩ : ByteArray), 0, false)))) = some (r1, r2, r3) := h
  clear h
  replace H := Option.bind_eq_some_iff.mp H
  obtain ⟨⟨t459, t460⟩, A30, H⟩ := H
  replace H : (if t460 = true then ((tenancyref04_Cut.f a0 (wrap64 (a1 + 2)) (wrap64 (t459))).bind fun bt461 => (if bt461.2 = true then (some (bt461.1, wrap64 ((wrap64 (a1 + 2)) + (wrap64 (t459))), true)) else (some ((⟨#[]⟩ : ByteArray), 0, false)))) else (some ((⟨#[]⟩ : ByteArray), 0, false))) = some (r1, r2, r3) := H
  have A3 := Aside0.mk A30
  clear A30
  by_cases c4 : t460 = true
  · subst c4
    have H1 : ((tenancyref04_Cut.f a0 (wrap64 (a1 + 2)) (wrap64 (t459))).bind fun bt461 => (if bt461.2 = true then (some (bt461.1, wrap64 ((wrap64 (a1 + 2)) + (wrap64 (t459))), true)) else (some ((⟨#[]⟩ : ByteArray), 0, false)))) = some (r1, r2, r3) := by rw [if_pos rfl] at H; exact H
    clear H
    have H := H1
    clear H1
    replace H := Option.bind_eq_some_iff.mp H
    obtain ⟨⟨t461, t462⟩, A50, H⟩ := H
    replace H : (if t462 = true then (some (t461, wrap64 ((wrap64 (a1 + 2)) + (wrap64 (t459))), true)) else (some ((⟨#[]⟩ : ByteArray), 0, false))) = some (r1, r2, r3) := H
    have A5 := Aside0.mk A50
    clear A50
    by_cases c6 : t462 = true
    · subst c6
      have H1 : (some (t461, wrap64 ((wrap64 (a1 + 2)) + (wrap64 (t459))), true)) = some (r1, r2, r3) := by rw [if_pos rfl] at H; exact H
      clear H
      have H := H1
      clear H1
      simp only [Option.some.injEq, Prod.mk.injEq] at H
      obtain ⟨rfl, rfl, rfl⟩ := H
      go_enter Try.func79, Try.ntmps79
      go_wp2_with (first | ((with_reducible refine gate_callee (f := 49) rfl ?_); refine goesL_ (some 13) rfl rfl Try.func49 (by kernel_rfl) rfl #[.string a0, .int .i64 a1] rfl (by (try simp only [List.map_toArray, List.map_cons, List.map_nil]); first | rfl) ?_; (with_reducible refine (tenancyref04_Get16.calls k a0 a1 t459 true _ A3.out).mono ?_); rintro e w' ⟨rfl, ⟨nd, rfl⟩⟩; refine ⟨_, rfl, ?_⟩) | ((with_reducible refine gate_callee (f := 75) rfl ?_); refine goesL_ (some 24) rfl rfl Try.func75 (by kernel_rfl) rfl #[.string a0, .int .i64 (wrap64 (a1 + 2)), .int .i64 (wrap64 (t459))] rfl (by (try simp only [List.map_toArray, List.map_cons, List.map_nil]); first | rfl) ?_; (with_reducible refine (tenancyref04_Cut.calls a0 (wrap64 (a1 + 2)) (wrap64 (t459)) t461 true _ A5.out).mono ?_); rintro e w' ⟨rfl, ⟨nd, rfl⟩⟩; refine ⟨_, rfl, ?_⟩))
      go_ret3
      exact ⟨by rfl, by repeat (first | exact Drawn0.refl _ | apply Drawn0.step)⟩
    · replace c6 := Bool.eq_false_iff.mpr c6
      subst c6
      have H1 : (some ((⟨#[]⟩ : ByteArray), 0, false)) = some (r1, r2, r3) := by rw [if_neg (show ¬ (false = true) by decide)] at H; exact H
      clear H
      have H := H1
      clear H1
      simp only [Option.some.injEq, Prod.mk.injEq] at H
      obtain ⟨rfl, rfl, rfl⟩ := H
      go_enter Try.func79, Try.ntmps79
      go_wp2_with (first | ((with_reducible refine gate_callee (f := 49) rfl ?_); refine goesL_ (some 13) rfl rfl Try.func49 (by kernel_rfl) rfl #[.string a0, .int .i64 a1] rfl (by (try simp only [List.map_toArray, List.map_cons, List.map_nil]); first | rfl) ?_; (with_reducible refine (tenancyref04_Get16.calls k a0 a1 t459 true _ A3.out).mono ?_); rintro e w' ⟨rfl, ⟨nd, rfl⟩⟩; refine ⟨_, rfl, ?_⟩) | ((with_reducible refine gate_callee (f := 75) rfl ?_); refine goesL_ (some 24) rfl rfl Try.func75 (by kernel_rfl) rfl #[.string a0, .int .i64 (wrap64 (a1 + 2)), .int .i64 (wrap64 (t459))] rfl (by (try simp only [List.map_toArray, List.map_cons, List.map_nil]); first | rfl) ?_; (with_reducible refine (tenancyref04_Cut.calls a0 (wrap64 (a1 + 2)) (wrap64 (t459)) t461 false _ A5.out).mono ?_); rintro e w' ⟨rfl, ⟨nd, rfl⟩⟩; refine ⟨_, rfl, ?_⟩))
      go_ret3
      exact ⟨by rfl, by repeat (first | exact Drawn0.refl _ | apply Drawn0.step)⟩
  · replace c4 := Bool.eq_false_iff.mpr c4
    subst c4
    have H1 : (some ((⟨#[]⟩ : ByteArray), 0, false)) = some (r1, r2, r3) := by rw [if_neg (show ¬ (false = true) by decide)] at H; exact H
    clear H
    have H := H1
    clear H1
    simp only [Option.some.injEq, Prod.mk.injEq] at H
    obtain ⟨rfl, rfl, rfl⟩ := H
    go_enter Try.func79, Try.ntmps79
    go_wp2_with (first | ((with_reducible refine gate_callee (f := 49) rfl ?_); refine goesL_ (some 13) rfl rfl Try.func49 (by kernel_rfl) rfl #[.string a0, .int .i64 a1] rfl (by (try simp only [List.map_toArray, List.map_cons, List.map_nil]); first | rfl) ?_; (with_reducible refine (tenancyref04_Get16.calls k a0 a1 t459 false _ A3.out).mono ?_); rintro e w' ⟨rfl, ⟨nd, rfl⟩⟩; refine ⟨_, rfl, ?_⟩))
    go_ret3
    exact ⟨by rfl, by repeat (first | exact Drawn0.refl _ | apply Drawn0.step)⟩

/-! ### tenancyref08_one: function 50 -/
mutual
def tenancyref08_one.j0 : Nat → ByteArray → Int → ByteArray → Bool → Option (Bool × Int × Int × Int × Int × Int × ByteArray × Int × Int × Int × Int)
  | 0, _, _, _, _ => none
  | k + 1, x0, x1, x7, x36 => if x36 = true then (some (false, 0, 0, 0, 0, 0, (⟨#[]⟩ : ByteArray), 0, 0, 0, 4)) else ((tenancyref04_Cut.f x0 (wrap64 (x1 + 1)) 2).bind fun bt466 => ((tenancyref04_GetAddr.f k x0 (wrap64 (x1 + 3))).bind fun bt468 => (if bt466.2 = true then (tenancyref08_one.j1 k x0 x1 x7 bt466.1 (!bt468.2.2) bt468.1 bt468.2.1) else (tenancyref08_one.j1 k x0 x1 x7 bt466.1 true bt468.1 bt468.2.1))))
def tenancyref08_one.j1 : Nat → ByteArray → Int → ByteArray → ByteArray → Bool → Int → Int → Option (Bool × Int × Int × Int × Int × Int × ByteArray × Int × Int × Int × Int)
  | 0, _, _, _, _, _, _, _ => none
  | k + 1, x0, x1, x7, x9, x57, x472000, x472001 => if x57 = true then (some (false, 0, 0, 0, 0, 0, (⟨#[]⟩ : ByteArray), 0, 0, 0, 3)) else (if 0 < (x9.size : Int) then (if 1 < (x9.size : Int) then (if 0 < (x7.size : Int) then (if (bt x7 0) = 2 then (some (true, wrap64 (bt x9 0), x472000, x472001, wrap64 (bt x9 1), 0, (⟨#[]⟩ : ByteArray), 0, 0, wrap64 (x1 + 19), 0)) else ((tenancyref04_Cut.f x0 (wrap64 (x1 + 19)) 1).bind fun bt473 => ((tenancyref04_Get32.f k x0 (wrap64 (x1 + 20))).bind fun bt475 => ((tenancyref04_Get64.f k x0 (wrap64 (x1 + 24))).bind fun bt477 => ((tenancyref04_TakeRun.f k x0 (wrap64 (x1 + 32))).bind fun bt479 => (if bt473.2 = true then (if bt475.2 = true then (if bt477.2 = true then (if bt479.2.2 = true then (if 0 < (bt473.1.size : Int) then (some (false, wrap64 (bt x9 0), x472000, x472001, wrap64 (bt x9 1), wrap64 (bt bt473.1 0), bt479.1, bt475.1, wrap64 (bt477.1), bt479.2.1, 0)) else (none)) else (some (false, 0, 0, 0, 0, 0, (⟨#[]⟩ : ByteArray), 0, 0, 0, 3))) else (some (false, 0, 0, 0, 0, 0, (⟨#[]⟩ : ByteArray), 0, 0, 0, 3))) else (some (false, 0, 0, 0, 0, 0, (⟨#[]⟩ : ByteArray), 0, 0, 0, 3))) else (some (false, 0, 0, 0, 0, 0, (⟨#[]⟩ : ByteArray), 0, 0, 0, 3)))))))) else (none)) else (none)) else (none))
end
def tenancyref08_one.f (k : Nat) (a0 : ByteArray) (a1 : Int) : Option (Bool × Int × Int × Int × Int × Int × ByteArray × Int × Int × Int × Int) := (tenancyref04_Cut.f a0 a1 1).bind fun bt464 => (if bt464.2 = true then (if 0 < (bt464.1.size : Int) then (if (bt bt464.1 0) = 1 then (tenancyref08_one.j0 k a0 a1 bt464.1 false) else (tenancyref08_one.j0 k a0 a1 bt464.1 ((bt bt464.1 0) != 2))) else (none)) else (some (false, 0, 0, 0, 0, 0, (⟨#[]⟩ : ByteArray), 0, 0, 0, 3)))
theorem tenancyref08_one.mono_l : ∀ k, (∀ y0 y1 y2 y3, LeO (tenancyref08_one.j0 k y0 y1 y2 y3) (tenancyref08_one.j0 (k + 1) y0 y1 y2 y3)) ∧ (∀ y0 y1 y2 y3 y4 y5 y6, LeO (tenancyref08_one.j1 k y0 y1 y2 y3 y4 y5 y6) (tenancyref08_one.j1 (k + 1) y0 y1 y2 y3 y4 y5 y6))
  | 0 => ⟨fun _ _ _ _ r h => by simp [tenancyref08_one.j0] at h, fun _ _ _ _ _ _ _ r h => by simp [tenancyref08_one.j1] at h⟩
  | k + 1 => by
    obtain ⟨ih0, ih1⟩ := tenancyref08_one.mono_l k
    refine ⟨?_, ?_⟩
    · intro y0 y1 y2 y3
      unfold tenancyref08_one.j0
      repeat' first
      | (with_reducible exact ih0 _ _ _ _)
      | (with_reducible exact ih1 _ _ _ _ _ _ _)
      | (with_reducible exact tenancyref04_Get32.mono _ _ _)
      | (with_reducible exact tenancyref04_Get64.mono _ _ _)
      | (with_reducible exact tenancyref04_GetAddr.mono _ _ _)
      | (with_reducible exact tenancyref04_TakeRun.mono _ _ _)
      | (with_reducible exact LeO.refl _)
      | (with_reducible exact LeO.none _)
      | (with_reducible refine LeO.ite ?_ ?_)
      | (with_reducible refine LeO.bind ?_ (fun _ => ?_))
      | exact ih0 _ _ _ _
      | exact ih1 _ _ _ _ _ _ _
      | exact tenancyref04_Get32.mono _ _ _
      | exact tenancyref04_Get64.mono _ _ _
      | exact tenancyref04_GetAddr.mono _ _ _
      | exact tenancyref04_TakeRun.mono _ _ _
      | exact LeO.none _
      | refine LeO.ite ?_ ?_
      | refine LeO.bind ?_ (fun _ => ?_)
    · intro y0 y1 y2 y3 y4 y5 y6
      unfold tenancyref08_one.j1
      repeat' first
      | (with_reducible exact ih0 _ _ _ _)
      | (with_reducible exact ih1 _ _ _ _ _ _ _)
      | (with_reducible exact tenancyref04_Get32.mono _ _ _)
      | (with_reducible exact tenancyref04_Get64.mono _ _ _)
      | (with_reducible exact tenancyref04_GetAddr.mono _ _ _)
      | (with_reducible exact tenancyref04_TakeRun.mono _ _ _)
      | (with_reducible exact LeO.refl _)
      | (with_reducible exact LeO.none _)
      | (with_reducible refine LeO.ite ?_ ?_)
      | (with_reducible refine LeO.bind ?_ (fun _ => ?_))
      | exact ih0 _ _ _ _
      | exact ih1 _ _ _ _ _ _ _
      | exact tenancyref04_Get32.mono _ _ _
      | exact tenancyref04_Get64.mono _ _ _
      | exact tenancyref04_GetAddr.mono _ _ _
      | exact tenancyref04_TakeRun.mono _ _ _
      | exact LeO.none _
      | refine LeO.ite ?_ ?_
      | refine LeO.bind ?_ (fun _ => ?_)
theorem tenancyref08_one.mono : ∀ a0 a1 k, LeO (tenancyref08_one.f k a0 a1) (tenancyref08_one.f (k + 1) a0 a1) := by
  intro a0 a1 k
  obtain ⟨ih0, ih1⟩ := tenancyref08_one.mono_l k
  unfold tenancyref08_one.f
  repeat' first
      | (with_reducible exact ih0 _ _ _ _)
      | (with_reducible exact ih1 _ _ _ _ _ _ _)
      | (with_reducible exact tenancyref04_Get32.mono _ _ _)
      | (with_reducible exact tenancyref04_Get64.mono _ _ _)
      | (with_reducible exact tenancyref04_GetAddr.mono _ _ _)
      | (with_reducible exact tenancyref04_TakeRun.mono _ _ _)
      | (with_reducible exact LeO.refl _)
      | (with_reducible exact LeO.none _)
      | (with_reducible refine LeO.ite ?_ ?_)
      | (with_reducible refine LeO.bind ?_ (fun _ => ?_))
      | exact ih0 _ _ _ _
      | exact ih1 _ _ _ _ _ _ _
      | exact tenancyref04_Get32.mono _ _ _
      | exact tenancyref04_Get64.mono _ _ _
      | exact tenancyref04_GetAddr.mono _ _ _
      | exact tenancyref04_TakeRun.mono _ _ _
      | exact LeO.none _
      | refine LeO.ite ?_ ?_
      | refine LeO.bind ?_ (fun _ => ?_)
def tenancyref08_one.T10 : Bool × List (List Nat × List Nat) := (true, [([], []), ([0], [0]), ([1], [1]), ([], []), ([], []), ([4], [4]), ([5], [5]), ([3, 6], [3, 6]), ([2, 7], [2, 7]), ([], []), ([9, 8, 0, 1, 2, 3, 4, 5, 6, 7, 8, 9], [8, 9])])
def tenancyref08_one.B10 : List Nat := [0, 1, 3, 0, 0, 16, 48, 120, 255, 0, 1023]
theorem tenancyref08_one.tab10 : rtab .any (opsOf Try.f50 10) = tenancyref08_one.T10 := by kernel_rfl
theorem tenancyref08_one.bits10 : waitsOk tenancyref08_one.T10.2 tenancyref08_one.B10 = true := by kernel_rfl
set_option maxHeartbeats 20000000 in
set_option maxRecDepth 100000 in
theorem tenancyref08_one.calls (k : Nat) (a0 : ByteArray) (a1 : Int) (r1 : Bool) (r2 : Int) (r3 : Int) (r4 : Int) (r5 : Int) (r6 : Int) (r7 : ByteArray) (r8 : Int) (r9 : Int) (r10 : Int) (r11 : Int) (w : World) (h : tenancyref08_one.f k a0 a1 = some (r1, r2, r3, r4, r5, r6, r7, r8, r9, r10, r11)) :
    Calls Try.prog 50 #[.string a0, .int .i64 a1] w fun e w' => e = .returned (.tuple #[.agg #[.bool r1, .int .i64 r2, .int .u64 r3, .int .u64 r4, .int .i64 r5, .int .i64 r6, .string r7, .int .u32 r8, .int .i64 r9], .int .i64 r10, .int .i64 r11]) ∧ Below w.heap.size w w' := by
  have hu31 := Try.underlying31
  have hu24 := Try.underlying24
  have hu26 := Try.underlying26
  have hu29 := Try.underlying29
  have HB := Aside0.mk (Below.refl w.heap.size w)
  have H : ((tenancyref04_Cut.f a0 a1 1).bind fun bt464 => (if bt464.2 = true then (if 0 < (bt464.1.size : Int) then (if (bt bt464.1 0) = 1 then (tenancyref08_one.j0 k a0 a1 bt464.1 false) else (tenancyref08_one.j0 k a0 a1 bt464.1 ((bt bt464.1 0) != 2))) else (none)) else (some (false, 0, 0, 0, 0, 0, (⟨#[]⟩ : ByteArray), 0, 0, 0, 3)))) = some (r1, r2, r3, r4, r5, r6, r7, r8, r9, r10, r11) := h
  clear h
  replace H := Option.bind_eq_some_iff.mp H
  obtain ⟨⟨t464, t465⟩, A30, H⟩ := H
  replace H : (if t465 = true then (if 0 < (t464.size : Int) then (if (bt t464 0) = 1 then (tenancyref08_one.j0 k a0 a1 t464 false) else (tenancyref08_one.j0 k a0 a1 t464 ((bt t464 0) != 2))) else (none)) else (some (false, 0, 0, 0, 0, 0, (⟨#[]⟩ : ByteArray), 0, 0, 0, 3))) = some (r1, r2, r3, r4, r5, r6, r7, r8, r9, r10, r11) := H
  have A3 := Aside0.mk A30
  clear A30
  by_cases c4 : t465 = true
  · subst c4
    have H1 : (if 0 < (t464.size : Int) then (if (bt t464 0) = 1 then (tenancyref08_one.j0 k a0 a1 t464 false) else (tenancyref08_one.j0 k a0 a1 t464 ((bt t464 0) != 2))) else (none)) = some (r1, r2, r3, r4, r5, r6, r7, r8, r9, r10, r11) := by rw [if_pos rfl] at H; exact H
    clear H
    have H := H1
    clear H1
    have HC5 := Aside0.mk H
    clear H
    go_enter Try.func50, Try.ntmps50
    go_upto_region 4 with (first | ((with_reducible refine gate_dst (N := 4) rfl ?_); refine box_event ?hg (N := 4) ?hd (cs := #[.bool false, .int .i64 0, .int .u64 0, .int .u64 0, .int .i64 0, .int .i64 0, .string (⟨#[]⟩ : ByteArray), .int .u32 0, .int .i64 0]) (t := 31) ?hr ?_; (case hd => rfl); (case hg => rfl); (case hr => go_simp; done); intro gb463 hg w6 hbox hb; have n0_ := Aside0.mk (below_step HB.out hb); have n1_ := Aside0.mk (hbox); have n2_ := Aside0.mk ((by rw [hg]; exact (below_size HB.out) : w.heap.size ≤ gb463)); have n3_ := Aside0.mk ((by rw [hg]; exact (below_size HB.out) : w.heap.size ≤ gb463)); clear HB; have HB := n0_; have BK463 := n1_; have GW463 := n2_; have GE463 := n3_; clear n0_ n1_ n2_ n3_; clear hb hbox hg) | ((with_reducible refine gate_callee (f := 75) rfl ?_); refine goesL_ (some 23) rfl rfl Try.func75 (by kernel_rfl) rfl #[.string a0, .int .i64 a1, .int .i64 1] rfl (by (try simp only [List.map_toArray, List.map_cons, List.map_nil]); first | rfl) ?_; (with_reducible refine (tenancyref04_Cut.calls a0 a1 1 t464 true _ A3.out).mono ?_); rintro e w' ⟨rfl, ⟨nd, rfl⟩⟩; refine ⟨_, rfl, ?_⟩))
    (try simp only [Act.put, List.setIfInBounds_toArray, List.set_cons_zero, List.set_cons_succ])
    go_cut [36] (fun v36 wc => ∃ (kq : Nat) (x36_4 : Bool), v36 = .bool x36_4 ∧ Aside0 (tenancyref08_one.j0 kq a0 a1 t464 x36_4 = some (r1, r2, r3, r4, r5, r6, r7, r8, r9, r10, r11)) ∧ Aside0 (kq ≤ k) ∧ Aside0 (wc.heap[gb463]? = some (.cells #[.bool false, .int .i64 0, .int .u64 0, .int .u64 0, .int .i64 0, .int .i64 0, .string (⟨#[]⟩ : ByteArray), .int .u32 0, .int .i64 0] 31 (0, 0))) ∧ Aside0 (Below w.heap.size w wc))
    case first =>
      have H := HC5.out
      clear HC5
      by_cases c7 : 0 < (t464.size : Int)
      · rw [if_pos c7] at H
        have c7b0 : decide (0 < (t464.size : Int)) = true := decide_eq_true c7
        have c7b1 : decide (0 < t464.size) = true := decide_eq_true (by omega)
        clear c7
        (first | skip)
        by_cases c9 : (bt t464 0) = 1
        · rw [if_pos c9] at H
          have c9b0 : ((bt t464 0) == 1) = true := beq_iff_eq.mpr c9
          have c9b1 : ((bt t464 0) != 1) = false := bne_eq_false_iff_eq.mpr c9
          clear c9
          have H' := Aside0.mk H
          clear H
          have p8 : 0 ≤ (0 : Int) := (by omega)
          have q8 : 0 < t464.size := (by have : (0 : Int) < (t464.size : Int) := of_decide_eq_true (by first | (with_reducible assumption)); omega)
          have hx8 : ∀ h : 0 < t464.size, ((t464[0]'h).toNat : Int) = bt t464 0 := bt_at t464 0
          clear p8
          have qi8 : (0 < (t464.size : Int)) = True := eq_true (of_decide_eq_true (by first | (with_reducible assumption)))
          replace q8 := eq_true q8
          go_wp2
          go_meet
          case rel => exact ⟨_, (false), (by rfl), H', ⟨by omega⟩, ⟨by (with_reducible repeat (first | refine blk_drewN ?_ _)); exact BK463.out⟩, ⟨by repeat (first | (with_reducible first | exact HB.out | apply pw_below_drewN))⟩⟩
        · rw [if_neg c9] at H
          have c9b0 : ((bt t464 0) == 1) = false := beq_eq_false_iff_ne.mpr c9
          have c9b1 : ((bt t464 0) != 1) = true := bne_iff_ne.mpr c9
          have H' := Aside0.mk H
          clear H
          have p8 : 0 ≤ (0 : Int) := (by omega)
          have q8 : 0 < t464.size := (by have : (0 : Int) < (t464.size : Int) := of_decide_eq_true (by first | (with_reducible assumption)); omega)
          have hx8 : ∀ h : 0 < t464.size, ((t464[0]'h).toNat : Int) = bt t464 0 := bt_at t464 0
          clear p8
          have qi8 : (0 < (t464.size : Int)) = True := eq_true (of_decide_eq_true (by first | (with_reducible assumption)))
          replace q8 := eq_true q8
          have p10 : 0 ≤ (0 : Int) := (by omega)
          have q10 : 0 < t464.size := (by have : (0 : Int) < (t464.size : Int) := of_decide_eq_true (by first | (with_reducible assumption)); omega)
          have hx10 : ∀ h : 0 < t464.size, ((t464[0]'h).toNat : Int) = bt t464 0 := bt_at t464 0
          clear p10
          have qi10 : (0 < (t464.size : Int)) = True := eq_true (of_decide_eq_true (by first | (with_reducible assumption)))
          replace q10 := eq_true q10
          go_wp2
          go_meet
          case rel => exact ⟨_, (((bt t464 0) != 2)), (by rfl), H', ⟨by omega⟩, ⟨by (with_reducible repeat (first | refine blk_drewN ?_ _)); exact BK463.out⟩, ⟨by repeat (first | (with_reducible first | exact HB.out | apply pw_below_drewN))⟩⟩
      · rw [if_neg c7] at H
        exact absurd H (by simp)
    case rest =>
      clear HC5
      try clear p1
      try clear q1
      try clear hx1
      try clear qi1
      try clear p2
      try clear c4
      try clear c5
      try clear c7
      try clear c7b0
      try clear c7b1
      try clear p8
      try clear q8
      try clear hx8
      try clear qi8
      try clear c9
      try clear c9b0
      try clear c9b1
      try clear p10
      try clear q10
      try clear hx10
      try clear qi10
      try clear p10
      try clear p8
      try clear q10
      try clear q8
      obtain ⟨kq, x36_4, rfl, HA, HJ4, BK463, HB⟩ := hcut
      cases kq with
      | zero => exact absurd HA.out (by simp [tenancyref08_one.j0])
      | succ kj4 =>
        have H := HA.out
        clear HA
        simp only [tenancyref08_one.j0] at H
        by_cases c11 : x36_4 = true
        · subst c11
          have H1 : (some (false, 0, 0, 0, 0, 0, (⟨#[]⟩ : ByteArray), 0, 0, 0, 4)) = some (r1, r2, r3, r4, r5, r6, r7, r8, r9, r10, r11) := by rw [if_pos rfl] at H; exact H
          clear H
          have H := H1
          clear H1
          simp only [Option.some.injEq, Prod.mk.injEq] at H
          obtain ⟨rfl, rfl, rfl, rfl, rfl, rfl, rfl, rfl, rfl, rfl, rfl⟩ := H
          obtain ⟨hcz12_0, hcz12_1, hcz12_2, hcz12_3, hcz12_4, hcz12_5, hcz12_6, hcz12_7, hcz12_8⟩ := XRun.bc9 BK463.out
          obtain ⟨hfz12_0, hfz12_1, hfz12_2, hfz12_3, hfz12_4, hfz12_5, hfz12_6, hfz12_7, hfz12_8⟩ := XRun.bf9 BK463.out
          go_wp2
          refine bodyPost_ret (results_ctt rfl _ _ gb463 31 #[.bool false, .int .i64 0, .int .u64 0, .int .u64 0, .int .i64 0, .int .i64 0, .string (⟨#[]⟩ : ByteArray), .int .u32 0, .int .i64 0] (0, 0) _ rfl (by refine blk_put (cs := #[.bool false, .int .i64 0, .int .u64 0, .int .u64 0, .int .i64 0, .int .i64 0, .string (⟨#[]⟩ : ByteArray), .int .u32 0, .int .i64 0]) ?_ 8 _ rfl; refine blk_put (cs := #[.bool false, .int .i64 0, .int .u64 0, .int .u64 0, .int .i64 0, .int .i64 0, .string (⟨#[]⟩ : ByteArray), .int .u32 0, .int .i64 0]) ?_ 7 _ rfl; refine blk_put (cs := #[.bool false, .int .i64 0, .int .u64 0, .int .u64 0, .int .i64 0, .int .i64 0, .string (⟨#[]⟩ : ByteArray), .int .u32 0, .int .i64 0]) ?_ 6 _ rfl; refine blk_put (cs := #[.bool false, .int .i64 0, .int .u64 0, .int .u64 0, .int .i64 0, .int .i64 0, .string (⟨#[]⟩ : ByteArray), .int .u32 0, .int .i64 0]) ?_ 5 _ rfl; refine blk_put (cs := #[.bool false, .int .i64 0, .int .u64 0, .int .u64 0, .int .i64 0, .int .i64 0, .string (⟨#[]⟩ : ByteArray), .int .u32 0, .int .i64 0]) ?_ 4 _ rfl; refine blk_put (cs := #[.bool false, .int .i64 0, .int .u64 0, .int .u64 0, .int .i64 0, .int .i64 0, .string (⟨#[]⟩ : ByteArray), .int .u32 0, .int .i64 0]) ?_ 3 _ rfl; refine blk_put (cs := #[.bool false, .int .i64 0, .int .u64 0, .int .u64 0, .int .i64 0, .int .i64 0, .string (⟨#[]⟩ : ByteArray), .int .u32 0, .int .i64 0]) ?_ 2 _ rfl; refine blk_put (cs := #[.bool false, .int .i64 0, .int .u64 0, .int .u64 0, .int .i64 0, .int .i64 0, .string (⟨#[]⟩ : ByteArray), .int .u32 0, .int .i64 0]) ?_ 1 _ rfl; refine blk_put (cs := #[.bool false, .int .i64 0, .int .u64 0, .int .u64 0, .int .i64 0, .int .i64 0, .string (⟨#[]⟩ : ByteArray), .int .u32 0, .int .i64 0]) ?_ 0 _ rfl; exact BK463.out) Try.underlying31 rfl (by kernel_rfl)) rfl ?_
          exact ⟨by rfl, by repeat (first | (with_reducible first | exact HB.out | refine below_set ?_ GE463.out))⟩
        · replace c11 := Bool.eq_false_iff.mpr c11
          subst c11
          have H1 : ((tenancyref04_Cut.f a0 (wrap64 (a1 + 1)) 2).bind fun bt466 => ((tenancyref04_GetAddr.f kj4 a0 (wrap64 (a1 + 3))).bind fun bt468 => (if bt466.2 = true then (tenancyref08_one.j1 kj4 a0 a1 t464 bt466.1 (!bt468.2.2) bt468.1 bt468.2.1) else (tenancyref08_one.j1 kj4 a0 a1 t464 bt466.1 true bt468.1 bt468.2.1)))) = some (r1, r2, r3, r4, r5, r6, r7, r8, r9, r10, r11) := by rw [if_neg (show ¬ (false = true) by decide)] at H; exact H
          clear H
          have H := H1
          clear H1
          replace H := Option.bind_eq_some_iff.mp H
          obtain ⟨⟨t466, t467⟩, A130, H⟩ := H
          replace H : ((tenancyref04_GetAddr.f kj4 a0 (wrap64 (a1 + 3))).bind fun bt468 => (if t467 = true then (tenancyref08_one.j1 kj4 a0 a1 t464 t466 (!bt468.2.2) bt468.1 bt468.2.1) else (tenancyref08_one.j1 kj4 a0 a1 t464 t466 true bt468.1 bt468.2.1))) = some (r1, r2, r3, r4, r5, r6, r7, r8, r9, r10, r11) := H
          have A13 := Aside0.mk A130
          clear A130
          replace H := Option.bind_eq_some_iff.mp H
          obtain ⟨⟨t468, t469, t470⟩, A140, H⟩ := H
          replace H : (if t467 = true then (tenancyref08_one.j1 kj4 a0 a1 t464 t466 (!t470) t468 t469) else (tenancyref08_one.j1 kj4 a0 a1 t464 t466 true t468 t469)) = some (r1, r2, r3, r4, r5, r6, r7, r8, r9, r10, r11) := H
          have A14 := Aside0.mk A140
          clear A140
          have HC15 := Aside0.mk H
          clear H
          go_upto_region 8 with (first | ((with_reducible refine gate_callee (f := 75) rfl ?_); refine goesL_ (some 42) rfl rfl Try.func75 (by kernel_rfl) rfl #[.string a0, .int .i64 (wrap64 (a1 + 1)), .int .i64 2] rfl (by (try simp only [List.map_toArray, List.map_cons, List.map_nil]); first | rfl) ?_; (with_reducible refine (tenancyref04_Cut.calls a0 (wrap64 (a1 + 1)) 2 t466 t467 _ A13.out).mono ?_); rintro e w' ⟨rfl, ⟨nd, rfl⟩⟩; refine ⟨_, rfl, ?_⟩; (try (rw [drewN_self wc]; generalize hq_ : World.drewN wc _ = wc; have n0_ : Aside0 (wc.heap[gb463]? = some (.cells #[.bool false, .int .i64 0, .int .u64 0, .int .u64 0, .int .i64 0, .int .i64 0, .string (⟨#[]⟩ : ByteArray), .int .u32 0, .int .i64 0] 31 (0, 0))) := ⟨by rw [← hq_]; exact (by (with_reducible repeat (first | refine blk_drewN ?_ _)); exact BK463.out)⟩; have n1_ : Aside0 (Below w.heap.size w wc) := ⟨by rw [← hq_]; exact (by repeat (first | (with_reducible first | exact HB.out | apply pw_below_drewN)))⟩; clear BK463 HB hq_; have BK463 := n0_; have HB := n1_; clear n0_ n1_))) | ((with_reducible refine gate_callee (f := 76) rfl ?_); refine goesL_ (some 49) rfl rfl Try.func76 (by kernel_rfl) rfl #[.string a0, .int .i64 (wrap64 (a1 + 3))] rfl (by (try simp only [List.map_toArray, List.map_cons, List.map_nil]); first | rfl) ?_; (with_reducible refine (tenancyref04_GetAddr.calls kj4 a0 (wrap64 (a1 + 3)) t468 t469 t470 _ A14.out).mono ?_); rintro e w16 ⟨rfl, hb⟩; refine ⟨_, rfl, ?_⟩; have n0_ := Aside0.mk (blk_below (g := gb463) (o := .cells #[.bool false, .int .i64 0, .int .u64 0, .int .u64 0, .int .i64 0, .int .i64 0, .string (⟨#[]⟩ : ByteArray), .int .u32 0, .int .i64 0] 31 (0, 0)) BK463.out hb); have n1_ := Aside0.mk (below_step HB.out hb); clear BK463; clear HB; have BK463 := n0_; have HB := n1_; clear n0_ n1_; (try clear hb); (try clear hb2); (try clear hk); (try clear hi)) | ((with_reducible refine gate_dst (N := 10) rfl ?_); refine box_event ?hg (N := 10) ?hd (cs := #[.int .u64 0, .int .u64 0]) (t := 24) ?hr ?_; (case hd => rfl); (case hg => rfl); (case hr => go_simp; done); intro gb471 hg w17 hbox hb; have n0_ := Aside0.mk (blk_below (g := gb463) (o := .cells #[.bool false, .int .i64 0, .int .u64 0, .int .u64 0, .int .i64 0, .int .i64 0, .string (⟨#[]⟩ : ByteArray), .int .u32 0, .int .i64 0] 31 (0, 0)) BK463.out hb); have n1_ := Aside0.mk (below_step HB.out hb); have n2_ := Aside0.mk (hbox); have n3_ := Aside0.mk ((by rw [hg]; exact (below_size HB.out) : w.heap.size ≤ gb471)); have n4_ := Aside0.mk ((by rw [hg]; exact (below_size HB.out) : w.heap.size ≤ gb471)); have n5_ := Aside0.mk ((by rw [hg]; exact Nat.ne_of_lt (blk_lt (g := gb463) (o := .cells #[.bool false, .int .i64 0, .int .u64 0, .int .u64 0, .int .i64 0, .int .i64 0, .string (⟨#[]⟩ : ByteArray), .int .u32 0, .int .i64 0] 31 (0, 0)) BK463.out) : gb463 ≠ gb471)); have n6_ := Aside0.mk ((by rw [hg]; exact Nat.ne_of_gt (blk_lt (g := gb463) (o := .cells #[.bool false, .int .i64 0, .int .u64 0, .int .u64 0, .int .i64 0, .int .i64 0, .string (⟨#[]⟩ : ByteArray), .int .u32 0, .int .i64 0] 31 (0, 0)) BK463.out) : gb471 ≠ gb463)); clear BK463; clear HB; have BK463 := n0_; have HB := n1_; have BK471 := n2_; have GW471 := n3_; have GE471 := n4_; have NB463_471 := n5_; have NB471_463 := n6_; clear n0_ n1_ n2_ n3_ n4_ n5_ n6_; clear hb hbox hg; have hnb18 := NB471_463.out; have hnc18 := NB463_471.out; obtain ⟨hcz19_0, hcz19_1⟩ := XRun.bc2 BK471.out; obtain ⟨hfz19_0, hfz19_1⟩ := XRun.bf2 BK471.out))
          (try simp only [Act.put, List.setIfInBounds_toArray, List.set_cons_zero, List.set_cons_succ])
          go_cut [57] (fun v57 wc => ∃ (kq : Nat) (x57_14 : Bool), v57 = .bool x57_14 ∧ Aside0 (tenancyref08_one.j1 kq a0 a1 t464 t466 x57_14 t468 t469 = some (r1, r2, r3, r4, r5, r6, r7, r8, r9, r10, r11)) ∧ Aside0 (kq ≤ kj4) ∧ Aside0 (wc.heap[gb463]? = some (.cells #[.bool false, .int .i64 0, .int .u64 0, .int .u64 0, .int .i64 0, .int .i64 0, .string (⟨#[]⟩ : ByteArray), .int .u32 0, .int .i64 0] 31 (0, 0))) ∧ Aside0 (wc.heap[gb471]? = some (.cells #[.int .u64 t468, .int .u64 t469] 24 (0, 0))) ∧ Aside0 (Below w.heap.size w wc))
          case first =>
            have H := HC15.out
            clear HC15
            by_cases c20 : t467 = true
            · subst c20
              have H1 : (tenancyref08_one.j1 kj4 a0 a1 t464 t466 (!t470) t468 t469) = some (r1, r2, r3, r4, r5, r6, r7, r8, r9, r10, r11) := by rw [if_pos rfl] at H; exact H
              clear H
              have H := H1
              clear H1
              have H' := Aside0.mk H
              clear H
              go_wp2
              go_meet
              case rel => exact ⟨_, (!t470), (by rfl), H', ⟨by have := HJ4.out; first | omega⟩, ⟨by refine blk_far ?_ NB463_471.out _; refine blk_far ?_ NB463_471.out _; exact BK463.out⟩, ⟨by refine blk_put (cs := #[.int .u64 t468, .int .u64 0]) ?_ 1 _ rfl; refine blk_put (cs := #[.int .u64 0, .int .u64 0]) ?_ 0 _ rfl; exact BK471.out⟩, ⟨by repeat (first | (with_reducible first | exact HB.out | refine below_set ?_ GE471.out))⟩⟩
            · replace c20 := Bool.eq_false_iff.mpr c20
              subst c20
              have H1 : (tenancyref08_one.j1 kj4 a0 a1 t464 t466 true t468 t469) = some (r1, r2, r3, r4, r5, r6, r7, r8, r9, r10, r11) := by rw [if_neg (show ¬ (false = true) by decide)] at H; exact H
              clear H
              have H := H1
              clear H1
              have H' := Aside0.mk H
              clear H
              go_wp2
              go_meet
              case rel => exact ⟨_, (true), (by rfl), H', ⟨by have := HJ4.out; first | omega⟩, ⟨by refine blk_far ?_ NB463_471.out _; refine blk_far ?_ NB463_471.out _; exact BK463.out⟩, ⟨by refine blk_put (cs := #[.int .u64 t468, .int .u64 0]) ?_ 1 _ rfl; refine blk_put (cs := #[.int .u64 0, .int .u64 0]) ?_ 0 _ rfl; exact BK471.out⟩, ⟨by repeat (first | (with_reducible first | exact HB.out | refine below_set ?_ GE471.out))⟩⟩
          case rest =>
            clear HC15
            try clear c1
            try clear p1
            try clear q1
            try clear hx1
            try clear qi1
            try clear c2
            try clear p2
            try clear c4
            try clear c5
            try clear p6
            try clear c7
            try clear c7b0
            try clear c7b1
            try clear p8
            try clear q8
            try clear hx8
            try clear qi8
            try clear c9
            try clear c9b0
            try clear c9b1
            try clear p10
            try clear q10
            try clear hx10
            try clear qi10
            try clear c11
            try clear c18
            try clear c20
            try clear hcz12_0
            try clear hcz12_1
            try clear hcz12_2
            try clear hcz12_3
            try clear hcz12_4
            try clear hcz12_5
            try clear hcz12_6
            try clear hcz12_7
            try clear hcz12_8
            try clear hcz19_0
            try clear hcz19_1
            try clear hfz12_0
            try clear hfz12_1
            try clear hfz12_2
            try clear hfz12_3
            try clear hfz12_4
            try clear hfz12_5
            try clear hfz12_6
            try clear hfz12_7
            try clear hfz12_8
            try clear hfz19_0
            try clear hfz19_1
            try clear p1
            try clear p10
            try clear p2
            try clear p8
            try clear q1
            try clear q10
            try clear q8
            obtain ⟨kq, x57_14, rfl, HA, HJ14, BK463, BK471, HB⟩ := hcut
            cases kq with
            | zero => exact absurd HA.out (by simp [tenancyref08_one.j1])
            | succ kj14 =>
              have H := HA.out
              clear HA
              simp only [tenancyref08_one.j1] at H
              by_cases c21 : x57_14 = true
              · subst c21
                have H1 : (some (false, 0, 0, 0, 0, 0, (⟨#[]⟩ : ByteArray), 0, 0, 0, 3)) = some (r1, r2, r3, r4, r5, r6, r7, r8, r9, r10, r11) := by rw [if_pos rfl] at H; exact H
                clear H
                have H := H1
                clear H1
                simp only [Option.some.injEq, Prod.mk.injEq] at H
                obtain ⟨rfl, rfl, rfl, rfl, rfl, rfl, rfl, rfl, rfl, rfl, rfl⟩ := H
                have hnb22 := NB463_471.out
                have hnc22 := NB471_463.out
                obtain ⟨hcz23_0, hcz23_1, hcz23_2, hcz23_3, hcz23_4, hcz23_5, hcz23_6, hcz23_7, hcz23_8⟩ := XRun.bc9 BK463.out
                obtain ⟨hfz23_0, hfz23_1, hfz23_2, hfz23_3, hfz23_4, hfz23_5, hfz23_6, hfz23_7, hfz23_8⟩ := XRun.bf9 BK463.out
                go_wp2
                refine bodyPost_ret (results_ctt rfl _ _ gb463 31 #[.bool false, .int .i64 0, .int .u64 0, .int .u64 0, .int .i64 0, .int .i64 0, .string (⟨#[]⟩ : ByteArray), .int .u32 0, .int .i64 0] (0, 0) _ rfl (by refine blk_put (cs := #[.bool false, .int .i64 0, .int .u64 0, .int .u64 0, .int .i64 0, .int .i64 0, .string (⟨#[]⟩ : ByteArray), .int .u32 0, .int .i64 0]) ?_ 8 _ rfl; refine blk_put (cs := #[.bool false, .int .i64 0, .int .u64 0, .int .u64 0, .int .i64 0, .int .i64 0, .string (⟨#[]⟩ : ByteArray), .int .u32 0, .int .i64 0]) ?_ 7 _ rfl; refine blk_put (cs := #[.bool false, .int .i64 0, .int .u64 0, .int .u64 0, .int .i64 0, .int .i64 0, .string (⟨#[]⟩ : ByteArray), .int .u32 0, .int .i64 0]) ?_ 6 _ rfl; refine blk_put (cs := #[.bool false, .int .i64 0, .int .u64 0, .int .u64 0, .int .i64 0, .int .i64 0, .string (⟨#[]⟩ : ByteArray), .int .u32 0, .int .i64 0]) ?_ 5 _ rfl; refine blk_put (cs := #[.bool false, .int .i64 0, .int .u64 0, .int .u64 0, .int .i64 0, .int .i64 0, .string (⟨#[]⟩ : ByteArray), .int .u32 0, .int .i64 0]) ?_ 4 _ rfl; refine blk_put (cs := #[.bool false, .int .i64 0, .int .u64 0, .int .u64 0, .int .i64 0, .int .i64 0, .string (⟨#[]⟩ : ByteArray), .int .u32 0, .int .i64 0]) ?_ 3 _ rfl; refine blk_put (cs := #[.bool false, .int .i64 0, .int .u64 0, .int .u64 0, .int .i64 0, .int .i64 0, .string (⟨#[]⟩ : ByteArray), .int .u32 0, .int .i64 0]) ?_ 2 _ rfl; refine blk_put (cs := #[.bool false, .int .i64 0, .int .u64 0, .int .u64 0, .int .i64 0, .int .i64 0, .string (⟨#[]⟩ : ByteArray), .int .u32 0, .int .i64 0]) ?_ 1 _ rfl; refine blk_put (cs := #[.bool false, .int .i64 0, .int .u64 0, .int .u64 0, .int .i64 0, .int .i64 0, .string (⟨#[]⟩ : ByteArray), .int .u32 0, .int .i64 0]) ?_ 0 _ rfl; exact BK463.out) Try.underlying31 rfl (by kernel_rfl)) rfl ?_
                exact ⟨by rfl, by repeat (first | (with_reducible first | exact HB.out | refine below_set ?_ GE463.out))⟩
              · replace c21 := Bool.eq_false_iff.mpr c21
                subst c21
                have H1 : (if 0 < (t466.size : Int) then (if 1 < (t466.size : Int) then (if 0 < (t464.size : Int) then (if (bt t464 0) = 2 then (some (true, wrap64 (bt t466 0), t468, t469, wrap64 (bt t466 1), 0, (⟨#[]⟩ : ByteArray), 0, 0, wrap64 (a1 + 19), 0)) else ((tenancyref04_Cut.f a0 (wrap64 (a1 + 19)) 1).bind fun bt473 => ((tenancyref04_Get32.f kj14 a0 (wrap64 (a1 + 20))).bind fun bt475 => ((tenancyref04_Get64.f kj14 a0 (wrap64 (a1 + 24))).bind fun bt477 => ((tenancyref04_TakeRun.f kj14 a0 (wrap64 (a1 + 32))).bind fun bt479 => (if bt473.2 = true then (if bt475.2 = true then (if bt477.2 = true then (if bt479.2.2 = true then (if 0 < (bt473.1.size : Int) then (some (false, wrap64 (bt t466 0), t468, t469, wrap64 (bt t466 1), wrap64 (bt bt473.1 0), bt479.1, bt475.1, wrap64 (bt477.1), bt479.2.1, 0)) else (none)) else (some (false, 0, 0, 0, 0, 0, (⟨#[]⟩ : ByteArray), 0, 0, 0, 3))) else (some (false, 0, 0, 0, 0, 0, (⟨#[]⟩ : ByteArray), 0, 0, 0, 3))) else (some (false, 0, 0, 0, 0, 0, (⟨#[]⟩ : ByteArray), 0, 0, 0, 3))) else (some (false, 0, 0, 0, 0, 0, (⟨#[]⟩ : ByteArray), 0, 0, 0, 3)))))))) else (none)) else (none)) else (none)) = some (r1, r2, r3, r4, r5, r6, r7, r8, r9, r10, r11) := by rw [if_neg (show ¬ (false = true) by decide)] at H; exact H
                clear H
                have H := H1
                clear H1
                by_cases c24 : 0 < (t466.size : Int)
                · rw [if_pos c24] at H
                  have c24b0 : decide (0 < (t466.size : Int)) = true := decide_eq_true c24
                  have c24b1 : decide (0 < t466.size) = true := decide_eq_true (by omega)
                  clear c24
                  by_cases c26 : 1 < (t466.size : Int)
                  · rw [if_pos c26] at H
                    have c26b0 : decide (1 < (t466.size : Int)) = true := decide_eq_true c26
                    have c26b1 : decide (1 < t466.size) = true := decide_eq_true (by omega)
                    clear c26
                    by_cases c28 : 0 < (t464.size : Int)
                    · rw [if_pos c28] at H
                      have c28b0 : decide (0 < (t464.size : Int)) = true := decide_eq_true c28
                      have c28b1 : decide (0 < t464.size) = true := decide_eq_true (by omega)
                      clear c28
                      try go_wp2
                      have n0_ := Aside0.mk (blk_drew BK463.out)
                      have n1_ := Aside0.mk (blk_drew BK471.out)
                      have n2_ := Aside0.mk (below_drew1 HB.out)
                      clear BK463
                      clear BK471
                      clear HB
                      have BK463 := n0_
                      have BK471 := n1_
                      have HB := n2_
                      clear n0_ n1_ n2_
                      have p25 : 0 ≤ (0 : Int) := (by omega)
                      have q25 : 0 < t466.size := (by have : (0 : Int) < (t466.size : Int) := of_decide_eq_true (by first | (with_reducible assumption)); omega)
                      have hx25 : ∀ h : 0 < t466.size, ((t466[0]'h).toNat : Int) = bt t466 0 := bt_at t466 0
                      clear p25
                      have qi25 : (0 < (t466.size : Int)) = True := eq_true (of_decide_eq_true (by first | (with_reducible assumption)))
                      replace q25 := eq_true q25
                      have p27 : 0 ≤ (1 : Int) := (by omega)
                      have q27 : 1 < t466.size := (by have : (1 : Int) < (t466.size : Int) := of_decide_eq_true (by first | (with_reducible assumption)); omega)
                      have hx27 : ∀ h : 1 < t466.size, ((t466[1]'h).toNat : Int) = bt t466 1 := bt_at t466 1
                      clear p27
                      have qi27 : (1 < (t466.size : Int)) = True := eq_true (of_decide_eq_true (by first | (with_reducible assumption)))
                      replace q27 := eq_true q27
                      refine start_ (n := 11) (S := fun w' => w'.cell? ⟨gb471, 0, none⟩ = some (.int .u64 t468) ∧ w'.cell? ⟨gb471, 1, none⟩ = some (.int .u64 t469)) (ds := []) #[false, false, false, false, false, false, false, false, false, false, false] (by kernel_rfl) rfl rfl ⟨(blk_cell BK471.out 0).trans rfl, (blk_cell BK471.out 1).trans rfl⟩ (fun hHeld => ?_); refine with_tabW tenancyref08_one.tab10 tenancyref08_one.bits10 (fun HT_ HW_ => ?_)
                      generalize wc.drew = w56 at BK463 BK471 HB hHeld ⊢
                      refine pure_ (i := 0) (N := some 59) (v := ?_) (a' := ?_) #[true, false, false, false, false, false, false, false, false, false, false] rfl rfl (any_of HT_.out (by kernel_rfl)) (fun _ _ _ h => h) (Or.inl ⟨by rfl, ?_⟩) ?_ ?_
                      rotate_left
                      · intro w'
                        go_simp
                        with_reducible rfl
                      rotate_left
                      · simp only [Act.put, List.setIfInBounds_toArray, List.set_cons_zero, List.set_cons_succ, i64_w, i32_w]
                        rfl
                      refine pure_ (i := 4) (N := some 63) (v := ?_) (a' := ?_) #[true, false, false, false, true, false, false, false, false, false, false] rfl rfl (any_of HT_.out (by kernel_rfl)) (fun _ _ _ h => h) (Or.inl ⟨by rfl, ?_⟩) ?_ ?_
                      rotate_left
                      · intro w'
                        go_simp
                        with_reducible rfl
                      rotate_left
                      · simp only [Act.put, List.setIfInBounds_toArray, List.set_cons_zero, List.set_cons_succ, i64_w, i32_w]
                        rfl
                      refine take_ (i := 1) (N := some 60) (v := ?_) (a' := ?_) #[true, true, false, false, true, false, false, false, false, false, false] rfl rfl (take_ofW HT_.out HW_.out (by kernel_rfl)) (fun _ _ _ h => h) (Or.inl ⟨by rfl, ?_⟩) hHeld ?_ ?_
                      rotate_left
                      · rintro w' ⟨s0, s1⟩
                        go_simp
                        with_reducible rfl
                      rotate_left
                      · simp only [Act.put, List.setIfInBounds_toArray, List.set_cons_zero, List.set_cons_succ, i64_w, i32_w]
                        rfl
                      refine pure_ (i := 2) (N := some 61) (v := ?_) (a' := ?_) #[true, true, true, false, true, false, false, false, false, false, false] rfl rfl (any_of HT_.out (by kernel_rfl)) (fun _ _ _ h => h) (Or.inl ⟨by rfl, ?_⟩) ?_ ?_
                      rotate_left
                      · intro w'
                        go_simp
                        with_reducible rfl
                      rotate_left
                      · simp only [Act.put, List.setIfInBounds_toArray, List.set_cons_zero, List.set_cons_succ, i64_w, i32_w]
                        rfl
                      refine take_ (i := 3) (N := some 62) (v := ?_) (a' := ?_) #[true, true, true, true, true, false, false, false, false, false, false] rfl rfl (take_ofW HT_.out HW_.out (by kernel_rfl)) (fun _ _ _ h => h) (Or.inl ⟨by rfl, ?_⟩) hHeld ?_ ?_
                      rotate_left
                      · rintro w' ⟨s0, s1⟩
                        go_simp
                        with_reducible rfl
                      rotate_left
                      · simp only [Act.put, List.setIfInBounds_toArray, List.set_cons_zero, List.set_cons_succ, i64_w, i32_w]
                        rfl
                      refine take_ (i := 5) (N := some 64) (v := ?_) (a' := ?_) #[true, true, true, true, true, true, false, false, false, false, false] rfl rfl (take_ofW HT_.out HW_.out (by kernel_rfl)) (fun _ _ _ h => h) (Or.inl ⟨by rfl, ?_⟩) hHeld ?_ ?_
                      rotate_left
                      · rintro w' ⟨s0, s1⟩
                        go_simp
                        with_reducible rfl
                      rotate_left
                      · simp only [Act.put, List.setIfInBounds_toArray, List.set_cons_zero, List.set_cons_succ, i64_w, i32_w]
                        rfl
                      refine pure_ (i := 6) (N := some 65) (v := ?_) (a' := ?_) #[true, true, true, true, true, true, true, false, false, false, false] rfl rfl (any_of HT_.out (by kernel_rfl)) (fun _ _ _ h => h) (Or.inl ⟨by rfl, ?_⟩) ?_ ?_
                      rotate_left
                      · intro w'
                        go_simp
                        with_reducible rfl
                      rotate_left
                      · simp only [Act.put, List.setIfInBounds_toArray, List.set_cons_zero, List.set_cons_succ, i64_w, i32_w]
                        rfl
                      refine pure_ (i := 7) (N := some 66) (v := ?_) (a' := ?_) #[true, true, true, true, true, true, true, true, false, false, false] rfl rfl (any_of HT_.out (by kernel_rfl)) (fun _ _ _ h => h) (Or.inl ⟨by rfl, ?_⟩) ?_ ?_
                      rotate_left
                      · intro w'
                        go_simp
                        with_reducible rfl
                      rotate_left
                      · simp only [Act.put, List.setIfInBounds_toArray, List.set_cons_zero, List.set_cons_succ, i64_w, i32_w]
                        rfl
                      refine pure_ (i := 8) (N := some 67) (v := ?_) (a' := ?_) #[true, true, true, true, true, true, true, true, true, false, false] rfl rfl (any_of HT_.out (by kernel_rfl)) (fun _ _ _ h => h) (Or.inl ⟨by rfl, ?_⟩) ?_ ?_
                      rotate_left
                      · intro w'
                        go_simp
                        with_reducible rfl
                      rotate_left
                      · simp only [Act.put, List.setIfInBounds_toArray, List.set_cons_zero, List.set_cons_succ, i64_w, i32_w]
                        rfl
                      refine one_ (i := 9) (N := some 12) #[true, true, true, true, true, true, true, true, true, true, false] rfl rfl (one_of HT_.out (by kernel_rfl)) (by decide) (fun K hK => ?_)
                      refine box_step ?hg (N := 12) ?hd (cs := #[.int .i64 0, .int .u64 0, .int .u64 0, .int .i64 0, .int .i64 0, .string (⟨#[]⟩ : ByteArray), .int .u32 0, .int .i64 0]) (t := 29) ?hr ?_; (case hd => rfl); (case hg => rfl); (case hr => go_simp; done)
                      intro gb472 hg w57 hbox hb
                      have n0_ := Aside0.mk (blk_below (g := gb463) (o := .cells #[.bool false, .int .i64 0, .int .u64 0, .int .u64 0, .int .i64 0, .int .i64 0, .string (⟨#[]⟩ : ByteArray), .int .u32 0, .int .i64 0] 31 (0, 0)) BK463.out hb)
                      have n1_ := Aside0.mk (blk_below (g := gb471) (o := .cells #[.int .u64 t468, .int .u64 t469] 24 (0, 0)) BK471.out hb)
                      have n2_ := Aside0.mk (below_step HB.out hb)
                      have n3_ := Aside0.mk (hbox)
                      have n4_ := Aside0.mk ((by rw [hg]; exact (below_size HB.out) : w.heap.size ≤ gb472))
                      have n5_ := Aside0.mk ((by rw [hg]; exact (below_size HB.out) : w.heap.size ≤ gb472))
                      have n6_ := Aside0.mk ((by rw [hg]; exact Nat.ne_of_lt (blk_lt (g := gb463) (o := .cells #[.bool false, .int .i64 0, .int .u64 0, .int .u64 0, .int .i64 0, .int .i64 0, .string (⟨#[]⟩ : ByteArray), .int .u32 0, .int .i64 0] 31 (0, 0)) BK463.out) : gb463 ≠ gb472))
                      have n7_ := Aside0.mk ((by rw [hg]; exact Nat.ne_of_gt (blk_lt (g := gb463) (o := .cells #[.bool false, .int .i64 0, .int .u64 0, .int .u64 0, .int .i64 0, .int .i64 0, .string (⟨#[]⟩ : ByteArray), .int .u32 0, .int .i64 0] 31 (0, 0)) BK463.out) : gb472 ≠ gb463))
                      have n8_ := Aside0.mk ((by rw [hg]; exact Nat.ne_of_lt (blk_lt (g := gb471) (o := .cells #[.int .u64 t468, .int .u64 t469] 24 (0, 0)) BK471.out) : gb471 ≠ gb472))
                      have n9_ := Aside0.mk ((by rw [hg]; exact Nat.ne_of_gt (blk_lt (g := gb471) (o := .cells #[.int .u64 t468, .int .u64 t469] 24 (0, 0)) BK471.out) : gb472 ≠ gb471))
                      clear BK463
                      clear BK471
                      clear HB
                      have BK463 := n0_
                      have BK471 := n1_
                      have HB := n2_
                      have BK472 := n3_
                      have GW472 := n4_
                      have GE472 := n5_
                      have NB463_472 := n6_
                      have NB472_463 := n7_
                      have NB471_472 := n8_
                      have NB472_471 := n9_
                      clear n0_ n1_ n2_ n3_ n4_ n5_ n6_ n7_ n8_ n9_
                      clear hb hbox hg
                      refine hK.out _ _ ⟨(blk_cell BK471.out 0).trans rfl, (blk_cell BK471.out 1).trans rfl⟩ (fun hHeld => ?_)
                      clear hK K
                      refine norm_ (a' := ?_) ?_ ?_
                      rotate_left
                      · show Act.put _ (some 12) _ = _
                        simp only [Act.put, List.setIfInBounds_toArray, List.set_cons_zero, List.set_cons_succ, i64_w, i32_w]
                        rfl
                      refine one_ (i := 10) (N := none) #[true, true, true, true, true, true, true, true, true, true, true] rfl rfl (one_of HT_.out (by kernel_rfl)) (by decide) (fun K hK => ?_)
                      have hs58 : w57.cell? ⟨gb472, 0, none⟩ = some (.int .i64 0) := (blk_cell BK472.out 0).trans rfl
                      have hfs58 := blk_frozen BK472.out 0
                      have hns58_0 := NB463_472.out
                      have hns58_1 := NB471_472.out
                      have hms58_0 := NB472_463.out
                      have hms58_1 := NB472_471.out
                      have hs59 : w57.cell? ⟨gb472, 1, none⟩ = some (.int .u64 0) := (blk_cell BK472.out 1).trans rfl
                      have hfs59 := blk_frozen BK472.out 1
                      have hns59_0 := NB463_472.out
                      have hns59_1 := NB471_472.out
                      have hms59_0 := NB472_463.out
                      have hms59_1 := NB472_471.out
                      have hs60 : w57.cell? ⟨gb472, 2, none⟩ = some (.int .u64 0) := (blk_cell BK472.out 2).trans rfl
                      have hfs60 := blk_frozen BK472.out 2
                      have hns60_0 := NB463_472.out
                      have hns60_1 := NB471_472.out
                      have hms60_0 := NB472_463.out
                      have hms60_1 := NB472_471.out
                      have hs61 : w57.cell? ⟨gb472, 3, none⟩ = some (.int .i64 0) := (blk_cell BK472.out 3).trans rfl
                      have hfs61 := blk_frozen BK472.out 3
                      have hns61_0 := NB463_472.out
                      have hns61_1 := NB471_472.out
                      have hms61_0 := NB472_463.out
                      have hms61_1 := NB472_471.out
                      have hs62 : w57.cell? ⟨gb472, 4, none⟩ = some (.int .i64 0) := (blk_cell BK472.out 4).trans rfl
                      have hfs62 := blk_frozen BK472.out 4
                      have hns62_0 := NB463_472.out
                      have hns62_1 := NB471_472.out
                      have hms62_0 := NB472_463.out
                      have hms62_1 := NB472_471.out
                      have hs63 : w57.cell? ⟨gb472, 5, none⟩ = some (.string (⟨#[]⟩ : ByteArray)) := (blk_cell BK472.out 5).trans rfl
                      have hfs63 := blk_frozen BK472.out 5
                      have hns63_0 := NB463_472.out
                      have hns63_1 := NB471_472.out
                      have hms63_0 := NB472_463.out
                      have hms63_1 := NB472_471.out
                      have hs64 : w57.cell? ⟨gb472, 6, none⟩ = some (.int .u32 0) := (blk_cell BK472.out 6).trans rfl
                      have hfs64 := blk_frozen BK472.out 6
                      have hns64_0 := NB463_472.out
                      have hns64_1 := NB471_472.out
                      have hms64_0 := NB472_463.out
                      have hms64_1 := NB472_471.out
                      have hs65 : w57.cell? ⟨gb472, 7, none⟩ = some (.int .i64 0) := (blk_cell BK472.out 7).trans rfl
                      have hfs65 := blk_frozen BK472.out 7
                      have hns65_0 := NB463_472.out
                      have hns65_1 := NB471_472.out
                      have hms65_0 := NB472_463.out
                      have hms65_1 := NB472_471.out
                      refine skip_ (w1 := ?_) (by rfl) rfl ?_ ?_
                      rotate_left
                      · go_simp
                        rfl
                      refine hK.out _ _ ⟨((cell_far (p := ⟨gb472, _, none⟩) NB471_472.out _).trans (((cell_far (p := ⟨gb472, _, none⟩) NB471_472.out _).trans (((cell_far (p := ⟨gb472, _, none⟩) NB471_472.out _).trans (((cell_far (p := ⟨gb472, _, none⟩) NB471_472.out _).trans (((cell_far (p := ⟨gb472, _, none⟩) NB471_472.out _).trans (((cell_far (p := ⟨gb472, _, none⟩) NB471_472.out _).trans (((cell_far (p := ⟨gb472, _, none⟩) NB471_472.out _).trans (((cell_far (p := ⟨gb472, _, none⟩) NB471_472.out _).trans (hHeld.1)))))))))))))))), ((cell_far (p := ⟨gb472, _, none⟩) NB471_472.out _).trans (((cell_far (p := ⟨gb472, _, none⟩) NB471_472.out _).trans (((cell_far (p := ⟨gb472, _, none⟩) NB471_472.out _).trans (((cell_far (p := ⟨gb472, _, none⟩) NB471_472.out _).trans (((cell_far (p := ⟨gb472, _, none⟩) NB471_472.out _).trans (((cell_far (p := ⟨gb472, _, none⟩) NB471_472.out _).trans (((cell_far (p := ⟨gb472, _, none⟩) NB471_472.out _).trans (((cell_far (p := ⟨gb472, _, none⟩) NB471_472.out _).trans (hHeld.2))))))))))))))))⟩ (fun hHeld => ?_)
                      clear hK K
                      refine done_ (done_of HT_.out (by kernel_rfl)) ?_
                      have p29 : 0 ≤ (0 : Int) := (by omega)
                      have q29 : 0 < t464.size := (by have : (0 : Int) < (t464.size : Int) := of_decide_eq_true (by first | (with_reducible assumption)); omega)
                      have hx29 : ∀ h : 0 < t464.size, ((t464[0]'h).toNat : Int) = bt t464 0 := bt_at t464 0
                      clear p29
                      have qi29 : (0 < (t464.size : Int)) = True := eq_true (of_decide_eq_true (by first | (with_reducible assumption)))
                      replace q29 := eq_true q29
                      by_cases c30 : (bt t464 0) = 2
                      · rw [if_pos c30] at H
                        have c30b0 : ((bt t464 0) == 2) = true := beq_iff_eq.mpr c30
                        have c30b1 : ((bt t464 0) != 2) = false := bne_eq_false_iff_eq.mpr c30
                        clear c30
                        simp only [Option.some.injEq, Prod.mk.injEq] at H
                        obtain ⟨rfl, rfl, rfl, rfl, rfl, rfl, rfl, rfl, rfl, rfl, rfl⟩ := H
                        have hnb41 := NB472_463.out
                        have hnc41 := NB463_472.out
                        have hnb42 := NB472_471.out
                        have hnc42 := NB471_472.out
                        obtain ⟨hcz43_0, hcz43_1, hcz43_2, hcz43_3, hcz43_4, hcz43_5, hcz43_6, hcz43_7⟩ := XRun.bc8 BK472.out
                        obtain ⟨hfz43_0, hfz43_1, hfz43_2, hfz43_3, hfz43_4, hfz43_5, hfz43_6, hfz43_7⟩ := XRun.bf8 BK472.out
                        have hnb44 := NB463_471.out
                        have hnc44 := NB471_463.out
                        obtain ⟨hcz45_0, hcz45_1, hcz45_2, hcz45_3, hcz45_4, hcz45_5, hcz45_6, hcz45_7, hcz45_8⟩ := XRun.bc9 BK463.out
                        obtain ⟨hfz45_0, hfz45_1, hfz45_2, hfz45_3, hfz45_4, hfz45_5, hfz45_6, hfz45_7, hfz45_8⟩ := XRun.bf9 BK463.out
                        try go_wp2
                        refine bodyPost_ret (results_ctt rfl _ _ gb463 31 #[.bool true, .int .i64 (wrap64 (bt t466 0)), .int .u64 t468, .int .u64 t469, .int .i64 (wrap64 (bt t466 1)), .int .i64 0, .string (⟨#[]⟩ : ByteArray), .int .u32 0, .int .i64 0] (0, 0) _ rfl (by refine blk_put (cs := #[.bool true, .int .i64 (wrap64 (bt t466 0)), .int .u64 t468, .int .u64 t469, .int .i64 (wrap64 (bt t466 1)), .int .i64 0, .string (⟨#[]⟩ : ByteArray), .int .u32 0, .int .i64 0]) ?_ 8 _ rfl; refine blk_put (cs := #[.bool true, .int .i64 (wrap64 (bt t466 0)), .int .u64 t468, .int .u64 t469, .int .i64 (wrap64 (bt t466 1)), .int .i64 0, .string (⟨#[]⟩ : ByteArray), .int .u32 0, .int .i64 0]) ?_ 7 _ rfl; refine blk_put (cs := #[.bool true, .int .i64 (wrap64 (bt t466 0)), .int .u64 t468, .int .u64 t469, .int .i64 (wrap64 (bt t466 1)), .int .i64 0, .string (⟨#[]⟩ : ByteArray), .int .u32 0, .int .i64 0]) ?_ 6 _ rfl; refine blk_put (cs := #[.bool true, .int .i64 (wrap64 (bt t466 0)), .int .u64 t468, .int .u64 t469, .int .i64 (wrap64 (bt t466 1)), .int .i64 0, .string (⟨#[]⟩ : ByteArray), .int .u32 0, .int .i64 0]) ?_ 5 _ rfl; refine blk_put (cs := #[.bool true, .int .i64 (wrap64 (bt t466 0)), .int .u64 t468, .int .u64 t469, .int .i64 0, .int .i64 0, .string (⟨#[]⟩ : ByteArray), .int .u32 0, .int .i64 0]) ?_ 4 _ rfl; refine blk_put (cs := #[.bool true, .int .i64 (wrap64 (bt t466 0)), .int .u64 t468, .int .u64 0, .int .i64 0, .int .i64 0, .string (⟨#[]⟩ : ByteArray), .int .u32 0, .int .i64 0]) ?_ 3 _ rfl; refine blk_put (cs := #[.bool true, .int .i64 (wrap64 (bt t466 0)), .int .u64 0, .int .u64 0, .int .i64 0, .int .i64 0, .string (⟨#[]⟩ : ByteArray), .int .u32 0, .int .i64 0]) ?_ 2 _ rfl; refine blk_put (cs := #[.bool true, .int .i64 0, .int .u64 0, .int .u64 0, .int .i64 0, .int .i64 0, .string (⟨#[]⟩ : ByteArray), .int .u32 0, .int .i64 0]) ?_ 1 _ rfl; refine blk_put (cs := #[.bool false, .int .i64 0, .int .u64 0, .int .u64 0, .int .i64 0, .int .i64 0, .string (⟨#[]⟩ : ByteArray), .int .u32 0, .int .i64 0]) ?_ 0 _ rfl; refine blk_far ?_ NB463_472.out _; refine blk_far ?_ NB463_472.out _; refine blk_far ?_ NB463_472.out _; refine blk_far ?_ NB463_472.out _; refine blk_far ?_ NB463_472.out _; refine blk_far ?_ NB463_472.out _; refine blk_far ?_ NB463_472.out _; refine blk_far ?_ NB463_472.out _; exact BK463.out) Try.underlying31 rfl (by kernel_rfl)) rfl ?_
                        exact ⟨by rfl, by repeat (first | (with_reducible first | exact HB.out | refine below_set ?_ GE463.out | refine below_set ?_ GE472.out))⟩
                      · rw [if_neg c30] at H
                        have c30b0 : ((bt t464 0) == 2) = false := beq_eq_false_iff_ne.mpr c30
                        have c30b1 : ((bt t464 0) != 2) = true := bne_iff_ne.mpr c30
                        replace H := Option.bind_eq_some_iff.mp H
                        obtain ⟨⟨t473, t474⟩, A460, H⟩ := H
                        replace H : ((tenancyref04_Get32.f kj14 a0 (wrap64 (a1 + 20))).bind fun bt475 => ((tenancyref04_Get64.f kj14 a0 (wrap64 (a1 + 24))).bind fun bt477 => ((tenancyref04_TakeRun.f kj14 a0 (wrap64 (a1 + 32))).bind fun bt479 => (if t474 = true then (if bt475.2 = true then (if bt477.2 = true then (if bt479.2.2 = true then (if 0 < (t473.size : Int) then (some (false, wrap64 (bt t466 0), t468, t469, wrap64 (bt t466 1), wrap64 (bt t473 0), bt479.1, bt475.1, wrap64 (bt477.1), bt479.2.1, 0)) else (none)) else (some (false, 0, 0, 0, 0, 0, (⟨#[]⟩ : ByteArray), 0, 0, 0, 3))) else (some (false, 0, 0, 0, 0, 0, (⟨#[]⟩ : ByteArray), 0, 0, 0, 3))) else (some (false, 0, 0, 0, 0, 0, (⟨#[]⟩ : ByteArray), 0, 0, 0, 3))) else (some (false, 0, 0, 0, 0, 0, (⟨#[]⟩ : ByteArray), 0, 0, 0, 3)))))) = some (r1, r2, r3, r4, r5, r6, r7, r8, r9, r10, r11) := H
                        have A46 := Aside0.mk A460
                        clear A460
                        replace H := Option.bind_eq_some_iff.mp H
                        obtain ⟨⟨t475, t476⟩, A470, H⟩ := H
                        replace H : ((tenancyref04_Get64.f kj14 a0 (wrap64 (a1 + 24))).bind fun bt477 => ((tenancyref04_TakeRun.f kj14 a0 (wrap64 (a1 + 32))).bind fun bt479 => (if t474 = true then (if t476 = true then (if bt477.2 = true then (if bt479.2.2 = true then (if 0 < (t473.size : Int) then (some (false, wrap64 (bt t466 0), t468, t469, wrap64 (bt t466 1), wrap64 (bt t473 0), bt479.1, t475, wrap64 (bt477.1), bt479.2.1, 0)) else (none)) else (some (false, 0, 0, 0, 0, 0, (⟨#[]⟩ : ByteArray), 0, 0, 0, 3))) else (some (false, 0, 0, 0, 0, 0, (⟨#[]⟩ : ByteArray), 0, 0, 0, 3))) else (some (false, 0, 0, 0, 0, 0, (⟨#[]⟩ : ByteArray), 0, 0, 0, 3))) else (some (false, 0, 0, 0, 0, 0, (⟨#[]⟩ : ByteArray), 0, 0, 0, 3))))) = some (r1, r2, r3, r4, r5, r6, r7, r8, r9, r10, r11) := H
                        have A47 := Aside0.mk A470
                        clear A470
                        replace H := Option.bind_eq_some_iff.mp H
                        obtain ⟨⟨t477, t478⟩, A480, H⟩ := H
                        replace H : ((tenancyref04_TakeRun.f kj14 a0 (wrap64 (a1 + 32))).bind fun bt479 => (if t474 = true then (if t476 = true then (if t478 = true then (if bt479.2.2 = true then (if 0 < (t473.size : Int) then (some (false, wrap64 (bt t466 0), t468, t469, wrap64 (bt t466 1), wrap64 (bt t473 0), bt479.1, t475, wrap64 (t477), bt479.2.1, 0)) else (none)) else (some (false, 0, 0, 0, 0, 0, (⟨#[]⟩ : ByteArray), 0, 0, 0, 3))) else (some (false, 0, 0, 0, 0, 0, (⟨#[]⟩ : ByteArray), 0, 0, 0, 3))) else (some (false, 0, 0, 0, 0, 0, (⟨#[]⟩ : ByteArray), 0, 0, 0, 3))) else (some (false, 0, 0, 0, 0, 0, (⟨#[]⟩ : ByteArray), 0, 0, 0, 3)))) = some (r1, r2, r3, r4, r5, r6, r7, r8, r9, r10, r11) := H
                        have A48 := Aside0.mk A480
                        clear A480
                        replace H := Option.bind_eq_some_iff.mp H
                        obtain ⟨⟨t479, t480, t481⟩, A490, H⟩ := H
                        replace H : (if t474 = true then (if t476 = true then (if t478 = true then (if t481 = true then (if 0 < (t473.size : Int) then (some (false, wrap64 (bt t466 0), t468, t469, wrap64 (bt t466 1), wrap64 (bt t473 0), t479, t475, wrap64 (t477), t480, 0)) else (none)) else (some (false, 0, 0, 0, 0, 0, (⟨#[]⟩ : ByteArray), 0, 0, 0, 3))) else (some (false, 0, 0, 0, 0, 0, (⟨#[]⟩ : ByteArray), 0, 0, 0, 3))) else (some (false, 0, 0, 0, 0, 0, (⟨#[]⟩ : ByteArray), 0, 0, 0, 3))) else (some (false, 0, 0, 0, 0, 0, (⟨#[]⟩ : ByteArray), 0, 0, 0, 3))) = some (r1, r2, r3, r4, r5, r6, r7, r8, r9, r10, r11) := H
                        have A49 := Aside0.mk A490
                        clear A490
                        by_cases c50 : t474 = true
                        · subst c50
                          have H1 : (if t476 = true then (if t478 = true then (if t481 = true then (if 0 < (t473.size : Int) then (some (false, wrap64 (bt t466 0), t468, t469, wrap64 (bt t466 1), wrap64 (bt t473 0), t479, t475, wrap64 (t477), t480, 0)) else (none)) else (some (false, 0, 0, 0, 0, 0, (⟨#[]⟩ : ByteArray), 0, 0, 0, 3))) else (some (false, 0, 0, 0, 0, 0, (⟨#[]⟩ : ByteArray), 0, 0, 0, 3))) else (some (false, 0, 0, 0, 0, 0, (⟨#[]⟩ : ByteArray), 0, 0, 0, 3))) = some (r1, r2, r3, r4, r5, r6, r7, r8, r9, r10, r11) := by rw [if_pos rfl] at H; exact H
                          clear H
                          have H := H1
                          clear H1
                          by_cases c51 : t476 = true
                          · subst c51
                            have H1 : (if t478 = true then (if t481 = true then (if 0 < (t473.size : Int) then (some (false, wrap64 (bt t466 0), t468, t469, wrap64 (bt t466 1), wrap64 (bt t473 0), t479, t475, wrap64 (t477), t480, 0)) else (none)) else (some (false, 0, 0, 0, 0, 0, (⟨#[]⟩ : ByteArray), 0, 0, 0, 3))) else (some (false, 0, 0, 0, 0, 0, (⟨#[]⟩ : ByteArray), 0, 0, 0, 3))) = some (r1, r2, r3, r4, r5, r6, r7, r8, r9, r10, r11) := by rw [if_pos rfl] at H; exact H
                            clear H
                            have H := H1
                            clear H1
                            by_cases c52 : t478 = true
                            · subst c52
                              have H1 : (if t481 = true then (if 0 < (t473.size : Int) then (some (false, wrap64 (bt t466 0), t468, t469, wrap64 (bt t466 1), wrap64 (bt t473 0), t479, t475, wrap64 (t477), t480, 0)) else (none)) else (some (false, 0, 0, 0, 0, 0, (⟨#[]⟩ : ByteArray), 0, 0, 0, 3))) = some (r1, r2, r3, r4, r5, r6, r7, r8, r9, r10, r11) := by rw [if_pos rfl] at H; exact H
                              clear H
                              have H := H1
                              clear H1
                              by_cases c53 : t481 = true
                              · subst c53
                                have H1 : (if 0 < (t473.size : Int) then (some (false, wrap64 (bt t466 0), t468, t469, wrap64 (bt t466 1), wrap64 (bt t473 0), t479, t475, wrap64 (t477), t480, 0)) else (none)) = some (r1, r2, r3, r4, r5, r6, r7, r8, r9, r10, r11) := by rw [if_pos rfl] at H; exact H
                                clear H
                                have H := H1
                                clear H1
                                by_cases c54 : 0 < (t473.size : Int)
                                · rw [if_pos c54] at H
                                  have c54b0 : decide (0 < (t473.size : Int)) = true := decide_eq_true c54
                                  have c54b1 : decide (0 < t473.size) = true := decide_eq_true (by omega)
                                  clear c54
                                  simp only [Option.some.injEq, Prod.mk.injEq] at H
                                  obtain ⟨rfl, rfl, rfl, rfl, rfl, rfl, rfl, rfl, rfl, rfl, rfl⟩ := H
                                  go_upto_region 17 with (first | ((with_reducible refine gate_callee (f := 75) rfl ?_); refine goesL_ (some 79) rfl rfl Try.func75 (by kernel_rfl) rfl #[.string a0, .int .i64 (wrap64 (a1 + 19)), .int .i64 1] rfl (by (try simp only [List.map_toArray, List.map_cons, List.map_nil]); first | rfl) ?_; (with_reducible refine (tenancyref04_Cut.calls a0 (wrap64 (a1 + 19)) 1 t473 true _ A46.out).mono ?_); rintro e w' ⟨rfl, ⟨nd, rfl⟩⟩; refine ⟨_, rfl, ?_⟩) | ((with_reducible refine gate_callee (f := 77) rfl ?_); refine goesL_ (some 86) rfl rfl Try.func77 (by kernel_rfl) rfl #[.string a0, .int .i64 (wrap64 (a1 + 20))] rfl (by (try simp only [List.map_toArray, List.map_cons, List.map_nil]); first | rfl) ?_; (with_reducible refine (tenancyref04_Get32.calls kj14 a0 (wrap64 (a1 + 20)) t475 true _ A47.out).mono ?_); rintro e w' ⟨rfl, ⟨nd, rfl⟩⟩; refine ⟨_, rfl, ?_⟩) | ((with_reducible refine gate_callee (f := 78) rfl ?_); refine goesL_ (some 93) rfl rfl Try.func78 (by kernel_rfl) rfl #[.string a0, .int .i64 (wrap64 (a1 + 24))] rfl (by (try simp only [List.map_toArray, List.map_cons, List.map_nil]); first | rfl) ?_; (with_reducible refine (tenancyref04_Get64.calls kj14 a0 (wrap64 (a1 + 24)) t477 true _ A48.out).mono ?_); rintro e w' ⟨rfl, ⟨nd, rfl⟩⟩; refine ⟨_, rfl, ?_⟩) | ((with_reducible refine gate_callee (f := 79) rfl ?_); refine goesL_ (some 100) rfl rfl Try.func79 (by kernel_rfl) rfl #[.string a0, .int .i64 (wrap64 (a1 + 32))] rfl (by (try simp only [List.map_toArray, List.map_cons, List.map_nil]); first | rfl) ?_; (with_reducible refine (tenancyref04_TakeRun.calls kj14 a0 (wrap64 (a1 + 32)) t479 t480 true _ A49.out).mono ?_); rintro e w' ⟨rfl, ⟨nd, rfl⟩⟩; refine ⟨_, rfl, ?_⟩; have p55 : 0 ≤ (0 : Int) := (by omega); have q55 : 0 < t473.size := (by have : (0 : Int) < (t473.size : Int) := of_decide_eq_true (by first | (with_reducible assumption)); omega); have hx55 : ∀ h : 0 < t473.size, ((t473[0]'h).toNat : Int) = bt t473 0 := bt_at t473 0; clear p55; have qi55 : (0 < (t473.size : Int)) = True := eq_true (of_decide_eq_true (by first | (with_reducible assumption))); replace q55 := eq_true q55; have hnb66 := NB472_463.out; have hnc66 := NB463_472.out; have hnb67 := NB472_471.out; have hnc67 := NB471_472.out; obtain ⟨hcz68_0, hcz68_1, hcz68_2, hcz68_3, hcz68_4, hcz68_5, hcz68_6, hcz68_7⟩ := XRun.bc8 BK472.out; obtain ⟨hfz68_0, hfz68_1, hfz68_2, hfz68_3, hfz68_4, hfz68_5, hfz68_6, hfz68_7⟩ := XRun.bf8 BK472.out; have hnb69 := NB463_471.out; have hnc69 := NB471_463.out; obtain ⟨hcz70_0, hcz70_1, hcz70_2, hcz70_3, hcz70_4, hcz70_5, hcz70_6, hcz70_7, hcz70_8⟩ := XRun.bc9 BK463.out; obtain ⟨hfz70_0, hfz70_1, hfz70_2, hfz70_3, hfz70_4, hfz70_5, hfz70_6, hfz70_7, hfz70_8⟩ := XRun.bf9 BK463.out))
                                  go_upto_region 23 with (fail)
                                  refine (?hh : ∀ w99 : World, Aside0 (w99.heap[gb472]? = some (.cells #[.int .i64 (wrap64 (bt t466 0)), .int .u64 t468, .int .u64 t469, .int .i64 (wrap64 (bt t466 1)), .int .i64 (wrap64 (bt t473 0)), .string t479, .int .u32 t475, .int .i64 (wrap64 t477)] 29 (0, 0))) → Aside0 (w99.heap[gb463]? = some (.cells #[.bool false, .int .i64 0, .int .u64 0, .int .u64 0, .int .i64 0, .int .i64 0, .string (⟨#[]⟩ : ByteArray), .int .u32 0, .int .i64 0] 31 (0, 0))) → Aside0 (Below w.heap.size w w99) → Code.wp Try.prog _ _ _ w99) _ (Aside0.mk (by refine blk_put (cs := #[.int .i64 (wrap64 (bt t466 0)), .int .u64 t468, .int .u64 t469, .int .i64 (wrap64 (bt t466 1)), .int .i64 (wrap64 (bt t473 0)), .string (⟨#[]⟩ : ByteArray), .int .u32 t475, .int .i64 (wrap64 t477)]) ?_ 5 _ rfl; refine blk_put (cs := #[.int .i64 (wrap64 (bt t466 0)), .int .u64 t468, .int .u64 t469, .int .i64 (wrap64 (bt t466 1)), .int .i64 (wrap64 (bt t473 0)), .string (⟨#[]⟩ : ByteArray), .int .u32 t475, .int .i64 0]) ?_ 7 _ rfl; refine blk_put (cs := #[.int .i64 (wrap64 (bt t466 0)), .int .u64 t468, .int .u64 t469, .int .i64 (wrap64 (bt t466 1)), .int .i64 (wrap64 (bt t473 0)), .string (⟨#[]⟩ : ByteArray), .int .u32 0, .int .i64 0]) ?_ 6 _ rfl; refine blk_put (cs := #[.int .i64 (wrap64 (bt t466 0)), .int .u64 t468, .int .u64 t469, .int .i64 (wrap64 (bt t466 1)), .int .i64 0, .string (⟨#[]⟩ : ByteArray), .int .u32 0, .int .i64 0]) ?_ 4 _ rfl; (with_reducible repeat (first | refine blk_drewN ?_ _)); refine blk_put (cs := #[.int .i64 (wrap64 (bt t466 0)), .int .u64 t468, .int .u64 t469, .int .i64 (wrap64 (bt t466 1)), .int .i64 0, .string (⟨#[]⟩ : ByteArray), .int .u32 0, .int .i64 0]) ?_ 7 _ rfl; refine blk_put (cs := #[.int .i64 (wrap64 (bt t466 0)), .int .u64 t468, .int .u64 t469, .int .i64 (wrap64 (bt t466 1)), .int .i64 0, .string (⟨#[]⟩ : ByteArray), .int .u32 0, .int .i64 0]) ?_ 6 _ rfl; refine blk_put (cs := #[.int .i64 (wrap64 (bt t466 0)), .int .u64 t468, .int .u64 t469, .int .i64 (wrap64 (bt t466 1)), .int .i64 0, .string (⟨#[]⟩ : ByteArray), .int .u32 0, .int .i64 0]) ?_ 5 _ rfl; refine blk_put (cs := #[.int .i64 (wrap64 (bt t466 0)), .int .u64 t468, .int .u64 t469, .int .i64 (wrap64 (bt t466 1)), .int .i64 0, .string (⟨#[]⟩ : ByteArray), .int .u32 0, .int .i64 0]) ?_ 4 _ rfl; refine blk_put (cs := #[.int .i64 (wrap64 (bt t466 0)), .int .u64 t468, .int .u64 t469, .int .i64 0, .int .i64 0, .string (⟨#[]⟩ : ByteArray), .int .u32 0, .int .i64 0]) ?_ 3 _ rfl; refine blk_put (cs := #[.int .i64 (wrap64 (bt t466 0)), .int .u64 t468, .int .u64 0, .int .i64 0, .int .i64 0, .string (⟨#[]⟩ : ByteArray), .int .u32 0, .int .i64 0]) ?_ 2 _ rfl; refine blk_put (cs := #[.int .i64 (wrap64 (bt t466 0)), .int .u64 0, .int .u64 0, .int .i64 0, .int .i64 0, .string (⟨#[]⟩ : ByteArray), .int .u32 0, .int .i64 0]) ?_ 1 _ rfl; refine blk_put (cs := #[.int .i64 0, .int .u64 0, .int .u64 0, .int .i64 0, .int .i64 0, .string (⟨#[]⟩ : ByteArray), .int .u32 0, .int .i64 0]) ?_ 0 _ rfl; exact BK472.out)) (Aside0.mk (by refine blk_far ?_ NB463_472.out _; refine blk_far ?_ NB463_472.out _; refine blk_far ?_ NB463_472.out _; refine blk_far ?_ NB463_472.out _; (with_reducible repeat (first | refine blk_drewN ?_ _)); refine blk_far ?_ NB463_472.out _; refine blk_far ?_ NB463_472.out _; refine blk_far ?_ NB463_472.out _; refine blk_far ?_ NB463_472.out _; refine blk_far ?_ NB463_472.out _; refine blk_far ?_ NB463_472.out _; refine blk_far ?_ NB463_472.out _; refine blk_far ?_ NB463_472.out _; exact BK463.out)) (Aside0.mk (by repeat (first | (with_reducible first | exact HB.out | apply pw_below_drewN | refine below_set ?_ GE472.out))))
                                  clear BK463 BK472 BK471 HB hHeld
                                  intro w99 BK472 BK463 HB
                                  have hnb98 := NB472_463.out
                                  have hnc98 := NB463_472.out
                                  obtain ⟨hcz98_0, hcz98_1, hcz98_2, hcz98_3, hcz98_4, hcz98_5, hcz98_6, hcz98_7⟩ := XRun.bc8 BK472.out
                                  obtain ⟨hfz98_0, hfz98_1, hfz98_2, hfz98_3, hfz98_4, hfz98_5, hfz98_6, hfz98_7⟩ := XRun.bf8 BK472.out
                                  obtain ⟨hcz99_0, hcz99_1, hcz99_2, hcz99_3, hcz99_4, hcz99_5, hcz99_6, hcz99_7, hcz99_8⟩ := XRun.bc9 BK463.out
                                  obtain ⟨hfz99_0, hfz99_1, hfz99_2, hfz99_3, hfz99_4, hfz99_5, hfz99_6, hfz99_7, hfz99_8⟩ := XRun.bf9 BK463.out
                                  go_wp2
                                  refine bodyPost_ret (results_ctt rfl _ _ gb463 31 #[.bool false, .int .i64 (wrap64 (bt t466 0)), .int .u64 t468, .int .u64 t469, .int .i64 (wrap64 (bt t466 1)), .int .i64 (wrap64 (bt t473 0)), .string t479, .int .u32 t475, .int .i64 (wrap64 (t477))] (0, 0) _ rfl (by refine blk_put (cs := #[.bool false, .int .i64 (wrap64 (bt t466 0)), .int .u64 t468, .int .u64 t469, .int .i64 (wrap64 (bt t466 1)), .int .i64 (wrap64 (bt t473 0)), .string t479, .int .u32 t475, .int .i64 0]) ?_ 8 _ rfl; refine blk_put (cs := #[.bool false, .int .i64 (wrap64 (bt t466 0)), .int .u64 t468, .int .u64 t469, .int .i64 (wrap64 (bt t466 1)), .int .i64 (wrap64 (bt t473 0)), .string t479, .int .u32 0, .int .i64 0]) ?_ 7 _ rfl; refine blk_put (cs := #[.bool false, .int .i64 (wrap64 (bt t466 0)), .int .u64 t468, .int .u64 t469, .int .i64 (wrap64 (bt t466 1)), .int .i64 (wrap64 (bt t473 0)), .string (⟨#[]⟩ : ByteArray), .int .u32 0, .int .i64 0]) ?_ 6 _ rfl; refine blk_put (cs := #[.bool false, .int .i64 (wrap64 (bt t466 0)), .int .u64 t468, .int .u64 t469, .int .i64 (wrap64 (bt t466 1)), .int .i64 0, .string (⟨#[]⟩ : ByteArray), .int .u32 0, .int .i64 0]) ?_ 5 _ rfl; refine blk_put (cs := #[.bool false, .int .i64 (wrap64 (bt t466 0)), .int .u64 t468, .int .u64 t469, .int .i64 0, .int .i64 0, .string (⟨#[]⟩ : ByteArray), .int .u32 0, .int .i64 0]) ?_ 4 _ rfl; refine blk_put (cs := #[.bool false, .int .i64 (wrap64 (bt t466 0)), .int .u64 t468, .int .u64 0, .int .i64 0, .int .i64 0, .string (⟨#[]⟩ : ByteArray), .int .u32 0, .int .i64 0]) ?_ 3 _ rfl; refine blk_put (cs := #[.bool false, .int .i64 (wrap64 (bt t466 0)), .int .u64 0, .int .u64 0, .int .i64 0, .int .i64 0, .string (⟨#[]⟩ : ByteArray), .int .u32 0, .int .i64 0]) ?_ 2 _ rfl; refine blk_put (cs := #[.bool false, .int .i64 0, .int .u64 0, .int .u64 0, .int .i64 0, .int .i64 0, .string (⟨#[]⟩ : ByteArray), .int .u32 0, .int .i64 0]) ?_ 1 _ rfl; refine blk_put (cs := #[.bool false, .int .i64 0, .int .u64 0, .int .u64 0, .int .i64 0, .int .i64 0, .string (⟨#[]⟩ : ByteArray), .int .u32 0, .int .i64 0]) ?_ 0 _ rfl; exact BK463.out) Try.underlying31 rfl (by kernel_rfl)) rfl ?_
                                  exact ⟨by rfl, by repeat (first | (with_reducible first | exact HB.out | refine below_set ?_ GE463.out))⟩
                                · rw [if_neg c54] at H
                                  exact absurd H (by simp)
                              · replace c53 := Bool.eq_false_iff.mpr c53
                                subst c53
                                have H1 : (some (false, 0, 0, 0, 0, 0, (⟨#[]⟩ : ByteArray), 0, 0, 0, 3)) = some (r1, r2, r3, r4, r5, r6, r7, r8, r9, r10, r11) := by rw [if_neg (show ¬ (false = true) by decide)] at H; exact H
                                clear H
                                have H := H1
                                clear H1
                                simp only [Option.some.injEq, Prod.mk.injEq] at H
                                obtain ⟨rfl, rfl, rfl, rfl, rfl, rfl, rfl, rfl, rfl, rfl, rfl⟩ := H
                                try go_wp2_with (first | ((with_reducible refine gate_callee (f := 75) rfl ?_); refine goesL_ (some 79) rfl rfl Try.func75 (by kernel_rfl) rfl #[.string a0, .int .i64 (wrap64 (a1 + 19)), .int .i64 1] rfl (by (try simp only [List.map_toArray, List.map_cons, List.map_nil]); first | rfl) ?_; (with_reducible refine (tenancyref04_Cut.calls a0 (wrap64 (a1 + 19)) 1 t473 true _ A46.out).mono ?_); rintro e w' ⟨rfl, ⟨nd, rfl⟩⟩; refine ⟨_, rfl, ?_⟩) | ((with_reducible refine gate_callee (f := 77) rfl ?_); refine goesL_ (some 86) rfl rfl Try.func77 (by kernel_rfl) rfl #[.string a0, .int .i64 (wrap64 (a1 + 20))] rfl (by (try simp only [List.map_toArray, List.map_cons, List.map_nil]); first | rfl) ?_; (with_reducible refine (tenancyref04_Get32.calls kj14 a0 (wrap64 (a1 + 20)) t475 true _ A47.out).mono ?_); rintro e w' ⟨rfl, ⟨nd, rfl⟩⟩; refine ⟨_, rfl, ?_⟩) | ((with_reducible refine gate_callee (f := 78) rfl ?_); refine goesL_ (some 93) rfl rfl Try.func78 (by kernel_rfl) rfl #[.string a0, .int .i64 (wrap64 (a1 + 24))] rfl (by (try simp only [List.map_toArray, List.map_cons, List.map_nil]); first | rfl) ?_; (with_reducible refine (tenancyref04_Get64.calls kj14 a0 (wrap64 (a1 + 24)) t477 true _ A48.out).mono ?_); rintro e w' ⟨rfl, ⟨nd, rfl⟩⟩; refine ⟨_, rfl, ?_⟩) | ((with_reducible refine gate_callee (f := 79) rfl ?_); refine goesL_ (some 100) rfl rfl Try.func79 (by kernel_rfl) rfl #[.string a0, .int .i64 (wrap64 (a1 + 32))] rfl (by (try simp only [List.map_toArray, List.map_cons, List.map_nil]); first | rfl) ?_; (with_reducible refine (tenancyref04_TakeRun.calls kj14 a0 (wrap64 (a1 + 32)) t479 t480 false _ A49.out).mono ?_); rintro e w' ⟨rfl, ⟨nd, rfl⟩⟩; refine ⟨_, rfl, ?_⟩; have hnb81 := NB463_471.out; have hnc81 := NB471_463.out; have hnb82 := NB463_472.out; have hnc82 := NB472_463.out; obtain ⟨hcz83_0, hcz83_1, hcz83_2, hcz83_3, hcz83_4, hcz83_5, hcz83_6, hcz83_7, hcz83_8⟩ := XRun.bc9 BK463.out; obtain ⟨hfz83_0, hfz83_1, hfz83_2, hfz83_3, hfz83_4, hfz83_5, hfz83_6, hfz83_7, hfz83_8⟩ := XRun.bf9 BK463.out))
                                refine bodyPost_ret (results_ctt rfl _ _ gb463 31 #[.bool false, .int .i64 0, .int .u64 0, .int .u64 0, .int .i64 0, .int .i64 0, .string (⟨#[]⟩ : ByteArray), .int .u32 0, .int .i64 0] (0, 0) _ rfl (by refine blk_put (cs := #[.bool false, .int .i64 0, .int .u64 0, .int .u64 0, .int .i64 0, .int .i64 0, .string (⟨#[]⟩ : ByteArray), .int .u32 0, .int .i64 0]) ?_ 8 _ rfl; refine blk_put (cs := #[.bool false, .int .i64 0, .int .u64 0, .int .u64 0, .int .i64 0, .int .i64 0, .string (⟨#[]⟩ : ByteArray), .int .u32 0, .int .i64 0]) ?_ 7 _ rfl; refine blk_put (cs := #[.bool false, .int .i64 0, .int .u64 0, .int .u64 0, .int .i64 0, .int .i64 0, .string (⟨#[]⟩ : ByteArray), .int .u32 0, .int .i64 0]) ?_ 6 _ rfl; refine blk_put (cs := #[.bool false, .int .i64 0, .int .u64 0, .int .u64 0, .int .i64 0, .int .i64 0, .string (⟨#[]⟩ : ByteArray), .int .u32 0, .int .i64 0]) ?_ 5 _ rfl; refine blk_put (cs := #[.bool false, .int .i64 0, .int .u64 0, .int .u64 0, .int .i64 0, .int .i64 0, .string (⟨#[]⟩ : ByteArray), .int .u32 0, .int .i64 0]) ?_ 4 _ rfl; refine blk_put (cs := #[.bool false, .int .i64 0, .int .u64 0, .int .u64 0, .int .i64 0, .int .i64 0, .string (⟨#[]⟩ : ByteArray), .int .u32 0, .int .i64 0]) ?_ 3 _ rfl; refine blk_put (cs := #[.bool false, .int .i64 0, .int .u64 0, .int .u64 0, .int .i64 0, .int .i64 0, .string (⟨#[]⟩ : ByteArray), .int .u32 0, .int .i64 0]) ?_ 2 _ rfl; refine blk_put (cs := #[.bool false, .int .i64 0, .int .u64 0, .int .u64 0, .int .i64 0, .int .i64 0, .string (⟨#[]⟩ : ByteArray), .int .u32 0, .int .i64 0]) ?_ 1 _ rfl; refine blk_put (cs := #[.bool false, .int .i64 0, .int .u64 0, .int .u64 0, .int .i64 0, .int .i64 0, .string (⟨#[]⟩ : ByteArray), .int .u32 0, .int .i64 0]) ?_ 0 _ rfl; (with_reducible repeat (first | refine blk_drewN ?_ _)); refine blk_far ?_ NB463_472.out _; refine blk_far ?_ NB463_472.out _; refine blk_far ?_ NB463_472.out _; refine blk_far ?_ NB463_472.out _; refine blk_far ?_ NB463_472.out _; refine blk_far ?_ NB463_472.out _; refine blk_far ?_ NB463_472.out _; refine blk_far ?_ NB463_472.out _; exact BK463.out) Try.underlying31 rfl (by kernel_rfl)) rfl ?_
                                exact ⟨by rfl, by repeat (first | (with_reducible first | exact HB.out | apply pw_below_drewN | refine below_set ?_ GE463.out | refine below_set ?_ GE472.out))⟩
                            · replace c52 := Bool.eq_false_iff.mpr c52
                              subst c52
                              have H1 : (some (false, 0, 0, 0, 0, 0, (⟨#[]⟩ : ByteArray), 0, 0, 0, 3)) = some (r1, r2, r3, r4, r5, r6, r7, r8, r9, r10, r11) := by rw [if_neg (show ¬ (false = true) by decide)] at H; exact H
                              clear H
                              have H := H1
                              clear H1
                              simp only [Option.some.injEq, Prod.mk.injEq] at H
                              obtain ⟨rfl, rfl, rfl, rfl, rfl, rfl, rfl, rfl, rfl, rfl, rfl⟩ := H
                              try go_wp2_with (first | ((with_reducible refine gate_callee (f := 75) rfl ?_); refine goesL_ (some 79) rfl rfl Try.func75 (by kernel_rfl) rfl #[.string a0, .int .i64 (wrap64 (a1 + 19)), .int .i64 1] rfl (by (try simp only [List.map_toArray, List.map_cons, List.map_nil]); first | rfl) ?_; (with_reducible refine (tenancyref04_Cut.calls a0 (wrap64 (a1 + 19)) 1 t473 true _ A46.out).mono ?_); rintro e w' ⟨rfl, ⟨nd, rfl⟩⟩; refine ⟨_, rfl, ?_⟩) | ((with_reducible refine gate_callee (f := 77) rfl ?_); refine goesL_ (some 86) rfl rfl Try.func77 (by kernel_rfl) rfl #[.string a0, .int .i64 (wrap64 (a1 + 20))] rfl (by (try simp only [List.map_toArray, List.map_cons, List.map_nil]); first | rfl) ?_; (with_reducible refine (tenancyref04_Get32.calls kj14 a0 (wrap64 (a1 + 20)) t475 true _ A47.out).mono ?_); rintro e w' ⟨rfl, ⟨nd, rfl⟩⟩; refine ⟨_, rfl, ?_⟩) | ((with_reducible refine gate_callee (f := 78) rfl ?_); refine goesL_ (some 93) rfl rfl Try.func78 (by kernel_rfl) rfl #[.string a0, .int .i64 (wrap64 (a1 + 24))] rfl (by (try simp only [List.map_toArray, List.map_cons, List.map_nil]); first | rfl) ?_; (with_reducible refine (tenancyref04_Get64.calls kj14 a0 (wrap64 (a1 + 24)) t477 false _ A48.out).mono ?_); rintro e w' ⟨rfl, ⟨nd, rfl⟩⟩; refine ⟨_, rfl, ?_⟩) | ((with_reducible refine gate_callee (f := 79) rfl ?_); refine goesL_ (some 100) rfl rfl Try.func79 (by kernel_rfl) rfl #[.string a0, .int .i64 (wrap64 (a1 + 32))] rfl (by (try simp only [List.map_toArray, List.map_cons, List.map_nil]); first | rfl) ?_; (with_reducible refine (tenancyref04_TakeRun.calls kj14 a0 (wrap64 (a1 + 32)) t479 t480 t481 _ A49.out).mono ?_); rintro e w' ⟨rfl, ⟨nd, rfl⟩⟩; refine ⟨_, rfl, ?_⟩; have hnb94 := NB463_471.out; have hnc94 := NB471_463.out; have hnb95 := NB463_472.out; have hnc95 := NB472_463.out; obtain ⟨hcz96_0, hcz96_1, hcz96_2, hcz96_3, hcz96_4, hcz96_5, hcz96_6, hcz96_7, hcz96_8⟩ := XRun.bc9 BK463.out; obtain ⟨hfz96_0, hfz96_1, hfz96_2, hfz96_3, hfz96_4, hfz96_5, hfz96_6, hfz96_7, hfz96_8⟩ := XRun.bf9 BK463.out))
                              refine bodyPost_ret (results_ctt rfl _ _ gb463 31 #[.bool false, .int .i64 0, .int .u64 0, .int .u64 0, .int .i64 0, .int .i64 0, .string (⟨#[]⟩ : ByteArray), .int .u32 0, .int .i64 0] (0, 0) _ rfl (by refine blk_put (cs := #[.bool false, .int .i64 0, .int .u64 0, .int .u64 0, .int .i64 0, .int .i64 0, .string (⟨#[]⟩ : ByteArray), .int .u32 0, .int .i64 0]) ?_ 8 _ rfl; refine blk_put (cs := #[.bool false, .int .i64 0, .int .u64 0, .int .u64 0, .int .i64 0, .int .i64 0, .string (⟨#[]⟩ : ByteArray), .int .u32 0, .int .i64 0]) ?_ 7 _ rfl; refine blk_put (cs := #[.bool false, .int .i64 0, .int .u64 0, .int .u64 0, .int .i64 0, .int .i64 0, .string (⟨#[]⟩ : ByteArray), .int .u32 0, .int .i64 0]) ?_ 6 _ rfl; refine blk_put (cs := #[.bool false, .int .i64 0, .int .u64 0, .int .u64 0, .int .i64 0, .int .i64 0, .string (⟨#[]⟩ : ByteArray), .int .u32 0, .int .i64 0]) ?_ 5 _ rfl; refine blk_put (cs := #[.bool false, .int .i64 0, .int .u64 0, .int .u64 0, .int .i64 0, .int .i64 0, .string (⟨#[]⟩ : ByteArray), .int .u32 0, .int .i64 0]) ?_ 4 _ rfl; refine blk_put (cs := #[.bool false, .int .i64 0, .int .u64 0, .int .u64 0, .int .i64 0, .int .i64 0, .string (⟨#[]⟩ : ByteArray), .int .u32 0, .int .i64 0]) ?_ 3 _ rfl; refine blk_put (cs := #[.bool false, .int .i64 0, .int .u64 0, .int .u64 0, .int .i64 0, .int .i64 0, .string (⟨#[]⟩ : ByteArray), .int .u32 0, .int .i64 0]) ?_ 2 _ rfl; refine blk_put (cs := #[.bool false, .int .i64 0, .int .u64 0, .int .u64 0, .int .i64 0, .int .i64 0, .string (⟨#[]⟩ : ByteArray), .int .u32 0, .int .i64 0]) ?_ 1 _ rfl; refine blk_put (cs := #[.bool false, .int .i64 0, .int .u64 0, .int .u64 0, .int .i64 0, .int .i64 0, .string (⟨#[]⟩ : ByteArray), .int .u32 0, .int .i64 0]) ?_ 0 _ rfl; (with_reducible repeat (first | refine blk_drewN ?_ _)); refine blk_far ?_ NB463_472.out _; refine blk_far ?_ NB463_472.out _; refine blk_far ?_ NB463_472.out _; refine blk_far ?_ NB463_472.out _; refine blk_far ?_ NB463_472.out _; refine blk_far ?_ NB463_472.out _; refine blk_far ?_ NB463_472.out _; refine blk_far ?_ NB463_472.out _; exact BK463.out) Try.underlying31 rfl (by kernel_rfl)) rfl ?_
                              exact ⟨by rfl, by repeat (first | (with_reducible first | exact HB.out | apply pw_below_drewN | refine below_set ?_ GE463.out | refine below_set ?_ GE472.out))⟩
                          · replace c51 := Bool.eq_false_iff.mpr c51
                            subst c51
                            have H1 : (some (false, 0, 0, 0, 0, 0, (⟨#[]⟩ : ByteArray), 0, 0, 0, 3)) = some (r1, r2, r3, r4, r5, r6, r7, r8, r9, r10, r11) := by rw [if_neg (show ¬ (false = true) by decide)] at H; exact H
                            clear H
                            have H := H1
                            clear H1
                            simp only [Option.some.injEq, Prod.mk.injEq] at H
                            obtain ⟨rfl, rfl, rfl, rfl, rfl, rfl, rfl, rfl, rfl, rfl, rfl⟩ := H
                            try go_wp2_with (first | ((with_reducible refine gate_callee (f := 75) rfl ?_); refine goesL_ (some 79) rfl rfl Try.func75 (by kernel_rfl) rfl #[.string a0, .int .i64 (wrap64 (a1 + 19)), .int .i64 1] rfl (by (try simp only [List.map_toArray, List.map_cons, List.map_nil]); first | rfl) ?_; (with_reducible refine (tenancyref04_Cut.calls a0 (wrap64 (a1 + 19)) 1 t473 true _ A46.out).mono ?_); rintro e w' ⟨rfl, ⟨nd, rfl⟩⟩; refine ⟨_, rfl, ?_⟩) | ((with_reducible refine gate_callee (f := 77) rfl ?_); refine goesL_ (some 86) rfl rfl Try.func77 (by kernel_rfl) rfl #[.string a0, .int .i64 (wrap64 (a1 + 20))] rfl (by (try simp only [List.map_toArray, List.map_cons, List.map_nil]); first | rfl) ?_; (with_reducible refine (tenancyref04_Get32.calls kj14 a0 (wrap64 (a1 + 20)) t475 false _ A47.out).mono ?_); rintro e w' ⟨rfl, ⟨nd, rfl⟩⟩; refine ⟨_, rfl, ?_⟩) | ((with_reducible refine gate_callee (f := 78) rfl ?_); refine goesL_ (some 93) rfl rfl Try.func78 (by kernel_rfl) rfl #[.string a0, .int .i64 (wrap64 (a1 + 24))] rfl (by (try simp only [List.map_toArray, List.map_cons, List.map_nil]); first | rfl) ?_; (with_reducible refine (tenancyref04_Get64.calls kj14 a0 (wrap64 (a1 + 24)) t477 t478 _ A48.out).mono ?_); rintro e w' ⟨rfl, ⟨nd, rfl⟩⟩; refine ⟨_, rfl, ?_⟩) | ((with_reducible refine gate_callee (f := 79) rfl ?_); refine goesL_ (some 100) rfl rfl Try.func79 (by kernel_rfl) rfl #[.string a0, .int .i64 (wrap64 (a1 + 32))] rfl (by (try simp only [List.map_toArray, List.map_cons, List.map_nil]); first | rfl) ?_; (with_reducible refine (tenancyref04_TakeRun.calls kj14 a0 (wrap64 (a1 + 32)) t479 t480 t481 _ A49.out).mono ?_); rintro e w' ⟨rfl, ⟨nd, rfl⟩⟩; refine ⟨_, rfl, ?_⟩; have hnb107 := NB463_471.out; have hnc107 := NB471_463.out; have hnb108 := NB463_472.out; have hnc108 := NB472_463.out; obtain ⟨hcz109_0, hcz109_1, hcz109_2, hcz109_3, hcz109_4, hcz109_5, hcz109_6, hcz109_7, hcz109_8⟩ := XRun.bc9 BK463.out; obtain ⟨hfz109_0, hfz109_1, hfz109_2, hfz109_3, hfz109_4, hfz109_5, hfz109_6, hfz109_7, hfz109_8⟩ := XRun.bf9 BK463.out))
                            refine bodyPost_ret (results_ctt rfl _ _ gb463 31 #[.bool false, .int .i64 0, .int .u64 0, .int .u64 0, .int .i64 0, .int .i64 0, .string (⟨#[]⟩ : ByteArray), .int .u32 0, .int .i64 0] (0, 0) _ rfl (by refine blk_put (cs := #[.bool false, .int .i64 0, .int .u64 0, .int .u64 0, .int .i64 0, .int .i64 0, .string (⟨#[]⟩ : ByteArray), .int .u32 0, .int .i64 0]) ?_ 8 _ rfl; refine blk_put (cs := #[.bool false, .int .i64 0, .int .u64 0, .int .u64 0, .int .i64 0, .int .i64 0, .string (⟨#[]⟩ : ByteArray), .int .u32 0, .int .i64 0]) ?_ 7 _ rfl; refine blk_put (cs := #[.bool false, .int .i64 0, .int .u64 0, .int .u64 0, .int .i64 0, .int .i64 0, .string (⟨#[]⟩ : ByteArray), .int .u32 0, .int .i64 0]) ?_ 6 _ rfl; refine blk_put (cs := #[.bool false, .int .i64 0, .int .u64 0, .int .u64 0, .int .i64 0, .int .i64 0, .string (⟨#[]⟩ : ByteArray), .int .u32 0, .int .i64 0]) ?_ 5 _ rfl; refine blk_put (cs := #[.bool false, .int .i64 0, .int .u64 0, .int .u64 0, .int .i64 0, .int .i64 0, .string (⟨#[]⟩ : ByteArray), .int .u32 0, .int .i64 0]) ?_ 4 _ rfl; refine blk_put (cs := #[.bool false, .int .i64 0, .int .u64 0, .int .u64 0, .int .i64 0, .int .i64 0, .string (⟨#[]⟩ : ByteArray), .int .u32 0, .int .i64 0]) ?_ 3 _ rfl; refine blk_put (cs := #[.bool false, .int .i64 0, .int .u64 0, .int .u64 0, .int .i64 0, .int .i64 0, .string (⟨#[]⟩ : ByteArray), .int .u32 0, .int .i64 0]) ?_ 2 _ rfl; refine blk_put (cs := #[.bool false, .int .i64 0, .int .u64 0, .int .u64 0, .int .i64 0, .int .i64 0, .string (⟨#[]⟩ : ByteArray), .int .u32 0, .int .i64 0]) ?_ 1 _ rfl; refine blk_put (cs := #[.bool false, .int .i64 0, .int .u64 0, .int .u64 0, .int .i64 0, .int .i64 0, .string (⟨#[]⟩ : ByteArray), .int .u32 0, .int .i64 0]) ?_ 0 _ rfl; (with_reducible repeat (first | refine blk_drewN ?_ _)); refine blk_far ?_ NB463_472.out _; refine blk_far ?_ NB463_472.out _; refine blk_far ?_ NB463_472.out _; refine blk_far ?_ NB463_472.out _; refine blk_far ?_ NB463_472.out _; refine blk_far ?_ NB463_472.out _; refine blk_far ?_ NB463_472.out _; refine blk_far ?_ NB463_472.out _; exact BK463.out) Try.underlying31 rfl (by kernel_rfl)) rfl ?_
                            exact ⟨by rfl, by repeat (first | (with_reducible first | exact HB.out | apply pw_below_drewN | refine below_set ?_ GE463.out | refine below_set ?_ GE472.out))⟩
                        · replace c50 := Bool.eq_false_iff.mpr c50
                          subst c50
                          have H1 : (some (false, 0, 0, 0, 0, 0, (⟨#[]⟩ : ByteArray), 0, 0, 0, 3)) = some (r1, r2, r3, r4, r5, r6, r7, r8, r9, r10, r11) := by rw [if_neg (show ¬ (false = true) by decide)] at H; exact H
                          clear H
                          have H := H1
                          clear H1
                          simp only [Option.some.injEq, Prod.mk.injEq] at H
                          obtain ⟨rfl, rfl, rfl, rfl, rfl, rfl, rfl, rfl, rfl, rfl, rfl⟩ := H
                          try go_wp2_with (first | ((with_reducible refine gate_callee (f := 75) rfl ?_); refine goesL_ (some 79) rfl rfl Try.func75 (by kernel_rfl) rfl #[.string a0, .int .i64 (wrap64 (a1 + 19)), .int .i64 1] rfl (by (try simp only [List.map_toArray, List.map_cons, List.map_nil]); first | rfl) ?_; (with_reducible refine (tenancyref04_Cut.calls a0 (wrap64 (a1 + 19)) 1 t473 false _ A46.out).mono ?_); rintro e w' ⟨rfl, ⟨nd, rfl⟩⟩; refine ⟨_, rfl, ?_⟩) | ((with_reducible refine gate_callee (f := 77) rfl ?_); refine goesL_ (some 86) rfl rfl Try.func77 (by kernel_rfl) rfl #[.string a0, .int .i64 (wrap64 (a1 + 20))] rfl (by (try simp only [List.map_toArray, List.map_cons, List.map_nil]); first | rfl) ?_; (with_reducible refine (tenancyref04_Get32.calls kj14 a0 (wrap64 (a1 + 20)) t475 t476 _ A47.out).mono ?_); rintro e w' ⟨rfl, ⟨nd, rfl⟩⟩; refine ⟨_, rfl, ?_⟩) | ((with_reducible refine gate_callee (f := 78) rfl ?_); refine goesL_ (some 93) rfl rfl Try.func78 (by kernel_rfl) rfl #[.string a0, .int .i64 (wrap64 (a1 + 24))] rfl (by (try simp only [List.map_toArray, List.map_cons, List.map_nil]); first | rfl) ?_; (with_reducible refine (tenancyref04_Get64.calls kj14 a0 (wrap64 (a1 + 24)) t477 t478 _ A48.out).mono ?_); rintro e w' ⟨rfl, ⟨nd, rfl⟩⟩; refine ⟨_, rfl, ?_⟩) | ((with_reducible refine gate_callee (f := 79) rfl ?_); refine goesL_ (some 100) rfl rfl Try.func79 (by kernel_rfl) rfl #[.string a0, .int .i64 (wrap64 (a1 + 32))] rfl (by (try simp only [List.map_toArray, List.map_cons, List.map_nil]); first | rfl) ?_; (with_reducible refine (tenancyref04_TakeRun.calls kj14 a0 (wrap64 (a1 + 32)) t479 t480 t481 _ A49.out).mono ?_); rintro e w' ⟨rfl, ⟨nd, rfl⟩⟩; refine ⟨_, rfl, ?_⟩; have hnb120 := NB463_471.out; have hnc120 := NB471_463.out; have hnb121 := NB463_472.out; have hnc121 := NB472_463.out; obtain ⟨hcz122_0, hcz122_1, hcz122_2, hcz122_3, hcz122_4, hcz122_5, hcz122_6, hcz122_7, hcz122_8⟩ := XRun.bc9 BK463.out; obtain ⟨hfz122_0, hfz122_1, hfz122_2, hfz122_3, hfz122_4, hfz122_5, hfz122_6, hfz122_7, hfz122_8⟩ := XRun.bf9 BK463.out))
                          refine bodyPost_ret (results_ctt rfl _ _ gb463 31 #[.bool false, .int .i64 0, .int .u64 0, .int .u64 0, .int .i64 0, .int .i64 0, .string (⟨#[]⟩ : ByteArray), .int .u32 0, .int .i64 0] (0, 0) _ rfl (by refine blk_put (cs := #[.bool false, .int .i64 0, .int .u64 0, .int .u64 0, .int .i64 0, .int .i64 0, .string (⟨#[]⟩ : ByteArray), .int .u32 0, .int .i64 0]) ?_ 8 _ rfl; refine blk_put (cs := #[.bool false, .int .i64 0, .int .u64 0, .int .u64 0, .int .i64 0, .int .i64 0, .string (⟨#[]⟩ : ByteArray), .int .u32 0, .int .i64 0]) ?_ 7 _ rfl; refine blk_put (cs := #[.bool false, .int .i64 0, .int .u64 0, .int .u64 0, .int .i64 0, .int .i64 0, .string (⟨#[]⟩ : ByteArray), .int .u32 0, .int .i64 0]) ?_ 6 _ rfl; refine blk_put (cs := #[.bool false, .int .i64 0, .int .u64 0, .int .u64 0, .int .i64 0, .int .i64 0, .string (⟨#[]⟩ : ByteArray), .int .u32 0, .int .i64 0]) ?_ 5 _ rfl; refine blk_put (cs := #[.bool false, .int .i64 0, .int .u64 0, .int .u64 0, .int .i64 0, .int .i64 0, .string (⟨#[]⟩ : ByteArray), .int .u32 0, .int .i64 0]) ?_ 4 _ rfl; refine blk_put (cs := #[.bool false, .int .i64 0, .int .u64 0, .int .u64 0, .int .i64 0, .int .i64 0, .string (⟨#[]⟩ : ByteArray), .int .u32 0, .int .i64 0]) ?_ 3 _ rfl; refine blk_put (cs := #[.bool false, .int .i64 0, .int .u64 0, .int .u64 0, .int .i64 0, .int .i64 0, .string (⟨#[]⟩ : ByteArray), .int .u32 0, .int .i64 0]) ?_ 2 _ rfl; refine blk_put (cs := #[.bool false, .int .i64 0, .int .u64 0, .int .u64 0, .int .i64 0, .int .i64 0, .string (⟨#[]⟩ : ByteArray), .int .u32 0, .int .i64 0]) ?_ 1 _ rfl; refine blk_put (cs := #[.bool false, .int .i64 0, .int .u64 0, .int .u64 0, .int .i64 0, .int .i64 0, .string (⟨#[]⟩ : ByteArray), .int .u32 0, .int .i64 0]) ?_ 0 _ rfl; (with_reducible repeat (first | refine blk_drewN ?_ _)); refine blk_far ?_ NB463_472.out _; refine blk_far ?_ NB463_472.out _; refine blk_far ?_ NB463_472.out _; refine blk_far ?_ NB463_472.out _; refine blk_far ?_ NB463_472.out _; refine blk_far ?_ NB463_472.out _; refine blk_far ?_ NB463_472.out _; refine blk_far ?_ NB463_472.out _; exact BK463.out) Try.underlying31 rfl (by kernel_rfl)) rfl ?_
                          exact ⟨by rfl, by repeat (first | (with_reducible first | exact HB.out | apply pw_below_drewN | refine below_set ?_ GE463.out | refine below_set ?_ GE472.out))⟩
                    · rw [if_neg c28] at H
                      exact absurd H (by simp)
                  · rw [if_neg c26] at H
                    exact absurd H (by simp)
                · rw [if_neg c24] at H
                  exact absurd H (by simp)
  · replace c4 := Bool.eq_false_iff.mpr c4
    subst c4
    have H1 : (some (false, 0, 0, 0, 0, 0, (⟨#[]⟩ : ByteArray), 0, 0, 0, 3)) = some (r1, r2, r3, r4, r5, r6, r7, r8, r9, r10, r11) := by rw [if_neg (show ¬ (false = true) by decide)] at H; exact H
    clear H
    have H := H1
    clear H1
    simp only [Option.some.injEq, Prod.mk.injEq] at H
    obtain ⟨rfl, rfl, rfl, rfl, rfl, rfl, rfl, rfl, rfl, rfl, rfl⟩ := H
    go_enter Try.func50, Try.ntmps50
    go_wp2_with (first | ((with_reducible refine gate_dst (N := 4) rfl ?_); refine box_event ?hg (N := 4) ?hd (cs := #[.bool false, .int .i64 0, .int .u64 0, .int .u64 0, .int .i64 0, .int .i64 0, .string (⟨#[]⟩ : ByteArray), .int .u32 0, .int .i64 0]) (t := 31) ?hr ?_; (case hd => rfl); (case hg => rfl); (case hr => go_simp; done); intro gb463 hg w123 hbox hb; have n0_ := Aside0.mk (below_step HB.out hb); have n1_ := Aside0.mk (hbox); have n2_ := Aside0.mk ((by rw [hg]; exact (below_size HB.out) : w.heap.size ≤ gb463)); have n3_ := Aside0.mk ((by rw [hg]; exact (below_size HB.out) : w.heap.size ≤ gb463)); clear HB; have HB := n0_; have BK463 := n1_; have GW463 := n2_; have GE463 := n3_; clear n0_ n1_ n2_ n3_; clear hb hbox hg) | ((with_reducible refine gate_callee (f := 75) rfl ?_); refine goesL_ (some 23) rfl rfl Try.func75 (by kernel_rfl) rfl #[.string a0, .int .i64 a1, .int .i64 1] rfl (by (try simp only [List.map_toArray, List.map_cons, List.map_nil]); first | rfl) ?_; (with_reducible refine (tenancyref04_Cut.calls a0 a1 1 t464 false _ A3.out).mono ?_); rintro e w' ⟨rfl, ⟨nd, rfl⟩⟩; refine ⟨_, rfl, ?_⟩; (try (rw [drewN_self w123]; generalize hq_ : World.drewN w123 _ = w123; have n0_ : Aside0 (w123.heap[gb463]? = some (.cells #[.bool false, .int .i64 0, .int .u64 0, .int .u64 0, .int .i64 0, .int .i64 0, .string (⟨#[]⟩ : ByteArray), .int .u32 0, .int .i64 0] 31 (0, 0))) := ⟨by rw [← hq_]; exact (by (with_reducible repeat (first | refine blk_drewN ?_ _)); exact BK463.out)⟩; have n1_ : Aside0 (Below w.heap.size w w123) := ⟨by rw [← hq_]; exact (by repeat (first | (with_reducible first | exact HB.out | apply pw_below_drewN)))⟩; clear BK463 HB hq_; have BK463 := n0_; have HB := n1_; clear n0_ n1_)); obtain ⟨hcz124_0, hcz124_1, hcz124_2, hcz124_3, hcz124_4, hcz124_5, hcz124_6, hcz124_7, hcz124_8⟩ := XRun.bc9 BK463.out; obtain ⟨hfz124_0, hfz124_1, hfz124_2, hfz124_3, hfz124_4, hfz124_5, hfz124_6, hfz124_7, hfz124_8⟩ := XRun.bf9 BK463.out))
    refine bodyPost_ret (results_ctt rfl _ _ gb463 31 #[.bool false, .int .i64 0, .int .u64 0, .int .u64 0, .int .i64 0, .int .i64 0, .string (⟨#[]⟩ : ByteArray), .int .u32 0, .int .i64 0] (0, 0) _ rfl (by refine blk_put (cs := #[.bool false, .int .i64 0, .int .u64 0, .int .u64 0, .int .i64 0, .int .i64 0, .string (⟨#[]⟩ : ByteArray), .int .u32 0, .int .i64 0]) ?_ 8 _ rfl; refine blk_put (cs := #[.bool false, .int .i64 0, .int .u64 0, .int .u64 0, .int .i64 0, .int .i64 0, .string (⟨#[]⟩ : ByteArray), .int .u32 0, .int .i64 0]) ?_ 7 _ rfl; refine blk_put (cs := #[.bool false, .int .i64 0, .int .u64 0, .int .u64 0, .int .i64 0, .int .i64 0, .string (⟨#[]⟩ : ByteArray), .int .u32 0, .int .i64 0]) ?_ 6 _ rfl; refine blk_put (cs := #[.bool false, .int .i64 0, .int .u64 0, .int .u64 0, .int .i64 0, .int .i64 0, .string (⟨#[]⟩ : ByteArray), .int .u32 0, .int .i64 0]) ?_ 5 _ rfl; refine blk_put (cs := #[.bool false, .int .i64 0, .int .u64 0, .int .u64 0, .int .i64 0, .int .i64 0, .string (⟨#[]⟩ : ByteArray), .int .u32 0, .int .i64 0]) ?_ 4 _ rfl; refine blk_put (cs := #[.bool false, .int .i64 0, .int .u64 0, .int .u64 0, .int .i64 0, .int .i64 0, .string (⟨#[]⟩ : ByteArray), .int .u32 0, .int .i64 0]) ?_ 3 _ rfl; refine blk_put (cs := #[.bool false, .int .i64 0, .int .u64 0, .int .u64 0, .int .i64 0, .int .i64 0, .string (⟨#[]⟩ : ByteArray), .int .u32 0, .int .i64 0]) ?_ 2 _ rfl; refine blk_put (cs := #[.bool false, .int .i64 0, .int .u64 0, .int .u64 0, .int .i64 0, .int .i64 0, .string (⟨#[]⟩ : ByteArray), .int .u32 0, .int .i64 0]) ?_ 1 _ rfl; refine blk_put (cs := #[.bool false, .int .i64 0, .int .u64 0, .int .u64 0, .int .i64 0, .int .i64 0, .string (⟨#[]⟩ : ByteArray), .int .u32 0, .int .i64 0]) ?_ 0 _ rfl; exact BK463.out) Try.underlying31 rfl (by kernel_rfl)) rfl ?_
    exact ⟨by rfl, by repeat (first | (with_reducible first | exact HB.out | refine below_set ?_ GE463.out))⟩

/-! ### tenancyref08_Decode: function 23 -/
mutual
def tenancyref08_Decode.l0 : Nat → ByteArray → Int → List (S31) → Int → Int → Option ((List (S31)) × Int)
  | 0, _, _, _, _, _ => none
  | k + 1, x0, x4, x6, x7, x8 => if x8 < (wrap64 (x4)) then ((tenancyref08_one.f k x0 x7).bind fun bt487 => (if bt487.2.2.2.2.2.2.2.2.2.2 = 0 then (if x6.length < 1759218604441 then (tenancyref08_Decode.l0 k x0 x4 (x6 ++ [(⟨bt487.1, (⟨bt487.2.1, (⟨(⟨bt487.2.2.1, bt487.2.2.2.1⟩ : S24), bt487.2.2.2.2.1⟩ : S26), bt487.2.2.2.2.2.1, bt487.2.2.2.2.2.2.1, bt487.2.2.2.2.2.2.2.1, bt487.2.2.2.2.2.2.2.2.1⟩ : S29)⟩ : S31)]) bt487.2.2.2.2.2.2.2.2.2.1 (wrap64 (x8 + 1))) else (none)) else (some (([] : List (S31)), bt487.2.2.2.2.2.2.2.2.2.2)))) else (if x7 < (x0.size : Int) then (some (([] : List (S31)), 5)) else (tenancyref08_Decode.l1 k x6 0))
def tenancyref08_Decode.l1 : Nat → List (S31) → Int → Option ((List (S31)) × Int)
  | 0, _, _ => none
  | k + 1, x6, x12 => if x12 < (x6.length : Int) then (if 0 ≤ x12 then ((tenancyref08_Change.f k ((rd_T31 x6 x12).f0) ((rd_T31 x6 x12).f1.f0) ((rd_T31 x6 x12).f1.f1.f0.f0) ((rd_T31 x6 x12).f1.f1.f0.f1) ((rd_T31 x6 x12).f1.f1.f1) ((rd_T31 x6 x12).f1.f2) ((rd_T31 x6 x12).f1.f3) ((rd_T31 x6 x12).f1.f4) ((rd_T31 x6 x12).f1.f5)).bind fun t503 => (if t503 = true then (tenancyref08_Decode.l1 k x6 (wrap64 (x12 + 1))) else (some (([] : List (S31)), 80)))) else (none)) else (some (x6, 0))
end
def tenancyref08_Decode.f (k : Nat) (a0 : ByteArray) : Option ((List (S31)) × Int) := (tenancyref04_Get16.f k a0 0).bind fun bt482 => (if bt482.2 = true then (if bt482.1 > 2048 then (some (([] : List (S31)), 6)) else (tenancyref08_Decode.l0 k a0 bt482.1 (([] : List (S31))) 2 0)) else (some (([] : List (S31)), 3)))
theorem tenancyref08_Decode.mono_l : ∀ k, (∀ y0 y1 y2 y3 y4, LeO (tenancyref08_Decode.l0 k y0 y1 y2 y3 y4) (tenancyref08_Decode.l0 (k + 1) y0 y1 y2 y3 y4)) ∧ (∀ y0 y1, LeO (tenancyref08_Decode.l1 k y0 y1) (tenancyref08_Decode.l1 (k + 1) y0 y1))
  | 0 => ⟨fun _ _ _ _ _ r h => by simp [tenancyref08_Decode.l0] at h, fun _ _ r h => by simp [tenancyref08_Decode.l1] at h⟩
  | k + 1 => by
    obtain ⟨ih0, ih1⟩ := tenancyref08_Decode.mono_l k
    refine ⟨?_, ?_⟩
    · intro y0 y1 y2 y3 y4
      unfold tenancyref08_Decode.l0
      repeat' first
      | (with_reducible exact ih0 _ _ _ _ _)
      | (with_reducible exact ih1 _ _)
      | (with_reducible exact tenancyref04_Get16.mono _ _ _)
      | (with_reducible exact tenancyref08_Change.mono _ _ _ _ _ _ _ _ _ _)
      | (with_reducible exact tenancyref08_one.mono _ _ _)
      | (with_reducible exact LeO.refl _)
      | (with_reducible exact LeO.none _)
      | (with_reducible refine LeO.ite ?_ ?_)
      | (with_reducible refine LeO.bind ?_ (fun _ => ?_))
      | exact ih0 _ _ _ _ _
      | exact ih1 _ _
      | exact tenancyref04_Get16.mono _ _ _
      | exact tenancyref08_Change.mono _ _ _ _ _ _ _ _ _ _
      | exact tenancyref08_one.mono _ _ _
      | exact LeO.none _
      | refine LeO.ite ?_ ?_
      | refine LeO.bind ?_ (fun _ => ?_)
    · intro y0 y1
      unfold tenancyref08_Decode.l1
      repeat' first
      | (with_reducible exact ih0 _ _ _ _ _)
      | (with_reducible exact ih1 _ _)
      | (with_reducible exact tenancyref04_Get16.mono _ _ _)
      | (with_reducible exact tenancyref08_Change.mono _ _ _ _ _ _ _ _ _ _)
      | (with_reducible exact tenancyref08_one.mono _ _ _)
      | (with_reducible exact LeO.refl _)
      | (with_reducible exact LeO.none _)
      | (with_reducible refine LeO.ite ?_ ?_)
      | (with_reducible refine LeO.bind ?_ (fun _ => ?_))
      | exact ih0 _ _ _ _ _
      | exact ih1 _ _
      | exact tenancyref04_Get16.mono _ _ _
      | exact tenancyref08_Change.mono _ _ _ _ _ _ _ _ _ _
      | exact tenancyref08_one.mono _ _ _
      | exact LeO.none _
      | refine LeO.ite ?_ ?_
      | refine LeO.bind ?_ (fun _ => ?_)
theorem tenancyref08_Decode.mono : ∀ a0 k, LeO (tenancyref08_Decode.f k a0) (tenancyref08_Decode.f (k + 1) a0) := by
  intro a0 k
  obtain ⟨ih0, ih1⟩ := tenancyref08_Decode.mono_l k
  unfold tenancyref08_Decode.f
  repeat' first
      | (with_reducible exact ih0 _ _ _ _ _)
      | (with_reducible exact ih1 _ _)
      | (with_reducible exact tenancyref04_Get16.mono _ _ _)
      | (with_reducible exact tenancyref08_Change.mono _ _ _ _ _ _ _ _ _ _)
      | (with_reducible exact tenancyref08_one.mono _ _ _)
      | (with_reducible exact LeO.refl _)
      | (with_reducible exact LeO.none _)
      | (with_reducible refine LeO.ite ?_ ?_)
      | (with_reducible refine LeO.bind ?_ (fun _ => ?_))
      | exact ih0 _ _ _ _ _
      | exact ih1 _ _
      | exact tenancyref04_Get16.mono _ _ _
      | exact tenancyref08_Change.mono _ _ _ _ _ _ _ _ _ _
      | exact tenancyref08_one.mono _ _ _
      | exact LeO.none _
      | refine LeO.ite ?_ ?_
      | refine LeO.bind ?_ (fun _ => ?_)
set_option maxHeartbeats 20000000 in
set_option maxRecDepth 100000 in
theorem tenancyref08_Decode.calls (k : Nat) (a0 : ByteArray) (r1 : List (S31)) (r2 : Int) (w : World) (h : tenancyref08_Decode.f k a0 = some (r1, r2)) :
    Calls Try.prog 23 #[.string a0] w fun e w' => ∃ v0_ : Value, e = .returned (.tuple #[v0_, .int .i64 r2]) ∧ Kd.R k31 31 w' w.heap.size (fun _ => True) v0_ r1 ∧ Below w.heap.size w w' := by
  have hu31 := Try.underlying31
  have HB := Aside0.mk (Below.refl w.heap.size w)
  have H : ((tenancyref04_Get16.f k a0 0).bind fun bt482 => (if bt482.2 = true then (if bt482.1 > 2048 then (some (([] : List (S31)), 6)) else (tenancyref08_Decode.l0 k a0 bt482.1 (([] : List (S31))) 2 0)) else (some (([] : List (S31)), 3)))) = some (r1, r2) := h
  clear h
  replace H := Option.bind_eq_some_iff.mp H
  obtain ⟨⟨t482, t483⟩, A20, H⟩ := H
  replace H : (if t483 = true then (if t482 > 2048 then (some (([] : List (S31)), 6)) else (tenancyref08_Decode.l0 k a0 t482 (([] : List (S31))) 2 0)) else (some (([] : List (S31)), 3))) = some (r1, r2) := H
  have A2 := Aside0.mk A20
  clear A20
  by_cases c3 : t483 = true
  · subst c3
    have H1 : (if t482 > 2048 then (some (([] : List (S31)), 6)) else (tenancyref08_Decode.l0 k a0 t482 (([] : List (S31))) 2 0)) = some (r1, r2) := by rw [if_pos rfl] at H; exact H
    clear H
    have H := H1
    clear H1
    by_cases c4 : t482 > 2048
    · rw [if_pos c4] at H
      have c4b0 : decide (2048 < t482) = true := decide_eq_true c4
      clear c4
      simp only [Option.some.injEq, Prod.mk.injEq] at H
      obtain ⟨rfl, rfl⟩ := H
      go_enter Try.func23, Try.ntmps23
      go_wp2_with (first | ((with_reducible refine gate_callee (f := 49) rfl ?_); refine goesL_ (some 15) rfl rfl Try.func49 (by kernel_rfl) rfl #[.string a0, .int .i64 0] rfl (by (try simp only [List.map_toArray, List.map_cons, List.map_nil]); first | rfl) ?_; (with_reducible refine (tenancyref04_Get16.calls k a0 0 t482 true _ A2.out).mono ?_); rintro e w' ⟨rfl, ⟨nd, rfl⟩⟩; refine ⟨_, rfl, ?_⟩))
      go_ret2
      exact ⟨_, by rfl, by first | exact Kd.R_nil _ _ _ _ _, by repeat (first | (with_reducible first | exact HB.out | apply pw_below_drewN))⟩
    · rw [if_neg c4] at H
      have c4b0 : decide (2048 < t482) = false := decide_eq_false c4
      clear c4
      obtain ⟨y484, hy484⟩ : ∃ y_ : List (S31), y_ = (([] : List (S31))) := ⟨_, rfl⟩
      replace H : (tenancyref08_Decode.l0 k a0 t482 y484 2 0) = some (r1, r2) := by first | (rw [hy484]; with_reducible exact H)
      have Ny484 := Aside0.mk hy484
      clear hy484
      have H' := Aside0.mk H
      clear H
      go_enter Try.func23, Try.ntmps23
      go_wp2_with (first | ((with_reducible refine gate_callee (f := 49) rfl ?_); refine goesL_ (some 15) rfl rfl Try.func49 (by kernel_rfl) rfl #[.string a0, .int .i64 0] rfl (by (try simp only [List.map_toArray, List.map_cons, List.map_nil]); first | rfl) ?_; (with_reducible refine (tenancyref04_Get16.calls k a0 0 t482 true _ A2.out).mono ?_); rintro e w' ⟨rfl, ⟨nd, rfl⟩⟩; refine ⟨_, rfl, ?_⟩) | ((with_reducible refine gate_dst (N := 22) rfl ?_); refine Kd.R_lit k31 _ 31 ?hg (N := 22) ?hd (xs := ([] : List (S31))) (inner := []) (ok := fun _ => True) (okp := fun _ => True) ?hr ?hp (fun _ hk => hk) trivial (Below.refl _ _) (Nat.le_refl _) (by simp) ?_; (case hd => rfl); (case hg => rfl); (case hr => go_simp; done); (case hp => exact (Reps.none _ _)); intro v485 w5 ho6 hb hg_ hnew_; clear hg_ hnew_; (first | rw [← Ny484.out] at ho6); have n0_ := Aside0.mk (Kd.R_lower ho6 (below_size (by repeat (first | (with_reducible first | exact HB.out | apply pw_below_drewN))))); have n1_ := Aside0.mk (below_step (by repeat (first | (with_reducible first | exact HB.out | apply pw_below_drewN))) hb); clear HB; have HO486 := n0_; have HB := n1_; clear n0_ n1_; clear hb ho6))
      go_loopg [6, 7, 8] k (fun kq v6 v7 v8 w' => ∃ (x6_1 : List (S31)) (x7_1 : Int) (x8_1 : Int), v7 = .int .i64 x7_1 ∧ v8 = .int .i64 x8_1 ∧ Aside0 (tenancyref08_Decode.l0 kq a0 t482 x6_1 x7_1 x8_1 = some (r1, r2)) ∧ Aside0 (kq ≤ k) ∧ Aside0 (Kd.R k31 31 w' w.heap.size (fun _ => True) v6 x6_1) ∧ Aside0 (Below w.heap.size w w'))
      case atStart => exact ⟨(y484), (2), (0), (by rfl), (by rfl), H', ⟨Nat.le_refl _⟩, ⟨by exact HO486.out⟩, ⟨by exact HB.out⟩⟩
      case round =>
        clear H'
        try clear c2
        try clear p2
        try clear c3
        try clear c4
        try clear c4b0
        obtain ⟨x6_1, x7_1, x8_1, rfl, rfl, HA, HK1, HO_6, HB⟩ := hrel
        cases gk with
        | zero => exact absurd HA.out (by simp [tenancyref08_Decode.l0])
        | succ k1 =>
          have H := HA.out
          clear HA
          simp only [tenancyref08_Decode.l0] at H
          by_cases c7 : x8_1 < (wrap64 (t482))
          · rw [if_pos c7] at H
            have c7b0 : decide (x8_1 < (wrap64 (t482))) = true := decide_eq_true c7
            clear c7
            replace H := Option.bind_eq_some_iff.mp H
            obtain ⟨⟨t487, t488, t489, t490, t491, t492, t493, t494, t495, t496, t497⟩, A80, H⟩ := H
            replace H : (if t497 = 0 then (if x6_1.length < 1759218604441 then (tenancyref08_Decode.l0 k1 a0 t482 (x6_1 ++ [(⟨t487, (⟨t488, (⟨(⟨t489, t490⟩ : S24), t491⟩ : S26), t492, t493, t494, t495⟩ : S29)⟩ : S31)]) t496 (wrap64 (x8_1 + 1))) else (none)) else (some (([] : List (S31)), t497))) = some (r1, r2) := H
            have A8 := Aside0.mk A80
            clear A80
            by_cases c9 : t497 = 0
            · rw [if_pos c9] at H
              have c9b0 : (t497 == 0) = true := beq_iff_eq.mpr c9
              have c9b1 : (t497 != 0) = false := bne_eq_false_iff_eq.mpr c9
              clear c9
              by_cases c10 : x6_1.length < 1759218604441
              · rw [if_pos c10] at H
                have LMc10 := Aside0.mk c10
                clear c10
                obtain ⟨y499, hy499⟩ : ∃ y_ : List (S31), y_ = (x6_1 ++ [(⟨t487, (⟨t488, (⟨(⟨t489, t490⟩ : S24), t491⟩ : S26), t492, t493, t494, t495⟩ : S29)⟩ : S31)]) := ⟨_, rfl⟩
                replace H : (tenancyref08_Decode.l0 k1 a0 t482 y499 t496 (wrap64 (x8_1 + 1))) = some (r1, r2) := by first | (rw [hy499]; with_reducible exact H)
                have Ny499 := Aside0.mk hy499
                clear hy499
                have H' := Aside0.mk H
                clear H
                go_wp2_with (first | ((with_reducible refine gate_callee (f := 50) rfl ?_); refine goesL_ (some 32) rfl rfl Try.func50 (by kernel_rfl) rfl #[.string a0, .int .i64 x7_1] rfl (by (try simp only [List.map_toArray, List.map_cons, List.map_nil]); first | rfl) ?_; (with_reducible refine (tenancyref08_one.calls k1 a0 x7_1 t487 t488 t489 t490 t491 t492 t493 t494 t495 t496 t497 _ A8.out).mono ?_); rintro e w11 ⟨rfl, hb⟩; refine ⟨_, rfl, ?_⟩; have n0_ := Aside0.mk (Kd.R_below HO_6.out hb); have n1_ := Aside0.mk (below_step HB.out hb); clear HO_6; clear HB; have HO_6 := n0_; have HB := n1_; clear n0_ n1_; (try clear hb); (try clear hb2); (try clear hk); (try clear hi)) | ((with_reducible refine gate_dst (N := 9) rfl ?_); refine box_event ?hg (N := 9) ?hd (cs := #[.bool false, .int .i64 0, .int .u64 0, .int .u64 0, .int .i64 0, .int .i64 0, .string (⟨#[]⟩ : ByteArray), .int .u32 0, .int .i64 0]) (t := 31) ?hr ?_; (case hd => rfl); (case hg => rfl); (case hr => go_simp; done); intro gb498 hg w12 hbox hb; have n0_ := Aside0.mk (Kd.R_below (Kd.R_elderB HO_6.out gb498 (Nat.le_of_eq hg.symm)) hb); have n1_ := Aside0.mk (below_step HB.out hb); have n2_ := Aside0.mk (hbox); have n3_ := Aside0.mk ((by rw [hg]; exact (below_size HB.out) : w.heap.size ≤ gb498)); have n4_ := Aside0.mk ((by rw [hg]; exact (below_size HB.out) : w.heap.size ≤ gb498)); clear HO_6; clear HB; have HO_6 := n0_; have HB := n1_; have BK498 := n2_; have GW498 := n3_; have GE498 := n4_; clear n0_ n1_ n2_ n3_ n4_; clear hb hbox hg; obtain ⟨hcz13_0, hcz13_1, hcz13_2, hcz13_3, hcz13_4, hcz13_5, hcz13_6, hcz13_7, hcz13_8⟩ := XRun.bc9 BK498.out; obtain ⟨hfz13_0, hfz13_1, hfz13_2, hfz13_3, hfz13_4, hfz13_5, hfz13_6, hfz13_7, hfz13_8⟩ := XRun.bf9 BK498.out) | ((with_reducible refine gate_builtin (b := .append) (xs := #[.tmp 39, .tmp 41]) rfl ?_); at_builtin; refine Kd.R_append k31 (w0 := w) w.heap.size rfl (.tmp 39) (.tmp 41) 39 31 (.agg #[(.bool false), (.int .i64 0), (.int .u64 0), (.int .u64 0), (.int .i64 0), (.int .i64 0), (.string ⟨#[]⟩), (.int .u32 0), (.int .i64 0)]) 80 rfl Try.underlying39 info31 rfl (by decide) (by omega) u6 x6_1 (⟨t487, (⟨t488, (⟨(⟨t489, t490⟩ : S24), t491⟩ : S26), t492, t493, t494, t495⟩ : S29)⟩ : S31) [.bool t487, .int .i64 t488, .int .u64 t489, .int .u64 t490, .int .i64 t491, .int .i64 t492, .string t493, .int .u32 t494, .int .i64 t495] (fun k_ => k_ ≠ gb498) (fun _ => False) rfl (by first | (go_simp; done)) ?aP (fun _ hk => hk.elim) ?aF ?aO ?aB ?aS ?aL ?_; (case aP => exact k31_mkM _ _ _ (⟨t487, (⟨t488, (⟨(⟨t489, t490⟩ : S24), t491⟩ : S26), t492, t493, t494, t495⟩ : S29)⟩ : S31)); (case aB => exact (by repeat (first | (with_reducible first | exact HB.out | refine below_set ?_ GE498.out)))); (case aF => exact (fun k_ hk => Kd.freshB (g := gb498) (o := .cells #[.bool t487, .int .i64 t488, .int .u64 t489, .int .u64 t490, .int .i64 t491, .int .i64 t492, .string t493, .int .u32 t494, .int .i64 t495] 31 (0, 0)) (by refine blk_put (cs := #[.bool t487, .int .i64 t488, .int .u64 t489, .int .u64 t490, .int .i64 t491, .int .i64 t492, .string t493, .int .u32 t494, .int .i64 0]) ?_ 8 _ rfl; refine blk_put (cs := #[.bool t487, .int .i64 t488, .int .u64 t489, .int .u64 t490, .int .i64 t491, .int .i64 t492, .string t493, .int .u32 0, .int .i64 0]) ?_ 7 _ rfl; refine blk_put (cs := #[.bool t487, .int .i64 t488, .int .u64 t489, .int .u64 t490, .int .i64 t491, .int .i64 t492, .string (⟨#[]⟩ : ByteArray), .int .u32 0, .int .i64 0]) ?_ 6 _ rfl; refine blk_put (cs := #[.bool t487, .int .i64 t488, .int .u64 t489, .int .u64 t490, .int .i64 t491, .int .i64 0, .string (⟨#[]⟩ : ByteArray), .int .u32 0, .int .i64 0]) ?_ 5 _ rfl; refine blk_put (cs := #[.bool t487, .int .i64 t488, .int .u64 t489, .int .u64 t490, .int .i64 0, .int .i64 0, .string (⟨#[]⟩ : ByteArray), .int .u32 0, .int .i64 0]) ?_ 4 _ rfl; refine blk_put (cs := #[.bool t487, .int .i64 t488, .int .u64 t489, .int .u64 0, .int .i64 0, .int .i64 0, .string (⟨#[]⟩ : ByteArray), .int .u32 0, .int .i64 0]) ?_ 3 _ rfl; refine blk_put (cs := #[.bool t487, .int .i64 t488, .int .u64 0, .int .u64 0, .int .i64 0, .int .i64 0, .string (⟨#[]⟩ : ByteArray), .int .u32 0, .int .i64 0]) ?_ 2 _ rfl; refine blk_put (cs := #[.bool t487, .int .i64 0, .int .u64 0, .int .u64 0, .int .i64 0, .int .i64 0, .string (⟨#[]⟩ : ByteArray), .int .u32 0, .int .i64 0]) ?_ 1 _ rfl; refine blk_put (cs := #[.bool false, .int .i64 0, .int .u64 0, .int .u64 0, .int .i64 0, .int .i64 0, .string (⟨#[]⟩ : ByteArray), .int .u32 0, .int .i64 0]) ?_ 0 _ rfl; exact BK498.out) k_ hk)); (case aO => exact (by exact Kd.R_mono (Kd.R_far (p := ⟨gb498, 8, none⟩) (Kd.R_far (p := ⟨gb498, 7, none⟩) (Kd.R_far (p := ⟨gb498, 6, none⟩) (Kd.R_far (p := ⟨gb498, 5, none⟩) (Kd.R_far (p := ⟨gb498, 4, none⟩) (Kd.R_far (p := ⟨gb498, 3, none⟩) (Kd.R_far (p := ⟨gb498, 2, none⟩) (Kd.R_far (p := ⟨gb498, 1, none⟩) (Kd.R_far (p := ⟨gb498, 0, none⟩) (Kd.R_mono HO_6.out (fun k_ hk => (⟨hk, hk.2⟩ : _ ∧ k_ ≠ gb498))) (fun _ hk => hk.2) (.bool t487)) (fun _ hk => hk.2) (.int .i64 t488)) (fun _ hk => hk.2) (.int .u64 t489)) (fun _ hk => hk.2) (.int .u64 t490)) (fun _ hk => hk.2) (.int .i64 t491)) (fun _ hk => hk.2) (.int .i64 t492)) (fun _ hk => hk.2) (.string t493)) (fun _ hk => hk.2) (.int .u32 t494)) (fun _ hk => hk.2) (.int .i64 t495)) (fun _ hk => hk.1.2))); (case aS => exact (below_size (by repeat (first | (with_reducible first | exact HB.out | refine below_set ?_ GE498.out))))); (case aL => have := LMc10.out; omega); intro v500 w14 ho hb hg hat; rw [← Ny499.out] at ho; have n0_ := Aside0.mk (blk_grown (g := gb498) (o := .cells #[.bool t487, .int .i64 t488, .int .u64 t489, .int .u64 t490, .int .i64 t491, .int .i64 t492, .string t493, .int .u32 t494, .int .i64 t495] 31 (0, 0)) (by refine blk_put (cs := #[.bool t487, .int .i64 t488, .int .u64 t489, .int .u64 t490, .int .i64 t491, .int .i64 t492, .string t493, .int .u32 t494, .int .i64 0]) ?_ 8 _ rfl; refine blk_put (cs := #[.bool t487, .int .i64 t488, .int .u64 t489, .int .u64 t490, .int .i64 t491, .int .i64 t492, .string t493, .int .u32 0, .int .i64 0]) ?_ 7 _ rfl; refine blk_put (cs := #[.bool t487, .int .i64 t488, .int .u64 t489, .int .u64 t490, .int .i64 t491, .int .i64 t492, .string (⟨#[]⟩ : ByteArray), .int .u32 0, .int .i64 0]) ?_ 6 _ rfl; refine blk_put (cs := #[.bool t487, .int .i64 t488, .int .u64 t489, .int .u64 t490, .int .i64 t491, .int .i64 0, .string (⟨#[]⟩ : ByteArray), .int .u32 0, .int .i64 0]) ?_ 5 _ rfl; refine blk_put (cs := #[.bool t487, .int .i64 t488, .int .u64 t489, .int .u64 t490, .int .i64 0, .int .i64 0, .string (⟨#[]⟩ : ByteArray), .int .u32 0, .int .i64 0]) ?_ 4 _ rfl; refine blk_put (cs := #[.bool t487, .int .i64 t488, .int .u64 t489, .int .u64 0, .int .i64 0, .int .i64 0, .string (⟨#[]⟩ : ByteArray), .int .u32 0, .int .i64 0]) ?_ 3 _ rfl; refine blk_put (cs := #[.bool t487, .int .i64 t488, .int .u64 0, .int .u64 0, .int .i64 0, .int .i64 0, .string (⟨#[]⟩ : ByteArray), .int .u32 0, .int .i64 0]) ?_ 2 _ rfl; refine blk_put (cs := #[.bool t487, .int .i64 0, .int .u64 0, .int .u64 0, .int .i64 0, .int .i64 0, .string (⟨#[]⟩ : ByteArray), .int .u32 0, .int .i64 0]) ?_ 1 _ rfl; refine blk_put (cs := #[.bool false, .int .i64 0, .int .u64 0, .int .u64 0, .int .i64 0, .int .i64 0, .string (⟨#[]⟩ : ByteArray), .int .u32 0, .int .i64 0]) ?_ 0 _ rfl; exact BK498.out) hg (Kd.R_away HO_6.out (fun _ hk => hk.2))); have n1_ := Aside0.mk (hb); have n2_ := Aside0.mk (ho); clear BK498; clear HB; clear HO_6; have BK498 := n0_; have HB := n1_; have HO501 := n2_; clear n0_ n1_ n2_; clear ho hb hg hat))
                go_roundg k1
                case measure => have := HK1.out; omega
                case rel => exact ⟨(y499), (t496), (wrap64 (x8_1 + 1)), (by rfl), (by rfl), H', ⟨by have := HK1.out; omega⟩, ⟨by exact Kd.R_mono HO501.out (fun _ hk => trivial)⟩, ⟨by exact HB.out⟩⟩
              · rw [if_neg c10] at H
                exact absurd H (by simp)
            · rw [if_neg c9] at H
              have c9b0 : (t497 == 0) = false := beq_eq_false_iff_ne.mpr c9
              have c9b1 : (t497 != 0) = true := bne_iff_ne.mpr c9
              simp only [Option.some.injEq, Prod.mk.injEq] at H
              obtain ⟨rfl, rfl⟩ := H
              go_wp2_with (first | ((with_reducible refine gate_callee (f := 50) rfl ?_); refine goesL_ (some 32) rfl rfl Try.func50 (by kernel_rfl) rfl #[.string a0, .int .i64 x7_1] rfl (by (try simp only [List.map_toArray, List.map_cons, List.map_nil]); first | rfl) ?_; (with_reducible refine (tenancyref08_one.calls k1 a0 x7_1 t487 t488 t489 t490 t491 t492 t493 t494 t495 t496 t497 _ A8.out).mono ?_); rintro e w15 ⟨rfl, hb⟩; refine ⟨_, rfl, ?_⟩; have n0_ := Aside0.mk (Kd.R_below HO_6.out hb); have n1_ := Aside0.mk (below_step HB.out hb); clear HO_6; clear HB; have HO_6 := n0_; have HB := n1_; clear n0_ n1_; (try clear hb); (try clear hb2); (try clear hk); (try clear hi)) | ((with_reducible refine gate_dst (N := 9) rfl ?_); refine box_event ?hg (N := 9) ?hd (cs := #[.bool false, .int .i64 0, .int .u64 0, .int .u64 0, .int .i64 0, .int .i64 0, .string (⟨#[]⟩ : ByteArray), .int .u32 0, .int .i64 0]) (t := 31) ?hr ?_; (case hd => rfl); (case hg => rfl); (case hr => go_simp; done); intro gb498 hg w16 hbox hb; have n0_ := Aside0.mk (Kd.R_below (Kd.R_elderB HO_6.out gb498 (Nat.le_of_eq hg.symm)) hb); have n1_ := Aside0.mk (below_step HB.out hb); have n2_ := Aside0.mk (hbox); have n3_ := Aside0.mk ((by rw [hg]; exact (below_size HB.out) : w.heap.size ≤ gb498)); have n4_ := Aside0.mk ((by rw [hg]; exact (below_size HB.out) : w.heap.size ≤ gb498)); clear HO_6; clear HB; have HO_6 := n0_; have HB := n1_; have BK498 := n2_; have GW498 := n3_; have GE498 := n4_; clear n0_ n1_ n2_ n3_ n4_; clear hb hbox hg; obtain ⟨hcz17_0, hcz17_1, hcz17_2, hcz17_3, hcz17_4, hcz17_5, hcz17_6, hcz17_7, hcz17_8⟩ := XRun.bc9 BK498.out; obtain ⟨hfz17_0, hfz17_1, hfz17_2, hfz17_3, hfz17_4, hfz17_5, hfz17_6, hfz17_7, hfz17_8⟩ := XRun.bf9 BK498.out))
              go_ret2
              exact ⟨_, by rfl, by first | exact Kd.R_nil _ _ _ _ _, by repeat (first | (with_reducible first | exact HB.out | refine below_set ?_ GE498.out))⟩
          · rw [if_neg c7] at H
            have c7b0 : decide (x8_1 < (wrap64 (t482))) = false := decide_eq_false c7
            clear c7
            by_cases c18 : x7_1 < (a0.size : Int)
            · rw [if_pos c18] at H
              have c18b0 : decide (x7_1 < (a0.size : Int)) = true := decide_eq_true c18
              clear c18
              simp only [Option.some.injEq, Prod.mk.injEq] at H
              obtain ⟨rfl, rfl⟩ := H
              go_wp2
              go_ret2
              exact ⟨_, by rfl, by first | exact Kd.R_nil _ _ _ _ _, by exact HB.out⟩
            · rw [if_neg c18] at H
              have c18b0 : decide (x7_1 < (a0.size : Int)) = false := decide_eq_false c18
              clear c18
              have H' := Aside0.mk H
              clear H
              go_wp2
              go_loopg [12] k1 (fun kq v12 w' => ∃ (x12_2 : Int), v12 = .int .i64 x12_2 ∧ Aside0 (tenancyref08_Decode.l1 kq x6_1 x12_2 = some (r1, r2)) ∧ Aside0 (kq ≤ k1) ∧ Aside0 (Kd.R k31 31 w' w.heap.size (fun _ => True) u6 x6_1) ∧ Aside0 (Below w.heap.size w w'))
              case atStart => exact ⟨(0), (by rfl), H', ⟨Nat.le_refl _⟩, ⟨by exact HO_6.out⟩, ⟨by exact HB.out⟩⟩
              case round =>
                clear H'
                try clear c1
                try clear c2
                try clear p2
                try clear c3
                try clear c4
                try clear c4b0
                try clear c5
                try clear p6
                try clear c7
                try clear c7b0
                try clear c9
                try clear c9b0
                try clear c9b1
                try clear c10
                try clear c18
                try clear c18b0
                try clear hcz13_0
                try clear hcz13_1
                try clear hcz13_2
                try clear hcz13_3
                try clear hcz13_4
                try clear hcz13_5
                try clear hcz13_6
                try clear hcz13_7
                try clear hcz13_8
                try clear hcz17_0
                try clear hcz17_1
                try clear hcz17_2
                try clear hcz17_3
                try clear hcz17_4
                try clear hcz17_5
                try clear hcz17_6
                try clear hcz17_7
                try clear hcz17_8
                try clear hfz13_0
                try clear hfz13_1
                try clear hfz13_2
                try clear hfz13_3
                try clear hfz13_4
                try clear hfz13_5
                try clear hfz13_6
                try clear hfz13_7
                try clear hfz13_8
                try clear hfz17_0
                try clear hfz17_1
                try clear hfz17_2
                try clear hfz17_3
                try clear hfz17_4
                try clear hfz17_5
                try clear hfz17_6
                try clear hfz17_7
                try clear hfz17_8
                try clear p2
                obtain ⟨x12_2, rfl, HA, HK2, HO_6, HB⟩ := hrel
                cases gk with
                | zero => exact absurd HA.out (by simp [tenancyref08_Decode.l1])
                | succ k2 =>
                  have H := HA.out
                  clear HA
                  simp only [tenancyref08_Decode.l1] at H
                  by_cases c19 : x12_2 < (x6_1.length : Int)
                  · rw [if_pos c19] at H
                    have c19b0 : decide (x12_2 < (x6_1.length : Int)) = true := decide_eq_true c19
                    clear c19
                    by_cases c20 : 0 ≤ x12_2
                    · rw [if_pos c20] at H
                      have c20b0 : decide (0 ≤ x12_2) = true := decide_eq_true c20
                      clear c20
                      replace H := Option.bind_eq_some_iff.mp H
                      obtain ⟨t503, A210, H⟩ := H
                      replace H : (if t503 = true then (tenancyref08_Decode.l1 k2 x6_1 (wrap64 (x12_2 + 1))) else (some (([] : List (S31)), 80))) = some (r1, r2) := H
                      have A21 := Aside0.mk A210
                      clear A210
                      by_cases c22 : t503 = true
                      · subst c22
                        have H1 : (tenancyref08_Decode.l1 k2 x6_1 (wrap64 (x12_2 + 1))) = some (r1, r2) := by rw [if_pos rfl] at H; exact H
                        clear H
                        have H := H1
                        clear H1
                        have H' := Aside0.mk H
                        clear H
                        obtain ⟨Ao23, co23, eo23⟩ := Kd.R_slice HO_6.out
                        subst eo23
                        have p502 : 0 ≤ (x12_2 : Int) := of_decide_eq_true (by first | (with_reducible assumption))
                        have q502 : x12_2 < (x6_1.length : Int) := of_decide_eq_true (by first | (with_reducible assumption))
                        obtain ⟨ad502, e502, hx502_0, hx502_1, hx502_2, hx502_3, hx502_4, hx502_5, hx502_6, hx502_7, hx502_8⟩ := at_T31 (Kd.R_reads' HO_6.out).2.2 x12_2 p502 q502
                        cases e502
                        replace p502 := eq_true p502
                        replace q502 := eq_true q502
                        go_wp2_with (first | ((with_reducible refine gate_callee (f := 15) rfl ?_); refine goesL_ (some 58) rfl rfl Try.func15 (by kernel_rfl) rfl #[.agg #[.bool ((rd_T31 x6_1 x12_2).f0), .int .i64 ((rd_T31 x6_1 x12_2).f1.f0), .int .u64 ((rd_T31 x6_1 x12_2).f1.f1.f0.f0), .int .u64 ((rd_T31 x6_1 x12_2).f1.f1.f0.f1), .int .i64 ((rd_T31 x6_1 x12_2).f1.f1.f1), .int .i64 ((rd_T31 x6_1 x12_2).f1.f2), .string ((rd_T31 x6_1 x12_2).f1.f3), .int .u32 ((rd_T31 x6_1 x12_2).f1.f4), .int .i64 ((rd_T31 x6_1 x12_2).f1.f5)]] rfl (by (try simp only [List.map_toArray, List.map_cons, List.map_nil]); first | rfl) ?_; (with_reducible refine (tenancyref08_Change.calls k2 ((rd_T31 x6_1 x12_2).f0) ((rd_T31 x6_1 x12_2).f1.f0) ((rd_T31 x6_1 x12_2).f1.f1.f0.f0) ((rd_T31 x6_1 x12_2).f1.f1.f0.f1) ((rd_T31 x6_1 x12_2).f1.f1.f1) ((rd_T31 x6_1 x12_2).f1.f2) ((rd_T31 x6_1 x12_2).f1.f3) ((rd_T31 x6_1 x12_2).f1.f4) ((rd_T31 x6_1 x12_2).f1.f5) true _ A21.out).mono ?_); rintro e w24 ⟨rfl, hb⟩; refine ⟨_, rfl, ?_⟩; have n0_ := Aside0.mk (Kd.R_below HO_6.out hb); have n1_ := Aside0.mk (below_step HB.out hb); clear HO_6; clear HB; have HO_6 := n0_; have HB := n1_; clear n0_ n1_; (try clear hb); (try clear hb2); (try clear hk); (try clear hi)))
                        go_roundg k2
                        case measure => have := HK1.out; have := HK2.out; omega
                        case rel => exact ⟨(wrap64 (x12_2 + 1)), (by rfl), H', ⟨by have := HK1.out; have := HK2.out; omega⟩, ⟨by exact HO_6.out⟩, ⟨by exact HB.out⟩⟩
                      · replace c22 := Bool.eq_false_iff.mpr c22
                        subst c22
                        have H1 : (some (([] : List (S31)), 80)) = some (r1, r2) := by rw [if_neg (show ¬ (false = true) by decide)] at H; exact H
                        clear H
                        have H := H1
                        clear H1
                        simp only [Option.some.injEq, Prod.mk.injEq] at H
                        obtain ⟨rfl, rfl⟩ := H
                        obtain ⟨Ao25, co25, eo25⟩ := Kd.R_slice HO_6.out
                        subst eo25
                        have p502 : 0 ≤ (x12_2 : Int) := of_decide_eq_true (by first | (with_reducible assumption))
                        have q502 : x12_2 < (x6_1.length : Int) := of_decide_eq_true (by first | (with_reducible assumption))
                        obtain ⟨ad502, e502, hx502_0, hx502_1, hx502_2, hx502_3, hx502_4, hx502_5, hx502_6, hx502_7, hx502_8⟩ := at_T31 (Kd.R_reads' HO_6.out).2.2 x12_2 p502 q502
                        cases e502
                        replace p502 := eq_true p502
                        replace q502 := eq_true q502
                        go_wp2_with (first | ((with_reducible refine gate_callee (f := 15) rfl ?_); refine goesL_ (some 58) rfl rfl Try.func15 (by kernel_rfl) rfl #[.agg #[.bool ((rd_T31 x6_1 x12_2).f0), .int .i64 ((rd_T31 x6_1 x12_2).f1.f0), .int .u64 ((rd_T31 x6_1 x12_2).f1.f1.f0.f0), .int .u64 ((rd_T31 x6_1 x12_2).f1.f1.f0.f1), .int .i64 ((rd_T31 x6_1 x12_2).f1.f1.f1), .int .i64 ((rd_T31 x6_1 x12_2).f1.f2), .string ((rd_T31 x6_1 x12_2).f1.f3), .int .u32 ((rd_T31 x6_1 x12_2).f1.f4), .int .i64 ((rd_T31 x6_1 x12_2).f1.f5)]] rfl (by (try simp only [List.map_toArray, List.map_cons, List.map_nil]); first | rfl) ?_; (with_reducible refine (tenancyref08_Change.calls k2 ((rd_T31 x6_1 x12_2).f0) ((rd_T31 x6_1 x12_2).f1.f0) ((rd_T31 x6_1 x12_2).f1.f1.f0.f0) ((rd_T31 x6_1 x12_2).f1.f1.f0.f1) ((rd_T31 x6_1 x12_2).f1.f1.f1) ((rd_T31 x6_1 x12_2).f1.f2) ((rd_T31 x6_1 x12_2).f1.f3) ((rd_T31 x6_1 x12_2).f1.f4) ((rd_T31 x6_1 x12_2).f1.f5) false _ A21.out).mono ?_); rintro e w26 ⟨rfl, hb⟩; refine ⟨_, rfl, ?_⟩; have n0_ := Aside0.mk (Kd.R_below HO_6.out hb); have n1_ := Aside0.mk (below_step HB.out hb); clear HO_6; clear HB; have HO_6 := n0_; have HB := n1_; clear n0_ n1_; (try clear hb); (try clear hb2); (try clear hk); (try clear hi)))
                        go_ret2
                        exact ⟨_, by rfl, by first | exact Kd.R_nil _ _ _ _ _, by exact HB.out⟩
                    · rw [if_neg c20] at H
                      exact absurd H (by simp)
                  · rw [if_neg c19] at H
                    have c19b0 : decide (x12_2 < (x6_1.length : Int)) = false := decide_eq_false c19
                    clear c19
                    simp only [Option.some.injEq, Prod.mk.injEq] at H
                    obtain ⟨rfl, rfl⟩ := H
                    obtain ⟨Ao27, co27, eo27⟩ := Kd.R_slice HO_6.out
                    subst eo27
                    go_wp2
                    go_ret2
                    exact ⟨_, by rfl, by exact HO_6.out, by exact HB.out⟩
  · replace c3 := Bool.eq_false_iff.mpr c3
    subst c3
    have H1 : (some (([] : List (S31)), 3)) = some (r1, r2) := by rw [if_neg (show ¬ (false = true) by decide)] at H; exact H
    clear H
    have H := H1
    clear H1
    simp only [Option.some.injEq, Prod.mk.injEq] at H
    obtain ⟨rfl, rfl⟩ := H
    go_enter Try.func23, Try.ntmps23
    go_wp2_with (first | ((with_reducible refine gate_callee (f := 49) rfl ?_); refine goesL_ (some 15) rfl rfl Try.func49 (by kernel_rfl) rfl #[.string a0, .int .i64 0] rfl (by (try simp only [List.map_toArray, List.map_cons, List.map_nil]); first | rfl) ?_; (with_reducible refine (tenancyref04_Get16.calls k a0 0 t482 false _ A2.out).mono ?_); rintro e w' ⟨rfl, ⟨nd, rfl⟩⟩; refine ⟨_, rfl, ?_⟩))
    go_ret2
    exact ⟨_, by rfl, by first | exact Kd.R_nil _ _ _ _ _, by repeat (first | (with_reducible first | exact HB.out | apply pw_below_drewN))⟩

end Go.Proofs.Ytpdopkhdhbdljaa.X
