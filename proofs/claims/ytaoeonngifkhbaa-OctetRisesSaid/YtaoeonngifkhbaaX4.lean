/- Functions of the program as Lean functions, and that the calls come to them: no condition.  By this session's own program (wip/xprint). -/
import Derived.Test.YtaoeonngifkhbaaX0
import Derived.Test.YtaoeonngifkhbaaX1
import Derived.Test.YtaoeonngifkhbaaX2
import Derived.Test.YtaoeonngifkhbaaX3
namespace Go.Proofs.Ytaoeonngifkhbaa.X
open Go.RowKit Go.Proofs.YtaoeonngifkhbaaW.PrintWords Go.Proofs.YtaoeonngifkhbaaW.PrintLast Go.Proofs.YtaoeonngifkhbaaW.PrintMore
attribute [local go_sem] max2_int min2_int max_two min_two max_three min_three max_four min_four   -- for this text's walks alone
set_option linter.unusedVariables false
set_option linter.unusedSimpArgs false

attribute [local go_sem high] eqA30
/-! ### tenancyref04_TakeRun: function 32 -/
def tenancyref04_TakeRun.f (k : Nat) (a0 : ByteArray) (a1 : Int) : Option (ByteArray × Int × Bool) := (tenancyref04_Get16.f k a0 a1).bind fun bt234 => (if bt234.2 = true then ((tenancyref04_Cut.f a0 (wrap64 (a1 + 2)) (wrap64 (bt234.1))).bind fun bt236 => (if bt236.2 = true then (some (bt236.1, wrap64 ((wrap64 (a1 + 2)) + (wrap64 (bt234.1))), true)) else (some ((⟨#[]⟩ : ByteArray), 0, false)))) else (some ((⟨#[]⟩ : ByteArray), 0, false)))
theorem tenancyref04_TakeRun.mono : ∀ a0 a1 k, LeO (tenancyref04_TakeRun.f k a0 a1) (tenancyref04_TakeRun.f (k + 1) a0 a1) := by
  intro a0 a1 k
  unfold tenancyref04_TakeRun.f
  repeat' first
      | (with_reducible exact tenancyref04_Get16.mono _ _ _)
      | (with_reducible exact LeO.refl _)
      | (with_reducible exact LeO.none _)
      | (with_reducible refine LeO.ite ?_ ?_)
      | (with_reducible refine LeO.bind ?_ (fun _ => ?_))
      | exact tenancyref04_Get16.mono _ _ _
      | exact LeO.none _
      | refine LeO.ite ?_ ?_
      | refine LeO.bind ?_ (fun _ => ?_)
set_option maxHeartbeats 8000000 in
set_option maxRecDepth 100000 in
theorem tenancyref04_TakeRun.calls (k : Nat) (a0 : ByteArray) (a1 : Int) (r1 : ByteArray) (r2 : Int) (r3 : Bool) (w : World) (h : tenancyref04_TakeRun.f k a0 a1 = some (r1, r2, r3)) :
    Calls Try.prog 32 #[.string a0, .int .i64 a1] w fun e w' => e = .returned (.tuple #[.string r1, .int .i64 r2, .bool r3]) ∧ Drawn0 w w' := by
  have H : ((tenancyref04_Get16.f k a0 a1).bind fun bt234 => (if bt234.2 = true then ((tenancyref04_Cut.f a0 (wrap64 (a1 + 2)) (wrap64 (bt234.1))).bind fun bt236 => (if bt236.2 = true then (some (bt236.1, wrap64 ((wrap64 (a1 + 2)) + (wrap64 (bt234.1))), true)) else (some ((⟨#[]⟩ : ByteArray), 0, false)))) else (some ((⟨#[]⟩ : ByteArray), 0, false)))) = some (r1, r2, r3) := h
  clear h
  replace H := Option.bind_eq_some_iff.mp H
  obtain ⟨⟨t234, t235⟩, A30, H⟩ := H
  replace H : (if t235 = true then ((tenancyref04_Cut.f a0 (wrap64 (a1 + 2)) (wrap64 (t234))).bind fun bt236 => (if bt236.2 = true then (some (bt236.1, wrap64 ((wrap64 (a1 + 2)) + (wrap64 (t234))), true)) else (some ((⟨#[]⟩ : ByteArray), 0, false)))) else (some ((⟨#[]⟩ : ByteArray), 0, false))) = some (r1, r2, r3) := H
  have A3 := Aside0.mk A30
  clear A30
  by_cases c4 : t235 = true
  · subst c4
    have H1 : ((tenancyref04_Cut.f a0 (wrap64 (a1 + 2)) (wrap64 (t234))).bind fun bt236 => (if bt236.2 = true then (some (bt236.1, wrap64 ((wrap64 (a1 + 2)) + (wrap64 (t234))), true)) else (some ((⟨#[]⟩ : ByteArray), 0, false)))) = some (r1, r2, r3) := by rw [if_pos rfl] at H; exact H
    clear H
    have H := H1
    clear H1
    replace H := Option.bind_eq_some_iff.mp H
    obtain ⟨⟨t236, t237⟩, A50, H⟩ := H
    replace H : (if t237 = true then (some (t236, wrap64 ((wrap64 (a1 + 2)) + (wrap64 (t234))), true)) else (some ((⟨#[]⟩ : ByteArray), 0, false))) = some (r1, r2, r3) := H
    have A5 := Aside0.mk A50
    clear A50
    by_cases c6 : t237 = true
    · subst c6
      have H1 : (some (t236, wrap64 ((wrap64 (a1 + 2)) + (wrap64 (t234))), true)) = some (r1, r2, r3) := by rw [if_pos rfl] at H; exact H
      clear H
      have H := H1
      clear H1
      simp only [Option.some.injEq, Prod.mk.injEq] at H
      obtain ⟨rfl, rfl, rfl⟩ := H
      go_enter Try.func32, Try.ntmps32
      go_wp2_with (first | ((with_reducible refine gate_callee (f := 23) rfl ?_); refine goesL_ (some 13) rfl rfl Try.func23 (by kernel_rfl) rfl #[.string a0, .int .i64 a1] rfl (by (try simp only [List.map_toArray, List.map_cons, List.map_nil]); first | done | rfl | (simp only [List.length_drop, List.length_take]; rfl)) ?_; (with_reducible refine (tenancyref04_Get16.calls k a0 a1 t234 true _ A3.out).mono ?_); rintro e w' ⟨rfl, ⟨nd, rfl⟩⟩; refine ⟨_, rfl, ?_⟩) | ((with_reducible refine gate_callee (f := 30) rfl ?_); refine goesL_ (some 24) rfl rfl Try.func30 (by kernel_rfl) rfl #[.string a0, .int .i64 (wrap64 (a1 + 2)), .int .i64 (wrap64 (t234))] rfl (by (try simp only [List.map_toArray, List.map_cons, List.map_nil]); first | done | rfl | (simp only [List.length_drop, List.length_take]; rfl)) ?_; (with_reducible refine (tenancyref04_Cut.calls a0 (wrap64 (a1 + 2)) (wrap64 (t234)) t236 true _ A5.out).mono ?_); rintro e w' ⟨rfl, ⟨nd, rfl⟩⟩; refine ⟨_, rfl, ?_⟩))
      go_ret3
      exact ⟨by first | rfl | (simp; done) | (simp [*]; done), by repeat (first | exact Drawn0.refl _ | apply Drawn0.step)⟩
    · replace c6 := Bool.eq_false_iff.mpr c6
      subst c6
      have H1 : (some ((⟨#[]⟩ : ByteArray), 0, false)) = some (r1, r2, r3) := by rw [if_neg (show ¬ (false = true) by decide)] at H; exact H
      clear H
      have H := H1
      clear H1
      simp only [Option.some.injEq, Prod.mk.injEq] at H
      obtain ⟨rfl, rfl, rfl⟩ := H
      go_enter Try.func32, Try.ntmps32
      go_wp2_with (first | ((with_reducible refine gate_callee (f := 23) rfl ?_); refine goesL_ (some 13) rfl rfl Try.func23 (by kernel_rfl) rfl #[.string a0, .int .i64 a1] rfl (by (try simp only [List.map_toArray, List.map_cons, List.map_nil]); first | done | rfl | (simp only [List.length_drop, List.length_take]; rfl)) ?_; (with_reducible refine (tenancyref04_Get16.calls k a0 a1 t234 true _ A3.out).mono ?_); rintro e w' ⟨rfl, ⟨nd, rfl⟩⟩; refine ⟨_, rfl, ?_⟩) | ((with_reducible refine gate_callee (f := 30) rfl ?_); refine goesL_ (some 24) rfl rfl Try.func30 (by kernel_rfl) rfl #[.string a0, .int .i64 (wrap64 (a1 + 2)), .int .i64 (wrap64 (t234))] rfl (by (try simp only [List.map_toArray, List.map_cons, List.map_nil]); first | done | rfl | (simp only [List.length_drop, List.length_take]; rfl)) ?_; (with_reducible refine (tenancyref04_Cut.calls a0 (wrap64 (a1 + 2)) (wrap64 (t234)) t236 false _ A5.out).mono ?_); rintro e w' ⟨rfl, ⟨nd, rfl⟩⟩; refine ⟨_, rfl, ?_⟩))
      go_ret3
      exact ⟨by first | rfl | (simp; done) | (simp [*]; done), by repeat (first | exact Drawn0.refl _ | apply Drawn0.step)⟩
  · replace c4 := Bool.eq_false_iff.mpr c4
    subst c4
    have H1 : (some ((⟨#[]⟩ : ByteArray), 0, false)) = some (r1, r2, r3) := by rw [if_neg (show ¬ (false = true) by decide)] at H; exact H
    clear H
    have H := H1
    clear H1
    simp only [Option.some.injEq, Prod.mk.injEq] at H
    obtain ⟨rfl, rfl, rfl⟩ := H
    go_enter Try.func32, Try.ntmps32
    go_wp2_with (first | ((with_reducible refine gate_callee (f := 23) rfl ?_); refine goesL_ (some 13) rfl rfl Try.func23 (by kernel_rfl) rfl #[.string a0, .int .i64 a1] rfl (by (try simp only [List.map_toArray, List.map_cons, List.map_nil]); first | done | rfl | (simp only [List.length_drop, List.length_take]; rfl)) ?_; (with_reducible refine (tenancyref04_Get16.calls k a0 a1 t234 false _ A3.out).mono ?_); rintro e w' ⟨rfl, ⟨nd, rfl⟩⟩; refine ⟨_, rfl, ?_⟩))
    go_ret3
    exact ⟨by first | rfl | (simp; done) | (simp [*]; done), by repeat (first | exact Drawn0.refl _ | apply Drawn0.step)⟩

/-! ### tenancylaw04_OctetGets: function 6 -/
mutual
def tenancylaw04_OctetGets.j0 : Nat → ByteArray → Int → Int → Bool → Option (Bool)
  | 0, _, _, _, _ => none
  | k + 1, x0, x1, x2, x66 => if x66 = true then (some false) else ((octet_Get64.f k x0 x1).bind fun bt247 => ((tenancyref04_Get64.f k x0 x1).bind fun bt249 => ((octet_GetAddr.f k x0 x1).bind fun bt251 => ((tenancyref04_GetAddr.f k x0 x1).bind fun bt255 => (if bt247.1 = bt249.1 then (if (bt247.2 != bt249.2) = true then (tenancylaw04_OctetGets.j1 k x0 x1 x2 true) else (if (!(bt251.1 == bt255.1) || (!(bt251.2.1 == bt255.2.1))) = true then (tenancylaw04_OctetGets.j1 k x0 x1 x2 true) else (tenancylaw04_OctetGets.j1 k x0 x1 x2 (bt251.2.2 != bt255.2.2)))) else (tenancylaw04_OctetGets.j1 k x0 x1 x2 true))))))
def tenancylaw04_OctetGets.j1 : Nat → ByteArray → Int → Int → Bool → Option (Bool)
  | 0, _, _, _, _ => none
  | k + 1, x0, x1, x2, x108 => if x108 = true then (some false) else ((octet_Cut.f x0 x1 x2).bind fun bt259 => ((tenancyref04_Cut.f x0 x1 x2).bind fun bt261 => (if bt259.1.toList = bt261.1.toList then (tenancylaw04_OctetGets.j2 k x0 x1 (bt259.2 != bt261.2)) else (tenancylaw04_OctetGets.j2 k x0 x1 true))))
def tenancylaw04_OctetGets.j2 : Nat → ByteArray → Int → Bool → Option (Bool)
  | 0, _, _, _ => none
  | k + 1, x0, x1, x130 => if x130 = true then (some false) else ((octet_TakeRun.f k x0 x1).bind fun bt263 => ((tenancyref04_TakeRun.f k x0 x1).bind fun bt266 => (if bt263.1.toList = bt266.1.toList then (if bt263.2.1 = bt266.2.1 then (some (bt263.2.2 == bt266.2.2)) else (some false)) else (some false))))
end
def tenancylaw04_OctetGets.f (k : Nat) (a0 : ByteArray) (a1 : Int) (a2 : Int) : Option (Bool) := (tenancylaw04_awake.f k).bind fun t238 => (if t238 = true then ((octet_Get16.f k a0 a1).bind fun bt239 => ((tenancyref04_Get16.f k a0 a1).bind fun bt241 => ((octet_Get32.f k a0 a1).bind fun bt243 => ((tenancyref04_Get32.f k a0 a1).bind fun bt245 => (if bt239.1 = bt241.1 then (if (bt239.2 != bt241.2) = true then (tenancylaw04_OctetGets.j0 k a0 a1 a2 true) else (if bt243.1 = bt245.1 then (tenancylaw04_OctetGets.j0 k a0 a1 a2 (bt243.2 != bt245.2)) else (tenancylaw04_OctetGets.j0 k a0 a1 a2 true))) else (tenancylaw04_OctetGets.j0 k a0 a1 a2 true)))))) else (some false))
theorem tenancylaw04_OctetGets.mono_l : ∀ k, (∀ y0 y1 y2 y3, LeO (tenancylaw04_OctetGets.j0 k y0 y1 y2 y3) (tenancylaw04_OctetGets.j0 (k + 1) y0 y1 y2 y3)) ∧ (∀ y0 y1 y2 y3, LeO (tenancylaw04_OctetGets.j1 k y0 y1 y2 y3) (tenancylaw04_OctetGets.j1 (k + 1) y0 y1 y2 y3)) ∧ (∀ y0 y1 y2, LeO (tenancylaw04_OctetGets.j2 k y0 y1 y2) (tenancylaw04_OctetGets.j2 (k + 1) y0 y1 y2))
  | 0 => ⟨fun _ _ _ _ r h => by simp [tenancylaw04_OctetGets.j0] at h, fun _ _ _ _ r h => by simp [tenancylaw04_OctetGets.j1] at h, fun _ _ _ r h => by simp [tenancylaw04_OctetGets.j2] at h⟩
  | k + 1 => by
    obtain ⟨ih0, ih1, ih2⟩ := tenancylaw04_OctetGets.mono_l k
    refine ⟨?_, ?_, ?_⟩
    · intro y0 y1 y2 y3
      unfold tenancylaw04_OctetGets.j0
      repeat' first
      | (with_reducible exact ih0 _ _ _ _)
      | (with_reducible exact ih1 _ _ _ _)
      | (with_reducible exact ih2 _ _ _)
      | (with_reducible exact octet_Get16.mono _ _ _)
      | (with_reducible exact octet_Get32.mono _ _ _)
      | (with_reducible exact octet_Get64.mono _ _ _)
      | (with_reducible exact octet_GetAddr.mono _ _ _)
      | (with_reducible exact octet_TakeRun.mono _ _ _)
      | (with_reducible exact tenancylaw04_awake.mono _)
      | (with_reducible exact tenancyref04_Get16.mono _ _ _)
      | (with_reducible exact tenancyref04_Get32.mono _ _ _)
      | (with_reducible exact tenancyref04_Get64.mono _ _ _)
      | (with_reducible exact tenancyref04_GetAddr.mono _ _ _)
      | (with_reducible exact tenancyref04_TakeRun.mono _ _ _)
      | (with_reducible exact LeO.refl _)
      | (with_reducible exact LeO.none _)
      | (with_reducible refine LeO.ite ?_ ?_)
      | (with_reducible refine LeO.bind ?_ (fun _ => ?_))
      | exact ih0 _ _ _ _
      | exact ih1 _ _ _ _
      | exact ih2 _ _ _
      | exact octet_Get16.mono _ _ _
      | exact octet_Get32.mono _ _ _
      | exact octet_Get64.mono _ _ _
      | exact octet_GetAddr.mono _ _ _
      | exact octet_TakeRun.mono _ _ _
      | exact tenancylaw04_awake.mono _
      | exact tenancyref04_Get16.mono _ _ _
      | exact tenancyref04_Get32.mono _ _ _
      | exact tenancyref04_Get64.mono _ _ _
      | exact tenancyref04_GetAddr.mono _ _ _
      | exact tenancyref04_TakeRun.mono _ _ _
      | exact LeO.none _
      | refine LeO.ite ?_ ?_
      | refine LeO.bind ?_ (fun _ => ?_)
    · intro y0 y1 y2 y3
      unfold tenancylaw04_OctetGets.j1
      repeat' first
      | (with_reducible exact ih0 _ _ _ _)
      | (with_reducible exact ih1 _ _ _ _)
      | (with_reducible exact ih2 _ _ _)
      | (with_reducible exact octet_Get16.mono _ _ _)
      | (with_reducible exact octet_Get32.mono _ _ _)
      | (with_reducible exact octet_Get64.mono _ _ _)
      | (with_reducible exact octet_GetAddr.mono _ _ _)
      | (with_reducible exact octet_TakeRun.mono _ _ _)
      | (with_reducible exact tenancylaw04_awake.mono _)
      | (with_reducible exact tenancyref04_Get16.mono _ _ _)
      | (with_reducible exact tenancyref04_Get32.mono _ _ _)
      | (with_reducible exact tenancyref04_Get64.mono _ _ _)
      | (with_reducible exact tenancyref04_GetAddr.mono _ _ _)
      | (with_reducible exact tenancyref04_TakeRun.mono _ _ _)
      | (with_reducible exact LeO.refl _)
      | (with_reducible exact LeO.none _)
      | (with_reducible refine LeO.ite ?_ ?_)
      | (with_reducible refine LeO.bind ?_ (fun _ => ?_))
      | exact ih0 _ _ _ _
      | exact ih1 _ _ _ _
      | exact ih2 _ _ _
      | exact octet_Get16.mono _ _ _
      | exact octet_Get32.mono _ _ _
      | exact octet_Get64.mono _ _ _
      | exact octet_GetAddr.mono _ _ _
      | exact octet_TakeRun.mono _ _ _
      | exact tenancylaw04_awake.mono _
      | exact tenancyref04_Get16.mono _ _ _
      | exact tenancyref04_Get32.mono _ _ _
      | exact tenancyref04_Get64.mono _ _ _
      | exact tenancyref04_GetAddr.mono _ _ _
      | exact tenancyref04_TakeRun.mono _ _ _
      | exact LeO.none _
      | refine LeO.ite ?_ ?_
      | refine LeO.bind ?_ (fun _ => ?_)
    · intro y0 y1 y2
      unfold tenancylaw04_OctetGets.j2
      repeat' first
      | (with_reducible exact ih0 _ _ _ _)
      | (with_reducible exact ih1 _ _ _ _)
      | (with_reducible exact ih2 _ _ _)
      | (with_reducible exact octet_Get16.mono _ _ _)
      | (with_reducible exact octet_Get32.mono _ _ _)
      | (with_reducible exact octet_Get64.mono _ _ _)
      | (with_reducible exact octet_GetAddr.mono _ _ _)
      | (with_reducible exact octet_TakeRun.mono _ _ _)
      | (with_reducible exact tenancylaw04_awake.mono _)
      | (with_reducible exact tenancyref04_Get16.mono _ _ _)
      | (with_reducible exact tenancyref04_Get32.mono _ _ _)
      | (with_reducible exact tenancyref04_Get64.mono _ _ _)
      | (with_reducible exact tenancyref04_GetAddr.mono _ _ _)
      | (with_reducible exact tenancyref04_TakeRun.mono _ _ _)
      | (with_reducible exact LeO.refl _)
      | (with_reducible exact LeO.none _)
      | (with_reducible refine LeO.ite ?_ ?_)
      | (with_reducible refine LeO.bind ?_ (fun _ => ?_))
      | exact ih0 _ _ _ _
      | exact ih1 _ _ _ _
      | exact ih2 _ _ _
      | exact octet_Get16.mono _ _ _
      | exact octet_Get32.mono _ _ _
      | exact octet_Get64.mono _ _ _
      | exact octet_GetAddr.mono _ _ _
      | exact octet_TakeRun.mono _ _ _
      | exact tenancylaw04_awake.mono _
      | exact tenancyref04_Get16.mono _ _ _
      | exact tenancyref04_Get32.mono _ _ _
      | exact tenancyref04_Get64.mono _ _ _
      | exact tenancyref04_GetAddr.mono _ _ _
      | exact tenancyref04_TakeRun.mono _ _ _
      | exact LeO.none _
      | refine LeO.ite ?_ ?_
      | refine LeO.bind ?_ (fun _ => ?_)
theorem tenancylaw04_OctetGets.mono : ∀ a0 a1 a2 k, LeO (tenancylaw04_OctetGets.f k a0 a1 a2) (tenancylaw04_OctetGets.f (k + 1) a0 a1 a2) := by
  intro a0 a1 a2 k
  obtain ⟨ih0, ih1, ih2⟩ := tenancylaw04_OctetGets.mono_l k
  unfold tenancylaw04_OctetGets.f
  repeat' first
      | (with_reducible exact ih0 _ _ _ _)
      | (with_reducible exact ih1 _ _ _ _)
      | (with_reducible exact ih2 _ _ _)
      | (with_reducible exact octet_Get16.mono _ _ _)
      | (with_reducible exact octet_Get32.mono _ _ _)
      | (with_reducible exact octet_Get64.mono _ _ _)
      | (with_reducible exact octet_GetAddr.mono _ _ _)
      | (with_reducible exact octet_TakeRun.mono _ _ _)
      | (with_reducible exact tenancylaw04_awake.mono _)
      | (with_reducible exact tenancyref04_Get16.mono _ _ _)
      | (with_reducible exact tenancyref04_Get32.mono _ _ _)
      | (with_reducible exact tenancyref04_Get64.mono _ _ _)
      | (with_reducible exact tenancyref04_GetAddr.mono _ _ _)
      | (with_reducible exact tenancyref04_TakeRun.mono _ _ _)
      | (with_reducible exact LeO.refl _)
      | (with_reducible exact LeO.none _)
      | (with_reducible refine LeO.ite ?_ ?_)
      | (with_reducible refine LeO.bind ?_ (fun _ => ?_))
      | exact ih0 _ _ _ _
      | exact ih1 _ _ _ _
      | exact ih2 _ _ _
      | exact octet_Get16.mono _ _ _
      | exact octet_Get32.mono _ _ _
      | exact octet_Get64.mono _ _ _
      | exact octet_GetAddr.mono _ _ _
      | exact octet_TakeRun.mono _ _ _
      | exact tenancylaw04_awake.mono _
      | exact tenancyref04_Get16.mono _ _ _
      | exact tenancyref04_Get32.mono _ _ _
      | exact tenancyref04_Get64.mono _ _ _
      | exact tenancyref04_GetAddr.mono _ _ _
      | exact tenancyref04_TakeRun.mono _ _ _
      | exact LeO.none _
      | refine LeO.ite ?_ ?_
      | refine LeO.bind ?_ (fun _ => ?_)
set_option maxHeartbeats 8000000 in
set_option maxRecDepth 100000 in
theorem tenancylaw04_OctetGets.calls (k : Nat) (a0 : ByteArray) (a1 : Int) (a2 : Int) (r : Bool) (w : World) (h : tenancylaw04_OctetGets.f k a0 a1 a2 = some r) :
    Calls Try.prog 6 #[.string a0, .int .i64 a1, .int .i64 a2] w fun e w' => e = .returned (.bool r) ∧ Below w.heap.size w w' := by
  have hu30 := Try.underlying30
  have HB := Aside0.mk (Below.refl w.heap.size w)
  have H : ((tenancylaw04_awake.f k).bind fun t238 => (if t238 = true then ((octet_Get16.f k a0 a1).bind fun bt239 => ((tenancyref04_Get16.f k a0 a1).bind fun bt241 => ((octet_Get32.f k a0 a1).bind fun bt243 => ((tenancyref04_Get32.f k a0 a1).bind fun bt245 => (if bt239.1 = bt241.1 then (if (bt239.2 != bt241.2) = true then (tenancylaw04_OctetGets.j0 k a0 a1 a2 true) else (if bt243.1 = bt245.1 then (tenancylaw04_OctetGets.j0 k a0 a1 a2 (bt243.2 != bt245.2)) else (tenancylaw04_OctetGets.j0 k a0 a1 a2 true))) else (tenancylaw04_OctetGets.j0 k a0 a1 a2 true)))))) else (some false))) = some r := h
  clear h
  replace H := Option.bind_eq_some_iff.mp H
  obtain ⟨t238, A40, H⟩ := H
  replace H : (if t238 = true then ((octet_Get16.f k a0 a1).bind fun bt239 => ((tenancyref04_Get16.f k a0 a1).bind fun bt241 => ((octet_Get32.f k a0 a1).bind fun bt243 => ((tenancyref04_Get32.f k a0 a1).bind fun bt245 => (if bt239.1 = bt241.1 then (if (bt239.2 != bt241.2) = true then (tenancylaw04_OctetGets.j0 k a0 a1 a2 true) else (if bt243.1 = bt245.1 then (tenancylaw04_OctetGets.j0 k a0 a1 a2 (bt243.2 != bt245.2)) else (tenancylaw04_OctetGets.j0 k a0 a1 a2 true))) else (tenancylaw04_OctetGets.j0 k a0 a1 a2 true)))))) else (some false)) = some r := H
  have A4 := Aside0.mk A40
  clear A40
  by_cases c5 : t238 = true
  · subst c5
    have H1 : ((octet_Get16.f k a0 a1).bind fun bt239 => ((tenancyref04_Get16.f k a0 a1).bind fun bt241 => ((octet_Get32.f k a0 a1).bind fun bt243 => ((tenancyref04_Get32.f k a0 a1).bind fun bt245 => (if bt239.1 = bt241.1 then (if (bt239.2 != bt241.2) = true then (tenancylaw04_OctetGets.j0 k a0 a1 a2 true) else (if bt243.1 = bt245.1 then (tenancylaw04_OctetGets.j0 k a0 a1 a2 (bt243.2 != bt245.2)) else (tenancylaw04_OctetGets.j0 k a0 a1 a2 true))) else (tenancylaw04_OctetGets.j0 k a0 a1 a2 true)))))) = some r := by rw [if_pos rfl] at H; exact H
    clear H
    have H := H1
    clear H1
    replace H := Option.bind_eq_some_iff.mp H
    obtain ⟨⟨t239, t240⟩, A60, H⟩ := H
    replace H : ((tenancyref04_Get16.f k a0 a1).bind fun bt241 => ((octet_Get32.f k a0 a1).bind fun bt243 => ((tenancyref04_Get32.f k a0 a1).bind fun bt245 => (if t239 = bt241.1 then (if (t240 != bt241.2) = true then (tenancylaw04_OctetGets.j0 k a0 a1 a2 true) else (if bt243.1 = bt245.1 then (tenancylaw04_OctetGets.j0 k a0 a1 a2 (bt243.2 != bt245.2)) else (tenancylaw04_OctetGets.j0 k a0 a1 a2 true))) else (tenancylaw04_OctetGets.j0 k a0 a1 a2 true))))) = some r := H
    have A6 := Aside0.mk A60
    clear A60
    replace H := Option.bind_eq_some_iff.mp H
    obtain ⟨⟨t241, t242⟩, A70, H⟩ := H
    replace H : ((octet_Get32.f k a0 a1).bind fun bt243 => ((tenancyref04_Get32.f k a0 a1).bind fun bt245 => (if t239 = t241 then (if (t240 != t242) = true then (tenancylaw04_OctetGets.j0 k a0 a1 a2 true) else (if bt243.1 = bt245.1 then (tenancylaw04_OctetGets.j0 k a0 a1 a2 (bt243.2 != bt245.2)) else (tenancylaw04_OctetGets.j0 k a0 a1 a2 true))) else (tenancylaw04_OctetGets.j0 k a0 a1 a2 true)))) = some r := H
    have A7 := Aside0.mk A70
    clear A70
    replace H := Option.bind_eq_some_iff.mp H
    obtain ⟨⟨t243, t244⟩, A80, H⟩ := H
    replace H : ((tenancyref04_Get32.f k a0 a1).bind fun bt245 => (if t239 = t241 then (if (t240 != t242) = true then (tenancylaw04_OctetGets.j0 k a0 a1 a2 true) else (if t243 = bt245.1 then (tenancylaw04_OctetGets.j0 k a0 a1 a2 (t244 != bt245.2)) else (tenancylaw04_OctetGets.j0 k a0 a1 a2 true))) else (tenancylaw04_OctetGets.j0 k a0 a1 a2 true))) = some r := H
    have A8 := Aside0.mk A80
    clear A80
    replace H := Option.bind_eq_some_iff.mp H
    obtain ⟨⟨t245, t246⟩, A90, H⟩ := H
    replace H : (if t239 = t241 then (if (t240 != t242) = true then (tenancylaw04_OctetGets.j0 k a0 a1 a2 true) else (if t243 = t245 then (tenancylaw04_OctetGets.j0 k a0 a1 a2 (t244 != t246)) else (tenancylaw04_OctetGets.j0 k a0 a1 a2 true))) else (tenancylaw04_OctetGets.j0 k a0 a1 a2 true)) = some r := H
    have A9 := Aside0.mk A90
    clear A90
    have HC10 := Aside0.mk H
    clear H
    go_enter Try.func6, Try.ntmps6
    go_upto_region 7 with (first | ((with_reducible refine gate_callee (f := 8) rfl ?_); refine goesL_ (some 23) rfl rfl Try.func8 (by kernel_rfl) rfl #[] rfl (by (try simp only [List.map_toArray, List.map_cons, List.map_nil]); first | done | rfl | (simp only [List.length_drop, List.length_take]; rfl)) ?_; (with_reducible refine (tenancylaw04_awake.calls k  true _ A4.out).mono ?_); rintro e w11 ⟨rfl, hb⟩; refine ⟨_, rfl, ?_⟩; have n0_ := Aside0.mk (below_step (by repeat (first | (with_reducible first | exact HB.out | apply below_alloc | apply pw_below_drewN | apply below_drew1) | exact HB.out)) hb); clear HB; have HB := n0_; clear n0_; (try clear hb); (try clear hb2); (try clear hk); (try clear hi)) | ((with_reducible refine gate_callee (f := 22) rfl ?_); refine goesL_ (some 28) rfl rfl Try.func22 (by kernel_rfl) rfl #[.string a0, .int .i64 a1] rfl (by (try simp only [List.map_toArray, List.map_cons, List.map_nil]); first | done | rfl | (simp only [List.length_drop, List.length_take]; rfl)) ?_; (with_reducible refine (octet_Get16.calls k a0 a1 t239 t240 _ A6.out).mono ?_); rintro e w12 ⟨rfl, hb⟩; refine ⟨_, rfl, ?_⟩; have n0_ := Aside0.mk (below_step (by repeat (first | (with_reducible first | exact HB.out | apply below_alloc | apply pw_below_drewN | apply below_drew1) | exact HB.out)) hb); clear HB; have HB := n0_; clear n0_; (try clear hb); (try clear hb2); (try clear hk); (try clear hi)) | ((with_reducible refine gate_callee (f := 23) rfl ?_); refine goesL_ (some 34) rfl rfl Try.func23 (by kernel_rfl) rfl #[.string a0, .int .i64 a1] rfl (by (try simp only [List.map_toArray, List.map_cons, List.map_nil]); first | done | rfl | (simp only [List.length_drop, List.length_take]; rfl)) ?_; (with_reducible refine (tenancyref04_Get16.calls k a0 a1 t241 t242 _ A7.out).mono ?_); rintro e w' ⟨rfl, ⟨nd, rfl⟩⟩; refine ⟨_, rfl, ?_⟩) | ((with_reducible refine gate_callee (f := 24) rfl ?_); refine goesL_ (some 40) rfl rfl Try.func24 (by kernel_rfl) rfl #[.string a0, .int .i64 a1] rfl (by (try simp only [List.map_toArray, List.map_cons, List.map_nil]); first | done | rfl | (simp only [List.length_drop, List.length_take]; rfl)) ?_; (with_reducible refine (octet_Get32.calls k a0 a1 t243 t244 _ A8.out).mono ?_); rintro e w13 ⟨rfl, hb⟩; refine ⟨_, rfl, ?_⟩; have n0_ := Aside0.mk (below_step (by repeat (first | (with_reducible first | exact HB.out | apply below_alloc | apply pw_below_drewN | apply below_drew1) | exact HB.out)) hb); clear HB; have HB := n0_; clear n0_; (try clear hb); (try clear hb2); (try clear hk); (try clear hi)) | ((with_reducible refine gate_callee (f := 25) rfl ?_); refine goesL_ (some 46) rfl rfl Try.func25 (by kernel_rfl) rfl #[.string a0, .int .i64 a1] rfl (by (try simp only [List.map_toArray, List.map_cons, List.map_nil]); first | done | rfl | (simp only [List.length_drop, List.length_take]; rfl)) ?_; (with_reducible refine (tenancyref04_Get32.calls k a0 a1 t245 t246 _ A9.out).mono ?_); rintro e w' ⟨rfl, ⟨nd, rfl⟩⟩; refine ⟨_, rfl, ?_⟩))
    (try simp only [Act.put, List.setIfInBounds_toArray, List.set_cons_zero, List.set_cons_succ])
    go_cut [66] (fun v66 wc => ∃ (kq : Nat) (x66_9 : Bool), v66 = .bool x66_9 ∧ Aside0 (tenancylaw04_OctetGets.j0 kq a0 a1 a2 x66_9 = some r) ∧ Aside0 (kq ≤ k) ∧ Aside0 (Below w.heap.size w wc))
    case first =>
      have H := HC10.out
      clear HC10
      by_cases c14 : t239 = t241
      · rw [if_pos c14] at H
        have c14b0 : (t239 == t241) = true := beq_iff_eq.mpr c14
        have c14b1 : (t239 != t241) = false := bne_eq_false_iff_eq.mpr c14
        clear c14
        (first | rw [c14b0] | (simp only [i64_w, i32_w]; rw [c14b0]) | skip)
        by_cases c15 : (t240 != t242) = true
        · rw [if_pos c15] at H
          have c15b0 : (t240 != t242) = true := c15
          (try (have c15b1 : decide (t240 = t242) = false := by simpa using c15))
          (try (have c15b2 : (t240 == t242) = false := by simpa using c15))
          (try (have c15b3 : ¬ (t240 = t242) := by simpa using c15))
          clear c15
          have H' := Aside0.mk H
          clear H
          go_wp2
          go_meet
          case rel => exact ⟨_, (true), (by first | rfl | (simp; done) | (simp [*]; done)), H', ⟨by first | omega | exact Nat.le_refl _⟩, ⟨by repeat (first | (with_reducible first | exact HB.out | apply below_alloc | apply pw_below_drewN | apply below_drew1) | exact HB.out)⟩⟩
        · rw [if_neg c15] at H
          have c15b0 : (t240 != t242) = false := by simpa using c15
          (try (have c15b1 : decide (t240 = t242) = true := by simpa using c15))
          (try (have c15b2 : (t240 == t242) = true := by simpa using c15))
          clear c15
          by_cases c16 : t243 = t245
          · rw [if_pos c16] at H
            have c16b0 : (t243 == t245) = true := beq_iff_eq.mpr c16
            have c16b1 : (t243 != t245) = false := bne_eq_false_iff_eq.mpr c16
            clear c16
            have H' := Aside0.mk H
            clear H
            go_wp2
            go_meet
            case rel => exact ⟨_, ((t244 != t246)), (by first | rfl | (simp; done) | (simp [*]; done)), H', ⟨by first | omega | exact Nat.le_refl _⟩, ⟨by repeat (first | (with_reducible first | exact HB.out | apply below_alloc | apply pw_below_drewN | apply below_drew1) | exact HB.out)⟩⟩
          · rw [if_neg c16] at H
            have c16b0 : (t243 == t245) = false := beq_eq_false_iff_ne.mpr c16
            have c16b1 : (t243 != t245) = true := bne_iff_ne.mpr c16
            have H' := Aside0.mk H
            clear H
            go_wp2
            go_meet
            case rel => exact ⟨_, (true), (by first | rfl | (simp; done) | (simp [*]; done)), H', ⟨by first | omega | exact Nat.le_refl _⟩, ⟨by repeat (first | (with_reducible first | exact HB.out | apply below_alloc | apply pw_below_drewN | apply below_drew1) | exact HB.out)⟩⟩
      · rw [if_neg c14] at H
        have c14b0 : (t239 == t241) = false := beq_eq_false_iff_ne.mpr c14
        have c14b1 : (t239 != t241) = true := bne_iff_ne.mpr c14
        (first | rw [c14b0] | (simp only [i64_w, i32_w]; rw [c14b0]) | skip)
        have H' := Aside0.mk H
        clear H
        go_wp2
        go_meet
        case rel => exact ⟨_, (true), (by first | rfl | (simp; done) | (simp [*]; done)), H', ⟨by first | omega | exact Nat.le_refl _⟩, ⟨by repeat (first | (with_reducible first | exact HB.out | apply below_alloc | apply pw_below_drewN | apply below_drew1) | exact HB.out)⟩⟩
    case rest =>
      clear HC10
      try clear c1
      try clear c2
      try clear p2
      try clear c5
      try clear c6
      try clear c8
      try clear c14
      try clear c14b0
      try clear c14b1
      try clear c15
      try clear c15b0
      try clear c15b1
      try clear c15b2
      try clear c16
      try clear c16b0
      try clear c16b1
      obtain ⟨kq, x66_9, rfl, HA, HJ9, HB⟩ := hcut
      cases kq with
      | zero => exact absurd HA.out (by simp [tenancylaw04_OctetGets.j0])
      | succ kj9 =>
        have H := HA.out
        clear HA
        simp only [tenancylaw04_OctetGets.j0] at H
        by_cases c17 : x66_9 = true
        · subst c17
          have H1 : (some false) = some r := by rw [if_pos rfl] at H; exact H
          clear H
          have H := H1
          clear H1
          obtain rfl := Option.some.inj H
          go_wp2
          go_ret
          exact ⟨by first | rfl | (simp [errW_none, errW_some] <;> rfl) | (simp [*, errW_none, errW_some] <;> rfl), by repeat (first | (with_reducible first | exact HB.out | apply below_alloc | apply pw_below_drewN | apply below_drew1) | exact HB.out)⟩
        · replace c17 := Bool.eq_false_iff.mpr c17
          subst c17
          have H1 : ((octet_Get64.f kj9 a0 a1).bind fun bt247 => ((tenancyref04_Get64.f kj9 a0 a1).bind fun bt249 => ((octet_GetAddr.f kj9 a0 a1).bind fun bt251 => ((tenancyref04_GetAddr.f kj9 a0 a1).bind fun bt255 => (if bt247.1 = bt249.1 then (if (bt247.2 != bt249.2) = true then (tenancylaw04_OctetGets.j1 kj9 a0 a1 a2 true) else (if (!(bt251.1 == bt255.1) || (!(bt251.2.1 == bt255.2.1))) = true then (tenancylaw04_OctetGets.j1 kj9 a0 a1 a2 true) else (tenancylaw04_OctetGets.j1 kj9 a0 a1 a2 (bt251.2.2 != bt255.2.2)))) else (tenancylaw04_OctetGets.j1 kj9 a0 a1 a2 true)))))) = some r := by rw [if_neg (show ¬ (false = true) by decide)] at H; exact H
          clear H
          have H := H1
          clear H1
          replace H := Option.bind_eq_some_iff.mp H
          obtain ⟨⟨t247, t248⟩, A180, H⟩ := H
          replace H : ((tenancyref04_Get64.f kj9 a0 a1).bind fun bt249 => ((octet_GetAddr.f kj9 a0 a1).bind fun bt251 => ((tenancyref04_GetAddr.f kj9 a0 a1).bind fun bt255 => (if t247 = bt249.1 then (if (t248 != bt249.2) = true then (tenancylaw04_OctetGets.j1 kj9 a0 a1 a2 true) else (if (!(bt251.1 == bt255.1) || (!(bt251.2.1 == bt255.2.1))) = true then (tenancylaw04_OctetGets.j1 kj9 a0 a1 a2 true) else (tenancylaw04_OctetGets.j1 kj9 a0 a1 a2 (bt251.2.2 != bt255.2.2)))) else (tenancylaw04_OctetGets.j1 kj9 a0 a1 a2 true))))) = some r := H
          have A18 := Aside0.mk A180
          clear A180
          replace H := Option.bind_eq_some_iff.mp H
          obtain ⟨⟨t249, t250⟩, A190, H⟩ := H
          replace H : ((octet_GetAddr.f kj9 a0 a1).bind fun bt251 => ((tenancyref04_GetAddr.f kj9 a0 a1).bind fun bt255 => (if t247 = t249 then (if (t248 != t250) = true then (tenancylaw04_OctetGets.j1 kj9 a0 a1 a2 true) else (if (!(bt251.1 == bt255.1) || (!(bt251.2.1 == bt255.2.1))) = true then (tenancylaw04_OctetGets.j1 kj9 a0 a1 a2 true) else (tenancylaw04_OctetGets.j1 kj9 a0 a1 a2 (bt251.2.2 != bt255.2.2)))) else (tenancylaw04_OctetGets.j1 kj9 a0 a1 a2 true)))) = some r := H
          have A19 := Aside0.mk A190
          clear A190
          replace H := Option.bind_eq_some_iff.mp H
          obtain ⟨⟨t251, t252, t253⟩, A200, H⟩ := H
          replace H : ((tenancyref04_GetAddr.f kj9 a0 a1).bind fun bt255 => (if t247 = t249 then (if (t248 != t250) = true then (tenancylaw04_OctetGets.j1 kj9 a0 a1 a2 true) else (if (!(t251 == bt255.1) || (!(t252 == bt255.2.1))) = true then (tenancylaw04_OctetGets.j1 kj9 a0 a1 a2 true) else (tenancylaw04_OctetGets.j1 kj9 a0 a1 a2 (t253 != bt255.2.2)))) else (tenancylaw04_OctetGets.j1 kj9 a0 a1 a2 true))) = some r := H
          have A20 := Aside0.mk A200
          clear A200
          replace H := Option.bind_eq_some_iff.mp H
          obtain ⟨⟨t255, t256, t257⟩, A210, H⟩ := H
          replace H : (if t247 = t249 then (if (t248 != t250) = true then (tenancylaw04_OctetGets.j1 kj9 a0 a1 a2 true) else (if (!(t251 == t255) || (!(t252 == t256))) = true then (tenancylaw04_OctetGets.j1 kj9 a0 a1 a2 true) else (tenancylaw04_OctetGets.j1 kj9 a0 a1 a2 (t253 != t257)))) else (tenancylaw04_OctetGets.j1 kj9 a0 a1 a2 true)) = some r := H
          have A21 := Aside0.mk A210
          clear A210
          have HC22 := Aside0.mk H
          clear H
          go_upto_region 13 with (first | ((with_reducible refine gate_callee (f := 26) rfl ?_); refine goesL_ (some 70) rfl rfl Try.func26 (by kernel_rfl) rfl #[.string a0, .int .i64 a1] rfl (by (try simp only [List.map_toArray, List.map_cons, List.map_nil]); first | done | rfl | (simp only [List.length_drop, List.length_take]; rfl)) ?_; (with_reducible refine (octet_Get64.calls kj9 a0 a1 t247 t248 _ A18.out).mono ?_); rintro e w23 ⟨rfl, hb⟩; refine ⟨_, rfl, ?_⟩; have n0_ := Aside0.mk (below_step (by repeat (first | (with_reducible first | exact HB.out | apply below_alloc | apply pw_below_drewN | apply below_drew1) | exact HB.out)) hb); clear HB; have HB := n0_; clear n0_; (try clear hb); (try clear hb2); (try clear hk); (try clear hi)) | ((with_reducible refine gate_callee (f := 27) rfl ?_); refine goesL_ (some 76) rfl rfl Try.func27 (by kernel_rfl) rfl #[.string a0, .int .i64 a1] rfl (by (try simp only [List.map_toArray, List.map_cons, List.map_nil]); first | done | rfl | (simp only [List.length_drop, List.length_take]; rfl)) ?_; (with_reducible refine (tenancyref04_Get64.calls kj9 a0 a1 t249 t250 _ A19.out).mono ?_); rintro e w' ⟨rfl, ⟨nd, rfl⟩⟩; refine ⟨_, rfl, ?_⟩; (try (rw [drewN_self w23]; generalize hq_ : World.drewN w23 _ = w23; have n0_ : Aside0 (Below w.heap.size w w23) := ⟨by rw [← hq_]; exact (by repeat (first | (with_reducible first | exact HB.out | apply below_alloc | apply pw_below_drewN | apply below_drew1) | exact HB.out))⟩; clear HB hq_; have HB := n0_; clear n0_))) | ((with_reducible refine gate_callee (f := 28) rfl ?_); refine goesL_ (some 82) rfl rfl Try.func28 (by kernel_rfl) rfl #[.string a0, .int .i64 a1] rfl (by (try simp only [List.map_toArray, List.map_cons, List.map_nil]); first | done | rfl | (simp only [List.length_drop, List.length_take]; rfl)) ?_; (with_reducible refine (octet_GetAddr.calls kj9 a0 a1 t251 t252 t253 _ A20.out).mono ?_); rintro e w24 ⟨rfl, hb⟩; refine ⟨_, rfl, ?_⟩; have n0_ := Aside0.mk (below_step (by repeat (first | (with_reducible first | exact HB.out | apply below_alloc | apply pw_below_drewN | apply below_drew1) | exact HB.out)) hb); clear HB; have HB := n0_; clear n0_; (try clear hb); (try clear hb2); (try clear hk); (try clear hi)) | ((with_reducible refine gate_dst (N := 17) rfl ?_); refine box_event ?hg (N := 17) ?hd (cs := #[.int .u64 0, .int .u64 0]) (t := 30) ?hr ?_; (case hd => rfl); (case hg => rfl); (case hr => first | (go_simp; done) | (go_simp; rfl)); intro gb254 hg w25 hbox hb; have n0_ := Aside0.mk (below_step (by repeat (first | (with_reducible first | exact HB.out | apply below_alloc | apply pw_below_drewN | apply below_drew1) | exact HB.out)) hb); have n1_ := Aside0.mk (hbox); have n2_ := Aside0.mk ((by rw [hg]; exact (below_size (by repeat (first | (with_reducible first | exact HB.out | apply below_alloc | apply pw_below_drewN | apply below_drew1) | exact HB.out))) : w.heap.size ≤ gb254)); have n3_ := Aside0.mk ((by rw [hg]; exact (below_size (by repeat (first | (with_reducible first | exact HB.out | apply below_alloc | apply pw_below_drewN | apply below_drew1) | exact HB.out))) : w.heap.size ≤ gb254)); clear HB; have HB := n0_; have BK254 := n1_; have GW254 := n2_; have GE254 := n3_; clear n0_ n1_ n2_ n3_; clear hb hbox hg; have hcz26_0 : w25.cell? ⟨gb254, 0, none⟩ = some (.int .u64 0) := (blk_cell BK254.out 0).trans rfl; have hcz26_1 : w25.cell? ⟨gb254, 1, none⟩ = some (.int .u64 0) := (blk_cell BK254.out 1).trans rfl; have hfz26_0 := blk_frozen BK254.out 0; have hfz26_1 := blk_frozen BK254.out 1) | ((with_reducible refine gate_callee (f := 29) rfl ?_); refine goesL_ (some 88) rfl rfl Try.func29 (by kernel_rfl) rfl #[.string a0, .int .i64 a1] rfl (by (try simp only [List.map_toArray, List.map_cons, List.map_nil]); first | done | rfl | (simp only [List.length_drop, List.length_take]; rfl)) ?_; (with_reducible refine (tenancyref04_GetAddr.calls kj9 a0 a1 t255 t256 t257 _ A21.out).mono ?_); rintro e w27 ⟨rfl, hb⟩; refine ⟨_, rfl, ?_⟩; have n0_ := Aside0.mk (blk_below (g := gb254) (o := .cells #[.int .u64 t251, .int .u64 t252] 30 (0, 0)) (by (with_reducible repeat (first | refine blk_drewN ?_ _ | refine blk_drew ?_ | refine blk_alloc ?_ _)); refine blk_put (cs := #[.int .u64 t251, .int .u64 0]) ?_ 1 _ rfl; (with_reducible repeat (first | refine blk_drewN ?_ _ | refine blk_drew ?_ | refine blk_alloc ?_ _)); refine blk_put (cs := #[.int .u64 0, .int .u64 0]) ?_ 0 _ rfl; (with_reducible repeat (first | refine blk_drewN ?_ _ | refine blk_drew ?_ | refine blk_alloc ?_ _)); exact BK254.out) hb); have n1_ := Aside0.mk (below_step (by repeat (first | (with_reducible first | exact HB.out | apply below_alloc | apply pw_below_drewN | apply below_drew1 | refine below_set ?_ GE254.out) | exact HB.out)) hb); clear BK254; clear HB; have BK254 := n0_; have HB := n1_; clear n0_ n1_; (try clear hb); (try clear hb2); (try clear hk); (try clear hi)) | ((with_reducible refine gate_dst (N := 18) rfl ?_); refine box_event ?hg (N := 18) ?hd (cs := #[.int .u64 0, .int .u64 0]) (t := 30) ?hr ?_; (case hd => rfl); (case hg => rfl); (case hr => first | (go_simp; done) | (go_simp; rfl)); intro gb258 hg w28 hbox hb; have n0_ := Aside0.mk (blk_below (g := gb254) (o := .cells #[.int .u64 t251, .int .u64 t252] 30 (0, 0)) (by (with_reducible repeat (first | refine blk_drewN ?_ _ | refine blk_drew ?_ | refine blk_alloc ?_ _)); exact BK254.out) hb); have n1_ := Aside0.mk (below_step (by repeat (first | (with_reducible first | exact HB.out | apply below_alloc | apply pw_below_drewN | apply below_drew1 | refine below_set ?_ GE254.out) | exact HB.out)) hb); have n2_ := Aside0.mk (hbox); have n3_ := Aside0.mk ((by rw [hg]; exact (below_size (by repeat (first | (with_reducible first | exact HB.out | apply below_alloc | apply pw_below_drewN | apply below_drew1 | refine below_set ?_ GE254.out) | exact HB.out))) : w.heap.size ≤ gb258)); have n4_ := Aside0.mk ((by rw [hg]; exact (below_size (by repeat (first | (with_reducible first | exact HB.out | apply below_alloc | apply pw_below_drewN | apply below_drew1 | refine below_set ?_ GE254.out) | exact HB.out))) : w.heap.size ≤ gb258)); have n5_ := Aside0.mk ((by rw [hg]; exact Nat.ne_of_lt (blk_lt (g := gb254) (o := .cells #[.int .u64 t251, .int .u64 t252] 30 (0, 0)) (by (with_reducible repeat (first | refine blk_drewN ?_ _ | refine blk_drew ?_ | refine blk_alloc ?_ _)); exact BK254.out)) : gb254 ≠ gb258)); have n6_ := Aside0.mk ((by rw [hg]; exact Nat.ne_of_gt (blk_lt (g := gb254) (o := .cells #[.int .u64 t251, .int .u64 t252] 30 (0, 0)) (by (with_reducible repeat (first | refine blk_drewN ?_ _ | refine blk_drew ?_ | refine blk_alloc ?_ _)); exact BK254.out)) : gb258 ≠ gb254)); clear BK254; clear HB; have BK254 := n0_; have HB := n1_; have BK258 := n2_; have GW258 := n3_; have GE258 := n4_; have NB254_258 := n5_; have NB258_254 := n6_; clear n0_ n1_ n2_ n3_ n4_ n5_ n6_; clear hb hbox hg; have hnb29 := NB258_254.out; have hnc29 := NB254_258.out; have hcz30_0 : w28.cell? ⟨gb258, 0, none⟩ = some (.int .u64 0) := (blk_cell BK258.out 0).trans rfl; have hcz30_1 : w28.cell? ⟨gb258, 1, none⟩ = some (.int .u64 0) := (blk_cell BK258.out 1).trans rfl; have hfz30_0 := blk_frozen BK258.out 0; have hfz30_1 := blk_frozen BK258.out 1))
          (try simp only [Act.put, List.setIfInBounds_toArray, List.set_cons_zero, List.set_cons_succ])
          go_cut [108] (fun v108 wc => ∃ (kq : Nat) (x108_21 : Bool), v108 = .bool x108_21 ∧ Aside0 (tenancylaw04_OctetGets.j1 kq a0 a1 a2 x108_21 = some r) ∧ Aside0 (kq ≤ kj9) ∧ Aside0 (wc.heap[gb254]? = some (.cells #[.int .u64 t251, .int .u64 t252] 30 (0, 0))) ∧ Aside0 (wc.heap[gb258]? = some (.cells #[.int .u64 t255, .int .u64 t256] 30 (0, 0))) ∧ Aside0 (Below w.heap.size w wc))
          case first =>
            have H := HC22.out
            clear HC22
            by_cases c31 : t247 = t249
            · rw [if_pos c31] at H
              have c31b0 : (t247 == t249) = true := beq_iff_eq.mpr c31
              have c31b1 : (t247 != t249) = false := bne_eq_false_iff_eq.mpr c31
              clear c31
              (first | rw [c31b0] | (simp only [i64_w, i32_w]; rw [c31b0]) | skip)
              by_cases c32 : (t248 != t250) = true
              · rw [if_pos c32] at H
                have c32b0 : (t248 != t250) = true := c32
                (try (have c32b1 : decide (t248 = t250) = false := by simpa using c32))
                (try (have c32b2 : (t248 == t250) = false := by simpa using c32))
                (try (have c32b3 : ¬ (t248 = t250) := by simpa using c32))
                clear c32
                have H' := Aside0.mk H
                clear H
                go_wp2
                go_meet
                case rel => exact ⟨_, (true), (by first | rfl | (simp; done) | (simp [*]; done)), H', ⟨by have := HJ9.out; first | omega | exact Nat.le_refl _⟩, ⟨by (with_reducible repeat (first | refine blk_drewN ?_ _ | refine blk_drew ?_ | refine blk_alloc ?_ _)); refine blk_far ?_ NB254_258.out _; (with_reducible repeat (first | refine blk_drewN ?_ _ | refine blk_drew ?_ | refine blk_alloc ?_ _)); refine blk_far ?_ NB254_258.out _; (with_reducible repeat (first | refine blk_drewN ?_ _ | refine blk_drew ?_ | refine blk_alloc ?_ _)); exact BK254.out⟩, ⟨by (with_reducible repeat (first | refine blk_drewN ?_ _ | refine blk_drew ?_ | refine blk_alloc ?_ _)); refine blk_put (cs := #[.int .u64 t255, .int .u64 0]) ?_ 1 _ rfl; (with_reducible repeat (first | refine blk_drewN ?_ _ | refine blk_drew ?_ | refine blk_alloc ?_ _)); refine blk_put (cs := #[.int .u64 0, .int .u64 0]) ?_ 0 _ rfl; (with_reducible repeat (first | refine blk_drewN ?_ _ | refine blk_drew ?_ | refine blk_alloc ?_ _)); exact BK258.out⟩, ⟨by repeat (first | (with_reducible first | exact HB.out | apply below_alloc | apply pw_below_drewN | apply below_drew1 | refine below_set ?_ GE254.out | refine below_set ?_ GE258.out) | exact HB.out)⟩⟩
              · rw [if_neg c32] at H
                have c32b0 : (t248 != t250) = false := by simpa using c32
                (try (have c32b1 : decide (t248 = t250) = true := by simpa using c32))
                (try (have c32b2 : (t248 == t250) = true := by simpa using c32))
                clear c32
                by_cases c33 : (!(t251 == t255) || (!(t252 == t256))) = true
                · rw [if_pos c33] at H
                  have c33b0 : (!(t251 == t255) || (!(t252 == t256))) = true := c33
                  clear c33
                  have H' := Aside0.mk H
                  clear H
                  have hnb34 := NB254_258.out
                  have hnc34 := NB258_254.out
                  have hcz35_0 : w28.cell? ⟨gb254, 0, none⟩ = some (.int .u64 t251) := (blk_cell BK254.out 0).trans rfl
                  have hcz35_1 : w28.cell? ⟨gb254, 1, none⟩ = some (.int .u64 t252) := (blk_cell BK254.out 1).trans rfl
                  have hfz35_0 := blk_frozen BK254.out 0
                  have hfz35_1 := blk_frozen BK254.out 1
                  have hcz36_0 : w28.cell? ⟨gb258, 0, none⟩ = some (.int .u64 0) := (blk_cell BK258.out 0).trans rfl
                  have hcz36_1 : w28.cell? ⟨gb258, 1, none⟩ = some (.int .u64 0) := (blk_cell BK258.out 1).trans rfl
                  have hfz36_0 := blk_frozen BK258.out 0
                  have hfz36_1 := blk_frozen BK258.out 1
                  go_wp2
                  go_meet
                  case rel => exact ⟨_, (true), (by first | rfl | (simp; done) | (simp [*]; done)), H', ⟨by have := HJ9.out; first | omega | exact Nat.le_refl _⟩, ⟨by (with_reducible repeat (first | refine blk_drewN ?_ _ | refine blk_drew ?_ | refine blk_alloc ?_ _)); refine blk_far ?_ NB254_258.out _; (with_reducible repeat (first | refine blk_drewN ?_ _ | refine blk_drew ?_ | refine blk_alloc ?_ _)); refine blk_far ?_ NB254_258.out _; (with_reducible repeat (first | refine blk_drewN ?_ _ | refine blk_drew ?_ | refine blk_alloc ?_ _)); exact BK254.out⟩, ⟨by (with_reducible repeat (first | refine blk_drewN ?_ _ | refine blk_drew ?_ | refine blk_alloc ?_ _)); refine blk_put (cs := #[.int .u64 t255, .int .u64 0]) ?_ 1 _ rfl; (with_reducible repeat (first | refine blk_drewN ?_ _ | refine blk_drew ?_ | refine blk_alloc ?_ _)); refine blk_put (cs := #[.int .u64 0, .int .u64 0]) ?_ 0 _ rfl; (with_reducible repeat (first | refine blk_drewN ?_ _ | refine blk_drew ?_ | refine blk_alloc ?_ _)); exact BK258.out⟩, ⟨by repeat (first | (with_reducible first | exact HB.out | apply below_alloc | apply pw_below_drewN | apply below_drew1 | refine below_set ?_ GE254.out | refine below_set ?_ GE258.out) | exact HB.out)⟩⟩
                · rw [if_neg c33] at H
                  have c33b0 : (!(t251 == t255) || (!(t252 == t256))) = false := by simpa using c33
                  clear c33
                  have H' := Aside0.mk H
                  clear H
                  have hnb37 := NB254_258.out
                  have hnc37 := NB258_254.out
                  have hcz38_0 : w28.cell? ⟨gb254, 0, none⟩ = some (.int .u64 t251) := (blk_cell BK254.out 0).trans rfl
                  have hcz38_1 : w28.cell? ⟨gb254, 1, none⟩ = some (.int .u64 t252) := (blk_cell BK254.out 1).trans rfl
                  have hfz38_0 := blk_frozen BK254.out 0
                  have hfz38_1 := blk_frozen BK254.out 1
                  have hcz39_0 : w28.cell? ⟨gb258, 0, none⟩ = some (.int .u64 0) := (blk_cell BK258.out 0).trans rfl
                  have hcz39_1 : w28.cell? ⟨gb258, 1, none⟩ = some (.int .u64 0) := (blk_cell BK258.out 1).trans rfl
                  have hfz39_0 := blk_frozen BK258.out 0
                  have hfz39_1 := blk_frozen BK258.out 1
                  go_wp2
                  go_meet
                  case rel => exact ⟨_, ((t253 != t257)), (by first | rfl | (simp; done) | (simp [*]; done)), H', ⟨by have := HJ9.out; first | omega | exact Nat.le_refl _⟩, ⟨by (with_reducible repeat (first | refine blk_drewN ?_ _ | refine blk_drew ?_ | refine blk_alloc ?_ _)); refine blk_far ?_ NB254_258.out _; (with_reducible repeat (first | refine blk_drewN ?_ _ | refine blk_drew ?_ | refine blk_alloc ?_ _)); refine blk_far ?_ NB254_258.out _; (with_reducible repeat (first | refine blk_drewN ?_ _ | refine blk_drew ?_ | refine blk_alloc ?_ _)); exact BK254.out⟩, ⟨by (with_reducible repeat (first | refine blk_drewN ?_ _ | refine blk_drew ?_ | refine blk_alloc ?_ _)); refine blk_put (cs := #[.int .u64 t255, .int .u64 0]) ?_ 1 _ rfl; (with_reducible repeat (first | refine blk_drewN ?_ _ | refine blk_drew ?_ | refine blk_alloc ?_ _)); refine blk_put (cs := #[.int .u64 0, .int .u64 0]) ?_ 0 _ rfl; (with_reducible repeat (first | refine blk_drewN ?_ _ | refine blk_drew ?_ | refine blk_alloc ?_ _)); exact BK258.out⟩, ⟨by repeat (first | (with_reducible first | exact HB.out | apply below_alloc | apply pw_below_drewN | apply below_drew1 | refine below_set ?_ GE254.out | refine below_set ?_ GE258.out) | exact HB.out)⟩⟩
            · rw [if_neg c31] at H
              have c31b0 : (t247 == t249) = false := beq_eq_false_iff_ne.mpr c31
              have c31b1 : (t247 != t249) = true := bne_iff_ne.mpr c31
              (first | rw [c31b0] | (simp only [i64_w, i32_w]; rw [c31b0]) | skip)
              have H' := Aside0.mk H
              clear H
              go_wp2
              go_meet
              case rel => exact ⟨_, (true), (by first | rfl | (simp; done) | (simp [*]; done)), H', ⟨by have := HJ9.out; first | omega | exact Nat.le_refl _⟩, ⟨by (with_reducible repeat (first | refine blk_drewN ?_ _ | refine blk_drew ?_ | refine blk_alloc ?_ _)); refine blk_far ?_ NB254_258.out _; (with_reducible repeat (first | refine blk_drewN ?_ _ | refine blk_drew ?_ | refine blk_alloc ?_ _)); refine blk_far ?_ NB254_258.out _; (with_reducible repeat (first | refine blk_drewN ?_ _ | refine blk_drew ?_ | refine blk_alloc ?_ _)); exact BK254.out⟩, ⟨by (with_reducible repeat (first | refine blk_drewN ?_ _ | refine blk_drew ?_ | refine blk_alloc ?_ _)); refine blk_put (cs := #[.int .u64 t255, .int .u64 0]) ?_ 1 _ rfl; (with_reducible repeat (first | refine blk_drewN ?_ _ | refine blk_drew ?_ | refine blk_alloc ?_ _)); refine blk_put (cs := #[.int .u64 0, .int .u64 0]) ?_ 0 _ rfl; (with_reducible repeat (first | refine blk_drewN ?_ _ | refine blk_drew ?_ | refine blk_alloc ?_ _)); exact BK258.out⟩, ⟨by repeat (first | (with_reducible first | exact HB.out | apply below_alloc | apply pw_below_drewN | apply below_drew1 | refine below_set ?_ GE254.out | refine below_set ?_ GE258.out) | exact HB.out)⟩⟩
          case rest =>
            clear HC22
            try clear c1
            try clear c2
            try clear p2
            try clear c3
            try clear c5
            try clear c6
            try clear c8
            try clear c14
            try clear c14b0
            try clear c14b1
            try clear c15
            try clear c15b0
            try clear c15b1
            try clear c15b2
            try clear c16
            try clear c16b0
            try clear c16b1
            try clear c17
            try clear c22
            try clear c23
            try clear c24
            try clear c25
            try clear c26
            try clear c27
            try clear c28
            try clear c29
            try clear c31
            try clear c31b0
            try clear c31b1
            try clear c32
            try clear c32b0
            try clear c32b1
            try clear c32b2
            try clear c33
            try clear c33b0
            try clear c34
            try clear c37
            try clear hcz26_0
            try clear hcz26_1
            try clear hcz30_0
            try clear hcz30_1
            try clear hcz35_0
            try clear hcz35_1
            try clear hcz36_0
            try clear hcz36_1
            try clear hcz38_0
            try clear hcz38_1
            try clear hcz39_0
            try clear hcz39_1
            try clear hfz26_0
            try clear hfz26_1
            try clear hfz30_0
            try clear hfz30_1
            try clear hfz35_0
            try clear hfz35_1
            try clear hfz36_0
            try clear hfz36_1
            try clear hfz38_0
            try clear hfz38_1
            try clear hfz39_0
            try clear hfz39_1
            try clear p2
            obtain ⟨kq, x108_21, rfl, HA, HJ21, BK254, BK258, HB⟩ := hcut
            cases kq with
            | zero => exact absurd HA.out (by simp [tenancylaw04_OctetGets.j1])
            | succ kj21 =>
              have H := HA.out
              clear HA
              simp only [tenancylaw04_OctetGets.j1] at H
              by_cases c40 : x108_21 = true
              · subst c40
                have H1 : (some false) = some r := by rw [if_pos rfl] at H; exact H
                clear H
                have H := H1
                clear H1
                obtain rfl := Option.some.inj H
                go_wp2
                go_ret
                exact ⟨by first | rfl | (simp [errW_none, errW_some] <;> rfl) | (simp [*, errW_none, errW_some] <;> rfl), by repeat (first | (with_reducible first | exact HB.out | apply below_alloc | apply pw_below_drewN | apply below_drew1 | refine below_set ?_ GE254.out | refine below_set ?_ GE258.out) | exact HB.out)⟩
              · replace c40 := Bool.eq_false_iff.mpr c40
                subst c40
                have H1 : ((octet_Cut.f a0 a1 a2).bind fun bt259 => ((tenancyref04_Cut.f a0 a1 a2).bind fun bt261 => (if bt259.1.toList = bt261.1.toList then (tenancylaw04_OctetGets.j2 kj21 a0 a1 (bt259.2 != bt261.2)) else (tenancylaw04_OctetGets.j2 kj21 a0 a1 true)))) = some r := by rw [if_neg (show ¬ (false = true) by decide)] at H; exact H
                clear H
                have H := H1
                clear H1
                replace H := Option.bind_eq_some_iff.mp H
                obtain ⟨⟨t259, t260⟩, A410, H⟩ := H
                replace H : ((tenancyref04_Cut.f a0 a1 a2).bind fun bt261 => (if t259.toList = bt261.1.toList then (tenancylaw04_OctetGets.j2 kj21 a0 a1 (t260 != bt261.2)) else (tenancylaw04_OctetGets.j2 kj21 a0 a1 true))) = some r := H
                have A41 := Aside0.mk A410
                clear A410
                replace H := Option.bind_eq_some_iff.mp H
                obtain ⟨⟨t261, t262⟩, A420, H⟩ := H
                replace H : (if t259.toList = t261.toList then (tenancylaw04_OctetGets.j2 kj21 a0 a1 (t260 != t262)) else (tenancylaw04_OctetGets.j2 kj21 a0 a1 true)) = some r := H
                have A42 := Aside0.mk A420
                clear A420
                have HC43 := Aside0.mk H
                clear H
                go_upto_region 17 with (first | ((with_reducible refine gate_callee (f := 9) rfl ?_); refine goesL_ (some 113) rfl rfl Try.func9 (by kernel_rfl) rfl #[.string a0, .int .i64 a1, .int .i64 a2] rfl (by (try simp only [List.map_toArray, List.map_cons, List.map_nil]); first | done | rfl | (simp only [List.length_drop, List.length_take]; rfl)) ?_; (with_reducible refine (octet_Cut.calls a0 a1 a2 t259 t260 _ A41.out).mono ?_); rintro e w44 ⟨rfl, hb⟩; refine ⟨_, rfl, ?_⟩; have n0_ := Aside0.mk (blk_below (g := gb254) (o := .cells #[.int .u64 t251, .int .u64 t252] 30 (0, 0)) (by (with_reducible repeat (first | refine blk_drewN ?_ _ | refine blk_drew ?_ | refine blk_alloc ?_ _)); exact BK254.out) hb); have n1_ := Aside0.mk (blk_below (g := gb258) (o := .cells #[.int .u64 t255, .int .u64 t256] 30 (0, 0)) (by (with_reducible repeat (first | refine blk_drewN ?_ _ | refine blk_drew ?_ | refine blk_alloc ?_ _)); exact BK258.out) hb); have n2_ := Aside0.mk (below_step (by repeat (first | (with_reducible first | exact HB.out | apply below_alloc | apply pw_below_drewN | apply below_drew1 | refine below_set ?_ GE254.out | refine below_set ?_ GE258.out) | exact HB.out)) hb); clear BK254; clear BK258; clear HB; have BK254 := n0_; have BK258 := n1_; have HB := n2_; clear n0_ n1_ n2_; (try clear hb); (try clear hb2); (try clear hk); (try clear hi)) | ((with_reducible refine gate_callee (f := 30) rfl ?_); refine goesL_ (some 120) rfl rfl Try.func30 (by kernel_rfl) rfl #[.string a0, .int .i64 a1, .int .i64 a2] rfl (by (try simp only [List.map_toArray, List.map_cons, List.map_nil]); first | done | rfl | (simp only [List.length_drop, List.length_take]; rfl)) ?_; (with_reducible refine (tenancyref04_Cut.calls a0 a1 a2 t261 t262 _ A42.out).mono ?_); rintro e w' ⟨rfl, ⟨nd, rfl⟩⟩; refine ⟨_, rfl, ?_⟩))
                (try simp only [Act.put, List.setIfInBounds_toArray, List.set_cons_zero, List.set_cons_succ])
                go_cut [130] (fun v130 wc => ∃ (kq : Nat) (x130_42 : Bool), v130 = .bool x130_42 ∧ Aside0 (tenancylaw04_OctetGets.j2 kq a0 a1 x130_42 = some r) ∧ Aside0 (kq ≤ kj21) ∧ Aside0 (wc.heap[gb254]? = some (.cells #[.int .u64 t251, .int .u64 t252] 30 (0, 0))) ∧ Aside0 (wc.heap[gb258]? = some (.cells #[.int .u64 t255, .int .u64 t256] 30 (0, 0))) ∧ Aside0 (Below w.heap.size w wc))
                case first =>
                  have H := HC43.out
                  clear HC43
                  by_cases c45 : t259.toList = t261.toList
                  · rw [if_pos c45] at H
                    have c45b0 : (t259.toList == t261.toList) = true := beq_iff_eq.mpr c45
                    have c45b1 : (t259.toList != t261.toList) = false := bne_eq_false_iff_eq.mpr c45
                    clear c45
                    (first | rw [c45b0] | (simp only [i64_w, i32_w]; rw [c45b0]) | skip)
                    have H' := Aside0.mk H
                    clear H
                    go_wp2
                    go_meet
                    case rel => exact ⟨_, ((t260 != t262)), (by first | rfl | (simp; done) | (simp [*]; done)), H', ⟨by have := HJ9.out; have := HJ21.out; first | omega | exact Nat.le_refl _⟩, ⟨by (with_reducible repeat (first | refine blk_drewN ?_ _ | refine blk_drew ?_ | refine blk_alloc ?_ _)); exact BK254.out⟩, ⟨by (with_reducible repeat (first | refine blk_drewN ?_ _ | refine blk_drew ?_ | refine blk_alloc ?_ _)); exact BK258.out⟩, ⟨by repeat (first | (with_reducible first | exact HB.out | apply below_alloc | apply pw_below_drewN | apply below_drew1 | refine below_set ?_ GE254.out | refine below_set ?_ GE258.out) | exact HB.out)⟩⟩
                  · rw [if_neg c45] at H
                    have c45b0 : (t259.toList == t261.toList) = false := beq_eq_false_iff_ne.mpr c45
                    have c45b1 : (t259.toList != t261.toList) = true := bne_iff_ne.mpr c45
                    (first | rw [c45b0] | (simp only [i64_w, i32_w]; rw [c45b0]) | skip)
                    have H' := Aside0.mk H
                    clear H
                    go_wp2
                    go_meet
                    case rel => exact ⟨_, (true), (by first | rfl | (simp; done) | (simp [*]; done)), H', ⟨by have := HJ9.out; have := HJ21.out; first | omega | exact Nat.le_refl _⟩, ⟨by (with_reducible repeat (first | refine blk_drewN ?_ _ | refine blk_drew ?_ | refine blk_alloc ?_ _)); exact BK254.out⟩, ⟨by (with_reducible repeat (first | refine blk_drewN ?_ _ | refine blk_drew ?_ | refine blk_alloc ?_ _)); exact BK258.out⟩, ⟨by repeat (first | (with_reducible first | exact HB.out | apply below_alloc | apply pw_below_drewN | apply below_drew1 | refine below_set ?_ GE254.out | refine below_set ?_ GE258.out) | exact HB.out)⟩⟩
                case rest =>
                  clear HC43
                  try clear c1
                  try clear c2
                  try clear p2
                  try clear c3
                  try clear c4
                  try clear c5
                  try clear c6
                  try clear c8
                  try clear c9
                  try clear c14
                  try clear c14b0
                  try clear c14b1
                  try clear c15
                  try clear c15b0
                  try clear c15b1
                  try clear c15b2
                  try clear c16
                  try clear c16b0
                  try clear c16b1
                  try clear c17
                  try clear c22
                  try clear c23
                  try clear c24
                  try clear c25
                  try clear c26
                  try clear c27
                  try clear c28
                  try clear c29
                  try clear c30
                  try clear c31
                  try clear c31b0
                  try clear c31b1
                  try clear c32
                  try clear c32b0
                  try clear c32b1
                  try clear c32b2
                  try clear c33
                  try clear c33b0
                  try clear c34
                  try clear c37
                  try clear c40
                  try clear c45
                  try clear c45b0
                  try clear c45b1
                  try clear hcz26_0
                  try clear hcz26_1
                  try clear hcz30_0
                  try clear hcz30_1
                  try clear hcz35_0
                  try clear hcz35_1
                  try clear hcz36_0
                  try clear hcz36_1
                  try clear hcz38_0
                  try clear hcz38_1
                  try clear hcz39_0
                  try clear hcz39_1
                  try clear hfz26_0
                  try clear hfz26_1
                  try clear hfz30_0
                  try clear hfz30_1
                  try clear hfz35_0
                  try clear hfz35_1
                  try clear hfz36_0
                  try clear hfz36_1
                  try clear hfz38_0
                  try clear hfz38_1
                  try clear hfz39_0
                  try clear hfz39_1
                  try clear p2
                  obtain ⟨kq, x130_42, rfl, HA, HJ42, BK254, BK258, HB⟩ := hcut
                  cases kq with
                  | zero => exact absurd HA.out (by simp [tenancylaw04_OctetGets.j2])
                  | succ kj42 =>
                    have H := HA.out
                    clear HA
                    simp only [tenancylaw04_OctetGets.j2] at H
                    by_cases c46 : x130_42 = true
                    · subst c46
                      have H1 : (some false) = some r := by rw [if_pos rfl] at H; exact H
                      clear H
                      have H := H1
                      clear H1
                      obtain rfl := Option.some.inj H
                      go_wp2
                      go_ret
                      exact ⟨by first | rfl | (simp [errW_none, errW_some] <;> rfl) | (simp [*, errW_none, errW_some] <;> rfl), by repeat (first | (with_reducible first | exact HB.out | apply below_alloc | apply pw_below_drewN | apply below_drew1 | refine below_set ?_ GE254.out | refine below_set ?_ GE258.out) | exact HB.out)⟩
                    · replace c46 := Bool.eq_false_iff.mpr c46
                      subst c46
                      have H1 : ((octet_TakeRun.f kj42 a0 a1).bind fun bt263 => ((tenancyref04_TakeRun.f kj42 a0 a1).bind fun bt266 => (if bt263.1.toList = bt266.1.toList then (if bt263.2.1 = bt266.2.1 then (some (bt263.2.2 == bt266.2.2)) else (some false)) else (some false)))) = some r := by rw [if_neg (show ¬ (false = true) by decide)] at H; exact H
                      clear H
                      have H := H1
                      clear H1
                      replace H := Option.bind_eq_some_iff.mp H
                      obtain ⟨⟨t263, t264, t265⟩, A470, H⟩ := H
                      replace H : ((tenancyref04_TakeRun.f kj42 a0 a1).bind fun bt266 => (if t263.toList = bt266.1.toList then (if t264 = bt266.2.1 then (some (t265 == bt266.2.2)) else (some false)) else (some false))) = some r := H
                      have A47 := Aside0.mk A470
                      clear A470
                      replace H := Option.bind_eq_some_iff.mp H
                      obtain ⟨⟨t266, t267, t268⟩, A480, H⟩ := H
                      replace H : (if t263.toList = t266.toList then (if t264 = t267 then (some (t265 == t268)) else (some false)) else (some false)) = some r := H
                      have A48 := Aside0.mk A480
                      clear A480
                      by_cases c49 : t263.toList = t266.toList
                      · rw [if_pos c49] at H
                        have c49b0 : (t263.toList == t266.toList) = true := beq_iff_eq.mpr c49
                        have c49b1 : (t263.toList != t266.toList) = false := bne_eq_false_iff_eq.mpr c49
                        clear c49
                        by_cases c50 : t264 = t267
                        · rw [if_pos c50] at H
                          have c50b0 : (t264 == t267) = true := beq_iff_eq.mpr c50
                          have c50b1 : (t264 != t267) = false := bne_eq_false_iff_eq.mpr c50
                          clear c50
                          obtain rfl := Option.some.inj H
                          go_wp2_with (first | ((with_reducible refine gate_callee (f := 31) rfl ?_); refine goesL_ (some 134) rfl rfl Try.func31 (by kernel_rfl) rfl #[.string a0, .int .i64 a1] rfl (by (try simp only [List.map_toArray, List.map_cons, List.map_nil]); first | done | rfl | (simp only [List.length_drop, List.length_take]; rfl)) ?_; (with_reducible refine (octet_TakeRun.calls kj42 a0 a1 t263 t264 t265 _ A47.out).mono ?_); rintro e w51 ⟨rfl, hb⟩; refine ⟨_, rfl, ?_⟩; have n0_ := Aside0.mk (blk_below (g := gb254) (o := .cells #[.int .u64 t251, .int .u64 t252] 30 (0, 0)) (by (with_reducible repeat (first | refine blk_drewN ?_ _ | refine blk_drew ?_ | refine blk_alloc ?_ _)); exact BK254.out) hb); have n1_ := Aside0.mk (blk_below (g := gb258) (o := .cells #[.int .u64 t255, .int .u64 t256] 30 (0, 0)) (by (with_reducible repeat (first | refine blk_drewN ?_ _ | refine blk_drew ?_ | refine blk_alloc ?_ _)); exact BK258.out) hb); have n2_ := Aside0.mk (below_step (by repeat (first | (with_reducible first | exact HB.out | apply below_alloc | apply pw_below_drewN | apply below_drew1 | refine below_set ?_ GE254.out | refine below_set ?_ GE258.out) | exact HB.out)) hb); clear BK254; clear BK258; clear HB; have BK254 := n0_; have BK258 := n1_; have HB := n2_; clear n0_ n1_ n2_; (try clear hb); (try clear hb2); (try clear hk); (try clear hi)) | ((with_reducible refine gate_callee (f := 32) rfl ?_); refine goesL_ (some 141) rfl rfl Try.func32 (by kernel_rfl) rfl #[.string a0, .int .i64 a1] rfl (by (try simp only [List.map_toArray, List.map_cons, List.map_nil]); first | done | rfl | (simp only [List.length_drop, List.length_take]; rfl)) ?_; (with_reducible refine (tenancyref04_TakeRun.calls kj42 a0 a1 t266 t267 t268 _ A48.out).mono ?_); rintro e w' ⟨rfl, ⟨nd, rfl⟩⟩; refine ⟨_, rfl, ?_⟩))
                          go_ret
                          exact ⟨by first | rfl | (simp [errW_none, errW_some] <;> rfl) | (simp [*, errW_none, errW_some] <;> rfl), by repeat (first | (with_reducible first | exact HB.out | apply below_alloc | apply pw_below_drewN | apply below_drew1 | refine below_set ?_ GE254.out | refine below_set ?_ GE258.out) | exact HB.out)⟩
                        · rw [if_neg c50] at H
                          have c50b0 : (t264 == t267) = false := beq_eq_false_iff_ne.mpr c50
                          have c50b1 : (t264 != t267) = true := bne_iff_ne.mpr c50
                          obtain rfl := Option.some.inj H
                          go_wp2_with (first | ((with_reducible refine gate_callee (f := 31) rfl ?_); refine goesL_ (some 134) rfl rfl Try.func31 (by kernel_rfl) rfl #[.string a0, .int .i64 a1] rfl (by (try simp only [List.map_toArray, List.map_cons, List.map_nil]); first | done | rfl | (simp only [List.length_drop, List.length_take]; rfl)) ?_; (with_reducible refine (octet_TakeRun.calls kj42 a0 a1 t263 t264 t265 _ A47.out).mono ?_); rintro e w52 ⟨rfl, hb⟩; refine ⟨_, rfl, ?_⟩; have n0_ := Aside0.mk (blk_below (g := gb254) (o := .cells #[.int .u64 t251, .int .u64 t252] 30 (0, 0)) (by (with_reducible repeat (first | refine blk_drewN ?_ _ | refine blk_drew ?_ | refine blk_alloc ?_ _)); exact BK254.out) hb); have n1_ := Aside0.mk (blk_below (g := gb258) (o := .cells #[.int .u64 t255, .int .u64 t256] 30 (0, 0)) (by (with_reducible repeat (first | refine blk_drewN ?_ _ | refine blk_drew ?_ | refine blk_alloc ?_ _)); exact BK258.out) hb); have n2_ := Aside0.mk (below_step (by repeat (first | (with_reducible first | exact HB.out | apply below_alloc | apply pw_below_drewN | apply below_drew1 | refine below_set ?_ GE254.out | refine below_set ?_ GE258.out) | exact HB.out)) hb); clear BK254; clear BK258; clear HB; have BK254 := n0_; have BK258 := n1_; have HB := n2_; clear n0_ n1_ n2_; (try clear hb); (try clear hb2); (try clear hk); (try clear hi)) | ((with_reducible refine gate_callee (f := 32) rfl ?_); refine goesL_ (some 141) rfl rfl Try.func32 (by kernel_rfl) rfl #[.string a0, .int .i64 a1] rfl (by (try simp only [List.map_toArray, List.map_cons, List.map_nil]); first | done | rfl | (simp only [List.length_drop, List.length_take]; rfl)) ?_; (with_reducible refine (tenancyref04_TakeRun.calls kj42 a0 a1 t266 t267 t268 _ A48.out).mono ?_); rintro e w' ⟨rfl, ⟨nd, rfl⟩⟩; refine ⟨_, rfl, ?_⟩))
                          go_ret
                          exact ⟨by first | rfl | (simp [errW_none, errW_some] <;> rfl) | (simp [*, errW_none, errW_some] <;> rfl), by repeat (first | (with_reducible first | exact HB.out | apply below_alloc | apply pw_below_drewN | apply below_drew1 | refine below_set ?_ GE254.out | refine below_set ?_ GE258.out) | exact HB.out)⟩
                      · rw [if_neg c49] at H
                        have c49b0 : (t263.toList == t266.toList) = false := beq_eq_false_iff_ne.mpr c49
                        have c49b1 : (t263.toList != t266.toList) = true := bne_iff_ne.mpr c49
                        obtain rfl := Option.some.inj H
                        go_wp2_with (first | ((with_reducible refine gate_callee (f := 31) rfl ?_); refine goesL_ (some 134) rfl rfl Try.func31 (by kernel_rfl) rfl #[.string a0, .int .i64 a1] rfl (by (try simp only [List.map_toArray, List.map_cons, List.map_nil]); first | done | rfl | (simp only [List.length_drop, List.length_take]; rfl)) ?_; (with_reducible refine (octet_TakeRun.calls kj42 a0 a1 t263 t264 t265 _ A47.out).mono ?_); rintro e w53 ⟨rfl, hb⟩; refine ⟨_, rfl, ?_⟩; have n0_ := Aside0.mk (blk_below (g := gb254) (o := .cells #[.int .u64 t251, .int .u64 t252] 30 (0, 0)) (by (with_reducible repeat (first | refine blk_drewN ?_ _ | refine blk_drew ?_ | refine blk_alloc ?_ _)); exact BK254.out) hb); have n1_ := Aside0.mk (blk_below (g := gb258) (o := .cells #[.int .u64 t255, .int .u64 t256] 30 (0, 0)) (by (with_reducible repeat (first | refine blk_drewN ?_ _ | refine blk_drew ?_ | refine blk_alloc ?_ _)); exact BK258.out) hb); have n2_ := Aside0.mk (below_step (by repeat (first | (with_reducible first | exact HB.out | apply below_alloc | apply pw_below_drewN | apply below_drew1 | refine below_set ?_ GE254.out | refine below_set ?_ GE258.out) | exact HB.out)) hb); clear BK254; clear BK258; clear HB; have BK254 := n0_; have BK258 := n1_; have HB := n2_; clear n0_ n1_ n2_; (try clear hb); (try clear hb2); (try clear hk); (try clear hi)) | ((with_reducible refine gate_callee (f := 32) rfl ?_); refine goesL_ (some 141) rfl rfl Try.func32 (by kernel_rfl) rfl #[.string a0, .int .i64 a1] rfl (by (try simp only [List.map_toArray, List.map_cons, List.map_nil]); first | done | rfl | (simp only [List.length_drop, List.length_take]; rfl)) ?_; (with_reducible refine (tenancyref04_TakeRun.calls kj42 a0 a1 t266 t267 t268 _ A48.out).mono ?_); rintro e w' ⟨rfl, ⟨nd, rfl⟩⟩; refine ⟨_, rfl, ?_⟩))
                        go_ret
                        exact ⟨by first | rfl | (simp [errW_none, errW_some] <;> rfl) | (simp [*, errW_none, errW_some] <;> rfl), by repeat (first | (with_reducible first | exact HB.out | apply below_alloc | apply pw_below_drewN | apply below_drew1 | refine below_set ?_ GE254.out | refine below_set ?_ GE258.out) | exact HB.out)⟩
  · replace c5 := Bool.eq_false_iff.mpr c5
    subst c5
    have H1 : (some false) = some r := by rw [if_neg (show ¬ (false = true) by decide)] at H; exact H
    clear H
    have H := H1
    clear H1
    obtain rfl := Option.some.inj H
    go_enter Try.func6, Try.ntmps6
    go_wp2_with (first | ((with_reducible refine gate_callee (f := 8) rfl ?_); refine goesL_ (some 23) rfl rfl Try.func8 (by kernel_rfl) rfl #[] rfl (by (try simp only [List.map_toArray, List.map_cons, List.map_nil]); first | done | rfl | (simp only [List.length_drop, List.length_take]; rfl)) ?_; (with_reducible refine (tenancylaw04_awake.calls k  false _ A4.out).mono ?_); rintro e w54 ⟨rfl, hb⟩; refine ⟨_, rfl, ?_⟩; have n0_ := Aside0.mk (below_step (by repeat (first | (with_reducible first | exact HB.out | apply below_alloc | apply pw_below_drewN | apply below_drew1) | exact HB.out)) hb); clear HB; have HB := n0_; clear n0_; (try clear hb); (try clear hb2); (try clear hk); (try clear hi)))
    go_ret
    exact ⟨by first | rfl | (simp [errW_none, errW_some] <;> rfl) | (simp [*, errW_none, errW_some] <;> rfl), by repeat (first | (with_reducible first | exact HB.out | apply below_alloc | apply pw_below_drewN | apply below_drew1) | exact HB.out)⟩

/-- The one plain statement of tenancylaw04_OctetGets. -/
def tenancylaw04_OctetGets.Pure : Prop := ∀ (a0 : ByteArray) (a1 : Int) (a2 : Int), (a0.size ≤ 140737488351232) → ((Lit.int .i64 a1).wf = true) → ((Lit.int .i64 a2).wf = true) → ∃ k, tenancylaw04_OctetGets.f k a0 a1 a2 = some true

end Go.Proofs.Ytaoeonngifkhbaa.X
