/- Functions of the program as Lean functions, and that the calls come to them: no condition.  By this session's own program (wip/xprint). -/
import Derived.Test.YtfpamalmkmhpgaaG0
namespace Go.Proofs.Ytfpamalmkmhpgaa.X
open Go.RowKit Go.Proofs.YtfpamalmkmhpgaaW.PrintWords Go.Proofs.YtfpamalmkmhpgaaW.PrintLast Go.Proofs.YtfpamalmkmhpgaaW.PrintMore
attribute [local go_sem] max2_int min2_int max_two min_two max_three min_three max_four min_four   -- for this text's walks alone
set_option linter.unusedVariables false
set_option linter.unusedSimpArgs false
/-! ### tenancyref04_put: function 56 -/
def tenancyref04_put.l0 : Nat → Int → List Int → Int → Option (ByteArray)
  | 0, _, _, _ => none
  | k + 1, x0, x5, x6 => if x6 ≥ 0 then (if 0 ≤ (IntKind.u64.wrap (wrap64 (8 * x6))) then (if x5.length < 140737488355328 then (tenancyref04_put.l0 k x0 (x5 ++ [(shr .u64 x0 (IntKind.u64.wrap (wrap64 (8 * x6)))) % 256]) (wrap64 (x6 - 1))) else (none)) else (none)) else (some (strOfNums x5))
def tenancyref04_put.f (k : Nat) (a0 : Int) (a1 : Int) : Option (ByteArray) := tenancyref04_put.l0 k a0 (([] : List Int)) (wrap64 (a1 - 1))
theorem tenancyref04_put.mono_l : ∀ k, (∀ y0 y1 y2, LeO (tenancyref04_put.l0 k y0 y1 y2) (tenancyref04_put.l0 (k + 1) y0 y1 y2))
  | 0 => fun _ _ _ r h => by simp [tenancyref04_put.l0] at h
  | k + 1 => by
    have ih0 := tenancyref04_put.mono_l k
    · intro y0 y1 y2
      unfold tenancyref04_put.l0
      repeat' first
      | (with_reducible exact ih0 _ _ _)
      | (with_reducible exact LeO.refl _)
      | (with_reducible exact LeO.none _)
      | (with_reducible refine LeO.ite ?_ ?_)
      | (with_reducible refine LeO.bind ?_ (fun _ => ?_))
      | exact ih0 _ _ _
      | exact LeO.none _
      | refine LeO.ite ?_ ?_
      | refine LeO.bind ?_ (fun _ => ?_)
theorem tenancyref04_put.mono : ∀ a0 a1 k, LeO (tenancyref04_put.f k a0 a1) (tenancyref04_put.f (k + 1) a0 a1) := by
  intro a0 a1 k
  have ih0 := tenancyref04_put.mono_l k
  unfold tenancyref04_put.f
  repeat' first
      | (with_reducible exact ih0 _ _ _)
      | (with_reducible exact LeO.refl _)
      | (with_reducible exact LeO.none _)
      | (with_reducible refine LeO.ite ?_ ?_)
      | (with_reducible refine LeO.bind ?_ (fun _ => ?_))
      | exact ih0 _ _ _
      | exact LeO.none _
      | refine LeO.ite ?_ ?_
      | refine LeO.bind ?_ (fun _ => ?_)
set_option maxHeartbeats 8000000 in
set_option maxRecDepth 100000 in
theorem tenancyref04_put.calls (k : Nat) (a0 : Int) (a1 : Int) (r : ByteArray) (w : World) (h : tenancyref04_put.f k a0 a1 = some r) :
    Calls Try.prog 56 #[.int .u64 a0, .int .i64 a1] w fun e w' => e = .returned (.string r) ∧ Below w.heap.size w w' := by
  have HB := Aside0.mk (Below.refl w.heap.size w)
  have H : (tenancyref04_put.l0 k a0 (([] : List Int)) (wrap64 (a1 - 1))) = some r := h
  clear h
  obtain ⟨y277, hy277⟩ : ∃ y_ : List Int, y_ = (([] : List Int)) := ⟨_, rfl⟩
  replace H : (tenancyref04_put.l0 k a0 y277 (wrap64 (a1 - 1))) = some r := by first | (rw [hy277]; with_reducible exact H) | (have H2_ := (Option.bind_some _ _).symm.trans H; rw [hy277]; with_reducible exact H2_) | (have H2_ := (Option.bind_some _ _).symm.trans H; with_reducible exact H2_) | with_reducible exact H | (rw [hy277]; exact H) | exact H
  have Ny277 := Aside0.mk hy277
  clear hy277
  have H' := Aside0.mk H
  clear H
  go_enter Try.func56, Try.ntmps56
  go_wp2_with (first | ((with_reducible refine gate_dst (N := 7) rfl ?_); refine Kd.R_lit (Kd.int .u8) _ 5 ?hg (N := 7) ?hd (xs := ([] : List Int)) (inner := []) (ok := fun _ => True) (okp := fun _ => True) ?hr ?hp (fun _ hk => hk) trivial (Below.refl _ _) (Nat.le_refl _) (by simp) ?_; (case hd => rfl); (case hg => rfl); (case hr => first | (go_simp; done) | (go_simp; rfl)); (case hp => exact (Reps.none _ _)); intro v278 w3 ho4 hb hg_ hnew_; clear hg_ hnew_; (first | rw [← Ny277.out] at ho4 | (simp only [Int.reduceToNat] at ho4; rw [← Ny277.out] at ho4)); have n0_ := Aside0.mk (Kd.R_lower ho4 (below_size (by repeat (first | (with_reducible first | exact HB.out | apply below_alloc | apply pw_below_drewN | apply below_drew1) | exact HB.out)))); have n1_ := Aside0.mk (below_step (by repeat (first | (with_reducible first | exact HB.out | apply below_alloc | apply pw_below_drewN | apply below_drew1) | exact HB.out)) hb); clear HB; have HO279 := n0_; have HB := n1_; clear n0_ n1_; clear hb ho4))
  go_loopg [5, 6] k (fun kq v5 v6 w' => ∃ (x5_1 : List Int) (x6_1 : Int), v6 = .int .i64 x6_1 ∧ Aside0 (tenancyref04_put.l0 kq a0 x5_1 x6_1 = some r) ∧ Aside0 (kq ≤ k) ∧ Aside0 (Kd.R (Kd.int .u8) 5 w' w.heap.size (fun _ => True) v5 x5_1) ∧ Aside0 (Below w.heap.size w w'))
  case atStart => exact ⟨(y277), (wrap64 (a1 - 1)), (by first | rfl | (simp; done) | (simp only [ByteArray.size_extract]; rw [Nat.min_eq_left (by omega)]; done) | (simp [*]; done)), H', ⟨Nat.le_refl _⟩, ⟨by (with_reducible repeat (first | apply Kd.R_alloc | apply Kd.R_drewN | apply Kd.R_drew)); exact HO279.out⟩, ⟨by repeat (first | (with_reducible first | exact HB.out | apply below_alloc | apply pw_below_drewN | apply below_drew1) | exact HB.out)⟩⟩
  case round =>
    clear H'
    try clear p2
    obtain ⟨x5_1, x6_1, rfl, HA, HK1, HO_5, HB⟩ := hrel
    cases gk with
    | zero => exact absurd HA.out (by simp [tenancyref04_put.l0])
    | succ k1 =>
      have H := HA.out
      clear HA
      simp only [tenancyref04_put.l0] at H
      by_cases c5 : x6_1 ≥ 0
      · rw [if_pos c5] at H
        have c5b0 : decide (0 ≤ x6_1) = true := decide_eq_true c5
        clear c5
        obtain ⟨ji6, hji6⟩ : ∃ j_ : Int, (IntKind.u64.wrap (wrap64 (8 * x6_1))) = j_ := ⟨_, rfl⟩
        replace H : (if 0 ≤ (ji6) then (if x5_1.length < 140737488355328 then (tenancyref04_put.l0 k1 a0 (x5_1 ++ [(shr .u64 a0 (ji6)) % 256]) (wrap64 (x6_1 - 1))) else (none)) else (none)) = some r := by first | (rw [hji6] at H; exact H) | (simp only [hji6] at H ⊢; exact H)
        by_cases c7 : 0 ≤ (ji6)
        · rw [if_pos c7] at H
          have c7b0 := eq_true c7
          have c7b1 : decide (0 ≤ (ji6)) = true := decide_eq_true c7
          clear c7
          obtain ⟨ji8, hji8⟩ : ∃ j_ : Int, (shr .u64 a0 (ji6)) = j_ := ⟨_, rfl⟩
          replace H : (if x5_1.length < 140737488355328 then (tenancyref04_put.l0 k1 a0 (x5_1 ++ [(ji8) % 256]) (wrap64 (x6_1 - 1))) else (none)) = some r := by first | (rw [hji8] at H; exact H) | (simp only [hji8] at H ⊢; exact H)
          have hji8_ : (a0 / 2 ^ min (ji6).toNat 64) = ji8 := hji8
          have hji8z : (ji6) ≤ 64 → (a0 / 2 ^ (ji6).toNat) = ji8 := shr_small hji8
          by_cases c9 : x5_1.length < 140737488355328
          · rw [if_pos c9] at H
            have LMc9 := Aside0.mk c9
            clear c9
            obtain ⟨y280, hy280⟩ : ∃ y_ : List Int, y_ = (x5_1 ++ [(ji8) % 256]) := ⟨_, rfl⟩
            replace H : (tenancyref04_put.l0 k1 a0 y280 (wrap64 (x6_1 - 1))) = some r := by first | (rw [hy280]; with_reducible exact H) | (have H2_ := (Option.bind_some _ _).symm.trans H; rw [hy280]; with_reducible exact H2_) | (have H2_ := (Option.bind_some _ _).symm.trans H; with_reducible exact H2_) | with_reducible exact H | (rw [hy280]; exact H) | exact H
            have Ny280 := Aside0.mk hy280
            clear hy280
            have H' := Aside0.mk H
            clear H
            go_wp2_with (first | ((with_reducible refine gate_builtin (b := .append) (xs := #[.tmp 14, .tmp 21]) rfl ?_); at_builtin; refine Kd.R_append (Kd.int .u8) (w0 := w) w.heap.size rfl (.tmp 14) (.tmp 21) 56 5 (.int .u8 0) 1 rfl Try.underlying56 info5 rfl (by decide) (by omega) u5 x5_1 ((ji8) % 256) [.int .u8 ((ji8) % 256)] (fun _ => True) (fun _ => False) rfl rfl ?aP (fun _ hk => hk.elim) ?aF ?aO ?aB ?aS ?aL ?_; (case aP => exact rfl); (case aB => exact (by repeat (first | (with_reducible first | exact HB.out | apply below_alloc | apply pw_below_drewN | apply below_drew1) | exact HB.out))); (case aF => exact (fun _ _ => trivial)); (case aO => exact (by (with_reducible repeat (first | apply Kd.R_alloc | apply Kd.R_drewN | apply Kd.R_drew)); exact HO_5.out)); (case aS => exact (below_size (by repeat (first | (with_reducible first | exact HB.out | apply below_alloc | apply pw_below_drewN | apply below_drew1) | exact HB.out)))); (case aL => have := LMc9.out; omega); intro v281 w10 ho hb hg hat; rw [← Ny280.out] at ho; have n0_ := Aside0.mk (hb); have n1_ := Aside0.mk (ho); clear HB; clear HO_5; have HB := n0_; have HO282 := n1_; clear n0_ n1_; clear ho hb hg hat))
            go_roundg k1
            case measure => have := HK1.out; omega
            case rel => exact ⟨(y280), (wrap64 (x6_1 - 1)), (by first | rfl | (simp; done) | (simp only [ByteArray.size_extract]; rw [Nat.min_eq_left (by omega)]; done) | (simp [*]; done)), H', ⟨by have := HK1.out; omega⟩, ⟨by (with_reducible repeat (first | apply Kd.R_alloc | apply Kd.R_drewN | apply Kd.R_drew)); exact HO282.out⟩, ⟨by repeat (first | (with_reducible first | exact HB.out | apply below_alloc | apply pw_below_drewN | apply below_drew1) | exact HB.out)⟩⟩
          · rw [if_neg c9] at H
            exact absurd H (by simp)
        · rw [if_neg c7] at H
          exact absurd H (by simp)
      · rw [if_neg c5] at H
        have c5b0 : decide (0 ≤ x6_1) = false := decide_eq_false c5
        clear c5
        obtain rfl := Option.some.inj H
        have hcv11 := own_string (P := Try.prog) Try.underlying56 Try.underlying5 Try.underlying9 (Kd.own_of_R HO_5.out)
        go_wp2
        go_ret
        exact ⟨by first | rfl | (simp [errW_none, errW_some] <;> rfl) | (simp [*, errW_none, errW_some] <;> rfl), by repeat (first | (with_reducible first | exact HB.out | apply below_alloc | apply pw_below_drewN | apply below_drew1) | exact HB.out)⟩

/-! ### tenancyref04_Put16: function 43 -/
def tenancyref04_Put16.f (k : Nat) (a0 : Int) : Option (ByteArray) := (tenancyref04_put.f k (IntKind.u64.wrap (a0)) 2).bind fun t283 => (some t283)
theorem tenancyref04_Put16.mono : ∀ a0 k, LeO (tenancyref04_Put16.f k a0) (tenancyref04_Put16.f (k + 1) a0) := by
  intro a0 k
  unfold tenancyref04_Put16.f
  repeat' first
      | (with_reducible exact tenancyref04_put.mono _ _ _)
      | (with_reducible exact LeO.refl _)
      | (with_reducible exact LeO.none _)
      | (with_reducible refine LeO.ite ?_ ?_)
      | (with_reducible refine LeO.bind ?_ (fun _ => ?_))
      | exact tenancyref04_put.mono _ _ _
      | exact LeO.none _
      | refine LeO.ite ?_ ?_
      | refine LeO.bind ?_ (fun _ => ?_)
set_option maxHeartbeats 8000000 in
set_option maxRecDepth 100000 in
theorem tenancyref04_Put16.calls (k : Nat) (a0 : Int) (r : ByteArray) (w : World) (h : tenancyref04_Put16.f k a0 = some r) :
    Calls Try.prog 43 #[.int .u16 a0] w fun e w' => e = .returned (.string r) ∧ Below w.heap.size w w' := by
  have HB := Aside0.mk (Below.refl w.heap.size w)
  have H : ((tenancyref04_put.f k (IntKind.u64.wrap (a0)) 2).bind fun t283 => (some t283)) = some r := h
  clear h
  replace H := Option.bind_eq_some_iff.mp H
  obtain ⟨t283, A20, H⟩ := H
  replace H : (some t283) = some r := H
  have A2 := Aside0.mk A20
  clear A20
  obtain rfl := Option.some.inj H
  go_enter Try.func43, Try.ntmps43
  go_wp2_with (first | ((with_reducible refine gate_callee (f := 56) rfl ?_); refine goesL_ (some 5) rfl rfl Try.func56 (by kernel_rfl) rfl #[.int .u64 (IntKind.u64.wrap (a0)), .int .i64 2] rfl (by (try simp only [List.map_toArray, List.map_cons, List.map_nil]); first | done | rfl | (simp only [List.length_drop, List.length_take]; rfl)) ?_; (with_reducible refine (tenancyref04_put.calls k (IntKind.u64.wrap (a0)) 2 t283 _ A2.out).mono ?_); rintro e w3 ⟨rfl, hb⟩; refine ⟨_, rfl, ?_⟩; have n0_ := Aside0.mk (below_step (by repeat (first | (with_reducible first | exact HB.out | apply below_alloc | apply pw_below_drewN | apply below_drew1) | exact HB.out)) hb); clear HB; have HB := n0_; clear n0_; (try clear hb); (try clear hb2); (try clear hk); (try clear hi)))
  go_ret
  exact ⟨by first | rfl | (simp [errW_none, errW_some] <;> rfl) | (simp [*, errW_none, errW_some] <;> rfl), by repeat (first | (with_reducible first | exact HB.out | apply below_alloc | apply pw_below_drewN | apply below_drew1) | exact HB.out)⟩

/-! ### tenancyref04_Run: function 42 -/
def tenancyref04_Run.f (k : Nat) (a0 : ByteArray) : Option (ByteArray × Bool) := if (a0.size : Int) > 65535 then (some ((⟨#[]⟩ : ByteArray), false)) else ((tenancyref04_Put16.f k (IntKind.u16.wrap ((a0.size : Int)))).bind fun t284 => (if t284.size + a0.size ≤ 9223372036854775807 then (some (t284 ++ a0, true)) else (none)))
theorem tenancyref04_Run.mono : ∀ a0 k, LeO (tenancyref04_Run.f k a0) (tenancyref04_Run.f (k + 1) a0) := by
  intro a0 k
  unfold tenancyref04_Run.f
  repeat' first
      | (with_reducible exact tenancyref04_Put16.mono _ _)
      | (with_reducible exact LeO.refl _)
      | (with_reducible exact LeO.none _)
      | (with_reducible refine LeO.ite ?_ ?_)
      | (with_reducible refine LeO.bind ?_ (fun _ => ?_))
      | exact tenancyref04_Put16.mono _ _
      | exact LeO.none _
      | refine LeO.ite ?_ ?_
      | refine LeO.bind ?_ (fun _ => ?_)
set_option maxHeartbeats 8000000 in
set_option maxRecDepth 100000 in
theorem tenancyref04_Run.calls (k : Nat) (a0 : ByteArray) (r1 : ByteArray) (r2 : Bool) (w : World) (h : tenancyref04_Run.f k a0 = some (r1, r2)) :
    Calls Try.prog 42 #[.string a0] w fun e w' => e = .returned (.tuple #[.string r1, .bool r2]) ∧ Below w.heap.size w w' := by
  have HB := Aside0.mk (Below.refl w.heap.size w)
  have H : (if (a0.size : Int) > 65535 then (some ((⟨#[]⟩ : ByteArray), false)) else ((tenancyref04_Put16.f k (IntKind.u16.wrap ((a0.size : Int)))).bind fun t284 => (if t284.size + a0.size ≤ 9223372036854775807 then (some (t284 ++ a0, true)) else (none)))) = some (r1, r2) := h
  clear h
  by_cases c2 : (a0.size : Int) > 65535
  · rw [if_pos c2] at H
    have c2b0 : decide (65535 < (a0.size : Int)) = true := decide_eq_true c2
    have c2b1 : decide (65535 < a0.size) = true := decide_eq_true (by omega)
    clear c2
    simp only [Option.some.injEq, Prod.mk.injEq] at H
    obtain ⟨rfl, rfl⟩ := H
    go_enter Try.func42, Try.ntmps42
    go_wp2
    go_ret2
    exact ⟨by first | rfl | (simp [errW_none, errW_some] <;> rfl) | (simp [*, errW_none, errW_some] <;> rfl), by repeat (first | (with_reducible first | exact HB.out | apply below_alloc | apply pw_below_drewN | apply below_drew1) | exact HB.out)⟩
  · rw [if_neg c2] at H
    have c2b0 : decide (65535 < (a0.size : Int)) = false := decide_eq_false c2
    have c2b1 : decide (65535 < a0.size) = false := decide_eq_false (by omega)
    clear c2
    replace H := Option.bind_eq_some_iff.mp H
    obtain ⟨t284, A30, H⟩ := H
    replace H : (if t284.size + a0.size ≤ 9223372036854775807 then (some (t284 ++ a0, true)) else (none)) = some (r1, r2) := H
    have A3 := Aside0.mk A30
    clear A30
    by_cases c4 : t284.size + a0.size ≤ 9223372036854775807
    · rw [if_pos c4] at H
      have c4b0 := eq_true c4
      have c4b1 : decide (t284.size + a0.size ≤ 9223372036854775807) = true := decide_eq_true c4
      try have c4b2 : (9223372036854775807 < t284.size + a0.size) = False := eq_false (Nat.not_lt.2 c4)
      simp only [Option.some.injEq, Prod.mk.injEq] at H
      obtain ⟨rfl, rfl⟩ := H
      go_enter Try.func42, Try.ntmps42
      go_wp2_with (first | ((with_reducible refine gate_callee (f := 43) rfl ?_); refine goesL_ (some 10) rfl rfl Try.func43 (by kernel_rfl) rfl #[.int .u16 (IntKind.u16.wrap ((a0.size : Int)))] rfl (by (try simp only [List.map_toArray, List.map_cons, List.map_nil]); first | done | rfl | (simp only [List.length_drop, List.length_take]; rfl)) ?_; (with_reducible refine (tenancyref04_Put16.calls k (IntKind.u16.wrap ((a0.size : Int))) t284 _ A3.out).mono ?_); rintro e w5 ⟨rfl, hb⟩; refine ⟨_, rfl, ?_⟩; have n0_ := Aside0.mk (below_step (by repeat (first | (with_reducible first | exact HB.out | apply below_alloc | apply pw_below_drewN | apply below_drew1) | exact HB.out)) hb); clear HB; have HB := n0_; clear n0_; (try clear hb); (try clear hb2); (try clear hk); (try clear hi)))
      go_ret2
      exact ⟨by first | rfl | (simp [errW_none, errW_some] <;> rfl) | (simp [*, errW_none, errW_some] <;> rfl), by repeat (first | (with_reducible first | exact HB.out | apply below_alloc | apply pw_below_drewN | apply below_drew1) | exact HB.out)⟩
    · rw [if_neg c4] at H
      exact absurd H (by simp)

/-! ### tenancyref15_Emit: function 26 -/
def tenancyref15_Emit.l0 : Nat → List (S42) → List Int → Int → Option (ByteArray × Int)
  | 0, _, _, _ => none
  | k + 1, x0, x4, x5 => if x5 < (x0.length : Int) then (if 0 ≤ x5 then ((tenancyref04_Run.f k ((rd_T42 x0 x5).f1)).bind fun bt289 => (if bt289.2 = true then ((tenancyref04_Put16.f k ((rd_T42 x0 x5).f0)).bind fun t292 => (if x4.length + t292.size < 140737488355328 then ((some (x4 ++ bytesOf t292 : List Int)).bind fun y293 => (if y293.length + bt289.1.size < 140737488355328 then (tenancyref15_Emit.l0 k x0 (y293 ++ bytesOf bt289.1) (wrap64 (x5 + 1))) else (none))) else (none))) else (some ((⟨#[]⟩ : ByteArray), 130)))) else (none)) else (some (strOfNums x4, 0))
def tenancyref15_Emit.f (k : Nat) (l0 : List (S42)) : Option (ByteArray × Int) := if (l0.length : Int) > 128 then (some ((⟨#[]⟩ : ByteArray), 6)) else (tenancyref15_Emit.l0 k l0 (([] : List Int)) 0)
theorem tenancyref15_Emit.mono_l : ∀ k, (∀ y0 y1 y2, LeO (tenancyref15_Emit.l0 k y0 y1 y2) (tenancyref15_Emit.l0 (k + 1) y0 y1 y2))
  | 0 => fun _ _ _ r h => by simp [tenancyref15_Emit.l0] at h
  | k + 1 => by
    have ih0 := tenancyref15_Emit.mono_l k
    · intro y0 y1 y2
      unfold tenancyref15_Emit.l0
      repeat' first
      | (with_reducible exact ih0 _ _ _)
      | (with_reducible exact tenancyref04_Put16.mono _ _)
      | (with_reducible exact tenancyref04_Run.mono _ _)
      | (with_reducible exact LeO.refl _)
      | (with_reducible exact LeO.none _)
      | (with_reducible refine LeO.ite ?_ ?_)
      | (with_reducible refine LeO.bind ?_ (fun _ => ?_))
      | exact ih0 _ _ _
      | exact tenancyref04_Put16.mono _ _
      | exact tenancyref04_Run.mono _ _
      | exact LeO.none _
      | refine LeO.ite ?_ ?_
      | refine LeO.bind ?_ (fun _ => ?_)
theorem tenancyref15_Emit.mono : ∀ a0 k, LeO (tenancyref15_Emit.f k a0) (tenancyref15_Emit.f (k + 1) a0) := by
  intro a0 k
  have ih0 := tenancyref15_Emit.mono_l k
  unfold tenancyref15_Emit.f
  repeat' first
      | (with_reducible exact ih0 _ _ _)
      | (with_reducible exact tenancyref04_Put16.mono _ _)
      | (with_reducible exact tenancyref04_Run.mono _ _)
      | (with_reducible exact LeO.refl _)
      | (with_reducible exact LeO.none _)
      | (with_reducible refine LeO.ite ?_ ?_)
      | (with_reducible refine LeO.bind ?_ (fun _ => ?_))
      | exact ih0 _ _ _
      | exact tenancyref04_Put16.mono _ _
      | exact tenancyref04_Run.mono _ _
      | exact LeO.none _
      | refine LeO.ite ?_ ?_
      | refine LeO.bind ?_ (fun _ => ?_)
set_option maxHeartbeats 8000000 in
set_option maxRecDepth 100000 in
theorem tenancyref15_Emit.calls (k : Nat) (A0 : Option Addr) (c0 : Nat) (l0 : List (S42)) (r1 : ByteArray) (r2 : Int) (w : World) (hr0 : Kd.C k42 w A0 l0.length l0) (hc0 : l0.length ≤ c0) (h : tenancyref15_Emit.f k l0 = some (r1, r2)) :
    Calls Try.prog 26 #[.slice A0 l0.length c0] w fun e w' => e = .returned (.tuple #[.string r1, .int .i64 r2]) ∧ Below w.heap.size w w' := by
  have HR0 := Aside0.mk hr0
  have HC0 := Aside0.mk hc0
  clear hr0 hc0
  have HB := Aside0.mk (Below.refl w.heap.size w)
  have H : (if (l0.length : Int) > 128 then (some ((⟨#[]⟩ : ByteArray), 6)) else (tenancyref15_Emit.l0 k l0 (([] : List Int)) 0)) = some (r1, r2) := h
  clear h
  by_cases c2 : (l0.length : Int) > 128
  · rw [if_pos c2] at H
    have c2b0 : decide (128 < (l0.length : Int)) = true := decide_eq_true c2
    have c2b1 : decide (128 < l0.length) = true := decide_eq_true (by omega)
    clear c2
    simp only [Option.some.injEq, Prod.mk.injEq] at H
    obtain ⟨rfl, rfl⟩ := H
    go_enter Try.func26, Try.ntmps26
    go_wp2
    go_ret2
    exact ⟨by first | rfl | (simp [errW_none, errW_some] <;> rfl) | (simp [*, errW_none, errW_some] <;> rfl), by repeat (first | (with_reducible first | exact HB.out | apply below_alloc | apply pw_below_drewN | apply below_drew1) | exact HB.out)⟩
  · rw [if_neg c2] at H
    have c2b0 : decide (128 < (l0.length : Int)) = false := decide_eq_false c2
    have c2b1 : decide (128 < l0.length) = false := decide_eq_false (by omega)
    clear c2
    obtain ⟨y285, hy285⟩ : ∃ y_ : List Int, y_ = (([] : List Int)) := ⟨_, rfl⟩
    replace H : (tenancyref15_Emit.l0 k l0 y285 0) = some (r1, r2) := by first | (rw [hy285]; with_reducible exact H) | (have H2_ := (Option.bind_some _ _).symm.trans H; rw [hy285]; with_reducible exact H2_) | (have H2_ := (Option.bind_some _ _).symm.trans H; with_reducible exact H2_) | with_reducible exact H | (rw [hy285]; exact H) | exact H
    have Ny285 := Aside0.mk hy285
    clear hy285
    have H' := Aside0.mk H
    clear H
    go_enter Try.func26, Try.ntmps26
    go_wp2_with (first | ((with_reducible refine gate_dst (N := 11) rfl ?_); refine Kd.R_lit (Kd.int .u8) _ 5 ?hg (N := 11) ?hd (xs := ([] : List Int)) (inner := []) (ok := fun _ => True) (okp := fun _ => True) ?hr ?hp (fun _ hk => hk) trivial (Below.refl _ _) (Nat.le_refl _) (by simp) ?_; (case hd => rfl); (case hg => rfl); (case hr => first | (go_simp; done) | (go_simp; rfl)); (case hp => exact (Reps.none _ _)); intro v286 w3 ho4 hb hg_ hnew_; clear hg_ hnew_; (first | rw [← Ny285.out] at ho4 | (simp only [Int.reduceToNat] at ho4; rw [← Ny285.out] at ho4)); have n0_ := Aside0.mk (Kd.R_lower ho4 (below_size (by repeat (first | (with_reducible first | exact HB.out | apply below_alloc | apply pw_below_drewN | apply below_drew1) | exact HB.out)))); have n1_ := Aside0.mk (below_step (by repeat (first | (with_reducible first | exact HB.out | apply below_alloc | apply pw_below_drewN | apply below_drew1) | exact HB.out)) hb); clear HB; have HO287 := n0_; have HB := n1_; clear n0_ n1_; clear hb ho4))
    go_loopg [4, 5] k (fun kq v4 v5 w' => ∃ (x4_1 : List Int) (x5_1 : Int), v5 = .int .i64 x5_1 ∧ Aside0 (tenancyref15_Emit.l0 kq l0 x4_1 x5_1 = some (r1, r2)) ∧ Aside0 (kq ≤ k) ∧ Aside0 (Kd.R (Kd.int .u8) 5 w' w.heap.size (fun _ => True) v4 x4_1) ∧ Aside0 (Below w.heap.size w w'))
    case atStart => exact ⟨(y285), (0), (by first | rfl | (simp; done) | (simp only [ByteArray.size_extract]; rw [Nat.min_eq_left (by omega)]; done) | (simp [*]; done)), H', ⟨Nat.le_refl _⟩, ⟨by (with_reducible repeat (first | apply Kd.R_alloc | apply Kd.R_drewN | apply Kd.R_drew)); exact HO287.out⟩, ⟨by repeat (first | (with_reducible first | exact HB.out | apply below_alloc | apply pw_below_drewN | apply below_drew1) | exact HB.out)⟩⟩
    case round =>
      clear H'
      try clear c2
      try clear c2b0
      try clear c2b1
      try clear p2
      obtain ⟨x4_1, x5_1, rfl, HA, HK1, HO_4, HB⟩ := hrel
      cases gk with
      | zero => exact absurd HA.out (by simp [tenancyref15_Emit.l0])
      | succ k1 =>
        have H := HA.out
        clear HA
        simp only [tenancyref15_Emit.l0] at H
        by_cases c5 : x5_1 < (l0.length : Int)
        · rw [if_pos c5] at H
          have c5b0 : decide (x5_1 < (l0.length : Int)) = true := decide_eq_true c5
          clear c5
          by_cases c6 : 0 ≤ x5_1
          · rw [if_pos c6] at H
            have c6b0 : decide (0 ≤ x5_1) = true := decide_eq_true c6
            clear c6
            replace H := Option.bind_eq_some_iff.mp H
            obtain ⟨⟨t289, t290⟩, A70, H⟩ := H
            replace H : (if t290 = true then ((tenancyref04_Put16.f k1 ((rd_T42 l0 x5_1).f0)).bind fun t292 => (if x4_1.length + t292.size < 140737488355328 then ((some (x4_1 ++ bytesOf t292 : List Int)).bind fun y293 => (if y293.length + t289.size < 140737488355328 then (tenancyref15_Emit.l0 k1 l0 (y293 ++ bytesOf t289) (wrap64 (x5_1 + 1))) else (none))) else (none))) else (some ((⟨#[]⟩ : ByteArray), 130))) = some (r1, r2) := H
            have A7 := Aside0.mk A70
            clear A70
            by_cases c8 : t290 = true
            · subst c8
              have H1 : ((tenancyref04_Put16.f k1 ((rd_T42 l0 x5_1).f0)).bind fun t292 => (if x4_1.length + t292.size < 140737488355328 then ((some (x4_1 ++ bytesOf t292 : List Int)).bind fun y293 => (if y293.length + t289.size < 140737488355328 then (tenancyref15_Emit.l0 k1 l0 (y293 ++ bytesOf t289) (wrap64 (x5_1 + 1))) else (none))) else (none))) = some (r1, r2) := by rw [if_pos rfl] at H; exact H
              clear H
              have H := H1
              clear H1
              replace H := Option.bind_eq_some_iff.mp H
              obtain ⟨t292, A90, H⟩ := H
              replace H : (if x4_1.length + t292.size < 140737488355328 then ((some (x4_1 ++ bytesOf t292 : List Int)).bind fun y293 => (if y293.length + t289.size < 140737488355328 then (tenancyref15_Emit.l0 k1 l0 (y293 ++ bytesOf t289) (wrap64 (x5_1 + 1))) else (none))) else (none)) = some (r1, r2) := H
              have A9 := Aside0.mk A90
              clear A90
              by_cases c10 : x4_1.length + t292.size < 140737488355328
              · rw [if_pos c10] at H
                have LMc10 := Aside0.mk c10
                clear c10
                obtain ⟨y293, hy293⟩ : ∃ y_ : List Int, y_ = (x4_1 ++ bytesOf t292) := ⟨_, rfl⟩
                replace H : (if y293.length + t289.size < 140737488355328 then (tenancyref15_Emit.l0 k1 l0 (y293 ++ bytesOf t289) (wrap64 (x5_1 + 1))) else (none)) = some (r1, r2) := by first | (rw [hy293]; with_reducible exact H) | (have H2_ := (Option.bind_some _ _).symm.trans H; rw [hy293]; with_reducible exact H2_) | (have H2_ := (Option.bind_some _ _).symm.trans H; with_reducible exact H2_) | with_reducible exact H | (rw [hy293]; exact H) | exact H
                have Ny293 := Aside0.mk hy293
                clear hy293
                by_cases c11 : y293.length + t289.size < 140737488355328
                · rw [if_pos c11] at H
                  have LMc11 := Aside0.mk c11
                  clear c11
                  obtain ⟨y296, hy296⟩ : ∃ y_ : List Int, y_ = (y293 ++ bytesOf t289) := ⟨_, rfl⟩
                  replace H : (tenancyref15_Emit.l0 k1 l0 y296 (wrap64 (x5_1 + 1))) = some (r1, r2) := by first | (rw [hy296]; with_reducible exact H) | (have H2_ := (Option.bind_some _ _).symm.trans H; rw [hy296]; with_reducible exact H2_) | (have H2_ := (Option.bind_some _ _).symm.trans H; with_reducible exact H2_) | with_reducible exact H | (rw [hy296]; exact H) | exact H
                  have Ny296 := Aside0.mk hy296
                  clear hy296
                  have H' := Aside0.mk H
                  clear H
                  have p288 : 0 ≤ (x5_1 : Int) := of_decide_eq_true (by first | (with_reducible assumption) | assumption)
                  have q288 : x5_1 < (l0.length : Int) := of_decide_eq_true (by first | (with_reducible assumption) | assumption)
                  obtain ⟨ad288, e288, hx288_0, hx288_1⟩ := at_T42 HR0.out x5_1 p288 q288
                  cases e288
                  replace hx288_0 := (HB.out.cell (World.block_lt_of_cell? w _ hx288_0)).trans hx288_0
                  replace hx288_1 := (HB.out.cell (World.block_lt_of_cell? w _ hx288_1)).trans hx288_1
                  replace p288 := eq_true p288
                  replace q288 := eq_true q288
                  go_wp2_with (first | ((with_reducible refine gate_callee (f := 42) rfl ?_); refine goesL_ (some 24) rfl rfl Try.func42 (by kernel_rfl) rfl #[.string ((rd_T42 l0 x5_1).f1)] rfl (by (try simp only [List.map_toArray, List.map_cons, List.map_nil]); first | done | rfl | (simp only [List.length_drop, List.length_take]; rfl)) ?_; (with_reducible refine (tenancyref04_Run.calls k1 ((rd_T42 l0 x5_1).f1) t289 true _ A7.out).mono ?_); rintro e w12 ⟨rfl, hb⟩; refine ⟨_, rfl, ?_⟩; have n0_ := Aside0.mk (Kd.R_below (by (with_reducible repeat (first | apply Kd.R_alloc | apply Kd.R_drewN | apply Kd.R_drew)); exact HO_4.out) hb); have n1_ := Aside0.mk (below_step (by repeat (first | (with_reducible first | exact HB.out | apply below_alloc | apply pw_below_drewN | apply below_drew1) | exact HB.out)) hb); clear HO_4; clear HB; have HO_4 := n0_; have HB := n1_; clear n0_ n1_; (try clear hb); (try clear hb2); (try clear hk); (try clear hi); have p291 : 0 ≤ (x5_1 : Int) := of_decide_eq_true (by first | (with_reducible assumption) | assumption); have q291 : x5_1 < (l0.length : Int) := of_decide_eq_true (by first | (with_reducible assumption) | assumption); obtain ⟨ad291, e291, hx291_0, hx291_1⟩ := at_T42 HR0.out x5_1 p291 q291; obtain rfl : ad288 = ad291 := (by injection e291); replace hx291_0 := (HB.out.cell (World.block_lt_of_cell? w _ hx291_0)).trans hx291_0; replace hx291_1 := (HB.out.cell (World.block_lt_of_cell? w _ hx291_1)).trans hx291_1; replace p291 := eq_true p291; replace q291 := eq_true q291) | ((with_reducible refine gate_callee (f := 43) rfl ?_); refine goesL_ (some 35) rfl rfl Try.func43 (by kernel_rfl) rfl #[.int .u16 ((rd_T42 l0 x5_1).f0)] rfl (by (try simp only [List.map_toArray, List.map_cons, List.map_nil]); first | done | rfl | (simp only [List.length_drop, List.length_take]; rfl)) ?_; (with_reducible refine (tenancyref04_Put16.calls k1 ((rd_T42 l0 x5_1).f0) t292 _ A9.out).mono ?_); rintro e w13 ⟨rfl, hb⟩; refine ⟨_, rfl, ?_⟩; have n0_ := Aside0.mk (Kd.R_below (by (with_reducible repeat (first | apply Kd.R_alloc | apply Kd.R_drewN | apply Kd.R_drew)); exact HO_4.out) hb); have n1_ := Aside0.mk (below_step (by repeat (first | (with_reducible first | exact HB.out | apply below_alloc | apply pw_below_drewN | apply below_drew1) | exact HB.out)) hb); clear HO_4; clear HB; have HO_4 := n0_; have HB := n1_; clear n0_ n1_; (try clear hb); (try clear hb2); (try clear hk); (try clear hi)) | (at_builtin; refine print_append_str (w0 := w) w.heap.size rfl (.tmp 29) _ 56 9 5 rfl Try.underlying56 Try.underlying9 info5 u4 x4_1 t292 rfl rfl ?aO ?aB ?aS ?aL ?_; (case aB => exact (by repeat (first | (with_reducible first | exact HB.out | apply below_alloc | apply pw_below_drewN | apply below_drew1) | exact HB.out))); (case aO => exact (Kd.own_of_R (by (with_reducible repeat (first | apply Kd.R_alloc | apply Kd.R_drewN | apply Kd.R_drew)); exact HO_4.out))); (case aS => exact (below_size (by repeat (first | (with_reducible first | exact HB.out | apply below_alloc | apply pw_below_drewN | apply below_drew1) | exact HB.out)))); (case aL => have := LMc10.out; omega); intro v294 w14 ho0 hb hg; have ho := Kd.R_of_own (h1 := fun _ => rfl) (ok := fun _ => True) ho0 (fun _ _ => trivial); clear ho0; have hat := True.intro; rw [← Ny293.out] at ho; change Kd.R (Kd.int .u8) 5 w14 w.heap.size (fun _ => True) v294 y293 at ho; have n0_ := Aside0.mk (hb); have n1_ := Aside0.mk (ho); clear HB; clear HO_4; have HB := n0_; have HO295 := n1_; clear n0_ n1_; clear ho hb hg hat) | (at_builtin; refine print_append_str (w0 := w) w.heap.size rfl (.tmp 37) _ 56 9 5 rfl Try.underlying56 Try.underlying9 info5 v294 y293 t289 rfl rfl ?aO ?aB ?aS ?aL ?_; (case aB => exact (by repeat (first | (with_reducible first | exact HB.out | apply below_alloc | apply pw_below_drewN | apply below_drew1) | exact HB.out))); (case aO => exact (Kd.own_of_R (by (with_reducible repeat (first | apply Kd.R_alloc | apply Kd.R_drewN | apply Kd.R_drew)); exact HO295.out))); (case aS => exact (below_size (by repeat (first | (with_reducible first | exact HB.out | apply below_alloc | apply pw_below_drewN | apply below_drew1) | exact HB.out)))); (case aL => have := LMc11.out; omega); intro v297 w15 ho0 hb hg; have ho := Kd.R_of_own (h1 := fun _ => rfl) (ok := fun _ => True) ho0 (fun _ _ => trivial); clear ho0; have hat := True.intro; rw [← Ny296.out] at ho; change Kd.R (Kd.int .u8) 5 w15 w.heap.size (fun _ => True) v297 y296 at ho; have n0_ := Aside0.mk (hb); have n1_ := Aside0.mk (ho); clear HB; clear HO295; have HB := n0_; have HO298 := n1_; clear n0_ n1_; clear ho hb hg hat))
                  go_roundg k1
                  case measure => have := HK1.out; omega
                  case rel => exact ⟨(y296), (wrap64 (x5_1 + 1)), (by first | rfl | (simp; done) | (simp only [ByteArray.size_extract]; rw [Nat.min_eq_left (by omega)]; done) | (simp [*]; done)), H', ⟨by have := HK1.out; omega⟩, ⟨by (with_reducible repeat (first | apply Kd.R_alloc | apply Kd.R_drewN | apply Kd.R_drew)); exact HO298.out⟩, ⟨by repeat (first | (with_reducible first | exact HB.out | apply below_alloc | apply pw_below_drewN | apply below_drew1) | exact HB.out)⟩⟩
                · rw [if_neg c11] at H
                  exact absurd H (by simp)
              · rw [if_neg c10] at H
                exact absurd H (by simp)
            · replace c8 := Bool.eq_false_iff.mpr c8
              subst c8
              have H1 : (some ((⟨#[]⟩ : ByteArray), 130)) = some (r1, r2) := by rw [if_neg (show ¬ (false = true) by decide)] at H; exact H
              clear H
              have H := H1
              clear H1
              simp only [Option.some.injEq, Prod.mk.injEq] at H
              obtain ⟨rfl, rfl⟩ := H
              have p288 : 0 ≤ (x5_1 : Int) := of_decide_eq_true (by first | (with_reducible assumption) | assumption)
              have q288 : x5_1 < (l0.length : Int) := of_decide_eq_true (by first | (with_reducible assumption) | assumption)
              obtain ⟨ad288, e288, hx288_0, hx288_1⟩ := at_T42 HR0.out x5_1 p288 q288
              cases e288
              replace hx288_0 := (HB.out.cell (World.block_lt_of_cell? w _ hx288_0)).trans hx288_0
              replace hx288_1 := (HB.out.cell (World.block_lt_of_cell? w _ hx288_1)).trans hx288_1
              replace p288 := eq_true p288
              replace q288 := eq_true q288
              go_wp2_with (first | ((with_reducible refine gate_callee (f := 42) rfl ?_); refine goesL_ (some 24) rfl rfl Try.func42 (by kernel_rfl) rfl #[.string ((rd_T42 l0 x5_1).f1)] rfl (by (try simp only [List.map_toArray, List.map_cons, List.map_nil]); first | done | rfl | (simp only [List.length_drop, List.length_take]; rfl)) ?_; (with_reducible refine (tenancyref04_Run.calls k1 ((rd_T42 l0 x5_1).f1) t289 false _ A7.out).mono ?_); rintro e w16 ⟨rfl, hb⟩; refine ⟨_, rfl, ?_⟩; have n0_ := Aside0.mk (Kd.R_below (by (with_reducible repeat (first | apply Kd.R_alloc | apply Kd.R_drewN | apply Kd.R_drew)); exact HO_4.out) hb); have n1_ := Aside0.mk (below_step (by repeat (first | (with_reducible first | exact HB.out | apply below_alloc | apply pw_below_drewN | apply below_drew1) | exact HB.out)) hb); clear HO_4; clear HB; have HO_4 := n0_; have HB := n1_; clear n0_ n1_; (try clear hb); (try clear hb2); (try clear hk); (try clear hi)))
              go_ret2
              exact ⟨by first | rfl | (simp [errW_none, errW_some] <;> rfl) | (simp [*, errW_none, errW_some] <;> rfl), by repeat (first | (with_reducible first | exact HB.out | apply below_alloc | apply pw_below_drewN | apply below_drew1) | exact HB.out)⟩
          · rw [if_neg c6] at H
            exact absurd H (by simp)
        · rw [if_neg c5] at H
          have c5b0 : decide (x5_1 < (l0.length : Int)) = false := decide_eq_false c5
          clear c5
          simp only [Option.some.injEq, Prod.mk.injEq] at H
          obtain ⟨rfl, rfl⟩ := H
          have hcv17 := own_string (P := Try.prog) Try.underlying56 Try.underlying5 Try.underlying9 (Kd.own_of_R HO_4.out)
          go_wp2
          go_ret2
          exact ⟨by first | rfl | (simp [errW_none, errW_some] <;> rfl) | (simp [*, errW_none, errW_some] <;> rfl), by repeat (first | (with_reducible first | exact HB.out | apply below_alloc | apply pw_below_drewN | apply below_drew1) | exact HB.out)⟩

/-! ### tenancyref04_Put64: function 44 -/
def tenancyref04_Put64.f (k : Nat) (a0 : Int) : Option (ByteArray) := (tenancyref04_put.f k a0 8).bind fun t299 => (some t299)
theorem tenancyref04_Put64.mono : ∀ a0 k, LeO (tenancyref04_Put64.f k a0) (tenancyref04_Put64.f (k + 1) a0) := by
  intro a0 k
  unfold tenancyref04_Put64.f
  repeat' first
      | (with_reducible exact tenancyref04_put.mono _ _ _)
      | (with_reducible exact LeO.refl _)
      | (with_reducible exact LeO.none _)
      | (with_reducible refine LeO.ite ?_ ?_)
      | (with_reducible refine LeO.bind ?_ (fun _ => ?_))
      | exact tenancyref04_put.mono _ _ _
      | exact LeO.none _
      | refine LeO.ite ?_ ?_
      | refine LeO.bind ?_ (fun _ => ?_)
set_option maxHeartbeats 8000000 in
set_option maxRecDepth 100000 in
theorem tenancyref04_Put64.calls (k : Nat) (a0 : Int) (r : ByteArray) (w : World) (h : tenancyref04_Put64.f k a0 = some r) :
    Calls Try.prog 44 #[.int .u64 a0] w fun e w' => e = .returned (.string r) ∧ Below w.heap.size w w' := by
  have HB := Aside0.mk (Below.refl w.heap.size w)
  have H : ((tenancyref04_put.f k a0 8).bind fun t299 => (some t299)) = some r := h
  clear h
  replace H := Option.bind_eq_some_iff.mp H
  obtain ⟨t299, A20, H⟩ := H
  replace H : (some t299) = some r := H
  have A2 := Aside0.mk A20
  clear A20
  obtain rfl := Option.some.inj H
  go_enter Try.func44, Try.ntmps44
  go_wp2_with (first | ((with_reducible refine gate_callee (f := 56) rfl ?_); refine goesL_ (some 4) rfl rfl Try.func56 (by kernel_rfl) rfl #[.int .u64 a0, .int .i64 8] rfl (by (try simp only [List.map_toArray, List.map_cons, List.map_nil]); first | done | rfl | (simp only [List.length_drop, List.length_take]; rfl)) ?_; (with_reducible refine (tenancyref04_put.calls k a0 8 t299 _ A2.out).mono ?_); rintro e w3 ⟨rfl, hb⟩; refine ⟨_, rfl, ?_⟩; have n0_ := Aside0.mk (below_step (by repeat (first | (with_reducible first | exact HB.out | apply below_alloc | apply pw_below_drewN | apply below_drew1) | exact HB.out)) hb); clear HB; have HB := n0_; clear n0_; (try clear hb); (try clear hb2); (try clear hk); (try clear hi)))
  go_ret
  exact ⟨by first | rfl | (simp [errW_none, errW_some] <;> rfl) | (simp [*, errW_none, errW_some] <;> rfl), by repeat (first | (with_reducible first | exact HB.out | apply below_alloc | apply pw_below_drewN | apply below_drew1) | exact HB.out)⟩

/-! ### tenancyref04_PutAddr: function 27 -/
def tenancyref04_PutAddr.f (k : Nat) (a0_0 : Int) (a0_1 : Int) : Option (ByteArray) := (tenancyref04_Put64.f k a0_0).bind fun t301 => ((tenancyref04_Put64.f k a0_1).bind fun t302 => (if t301.size + t302.size ≤ 9223372036854775807 then (some (t301 ++ t302)) else (none)))
theorem tenancyref04_PutAddr.mono : ∀ a0 a1 k, LeO (tenancyref04_PutAddr.f k a0 a1) (tenancyref04_PutAddr.f (k + 1) a0 a1) := by
  intro a0 a1 k
  unfold tenancyref04_PutAddr.f
  repeat' first
      | (with_reducible exact tenancyref04_Put64.mono _ _)
      | (with_reducible exact LeO.refl _)
      | (with_reducible exact LeO.none _)
      | (with_reducible refine LeO.ite ?_ ?_)
      | (with_reducible refine LeO.bind ?_ (fun _ => ?_))
      | exact tenancyref04_Put64.mono _ _
      | exact LeO.none _
      | refine LeO.ite ?_ ?_
      | refine LeO.bind ?_ (fun _ => ?_)
def tenancyref04_PutAddr.T1 : Bool × List (List Nat × List Nat) := (true, [([], []), ([0], [0]), ([1], [1]), ([], []), ([3], [3]), ([4, 2], [4]), ([2, 5], [2, 5]), ([6, 5, 0, 1, 2, 3, 4, 5, 6], [6])])
def tenancyref04_PutAddr.B1 : List Nat := [0, 1, 3, 0, 8, 31, 63, 127]
theorem tenancyref04_PutAddr.tab1 : rtab .any (opsOf Try.f27 1) = tenancyref04_PutAddr.T1 := by kernel_rfl
theorem tenancyref04_PutAddr.bits1 : waitsOk tenancyref04_PutAddr.T1.2 tenancyref04_PutAddr.B1 = true := by kernel_rfl
set_option maxHeartbeats 8000000 in
set_option maxRecDepth 100000 in
theorem tenancyref04_PutAddr.calls (k : Nat) (a0_0 : Int) (a0_1 : Int) (r : ByteArray) (w : World) (h : tenancyref04_PutAddr.f k a0_0 a0_1 = some r) :
    Calls Try.prog 27 #[.agg #[.int .u64 a0_0, .int .u64 a0_1]] w fun e w' => e = .returned (.string r) ∧ Below w.heap.size w w' := by
  have hu33 := Try.underlying33
  have HB := Aside0.mk (Below.refl w.heap.size w)
  have H : ((tenancyref04_Put64.f k a0_0).bind fun t301 => ((tenancyref04_Put64.f k a0_1).bind fun t302 => (if t301.size + t302.size ≤ 9223372036854775807 then (some (t301 ++ t302)) else (none)))) = some r := h
  clear h
  replace H := Option.bind_eq_some_iff.mp H
  obtain ⟨t301, A20, H⟩ := H
  replace H : ((tenancyref04_Put64.f k a0_1).bind fun t302 => (if t301.size + t302.size ≤ 9223372036854775807 then (some (t301 ++ t302)) else (none))) = some r := H
  have A2 := Aside0.mk A20
  clear A20
  replace H := Option.bind_eq_some_iff.mp H
  obtain ⟨t302, A30, H⟩ := H
  replace H : (if t301.size + t302.size ≤ 9223372036854775807 then (some (t301 ++ t302)) else (none)) = some r := H
  have A3 := Aside0.mk A30
  clear A30
  by_cases c4 : t301.size + t302.size ≤ 9223372036854775807
  · rw [if_pos c4] at H
    have c4b0 := eq_true c4
    have c4b1 : decide (t301.size + t302.size ≤ 9223372036854775807) = true := decide_eq_true c4
    try have c4b2 : (9223372036854775807 < t301.size + t302.size) = False := eq_false (Nat.not_lt.2 c4)
    obtain rfl := Option.some.inj H
    go_enter Try.func27, Try.ntmps27
    try go_wp2_with (first | ((with_reducible refine gate_dst (N := 1) rfl ?_); refine box_event ?hg (N := 1) ?hd (cs := #[.int .u64 a0_0, .int .u64 a0_1]) (t := 33) ?hr ?_; (case hd => rfl); (case hg => rfl); (case hr => first | (go_simp; done) | (go_simp; rfl)); intro gb300 hg w5 hbox hb; have n0_ := Aside0.mk (below_step (by repeat (first | (with_reducible first | exact HB.out | apply below_alloc | apply pw_below_drewN | apply below_drew1) | exact HB.out)) hb); have n1_ := Aside0.mk (hbox); have n2_ := Aside0.mk ((by rw [hg]; exact (below_size (by repeat (first | (with_reducible first | exact HB.out | apply below_alloc | apply pw_below_drewN | apply below_drew1) | exact HB.out))) : w.heap.size ≤ gb300)); have n3_ := Aside0.mk ((by rw [hg]; exact (below_size (by repeat (first | (with_reducible first | exact HB.out | apply below_alloc | apply pw_below_drewN | apply below_drew1) | exact HB.out))) : w.heap.size ≤ gb300)); clear HB; have HB := n0_; have BK300 := n1_; have GW300 := n2_; have GE300 := n3_; clear n0_ n1_ n2_ n3_; clear hb hbox hg))
    have n0_ := Aside0.mk (blk_drew BK300.out)
    have n1_ := Aside0.mk (below_drew1 HB.out)
    clear BK300
    clear HB
    have BK300 := n0_
    have HB := n1_
    clear n0_ n1_
    refine start_ (n := 8) (S := fun w' => w'.cell? ⟨gb300, 0, none⟩ = some (.int .u64 a0_0) ∧ w'.cell? ⟨gb300, 1, none⟩ = some (.int .u64 a0_1)) (ds := []) #[false, false, false, false, false, false, false, false] (by kernel_rfl) rfl rfl ⟨(blk_cell BK300.out 0).trans rfl, (blk_cell BK300.out 1).trans rfl⟩ (fun hHeld => ?_); refine with_tabW tenancyref04_PutAddr.tab1 tenancyref04_PutAddr.bits1 (fun HT_ HW_ => ?_)
    generalize w5.drew = w6 at BK300 HB hHeld ⊢
    refine pure_ (i := 0) (N := some 3) (v := ?_) (a' := ?_) #[true, false, false, false, false, false, false, false] rfl rfl (any_of HT_.out (by kernel_rfl)) (fun _ _ _ h => h) (Or.inl ⟨by rfl, ?_⟩) ?_ ?_
    rotate_left
    · intro w'
      go_simp
      with_reducible rfl
    rotate_left
    · simp only [Act.put, List.setIfInBounds_toArray, List.set_cons_zero, List.set_cons_succ, i64_w, i32_w]
      rfl
    refine pure_ (i := 3) (N := some 6) (v := ?_) (a' := ?_) #[true, false, false, true, false, false, false, false] rfl rfl (any_of HT_.out (by kernel_rfl)) (fun _ _ _ h => h) (Or.inl ⟨by rfl, ?_⟩) ?_ ?_
    rotate_left
    · intro w'
      go_simp
      with_reducible rfl
    rotate_left
    · simp only [Act.put, List.setIfInBounds_toArray, List.set_cons_zero, List.set_cons_succ, i64_w, i32_w]
      rfl
    refine take_ (i := 1) (N := some 4) (v := ?_) (a' := ?_) #[true, true, false, true, false, false, false, false] rfl rfl (take_ofW HT_.out HW_.out (by kernel_rfl)) (fun _ _ _ h => h) (Or.inl ⟨by rfl, ?_⟩) hHeld ?_ ?_
    rotate_left
    · rintro w' ⟨s0, s1⟩
      go_simp
      with_reducible rfl
    rotate_left
    · simp only [Act.put, List.setIfInBounds_toArray, List.set_cons_zero, List.set_cons_succ, i64_w, i32_w]
      rfl
    refine take_ (i := 4) (N := some 7) (v := ?_) (a' := ?_) #[true, true, false, true, true, false, false, false] rfl rfl (take_ofW HT_.out HW_.out (by kernel_rfl)) (fun _ _ _ h => h) (Or.inl ⟨by rfl, ?_⟩) hHeld ?_ ?_
    rotate_left
    · rintro w' ⟨s0, s1⟩
      go_simp
      with_reducible rfl
    rotate_left
    · simp only [Act.put, List.setIfInBounds_toArray, List.set_cons_zero, List.set_cons_succ, i64_w, i32_w]
      rfl
    refine one_ (i := 2) (N := some 5) #[true, true, true, true, true, false, false, false] rfl rfl (one_of HT_.out (by kernel_rfl)) (by decide) (fun K hK => ?_)
    refine goes_ Try.func44 (by kernel_rfl) rfl #[.int .u64 a0_0] (by rfl) rfl rfl (by (try simp only [List.map_toArray, List.map_cons, List.map_nil]); first | done | rfl | (simp only [List.length_drop, List.length_take]; rfl)) ?_
    with_reducible refine (tenancyref04_Put64.calls k a0_0 t301 _ A2.out).mono ?_
    rintro e w7 ⟨rfl, hb⟩
    refine ⟨_, rfl, ?_⟩
    have n0_ := Aside0.mk (blk_below (g := gb300) (o := .cells #[.int .u64 a0_0, .int .u64 a0_1] 33 (0, 0)) (by (with_reducible repeat (first | refine blk_drewN ?_ _ | refine blk_drew ?_ | refine blk_alloc ?_ _)); exact BK300.out) hb)
    have n1_ := Aside0.mk (below_step (by repeat (first | (with_reducible first | exact HB.out | apply below_alloc | apply pw_below_drewN | apply below_drew1 | refine below_set ?_ GE300.out) | exact HB.out)) hb)
    clear BK300
    clear HB
    have BK300 := n0_
    have HB := n1_
    clear n0_ n1_
    (try clear hb)
    (try clear hb2)
    (try clear hk)
    (try clear hi)
    refine hK.out _ _ ⟨(blk_cell BK300.out 0).trans rfl, (blk_cell BK300.out 1).trans rfl⟩ (fun hHeld => ?_)
    clear hK K
    refine norm_ (a' := ?_) ?_ ?_
    rotate_left
    · show Act.put _ (some 5) _ = _
      simp only [Act.put, List.setIfInBounds_toArray, List.set_cons_zero, List.set_cons_succ, i64_w, i32_w]
      rfl
    refine one_ (i := 5) (N := some 8) #[true, true, true, true, true, true, false, false] rfl rfl (one_of HT_.out (by kernel_rfl)) (by decide) (fun K hK => ?_)
    refine goes_ Try.func44 (by kernel_rfl) rfl #[.int .u64 a0_1] (by rfl) rfl rfl (by (try simp only [List.map_toArray, List.map_cons, List.map_nil]); first | done | rfl | (simp only [List.length_drop, List.length_take]; rfl)) ?_
    with_reducible refine (tenancyref04_Put64.calls k a0_1 t302 _ A3.out).mono ?_
    rintro e w8 ⟨rfl, hb⟩
    refine ⟨_, rfl, ?_⟩
    have n0_ := Aside0.mk (blk_below (g := gb300) (o := .cells #[.int .u64 a0_0, .int .u64 a0_1] 33 (0, 0)) (by (with_reducible repeat (first | refine blk_drewN ?_ _ | refine blk_drew ?_ | refine blk_alloc ?_ _)); exact BK300.out) hb)
    have n1_ := Aside0.mk (below_step (by repeat (first | (with_reducible first | exact HB.out | apply below_alloc | apply pw_below_drewN | apply below_drew1 | refine below_set ?_ GE300.out) | exact HB.out)) hb)
    clear BK300
    clear HB
    have BK300 := n0_
    have HB := n1_
    clear n0_ n1_
    (try clear hb)
    (try clear hb2)
    (try clear hk)
    (try clear hi)
    refine hK.out _ _ ⟨(blk_cell BK300.out 0).trans rfl, (blk_cell BK300.out 1).trans rfl⟩ (fun hHeld => ?_)
    clear hK K
    refine norm_ (a' := ?_) ?_ ?_
    rotate_left
    · show Act.put _ (some 8) _ = _
      simp only [Act.put, List.setIfInBounds_toArray, List.set_cons_zero, List.set_cons_succ, i64_w, i32_w]
      rfl
    refine pure_ (i := 6) (N := some 9) (v := ?_) (a' := ?_) #[true, true, true, true, true, true, true, false] rfl rfl (any_of HT_.out (by kernel_rfl)) (fun _ _ _ h => h) (Or.inl ⟨by rfl, ?_⟩) ?_ ?_
    rotate_left
    · intro w'
      go_simp
      with_reducible rfl
    rotate_left
    · simp only [Act.put, List.setIfInBounds_toArray, List.set_cons_zero, List.set_cons_succ, i64_w, i32_w]
      rfl
    refine pure_ (i := 7) (N := some 2) (v := ?_) (a' := ?_) #[true, true, true, true, true, true, true, true] rfl rfl (any_of HT_.out (by kernel_rfl)) (fun _ _ _ h => h) (Or.inl ⟨by rfl, ?_⟩) ?_ ?_
    rotate_left
    · intro w'
      go_simp
      with_reducible rfl
    rotate_left
    · simp only [Act.put, List.setIfInBounds_toArray, List.set_cons_zero, List.set_cons_succ, i64_w, i32_w]
      rfl
    refine done_ (done_of HT_.out (by kernel_rfl)) ?_
    try go_wp2
    go_ret
    exact ⟨by first | rfl | (simp [errW_none, errW_some] <;> rfl) | (simp [*, errW_none, errW_some] <;> rfl), by repeat (first | (with_reducible first | exact HB.out | apply below_alloc | apply pw_below_drewN | apply below_drew1 | refine below_set ?_ GE300.out) | exact HB.out)⟩
  · rw [if_neg c4] at H
    exact absurd H (by simp)

/-! ### tenancyref17_Wrap: function 14 -/
mutual
def tenancyref17_Wrap.j0 : Nat → Int → List (S39) → ByteArray → Bool → Option (ByteArray × Int)
  | 0, _, _, _, _ => none
  | k + 1, x0, x1, x2, x19 => if x19 = true then (some ((⟨#[]⟩ : ByteArray), 1)) else (if (x1.length : Int) > 32 then (some ((⟨#[]⟩ : ByteArray), 170)) else (tenancyref17_Wrap.l0 k x0 x1 x2 0))
def tenancyref17_Wrap.l0 : Nat → Int → List (S39) → ByteArray → Int → Option (ByteArray × Int)
  | 0, _, _, _, _ => none
  | k + 1, x0, x1, x2, x8 => if x8 < (x1.length : Int) then (if 0 ≤ x8 then (if ((rd_T39 x1 x8).f0) < 0 then (some ((⟨#[]⟩ : ByteArray), 171)) else (if ((rd_T39 x1 x8).f0) > 255 then (some ((⟨#[]⟩ : ByteArray), 171)) else (if ((rd_T39 x1 x8).f3).toList = ([] : List UInt8) then (tenancyref17_Wrap.l0 k x0 x1 x2 (wrap64 (x8 + 1))) else (if ((rd_T39 x1 x8).f4 = true) then (tenancyref17_Wrap.l0 k x0 x1 x2 (wrap64 (x8 + 1))) else (some ((⟨#[]⟩ : ByteArray), 171)))))) else (none)) else (tenancyref17_Wrap.l1 k x0 x1 x2 (wrap64 ((x1.length : Int) - 1)))
def tenancyref17_Wrap.l1 : Nat → Int → List (S39) → ByteArray → Int → Option (ByteArray × Int)
  | 0, _, _, _, _ => none
  | k + 1, x0, x1, x2, x9 => if x9 ≥ 0 then (if 0 ≤ x9 then (if x9 < (x1.length : Int) then ((some (([] : List (S42)) : List (S42))).bind fun y309 => (if (rd_T39 x1 x9).f4 = true then (if y309.length < 5864062014805 then (tenancyref17_Wrap.j3 k x0 x1 x2 x9 (y309 ++ [(⟨18, (rd_T39 x1 x9).f3⟩ : S42)]) ((rd_T39 x1 x9).f0) ((rd_T39 x1 x9).f1.f0) ((rd_T39 x1 x9).f1.f1) ((rd_T39 x1 x9).f2.f0) ((rd_T39 x1 x9).f2.f1) ((rd_T39 x1 x9).f3) ((rd_T39 x1 x9).f4)) else (none)) else (tenancyref17_Wrap.j3 k x0 x1 x2 x9 y309 ((rd_T39 x1 x9).f0) ((rd_T39 x1 x9).f1.f0) ((rd_T39 x1 x9).f1.f1) ((rd_T39 x1 x9).f2.f0) ((rd_T39 x1 x9).f2.f1) ((rd_T39 x1 x9).f3) ((rd_T39 x1 x9).f4)))) else (none)) else (none)) else (if (x2.size : Int) > 65507 then (some ((⟨#[]⟩ : ByteArray), 6)) else (some (x2, 0)))
def tenancyref17_Wrap.j3 : Nat → Int → List (S39) → ByteArray → Int → List (S42) → Int → Int → Int → Int → Int → ByteArray → Bool → Option (ByteArray × Int)
  | 0, _, _, _, _, _, _, _, _, _, _, _, _ => none
  | k + 1, x0, x1, x2, x9, x11, x309000, x309001, x309002, x309003, x309004, x309005, x309006 => if x11.length < 5864062014805 then ((tenancyref15_Emit.f k (x11 ++ [(⟨9, x2⟩ : S42)])).bind fun bt318 => (if bt318.2 = 0 then ((some (([(x0) % 256, (x309000) % 256] : List Int) : List Int)).bind fun y320 => ((tenancyref04_PutAddr.f k x309001 x309002).bind fun t323 => (if (strOfNums y320).size + t323.size ≤ 9223372036854775807 then ((tenancyref04_PutAddr.f k x309003 x309004).bind fun t324 => (if ((strOfNums y320) ++ t323).size + t324.size ≤ 9223372036854775807 then (if (((strOfNums y320) ++ t323) ++ t324).size + bt318.1.size ≤ 9223372036854775807 then (tenancyref17_Wrap.l1 k x0 x1 ((((strOfNums y320) ++ t323) ++ t324) ++ bt318.1) (wrap64 (x9 - 1))) else (none)) else (none))) else (none)))) else (some ((⟨#[]⟩ : ByteArray), 6)))) else (none)
end
def tenancyref17_Wrap.f (k : Nat) (a0 : Int) (l1 : List (S39)) (a2 : ByteArray) : Option (ByteArray × Int) := if a0 = 12 then (tenancyref17_Wrap.j0 k a0 l1 a2 false) else (tenancyref17_Wrap.j0 k a0 l1 a2 (a0 != 13))
theorem tenancyref17_Wrap.mono_l : ∀ k, (∀ y0 y1 y2 y3, LeO (tenancyref17_Wrap.j0 k y0 y1 y2 y3) (tenancyref17_Wrap.j0 (k + 1) y0 y1 y2 y3)) ∧ (∀ y0 y1 y2 y3, LeO (tenancyref17_Wrap.l0 k y0 y1 y2 y3) (tenancyref17_Wrap.l0 (k + 1) y0 y1 y2 y3)) ∧ (∀ y0 y1 y2 y3, LeO (tenancyref17_Wrap.l1 k y0 y1 y2 y3) (tenancyref17_Wrap.l1 (k + 1) y0 y1 y2 y3)) ∧ (∀ y0 y1 y2 y3 y4 y5 y6 y7 y8 y9 y10 y11, LeO (tenancyref17_Wrap.j3 k y0 y1 y2 y3 y4 y5 y6 y7 y8 y9 y10 y11) (tenancyref17_Wrap.j3 (k + 1) y0 y1 y2 y3 y4 y5 y6 y7 y8 y9 y10 y11))
  | 0 => ⟨fun _ _ _ _ r h => by simp [tenancyref17_Wrap.j0] at h, fun _ _ _ _ r h => by simp [tenancyref17_Wrap.l0] at h, fun _ _ _ _ r h => by simp [tenancyref17_Wrap.l1] at h, fun _ _ _ _ _ _ _ _ _ _ _ _ r h => by simp [tenancyref17_Wrap.j3] at h⟩
  | k + 1 => by
    obtain ⟨ih0, ih1, ih2, ih3⟩ := tenancyref17_Wrap.mono_l k
    refine ⟨?_, ?_, ?_, ?_⟩
    · intro y0 y1 y2 y3
      unfold tenancyref17_Wrap.j0
      repeat' first
      | (with_reducible exact ih0 _ _ _ _)
      | (with_reducible exact ih1 _ _ _ _)
      | (with_reducible exact ih2 _ _ _ _)
      | (with_reducible exact ih3 _ _ _ _ _ _ _ _ _ _ _ _)
      | (with_reducible exact tenancyref04_PutAddr.mono _ _ _)
      | (with_reducible exact tenancyref15_Emit.mono _ _)
      | (with_reducible exact LeO.refl _)
      | (with_reducible exact LeO.none _)
      | (with_reducible refine LeO.ite ?_ ?_)
      | (with_reducible refine LeO.bind ?_ (fun _ => ?_))
      | exact ih0 _ _ _ _
      | exact ih1 _ _ _ _
      | exact ih2 _ _ _ _
      | exact ih3 _ _ _ _ _ _ _ _ _ _ _ _
      | exact tenancyref04_PutAddr.mono _ _ _
      | exact tenancyref15_Emit.mono _ _
      | exact LeO.none _
      | refine LeO.ite ?_ ?_
      | refine LeO.bind ?_ (fun _ => ?_)
    · intro y0 y1 y2 y3
      unfold tenancyref17_Wrap.l0
      repeat' first
      | (with_reducible exact ih0 _ _ _ _)
      | (with_reducible exact ih1 _ _ _ _)
      | (with_reducible exact ih2 _ _ _ _)
      | (with_reducible exact ih3 _ _ _ _ _ _ _ _ _ _ _ _)
      | (with_reducible exact tenancyref04_PutAddr.mono _ _ _)
      | (with_reducible exact tenancyref15_Emit.mono _ _)
      | (with_reducible exact LeO.refl _)
      | (with_reducible exact LeO.none _)
      | (with_reducible refine LeO.ite ?_ ?_)
      | (with_reducible refine LeO.bind ?_ (fun _ => ?_))
      | exact ih0 _ _ _ _
      | exact ih1 _ _ _ _
      | exact ih2 _ _ _ _
      | exact ih3 _ _ _ _ _ _ _ _ _ _ _ _
      | exact tenancyref04_PutAddr.mono _ _ _
      | exact tenancyref15_Emit.mono _ _
      | exact LeO.none _
      | refine LeO.ite ?_ ?_
      | refine LeO.bind ?_ (fun _ => ?_)
    · intro y0 y1 y2 y3
      unfold tenancyref17_Wrap.l1
      repeat' first
      | (with_reducible exact ih0 _ _ _ _)
      | (with_reducible exact ih1 _ _ _ _)
      | (with_reducible exact ih2 _ _ _ _)
      | (with_reducible exact ih3 _ _ _ _ _ _ _ _ _ _ _ _)
      | (with_reducible exact tenancyref04_PutAddr.mono _ _ _)
      | (with_reducible exact tenancyref15_Emit.mono _ _)
      | (with_reducible exact LeO.refl _)
      | (with_reducible exact LeO.none _)
      | (with_reducible refine LeO.ite ?_ ?_)
      | (with_reducible refine LeO.bind ?_ (fun _ => ?_))
      | exact ih0 _ _ _ _
      | exact ih1 _ _ _ _
      | exact ih2 _ _ _ _
      | exact ih3 _ _ _ _ _ _ _ _ _ _ _ _
      | exact tenancyref04_PutAddr.mono _ _ _
      | exact tenancyref15_Emit.mono _ _
      | exact LeO.none _
      | refine LeO.ite ?_ ?_
      | refine LeO.bind ?_ (fun _ => ?_)
    · intro y0 y1 y2 y3 y4 y5 y6 y7 y8 y9 y10 y11
      unfold tenancyref17_Wrap.j3
      repeat' first
      | (with_reducible exact ih0 _ _ _ _)
      | (with_reducible exact ih1 _ _ _ _)
      | (with_reducible exact ih2 _ _ _ _)
      | (with_reducible exact ih3 _ _ _ _ _ _ _ _ _ _ _ _)
      | (with_reducible exact tenancyref04_PutAddr.mono _ _ _)
      | (with_reducible exact tenancyref15_Emit.mono _ _)
      | (with_reducible exact LeO.refl _)
      | (with_reducible exact LeO.none _)
      | (with_reducible refine LeO.ite ?_ ?_)
      | (with_reducible refine LeO.bind ?_ (fun _ => ?_))
      | exact ih0 _ _ _ _
      | exact ih1 _ _ _ _
      | exact ih2 _ _ _ _
      | exact ih3 _ _ _ _ _ _ _ _ _ _ _ _
      | exact tenancyref04_PutAddr.mono _ _ _
      | exact tenancyref15_Emit.mono _ _
      | exact LeO.none _
      | refine LeO.ite ?_ ?_
      | refine LeO.bind ?_ (fun _ => ?_)
theorem tenancyref17_Wrap.mono : ∀ a0 a1 a2 k, LeO (tenancyref17_Wrap.f k a0 a1 a2) (tenancyref17_Wrap.f (k + 1) a0 a1 a2) := by
  intro a0 a1 a2 k
  obtain ⟨ih0, ih1, ih2, ih3⟩ := tenancyref17_Wrap.mono_l k
  unfold tenancyref17_Wrap.f
  repeat' first
      | (with_reducible exact ih0 _ _ _ _)
      | (with_reducible exact ih1 _ _ _ _)
      | (with_reducible exact ih2 _ _ _ _)
      | (with_reducible exact ih3 _ _ _ _ _ _ _ _ _ _ _ _)
      | (with_reducible exact tenancyref04_PutAddr.mono _ _ _)
      | (with_reducible exact tenancyref15_Emit.mono _ _)
      | (with_reducible exact LeO.refl _)
      | (with_reducible exact LeO.none _)
      | (with_reducible refine LeO.ite ?_ ?_)
      | (with_reducible refine LeO.bind ?_ (fun _ => ?_))
      | exact ih0 _ _ _ _
      | exact ih1 _ _ _ _
      | exact ih2 _ _ _ _
      | exact ih3 _ _ _ _ _ _ _ _ _ _ _ _
      | exact tenancyref04_PutAddr.mono _ _ _
      | exact tenancyref15_Emit.mono _ _
      | exact LeO.none _
      | refine LeO.ite ?_ ?_
      | refine LeO.bind ?_ (fun _ => ?_)
def tenancyref17_Wrap.T21 : Bool × List (List Nat × List Nat) := (true, [([], []), ([0], [0]), ([], []), ([2], [2]), ([3], [3]), ([1, 4], [1, 4]), ([5], [5]), ([], []), ([7], [7]), ([8], [8]), ([6, 9], [6, 9]), ([], []), ([11], [11]), ([12, 9], [12]), ([10, 13], [10, 13]), ([], []), ([14, 15], [14, 15]), ([16, 13, 0, 1, 2, 3, 4, 5, 6, 7, 8, 9, 10, 11, 12, 13, 14, 15, 16], [16])])
def tenancyref17_Wrap.B21 : List Nat := [0, 1, 0, 4, 12, 31, 63, 0, 128, 384, 1023, 0, 2048, 7040, 16383, 0, 65535, 131071]
theorem tenancyref17_Wrap.tab21 : rtab .any (opsOf Try.f14 21) = tenancyref17_Wrap.T21 := by kernel_rfl
theorem tenancyref17_Wrap.bits21 : waitsOk tenancyref17_Wrap.T21.2 tenancyref17_Wrap.B21 = true := by kernel_rfl
set_option maxHeartbeats 8000000 in
set_option maxRecDepth 100000 in
theorem tenancyref17_Wrap.calls (k : Nat) (a0 : Int) (A1 : Option Addr) (c1 : Nat) (l1 : List (S39)) (a2 : ByteArray) (r1 : ByteArray) (r2 : Int) (w : World) (hr1 : Kd.C k39 w A1 l1.length l1) (hc1 : l1.length ≤ c1) (h : tenancyref17_Wrap.f k a0 l1 a2 = some (r1, r2)) :
    Calls Try.prog 14 #[.int .i64 a0, .slice A1 l1.length c1, .string a2] w fun e w' => e = .returned (.tuple #[.string r1, .int .i64 r2]) ∧ Below w.heap.size w w' := by
  have hu39 := Try.underlying39
  have hu42 := Try.underlying42
  have hu33 := Try.underlying33
  have HR1 := Aside0.mk hr1
  have HC1 := Aside0.mk hc1
  clear hr1 hc1
  have HB := Aside0.mk (Below.refl w.heap.size w)
  have H : (if a0 = 12 then (tenancyref17_Wrap.j0 k a0 l1 a2 false) else (tenancyref17_Wrap.j0 k a0 l1 a2 (a0 != 13))) = some (r1, r2) := h
  clear h
  have HC4 := Aside0.mk H
  clear H
  go_enter Try.func14, Try.ntmps14
  go_upto_region 1 with (fail)
  go_cut [19] (fun v19 wc => ∃ (kq : Nat) (x19_3 : Bool), v19 = .bool x19_3 ∧ Aside0 (tenancyref17_Wrap.j0 kq a0 l1 a2 x19_3 = some (r1, r2)) ∧ Aside0 (kq ≤ k) ∧ Aside0 (Below w.heap.size w wc))
  case first =>
    have H := HC4.out
    clear HC4
    by_cases c5 : a0 = 12
    · rw [if_pos c5] at H
      have c5b0 : (a0 == 12) = true := beq_iff_eq.mpr c5
      have c5b1 : (a0 != 12) = false := bne_eq_false_iff_eq.mpr c5
      clear c5
      (first | rw [c5b0] | (simp only [i64_w, i32_w]; rw [c5b0]) | skip)
      have H' := Aside0.mk H
      clear H
      go_wp2
      go_meet
      case rel => exact ⟨_, (false), (by first | rfl | (simp; done) | (simp only [ByteArray.size_extract]; rw [Nat.min_eq_left (by omega)]; done) | (simp [*]; done)), H', ⟨by first | omega | exact Nat.le_refl _⟩, ⟨by repeat (first | (with_reducible first | exact HB.out | apply below_alloc | apply pw_below_drewN | apply below_drew1) | exact HB.out)⟩⟩
    · rw [if_neg c5] at H
      have c5b0 : (a0 == 12) = false := beq_eq_false_iff_ne.mpr c5
      have c5b1 : (a0 != 12) = true := bne_iff_ne.mpr c5
      (first | rw [c5b0] | (simp only [i64_w, i32_w]; rw [c5b0]) | skip)
      have H' := Aside0.mk H
      clear H
      go_wp2
      go_meet
      case rel => exact ⟨_, ((a0 != 13)), (by first | rfl | (simp; done) | (simp only [ByteArray.size_extract]; rw [Nat.min_eq_left (by omega)]; done) | (simp [*]; done)), H', ⟨by first | omega | exact Nat.le_refl _⟩, ⟨by repeat (first | (with_reducible first | exact HB.out | apply below_alloc | apply pw_below_drewN | apply below_drew1) | exact HB.out)⟩⟩
  case rest =>
    clear HC4
    try clear c1
    try clear p2
    try clear c5
    try clear c5b0
    try clear c5b1
    obtain ⟨kq, x19_3, rfl, HA, HJ3, HB⟩ := hcut
    cases kq with
    | zero => exact absurd HA.out (by simp [tenancyref17_Wrap.j0])
    | succ kj3 =>
      have H := HA.out
      clear HA
      simp only [tenancyref17_Wrap.j0] at H
      by_cases c6 : x19_3 = true
      · subst c6
        have H1 : (some ((⟨#[]⟩ : ByteArray), 1)) = some (r1, r2) := by rw [if_pos rfl] at H; exact H
        clear H
        have H := H1
        clear H1
        simp only [Option.some.injEq, Prod.mk.injEq] at H
        obtain ⟨rfl, rfl⟩ := H
        go_wp2
        go_ret2
        exact ⟨by first | rfl | (simp [errW_none, errW_some] <;> rfl) | (simp [*, errW_none, errW_some] <;> rfl), by repeat (first | (with_reducible first | exact HB.out | apply below_alloc | apply pw_below_drewN | apply below_drew1) | exact HB.out)⟩
      · replace c6 := Bool.eq_false_iff.mpr c6
        subst c6
        have H1 : (if (l1.length : Int) > 32 then (some ((⟨#[]⟩ : ByteArray), 170)) else (tenancyref17_Wrap.l0 kj3 a0 l1 a2 0)) = some (r1, r2) := by rw [if_neg (show ¬ (false = true) by decide)] at H; exact H
        clear H
        have H := H1
        clear H1
        by_cases c7 : (l1.length : Int) > 32
        · rw [if_pos c7] at H
          have c7b0 : decide (32 < (l1.length : Int)) = true := decide_eq_true c7
          have c7b1 : decide (32 < l1.length) = true := decide_eq_true (by omega)
          clear c7
          simp only [Option.some.injEq, Prod.mk.injEq] at H
          obtain ⟨rfl, rfl⟩ := H
          go_wp2
          go_ret2
          exact ⟨by first | rfl | (simp [errW_none, errW_some] <;> rfl) | (simp [*, errW_none, errW_some] <;> rfl), by repeat (first | (with_reducible first | exact HB.out | apply below_alloc | apply pw_below_drewN | apply below_drew1) | exact HB.out)⟩
        · rw [if_neg c7] at H
          have c7b0 : decide (32 < (l1.length : Int)) = false := decide_eq_false c7
          have c7b1 : decide (32 < l1.length) = false := decide_eq_false (by omega)
          clear c7
          have H' := Aside0.mk H
          clear H
          go_wp2
          go_loopg [8] kj3 (fun kq v8 w' => ∃ (x8_2 : Int), v8 = .int .i64 x8_2 ∧ Aside0 (tenancyref17_Wrap.l0 kq a0 l1 a2 x8_2 = some (r1, r2)) ∧ Aside0 (kq ≤ kj3) ∧ Aside0 (Below w.heap.size w w'))
          case atStart => exact ⟨(0), (by first | rfl | (simp; done) | (simp only [ByteArray.size_extract]; rw [Nat.min_eq_left (by omega)]; done) | (simp [*]; done)), H', ⟨Nat.le_refl _⟩, ⟨by repeat (first | (with_reducible first | exact HB.out | apply below_alloc | apply pw_below_drewN | apply below_drew1) | exact HB.out)⟩⟩
          case round =>
            clear H'
            try clear c1
            try clear p2
            try clear c5
            try clear c5b0
            try clear c5b1
            try clear c6
            try clear c7
            try clear c7b0
            try clear c7b1
            try clear p2
            obtain ⟨x8_2, rfl, HA, HK2, HB⟩ := hrel
            cases gk with
            | zero => exact absurd HA.out (by simp [tenancyref17_Wrap.l0])
            | succ k2 =>
              have H := HA.out
              clear HA
              simp only [tenancyref17_Wrap.l0] at H
              by_cases c8 : x8_2 < (l1.length : Int)
              · rw [if_pos c8] at H
                have c8b0 : decide (x8_2 < (l1.length : Int)) = true := decide_eq_true c8
                clear c8
                by_cases c9 : 0 ≤ x8_2
                · rw [if_pos c9] at H
                  have c9b0 : decide (0 ≤ x8_2) = true := decide_eq_true c9
                  clear c9
                  by_cases c10 : ((rd_T39 l1 x8_2).f0) < 0
                  · rw [if_pos c10] at H
                    have c10b0 : decide (((rd_T39 l1 x8_2).f0) < 0) = true := decide_eq_true c10
                    clear c10
                    simp only [Option.some.injEq, Prod.mk.injEq] at H
                    obtain ⟨rfl, rfl⟩ := H
                    have p303 : 0 ≤ (x8_2 : Int) := of_decide_eq_true (by first | (with_reducible assumption) | assumption)
                    have q303 : x8_2 < (l1.length : Int) := of_decide_eq_true (by first | (with_reducible assumption) | assumption)
                    obtain ⟨ad303, e303, hx303_0, hx303_1, hx303_2, hx303_3, hx303_4, hx303_5, hx303_6⟩ := at_T39 HR1.out x8_2 p303 q303
                    cases e303
                    replace hx303_0 := (HB.out.cell (World.block_lt_of_cell? w _ hx303_0)).trans hx303_0
                    replace hx303_1 := (HB.out.cell (World.block_lt_of_cell? w _ hx303_1)).trans hx303_1
                    replace hx303_2 := (HB.out.cell (World.block_lt_of_cell? w _ hx303_2)).trans hx303_2
                    replace hx303_3 := (HB.out.cell (World.block_lt_of_cell? w _ hx303_3)).trans hx303_3
                    replace hx303_4 := (HB.out.cell (World.block_lt_of_cell? w _ hx303_4)).trans hx303_4
                    replace hx303_5 := (HB.out.cell (World.block_lt_of_cell? w _ hx303_5)).trans hx303_5
                    replace hx303_6 := (HB.out.cell (World.block_lt_of_cell? w _ hx303_6)).trans hx303_6
                    replace p303 := eq_true p303
                    replace q303 := eq_true q303
                    go_wp2
                    go_ret2
                    exact ⟨by first | rfl | (simp [errW_none, errW_some] <;> rfl) | (simp [*, errW_none, errW_some] <;> rfl), by repeat (first | (with_reducible first | exact HB.out | apply below_alloc | apply pw_below_drewN | apply below_drew1) | exact HB.out)⟩
                  · rw [if_neg c10] at H
                    have c10b0 : decide (((rd_T39 l1 x8_2).f0) < 0) = false := decide_eq_false c10
                    clear c10
                    by_cases c11 : ((rd_T39 l1 x8_2).f0) > 255
                    · rw [if_pos c11] at H
                      have c11b0 : decide (255 < ((rd_T39 l1 x8_2).f0)) = true := decide_eq_true c11
                      clear c11
                      simp only [Option.some.injEq, Prod.mk.injEq] at H
                      obtain ⟨rfl, rfl⟩ := H
                      have p303 : 0 ≤ (x8_2 : Int) := of_decide_eq_true (by first | (with_reducible assumption) | assumption)
                      have q303 : x8_2 < (l1.length : Int) := of_decide_eq_true (by first | (with_reducible assumption) | assumption)
                      obtain ⟨ad303, e303, hx303_0, hx303_1, hx303_2, hx303_3, hx303_4, hx303_5, hx303_6⟩ := at_T39 HR1.out x8_2 p303 q303
                      cases e303
                      replace hx303_0 := (HB.out.cell (World.block_lt_of_cell? w _ hx303_0)).trans hx303_0
                      replace hx303_1 := (HB.out.cell (World.block_lt_of_cell? w _ hx303_1)).trans hx303_1
                      replace hx303_2 := (HB.out.cell (World.block_lt_of_cell? w _ hx303_2)).trans hx303_2
                      replace hx303_3 := (HB.out.cell (World.block_lt_of_cell? w _ hx303_3)).trans hx303_3
                      replace hx303_4 := (HB.out.cell (World.block_lt_of_cell? w _ hx303_4)).trans hx303_4
                      replace hx303_5 := (HB.out.cell (World.block_lt_of_cell? w _ hx303_5)).trans hx303_5
                      replace hx303_6 := (HB.out.cell (World.block_lt_of_cell? w _ hx303_6)).trans hx303_6
                      replace p303 := eq_true p303
                      replace q303 := eq_true q303
                      have p304 : 0 ≤ (x8_2 : Int) := of_decide_eq_true (by first | (with_reducible assumption) | assumption)
                      have q304 : x8_2 < (l1.length : Int) := of_decide_eq_true (by first | (with_reducible assumption) | assumption)
                      obtain ⟨ad304, e304, hx304_0, hx304_1, hx304_2, hx304_3, hx304_4, hx304_5, hx304_6⟩ := at_T39 HR1.out x8_2 p304 q304
                      obtain rfl : ad303 = ad304 := (by injection e304)
                      replace hx304_0 := (HB.out.cell (World.block_lt_of_cell? w _ hx304_0)).trans hx304_0
                      replace hx304_1 := (HB.out.cell (World.block_lt_of_cell? w _ hx304_1)).trans hx304_1
                      replace hx304_2 := (HB.out.cell (World.block_lt_of_cell? w _ hx304_2)).trans hx304_2
                      replace hx304_3 := (HB.out.cell (World.block_lt_of_cell? w _ hx304_3)).trans hx304_3
                      replace hx304_4 := (HB.out.cell (World.block_lt_of_cell? w _ hx304_4)).trans hx304_4
                      replace hx304_5 := (HB.out.cell (World.block_lt_of_cell? w _ hx304_5)).trans hx304_5
                      replace hx304_6 := (HB.out.cell (World.block_lt_of_cell? w _ hx304_6)).trans hx304_6
                      replace p304 := eq_true p304
                      replace q304 := eq_true q304
                      go_wp2
                      go_ret2
                      exact ⟨by first | rfl | (simp [errW_none, errW_some] <;> rfl) | (simp [*, errW_none, errW_some] <;> rfl), by repeat (first | (with_reducible first | exact HB.out | apply below_alloc | apply pw_below_drewN | apply below_drew1) | exact HB.out)⟩
                    · rw [if_neg c11] at H
                      have c11b0 : decide (255 < ((rd_T39 l1 x8_2).f0)) = false := decide_eq_false c11
                      clear c11
                      by_cases c12 : ((rd_T39 l1 x8_2).f3).toList = ([] : List UInt8)
                      · rw [if_pos c12] at H
                        have c12b0 : (((rd_T39 l1 x8_2).f3).toList == ([] : List UInt8)) = true := beq_iff_eq.mpr c12
                        have c12b1 : (((rd_T39 l1 x8_2).f3).toList != ([] : List UInt8)) = false := bne_eq_false_iff_eq.mpr c12
                        clear c12
                        have H' := Aside0.mk H
                        clear H
                        have p303 : 0 ≤ (x8_2 : Int) := of_decide_eq_true (by first | (with_reducible assumption) | assumption)
                        have q303 : x8_2 < (l1.length : Int) := of_decide_eq_true (by first | (with_reducible assumption) | assumption)
                        obtain ⟨ad303, e303, hx303_0, hx303_1, hx303_2, hx303_3, hx303_4, hx303_5, hx303_6⟩ := at_T39 HR1.out x8_2 p303 q303
                        cases e303
                        replace hx303_0 := (HB.out.cell (World.block_lt_of_cell? w _ hx303_0)).trans hx303_0
                        replace hx303_1 := (HB.out.cell (World.block_lt_of_cell? w _ hx303_1)).trans hx303_1
                        replace hx303_2 := (HB.out.cell (World.block_lt_of_cell? w _ hx303_2)).trans hx303_2
                        replace hx303_3 := (HB.out.cell (World.block_lt_of_cell? w _ hx303_3)).trans hx303_3
                        replace hx303_4 := (HB.out.cell (World.block_lt_of_cell? w _ hx303_4)).trans hx303_4
                        replace hx303_5 := (HB.out.cell (World.block_lt_of_cell? w _ hx303_5)).trans hx303_5
                        replace hx303_6 := (HB.out.cell (World.block_lt_of_cell? w _ hx303_6)).trans hx303_6
                        replace p303 := eq_true p303
                        replace q303 := eq_true q303
                        have p304 : 0 ≤ (x8_2 : Int) := of_decide_eq_true (by first | (with_reducible assumption) | assumption)
                        have q304 : x8_2 < (l1.length : Int) := of_decide_eq_true (by first | (with_reducible assumption) | assumption)
                        obtain ⟨ad304, e304, hx304_0, hx304_1, hx304_2, hx304_3, hx304_4, hx304_5, hx304_6⟩ := at_T39 HR1.out x8_2 p304 q304
                        obtain rfl : ad303 = ad304 := (by injection e304)
                        replace hx304_0 := (HB.out.cell (World.block_lt_of_cell? w _ hx304_0)).trans hx304_0
                        replace hx304_1 := (HB.out.cell (World.block_lt_of_cell? w _ hx304_1)).trans hx304_1
                        replace hx304_2 := (HB.out.cell (World.block_lt_of_cell? w _ hx304_2)).trans hx304_2
                        replace hx304_3 := (HB.out.cell (World.block_lt_of_cell? w _ hx304_3)).trans hx304_3
                        replace hx304_4 := (HB.out.cell (World.block_lt_of_cell? w _ hx304_4)).trans hx304_4
                        replace hx304_5 := (HB.out.cell (World.block_lt_of_cell? w _ hx304_5)).trans hx304_5
                        replace hx304_6 := (HB.out.cell (World.block_lt_of_cell? w _ hx304_6)).trans hx304_6
                        replace p304 := eq_true p304
                        replace q304 := eq_true q304
                        have p305 : 0 ≤ (x8_2 : Int) := of_decide_eq_true (by first | (with_reducible assumption) | assumption)
                        have q305 : x8_2 < (l1.length : Int) := of_decide_eq_true (by first | (with_reducible assumption) | assumption)
                        obtain ⟨ad305, e305, hx305_0, hx305_1, hx305_2, hx305_3, hx305_4, hx305_5, hx305_6⟩ := at_T39 HR1.out x8_2 p305 q305
                        obtain rfl : ad303 = ad305 := (by injection e305)
                        replace hx305_0 := (HB.out.cell (World.block_lt_of_cell? w _ hx305_0)).trans hx305_0
                        replace hx305_1 := (HB.out.cell (World.block_lt_of_cell? w _ hx305_1)).trans hx305_1
                        replace hx305_2 := (HB.out.cell (World.block_lt_of_cell? w _ hx305_2)).trans hx305_2
                        replace hx305_3 := (HB.out.cell (World.block_lt_of_cell? w _ hx305_3)).trans hx305_3
                        replace hx305_4 := (HB.out.cell (World.block_lt_of_cell? w _ hx305_4)).trans hx305_4
                        replace hx305_5 := (HB.out.cell (World.block_lt_of_cell? w _ hx305_5)).trans hx305_5
                        replace hx305_6 := (HB.out.cell (World.block_lt_of_cell? w _ hx305_6)).trans hx305_6
                        replace p305 := eq_true p305
                        replace q305 := eq_true q305
                        go_wp2
                        go_roundg k2
                        case measure => have := HJ3.out; have := HK2.out; omega
                        case rel => exact ⟨(wrap64 (x8_2 + 1)), (by first | rfl | (simp; done) | (simp only [ByteArray.size_extract]; rw [Nat.min_eq_left (by omega)]; done) | (simp [*]; done)), H', ⟨by have := HJ3.out; have := HK2.out; omega⟩, ⟨by repeat (first | (with_reducible first | exact HB.out | apply below_alloc | apply pw_below_drewN | apply below_drew1) | exact HB.out)⟩⟩
                      · rw [if_neg c12] at H
                        have c12b0 : (((rd_T39 l1 x8_2).f3).toList == ([] : List UInt8)) = false := beq_eq_false_iff_ne.mpr c12
                        have c12b1 : (((rd_T39 l1 x8_2).f3).toList != ([] : List UInt8)) = true := bne_iff_ne.mpr c12
                        obtain ⟨bq13, hbq13⟩ : ∃ b_ : Bool, b_ = ((rd_T39 l1 x8_2).f4) := ⟨_, rfl⟩
                        replace H : (if (bq13 = true) then (tenancyref17_Wrap.l0 k2 a0 l1 a2 (wrap64 (x8_2 + 1))) else (some ((⟨#[]⟩ : ByteArray), 171))) = some (r1, r2) := by rw [← hbq13] at H; exact H
                        have Nbq13 := Aside0.mk hbq13
                        clear hbq13
                        by_cases c14 : (bq13 = true)
                        · subst c14
                          have H1 : (tenancyref17_Wrap.l0 k2 a0 l1 a2 (wrap64 (x8_2 + 1))) = some (r1, r2) := by rw [if_pos rfl] at H; exact H
                          clear H
                          have H := H1
                          clear H1
                          have H' := Aside0.mk H
                          clear H
                          (try rw [Nbq13.out] at H')
                          have p303 : 0 ≤ (x8_2 : Int) := of_decide_eq_true (by first | (with_reducible assumption) | assumption)
                          have q303 : x8_2 < (l1.length : Int) := of_decide_eq_true (by first | (with_reducible assumption) | assumption)
                          obtain ⟨ad303, e303, hx303_0, hx303_1, hx303_2, hx303_3, hx303_4, hx303_5, hx303_6⟩ := at_T39 HR1.out x8_2 p303 q303
                          (try rw [← Nbq13.out] at hx303_6)
                          cases e303
                          replace hx303_0 := (HB.out.cell (World.block_lt_of_cell? w _ hx303_0)).trans hx303_0
                          replace hx303_1 := (HB.out.cell (World.block_lt_of_cell? w _ hx303_1)).trans hx303_1
                          replace hx303_2 := (HB.out.cell (World.block_lt_of_cell? w _ hx303_2)).trans hx303_2
                          replace hx303_3 := (HB.out.cell (World.block_lt_of_cell? w _ hx303_3)).trans hx303_3
                          replace hx303_4 := (HB.out.cell (World.block_lt_of_cell? w _ hx303_4)).trans hx303_4
                          replace hx303_5 := (HB.out.cell (World.block_lt_of_cell? w _ hx303_5)).trans hx303_5
                          replace hx303_6 := (HB.out.cell (World.block_lt_of_cell? w _ hx303_6)).trans hx303_6
                          replace p303 := eq_true p303
                          replace q303 := eq_true q303
                          have p304 : 0 ≤ (x8_2 : Int) := of_decide_eq_true (by first | (with_reducible assumption) | assumption)
                          have q304 : x8_2 < (l1.length : Int) := of_decide_eq_true (by first | (with_reducible assumption) | assumption)
                          obtain ⟨ad304, e304, hx304_0, hx304_1, hx304_2, hx304_3, hx304_4, hx304_5, hx304_6⟩ := at_T39 HR1.out x8_2 p304 q304
                          (try rw [← Nbq13.out] at hx304_6)
                          obtain rfl : ad303 = ad304 := (by injection e304)
                          replace hx304_0 := (HB.out.cell (World.block_lt_of_cell? w _ hx304_0)).trans hx304_0
                          replace hx304_1 := (HB.out.cell (World.block_lt_of_cell? w _ hx304_1)).trans hx304_1
                          replace hx304_2 := (HB.out.cell (World.block_lt_of_cell? w _ hx304_2)).trans hx304_2
                          replace hx304_3 := (HB.out.cell (World.block_lt_of_cell? w _ hx304_3)).trans hx304_3
                          replace hx304_4 := (HB.out.cell (World.block_lt_of_cell? w _ hx304_4)).trans hx304_4
                          replace hx304_5 := (HB.out.cell (World.block_lt_of_cell? w _ hx304_5)).trans hx304_5
                          replace hx304_6 := (HB.out.cell (World.block_lt_of_cell? w _ hx304_6)).trans hx304_6
                          replace p304 := eq_true p304
                          replace q304 := eq_true q304
                          have p305 : 0 ≤ (x8_2 : Int) := of_decide_eq_true (by first | (with_reducible assumption) | assumption)
                          have q305 : x8_2 < (l1.length : Int) := of_decide_eq_true (by first | (with_reducible assumption) | assumption)
                          obtain ⟨ad305, e305, hx305_0, hx305_1, hx305_2, hx305_3, hx305_4, hx305_5, hx305_6⟩ := at_T39 HR1.out x8_2 p305 q305
                          (try rw [← Nbq13.out] at hx305_6)
                          obtain rfl : ad303 = ad305 := (by injection e305)
                          replace hx305_0 := (HB.out.cell (World.block_lt_of_cell? w _ hx305_0)).trans hx305_0
                          replace hx305_1 := (HB.out.cell (World.block_lt_of_cell? w _ hx305_1)).trans hx305_1
                          replace hx305_2 := (HB.out.cell (World.block_lt_of_cell? w _ hx305_2)).trans hx305_2
                          replace hx305_3 := (HB.out.cell (World.block_lt_of_cell? w _ hx305_3)).trans hx305_3
                          replace hx305_4 := (HB.out.cell (World.block_lt_of_cell? w _ hx305_4)).trans hx305_4
                          replace hx305_5 := (HB.out.cell (World.block_lt_of_cell? w _ hx305_5)).trans hx305_5
                          replace hx305_6 := (HB.out.cell (World.block_lt_of_cell? w _ hx305_6)).trans hx305_6
                          replace p305 := eq_true p305
                          replace q305 := eq_true q305
                          have p306 : 0 ≤ (x8_2 : Int) := of_decide_eq_true (by first | (with_reducible assumption) | assumption)
                          have q306 : x8_2 < (l1.length : Int) := of_decide_eq_true (by first | (with_reducible assumption) | assumption)
                          obtain ⟨ad306, e306, hx306_0, hx306_1, hx306_2, hx306_3, hx306_4, hx306_5, hx306_6⟩ := at_T39 HR1.out x8_2 p306 q306
                          (try rw [← Nbq13.out] at hx306_6)
                          obtain rfl : ad303 = ad306 := (by injection e306)
                          replace hx306_0 := (HB.out.cell (World.block_lt_of_cell? w _ hx306_0)).trans hx306_0
                          replace hx306_1 := (HB.out.cell (World.block_lt_of_cell? w _ hx306_1)).trans hx306_1
                          replace hx306_2 := (HB.out.cell (World.block_lt_of_cell? w _ hx306_2)).trans hx306_2
                          replace hx306_3 := (HB.out.cell (World.block_lt_of_cell? w _ hx306_3)).trans hx306_3
                          replace hx306_4 := (HB.out.cell (World.block_lt_of_cell? w _ hx306_4)).trans hx306_4
                          replace hx306_5 := (HB.out.cell (World.block_lt_of_cell? w _ hx306_5)).trans hx306_5
                          replace hx306_6 := (HB.out.cell (World.block_lt_of_cell? w _ hx306_6)).trans hx306_6
                          replace p306 := eq_true p306
                          replace q306 := eq_true q306
                          go_wp2
                          go_roundg k2
                          case measure => have := HJ3.out; have := HK2.out; omega
                          case rel => exact ⟨(wrap64 (x8_2 + 1)), (by first | rfl | (simp; done) | (simp only [ByteArray.size_extract]; rw [Nat.min_eq_left (by omega)]; done) | (simp [*]; done)), H', ⟨by have := HJ3.out; have := HK2.out; omega⟩, ⟨by repeat (first | (with_reducible first | exact HB.out | apply below_alloc | apply pw_below_drewN | apply below_drew1) | exact HB.out)⟩⟩
                        · replace c14 := Bool.eq_false_iff.mpr c14
                          subst c14
                          have H1 : (some ((⟨#[]⟩ : ByteArray), 171)) = some (r1, r2) := by rw [if_neg (show ¬ (false = true) by decide)] at H; exact H
                          clear H
                          have H := H1
                          clear H1
                          simp only [Option.some.injEq, Prod.mk.injEq] at H
                          obtain ⟨rfl, rfl⟩ := H
                          have p303 : 0 ≤ (x8_2 : Int) := of_decide_eq_true (by first | (with_reducible assumption) | assumption)
                          have q303 : x8_2 < (l1.length : Int) := of_decide_eq_true (by first | (with_reducible assumption) | assumption)
                          obtain ⟨ad303, e303, hx303_0, hx303_1, hx303_2, hx303_3, hx303_4, hx303_5, hx303_6⟩ := at_T39 HR1.out x8_2 p303 q303
                          (try rw [← Nbq13.out] at hx303_6)
                          cases e303
                          replace hx303_0 := (HB.out.cell (World.block_lt_of_cell? w _ hx303_0)).trans hx303_0
                          replace hx303_1 := (HB.out.cell (World.block_lt_of_cell? w _ hx303_1)).trans hx303_1
                          replace hx303_2 := (HB.out.cell (World.block_lt_of_cell? w _ hx303_2)).trans hx303_2
                          replace hx303_3 := (HB.out.cell (World.block_lt_of_cell? w _ hx303_3)).trans hx303_3
                          replace hx303_4 := (HB.out.cell (World.block_lt_of_cell? w _ hx303_4)).trans hx303_4
                          replace hx303_5 := (HB.out.cell (World.block_lt_of_cell? w _ hx303_5)).trans hx303_5
                          replace hx303_6 := (HB.out.cell (World.block_lt_of_cell? w _ hx303_6)).trans hx303_6
                          replace p303 := eq_true p303
                          replace q303 := eq_true q303
                          have p304 : 0 ≤ (x8_2 : Int) := of_decide_eq_true (by first | (with_reducible assumption) | assumption)
                          have q304 : x8_2 < (l1.length : Int) := of_decide_eq_true (by first | (with_reducible assumption) | assumption)
                          obtain ⟨ad304, e304, hx304_0, hx304_1, hx304_2, hx304_3, hx304_4, hx304_5, hx304_6⟩ := at_T39 HR1.out x8_2 p304 q304
                          (try rw [← Nbq13.out] at hx304_6)
                          obtain rfl : ad303 = ad304 := (by injection e304)
                          replace hx304_0 := (HB.out.cell (World.block_lt_of_cell? w _ hx304_0)).trans hx304_0
                          replace hx304_1 := (HB.out.cell (World.block_lt_of_cell? w _ hx304_1)).trans hx304_1
                          replace hx304_2 := (HB.out.cell (World.block_lt_of_cell? w _ hx304_2)).trans hx304_2
                          replace hx304_3 := (HB.out.cell (World.block_lt_of_cell? w _ hx304_3)).trans hx304_3
                          replace hx304_4 := (HB.out.cell (World.block_lt_of_cell? w _ hx304_4)).trans hx304_4
                          replace hx304_5 := (HB.out.cell (World.block_lt_of_cell? w _ hx304_5)).trans hx304_5
                          replace hx304_6 := (HB.out.cell (World.block_lt_of_cell? w _ hx304_6)).trans hx304_6
                          replace p304 := eq_true p304
                          replace q304 := eq_true q304
                          have p305 : 0 ≤ (x8_2 : Int) := of_decide_eq_true (by first | (with_reducible assumption) | assumption)
                          have q305 : x8_2 < (l1.length : Int) := of_decide_eq_true (by first | (with_reducible assumption) | assumption)
                          obtain ⟨ad305, e305, hx305_0, hx305_1, hx305_2, hx305_3, hx305_4, hx305_5, hx305_6⟩ := at_T39 HR1.out x8_2 p305 q305
                          (try rw [← Nbq13.out] at hx305_6)
                          obtain rfl : ad303 = ad305 := (by injection e305)
                          replace hx305_0 := (HB.out.cell (World.block_lt_of_cell? w _ hx305_0)).trans hx305_0
                          replace hx305_1 := (HB.out.cell (World.block_lt_of_cell? w _ hx305_1)).trans hx305_1
                          replace hx305_2 := (HB.out.cell (World.block_lt_of_cell? w _ hx305_2)).trans hx305_2
                          replace hx305_3 := (HB.out.cell (World.block_lt_of_cell? w _ hx305_3)).trans hx305_3
                          replace hx305_4 := (HB.out.cell (World.block_lt_of_cell? w _ hx305_4)).trans hx305_4
                          replace hx305_5 := (HB.out.cell (World.block_lt_of_cell? w _ hx305_5)).trans hx305_5
                          replace hx305_6 := (HB.out.cell (World.block_lt_of_cell? w _ hx305_6)).trans hx305_6
                          replace p305 := eq_true p305
                          replace q305 := eq_true q305
                          have p306 : 0 ≤ (x8_2 : Int) := of_decide_eq_true (by first | (with_reducible assumption) | assumption)
                          have q306 : x8_2 < (l1.length : Int) := of_decide_eq_true (by first | (with_reducible assumption) | assumption)
                          obtain ⟨ad306, e306, hx306_0, hx306_1, hx306_2, hx306_3, hx306_4, hx306_5, hx306_6⟩ := at_T39 HR1.out x8_2 p306 q306
                          (try rw [← Nbq13.out] at hx306_6)
                          obtain rfl : ad303 = ad306 := (by injection e306)
                          replace hx306_0 := (HB.out.cell (World.block_lt_of_cell? w _ hx306_0)).trans hx306_0
                          replace hx306_1 := (HB.out.cell (World.block_lt_of_cell? w _ hx306_1)).trans hx306_1
                          replace hx306_2 := (HB.out.cell (World.block_lt_of_cell? w _ hx306_2)).trans hx306_2
                          replace hx306_3 := (HB.out.cell (World.block_lt_of_cell? w _ hx306_3)).trans hx306_3
                          replace hx306_4 := (HB.out.cell (World.block_lt_of_cell? w _ hx306_4)).trans hx306_4
                          replace hx306_5 := (HB.out.cell (World.block_lt_of_cell? w _ hx306_5)).trans hx306_5
                          replace hx306_6 := (HB.out.cell (World.block_lt_of_cell? w _ hx306_6)).trans hx306_6
                          replace p306 := eq_true p306
                          replace q306 := eq_true q306
                          go_wp2
                          go_ret2
                          exact ⟨by first | rfl | (simp [errW_none, errW_some] <;> rfl) | (simp [*, errW_none, errW_some] <;> rfl), by repeat (first | (with_reducible first | exact HB.out | apply below_alloc | apply pw_below_drewN | apply below_drew1) | exact HB.out)⟩
                · rw [if_neg c9] at H
                  exact absurd H (by simp)
              · rw [if_neg c8] at H
                have c8b0 : decide (x8_2 < (l1.length : Int)) = false := decide_eq_false c8
                clear c8
                have H' := Aside0.mk H
                clear H
                (try rw [Nbq13.out] at H')
                go_wp2
                go_loopg [2, 9] k2 (fun kq v2 v9 w' => ∃ (x2_3 : ByteArray) (x9_3 : Int), v2 = .string x2_3 ∧ v9 = .int .i64 x9_3 ∧ Aside0 (tenancyref17_Wrap.l1 kq a0 l1 x2_3 x9_3 = some (r1, r2)) ∧ Aside0 (kq ≤ k2) ∧ Aside0 (Below w.heap.size w w'))
                case atStart => exact ⟨(a2), (wrap64 ((l1.length : Int) - 1)), (by first | rfl | (simp; done) | (simp only [ByteArray.size_extract]; rw [Nat.min_eq_left (by omega)]; done) | (simp [*]; done)), (by first | rfl | (simp; done) | (simp only [ByteArray.size_extract]; rw [Nat.min_eq_left (by omega)]; done) | (simp [*]; done)), H', ⟨Nat.le_refl _⟩, ⟨by repeat (first | (with_reducible first | exact HB.out | apply below_alloc | apply pw_below_drewN | apply below_drew1) | exact HB.out)⟩⟩
                case round =>
                  clear H'
                  try clear c1
                  try clear q1
                  try clear p2
                  try clear p3
                  try clear q3
                  try clear hx3
                  try clear c5
                  try clear c5b0
                  try clear c5b1
                  try clear c6
                  try clear p6
                  try clear c7
                  try clear c7b0
                  try clear c7b1
                  try clear c8
                  try clear c8b0
                  try clear c9
                  try clear c9b0
                  try clear c10
                  try clear c10b0
                  try clear c11
                  try clear c11b0
                  try clear c12
                  try clear c12b0
                  try clear c12b1
                  try clear q13
                  try clear c14
                  try clear hx303_0
                  try clear hx303_1
                  try clear hx303_2
                  try clear hx303_3
                  try clear hx303_4
                  try clear hx303_5
                  try clear hx303_6
                  try clear hx304_0
                  try clear hx304_1
                  try clear hx304_2
                  try clear hx304_3
                  try clear hx304_4
                  try clear hx304_5
                  try clear hx304_6
                  try clear hx305_0
                  try clear hx305_1
                  try clear hx305_2
                  try clear hx305_3
                  try clear hx305_4
                  try clear hx305_5
                  try clear hx305_6
                  try clear hx306_0
                  try clear hx306_1
                  try clear hx306_2
                  try clear hx306_3
                  try clear hx306_4
                  try clear hx306_5
                  try clear hx306_6
                  try clear p2
                  try clear p303
                  try clear p304
                  try clear p305
                  try clear p306
                  try clear q303
                  try clear q304
                  try clear q305
                  try clear q306
                  obtain ⟨x2_3, x9_3, rfl, rfl, HA, HK3, HB⟩ := hrel
                  cases gk with
                  | zero => exact absurd HA.out (by simp [tenancyref17_Wrap.l1])
                  | succ k3 =>
                    have H := HA.out
                    clear HA
                    simp only [tenancyref17_Wrap.l1] at H
                    by_cases c15 : x9_3 ≥ 0
                    · rw [if_pos c15] at H
                      have c15b0 : decide (0 ≤ x9_3) = true := decide_eq_true c15
                      clear c15
                      by_cases c16 : 0 ≤ x9_3
                      · rw [if_pos c16] at H
                        have c16b0 : decide (0 ≤ x9_3) = true := decide_eq_true c16
                        clear c16
                        by_cases c17 : x9_3 < (l1.length : Int)
                        · rw [if_pos c17] at H
                          have c17b0 : decide (x9_3 < (l1.length : Int)) = true := decide_eq_true c17
                          clear c17
                          obtain ⟨y309, hy309⟩ : ∃ y_ : List (S42), y_ = (([] : List (S42))) := ⟨_, rfl⟩
                          replace H : (if (rd_T39 l1 x9_3).f4 = true then (if y309.length < 5864062014805 then (tenancyref17_Wrap.j3 k3 a0 l1 x2_3 x9_3 (y309 ++ [(⟨18, (rd_T39 l1 x9_3).f3⟩ : S42)]) ((rd_T39 l1 x9_3).f0) ((rd_T39 l1 x9_3).f1.f0) ((rd_T39 l1 x9_3).f1.f1) ((rd_T39 l1 x9_3).f2.f0) ((rd_T39 l1 x9_3).f2.f1) ((rd_T39 l1 x9_3).f3) ((rd_T39 l1 x9_3).f4)) else (none)) else (tenancyref17_Wrap.j3 k3 a0 l1 x2_3 x9_3 y309 ((rd_T39 l1 x9_3).f0) ((rd_T39 l1 x9_3).f1.f0) ((rd_T39 l1 x9_3).f1.f1) ((rd_T39 l1 x9_3).f2.f0) ((rd_T39 l1 x9_3).f2.f1) ((rd_T39 l1 x9_3).f3) ((rd_T39 l1 x9_3).f4))) = some (r1, r2) := by first | (rw [hy309]; with_reducible exact H) | (have H2_ := (Option.bind_some _ _).symm.trans H; rw [hy309]; with_reducible exact H2_) | (have H2_ := (Option.bind_some _ _).symm.trans H; with_reducible exact H2_) | with_reducible exact H | (rw [hy309]; exact H) | exact H
                          have Ny309 := Aside0.mk hy309
                          clear hy309
                          have HC18 := Aside0.mk H
                          clear H
                          have p307 : 0 ≤ (x9_3 : Int) := of_decide_eq_true (by first | (with_reducible assumption) | assumption)
                          have q307 : x9_3 < (l1.length : Int) := of_decide_eq_true (by first | (with_reducible assumption) | assumption)
                          obtain ⟨ad307, e307, hx307_0, hx307_1, hx307_2, hx307_3, hx307_4, hx307_5, hx307_6⟩ := at_T39 HR1.out x9_3 p307 q307
                          cases e307
                          replace hx307_0 := (HB.out.cell (World.block_lt_of_cell? w _ hx307_0)).trans hx307_0
                          replace hx307_1 := (HB.out.cell (World.block_lt_of_cell? w _ hx307_1)).trans hx307_1
                          replace hx307_2 := (HB.out.cell (World.block_lt_of_cell? w _ hx307_2)).trans hx307_2
                          replace hx307_3 := (HB.out.cell (World.block_lt_of_cell? w _ hx307_3)).trans hx307_3
                          replace hx307_4 := (HB.out.cell (World.block_lt_of_cell? w _ hx307_4)).trans hx307_4
                          replace hx307_5 := (HB.out.cell (World.block_lt_of_cell? w _ hx307_5)).trans hx307_5
                          replace hx307_6 := (HB.out.cell (World.block_lt_of_cell? w _ hx307_6)).trans hx307_6
                          replace p307 := eq_true p307
                          replace q307 := eq_true q307
                          go_upto_if 72 with (first | ((with_reducible refine gate_dst (N := 10) rfl ?_); refine box_event ?hg (N := 10) ?hd (cs := #[.int .i64 0, .int .u64 0, .int .u64 0, .int .u64 0, .int .u64 0, .string (⟨#[]⟩ : ByteArray), .bool false]) (t := 39) ?hr ?_; (case hd => rfl); (case hg => rfl); (case hr => first | (go_simp; done) | (go_simp; rfl)); intro gb308 hg w19 hbox hb; have n0_ := Aside0.mk (below_step (by repeat (first | (with_reducible first | exact HB.out | apply below_alloc | apply pw_below_drewN | apply below_drew1) | exact HB.out)) hb); have n1_ := Aside0.mk (hbox); have n2_ := Aside0.mk ((by rw [hg]; exact (below_size (by repeat (first | (with_reducible first | exact HB.out | apply below_alloc | apply pw_below_drewN | apply below_drew1) | exact HB.out))) : w.heap.size ≤ gb308)); have n3_ := Aside0.mk ((by rw [hg]; exact (below_size (by repeat (first | (with_reducible first | exact HB.out | apply below_alloc | apply pw_below_drewN | apply below_drew1) | exact HB.out))) : w.heap.size ≤ gb308)); clear HB; have HB := n0_; have BK308 := n1_; have GW308 := n2_; have GE308 := n3_; clear n0_ n1_ n2_ n3_; clear hb hbox hg; have hcz20_0 : w19.cell? ⟨gb308, 0, none⟩ = some (.int .i64 0) := (blk_cell BK308.out 0).trans (by first | rfl | (rw [← Nbq13.out]; rfl)); have hcz20_1 : w19.cell? ⟨gb308, 1, none⟩ = some (.int .u64 0) := (blk_cell BK308.out 1).trans (by first | rfl | (rw [← Nbq13.out]; rfl)); have hcz20_2 : w19.cell? ⟨gb308, 2, none⟩ = some (.int .u64 0) := (blk_cell BK308.out 2).trans (by first | rfl | (rw [← Nbq13.out]; rfl)); have hcz20_3 : w19.cell? ⟨gb308, 3, none⟩ = some (.int .u64 0) := (blk_cell BK308.out 3).trans (by first | rfl | (rw [← Nbq13.out]; rfl)); have hcz20_4 : w19.cell? ⟨gb308, 4, none⟩ = some (.int .u64 0) := (blk_cell BK308.out 4).trans (by first | rfl | (rw [← Nbq13.out]; rfl)); have hcz20_5 : w19.cell? ⟨gb308, 5, none⟩ = some (.string (⟨#[]⟩ : ByteArray)) := (blk_cell BK308.out 5).trans (by first | rfl | (rw [← Nbq13.out]; rfl)); have hcz20_6 : w19.cell? ⟨gb308, 6, none⟩ = some (.bool false) := (blk_cell BK308.out 6).trans (by first | rfl | (rw [← Nbq13.out]; rfl)); have hfz20_0 := blk_frozen BK308.out 0; have hfz20_1 := blk_frozen BK308.out 1; have hfz20_2 := blk_frozen BK308.out 2; have hfz20_3 := blk_frozen BK308.out 3; have hfz20_4 := blk_frozen BK308.out 4; have hfz20_5 := blk_frozen BK308.out 5; have hfz20_6 := blk_frozen BK308.out 6) | ((with_reducible refine gate_dst (N := 70) rfl ?_); refine Kd.R_lit k42 _ 42 ?hg (N := 70) ?hd (xs := ([] : List (S42))) (inner := []) (ok := fun _ => True) (okp := fun _ => True) ?hr ?hp (fun _ hk => hk) trivial (Below.refl _ _) (Nat.le_refl _) (by simp) ?_; (case hd => rfl); (case hg => rfl); (case hr => first | (go_simp; done) | (go_simp; rfl)); (case hp => exact (Reps.none _ _)); intro v310 w21 ho22 hb hg_ hnew_; clear hg_ hnew_; (first | rw [← Ny309.out] at ho22 | (simp only [Int.reduceToNat] at ho22; rw [← Ny309.out] at ho22)); have n0_ := Aside0.mk (Kd.R_lower ho22 (below_size (by repeat (first | (with_reducible first | exact HB.out | apply below_alloc | apply pw_below_drewN | apply below_drew1 | refine below_set ?_ GE308.out) | exact HB.out)))); have n1_ := Aside0.mk (blk_below (g := gb308) (o := .cells #[.int .i64 ((rd_T39 l1 x9_3).f0), .int .u64 ((rd_T39 l1 x9_3).f1.f0), .int .u64 ((rd_T39 l1 x9_3).f1.f1), .int .u64 ((rd_T39 l1 x9_3).f2.f0), .int .u64 ((rd_T39 l1 x9_3).f2.f1), .string ((rd_T39 l1 x9_3).f3), .bool ((rd_T39 l1 x9_3).f4)] 39 (0, 0)) (by (with_reducible repeat (first | refine blk_drewN ?_ _ | refine blk_drew ?_ | refine blk_alloc ?_ _)); refine blk_put (cs := #[.int .i64 ((rd_T39 l1 x9_3).f0), .int .u64 ((rd_T39 l1 x9_3).f1.f0), .int .u64 ((rd_T39 l1 x9_3).f1.f1), .int .u64 ((rd_T39 l1 x9_3).f2.f0), .int .u64 ((rd_T39 l1 x9_3).f2.f1), .string ((rd_T39 l1 x9_3).f3), .bool false]) ?_ 6 _ rfl; (with_reducible repeat (first | refine blk_drewN ?_ _ | refine blk_drew ?_ | refine blk_alloc ?_ _)); refine blk_put (cs := #[.int .i64 ((rd_T39 l1 x9_3).f0), .int .u64 ((rd_T39 l1 x9_3).f1.f0), .int .u64 ((rd_T39 l1 x9_3).f1.f1), .int .u64 ((rd_T39 l1 x9_3).f2.f0), .int .u64 ((rd_T39 l1 x9_3).f2.f1), .string (⟨#[]⟩ : ByteArray), .bool false]) ?_ 5 _ rfl; (with_reducible repeat (first | refine blk_drewN ?_ _ | refine blk_drew ?_ | refine blk_alloc ?_ _)); refine blk_put (cs := #[.int .i64 ((rd_T39 l1 x9_3).f0), .int .u64 ((rd_T39 l1 x9_3).f1.f0), .int .u64 ((rd_T39 l1 x9_3).f1.f1), .int .u64 ((rd_T39 l1 x9_3).f2.f0), .int .u64 0, .string (⟨#[]⟩ : ByteArray), .bool false]) ?_ 4 _ rfl; (with_reducible repeat (first | refine blk_drewN ?_ _ | refine blk_drew ?_ | refine blk_alloc ?_ _)); refine blk_put (cs := #[.int .i64 ((rd_T39 l1 x9_3).f0), .int .u64 ((rd_T39 l1 x9_3).f1.f0), .int .u64 ((rd_T39 l1 x9_3).f1.f1), .int .u64 0, .int .u64 0, .string (⟨#[]⟩ : ByteArray), .bool false]) ?_ 3 _ rfl; (with_reducible repeat (first | refine blk_drewN ?_ _ | refine blk_drew ?_ | refine blk_alloc ?_ _)); refine blk_put (cs := #[.int .i64 ((rd_T39 l1 x9_3).f0), .int .u64 ((rd_T39 l1 x9_3).f1.f0), .int .u64 0, .int .u64 0, .int .u64 0, .string (⟨#[]⟩ : ByteArray), .bool false]) ?_ 2 _ rfl; (with_reducible repeat (first | refine blk_drewN ?_ _ | refine blk_drew ?_ | refine blk_alloc ?_ _)); refine blk_put (cs := #[.int .i64 ((rd_T39 l1 x9_3).f0), .int .u64 0, .int .u64 0, .int .u64 0, .int .u64 0, .string (⟨#[]⟩ : ByteArray), .bool false]) ?_ 1 _ rfl; (with_reducible repeat (first | refine blk_drewN ?_ _ | refine blk_drew ?_ | refine blk_alloc ?_ _)); refine blk_put (cs := #[.int .i64 0, .int .u64 0, .int .u64 0, .int .u64 0, .int .u64 0, .string (⟨#[]⟩ : ByteArray), .bool false]) ?_ 0 _ rfl; (with_reducible repeat (first | refine blk_drewN ?_ _ | refine blk_drew ?_ | refine blk_alloc ?_ _)); exact BK308.out) hb); have n2_ := Aside0.mk (below_step (by repeat (first | (with_reducible first | exact HB.out | apply below_alloc | apply pw_below_drewN | apply below_drew1 | refine below_set ?_ GE308.out) | exact HB.out)) hb); clear BK308; clear HB; have HO311 := n0_; have BK308 := n1_; have HB := n2_; clear n0_ n1_ n2_; clear hb ho22; have hcz23_0 : w21.cell? ⟨gb308, 0, none⟩ = some (.int .i64 ((rd_T39 l1 x9_3).f0)) := (blk_cell BK308.out 0).trans (by first | rfl | (rw [← Nbq13.out]; rfl)); have hcz23_1 : w21.cell? ⟨gb308, 1, none⟩ = some (.int .u64 ((rd_T39 l1 x9_3).f1.f0)) := (blk_cell BK308.out 1).trans (by first | rfl | (rw [← Nbq13.out]; rfl)); have hcz23_2 : w21.cell? ⟨gb308, 2, none⟩ = some (.int .u64 ((rd_T39 l1 x9_3).f1.f1)) := (blk_cell BK308.out 2).trans (by first | rfl | (rw [← Nbq13.out]; rfl)); have hcz23_3 : w21.cell? ⟨gb308, 3, none⟩ = some (.int .u64 ((rd_T39 l1 x9_3).f2.f0)) := (blk_cell BK308.out 3).trans (by first | rfl | (rw [← Nbq13.out]; rfl)); have hcz23_4 : w21.cell? ⟨gb308, 4, none⟩ = some (.int .u64 ((rd_T39 l1 x9_3).f2.f1)) := (blk_cell BK308.out 4).trans (by first | rfl | (rw [← Nbq13.out]; rfl)); have hcz23_5 : w21.cell? ⟨gb308, 5, none⟩ = some (.string ((rd_T39 l1 x9_3).f3)) := (blk_cell BK308.out 5).trans (by first | rfl | (rw [← Nbq13.out]; rfl)); have hcz23_6 : w21.cell? ⟨gb308, 6, none⟩ = some (.bool ((rd_T39 l1 x9_3).f4)) := (blk_cell BK308.out 6).trans (by first | rfl | (rw [← Nbq13.out]; rfl)); have hfz23_0 := blk_frozen BK308.out 0; have hfz23_1 := blk_frozen BK308.out 1; have hfz23_2 := blk_frozen BK308.out 2; have hfz23_3 := blk_frozen BK308.out 3; have hfz23_4 := blk_frozen BK308.out 4; have hfz23_5 := blk_frozen BK308.out 5; have hfz23_6 := blk_frozen BK308.out 6))
                          (try simp only [Act.put, List.setIfInBounds_toArray, List.set_cons_zero, List.set_cons_succ])
                          go_cut [11] (fun v11 wc => ∃ (kq : Nat) (x11_17 : List (S42)), Aside0 (tenancyref17_Wrap.j3 kq a0 l1 x2_3 x9_3 x11_17 ((rd_T39 l1 x9_3).f0) ((rd_T39 l1 x9_3).f1.f0) ((rd_T39 l1 x9_3).f1.f1) ((rd_T39 l1 x9_3).f2.f0) ((rd_T39 l1 x9_3).f2.f1) ((rd_T39 l1 x9_3).f3) ((rd_T39 l1 x9_3).f4) = some (r1, r2)) ∧ Aside0 (kq ≤ k3) ∧ Aside0 (Kd.R k42 42 wc w.heap.size (fun _ => True) v11 x11_17) ∧ Aside0 (wc.heap[gb308]? = some (.cells #[.int .i64 ((rd_T39 l1 x9_3).f0), .int .u64 ((rd_T39 l1 x9_3).f1.f0), .int .u64 ((rd_T39 l1 x9_3).f1.f1), .int .u64 ((rd_T39 l1 x9_3).f2.f0), .int .u64 ((rd_T39 l1 x9_3).f2.f1), .string ((rd_T39 l1 x9_3).f3), .bool ((rd_T39 l1 x9_3).f4)] 39 (0, 0))) ∧ Aside0 (Below w.heap.size w wc))
                          case first =>
                            have H := HC18.out
                            clear HC18
                            obtain ⟨bq24, hbq24⟩ : ∃ b_ : Bool, b_ = ((rd_T39 l1 x9_3).f4) := ⟨_, rfl⟩
                            replace H : (if bq24 = true then (if y309.length < 5864062014805 then (tenancyref17_Wrap.j3 k3 a0 l1 x2_3 x9_3 (y309 ++ [(⟨18, (rd_T39 l1 x9_3).f3⟩ : S42)]) ((rd_T39 l1 x9_3).f0) ((rd_T39 l1 x9_3).f1.f0) ((rd_T39 l1 x9_3).f1.f1) ((rd_T39 l1 x9_3).f2.f0) ((rd_T39 l1 x9_3).f2.f1) ((rd_T39 l1 x9_3).f3) bq24) else (none)) else (tenancyref17_Wrap.j3 k3 a0 l1 x2_3 x9_3 y309 ((rd_T39 l1 x9_3).f0) ((rd_T39 l1 x9_3).f1.f0) ((rd_T39 l1 x9_3).f1.f1) ((rd_T39 l1 x9_3).f2.f0) ((rd_T39 l1 x9_3).f2.f1) ((rd_T39 l1 x9_3).f3) bq24)) = some (r1, r2) := by rw [← hbq24] at H; exact H
                            have Nbq24 := Aside0.mk hbq24
                            clear hbq24
                            (try rw [← Nbq24.out])
                            by_cases c25 : bq24 = true
                            · subst c25
                              have H1 : (if y309.length < 5864062014805 then (tenancyref17_Wrap.j3 k3 a0 l1 x2_3 x9_3 (y309 ++ [(⟨18, (rd_T39 l1 x9_3).f3⟩ : S42)]) ((rd_T39 l1 x9_3).f0) ((rd_T39 l1 x9_3).f1.f0) ((rd_T39 l1 x9_3).f1.f1) ((rd_T39 l1 x9_3).f2.f0) ((rd_T39 l1 x9_3).f2.f1) ((rd_T39 l1 x9_3).f3) true) else (none)) = some (r1, r2) := by rw [if_pos rfl] at H; exact H
                              clear H
                              have H := H1
                              clear H1
                              by_cases c26 : y309.length < 5864062014805
                              · rw [if_pos c26] at H
                                have LMc26 := Aside0.mk c26
                                clear c26
                                obtain ⟨y312, hy312⟩ : ∃ y_ : List (S42), y_ = (y309 ++ [(⟨18, (rd_T39 l1 x9_3).f3⟩ : S42)]) := ⟨_, rfl⟩
                                replace H : (tenancyref17_Wrap.j3 k3 a0 l1 x2_3 x9_3 y312 ((rd_T39 l1 x9_3).f0) ((rd_T39 l1 x9_3).f1.f0) ((rd_T39 l1 x9_3).f1.f1) ((rd_T39 l1 x9_3).f2.f0) ((rd_T39 l1 x9_3).f2.f1) ((rd_T39 l1 x9_3).f3) true) = some (r1, r2) := by first | (rw [hy312]; with_reducible exact H) | (have H2_ := (Option.bind_some _ _).symm.trans H; rw [hy312]; with_reducible exact H2_) | (have H2_ := (Option.bind_some _ _).symm.trans H; with_reducible exact H2_) | with_reducible exact H | (rw [hy312]; exact H) | exact H
                                have Ny312 := Aside0.mk hy312
                                clear hy312
                                have H' := Aside0.mk H
                                clear H
                                (try rw [Nbq24.out] at H')
                                have hcz27_0 : w21.cell? ⟨gb308, 0, none⟩ = some (.int .i64 ((rd_T39 l1 x9_3).f0)) := (blk_cell BK308.out 0).trans rfl
                                have hcz27_1 : w21.cell? ⟨gb308, 1, none⟩ = some (.int .u64 ((rd_T39 l1 x9_3).f1.f0)) := (blk_cell BK308.out 1).trans rfl
                                have hcz27_2 : w21.cell? ⟨gb308, 2, none⟩ = some (.int .u64 ((rd_T39 l1 x9_3).f1.f1)) := (blk_cell BK308.out 2).trans rfl
                                have hcz27_3 : w21.cell? ⟨gb308, 3, none⟩ = some (.int .u64 ((rd_T39 l1 x9_3).f2.f0)) := (blk_cell BK308.out 3).trans rfl
                                have hcz27_4 : w21.cell? ⟨gb308, 4, none⟩ = some (.int .u64 ((rd_T39 l1 x9_3).f2.f1)) := (blk_cell BK308.out 4).trans rfl
                                have hcz27_5 : w21.cell? ⟨gb308, 5, none⟩ = some (.string ((rd_T39 l1 x9_3).f3)) := (blk_cell BK308.out 5).trans rfl
                                have hcz27_6 : w21.cell? ⟨gb308, 6, none⟩ = some (.bool true) := (blk_cell BK308.out 6).trans (by first | rfl | (rw [← Nbq24.out]; rfl))
                                have hfz27_0 := blk_frozen BK308.out 0
                                have hfz27_1 := blk_frozen BK308.out 1
                                have hfz27_2 := blk_frozen BK308.out 2
                                have hfz27_3 := blk_frozen BK308.out 3
                                have hfz27_4 := blk_frozen BK308.out 4
                                have hfz27_5 := blk_frozen BK308.out 5
                                have hfz27_6 := blk_frozen BK308.out 6
                                go_wp2_with (first | ((with_reducible refine gate_builtin (b := .append) (xs := #[.tmp 73, .tmp 77]) rfl ?_); at_builtin; refine Kd.R_append k42 (w0 := w) w.heap.size rfl (.tmp 73) (.tmp 77) 44 42 (.agg #[(.int .u16 0), (.string ⟨#[]⟩)]) 24 rfl Try.underlying44 info42 rfl (by decide) (by omega) v310 y309 (⟨18, (rd_T39 l1 x9_3).f3⟩ : S42) [.int .u16 18, .string ((rd_T39 l1 x9_3).f3)] (fun _ => True) (fun _ => False) rfl rfl ?aP (fun _ hk => hk.elim) ?aF ?aO ?aB ?aS ?aL ?_; (case aP => exact k42_mkM _ _ _ (⟨18, (rd_T39 l1 x9_3).f3⟩ : S42)); (case aB => exact (by repeat (first | (with_reducible first | exact HB.out | apply below_alloc | apply pw_below_drewN | apply below_drew1 | refine below_set ?_ GE308.out) | exact HB.out))); (case aF => exact (fun _ _ => trivial)); (case aO => exact (by (with_reducible repeat (first | apply Kd.R_alloc | apply Kd.R_drewN | apply Kd.R_drew)); exact HO311.out)); (case aS => exact (below_size (by repeat (first | (with_reducible first | exact HB.out | apply below_alloc | apply pw_below_drewN | apply below_drew1 | refine below_set ?_ GE308.out) | exact HB.out)))); (case aL => have := LMc26.out; omega); intro v313 w28 ho hb hg hat; rw [← Ny312.out] at ho; have n0_ := Aside0.mk (blk_grown (g := gb308) (o := .cells #[.int .i64 ((rd_T39 l1 x9_3).f0), .int .u64 ((rd_T39 l1 x9_3).f1.f0), .int .u64 ((rd_T39 l1 x9_3).f1.f1), .int .u64 ((rd_T39 l1 x9_3).f2.f0), .int .u64 ((rd_T39 l1 x9_3).f2.f1), .string ((rd_T39 l1 x9_3).f3), .bool ((rd_T39 l1 x9_3).f4)] 39 (0, 0)) (by (with_reducible repeat (first | refine blk_drewN ?_ _ | refine blk_drew ?_ | refine blk_alloc ?_ _)); exact BK308.out) hg (Kd.R_ne HO311.out BK308.out (by decide))); have n1_ := Aside0.mk (hb); have n2_ := Aside0.mk (ho); clear BK308; clear HB; clear HO311; have BK308 := n0_; have HB := n1_; have HO314 := n2_; clear n0_ n1_ n2_; clear ho hb hg hat))
                                go_meet
                                case rel => exact ⟨_, (y312), H', ⟨by have := HJ3.out; have := HK2.out; have := HK3.out; first | omega | exact Nat.le_refl _⟩, ⟨by (with_reducible repeat (first | apply Kd.R_alloc | apply Kd.R_drewN | apply Kd.R_drew)); exact HO314.out⟩, ⟨by (with_reducible repeat (first | refine blk_drewN ?_ _ | refine blk_drew ?_ | refine blk_alloc ?_ _)); exact BK308.out⟩, ⟨by repeat (first | (with_reducible first | exact HB.out | apply below_alloc | apply pw_below_drewN | apply below_drew1 | refine below_set ?_ GE308.out) | exact HB.out)⟩⟩
                              · rw [if_neg c26] at H
                                exact absurd H (by simp)
                            · replace c25 := Bool.eq_false_iff.mpr c25
                              subst c25
                              have H1 : (tenancyref17_Wrap.j3 k3 a0 l1 x2_3 x9_3 y309 ((rd_T39 l1 x9_3).f0) ((rd_T39 l1 x9_3).f1.f0) ((rd_T39 l1 x9_3).f1.f1) ((rd_T39 l1 x9_3).f2.f0) ((rd_T39 l1 x9_3).f2.f1) ((rd_T39 l1 x9_3).f3) false) = some (r1, r2) := by rw [if_neg (show ¬ (false = true) by decide)] at H; exact H
                              clear H
                              have H := H1
                              clear H1
                              have H' := Aside0.mk H
                              clear H
                              (try rw [Nbq24.out] at H')
                              go_wp2
                              go_meet
                              case rel => exact ⟨_, (y309), H', ⟨by have := HJ3.out; have := HK2.out; have := HK3.out; first | omega | exact Nat.le_refl _⟩, ⟨by (with_reducible repeat (first | apply Kd.R_alloc | apply Kd.R_drewN | apply Kd.R_drew)); exact HO311.out⟩, ⟨by (with_reducible repeat (first | refine blk_drewN ?_ _ | refine blk_drew ?_ | refine blk_alloc ?_ _)); exact BK308.out⟩, ⟨by repeat (first | (with_reducible first | exact HB.out | apply below_alloc | apply pw_below_drewN | apply below_drew1 | refine below_set ?_ GE308.out) | exact HB.out)⟩⟩
                          case rest =>
                            clear HC18
                            try clear c1
                            try clear q1
                            try clear c2
                            try clear p2
                            try clear q2
                            try clear p3
                            try clear q3
                            try clear hx3
                            try clear c5
                            try clear c5b0
                            try clear c5b1
                            try clear c6
                            try clear p6
                            try clear c7
                            try clear c7b0
                            try clear c7b1
                            try clear c8
                            try clear c8b0
                            try clear c9
                            try clear c9b0
                            try clear c10
                            try clear c10b0
                            try clear c11
                            try clear c11b0
                            try clear c12
                            try clear c12b0
                            try clear c12b1
                            try clear q13
                            try clear c14
                            try clear c15
                            try clear c15b0
                            try clear c16
                            try clear c16b0
                            try clear c17
                            try clear c17b0
                            try clear q24
                            try clear c25
                            try clear c26
                            try clear hcz20_0
                            try clear hcz20_1
                            try clear hcz20_2
                            try clear hcz20_3
                            try clear hcz20_4
                            try clear hcz20_5
                            try clear hcz20_6
                            try clear hcz23_0
                            try clear hcz23_1
                            try clear hcz23_2
                            try clear hcz23_3
                            try clear hcz23_4
                            try clear hcz23_5
                            try clear hcz23_6
                            try clear hcz27_0
                            try clear hcz27_1
                            try clear hcz27_2
                            try clear hcz27_3
                            try clear hcz27_4
                            try clear hcz27_5
                            try clear hcz27_6
                            try clear hfz20_0
                            try clear hfz20_1
                            try clear hfz20_2
                            try clear hfz20_3
                            try clear hfz20_4
                            try clear hfz20_5
                            try clear hfz20_6
                            try clear hfz23_0
                            try clear hfz23_1
                            try clear hfz23_2
                            try clear hfz23_3
                            try clear hfz23_4
                            try clear hfz23_5
                            try clear hfz23_6
                            try clear hfz27_0
                            try clear hfz27_1
                            try clear hfz27_2
                            try clear hfz27_3
                            try clear hfz27_4
                            try clear hfz27_5
                            try clear hfz27_6
                            try clear hx303_0
                            try clear hx303_1
                            try clear hx303_2
                            try clear hx303_3
                            try clear hx303_4
                            try clear hx303_5
                            try clear hx303_6
                            try clear hx304_0
                            try clear hx304_1
                            try clear hx304_2
                            try clear hx304_3
                            try clear hx304_4
                            try clear hx304_5
                            try clear hx304_6
                            try clear hx305_0
                            try clear hx305_1
                            try clear hx305_2
                            try clear hx305_3
                            try clear hx305_4
                            try clear hx305_5
                            try clear hx305_6
                            try clear hx306_0
                            try clear hx306_1
                            try clear hx306_2
                            try clear hx306_3
                            try clear hx306_4
                            try clear hx306_5
                            try clear hx306_6
                            try clear hx307_0
                            try clear hx307_1
                            try clear hx307_2
                            try clear hx307_3
                            try clear hx307_4
                            try clear hx307_5
                            try clear hx307_6
                            try clear p2
                            try clear p3
                            try clear p303
                            try clear p304
                            try clear p305
                            try clear p306
                            try clear p307
                            try clear p6
                            try clear q1
                            try clear q13
                            try clear q3
                            try clear q303
                            try clear q304
                            try clear q305
                            try clear q306
                            try clear q307
                            obtain ⟨kq, x11_17, HA, HJ17, HO_11, BK308, HB⟩ := hcut
                            cases kq with
                            | zero => exact absurd HA.out (by simp [tenancyref17_Wrap.j3])
                            | succ kj17 =>
                              have H := HA.out
                              clear HA
                              simp only [tenancyref17_Wrap.j3] at H
                              by_cases c29 : x11_17.length < 5864062014805
                              · rw [if_pos c29] at H
                                have LMc29 := Aside0.mk c29
                                clear c29
                                obtain ⟨y315, hy315⟩ : ∃ y_ : List (S42), y_ = (x11_17 ++ [(⟨9, x2_3⟩ : S42)]) := ⟨_, rfl⟩
                                replace H : ((tenancyref15_Emit.f kj17 y315).bind fun bt318 => (if bt318.2 = 0 then ((some (([(a0) % 256, (((rd_T39 l1 x9_3).f0)) % 256] : List Int) : List Int)).bind fun y320 => ((tenancyref04_PutAddr.f kj17 ((rd_T39 l1 x9_3).f1.f0) ((rd_T39 l1 x9_3).f1.f1)).bind fun t323 => (if (strOfNums y320).size + t323.size ≤ 9223372036854775807 then ((tenancyref04_PutAddr.f kj17 ((rd_T39 l1 x9_3).f2.f0) ((rd_T39 l1 x9_3).f2.f1)).bind fun t324 => (if ((strOfNums y320) ++ t323).size + t324.size ≤ 9223372036854775807 then (if (((strOfNums y320) ++ t323) ++ t324).size + bt318.1.size ≤ 9223372036854775807 then (tenancyref17_Wrap.l1 kj17 a0 l1 ((((strOfNums y320) ++ t323) ++ t324) ++ bt318.1) (wrap64 (x9_3 - 1))) else (none)) else (none))) else (none)))) else (some ((⟨#[]⟩ : ByteArray), 6)))) = some (r1, r2) := by first | (rw [hy315]; with_reducible exact H) | (have H2_ := (Option.bind_some _ _).symm.trans H; rw [hy315]; with_reducible exact H2_) | (have H2_ := (Option.bind_some _ _).symm.trans H; with_reducible exact H2_) | with_reducible exact H | (rw [hy315]; exact H) | exact H
                                have Ny315 := Aside0.mk hy315
                                clear hy315
                                replace H := Option.bind_eq_some_iff.mp H
                                obtain ⟨⟨t318, t319⟩, A300, H⟩ := H
                                replace H : (if t319 = 0 then ((some (([(a0) % 256, (((rd_T39 l1 x9_3).f0)) % 256] : List Int) : List Int)).bind fun y320 => ((tenancyref04_PutAddr.f kj17 ((rd_T39 l1 x9_3).f1.f0) ((rd_T39 l1 x9_3).f1.f1)).bind fun t323 => (if (strOfNums y320).size + t323.size ≤ 9223372036854775807 then ((tenancyref04_PutAddr.f kj17 ((rd_T39 l1 x9_3).f2.f0) ((rd_T39 l1 x9_3).f2.f1)).bind fun t324 => (if ((strOfNums y320) ++ t323).size + t324.size ≤ 9223372036854775807 then (if (((strOfNums y320) ++ t323) ++ t324).size + t318.size ≤ 9223372036854775807 then (tenancyref17_Wrap.l1 kj17 a0 l1 ((((strOfNums y320) ++ t323) ++ t324) ++ t318) (wrap64 (x9_3 - 1))) else (none)) else (none))) else (none)))) else (some ((⟨#[]⟩ : ByteArray), 6))) = some (r1, r2) := H
                                have A30 := Aside0.mk A300
                                clear A300
                                by_cases c31 : t319 = 0
                                · rw [if_pos c31] at H
                                  have c31b0 : (t319 == 0) = true := beq_iff_eq.mpr c31
                                  have c31b1 : (t319 != 0) = false := bne_eq_false_iff_eq.mpr c31
                                  clear c31
                                  obtain ⟨y320, hy320⟩ : ∃ y_ : List Int, y_ = (([(a0) % 256, (((rd_T39 l1 x9_3).f0)) % 256] : List Int)) := ⟨_, rfl⟩
                                  replace H : ((tenancyref04_PutAddr.f kj17 ((rd_T39 l1 x9_3).f1.f0) ((rd_T39 l1 x9_3).f1.f1)).bind fun t323 => (if (strOfNums y320).size + t323.size ≤ 9223372036854775807 then ((tenancyref04_PutAddr.f kj17 ((rd_T39 l1 x9_3).f2.f0) ((rd_T39 l1 x9_3).f2.f1)).bind fun t324 => (if ((strOfNums y320) ++ t323).size + t324.size ≤ 9223372036854775807 then (if (((strOfNums y320) ++ t323) ++ t324).size + t318.size ≤ 9223372036854775807 then (tenancyref17_Wrap.l1 kj17 a0 l1 ((((strOfNums y320) ++ t323) ++ t324) ++ t318) (wrap64 (x9_3 - 1))) else (none)) else (none))) else (none))) = some (r1, r2) := by first | (rw [hy320]; with_reducible exact H) | (have H2_ := (Option.bind_some _ _).symm.trans H; rw [hy320]; with_reducible exact H2_) | (have H2_ := (Option.bind_some _ _).symm.trans H; with_reducible exact H2_) | with_reducible exact H | (rw [hy320]; exact H) | exact H
                                  have Ny320 := Aside0.mk hy320
                                  clear hy320
                                  replace H := Option.bind_eq_some_iff.mp H
                                  obtain ⟨t323, A320, H⟩ := H
                                  replace H : (if (strOfNums y320).size + t323.size ≤ 9223372036854775807 then ((tenancyref04_PutAddr.f kj17 ((rd_T39 l1 x9_3).f2.f0) ((rd_T39 l1 x9_3).f2.f1)).bind fun t324 => (if ((strOfNums y320) ++ t323).size + t324.size ≤ 9223372036854775807 then (if (((strOfNums y320) ++ t323) ++ t324).size + t318.size ≤ 9223372036854775807 then (tenancyref17_Wrap.l1 kj17 a0 l1 ((((strOfNums y320) ++ t323) ++ t324) ++ t318) (wrap64 (x9_3 - 1))) else (none)) else (none))) else (none)) = some (r1, r2) := H
                                  have A32 := Aside0.mk A320
                                  clear A320
                                  by_cases c33 : (strOfNums y320).size + t323.size ≤ 9223372036854775807
                                  · rw [if_pos c33] at H
                                    have c33b0 := eq_true c33
                                    have c33b1 : decide ((strOfNums y320).size + t323.size ≤ 9223372036854775807) = true := decide_eq_true c33
                                    try have c33b2 : (9223372036854775807 < (strOfNums y320).size + t323.size) = False := eq_false (Nat.not_lt.2 c33)
                                    replace H := Option.bind_eq_some_iff.mp H
                                    obtain ⟨t324, A340, H⟩ := H
                                    replace H : (if ((strOfNums y320) ++ t323).size + t324.size ≤ 9223372036854775807 then (if (((strOfNums y320) ++ t323) ++ t324).size + t318.size ≤ 9223372036854775807 then (tenancyref17_Wrap.l1 kj17 a0 l1 ((((strOfNums y320) ++ t323) ++ t324) ++ t318) (wrap64 (x9_3 - 1))) else (none)) else (none)) = some (r1, r2) := H
                                    have A34 := Aside0.mk A340
                                    clear A340
                                    by_cases c35 : ((strOfNums y320) ++ t323).size + t324.size ≤ 9223372036854775807
                                    · rw [if_pos c35] at H
                                      have c35b0 := eq_true c35
                                      have c35b1 : decide (((strOfNums y320) ++ t323).size + t324.size ≤ 9223372036854775807) = true := decide_eq_true c35
                                      try have c35b2 : (9223372036854775807 < ((strOfNums y320) ++ t323).size + t324.size) = False := eq_false (Nat.not_lt.2 c35)
                                      (try (have c35b2a := c35b2; simp only [ByteArray.size_append] at c35b2a))
                                      by_cases c36 : (((strOfNums y320) ++ t323) ++ t324).size + t318.size ≤ 9223372036854775807
                                      · rw [if_pos c36] at H
                                        have c36b0 := eq_true c36
                                        have c36b1 : decide ((((strOfNums y320) ++ t323) ++ t324).size + t318.size ≤ 9223372036854775807) = true := decide_eq_true c36
                                        try have c36b2 : (9223372036854775807 < (((strOfNums y320) ++ t323) ++ t324).size + t318.size) = False := eq_false (Nat.not_lt.2 c36)
                                        (try (have c36b2a := c36b2; simp only [ByteArray.size_append] at c36b2a))
                                        have H' := Aside0.mk H
                                        clear H
                                        try go_wp2_with (first | ((with_reducible refine gate_builtin (b := .append) (xs := #[.tmp 79, .tmp 82]) rfl ?_); at_builtin; refine Kd.R_append k42 (w0 := w) w.heap.size rfl (.tmp 79) (.tmp 82) 44 42 (.agg #[(.int .u16 0), (.string ⟨#[]⟩)]) 24 rfl Try.underlying44 info42 rfl (by decide) (by omega) u11 x11_17 (⟨9, x2_3⟩ : S42) [.int .u16 9, .string x2_3] (fun _ => True) (fun _ => False) rfl rfl ?aP (fun _ hk => hk.elim) ?aF ?aO ?aB ?aS ?aL ?_; (case aP => exact k42_mkM _ _ _ (⟨9, x2_3⟩ : S42)); (case aB => exact (by repeat (first | (with_reducible first | exact HB.out | apply below_alloc | apply pw_below_drewN | apply below_drew1 | refine below_set ?_ GE308.out) | exact HB.out))); (case aF => exact (fun _ _ => trivial)); (case aO => exact (by (with_reducible repeat (first | apply Kd.R_alloc | apply Kd.R_drewN | apply Kd.R_drew)); exact HO_11.out)); (case aS => exact (below_size (by repeat (first | (with_reducible first | exact HB.out | apply below_alloc | apply pw_below_drewN | apply below_drew1 | refine below_set ?_ GE308.out) | exact HB.out)))); (case aL => have := LMc29.out; omega); intro v316 w37 ho hb hg hat; rw [← Ny315.out] at ho; have n0_ := Aside0.mk (blk_grown (g := gb308) (o := .cells #[.int .i64 ((rd_T39 l1 x9_3).f0), .int .u64 ((rd_T39 l1 x9_3).f1.f0), .int .u64 ((rd_T39 l1 x9_3).f1.f1), .int .u64 ((rd_T39 l1 x9_3).f2.f0), .int .u64 ((rd_T39 l1 x9_3).f2.f1), .string ((rd_T39 l1 x9_3).f3), .bool ((rd_T39 l1 x9_3).f4)] 39 (0, 0)) (by (with_reducible repeat (first | refine blk_drewN ?_ _ | refine blk_drew ?_ | refine blk_alloc ?_ _)); exact BK308.out) hg (Kd.R_ne HO_11.out BK308.out (by decide))); have n1_ := Aside0.mk (hb); have n2_ := Aside0.mk (ho); clear BK308; clear HB; clear HO_11; have BK308 := n0_; have HB := n1_; have HO317 := n2_; clear n0_ n1_ n2_; clear ho hb hg hat; obtain ⟨Ao38, co38, eo38⟩ := Kd.R_slice HO317.out; subst eo38) | ((with_reducible refine gate_callee (f := 26) rfl ?_); refine goesL_ (some 86) rfl rfl Try.func26 (by kernel_rfl) rfl #[.slice Ao38 y315.length co38] rfl (by (try simp only [List.map_toArray, List.map_cons, List.map_nil]); first | done | rfl | (simp only [List.length_drop, List.length_take]; rfl)) ?_; (with_reducible refine (tenancyref15_Emit.calls kj17 _ _ y315 t318 t319 _ ?side1 ?side2 A30.out).mono ?_); (case side1 => repeat (first | exact (Kd.R_reads' HO317.out).2.2 | (with_reducible refine Kd.C_alloc ?_ _) | (with_reducible refine Kd.C_drewN ?_ _) | (with_reducible refine Kd.C_drew ?_))); (case side2 => exact (Kd.R_reads' HO317.out).2.1); rintro e w39 ⟨rfl, hb⟩; refine ⟨_, rfl, ?_⟩; have n0_ := Aside0.mk (Kd.R_below (by (with_reducible repeat (first | apply Kd.R_alloc | apply Kd.R_drewN | apply Kd.R_drew)); exact HO317.out) hb); have n1_ := Aside0.mk (blk_below (g := gb308) (o := .cells #[.int .i64 ((rd_T39 l1 x9_3).f0), .int .u64 ((rd_T39 l1 x9_3).f1.f0), .int .u64 ((rd_T39 l1 x9_3).f1.f1), .int .u64 ((rd_T39 l1 x9_3).f2.f0), .int .u64 ((rd_T39 l1 x9_3).f2.f1), .string ((rd_T39 l1 x9_3).f3), .bool ((rd_T39 l1 x9_3).f4)] 39 (0, 0)) (by (with_reducible repeat (first | refine blk_drewN ?_ _ | refine blk_drew ?_ | refine blk_alloc ?_ _)); exact BK308.out) hb); have n2_ := Aside0.mk (below_step (by repeat (first | (with_reducible first | exact HB.out | apply below_alloc | apply pw_below_drewN | apply below_drew1 | refine below_set ?_ GE308.out) | exact HB.out)) hb); clear HO317; clear BK308; clear HB; have HO317 := n0_; have BK308 := n1_; have HB := n2_; clear n0_ n1_ n2_; (try clear hb); (try clear hb2); (try clear hk); (try clear hi)))
                                        have n0_ := Aside0.mk (Kd.R_drew HO317.out)
                                        have n1_ := Aside0.mk (blk_drew BK308.out)
                                        have n2_ := Aside0.mk (below_drew1 HB.out)
                                        clear HO317
                                        clear BK308
                                        clear HB
                                        have HO317 := n0_
                                        have BK308 := n1_
                                        have HB := n2_
                                        clear n0_ n1_ n2_
                                        refine start_ (n := 18) (S := fun w' => w'.cell? ⟨gb308, 0, none⟩ = some (.int .i64 ((rd_T39 l1 x9_3).f0)) ∧ w'.cell? ⟨gb308, 1, none⟩ = some (.int .u64 ((rd_T39 l1 x9_3).f1.f0)) ∧ w'.cell? ⟨gb308, 2, none⟩ = some (.int .u64 ((rd_T39 l1 x9_3).f1.f1)) ∧ w'.cell? ⟨gb308, 3, none⟩ = some (.int .u64 ((rd_T39 l1 x9_3).f2.f0)) ∧ w'.cell? ⟨gb308, 4, none⟩ = some (.int .u64 ((rd_T39 l1 x9_3).f2.f1)) ∧ w'.cell? ⟨gb308, 5, none⟩ = some (.string ((rd_T39 l1 x9_3).f3)) ∧ w'.cell? ⟨gb308, 6, none⟩ = some (.bool ((rd_T39 l1 x9_3).f4))) (ds := []) #[false, false, false, false, false, false, false, false, false, false, false, false, false, false, false, false, false, false] (by kernel_rfl) rfl rfl ⟨(blk_cell BK308.out 0).trans rfl, (blk_cell BK308.out 1).trans rfl, (blk_cell BK308.out 2).trans rfl, (blk_cell BK308.out 3).trans rfl, (blk_cell BK308.out 4).trans rfl, (blk_cell BK308.out 5).trans rfl, (blk_cell BK308.out 6).trans rfl⟩ (fun hHeld => ?_); refine with_tabW tenancyref17_Wrap.tab21 tenancyref17_Wrap.bits21 (fun HT_ HW_ => ?_)
                                        generalize w39.drew = w40 at HO317 BK308 HB hHeld ⊢
                                        refine pure_ (i := 0) (N := some 91) (v := ?_) (a' := ?_) #[true, false, false, false, false, false, false, false, false, false, false, false, false, false, false, false, false, false] rfl rfl (any_of HT_.out (by kernel_rfl)) (fun _ _ _ h => h) (Or.inl ⟨by rfl, ?_⟩) ?_ ?_
                                        rotate_left
                                        · intro w'
                                          go_simp
                                          with_reducible rfl
                                        rotate_left
                                        · simp only [Act.put, List.setIfInBounds_toArray, List.set_cons_zero, List.set_cons_succ, i64_w, i32_w]
                                          rfl
                                        refine pure_ (i := 1) (N := some 92) (v := ?_) (a' := ?_) #[true, true, false, false, false, false, false, false, false, false, false, false, false, false, false, false, false, false] rfl rfl (any_of HT_.out (by kernel_rfl)) (fun _ _ _ h => h) (Or.inl ⟨by rfl, ?_⟩) ?_ ?_
                                        rotate_left
                                        · intro w'
                                          go_simp
                                          with_reducible rfl
                                        rotate_left
                                        · simp only [Act.put, List.setIfInBounds_toArray, List.set_cons_zero, List.set_cons_succ, i64_w, i32_w]
                                          rfl
                                        refine pure_ (i := 2) (N := some 93) (v := ?_) (a' := ?_) #[true, true, true, false, false, false, false, false, false, false, false, false, false, false, false, false, false, false] rfl rfl (any_of HT_.out (by kernel_rfl)) (fun _ _ _ h => h) (Or.inl ⟨by rfl, ?_⟩) ?_ ?_
                                        rotate_left
                                        · intro w'
                                          go_simp
                                          with_reducible rfl
                                        rotate_left
                                        · simp only [Act.put, List.setIfInBounds_toArray, List.set_cons_zero, List.set_cons_succ, i64_w, i32_w]
                                          rfl
                                        refine pure_ (i := 7) (N := some 98) (v := ?_) (a' := ?_) #[true, true, true, false, false, false, false, true, false, false, false, false, false, false, false, false, false, false] rfl rfl (any_of HT_.out (by kernel_rfl)) (fun _ _ _ h => h) (Or.inl ⟨by rfl, ?_⟩) ?_ ?_
                                        rotate_left
                                        · intro w'
                                          go_simp
                                          with_reducible rfl
                                        rotate_left
                                        · simp only [Act.put, List.setIfInBounds_toArray, List.set_cons_zero, List.set_cons_succ, i64_w, i32_w]
                                          rfl
                                        refine pure_ (i := 11) (N := some 102) (v := ?_) (a' := ?_) #[true, true, true, false, false, false, false, true, false, false, false, true, false, false, false, false, false, false] rfl rfl (any_of HT_.out (by kernel_rfl)) (fun _ _ _ h => h) (Or.inl ⟨by rfl, ?_⟩) ?_ ?_
                                        rotate_left
                                        · intro w'
                                          go_simp
                                          with_reducible rfl
                                        rotate_left
                                        · simp only [Act.put, List.setIfInBounds_toArray, List.set_cons_zero, List.set_cons_succ, i64_w, i32_w]
                                          rfl
                                        refine pure_ (i := 15) (N := some 106) (v := ?_) (a' := ?_) #[true, true, true, false, false, false, false, true, false, false, false, true, false, false, false, true, false, false] rfl rfl (any_of HT_.out (by kernel_rfl)) (fun _ _ _ h => h) (Or.inl ⟨by rfl, ?_⟩) ?_ ?_
                                        rotate_left
                                        · intro w'
                                          go_simp
                                          with_reducible rfl
                                        rotate_left
                                        · simp only [Act.put, List.setIfInBounds_toArray, List.set_cons_zero, List.set_cons_succ, i64_w, i32_w]
                                          rfl
                                        refine take_ (i := 3) (N := some 94) (v := ?_) (a' := ?_) #[true, true, true, true, false, false, false, true, false, false, false, true, false, false, false, true, false, false] rfl rfl (take_ofW HT_.out HW_.out (by kernel_rfl)) (fun _ _ _ h => h) (Or.inl ⟨by rfl, ?_⟩) hHeld ?_ ?_
                                        rotate_left
                                        · rintro w' ⟨s0, s1, s2, s3, s4, s5, s6⟩
                                          go_simp
                                          with_reducible rfl
                                        rotate_left
                                        · simp only [Act.put, List.setIfInBounds_toArray, List.set_cons_zero, List.set_cons_succ, i64_w, i32_w]
                                          rfl
                                        refine pure_ (i := 4) (N := some 95) (v := ?_) (a' := ?_) #[true, true, true, true, true, false, false, true, false, false, false, true, false, false, false, true, false, false] rfl rfl (any_of HT_.out (by kernel_rfl)) (fun _ _ _ h => h) (Or.inl ⟨by rfl, ?_⟩) ?_ ?_
                                        rotate_left
                                        · intro w'
                                          go_simp
                                          with_reducible rfl
                                        rotate_left
                                        · simp only [Act.put, List.setIfInBounds_toArray, List.set_cons_zero, List.set_cons_succ, i64_w, i32_w]
                                          rfl
                                        refine take_ (i := 8) (N := some 99) (v := ?_) (a' := ?_) #[true, true, true, true, true, false, false, true, true, false, false, true, false, false, false, true, false, false] rfl rfl (take_ofW HT_.out HW_.out (by kernel_rfl)) (fun _ _ _ h => h) (Or.inl ⟨by rfl, ?_⟩) hHeld ?_ ?_
                                        rotate_left
                                        · rintro w' ⟨s0, s1, s2, s3, s4, s5, s6⟩
                                          go_simp
                                          with_reducible rfl
                                        rotate_left
                                        · simp only [Act.put, List.setIfInBounds_toArray, List.set_cons_zero, List.set_cons_succ, i64_w, i32_w]
                                          rfl
                                        refine take_ (i := 12) (N := some 103) (v := ?_) (a' := ?_) #[true, true, true, true, true, false, false, true, true, false, false, true, true, false, false, true, false, false] rfl rfl (take_ofW HT_.out HW_.out (by kernel_rfl)) (fun _ _ _ h => h) (Or.inl ⟨by rfl, ?_⟩) hHeld ?_ ?_
                                        rotate_left
                                        · rintro w' ⟨s0, s1, s2, s3, s4, s5, s6⟩
                                          go_simp
                                          with_reducible rfl
                                        rotate_left
                                        · simp only [Act.put, List.setIfInBounds_toArray, List.set_cons_zero, List.set_cons_succ, i64_w, i32_w]
                                          rfl
                                        refine join_ (σ := Value) 3 #[true, true, true, true, true, true, true, true, true, true, true, true, true, true, false, true, false, false] (fun s_ => [(96, s_), (97, .string (strOfNums y320)), (100, .string t323), (104, .string t324), (101, .string ((strOfNums y320) ++ t323))]) (fun s_ w' => (w'.cell? ⟨gb308, 0, none⟩ = some (.int .i64 ((rd_T39 l1 x9_3).f0)) ∧ w'.cell? ⟨gb308, 1, none⟩ = some (.int .u64 ((rd_T39 l1 x9_3).f1.f0)) ∧ w'.cell? ⟨gb308, 2, none⟩ = some (.int .u64 ((rd_T39 l1 x9_3).f1.f1)) ∧ w'.cell? ⟨gb308, 3, none⟩ = some (.int .u64 ((rd_T39 l1 x9_3).f2.f0)) ∧ w'.cell? ⟨gb308, 4, none⟩ = some (.int .u64 ((rd_T39 l1 x9_3).f2.f1)) ∧ w'.cell? ⟨gb308, 5, none⟩ = some (.string ((rd_T39 l1 x9_3).f3)) ∧ w'.cell? ⟨gb308, 6, none⟩ = some (.bool ((rd_T39 l1 x9_3).f4))) ∧ (Kd.R k42 42 w' w.heap.size (fun _ => True) (.slice Ao38 y315.length co38) y315) ∧ (Kd.R (Kd.int .u8) 5 w' w.heap.size (fun _ => True) s_ y320) ∧ (w'.heap[gb308]? = some (.cells #[.int .i64 ((rd_T39 l1 x9_3).f0), .int .u64 ((rd_T39 l1 x9_3).f1.f0), .int .u64 ((rd_T39 l1 x9_3).f1.f1), .int .u64 ((rd_T39 l1 x9_3).f2.f0), .int .u64 ((rd_T39 l1 x9_3).f2.f1), .string ((rd_T39 l1 x9_3).f3), .bool ((rd_T39 l1 x9_3).f4)] 39 (0, 0))) ∧ (Below w.heap.size w w')) ?_ ?_
                                        rotate_left
                                        · intro hJ5_6_9_13
                                          refine join_ (σ := Value) 4 #[true, true, true, true, true, true, true, true, true, true, true, true, true, false, false, true, false, false] (fun s_ => [(96, s_), (97, .string (strOfNums y320)), (100, .string t323), (101, .string ((strOfNums y320) ++ t323))]) (fun s_ w' => (w'.cell? ⟨gb308, 0, none⟩ = some (.int .i64 ((rd_T39 l1 x9_3).f0)) ∧ w'.cell? ⟨gb308, 1, none⟩ = some (.int .u64 ((rd_T39 l1 x9_3).f1.f0)) ∧ w'.cell? ⟨gb308, 2, none⟩ = some (.int .u64 ((rd_T39 l1 x9_3).f1.f1)) ∧ w'.cell? ⟨gb308, 3, none⟩ = some (.int .u64 ((rd_T39 l1 x9_3).f2.f0)) ∧ w'.cell? ⟨gb308, 4, none⟩ = some (.int .u64 ((rd_T39 l1 x9_3).f2.f1)) ∧ w'.cell? ⟨gb308, 5, none⟩ = some (.string ((rd_T39 l1 x9_3).f3)) ∧ w'.cell? ⟨gb308, 6, none⟩ = some (.bool ((rd_T39 l1 x9_3).f4))) ∧ (Kd.R k42 42 w' w.heap.size (fun _ => True) (.slice Ao38 y315.length co38) y315) ∧ (Kd.R (Kd.int .u8) 5 w' w.heap.size (fun _ => True) s_ y320) ∧ (w'.heap[gb308]? = some (.cells #[.int .i64 ((rd_T39 l1 x9_3).f0), .int .u64 ((rd_T39 l1 x9_3).f1.f0), .int .u64 ((rd_T39 l1 x9_3).f1.f1), .int .u64 ((rd_T39 l1 x9_3).f2.f0), .int .u64 ((rd_T39 l1 x9_3).f2.f1), .string ((rd_T39 l1 x9_3).f3), .bool ((rd_T39 l1 x9_3).f4)] 39 (0, 0))) ∧ (Below w.heap.size w w')) ?_ ?_
                                          rotate_left
                                          · intro hJ5_6_9
                                            refine join_ (σ := Value) 5 #[true, true, true, true, true, true, false, true, true, true, false, true, true, true, false, true, false, false] (fun s_ => [(96, s_), (100, .string t323), (104, .string t324)]) (fun s_ w' => (w'.cell? ⟨gb308, 0, none⟩ = some (.int .i64 ((rd_T39 l1 x9_3).f0)) ∧ w'.cell? ⟨gb308, 1, none⟩ = some (.int .u64 ((rd_T39 l1 x9_3).f1.f0)) ∧ w'.cell? ⟨gb308, 2, none⟩ = some (.int .u64 ((rd_T39 l1 x9_3).f1.f1)) ∧ w'.cell? ⟨gb308, 3, none⟩ = some (.int .u64 ((rd_T39 l1 x9_3).f2.f0)) ∧ w'.cell? ⟨gb308, 4, none⟩ = some (.int .u64 ((rd_T39 l1 x9_3).f2.f1)) ∧ w'.cell? ⟨gb308, 5, none⟩ = some (.string ((rd_T39 l1 x9_3).f3)) ∧ w'.cell? ⟨gb308, 6, none⟩ = some (.bool ((rd_T39 l1 x9_3).f4))) ∧ (Kd.R k42 42 w' w.heap.size (fun _ => True) (.slice Ao38 y315.length co38) y315) ∧ (Kd.R (Kd.int .u8) 5 w' w.heap.size (fun _ => True) s_ y320) ∧ (w'.heap[gb308]? = some (.cells #[.int .i64 ((rd_T39 l1 x9_3).f0), .int .u64 ((rd_T39 l1 x9_3).f1.f0), .int .u64 ((rd_T39 l1 x9_3).f1.f1), .int .u64 ((rd_T39 l1 x9_3).f2.f0), .int .u64 ((rd_T39 l1 x9_3).f2.f1), .string ((rd_T39 l1 x9_3).f3), .bool ((rd_T39 l1 x9_3).f4)] 39 (0, 0))) ∧ (Below w.heap.size w w')) ?_ ?_
                                            rotate_left
                                            · intro hJ5_9_13
                                              refine join_ (σ := Value) 6 #[true, true, true, true, true, true, true, true, true, false, false, true, true, false, false, true, false, false] (fun s_ => [(96, s_), (97, .string (strOfNums y320))]) (fun s_ w' => (w'.cell? ⟨gb308, 0, none⟩ = some (.int .i64 ((rd_T39 l1 x9_3).f0)) ∧ w'.cell? ⟨gb308, 1, none⟩ = some (.int .u64 ((rd_T39 l1 x9_3).f1.f0)) ∧ w'.cell? ⟨gb308, 2, none⟩ = some (.int .u64 ((rd_T39 l1 x9_3).f1.f1)) ∧ w'.cell? ⟨gb308, 3, none⟩ = some (.int .u64 ((rd_T39 l1 x9_3).f2.f0)) ∧ w'.cell? ⟨gb308, 4, none⟩ = some (.int .u64 ((rd_T39 l1 x9_3).f2.f1)) ∧ w'.cell? ⟨gb308, 5, none⟩ = some (.string ((rd_T39 l1 x9_3).f3)) ∧ w'.cell? ⟨gb308, 6, none⟩ = some (.bool ((rd_T39 l1 x9_3).f4))) ∧ (Kd.R k42 42 w' w.heap.size (fun _ => True) (.slice Ao38 y315.length co38) y315) ∧ (Kd.R (Kd.int .u8) 5 w' w.heap.size (fun _ => True) s_ y320) ∧ (w'.heap[gb308]? = some (.cells #[.int .i64 ((rd_T39 l1 x9_3).f0), .int .u64 ((rd_T39 l1 x9_3).f1.f0), .int .u64 ((rd_T39 l1 x9_3).f1.f1), .int .u64 ((rd_T39 l1 x9_3).f2.f0), .int .u64 ((rd_T39 l1 x9_3).f2.f1), .string ((rd_T39 l1 x9_3).f3), .bool ((rd_T39 l1 x9_3).f4)] 39 (0, 0))) ∧ (Below w.heap.size w w')) ?_ ?_
                                              rotate_left
                                              · intro hJ5_6
                                                refine join_ (σ := Value) 6 #[true, true, true, true, true, true, false, true, true, true, false, true, true, false, false, true, false, false] (fun s_ => [(96, s_), (100, .string t323)]) (fun s_ w' => (w'.cell? ⟨gb308, 0, none⟩ = some (.int .i64 ((rd_T39 l1 x9_3).f0)) ∧ w'.cell? ⟨gb308, 1, none⟩ = some (.int .u64 ((rd_T39 l1 x9_3).f1.f0)) ∧ w'.cell? ⟨gb308, 2, none⟩ = some (.int .u64 ((rd_T39 l1 x9_3).f1.f1)) ∧ w'.cell? ⟨gb308, 3, none⟩ = some (.int .u64 ((rd_T39 l1 x9_3).f2.f0)) ∧ w'.cell? ⟨gb308, 4, none⟩ = some (.int .u64 ((rd_T39 l1 x9_3).f2.f1)) ∧ w'.cell? ⟨gb308, 5, none⟩ = some (.string ((rd_T39 l1 x9_3).f3)) ∧ w'.cell? ⟨gb308, 6, none⟩ = some (.bool ((rd_T39 l1 x9_3).f4))) ∧ (Kd.R k42 42 w' w.heap.size (fun _ => True) (.slice Ao38 y315.length co38) y315) ∧ (Kd.R (Kd.int .u8) 5 w' w.heap.size (fun _ => True) s_ y320) ∧ (w'.heap[gb308]? = some (.cells #[.int .i64 ((rd_T39 l1 x9_3).f0), .int .u64 ((rd_T39 l1 x9_3).f1.f0), .int .u64 ((rd_T39 l1 x9_3).f1.f1), .int .u64 ((rd_T39 l1 x9_3).f2.f0), .int .u64 ((rd_T39 l1 x9_3).f2.f1), .string ((rd_T39 l1 x9_3).f3), .bool ((rd_T39 l1 x9_3).f4)] 39 (0, 0))) ∧ (Below w.heap.size w w')) ?_ ?_
                                                rotate_left
                                                · intro hJ5_9
                                                  refine join_ (σ := Unit) 6 #[true, true, true, true, true, false, false, true, true, true, false, true, true, true, false, true, false, false] (fun s_ => [(100, .string t323), (104, .string t324)]) (fun s_ w' => (w'.cell? ⟨gb308, 0, none⟩ = some (.int .i64 ((rd_T39 l1 x9_3).f0)) ∧ w'.cell? ⟨gb308, 1, none⟩ = some (.int .u64 ((rd_T39 l1 x9_3).f1.f0)) ∧ w'.cell? ⟨gb308, 2, none⟩ = some (.int .u64 ((rd_T39 l1 x9_3).f1.f1)) ∧ w'.cell? ⟨gb308, 3, none⟩ = some (.int .u64 ((rd_T39 l1 x9_3).f2.f0)) ∧ w'.cell? ⟨gb308, 4, none⟩ = some (.int .u64 ((rd_T39 l1 x9_3).f2.f1)) ∧ w'.cell? ⟨gb308, 5, none⟩ = some (.string ((rd_T39 l1 x9_3).f3)) ∧ w'.cell? ⟨gb308, 6, none⟩ = some (.bool ((rd_T39 l1 x9_3).f4))) ∧ (Kd.R k42 42 w' w.heap.size (fun _ => True) (.slice Ao38 y315.length co38) y315) ∧ (w'.heap[gb308]? = some (.cells #[.int .i64 ((rd_T39 l1 x9_3).f0), .int .u64 ((rd_T39 l1 x9_3).f1.f0), .int .u64 ((rd_T39 l1 x9_3).f1.f1), .int .u64 ((rd_T39 l1 x9_3).f2.f0), .int .u64 ((rd_T39 l1 x9_3).f2.f1), .string ((rd_T39 l1 x9_3).f3), .bool ((rd_T39 l1 x9_3).f4)] 39 (0, 0))) ∧ (Below w.heap.size w w')) ?_ ?_
                                                  rotate_left
                                                  · intro hJ9_13
                                                    refine join_ (σ := Value) 7 #[true, true, true, true, true, true, false, true, true, false, false, true, true, false, false, true, false, false] (fun s_ => [(96, s_)]) (fun s_ w' => (w'.cell? ⟨gb308, 0, none⟩ = some (.int .i64 ((rd_T39 l1 x9_3).f0)) ∧ w'.cell? ⟨gb308, 1, none⟩ = some (.int .u64 ((rd_T39 l1 x9_3).f1.f0)) ∧ w'.cell? ⟨gb308, 2, none⟩ = some (.int .u64 ((rd_T39 l1 x9_3).f1.f1)) ∧ w'.cell? ⟨gb308, 3, none⟩ = some (.int .u64 ((rd_T39 l1 x9_3).f2.f0)) ∧ w'.cell? ⟨gb308, 4, none⟩ = some (.int .u64 ((rd_T39 l1 x9_3).f2.f1)) ∧ w'.cell? ⟨gb308, 5, none⟩ = some (.string ((rd_T39 l1 x9_3).f3)) ∧ w'.cell? ⟨gb308, 6, none⟩ = some (.bool ((rd_T39 l1 x9_3).f4))) ∧ (Kd.R k42 42 w' w.heap.size (fun _ => True) (.slice Ao38 y315.length co38) y315) ∧ (Kd.R (Kd.int .u8) 5 w' w.heap.size (fun _ => True) s_ y320) ∧ (w'.heap[gb308]? = some (.cells #[.int .i64 ((rd_T39 l1 x9_3).f0), .int .u64 ((rd_T39 l1 x9_3).f1.f0), .int .u64 ((rd_T39 l1 x9_3).f1.f1), .int .u64 ((rd_T39 l1 x9_3).f2.f0), .int .u64 ((rd_T39 l1 x9_3).f2.f1), .string ((rd_T39 l1 x9_3).f3), .bool ((rd_T39 l1 x9_3).f4)] 39 (0, 0))) ∧ (Below w.heap.size w w')) ?_ ?_
                                                    rotate_left
                                                    · intro hJ5
                                                      refine join_ (σ := Unit) 7 #[true, true, true, true, true, false, false, true, true, true, false, true, true, false, false, true, false, false] (fun s_ => [(100, .string t323)]) (fun s_ w' => (w'.cell? ⟨gb308, 0, none⟩ = some (.int .i64 ((rd_T39 l1 x9_3).f0)) ∧ w'.cell? ⟨gb308, 1, none⟩ = some (.int .u64 ((rd_T39 l1 x9_3).f1.f0)) ∧ w'.cell? ⟨gb308, 2, none⟩ = some (.int .u64 ((rd_T39 l1 x9_3).f1.f1)) ∧ w'.cell? ⟨gb308, 3, none⟩ = some (.int .u64 ((rd_T39 l1 x9_3).f2.f0)) ∧ w'.cell? ⟨gb308, 4, none⟩ = some (.int .u64 ((rd_T39 l1 x9_3).f2.f1)) ∧ w'.cell? ⟨gb308, 5, none⟩ = some (.string ((rd_T39 l1 x9_3).f3)) ∧ w'.cell? ⟨gb308, 6, none⟩ = some (.bool ((rd_T39 l1 x9_3).f4))) ∧ (Kd.R k42 42 w' w.heap.size (fun _ => True) (.slice Ao38 y315.length co38) y315) ∧ (w'.heap[gb308]? = some (.cells #[.int .i64 ((rd_T39 l1 x9_3).f0), .int .u64 ((rd_T39 l1 x9_3).f1.f0), .int .u64 ((rd_T39 l1 x9_3).f1.f1), .int .u64 ((rd_T39 l1 x9_3).f2.f0), .int .u64 ((rd_T39 l1 x9_3).f2.f1), .string ((rd_T39 l1 x9_3).f3), .bool ((rd_T39 l1 x9_3).f4)] 39 (0, 0))) ∧ (Below w.heap.size w w')) ?_ ?_
                                                      rotate_left
                                                      · intro hJ9
                                                        refine two_ (i := 5) (j := 9) (Ni := some 96) (Nj := some 100) #[true, true, true, true, true, true, false, true, true, false, false, true, true, false, false, true, false, false] #[true, true, true, true, true, false, false, true, true, true, false, true, true, false, false, true, false, false] rfl rfl rfl rfl (two_of HT_.out (by kernel_rfl)) (by decide) (by decide) (fun K hK => ?_) (fun K hK => ?_)
                                                        · skip
                                                          refine Kd.R_lit_step (Kd.int .u8) _ 5 ?hg (N := 96) ?hd (xs := ([(a0) % 256, (((rd_T39 l1 x9_3).f0)) % 256] : List Int)) (inner := [.int .u8 ((a0) % 256), .int .u8 ((((rd_T39 l1 x9_3).f0)) % 256)]) (ok := fun _ => True) (okp := fun _ => True) ?hr ?hp (fun _ hk => hk) trivial (Below.refl _ _) (Nat.le_refl _) (by simp) ?_; (case hd => rfl); (case hg => rfl); (case hr => first | (go_simp; done) | (go_simp; rfl)); (case hp => exact (Reps.one (show Kd.M (Kd.int .u8) _ _ _ ((a0) % 256) [.int .u8 ((a0) % 256)] from rfl) (Reps.one (show Kd.M (Kd.int .u8) _ _ _ ((((rd_T39 l1 x9_3).f0)) % 256) [.int .u8 ((((rd_T39 l1 x9_3).f0)) % 256)] from rfl) (Reps.none _ _))))
                                                          intro v321 w41 ho42 hb hg_ hnew_
                                                          clear hg_ hnew_
                                                          (first | rw [← Ny320.out] at ho42 | (simp only [Int.reduceToNat] at ho42; rw [← Ny320.out] at ho42))
                                                          have n0_ := Aside0.mk (Kd.R_below (by (with_reducible repeat (first | apply Kd.R_alloc | apply Kd.R_drewN | apply Kd.R_drew)); exact HO317.out) hb)
                                                          have n1_ := Aside0.mk (Kd.R_lower ho42 (below_size (by repeat (first | (with_reducible first | exact HB.out | apply below_alloc | apply pw_below_drewN | apply below_drew1 | refine below_set ?_ GE308.out) | exact HB.out))))
                                                          have n2_ := Aside0.mk (blk_below (g := gb308) (o := .cells #[.int .i64 ((rd_T39 l1 x9_3).f0), .int .u64 ((rd_T39 l1 x9_3).f1.f0), .int .u64 ((rd_T39 l1 x9_3).f1.f1), .int .u64 ((rd_T39 l1 x9_3).f2.f0), .int .u64 ((rd_T39 l1 x9_3).f2.f1), .string ((rd_T39 l1 x9_3).f3), .bool ((rd_T39 l1 x9_3).f4)] 39 (0, 0)) (by (with_reducible repeat (first | refine blk_drewN ?_ _ | refine blk_drew ?_ | refine blk_alloc ?_ _)); exact BK308.out) hb)
                                                          have n3_ := Aside0.mk (below_step (by repeat (first | (with_reducible first | exact HB.out | apply below_alloc | apply pw_below_drewN | apply below_drew1 | refine below_set ?_ GE308.out) | exact HB.out)) hb)
                                                          clear HO317
                                                          clear BK308
                                                          clear HB
                                                          have HO317 := n0_
                                                          have HO322 := n1_
                                                          have BK308 := n2_
                                                          have HB := n3_
                                                          clear n0_ n1_ n2_ n3_
                                                          clear hb ho42
                                                          refine hK.out _ _ ⟨(blk_cell BK308.out 0).trans rfl, (blk_cell BK308.out 1).trans rfl, (blk_cell BK308.out 2).trans rfl, (blk_cell BK308.out 3).trans rfl, (blk_cell BK308.out 4).trans rfl, (blk_cell BK308.out 5).trans rfl, (blk_cell BK308.out 6).trans rfl⟩ (fun hHeld => ?_)
                                                          clear hK K
                                                          refine norm_ (a' := ?_) ?_ ?_
                                                          rotate_left
                                                          · show Act.put _ (some 96) _ = _
                                                            simp only [Act.put, List.setIfInBounds_toArray, List.set_cons_zero, List.set_cons_succ, i64_w, i32_w]
                                                            rfl
                                                          exact norm_ (by first | (simp only [putAll, Act.put, List.setIfInBounds_toArray, List.set_cons_zero, List.set_cons_succ]; done) | (simp only [putAll, Act.put, List.setIfInBounds_toArray, List.set_cons_zero, List.set_cons_succ]; rfl)) (hJ5 (v321) _ ⟨hHeld, (by (with_reducible repeat (first | apply Kd.R_alloc | apply Kd.R_drewN | apply Kd.R_drew)); exact HO317.out), (by (with_reducible repeat (first | apply Kd.R_alloc | apply Kd.R_drewN | apply Kd.R_drew)); exact HO322.out), (by (with_reducible repeat (first | refine blk_drewN ?_ _ | refine blk_drew ?_ | refine blk_alloc ?_ _)); exact BK308.out), (by repeat (first | (with_reducible first | exact HB.out | apply below_alloc | apply pw_below_drewN | apply below_drew1 | refine below_set ?_ GE308.out) | exact HB.out))⟩)
                                                        · skip
                                                          refine goes_ Try.func27 (by kernel_rfl) rfl #[.agg #[.int .u64 ((rd_T39 l1 x9_3).f1.f0), .int .u64 ((rd_T39 l1 x9_3).f1.f1)]] (by rfl) rfl rfl (by (try simp only [List.map_toArray, List.map_cons, List.map_nil]); first | done | rfl | (simp only [List.length_drop, List.length_take]; rfl)) ?_
                                                          with_reducible refine (tenancyref04_PutAddr.calls kj17 ((rd_T39 l1 x9_3).f1.f0) ((rd_T39 l1 x9_3).f1.f1) t323 _ A32.out).mono ?_
                                                          rintro e w41 ⟨rfl, hb⟩
                                                          refine ⟨_, rfl, ?_⟩
                                                          have n0_ := Aside0.mk (Kd.R_below (by (with_reducible repeat (first | apply Kd.R_alloc | apply Kd.R_drewN | apply Kd.R_drew)); exact HO317.out) hb)
                                                          have n1_ := Aside0.mk (blk_below (g := gb308) (o := .cells #[.int .i64 ((rd_T39 l1 x9_3).f0), .int .u64 ((rd_T39 l1 x9_3).f1.f0), .int .u64 ((rd_T39 l1 x9_3).f1.f1), .int .u64 ((rd_T39 l1 x9_3).f2.f0), .int .u64 ((rd_T39 l1 x9_3).f2.f1), .string ((rd_T39 l1 x9_3).f3), .bool ((rd_T39 l1 x9_3).f4)] 39 (0, 0)) (by (with_reducible repeat (first | refine blk_drewN ?_ _ | refine blk_drew ?_ | refine blk_alloc ?_ _)); exact BK308.out) hb)
                                                          have n2_ := Aside0.mk (below_step (by repeat (first | (with_reducible first | exact HB.out | apply below_alloc | apply pw_below_drewN | apply below_drew1 | refine below_set ?_ GE308.out) | exact HB.out)) hb)
                                                          clear HO317
                                                          clear BK308
                                                          clear HB
                                                          have HO317 := n0_
                                                          have BK308 := n1_
                                                          have HB := n2_
                                                          clear n0_ n1_ n2_
                                                          (try clear hb)
                                                          (try clear hb2)
                                                          (try clear hk)
                                                          (try clear hi)
                                                          refine hK.out _ _ ⟨(blk_cell BK308.out 0).trans rfl, (blk_cell BK308.out 1).trans rfl, (blk_cell BK308.out 2).trans rfl, (blk_cell BK308.out 3).trans rfl, (blk_cell BK308.out 4).trans rfl, (blk_cell BK308.out 5).trans rfl, (blk_cell BK308.out 6).trans rfl⟩ (fun hHeld => ?_)
                                                          clear hK K
                                                          refine norm_ (a' := ?_) ?_ ?_
                                                          rotate_left
                                                          · show Act.put _ (some 100) _ = _
                                                            simp only [Act.put, List.setIfInBounds_toArray, List.set_cons_zero, List.set_cons_succ, i64_w, i32_w]
                                                            rfl
                                                          exact norm_ (by first | (simp only [putAll, Act.put, List.setIfInBounds_toArray, List.set_cons_zero, List.set_cons_succ]; done) | (simp only [putAll, Act.put, List.setIfInBounds_toArray, List.set_cons_zero, List.set_cons_succ]; rfl)) (hJ9 () _ ⟨hHeld, (by (with_reducible repeat (first | apply Kd.R_alloc | apply Kd.R_drewN | apply Kd.R_drew)); exact HO317.out), (by (with_reducible repeat (first | refine blk_drewN ?_ _ | refine blk_drew ?_ | refine blk_alloc ?_ _)); exact BK308.out), (by repeat (first | (with_reducible first | exact HB.out | apply below_alloc | apply pw_below_drewN | apply below_drew1 | refine below_set ?_ GE308.out) | exact HB.out))⟩)
                                                      · skip
                                                        rintro _ w42 ⟨hS_, h0_, h1_, h2_⟩
                                                        have n0_ : Aside0 (Kd.R k42 42 w42 w.heap.size (fun _ => True) (.slice Ao38 y315.length co38) y315) := ⟨h0_⟩
                                                        have n1_ : Aside0 (w42.heap[gb308]? = some (.cells #[.int .i64 ((rd_T39 l1 x9_3).f0), .int .u64 ((rd_T39 l1 x9_3).f1.f0), .int .u64 ((rd_T39 l1 x9_3).f1.f1), .int .u64 ((rd_T39 l1 x9_3).f2.f0), .int .u64 ((rd_T39 l1 x9_3).f2.f1), .string ((rd_T39 l1 x9_3).f3), .bool ((rd_T39 l1 x9_3).f4)] 39 (0, 0))) := ⟨h1_⟩
                                                        have n2_ : Aside0 (Below w.heap.size w w42) := ⟨h2_⟩
                                                        clear HO317
                                                        clear BK308
                                                        clear HB
                                                        clear h0_ h1_ h2_
                                                        have HO317 := n0_
                                                        have BK308 := n1_
                                                        have HB := n2_
                                                        clear n0_ n1_ n2_
                                                        have hHeld : w42.cell? ⟨gb308, 0, none⟩ = some (.int .i64 ((rd_T39 l1 x9_3).f0)) ∧ w42.cell? ⟨gb308, 1, none⟩ = some (.int .u64 ((rd_T39 l1 x9_3).f1.f0)) ∧ w42.cell? ⟨gb308, 2, none⟩ = some (.int .u64 ((rd_T39 l1 x9_3).f1.f1)) ∧ w42.cell? ⟨gb308, 3, none⟩ = some (.int .u64 ((rd_T39 l1 x9_3).f2.f0)) ∧ w42.cell? ⟨gb308, 4, none⟩ = some (.int .u64 ((rd_T39 l1 x9_3).f2.f1)) ∧ w42.cell? ⟨gb308, 5, none⟩ = some (.string ((rd_T39 l1 x9_3).f3)) ∧ w42.cell? ⟨gb308, 6, none⟩ = some (.bool ((rd_T39 l1 x9_3).f4)) := hS_
                                                        refine norm_ (a' := ?_) ?_ ?_
                                                        rotate_left
                                                        · simp only [putAll, Act.put, List.setIfInBounds_toArray, List.set_cons_zero, List.set_cons_succ]
                                                          rfl
                                                        refine two_ (i := 5) (j := 13) (Ni := some 96) (Nj := some 104) #[true, true, true, true, true, true, false, true, true, true, false, true, true, false, false, true, false, false] #[true, true, true, true, true, false, false, true, true, true, false, true, true, true, false, true, false, false] rfl rfl rfl rfl (two_of HT_.out (by kernel_rfl)) (by decide) (by decide) (fun K hK => ?_) (fun K hK => ?_)
                                                        · skip
                                                          refine Kd.R_lit_step (Kd.int .u8) _ 5 ?hg (N := 96) ?hd (xs := ([(a0) % 256, (((rd_T39 l1 x9_3).f0)) % 256] : List Int)) (inner := [.int .u8 ((a0) % 256), .int .u8 ((((rd_T39 l1 x9_3).f0)) % 256)]) (ok := fun _ => True) (okp := fun _ => True) ?hr ?hp (fun _ hk => hk) trivial (Below.refl _ _) (Nat.le_refl _) (by simp) ?_; (case hd => rfl); (case hg => rfl); (case hr => first | (go_simp; done) | (go_simp; rfl)); (case hp => exact (Reps.one (show Kd.M (Kd.int .u8) _ _ _ ((a0) % 256) [.int .u8 ((a0) % 256)] from rfl) (Reps.one (show Kd.M (Kd.int .u8) _ _ _ ((((rd_T39 l1 x9_3).f0)) % 256) [.int .u8 ((((rd_T39 l1 x9_3).f0)) % 256)] from rfl) (Reps.none _ _))))
                                                          intro v321 w43 ho44 hb hg_ hnew_
                                                          clear hg_ hnew_
                                                          (first | rw [← Ny320.out] at ho44 | (simp only [Int.reduceToNat] at ho44; rw [← Ny320.out] at ho44))
                                                          have n0_ := Aside0.mk (Kd.R_below (by (with_reducible repeat (first | apply Kd.R_alloc | apply Kd.R_drewN | apply Kd.R_drew)); exact HO317.out) hb)
                                                          have n1_ := Aside0.mk (Kd.R_lower ho44 (below_size (by repeat (first | (with_reducible first | exact HB.out | apply below_alloc | apply pw_below_drewN | apply below_drew1 | refine below_set ?_ GE308.out) | exact HB.out))))
                                                          have n2_ := Aside0.mk (blk_below (g := gb308) (o := .cells #[.int .i64 ((rd_T39 l1 x9_3).f0), .int .u64 ((rd_T39 l1 x9_3).f1.f0), .int .u64 ((rd_T39 l1 x9_3).f1.f1), .int .u64 ((rd_T39 l1 x9_3).f2.f0), .int .u64 ((rd_T39 l1 x9_3).f2.f1), .string ((rd_T39 l1 x9_3).f3), .bool ((rd_T39 l1 x9_3).f4)] 39 (0, 0)) (by (with_reducible repeat (first | refine blk_drewN ?_ _ | refine blk_drew ?_ | refine blk_alloc ?_ _)); exact BK308.out) hb)
                                                          have n3_ := Aside0.mk (below_step (by repeat (first | (with_reducible first | exact HB.out | apply below_alloc | apply pw_below_drewN | apply below_drew1 | refine below_set ?_ GE308.out) | exact HB.out)) hb)
                                                          clear HO317
                                                          clear BK308
                                                          clear HB
                                                          have HO317 := n0_
                                                          have HO322 := n1_
                                                          have BK308 := n2_
                                                          have HB := n3_
                                                          clear n0_ n1_ n2_ n3_
                                                          clear hb ho44
                                                          refine hK.out _ _ ⟨(blk_cell BK308.out 0).trans rfl, (blk_cell BK308.out 1).trans rfl, (blk_cell BK308.out 2).trans rfl, (blk_cell BK308.out 3).trans rfl, (blk_cell BK308.out 4).trans rfl, (blk_cell BK308.out 5).trans rfl, (blk_cell BK308.out 6).trans rfl⟩ (fun hHeld => ?_)
                                                          clear hK K
                                                          refine norm_ (a' := ?_) ?_ ?_
                                                          rotate_left
                                                          · show Act.put _ (some 96) _ = _
                                                            simp only [Act.put, List.setIfInBounds_toArray, List.set_cons_zero, List.set_cons_succ, i64_w, i32_w]
                                                            rfl
                                                          exact norm_ (by first | (simp only [putAll, Act.put, List.setIfInBounds_toArray, List.set_cons_zero, List.set_cons_succ]; done) | (simp only [putAll, Act.put, List.setIfInBounds_toArray, List.set_cons_zero, List.set_cons_succ]; rfl)) (hJ5_9 (v321) _ ⟨hHeld, (by (with_reducible repeat (first | apply Kd.R_alloc | apply Kd.R_drewN | apply Kd.R_drew)); exact HO317.out), (by (with_reducible repeat (first | apply Kd.R_alloc | apply Kd.R_drewN | apply Kd.R_drew)); exact HO322.out), (by (with_reducible repeat (first | refine blk_drewN ?_ _ | refine blk_drew ?_ | refine blk_alloc ?_ _)); exact BK308.out), (by repeat (first | (with_reducible first | exact HB.out | apply below_alloc | apply pw_below_drewN | apply below_drew1 | refine below_set ?_ GE308.out) | exact HB.out))⟩)
                                                        · skip
                                                          refine goes_ Try.func27 (by kernel_rfl) rfl #[.agg #[.int .u64 ((rd_T39 l1 x9_3).f2.f0), .int .u64 ((rd_T39 l1 x9_3).f2.f1)]] (by rfl) rfl rfl (by (try simp only [List.map_toArray, List.map_cons, List.map_nil]); first | done | rfl | (simp only [List.length_drop, List.length_take]; rfl)) ?_
                                                          with_reducible refine (tenancyref04_PutAddr.calls kj17 ((rd_T39 l1 x9_3).f2.f0) ((rd_T39 l1 x9_3).f2.f1) t324 _ A34.out).mono ?_
                                                          rintro e w43 ⟨rfl, hb⟩
                                                          refine ⟨_, rfl, ?_⟩
                                                          have n0_ := Aside0.mk (Kd.R_below (by (with_reducible repeat (first | apply Kd.R_alloc | apply Kd.R_drewN | apply Kd.R_drew)); exact HO317.out) hb)
                                                          have n1_ := Aside0.mk (blk_below (g := gb308) (o := .cells #[.int .i64 ((rd_T39 l1 x9_3).f0), .int .u64 ((rd_T39 l1 x9_3).f1.f0), .int .u64 ((rd_T39 l1 x9_3).f1.f1), .int .u64 ((rd_T39 l1 x9_3).f2.f0), .int .u64 ((rd_T39 l1 x9_3).f2.f1), .string ((rd_T39 l1 x9_3).f3), .bool ((rd_T39 l1 x9_3).f4)] 39 (0, 0)) (by (with_reducible repeat (first | refine blk_drewN ?_ _ | refine blk_drew ?_ | refine blk_alloc ?_ _)); exact BK308.out) hb)
                                                          have n2_ := Aside0.mk (below_step (by repeat (first | (with_reducible first | exact HB.out | apply below_alloc | apply pw_below_drewN | apply below_drew1 | refine below_set ?_ GE308.out) | exact HB.out)) hb)
                                                          clear HO317
                                                          clear BK308
                                                          clear HB
                                                          have HO317 := n0_
                                                          have BK308 := n1_
                                                          have HB := n2_
                                                          clear n0_ n1_ n2_
                                                          (try clear hb)
                                                          (try clear hb2)
                                                          (try clear hk)
                                                          (try clear hi)
                                                          refine hK.out _ _ ⟨(blk_cell BK308.out 0).trans rfl, (blk_cell BK308.out 1).trans rfl, (blk_cell BK308.out 2).trans rfl, (blk_cell BK308.out 3).trans rfl, (blk_cell BK308.out 4).trans rfl, (blk_cell BK308.out 5).trans rfl, (blk_cell BK308.out 6).trans rfl⟩ (fun hHeld => ?_)
                                                          clear hK K
                                                          refine norm_ (a' := ?_) ?_ ?_
                                                          rotate_left
                                                          · show Act.put _ (some 104) _ = _
                                                            simp only [Act.put, List.setIfInBounds_toArray, List.set_cons_zero, List.set_cons_succ, i64_w, i32_w]
                                                            rfl
                                                          exact norm_ (by first | (simp only [putAll, Act.put, List.setIfInBounds_toArray, List.set_cons_zero, List.set_cons_succ]; done) | (simp only [putAll, Act.put, List.setIfInBounds_toArray, List.set_cons_zero, List.set_cons_succ]; rfl)) (hJ9_13 () _ ⟨hHeld, (by (with_reducible repeat (first | apply Kd.R_alloc | apply Kd.R_drewN | apply Kd.R_drew)); exact HO317.out), (by (with_reducible repeat (first | refine blk_drewN ?_ _ | refine blk_drew ?_ | refine blk_alloc ?_ _)); exact BK308.out), (by repeat (first | (with_reducible first | exact HB.out | apply below_alloc | apply pw_below_drewN | apply below_drew1 | refine below_set ?_ GE308.out) | exact HB.out))⟩)
                                                    · skip
                                                      rintro v321 w43 ⟨hS_, h0_, h1_, h2_, h3_⟩
                                                      have n0_ : Aside0 (Kd.R k42 42 w43 w.heap.size (fun _ => True) (.slice Ao38 y315.length co38) y315) := ⟨h0_⟩
                                                      have n1_ : Aside0 (Kd.R (Kd.int .u8) 5 w43 w.heap.size (fun _ => True) v321 y320) := ⟨h1_⟩
                                                      have n2_ : Aside0 (w43.heap[gb308]? = some (.cells #[.int .i64 ((rd_T39 l1 x9_3).f0), .int .u64 ((rd_T39 l1 x9_3).f1.f0), .int .u64 ((rd_T39 l1 x9_3).f1.f1), .int .u64 ((rd_T39 l1 x9_3).f2.f0), .int .u64 ((rd_T39 l1 x9_3).f2.f1), .string ((rd_T39 l1 x9_3).f3), .bool ((rd_T39 l1 x9_3).f4)] 39 (0, 0))) := ⟨h2_⟩
                                                      have n3_ : Aside0 (Below w.heap.size w w43) := ⟨h3_⟩
                                                      clear HO317
                                                      clear BK308
                                                      clear HB
                                                      clear h0_ h1_ h2_ h3_
                                                      have HO317 := n0_
                                                      have HO322 := n1_
                                                      have BK308 := n2_
                                                      have HB := n3_
                                                      clear n0_ n1_ n2_ n3_
                                                      have hHeld : w43.cell? ⟨gb308, 0, none⟩ = some (.int .i64 ((rd_T39 l1 x9_3).f0)) ∧ w43.cell? ⟨gb308, 1, none⟩ = some (.int .u64 ((rd_T39 l1 x9_3).f1.f0)) ∧ w43.cell? ⟨gb308, 2, none⟩ = some (.int .u64 ((rd_T39 l1 x9_3).f1.f1)) ∧ w43.cell? ⟨gb308, 3, none⟩ = some (.int .u64 ((rd_T39 l1 x9_3).f2.f0)) ∧ w43.cell? ⟨gb308, 4, none⟩ = some (.int .u64 ((rd_T39 l1 x9_3).f2.f1)) ∧ w43.cell? ⟨gb308, 5, none⟩ = some (.string ((rd_T39 l1 x9_3).f3)) ∧ w43.cell? ⟨gb308, 6, none⟩ = some (.bool ((rd_T39 l1 x9_3).f4)) := hS_
                                                      refine norm_ (a' := ?_) ?_ ?_
                                                      rotate_left
                                                      · simp only [putAll, Act.put, List.setIfInBounds_toArray, List.set_cons_zero, List.set_cons_succ]
                                                        rfl
                                                      refine two_ (i := 6) (j := 9) (Ni := some 97) (Nj := some 100) #[true, true, true, true, true, true, true, true, true, false, false, true, true, false, false, true, false, false] #[true, true, true, true, true, true, false, true, true, true, false, true, true, false, false, true, false, false] rfl rfl rfl rfl (two_of HT_.out (by kernel_rfl)) (by decide) (by decide) (fun K hK => ?_) (fun K hK => ?_)
                                                      · skip
                                                        have hcv44 := own_string (P := Try.prog) Try.underlying56 Try.underlying5 Try.underlying9 (Kd.own_of_R HO322.out)
                                                        refine value_ (w1 := ?_) (v := ?_) (by rfl) rfl ?_ ?_
                                                        rotate_left 2
                                                        · go_simp
                                                          constructor
                                                          · rfl
                                                          · rfl
                                                        clear hcv44
                                                        refine hK.out _ _ ⟨(blk_cell BK308.out 0).trans rfl, (blk_cell BK308.out 1).trans rfl, (blk_cell BK308.out 2).trans rfl, (blk_cell BK308.out 3).trans rfl, (blk_cell BK308.out 4).trans rfl, (blk_cell BK308.out 5).trans rfl, (blk_cell BK308.out 6).trans rfl⟩ (fun hHeld => ?_)
                                                        clear hK K
                                                        refine norm_ (a' := ?_) ?_ ?_
                                                        rotate_left
                                                        · show Act.put _ (some 97) _ = _
                                                          simp only [Act.put, List.setIfInBounds_toArray, List.set_cons_zero, List.set_cons_succ, i64_w, i32_w]
                                                          rfl
                                                        exact norm_ (by first | (simp only [putAll, Act.put, List.setIfInBounds_toArray, List.set_cons_zero, List.set_cons_succ]; done) | (simp only [putAll, Act.put, List.setIfInBounds_toArray, List.set_cons_zero, List.set_cons_succ]; rfl)) (hJ5_6 (v321) _ ⟨hHeld, (by (with_reducible repeat (first | apply Kd.R_alloc | apply Kd.R_drewN | apply Kd.R_drew)); exact HO317.out), (by (with_reducible repeat (first | apply Kd.R_alloc | apply Kd.R_drewN | apply Kd.R_drew)); exact HO322.out), (by (with_reducible repeat (first | refine blk_drewN ?_ _ | refine blk_drew ?_ | refine blk_alloc ?_ _)); exact BK308.out), (by repeat (first | (with_reducible first | exact HB.out | apply below_alloc | apply pw_below_drewN | apply below_drew1 | refine below_set ?_ GE308.out) | exact HB.out))⟩)
                                                      · skip
                                                        refine goes_ Try.func27 (by kernel_rfl) rfl #[.agg #[.int .u64 ((rd_T39 l1 x9_3).f1.f0), .int .u64 ((rd_T39 l1 x9_3).f1.f1)]] (by rfl) rfl rfl (by (try simp only [List.map_toArray, List.map_cons, List.map_nil]); first | done | rfl | (simp only [List.length_drop, List.length_take]; rfl)) ?_
                                                        with_reducible refine (tenancyref04_PutAddr.calls kj17 ((rd_T39 l1 x9_3).f1.f0) ((rd_T39 l1 x9_3).f1.f1) t323 _ A32.out).mono ?_
                                                        rintro e w44 ⟨rfl, hb⟩
                                                        refine ⟨_, rfl, ?_⟩
                                                        have n0_ := Aside0.mk (Kd.R_below (by (with_reducible repeat (first | apply Kd.R_alloc | apply Kd.R_drewN | apply Kd.R_drew)); exact HO317.out) hb)
                                                        have n1_ := Aside0.mk (Kd.R_below (by (with_reducible repeat (first | apply Kd.R_alloc | apply Kd.R_drewN | apply Kd.R_drew)); exact HO322.out) hb)
                                                        have n2_ := Aside0.mk (blk_below (g := gb308) (o := .cells #[.int .i64 ((rd_T39 l1 x9_3).f0), .int .u64 ((rd_T39 l1 x9_3).f1.f0), .int .u64 ((rd_T39 l1 x9_3).f1.f1), .int .u64 ((rd_T39 l1 x9_3).f2.f0), .int .u64 ((rd_T39 l1 x9_3).f2.f1), .string ((rd_T39 l1 x9_3).f3), .bool ((rd_T39 l1 x9_3).f4)] 39 (0, 0)) (by (with_reducible repeat (first | refine blk_drewN ?_ _ | refine blk_drew ?_ | refine blk_alloc ?_ _)); exact BK308.out) hb)
                                                        have n3_ := Aside0.mk (below_step (by repeat (first | (with_reducible first | exact HB.out | apply below_alloc | apply pw_below_drewN | apply below_drew1 | refine below_set ?_ GE308.out) | exact HB.out)) hb)
                                                        clear HO317
                                                        clear HO322
                                                        clear BK308
                                                        clear HB
                                                        have HO317 := n0_
                                                        have HO322 := n1_
                                                        have BK308 := n2_
                                                        have HB := n3_
                                                        clear n0_ n1_ n2_ n3_
                                                        (try clear hb)
                                                        (try clear hb2)
                                                        (try clear hk)
                                                        (try clear hi)
                                                        refine hK.out _ _ ⟨(blk_cell BK308.out 0).trans rfl, (blk_cell BK308.out 1).trans rfl, (blk_cell BK308.out 2).trans rfl, (blk_cell BK308.out 3).trans rfl, (blk_cell BK308.out 4).trans rfl, (blk_cell BK308.out 5).trans rfl, (blk_cell BK308.out 6).trans rfl⟩ (fun hHeld => ?_)
                                                        clear hK K
                                                        refine norm_ (a' := ?_) ?_ ?_
                                                        rotate_left
                                                        · show Act.put _ (some 100) _ = _
                                                          simp only [Act.put, List.setIfInBounds_toArray, List.set_cons_zero, List.set_cons_succ, i64_w, i32_w]
                                                          rfl
                                                        exact norm_ (by first | (simp only [putAll, Act.put, List.setIfInBounds_toArray, List.set_cons_zero, List.set_cons_succ]; done) | (simp only [putAll, Act.put, List.setIfInBounds_toArray, List.set_cons_zero, List.set_cons_succ]; rfl)) (hJ5_9 (v321) _ ⟨hHeld, (by (with_reducible repeat (first | apply Kd.R_alloc | apply Kd.R_drewN | apply Kd.R_drew)); exact HO317.out), (by (with_reducible repeat (first | apply Kd.R_alloc | apply Kd.R_drewN | apply Kd.R_drew)); exact HO322.out), (by (with_reducible repeat (first | refine blk_drewN ?_ _ | refine blk_drew ?_ | refine blk_alloc ?_ _)); exact BK308.out), (by repeat (first | (with_reducible first | exact HB.out | apply below_alloc | apply pw_below_drewN | apply below_drew1 | refine below_set ?_ GE308.out) | exact HB.out))⟩)
                                                  · skip
                                                    rintro _ w43 ⟨hS_, h0_, h1_, h2_⟩
                                                    have n0_ : Aside0 (Kd.R k42 42 w43 w.heap.size (fun _ => True) (.slice Ao38 y315.length co38) y315) := ⟨h0_⟩
                                                    have n1_ : Aside0 (w43.heap[gb308]? = some (.cells #[.int .i64 ((rd_T39 l1 x9_3).f0), .int .u64 ((rd_T39 l1 x9_3).f1.f0), .int .u64 ((rd_T39 l1 x9_3).f1.f1), .int .u64 ((rd_T39 l1 x9_3).f2.f0), .int .u64 ((rd_T39 l1 x9_3).f2.f1), .string ((rd_T39 l1 x9_3).f3), .bool ((rd_T39 l1 x9_3).f4)] 39 (0, 0))) := ⟨h1_⟩
                                                    have n2_ : Aside0 (Below w.heap.size w w43) := ⟨h2_⟩
                                                    clear HO317
                                                    clear BK308
                                                    clear HB
                                                    clear h0_ h1_ h2_
                                                    have HO317 := n0_
                                                    have BK308 := n1_
                                                    have HB := n2_
                                                    clear n0_ n1_ n2_
                                                    have hHeld : w43.cell? ⟨gb308, 0, none⟩ = some (.int .i64 ((rd_T39 l1 x9_3).f0)) ∧ w43.cell? ⟨gb308, 1, none⟩ = some (.int .u64 ((rd_T39 l1 x9_3).f1.f0)) ∧ w43.cell? ⟨gb308, 2, none⟩ = some (.int .u64 ((rd_T39 l1 x9_3).f1.f1)) ∧ w43.cell? ⟨gb308, 3, none⟩ = some (.int .u64 ((rd_T39 l1 x9_3).f2.f0)) ∧ w43.cell? ⟨gb308, 4, none⟩ = some (.int .u64 ((rd_T39 l1 x9_3).f2.f1)) ∧ w43.cell? ⟨gb308, 5, none⟩ = some (.string ((rd_T39 l1 x9_3).f3)) ∧ w43.cell? ⟨gb308, 6, none⟩ = some (.bool ((rd_T39 l1 x9_3).f4)) := hS_
                                                    refine norm_ (a' := ?_) ?_ ?_
                                                    rotate_left
                                                    · simp only [putAll, Act.put, List.setIfInBounds_toArray, List.set_cons_zero, List.set_cons_succ]
                                                      rfl
                                                    refine one_ (i := 5) (N := some 96) #[true, true, true, true, true, true, false, true, true, true, false, true, true, true, false, true, false, false] rfl rfl (one_of HT_.out (by kernel_rfl)) (by decide) (fun K hK => ?_)
                                                    refine Kd.R_lit_step (Kd.int .u8) _ 5 ?hg (N := 96) ?hd (xs := ([(a0) % 256, (((rd_T39 l1 x9_3).f0)) % 256] : List Int)) (inner := [.int .u8 ((a0) % 256), .int .u8 ((((rd_T39 l1 x9_3).f0)) % 256)]) (ok := fun _ => True) (okp := fun _ => True) ?hr ?hp (fun _ hk => hk) trivial (Below.refl _ _) (Nat.le_refl _) (by simp) ?_; (case hd => rfl); (case hg => rfl); (case hr => first | (go_simp; done) | (go_simp; rfl)); (case hp => exact (Reps.one (show Kd.M (Kd.int .u8) _ _ _ ((a0) % 256) [.int .u8 ((a0) % 256)] from rfl) (Reps.one (show Kd.M (Kd.int .u8) _ _ _ ((((rd_T39 l1 x9_3).f0)) % 256) [.int .u8 ((((rd_T39 l1 x9_3).f0)) % 256)] from rfl) (Reps.none _ _))))
                                                    intro v321 w44 ho45 hb hg_ hnew_
                                                    clear hg_ hnew_
                                                    (first | rw [← Ny320.out] at ho45 | (simp only [Int.reduceToNat] at ho45; rw [← Ny320.out] at ho45))
                                                    have n0_ := Aside0.mk (Kd.R_below (by (with_reducible repeat (first | apply Kd.R_alloc | apply Kd.R_drewN | apply Kd.R_drew)); exact HO317.out) hb)
                                                    have n1_ := Aside0.mk (Kd.R_lower ho45 (below_size (by repeat (first | (with_reducible first | exact HB.out | apply below_alloc | apply pw_below_drewN | apply below_drew1 | refine below_set ?_ GE308.out) | exact HB.out))))
                                                    have n2_ := Aside0.mk (blk_below (g := gb308) (o := .cells #[.int .i64 ((rd_T39 l1 x9_3).f0), .int .u64 ((rd_T39 l1 x9_3).f1.f0), .int .u64 ((rd_T39 l1 x9_3).f1.f1), .int .u64 ((rd_T39 l1 x9_3).f2.f0), .int .u64 ((rd_T39 l1 x9_3).f2.f1), .string ((rd_T39 l1 x9_3).f3), .bool ((rd_T39 l1 x9_3).f4)] 39 (0, 0)) (by (with_reducible repeat (first | refine blk_drewN ?_ _ | refine blk_drew ?_ | refine blk_alloc ?_ _)); exact BK308.out) hb)
                                                    have n3_ := Aside0.mk (below_step (by repeat (first | (with_reducible first | exact HB.out | apply below_alloc | apply pw_below_drewN | apply below_drew1 | refine below_set ?_ GE308.out) | exact HB.out)) hb)
                                                    clear HO317
                                                    clear BK308
                                                    clear HB
                                                    have HO317 := n0_
                                                    have HO322 := n1_
                                                    have BK308 := n2_
                                                    have HB := n3_
                                                    clear n0_ n1_ n2_ n3_
                                                    clear hb ho45
                                                    refine hK.out _ _ ⟨(blk_cell BK308.out 0).trans rfl, (blk_cell BK308.out 1).trans rfl, (blk_cell BK308.out 2).trans rfl, (blk_cell BK308.out 3).trans rfl, (blk_cell BK308.out 4).trans rfl, (blk_cell BK308.out 5).trans rfl, (blk_cell BK308.out 6).trans rfl⟩ (fun hHeld => ?_)
                                                    clear hK K
                                                    refine norm_ (a' := ?_) ?_ ?_
                                                    rotate_left
                                                    · show Act.put _ (some 96) _ = _
                                                      simp only [Act.put, List.setIfInBounds_toArray, List.set_cons_zero, List.set_cons_succ, i64_w, i32_w]
                                                      rfl
                                                    exact norm_ (by first | (simp only [putAll, Act.put, List.setIfInBounds_toArray, List.set_cons_zero, List.set_cons_succ]; done) | (simp only [putAll, Act.put, List.setIfInBounds_toArray, List.set_cons_zero, List.set_cons_succ]; rfl)) (hJ5_9_13 (v321) _ ⟨hHeld, (by (with_reducible repeat (first | apply Kd.R_alloc | apply Kd.R_drewN | apply Kd.R_drew)); exact HO317.out), (by (with_reducible repeat (first | apply Kd.R_alloc | apply Kd.R_drewN | apply Kd.R_drew)); exact HO322.out), (by (with_reducible repeat (first | refine blk_drewN ?_ _ | refine blk_drew ?_ | refine blk_alloc ?_ _)); exact BK308.out), (by repeat (first | (with_reducible first | exact HB.out | apply below_alloc | apply pw_below_drewN | apply below_drew1 | refine below_set ?_ GE308.out) | exact HB.out))⟩)
                                                · skip
                                                  rintro v321 w44 ⟨hS_, h0_, h1_, h2_, h3_⟩
                                                  have n0_ : Aside0 (Kd.R k42 42 w44 w.heap.size (fun _ => True) (.slice Ao38 y315.length co38) y315) := ⟨h0_⟩
                                                  have n1_ : Aside0 (Kd.R (Kd.int .u8) 5 w44 w.heap.size (fun _ => True) v321 y320) := ⟨h1_⟩
                                                  have n2_ : Aside0 (w44.heap[gb308]? = some (.cells #[.int .i64 ((rd_T39 l1 x9_3).f0), .int .u64 ((rd_T39 l1 x9_3).f1.f0), .int .u64 ((rd_T39 l1 x9_3).f1.f1), .int .u64 ((rd_T39 l1 x9_3).f2.f0), .int .u64 ((rd_T39 l1 x9_3).f2.f1), .string ((rd_T39 l1 x9_3).f3), .bool ((rd_T39 l1 x9_3).f4)] 39 (0, 0))) := ⟨h2_⟩
                                                  have n3_ : Aside0 (Below w.heap.size w w44) := ⟨h3_⟩
                                                  clear HO317
                                                  clear BK308
                                                  clear HB
                                                  clear h0_ h1_ h2_ h3_
                                                  have HO317 := n0_
                                                  have HO322 := n1_
                                                  have BK308 := n2_
                                                  have HB := n3_
                                                  clear n0_ n1_ n2_ n3_
                                                  have hHeld : w44.cell? ⟨gb308, 0, none⟩ = some (.int .i64 ((rd_T39 l1 x9_3).f0)) ∧ w44.cell? ⟨gb308, 1, none⟩ = some (.int .u64 ((rd_T39 l1 x9_3).f1.f0)) ∧ w44.cell? ⟨gb308, 2, none⟩ = some (.int .u64 ((rd_T39 l1 x9_3).f1.f1)) ∧ w44.cell? ⟨gb308, 3, none⟩ = some (.int .u64 ((rd_T39 l1 x9_3).f2.f0)) ∧ w44.cell? ⟨gb308, 4, none⟩ = some (.int .u64 ((rd_T39 l1 x9_3).f2.f1)) ∧ w44.cell? ⟨gb308, 5, none⟩ = some (.string ((rd_T39 l1 x9_3).f3)) ∧ w44.cell? ⟨gb308, 6, none⟩ = some (.bool ((rd_T39 l1 x9_3).f4)) := hS_
                                                  refine norm_ (a' := ?_) ?_ ?_
                                                  rotate_left
                                                  · simp only [putAll, Act.put, List.setIfInBounds_toArray, List.set_cons_zero, List.set_cons_succ]
                                                    rfl
                                                  refine two_ (i := 6) (j := 13) (Ni := some 97) (Nj := some 104) #[true, true, true, true, true, true, true, true, true, true, false, true, true, false, false, true, false, false] #[true, true, true, true, true, true, false, true, true, true, false, true, true, true, false, true, false, false] rfl rfl rfl rfl (two_of HT_.out (by kernel_rfl)) (by decide) (by decide) (fun K hK => ?_) (fun K hK => ?_)
                                                  · skip
                                                    have hcv45 := own_string (P := Try.prog) Try.underlying56 Try.underlying5 Try.underlying9 (Kd.own_of_R HO322.out)
                                                    refine value_ (w1 := ?_) (v := ?_) (by rfl) rfl ?_ ?_
                                                    rotate_left 2
                                                    · go_simp
                                                      constructor
                                                      · rfl
                                                      · rfl
                                                    clear hcv45
                                                    refine hK.out _ _ ⟨(blk_cell BK308.out 0).trans rfl, (blk_cell BK308.out 1).trans rfl, (blk_cell BK308.out 2).trans rfl, (blk_cell BK308.out 3).trans rfl, (blk_cell BK308.out 4).trans rfl, (blk_cell BK308.out 5).trans rfl, (blk_cell BK308.out 6).trans rfl⟩ (fun hHeld => ?_)
                                                    clear hK K
                                                    refine norm_ (a' := ?_) ?_ ?_
                                                    rotate_left
                                                    · show Act.put _ (some 97) _ = _
                                                      simp only [Act.put, List.setIfInBounds_toArray, List.set_cons_zero, List.set_cons_succ, i64_w, i32_w]
                                                      rfl
                                                    refine pure_ (i := 10) (N := some 101) (v := ?_) (a' := ?_) #[true, true, true, true, true, true, true, true, true, true, true, true, true, false, false, true, false, false] rfl rfl (any_of HT_.out (by kernel_rfl)) (fun _ _ _ h => h) (Or.inl ⟨by rfl, ?_⟩) ?_ ?_
                                                    rotate_left
                                                    · intro w'
                                                      go_simp
                                                      with_reducible rfl
                                                    rotate_left
                                                    · simp only [Act.put, List.setIfInBounds_toArray, List.set_cons_zero, List.set_cons_succ, i64_w, i32_w]
                                                      rfl
                                                    exact norm_ (by first | (simp only [putAll, Act.put, List.setIfInBounds_toArray, List.set_cons_zero, List.set_cons_succ]; done) | (simp only [putAll, Act.put, List.setIfInBounds_toArray, List.set_cons_zero, List.set_cons_succ]; rfl)) (hJ5_6_9 (v321) _ ⟨hHeld, (by (with_reducible repeat (first | apply Kd.R_alloc | apply Kd.R_drewN | apply Kd.R_drew)); exact HO317.out), (by (with_reducible repeat (first | apply Kd.R_alloc | apply Kd.R_drewN | apply Kd.R_drew)); exact HO322.out), (by (with_reducible repeat (first | refine blk_drewN ?_ _ | refine blk_drew ?_ | refine blk_alloc ?_ _)); exact BK308.out), (by repeat (first | (with_reducible first | exact HB.out | apply below_alloc | apply pw_below_drewN | apply below_drew1 | refine below_set ?_ GE308.out) | exact HB.out))⟩)
                                                  · skip
                                                    refine goes_ Try.func27 (by kernel_rfl) rfl #[.agg #[.int .u64 ((rd_T39 l1 x9_3).f2.f0), .int .u64 ((rd_T39 l1 x9_3).f2.f1)]] (by rfl) rfl rfl (by (try simp only [List.map_toArray, List.map_cons, List.map_nil]); first | done | rfl | (simp only [List.length_drop, List.length_take]; rfl)) ?_
                                                    with_reducible refine (tenancyref04_PutAddr.calls kj17 ((rd_T39 l1 x9_3).f2.f0) ((rd_T39 l1 x9_3).f2.f1) t324 _ A34.out).mono ?_
                                                    rintro e w45 ⟨rfl, hb⟩
                                                    refine ⟨_, rfl, ?_⟩
                                                    have n0_ := Aside0.mk (Kd.R_below (by (with_reducible repeat (first | apply Kd.R_alloc | apply Kd.R_drewN | apply Kd.R_drew)); exact HO317.out) hb)
                                                    have n1_ := Aside0.mk (Kd.R_below (by (with_reducible repeat (first | apply Kd.R_alloc | apply Kd.R_drewN | apply Kd.R_drew)); exact HO322.out) hb)
                                                    have n2_ := Aside0.mk (blk_below (g := gb308) (o := .cells #[.int .i64 ((rd_T39 l1 x9_3).f0), .int .u64 ((rd_T39 l1 x9_3).f1.f0), .int .u64 ((rd_T39 l1 x9_3).f1.f1), .int .u64 ((rd_T39 l1 x9_3).f2.f0), .int .u64 ((rd_T39 l1 x9_3).f2.f1), .string ((rd_T39 l1 x9_3).f3), .bool ((rd_T39 l1 x9_3).f4)] 39 (0, 0)) (by (with_reducible repeat (first | refine blk_drewN ?_ _ | refine blk_drew ?_ | refine blk_alloc ?_ _)); exact BK308.out) hb)
                                                    have n3_ := Aside0.mk (below_step (by repeat (first | (with_reducible first | exact HB.out | apply below_alloc | apply pw_below_drewN | apply below_drew1 | refine below_set ?_ GE308.out) | exact HB.out)) hb)
                                                    clear HO317
                                                    clear HO322
                                                    clear BK308
                                                    clear HB
                                                    have HO317 := n0_
                                                    have HO322 := n1_
                                                    have BK308 := n2_
                                                    have HB := n3_
                                                    clear n0_ n1_ n2_ n3_
                                                    (try clear hb)
                                                    (try clear hb2)
                                                    (try clear hk)
                                                    (try clear hi)
                                                    refine hK.out _ _ ⟨(blk_cell BK308.out 0).trans rfl, (blk_cell BK308.out 1).trans rfl, (blk_cell BK308.out 2).trans rfl, (blk_cell BK308.out 3).trans rfl, (blk_cell BK308.out 4).trans rfl, (blk_cell BK308.out 5).trans rfl, (blk_cell BK308.out 6).trans rfl⟩ (fun hHeld => ?_)
                                                    clear hK K
                                                    refine norm_ (a' := ?_) ?_ ?_
                                                    rotate_left
                                                    · show Act.put _ (some 104) _ = _
                                                      simp only [Act.put, List.setIfInBounds_toArray, List.set_cons_zero, List.set_cons_succ, i64_w, i32_w]
                                                      rfl
                                                    exact norm_ (by first | (simp only [putAll, Act.put, List.setIfInBounds_toArray, List.set_cons_zero, List.set_cons_succ]; done) | (simp only [putAll, Act.put, List.setIfInBounds_toArray, List.set_cons_zero, List.set_cons_succ]; rfl)) (hJ5_9_13 (v321) _ ⟨hHeld, (by (with_reducible repeat (first | apply Kd.R_alloc | apply Kd.R_drewN | apply Kd.R_drew)); exact HO317.out), (by (with_reducible repeat (first | apply Kd.R_alloc | apply Kd.R_drewN | apply Kd.R_drew)); exact HO322.out), (by (with_reducible repeat (first | refine blk_drewN ?_ _ | refine blk_drew ?_ | refine blk_alloc ?_ _)); exact BK308.out), (by repeat (first | (with_reducible first | exact HB.out | apply below_alloc | apply pw_below_drewN | apply below_drew1 | refine below_set ?_ GE308.out) | exact HB.out))⟩)
                                              · skip
                                                rintro v321 w44 ⟨hS_, h0_, h1_, h2_, h3_⟩
                                                have n0_ : Aside0 (Kd.R k42 42 w44 w.heap.size (fun _ => True) (.slice Ao38 y315.length co38) y315) := ⟨h0_⟩
                                                have n1_ : Aside0 (Kd.R (Kd.int .u8) 5 w44 w.heap.size (fun _ => True) v321 y320) := ⟨h1_⟩
                                                have n2_ : Aside0 (w44.heap[gb308]? = some (.cells #[.int .i64 ((rd_T39 l1 x9_3).f0), .int .u64 ((rd_T39 l1 x9_3).f1.f0), .int .u64 ((rd_T39 l1 x9_3).f1.f1), .int .u64 ((rd_T39 l1 x9_3).f2.f0), .int .u64 ((rd_T39 l1 x9_3).f2.f1), .string ((rd_T39 l1 x9_3).f3), .bool ((rd_T39 l1 x9_3).f4)] 39 (0, 0))) := ⟨h2_⟩
                                                have n3_ : Aside0 (Below w.heap.size w w44) := ⟨h3_⟩
                                                clear HO317
                                                clear BK308
                                                clear HB
                                                clear h0_ h1_ h2_ h3_
                                                have HO317 := n0_
                                                have HO322 := n1_
                                                have BK308 := n2_
                                                have HB := n3_
                                                clear n0_ n1_ n2_ n3_
                                                have hHeld : w44.cell? ⟨gb308, 0, none⟩ = some (.int .i64 ((rd_T39 l1 x9_3).f0)) ∧ w44.cell? ⟨gb308, 1, none⟩ = some (.int .u64 ((rd_T39 l1 x9_3).f1.f0)) ∧ w44.cell? ⟨gb308, 2, none⟩ = some (.int .u64 ((rd_T39 l1 x9_3).f1.f1)) ∧ w44.cell? ⟨gb308, 3, none⟩ = some (.int .u64 ((rd_T39 l1 x9_3).f2.f0)) ∧ w44.cell? ⟨gb308, 4, none⟩ = some (.int .u64 ((rd_T39 l1 x9_3).f2.f1)) ∧ w44.cell? ⟨gb308, 5, none⟩ = some (.string ((rd_T39 l1 x9_3).f3)) ∧ w44.cell? ⟨gb308, 6, none⟩ = some (.bool ((rd_T39 l1 x9_3).f4)) := hS_
                                                refine norm_ (a' := ?_) ?_ ?_
                                                rotate_left
                                                · simp only [putAll, Act.put, List.setIfInBounds_toArray, List.set_cons_zero, List.set_cons_succ]
                                                  rfl
                                                refine one_ (i := 9) (N := some 100) #[true, true, true, true, true, true, true, true, true, true, false, true, true, false, false, true, false, false] rfl rfl (one_of HT_.out (by kernel_rfl)) (by decide) (fun K hK => ?_)
                                                refine goes_ Try.func27 (by kernel_rfl) rfl #[.agg #[.int .u64 ((rd_T39 l1 x9_3).f1.f0), .int .u64 ((rd_T39 l1 x9_3).f1.f1)]] (by rfl) rfl rfl (by (try simp only [List.map_toArray, List.map_cons, List.map_nil]); first | done | rfl | (simp only [List.length_drop, List.length_take]; rfl)) ?_
                                                with_reducible refine (tenancyref04_PutAddr.calls kj17 ((rd_T39 l1 x9_3).f1.f0) ((rd_T39 l1 x9_3).f1.f1) t323 _ A32.out).mono ?_
                                                rintro e w45 ⟨rfl, hb⟩
                                                refine ⟨_, rfl, ?_⟩
                                                have n0_ := Aside0.mk (Kd.R_below (by (with_reducible repeat (first | apply Kd.R_alloc | apply Kd.R_drewN | apply Kd.R_drew)); exact HO317.out) hb)
                                                have n1_ := Aside0.mk (Kd.R_below (by (with_reducible repeat (first | apply Kd.R_alloc | apply Kd.R_drewN | apply Kd.R_drew)); exact HO322.out) hb)
                                                have n2_ := Aside0.mk (blk_below (g := gb308) (o := .cells #[.int .i64 ((rd_T39 l1 x9_3).f0), .int .u64 ((rd_T39 l1 x9_3).f1.f0), .int .u64 ((rd_T39 l1 x9_3).f1.f1), .int .u64 ((rd_T39 l1 x9_3).f2.f0), .int .u64 ((rd_T39 l1 x9_3).f2.f1), .string ((rd_T39 l1 x9_3).f3), .bool ((rd_T39 l1 x9_3).f4)] 39 (0, 0)) (by (with_reducible repeat (first | refine blk_drewN ?_ _ | refine blk_drew ?_ | refine blk_alloc ?_ _)); exact BK308.out) hb)
                                                have n3_ := Aside0.mk (below_step (by repeat (first | (with_reducible first | exact HB.out | apply below_alloc | apply pw_below_drewN | apply below_drew1 | refine below_set ?_ GE308.out) | exact HB.out)) hb)
                                                clear HO317
                                                clear HO322
                                                clear BK308
                                                clear HB
                                                have HO317 := n0_
                                                have HO322 := n1_
                                                have BK308 := n2_
                                                have HB := n3_
                                                clear n0_ n1_ n2_ n3_
                                                (try clear hb)
                                                (try clear hb2)
                                                (try clear hk)
                                                (try clear hi)
                                                refine hK.out _ _ ⟨(blk_cell BK308.out 0).trans rfl, (blk_cell BK308.out 1).trans rfl, (blk_cell BK308.out 2).trans rfl, (blk_cell BK308.out 3).trans rfl, (blk_cell BK308.out 4).trans rfl, (blk_cell BK308.out 5).trans rfl, (blk_cell BK308.out 6).trans rfl⟩ (fun hHeld => ?_)
                                                clear hK K
                                                refine norm_ (a' := ?_) ?_ ?_
                                                rotate_left
                                                · show Act.put _ (some 100) _ = _
                                                  simp only [Act.put, List.setIfInBounds_toArray, List.set_cons_zero, List.set_cons_succ, i64_w, i32_w]
                                                  rfl
                                                refine pure_ (i := 10) (N := some 101) (v := ?_) (a' := ?_) #[true, true, true, true, true, true, true, true, true, true, true, true, true, false, false, true, false, false] rfl rfl (any_of HT_.out (by kernel_rfl)) (fun _ _ _ h => h) (Or.inl ⟨by rfl, ?_⟩) ?_ ?_
                                                rotate_left
                                                · intro w'
                                                  go_simp
                                                  with_reducible rfl
                                                rotate_left
                                                · simp only [Act.put, List.setIfInBounds_toArray, List.set_cons_zero, List.set_cons_succ, i64_w, i32_w]
                                                  rfl
                                                exact norm_ (by first | (simp only [putAll, Act.put, List.setIfInBounds_toArray, List.set_cons_zero, List.set_cons_succ]; done) | (simp only [putAll, Act.put, List.setIfInBounds_toArray, List.set_cons_zero, List.set_cons_succ]; rfl)) (hJ5_6_9 (v321) _ ⟨hHeld, (by (with_reducible repeat (first | apply Kd.R_alloc | apply Kd.R_drewN | apply Kd.R_drew)); exact HO317.out), (by (with_reducible repeat (first | apply Kd.R_alloc | apply Kd.R_drewN | apply Kd.R_drew)); exact HO322.out), (by (with_reducible repeat (first | refine blk_drewN ?_ _ | refine blk_drew ?_ | refine blk_alloc ?_ _)); exact BK308.out), (by repeat (first | (with_reducible first | exact HB.out | apply below_alloc | apply pw_below_drewN | apply below_drew1 | refine below_set ?_ GE308.out) | exact HB.out))⟩)
                                            · skip
                                              rintro v321 w45 ⟨hS_, h0_, h1_, h2_, h3_⟩
                                              have n0_ : Aside0 (Kd.R k42 42 w45 w.heap.size (fun _ => True) (.slice Ao38 y315.length co38) y315) := ⟨h0_⟩
                                              have n1_ : Aside0 (Kd.R (Kd.int .u8) 5 w45 w.heap.size (fun _ => True) v321 y320) := ⟨h1_⟩
                                              have n2_ : Aside0 (w45.heap[gb308]? = some (.cells #[.int .i64 ((rd_T39 l1 x9_3).f0), .int .u64 ((rd_T39 l1 x9_3).f1.f0), .int .u64 ((rd_T39 l1 x9_3).f1.f1), .int .u64 ((rd_T39 l1 x9_3).f2.f0), .int .u64 ((rd_T39 l1 x9_3).f2.f1), .string ((rd_T39 l1 x9_3).f3), .bool ((rd_T39 l1 x9_3).f4)] 39 (0, 0))) := ⟨h2_⟩
                                              have n3_ : Aside0 (Below w.heap.size w w45) := ⟨h3_⟩
                                              clear HO317
                                              clear BK308
                                              clear HB
                                              clear h0_ h1_ h2_ h3_
                                              have HO317 := n0_
                                              have HO322 := n1_
                                              have BK308 := n2_
                                              have HB := n3_
                                              clear n0_ n1_ n2_ n3_
                                              have hHeld : w45.cell? ⟨gb308, 0, none⟩ = some (.int .i64 ((rd_T39 l1 x9_3).f0)) ∧ w45.cell? ⟨gb308, 1, none⟩ = some (.int .u64 ((rd_T39 l1 x9_3).f1.f0)) ∧ w45.cell? ⟨gb308, 2, none⟩ = some (.int .u64 ((rd_T39 l1 x9_3).f1.f1)) ∧ w45.cell? ⟨gb308, 3, none⟩ = some (.int .u64 ((rd_T39 l1 x9_3).f2.f0)) ∧ w45.cell? ⟨gb308, 4, none⟩ = some (.int .u64 ((rd_T39 l1 x9_3).f2.f1)) ∧ w45.cell? ⟨gb308, 5, none⟩ = some (.string ((rd_T39 l1 x9_3).f3)) ∧ w45.cell? ⟨gb308, 6, none⟩ = some (.bool ((rd_T39 l1 x9_3).f4)) := hS_
                                              refine norm_ (a' := ?_) ?_ ?_
                                              rotate_left
                                              · simp only [putAll, Act.put, List.setIfInBounds_toArray, List.set_cons_zero, List.set_cons_succ]
                                                rfl
                                              refine one_ (i := 6) (N := some 97) #[true, true, true, true, true, true, true, true, true, true, false, true, true, true, false, true, false, false] rfl rfl (one_of HT_.out (by kernel_rfl)) (by decide) (fun K hK => ?_)
                                              have hcv46 := own_string (P := Try.prog) Try.underlying56 Try.underlying5 Try.underlying9 (Kd.own_of_R HO322.out)
                                              refine value_ (w1 := ?_) (v := ?_) (by rfl) rfl ?_ ?_
                                              rotate_left 2
                                              · go_simp
                                                constructor
                                                · rfl
                                                · rfl
                                              clear hcv46
                                              refine hK.out _ _ ⟨(blk_cell BK308.out 0).trans rfl, (blk_cell BK308.out 1).trans rfl, (blk_cell BK308.out 2).trans rfl, (blk_cell BK308.out 3).trans rfl, (blk_cell BK308.out 4).trans rfl, (blk_cell BK308.out 5).trans rfl, (blk_cell BK308.out 6).trans rfl⟩ (fun hHeld => ?_)
                                              clear hK K
                                              refine norm_ (a' := ?_) ?_ ?_
                                              rotate_left
                                              · show Act.put _ (some 97) _ = _
                                                simp only [Act.put, List.setIfInBounds_toArray, List.set_cons_zero, List.set_cons_succ, i64_w, i32_w]
                                                rfl
                                              refine pure_ (i := 10) (N := some 101) (v := ?_) (a' := ?_) #[true, true, true, true, true, true, true, true, true, true, true, true, true, true, false, true, false, false] rfl rfl (any_of HT_.out (by kernel_rfl)) (fun _ _ _ h => h) (Or.inl ⟨by rfl, ?_⟩) ?_ ?_
                                              rotate_left
                                              · intro w'
                                                go_simp
                                                with_reducible rfl
                                              rotate_left
                                              · simp only [Act.put, List.setIfInBounds_toArray, List.set_cons_zero, List.set_cons_succ, i64_w, i32_w]
                                                rfl
                                              exact norm_ (by first | (simp only [putAll, Act.put, List.setIfInBounds_toArray, List.set_cons_zero, List.set_cons_succ]; done) | (simp only [putAll, Act.put, List.setIfInBounds_toArray, List.set_cons_zero, List.set_cons_succ]; rfl)) (hJ5_6_9_13 (v321) _ ⟨hHeld, (by (with_reducible repeat (first | apply Kd.R_alloc | apply Kd.R_drewN | apply Kd.R_drew)); exact HO317.out), (by (with_reducible repeat (first | apply Kd.R_alloc | apply Kd.R_drewN | apply Kd.R_drew)); exact HO322.out), (by (with_reducible repeat (first | refine blk_drewN ?_ _ | refine blk_drew ?_ | refine blk_alloc ?_ _)); exact BK308.out), (by repeat (first | (with_reducible first | exact HB.out | apply below_alloc | apply pw_below_drewN | apply below_drew1 | refine below_set ?_ GE308.out) | exact HB.out))⟩)
                                          · skip
                                            rintro v321 w45 ⟨hS_, h0_, h1_, h2_, h3_⟩
                                            have n0_ : Aside0 (Kd.R k42 42 w45 w.heap.size (fun _ => True) (.slice Ao38 y315.length co38) y315) := ⟨h0_⟩
                                            have n1_ : Aside0 (Kd.R (Kd.int .u8) 5 w45 w.heap.size (fun _ => True) v321 y320) := ⟨h1_⟩
                                            have n2_ : Aside0 (w45.heap[gb308]? = some (.cells #[.int .i64 ((rd_T39 l1 x9_3).f0), .int .u64 ((rd_T39 l1 x9_3).f1.f0), .int .u64 ((rd_T39 l1 x9_3).f1.f1), .int .u64 ((rd_T39 l1 x9_3).f2.f0), .int .u64 ((rd_T39 l1 x9_3).f2.f1), .string ((rd_T39 l1 x9_3).f3), .bool ((rd_T39 l1 x9_3).f4)] 39 (0, 0))) := ⟨h2_⟩
                                            have n3_ : Aside0 (Below w.heap.size w w45) := ⟨h3_⟩
                                            clear HO317
                                            clear BK308
                                            clear HB
                                            clear h0_ h1_ h2_ h3_
                                            have HO317 := n0_
                                            have HO322 := n1_
                                            have BK308 := n2_
                                            have HB := n3_
                                            clear n0_ n1_ n2_ n3_
                                            have hHeld : w45.cell? ⟨gb308, 0, none⟩ = some (.int .i64 ((rd_T39 l1 x9_3).f0)) ∧ w45.cell? ⟨gb308, 1, none⟩ = some (.int .u64 ((rd_T39 l1 x9_3).f1.f0)) ∧ w45.cell? ⟨gb308, 2, none⟩ = some (.int .u64 ((rd_T39 l1 x9_3).f1.f1)) ∧ w45.cell? ⟨gb308, 3, none⟩ = some (.int .u64 ((rd_T39 l1 x9_3).f2.f0)) ∧ w45.cell? ⟨gb308, 4, none⟩ = some (.int .u64 ((rd_T39 l1 x9_3).f2.f1)) ∧ w45.cell? ⟨gb308, 5, none⟩ = some (.string ((rd_T39 l1 x9_3).f3)) ∧ w45.cell? ⟨gb308, 6, none⟩ = some (.bool ((rd_T39 l1 x9_3).f4)) := hS_
                                            refine norm_ (a' := ?_) ?_ ?_
                                            rotate_left
                                            · simp only [putAll, Act.put, List.setIfInBounds_toArray, List.set_cons_zero, List.set_cons_succ]
                                              rfl
                                            refine one_ (i := 13) (N := some 104) #[true, true, true, true, true, true, true, true, true, true, true, true, true, true, false, true, false, false] rfl rfl (one_of HT_.out (by kernel_rfl)) (by decide) (fun K hK => ?_)
                                            refine goes_ Try.func27 (by kernel_rfl) rfl #[.agg #[.int .u64 ((rd_T39 l1 x9_3).f2.f0), .int .u64 ((rd_T39 l1 x9_3).f2.f1)]] (by rfl) rfl rfl (by (try simp only [List.map_toArray, List.map_cons, List.map_nil]); first | done | rfl | (simp only [List.length_drop, List.length_take]; rfl)) ?_
                                            with_reducible refine (tenancyref04_PutAddr.calls kj17 ((rd_T39 l1 x9_3).f2.f0) ((rd_T39 l1 x9_3).f2.f1) t324 _ A34.out).mono ?_
                                            rintro e w46 ⟨rfl, hb⟩
                                            refine ⟨_, rfl, ?_⟩
                                            have n0_ := Aside0.mk (Kd.R_below (by (with_reducible repeat (first | apply Kd.R_alloc | apply Kd.R_drewN | apply Kd.R_drew)); exact HO317.out) hb)
                                            have n1_ := Aside0.mk (Kd.R_below (by (with_reducible repeat (first | apply Kd.R_alloc | apply Kd.R_drewN | apply Kd.R_drew)); exact HO322.out) hb)
                                            have n2_ := Aside0.mk (blk_below (g := gb308) (o := .cells #[.int .i64 ((rd_T39 l1 x9_3).f0), .int .u64 ((rd_T39 l1 x9_3).f1.f0), .int .u64 ((rd_T39 l1 x9_3).f1.f1), .int .u64 ((rd_T39 l1 x9_3).f2.f0), .int .u64 ((rd_T39 l1 x9_3).f2.f1), .string ((rd_T39 l1 x9_3).f3), .bool ((rd_T39 l1 x9_3).f4)] 39 (0, 0)) (by (with_reducible repeat (first | refine blk_drewN ?_ _ | refine blk_drew ?_ | refine blk_alloc ?_ _)); exact BK308.out) hb)
                                            have n3_ := Aside0.mk (below_step (by repeat (first | (with_reducible first | exact HB.out | apply below_alloc | apply pw_below_drewN | apply below_drew1 | refine below_set ?_ GE308.out) | exact HB.out)) hb)
                                            clear HO317
                                            clear HO322
                                            clear BK308
                                            clear HB
                                            have HO317 := n0_
                                            have HO322 := n1_
                                            have BK308 := n2_
                                            have HB := n3_
                                            clear n0_ n1_ n2_ n3_
                                            (try clear hb)
                                            (try clear hb2)
                                            (try clear hk)
                                            (try clear hi)
                                            refine hK.out _ _ ⟨(blk_cell BK308.out 0).trans rfl, (blk_cell BK308.out 1).trans rfl, (blk_cell BK308.out 2).trans rfl, (blk_cell BK308.out 3).trans rfl, (blk_cell BK308.out 4).trans rfl, (blk_cell BK308.out 5).trans rfl, (blk_cell BK308.out 6).trans rfl⟩ (fun hHeld => ?_)
                                            clear hK K
                                            refine norm_ (a' := ?_) ?_ ?_
                                            rotate_left
                                            · show Act.put _ (some 104) _ = _
                                              simp only [Act.put, List.setIfInBounds_toArray, List.set_cons_zero, List.set_cons_succ, i64_w, i32_w]
                                              rfl
                                            exact norm_ (by first | (simp only [putAll, Act.put, List.setIfInBounds_toArray, List.set_cons_zero, List.set_cons_succ]; done) | (simp only [putAll, Act.put, List.setIfInBounds_toArray, List.set_cons_zero, List.set_cons_succ]; rfl)) (hJ5_6_9_13 (v321) _ ⟨hHeld, (by (with_reducible repeat (first | apply Kd.R_alloc | apply Kd.R_drewN | apply Kd.R_drew)); exact HO317.out), (by (with_reducible repeat (first | apply Kd.R_alloc | apply Kd.R_drewN | apply Kd.R_drew)); exact HO322.out), (by (with_reducible repeat (first | refine blk_drewN ?_ _ | refine blk_drew ?_ | refine blk_alloc ?_ _)); exact BK308.out), (by repeat (first | (with_reducible first | exact HB.out | apply below_alloc | apply pw_below_drewN | apply below_drew1 | refine below_set ?_ GE308.out) | exact HB.out))⟩)
                                        rintro v321 w46 ⟨hS_, h0_, h1_, h2_, h3_⟩
                                        have n0_ : Aside0 (Kd.R k42 42 w46 w.heap.size (fun _ => True) (.slice Ao38 y315.length co38) y315) := ⟨h0_⟩
                                        have n1_ : Aside0 (Kd.R (Kd.int .u8) 5 w46 w.heap.size (fun _ => True) v321 y320) := ⟨h1_⟩
                                        have n2_ : Aside0 (w46.heap[gb308]? = some (.cells #[.int .i64 ((rd_T39 l1 x9_3).f0), .int .u64 ((rd_T39 l1 x9_3).f1.f0), .int .u64 ((rd_T39 l1 x9_3).f1.f1), .int .u64 ((rd_T39 l1 x9_3).f2.f0), .int .u64 ((rd_T39 l1 x9_3).f2.f1), .string ((rd_T39 l1 x9_3).f3), .bool ((rd_T39 l1 x9_3).f4)] 39 (0, 0))) := ⟨h2_⟩
                                        have n3_ : Aside0 (Below w.heap.size w w46) := ⟨h3_⟩
                                        clear HO317
                                        clear BK308
                                        clear HB
                                        clear h0_ h1_ h2_ h3_
                                        have HO317 := n0_
                                        have HO322 := n1_
                                        have BK308 := n2_
                                        have HB := n3_
                                        clear n0_ n1_ n2_ n3_
                                        have hHeld : w46.cell? ⟨gb308, 0, none⟩ = some (.int .i64 ((rd_T39 l1 x9_3).f0)) ∧ w46.cell? ⟨gb308, 1, none⟩ = some (.int .u64 ((rd_T39 l1 x9_3).f1.f0)) ∧ w46.cell? ⟨gb308, 2, none⟩ = some (.int .u64 ((rd_T39 l1 x9_3).f1.f1)) ∧ w46.cell? ⟨gb308, 3, none⟩ = some (.int .u64 ((rd_T39 l1 x9_3).f2.f0)) ∧ w46.cell? ⟨gb308, 4, none⟩ = some (.int .u64 ((rd_T39 l1 x9_3).f2.f1)) ∧ w46.cell? ⟨gb308, 5, none⟩ = some (.string ((rd_T39 l1 x9_3).f3)) ∧ w46.cell? ⟨gb308, 6, none⟩ = some (.bool ((rd_T39 l1 x9_3).f4)) := hS_
                                        refine norm_ (a' := ?_) ?_ ?_
                                        rotate_left
                                        · simp only [putAll, Act.put, List.setIfInBounds_toArray, List.set_cons_zero, List.set_cons_succ]
                                          rfl
                                        refine pure_ (i := 14) (N := some 105) (v := ?_) (a' := ?_) #[true, true, true, true, true, true, true, true, true, true, true, true, true, true, true, true, false, false] rfl rfl (any_of HT_.out (by kernel_rfl)) (fun _ _ _ h => h) (Or.inl ⟨by rfl, ?_⟩) ?_ ?_
                                        rotate_left
                                        · intro w'
                                          go_simp
                                          with_reducible rfl
                                        rotate_left
                                        · simp only [Act.put, List.setIfInBounds_toArray, List.set_cons_zero, List.set_cons_succ, i64_w, i32_w]
                                          rfl
                                        refine pure_ (i := 16) (N := some 107) (v := ?_) (a' := ?_) #[true, true, true, true, true, true, true, true, true, true, true, true, true, true, true, true, true, false] rfl rfl (any_of HT_.out (by kernel_rfl)) (fun _ _ _ h => h) (Or.inl ⟨by rfl, ?_⟩) ?_ ?_
                                        rotate_left
                                        · intro w'
                                          go_simp
                                          with_reducible rfl
                                        rotate_left
                                        · simp only [Act.put, List.setIfInBounds_toArray, List.set_cons_zero, List.set_cons_succ, i64_w, i32_w]
                                          rfl
                                        refine pure_ (i := 17) (N := some 2) (v := ?_) (a' := ?_) #[true, true, true, true, true, true, true, true, true, true, true, true, true, true, true, true, true, true] rfl rfl (any_of HT_.out (by kernel_rfl)) (fun _ _ _ h => h) (Or.inl ⟨by rfl, ?_⟩) ?_ ?_
                                        rotate_left
                                        · intro w'
                                          go_simp
                                          with_reducible rfl
                                        rotate_left
                                        · simp only [Act.put, List.setIfInBounds_toArray, List.set_cons_zero, List.set_cons_succ, i64_w, i32_w]
                                          rfl
                                        refine done_ (done_of HT_.out (by kernel_rfl)) ?_
                                        try go_wp2
                                        go_roundg kj17
                                        case measure => have := HJ3.out; have := HK2.out; have := HK3.out; have := HJ17.out; omega
                                        case rel => exact ⟨((((strOfNums y320) ++ t323) ++ t324) ++ t318), (wrap64 (x9_3 - 1)), (by first | rfl | (simp; done) | (simp only [ByteArray.size_extract]; rw [Nat.min_eq_left (by omega)]; done) | (simp [*]; done)), (by first | rfl | (simp; done) | (simp only [ByteArray.size_extract]; rw [Nat.min_eq_left (by omega)]; done) | (simp [*]; done)), H', ⟨by have := HJ3.out; have := HK2.out; have := HK3.out; have := HJ17.out; omega⟩, ⟨by repeat (first | (with_reducible first | exact HB.out | apply below_alloc | apply pw_below_drewN | apply below_drew1 | refine below_set ?_ GE308.out) | exact HB.out)⟩⟩
                                      · rw [if_neg c36] at H
                                        exact absurd H (by simp)
                                    · rw [if_neg c35] at H
                                      exact absurd H (by simp)
                                  · rw [if_neg c33] at H
                                    exact absurd H (by simp)
                                · rw [if_neg c31] at H
                                  have c31b0 : (t319 == 0) = false := beq_eq_false_iff_ne.mpr c31
                                  have c31b1 : (t319 != 0) = true := bne_iff_ne.mpr c31
                                  simp only [Option.some.injEq, Prod.mk.injEq] at H
                                  obtain ⟨rfl, rfl⟩ := H
                                  go_wp2_with (first | ((with_reducible refine gate_builtin (b := .append) (xs := #[.tmp 79, .tmp 82]) rfl ?_); at_builtin; refine Kd.R_append k42 (w0 := w) w.heap.size rfl (.tmp 79) (.tmp 82) 44 42 (.agg #[(.int .u16 0), (.string ⟨#[]⟩)]) 24 rfl Try.underlying44 info42 rfl (by decide) (by omega) u11 x11_17 (⟨9, x2_3⟩ : S42) [.int .u16 9, .string x2_3] (fun _ => True) (fun _ => False) rfl rfl ?aP (fun _ hk => hk.elim) ?aF ?aO ?aB ?aS ?aL ?_; (case aP => exact k42_mkM _ _ _ (⟨9, x2_3⟩ : S42)); (case aB => exact (by repeat (first | (with_reducible first | exact HB.out | apply below_alloc | apply pw_below_drewN | apply below_drew1 | refine below_set ?_ GE308.out) | exact HB.out))); (case aF => exact (fun _ _ => trivial)); (case aO => exact (by (with_reducible repeat (first | apply Kd.R_alloc | apply Kd.R_drewN | apply Kd.R_drew)); exact HO_11.out)); (case aS => exact (below_size (by repeat (first | (with_reducible first | exact HB.out | apply below_alloc | apply pw_below_drewN | apply below_drew1 | refine below_set ?_ GE308.out) | exact HB.out)))); (case aL => have := LMc29.out; omega); intro v316 w47 ho hb hg hat; rw [← Ny315.out] at ho; have n0_ := Aside0.mk (blk_grown (g := gb308) (o := .cells #[.int .i64 ((rd_T39 l1 x9_3).f0), .int .u64 ((rd_T39 l1 x9_3).f1.f0), .int .u64 ((rd_T39 l1 x9_3).f1.f1), .int .u64 ((rd_T39 l1 x9_3).f2.f0), .int .u64 ((rd_T39 l1 x9_3).f2.f1), .string ((rd_T39 l1 x9_3).f3), .bool ((rd_T39 l1 x9_3).f4)] 39 (0, 0)) (by (with_reducible repeat (first | refine blk_drewN ?_ _ | refine blk_drew ?_ | refine blk_alloc ?_ _)); exact BK308.out) hg (Kd.R_ne HO_11.out BK308.out (by decide))); have n1_ := Aside0.mk (hb); have n2_ := Aside0.mk (ho); clear BK308; clear HB; clear HO_11; have BK308 := n0_; have HB := n1_; have HO317 := n2_; clear n0_ n1_ n2_; clear ho hb hg hat; obtain ⟨Ao48, co48, eo48⟩ := Kd.R_slice HO317.out; subst eo48) | ((with_reducible refine gate_callee (f := 26) rfl ?_); refine goesL_ (some 86) rfl rfl Try.func26 (by kernel_rfl) rfl #[.slice Ao48 y315.length co48] rfl (by (try simp only [List.map_toArray, List.map_cons, List.map_nil]); first | done | rfl | (simp only [List.length_drop, List.length_take]; rfl)) ?_; (with_reducible refine (tenancyref15_Emit.calls kj17 _ _ y315 t318 t319 _ ?side1 ?side2 A30.out).mono ?_); (case side1 => repeat (first | exact (Kd.R_reads' HO317.out).2.2 | (with_reducible refine Kd.C_alloc ?_ _) | (with_reducible refine Kd.C_drewN ?_ _) | (with_reducible refine Kd.C_drew ?_))); (case side2 => exact (Kd.R_reads' HO317.out).2.1); rintro e w49 ⟨rfl, hb⟩; refine ⟨_, rfl, ?_⟩; have n0_ := Aside0.mk (Kd.R_below (by (with_reducible repeat (first | apply Kd.R_alloc | apply Kd.R_drewN | apply Kd.R_drew)); exact HO317.out) hb); have n1_ := Aside0.mk (blk_below (g := gb308) (o := .cells #[.int .i64 ((rd_T39 l1 x9_3).f0), .int .u64 ((rd_T39 l1 x9_3).f1.f0), .int .u64 ((rd_T39 l1 x9_3).f1.f1), .int .u64 ((rd_T39 l1 x9_3).f2.f0), .int .u64 ((rd_T39 l1 x9_3).f2.f1), .string ((rd_T39 l1 x9_3).f3), .bool ((rd_T39 l1 x9_3).f4)] 39 (0, 0)) (by (with_reducible repeat (first | refine blk_drewN ?_ _ | refine blk_drew ?_ | refine blk_alloc ?_ _)); exact BK308.out) hb); have n2_ := Aside0.mk (below_step (by repeat (first | (with_reducible first | exact HB.out | apply below_alloc | apply pw_below_drewN | apply below_drew1 | refine below_set ?_ GE308.out) | exact HB.out)) hb); clear HO317; clear BK308; clear HB; have HO317 := n0_; have BK308 := n1_; have HB := n2_; clear n0_ n1_ n2_; (try clear hb); (try clear hb2); (try clear hk); (try clear hi)))
                                  go_ret2
                                  exact ⟨by first | rfl | (simp [errW_none, errW_some] <;> rfl) | (simp [*, errW_none, errW_some] <;> rfl), by repeat (first | (with_reducible first | exact HB.out | apply below_alloc | apply pw_below_drewN | apply below_drew1 | refine below_set ?_ GE308.out) | exact HB.out)⟩
                              · rw [if_neg c29] at H
                                exact absurd H (by simp)
                        · rw [if_neg c17] at H
                          exact absurd H (by simp)
                      · rw [if_neg c16] at H
                        exact absurd H (by simp)
                    · rw [if_neg c15] at H
                      have c15b0 : decide (0 ≤ x9_3) = false := decide_eq_false c15
                      clear c15
                      by_cases c50 : (x2_3.size : Int) > 65507
                      · rw [if_pos c50] at H
                        have c50b0 : decide (65507 < (x2_3.size : Int)) = true := decide_eq_true c50
                        have c50b1 : decide (65507 < x2_3.size) = true := decide_eq_true (by omega)
                        clear c50
                        simp only [Option.some.injEq, Prod.mk.injEq] at H
                        obtain ⟨rfl, rfl⟩ := H
                        go_wp2
                        go_ret2
                        exact ⟨by first | rfl | (simp [errW_none, errW_some] <;> rfl) | (simp [*, errW_none, errW_some] <;> rfl), by repeat (first | (with_reducible first | exact HB.out | apply below_alloc | apply pw_below_drewN | apply below_drew1) | exact HB.out)⟩
                      · rw [if_neg c50] at H
                        have c50b0 : decide (65507 < (x2_3.size : Int)) = false := decide_eq_false c50
                        have c50b1 : decide (65507 < x2_3.size) = false := decide_eq_false (by omega)
                        clear c50
                        simp only [Option.some.injEq, Prod.mk.injEq] at H
                        obtain ⟨rfl, rfl⟩ := H
                        go_wp2
                        go_ret2
                        exact ⟨by first | rfl | (simp [errW_none, errW_some] <;> rfl) | (simp [*, errW_none, errW_some] <;> rfl), by repeat (first | (with_reducible first | exact HB.out | apply below_alloc | apply pw_below_drewN | apply below_drew1) | exact HB.out)⟩

end Go.Proofs.Ytfpamalmkmhpgaa.X
