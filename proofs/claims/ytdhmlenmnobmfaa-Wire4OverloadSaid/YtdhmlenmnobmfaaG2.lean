/- Functions of the program as Lean functions, and that the calls come to them: no condition.  By this session's own program (wip/xprint). -/
import Derived.Test.YtdhmlenmnobmfaaG0
import Derived.Test.YtdhmlenmnobmfaaG1
namespace Go.Proofs.Ytdhmlenmnobmfaa.X
open Go.RowKit Go.Proofs.YtdhmlenmnobmfaaW.PrintWords Go.Proofs.YtdhmlenmnobmfaaW.PrintLast Go.Proofs.YtdhmlenmnobmfaaW.PrintMore
attribute [local go_sem] max2_int min2_int max_two min_two max_three min_three max_four min_four   -- for this text's walks alone
set_option linter.unusedVariables false
set_option linter.unusedSimpArgs false
/-! ### opt4_area: function 41 -/
mutual
def opt4_area.l0 : Nat → List (S47) → ByteArray → Int → Option ((List (S47)) × Int)
  | 0, _, _, _ => none
  | k + 1, x0, x1, x6 => if x6 < (x1.size : Int) then (if 0 ≤ x6 then (opt4_area.j1 k x0 x1 x6 ((bt x1 x6) != 255)) else (none)) else (opt4_area.j1 k x0 x1 x6 false)
def opt4_area.j1 : Nat → List (S47) → ByteArray → Int → Bool → Option ((List (S47)) × Int)
  | 0, _, _, _, _ => none
  | k + 1, x0, x1, x6, x21 => if x21 = true then (if 0 ≤ x6 then (if x6 < (x1.size : Int) then (if (bt x1 x6) = 0 then (opt4_area.l0 k x0 x1 (wrap64 (x6 + 1))) else ((octet_Cut.f x1 (wrap64 (x6 + 1)) 1).bind fun bt142 => (if bt142.2 = true then (if 0 < (bt142.1.size : Int) then ((octet_Cut.f x1 (wrap64 ((wrap64 (x6 + 1)) + 1)) (wrap64 (bt bt142.1 0))).bind fun bt144 => (if bt144.2 = true then ((hasix.f (bt x1 x6) x0).bind fun t146 => (if t146 < 0 then (if (x0.length : Int) ≥ 128 then (some (([] : List (S47)), 6)) else (if x0.length < 5864062014805 then ((some (x0 ++ [(⟨bt x1 x6, (⟨#[]⟩ : ByteArray)⟩ : S47)] : List (S47))).bind fun y147 => (if 0 ≤ (x0.length : Int) then (if (x0.length : Int) < (y147.length : Int) then (if ((rd_T47 y147 (x0.length : Int)).f1).size + bt144.1.size ≤ 9223372036854775807 then ((some (y147.set (x0.length) (⟨(rd_T47 y147 (x0.length : Int)).f0, ((rd_T47 y147 (x0.length : Int)).f1) ++ bt144.1⟩ : S47) : List (S47))).bind fun y151 => (if (((rd_T47 y151 (x0.length : Int)).f1).size : Int) > 4096 then (some (([] : List (S47)), 6)) else (opt4_area.l0 k y151 x1 (wrap64 ((wrap64 (x6 + 1)) + (wrap64 (1 + (bt144.1.size : Int)))))))) else (none)) else (none)) else (none))) else (none))) else (if 0 ≤ t146 then (if t146 < (x0.length : Int) then (if ((rd_T47 x0 t146).f1).size + bt144.1.size ≤ 9223372036854775807 then ((some (x0.set (t146 : Int).toNat (⟨(rd_T47 x0 t146).f0, ((rd_T47 x0 t146).f1) ++ bt144.1⟩ : S47) : List (S47))).bind fun y154 => (if (((rd_T47 y154 t146).f1).size : Int) > 4096 then (some (([] : List (S47)), 6)) else (opt4_area.l0 k y154 x1 (wrap64 ((wrap64 (x6 + 1)) + (wrap64 (1 + (bt144.1.size : Int)))))))) else (none)) else (none)) else (none)))) else (some (([] : List (S47)), 3)))) else (none)) else (some (([] : List (S47)), 3))))) else (none)) else (none)) else (some (x0, 0))
end
def opt4_area.f (k : Nat) (l0 : List (S47)) (a1 : ByteArray) : Option ((List (S47)) × Int) := opt4_area.l0 k l0 a1 0
theorem opt4_area.mono_l : ∀ k, (∀ y0 y1 y2, LeO (opt4_area.l0 k y0 y1 y2) (opt4_area.l0 (k + 1) y0 y1 y2)) ∧ (∀ y0 y1 y2 y3, LeO (opt4_area.j1 k y0 y1 y2 y3) (opt4_area.j1 (k + 1) y0 y1 y2 y3))
  | 0 => ⟨fun _ _ _ r h => by simp [opt4_area.l0] at h, fun _ _ _ _ r h => by simp [opt4_area.j1] at h⟩
  | k + 1 => by
    obtain ⟨ih0, ih1⟩ := opt4_area.mono_l k
    refine ⟨?_, ?_⟩
    · intro y0 y1 y2
      unfold opt4_area.l0
      repeat' first
      | (with_reducible exact ih0 _ _ _)
      | (with_reducible exact ih1 _ _ _ _)
      | (with_reducible exact LeO.refl _)
      | (with_reducible exact LeO.none _)
      | (with_reducible refine LeO.ite ?_ ?_)
      | (with_reducible refine LeO.bind ?_ (fun _ => ?_))
      | exact ih0 _ _ _
      | exact ih1 _ _ _ _
      | exact LeO.none _
      | refine LeO.ite ?_ ?_
      | refine LeO.bind ?_ (fun _ => ?_)
    · intro y0 y1 y2 y3
      unfold opt4_area.j1
      repeat' first
      | (with_reducible exact ih0 _ _ _)
      | (with_reducible exact ih1 _ _ _ _)
      | (with_reducible exact LeO.refl _)
      | (with_reducible exact LeO.none _)
      | (with_reducible refine LeO.ite ?_ ?_)
      | (with_reducible refine LeO.bind ?_ (fun _ => ?_))
      | exact ih0 _ _ _
      | exact ih1 _ _ _ _
      | exact LeO.none _
      | refine LeO.ite ?_ ?_
      | refine LeO.bind ?_ (fun _ => ?_)
theorem opt4_area.mono : ∀ a0 a1 k, LeO (opt4_area.f k a0 a1) (opt4_area.f (k + 1) a0 a1) := by
  intro a0 a1 k
  obtain ⟨ih0, ih1⟩ := opt4_area.mono_l k
  unfold opt4_area.f
  repeat' first
      | (with_reducible exact ih0 _ _ _)
      | (with_reducible exact ih1 _ _ _ _)
      | (with_reducible exact LeO.refl _)
      | (with_reducible exact LeO.none _)
      | (with_reducible refine LeO.ite ?_ ?_)
      | (with_reducible refine LeO.bind ?_ (fun _ => ?_))
      | exact ih0 _ _ _
      | exact ih1 _ _ _ _
      | exact LeO.none _
      | refine LeO.ite ?_ ?_
      | refine LeO.bind ?_ (fun _ => ?_)
set_option maxHeartbeats 8000000 in
set_option maxRecDepth 100000 in
theorem opt4_area.calls (k : Nat) (P0_ : Nat → Prop) (u9000_ : Value) (l0 : List (S47)) (a1 : ByteArray) (r1 : List (S47)) (r2 : Int) (w0 w : World) (hB : Below w0.heap.size w0 w) (ho0 : Kd.R k47 47 w w0.heap.size P0_ u9000_ l0) (h : opt4_area.f k l0 a1 = some (r1, r2)) :
    Calls Try.prog 41 #[u9000_, .string a1] w fun e w' => ∃ v0_ : Value, e = .returned (.tuple #[v0_, .int .i64 r2]) ∧ Kd.R k47 47 w' w0.heap.size (fun k_ => (P0_ k_ ∨ w.heap.size ≤ k_)) v0_ r1 ∧ Below w0.heap.size w0 w' ∧ Kept w w' (fun k_ => P0_ k_) := by
  have hu47 := Try.underlying47
  have HO0 := Aside0.mk (show Kd.R k47 47 w w0.heap.size (fun k_ => (P0_ k_ ∨ w.heap.size ≤ k_)) u9000_ l0 from Kd.R_mono ho0 (fun k_ hk => (.inl hk)))
  have HK := Aside0.mk (Kept.refl w (fun k_ => P0_ k_))
  have HW0 := Aside0.mk hB.size
  have HB := Aside0.mk hB
  clear hB
  have H : (opt4_area.l0 k l0 a1 0) = some (r1, r2) := h
  clear h
  have H' := Aside0.mk H
  clear H
  go_enter Try.func41, Try.ntmps41
  go_wp2
  go_loopg [0, 6] k (fun kq v0 v6 w' => ∃ (x0_1 : List (S47)) (x6_1 : Int), v6 = .int .i64 x6_1 ∧ Aside0 (opt4_area.l0 kq x0_1 a1 x6_1 = some (r1, r2)) ∧ Aside0 (kq ≤ k) ∧ Aside0 (Kd.R k47 47 w' w0.heap.size (fun k_ => (P0_ k_ ∨ w.heap.size ≤ k_)) v0 x0_1) ∧ Aside0 (Kept w w' (fun k_ => P0_ k_)) ∧ Aside0 (Below w0.heap.size w0 w'))
  case atStart => exact ⟨(l0), (0), (by first | rfl | (simp; done) | (simp only [ByteArray.size_extract]; rw [Nat.min_eq_left (by omega)]; done) | (simp [*]; done)), H', ⟨Nat.le_refl _⟩, ⟨by (with_reducible repeat (first | apply Kd.R_alloc | apply Kd.R_drewN | apply Kd.R_drew)); exact HO0.out⟩, ⟨by repeat (first | (with_reducible first | exact HK.out | apply Kept.alloc | apply Kept.drewN | apply Kept.drew) | exact HK.out)⟩, ⟨by repeat (first | (with_reducible first | exact HB.out | apply below_alloc | apply pw_below_drewN | apply below_drew1) | exact HB.out)⟩⟩
  case round =>
    clear H'
    try clear p2
    obtain ⟨x0_1, x6_1, rfl, HA, HK1, HO_0, HK, HB⟩ := hrel
    cases gk with
    | zero => exact absurd HA.out (by simp [opt4_area.l0])
    | succ k1 =>
      have H := HA.out
      clear HA
      simp only [opt4_area.l0] at H
      have HC3 := Aside0.mk H
      clear H
      go_upto_region 2 with (fail)
      go_cut [21] (fun v21 wc => ∃ (kq : Nat) (x21_2 : Bool), v21 = .bool x21_2 ∧ Aside0 (opt4_area.j1 kq x0_1 a1 x6_1 x21_2 = some (r1, r2)) ∧ Aside0 (kq ≤ k1) ∧ Aside0 (Kd.R k47 47 wc w0.heap.size (fun k_ => (P0_ k_ ∨ w.heap.size ≤ k_)) u0 x0_1) ∧ Aside0 (Kept w wc (fun k_ => P0_ k_)) ∧ Aside0 (Below w0.heap.size w0 wc))
      case first =>
        have H := HC3.out
        clear HC3
        by_cases c4 : x6_1 < (a1.size : Int)
        · rw [if_pos c4] at H
          have c4b0 : decide (x6_1 < (a1.size : Int)) = true := decide_eq_true c4
          clear c4
          (first | rw [c4b0] | (simp only [i64_w, i32_w]; rw [c4b0]) | skip)
          by_cases c5 : 0 ≤ x6_1
          · rw [if_pos c5] at H
            have c5b0 : decide (0 ≤ x6_1) = true := decide_eq_true c5
            clear c5
            have H' := Aside0.mk H
            clear H
            have p6 : 0 ≤ (x6_1 : Int) := of_decide_eq_true (by first | (with_reducible assumption) | assumption)
            have q6 : x6_1 < (a1.size : Int) := of_decide_eq_true (by first | (with_reducible assumption) | assumption)
            have hx6 := bt_at a1 x6_1
            replace p6 := eq_true p6
            replace q6 := eq_true q6
            go_wp2
            go_meet
            case rel => exact ⟨_, (((bt a1 x6_1) != 255)), (by first | rfl | (simp; done) | (simp only [ByteArray.size_extract]; rw [Nat.min_eq_left (by omega)]; done) | (simp [*]; done)), H', ⟨by have := HK1.out; first | omega | exact Nat.le_refl _⟩, ⟨by (with_reducible repeat (first | apply Kd.R_alloc | apply Kd.R_drewN | apply Kd.R_drew)); exact HO_0.out⟩, ⟨by repeat (first | (with_reducible first | exact HK.out | apply Kept.alloc | apply Kept.drewN | apply Kept.drew) | exact HK.out)⟩, ⟨by repeat (first | (with_reducible first | exact HB.out | apply below_alloc | apply pw_below_drewN | apply below_drew1) | exact HB.out)⟩⟩
          · rw [if_neg c5] at H
            exact absurd H (by simp)
        · rw [if_neg c4] at H
          have c4b0 : decide (x6_1 < (a1.size : Int)) = false := decide_eq_false c4
          clear c4
          (first | rw [c4b0] | (simp only [i64_w, i32_w]; rw [c4b0]) | skip)
          have H' := Aside0.mk H
          clear H
          go_wp2
          go_meet
          case rel => exact ⟨_, (false), (by first | rfl | (simp; done) | (simp only [ByteArray.size_extract]; rw [Nat.min_eq_left (by omega)]; done) | (simp [*]; done)), H', ⟨by have := HK1.out; first | omega | exact Nat.le_refl _⟩, ⟨by (with_reducible repeat (first | apply Kd.R_alloc | apply Kd.R_drewN | apply Kd.R_drew)); exact HO_0.out⟩, ⟨by repeat (first | (with_reducible first | exact HK.out | apply Kept.alloc | apply Kept.drewN | apply Kept.drew) | exact HK.out)⟩, ⟨by repeat (first | (with_reducible first | exact HB.out | apply below_alloc | apply pw_below_drewN | apply below_drew1) | exact HB.out)⟩⟩
      case rest =>
        clear HC3
        try clear p2
        try clear c4
        try clear c4b0
        try clear c5
        try clear c5b0
        try clear p6
        try clear q6
        try clear hx6
        try clear p2
        try clear p6
        try clear q6
        obtain ⟨kq, x21_2, rfl, HA, HJ2, HO_0, HK, HB⟩ := hcut
        cases kq with
        | zero => exact absurd HA.out (by simp [opt4_area.j1])
        | succ kj2 =>
          have H := HA.out
          clear HA
          simp only [opt4_area.j1] at H
          by_cases c7 : x21_2 = true
          · subst c7
            have H1 : (if 0 ≤ x6_1 then (if x6_1 < (a1.size : Int) then (if (bt a1 x6_1) = 0 then (opt4_area.l0 kj2 x0_1 a1 (wrap64 (x6_1 + 1))) else ((octet_Cut.f a1 (wrap64 (x6_1 + 1)) 1).bind fun bt142 => (if bt142.2 = true then (if 0 < (bt142.1.size : Int) then ((octet_Cut.f a1 (wrap64 ((wrap64 (x6_1 + 1)) + 1)) (wrap64 (bt bt142.1 0))).bind fun bt144 => (if bt144.2 = true then ((hasix.f (bt a1 x6_1) x0_1).bind fun t146 => (if t146 < 0 then (if (x0_1.length : Int) ≥ 128 then (some (([] : List (S47)), 6)) else (if x0_1.length < 5864062014805 then ((some (x0_1 ++ [(⟨bt a1 x6_1, (⟨#[]⟩ : ByteArray)⟩ : S47)] : List (S47))).bind fun y147 => (if 0 ≤ (x0_1.length : Int) then (if (x0_1.length : Int) < (y147.length : Int) then (if ((rd_T47 y147 (x0_1.length : Int)).f1).size + bt144.1.size ≤ 9223372036854775807 then ((some (y147.set (x0_1.length) (⟨(rd_T47 y147 (x0_1.length : Int)).f0, ((rd_T47 y147 (x0_1.length : Int)).f1) ++ bt144.1⟩ : S47) : List (S47))).bind fun y151 => (if (((rd_T47 y151 (x0_1.length : Int)).f1).size : Int) > 4096 then (some (([] : List (S47)), 6)) else (opt4_area.l0 kj2 y151 a1 (wrap64 ((wrap64 (x6_1 + 1)) + (wrap64 (1 + (bt144.1.size : Int)))))))) else (none)) else (none)) else (none))) else (none))) else (if 0 ≤ t146 then (if t146 < (x0_1.length : Int) then (if ((rd_T47 x0_1 t146).f1).size + bt144.1.size ≤ 9223372036854775807 then ((some (x0_1.set (t146 : Int).toNat (⟨(rd_T47 x0_1 t146).f0, ((rd_T47 x0_1 t146).f1) ++ bt144.1⟩ : S47) : List (S47))).bind fun y154 => (if (((rd_T47 y154 t146).f1).size : Int) > 4096 then (some (([] : List (S47)), 6)) else (opt4_area.l0 kj2 y154 a1 (wrap64 ((wrap64 (x6_1 + 1)) + (wrap64 (1 + (bt144.1.size : Int)))))))) else (none)) else (none)) else (none)))) else (some (([] : List (S47)), 3)))) else (none)) else (some (([] : List (S47)), 3))))) else (none)) else (none)) = some (r1, r2) := by rw [if_pos rfl] at H; exact H
            clear H
            have H := H1
            clear H1
            by_cases c8 : 0 ≤ x6_1
            · rw [if_pos c8] at H
              have c8b0 : decide (0 ≤ x6_1) = true := decide_eq_true c8
              clear c8
              by_cases c9 : x6_1 < (a1.size : Int)
              · rw [if_pos c9] at H
                have c9b0 : decide (x6_1 < (a1.size : Int)) = true := decide_eq_true c9
                clear c9
                by_cases c11 : (bt a1 x6_1) = 0
                · rw [if_pos c11] at H
                  have c11b0 : ((bt a1 x6_1) == 0) = true := beq_iff_eq.mpr c11
                  have c11b1 : ((bt a1 x6_1) != 0) = false := bne_eq_false_iff_eq.mpr c11
                  clear c11
                  have H' := Aside0.mk H
                  clear H
                  have p10 : 0 ≤ (x6_1 : Int) := of_decide_eq_true (by first | (with_reducible assumption) | assumption)
                  have q10 : x6_1 < (a1.size : Int) := of_decide_eq_true (by first | (with_reducible assumption) | assumption)
                  have hx10 := bt_at a1 x6_1
                  replace p10 := eq_true p10
                  replace q10 := eq_true q10
                  go_wp2
                  go_roundg kj2
                  case measure => have := HK1.out; have := HJ2.out; omega
                  case rel => exact ⟨(x0_1), (wrap64 (x6_1 + 1)), (by first | rfl | (simp; done) | (simp only [ByteArray.size_extract]; rw [Nat.min_eq_left (by omega)]; done) | (simp [*]; done)), H', ⟨by have := HK1.out; have := HJ2.out; omega⟩, ⟨by (with_reducible repeat (first | apply Kd.R_alloc | apply Kd.R_drewN | apply Kd.R_drew)); exact HO_0.out⟩, ⟨by repeat (first | (with_reducible first | exact HK.out | apply Kept.alloc | apply Kept.drewN | apply Kept.drew) | exact HK.out)⟩, ⟨by repeat (first | (with_reducible first | exact HB.out | apply below_alloc | apply pw_below_drewN | apply below_drew1) | exact HB.out)⟩⟩
                · rw [if_neg c11] at H
                  have c11b0 : ((bt a1 x6_1) == 0) = false := beq_eq_false_iff_ne.mpr c11
                  have c11b1 : ((bt a1 x6_1) != 0) = true := bne_iff_ne.mpr c11
                  replace H := Option.bind_eq_some_iff.mp H
                  obtain ⟨⟨t142, t143⟩, A120, H⟩ := H
                  replace H : (if t143 = true then (if 0 < (t142.size : Int) then ((octet_Cut.f a1 (wrap64 ((wrap64 (x6_1 + 1)) + 1)) (wrap64 (bt t142 0))).bind fun bt144 => (if bt144.2 = true then ((hasix.f (bt a1 x6_1) x0_1).bind fun t146 => (if t146 < 0 then (if (x0_1.length : Int) ≥ 128 then (some (([] : List (S47)), 6)) else (if x0_1.length < 5864062014805 then ((some (x0_1 ++ [(⟨bt a1 x6_1, (⟨#[]⟩ : ByteArray)⟩ : S47)] : List (S47))).bind fun y147 => (if 0 ≤ (x0_1.length : Int) then (if (x0_1.length : Int) < (y147.length : Int) then (if ((rd_T47 y147 (x0_1.length : Int)).f1).size + bt144.1.size ≤ 9223372036854775807 then ((some (y147.set (x0_1.length) (⟨(rd_T47 y147 (x0_1.length : Int)).f0, ((rd_T47 y147 (x0_1.length : Int)).f1) ++ bt144.1⟩ : S47) : List (S47))).bind fun y151 => (if (((rd_T47 y151 (x0_1.length : Int)).f1).size : Int) > 4096 then (some (([] : List (S47)), 6)) else (opt4_area.l0 kj2 y151 a1 (wrap64 ((wrap64 (x6_1 + 1)) + (wrap64 (1 + (bt144.1.size : Int)))))))) else (none)) else (none)) else (none))) else (none))) else (if 0 ≤ t146 then (if t146 < (x0_1.length : Int) then (if ((rd_T47 x0_1 t146).f1).size + bt144.1.size ≤ 9223372036854775807 then ((some (x0_1.set (t146 : Int).toNat (⟨(rd_T47 x0_1 t146).f0, ((rd_T47 x0_1 t146).f1) ++ bt144.1⟩ : S47) : List (S47))).bind fun y154 => (if (((rd_T47 y154 t146).f1).size : Int) > 4096 then (some (([] : List (S47)), 6)) else (opt4_area.l0 kj2 y154 a1 (wrap64 ((wrap64 (x6_1 + 1)) + (wrap64 (1 + (bt144.1.size : Int)))))))) else (none)) else (none)) else (none)))) else (some (([] : List (S47)), 3)))) else (none)) else (some (([] : List (S47)), 3))) = some (r1, r2) := H
                  have A12 := Aside0.mk A120
                  clear A120
                  by_cases c13 : t143 = true
                  · subst c13
                    have H1 : (if 0 < (t142.size : Int) then ((octet_Cut.f a1 (wrap64 ((wrap64 (x6_1 + 1)) + 1)) (wrap64 (bt t142 0))).bind fun bt144 => (if bt144.2 = true then ((hasix.f (bt a1 x6_1) x0_1).bind fun t146 => (if t146 < 0 then (if (x0_1.length : Int) ≥ 128 then (some (([] : List (S47)), 6)) else (if x0_1.length < 5864062014805 then ((some (x0_1 ++ [(⟨bt a1 x6_1, (⟨#[]⟩ : ByteArray)⟩ : S47)] : List (S47))).bind fun y147 => (if 0 ≤ (x0_1.length : Int) then (if (x0_1.length : Int) < (y147.length : Int) then (if ((rd_T47 y147 (x0_1.length : Int)).f1).size + bt144.1.size ≤ 9223372036854775807 then ((some (y147.set (x0_1.length) (⟨(rd_T47 y147 (x0_1.length : Int)).f0, ((rd_T47 y147 (x0_1.length : Int)).f1) ++ bt144.1⟩ : S47) : List (S47))).bind fun y151 => (if (((rd_T47 y151 (x0_1.length : Int)).f1).size : Int) > 4096 then (some (([] : List (S47)), 6)) else (opt4_area.l0 kj2 y151 a1 (wrap64 ((wrap64 (x6_1 + 1)) + (wrap64 (1 + (bt144.1.size : Int)))))))) else (none)) else (none)) else (none))) else (none))) else (if 0 ≤ t146 then (if t146 < (x0_1.length : Int) then (if ((rd_T47 x0_1 t146).f1).size + bt144.1.size ≤ 9223372036854775807 then ((some (x0_1.set (t146 : Int).toNat (⟨(rd_T47 x0_1 t146).f0, ((rd_T47 x0_1 t146).f1) ++ bt144.1⟩ : S47) : List (S47))).bind fun y154 => (if (((rd_T47 y154 t146).f1).size : Int) > 4096 then (some (([] : List (S47)), 6)) else (opt4_area.l0 kj2 y154 a1 (wrap64 ((wrap64 (x6_1 + 1)) + (wrap64 (1 + (bt144.1.size : Int)))))))) else (none)) else (none)) else (none)))) else (some (([] : List (S47)), 3)))) else (none)) = some (r1, r2) := by rw [if_pos rfl] at H; exact H
                    clear H
                    have H := H1
                    clear H1
                    by_cases c14 : 0 < (t142.size : Int)
                    · rw [if_pos c14] at H
                      have c14b0 : decide (0 < (t142.size : Int)) = true := decide_eq_true c14
                      have c14b1 : decide (0 < t142.size) = true := decide_eq_true (by omega)
                      clear c14
                      replace H := Option.bind_eq_some_iff.mp H
                      obtain ⟨⟨t144, t145⟩, A160, H⟩ := H
                      replace H : (if t145 = true then ((hasix.f (bt a1 x6_1) x0_1).bind fun t146 => (if t146 < 0 then (if (x0_1.length : Int) ≥ 128 then (some (([] : List (S47)), 6)) else (if x0_1.length < 5864062014805 then ((some (x0_1 ++ [(⟨bt a1 x6_1, (⟨#[]⟩ : ByteArray)⟩ : S47)] : List (S47))).bind fun y147 => (if 0 ≤ (x0_1.length : Int) then (if (x0_1.length : Int) < (y147.length : Int) then (if ((rd_T47 y147 (x0_1.length : Int)).f1).size + t144.size ≤ 9223372036854775807 then ((some (y147.set (x0_1.length) (⟨(rd_T47 y147 (x0_1.length : Int)).f0, ((rd_T47 y147 (x0_1.length : Int)).f1) ++ t144⟩ : S47) : List (S47))).bind fun y151 => (if (((rd_T47 y151 (x0_1.length : Int)).f1).size : Int) > 4096 then (some (([] : List (S47)), 6)) else (opt4_area.l0 kj2 y151 a1 (wrap64 ((wrap64 (x6_1 + 1)) + (wrap64 (1 + (t144.size : Int)))))))) else (none)) else (none)) else (none))) else (none))) else (if 0 ≤ t146 then (if t146 < (x0_1.length : Int) then (if ((rd_T47 x0_1 t146).f1).size + t144.size ≤ 9223372036854775807 then ((some (x0_1.set (t146 : Int).toNat (⟨(rd_T47 x0_1 t146).f0, ((rd_T47 x0_1 t146).f1) ++ t144⟩ : S47) : List (S47))).bind fun y154 => (if (((rd_T47 y154 t146).f1).size : Int) > 4096 then (some (([] : List (S47)), 6)) else (opt4_area.l0 kj2 y154 a1 (wrap64 ((wrap64 (x6_1 + 1)) + (wrap64 (1 + (t144.size : Int)))))))) else (none)) else (none)) else (none)))) else (some (([] : List (S47)), 3))) = some (r1, r2) := H
                      have A16 := Aside0.mk A160
                      clear A160
                      by_cases c17 : t145 = true
                      · subst c17
                        have H1 : ((hasix.f (bt a1 x6_1) x0_1).bind fun t146 => (if t146 < 0 then (if (x0_1.length : Int) ≥ 128 then (some (([] : List (S47)), 6)) else (if x0_1.length < 5864062014805 then ((some (x0_1 ++ [(⟨bt a1 x6_1, (⟨#[]⟩ : ByteArray)⟩ : S47)] : List (S47))).bind fun y147 => (if 0 ≤ (x0_1.length : Int) then (if (x0_1.length : Int) < (y147.length : Int) then (if ((rd_T47 y147 (x0_1.length : Int)).f1).size + t144.size ≤ 9223372036854775807 then ((some (y147.set (x0_1.length) (⟨(rd_T47 y147 (x0_1.length : Int)).f0, ((rd_T47 y147 (x0_1.length : Int)).f1) ++ t144⟩ : S47) : List (S47))).bind fun y151 => (if (((rd_T47 y151 (x0_1.length : Int)).f1).size : Int) > 4096 then (some (([] : List (S47)), 6)) else (opt4_area.l0 kj2 y151 a1 (wrap64 ((wrap64 (x6_1 + 1)) + (wrap64 (1 + (t144.size : Int)))))))) else (none)) else (none)) else (none))) else (none))) else (if 0 ≤ t146 then (if t146 < (x0_1.length : Int) then (if ((rd_T47 x0_1 t146).f1).size + t144.size ≤ 9223372036854775807 then ((some (x0_1.set (t146 : Int).toNat (⟨(rd_T47 x0_1 t146).f0, ((rd_T47 x0_1 t146).f1) ++ t144⟩ : S47) : List (S47))).bind fun y154 => (if (((rd_T47 y154 t146).f1).size : Int) > 4096 then (some (([] : List (S47)), 6)) else (opt4_area.l0 kj2 y154 a1 (wrap64 ((wrap64 (x6_1 + 1)) + (wrap64 (1 + (t144.size : Int)))))))) else (none)) else (none)) else (none)))) = some (r1, r2) := by rw [if_pos rfl] at H; exact H
                        clear H
                        have H := H1
                        clear H1
                        replace H := Option.bind_eq_some_iff.mp H
                        obtain ⟨t146, A180, H⟩ := H
                        replace H : (if t146 < 0 then (if (x0_1.length : Int) ≥ 128 then (some (([] : List (S47)), 6)) else (if x0_1.length < 5864062014805 then ((some (x0_1 ++ [(⟨bt a1 x6_1, (⟨#[]⟩ : ByteArray)⟩ : S47)] : List (S47))).bind fun y147 => (if 0 ≤ (x0_1.length : Int) then (if (x0_1.length : Int) < (y147.length : Int) then (if ((rd_T47 y147 (x0_1.length : Int)).f1).size + t144.size ≤ 9223372036854775807 then ((some (y147.set (x0_1.length) (⟨(rd_T47 y147 (x0_1.length : Int)).f0, ((rd_T47 y147 (x0_1.length : Int)).f1) ++ t144⟩ : S47) : List (S47))).bind fun y151 => (if (((rd_T47 y151 (x0_1.length : Int)).f1).size : Int) > 4096 then (some (([] : List (S47)), 6)) else (opt4_area.l0 kj2 y151 a1 (wrap64 ((wrap64 (x6_1 + 1)) + (wrap64 (1 + (t144.size : Int)))))))) else (none)) else (none)) else (none))) else (none))) else (if 0 ≤ t146 then (if t146 < (x0_1.length : Int) then (if ((rd_T47 x0_1 t146).f1).size + t144.size ≤ 9223372036854775807 then ((some (x0_1.set (t146 : Int).toNat (⟨(rd_T47 x0_1 t146).f0, ((rd_T47 x0_1 t146).f1) ++ t144⟩ : S47) : List (S47))).bind fun y154 => (if (((rd_T47 y154 t146).f1).size : Int) > 4096 then (some (([] : List (S47)), 6)) else (opt4_area.l0 kj2 y154 a1 (wrap64 ((wrap64 (x6_1 + 1)) + (wrap64 (1 + (t144.size : Int)))))))) else (none)) else (none)) else (none))) = some (r1, r2) := H
                        have A18 := Aside0.mk A180
                        clear A180
                        by_cases c19 : t146 < 0
                        · rw [if_pos c19] at H
                          have c19b0 : decide (t146 < 0) = true := decide_eq_true c19
                          clear c19
                          by_cases c20 : (x0_1.length : Int) ≥ 128
                          · rw [if_pos c20] at H
                            have c20b0 : decide (128 ≤ (x0_1.length : Int)) = true := decide_eq_true c20
                            have c20b1 : decide (128 ≤ x0_1.length) = true := decide_eq_true (by omega)
                            clear c20
                            simp only [Option.some.injEq, Prod.mk.injEq] at H
                            obtain ⟨rfl, rfl⟩ := H
                            have p10 : 0 ≤ (x6_1 : Int) := of_decide_eq_true (by first | (with_reducible assumption) | assumption)
                            have q10 : x6_1 < (a1.size : Int) := of_decide_eq_true (by first | (with_reducible assumption) | assumption)
                            have hx10 := bt_at a1 x6_1
                            replace p10 := eq_true p10
                            replace q10 := eq_true q10
                            go_wp2_with (first | ((with_reducible refine gate_callee (f := 57) rfl ?_); refine goesL_ (some 32) rfl rfl Try.func57 (by kernel_rfl) rfl #[.string a1, .int .i64 (wrap64 (x6_1 + 1)), .int .i64 1] rfl (by (try simp only [List.map_toArray, List.map_cons, List.map_nil]); first | done | rfl | (simp only [List.length_drop, List.length_take]; rfl)) ?_; (with_reducible refine (octet_Cut.calls a1 (wrap64 (x6_1 + 1)) 1 t142 true _ A12.out).mono ?_); rintro e w21 ⟨rfl, hb⟩; refine ⟨_, rfl, ?_⟩; have n0_ := Aside0.mk (Kd.R_below (by (with_reducible repeat (first | apply Kd.R_alloc | apply Kd.R_drewN | apply Kd.R_drew)); exact HO_0.out) hb); have n1_ := Aside0.mk (Kept.below (S := (fun k_ => P0_ k_)) (by repeat (first | (with_reducible first | exact HK.out | apply Kept.alloc | apply Kept.drewN | apply Kept.drew) | exact HK.out)) hb); have n2_ := Aside0.mk (below_step (by repeat (first | (with_reducible first | exact HB.out | apply below_alloc | apply pw_below_drewN | apply below_drew1) | exact HB.out)) hb); clear HO_0; clear HK; clear HB; have HO_0 := n0_; have HK := n1_; have HB := n2_; clear n0_ n1_ n2_; (try clear hb); (try clear hb2); (try clear hk); (try clear hi); have p15 : 0 ≤ (0 : Int) := (by omega); have q15 : 0 < t142.size := (by have : (0 : Int) < (t142.size : Int) := of_decide_eq_true (by first | (with_reducible assumption) | assumption); omega); have hx15 : ∀ h : 0 < t142.size, ((t142[0]'h).toNat : Int) = bt t142 0 := bt_at t142 0; clear p15; have qi15 : (0 < (t142.size : Int)) = True := eq_true (of_decide_eq_true (by first | (with_reducible assumption) | assumption)); replace q15 := eq_true q15) | ((with_reducible refine gate_callee (f := 57) rfl ?_); refine goesL_ (some 44) rfl rfl Try.func57 (by kernel_rfl) rfl #[.string a1, .int .i64 (wrap64 ((wrap64 (x6_1 + 1)) + 1)), .int .i64 (wrap64 (bt t142 0))] rfl (by (try simp only [List.map_toArray, List.map_cons, List.map_nil]); first | done | rfl | (simp only [List.length_drop, List.length_take]; rfl)) ?_; (with_reducible refine (octet_Cut.calls a1 (wrap64 ((wrap64 (x6_1 + 1)) + 1)) (wrap64 (bt t142 0)) t144 true _ A16.out).mono ?_); rintro e w22 ⟨rfl, hb⟩; refine ⟨_, rfl, ?_⟩; have n0_ := Aside0.mk (Kd.R_below (by (with_reducible repeat (first | apply Kd.R_alloc | apply Kd.R_drewN | apply Kd.R_drew)); exact HO_0.out) hb); have n1_ := Aside0.mk (Kept.below (S := (fun k_ => P0_ k_)) (by repeat (first | (with_reducible first | exact HK.out | apply Kept.alloc | apply Kept.drewN | apply Kept.drew) | exact HK.out)) hb); have n2_ := Aside0.mk (below_step (by repeat (first | (with_reducible first | exact HB.out | apply below_alloc | apply pw_below_drewN | apply below_drew1) | exact HB.out)) hb); clear HO_0; clear HK; clear HB; have HO_0 := n0_; have HK := n1_; have HB := n2_; clear n0_ n1_ n2_; (try clear hb); (try clear hb2); (try clear hk); (try clear hi); obtain ⟨Ao23, co23, eo23⟩ := Kd.R_slice HO_0.out; subst eo23) | ((with_reducible refine gate_callee (f := 40) rfl ?_); refine XRun.pairL_ 56 (some 57) rfl rfl rfl rfl Try.func40 (by kernel_rfl) rfl Try.func51 (by kernel_rfl) rfl #[.int .u8 (bt a1 x6_1)] (fun v_ => #[.slice Ao23 x0_1.length co23, v_]) rfl rfl (by first | rfl | (try simp only [List.map_toArray, List.map_cons, List.map_nil]; rfl)) (by intro v_; first | rfl | (try simp only [List.map_toArray, List.map_cons, List.map_nil]; rfl)) ?_; (with_reducible refine (hasix.calls (bt a1 x6_1) _ _ x0_1 t146 _ ?side1 ?side2 A18.out).mono ?_); (case side1 => repeat (first | exact (Kd.R_reads' HO_0.out).2.2 | (with_reducible refine Kd.C_alloc ?_ _) | (with_reducible refine Kd.C_drewN ?_ _) | (with_reducible refine Kd.C_drew ?_))); (case side2 => exact (Kd.R_reads' HO_0.out).2.1); rintro e w24 ⟨rfl, hb⟩; refine ⟨_, rfl, ?_⟩; intro vclo_; have n0_ := Aside0.mk (Kd.R_below (by (with_reducible repeat (first | apply Kd.R_alloc | apply Kd.R_drewN | apply Kd.R_drew)); exact HO_0.out) hb); have n1_ := Aside0.mk (Kept.below (S := (fun k_ => P0_ k_)) (by repeat (first | (with_reducible first | exact HK.out | apply Kept.alloc | apply Kept.drewN | apply Kept.drew) | exact HK.out)) hb); have n2_ := Aside0.mk (below_step (by repeat (first | (with_reducible first | exact HB.out | apply below_alloc | apply pw_below_drewN | apply below_drew1) | exact HB.out)) hb); clear HO_0; clear HK; clear HB; have HO_0 := n0_; have HK := n1_; have HB := n2_; clear n0_ n1_ n2_; (try clear hb); (try clear hb2); (try clear hk); (try clear hi)))
                            go_ret2
                            exact ⟨_, by first | rfl | (simp [errW_none, errW_some] <;> rfl) | (simp [*, errW_none, errW_some] <;> rfl), by first | exact Kd.R_nil _ _ _ _ _ | exact Kd.N_nil _ _ _ _ _ | exact Kd.V_nil _ _ _ _ _ | exact Kd.Q_nil _ _ _ _ _ | exact Kd.S_nil _ _ _ _ _, by repeat (first | (with_reducible first | exact HB.out | apply below_alloc | apply pw_below_drewN | apply below_drew1) | exact HB.out), by repeat (first | (with_reducible first | exact HK.out | apply Kept.alloc | apply Kept.drewN | apply Kept.drew) | exact HK.out)⟩
                          · rw [if_neg c20] at H
                            have c20b0 : decide (128 ≤ (x0_1.length : Int)) = false := decide_eq_false c20
                            have c20b1 : decide (128 ≤ x0_1.length) = false := decide_eq_false (by omega)
                            clear c20
                            by_cases c25 : x0_1.length < 5864062014805
                            · rw [if_pos c25] at H
                              have LMc25 := Aside0.mk c25
                              clear c25
                              obtain ⟨y147, hy147⟩ : ∃ y_ : List (S47), y_ = (x0_1 ++ [(⟨bt a1 x6_1, (⟨#[]⟩ : ByteArray)⟩ : S47)]) := ⟨_, rfl⟩
                              replace H : (if 0 ≤ (x0_1.length : Int) then (if (x0_1.length : Int) < (y147.length : Int) then (if ((rd_T47 y147 (x0_1.length : Int)).f1).size + t144.size ≤ 9223372036854775807 then ((some (y147.set (x0_1.length) (⟨(rd_T47 y147 (x0_1.length : Int)).f0, ((rd_T47 y147 (x0_1.length : Int)).f1) ++ t144⟩ : S47) : List (S47))).bind fun y151 => (if (((rd_T47 y151 (x0_1.length : Int)).f1).size : Int) > 4096 then (some (([] : List (S47)), 6)) else (opt4_area.l0 kj2 y151 a1 (wrap64 ((wrap64 (x6_1 + 1)) + (wrap64 (1 + (t144.size : Int)))))))) else (none)) else (none)) else (none)) = some (r1, r2) := by first | (rw [hy147]; with_reducible exact H) | (have H2_ := (Option.bind_some _ _).symm.trans H; rw [hy147]; with_reducible exact H2_) | (have H2_ := (Option.bind_some _ _).symm.trans H; with_reducible exact H2_) | with_reducible exact H | (rw [hy147]; exact H) | exact H
                              have Ny147 := Aside0.mk hy147
                              clear hy147
                              by_cases c26 : 0 ≤ (x0_1.length : Int)
                              · rw [if_pos c26] at H
                                have c26b0 : decide (0 ≤ (x0_1.length : Int)) = true := decide_eq_true c26
                                have c26b1 : decide (0 ≤ x0_1.length) = true := decide_eq_true (by omega)
                                clear c26
                                by_cases c27 : (x0_1.length : Int) < (y147.length : Int)
                                · rw [if_pos c27] at H
                                  have c27b0 : decide ((x0_1.length : Int) < (y147.length : Int)) = true := decide_eq_true c27
                                  have c27b1 : decide (x0_1.length < y147.length) = true := decide_eq_true (Int.ofNat_lt.mp c27)
                                  clear c27
                                  by_cases c28 : ((rd_T47 y147 (x0_1.length : Int)).f1).size + t144.size ≤ 9223372036854775807
                                  · rw [if_pos c28] at H
                                    have c28b0 := eq_true c28
                                    have c28b1 : decide (((rd_T47 y147 (x0_1.length : Int)).f1).size + t144.size ≤ 9223372036854775807) = true := decide_eq_true c28
                                    try have c28b2 : (9223372036854775807 < ((rd_T47 y147 (x0_1.length : Int)).f1).size + t144.size) = False := eq_false (Nat.not_lt.2 c28)
                                    obtain ⟨y151, hy151⟩ : ∃ y_ : List (S47), y_ = (y147.set (x0_1.length) (⟨(rd_T47 y147 (x0_1.length : Int)).f0, ((rd_T47 y147 (x0_1.length : Int)).f1) ++ t144⟩ : S47)) := ⟨_, rfl⟩
                                    replace H : (if (((rd_T47 y151 (x0_1.length : Int)).f1).size : Int) > 4096 then (some (([] : List (S47)), 6)) else (opt4_area.l0 kj2 y151 a1 (wrap64 ((wrap64 (x6_1 + 1)) + (wrap64 (1 + (t144.size : Int))))))) = some (r1, r2) := by first | (rw [hy151]; with_reducible exact H) | (have H2_ := (Option.bind_some _ _).symm.trans H; rw [hy151]; with_reducible exact H2_) | (have H2_ := (Option.bind_some _ _).symm.trans H; with_reducible exact H2_) | with_reducible exact H | (rw [hy151]; exact H) | exact H
                                    have Ny151 := Aside0.mk hy151
                                    clear hy151
                                    by_cases c30 : (((rd_T47 y151 (x0_1.length : Int)).f1).size : Int) > 4096
                                    · rw [if_pos c30] at H
                                      have c30b0 : decide (4096 < (((rd_T47 y151 (x0_1.length : Int)).f1).size : Int)) = true := decide_eq_true c30
                                      have c30b1 : decide (4096 < ((rd_T47 y151 (x0_1.length : Int)).f1).size) = true := decide_eq_true (by omega)
                                      clear c30
                                      simp only [Option.some.injEq, Prod.mk.injEq] at H
                                      obtain ⟨rfl, rfl⟩ := H
                                      have p10 : 0 ≤ (x6_1 : Int) := of_decide_eq_true (by first | (with_reducible assumption) | assumption)
                                      have q10 : x6_1 < (a1.size : Int) := of_decide_eq_true (by first | (with_reducible assumption) | assumption)
                                      have hx10 := bt_at a1 x6_1
                                      replace p10 := eq_true p10
                                      replace q10 := eq_true q10
                                      go_wp2_with (first | ((with_reducible refine gate_callee (f := 57) rfl ?_); refine goesL_ (some 32) rfl rfl Try.func57 (by kernel_rfl) rfl #[.string a1, .int .i64 (wrap64 (x6_1 + 1)), .int .i64 1] rfl (by (try simp only [List.map_toArray, List.map_cons, List.map_nil]); first | done | rfl | (simp only [List.length_drop, List.length_take]; rfl)) ?_; (with_reducible refine (octet_Cut.calls a1 (wrap64 (x6_1 + 1)) 1 t142 true _ A12.out).mono ?_); rintro e w31 ⟨rfl, hb⟩; refine ⟨_, rfl, ?_⟩; have n0_ := Aside0.mk (Kd.R_below (by (with_reducible repeat (first | apply Kd.R_alloc | apply Kd.R_drewN | apply Kd.R_drew)); exact HO_0.out) hb); have n1_ := Aside0.mk (Kept.below (S := (fun k_ => P0_ k_)) (by repeat (first | (with_reducible first | exact HK.out | apply Kept.alloc | apply Kept.drewN | apply Kept.drew) | exact HK.out)) hb); have n2_ := Aside0.mk (below_step (by repeat (first | (with_reducible first | exact HB.out | apply below_alloc | apply pw_below_drewN | apply below_drew1) | exact HB.out)) hb); clear HO_0; clear HK; clear HB; have HO_0 := n0_; have HK := n1_; have HB := n2_; clear n0_ n1_ n2_; (try clear hb); (try clear hb2); (try clear hk); (try clear hi); have p15 : 0 ≤ (0 : Int) := (by omega); have q15 : 0 < t142.size := (by have : (0 : Int) < (t142.size : Int) := of_decide_eq_true (by first | (with_reducible assumption) | assumption); omega); have hx15 : ∀ h : 0 < t142.size, ((t142[0]'h).toNat : Int) = bt t142 0 := bt_at t142 0; clear p15; have qi15 : (0 < (t142.size : Int)) = True := eq_true (of_decide_eq_true (by first | (with_reducible assumption) | assumption)); replace q15 := eq_true q15) | ((with_reducible refine gate_callee (f := 57) rfl ?_); refine goesL_ (some 44) rfl rfl Try.func57 (by kernel_rfl) rfl #[.string a1, .int .i64 (wrap64 ((wrap64 (x6_1 + 1)) + 1)), .int .i64 (wrap64 (bt t142 0))] rfl (by (try simp only [List.map_toArray, List.map_cons, List.map_nil]); first | done | rfl | (simp only [List.length_drop, List.length_take]; rfl)) ?_; (with_reducible refine (octet_Cut.calls a1 (wrap64 ((wrap64 (x6_1 + 1)) + 1)) (wrap64 (bt t142 0)) t144 true _ A16.out).mono ?_); rintro e w32 ⟨rfl, hb⟩; refine ⟨_, rfl, ?_⟩; have n0_ := Aside0.mk (Kd.R_below (by (with_reducible repeat (first | apply Kd.R_alloc | apply Kd.R_drewN | apply Kd.R_drew)); exact HO_0.out) hb); have n1_ := Aside0.mk (Kept.below (S := (fun k_ => P0_ k_)) (by repeat (first | (with_reducible first | exact HK.out | apply Kept.alloc | apply Kept.drewN | apply Kept.drew) | exact HK.out)) hb); have n2_ := Aside0.mk (below_step (by repeat (first | (with_reducible first | exact HB.out | apply below_alloc | apply pw_below_drewN | apply below_drew1) | exact HB.out)) hb); clear HO_0; clear HK; clear HB; have HO_0 := n0_; have HK := n1_; have HB := n2_; clear n0_ n1_ n2_; (try clear hb); (try clear hb2); (try clear hk); (try clear hi); obtain ⟨Ao33, co33, eo33⟩ := Kd.R_slice HO_0.out; subst eo33) | ((with_reducible refine gate_callee (f := 40) rfl ?_); refine XRun.pairL_ 56 (some 57) rfl rfl rfl rfl Try.func40 (by kernel_rfl) rfl Try.func51 (by kernel_rfl) rfl #[.int .u8 (bt a1 x6_1)] (fun v_ => #[.slice Ao33 x0_1.length co33, v_]) rfl rfl (by first | rfl | (try simp only [List.map_toArray, List.map_cons, List.map_nil]; rfl)) (by intro v_; first | rfl | (try simp only [List.map_toArray, List.map_cons, List.map_nil]; rfl)) ?_; (with_reducible refine (hasix.calls (bt a1 x6_1) _ _ x0_1 t146 _ ?side1 ?side2 A18.out).mono ?_); (case side1 => repeat (first | exact (Kd.R_reads' HO_0.out).2.2 | (with_reducible refine Kd.C_alloc ?_ _) | (with_reducible refine Kd.C_drewN ?_ _) | (with_reducible refine Kd.C_drew ?_))); (case side2 => exact (Kd.R_reads' HO_0.out).2.1); rintro e w34 ⟨rfl, hb⟩; refine ⟨_, rfl, ?_⟩; intro vclo_; have n0_ := Aside0.mk (Kd.R_below (by (with_reducible repeat (first | apply Kd.R_alloc | apply Kd.R_drewN | apply Kd.R_drew)); exact HO_0.out) hb); have n1_ := Aside0.mk (Kept.below (S := (fun k_ => P0_ k_)) (by repeat (first | (with_reducible first | exact HK.out | apply Kept.alloc | apply Kept.drewN | apply Kept.drew) | exact HK.out)) hb); have n2_ := Aside0.mk (below_step (by repeat (first | (with_reducible first | exact HB.out | apply below_alloc | apply pw_below_drewN | apply below_drew1) | exact HB.out)) hb); clear HO_0; clear HK; clear HB; have HO_0 := n0_; have HK := n1_; have HB := n2_; clear n0_ n1_ n2_; (try clear hb); (try clear hb2); (try clear hk); (try clear hi)) | ((with_reducible refine gate_builtin (b := .append) (xs := #[.tmp 65, .tmp 68]) rfl ?_); at_builtin; refine Kd.R_append k47 (w0 := w0) w0.heap.size rfl (.tmp 65) (.tmp 68) 24 47 (.agg #[(.int .u8 0), (.string ⟨#[]⟩)]) 24 rfl Try.underlying24 info47 rfl (by decide) (by omega) (.slice Ao33 x0_1.length co33) x0_1 (⟨bt a1 x6_1, (⟨#[]⟩ : ByteArray)⟩ : S47) [.int .u8 (bt a1 x6_1), .string (⟨#[]⟩ : ByteArray)] (fun k_ => (P0_ k_ ∨ w.heap.size ≤ k_)) (fun _ => False) rfl rfl ?aP (fun _ hk => hk.elim) ?aF ?aO ?aB ?aS ?aL ?_; (case aP => exact k47_mkM _ _ _ (⟨bt a1 x6_1, (⟨#[]⟩ : ByteArray)⟩ : S47)); (case aB => exact (by repeat (first | (with_reducible first | exact HB.out | apply below_alloc | apply pw_below_drewN | apply below_drew1) | exact HB.out))); (case aF => exact (fun k_ hk => (.inr (Nat.le_trans (by first | exact HK.out.1 | exact (show Kept w _ (fun k_ => P0_ k_) from by repeat (first | (with_reducible first | exact HK.out | apply Kept.alloc | apply Kept.drewN | apply Kept.drew) | exact HK.out)).1) hk)))); (case aO => exact (by (with_reducible repeat (first | apply Kd.R_alloc | apply Kd.R_drewN | apply Kd.R_drew)); exact HO_0.out)); (case aS => exact (below_size (by repeat (first | (with_reducible first | exact HB.out | apply below_alloc | apply pw_below_drewN | apply below_drew1) | exact HB.out)))); (case aL => have := LMc25.out; omega); intro v148 w35 ho hb hg hat; rw [← Ny147.out] at ho; have n0_ := Aside0.mk (hb); have n1_ := Aside0.mk (Kept.of_grown (S := (fun k_ => P0_ k_)) hg (by repeat (first | (with_reducible first | exact HK.out | apply Kept.alloc | apply Kept.drewN | apply Kept.drew) | exact HK.out)) (fun k_ e_ => (HO_0.out.1 k_ e_))); have n2_ := Aside0.mk (ho); clear HB; clear HK; clear HO_0; have HB := n0_; have HK := n1_; have HO149 := n2_; clear n0_ n1_ n2_; clear ho hb hg hat; obtain ⟨Ao36, co36, eo36⟩ := Kd.R_slice HO149.out; subst eo36; have p150 : 0 ≤ ((x0_1.length : Int) : Int) := of_decide_eq_true (by first | (with_reducible assumption) | assumption); have q150 : (x0_1.length : Int) < (y147.length : Int) := of_decide_eq_true (by first | (with_reducible assumption) | assumption); obtain ⟨ad150, e150, hx150_0, hx150_1⟩ := at_T47 (Kd.R_reads' HO149.out).2.2 (x0_1.length : Int) p150 q150; cases e150; (try simp only [Go.IntWalk.toNatUp, Int.toNat_natCast] at hx150_0); (try simp only [Go.IntWalk.toNatUp, Int.toNat_natCast] at hx150_1); replace p150 := eq_true p150; replace q150 := eq_true q150; have p29 : 0 ≤ ((x0_1.length : Int) : Int) := of_decide_eq_true (by first | (with_reducible assumption) | assumption); have q29 : ((x0_1.length : Int) : Int) < ((y147.length : Int) : Int) := of_decide_eq_true (by first | (with_reducible assumption) | assumption); obtain ⟨go29, co29, eo29, gb29, gl29, cl29, HG29⟩ := Kd.R_form HO149.out (by omega); (first | cases eo29 | (injection eo29 with ea_ en_ ec_; (first | subst ea_ | (injection ea_ with ea_; subst ea_)); subst ec_; clear en_)); have GB29 := Aside0.mk gb29; have GG29 := Aside0.mk HG29; clear gb29 gl29 HG29; have HMgo29 := Aside0.mk (show (P0_ go29 ∨ w.heap.size ≤ go29) from (HO149.out.1 _ rfl)); (first | simp only [add_plain] at hx150_0 | skip); (first | simp only [add_plain] at hx150_1 | skip); obtain ⟨ce29, hcl29, hM29, hcc29, hfr29⟩ := Kd.R_elem HO149.out z47 ((x0_1.length : Int) : Int) p29 q29; obtain rfl := k47_openM hM29; have hx29_0 : w35.cell? ⟨go29, (x0_1.length) * 2, none⟩ = some (.int .u8 ((rd_T47 y147 (x0_1.length : Int)).f0)) := hcc29 0 _ rfl; have hx29_1 : w35.cell? ⟨go29, (x0_1.length) * 2 + 1, none⟩ = some (.string ((rd_T47 y147 (x0_1.length : Int)).f1)) := hcc29 1 _ rfl; have hf29_0 : w35.frozen? ⟨go29, (x0_1.length) * 2, none⟩ = false := hfr29 0; have hf29_1 : w35.frozen? ⟨go29, (x0_1.length) * 2 + 1, none⟩ = false := hfr29 1; clear hcl29 hcc29 hfr29 hM29; replace p29 := eq_true p29; replace q29 := eq_true q29; have HX37 := Aside0.mk (show Kd.R k47 47 w35 w0.heap.size (fun k_ => (P0_ k_ ∨ w.heap.size ≤ k_)) (.slice (some ⟨go29, 0, none⟩) y147.length co36) y147 from (by (with_reducible repeat (first | apply Kd.R_alloc | apply Kd.R_drewN | apply Kd.R_drew)); exact HO149.out)); obtain ⟨ce37, hcl37, hM37, hcc37, hfr37⟩ := Kd.R_elem HX37.out z47 ((x0_1.length : Int) : Int) (of_decide_eq_true (by first | (with_reducible assumption) | assumption)) (by have h_ : ((x0_1.length : Int) : Int) < ((y147.length : Int) : Int) := of_decide_eq_true (by first | (with_reducible assumption) | assumption); first | exact h_ | (have e_ := (Kd.R_reads' HO149.out).1; omega) | simpa using h_); obtain rfl := k47_openM hM37; have HP37 := Kd.R_seg HX37.out ((x0_1.length : Int) : Int) (of_decide_eq_true (by first | (with_reducible assumption) | assumption)) (by have h_ : ((x0_1.length : Int) : Int) < ((y147.length : Int) : Int) := of_decide_eq_true (by first | (with_reducible assumption) | assumption); first | exact h_ | (have e_ := (Kd.R_reads' HO149.out).1; omega) | simpa using h_) (seg := [.string (((rd_T47 y147 (x0_1.length : Int)).f1) ++ t144)]) (j := 1) hcl37 hcc37 (show 2 ≤ 2 from by decide) (x' := (⟨(rd_T47 y147 (x0_1.length : Int)).f0, ((rd_T47 y147 (x0_1.length : Int)).f1) ++ t144⟩ : S47)) (k47_mkM _ _ _ (⟨(rd_T47 y147 (x0_1.length : Int)).f0, ((rd_T47 y147 (x0_1.length : Int)).f1) ++ t144⟩ : S47) ) (fun _ hk => hk); have hx37_1 := hcc37 1 _ rfl; (try simp only [show (k47).sz = 2 from rfl, Nat.mul_one, Nat.add_zero, Int.toNat_natCast] at hx37_1); have hf37_1 := hfr37 1; (try simp only [show (k47).sz = 2 from rfl, Nat.mul_one, Nat.add_zero, Int.toNat_natCast] at hf37_1); clear hcl37 hcc37 hfr37 hM37) | ((with_reducible refine gate_store (t := 9) (p := 78) rfl ?_); refine store_event (t := 9) (p := 78) (v := ?vo_w38) (w1 := (w35.setCell ⟨go29, (x0_1.length) * 2 + 1, none⟩ (.string (((rd_T47 y147 (x0_1.length : Int)).f1) ++ t144)))) ?hg ?ho ?hn ?hr ?_; (case ho => rfl); (case hg => rfl); (case hn => rfl); (case hr => first | (go_simp; done) | (go_simp; rfl)); intro w38 hw; have hg : w35.grownBy w38 (some go29) := (by rw [hw]; exact HP37.2); have hp_ : Kd.R k47 47 w38 w0.heap.size (fun k_ => (P0_ k_ ∨ w.heap.size ≤ k_)) (.slice (some ⟨go29, 0, none⟩) y147.length co36) y151 := (by rw [hw, Ny151.out]; exact HP37.1); clear HP37; have n0_ := Aside0.mk (hp_); have n1_ := Aside0.mk ((by rw [hw]; exact below_set (HB.out) GB29.out : Below w0.heap.size w0 w38)); have n2_ := Aside0.mk (Kept.of_grown (S := (fun k_ => P0_ k_)) hg (by repeat (first | (with_reducible first | exact HK.out | apply Kept.alloc | apply Kept.drewN | apply Kept.drew) | exact HK.out)) (fun k_ e_ => (HO149.out.1 k_ e_))); clear HO149; clear HB; clear HK; have HO149 := n0_; have HB := n1_; have HK := n2_; clear n0_ n1_ n2_; clear hg hw hp_; have p152 : 0 ≤ ((x0_1.length : Int) : Int) := of_decide_eq_true (by first | (with_reducible assumption) | assumption); have q152 : (x0_1.length : Int) < (y151.length : Int) := (by have h_ : ((x0_1.length : Int) : Int) < ((y147.length : Int) : Int) := of_decide_eq_true (by first | (with_reducible assumption) | assumption); first | (have e_ := (Kd.R_reads' HO149.out).1; omega) | simpa only [Ny151.out, List.length_set] using h_); have ql152 : (((x0_1.length : Int) : Int) < ((y147.length : Int) : Int)) = True := eq_true (of_decide_eq_true (by first | (with_reducible assumption) | assumption)); obtain ⟨ad152, e152, hx152_0, hx152_1⟩ := at_T47 (Kd.R_reads' HO149.out).2.2 (x0_1.length : Int) p152 q152; obtain rfl : (⟨go29, 0, none⟩ : Addr) = ad152 := (by injection e152); (first | simp only [add_plain] at hx152_0 | simp only [add_at] at hx152_0 | simp only [Addr.add, Nat.zero_add] at hx152_0 | skip); (first | simp only [add_plain] at hx152_1 | simp only [add_at] at hx152_1 | simp only [Addr.add, Nat.zero_add] at hx152_1 | skip); (try simp only [Go.IntWalk.toNatUp, Int.toNat_natCast] at hx152_0); (try simp only [Go.IntWalk.toNatUp, Int.toNat_natCast] at hx152_1); replace p152 := eq_true p152; replace q152 := eq_true q152))
                                      go_ret2
                                      exact ⟨_, by first | rfl | (simp [errW_none, errW_some] <;> rfl) | (simp [*, errW_none, errW_some] <;> rfl), by first | exact Kd.R_nil _ _ _ _ _ | exact Kd.N_nil _ _ _ _ _ | exact Kd.V_nil _ _ _ _ _ | exact Kd.Q_nil _ _ _ _ _ | exact Kd.S_nil _ _ _ _ _, by repeat (first | (with_reducible first | exact HB.out | apply below_alloc | apply pw_below_drewN | apply below_drew1) | exact HB.out), by repeat (first | (with_reducible first | exact HK.out | apply Kept.alloc | apply Kept.drewN | apply Kept.drew) | exact HK.out)⟩
                                    · rw [if_neg c30] at H
                                      have c30b0 : decide (4096 < (((rd_T47 y151 (x0_1.length : Int)).f1).size : Int)) = false := decide_eq_false c30
                                      have c30b1 : decide (4096 < ((rd_T47 y151 (x0_1.length : Int)).f1).size) = false := decide_eq_false (by omega)
                                      clear c30
                                      have H' := Aside0.mk H
                                      clear H
                                      have p10 : 0 ≤ (x6_1 : Int) := of_decide_eq_true (by first | (with_reducible assumption) | assumption)
                                      have q10 : x6_1 < (a1.size : Int) := of_decide_eq_true (by first | (with_reducible assumption) | assumption)
                                      have hx10 := bt_at a1 x6_1
                                      replace p10 := eq_true p10
                                      replace q10 := eq_true q10
                                      go_wp2_with (first | ((with_reducible refine gate_callee (f := 57) rfl ?_); refine goesL_ (some 32) rfl rfl Try.func57 (by kernel_rfl) rfl #[.string a1, .int .i64 (wrap64 (x6_1 + 1)), .int .i64 1] rfl (by (try simp only [List.map_toArray, List.map_cons, List.map_nil]); first | done | rfl | (simp only [List.length_drop, List.length_take]; rfl)) ?_; (with_reducible refine (octet_Cut.calls a1 (wrap64 (x6_1 + 1)) 1 t142 true _ A12.out).mono ?_); rintro e w39 ⟨rfl, hb⟩; refine ⟨_, rfl, ?_⟩; have n0_ := Aside0.mk (Kd.R_below (by (with_reducible repeat (first | apply Kd.R_alloc | apply Kd.R_drewN | apply Kd.R_drew)); exact HO_0.out) hb); have n1_ := Aside0.mk (Kept.below (S := (fun k_ => P0_ k_)) (by repeat (first | (with_reducible first | exact HK.out | apply Kept.alloc | apply Kept.drewN | apply Kept.drew) | exact HK.out)) hb); have n2_ := Aside0.mk (below_step (by repeat (first | (with_reducible first | exact HB.out | apply below_alloc | apply pw_below_drewN | apply below_drew1) | exact HB.out)) hb); clear HO_0; clear HK; clear HB; have HO_0 := n0_; have HK := n1_; have HB := n2_; clear n0_ n1_ n2_; (try clear hb); (try clear hb2); (try clear hk); (try clear hi); have p15 : 0 ≤ (0 : Int) := (by omega); have q15 : 0 < t142.size := (by have : (0 : Int) < (t142.size : Int) := of_decide_eq_true (by first | (with_reducible assumption) | assumption); omega); have hx15 : ∀ h : 0 < t142.size, ((t142[0]'h).toNat : Int) = bt t142 0 := bt_at t142 0; clear p15; have qi15 : (0 < (t142.size : Int)) = True := eq_true (of_decide_eq_true (by first | (with_reducible assumption) | assumption)); replace q15 := eq_true q15) | ((with_reducible refine gate_callee (f := 57) rfl ?_); refine goesL_ (some 44) rfl rfl Try.func57 (by kernel_rfl) rfl #[.string a1, .int .i64 (wrap64 ((wrap64 (x6_1 + 1)) + 1)), .int .i64 (wrap64 (bt t142 0))] rfl (by (try simp only [List.map_toArray, List.map_cons, List.map_nil]); first | done | rfl | (simp only [List.length_drop, List.length_take]; rfl)) ?_; (with_reducible refine (octet_Cut.calls a1 (wrap64 ((wrap64 (x6_1 + 1)) + 1)) (wrap64 (bt t142 0)) t144 true _ A16.out).mono ?_); rintro e w40 ⟨rfl, hb⟩; refine ⟨_, rfl, ?_⟩; have n0_ := Aside0.mk (Kd.R_below (by (with_reducible repeat (first | apply Kd.R_alloc | apply Kd.R_drewN | apply Kd.R_drew)); exact HO_0.out) hb); have n1_ := Aside0.mk (Kept.below (S := (fun k_ => P0_ k_)) (by repeat (first | (with_reducible first | exact HK.out | apply Kept.alloc | apply Kept.drewN | apply Kept.drew) | exact HK.out)) hb); have n2_ := Aside0.mk (below_step (by repeat (first | (with_reducible first | exact HB.out | apply below_alloc | apply pw_below_drewN | apply below_drew1) | exact HB.out)) hb); clear HO_0; clear HK; clear HB; have HO_0 := n0_; have HK := n1_; have HB := n2_; clear n0_ n1_ n2_; (try clear hb); (try clear hb2); (try clear hk); (try clear hi); obtain ⟨Ao41, co41, eo41⟩ := Kd.R_slice HO_0.out; subst eo41) | ((with_reducible refine gate_callee (f := 40) rfl ?_); refine XRun.pairL_ 56 (some 57) rfl rfl rfl rfl Try.func40 (by kernel_rfl) rfl Try.func51 (by kernel_rfl) rfl #[.int .u8 (bt a1 x6_1)] (fun v_ => #[.slice Ao41 x0_1.length co41, v_]) rfl rfl (by first | rfl | (try simp only [List.map_toArray, List.map_cons, List.map_nil]; rfl)) (by intro v_; first | rfl | (try simp only [List.map_toArray, List.map_cons, List.map_nil]; rfl)) ?_; (with_reducible refine (hasix.calls (bt a1 x6_1) _ _ x0_1 t146 _ ?side1 ?side2 A18.out).mono ?_); (case side1 => repeat (first | exact (Kd.R_reads' HO_0.out).2.2 | (with_reducible refine Kd.C_alloc ?_ _) | (with_reducible refine Kd.C_drewN ?_ _) | (with_reducible refine Kd.C_drew ?_))); (case side2 => exact (Kd.R_reads' HO_0.out).2.1); rintro e w42 ⟨rfl, hb⟩; refine ⟨_, rfl, ?_⟩; intro vclo_; have n0_ := Aside0.mk (Kd.R_below (by (with_reducible repeat (first | apply Kd.R_alloc | apply Kd.R_drewN | apply Kd.R_drew)); exact HO_0.out) hb); have n1_ := Aside0.mk (Kept.below (S := (fun k_ => P0_ k_)) (by repeat (first | (with_reducible first | exact HK.out | apply Kept.alloc | apply Kept.drewN | apply Kept.drew) | exact HK.out)) hb); have n2_ := Aside0.mk (below_step (by repeat (first | (with_reducible first | exact HB.out | apply below_alloc | apply pw_below_drewN | apply below_drew1) | exact HB.out)) hb); clear HO_0; clear HK; clear HB; have HO_0 := n0_; have HK := n1_; have HB := n2_; clear n0_ n1_ n2_; (try clear hb); (try clear hb2); (try clear hk); (try clear hi)) | ((with_reducible refine gate_builtin (b := .append) (xs := #[.tmp 65, .tmp 68]) rfl ?_); at_builtin; refine Kd.R_append k47 (w0 := w0) w0.heap.size rfl (.tmp 65) (.tmp 68) 24 47 (.agg #[(.int .u8 0), (.string ⟨#[]⟩)]) 24 rfl Try.underlying24 info47 rfl (by decide) (by omega) (.slice Ao41 x0_1.length co41) x0_1 (⟨bt a1 x6_1, (⟨#[]⟩ : ByteArray)⟩ : S47) [.int .u8 (bt a1 x6_1), .string (⟨#[]⟩ : ByteArray)] (fun k_ => (P0_ k_ ∨ w.heap.size ≤ k_)) (fun _ => False) rfl rfl ?aP (fun _ hk => hk.elim) ?aF ?aO ?aB ?aS ?aL ?_; (case aP => exact k47_mkM _ _ _ (⟨bt a1 x6_1, (⟨#[]⟩ : ByteArray)⟩ : S47)); (case aB => exact (by repeat (first | (with_reducible first | exact HB.out | apply below_alloc | apply pw_below_drewN | apply below_drew1) | exact HB.out))); (case aF => exact (fun k_ hk => (.inr (Nat.le_trans (by first | exact HK.out.1 | exact (show Kept w _ (fun k_ => P0_ k_) from by repeat (first | (with_reducible first | exact HK.out | apply Kept.alloc | apply Kept.drewN | apply Kept.drew) | exact HK.out)).1) hk)))); (case aO => exact (by (with_reducible repeat (first | apply Kd.R_alloc | apply Kd.R_drewN | apply Kd.R_drew)); exact HO_0.out)); (case aS => exact (below_size (by repeat (first | (with_reducible first | exact HB.out | apply below_alloc | apply pw_below_drewN | apply below_drew1) | exact HB.out)))); (case aL => have := LMc25.out; omega); intro v148 w43 ho hb hg hat; rw [← Ny147.out] at ho; have n0_ := Aside0.mk (hb); have n1_ := Aside0.mk (Kept.of_grown (S := (fun k_ => P0_ k_)) hg (by repeat (first | (with_reducible first | exact HK.out | apply Kept.alloc | apply Kept.drewN | apply Kept.drew) | exact HK.out)) (fun k_ e_ => (HO_0.out.1 k_ e_))); have n2_ := Aside0.mk (ho); clear HB; clear HK; clear HO_0; have HB := n0_; have HK := n1_; have HO149 := n2_; clear n0_ n1_ n2_; clear ho hb hg hat; obtain ⟨Ao44, co44, eo44⟩ := Kd.R_slice HO149.out; subst eo44; have p150 : 0 ≤ ((x0_1.length : Int) : Int) := of_decide_eq_true (by first | (with_reducible assumption) | assumption); have q150 : (x0_1.length : Int) < (y147.length : Int) := of_decide_eq_true (by first | (with_reducible assumption) | assumption); obtain ⟨ad150, e150, hx150_0, hx150_1⟩ := at_T47 (Kd.R_reads' HO149.out).2.2 (x0_1.length : Int) p150 q150; cases e150; (try simp only [Go.IntWalk.toNatUp, Int.toNat_natCast] at hx150_0); (try simp only [Go.IntWalk.toNatUp, Int.toNat_natCast] at hx150_1); replace p150 := eq_true p150; replace q150 := eq_true q150; have p29 : 0 ≤ ((x0_1.length : Int) : Int) := of_decide_eq_true (by first | (with_reducible assumption) | assumption); have q29 : ((x0_1.length : Int) : Int) < ((y147.length : Int) : Int) := of_decide_eq_true (by first | (with_reducible assumption) | assumption); obtain ⟨go29, co29, eo29, gb29, gl29, cl29, HG29⟩ := Kd.R_form HO149.out (by omega); (first | cases eo29 | (injection eo29 with ea_ en_ ec_; (first | subst ea_ | (injection ea_ with ea_; subst ea_)); subst ec_; clear en_)); have GB29 := Aside0.mk gb29; have GG29 := Aside0.mk HG29; clear gb29 gl29 HG29; have HMgo29 := Aside0.mk (show (P0_ go29 ∨ w.heap.size ≤ go29) from (HO149.out.1 _ rfl)); (first | simp only [add_plain] at hx150_0 | skip); (first | simp only [add_plain] at hx150_1 | skip); obtain ⟨ce29, hcl29, hM29, hcc29, hfr29⟩ := Kd.R_elem HO149.out z47 ((x0_1.length : Int) : Int) p29 q29; obtain rfl := k47_openM hM29; have hx29_0 : w43.cell? ⟨go29, (x0_1.length) * 2, none⟩ = some (.int .u8 ((rd_T47 y147 (x0_1.length : Int)).f0)) := hcc29 0 _ rfl; have hx29_1 : w43.cell? ⟨go29, (x0_1.length) * 2 + 1, none⟩ = some (.string ((rd_T47 y147 (x0_1.length : Int)).f1)) := hcc29 1 _ rfl; have hf29_0 : w43.frozen? ⟨go29, (x0_1.length) * 2, none⟩ = false := hfr29 0; have hf29_1 : w43.frozen? ⟨go29, (x0_1.length) * 2 + 1, none⟩ = false := hfr29 1; clear hcl29 hcc29 hfr29 hM29; replace p29 := eq_true p29; replace q29 := eq_true q29; have HX45 := Aside0.mk (show Kd.R k47 47 w43 w0.heap.size (fun k_ => (P0_ k_ ∨ w.heap.size ≤ k_)) (.slice (some ⟨go29, 0, none⟩) y147.length co44) y147 from (by (with_reducible repeat (first | apply Kd.R_alloc | apply Kd.R_drewN | apply Kd.R_drew)); exact HO149.out)); obtain ⟨ce45, hcl45, hM45, hcc45, hfr45⟩ := Kd.R_elem HX45.out z47 ((x0_1.length : Int) : Int) (of_decide_eq_true (by first | (with_reducible assumption) | assumption)) (by have h_ : ((x0_1.length : Int) : Int) < ((y147.length : Int) : Int) := of_decide_eq_true (by first | (with_reducible assumption) | assumption); first | exact h_ | (have e_ := (Kd.R_reads' HO149.out).1; omega) | simpa using h_); obtain rfl := k47_openM hM45; have HP45 := Kd.R_seg HX45.out ((x0_1.length : Int) : Int) (of_decide_eq_true (by first | (with_reducible assumption) | assumption)) (by have h_ : ((x0_1.length : Int) : Int) < ((y147.length : Int) : Int) := of_decide_eq_true (by first | (with_reducible assumption) | assumption); first | exact h_ | (have e_ := (Kd.R_reads' HO149.out).1; omega) | simpa using h_) (seg := [.string (((rd_T47 y147 (x0_1.length : Int)).f1) ++ t144)]) (j := 1) hcl45 hcc45 (show 2 ≤ 2 from by decide) (x' := (⟨(rd_T47 y147 (x0_1.length : Int)).f0, ((rd_T47 y147 (x0_1.length : Int)).f1) ++ t144⟩ : S47)) (k47_mkM _ _ _ (⟨(rd_T47 y147 (x0_1.length : Int)).f0, ((rd_T47 y147 (x0_1.length : Int)).f1) ++ t144⟩ : S47) ) (fun _ hk => hk); have hx45_1 := hcc45 1 _ rfl; (try simp only [show (k47).sz = 2 from rfl, Nat.mul_one, Nat.add_zero, Int.toNat_natCast] at hx45_1); have hf45_1 := hfr45 1; (try simp only [show (k47).sz = 2 from rfl, Nat.mul_one, Nat.add_zero, Int.toNat_natCast] at hf45_1); clear hcl45 hcc45 hfr45 hM45) | ((with_reducible refine gate_store (t := 9) (p := 78) rfl ?_); refine store_event (t := 9) (p := 78) (v := ?vo_w46) (w1 := (w43.setCell ⟨go29, (x0_1.length) * 2 + 1, none⟩ (.string (((rd_T47 y147 (x0_1.length : Int)).f1) ++ t144)))) ?hg ?ho ?hn ?hr ?_; (case ho => rfl); (case hg => rfl); (case hn => rfl); (case hr => first | (go_simp; done) | (go_simp; rfl)); intro w46 hw; have hg : w43.grownBy w46 (some go29) := (by rw [hw]; exact HP45.2); have hp_ : Kd.R k47 47 w46 w0.heap.size (fun k_ => (P0_ k_ ∨ w.heap.size ≤ k_)) (.slice (some ⟨go29, 0, none⟩) y147.length co44) y151 := (by rw [hw, Ny151.out]; exact HP45.1); clear HP45; have n0_ := Aside0.mk (hp_); have n1_ := Aside0.mk ((by rw [hw]; exact below_set (HB.out) GB29.out : Below w0.heap.size w0 w46)); have n2_ := Aside0.mk (Kept.of_grown (S := (fun k_ => P0_ k_)) hg (by repeat (first | (with_reducible first | exact HK.out | apply Kept.alloc | apply Kept.drewN | apply Kept.drew) | exact HK.out)) (fun k_ e_ => (HO149.out.1 k_ e_))); clear HO149; clear HB; clear HK; have HO149 := n0_; have HB := n1_; have HK := n2_; clear n0_ n1_ n2_; clear hg hw hp_; have p152 : 0 ≤ ((x0_1.length : Int) : Int) := of_decide_eq_true (by first | (with_reducible assumption) | assumption); have q152 : (x0_1.length : Int) < (y151.length : Int) := (by have h_ : ((x0_1.length : Int) : Int) < ((y147.length : Int) : Int) := of_decide_eq_true (by first | (with_reducible assumption) | assumption); first | (have e_ := (Kd.R_reads' HO149.out).1; omega) | simpa only [Ny151.out, List.length_set] using h_); have ql152 : (((x0_1.length : Int) : Int) < ((y147.length : Int) : Int)) = True := eq_true (of_decide_eq_true (by first | (with_reducible assumption) | assumption)); obtain ⟨ad152, e152, hx152_0, hx152_1⟩ := at_T47 (Kd.R_reads' HO149.out).2.2 (x0_1.length : Int) p152 q152; obtain rfl : (⟨go29, 0, none⟩ : Addr) = ad152 := (by injection e152); (first | simp only [add_plain] at hx152_0 | simp only [add_at] at hx152_0 | simp only [Addr.add, Nat.zero_add] at hx152_0 | skip); (first | simp only [add_plain] at hx152_1 | simp only [add_at] at hx152_1 | simp only [Addr.add, Nat.zero_add] at hx152_1 | skip); (try simp only [Go.IntWalk.toNatUp, Int.toNat_natCast] at hx152_0); (try simp only [Go.IntWalk.toNatUp, Int.toNat_natCast] at hx152_1); replace p152 := eq_true p152; replace q152 := eq_true q152))
                                      go_roundg kj2
                                      case measure => have := HK1.out; have := HJ2.out; omega
                                      case rel => exact ⟨(y151), (wrap64 ((wrap64 (x6_1 + 1)) + (wrap64 (1 + (t144.size : Int))))), (by first | rfl | (simp; done) | (simp only [ByteArray.size_extract]; rw [Nat.min_eq_left (by omega)]; done) | (simp [*]; done)), H', ⟨by have := HK1.out; have := HJ2.out; omega⟩, ⟨by (with_reducible repeat (first | apply Kd.R_alloc | apply Kd.R_drewN | apply Kd.R_drew)); exact HO149.out⟩, ⟨by repeat (first | (with_reducible first | exact HK.out | apply Kept.alloc | apply Kept.drewN | apply Kept.drew) | exact HK.out)⟩, ⟨by repeat (first | (with_reducible first | exact HB.out | apply below_alloc | apply pw_below_drewN | apply below_drew1) | exact HB.out)⟩⟩
                                  · rw [if_neg c28] at H
                                    exact absurd H (by simp)
                                · rw [if_neg c27] at H
                                  exact absurd H (by simp)
                              · rw [if_neg c26] at H
                                exact absurd H (by simp)
                            · rw [if_neg c25] at H
                              exact absurd H (by simp)
                        · rw [if_neg c19] at H
                          have c19b0 : decide (t146 < 0) = false := decide_eq_false c19
                          clear c19
                          by_cases c47 : 0 ≤ t146
                          · rw [if_pos c47] at H
                            have c47b0 : decide (0 ≤ t146) = true := decide_eq_true c47
                            clear c47
                            by_cases c48 : t146 < (x0_1.length : Int)
                            · rw [if_pos c48] at H
                              have c48b0 : decide (t146 < (x0_1.length : Int)) = true := decide_eq_true c48
                              clear c48
                              by_cases c49 : ((rd_T47 x0_1 t146).f1).size + t144.size ≤ 9223372036854775807
                              · rw [if_pos c49] at H
                                have c49b0 := eq_true c49
                                have c49b1 : decide (((rd_T47 x0_1 t146).f1).size + t144.size ≤ 9223372036854775807) = true := decide_eq_true c49
                                try have c49b2 : (9223372036854775807 < ((rd_T47 x0_1 t146).f1).size + t144.size) = False := eq_false (Nat.not_lt.2 c49)
                                obtain ⟨y154, hy154⟩ : ∃ y_ : List (S47), y_ = (x0_1.set (t146 : Int).toNat (⟨(rd_T47 x0_1 t146).f0, ((rd_T47 x0_1 t146).f1) ++ t144⟩ : S47)) := ⟨_, rfl⟩
                                replace H : (if (((rd_T47 y154 t146).f1).size : Int) > 4096 then (some (([] : List (S47)), 6)) else (opt4_area.l0 kj2 y154 a1 (wrap64 ((wrap64 (x6_1 + 1)) + (wrap64 (1 + (t144.size : Int))))))) = some (r1, r2) := by first | (rw [hy154]; with_reducible exact H) | (have H2_ := (Option.bind_some _ _).symm.trans H; rw [hy154]; with_reducible exact H2_) | (have H2_ := (Option.bind_some _ _).symm.trans H; with_reducible exact H2_) | with_reducible exact H | (rw [hy154]; exact H) | exact H
                                have Ny154 := Aside0.mk hy154
                                clear hy154
                                by_cases c51 : (((rd_T47 y154 t146).f1).size : Int) > 4096
                                · rw [if_pos c51] at H
                                  have c51b0 : decide (4096 < (((rd_T47 y154 t146).f1).size : Int)) = true := decide_eq_true c51
                                  have c51b1 : decide (4096 < ((rd_T47 y154 t146).f1).size) = true := decide_eq_true (by omega)
                                  clear c51
                                  simp only [Option.some.injEq, Prod.mk.injEq] at H
                                  obtain ⟨rfl, rfl⟩ := H
                                  have p10 : 0 ≤ (x6_1 : Int) := of_decide_eq_true (by first | (with_reducible assumption) | assumption)
                                  have q10 : x6_1 < (a1.size : Int) := of_decide_eq_true (by first | (with_reducible assumption) | assumption)
                                  have hx10 := bt_at a1 x6_1
                                  replace p10 := eq_true p10
                                  replace q10 := eq_true q10
                                  go_wp2_with (first | ((with_reducible refine gate_callee (f := 57) rfl ?_); refine goesL_ (some 32) rfl rfl Try.func57 (by kernel_rfl) rfl #[.string a1, .int .i64 (wrap64 (x6_1 + 1)), .int .i64 1] rfl (by (try simp only [List.map_toArray, List.map_cons, List.map_nil]); first | done | rfl | (simp only [List.length_drop, List.length_take]; rfl)) ?_; (with_reducible refine (octet_Cut.calls a1 (wrap64 (x6_1 + 1)) 1 t142 true _ A12.out).mono ?_); rintro e w52 ⟨rfl, hb⟩; refine ⟨_, rfl, ?_⟩; have n0_ := Aside0.mk (Kd.R_below (by (with_reducible repeat (first | apply Kd.R_alloc | apply Kd.R_drewN | apply Kd.R_drew)); exact HO_0.out) hb); have n1_ := Aside0.mk (Kept.below (S := (fun k_ => P0_ k_)) (by repeat (first | (with_reducible first | exact HK.out | apply Kept.alloc | apply Kept.drewN | apply Kept.drew) | exact HK.out)) hb); have n2_ := Aside0.mk (below_step (by repeat (first | (with_reducible first | exact HB.out | apply below_alloc | apply pw_below_drewN | apply below_drew1) | exact HB.out)) hb); clear HO_0; clear HK; clear HB; have HO_0 := n0_; have HK := n1_; have HB := n2_; clear n0_ n1_ n2_; (try clear hb); (try clear hb2); (try clear hk); (try clear hi); have p15 : 0 ≤ (0 : Int) := (by omega); have q15 : 0 < t142.size := (by have : (0 : Int) < (t142.size : Int) := of_decide_eq_true (by first | (with_reducible assumption) | assumption); omega); have hx15 : ∀ h : 0 < t142.size, ((t142[0]'h).toNat : Int) = bt t142 0 := bt_at t142 0; clear p15; have qi15 : (0 < (t142.size : Int)) = True := eq_true (of_decide_eq_true (by first | (with_reducible assumption) | assumption)); replace q15 := eq_true q15) | ((with_reducible refine gate_callee (f := 57) rfl ?_); refine goesL_ (some 44) rfl rfl Try.func57 (by kernel_rfl) rfl #[.string a1, .int .i64 (wrap64 ((wrap64 (x6_1 + 1)) + 1)), .int .i64 (wrap64 (bt t142 0))] rfl (by (try simp only [List.map_toArray, List.map_cons, List.map_nil]); first | done | rfl | (simp only [List.length_drop, List.length_take]; rfl)) ?_; (with_reducible refine (octet_Cut.calls a1 (wrap64 ((wrap64 (x6_1 + 1)) + 1)) (wrap64 (bt t142 0)) t144 true _ A16.out).mono ?_); rintro e w53 ⟨rfl, hb⟩; refine ⟨_, rfl, ?_⟩; have n0_ := Aside0.mk (Kd.R_below (by (with_reducible repeat (first | apply Kd.R_alloc | apply Kd.R_drewN | apply Kd.R_drew)); exact HO_0.out) hb); have n1_ := Aside0.mk (Kept.below (S := (fun k_ => P0_ k_)) (by repeat (first | (with_reducible first | exact HK.out | apply Kept.alloc | apply Kept.drewN | apply Kept.drew) | exact HK.out)) hb); have n2_ := Aside0.mk (below_step (by repeat (first | (with_reducible first | exact HB.out | apply below_alloc | apply pw_below_drewN | apply below_drew1) | exact HB.out)) hb); clear HO_0; clear HK; clear HB; have HO_0 := n0_; have HK := n1_; have HB := n2_; clear n0_ n1_ n2_; (try clear hb); (try clear hb2); (try clear hk); (try clear hi); obtain ⟨Ao54, co54, eo54⟩ := Kd.R_slice HO_0.out; subst eo54) | ((with_reducible refine gate_callee (f := 40) rfl ?_); refine XRun.pairL_ 56 (some 57) rfl rfl rfl rfl Try.func40 (by kernel_rfl) rfl Try.func51 (by kernel_rfl) rfl #[.int .u8 (bt a1 x6_1)] (fun v_ => #[.slice Ao54 x0_1.length co54, v_]) rfl rfl (by first | rfl | (try simp only [List.map_toArray, List.map_cons, List.map_nil]; rfl)) (by intro v_; first | rfl | (try simp only [List.map_toArray, List.map_cons, List.map_nil]; rfl)) ?_; (with_reducible refine (hasix.calls (bt a1 x6_1) _ _ x0_1 t146 _ ?side1 ?side2 A18.out).mono ?_); (case side1 => repeat (first | exact (Kd.R_reads' HO_0.out).2.2 | (with_reducible refine Kd.C_alloc ?_ _) | (with_reducible refine Kd.C_drewN ?_ _) | (with_reducible refine Kd.C_drew ?_))); (case side2 => exact (Kd.R_reads' HO_0.out).2.1); rintro e w55 ⟨rfl, hb⟩; refine ⟨_, rfl, ?_⟩; intro vclo_; have n0_ := Aside0.mk (Kd.R_below (by (with_reducible repeat (first | apply Kd.R_alloc | apply Kd.R_drewN | apply Kd.R_drew)); exact HO_0.out) hb); have n1_ := Aside0.mk (Kept.below (S := (fun k_ => P0_ k_)) (by repeat (first | (with_reducible first | exact HK.out | apply Kept.alloc | apply Kept.drewN | apply Kept.drew) | exact HK.out)) hb); have n2_ := Aside0.mk (below_step (by repeat (first | (with_reducible first | exact HB.out | apply below_alloc | apply pw_below_drewN | apply below_drew1) | exact HB.out)) hb); clear HO_0; clear HK; clear HB; have HO_0 := n0_; have HK := n1_; have HB := n2_; clear n0_ n1_ n2_; (try clear hb); (try clear hb2); (try clear hk); (try clear hi); have p153 : 0 ≤ (t146 : Int) := of_decide_eq_true (by first | (with_reducible assumption) | assumption); have q153 : t146 < (x0_1.length : Int) := of_decide_eq_true (by first | (with_reducible assumption) | assumption); obtain ⟨ad153, e153, hx153_0, hx153_1⟩ := at_T47 (Kd.R_reads' HO_0.out).2.2 t146 p153 q153; cases e153; replace p153 := eq_true p153; replace q153 := eq_true q153; have p50 : 0 ≤ (t146 : Int) := of_decide_eq_true (by first | (with_reducible assumption) | assumption); have q50 : (t146 : Int) < ((x0_1.length : Int) : Int) := of_decide_eq_true (by first | (with_reducible assumption) | assumption); obtain ⟨go50, co50, eo50, gb50, gl50, cl50, HG50⟩ := Kd.R_form HO_0.out (by omega); (first | cases eo50 | (injection eo50 with ea_ en_ ec_; (first | subst ea_ | (injection ea_ with ea_; subst ea_)); subst ec_; clear en_)); have GB50 := Aside0.mk gb50; have GG50 := Aside0.mk HG50; clear gb50 gl50 HG50; have HMgo50 := Aside0.mk (show (P0_ go50 ∨ w.heap.size ≤ go50) from (HO_0.out.1 _ rfl)); (first | simp only [add_plain] at hx153_0 | skip); (first | simp only [add_plain] at hx153_1 | skip); obtain ⟨ce50, hcl50, hM50, hcc50, hfr50⟩ := Kd.R_elem HO_0.out z47 (t146 : Int) p50 q50; obtain rfl := k47_openM hM50; have hx50_0 : w55.cell? ⟨go50, (t146 : Int).toNat * 2, none⟩ = some (.int .u8 ((rd_T47 x0_1 t146).f0)) := hcc50 0 _ rfl; have hx50_1 : w55.cell? ⟨go50, (t146 : Int).toNat * 2 + 1, none⟩ = some (.string ((rd_T47 x0_1 t146).f1)) := hcc50 1 _ rfl; have hf50_0 : w55.frozen? ⟨go50, (t146 : Int).toNat * 2, none⟩ = false := hfr50 0; have hf50_1 : w55.frozen? ⟨go50, (t146 : Int).toNat * 2 + 1, none⟩ = false := hfr50 1; clear hcl50 hcc50 hfr50 hM50; replace p50 := eq_true p50; replace q50 := eq_true q50; have HX56 := Aside0.mk (show Kd.R k47 47 w55 w0.heap.size (fun k_ => (P0_ k_ ∨ w.heap.size ≤ k_)) (.slice (some ⟨go50, 0, none⟩) x0_1.length co54) x0_1 from (by (with_reducible repeat (first | apply Kd.R_alloc | apply Kd.R_drewN | apply Kd.R_drew)); exact HO_0.out)); obtain ⟨ce56, hcl56, hM56, hcc56, hfr56⟩ := Kd.R_elem HX56.out z47 (t146 : Int) (of_decide_eq_true (by first | (with_reducible assumption) | assumption)) (by have h_ : (t146 : Int) < ((x0_1.length : Int) : Int) := of_decide_eq_true (by first | (with_reducible assumption) | assumption); first | exact h_ | (have e_ := (Kd.R_reads' HO_0.out).1; omega) | simpa using h_); obtain rfl := k47_openM hM56; have HP56 := Kd.R_seg HX56.out (t146 : Int) (of_decide_eq_true (by first | (with_reducible assumption) | assumption)) (by have h_ : (t146 : Int) < ((x0_1.length : Int) : Int) := of_decide_eq_true (by first | (with_reducible assumption) | assumption); first | exact h_ | (have e_ := (Kd.R_reads' HO_0.out).1; omega) | simpa using h_) (seg := [.string (((rd_T47 x0_1 t146).f1) ++ t144)]) (j := 1) hcl56 hcc56 (show 2 ≤ 2 from by decide) (x' := (⟨(rd_T47 x0_1 t146).f0, ((rd_T47 x0_1 t146).f1) ++ t144⟩ : S47)) (k47_mkM _ _ _ (⟨(rd_T47 x0_1 t146).f0, ((rd_T47 x0_1 t146).f1) ++ t144⟩ : S47) ) (fun _ hk => hk); have hx56_1 := hcc56 1 _ rfl; (try simp only [show (k47).sz = 2 from rfl, Nat.mul_one, Nat.add_zero, Int.toNat_natCast] at hx56_1); have hf56_1 := hfr56 1; (try simp only [show (k47).sz = 2 from rfl, Nat.mul_one, Nat.add_zero, Int.toNat_natCast] at hf56_1); clear hcl56 hcc56 hfr56 hM56) | ((with_reducible refine gate_store (t := 9) (p := 78) rfl ?_); refine store_event (t := 9) (p := 78) (v := ?vo_w57) (w1 := (w55.setCell ⟨go50, (t146 : Int).toNat * 2 + 1, none⟩ (.string (((rd_T47 x0_1 t146).f1) ++ t144)))) ?hg ?ho ?hn ?hr ?_; (case ho => rfl); (case hg => rfl); (case hn => rfl); (case hr => first | (go_simp; done) | (go_simp; rfl)); intro w57 hw; have hg : w55.grownBy w57 (some go50) := (by rw [hw]; exact HP56.2); have hp_ : Kd.R k47 47 w57 w0.heap.size (fun k_ => (P0_ k_ ∨ w.heap.size ≤ k_)) (.slice (some ⟨go50, 0, none⟩) x0_1.length co54) y154 := (by rw [hw, Ny154.out]; exact HP56.1); clear HP56; have n0_ := Aside0.mk (hp_); have n1_ := Aside0.mk ((by rw [hw]; exact below_set (HB.out) GB50.out : Below w0.heap.size w0 w57)); have n2_ := Aside0.mk (Kept.of_grown (S := (fun k_ => P0_ k_)) hg (by repeat (first | (with_reducible first | exact HK.out | apply Kept.alloc | apply Kept.drewN | apply Kept.drew) | exact HK.out)) (fun k_ e_ => (HO_0.out.1 k_ e_))); clear HO_0; clear HB; clear HK; have HO_0 := n0_; have HB := n1_; have HK := n2_; clear n0_ n1_ n2_; clear hg hw hp_; have p155 : 0 ≤ (t146 : Int) := of_decide_eq_true (by first | (with_reducible assumption) | assumption); have q155 : t146 < (y154.length : Int) := (by have h_ : (t146 : Int) < ((x0_1.length : Int) : Int) := of_decide_eq_true (by first | (with_reducible assumption) | assumption); first | (have e_ := (Kd.R_reads' HO_0.out).1; omega) | simpa only [Ny154.out, List.length_set] using h_); have ql155 : ((t146 : Int) < ((x0_1.length : Int) : Int)) = True := eq_true (of_decide_eq_true (by first | (with_reducible assumption) | assumption)); obtain ⟨ad155, e155, hx155_0, hx155_1⟩ := at_T47 (Kd.R_reads' HO_0.out).2.2 t146 p155 q155; obtain rfl : (⟨go50, 0, none⟩ : Addr) = ad155 := (by injection e155); (first | simp only [add_plain] at hx155_0 | simp only [add_at] at hx155_0 | simp only [Addr.add, Nat.zero_add] at hx155_0 | skip); (first | simp only [add_plain] at hx155_1 | simp only [add_at] at hx155_1 | simp only [Addr.add, Nat.zero_add] at hx155_1 | skip); replace p155 := eq_true p155; replace q155 := eq_true q155))
                                  go_ret2
                                  exact ⟨_, by first | rfl | (simp [errW_none, errW_some] <;> rfl) | (simp [*, errW_none, errW_some] <;> rfl), by first | exact Kd.R_nil _ _ _ _ _ | exact Kd.N_nil _ _ _ _ _ | exact Kd.V_nil _ _ _ _ _ | exact Kd.Q_nil _ _ _ _ _ | exact Kd.S_nil _ _ _ _ _, by repeat (first | (with_reducible first | exact HB.out | apply below_alloc | apply pw_below_drewN | apply below_drew1) | exact HB.out), by repeat (first | (with_reducible first | exact HK.out | apply Kept.alloc | apply Kept.drewN | apply Kept.drew) | exact HK.out)⟩
                                · rw [if_neg c51] at H
                                  have c51b0 : decide (4096 < (((rd_T47 y154 t146).f1).size : Int)) = false := decide_eq_false c51
                                  have c51b1 : decide (4096 < ((rd_T47 y154 t146).f1).size) = false := decide_eq_false (by omega)
                                  clear c51
                                  have H' := Aside0.mk H
                                  clear H
                                  have p10 : 0 ≤ (x6_1 : Int) := of_decide_eq_true (by first | (with_reducible assumption) | assumption)
                                  have q10 : x6_1 < (a1.size : Int) := of_decide_eq_true (by first | (with_reducible assumption) | assumption)
                                  have hx10 := bt_at a1 x6_1
                                  replace p10 := eq_true p10
                                  replace q10 := eq_true q10
                                  go_wp2_with (first | ((with_reducible refine gate_callee (f := 57) rfl ?_); refine goesL_ (some 32) rfl rfl Try.func57 (by kernel_rfl) rfl #[.string a1, .int .i64 (wrap64 (x6_1 + 1)), .int .i64 1] rfl (by (try simp only [List.map_toArray, List.map_cons, List.map_nil]); first | done | rfl | (simp only [List.length_drop, List.length_take]; rfl)) ?_; (with_reducible refine (octet_Cut.calls a1 (wrap64 (x6_1 + 1)) 1 t142 true _ A12.out).mono ?_); rintro e w58 ⟨rfl, hb⟩; refine ⟨_, rfl, ?_⟩; have n0_ := Aside0.mk (Kd.R_below (by (with_reducible repeat (first | apply Kd.R_alloc | apply Kd.R_drewN | apply Kd.R_drew)); exact HO_0.out) hb); have n1_ := Aside0.mk (Kept.below (S := (fun k_ => P0_ k_)) (by repeat (first | (with_reducible first | exact HK.out | apply Kept.alloc | apply Kept.drewN | apply Kept.drew) | exact HK.out)) hb); have n2_ := Aside0.mk (below_step (by repeat (first | (with_reducible first | exact HB.out | apply below_alloc | apply pw_below_drewN | apply below_drew1) | exact HB.out)) hb); clear HO_0; clear HK; clear HB; have HO_0 := n0_; have HK := n1_; have HB := n2_; clear n0_ n1_ n2_; (try clear hb); (try clear hb2); (try clear hk); (try clear hi); have p15 : 0 ≤ (0 : Int) := (by omega); have q15 : 0 < t142.size := (by have : (0 : Int) < (t142.size : Int) := of_decide_eq_true (by first | (with_reducible assumption) | assumption); omega); have hx15 : ∀ h : 0 < t142.size, ((t142[0]'h).toNat : Int) = bt t142 0 := bt_at t142 0; clear p15; have qi15 : (0 < (t142.size : Int)) = True := eq_true (of_decide_eq_true (by first | (with_reducible assumption) | assumption)); replace q15 := eq_true q15) | ((with_reducible refine gate_callee (f := 57) rfl ?_); refine goesL_ (some 44) rfl rfl Try.func57 (by kernel_rfl) rfl #[.string a1, .int .i64 (wrap64 ((wrap64 (x6_1 + 1)) + 1)), .int .i64 (wrap64 (bt t142 0))] rfl (by (try simp only [List.map_toArray, List.map_cons, List.map_nil]); first | done | rfl | (simp only [List.length_drop, List.length_take]; rfl)) ?_; (with_reducible refine (octet_Cut.calls a1 (wrap64 ((wrap64 (x6_1 + 1)) + 1)) (wrap64 (bt t142 0)) t144 true _ A16.out).mono ?_); rintro e w59 ⟨rfl, hb⟩; refine ⟨_, rfl, ?_⟩; have n0_ := Aside0.mk (Kd.R_below (by (with_reducible repeat (first | apply Kd.R_alloc | apply Kd.R_drewN | apply Kd.R_drew)); exact HO_0.out) hb); have n1_ := Aside0.mk (Kept.below (S := (fun k_ => P0_ k_)) (by repeat (first | (with_reducible first | exact HK.out | apply Kept.alloc | apply Kept.drewN | apply Kept.drew) | exact HK.out)) hb); have n2_ := Aside0.mk (below_step (by repeat (first | (with_reducible first | exact HB.out | apply below_alloc | apply pw_below_drewN | apply below_drew1) | exact HB.out)) hb); clear HO_0; clear HK; clear HB; have HO_0 := n0_; have HK := n1_; have HB := n2_; clear n0_ n1_ n2_; (try clear hb); (try clear hb2); (try clear hk); (try clear hi); obtain ⟨Ao60, co60, eo60⟩ := Kd.R_slice HO_0.out; subst eo60) | ((with_reducible refine gate_callee (f := 40) rfl ?_); refine XRun.pairL_ 56 (some 57) rfl rfl rfl rfl Try.func40 (by kernel_rfl) rfl Try.func51 (by kernel_rfl) rfl #[.int .u8 (bt a1 x6_1)] (fun v_ => #[.slice Ao60 x0_1.length co60, v_]) rfl rfl (by first | rfl | (try simp only [List.map_toArray, List.map_cons, List.map_nil]; rfl)) (by intro v_; first | rfl | (try simp only [List.map_toArray, List.map_cons, List.map_nil]; rfl)) ?_; (with_reducible refine (hasix.calls (bt a1 x6_1) _ _ x0_1 t146 _ ?side1 ?side2 A18.out).mono ?_); (case side1 => repeat (first | exact (Kd.R_reads' HO_0.out).2.2 | (with_reducible refine Kd.C_alloc ?_ _) | (with_reducible refine Kd.C_drewN ?_ _) | (with_reducible refine Kd.C_drew ?_))); (case side2 => exact (Kd.R_reads' HO_0.out).2.1); rintro e w61 ⟨rfl, hb⟩; refine ⟨_, rfl, ?_⟩; intro vclo_; have n0_ := Aside0.mk (Kd.R_below (by (with_reducible repeat (first | apply Kd.R_alloc | apply Kd.R_drewN | apply Kd.R_drew)); exact HO_0.out) hb); have n1_ := Aside0.mk (Kept.below (S := (fun k_ => P0_ k_)) (by repeat (first | (with_reducible first | exact HK.out | apply Kept.alloc | apply Kept.drewN | apply Kept.drew) | exact HK.out)) hb); have n2_ := Aside0.mk (below_step (by repeat (first | (with_reducible first | exact HB.out | apply below_alloc | apply pw_below_drewN | apply below_drew1) | exact HB.out)) hb); clear HO_0; clear HK; clear HB; have HO_0 := n0_; have HK := n1_; have HB := n2_; clear n0_ n1_ n2_; (try clear hb); (try clear hb2); (try clear hk); (try clear hi); have p153 : 0 ≤ (t146 : Int) := of_decide_eq_true (by first | (with_reducible assumption) | assumption); have q153 : t146 < (x0_1.length : Int) := of_decide_eq_true (by first | (with_reducible assumption) | assumption); obtain ⟨ad153, e153, hx153_0, hx153_1⟩ := at_T47 (Kd.R_reads' HO_0.out).2.2 t146 p153 q153; cases e153; replace p153 := eq_true p153; replace q153 := eq_true q153; have p50 : 0 ≤ (t146 : Int) := of_decide_eq_true (by first | (with_reducible assumption) | assumption); have q50 : (t146 : Int) < ((x0_1.length : Int) : Int) := of_decide_eq_true (by first | (with_reducible assumption) | assumption); obtain ⟨go50, co50, eo50, gb50, gl50, cl50, HG50⟩ := Kd.R_form HO_0.out (by omega); (first | cases eo50 | (injection eo50 with ea_ en_ ec_; (first | subst ea_ | (injection ea_ with ea_; subst ea_)); subst ec_; clear en_)); have GB50 := Aside0.mk gb50; have GG50 := Aside0.mk HG50; clear gb50 gl50 HG50; have HMgo50 := Aside0.mk (show (P0_ go50 ∨ w.heap.size ≤ go50) from (HO_0.out.1 _ rfl)); (first | simp only [add_plain] at hx153_0 | skip); (first | simp only [add_plain] at hx153_1 | skip); obtain ⟨ce50, hcl50, hM50, hcc50, hfr50⟩ := Kd.R_elem HO_0.out z47 (t146 : Int) p50 q50; obtain rfl := k47_openM hM50; have hx50_0 : w61.cell? ⟨go50, (t146 : Int).toNat * 2, none⟩ = some (.int .u8 ((rd_T47 x0_1 t146).f0)) := hcc50 0 _ rfl; have hx50_1 : w61.cell? ⟨go50, (t146 : Int).toNat * 2 + 1, none⟩ = some (.string ((rd_T47 x0_1 t146).f1)) := hcc50 1 _ rfl; have hf50_0 : w61.frozen? ⟨go50, (t146 : Int).toNat * 2, none⟩ = false := hfr50 0; have hf50_1 : w61.frozen? ⟨go50, (t146 : Int).toNat * 2 + 1, none⟩ = false := hfr50 1; clear hcl50 hcc50 hfr50 hM50; replace p50 := eq_true p50; replace q50 := eq_true q50; have HX62 := Aside0.mk (show Kd.R k47 47 w61 w0.heap.size (fun k_ => (P0_ k_ ∨ w.heap.size ≤ k_)) (.slice (some ⟨go50, 0, none⟩) x0_1.length co60) x0_1 from (by (with_reducible repeat (first | apply Kd.R_alloc | apply Kd.R_drewN | apply Kd.R_drew)); exact HO_0.out)); obtain ⟨ce62, hcl62, hM62, hcc62, hfr62⟩ := Kd.R_elem HX62.out z47 (t146 : Int) (of_decide_eq_true (by first | (with_reducible assumption) | assumption)) (by have h_ : (t146 : Int) < ((x0_1.length : Int) : Int) := of_decide_eq_true (by first | (with_reducible assumption) | assumption); first | exact h_ | (have e_ := (Kd.R_reads' HO_0.out).1; omega) | simpa using h_); obtain rfl := k47_openM hM62; have HP62 := Kd.R_seg HX62.out (t146 : Int) (of_decide_eq_true (by first | (with_reducible assumption) | assumption)) (by have h_ : (t146 : Int) < ((x0_1.length : Int) : Int) := of_decide_eq_true (by first | (with_reducible assumption) | assumption); first | exact h_ | (have e_ := (Kd.R_reads' HO_0.out).1; omega) | simpa using h_) (seg := [.string (((rd_T47 x0_1 t146).f1) ++ t144)]) (j := 1) hcl62 hcc62 (show 2 ≤ 2 from by decide) (x' := (⟨(rd_T47 x0_1 t146).f0, ((rd_T47 x0_1 t146).f1) ++ t144⟩ : S47)) (k47_mkM _ _ _ (⟨(rd_T47 x0_1 t146).f0, ((rd_T47 x0_1 t146).f1) ++ t144⟩ : S47) ) (fun _ hk => hk); have hx62_1 := hcc62 1 _ rfl; (try simp only [show (k47).sz = 2 from rfl, Nat.mul_one, Nat.add_zero, Int.toNat_natCast] at hx62_1); have hf62_1 := hfr62 1; (try simp only [show (k47).sz = 2 from rfl, Nat.mul_one, Nat.add_zero, Int.toNat_natCast] at hf62_1); clear hcl62 hcc62 hfr62 hM62) | ((with_reducible refine gate_store (t := 9) (p := 78) rfl ?_); refine store_event (t := 9) (p := 78) (v := ?vo_w63) (w1 := (w61.setCell ⟨go50, (t146 : Int).toNat * 2 + 1, none⟩ (.string (((rd_T47 x0_1 t146).f1) ++ t144)))) ?hg ?ho ?hn ?hr ?_; (case ho => rfl); (case hg => rfl); (case hn => rfl); (case hr => first | (go_simp; done) | (go_simp; rfl)); intro w63 hw; have hg : w61.grownBy w63 (some go50) := (by rw [hw]; exact HP62.2); have hp_ : Kd.R k47 47 w63 w0.heap.size (fun k_ => (P0_ k_ ∨ w.heap.size ≤ k_)) (.slice (some ⟨go50, 0, none⟩) x0_1.length co60) y154 := (by rw [hw, Ny154.out]; exact HP62.1); clear HP62; have n0_ := Aside0.mk (hp_); have n1_ := Aside0.mk ((by rw [hw]; exact below_set (HB.out) GB50.out : Below w0.heap.size w0 w63)); have n2_ := Aside0.mk (Kept.of_grown (S := (fun k_ => P0_ k_)) hg (by repeat (first | (with_reducible first | exact HK.out | apply Kept.alloc | apply Kept.drewN | apply Kept.drew) | exact HK.out)) (fun k_ e_ => (HO_0.out.1 k_ e_))); clear HO_0; clear HB; clear HK; have HO_0 := n0_; have HB := n1_; have HK := n2_; clear n0_ n1_ n2_; clear hg hw hp_; have p155 : 0 ≤ (t146 : Int) := of_decide_eq_true (by first | (with_reducible assumption) | assumption); have q155 : t146 < (y154.length : Int) := (by have h_ : (t146 : Int) < ((x0_1.length : Int) : Int) := of_decide_eq_true (by first | (with_reducible assumption) | assumption); first | (have e_ := (Kd.R_reads' HO_0.out).1; omega) | simpa only [Ny154.out, List.length_set] using h_); have ql155 : ((t146 : Int) < ((x0_1.length : Int) : Int)) = True := eq_true (of_decide_eq_true (by first | (with_reducible assumption) | assumption)); obtain ⟨ad155, e155, hx155_0, hx155_1⟩ := at_T47 (Kd.R_reads' HO_0.out).2.2 t146 p155 q155; obtain rfl : (⟨go50, 0, none⟩ : Addr) = ad155 := (by injection e155); (first | simp only [add_plain] at hx155_0 | simp only [add_at] at hx155_0 | simp only [Addr.add, Nat.zero_add] at hx155_0 | skip); (first | simp only [add_plain] at hx155_1 | simp only [add_at] at hx155_1 | simp only [Addr.add, Nat.zero_add] at hx155_1 | skip); replace p155 := eq_true p155; replace q155 := eq_true q155))
                                  go_roundg kj2
                                  case measure => have := HK1.out; have := HJ2.out; omega
                                  case rel => exact ⟨(y154), (wrap64 ((wrap64 (x6_1 + 1)) + (wrap64 (1 + (t144.size : Int))))), (by first | rfl | (simp; done) | (simp only [ByteArray.size_extract]; rw [Nat.min_eq_left (by omega)]; done) | (simp [*]; done)), H', ⟨by have := HK1.out; have := HJ2.out; omega⟩, ⟨by (with_reducible repeat (first | apply Kd.R_alloc | apply Kd.R_drewN | apply Kd.R_drew)); exact HO_0.out⟩, ⟨by repeat (first | (with_reducible first | exact HK.out | apply Kept.alloc | apply Kept.drewN | apply Kept.drew) | exact HK.out)⟩, ⟨by repeat (first | (with_reducible first | exact HB.out | apply below_alloc | apply pw_below_drewN | apply below_drew1) | exact HB.out)⟩⟩
                              · rw [if_neg c49] at H
                                exact absurd H (by simp)
                            · rw [if_neg c48] at H
                              exact absurd H (by simp)
                          · rw [if_neg c47] at H
                            exact absurd H (by simp)
                      · replace c17 := Bool.eq_false_iff.mpr c17
                        subst c17
                        have H1 : (some (([] : List (S47)), 3)) = some (r1, r2) := by rw [if_neg (show ¬ (false = true) by decide)] at H; exact H
                        clear H
                        have H := H1
                        clear H1
                        simp only [Option.some.injEq, Prod.mk.injEq] at H
                        obtain ⟨rfl, rfl⟩ := H
                        have p10 : 0 ≤ (x6_1 : Int) := of_decide_eq_true (by first | (with_reducible assumption) | assumption)
                        have q10 : x6_1 < (a1.size : Int) := of_decide_eq_true (by first | (with_reducible assumption) | assumption)
                        have hx10 := bt_at a1 x6_1
                        replace p10 := eq_true p10
                        replace q10 := eq_true q10
                        go_wp2_with (first | ((with_reducible refine gate_callee (f := 57) rfl ?_); refine goesL_ (some 32) rfl rfl Try.func57 (by kernel_rfl) rfl #[.string a1, .int .i64 (wrap64 (x6_1 + 1)), .int .i64 1] rfl (by (try simp only [List.map_toArray, List.map_cons, List.map_nil]); first | done | rfl | (simp only [List.length_drop, List.length_take]; rfl)) ?_; (with_reducible refine (octet_Cut.calls a1 (wrap64 (x6_1 + 1)) 1 t142 true _ A12.out).mono ?_); rintro e w64 ⟨rfl, hb⟩; refine ⟨_, rfl, ?_⟩; have n0_ := Aside0.mk (Kd.R_below (by (with_reducible repeat (first | apply Kd.R_alloc | apply Kd.R_drewN | apply Kd.R_drew)); exact HO_0.out) hb); have n1_ := Aside0.mk (Kept.below (S := (fun k_ => P0_ k_)) (by repeat (first | (with_reducible first | exact HK.out | apply Kept.alloc | apply Kept.drewN | apply Kept.drew) | exact HK.out)) hb); have n2_ := Aside0.mk (below_step (by repeat (first | (with_reducible first | exact HB.out | apply below_alloc | apply pw_below_drewN | apply below_drew1) | exact HB.out)) hb); clear HO_0; clear HK; clear HB; have HO_0 := n0_; have HK := n1_; have HB := n2_; clear n0_ n1_ n2_; (try clear hb); (try clear hb2); (try clear hk); (try clear hi); have p15 : 0 ≤ (0 : Int) := (by omega); have q15 : 0 < t142.size := (by have : (0 : Int) < (t142.size : Int) := of_decide_eq_true (by first | (with_reducible assumption) | assumption); omega); have hx15 : ∀ h : 0 < t142.size, ((t142[0]'h).toNat : Int) = bt t142 0 := bt_at t142 0; clear p15; have qi15 : (0 < (t142.size : Int)) = True := eq_true (of_decide_eq_true (by first | (with_reducible assumption) | assumption)); replace q15 := eq_true q15) | ((with_reducible refine gate_callee (f := 57) rfl ?_); refine goesL_ (some 44) rfl rfl Try.func57 (by kernel_rfl) rfl #[.string a1, .int .i64 (wrap64 ((wrap64 (x6_1 + 1)) + 1)), .int .i64 (wrap64 (bt t142 0))] rfl (by (try simp only [List.map_toArray, List.map_cons, List.map_nil]); first | done | rfl | (simp only [List.length_drop, List.length_take]; rfl)) ?_; (with_reducible refine (octet_Cut.calls a1 (wrap64 ((wrap64 (x6_1 + 1)) + 1)) (wrap64 (bt t142 0)) t144 false _ A16.out).mono ?_); rintro e w65 ⟨rfl, hb⟩; refine ⟨_, rfl, ?_⟩; have n0_ := Aside0.mk (Kd.R_below (by (with_reducible repeat (first | apply Kd.R_alloc | apply Kd.R_drewN | apply Kd.R_drew)); exact HO_0.out) hb); have n1_ := Aside0.mk (Kept.below (S := (fun k_ => P0_ k_)) (by repeat (first | (with_reducible first | exact HK.out | apply Kept.alloc | apply Kept.drewN | apply Kept.drew) | exact HK.out)) hb); have n2_ := Aside0.mk (below_step (by repeat (first | (with_reducible first | exact HB.out | apply below_alloc | apply pw_below_drewN | apply below_drew1) | exact HB.out)) hb); clear HO_0; clear HK; clear HB; have HO_0 := n0_; have HK := n1_; have HB := n2_; clear n0_ n1_ n2_; (try clear hb); (try clear hb2); (try clear hk); (try clear hi)))
                        go_ret2
                        exact ⟨_, by first | rfl | (simp [errW_none, errW_some] <;> rfl) | (simp [*, errW_none, errW_some] <;> rfl), by first | exact Kd.R_nil _ _ _ _ _ | exact Kd.N_nil _ _ _ _ _ | exact Kd.V_nil _ _ _ _ _ | exact Kd.Q_nil _ _ _ _ _ | exact Kd.S_nil _ _ _ _ _, by repeat (first | (with_reducible first | exact HB.out | apply below_alloc | apply pw_below_drewN | apply below_drew1) | exact HB.out), by repeat (first | (with_reducible first | exact HK.out | apply Kept.alloc | apply Kept.drewN | apply Kept.drew) | exact HK.out)⟩
                    · rw [if_neg c14] at H
                      exact absurd H (by simp)
                  · replace c13 := Bool.eq_false_iff.mpr c13
                    subst c13
                    have H1 : (some (([] : List (S47)), 3)) = some (r1, r2) := by rw [if_neg (show ¬ (false = true) by decide)] at H; exact H
                    clear H
                    have H := H1
                    clear H1
                    simp only [Option.some.injEq, Prod.mk.injEq] at H
                    obtain ⟨rfl, rfl⟩ := H
                    have p10 : 0 ≤ (x6_1 : Int) := of_decide_eq_true (by first | (with_reducible assumption) | assumption)
                    have q10 : x6_1 < (a1.size : Int) := of_decide_eq_true (by first | (with_reducible assumption) | assumption)
                    have hx10 := bt_at a1 x6_1
                    replace p10 := eq_true p10
                    replace q10 := eq_true q10
                    go_wp2_with (first | ((with_reducible refine gate_callee (f := 57) rfl ?_); refine goesL_ (some 32) rfl rfl Try.func57 (by kernel_rfl) rfl #[.string a1, .int .i64 (wrap64 (x6_1 + 1)), .int .i64 1] rfl (by (try simp only [List.map_toArray, List.map_cons, List.map_nil]); first | done | rfl | (simp only [List.length_drop, List.length_take]; rfl)) ?_; (with_reducible refine (octet_Cut.calls a1 (wrap64 (x6_1 + 1)) 1 t142 false _ A12.out).mono ?_); rintro e w66 ⟨rfl, hb⟩; refine ⟨_, rfl, ?_⟩; have n0_ := Aside0.mk (Kd.R_below (by (with_reducible repeat (first | apply Kd.R_alloc | apply Kd.R_drewN | apply Kd.R_drew)); exact HO_0.out) hb); have n1_ := Aside0.mk (Kept.below (S := (fun k_ => P0_ k_)) (by repeat (first | (with_reducible first | exact HK.out | apply Kept.alloc | apply Kept.drewN | apply Kept.drew) | exact HK.out)) hb); have n2_ := Aside0.mk (below_step (by repeat (first | (with_reducible first | exact HB.out | apply below_alloc | apply pw_below_drewN | apply below_drew1) | exact HB.out)) hb); clear HO_0; clear HK; clear HB; have HO_0 := n0_; have HK := n1_; have HB := n2_; clear n0_ n1_ n2_; (try clear hb); (try clear hb2); (try clear hk); (try clear hi)))
                    go_ret2
                    exact ⟨_, by first | rfl | (simp [errW_none, errW_some] <;> rfl) | (simp [*, errW_none, errW_some] <;> rfl), by first | exact Kd.R_nil _ _ _ _ _ | exact Kd.N_nil _ _ _ _ _ | exact Kd.V_nil _ _ _ _ _ | exact Kd.Q_nil _ _ _ _ _ | exact Kd.S_nil _ _ _ _ _, by repeat (first | (with_reducible first | exact HB.out | apply below_alloc | apply pw_below_drewN | apply below_drew1) | exact HB.out), by repeat (first | (with_reducible first | exact HK.out | apply Kept.alloc | apply Kept.drewN | apply Kept.drew) | exact HK.out)⟩
              · rw [if_neg c9] at H
                exact absurd H (by simp)
            · rw [if_neg c8] at H
              exact absurd H (by simp)
          · replace c7 := Bool.eq_false_iff.mpr c7
            subst c7
            have H1 : (some (x0_1, 0)) = some (r1, r2) := by rw [if_neg (show ¬ (false = true) by decide)] at H; exact H
            clear H
            have H := H1
            clear H1
            simp only [Option.some.injEq, Prod.mk.injEq] at H
            obtain ⟨rfl, rfl⟩ := H
            go_wp2
            go_ret2
            exact ⟨_, by first | rfl | (simp [errW_none, errW_some] <;> rfl) | (simp [*, errW_none, errW_some] <;> rfl), by (with_reducible repeat (first | apply Kd.R_alloc | apply Kd.R_drewN | apply Kd.R_drew)); exact HO_0.out, by repeat (first | (with_reducible first | exact HB.out | apply below_alloc | apply pw_below_drewN | apply below_drew1) | exact HB.out), by repeat (first | (with_reducible first | exact HK.out | apply Kept.alloc | apply Kept.drewN | apply Kept.drew) | exact HK.out)⟩

/-! ### opt4_Parse: function 19 -/
def opt4_Parse.l0 : Nat → List (S47) → List ByteArray → Int → Int → Option ((List (S47)) × Int)
  | 0, _, _, _, _ => none
  | k + 1, x4, x9, x10, x11 => if x11 < x10 then (if 0 ≤ x11 then (if x11 < (x9.length : Int) then ((opt4_area.f k x4 (rdOf ByteArray.empty x9 x11)).bind fun bt157 => (if bt157.2 = 0 then (opt4_Parse.l0 k bt157.1 x9 x10 (wrap64 (x11 + 1))) else (some (([] : List (S47)), bt157.2)))) else (none)) else (none)) else (some (x4, 0))
def opt4_Parse.f (k : Nat) (l0 : List ByteArray) : Option ((List (S47)) × Int) := opt4_Parse.l0 k ([] : List (S47)) l0 (l0.length : Int) 0
theorem opt4_Parse.mono_l : ∀ k, (∀ y0 y1 y2 y3, LeO (opt4_Parse.l0 k y0 y1 y2 y3) (opt4_Parse.l0 (k + 1) y0 y1 y2 y3))
  | 0 => fun _ _ _ _ r h => by simp [opt4_Parse.l0] at h
  | k + 1 => by
    have ih0 := opt4_Parse.mono_l k
    · intro y0 y1 y2 y3
      unfold opt4_Parse.l0
      repeat' first
      | (with_reducible exact ih0 _ _ _ _)
      | (with_reducible exact opt4_area.mono _ _ _)
      | (with_reducible exact LeO.refl _)
      | (with_reducible exact LeO.none _)
      | (with_reducible refine LeO.ite ?_ ?_)
      | (with_reducible refine LeO.bind ?_ (fun _ => ?_))
      | exact ih0 _ _ _ _
      | exact opt4_area.mono _ _ _
      | exact LeO.none _
      | refine LeO.ite ?_ ?_
      | refine LeO.bind ?_ (fun _ => ?_)
theorem opt4_Parse.mono : ∀ a0 k, LeO (opt4_Parse.f k a0) (opt4_Parse.f (k + 1) a0) := by
  intro a0 k
  have ih0 := opt4_Parse.mono_l k
  unfold opt4_Parse.f
  repeat' first
      | (with_reducible exact ih0 _ _ _ _)
      | (with_reducible exact opt4_area.mono _ _ _)
      | (with_reducible exact LeO.refl _)
      | (with_reducible exact LeO.none _)
      | (with_reducible refine LeO.ite ?_ ?_)
      | (with_reducible refine LeO.bind ?_ (fun _ => ?_))
      | exact ih0 _ _ _ _
      | exact opt4_area.mono _ _ _
      | exact LeO.none _
      | refine LeO.ite ?_ ?_
      | refine LeO.bind ?_ (fun _ => ?_)
set_option maxHeartbeats 8000000 in
set_option maxRecDepth 100000 in
theorem opt4_Parse.calls (k : Nat) (A0 : Option Addr) (c0 : Nat) (l0 : List ByteArray) (r1 : List (S47)) (r2 : Int) (w : World) (hr0 : Kd.C Kd.string w A0 l0.length l0) (hc0 : l0.length ≤ c0) (h : opt4_Parse.f k l0 = some (r1, r2)) :
    Calls Try.prog 19 #[.slice A0 l0.length c0] w fun e w' => ∃ v0_ : Value, e = .returned (.tuple #[v0_, .int .i64 r2]) ∧ Kd.R k47 47 w' w.heap.size (fun _ => True) v0_ r1 ∧ Below w.heap.size w w' := by
  have HR0 := Aside0.mk hr0
  have HC0 := Aside0.mk hc0
  clear hr0 hc0
  have HB := Aside0.mk (Below.refl w.heap.size w)
  have H : (opt4_Parse.l0 k ([] : List (S47)) l0 (l0.length : Int) 0) = some (r1, r2) := h
  clear h
  have H' := Aside0.mk H
  clear H
  go_enter Try.func19, Try.ntmps19
  go_wp2
  go_loopg [4, 11] k (fun kq v4 v11 w' => ∃ (x4_1 : List (S47)) (x11_1 : Int), v11 = .int .i64 x11_1 ∧ Aside0 (opt4_Parse.l0 kq x4_1 l0 (l0.length : Int) x11_1 = some (r1, r2)) ∧ Aside0 (kq ≤ k) ∧ Aside0 (Kd.R k47 47 w' w.heap.size (fun _ => True) v4 x4_1) ∧ Aside0 (Below w.heap.size w w'))
  case atStart => exact ⟨(([] : List (S47))), (0), (by first | rfl | (simp; done) | (simp only [ByteArray.size_extract]; rw [Nat.min_eq_left (by omega)]; done) | (simp [*]; done)), H', ⟨Nat.le_refl _⟩, ⟨by first | exact Kd.R_nil _ _ _ _ _ | exact Kd.N_nil _ _ _ _ _ | exact Kd.V_nil _ _ _ _ _ | exact Kd.Q_nil _ _ _ _ _ | exact Kd.S_nil _ _ _ _ _⟩, ⟨by repeat (first | (with_reducible first | exact HB.out | apply below_alloc | apply pw_below_drewN | apply below_drew1) | exact HB.out)⟩⟩
  case round =>
    clear H'
    try clear c1
    obtain ⟨x4_1, x11_1, rfl, HA, HK1, HO_4, HB⟩ := hrel
    cases gk with
    | zero => exact absurd HA.out (by simp [opt4_Parse.l0])
    | succ k1 =>
      have H := HA.out
      clear HA
      simp only [opt4_Parse.l0] at H
      by_cases c2 : x11_1 < (l0.length : Int)
      · rw [if_pos c2] at H
        have c2b0 : decide (x11_1 < (l0.length : Int)) = true := decide_eq_true c2
        clear c2
        by_cases c3 : 0 ≤ x11_1
        · rw [if_pos c3] at H
          have c3b0 : decide (0 ≤ x11_1) = true := decide_eq_true c3
          clear c3
          by_cases c4 : x11_1 < (l0.length : Int)
          · rw [if_pos c4] at H
            have c4b0 : decide (x11_1 < (l0.length : Int)) = true := decide_eq_true c4
            clear c4
            replace H := Option.bind_eq_some_iff.mp H
            obtain ⟨⟨t157, t160⟩, A50, H⟩ := H
            replace H : (if t160 = 0 then (opt4_Parse.l0 k1 t157 l0 (l0.length : Int) (wrap64 (x11_1 + 1))) else (some (([] : List (S47)), t160))) = some (r1, r2) := H
            have A5 := Aside0.mk A50
            clear A50
            by_cases c6 : t160 = 0
            · rw [if_pos c6] at H
              have c6b0 : (t160 == 0) = true := beq_iff_eq.mpr c6
              have c6b1 : (t160 != 0) = false := bne_eq_false_iff_eq.mpr c6
              clear c6
              have H' := Aside0.mk H
              clear H
              have p156 : 0 ≤ (x11_1 : Int) := of_decide_eq_true (by first | (with_reducible assumption) | assumption)
              have q156 : x11_1 < (l0.length : Int) := of_decide_eq_true (by first | (with_reducible assumption) | assumption)
              obtain ⟨ad156, e156, hx156_0⟩ := Kd.at_string HR0.out x11_1 p156 q156
              cases e156
              replace hx156_0 := (HB.out.cell (World.block_lt_of_cell? w _ hx156_0)).trans hx156_0
              replace p156 := eq_true p156
              replace q156 := eq_true q156
              obtain ⟨Ao7, co7, eo7⟩ := Kd.R_slice HO_4.out
              subst eo7
              go_wp2_with (first | ((with_reducible refine gate_callee (f := 41) rfl ?_); refine goesL_ (some 18) rfl rfl Try.func41 (by kernel_rfl) rfl #[.slice Ao7 x4_1.length co7, .string (rdOf ByteArray.empty l0 x11_1)] rfl (by (try simp only [List.map_toArray, List.map_cons, List.map_nil]); first | done | rfl | (simp only [List.length_drop, List.length_take]; rfl)) ?_; (with_reducible refine (opt4_area.calls k1 (fun k_ => some k_ = (.slice Ao7 x4_1.length co7 : Value).ownBlock) (.slice Ao7 x4_1.length co7) x4_1 (rdOf ByteArray.empty l0 x11_1) t157 t160 w _ ?side1 ?side2 A5.out).mono ?_); (case side1 => repeat (first | (with_reducible first | exact HB.out | apply below_alloc | apply pw_below_drewN | apply below_drew1) | exact HB.out)); (case side2 => exact Kd.R_tight rfl HO_4.out); rintro e w8 ⟨v158, rfl, ho0, hb, hkp⟩; refine ⟨_, rfl, ?_⟩; have n0_ := Aside0.mk (Kd.R_mono (ok' := fun k_ => True) ho0 (fun k_ hk_ => trivial)); have n1_ := Aside0.mk (hb); clear HB; clear HO_4; have HO159 := n0_; have HB := n1_; clear n0_ n1_; (try clear hb); (try clear hkp); (try clear ho0)))
              go_roundg k1
              case measure => have := HK1.out; omega
              case rel => exact ⟨(t157), (wrap64 (x11_1 + 1)), (by first | rfl | (simp; done) | (simp only [ByteArray.size_extract]; rw [Nat.min_eq_left (by omega)]; done) | (simp [*]; done)), H', ⟨by have := HK1.out; omega⟩, ⟨by (with_reducible repeat (first | apply Kd.R_alloc | apply Kd.R_drewN | apply Kd.R_drew)); exact HO159.out⟩, ⟨by repeat (first | (with_reducible first | exact HB.out | apply below_alloc | apply pw_below_drewN | apply below_drew1) | exact HB.out)⟩⟩
            · rw [if_neg c6] at H
              have c6b0 : (t160 == 0) = false := beq_eq_false_iff_ne.mpr c6
              have c6b1 : (t160 != 0) = true := bne_iff_ne.mpr c6
              simp only [Option.some.injEq, Prod.mk.injEq] at H
              obtain ⟨rfl, rfl⟩ := H
              have p156 : 0 ≤ (x11_1 : Int) := of_decide_eq_true (by first | (with_reducible assumption) | assumption)
              have q156 : x11_1 < (l0.length : Int) := of_decide_eq_true (by first | (with_reducible assumption) | assumption)
              obtain ⟨ad156, e156, hx156_0⟩ := Kd.at_string HR0.out x11_1 p156 q156
              cases e156
              replace hx156_0 := (HB.out.cell (World.block_lt_of_cell? w _ hx156_0)).trans hx156_0
              replace p156 := eq_true p156
              replace q156 := eq_true q156
              obtain ⟨Ao9, co9, eo9⟩ := Kd.R_slice HO_4.out
              subst eo9
              go_wp2_with (first | ((with_reducible refine gate_callee (f := 41) rfl ?_); refine goesL_ (some 18) rfl rfl Try.func41 (by kernel_rfl) rfl #[.slice Ao9 x4_1.length co9, .string (rdOf ByteArray.empty l0 x11_1)] rfl (by (try simp only [List.map_toArray, List.map_cons, List.map_nil]); first | done | rfl | (simp only [List.length_drop, List.length_take]; rfl)) ?_; (with_reducible refine (opt4_area.calls k1 (fun k_ => some k_ = (.slice Ao9 x4_1.length co9 : Value).ownBlock) (.slice Ao9 x4_1.length co9) x4_1 (rdOf ByteArray.empty l0 x11_1) t157 t160 w _ ?side1 ?side2 A5.out).mono ?_); (case side1 => repeat (first | (with_reducible first | exact HB.out | apply below_alloc | apply pw_below_drewN | apply below_drew1) | exact HB.out)); (case side2 => exact Kd.R_tight rfl HO_4.out); rintro e w10 ⟨v158, rfl, ho0, hb, hkp⟩; refine ⟨_, rfl, ?_⟩; have n0_ := Aside0.mk (Kd.R_mono (ok' := fun k_ => True) ho0 (fun k_ hk_ => trivial)); have n1_ := Aside0.mk (hb); clear HB; clear HO_4; have HO159 := n0_; have HB := n1_; clear n0_ n1_; (try clear hb); (try clear hkp); (try clear ho0)))
              go_ret2
              exact ⟨_, by first | rfl | (simp [errW_none, errW_some] <;> rfl) | (simp [*, errW_none, errW_some] <;> rfl), by first | exact Kd.R_nil _ _ _ _ _ | exact Kd.N_nil _ _ _ _ _ | exact Kd.V_nil _ _ _ _ _ | exact Kd.Q_nil _ _ _ _ _ | exact Kd.S_nil _ _ _ _ _, by repeat (first | (with_reducible first | exact HB.out | apply below_alloc | apply pw_below_drewN | apply below_drew1) | exact HB.out)⟩
          · rw [if_neg c4] at H
            exact absurd H (by simp)
        · rw [if_neg c3] at H
          exact absurd H (by simp)
      · rw [if_neg c2] at H
        have c2b0 : decide (x11_1 < (l0.length : Int)) = false := decide_eq_false c2
        clear c2
        simp only [Option.some.injEq, Prod.mk.injEq] at H
        obtain ⟨rfl, rfl⟩ := H
        go_wp2
        go_ret2
        exact ⟨_, by first | rfl | (simp [errW_none, errW_some] <;> rfl) | (simp [*, errW_none, errW_some] <;> rfl), by (with_reducible repeat (first | apply Kd.R_alloc | apply Kd.R_drewN | apply Kd.R_drew)); exact HO_4.out, by repeat (first | (with_reducible first | exact HB.out | apply below_alloc | apply pw_below_drewN | apply below_drew1) | exact HB.out)⟩

-- (not needed: function 42 (api_Opt4_42))

-- (not needed: function 43 (api_Opt4_43))

/-! ### slices.Clone, slices.DeleteFunc, opt4.Without: by hand -/
set_option maxHeartbeats 1000000 in
theorem clone_opt4 (A0 : Option Addr) (c0 : Nat) (l0 : List S47) (w : World) (hr0 : Kd.C k47 w A0 l0.length l0) (hc0 : l0.length ≤ c0) (hl : l0.length < 5864062014805) :
    Calls Try.prog 43 #[.slice A0 l0.length c0] w fun e w' => ∃ v0_ : Value, e = .returned v0_ ∧ Kd.R k47 47 w' w.heap.size (fun _ => True) v0_ l0 ∧ Below w.heap.size w w' := by
  have hu := Try.underlying47
  have qe : ∀ (w : World) (a : Option Addr) (n c n' c' : Nat), (binOp .eql 24 (.slice a n c) (.slice none n' c')).run Try.prog w = .ok (.bool a.isNone) w := fun w a n c n' c' => Lib.run_eql_slice_nil w _ _ a n c n' c' Try.underlying24
  cases A0 with
  | none =>
    obtain rfl : l0 = [] := by
      rcases l0 with _ | ⟨x, l⟩
      · rfl
      · obtain ⟨ad, h, _⟩ := hr0.2.2 (by simp)
        cases h
    clear hr0
    go_enter Try.func43, Try.ntmps43
    go_wp2
    go_ret
    exact ⟨_, rfl, Kd.R_nil _ _ _ _ _, Below.refl _ _⟩
  | some ad =>
    have HR0 := Aside0.mk hr0
    have HC0 := Aside0.mk hc0
    have HL := Aside0.mk hl
    clear hr0 hc0 hl
    have HB := Aside0.mk (Below.refl w.heap.size w)
    go_enter Try.func43, Try.ntmps43
    go_wp2_with (first | ((with_reducible refine gate_dst (N := 5) rfl ?_); refine Kd.R_lit k47 _ 47 ?hg (N := 5) ?hd (xs := ([] : List S47)) (inner := []) (ok := fun _ => True) (okp := fun _ => True) ?hr ?hp (fun _ hk => hk) trivial (Below.refl _ _) (Nat.le_refl _) (by simp) ?_; (case hd => rfl); (case hg => rfl); (case hr => first | (go_simp; done) | (go_simp; rfl)); (case hp => exact (Reps.none _ _)); intro v199 w3 ho4 hb hg_ hnew_; clear hg_ hnew_; have HO4 := Aside0.mk ho4; have HB4 := Aside0.mk hb; clear hb ho4) | ((with_reducible refine gate_builtin (b := .append) (xs := #[.tmp 5, .tmp 6]) rfl ?_); at_builtin; refine Kd.R_append_rows k47 (w0 := w) w.heap.size rfl (.tmp 5) (.tmp 6) 24 47 (.agg #[(.int .u8 0), (.string ⟨#[]⟩)]) 24 rfl Try.underlying24 info47 rfl (by decide) (by omega) _ ([] : List S47) l0 _ _ _ (fun _ => True) (fun _ => False) rfl rfl ?aO ?aR (fun _ _ h => h) (fun _ h => h.elim) (fun _ _ => trivial) ?aB ?aS ?aL ?_; (case aO => exact HO4.out); (case aR => exact Kd.C_below HR0.out HB4.out); (case aB => exact HB4.out); (case aS => exact HB4.out.size); (case aL => have := HL.out; simp only [List.length_nil]; omega); intro v1 w1 ho hb hg hat; rw [List.nil_append] at ho; clear hg hat; have HO5 := Aside0.mk ho; have HB5 := Aside0.mk hb; clear hb ho))
    go_ret
    exact ⟨_, rfl, HO5.out, HB5.out⟩
theorem idxOf_spec (c : Int) : ∀ (l : List S47) (i : Nat), (idxOf c l i = -1 ∧ ∀ x ∈ l, x.f0 ≠ c) ∨ ∃ j, j < l.length ∧ idxOf c l i = ((i + j : Nat) : Int) ∧ (∀ q, q < j → (l.getD q z47).f0 ≠ c) ∧ (l.getD j z47).f0 = c
  | [], i => .inl ⟨rfl, by simp⟩
  | x :: l, i => by
    by_cases h : x.f0 = c
    · exact .inr ⟨0, by simp, by rw [idxOf, if_pos h]; rfl, fun q hq => absurd hq (Nat.not_lt_zero q), by simpa using h⟩
    · rcases idxOf_spec c l (i + 1) with ⟨h1, h2⟩ | ⟨j, h1, h2, h3, h4⟩
      · refine .inl ⟨by rw [idxOf, if_neg h, h1], ?_⟩
        intro y hy
        rcases List.mem_cons.1 hy with rfl | hy
        · exact h
        · exact h2 y hy
      · refine .inr ⟨j + 1, by simpa using h1, by rw [idxOf, if_neg h, h2]; congr 1; omega, fun q hq => ?_, by simpa using h4⟩
        cases q with
        | zero => simpa using h
        | succ q => simpa using h3 q (by omega)
theorem R_tail {α : Type} {d : Kd α} {e base n cap g : Nat} {W : World} {ok : Nat → Prop} {xs : List α} (h : d.R e W base ok (.slice (some ⟨g, 0, none⟩) n cap) xs) (o : Nat) (vs : List Value) (ho : n * d.sz ≤ o) (hv : o + vs.length ≤ cap * d.sz) :
    d.R e (W.setCells g o vs) base ok (.slice (some ⟨g, 0, none⟩) n cap) xs ∧ W.grownBy (W.setCells g o vs) (some g) ∧ base ≤ g ∧ (∀ j, j < vs.length → (W.cell? ⟨g, o + j, none⟩).isSome = true) ∧ ∀ j, W.frozen? ⟨g, o + j, none⟩ = false := by
  have hn := (Kd.R_reads' h).1
  obtain ⟨h0, inner, ho1, hr⟩ := h
  obtain ⟨ho2, ho3⟩ := ho1
  rcases ho3 with ⟨hv', _⟩ | ⟨g', cap', cur, hv', hb, hh, hnc, hcm, hcs, ht⟩
  · cases hv'
  injection hv' with ha _ hc
  injection ha with ha
  injection ha with hg
  subst hg; subst hc
  obtain ⟨cur', h3, h4, h5⟩ := setCells_row vs o W cur hh (by omega)
  obtain ⟨s1, s2, s3, s4⟩ := setCells_same g vs o W
  refine ⟨⟨h0, inner, ⟨ho2, .inr ⟨g, cap, cur', by rw [← hn], hb, h3, hnc, hcm, by omega, ?_⟩⟩, ?_⟩, ⟨s1, s2, s3, by rw [s4]; exact Nat.le_refl _, fun k _ hk => setCells_far _ _ k (fun he => hk (by rw [he]))⟩, hb, fun j hj => ?_, fun j => blk_frozen hh _⟩
  · rw [h5, ← ht, ← hn, List.append_assoc, List.take_append_of_le_length (by rw [List.length_take, Array.length_toList, hcs]; omega), List.take_take, Nat.min_eq_left ho]
  · exact hr.imp_ (fun _ _ hp => d.M_move (fun k hk => setCells_far _ _ k (fun he => hk.2 (by rw [he]; simp [Value.ownBlock]))) hp)
  · rw [cell_of_row W g _ cur e (0, 0) hh]
    simp
    omega
theorem zeros_opt4 (n : Nat) : (Builtin.zeroCells #[(.int .u8 0), (.string ⟨#[]⟩)] n).toList.length = n * 2 ∧ ∀ v ∈ (Builtin.zeroCells #[(.int .u8 0), (.string ⟨#[]⟩)] n).toList, v.oneCell' = true := by
  refine ⟨by simp [Builtin.zeroCells], fun v hv => ?_⟩
  simp only [Builtin.zeroCells, Array.toList_map, List.mem_map] at hv
  obtain ⟨i, _, rfl⟩ := hv
  have : i % 2 = 0 ∨ i % 2 = 1 := by omega
  rcases this with h | h
  · simp [h, Value.oneCell']
  · simp [h, Value.oneCell']
theorem clear_opt4 (w : World) (ty : TypeId) (b o n c : Nat) (hc : ∀ j, j < n * 2 → (w.cell? ⟨b, o + j, none⟩).isSome = true) (hf : ∀ j, j < n * 2 → w.frozen? ⟨b, o + j, none⟩ = false) :
    (Builtin.clear_ #[24] ty #[.slice (some ⟨b, o, none⟩) n c]).run Try.prog w = .ok (.tuple #[]) (w.setCells b o (Builtin.zeroCells #[(.int .u8 0), (.string ⟨#[]⟩)] n).toList) := by
  obtain ⟨i0, hi, hzz⟩ := Option.map_eq_some_iff.1 info47
  simp only [Prod.mk.injEq] at hzz
  obtain ⟨hz0, hz1, hz2⟩ := hzz
  have hzl := zeros_opt4 n
  have hst := run_storeCells_cells (P := Try.prog) b o _ 0 w (fun j hj => by simpa using hc j (by rw [← hzl.1]; exact hj)) (fun j hj => by simpa using hf j (by rw [← hzl.1]; exact hj)) hzl.2
  simp only [Nat.add_zero] at hst
  rcases Nat.eq_zero_or_pos n with rfl | hn
  · simp [Builtin.clear_, run_underlying Try.underlying24, Builtin.zeroCells, World.setCells]
  · obtain ⟨m, rfl⟩ : ∃ m, n = m + 1 := ⟨n - 1, by omega⟩
    have hzv : (zeroValue 47).run Try.prog w = .ok (.agg #[(.int .u8 0), (.string ⟨#[]⟩)]) w := by
      simp [zeroValue, typeInfo, hi, hz0]
    have hcl : (Value.agg #[(.int .u8 0), (.string ⟨#[]⟩)]).cells = #[(.int .u8 0), (.string ⟨#[]⟩)] := rfl
    simp [Builtin.clear_, run_underlying Try.underlying24, hzv, hcl, hst]
theorem keep_step (c : Int) (l : List S47) (j : Nat) (hj : j < l.length) : (l.take (j + 1)).filter (fun x => !(x.f0 == c)) = (l.take j).filter (fun x => !(x.f0 == c)) ++ if (l.getD j z47).f0 = c then [] else [l.getD j z47] := by
  rw [List.take_succ_eq_append_getElem hj, List.filter_append, List.getD_eq_getElem?_getD, List.getElem?_eq_getElem hj]
  simp only [Option.getD_some]
  by_cases h : l[j].f0 = c
  · rw [if_pos h, List.filter_cons_of_neg (by simpa using h)]; rfl
  · rw [if_neg h, List.filter_cons_of_pos (by simpa using h)]; rfl
theorem keep_all (c : Int) (l : List S47) : ∀ (j : Nat), j ≤ l.length → (∀ q, q < j → (l.getD q z47).f0 ≠ c) → (l.take j).filter (fun x => !(x.f0 == c)) = l.take j
  | 0, _, _ => by simp
  | j + 1, hj, h => by
    rw [keep_step c l j (by omega), keep_all c l j (by omega) (fun q hq => h q (by omega)), if_neg (h j (by omega)), List.take_succ_eq_append_getElem (by omega), List.getD_eq_getElem?_getD, List.getElem?_eq_getElem (by omega)]
    rfl
theorem drop_getD {xs l : List S47} {j : Nat} (h : xs.drop j = l.drop j) : xs.getD j z47 = l.getD j z47 ∧ xs.drop (j + 1) = l.drop (j + 1) := by
  refine ⟨?_, by rw [← List.drop_drop, h, List.drop_drop]⟩
  have h1 : (xs.drop j)[0]? = (l.drop j)[0]? := by rw [h]
  rw [List.getElem?_drop, List.getElem?_drop, Nat.add_zero] at h1
  rw [List.getD_eq_getElem?_getD, List.getD_eq_getElem?_getD, h1]
set_option maxRecDepth 100000 in
set_option maxHeartbeats 2000000 in
theorem delete_opt4 (code : Int) (g : Nat) (v : Value) (l : List S47) (w0 w : World) (HO : Kd.R k47 47 w w0.heap.size (fun _ => True) v l) (hg : w.heap[g]? = some (.cells #[.int .u8 code] 5 (0, 0))) (HB : Below w0.heap.size w0 w) :
    Calls Try.prog 42 #[v, cloV g] w fun e w' => ∃ v0_ : Value, e = .returned v0_ ∧ Kd.R k47 47 w' w0.heap.size (fun _ => True) v0_ (l.filter (fun x => !(x.f0 == code))) ∧ Below w0.heap.size w0 w' := by
  obtain ⟨A, c, rfl, hlc, hC⟩ := Kd.R_reads HO
  have hi := index_has code g A l.length c l w hC hg
  have eg := enters_has
  have hu := Try.underlying47
  rcases idxOf_spec code l 0 with ⟨e1, e2⟩ | ⟨j0, j1, e1, e2, e3⟩
  · rw [e1] at hi
    have HO' := Aside0.mk HO
    have HB' := Aside0.mk HB
    have HE := Aside0.mk e2
    clear HO HB e1 e2 hC hg hlc
    unfold cloV at hi ⊢
    go_enter Try.func42, Try.ntmps42
    go_wp2_with (go_at_call 51; refine hi.mono ?_; rintro e w1 ⟨rfl, hb1⟩)
    go_ret
    refine ⟨_, rfl, ?_, below_step HB'.out hb1⟩
    rw [List.filter_eq_self.2 (fun x hx => by have := HE.out x hx; simpa using this)]
    exact Kd.R_below HO'.out hb1
  · rw [Nat.zero_add] at e1
    rw [e1] at hi
    obtain ⟨b, rfl⟩ : ∃ b, A = some ⟨b, 0, none⟩ := by
      obtain ⟨_, inner, ho, _⟩ := HO
      rcases ho.2 with ⟨hv, hn⟩ | ⟨b, _, _, hv, _⟩
      · injection hv with _ h _; omega
      · injection hv with h _ _; exact ⟨b, h⟩
    have HO' := Aside0.mk HO
    have HB' := Aside0.mk HB
    have HG := Aside0.mk hg
    have HE := Aside0.mk e2
    have HE3 := Aside0.mk e3
    have HJ := Aside0.mk j1
    obtain ⟨n, hn⟩ : ∃ n, n = l.length := ⟨_, rfl⟩
    have HN := Aside0.mk hn
    rw [← hn] at hi hlc ⊢
    have HC := Aside0.mk hlc
    clear HO HB e1 e2 e3 hC hg j1 hn hlc
    unfold cloV at hi ⊢
    go_enter Try.func42, Try.ntmps42
    go_wp2_with (go_at_call 51; refine hi.mono ?_; rintro e w1 ⟨rfl, hb1⟩)
    have hbsz : b < w.heap.size := by
      obtain ⟨_, inner, ho, _⟩ := HO'.out
      exact own_lt ho b (by simp [Value.ownBlock])
    have hgsz : g < w.heap.size := blk_lt HG.out
    have hgb : g ≠ b := by
      obtain ⟨_, inner, ho, _⟩ := HO'.out
      obtain ⟨cells, hcl⟩ := own_typed ho b (by simp [Value.ownBlock])
      rintro rfl
      rw [HG.out] at hcl
      simp at hcl
    have HB1 := Aside0.mk hb1
    clear hb1
    have HS := Aside0.mk (And.intro hbsz (And.intro hgsz hgb))
    clear hbsz hgsz hgb hi
    go_loopg [5, 6, 7] n (fun gg s5 s6 _ wr => ∃ (i j : Nat) (xs : List S47), s5 = .int .i64 i ∧ s6 = .int .i64 j ∧ Aside0 (i < j ∧ j ≤ n ∧ n - j ≤ gg) ∧ Aside0 (xs.length = n) ∧ Aside0 (xs.take i = (l.take j).filter (fun x => !(x.f0 == code))) ∧ Aside0 (xs.drop j = l.drop j) ∧ Aside0 (Kd.R k47 47 wr w0.heap.size (fun _ => True) (.slice (some ⟨b, 0, none⟩) n c) xs) ∧ Aside0 (wr.heap[g]? = some (.cells #[.int .u8 code] 5 (0, 0))) ∧ Aside0 (Below w0.heap.size w0 wr))
    case atStart =>
      have hjn : j0 < n := by rw [HN.out]; exact HJ.out
      have hm : n ≤ 9223372036854775807 := by
        have := Kd.C_max (Kd.R_reads' HO'.out).2.2
        rw [HN.out]; exact this
      refine ⟨j0, j0 + 1, l, rfl, by rw [Go.IntWalk.wrap64_in _ (by omega)]; rfl, ⟨by omega⟩, ⟨HN.out.symm⟩, ⟨?_⟩, ⟨rfl⟩, ⟨?_⟩, ⟨(HB1.out.block g HS.out.2.1).trans HG.out⟩, ⟨below_step HB'.out HB1.out⟩⟩
      · rw [keep_step code l j0 HJ.out, keep_all code l j0 (by have := HJ.out; omega) HE.out, if_pos HE3.out, List.append_nil]
      · rw [HN.out]; exact Kd.R_below HO'.out HB1.out
    case round =>
      obtain ⟨i, j, xs, rfl, rfl, HI, HL, HT, HD, HX, HGr, HBr⟩ := hrel
      have hm : n ≤ 9223372036854775807 := by
        have := Kd.C_max (Kd.R_reads' HO'.out).2.2
        rw [HN.out]; exact this
      have HM := Aside0.mk hm
      clear hm
      by_cases hlt : j < n
      · have hltz : (j : Int) < (n : Int) := by omega
        have hC2 := (Kd.R_reads' HX.out).2.2
        obtain ⟨ad, e1, hx0, hx1⟩ := at_T47 hC2 (j : Int) (by omega) (by rw [HL.out]; exact hltz)
        obtain rfl : (⟨b, 0, none⟩ : Addr) = ad := by injection e1
        simp only [Int.toNat_natCast, add_plain] at hx0 hx1
        clear hC2 e1
        have HLT := Aside0.mk hlt
        clear hlt
        have hle : i ≤ j := by have := HI.out; omega
        have hlit := fun (W : World) (h : W.heap[g]? = some (.cells #[.int .u8 code] 5 (0, 0))) => has_lit (rd_T47 xs (j : Int)).f0 code (rd_T47 xs (j : Int)).f1 g W h
        have hrd : rd_T47 xs (j : Int) = l.getD j z47 := (drop_getD HD.out).1
        have HRD := Lib.hid hrd
        clear hrd
        by_cases hq : (rd_T47 xs (j : Int)).f0 = code
        · have hqb : ((rd_T47 xs (j : Int)).f0 == code) = true := beq_iff_eq.2 hq
          simp only [hqb] at hlit
          have HQ := Aside0.mk hq
          clear hq hqb
          go_wp2_with (first | ((with_reducible refine gate_dst (N := 7) rfl ?_); refine box_event ?hg (N := 7) ?hd (cs := #[.int .u8 0, .string (⟨#[]⟩ : ByteArray)]) (t := 47) ?hr ?_; (case hd => rfl); (case hg => rfl); (case hr => first | (go_simp; done) | (go_simp; rfl)); intro gb hgb w8 hbox hb8; have BK := Aside0.mk hbox; have HB8 := Aside0.mk hb8; have GE := Aside0.mk hgb; clear hgb hbox hb8; obtain ⟨hcz_0, hcz_1⟩ := XRun.bc2 BK.out; obtain ⟨hfz_0, hfz_1⟩ := XRun.bf2 BK.out; have HBW := Aside0.mk (show Below wr.heap.size wr ((w8.setCell ⟨gb, 0, none⟩ (.int .u8 (rd_T47 xs (j : Int)).f0)).setCell ⟨gb, 1, none⟩ (.string (rd_T47 xs (j : Int)).f1)) from below_set (below_set HB8.out (Nat.le_of_eq GE.out.symm)) (Nat.le_of_eq GE.out.symm)); have BK2 := Aside0.mk (show ((w8.setCell ⟨gb, 0, none⟩ (.int .u8 (rd_T47 xs (j : Int)).f0)).setCell ⟨gb, 1, none⟩ (.string (rd_T47 xs (j : Int)).f1)).heap[gb]? = some (.cells #[.int .u8 (rd_T47 xs (j : Int)).f0, .string (rd_T47 xs (j : Int)).f1] 47 (0, 0)) from blk_put (cs := #[.int .u8 (rd_T47 xs (j : Int)).f0, .string (⟨#[]⟩ : ByteArray)]) (blk_put (cs := #[.int .u8 0, .string (⟨#[]⟩ : ByteArray)]) BK.out 0 _ rfl) 1 _ rfl)) | (go_at_call 56; refine (hlit _ ((HBW.out.block g (blk_lt HGr.out)).trans HGr.out)).mono ?_; rintro e w9 ⟨rfl, hb9⟩; have HB9 := Aside0.mk (below_step HBW.out hb9); clear hb9))
          go_roundg (n - (j + 1))
          case measure => have := HI.out; have := HLT.out; omega
          case rel =>
            refine ⟨i, j + 1, xs, rfl, ?_, ⟨by have := HI.out; have := HLT.out; omega⟩, HL, ⟨?_⟩, ⟨(drop_getD HD.out).2⟩, ⟨Kd.R_below HX.out HB9.out⟩, ⟨(HB9.out.block g (blk_lt HGr.out)).trans HGr.out⟩, ⟨below_step HBr.out HB9.out⟩⟩
            · have := HM.out; have := HLT.out; rw [Go.IntWalk.wrap64_in _ (by omega)]; rfl
            · rw [keep_step code l j (by rw [← HN.out]; exact HLT.out), if_pos (by rw [← HRD.out]; exact HQ.out), List.append_nil]
              exact HT.out
        · have hqb : ((rd_T47 xs (j : Int)).f0 == code) = false := beq_eq_false_iff_ne.2 hq
          simp only [hqb] at hlit
          have HQ := Aside0.mk hq
          clear hq hqb
          go_wp2_with (first | ((with_reducible refine gate_dst (N := 7) rfl ?_); refine box_event ?hg (N := 7) ?hd (cs := #[.int .u8 0, .string (⟨#[]⟩ : ByteArray)]) (t := 47) ?hr ?_; (case hd => rfl); (case hg => rfl); (case hr => first | (go_simp; done) | (go_simp; rfl)); intro gb hgb w8 hbox hb8; have BK := Aside0.mk hbox; have HB8 := Aside0.mk hb8; have GE := Aside0.mk hgb; clear hgb hbox hb8; obtain ⟨hcz_0, hcz_1⟩ := XRun.bc2 BK.out; obtain ⟨hfz_0, hfz_1⟩ := XRun.bf2 BK.out; have HBW := Aside0.mk (show Below wr.heap.size wr ((w8.setCell ⟨gb, 0, none⟩ (.int .u8 (rd_T47 xs (j : Int)).f0)).setCell ⟨gb, 1, none⟩ (.string (rd_T47 xs (j : Int)).f1)) from below_set (below_set HB8.out (Nat.le_of_eq GE.out.symm)) (Nat.le_of_eq GE.out.symm)); have BK2 := Aside0.mk (show ((w8.setCell ⟨gb, 0, none⟩ (.int .u8 (rd_T47 xs (j : Int)).f0)).setCell ⟨gb, 1, none⟩ (.string (rd_T47 xs (j : Int)).f1)).heap[gb]? = some (.cells #[.int .u8 (rd_T47 xs (j : Int)).f0, .string (rd_T47 xs (j : Int)).f1] 47 (0, 0)) from blk_put (cs := #[.int .u8 (rd_T47 xs (j : Int)).f0, .string (⟨#[]⟩ : ByteArray)]) (blk_put (cs := #[.int .u8 0, .string (⟨#[]⟩ : ByteArray)]) BK.out 0 _ rfl) 1 _ rfl)) | (go_at_call 56; refine (hlit _ ((HBW.out.block g (blk_lt HGr.out)).trans HGr.out)).mono ?_; rintro e w9 ⟨rfl, hb9⟩; have HB9 := Aside0.mk (below_step HBW.out hb9); have BK9 := Aside0.mk ((hb9.block gb (blk_lt BK2.out)).trans BK2.out); clear hb9; have hcy_0 : w9.cell? ⟨gb, 0, none⟩ = some (.int .u8 (rd_T47 xs (j : Int)).f0) := (blk_cell BK9.out 0).trans rfl; have hcy_1 : w9.cell? ⟨gb, 1, none⟩ = some (.string (rd_T47 xs (j : Int)).f1) := (blk_cell BK9.out 1).trans rfl; have R9 := Aside0.mk (Kd.R_below HX.out HB9.out); obtain ⟨ce, hcl, hMe, hcc, hfr⟩ := Kd.R_elem R9.out z47 (i : Int) (by omega) (by have := HI.out; have := HLT.out; omega); obtain rfl := k47_openM hMe; have HCL := Aside0.mk hcl; have HCC := Aside0.mk hcc; clear hMe hcl hcc hfr) | ((with_reducible refine gate_store (t := 47) (p := 33) rfl ?_); refine Kd.R_store k47 (w0 := w0) w0.heap.size rfl rfl 47 (.tmp 33) (.tmp 32) rfl 47 (i : Int) 0 xs (rd_T47 xs (j : Int)) (.agg #[.int .u8 (rd_T47 xs (j : Int)).f0, .string (rd_T47 xs (j : Int)).f1]) [.int .u8 (rd_T47 xs (j : Int)).f0, .string (rd_T47 xs (j : Int)).f1] _ (fun _ => True) (fun _ => False) rfl (by first | rfl | (simp; done) | (simp only [ByteArray.size_extract]; rw [Nat.min_eq_left (by omega)]; done) | (simp; rfl)) rfl rfl ?ht (by simp [Value.oneCell']) R9.out (by omega) (by have := HI.out; have := HLT.out; omega) HCL.out HCC.out (show 2 ≤ 2 from Nat.le_refl _) ?hM (fun _ h => h.elim) ?hB ?_; (case ht => show _ = some 2; kernel_rfl); (case hM => exact k47_mkM _ _ _ (rd_T47 xs (j : Int))); (case hB => exact below_step HBr.out HB9.out); intro w10 hR hB hgr; have HR10 := Aside0.mk hR; have HB10 := Aside0.mk hB; have HG10 := Aside0.mk hgr; clear hR hB hgr))
          go_roundg (n - (j + 1))
          case measure => have := HI.out; have := HLT.out; omega
          case rel =>
            refine ⟨i + 1, j + 1, xs.set i (rd_T47 xs (j : Int)), ?_, ?_, ⟨by have := HI.out; have := HLT.out; omega⟩, ⟨by rw [List.length_set]; exact HL.out⟩, ⟨?_⟩, ⟨?_⟩, ⟨HR10.out⟩, ⟨?_⟩, ⟨HB10.out⟩⟩
            · have := HM.out; have := HI.out; have := HLT.out; rw [Go.IntWalk.wrap64_in _ (by omega)]; rfl
            · have := HM.out; have := HLT.out; rw [Go.IntWalk.wrap64_in _ (by omega)]; rfl
            · have hil : i < xs.length := by have := HI.out; have := HLT.out; have := HL.out; omega
              rw [keep_step code l j (by rw [← HN.out]; exact HLT.out), if_neg (by rw [← HRD.out]; exact HQ.out), ← HRD.out, ← HT.out, List.take_succ_eq_append_getElem (by rw [List.length_set]; exact hil), List.getElem_set_self, List.take_set_of_le (Nat.le_refl _)]
            · rw [List.drop_set_of_lt (by have := HI.out; omega)]
              exact (drop_getD HD.out).2
            · have hb9 := (HB9.out.block g (blk_lt HGr.out)).trans HGr.out
              exact (HG10.out.block g (blk_lt hb9) (fun h => HS.out.2.2 (by injection h))).trans hb9
      · obtain rfl : j = n := by have := HI.out; omega
        have hltz : ¬ (j : Int) < (j : Int) := by omega
        have hle : i ≤ j := by have := HI.out; omega
        have hci : ¬ c = i := by have := HI.out; have := HC.out; omega
        have HTk := Kd.R_take (m := i) HX.out (by rw [HL.out]; exact hle)
        obtain ⟨t1, t2, t3, t4, t5⟩ := R_tail HTk (i * 2) (Builtin.zeroCells #[(.int .u8 0), (.string ⟨#[]⟩)] (j - i)).toList (Nat.le_refl _) (by rw [(zeros_opt4 _).1]; show i * 2 + (j - i) * 2 ≤ c * 2; have := HC.out; omega)
        have hclr := fun ty => clear_opt4 wr ty b (i * 2) (j - i) (c - i) (fun q hq => t4 q (by rw [(zeros_opt4 _).1]; exact hq)) (fun q _ => t5 q)
        have HT1 := Aside0.mk t1
        have HT2 := Aside0.mk t2
        have HT3 := Aside0.mk t3
        clear t1 t2 t3 t4 t5 HTk
        have hic : i ≤ c := by have := HC.out; omega
        go_wp2
        go_ret
        refine ⟨_, rfl, ?_, ?_⟩
        · have h1 : l.filter (fun x => !(x.f0 == code)) = xs.take i := by rw [HT.out, HN.out, List.take_length]
          rw [h1]; exact HT1.out
        · exact HBr.out.trans ⟨HT2.out.os, HT2.out.tape, HT2.out.output, HT2.out.size, fun k hk => by
            rcases Nat.lt_or_ge k wr.heap.size with h2 | h2
            · exact HT2.out.block k h2 (fun he => by injection he with he; have := HT3.out; omega)
            · exact setCells_far _ _ k (by have := HT3.out; omega)⟩
/-! ### opt4_Without: function 20: by hand -/
def opt4_Without.f (l0 : List S47) (a1 : Int) : Option (List S47) := if l0.length < 5864062014805 then some (l0.filter (fun x => !(x.f0 == a1))) else none
set_option maxHeartbeats 1000000 in
theorem opt4_Without.calls (A0 : Option Addr) (c0 : Nat) (l0 : List S47) (a1 : Int) (r : List S47) (w : World) (hr0 : Kd.C k47 w A0 l0.length l0) (hc0 : l0.length ≤ c0) (h : opt4_Without.f l0 a1 = some r) :
    Calls Try.prog 20 #[.slice A0 l0.length c0, .int .u8 a1] w fun e w' => ∃ v0_ : Value, e = .returned (v0_) ∧ Kd.R k47 47 w' w.heap.size (fun _ => True) v0_ r ∧ Below w.heap.size w w' := by
  unfold opt4_Without.f at h
  split at h
  · rename_i hl
    obtain rfl := Option.some.inj h
    have h1 := clone_opt4 A0 c0 l0 w hr0 hc0 hl
    clear h hr0 hc0 hl
    go_enter Try.func20, Try.ntmps20
    go_wp2_with (first | (go_at_call 43; refine h1.mono ?_; rintro e w1 ⟨v1, rfl, hR1, hB1⟩; have R1 := Aside0.mk hR1; have B1 := Aside0.mk hB1; clear hR1 hB1) | (go_at_call 40; refine (has_makes a1 _).mono ?_; rintro e w2 ⟨g, rfl, hg, hgw, hb2⟩; have G2 := Aside0.mk hg; have B2 := Aside0.mk (below_step B1.out hb2); have R2 := Aside0.mk (Kd.R_below R1.out hb2); clear hg hgw hb2) | (go_at_call 42; refine (delete_opt4 a1 g v1 l0 w _ R2.out G2.out B2.out).mono ?_; rintro e w3 ⟨v3, rfl, hR3, hB3⟩; have R3 := Aside0.mk hR3; have B3 := Aside0.mk hB3; clear hR3 hB3))
    go_ret
    exact ⟨_, rfl, R3.out, B3.out⟩
  · cases h

/-! ### octet_get_uint32: function 62 -/
def octet_get_uint32.l0 : Nat → Bool → Int → List Int → Int → Int → Option (Int × Bool)
  | 0, _, _, _, _, _ => none
  | k + 1, x9, x10, x21, x22, x23 => if x23 < x22 then (if 0 ≤ x23 then (if x23 < (x21.length : Int) then (octet_get_uint32.l0 k x9 (Go.bits .or .u32 ((x10 * 256) % 4294967296) ((rd x21 x23) % 4294967296)) x21 x22 (wrap64 (x23 + 1))) else (none)) else (none)) else (some (x10, x9))
def octet_get_uint32.f (k : Nat) (a0 : ByteArray) (a1 : Int) (a2 : Int) : Option (Int × Bool) := (octet_Cut.f a0 a1 a2).bind fun bt161 => ((conv9_39.f bt161.1).bind fun t163 => (octet_get_uint32.l0 k bt161.2 0 t163 (t163.length : Int) 0))
theorem octet_get_uint32.mono_l : ∀ k, (∀ y0 y1 y2 y3 y4, LeO (octet_get_uint32.l0 k y0 y1 y2 y3 y4) (octet_get_uint32.l0 (k + 1) y0 y1 y2 y3 y4))
  | 0 => fun _ _ _ _ _ r h => by simp [octet_get_uint32.l0] at h
  | k + 1 => by
    have ih0 := octet_get_uint32.mono_l k
    · intro y0 y1 y2 y3 y4
      unfold octet_get_uint32.l0
      repeat' first
      | (with_reducible exact ih0 _ _ _ _ _)
      | (with_reducible exact LeO.refl _)
      | (with_reducible exact LeO.none _)
      | (with_reducible refine LeO.ite ?_ ?_)
      | (with_reducible refine LeO.bind ?_ (fun _ => ?_))
      | exact ih0 _ _ _ _ _
      | exact LeO.none _
      | refine LeO.ite ?_ ?_
      | refine LeO.bind ?_ (fun _ => ?_)
theorem octet_get_uint32.mono : ∀ a0 a1 a2 k, LeO (octet_get_uint32.f k a0 a1 a2) (octet_get_uint32.f (k + 1) a0 a1 a2) := by
  intro a0 a1 a2 k
  have ih0 := octet_get_uint32.mono_l k
  unfold octet_get_uint32.f
  repeat' first
      | (with_reducible exact ih0 _ _ _ _ _)
      | (with_reducible exact LeO.refl _)
      | (with_reducible exact LeO.none _)
      | (with_reducible refine LeO.ite ?_ ?_)
      | (with_reducible refine LeO.bind ?_ (fun _ => ?_))
      | exact ih0 _ _ _ _ _
      | exact LeO.none _
      | refine LeO.ite ?_ ?_
      | refine LeO.bind ?_ (fun _ => ?_)
set_option maxHeartbeats 8000000 in
set_option maxRecDepth 100000 in
theorem octet_get_uint32.calls (k : Nat) (a0 : ByteArray) (a1 : Int) (a2 : Int) (r1 : Int) (r2 : Bool) (w : World) (h : octet_get_uint32.f k a0 a1 a2 = some (r1, r2)) :
    Calls Try.prog 62 #[.string a0, .int .i64 a1, .int .i64 a2] w fun e w' => e = .returned (.tuple #[.int .u32 r1, .bool r2]) ∧ Below w.heap.size w w' := by
  have HB := Aside0.mk (Below.refl w.heap.size w)
  have H : ((octet_Cut.f a0 a1 a2).bind fun bt161 => ((conv9_39.f bt161.1).bind fun t163 => (octet_get_uint32.l0 k bt161.2 0 t163 (t163.length : Int) 0))) = some (r1, r2) := h
  clear h
  replace H := Option.bind_eq_some_iff.mp H
  obtain ⟨⟨t161, t162⟩, A40, H⟩ := H
  replace H : ((conv9_39.f t161).bind fun t163 => (octet_get_uint32.l0 k t162 0 t163 (t163.length : Int) 0)) = some (r1, r2) := H
  have A4 := Aside0.mk A40
  clear A40
  replace H := Option.bind_eq_some_iff.mp H
  obtain ⟨t163, A50, H⟩ := H
  replace H : (octet_get_uint32.l0 k t162 0 t163 (t163.length : Int) 0) = some (r1, r2) := H
  have A5 := Aside0.mk A50
  clear A50
  have H' := Aside0.mk H
  clear H
  go_enter Try.func62, Try.ntmps62
  go_wp2_with (first | ((with_reducible refine gate_callee (f := 57) rfl ?_); refine goesL_ (some 17) rfl rfl Try.func57 (by kernel_rfl) rfl #[.string a0, .int .i64 a1, .int .i64 a2] rfl (by (try simp only [List.map_toArray, List.map_cons, List.map_nil]); first | done | rfl | (simp only [List.length_drop, List.length_take]; rfl)) ?_; (with_reducible refine (octet_Cut.calls a0 a1 a2 t161 t162 _ A4.out).mono ?_); rintro e w6 ⟨rfl, hb⟩; refine ⟨_, rfl, ?_⟩; have n0_ := Aside0.mk (below_step (by repeat (first | (with_reducible first | exact HB.out | apply below_alloc | apply pw_below_drewN | apply below_drew1) | exact HB.out)) hb); clear HB; have HB := n0_; clear n0_; (try clear hb); (try clear hb2); (try clear hk); (try clear hi)) | ((with_reducible refine gate_dst (N := 21) rfl ?_); refine XRun.convL_ 21 rfl rfl 9 39 5 Try.underlying9 Try.underlying39 Try.underlying5 t161 rfl (by first | rfl | (go_simp; done) | (go_simp; rfl)) ?_; (with_reducible refine (conv9_39.calls t161 t163 _ A5.out).mono ?_); rintro e w7 ⟨v164, rfl, ho0, hb⟩; refine ⟨_, rfl, ?_⟩; have n0_ := Aside0.mk (Kd.V_lower (Kd.V_mono (ok' := fun k_ => True) ho0 (fun k_ hk_ => trivial)) (below_size (by repeat (first | (with_reducible first | exact HB.out | apply below_alloc | apply pw_below_drewN | apply below_drew1) | exact HB.out)))); have n1_ := Aside0.mk (below_step (by repeat (first | (with_reducible first | exact HB.out | apply below_alloc | apply pw_below_drewN | apply below_drew1) | exact HB.out)) hb); clear HB; have HO165 := n0_; have HB := n1_; clear n0_ n1_; (try clear hb); (try clear hb2); (try clear hk); (try clear hi); (try clear ho0); obtain ⟨Ao8, co8, eo8⟩ := Kd.V_slice HO165.out; subst eo8))
  go_loopg [10, 23] k (fun kq v10 v23 w' => ∃ (x10_1 : Int) (x23_1 : Int), v10 = .int .u32 x10_1 ∧ v23 = .int .i64 x23_1 ∧ Aside0 (octet_get_uint32.l0 kq t162 x10_1 t163 (t163.length : Int) x23_1 = some (r1, r2)) ∧ Aside0 (kq ≤ k) ∧ Aside0 (Kd.V (Kd.int .u8) 5 w' w.heap.size (fun _ => True) (.slice Ao8 t163.length co8) t163) ∧ Aside0 (Below w.heap.size w w'))
  case atStart => exact ⟨(0), (0), (by first | rfl | (simp; done) | (simp only [ByteArray.size_extract]; rw [Nat.min_eq_left (by omega)]; done) | (simp [*]; done)), (by first | rfl | (simp; done) | (simp only [ByteArray.size_extract]; rw [Nat.min_eq_left (by omega)]; done) | (simp [*]; done)), H', ⟨Nat.le_refl _⟩, ⟨by (with_reducible repeat (first | apply Kd.V_alloc | apply Kd.V_drewN | apply Kd.V_drew)); exact HO165.out⟩, ⟨by repeat (first | (with_reducible first | exact HB.out | apply below_alloc | apply pw_below_drewN | apply below_drew1) | exact HB.out)⟩⟩
  case round =>
    clear H'
    try clear p2
    try clear c5
    try clear c6
    obtain ⟨x10_1, x23_1, rfl, rfl, HA, HK1, HO_21, HB⟩ := hrel
    cases gk with
    | zero => exact absurd HA.out (by simp [octet_get_uint32.l0])
    | succ k1 =>
      have H := HA.out
      clear HA
      simp only [octet_get_uint32.l0] at H
      by_cases c9 : x23_1 < (t163.length : Int)
      · rw [if_pos c9] at H
        have c9b0 : decide (x23_1 < (t163.length : Int)) = true := decide_eq_true c9
        clear c9
        by_cases c10 : 0 ≤ x23_1
        · rw [if_pos c10] at H
          have c10b0 : decide (0 ≤ x23_1) = true := decide_eq_true c10
          clear c10
          by_cases c11 : x23_1 < (t163.length : Int)
          · rw [if_pos c11] at H
            have c11b0 : decide (x23_1 < (t163.length : Int)) = true := decide_eq_true c11
            clear c11
            have H' := Aside0.mk H
            clear H
            have p166 : 0 ≤ (x23_1 : Int) := of_decide_eq_true (by first | (with_reducible assumption) | assumption)
            have q166 : x23_1 < (t163.length : Int) := of_decide_eq_true (by first | (with_reducible assumption) | assumption)
            obtain ⟨ad166, e166, hx166_0⟩ := Kd.at_int (Kd.V_reads' HO_21.out).2.2 x23_1 p166 q166
            cases e166
            replace p166 := eq_true p166
            replace q166 := eq_true q166
            go_wp2
            go_roundg k1
            case measure => have := HK1.out; omega
            case rel => exact ⟨(Go.bits .or .u32 ((x10_1 * 256) % 4294967296) ((rd t163 x23_1) % 4294967296)), (wrap64 (x23_1 + 1)), (by first | rfl | (simp; done) | (simp only [ByteArray.size_extract]; rw [Nat.min_eq_left (by omega)]; done) | (simp [*]; done)), (by first | rfl | (simp; done) | (simp only [ByteArray.size_extract]; rw [Nat.min_eq_left (by omega)]; done) | (simp [*]; done)), H', ⟨by have := HK1.out; omega⟩, ⟨by (with_reducible repeat (first | apply Kd.V_alloc | apply Kd.V_drewN | apply Kd.V_drew)); exact HO_21.out⟩, ⟨by repeat (first | (with_reducible first | exact HB.out | apply below_alloc | apply pw_below_drewN | apply below_drew1) | exact HB.out)⟩⟩
          · rw [if_neg c11] at H
            exact absurd H (by simp)
        · rw [if_neg c10] at H
          exact absurd H (by simp)
      · rw [if_neg c9] at H
        have c9b0 : decide (x23_1 < (t163.length : Int)) = false := decide_eq_false c9
        clear c9
        simp only [Option.some.injEq, Prod.mk.injEq] at H
        obtain ⟨rfl, rfl⟩ := H
        go_wp2
        go_ret2
        exact ⟨by first | rfl | (simp [errW_none, errW_some] <;> rfl) | (simp [*, errW_none, errW_some] <;> rfl), by repeat (first | (with_reducible first | exact HB.out | apply below_alloc | apply pw_below_drewN | apply below_drew1) | exact HB.out)⟩

/-! ### octet_Get32: function 52 -/
def octet_Get32.f (k : Nat) (a0 : ByteArray) (a1 : Int) : Option (Int × Bool) := (octet_get_uint32.f k a0 a1 4).bind fun bt167 => (some (bt167.1, bt167.2))
theorem octet_Get32.mono : ∀ a0 a1 k, LeO (octet_Get32.f k a0 a1) (octet_Get32.f (k + 1) a0 a1) := by
  intro a0 a1 k
  unfold octet_Get32.f
  repeat' first
      | (with_reducible exact octet_get_uint32.mono _ _ _ _)
      | (with_reducible exact LeO.refl _)
      | (with_reducible exact LeO.none _)
      | (with_reducible refine LeO.ite ?_ ?_)
      | (with_reducible refine LeO.bind ?_ (fun _ => ?_))
      | exact octet_get_uint32.mono _ _ _ _
      | exact LeO.none _
      | refine LeO.ite ?_ ?_
      | refine LeO.bind ?_ (fun _ => ?_)
set_option maxHeartbeats 8000000 in
set_option maxRecDepth 100000 in
theorem octet_Get32.calls (k : Nat) (a0 : ByteArray) (a1 : Int) (r1 : Int) (r2 : Bool) (w : World) (h : octet_Get32.f k a0 a1 = some (r1, r2)) :
    Calls Try.prog 52 #[.string a0, .int .i64 a1] w fun e w' => e = .returned (.tuple #[.int .u32 r1, .bool r2]) ∧ Below w.heap.size w w' := by
  have HB := Aside0.mk (Below.refl w.heap.size w)
  have H : ((octet_get_uint32.f k a0 a1 4).bind fun bt167 => (some (bt167.1, bt167.2))) = some (r1, r2) := h
  clear h
  replace H := Option.bind_eq_some_iff.mp H
  obtain ⟨⟨t167, t168⟩, A30, H⟩ := H
  replace H : (some (t167, t168)) = some (r1, r2) := H
  have A3 := Aside0.mk A30
  clear A30
  simp only [Option.some.injEq, Prod.mk.injEq] at H
  obtain ⟨rfl, rfl⟩ := H
  go_enter Try.func52, Try.ntmps52
  go_wp2_with (first | ((with_reducible refine gate_callee (f := 62) rfl ?_); refine goesL_ (some 8) rfl rfl Try.func62 (by kernel_rfl) rfl #[.string a0, .int .i64 a1, .int .i64 4] rfl (by (try simp only [List.map_toArray, List.map_cons, List.map_nil]); first | done | rfl | (simp only [List.length_drop, List.length_take]; rfl)) ?_; (with_reducible refine (octet_get_uint32.calls k a0 a1 4 t167 t168 _ A3.out).mono ?_); rintro e w4 ⟨rfl, hb⟩; refine ⟨_, rfl, ?_⟩; have n0_ := Aside0.mk (below_step (by repeat (first | (with_reducible first | exact HB.out | apply below_alloc | apply pw_below_drewN | apply below_drew1) | exact HB.out)) hb); clear HB; have HB := n0_; clear n0_; (try clear hb); (try clear hb2); (try clear hk); (try clear hi)))
  go_ret2
  exact ⟨by first | rfl | (simp [errW_none, errW_some] <;> rfl) | (simp [*, errW_none, errW_some] <;> rfl), by repeat (first | (with_reducible first | exact HB.out | apply below_alloc | apply pw_below_drewN | apply below_drew1) | exact HB.out)⟩

/-! ### octet_get_uint16: function 63 -/
def octet_get_uint16.l0 : Nat → Bool → Int → List Int → Int → Int → Option (Int × Bool)
  | 0, _, _, _, _, _ => none
  | k + 1, x9, x10, x21, x22, x23 => if x23 < x22 then (if 0 ≤ x23 then (if x23 < (x21.length : Int) then (octet_get_uint16.l0 k x9 (Go.bits .or .u16 (IntKind.u16.wrap (x10 * 256)) (IntKind.u16.wrap (rd x21 x23))) x21 x22 (wrap64 (x23 + 1))) else (none)) else (none)) else (some (x10, x9))
def octet_get_uint16.f (k : Nat) (a0 : ByteArray) (a1 : Int) (a2 : Int) : Option (Int × Bool) := (octet_Cut.f a0 a1 a2).bind fun bt169 => ((conv9_39.f bt169.1).bind fun t171 => (octet_get_uint16.l0 k bt169.2 0 t171 (t171.length : Int) 0))
theorem octet_get_uint16.mono_l : ∀ k, (∀ y0 y1 y2 y3 y4, LeO (octet_get_uint16.l0 k y0 y1 y2 y3 y4) (octet_get_uint16.l0 (k + 1) y0 y1 y2 y3 y4))
  | 0 => fun _ _ _ _ _ r h => by simp [octet_get_uint16.l0] at h
  | k + 1 => by
    have ih0 := octet_get_uint16.mono_l k
    · intro y0 y1 y2 y3 y4
      unfold octet_get_uint16.l0
      repeat' first
      | (with_reducible exact ih0 _ _ _ _ _)
      | (with_reducible exact LeO.refl _)
      | (with_reducible exact LeO.none _)
      | (with_reducible refine LeO.ite ?_ ?_)
      | (with_reducible refine LeO.bind ?_ (fun _ => ?_))
      | exact ih0 _ _ _ _ _
      | exact LeO.none _
      | refine LeO.ite ?_ ?_
      | refine LeO.bind ?_ (fun _ => ?_)
theorem octet_get_uint16.mono : ∀ a0 a1 a2 k, LeO (octet_get_uint16.f k a0 a1 a2) (octet_get_uint16.f (k + 1) a0 a1 a2) := by
  intro a0 a1 a2 k
  have ih0 := octet_get_uint16.mono_l k
  unfold octet_get_uint16.f
  repeat' first
      | (with_reducible exact ih0 _ _ _ _ _)
      | (with_reducible exact LeO.refl _)
      | (with_reducible exact LeO.none _)
      | (with_reducible refine LeO.ite ?_ ?_)
      | (with_reducible refine LeO.bind ?_ (fun _ => ?_))
      | exact ih0 _ _ _ _ _
      | exact LeO.none _
      | refine LeO.ite ?_ ?_
      | refine LeO.bind ?_ (fun _ => ?_)
set_option maxHeartbeats 8000000 in
set_option maxRecDepth 100000 in
theorem octet_get_uint16.calls (k : Nat) (a0 : ByteArray) (a1 : Int) (a2 : Int) (r1 : Int) (r2 : Bool) (w : World) (h : octet_get_uint16.f k a0 a1 a2 = some (r1, r2)) :
    Calls Try.prog 63 #[.string a0, .int .i64 a1, .int .i64 a2] w fun e w' => e = .returned (.tuple #[.int .u16 r1, .bool r2]) ∧ Below w.heap.size w w' := by
  have HB := Aside0.mk (Below.refl w.heap.size w)
  have H : ((octet_Cut.f a0 a1 a2).bind fun bt169 => ((conv9_39.f bt169.1).bind fun t171 => (octet_get_uint16.l0 k bt169.2 0 t171 (t171.length : Int) 0))) = some (r1, r2) := h
  clear h
  replace H := Option.bind_eq_some_iff.mp H
  obtain ⟨⟨t169, t170⟩, A40, H⟩ := H
  replace H : ((conv9_39.f t169).bind fun t171 => (octet_get_uint16.l0 k t170 0 t171 (t171.length : Int) 0)) = some (r1, r2) := H
  have A4 := Aside0.mk A40
  clear A40
  replace H := Option.bind_eq_some_iff.mp H
  obtain ⟨t171, A50, H⟩ := H
  replace H : (octet_get_uint16.l0 k t170 0 t171 (t171.length : Int) 0) = some (r1, r2) := H
  have A5 := Aside0.mk A50
  clear A50
  have H' := Aside0.mk H
  clear H
  go_enter Try.func63, Try.ntmps63
  go_wp2_with (first | ((with_reducible refine gate_callee (f := 57) rfl ?_); refine goesL_ (some 17) rfl rfl Try.func57 (by kernel_rfl) rfl #[.string a0, .int .i64 a1, .int .i64 a2] rfl (by (try simp only [List.map_toArray, List.map_cons, List.map_nil]); first | done | rfl | (simp only [List.length_drop, List.length_take]; rfl)) ?_; (with_reducible refine (octet_Cut.calls a0 a1 a2 t169 t170 _ A4.out).mono ?_); rintro e w6 ⟨rfl, hb⟩; refine ⟨_, rfl, ?_⟩; have n0_ := Aside0.mk (below_step (by repeat (first | (with_reducible first | exact HB.out | apply below_alloc | apply pw_below_drewN | apply below_drew1) | exact HB.out)) hb); clear HB; have HB := n0_; clear n0_; (try clear hb); (try clear hb2); (try clear hk); (try clear hi)) | ((with_reducible refine gate_dst (N := 21) rfl ?_); refine XRun.convL_ 21 rfl rfl 9 39 5 Try.underlying9 Try.underlying39 Try.underlying5 t169 rfl (by first | rfl | (go_simp; done) | (go_simp; rfl)) ?_; (with_reducible refine (conv9_39.calls t169 t171 _ A5.out).mono ?_); rintro e w7 ⟨v172, rfl, ho0, hb⟩; refine ⟨_, rfl, ?_⟩; have n0_ := Aside0.mk (Kd.V_lower (Kd.V_mono (ok' := fun k_ => True) ho0 (fun k_ hk_ => trivial)) (below_size (by repeat (first | (with_reducible first | exact HB.out | apply below_alloc | apply pw_below_drewN | apply below_drew1) | exact HB.out)))); have n1_ := Aside0.mk (below_step (by repeat (first | (with_reducible first | exact HB.out | apply below_alloc | apply pw_below_drewN | apply below_drew1) | exact HB.out)) hb); clear HB; have HO173 := n0_; have HB := n1_; clear n0_ n1_; (try clear hb); (try clear hb2); (try clear hk); (try clear hi); (try clear ho0); obtain ⟨Ao8, co8, eo8⟩ := Kd.V_slice HO173.out; subst eo8))
  go_loopg [10, 23] k (fun kq v10 v23 w' => ∃ (x10_1 : Int) (x23_1 : Int), v10 = .int .u16 x10_1 ∧ v23 = .int .i64 x23_1 ∧ Aside0 (octet_get_uint16.l0 kq t170 x10_1 t171 (t171.length : Int) x23_1 = some (r1, r2)) ∧ Aside0 (kq ≤ k) ∧ Aside0 (Kd.V (Kd.int .u8) 5 w' w.heap.size (fun _ => True) (.slice Ao8 t171.length co8) t171) ∧ Aside0 (Below w.heap.size w w'))
  case atStart => exact ⟨(0), (0), (by first | rfl | (simp; done) | (simp only [ByteArray.size_extract]; rw [Nat.min_eq_left (by omega)]; done) | (simp [*]; done)), (by first | rfl | (simp; done) | (simp only [ByteArray.size_extract]; rw [Nat.min_eq_left (by omega)]; done) | (simp [*]; done)), H', ⟨Nat.le_refl _⟩, ⟨by (with_reducible repeat (first | apply Kd.V_alloc | apply Kd.V_drewN | apply Kd.V_drew)); exact HO173.out⟩, ⟨by repeat (first | (with_reducible first | exact HB.out | apply below_alloc | apply pw_below_drewN | apply below_drew1) | exact HB.out)⟩⟩
  case round =>
    clear H'
    try clear p2
    try clear c5
    try clear c6
    obtain ⟨x10_1, x23_1, rfl, rfl, HA, HK1, HO_21, HB⟩ := hrel
    cases gk with
    | zero => exact absurd HA.out (by simp [octet_get_uint16.l0])
    | succ k1 =>
      have H := HA.out
      clear HA
      simp only [octet_get_uint16.l0] at H
      by_cases c9 : x23_1 < (t171.length : Int)
      · rw [if_pos c9] at H
        have c9b0 : decide (x23_1 < (t171.length : Int)) = true := decide_eq_true c9
        clear c9
        by_cases c10 : 0 ≤ x23_1
        · rw [if_pos c10] at H
          have c10b0 : decide (0 ≤ x23_1) = true := decide_eq_true c10
          clear c10
          by_cases c11 : x23_1 < (t171.length : Int)
          · rw [if_pos c11] at H
            have c11b0 : decide (x23_1 < (t171.length : Int)) = true := decide_eq_true c11
            clear c11
            have H' := Aside0.mk H
            clear H
            have p174 : 0 ≤ (x23_1 : Int) := of_decide_eq_true (by first | (with_reducible assumption) | assumption)
            have q174 : x23_1 < (t171.length : Int) := of_decide_eq_true (by first | (with_reducible assumption) | assumption)
            obtain ⟨ad174, e174, hx174_0⟩ := Kd.at_int (Kd.V_reads' HO_21.out).2.2 x23_1 p174 q174
            cases e174
            replace p174 := eq_true p174
            replace q174 := eq_true q174
            go_wp2
            go_roundg k1
            case measure => have := HK1.out; omega
            case rel => exact ⟨(Go.bits .or .u16 (IntKind.u16.wrap (x10_1 * 256)) (IntKind.u16.wrap (rd t171 x23_1))), (wrap64 (x23_1 + 1)), (by first | rfl | (simp; done) | (simp only [ByteArray.size_extract]; rw [Nat.min_eq_left (by omega)]; done) | (simp [*]; done)), (by first | rfl | (simp; done) | (simp only [ByteArray.size_extract]; rw [Nat.min_eq_left (by omega)]; done) | (simp [*]; done)), H', ⟨by have := HK1.out; omega⟩, ⟨by (with_reducible repeat (first | apply Kd.V_alloc | apply Kd.V_drewN | apply Kd.V_drew)); exact HO_21.out⟩, ⟨by repeat (first | (with_reducible first | exact HB.out | apply below_alloc | apply pw_below_drewN | apply below_drew1) | exact HB.out)⟩⟩
          · rw [if_neg c11] at H
            exact absurd H (by simp)
        · rw [if_neg c10] at H
          exact absurd H (by simp)
      · rw [if_neg c9] at H
        have c9b0 : decide (x23_1 < (t171.length : Int)) = false := decide_eq_false c9
        clear c9
        simp only [Option.some.injEq, Prod.mk.injEq] at H
        obtain ⟨rfl, rfl⟩ := H
        go_wp2
        go_ret2
        exact ⟨by first | rfl | (simp [errW_none, errW_some] <;> rfl) | (simp [*, errW_none, errW_some] <;> rfl), by repeat (first | (with_reducible first | exact HB.out | apply below_alloc | apply pw_below_drewN | apply below_drew1) | exact HB.out)⟩

/-! ### octet_Get16: function 53 -/
def octet_Get16.f (k : Nat) (a0 : ByteArray) (a1 : Int) : Option (Int × Bool) := (octet_get_uint16.f k a0 a1 2).bind fun bt175 => (some (bt175.1, bt175.2))
theorem octet_Get16.mono : ∀ a0 a1 k, LeO (octet_Get16.f k a0 a1) (octet_Get16.f (k + 1) a0 a1) := by
  intro a0 a1 k
  unfold octet_Get16.f
  repeat' first
      | (with_reducible exact octet_get_uint16.mono _ _ _ _)
      | (with_reducible exact LeO.refl _)
      | (with_reducible exact LeO.none _)
      | (with_reducible refine LeO.ite ?_ ?_)
      | (with_reducible refine LeO.bind ?_ (fun _ => ?_))
      | exact octet_get_uint16.mono _ _ _ _
      | exact LeO.none _
      | refine LeO.ite ?_ ?_
      | refine LeO.bind ?_ (fun _ => ?_)
set_option maxHeartbeats 8000000 in
set_option maxRecDepth 100000 in
theorem octet_Get16.calls (k : Nat) (a0 : ByteArray) (a1 : Int) (r1 : Int) (r2 : Bool) (w : World) (h : octet_Get16.f k a0 a1 = some (r1, r2)) :
    Calls Try.prog 53 #[.string a0, .int .i64 a1] w fun e w' => e = .returned (.tuple #[.int .u16 r1, .bool r2]) ∧ Below w.heap.size w w' := by
  have HB := Aside0.mk (Below.refl w.heap.size w)
  have H : ((octet_get_uint16.f k a0 a1 2).bind fun bt175 => (some (bt175.1, bt175.2))) = some (r1, r2) := h
  clear h
  replace H := Option.bind_eq_some_iff.mp H
  obtain ⟨⟨t175, t176⟩, A30, H⟩ := H
  replace H : (some (t175, t176)) = some (r1, r2) := H
  have A3 := Aside0.mk A30
  clear A30
  simp only [Option.some.injEq, Prod.mk.injEq] at H
  obtain ⟨rfl, rfl⟩ := H
  go_enter Try.func53, Try.ntmps53
  go_wp2_with (first | ((with_reducible refine gate_callee (f := 63) rfl ?_); refine goesL_ (some 8) rfl rfl Try.func63 (by kernel_rfl) rfl #[.string a0, .int .i64 a1, .int .i64 2] rfl (by (try simp only [List.map_toArray, List.map_cons, List.map_nil]); first | done | rfl | (simp only [List.length_drop, List.length_take]; rfl)) ?_; (with_reducible refine (octet_get_uint16.calls k a0 a1 2 t175 t176 _ A3.out).mono ?_); rintro e w4 ⟨rfl, hb⟩; refine ⟨_, rfl, ?_⟩; have n0_ := Aside0.mk (below_step (by repeat (first | (with_reducible first | exact HB.out | apply below_alloc | apply pw_below_drewN | apply below_drew1) | exact HB.out)) hb); clear HB; have HB := n0_; clear n0_; (try clear hb); (try clear hb2); (try clear hk); (try clear hi)))
  go_ret2
  exact ⟨by first | rfl | (simp [errW_none, errW_some] <;> rfl) | (simp [*, errW_none, errW_some] <;> rfl), by repeat (first | (with_reducible first | exact HB.out | apply below_alloc | apply pw_below_drewN | apply below_drew1) | exact HB.out)⟩

/-! ### wire4_head: function 34 -/
def wire4_head.f (k : Nat) (a0 : ByteArray) : Option (Int × Int × Int × Int × Int × Int × Int × Int × Int × Int × Int × ByteArray × ByteArray × ByteArray × (List (S47))) := if 0 < (a0.size : Int) then (if 1 < (a0.size : Int) then (if 2 < (a0.size : Int) then (if 3 < (a0.size : Int) then ((octet_Get32.f k a0 4).bind fun bt181 => ((octet_Get16.f k a0 8).bind fun bt183 => ((octet_Get16.f k a0 10).bind fun bt185 => ((octet_Get32.f k a0 12).bind fun bt187 => ((octet_Get32.f k a0 16).bind fun bt189 => ((octet_Get32.f k a0 20).bind fun bt191 => ((octet_Get32.f k a0 24).bind fun bt193 => (if 28 ≤ (a0.size : Int) then (if 0 ≤ 16 then (if 16 ≤ ((a0.extract 28 a0.size).size : Int) then (if 0 ≤ 64 then (if 64 ≤ (((a0.extract 28 a0.size).extract 16 (a0.extract 28 a0.size).size).size : Int) then (some (bt a0 0, bt a0 1, bt a0 2, bt a0 3, bt181.1, bt183.1, bt185.1, bt187.1, bt189.1, bt191.1, bt193.1, (a0.extract 28 a0.size).extract 0 16, ((a0.extract 28 a0.size).extract 16 (a0.extract 28 a0.size).size).extract 0 64, ((a0.extract 28 a0.size).extract 16 (a0.extract 28 a0.size).size).extract 64 ((a0.extract 28 a0.size).extract 16 (a0.extract 28 a0.size).size).size, ([] : List (S47)))) else (none)) else (none)) else (none)) else (none)) else (none))))))))) else (none)) else (none)) else (none)) else (none)
theorem wire4_head.mono : ∀ a0 k, LeO (wire4_head.f k a0) (wire4_head.f (k + 1) a0) := by
  intro a0 k
  unfold wire4_head.f
  repeat' first
      | (with_reducible exact octet_Get16.mono _ _ _)
      | (with_reducible exact octet_Get32.mono _ _ _)
      | (with_reducible exact LeO.refl _)
      | (with_reducible exact LeO.none _)
      | (with_reducible refine LeO.ite ?_ ?_)
      | (with_reducible refine LeO.bind ?_ (fun _ => ?_))
      | exact octet_Get16.mono _ _ _
      | exact octet_Get32.mono _ _ _
      | exact LeO.none _
      | refine LeO.ite ?_ ?_
      | refine LeO.bind ?_ (fun _ => ?_)
def wire4_head.T1 : Bool × List (List Nat × List Nat) := (true, [([], []), ([0], [0]), ([], []), ([2], [2]), ([], []), ([4], [4]), ([], []), ([6], [6]), ([1, 3, 5, 7], [1, 3, 5, 7]), ([], []), ([9, 8, 0, 1, 2, 3, 4, 5, 6, 7, 8, 9], [8, 9])])
def wire4_head.B1 : List Nat := [0, 1, 0, 4, 0, 16, 0, 64, 255, 0, 1023]
theorem wire4_head.tab1 : rtab .any (opsOf Try.f34 1) = wire4_head.T1 := by kernel_rfl
theorem wire4_head.bits1 : waitsOk wire4_head.T1.2 wire4_head.B1 = true := by kernel_rfl
def wire4_head.T12 : Bool × List (List Nat × List Nat) := (true, [([], []), ([0], [0]), ([], []), ([2], [2]), ([0, 1], []), ([4, 1, 0, 1], [1, 4]), ([0, 1, 2, 3, 4, 5], []), ([6, 3, 5, 0, 1, 2, 3, 4, 5], [3, 6])])
def wire4_head.B12 : List Nat := [0, 1, 0, 4, 3, 19, 63, 127]
theorem wire4_head.tab12 : rtab .any (opsOf Try.f34 12) = wire4_head.T12 := by kernel_rfl
theorem wire4_head.bits12 : waitsOk wire4_head.T12.2 wire4_head.B12 = true := by kernel_rfl
/-- What head's walk knows of the world W. -/
structure wire4_head.Hd (w W : World) (ga gb : Nat) (cs : Array Value) : Prop where
  ba : W.heap[ga]? = some (.cells #[.int .u8 0, .int .u8 0, .int .u8 0, .int .u8 0, .int .u32 0, .int .u16 0, .int .u16 0, .int .u32 0, .int .u32 0, .int .u32 0, .int .u32 0, .string (⟨#[]⟩ : ByteArray), .string (⟨#[]⟩ : ByteArray), .string (⟨#[]⟩ : ByteArray), .slice none 0 0] 26 (0, 0))
  bb : W.heap[gb]? = some (.cells cs 26 (0, 0))
  bel : Below w.heap.size w W
  ne : ga ≠ gb
  ge : w.heap.size ≤ gb
theorem wire4_head.Hd.call {w W W' : World} {ga gb : Nat} {cs : Array Value} (h : wire4_head.Hd w W ga gb cs) (hb : Below W.heap.size W W') : wire4_head.Hd w W' ga gb cs :=
  ⟨(hb.block ga (blk_lt h.ba)).trans h.ba, (hb.block gb (blk_lt h.bb)).trans h.bb, h.bel.trans (hb.mono h.bel.size), h.ne, h.ge⟩
theorem wire4_head.Hd.put {w W : World} {ga gb : Nat} {cs : Array Value} (h : wire4_head.Hd w W ga gb cs) (j : Nat) (v : Value) (cs' : Array Value) (e : cs.setIfInBounds j v = cs') : wire4_head.Hd w (W.setCell ⟨gb, j, none⟩ v) ga gb cs' :=
  ⟨blk_far h.ba (p := ⟨gb, j, none⟩) h.ne v, blk_put h.bb j v e, below_set h.bel h.ge, h.ne, h.ge⟩
set_option maxHeartbeats 8000000 in
set_option maxRecDepth 100000 in
theorem wire4_head.calls (k : Nat) (a0 : ByteArray) (r1 : Int) (r2 : Int) (r3 : Int) (r4 : Int) (r5 : Int) (r6 : Int) (r7 : Int) (r8 : Int) (r9 : Int) (r10 : Int) (r11 : Int) (r12 : ByteArray) (r13 : ByteArray) (r14 : ByteArray) (r15 : List (S47)) (w : World) (h : wire4_head.f k a0 = some (r1, r2, r3, r4, r5, r6, r7, r8, r9, r10, r11, r12, r13, r14, r15)) :
    Calls Try.prog 34 #[.string a0] w fun e w' => ∃ v14_ : Value, e = .returned (.agg #[.int .u8 r1, .int .u8 r2, .int .u8 r3, .int .u8 r4, .int .u32 r5, .int .u16 r6, .int .u16 r7, .int .u32 r8, .int .u32 r9, .int .u32 r10, .int .u32 r11, .string r12, .string r13, .string r14, v14_]) ∧ Kd.R k47 47 w' w.heap.size (fun _ => True) v14_ r15 ∧ Below w.heap.size w w' := by
  have hu26 := Try.underlying26
  have HB := Aside0.mk (Below.refl w.heap.size w)
  have H : (if 0 < (a0.size : Int) then (if 1 < (a0.size : Int) then (if 2 < (a0.size : Int) then (if 3 < (a0.size : Int) then ((octet_Get32.f k a0 4).bind fun bt181 => ((octet_Get16.f k a0 8).bind fun bt183 => ((octet_Get16.f k a0 10).bind fun bt185 => ((octet_Get32.f k a0 12).bind fun bt187 => ((octet_Get32.f k a0 16).bind fun bt189 => ((octet_Get32.f k a0 20).bind fun bt191 => ((octet_Get32.f k a0 24).bind fun bt193 => (if 28 ≤ (a0.size : Int) then (if 0 ≤ 16 then (if 16 ≤ ((a0.extract 28 a0.size).size : Int) then (if 0 ≤ 64 then (if 64 ≤ (((a0.extract 28 a0.size).extract 16 (a0.extract 28 a0.size).size).size : Int) then (some (bt a0 0, bt a0 1, bt a0 2, bt a0 3, bt181.1, bt183.1, bt185.1, bt187.1, bt189.1, bt191.1, bt193.1, (a0.extract 28 a0.size).extract 0 16, ((a0.extract 28 a0.size).extract 16 (a0.extract 28 a0.size).size).extract 0 64, ((a0.extract 28 a0.size).extract 16 (a0.extract 28 a0.size).size).extract 64 ((a0.extract 28 a0.size).extract 16 (a0.extract 28 a0.size).size).size, ([] : List (S47)))) else (none)) else (none)) else (none)) else (none)) else (none))))))))) else (none)) else (none)) else (none)) else (none)) = some (r1, r2, r3, r4, r5, r6, r7, r8, r9, r10, r11, r12, r13, r14, r15) := h
  clear h
  by_cases c2 : 0 < (a0.size : Int)
  · rw [if_pos c2] at H
    have c2b0 : decide (0 < (a0.size : Int)) = true := decide_eq_true c2
    have c2b1 : decide (0 < a0.size) = true := decide_eq_true (by omega)
    clear c2
    by_cases c4 : 1 < (a0.size : Int)
    · rw [if_pos c4] at H
      have c4b0 : decide (1 < (a0.size : Int)) = true := decide_eq_true c4
      have c4b1 : decide (1 < a0.size) = true := decide_eq_true (by omega)
      clear c4
      by_cases c6 : 2 < (a0.size : Int)
      · rw [if_pos c6] at H
        have c6b0 : decide (2 < (a0.size : Int)) = true := decide_eq_true c6
        have c6b1 : decide (2 < a0.size) = true := decide_eq_true (by omega)
        clear c6
        by_cases c8 : 3 < (a0.size : Int)
        · rw [if_pos c8] at H
          have c8b0 : decide (3 < (a0.size : Int)) = true := decide_eq_true c8
          have c8b1 : decide (3 < a0.size) = true := decide_eq_true (by omega)
          clear c8
          replace H := Option.bind_eq_some_iff.mp H
          obtain ⟨⟨t181, t182⟩, A100, H⟩ := H
          replace H : ((octet_Get16.f k a0 8).bind fun bt183 => ((octet_Get16.f k a0 10).bind fun bt185 => ((octet_Get32.f k a0 12).bind fun bt187 => ((octet_Get32.f k a0 16).bind fun bt189 => ((octet_Get32.f k a0 20).bind fun bt191 => ((octet_Get32.f k a0 24).bind fun bt193 => (if 28 ≤ (a0.size : Int) then (if 0 ≤ 16 then (if 16 ≤ ((a0.extract 28 a0.size).size : Int) then (if 0 ≤ 64 then (if 64 ≤ (((a0.extract 28 a0.size).extract 16 (a0.extract 28 a0.size).size).size : Int) then (some (bt a0 0, bt a0 1, bt a0 2, bt a0 3, t181, bt183.1, bt185.1, bt187.1, bt189.1, bt191.1, bt193.1, (a0.extract 28 a0.size).extract 0 16, ((a0.extract 28 a0.size).extract 16 (a0.extract 28 a0.size).size).extract 0 64, ((a0.extract 28 a0.size).extract 16 (a0.extract 28 a0.size).size).extract 64 ((a0.extract 28 a0.size).extract 16 (a0.extract 28 a0.size).size).size, ([] : List (S47)))) else (none)) else (none)) else (none)) else (none)) else (none)))))))) = some (r1, r2, r3, r4, r5, r6, r7, r8, r9, r10, r11, r12, r13, r14, r15) := H
          have A10 := Aside0.mk A100
          clear A100
          replace H := Option.bind_eq_some_iff.mp H
          obtain ⟨⟨t183, t184⟩, A110, H⟩ := H
          replace H : ((octet_Get16.f k a0 10).bind fun bt185 => ((octet_Get32.f k a0 12).bind fun bt187 => ((octet_Get32.f k a0 16).bind fun bt189 => ((octet_Get32.f k a0 20).bind fun bt191 => ((octet_Get32.f k a0 24).bind fun bt193 => (if 28 ≤ (a0.size : Int) then (if 0 ≤ 16 then (if 16 ≤ ((a0.extract 28 a0.size).size : Int) then (if 0 ≤ 64 then (if 64 ≤ (((a0.extract 28 a0.size).extract 16 (a0.extract 28 a0.size).size).size : Int) then (some (bt a0 0, bt a0 1, bt a0 2, bt a0 3, t181, t183, bt185.1, bt187.1, bt189.1, bt191.1, bt193.1, (a0.extract 28 a0.size).extract 0 16, ((a0.extract 28 a0.size).extract 16 (a0.extract 28 a0.size).size).extract 0 64, ((a0.extract 28 a0.size).extract 16 (a0.extract 28 a0.size).size).extract 64 ((a0.extract 28 a0.size).extract 16 (a0.extract 28 a0.size).size).size, ([] : List (S47)))) else (none)) else (none)) else (none)) else (none)) else (none))))))) = some (r1, r2, r3, r4, r5, r6, r7, r8, r9, r10, r11, r12, r13, r14, r15) := H
          have A11 := Aside0.mk A110
          clear A110
          replace H := Option.bind_eq_some_iff.mp H
          obtain ⟨⟨t185, t186⟩, A120, H⟩ := H
          replace H : ((octet_Get32.f k a0 12).bind fun bt187 => ((octet_Get32.f k a0 16).bind fun bt189 => ((octet_Get32.f k a0 20).bind fun bt191 => ((octet_Get32.f k a0 24).bind fun bt193 => (if 28 ≤ (a0.size : Int) then (if 0 ≤ 16 then (if 16 ≤ ((a0.extract 28 a0.size).size : Int) then (if 0 ≤ 64 then (if 64 ≤ (((a0.extract 28 a0.size).extract 16 (a0.extract 28 a0.size).size).size : Int) then (some (bt a0 0, bt a0 1, bt a0 2, bt a0 3, t181, t183, t185, bt187.1, bt189.1, bt191.1, bt193.1, (a0.extract 28 a0.size).extract 0 16, ((a0.extract 28 a0.size).extract 16 (a0.extract 28 a0.size).size).extract 0 64, ((a0.extract 28 a0.size).extract 16 (a0.extract 28 a0.size).size).extract 64 ((a0.extract 28 a0.size).extract 16 (a0.extract 28 a0.size).size).size, ([] : List (S47)))) else (none)) else (none)) else (none)) else (none)) else (none)))))) = some (r1, r2, r3, r4, r5, r6, r7, r8, r9, r10, r11, r12, r13, r14, r15) := H
          have A12 := Aside0.mk A120
          clear A120
          replace H := Option.bind_eq_some_iff.mp H
          obtain ⟨⟨t187, t188⟩, A130, H⟩ := H
          replace H : ((octet_Get32.f k a0 16).bind fun bt189 => ((octet_Get32.f k a0 20).bind fun bt191 => ((octet_Get32.f k a0 24).bind fun bt193 => (if 28 ≤ (a0.size : Int) then (if 0 ≤ 16 then (if 16 ≤ ((a0.extract 28 a0.size).size : Int) then (if 0 ≤ 64 then (if 64 ≤ (((a0.extract 28 a0.size).extract 16 (a0.extract 28 a0.size).size).size : Int) then (some (bt a0 0, bt a0 1, bt a0 2, bt a0 3, t181, t183, t185, t187, bt189.1, bt191.1, bt193.1, (a0.extract 28 a0.size).extract 0 16, ((a0.extract 28 a0.size).extract 16 (a0.extract 28 a0.size).size).extract 0 64, ((a0.extract 28 a0.size).extract 16 (a0.extract 28 a0.size).size).extract 64 ((a0.extract 28 a0.size).extract 16 (a0.extract 28 a0.size).size).size, ([] : List (S47)))) else (none)) else (none)) else (none)) else (none)) else (none))))) = some (r1, r2, r3, r4, r5, r6, r7, r8, r9, r10, r11, r12, r13, r14, r15) := H
          have A13 := Aside0.mk A130
          clear A130
          replace H := Option.bind_eq_some_iff.mp H
          obtain ⟨⟨t189, t190⟩, A140, H⟩ := H
          replace H : ((octet_Get32.f k a0 20).bind fun bt191 => ((octet_Get32.f k a0 24).bind fun bt193 => (if 28 ≤ (a0.size : Int) then (if 0 ≤ 16 then (if 16 ≤ ((a0.extract 28 a0.size).size : Int) then (if 0 ≤ 64 then (if 64 ≤ (((a0.extract 28 a0.size).extract 16 (a0.extract 28 a0.size).size).size : Int) then (some (bt a0 0, bt a0 1, bt a0 2, bt a0 3, t181, t183, t185, t187, t189, bt191.1, bt193.1, (a0.extract 28 a0.size).extract 0 16, ((a0.extract 28 a0.size).extract 16 (a0.extract 28 a0.size).size).extract 0 64, ((a0.extract 28 a0.size).extract 16 (a0.extract 28 a0.size).size).extract 64 ((a0.extract 28 a0.size).extract 16 (a0.extract 28 a0.size).size).size, ([] : List (S47)))) else (none)) else (none)) else (none)) else (none)) else (none)))) = some (r1, r2, r3, r4, r5, r6, r7, r8, r9, r10, r11, r12, r13, r14, r15) := H
          have A14 := Aside0.mk A140
          clear A140
          replace H := Option.bind_eq_some_iff.mp H
          obtain ⟨⟨t191, t192⟩, A150, H⟩ := H
          replace H : ((octet_Get32.f k a0 24).bind fun bt193 => (if 28 ≤ (a0.size : Int) then (if 0 ≤ 16 then (if 16 ≤ ((a0.extract 28 a0.size).size : Int) then (if 0 ≤ 64 then (if 64 ≤ (((a0.extract 28 a0.size).extract 16 (a0.extract 28 a0.size).size).size : Int) then (some (bt a0 0, bt a0 1, bt a0 2, bt a0 3, t181, t183, t185, t187, t189, t191, bt193.1, (a0.extract 28 a0.size).extract 0 16, ((a0.extract 28 a0.size).extract 16 (a0.extract 28 a0.size).size).extract 0 64, ((a0.extract 28 a0.size).extract 16 (a0.extract 28 a0.size).size).extract 64 ((a0.extract 28 a0.size).extract 16 (a0.extract 28 a0.size).size).size, ([] : List (S47)))) else (none)) else (none)) else (none)) else (none)) else (none))) = some (r1, r2, r3, r4, r5, r6, r7, r8, r9, r10, r11, r12, r13, r14, r15) := H
          have A15 := Aside0.mk A150
          clear A150
          replace H := Option.bind_eq_some_iff.mp H
          obtain ⟨⟨t193, t194⟩, A160, H⟩ := H
          replace H : (if 28 ≤ (a0.size : Int) then (if 0 ≤ 16 then (if 16 ≤ ((a0.extract 28 a0.size).size : Int) then (if 0 ≤ 64 then (if 64 ≤ (((a0.extract 28 a0.size).extract 16 (a0.extract 28 a0.size).size).size : Int) then (some (bt a0 0, bt a0 1, bt a0 2, bt a0 3, t181, t183, t185, t187, t189, t191, t193, (a0.extract 28 a0.size).extract 0 16, ((a0.extract 28 a0.size).extract 16 (a0.extract 28 a0.size).size).extract 0 64, ((a0.extract 28 a0.size).extract 16 (a0.extract 28 a0.size).size).extract 64 ((a0.extract 28 a0.size).extract 16 (a0.extract 28 a0.size).size).size, ([] : List (S47)))) else (none)) else (none)) else (none)) else (none)) else (none)) = some (r1, r2, r3, r4, r5, r6, r7, r8, r9, r10, r11, r12, r13, r14, r15) := H
          have A16 := Aside0.mk A160
          clear A160
          by_cases c17 : 28 ≤ (a0.size : Int)
          · rw [if_pos c17] at H
            have c17b0 := eq_true c17
            have c17b1 : decide (28 ≤ (a0.size : Int)) = true := decide_eq_true c17
            clear c17
            by_cases c18 : 0 ≤ 16
            · rw [if_pos c18] at H
              have c18b0 := eq_true c18
              have c18b1 : decide (0 ≤ 16) = true := decide_eq_true c18
              clear c18
              by_cases c19 : 16 ≤ ((a0.extract 28 a0.size).size : Int)
              · rw [if_pos c19] at H
                have c19b0 := eq_true c19
                have c19b1 : decide (16 ≤ ((a0.extract 28 a0.size).size : Int)) = true := decide_eq_true c19
                (try (have c19bs := c19; simp at c19bs))
                (try (have c19bm := c19; simp only [ByteArray.size_extract] at c19bm; rw [Nat.min_eq_left (by omega)] at c19bm))
                clear c19
                have c20b0 := eq_true (of_decide_eq_true (by first | (with_reducible assumption) | assumption) : 16 ≤ ((a0.extract 28 a0.size).size : Int))
                by_cases c21 : 0 ≤ 64
                · rw [if_pos c21] at H
                  have c21b0 := eq_true c21
                  have c21b1 : decide (0 ≤ 64) = true := decide_eq_true c21
                  clear c21
                  by_cases c22 : 64 ≤ (((a0.extract 28 a0.size).extract 16 (a0.extract 28 a0.size).size).size : Int)
                  · rw [if_pos c22] at H
                    have c22b0 := eq_true c22
                    have c22b1 : decide (64 ≤ (((a0.extract 28 a0.size).extract 16 (a0.extract 28 a0.size).size).size : Int)) = true := decide_eq_true c22
                    (try (have c22bs := c22; simp at c22bs))
                    (try (have c22bm := c22; simp only [ByteArray.size_extract] at c22bm; rw [Nat.min_eq_left (by omega)] at c22bm))
                    clear c22
                    have c23b0 := eq_true (of_decide_eq_true (by first | (with_reducible assumption) | assumption) : 64 ≤ (((a0.extract 28 a0.size).extract 16 (a0.extract 28 a0.size).size).size : Int))
                    simp only [Option.some.injEq, Prod.mk.injEq] at H
                    obtain ⟨rfl, rfl, rfl, rfl, rfl, rfl, rfl, rfl, rfl, rfl, rfl, rfl, rfl, rfl, rfl⟩ := H
                    go_enter Try.func34, Try.ntmps34
                    try go_wp2_with (first | ((with_reducible refine gate_dst (N := 2) rfl ?_); refine box_event ?hg (N := 2) ?hd (cs := #[.int .u8 0, .int .u8 0, .int .u8 0, .int .u8 0, .int .u32 0, .int .u16 0, .int .u16 0, .int .u32 0, .int .u32 0, .int .u32 0, .int .u32 0, .string (⟨#[]⟩ : ByteArray), .string (⟨#[]⟩ : ByteArray), .string (⟨#[]⟩ : ByteArray), .slice none 0 0]) (t := 26) ?hr ?_; (case hd => rfl); (case hg => rfl); (case hr => first | (go_simp; done) | (go_simp; rfl)); intro gb179 hg w24 hbox hb; have n0_ := Aside0.mk (below_step (by repeat (first | (with_reducible first | exact HB.out | apply below_alloc | apply pw_below_drewN | apply below_drew1) | exact HB.out)) hb); have n1_ := Aside0.mk (hbox); have n2_ := Aside0.mk ((by rw [hg]; exact (below_size (by repeat (first | (with_reducible first | exact HB.out | apply below_alloc | apply pw_below_drewN | apply below_drew1) | exact HB.out))) : w.heap.size ≤ gb179)); have n3_ := Aside0.mk ((by rw [hg]; exact (below_size (by repeat (first | (with_reducible first | exact HB.out | apply below_alloc | apply pw_below_drewN | apply below_drew1) | exact HB.out))) : w.heap.size ≤ gb179)); clear HB; have HB := n0_; have BK179 := n1_; have GW179 := n2_; have GE179 := n3_; clear n0_ n1_ n2_ n3_; clear hb hbox hg))
                    have n0_ := Aside0.mk (blk_drew BK179.out)
                    have n1_ := Aside0.mk (below_drew1 HB.out)
                    clear BK179
                    clear HB
                    have BK179 := n0_
                    have HB := n1_
                    clear n0_ n1_
                    have p3 : 0 ≤ (0 : Int) := (by omega)
                    have q3 : 0 < a0.size := (by have : (0 : Int) < (a0.size : Int) := of_decide_eq_true (by first | (with_reducible assumption) | assumption); omega)
                    have hx3 : ∀ h : 0 < a0.size, ((a0[0]'h).toNat : Int) = bt a0 0 := bt_at a0 0
                    clear p3
                    have qi3 : (0 < (a0.size : Int)) = True := eq_true (of_decide_eq_true (by first | (with_reducible assumption) | assumption))
                    replace q3 := eq_true q3
                    have p5 : 0 ≤ (1 : Int) := (by omega)
                    have q5 : 1 < a0.size := (by have : (1 : Int) < (a0.size : Int) := of_decide_eq_true (by first | (with_reducible assumption) | assumption); omega)
                    have hx5 : ∀ h : 1 < a0.size, ((a0[1]'h).toNat : Int) = bt a0 1 := bt_at a0 1
                    clear p5
                    have qi5 : (1 < (a0.size : Int)) = True := eq_true (of_decide_eq_true (by first | (with_reducible assumption) | assumption))
                    replace q5 := eq_true q5
                    have p7 : 0 ≤ (2 : Int) := (by omega)
                    have q7 : 2 < a0.size := (by have : (2 : Int) < (a0.size : Int) := of_decide_eq_true (by first | (with_reducible assumption) | assumption); omega)
                    have hx7 : ∀ h : 2 < a0.size, ((a0[2]'h).toNat : Int) = bt a0 2 := bt_at a0 2
                    clear p7
                    have qi7 : (2 < (a0.size : Int)) = True := eq_true (of_decide_eq_true (by first | (with_reducible assumption) | assumption))
                    replace q7 := eq_true q7
                    have p9 : 0 ≤ (3 : Int) := (by omega)
                    have q9 : 3 < a0.size := (by have : (3 : Int) < (a0.size : Int) := of_decide_eq_true (by first | (with_reducible assumption) | assumption); omega)
                    have hx9 : ∀ h : 3 < a0.size, ((a0[3]'h).toNat : Int) = bt a0 3 := bt_at a0 3
                    clear p9
                    have qi9 : (3 < (a0.size : Int)) = True := eq_true (of_decide_eq_true (by first | (with_reducible assumption) | assumption))
                    replace q9 := eq_true q9
                    refine start_ (n := 11) (S := fun w' => True) (ds := []) #[false, false, false, false, false, false, false, false, false, false, false] (by kernel_rfl) rfl rfl trivial (fun hHeld => ?_); refine with_tabW wire4_head.tab1 wire4_head.bits1 (fun HT_ HW_ => ?_)
                    generalize w24.drew = w25 at BK179 HB hHeld ⊢
                    refine pure_ (i := 0) (N := some 6) (v := ?_) (a' := ?_) #[true, false, false, false, false, false, false, false, false, false, false] rfl rfl (any_of HT_.out (by kernel_rfl)) (fun _ _ _ h => h) (Or.inl ⟨by rfl, ?_⟩) ?_ ?_
                    rotate_left
                    · intro w'
                      go_simp
                      with_reducible rfl
                    rotate_left
                    · simp only [Act.put, List.setIfInBounds_toArray, List.set_cons_zero, List.set_cons_succ, i64_w, i32_w]
                      rfl
                    refine pure_ (i := 2) (N := some 8) (v := ?_) (a' := ?_) #[true, false, true, false, false, false, false, false, false, false, false] rfl rfl (any_of HT_.out (by kernel_rfl)) (fun _ _ _ h => h) (Or.inl ⟨by rfl, ?_⟩) ?_ ?_
                    rotate_left
                    · intro w'
                      go_simp
                      with_reducible rfl
                    rotate_left
                    · simp only [Act.put, List.setIfInBounds_toArray, List.set_cons_zero, List.set_cons_succ, i64_w, i32_w]
                      rfl
                    refine pure_ (i := 4) (N := some 10) (v := ?_) (a' := ?_) #[true, false, true, false, true, false, false, false, false, false, false] rfl rfl (any_of HT_.out (by kernel_rfl)) (fun _ _ _ h => h) (Or.inl ⟨by rfl, ?_⟩) ?_ ?_
                    rotate_left
                    · intro w'
                      go_simp
                      with_reducible rfl
                    rotate_left
                    · simp only [Act.put, List.setIfInBounds_toArray, List.set_cons_zero, List.set_cons_succ, i64_w, i32_w]
                      rfl
                    refine pure_ (i := 6) (N := some 12) (v := ?_) (a' := ?_) #[true, false, true, false, true, false, true, false, false, false, false] rfl rfl (any_of HT_.out (by kernel_rfl)) (fun _ _ _ h => h) (Or.inl ⟨by rfl, ?_⟩) ?_ ?_
                    rotate_left
                    · intro w'
                      go_simp
                      with_reducible rfl
                    rotate_left
                    · simp only [Act.put, List.setIfInBounds_toArray, List.set_cons_zero, List.set_cons_succ, i64_w, i32_w]
                      rfl
                    refine take_ (i := 1) (N := some 7) (v := ?_) (a' := ?_) #[true, true, true, false, true, false, true, false, false, false, false] rfl rfl (take_ofW HT_.out HW_.out (by kernel_rfl)) (fun _ _ _ h => h) (Or.inl ⟨by rfl, ?_⟩) hHeld ?_ ?_
                    rotate_left
                    · intro w' _
                      go_simp
                      with_reducible rfl
                    rotate_left
                    · simp only [Act.put, List.setIfInBounds_toArray, List.set_cons_zero, List.set_cons_succ, i64_w, i32_w]
                      rfl
                    refine take_ (i := 3) (N := some 9) (v := ?_) (a' := ?_) #[true, true, true, true, true, false, true, false, false, false, false] rfl rfl (take_ofW HT_.out HW_.out (by kernel_rfl)) (fun _ _ _ h => h) (Or.inl ⟨by rfl, ?_⟩) hHeld ?_ ?_
                    rotate_left
                    · intro w' _
                      go_simp
                      with_reducible rfl
                    rotate_left
                    · simp only [Act.put, List.setIfInBounds_toArray, List.set_cons_zero, List.set_cons_succ, i64_w, i32_w]
                      rfl
                    refine take_ (i := 5) (N := some 11) (v := ?_) (a' := ?_) #[true, true, true, true, true, true, true, false, false, false, false] rfl rfl (take_ofW HT_.out HW_.out (by kernel_rfl)) (fun _ _ _ h => h) (Or.inl ⟨by rfl, ?_⟩) hHeld ?_ ?_
                    rotate_left
                    · intro w' _
                      go_simp
                      with_reducible rfl
                    rotate_left
                    · simp only [Act.put, List.setIfInBounds_toArray, List.set_cons_zero, List.set_cons_succ, i64_w, i32_w]
                      rfl
                    refine take_ (i := 7) (N := some 13) (v := ?_) (a' := ?_) #[true, true, true, true, true, true, true, true, false, false, false] rfl rfl (take_ofW HT_.out HW_.out (by kernel_rfl)) (fun _ _ _ h => h) (Or.inl ⟨by rfl, ?_⟩) hHeld ?_ ?_
                    rotate_left
                    · intro w' _
                      go_simp
                      with_reducible rfl
                    rotate_left
                    · simp only [Act.put, List.setIfInBounds_toArray, List.set_cons_zero, List.set_cons_succ, i64_w, i32_w]
                      rfl
                    refine pure_ (i := 8) (N := some 14) (v := ?_) (a' := ?_) #[true, true, true, true, true, true, true, true, true, false, false] rfl rfl (any_of HT_.out (by kernel_rfl)) (fun _ _ _ h => h) (Or.inl ⟨by rfl, ?_⟩) ?_ ?_
                    rotate_left
                    · intro w'
                      go_simp
                      with_reducible rfl
                    rotate_left
                    · simp only [Act.put, List.setIfInBounds_toArray, List.set_cons_zero, List.set_cons_succ, i64_w, i32_w]
                      rfl
                    refine one_ (i := 9) (N := some 3) #[true, true, true, true, true, true, true, true, true, true, false] rfl rfl (one_of HT_.out (by kernel_rfl)) (by decide) (fun K hK => ?_)
                    refine box_step ?hg (N := 3) ?hd (cs := #[.int .u8 0, .int .u8 0, .int .u8 0, .int .u8 0, .int .u32 0, .int .u16 0, .int .u16 0, .int .u32 0, .int .u32 0, .int .u32 0, .int .u32 0, .string (⟨#[]⟩ : ByteArray), .string (⟨#[]⟩ : ByteArray), .string (⟨#[]⟩ : ByteArray), .slice none 0 0]) (t := 26) ?hr ?_; (case hd => rfl); (case hg => rfl); (case hr => first | (go_simp; done) | (go_simp; rfl))
                    intro gb180 hg w26 hbox hb
                    have n0_ := Aside0.mk (blk_below (g := gb179) (o := .cells #[.int .u8 0, .int .u8 0, .int .u8 0, .int .u8 0, .int .u32 0, .int .u16 0, .int .u16 0, .int .u32 0, .int .u32 0, .int .u32 0, .int .u32 0, .string (⟨#[]⟩ : ByteArray), .string (⟨#[]⟩ : ByteArray), .string (⟨#[]⟩ : ByteArray), .slice none 0 0] 26 (0, 0)) (by (with_reducible repeat (first | refine blk_drewN ?_ _ | refine blk_drew ?_ | refine blk_alloc ?_ _)); exact BK179.out) hb)
                    have n1_ := Aside0.mk (below_step (by repeat (first | (with_reducible first | exact HB.out | apply below_alloc | apply pw_below_drewN | apply below_drew1 | refine below_set ?_ GE179.out) | exact HB.out)) hb)
                    have n2_ := Aside0.mk (hbox)
                    have n3_ := Aside0.mk ((by rw [hg]; exact (below_size (by repeat (first | (with_reducible first | exact HB.out | apply below_alloc | apply pw_below_drewN | apply below_drew1 | refine below_set ?_ GE179.out) | exact HB.out))) : w.heap.size ≤ gb180))
                    have n4_ := Aside0.mk ((by rw [hg]; exact (below_size (by repeat (first | (with_reducible first | exact HB.out | apply below_alloc | apply pw_below_drewN | apply below_drew1 | refine below_set ?_ GE179.out) | exact HB.out))) : w.heap.size ≤ gb180))
                    have n5_ := Aside0.mk ((by rw [hg]; exact Nat.ne_of_lt (blk_lt (g := gb179) (o := .cells #[.int .u8 0, .int .u8 0, .int .u8 0, .int .u8 0, .int .u32 0, .int .u16 0, .int .u16 0, .int .u32 0, .int .u32 0, .int .u32 0, .int .u32 0, .string (⟨#[]⟩ : ByteArray), .string (⟨#[]⟩ : ByteArray), .string (⟨#[]⟩ : ByteArray), .slice none 0 0] 26 (0, 0)) (by (with_reducible repeat (first | refine blk_drewN ?_ _ | refine blk_drew ?_ | refine blk_alloc ?_ _)); exact BK179.out)) : gb179 ≠ gb180))
                    have n6_ := Aside0.mk ((by rw [hg]; exact Nat.ne_of_gt (blk_lt (g := gb179) (o := .cells #[.int .u8 0, .int .u8 0, .int .u8 0, .int .u8 0, .int .u32 0, .int .u16 0, .int .u16 0, .int .u32 0, .int .u32 0, .int .u32 0, .int .u32 0, .string (⟨#[]⟩ : ByteArray), .string (⟨#[]⟩ : ByteArray), .string (⟨#[]⟩ : ByteArray), .slice none 0 0] 26 (0, 0)) (by (with_reducible repeat (first | refine blk_drewN ?_ _ | refine blk_drew ?_ | refine blk_alloc ?_ _)); exact BK179.out)) : gb180 ≠ gb179))
                    clear BK179
                    clear HB
                    have BK179 := n0_
                    have HB := n1_
                    have BK180 := n2_
                    have GW180 := n3_
                    have GE180 := n4_
                    have NB179_180 := n5_
                    have NB180_179 := n6_
                    clear n0_ n1_ n2_ n3_ n4_ n5_ n6_
                    clear hb hbox hg
                    refine hK.out _ _ trivial (fun hHeld => ?_)
                    clear hK K
                    refine norm_ (a' := ?_) ?_ ?_
                    rotate_left
                    · show Act.put _ (some 3) _ = _
                      simp only [Act.put, List.setIfInBounds_toArray, List.set_cons_zero, List.set_cons_succ, i64_w, i32_w]
                      rfl
                    refine one_ (i := 10) (N := none) #[true, true, true, true, true, true, true, true, true, true, true] rfl rfl (one_of HT_.out (by kernel_rfl)) (by decide) (fun K hK => ?_)
                    have hs27 : w26.cell? ⟨gb180, 0, none⟩ = some (.int .u8 0) := (blk_cell BK180.out 0).trans rfl
                    have hfs27 := blk_frozen BK180.out 0
                    have hns27_0 := NB179_180.out
                    have hms27_0 := NB180_179.out
                    have hs28 : w26.cell? ⟨gb180, 1, none⟩ = some (.int .u8 0) := (blk_cell BK180.out 1).trans rfl
                    have hfs28 := blk_frozen BK180.out 1
                    have hns28_0 := NB179_180.out
                    have hms28_0 := NB180_179.out
                    have hs29 : w26.cell? ⟨gb180, 2, none⟩ = some (.int .u8 0) := (blk_cell BK180.out 2).trans rfl
                    have hfs29 := blk_frozen BK180.out 2
                    have hns29_0 := NB179_180.out
                    have hms29_0 := NB180_179.out
                    have hs30 : w26.cell? ⟨gb180, 3, none⟩ = some (.int .u8 0) := (blk_cell BK180.out 3).trans rfl
                    have hfs30 := blk_frozen BK180.out 3
                    have hns30_0 := NB179_180.out
                    have hms30_0 := NB180_179.out
                    have hs31 : w26.cell? ⟨gb180, 4, none⟩ = some (.int .u32 0) := (blk_cell BK180.out 4).trans rfl
                    have hfs31 := blk_frozen BK180.out 4
                    have hns31_0 := NB179_180.out
                    have hms31_0 := NB180_179.out
                    have hs32 : w26.cell? ⟨gb180, 5, none⟩ = some (.int .u16 0) := (blk_cell BK180.out 5).trans rfl
                    have hfs32 := blk_frozen BK180.out 5
                    have hns32_0 := NB179_180.out
                    have hms32_0 := NB180_179.out
                    have hs33 : w26.cell? ⟨gb180, 6, none⟩ = some (.int .u16 0) := (blk_cell BK180.out 6).trans rfl
                    have hfs33 := blk_frozen BK180.out 6
                    have hns33_0 := NB179_180.out
                    have hms33_0 := NB180_179.out
                    have hs34 : w26.cell? ⟨gb180, 7, none⟩ = some (.int .u32 0) := (blk_cell BK180.out 7).trans rfl
                    have hfs34 := blk_frozen BK180.out 7
                    have hns34_0 := NB179_180.out
                    have hms34_0 := NB180_179.out
                    have hs35 : w26.cell? ⟨gb180, 8, none⟩ = some (.int .u32 0) := (blk_cell BK180.out 8).trans rfl
                    have hfs35 := blk_frozen BK180.out 8
                    have hns35_0 := NB179_180.out
                    have hms35_0 := NB180_179.out
                    have hs36 : w26.cell? ⟨gb180, 9, none⟩ = some (.int .u32 0) := (blk_cell BK180.out 9).trans rfl
                    have hfs36 := blk_frozen BK180.out 9
                    have hns36_0 := NB179_180.out
                    have hms36_0 := NB180_179.out
                    have hs37 : w26.cell? ⟨gb180, 10, none⟩ = some (.int .u32 0) := (blk_cell BK180.out 10).trans rfl
                    have hfs37 := blk_frozen BK180.out 10
                    have hns37_0 := NB179_180.out
                    have hms37_0 := NB180_179.out
                    have hs38 : w26.cell? ⟨gb180, 11, none⟩ = some (.string (⟨#[]⟩ : ByteArray)) := (blk_cell BK180.out 11).trans rfl
                    have hfs38 := blk_frozen BK180.out 11
                    have hns38_0 := NB179_180.out
                    have hms38_0 := NB180_179.out
                    have hs39 : w26.cell? ⟨gb180, 12, none⟩ = some (.string (⟨#[]⟩ : ByteArray)) := (blk_cell BK180.out 12).trans rfl
                    have hfs39 := blk_frozen BK180.out 12
                    have hns39_0 := NB179_180.out
                    have hms39_0 := NB180_179.out
                    have hs40 : w26.cell? ⟨gb180, 13, none⟩ = some (.string (⟨#[]⟩ : ByteArray)) := (blk_cell BK180.out 13).trans rfl
                    have hfs40 := blk_frozen BK180.out 13
                    have hns40_0 := NB179_180.out
                    have hms40_0 := NB180_179.out
                    have hs41 : w26.cell? ⟨gb180, 14, none⟩ = some (.slice none 0 0) := (blk_cell BK180.out 14).trans rfl
                    have hfs41 := blk_frozen BK180.out 14
                    have hns41_0 := NB179_180.out
                    have hms41_0 := NB180_179.out
                    refine skip_ (w1 := ?_) (by rfl) rfl ?_ ?_
                    rotate_left
                    · go_simp
                      rfl
                    refine hK.out _ _ trivial (fun hHeld => ?_)
                    clear hK K
                    refine done_ (done_of HT_.out (by kernel_rfl)) ?_
                    have HD := Aside0.mk (show wire4_head.Hd w (((((((((((((((w26.setCell ⟨gb180, 0, none⟩ (.int .u8 (bt a0 0))).setCell ⟨gb180, 1, none⟩ (.int .u8 (bt a0 1))).setCell ⟨gb180, 2, none⟩ (.int .u8 (bt a0 2))).setCell ⟨gb180, 3, none⟩ (.int .u8 (bt a0 3))).setCell ⟨gb180, 4, none⟩ (.int .u32 0)).setCell ⟨gb180, 5, none⟩ (.int .u16 0)).setCell ⟨gb180, 6, none⟩ (.int .u16 0)).setCell ⟨gb180, 7, none⟩ (.int .u32 0)).setCell ⟨gb180, 8, none⟩ (.int .u32 0)).setCell ⟨gb180, 9, none⟩ (.int .u32 0)).setCell ⟨gb180, 10, none⟩ (.int .u32 0)).setCell ⟨gb180, 11, none⟩ (.string (⟨#[]⟩ : ByteArray))).setCell ⟨gb180, 12, none⟩ (.string (⟨#[]⟩ : ByteArray))).setCell ⟨gb180, 13, none⟩ (.string (⟨#[]⟩ : ByteArray))).setCell ⟨gb180, 14, none⟩ (.slice none 0 0)) gb179 gb180 #[.int .u8 (bt a0 0), .int .u8 (bt a0 1), .int .u8 (bt a0 2), .int .u8 (bt a0 3), .int .u32 0, .int .u16 0, .int .u16 0, .int .u32 0, .int .u32 0, .int .u32 0, .int .u32 0, .string (⟨#[]⟩ : ByteArray), .string (⟨#[]⟩ : ByteArray), .string (⟨#[]⟩ : ByteArray), .slice none 0 0] from ⟨(blk_far (blk_far (blk_far (blk_far (blk_far (blk_far (blk_far (blk_far (blk_far (blk_far (blk_far (blk_far (blk_far (blk_far (blk_far BK179.out NB179_180.out _) NB179_180.out _) NB179_180.out _) NB179_180.out _) NB179_180.out _) NB179_180.out _) NB179_180.out _) NB179_180.out _) NB179_180.out _) NB179_180.out _) NB179_180.out _) NB179_180.out _) NB179_180.out _) NB179_180.out _) NB179_180.out _), (blk_put (cs := #[.int .u8 (bt a0 0), .int .u8 (bt a0 1), .int .u8 (bt a0 2), .int .u8 (bt a0 3), .int .u32 0, .int .u16 0, .int .u16 0, .int .u32 0, .int .u32 0, .int .u32 0, .int .u32 0, .string (⟨#[]⟩ : ByteArray), .string (⟨#[]⟩ : ByteArray), .string (⟨#[]⟩ : ByteArray), .slice none 0 0]) (blk_put (cs := #[.int .u8 (bt a0 0), .int .u8 (bt a0 1), .int .u8 (bt a0 2), .int .u8 (bt a0 3), .int .u32 0, .int .u16 0, .int .u16 0, .int .u32 0, .int .u32 0, .int .u32 0, .int .u32 0, .string (⟨#[]⟩ : ByteArray), .string (⟨#[]⟩ : ByteArray), .string (⟨#[]⟩ : ByteArray), .slice none 0 0]) (blk_put (cs := #[.int .u8 (bt a0 0), .int .u8 (bt a0 1), .int .u8 (bt a0 2), .int .u8 (bt a0 3), .int .u32 0, .int .u16 0, .int .u16 0, .int .u32 0, .int .u32 0, .int .u32 0, .int .u32 0, .string (⟨#[]⟩ : ByteArray), .string (⟨#[]⟩ : ByteArray), .string (⟨#[]⟩ : ByteArray), .slice none 0 0]) (blk_put (cs := #[.int .u8 (bt a0 0), .int .u8 (bt a0 1), .int .u8 (bt a0 2), .int .u8 (bt a0 3), .int .u32 0, .int .u16 0, .int .u16 0, .int .u32 0, .int .u32 0, .int .u32 0, .int .u32 0, .string (⟨#[]⟩ : ByteArray), .string (⟨#[]⟩ : ByteArray), .string (⟨#[]⟩ : ByteArray), .slice none 0 0]) (blk_put (cs := #[.int .u8 (bt a0 0), .int .u8 (bt a0 1), .int .u8 (bt a0 2), .int .u8 (bt a0 3), .int .u32 0, .int .u16 0, .int .u16 0, .int .u32 0, .int .u32 0, .int .u32 0, .int .u32 0, .string (⟨#[]⟩ : ByteArray), .string (⟨#[]⟩ : ByteArray), .string (⟨#[]⟩ : ByteArray), .slice none 0 0]) (blk_put (cs := #[.int .u8 (bt a0 0), .int .u8 (bt a0 1), .int .u8 (bt a0 2), .int .u8 (bt a0 3), .int .u32 0, .int .u16 0, .int .u16 0, .int .u32 0, .int .u32 0, .int .u32 0, .int .u32 0, .string (⟨#[]⟩ : ByteArray), .string (⟨#[]⟩ : ByteArray), .string (⟨#[]⟩ : ByteArray), .slice none 0 0]) (blk_put (cs := #[.int .u8 (bt a0 0), .int .u8 (bt a0 1), .int .u8 (bt a0 2), .int .u8 (bt a0 3), .int .u32 0, .int .u16 0, .int .u16 0, .int .u32 0, .int .u32 0, .int .u32 0, .int .u32 0, .string (⟨#[]⟩ : ByteArray), .string (⟨#[]⟩ : ByteArray), .string (⟨#[]⟩ : ByteArray), .slice none 0 0]) (blk_put (cs := #[.int .u8 (bt a0 0), .int .u8 (bt a0 1), .int .u8 (bt a0 2), .int .u8 (bt a0 3), .int .u32 0, .int .u16 0, .int .u16 0, .int .u32 0, .int .u32 0, .int .u32 0, .int .u32 0, .string (⟨#[]⟩ : ByteArray), .string (⟨#[]⟩ : ByteArray), .string (⟨#[]⟩ : ByteArray), .slice none 0 0]) (blk_put (cs := #[.int .u8 (bt a0 0), .int .u8 (bt a0 1), .int .u8 (bt a0 2), .int .u8 (bt a0 3), .int .u32 0, .int .u16 0, .int .u16 0, .int .u32 0, .int .u32 0, .int .u32 0, .int .u32 0, .string (⟨#[]⟩ : ByteArray), .string (⟨#[]⟩ : ByteArray), .string (⟨#[]⟩ : ByteArray), .slice none 0 0]) (blk_put (cs := #[.int .u8 (bt a0 0), .int .u8 (bt a0 1), .int .u8 (bt a0 2), .int .u8 (bt a0 3), .int .u32 0, .int .u16 0, .int .u16 0, .int .u32 0, .int .u32 0, .int .u32 0, .int .u32 0, .string (⟨#[]⟩ : ByteArray), .string (⟨#[]⟩ : ByteArray), .string (⟨#[]⟩ : ByteArray), .slice none 0 0]) (blk_put (cs := #[.int .u8 (bt a0 0), .int .u8 (bt a0 1), .int .u8 (bt a0 2), .int .u8 (bt a0 3), .int .u32 0, .int .u16 0, .int .u16 0, .int .u32 0, .int .u32 0, .int .u32 0, .int .u32 0, .string (⟨#[]⟩ : ByteArray), .string (⟨#[]⟩ : ByteArray), .string (⟨#[]⟩ : ByteArray), .slice none 0 0]) (blk_put (cs := #[.int .u8 (bt a0 0), .int .u8 (bt a0 1), .int .u8 (bt a0 2), .int .u8 0, .int .u32 0, .int .u16 0, .int .u16 0, .int .u32 0, .int .u32 0, .int .u32 0, .int .u32 0, .string (⟨#[]⟩ : ByteArray), .string (⟨#[]⟩ : ByteArray), .string (⟨#[]⟩ : ByteArray), .slice none 0 0]) (blk_put (cs := #[.int .u8 (bt a0 0), .int .u8 (bt a0 1), .int .u8 0, .int .u8 0, .int .u32 0, .int .u16 0, .int .u16 0, .int .u32 0, .int .u32 0, .int .u32 0, .int .u32 0, .string (⟨#[]⟩ : ByteArray), .string (⟨#[]⟩ : ByteArray), .string (⟨#[]⟩ : ByteArray), .slice none 0 0]) (blk_put (cs := #[.int .u8 (bt a0 0), .int .u8 0, .int .u8 0, .int .u8 0, .int .u32 0, .int .u16 0, .int .u16 0, .int .u32 0, .int .u32 0, .int .u32 0, .int .u32 0, .string (⟨#[]⟩ : ByteArray), .string (⟨#[]⟩ : ByteArray), .string (⟨#[]⟩ : ByteArray), .slice none 0 0]) (blk_put (cs := #[.int .u8 0, .int .u8 0, .int .u8 0, .int .u8 0, .int .u32 0, .int .u16 0, .int .u16 0, .int .u32 0, .int .u32 0, .int .u32 0, .int .u32 0, .string (⟨#[]⟩ : ByteArray), .string (⟨#[]⟩ : ByteArray), .string (⟨#[]⟩ : ByteArray), .slice none 0 0]) BK180.out 0 _ rfl) 1 _ rfl) 2 _ rfl) 3 _ rfl) 4 _ rfl) 5 _ rfl) 6 _ rfl) 7 _ rfl) 8 _ rfl) 9 _ rfl) 10 _ rfl) 11 _ rfl) 12 _ rfl) 13 _ rfl) 14 _ rfl), (below_set (below_set (below_set (below_set (below_set (below_set (below_set (below_set (below_set (below_set (below_set (below_set (below_set (below_set (below_set HB.out GE180.out) GE180.out) GE180.out) GE180.out) GE180.out) GE180.out) GE180.out) GE180.out) GE180.out) GE180.out) GE180.out) GE180.out) GE180.out) GE180.out) GE180.out), NB179_180.out, GE180.out⟩)
                    generalize hww : (((((((((((((((w26.setCell ⟨gb180, 0, none⟩ (.int .u8 (bt a0 0))).setCell ⟨gb180, 1, none⟩ (.int .u8 (bt a0 1))).setCell ⟨gb180, 2, none⟩ (.int .u8 (bt a0 2))).setCell ⟨gb180, 3, none⟩ (.int .u8 (bt a0 3))).setCell ⟨gb180, 4, none⟩ (.int .u32 0)).setCell ⟨gb180, 5, none⟩ (.int .u16 0)).setCell ⟨gb180, 6, none⟩ (.int .u16 0)).setCell ⟨gb180, 7, none⟩ (.int .u32 0)).setCell ⟨gb180, 8, none⟩ (.int .u32 0)).setCell ⟨gb180, 9, none⟩ (.int .u32 0)).setCell ⟨gb180, 10, none⟩ (.int .u32 0)).setCell ⟨gb180, 11, none⟩ (.string (⟨#[]⟩ : ByteArray))).setCell ⟨gb180, 12, none⟩ (.string (⟨#[]⟩ : ByteArray))).setCell ⟨gb180, 13, none⟩ (.string (⟨#[]⟩ : ByteArray))).setCell ⟨gb180, 14, none⟩ (.slice none 0 0)) = wh at HD ⊢
                    clear hww BK179 BK180 HB
                    go_upto_region 3 with (go_at_call 52; refine (octet_Get32.calls k a0 4 t181 t182 _ A10.out).mono ?_; rintro e wa2 ⟨rfl, hb⟩; have HDa2 := Aside0.mk (HD.out.call hb); have hs : wa2.cell? ⟨gb180, 4, none⟩ = some (.int .u32 0) := (blk_cell HDa2.out.bb 4).trans rfl; have hfs := blk_frozen HDa2.out.bb 4; clear hb)
                    have HDb2 := Aside0.mk (HDa2.out.put 4 (.int .u32 t181) #[.int .u8 (bt a0 0), .int .u8 (bt a0 1), .int .u8 (bt a0 2), .int .u8 (bt a0 3), .int .u32 t181, .int .u16 0, .int .u16 0, .int .u32 0, .int .u32 0, .int .u32 0, .int .u32 0, .string (⟨#[]⟩ : ByteArray), .string (⟨#[]⟩ : ByteArray), .string (⟨#[]⟩ : ByteArray), .slice none 0 0] rfl)
                    generalize wa2.setCell ⟨gb180, 4, none⟩ (.int .u32 t181) = wb2 at HDb2 ⊢
                    clear hs hfs HD HDa2
                    go_upto_region 4 with (go_at_call 53; refine (octet_Get16.calls k a0 8 t183 t184 _ A11.out).mono ?_; rintro e wa3 ⟨rfl, hb⟩; have HDa3 := Aside0.mk (HDb2.out.call hb); have hs : wa3.cell? ⟨gb180, 5, none⟩ = some (.int .u16 0) := (blk_cell HDa3.out.bb 5).trans rfl; have hfs := blk_frozen HDa3.out.bb 5; clear hb)
                    have HDb3 := Aside0.mk (HDa3.out.put 5 (.int .u16 t183) #[.int .u8 (bt a0 0), .int .u8 (bt a0 1), .int .u8 (bt a0 2), .int .u8 (bt a0 3), .int .u32 t181, .int .u16 t183, .int .u16 0, .int .u32 0, .int .u32 0, .int .u32 0, .int .u32 0, .string (⟨#[]⟩ : ByteArray), .string (⟨#[]⟩ : ByteArray), .string (⟨#[]⟩ : ByteArray), .slice none 0 0] rfl)
                    generalize wa3.setCell ⟨gb180, 5, none⟩ (.int .u16 t183) = wb3 at HDb3 ⊢
                    clear hs hfs HDb2 HDa3
                    go_upto_region 5 with (go_at_call 53; refine (octet_Get16.calls k a0 10 t185 t186 _ A12.out).mono ?_; rintro e wa4 ⟨rfl, hb⟩; have HDa4 := Aside0.mk (HDb3.out.call hb); have hs : wa4.cell? ⟨gb180, 6, none⟩ = some (.int .u16 0) := (blk_cell HDa4.out.bb 6).trans rfl; have hfs := blk_frozen HDa4.out.bb 6; clear hb)
                    have HDb4 := Aside0.mk (HDa4.out.put 6 (.int .u16 t185) #[.int .u8 (bt a0 0), .int .u8 (bt a0 1), .int .u8 (bt a0 2), .int .u8 (bt a0 3), .int .u32 t181, .int .u16 t183, .int .u16 t185, .int .u32 0, .int .u32 0, .int .u32 0, .int .u32 0, .string (⟨#[]⟩ : ByteArray), .string (⟨#[]⟩ : ByteArray), .string (⟨#[]⟩ : ByteArray), .slice none 0 0] rfl)
                    generalize wa4.setCell ⟨gb180, 6, none⟩ (.int .u16 t185) = wb4 at HDb4 ⊢
                    clear hs hfs HDb3 HDa4
                    go_wp2
                    have HDl := Aside0.mk (HDb4.out.call (below_alloc (Below.refl _ _) (.cells #[.pointer (some ⟨gb180, 7, none⟩), .pointer (some ⟨gb180, 8, none⟩), .pointer (some ⟨gb180, 9, none⟩), .pointer (some ⟨gb180, 10, none⟩)] 90)))
                    have LITl := Aside0.mk (heap_alloc_new wb4 (.cells #[.pointer (some ⟨gb180, 7, none⟩), .pointer (some ⟨gb180, 8, none⟩), .pointer (some ⟨gb180, 9, none⟩), .pointer (some ⟨gb180, 10, none⟩)] 90))
                    have LTl := Aside0.mk (blk_lt HDb4.out.bb)
                    generalize wb4.heap.size = gl at LITl LTl ⊢
                    generalize wb4.alloc (.cells #[.pointer (some ⟨gb180, 7, none⟩), .pointer (some ⟨gb180, 8, none⟩), .pointer (some ⟨gb180, 9, none⟩), .pointer (some ⟨gb180, 10, none⟩)] 90) = wl at HDl LITl ⊢
                    clear HDb4
                    go_loopg [4, 5, 39] 4 (fun gg _ _ s39 wr => ∃ (kk : Nat) (cs : Array Value), Aside0 ((kk = 0 ∧ 4 ≤ gg ∧ cs = #[.int .u8 (bt a0 0), .int .u8 (bt a0 1), .int .u8 (bt a0 2), .int .u8 (bt a0 3), .int .u32 t181, .int .u16 t183, .int .u16 t185, .int .u32 0, .int .u32 0, .int .u32 0, .int .u32 0, .string (⟨#[]⟩ : ByteArray), .string (⟨#[]⟩ : ByteArray), .string (⟨#[]⟩ : ByteArray), .slice none 0 0]) ∨ (kk = 1 ∧ 3 ≤ gg ∧ cs = #[.int .u8 (bt a0 0), .int .u8 (bt a0 1), .int .u8 (bt a0 2), .int .u8 (bt a0 3), .int .u32 t181, .int .u16 t183, .int .u16 t185, .int .u32 t187, .int .u32 0, .int .u32 0, .int .u32 0, .string (⟨#[]⟩ : ByteArray), .string (⟨#[]⟩ : ByteArray), .string (⟨#[]⟩ : ByteArray), .slice none 0 0]) ∨ (kk = 2 ∧ 2 ≤ gg ∧ cs = #[.int .u8 (bt a0 0), .int .u8 (bt a0 1), .int .u8 (bt a0 2), .int .u8 (bt a0 3), .int .u32 t181, .int .u16 t183, .int .u16 t185, .int .u32 t187, .int .u32 t189, .int .u32 0, .int .u32 0, .string (⟨#[]⟩ : ByteArray), .string (⟨#[]⟩ : ByteArray), .string (⟨#[]⟩ : ByteArray), .slice none 0 0]) ∨ (kk = 3 ∧ 1 ≤ gg ∧ cs = #[.int .u8 (bt a0 0), .int .u8 (bt a0 1), .int .u8 (bt a0 2), .int .u8 (bt a0 3), .int .u32 t181, .int .u16 t183, .int .u16 t185, .int .u32 t187, .int .u32 t189, .int .u32 t191, .int .u32 0, .string (⟨#[]⟩ : ByteArray), .string (⟨#[]⟩ : ByteArray), .string (⟨#[]⟩ : ByteArray), .slice none 0 0]) ∨ (kk = 4 ∧ 0 ≤ gg ∧ cs = #[.int .u8 (bt a0 0), .int .u8 (bt a0 1), .int .u8 (bt a0 2), .int .u8 (bt a0 3), .int .u32 t181, .int .u16 t183, .int .u16 t185, .int .u32 t187, .int .u32 t189, .int .u32 t191, .int .u32 t193, .string (⟨#[]⟩ : ByteArray), .string (⟨#[]⟩ : ByteArray), .string (⟨#[]⟩ : ByteArray), .slice none 0 0])) ∧ s39 = .int .i64 kk ∧ Aside0 (wire4_head.Hd w wr gb179 gb180 cs) ∧ Aside0 (wr.heap[gl]? = some (.cells #[.pointer (some ⟨gb180, 7, none⟩), .pointer (some ⟨gb180, 8, none⟩), .pointer (some ⟨gb180, 9, none⟩), .pointer (some ⟨gb180, 10, none⟩)] 90 (0, 0))))
                    case atStart => exact ⟨0, _, ⟨.inl ⟨rfl, Nat.le_refl _, rfl⟩⟩, rfl, HDl, LITl⟩
                    case round =>
                      clear HDl LITl
                      obtain ⟨kk, cs, HK, rfl, HD, LIT⟩ := hrel
                      rcases HK.out with ⟨rfl, hg, rfl⟩ | ⟨rfl, hg, rfl⟩ | ⟨rfl, hg, rfl⟩ | ⟨rfl, hg, rfl⟩ | ⟨rfl, hg, rfl⟩
                      · have hcl : wr.cell? ⟨gl, 0, none⟩ = some (.pointer (some ⟨gb180, 7, none⟩)) := (blk_cell LIT.out 0).trans rfl
                        go_wp2_with (go_at_call 52; refine (octet_Get32.calls k a0 12 t187 t188 _ A13.out).mono ?_; rintro e wu ⟨rfl, hb⟩; have HDu := Aside0.mk (HD.out.call hb); have LITu := Aside0.mk ((hb.block gl (blk_lt LIT.out)).trans LIT.out); have hs : wu.cell? ⟨gb180, 7, none⟩ = some (.int .u32 0) := (blk_cell HDu.out.bb 7).trans rfl; have hfs := blk_frozen HDu.out.bb 7; clear hb)
                        have HDv := Aside0.mk (HDu.out.put 7 (.int .u32 t187) #[.int .u8 (bt a0 0), .int .u8 (bt a0 1), .int .u8 (bt a0 2), .int .u8 (bt a0 3), .int .u32 t181, .int .u16 t183, .int .u16 t185, .int .u32 t187, .int .u32 0, .int .u32 0, .int .u32 0, .string (⟨#[]⟩ : ByteArray), .string (⟨#[]⟩ : ByteArray), .string (⟨#[]⟩ : ByteArray), .slice none 0 0] rfl)
                        have LITv := Aside0.mk (blk_far LITu.out (p := ⟨gb180, 7, none⟩) (show gl ≠ gb180 from Nat.ne_of_gt LTl.out) (.int .u32 t187))
                        go_roundg 3
                        case measure => omega
                        case rel => exact ⟨1, _, ⟨.inr (.inl ⟨rfl, Nat.le_refl _, rfl⟩)⟩, rfl, HDv, LITv⟩
                      · have hcl : wr.cell? ⟨gl, 1, none⟩ = some (.pointer (some ⟨gb180, 8, none⟩)) := (blk_cell LIT.out 1).trans rfl
                        go_wp2_with (go_at_call 52; refine (octet_Get32.calls k a0 16 t189 t190 _ A14.out).mono ?_; rintro e wu ⟨rfl, hb⟩; have HDu := Aside0.mk (HD.out.call hb); have LITu := Aside0.mk ((hb.block gl (blk_lt LIT.out)).trans LIT.out); have hs : wu.cell? ⟨gb180, 8, none⟩ = some (.int .u32 0) := (blk_cell HDu.out.bb 8).trans rfl; have hfs := blk_frozen HDu.out.bb 8; clear hb)
                        have HDv := Aside0.mk (HDu.out.put 8 (.int .u32 t189) #[.int .u8 (bt a0 0), .int .u8 (bt a0 1), .int .u8 (bt a0 2), .int .u8 (bt a0 3), .int .u32 t181, .int .u16 t183, .int .u16 t185, .int .u32 t187, .int .u32 t189, .int .u32 0, .int .u32 0, .string (⟨#[]⟩ : ByteArray), .string (⟨#[]⟩ : ByteArray), .string (⟨#[]⟩ : ByteArray), .slice none 0 0] rfl)
                        have LITv := Aside0.mk (blk_far LITu.out (p := ⟨gb180, 8, none⟩) (show gl ≠ gb180 from Nat.ne_of_gt LTl.out) (.int .u32 t189))
                        go_roundg 2
                        case measure => omega
                        case rel => exact ⟨2, _, ⟨.inr (.inr (.inl ⟨rfl, Nat.le_refl _, rfl⟩))⟩, rfl, HDv, LITv⟩
                      · have hcl : wr.cell? ⟨gl, 2, none⟩ = some (.pointer (some ⟨gb180, 9, none⟩)) := (blk_cell LIT.out 2).trans rfl
                        go_wp2_with (go_at_call 52; refine (octet_Get32.calls k a0 20 t191 t192 _ A15.out).mono ?_; rintro e wu ⟨rfl, hb⟩; have HDu := Aside0.mk (HD.out.call hb); have LITu := Aside0.mk ((hb.block gl (blk_lt LIT.out)).trans LIT.out); have hs : wu.cell? ⟨gb180, 9, none⟩ = some (.int .u32 0) := (blk_cell HDu.out.bb 9).trans rfl; have hfs := blk_frozen HDu.out.bb 9; clear hb)
                        have HDv := Aside0.mk (HDu.out.put 9 (.int .u32 t191) #[.int .u8 (bt a0 0), .int .u8 (bt a0 1), .int .u8 (bt a0 2), .int .u8 (bt a0 3), .int .u32 t181, .int .u16 t183, .int .u16 t185, .int .u32 t187, .int .u32 t189, .int .u32 t191, .int .u32 0, .string (⟨#[]⟩ : ByteArray), .string (⟨#[]⟩ : ByteArray), .string (⟨#[]⟩ : ByteArray), .slice none 0 0] rfl)
                        have LITv := Aside0.mk (blk_far LITu.out (p := ⟨gb180, 9, none⟩) (show gl ≠ gb180 from Nat.ne_of_gt LTl.out) (.int .u32 t191))
                        go_roundg 1
                        case measure => omega
                        case rel => exact ⟨3, _, ⟨.inr (.inr (.inr (.inl ⟨rfl, Nat.le_refl _, rfl⟩)))⟩, rfl, HDv, LITv⟩
                      · have hcl : wr.cell? ⟨gl, 3, none⟩ = some (.pointer (some ⟨gb180, 10, none⟩)) := (blk_cell LIT.out 3).trans rfl
                        go_wp2_with (go_at_call 52; refine (octet_Get32.calls k a0 24 t193 t194 _ A16.out).mono ?_; rintro e wu ⟨rfl, hb⟩; have HDu := Aside0.mk (HD.out.call hb); have LITu := Aside0.mk ((hb.block gl (blk_lt LIT.out)).trans LIT.out); have hs : wu.cell? ⟨gb180, 10, none⟩ = some (.int .u32 0) := (blk_cell HDu.out.bb 10).trans rfl; have hfs := blk_frozen HDu.out.bb 10; clear hb)
                        have HDv := Aside0.mk (HDu.out.put 10 (.int .u32 t193) #[.int .u8 (bt a0 0), .int .u8 (bt a0 1), .int .u8 (bt a0 2), .int .u8 (bt a0 3), .int .u32 t181, .int .u16 t183, .int .u16 t185, .int .u32 t187, .int .u32 t189, .int .u32 t191, .int .u32 t193, .string (⟨#[]⟩ : ByteArray), .string (⟨#[]⟩ : ByteArray), .string (⟨#[]⟩ : ByteArray), .slice none 0 0] rfl)
                        have LITv := Aside0.mk (blk_far LITu.out (p := ⟨gb180, 10, none⟩) (show gl ≠ gb180 from Nat.ne_of_gt LTl.out) (.int .u32 t193))
                        go_roundg 0
                        case measure => omega
                        case rel => exact ⟨4, _, ⟨.inr (.inr (.inr (.inr (⟨rfl, Nat.le_refl _, rfl⟩))))⟩, rfl, HDv, LITv⟩
                      · go_wp2
                        have BK179 := Aside0.mk HD.out.ba
                        have BK180 := Aside0.mk HD.out.bb
                        have HB := Aside0.mk HD.out.bel
                        clear HD LIT HK LTl
                        have n0_ := Aside0.mk (blk_drew BK179.out)
                        have n1_ := Aside0.mk (blk_drew BK180.out)
                        have n2_ := Aside0.mk (below_drew1 HB.out)
                        clear BK179
                        clear BK180
                        clear HB
                        have BK179 := n0_
                        have BK180 := n1_
                        have HB := n2_
                        clear n0_ n1_ n2_
                        refine start_ (n := 7) (S := fun w' => True) (ds := []) #[false, false, false, false, false, false, false] (by kernel_rfl) rfl rfl trivial (fun hHeld => ?_)
                        generalize wr.drew = w58 at BK179 BK180 HB hHeld ⊢
                        refine pure_ (i := 0) (N := some 57) (v := ?_) (a' := ?_) #[true, false, false, false, false, false, false] rfl rfl (by kernel_rfl) (fun _ _ _ h => h) (Or.inl ⟨by rfl, ?_⟩) ?_ ?_
                        rotate_left
                        · intro w'
                          go_simp
                          with_reducible rfl
                        rotate_left
                        · simp only [Act.put, List.setIfInBounds_toArray, List.set_cons_zero, List.set_cons_succ, i64_w, i32_w]
                          rfl
                        refine pure_ (i := 1) (N := some 58) (v := ?_) (a' := ?_) #[true, true, false, false, false, false, false] rfl rfl (by kernel_rfl) (fun _ _ _ h => h) (Or.inl ⟨by rfl, ?_⟩) ?_ ?_
                        rotate_left
                        · intro w'
                          go_simp
                          with_reducible rfl
                        rotate_left
                        · simp only [Act.put, List.setIfInBounds_toArray, List.set_cons_zero, List.set_cons_succ, i64_w, i32_w]
                          rfl
                        refine pure_ (i := 2) (N := some 59) (v := ?_) (a' := ?_) #[true, true, true, false, false, false, false] rfl rfl (by kernel_rfl) (fun _ _ _ h => h) (Or.inl ⟨by rfl, ?_⟩) ?_ ?_
                        rotate_left
                        · intro w'
                          go_simp
                          with_reducible rfl
                        rotate_left
                        · simp only [Act.put, List.setIfInBounds_toArray, List.set_cons_zero, List.set_cons_succ, i64_w, i32_w]
                          rfl
                        refine pure_ (i := 3) (N := some 60) (v := ?_) (a' := ?_) #[true, true, true, true, false, false, false] rfl rfl (by kernel_rfl) (fun _ _ _ h => h) (Or.inl ⟨by rfl, ?_⟩) ?_ ?_
                        rotate_left
                        · intro w'
                          go_simp
                          with_reducible rfl
                        rotate_left
                        · simp only [Act.put, List.setIfInBounds_toArray, List.set_cons_zero, List.set_cons_succ, i64_w, i32_w]
                          rfl
                        refine pure_ (i := 4) (N := some 61) (v := ?_) (a' := ?_) #[true, true, true, true, true, false, false] rfl rfl (by kernel_rfl) (fun _ _ _ h => h) (Or.inl ⟨by rfl, ?_⟩) ?_ ?_
                        rotate_left
                        · intro w'
                          go_simp
                          with_reducible rfl
                        rotate_left
                        · simp only [Act.put, List.setIfInBounds_toArray, List.set_cons_zero, List.set_cons_succ, i64_w, i32_w]
                          rfl
                        refine one_ (i := 5) (N := none) #[true, true, true, true, true, true, false] rfl rfl (by kernel_rfl) (by decide) (fun K hK => ?_)
                        have hs59 : w58.cell? ⟨gb180, 11, none⟩ = some (.string (⟨#[]⟩ : ByteArray)) := (blk_cell BK180.out 11).trans rfl
                        have hfs59 := blk_frozen BK180.out 11
                        have hns59_0 := NB179_180.out
                        have hms59_0 := NB180_179.out
                        refine skip_ (w1 := ?_) (by rfl) rfl ?_ ?_
                        rotate_left
                        · go_simp
                          rfl
                        refine hK.out _ _ trivial (fun hHeld => ?_)
                        clear hK K
                        refine pure_ (i := 6) (N := some 0) (v := ?_) (a' := ?_) #[true, true, true, true, true, true, true] rfl rfl (by kernel_rfl) (fun _ _ _ h => h) (Or.inl ⟨by rfl, ?_⟩) ?_ ?_
                        rotate_left
                        · intro w'
                          go_simp
                          with_reducible rfl
                        rotate_left
                        · simp only [Act.put, List.setIfInBounds_toArray, List.set_cons_zero, List.set_cons_succ, i64_w, i32_w]
                          rfl
                        refine done_ (by kernel_rfl) ?_
                        try go_wp2
                        have n0_ : Aside0 ((w58.setCell ⟨gb180, 11, none⟩ (.string ((a0.extract 28 a0.size).extract 0 16))).heap[gb179]? = some (.cells #[.int .u8 0, .int .u8 0, .int .u8 0, .int .u8 0, .int .u32 0, .int .u16 0, .int .u16 0, .int .u32 0, .int .u32 0, .int .u32 0, .int .u32 0, .string (⟨#[]⟩ : ByteArray), .string (⟨#[]⟩ : ByteArray), .string (⟨#[]⟩ : ByteArray), .slice none 0 0] 26 (0, 0))) := ⟨by (with_reducible repeat (first | refine blk_drewN ?_ _ | refine blk_drew ?_ | refine blk_alloc ?_ _)); refine blk_far ?_ NB179_180.out _; (with_reducible repeat (first | refine blk_drewN ?_ _ | refine blk_drew ?_ | refine blk_alloc ?_ _)); exact BK179.out⟩
                        have n1_ : Aside0 ((w58.setCell ⟨gb180, 11, none⟩ (.string ((a0.extract 28 a0.size).extract 0 16))).heap[gb180]? = some (.cells #[.int .u8 (bt a0 0), .int .u8 (bt a0 1), .int .u8 (bt a0 2), .int .u8 (bt a0 3), .int .u32 t181, .int .u16 t183, .int .u16 t185, .int .u32 t187, .int .u32 t189, .int .u32 t191, .int .u32 t193, .string ((a0.extract 28 a0.size).extract 0 16), .string (⟨#[]⟩ : ByteArray), .string (⟨#[]⟩ : ByteArray), .slice none 0 0] 26 (0, 0))) := ⟨by (with_reducible repeat (first | refine blk_drewN ?_ _ | refine blk_drew ?_ | refine blk_alloc ?_ _)); refine blk_put (cs := #[.int .u8 (bt a0 0), .int .u8 (bt a0 1), .int .u8 (bt a0 2), .int .u8 (bt a0 3), .int .u32 t181, .int .u16 t183, .int .u16 t185, .int .u32 t187, .int .u32 t189, .int .u32 t191, .int .u32 t193, .string (⟨#[]⟩ : ByteArray), .string (⟨#[]⟩ : ByteArray), .string (⟨#[]⟩ : ByteArray), .slice none 0 0]) ?_ 11 _ rfl; (with_reducible repeat (first | refine blk_drewN ?_ _ | refine blk_drew ?_ | refine blk_alloc ?_ _)); exact BK180.out⟩
                        have n2_ : Aside0 (Below w.heap.size w (w58.setCell ⟨gb180, 11, none⟩ (.string ((a0.extract 28 a0.size).extract 0 16)))) := ⟨by repeat (first | (with_reducible first | exact HB.out | apply below_alloc | apply pw_below_drewN | apply below_drew1 | refine below_set ?_ GE179.out | refine below_set ?_ GE180.out) | exact HB.out)⟩
                        (try clear BK179)
                        (try clear BK180)
                        (try clear HB)
                        generalize (w58.setCell ⟨gb180, 11, none⟩ (.string ((a0.extract 28 a0.size).extract 0 16))) = w60 at n0_ n1_ n2_ ⊢
                        have BK179 := n0_
                        have BK180 := n1_
                        have HB := n2_
                        clear n0_ n1_ n2_
                        have n0_ := Aside0.mk (blk_drew BK179.out)
                        have n1_ := Aside0.mk (blk_drew BK180.out)
                        have n2_ := Aside0.mk (below_drew1 HB.out)
                        clear BK179
                        clear BK180
                        clear HB
                        have BK179 := n0_
                        have BK180 := n1_
                        have HB := n2_
                        clear n0_ n1_ n2_
                        refine start_ (n := 8) (S := fun w' => True) (ds := []) #[false, false, false, false, false, false, false, false] (by kernel_rfl) rfl rfl trivial (fun hHeld => ?_); refine with_tabW wire4_head.tab12 wire4_head.bits12 (fun HT_ HW_ => ?_)
                        generalize w60.drew = w61 at BK179 BK180 HB hHeld ⊢
                        refine pure_ (i := 0) (N := some 62) (v := ?_) (a' := ?_) #[true, false, false, false, false, false, false, false] rfl rfl (any_of HT_.out (by kernel_rfl)) (fun _ _ _ h => h) (Or.inl ⟨by rfl, ?_⟩) ?_ ?_
                        rotate_left
                        · intro w'
                          go_simp
                          with_reducible rfl
                        rotate_left
                        · simp only [Act.put, List.setIfInBounds_toArray, List.set_cons_zero, List.set_cons_succ, i64_w, i32_w]
                          rfl
                        refine pure_ (i := 1) (N := some 63) (v := ?_) (a' := ?_) #[true, true, false, false, false, false, false, false] rfl rfl (any_of HT_.out (by kernel_rfl)) (fun _ _ _ h => h) (Or.inl ⟨by rfl, ?_⟩) ?_ ?_
                        rotate_left
                        · intro w'
                          go_simp
                          with_reducible rfl
                        rotate_left
                        · simp only [Act.put, List.setIfInBounds_toArray, List.set_cons_zero, List.set_cons_succ, i64_w, i32_w]
                          rfl
                        refine pure_ (i := 2) (N := some 64) (v := ?_) (a' := ?_) #[true, true, true, false, false, false, false, false] rfl rfl (any_of HT_.out (by kernel_rfl)) (fun _ _ _ h => h) (Or.inl ⟨by rfl, ?_⟩) ?_ ?_
                        rotate_left
                        · intro w'
                          go_simp
                          with_reducible rfl
                        rotate_left
                        · simp only [Act.put, List.setIfInBounds_toArray, List.set_cons_zero, List.set_cons_succ, i64_w, i32_w]
                          rfl
                        refine pure_ (i := 3) (N := some 65) (v := ?_) (a' := ?_) #[true, true, true, true, false, false, false, false] rfl rfl (any_of HT_.out (by kernel_rfl)) (fun _ _ _ h => h) (Or.inl ⟨by rfl, ?_⟩) ?_ ?_
                        rotate_left
                        · intro w'
                          go_simp
                          with_reducible rfl
                        rotate_left
                        · simp only [Act.put, List.setIfInBounds_toArray, List.set_cons_zero, List.set_cons_succ, i64_w, i32_w]
                          rfl
                        refine pure_ (i := 4) (N := some 66) (v := ?_) (a' := ?_) #[true, true, true, true, true, false, false, false] rfl rfl (any_of HT_.out (by kernel_rfl)) (fun _ _ _ h => h) (Or.inl ⟨by rfl, ?_⟩) ?_ ?_
                        rotate_left
                        · intro w'
                          go_simp
                          with_reducible rfl
                        rotate_left
                        · simp only [Act.put, List.setIfInBounds_toArray, List.set_cons_zero, List.set_cons_succ, i64_w, i32_w]
                          rfl
                        refine one_ (i := 5) (N := none) #[true, true, true, true, true, true, false, false] rfl rfl (one_of HT_.out (by kernel_rfl)) (by decide) (fun K hK => ?_)
                        have hs62 : w61.cell? ⟨gb180, 12, none⟩ = some (.string (⟨#[]⟩ : ByteArray)) := (blk_cell BK180.out 12).trans rfl
                        have hfs62 := blk_frozen BK180.out 12
                        have hns62_0 := NB179_180.out
                        have hms62_0 := NB180_179.out
                        refine skip_ (w1 := ?_) (by rfl) rfl ?_ ?_
                        rotate_left
                        · go_simp
                          rfl
                        refine hK.out _ _ trivial (fun hHeld => ?_)
                        clear hK K
                        refine pure_ (i := 6) (N := some 67) (v := ?_) (a' := ?_) #[true, true, true, true, true, true, true, false] rfl rfl (any_of HT_.out (by kernel_rfl)) (fun _ _ _ h => h) (Or.inl ⟨by rfl, ?_⟩) ?_ ?_
                        rotate_left
                        · intro w'
                          go_simp
                          with_reducible rfl
                        rotate_left
                        · simp only [Act.put, List.setIfInBounds_toArray, List.set_cons_zero, List.set_cons_succ, i64_w, i32_w]
                          rfl
                        refine one_ (i := 7) (N := none) #[true, true, true, true, true, true, true, true] rfl rfl (one_of HT_.out (by kernel_rfl)) (by decide) (fun K hK => ?_)
                        have hs63 : w61.cell? ⟨gb180, 13, none⟩ = some (.string (⟨#[]⟩ : ByteArray)) := (blk_cell BK180.out 13).trans rfl
                        have hfs63 := blk_frozen BK180.out 13
                        have hns63_0 := NB179_180.out
                        have hms63_0 := NB180_179.out
                        refine skip_ (w1 := ?_) (by rfl) rfl ?_ ?_
                        rotate_left
                        · go_simp
                          rfl
                        refine hK.out _ _ trivial (fun hHeld => ?_)
                        clear hK K
                        refine done_ (done_of HT_.out (by kernel_rfl)) ?_
                        have HE := Aside0.mk (((show wire4_head.Hd w w61 gb179 gb180 #[.int .u8 (bt a0 0), .int .u8 (bt a0 1), .int .u8 (bt a0 2), .int .u8 (bt a0 3), .int .u32 t181, .int .u16 t183, .int .u16 t185, .int .u32 t187, .int .u32 t189, .int .u32 t191, .int .u32 t193, .string ((a0.extract 28 a0.size).extract 0 16), .string (⟨#[]⟩ : ByteArray), .string (⟨#[]⟩ : ByteArray), .slice none 0 0] from ⟨BK179.out, BK180.out, HB.out, NB179_180.out, GE180.out⟩).put 12 (.string (((a0.extract 28 a0.size).extract 16 (a0.size - 28)).extract 0 64)) #[.int .u8 (bt a0 0), .int .u8 (bt a0 1), .int .u8 (bt a0 2), .int .u8 (bt a0 3), .int .u32 t181, .int .u16 t183, .int .u16 t185, .int .u32 t187, .int .u32 t189, .int .u32 t191, .int .u32 t193, .string ((a0.extract 28 a0.size).extract 0 16), .string (((a0.extract 28 a0.size).extract 16 (a0.size - 28)).extract 0 64), .string (⟨#[]⟩ : ByteArray), .slice none 0 0] rfl).put 13 (.string (((a0.extract 28 a0.size).extract 16 (a0.size - 28)).extract 64 (a0.size - 28 - 16))) #[.int .u8 (bt a0 0), .int .u8 (bt a0 1), .int .u8 (bt a0 2), .int .u8 (bt a0 3), .int .u32 t181, .int .u16 t183, .int .u16 t185, .int .u32 t187, .int .u32 t189, .int .u32 t191, .int .u32 t193, .string ((a0.extract 28 a0.size).extract 0 16), .string (((a0.extract 28 a0.size).extract 16 (a0.size - 28)).extract 0 64), .string (((a0.extract 28 a0.size).extract 16 (a0.size - 28)).extract 64 (a0.size - 28 - 16)), .slice none 0 0] rfl)
                        generalize (w61.setCell ⟨gb180, 12, none⟩ (.string (((a0.extract 28 a0.size).extract 16 (a0.size - 28)).extract 0 64))).setCell ⟨gb180, 13, none⟩ (.string (((a0.extract 28 a0.size).extract 16 (a0.size - 28)).extract 64 (a0.size - 28 - 16))) = wf at HE ⊢
                        clear BK179 BK180 HB
                        have hi26 : (Try.prog.info? 26).map (·.size) = some 15 := by kernel_rfl
                        go_wp2_with (first | ((with_reducible refine gate_dst (N := 68) rfl ?_); refine XBox.loadL_ 68 rfl rfl 26 rfl gb180 rfl #[.int .u8 (bt a0 0), .int .u8 (bt a0 1), .int .u8 (bt a0 2), .int .u8 (bt a0 3), .int .u32 t181, .int .u16 t183, .int .u16 t185, .int .u32 t187, .int .u32 t189, .int .u32 t191, .int .u32 t193, .string ((a0.extract 28 a0.size).extract 0 16), .string (((a0.extract 28 a0.size).extract 16 (a0.size - 28)).extract 0 64), .string (((a0.extract 28 a0.size).extract 16 (a0.size - 28)).extract 64 (a0.size - 28 - 16)), .slice none 0 0] HE.out.bb hu26 rfl hi26 ?_; simp only [Act.put, List.setIfInBounds_toArray, List.set_cons_zero, List.set_cons_succ]) | ((with_reducible refine gate_store (p := 2) rfl ?_); refine XBox.storeL_ rfl rfl 26 rfl gb179 rfl #[.int .u8 0, .int .u8 0, .int .u8 0, .int .u8 0, .int .u32 0, .int .u16 0, .int .u16 0, .int .u32 0, .int .u32 0, .int .u32 0, .int .u32 0, .string (⟨#[]⟩ : ByteArray), .string (⟨#[]⟩ : ByteArray), .string (⟨#[]⟩ : ByteArray), .slice none 0 0] #[.int .u8 (bt a0 0), .int .u8 (bt a0 1), .int .u8 (bt a0 2), .int .u8 (bt a0 3), .int .u32 t181, .int .u16 t183, .int .u16 t185, .int .u32 t187, .int .u32 t189, .int .u32 t191, .int .u32 t193, .string ((a0.extract 28 a0.size).extract 0 16), .string (((a0.extract 28 a0.size).extract 16 (a0.size - 28)).extract 0 64), .string (((a0.extract 28 a0.size).extract 16 (a0.size - 28)).extract 64 (a0.size - 28 - 16)), .slice none 0 0] rfl HE.out.ba hi26 (Eq.refl 15) (by simp [Value.oneCell']) ?_; intro wg hw1 hw2 hw3; have BR := Aside0.mk hw1; have HR := Aside0.mk (HE.out.bel.trans (hw2 _ GE179.out)); clear hw1 hw2 hw3))
                        refine bodyPost_ret (results_cell_row rfl _ _ gb179 26 #[.int .u8 (bt a0 0), .int .u8 (bt a0 1), .int .u8 (bt a0 2), .int .u8 (bt a0 3), .int .u32 t181, .int .u16 t183, .int .u16 t185, .int .u32 t187, .int .u32 t189, .int .u32 t191, .int .u32 t193, .string ((a0.extract 28 a0.size).extract 0 16), .string (((a0.extract 28 a0.size).extract 16 (a0.size - 28)).extract 0 64), .string (((a0.extract 28 a0.size).extract 16 (a0.size - 28)).extract 64 (a0.size - 28 - 16)), .slice none 0 0] (0, 0) _ rfl BR.out hu26 rfl (by kernel_rfl)) rfl ?_
                        have hE1 : (a0.extract 28 a0.size).size = a0.size - 28 := by simp [ByteArray.size_extract]
                        have hE2 : ((a0.extract 28 a0.size).extract 16 (a0.size - 28)).size = a0.size - 28 - 16 := by simp [ByteArray.size_extract]; try omega
                        exact ⟨_, by simp only [hE1, hE2], Kd.R_nil _ _ _ _ _, HR.out⟩
                  · rw [if_neg c22] at H
                    exact absurd H (by simp)
                · rw [if_neg c21] at H
                  exact absurd H (by simp)
              · rw [if_neg c19] at H
                exact absurd H (by simp)
            · rw [if_neg c18] at H
              exact absurd H (by simp)
          · rw [if_neg c17] at H
            exact absurd H (by simp)
        · rw [if_neg c8] at H
          exact absurd H (by simp)
      · rw [if_neg c6] at H
        exact absurd H (by simp)
    · rw [if_neg c4] at H
      exact absurd H (by simp)
  · rw [if_neg c2] at H
    exact absurd H (by simp)


/-- A state of type 26 at block g of W; what its slices lead to came in by w0. -/
def IsS26 (w0 W : World) (g : Nat) (f0 : Int) (f1 : Int) (f2 : Int) (f3 : Int) (f4 : Int) (f5 : Int) (f6 : Int) (f7 : Int) (f8 : Int) (f9 : Int) (f10 : Int) (f11 : ByteArray) (f12 : ByteArray) (f13 : ByteArray) (f14 : List (S47)) : Prop := ∃ A14 c14, W.heap[g]? = some (.cells #[.int .u8 f0, .int .u8 f1, .int .u8 f2, .int .u8 f3, .int .u32 f4, .int .u16 f5, .int .u16 f6, .int .u32 f7, .int .u32 f8, .int .u32 f9, .int .u32 f10, .string f11, .string f12, .string f13, .slice A14 f14.length c14] 26 (0, 0)) ∧ w0.heap.size ≤ g ∧ Kd.C k47 w0 A14 f14.length f14
theorem IsS26.grown {w0 W : World} {g : Nat} {f0 : Int} {f1 : Int} {f2 : Int} {f3 : Int} {f4 : Int} {f5 : Int} {f6 : Int} {f7 : Int} {f8 : Int} {f9 : Int} {f10 : Int} {f11 : ByteArray} {f12 : ByteArray} {f13 : ByteArray} {f14 : List (S47)} {W1 : World} {row : Option Nat} (h : IsS26 w0 W g f0 f1 f2 f3 f4 f5 f6 f7 f8 f9 f10 f11 f12 f13 f14) (hw : W.grownBy W1 row) (hne : some g ≠ row) : IsS26 w0 W1 g f0 f1 f2 f3 f4 f5 f6 f7 f8 f9 f10 f11 f12 f13 f14 := by
  obtain ⟨A14, c14, hb, hg, hr14⟩ := h
  exact ⟨A14, c14, blk_grown hb hw hne, hg, hr14⟩
theorem IsS26.own_neN {w0 W : World} {g : Nat} {f0 : Int} {f1 : Int} {f2 : Int} {f3 : Int} {f4 : Int} {f5 : Int} {f6 : Int} {f7 : Int} {f8 : Int} {f9 : Int} {f10 : Int} {f11 : ByteArray} {f12 : ByteArray} {f13 : ByteArray} {f14 : List (S47)} {α : Type} {d : Kd α} {e : Nat} {base : Nat} {ok : Nat → Prop} {v : Value} {xs : List α} (h : IsS26 w0 W g f0 f1 f2 f3 f4 f5 f6 f7 f8 f9 f10 f11 f12 f13 f14) (ho : Kd.N d e W base ok v xs) (ht : e ≠ 26) : some g ≠ v.ownBlock := by
  obtain ⟨A14, c14, hb, hg, hr14⟩ := h
  exact Kd.N_ne ho hb ht
theorem IsS26.fresh {w0 W : World} {g : Nat} {f0 : Int} {f1 : Int} {f2 : Int} {f3 : Int} {f4 : Int} {f5 : Int} {f6 : Int} {f7 : Int} {f8 : Int} {f9 : Int} {f10 : Int} {f11 : ByteArray} {f12 : ByteArray} {f13 : ByteArray} {f14 : List (S47)} (h : IsS26 w0 W g f0 f1 f2 f3 f4 f5 f6 f7 f8 f9 f10 f11 f12 f13 f14) : ∀ k, W.heap.size ≤ k → k ≠ g := by
  obtain ⟨A14, c14, hb, hg, hr14⟩ := h
  exact Kd.freshB hb
theorem IsS26.kept {w0 W : World} {g : Nat} {f0 : Int} {f1 : Int} {f2 : Int} {f3 : Int} {f4 : Int} {f5 : Int} {f6 : Int} {f7 : Int} {f8 : Int} {f9 : Int} {f10 : Int} {f11 : ByteArray} {f12 : ByteArray} {f13 : ByteArray} {f14 : List (S47)} {W1 : World} {S : Nat → Prop} (h : IsS26 w0 W g f0 f1 f2 f3 f4 f5 f6 f7 f8 f9 f10 f11 f12 f13 f14) (hk : Kept W W1 S) (hne : ¬ S g) : IsS26 w0 W1 g f0 f1 f2 f3 f4 f5 f6 f7 f8 f9 f10 f11 f12 f13 f14 := by
  obtain ⟨A14, c14, hb, hg, hr14⟩ := h
  exact ⟨A14, c14, blk_kept hb hk hne, hg, hr14⟩
theorem IsS26.below {w0 W : World} {g : Nat} {f0 : Int} {f1 : Int} {f2 : Int} {f3 : Int} {f4 : Int} {f5 : Int} {f6 : Int} {f7 : Int} {f8 : Int} {f9 : Int} {f10 : Int} {f11 : ByteArray} {f12 : ByteArray} {f13 : ByteArray} {f14 : List (S47)} {W1 : World} (h : IsS26 w0 W g f0 f1 f2 f3 f4 f5 f6 f7 f8 f9 f10 f11 f12 f13 f14) (hw : Below W.heap.size W W1) : IsS26 w0 W1 g f0 f1 f2 f3 f4 f5 f6 f7 f8 f9 f10 f11 f12 f13 f14 := h.grown (grown_of_below hw none) (by simp)
theorem IsS26.alloc {w0 W : World} {g : Nat} {f0 : Int} {f1 : Int} {f2 : Int} {f3 : Int} {f4 : Int} {f5 : Int} {f6 : Int} {f7 : Int} {f8 : Int} {f9 : Int} {f10 : Int} {f11 : ByteArray} {f12 : ByteArray} {f13 : ByteArray} {f14 : List (S47)} (h : IsS26 w0 W g f0 f1 f2 f3 f4 f5 f6 f7 f8 f9 f10 f11 f12 f13 f14) (o : Obj) : IsS26 w0 (W.alloc o) g f0 f1 f2 f3 f4 f5 f6 f7 f8 f9 f10 f11 f12 f13 f14 := h.below (below_alloc (Below.refl _ _) o)
theorem IsS26.drewN {w0 W : World} {g : Nat} {f0 : Int} {f1 : Int} {f2 : Int} {f3 : Int} {f4 : Int} {f5 : Int} {f6 : Int} {f7 : Int} {f8 : Int} {f9 : Int} {f10 : Int} {f11 : ByteArray} {f12 : ByteArray} {f13 : ByteArray} {f14 : List (S47)} (h : IsS26 w0 W g f0 f1 f2 f3 f4 f5 f6 f7 f8 f9 f10 f11 f12 f13 f14) (m : Nat) : IsS26 w0 (W.drewN m) g f0 f1 f2 f3 f4 f5 f6 f7 f8 f9 f10 f11 f12 f13 f14 := h
theorem IsS26.drew {w0 W : World} {g : Nat} {f0 : Int} {f1 : Int} {f2 : Int} {f3 : Int} {f4 : Int} {f5 : Int} {f6 : Int} {f7 : Int} {f8 : Int} {f9 : Int} {f10 : Int} {f11 : ByteArray} {f12 : ByteArray} {f13 : ByteArray} {f14 : List (S47)} (h : IsS26 w0 W g f0 f1 f2 f3 f4 f5 f6 f7 f8 f9 f10 f11 f12 f13 f14) : IsS26 w0 W.drew g f0 f1 f2 f3 f4 f5 f6 f7 f8 f9 f10 f11 f12 f13 f14 := h
theorem IsS26.at_ {w0 W : World} {g : Nat} {f0 : Int} {f1 : Int} {f2 : Int} {f3 : Int} {f4 : Int} {f5 : Int} {f6 : Int} {f7 : Int} {f8 : Int} {f9 : Int} {f10 : Int} {f11 : ByteArray} {f12 : ByteArray} {f13 : ByteArray} {f14 : List (S47)} {w' : World} {m : Nat} (hq : W.drewN m = w') (h : IsS26 w0 W g f0 f1 f2 f3 f4 f5 f6 f7 f8 f9 f10 f11 f12 f13 f14) : IsS26 w0 w' g f0 f1 f2 f3 f4 f5 f6 f7 f8 f9 f10 f11 f12 f13 f14 := by subst hq; exact IsS26.drewN h m
theorem IsS26.apart {w0 W : World} {g : Nat} {f0 : Int} {f1 : Int} {f2 : Int} {f3 : Int} {f4 : Int} {f5 : Int} {f6 : Int} {f7 : Int} {f8 : Int} {f9 : Int} {f10 : Int} {f11 : ByteArray} {f12 : ByteArray} {f13 : ByteArray} {f14 : List (S47)} {α : Type} {d : Kd α} {e : Nat} {base : Nat} {ok : Nat → Prop} {v : Value} {xs : List α} (h : IsS26 w0 W g f0 f1 f2 f3 f4 f5 f6 f7 f8 f9 f10 f11 f12 f13 f14) (ho : d.R e W base ok v xs) (ht : ∀ q, q ∈ e :: d.E → q ≠ 26) : d.R e W base (fun k => ok k ∧ k ≠ g) v xs := by
  obtain ⟨A14, c14, hb, hg, hr14⟩ := h
  exact Kd.R_types ho hb ht
theorem IsS26.own_ne {w0 W : World} {g : Nat} {f0 : Int} {f1 : Int} {f2 : Int} {f3 : Int} {f4 : Int} {f5 : Int} {f6 : Int} {f7 : Int} {f8 : Int} {f9 : Int} {f10 : Int} {f11 : ByteArray} {f12 : ByteArray} {f13 : ByteArray} {f14 : List (S47)} {α : Type} {d : Kd α} {e : Nat} {base : Nat} {ok : Nat → Prop} {v : Value} {xs : List α} (h : IsS26 w0 W g f0 f1 f2 f3 f4 f5 f6 f7 f8 f9 f10 f11 f12 f13 f14) (ho : d.R e W base ok v xs) (ht : e ≠ 26) : some g ≠ v.ownBlock := by
  obtain ⟨A14, c14, hb, hg, hr14⟩ := h
  exact Kd.R_ne ho hb ht
theorem IsS26.apartQ {w0 W : World} {g : Nat} {f0 : Int} {f1 : Int} {f2 : Int} {f3 : Int} {f4 : Int} {f5 : Int} {f6 : Int} {f7 : Int} {f8 : Int} {f9 : Int} {f10 : Int} {f11 : ByteArray} {f12 : ByteArray} {f13 : ByteArray} {f14 : List (S47)} {α : Type} {d : Kd α} {e : Nat} {base : Nat} {ok : Nat → Prop} {v : Value} {xs : List α} (h : IsS26 w0 W g f0 f1 f2 f3 f4 f5 f6 f7 f8 f9 f10 f11 f12 f13 f14) (ho : d.Q e W base ok v xs) (ht : ∀ q, q ∈ e :: d.E → q ≠ 26) : d.Q e W base (fun k => ok k ∧ k ≠ g) v xs := by
  obtain ⟨A14, c14, hb, hg, hr14⟩ := h
  exact Kd.Q_types ho hb ht
theorem IsS26.own_neQ {w0 W : World} {g : Nat} {f0 : Int} {f1 : Int} {f2 : Int} {f3 : Int} {f4 : Int} {f5 : Int} {f6 : Int} {f7 : Int} {f8 : Int} {f9 : Int} {f10 : Int} {f11 : ByteArray} {f12 : ByteArray} {f13 : ByteArray} {f14 : List (S47)} {α : Type} {d : Kd α} {e : Nat} {base : Nat} {ok : Nat → Prop} {v : Value} {xs : List α} (h : IsS26 w0 W g f0 f1 f2 f3 f4 f5 f6 f7 f8 f9 f10 f11 f12 f13 f14) (ho : d.Q e W base ok v xs) (ht : e ≠ 26) : some g ≠ v.ownBlock := by
  obtain ⟨A14, c14, hb, hg, hr14⟩ := h
  exact Kd.Q_ne ho hb ht
theorem IsS26.apartS {w0 W : World} {g : Nat} {f0 : Int} {f1 : Int} {f2 : Int} {f3 : Int} {f4 : Int} {f5 : Int} {f6 : Int} {f7 : Int} {f8 : Int} {f9 : Int} {f10 : Int} {f11 : ByteArray} {f12 : ByteArray} {f13 : ByteArray} {f14 : List (S47)} {α : Type} {d : Kd α} {e : Nat} {base : Nat} {ok : Nat → Prop} {v : Value} {xs : List α} (h : IsS26 w0 W g f0 f1 f2 f3 f4 f5 f6 f7 f8 f9 f10 f11 f12 f13 f14) (ho : d.S e W base ok v xs) (ht : ∀ q, q ∈ e :: d.E → q ≠ 26) : d.S e W base (fun k => ok k ∧ k ≠ g) v xs := by
  obtain ⟨A14, c14, hb, hg, hr14⟩ := h
  exact Kd.S_types ho hb ht
theorem IsS26.own_neS {w0 W : World} {g : Nat} {f0 : Int} {f1 : Int} {f2 : Int} {f3 : Int} {f4 : Int} {f5 : Int} {f6 : Int} {f7 : Int} {f8 : Int} {f9 : Int} {f10 : Int} {f11 : ByteArray} {f12 : ByteArray} {f13 : ByteArray} {f14 : List (S47)} {α : Type} {d : Kd α} {e : Nat} {base : Nat} {ok : Nat → Prop} {v : Value} {xs : List α} (h : IsS26 w0 W g f0 f1 f2 f3 f4 f5 f6 f7 f8 f9 f10 f11 f12 f13 f14) (ho : d.S e W base ok v xs) (ht : e ≠ 26) : some g ≠ v.ownBlock := by
  obtain ⟨A14, c14, hb, hg, hr14⟩ := h
  exact Kd.S_ne ho hb ht
theorem IsS26.lt {w0 W : World} {g : Nat} {f0 : Int} {f1 : Int} {f2 : Int} {f3 : Int} {f4 : Int} {f5 : Int} {f6 : Int} {f7 : Int} {f8 : Int} {f9 : Int} {f10 : Int} {f11 : ByteArray} {f12 : ByteArray} {f13 : ByteArray} {f14 : List (S47)} (h : IsS26 w0 W g f0 f1 f2 f3 f4 f5 f6 f7 f8 f9 f10 f11 f12 f13 f14) : g < W.heap.size := by
  obtain ⟨A14, c14, hb, hg, hr14⟩ := h
  exact blk_lt hb
theorem IsS26.ge {w0 W : World} {g : Nat} {f0 : Int} {f1 : Int} {f2 : Int} {f3 : Int} {f4 : Int} {f5 : Int} {f6 : Int} {f7 : Int} {f8 : Int} {f9 : Int} {f10 : Int} {f11 : ByteArray} {f12 : ByteArray} {f13 : ByteArray} {f14 : List (S47)} (h : IsS26 w0 W g f0 f1 f2 f3 f4 f5 f6 f7 f8 f9 f10 f11 f12 f13 f14) : w0.heap.size ≤ g := by
  obtain ⟨A14, c14, hb, hg, hr14⟩ := h
  exact hg
theorem IsS26.ne_blk {w0 W : World} {g : Nat} {f0 : Int} {f1 : Int} {f2 : Int} {f3 : Int} {f4 : Int} {f5 : Int} {f6 : Int} {f7 : Int} {f8 : Int} {f9 : Int} {f10 : Int} {f11 : ByteArray} {f12 : ByteArray} {f13 : ByteArray} {f14 : List (S47)} {a : Nat} {cs : Array Value} {t : TypeId} {fr : Nat × Nat} (h : IsS26 w0 W g f0 f1 f2 f3 f4 f5 f6 f7 f8 f9 f10 f11 f12 f13 f14) (hb2 : W.heap[a]? = some (.cells cs t fr)) (ht : t ≠ 26) : g ≠ a := by
  obtain ⟨A14, c14, hb, hg, hr14⟩ := h
  rintro rfl
  rw [hb] at hb2
  injection hb2 with hb2
  injection hb2 with _ ht2
  exact ht ht2.symm
theorem IsS26.far {w0 W : World} {g : Nat} {f0 : Int} {f1 : Int} {f2 : Int} {f3 : Int} {f4 : Int} {f5 : Int} {f6 : Int} {f7 : Int} {f8 : Int} {f9 : Int} {f10 : Int} {f11 : ByteArray} {f12 : ByteArray} {f13 : ByteArray} {f14 : List (S47)} {p : Addr} (h : IsS26 w0 W g f0 f1 f2 f3 f4 f5 f6 f7 f8 f9 f10 f11 f12 f13 f14) (hne : g ≠ p.block) (u : Value) : IsS26 w0 (W.setCell p u) g f0 f1 f2 f3 f4 f5 f6 f7 f8 f9 f10 f11 f12 f13 f14 := by
  obtain ⟨A14, c14, hb, hg, hr14⟩ := h
  exact ⟨A14, c14, blk_far hb hne u, hg, hr14⟩
theorem cellS26_0 {W : World} {g : Nat} {A14 : Option Addr} {c14 : Nat} {f0 : Int} {f1 : Int} {f2 : Int} {f3 : Int} {f4 : Int} {f5 : Int} {f6 : Int} {f7 : Int} {f8 : Int} {f9 : Int} {f10 : Int} {f11 : ByteArray} {f12 : ByteArray} {f13 : ByteArray} {f14 : List (S47)} (h : W.heap[g]? = some (.cells #[.int .u8 f0, .int .u8 f1, .int .u8 f2, .int .u8 f3, .int .u32 f4, .int .u16 f5, .int .u16 f6, .int .u32 f7, .int .u32 f8, .int .u32 f9, .int .u32 f10, .string f11, .string f12, .string f13, .slice A14 f14.length c14] 26 (0, 0))) : W.cell? ⟨g, 0, none⟩ = some (.int .u8 f0) := (blk_cell h 0).trans rfl
theorem IsS26.set_0 {w0 W : World} {g : Nat} {f0 : Int} {f1 : Int} {f2 : Int} {f3 : Int} {f4 : Int} {f5 : Int} {f6 : Int} {f7 : Int} {f8 : Int} {f9 : Int} {f10 : Int} {f11 : ByteArray} {f12 : ByteArray} {f13 : ByteArray} {f14 : List (S47)} (h : IsS26 w0 W g f0 f1 f2 f3 f4 f5 f6 f7 f8 f9 f10 f11 f12 f13 f14) (x : Int) : IsS26 w0 (W.setCell ⟨g, 0, none⟩ (.int .u8 x)) g x f1 f2 f3 f4 f5 f6 f7 f8 f9 f10 f11 f12 f13 f14 := by
  obtain ⟨A14, c14, hb, hg, hr14⟩ := h
  exact ⟨A14, c14, by simpa using blk_set hb 0 (.int .u8 x), hg, hr14⟩
theorem cellS26_1 {W : World} {g : Nat} {A14 : Option Addr} {c14 : Nat} {f0 : Int} {f1 : Int} {f2 : Int} {f3 : Int} {f4 : Int} {f5 : Int} {f6 : Int} {f7 : Int} {f8 : Int} {f9 : Int} {f10 : Int} {f11 : ByteArray} {f12 : ByteArray} {f13 : ByteArray} {f14 : List (S47)} (h : W.heap[g]? = some (.cells #[.int .u8 f0, .int .u8 f1, .int .u8 f2, .int .u8 f3, .int .u32 f4, .int .u16 f5, .int .u16 f6, .int .u32 f7, .int .u32 f8, .int .u32 f9, .int .u32 f10, .string f11, .string f12, .string f13, .slice A14 f14.length c14] 26 (0, 0))) : W.cell? ⟨g, 1, none⟩ = some (.int .u8 f1) := (blk_cell h 1).trans rfl
theorem IsS26.set_1 {w0 W : World} {g : Nat} {f0 : Int} {f1 : Int} {f2 : Int} {f3 : Int} {f4 : Int} {f5 : Int} {f6 : Int} {f7 : Int} {f8 : Int} {f9 : Int} {f10 : Int} {f11 : ByteArray} {f12 : ByteArray} {f13 : ByteArray} {f14 : List (S47)} (h : IsS26 w0 W g f0 f1 f2 f3 f4 f5 f6 f7 f8 f9 f10 f11 f12 f13 f14) (x : Int) : IsS26 w0 (W.setCell ⟨g, 1, none⟩ (.int .u8 x)) g f0 x f2 f3 f4 f5 f6 f7 f8 f9 f10 f11 f12 f13 f14 := by
  obtain ⟨A14, c14, hb, hg, hr14⟩ := h
  exact ⟨A14, c14, by simpa using blk_set hb 1 (.int .u8 x), hg, hr14⟩
theorem cellS26_2 {W : World} {g : Nat} {A14 : Option Addr} {c14 : Nat} {f0 : Int} {f1 : Int} {f2 : Int} {f3 : Int} {f4 : Int} {f5 : Int} {f6 : Int} {f7 : Int} {f8 : Int} {f9 : Int} {f10 : Int} {f11 : ByteArray} {f12 : ByteArray} {f13 : ByteArray} {f14 : List (S47)} (h : W.heap[g]? = some (.cells #[.int .u8 f0, .int .u8 f1, .int .u8 f2, .int .u8 f3, .int .u32 f4, .int .u16 f5, .int .u16 f6, .int .u32 f7, .int .u32 f8, .int .u32 f9, .int .u32 f10, .string f11, .string f12, .string f13, .slice A14 f14.length c14] 26 (0, 0))) : W.cell? ⟨g, 2, none⟩ = some (.int .u8 f2) := (blk_cell h 2).trans rfl
theorem IsS26.set_2 {w0 W : World} {g : Nat} {f0 : Int} {f1 : Int} {f2 : Int} {f3 : Int} {f4 : Int} {f5 : Int} {f6 : Int} {f7 : Int} {f8 : Int} {f9 : Int} {f10 : Int} {f11 : ByteArray} {f12 : ByteArray} {f13 : ByteArray} {f14 : List (S47)} (h : IsS26 w0 W g f0 f1 f2 f3 f4 f5 f6 f7 f8 f9 f10 f11 f12 f13 f14) (x : Int) : IsS26 w0 (W.setCell ⟨g, 2, none⟩ (.int .u8 x)) g f0 f1 x f3 f4 f5 f6 f7 f8 f9 f10 f11 f12 f13 f14 := by
  obtain ⟨A14, c14, hb, hg, hr14⟩ := h
  exact ⟨A14, c14, by simpa using blk_set hb 2 (.int .u8 x), hg, hr14⟩
theorem cellS26_3 {W : World} {g : Nat} {A14 : Option Addr} {c14 : Nat} {f0 : Int} {f1 : Int} {f2 : Int} {f3 : Int} {f4 : Int} {f5 : Int} {f6 : Int} {f7 : Int} {f8 : Int} {f9 : Int} {f10 : Int} {f11 : ByteArray} {f12 : ByteArray} {f13 : ByteArray} {f14 : List (S47)} (h : W.heap[g]? = some (.cells #[.int .u8 f0, .int .u8 f1, .int .u8 f2, .int .u8 f3, .int .u32 f4, .int .u16 f5, .int .u16 f6, .int .u32 f7, .int .u32 f8, .int .u32 f9, .int .u32 f10, .string f11, .string f12, .string f13, .slice A14 f14.length c14] 26 (0, 0))) : W.cell? ⟨g, 3, none⟩ = some (.int .u8 f3) := (blk_cell h 3).trans rfl
theorem IsS26.set_3 {w0 W : World} {g : Nat} {f0 : Int} {f1 : Int} {f2 : Int} {f3 : Int} {f4 : Int} {f5 : Int} {f6 : Int} {f7 : Int} {f8 : Int} {f9 : Int} {f10 : Int} {f11 : ByteArray} {f12 : ByteArray} {f13 : ByteArray} {f14 : List (S47)} (h : IsS26 w0 W g f0 f1 f2 f3 f4 f5 f6 f7 f8 f9 f10 f11 f12 f13 f14) (x : Int) : IsS26 w0 (W.setCell ⟨g, 3, none⟩ (.int .u8 x)) g f0 f1 f2 x f4 f5 f6 f7 f8 f9 f10 f11 f12 f13 f14 := by
  obtain ⟨A14, c14, hb, hg, hr14⟩ := h
  exact ⟨A14, c14, by simpa using blk_set hb 3 (.int .u8 x), hg, hr14⟩
theorem cellS26_4 {W : World} {g : Nat} {A14 : Option Addr} {c14 : Nat} {f0 : Int} {f1 : Int} {f2 : Int} {f3 : Int} {f4 : Int} {f5 : Int} {f6 : Int} {f7 : Int} {f8 : Int} {f9 : Int} {f10 : Int} {f11 : ByteArray} {f12 : ByteArray} {f13 : ByteArray} {f14 : List (S47)} (h : W.heap[g]? = some (.cells #[.int .u8 f0, .int .u8 f1, .int .u8 f2, .int .u8 f3, .int .u32 f4, .int .u16 f5, .int .u16 f6, .int .u32 f7, .int .u32 f8, .int .u32 f9, .int .u32 f10, .string f11, .string f12, .string f13, .slice A14 f14.length c14] 26 (0, 0))) : W.cell? ⟨g, 4, none⟩ = some (.int .u32 f4) := (blk_cell h 4).trans rfl
theorem IsS26.set_4 {w0 W : World} {g : Nat} {f0 : Int} {f1 : Int} {f2 : Int} {f3 : Int} {f4 : Int} {f5 : Int} {f6 : Int} {f7 : Int} {f8 : Int} {f9 : Int} {f10 : Int} {f11 : ByteArray} {f12 : ByteArray} {f13 : ByteArray} {f14 : List (S47)} (h : IsS26 w0 W g f0 f1 f2 f3 f4 f5 f6 f7 f8 f9 f10 f11 f12 f13 f14) (x : Int) : IsS26 w0 (W.setCell ⟨g, 4, none⟩ (.int .u32 x)) g f0 f1 f2 f3 x f5 f6 f7 f8 f9 f10 f11 f12 f13 f14 := by
  obtain ⟨A14, c14, hb, hg, hr14⟩ := h
  exact ⟨A14, c14, by simpa using blk_set hb 4 (.int .u32 x), hg, hr14⟩
theorem cellS26_5 {W : World} {g : Nat} {A14 : Option Addr} {c14 : Nat} {f0 : Int} {f1 : Int} {f2 : Int} {f3 : Int} {f4 : Int} {f5 : Int} {f6 : Int} {f7 : Int} {f8 : Int} {f9 : Int} {f10 : Int} {f11 : ByteArray} {f12 : ByteArray} {f13 : ByteArray} {f14 : List (S47)} (h : W.heap[g]? = some (.cells #[.int .u8 f0, .int .u8 f1, .int .u8 f2, .int .u8 f3, .int .u32 f4, .int .u16 f5, .int .u16 f6, .int .u32 f7, .int .u32 f8, .int .u32 f9, .int .u32 f10, .string f11, .string f12, .string f13, .slice A14 f14.length c14] 26 (0, 0))) : W.cell? ⟨g, 5, none⟩ = some (.int .u16 f5) := (blk_cell h 5).trans rfl
theorem IsS26.set_5 {w0 W : World} {g : Nat} {f0 : Int} {f1 : Int} {f2 : Int} {f3 : Int} {f4 : Int} {f5 : Int} {f6 : Int} {f7 : Int} {f8 : Int} {f9 : Int} {f10 : Int} {f11 : ByteArray} {f12 : ByteArray} {f13 : ByteArray} {f14 : List (S47)} (h : IsS26 w0 W g f0 f1 f2 f3 f4 f5 f6 f7 f8 f9 f10 f11 f12 f13 f14) (x : Int) : IsS26 w0 (W.setCell ⟨g, 5, none⟩ (.int .u16 x)) g f0 f1 f2 f3 f4 x f6 f7 f8 f9 f10 f11 f12 f13 f14 := by
  obtain ⟨A14, c14, hb, hg, hr14⟩ := h
  exact ⟨A14, c14, by simpa using blk_set hb 5 (.int .u16 x), hg, hr14⟩
theorem cellS26_6 {W : World} {g : Nat} {A14 : Option Addr} {c14 : Nat} {f0 : Int} {f1 : Int} {f2 : Int} {f3 : Int} {f4 : Int} {f5 : Int} {f6 : Int} {f7 : Int} {f8 : Int} {f9 : Int} {f10 : Int} {f11 : ByteArray} {f12 : ByteArray} {f13 : ByteArray} {f14 : List (S47)} (h : W.heap[g]? = some (.cells #[.int .u8 f0, .int .u8 f1, .int .u8 f2, .int .u8 f3, .int .u32 f4, .int .u16 f5, .int .u16 f6, .int .u32 f7, .int .u32 f8, .int .u32 f9, .int .u32 f10, .string f11, .string f12, .string f13, .slice A14 f14.length c14] 26 (0, 0))) : W.cell? ⟨g, 6, none⟩ = some (.int .u16 f6) := (blk_cell h 6).trans rfl
theorem IsS26.set_6 {w0 W : World} {g : Nat} {f0 : Int} {f1 : Int} {f2 : Int} {f3 : Int} {f4 : Int} {f5 : Int} {f6 : Int} {f7 : Int} {f8 : Int} {f9 : Int} {f10 : Int} {f11 : ByteArray} {f12 : ByteArray} {f13 : ByteArray} {f14 : List (S47)} (h : IsS26 w0 W g f0 f1 f2 f3 f4 f5 f6 f7 f8 f9 f10 f11 f12 f13 f14) (x : Int) : IsS26 w0 (W.setCell ⟨g, 6, none⟩ (.int .u16 x)) g f0 f1 f2 f3 f4 f5 x f7 f8 f9 f10 f11 f12 f13 f14 := by
  obtain ⟨A14, c14, hb, hg, hr14⟩ := h
  exact ⟨A14, c14, by simpa using blk_set hb 6 (.int .u16 x), hg, hr14⟩
theorem cellS26_7 {W : World} {g : Nat} {A14 : Option Addr} {c14 : Nat} {f0 : Int} {f1 : Int} {f2 : Int} {f3 : Int} {f4 : Int} {f5 : Int} {f6 : Int} {f7 : Int} {f8 : Int} {f9 : Int} {f10 : Int} {f11 : ByteArray} {f12 : ByteArray} {f13 : ByteArray} {f14 : List (S47)} (h : W.heap[g]? = some (.cells #[.int .u8 f0, .int .u8 f1, .int .u8 f2, .int .u8 f3, .int .u32 f4, .int .u16 f5, .int .u16 f6, .int .u32 f7, .int .u32 f8, .int .u32 f9, .int .u32 f10, .string f11, .string f12, .string f13, .slice A14 f14.length c14] 26 (0, 0))) : W.cell? ⟨g, 7, none⟩ = some (.int .u32 f7) := (blk_cell h 7).trans rfl
theorem IsS26.set_7 {w0 W : World} {g : Nat} {f0 : Int} {f1 : Int} {f2 : Int} {f3 : Int} {f4 : Int} {f5 : Int} {f6 : Int} {f7 : Int} {f8 : Int} {f9 : Int} {f10 : Int} {f11 : ByteArray} {f12 : ByteArray} {f13 : ByteArray} {f14 : List (S47)} (h : IsS26 w0 W g f0 f1 f2 f3 f4 f5 f6 f7 f8 f9 f10 f11 f12 f13 f14) (x : Int) : IsS26 w0 (W.setCell ⟨g, 7, none⟩ (.int .u32 x)) g f0 f1 f2 f3 f4 f5 f6 x f8 f9 f10 f11 f12 f13 f14 := by
  obtain ⟨A14, c14, hb, hg, hr14⟩ := h
  exact ⟨A14, c14, by simpa using blk_set hb 7 (.int .u32 x), hg, hr14⟩
theorem cellS26_8 {W : World} {g : Nat} {A14 : Option Addr} {c14 : Nat} {f0 : Int} {f1 : Int} {f2 : Int} {f3 : Int} {f4 : Int} {f5 : Int} {f6 : Int} {f7 : Int} {f8 : Int} {f9 : Int} {f10 : Int} {f11 : ByteArray} {f12 : ByteArray} {f13 : ByteArray} {f14 : List (S47)} (h : W.heap[g]? = some (.cells #[.int .u8 f0, .int .u8 f1, .int .u8 f2, .int .u8 f3, .int .u32 f4, .int .u16 f5, .int .u16 f6, .int .u32 f7, .int .u32 f8, .int .u32 f9, .int .u32 f10, .string f11, .string f12, .string f13, .slice A14 f14.length c14] 26 (0, 0))) : W.cell? ⟨g, 8, none⟩ = some (.int .u32 f8) := (blk_cell h 8).trans rfl
theorem IsS26.set_8 {w0 W : World} {g : Nat} {f0 : Int} {f1 : Int} {f2 : Int} {f3 : Int} {f4 : Int} {f5 : Int} {f6 : Int} {f7 : Int} {f8 : Int} {f9 : Int} {f10 : Int} {f11 : ByteArray} {f12 : ByteArray} {f13 : ByteArray} {f14 : List (S47)} (h : IsS26 w0 W g f0 f1 f2 f3 f4 f5 f6 f7 f8 f9 f10 f11 f12 f13 f14) (x : Int) : IsS26 w0 (W.setCell ⟨g, 8, none⟩ (.int .u32 x)) g f0 f1 f2 f3 f4 f5 f6 f7 x f9 f10 f11 f12 f13 f14 := by
  obtain ⟨A14, c14, hb, hg, hr14⟩ := h
  exact ⟨A14, c14, by simpa using blk_set hb 8 (.int .u32 x), hg, hr14⟩
theorem cellS26_9 {W : World} {g : Nat} {A14 : Option Addr} {c14 : Nat} {f0 : Int} {f1 : Int} {f2 : Int} {f3 : Int} {f4 : Int} {f5 : Int} {f6 : Int} {f7 : Int} {f8 : Int} {f9 : Int} {f10 : Int} {f11 : ByteArray} {f12 : ByteArray} {f13 : ByteArray} {f14 : List (S47)} (h : W.heap[g]? = some (.cells #[.int .u8 f0, .int .u8 f1, .int .u8 f2, .int .u8 f3, .int .u32 f4, .int .u16 f5, .int .u16 f6, .int .u32 f7, .int .u32 f8, .int .u32 f9, .int .u32 f10, .string f11, .string f12, .string f13, .slice A14 f14.length c14] 26 (0, 0))) : W.cell? ⟨g, 9, none⟩ = some (.int .u32 f9) := (blk_cell h 9).trans rfl
theorem IsS26.set_9 {w0 W : World} {g : Nat} {f0 : Int} {f1 : Int} {f2 : Int} {f3 : Int} {f4 : Int} {f5 : Int} {f6 : Int} {f7 : Int} {f8 : Int} {f9 : Int} {f10 : Int} {f11 : ByteArray} {f12 : ByteArray} {f13 : ByteArray} {f14 : List (S47)} (h : IsS26 w0 W g f0 f1 f2 f3 f4 f5 f6 f7 f8 f9 f10 f11 f12 f13 f14) (x : Int) : IsS26 w0 (W.setCell ⟨g, 9, none⟩ (.int .u32 x)) g f0 f1 f2 f3 f4 f5 f6 f7 f8 x f10 f11 f12 f13 f14 := by
  obtain ⟨A14, c14, hb, hg, hr14⟩ := h
  exact ⟨A14, c14, by simpa using blk_set hb 9 (.int .u32 x), hg, hr14⟩
theorem cellS26_10 {W : World} {g : Nat} {A14 : Option Addr} {c14 : Nat} {f0 : Int} {f1 : Int} {f2 : Int} {f3 : Int} {f4 : Int} {f5 : Int} {f6 : Int} {f7 : Int} {f8 : Int} {f9 : Int} {f10 : Int} {f11 : ByteArray} {f12 : ByteArray} {f13 : ByteArray} {f14 : List (S47)} (h : W.heap[g]? = some (.cells #[.int .u8 f0, .int .u8 f1, .int .u8 f2, .int .u8 f3, .int .u32 f4, .int .u16 f5, .int .u16 f6, .int .u32 f7, .int .u32 f8, .int .u32 f9, .int .u32 f10, .string f11, .string f12, .string f13, .slice A14 f14.length c14] 26 (0, 0))) : W.cell? ⟨g, 10, none⟩ = some (.int .u32 f10) := (blk_cell h 10).trans rfl
theorem IsS26.set_10 {w0 W : World} {g : Nat} {f0 : Int} {f1 : Int} {f2 : Int} {f3 : Int} {f4 : Int} {f5 : Int} {f6 : Int} {f7 : Int} {f8 : Int} {f9 : Int} {f10 : Int} {f11 : ByteArray} {f12 : ByteArray} {f13 : ByteArray} {f14 : List (S47)} (h : IsS26 w0 W g f0 f1 f2 f3 f4 f5 f6 f7 f8 f9 f10 f11 f12 f13 f14) (x : Int) : IsS26 w0 (W.setCell ⟨g, 10, none⟩ (.int .u32 x)) g f0 f1 f2 f3 f4 f5 f6 f7 f8 f9 x f11 f12 f13 f14 := by
  obtain ⟨A14, c14, hb, hg, hr14⟩ := h
  exact ⟨A14, c14, by simpa using blk_set hb 10 (.int .u32 x), hg, hr14⟩
theorem cellS26_11 {W : World} {g : Nat} {A14 : Option Addr} {c14 : Nat} {f0 : Int} {f1 : Int} {f2 : Int} {f3 : Int} {f4 : Int} {f5 : Int} {f6 : Int} {f7 : Int} {f8 : Int} {f9 : Int} {f10 : Int} {f11 : ByteArray} {f12 : ByteArray} {f13 : ByteArray} {f14 : List (S47)} (h : W.heap[g]? = some (.cells #[.int .u8 f0, .int .u8 f1, .int .u8 f2, .int .u8 f3, .int .u32 f4, .int .u16 f5, .int .u16 f6, .int .u32 f7, .int .u32 f8, .int .u32 f9, .int .u32 f10, .string f11, .string f12, .string f13, .slice A14 f14.length c14] 26 (0, 0))) : W.cell? ⟨g, 11, none⟩ = some (.string f11) := (blk_cell h 11).trans rfl
theorem IsS26.set_11 {w0 W : World} {g : Nat} {f0 : Int} {f1 : Int} {f2 : Int} {f3 : Int} {f4 : Int} {f5 : Int} {f6 : Int} {f7 : Int} {f8 : Int} {f9 : Int} {f10 : Int} {f11 : ByteArray} {f12 : ByteArray} {f13 : ByteArray} {f14 : List (S47)} (h : IsS26 w0 W g f0 f1 f2 f3 f4 f5 f6 f7 f8 f9 f10 f11 f12 f13 f14) (x : ByteArray) : IsS26 w0 (W.setCell ⟨g, 11, none⟩ (.string x)) g f0 f1 f2 f3 f4 f5 f6 f7 f8 f9 f10 x f12 f13 f14 := by
  obtain ⟨A14, c14, hb, hg, hr14⟩ := h
  exact ⟨A14, c14, by simpa using blk_set hb 11 (.string x), hg, hr14⟩
theorem cellS26_12 {W : World} {g : Nat} {A14 : Option Addr} {c14 : Nat} {f0 : Int} {f1 : Int} {f2 : Int} {f3 : Int} {f4 : Int} {f5 : Int} {f6 : Int} {f7 : Int} {f8 : Int} {f9 : Int} {f10 : Int} {f11 : ByteArray} {f12 : ByteArray} {f13 : ByteArray} {f14 : List (S47)} (h : W.heap[g]? = some (.cells #[.int .u8 f0, .int .u8 f1, .int .u8 f2, .int .u8 f3, .int .u32 f4, .int .u16 f5, .int .u16 f6, .int .u32 f7, .int .u32 f8, .int .u32 f9, .int .u32 f10, .string f11, .string f12, .string f13, .slice A14 f14.length c14] 26 (0, 0))) : W.cell? ⟨g, 12, none⟩ = some (.string f12) := (blk_cell h 12).trans rfl
theorem IsS26.set_12 {w0 W : World} {g : Nat} {f0 : Int} {f1 : Int} {f2 : Int} {f3 : Int} {f4 : Int} {f5 : Int} {f6 : Int} {f7 : Int} {f8 : Int} {f9 : Int} {f10 : Int} {f11 : ByteArray} {f12 : ByteArray} {f13 : ByteArray} {f14 : List (S47)} (h : IsS26 w0 W g f0 f1 f2 f3 f4 f5 f6 f7 f8 f9 f10 f11 f12 f13 f14) (x : ByteArray) : IsS26 w0 (W.setCell ⟨g, 12, none⟩ (.string x)) g f0 f1 f2 f3 f4 f5 f6 f7 f8 f9 f10 f11 x f13 f14 := by
  obtain ⟨A14, c14, hb, hg, hr14⟩ := h
  exact ⟨A14, c14, by simpa using blk_set hb 12 (.string x), hg, hr14⟩
theorem cellS26_13 {W : World} {g : Nat} {A14 : Option Addr} {c14 : Nat} {f0 : Int} {f1 : Int} {f2 : Int} {f3 : Int} {f4 : Int} {f5 : Int} {f6 : Int} {f7 : Int} {f8 : Int} {f9 : Int} {f10 : Int} {f11 : ByteArray} {f12 : ByteArray} {f13 : ByteArray} {f14 : List (S47)} (h : W.heap[g]? = some (.cells #[.int .u8 f0, .int .u8 f1, .int .u8 f2, .int .u8 f3, .int .u32 f4, .int .u16 f5, .int .u16 f6, .int .u32 f7, .int .u32 f8, .int .u32 f9, .int .u32 f10, .string f11, .string f12, .string f13, .slice A14 f14.length c14] 26 (0, 0))) : W.cell? ⟨g, 13, none⟩ = some (.string f13) := (blk_cell h 13).trans rfl
theorem IsS26.set_13 {w0 W : World} {g : Nat} {f0 : Int} {f1 : Int} {f2 : Int} {f3 : Int} {f4 : Int} {f5 : Int} {f6 : Int} {f7 : Int} {f8 : Int} {f9 : Int} {f10 : Int} {f11 : ByteArray} {f12 : ByteArray} {f13 : ByteArray} {f14 : List (S47)} (h : IsS26 w0 W g f0 f1 f2 f3 f4 f5 f6 f7 f8 f9 f10 f11 f12 f13 f14) (x : ByteArray) : IsS26 w0 (W.setCell ⟨g, 13, none⟩ (.string x)) g f0 f1 f2 f3 f4 f5 f6 f7 f8 f9 f10 f11 f12 x f14 := by
  obtain ⟨A14, c14, hb, hg, hr14⟩ := h
  exact ⟨A14, c14, by simpa using blk_set hb 13 (.string x), hg, hr14⟩
theorem cellS26_14 {W : World} {g : Nat} {A14 : Option Addr} {c14 : Nat} {f0 : Int} {f1 : Int} {f2 : Int} {f3 : Int} {f4 : Int} {f5 : Int} {f6 : Int} {f7 : Int} {f8 : Int} {f9 : Int} {f10 : Int} {f11 : ByteArray} {f12 : ByteArray} {f13 : ByteArray} {f14 : List (S47)} (h : W.heap[g]? = some (.cells #[.int .u8 f0, .int .u8 f1, .int .u8 f2, .int .u8 f3, .int .u32 f4, .int .u16 f5, .int .u16 f6, .int .u32 f7, .int .u32 f8, .int .u32 f9, .int .u32 f10, .string f11, .string f12, .string f13, .slice A14 f14.length c14] 26 (0, 0))) : W.cell? ⟨g, 14, none⟩ = some (.slice A14 f14.length c14) := (blk_cell h 14).trans rfl
theorem IsS26.new (w0 W : World) (A14 : Option Addr) (c14 : Nat) (f0 : Int) (f1 : Int) (f2 : Int) (f3 : Int) (f4 : Int) (f5 : Int) (f6 : Int) (f7 : Int) (f8 : Int) (f9 : Int) (f10 : Int) (f11 : ByteArray) (f12 : ByteArray) (f13 : ByteArray) (f14 : List (S47)) (hB : Below w0.heap.size w0 W) (hr14 : Kd.C k47 w0 A14 f14.length f14) : IsS26 w0 (W.alloc (.cells #[.int .u8 f0, .int .u8 f1, .int .u8 f2, .int .u8 f3, .int .u32 f4, .int .u16 f5, .int .u16 f6, .int .u32 f7, .int .u32 f8, .int .u32 f9, .int .u32 f10, .string f11, .string f12, .string f13, .slice A14 f14.length c14] 26)) W.heap.size f0 f1 f2 f3 f4 f5 f6 f7 f8 f9 f10 f11 f12 f13 f14 := ⟨A14, c14, by simpa using heap_alloc_new W _, hB.size, hr14⟩

end Go.Proofs.Ytdhmlenmnobmfaa.X
