/- Functions of the program as Lean functions, and that the calls come to them: no condition.  By this session's own program (wip/xprint). -/
import Derived.Test.YtngojiikkokajaaG0
import Derived.Test.YtngojiikkokajaaG1
import Derived.Test.YtngojiikkokajaaG2
import Derived.Test.YtngojiikkokajaaG5
namespace Go.Proofs.Ytngojiikkokajaa.X
open Go.RowKit Go.Proofs.YtngojiikkokajaaW.PrintWords Go.Proofs.YtngojiikkokajaaW.PrintLast Go.Proofs.YtngojiikkokajaaW.PrintMore
attribute [local go_sem] max2_int min2_int max_two min_two max_three min_three max_four min_four   -- for this text's walks alone
set_option linter.unusedVariables false
set_option linter.unusedSimpArgs false
attribute [local go_sem high] eqA40
/-! ### tenancylaw15_Opt6Rows: function 7 -/
def tenancylaw15_Opt6Rows.j0 : Nat → ByteArray → ByteArray → List (S40) → List (S40) → Bool → Option (Bool)
  | 0, _, _, _, _, _ => none
  | k + 1, x0, x1, x5, x7, x28 => if x28 = true then (some true) else ((opt6_Emit.f x5).bind fun bt487 => (if bt487.2 = 0 then (if bt487.1.toList = x0.toList then (if x0.size + x1.size ≤ 9223372036854775807 then ((opt6_Parse.f k (x0 ++ x1)).bind fun bt489 => (if (wrap64 ((x5.length : Int) + (x7.length : Int))) > 128 then (if bt489.2 = 6 then (some ((bt489.1.length : Int) == 0)) else (none)) else (if bt489.2 = 0 then (if (bt489.1.length : Int) = (wrap64 ((x5.length : Int) + (x7.length : Int))) then (if 0 ≤ (x5.length : Int) then (if (x5.length : Int) ≤ (bt489.1.length : Int) then ((tenancylaw15_same.f k (bt489.1.take (x5.length)) x5).bind fun t497 => (if t497 = true then ((tenancylaw15_same.f k (bt489.1.drop (x5.length)) x7).bind fun t502 => (if t502 = true then (if (x1.size : Int) = 0 then (some true) else (if 0 ≤ (wrap64 ((x1.size : Int) - 1)) then (if (wrap64 ((x1.size : Int) - 1)) ≤ (x1.size : Int) then (if x0.size + (x1.extract 0 ((wrap64 ((x1.size : Int) - 1)) : Int).toNat).size ≤ 9223372036854775807 then ((opt6_Parse.f k (x0 ++ (x1.extract 0 ((wrap64 ((x1.size : Int) - 1)) : Int).toNat))).bind fun bt503 => (some (bt503.2 == 3))) else (none)) else (none)) else (none))) else (none))) else (none))) else (none)) else (none)) else (none)) else (none)))) else (none)) else (none)) else (none)))
def tenancylaw15_Opt6Rows.f (k : Nat) (a0 : ByteArray) (a1 : ByteArray) : Option (Bool) := (tenancylaw15_awake.f k).bind fun t478 => (if t478 = true then ((opt6_Parse.f k a0).bind fun bt479 => ((opt6_Parse.f k a1).bind fun bt483 => (if bt479.2 = 0 then (tenancylaw15_Opt6Rows.j0 k a0 a1 bt479.1 bt483.1 (bt483.2 != 0)) else (tenancylaw15_Opt6Rows.j0 k a0 a1 bt479.1 bt483.1 true)))) else (none))
theorem tenancylaw15_Opt6Rows.mono_l : ∀ k, (∀ y0 y1 y2 y3 y4, LeO (tenancylaw15_Opt6Rows.j0 k y0 y1 y2 y3 y4) (tenancylaw15_Opt6Rows.j0 (k + 1) y0 y1 y2 y3 y4))
  | 0 => fun _ _ _ _ _ r h => by simp [tenancylaw15_Opt6Rows.j0] at h
  | k + 1 => by
    have ih0 := tenancylaw15_Opt6Rows.mono_l k
    · intro y0 y1 y2 y3 y4
      unfold tenancylaw15_Opt6Rows.j0
      repeat' first
      | (with_reducible exact ih0 _ _ _ _ _)
      | (with_reducible exact opt6_Parse.mono _ _)
      | (with_reducible exact tenancylaw15_awake.mono _)
      | (with_reducible exact tenancylaw15_same.mono _ _ _)
      | (with_reducible exact LeO.refl _)
      | (with_reducible exact LeO.none _)
      | (with_reducible refine LeO.ite ?_ ?_)
      | (with_reducible refine LeO.bind ?_ (fun _ => ?_))
      | exact ih0 _ _ _ _ _
      | exact opt6_Parse.mono _ _
      | exact tenancylaw15_awake.mono _
      | exact tenancylaw15_same.mono _ _ _
      | exact LeO.none _
      | refine LeO.ite ?_ ?_
      | refine LeO.bind ?_ (fun _ => ?_)
theorem tenancylaw15_Opt6Rows.mono : ∀ a0 a1 k, LeO (tenancylaw15_Opt6Rows.f k a0 a1) (tenancylaw15_Opt6Rows.f (k + 1) a0 a1) := by
  intro a0 a1 k
  have ih0 := tenancylaw15_Opt6Rows.mono_l k
  unfold tenancylaw15_Opt6Rows.f
  repeat' first
      | (with_reducible exact ih0 _ _ _ _ _)
      | (with_reducible exact opt6_Parse.mono _ _)
      | (with_reducible exact tenancylaw15_awake.mono _)
      | (with_reducible exact tenancylaw15_same.mono _ _ _)
      | (with_reducible exact LeO.refl _)
      | (with_reducible exact LeO.none _)
      | (with_reducible refine LeO.ite ?_ ?_)
      | (with_reducible refine LeO.bind ?_ (fun _ => ?_))
      | exact ih0 _ _ _ _ _
      | exact opt6_Parse.mono _ _
      | exact tenancylaw15_awake.mono _
      | exact tenancylaw15_same.mono _ _ _
      | exact LeO.none _
      | refine LeO.ite ?_ ?_
      | refine LeO.bind ?_ (fun _ => ?_)
set_option maxHeartbeats 8000000 in
set_option maxRecDepth 100000 in
theorem tenancylaw15_Opt6Rows.calls (k : Nat) (a0 : ByteArray) (a1 : ByteArray) (r : Bool) (w : World) (h : tenancylaw15_Opt6Rows.f k a0 a1 = some r) :
    Calls Try.prog 7 #[.string a0, .string a1] w fun e w' => e = .returned (.bool r) ∧ Below w.heap.size w w' := by
  have HB := Aside0.mk (Below.refl w.heap.size w)
  have H : ((tenancylaw15_awake.f k).bind fun t478 => (if t478 = true then ((opt6_Parse.f k a0).bind fun bt479 => ((opt6_Parse.f k a1).bind fun bt483 => (if bt479.2 = 0 then (tenancylaw15_Opt6Rows.j0 k a0 a1 bt479.1 bt483.1 (bt483.2 != 0)) else (tenancylaw15_Opt6Rows.j0 k a0 a1 bt479.1 bt483.1 true)))) else (none))) = some r := h
  clear h
  replace H := Option.bind_eq_some_iff.mp H
  obtain ⟨t478, A30, H⟩ := H
  replace H : (if t478 = true then ((opt6_Parse.f k a0).bind fun bt479 => ((opt6_Parse.f k a1).bind fun bt483 => (if bt479.2 = 0 then (tenancylaw15_Opt6Rows.j0 k a0 a1 bt479.1 bt483.1 (bt483.2 != 0)) else (tenancylaw15_Opt6Rows.j0 k a0 a1 bt479.1 bt483.1 true)))) else (none)) = some r := H
  have A3 := Aside0.mk A30
  clear A30
  by_cases c4 : t478 = true
  · subst c4
    have H1 : ((opt6_Parse.f k a0).bind fun bt479 => ((opt6_Parse.f k a1).bind fun bt483 => (if bt479.2 = 0 then (tenancylaw15_Opt6Rows.j0 k a0 a1 bt479.1 bt483.1 (bt483.2 != 0)) else (tenancylaw15_Opt6Rows.j0 k a0 a1 bt479.1 bt483.1 true)))) = some r := by rw [if_pos rfl] at H; exact H
    clear H
    have H := H1
    clear H1
    replace H := Option.bind_eq_some_iff.mp H
    obtain ⟨⟨t479, t480⟩, A50, H⟩ := H
    replace H : ((opt6_Parse.f k a1).bind fun bt483 => (if t480 = 0 then (tenancylaw15_Opt6Rows.j0 k a0 a1 t479 bt483.1 (bt483.2 != 0)) else (tenancylaw15_Opt6Rows.j0 k a0 a1 t479 bt483.1 true))) = some r := H
    have A5 := Aside0.mk A50
    clear A50
    replace H := Option.bind_eq_some_iff.mp H
    obtain ⟨⟨t483, t484⟩, A60, H⟩ := H
    replace H : (if t480 = 0 then (tenancylaw15_Opt6Rows.j0 k a0 a1 t479 t483 (t484 != 0)) else (tenancylaw15_Opt6Rows.j0 k a0 a1 t479 t483 true)) = some r := H
    have A6 := Aside0.mk A60
    clear A60
    have HC7 := Aside0.mk H
    clear H
    go_enter Try.func7, Try.ntmps7
    go_upto_region 5 with (first | ((with_reducible refine gate_callee (f := 9) rfl ?_); refine goesL_ (some 11) rfl rfl Try.func9 (by kernel_rfl) rfl #[] rfl (by (try simp only [List.map_toArray, List.map_cons, List.map_nil]); first | done | rfl | (simp only [List.length_drop, List.length_take]; rfl)) ?_; (with_reducible refine (tenancylaw15_awake.calls k  true _ A3.out).mono ?_); rintro e w8 ⟨rfl, hb⟩; refine ⟨_, rfl, ?_⟩; have n0_ := Aside0.mk (below_step (by repeat (first | (with_reducible first | exact HB.out | apply below_alloc | apply pw_below_drewN | apply below_drew1) | exact HB.out)) hb); clear HB; have HB := n0_; clear n0_; (try clear hb); (try clear hb2); (try clear hk); (try clear hi)) | ((with_reducible refine gate_callee (f := 10) rfl ?_); refine goesL_ (some 15) rfl rfl Try.func10 (by kernel_rfl) rfl #[.string a0] rfl (by (try simp only [List.map_toArray, List.map_cons, List.map_nil]); first | done | rfl | (simp only [List.length_drop, List.length_take]; rfl)) ?_; (with_reducible refine (opt6_Parse.calls k a0 t479 t480 _ A5.out).mono ?_); rintro e w9 ⟨v481, rfl, ho0, hb⟩; refine ⟨_, rfl, ?_⟩; have n0_ := Aside0.mk (Kd.R_lower ho0 (below_size (by repeat (first | (with_reducible first | exact HB.out | apply below_alloc | apply pw_below_drewN | apply below_drew1) | exact HB.out)))); have n1_ := Aside0.mk (below_step (by repeat (first | (with_reducible first | exact HB.out | apply below_alloc | apply pw_below_drewN | apply below_drew1) | exact HB.out)) hb); clear HB; have HO482 := n0_; have HB := n1_; clear n0_ n1_; (try clear hb); (try clear hb2); (try clear hk); (try clear hi); (try clear ho0)) | ((with_reducible refine gate_callee (f := 10) rfl ?_); refine goesL_ (some 20) rfl rfl Try.func10 (by kernel_rfl) rfl #[.string a1] rfl (by (try simp only [List.map_toArray, List.map_cons, List.map_nil]); first | done | rfl | (simp only [List.length_drop, List.length_take]; rfl)) ?_; (with_reducible refine (opt6_Parse.calls k a1 t483 t484 _ A6.out).mono ?_); rintro e w10 ⟨v485, rfl, ho0, hb⟩; refine ⟨_, rfl, ?_⟩; have n0_ := Aside0.mk (Kd.R_elder' (by (with_reducible repeat (first | apply Kd.R_alloc | apply Kd.R_drewN | apply Kd.R_drew)); exact HO482.out) (Kd.R_base ho0) hb); have n1_ := Aside0.mk (Kd.R_lower (Kd.R_new' ho0 (Kd.R_lt (by (with_reducible repeat (first | apply Kd.R_alloc | apply Kd.R_drewN | apply Kd.R_drew)); exact HO482.out))) (below_size (by repeat (first | (with_reducible first | exact HB.out | apply below_alloc | apply pw_below_drewN | apply below_drew1) | exact HB.out)))); have n2_ := Aside0.mk (below_step (by repeat (first | (with_reducible first | exact HB.out | apply below_alloc | apply pw_below_drewN | apply below_drew1) | exact HB.out)) hb); clear HO482; clear HB; have HO482 := n0_; have HO486 := n1_; have HB := n2_; clear n0_ n1_ n2_; (try clear hb); (try clear hb2); (try clear hk); (try clear hi); (try clear ho0)))
    (try simp only [Act.put, List.setIfInBounds_toArray, List.set_cons_zero, List.set_cons_succ])
    go_cut [28] (fun v28 wc => ∃ (kq : Nat) (x28_6 : Bool), v28 = .bool x28_6 ∧ Aside0 (tenancylaw15_Opt6Rows.j0 kq a0 a1 t479 t483 x28_6 = some r) ∧ Aside0 (kq ≤ k) ∧ Aside0 (Kd.R k40 40 wc w.heap.size (fun k_ => some k_ ≠ (v485 : Value).ownBlock) v481 t479) ∧ Aside0 (Kd.R k40 40 wc w.heap.size (fun k_ => some k_ ≠ (v481 : Value).ownBlock) v485 t483) ∧ Aside0 (Below w.heap.size w wc))
    case first =>
      have H := HC7.out
      clear HC7
      by_cases c11 : t480 = 0
      · rw [if_pos c11] at H
        have c11b0 : (t480 == 0) = true := beq_iff_eq.mpr c11
        have c11b1 : (t480 != 0) = false := bne_eq_false_iff_eq.mpr c11
        clear c11
        (first | rw [c11b0] | (simp only [i64_w, i32_w]; rw [c11b0]) | skip)
        have H' := Aside0.mk H
        clear H
        go_wp2
        go_meet
        case rel => exact ⟨_, ((t484 != 0)), (by first | rfl | (simp; done) | (simp only [ByteArray.size_extract]; rw [Nat.min_eq_left (by omega)]; done) | (simp [*]; done)), H', ⟨by first | omega | exact Nat.le_refl _⟩, ⟨by (with_reducible repeat (first | apply Kd.R_alloc | apply Kd.R_drewN | apply Kd.R_drew)); exact Kd.R_mono HO482.out (fun _ hk => hk.2)⟩, ⟨by (with_reducible repeat (first | apply Kd.R_alloc | apply Kd.R_drewN | apply Kd.R_drew)); exact Kd.R_mono HO486.out (fun _ hk => hk.2)⟩, ⟨by repeat (first | (with_reducible first | exact HB.out | apply below_alloc | apply pw_below_drewN | apply below_drew1) | exact HB.out)⟩⟩
      · rw [if_neg c11] at H
        have c11b0 : (t480 == 0) = false := beq_eq_false_iff_ne.mpr c11
        have c11b1 : (t480 != 0) = true := bne_iff_ne.mpr c11
        (first | rw [c11b0] | (simp only [i64_w, i32_w]; rw [c11b0]) | skip)
        have H' := Aside0.mk H
        clear H
        go_wp2
        go_meet
        case rel => exact ⟨_, (true), (by first | rfl | (simp; done) | (simp only [ByteArray.size_extract]; rw [Nat.min_eq_left (by omega)]; done) | (simp [*]; done)), H', ⟨by first | omega | exact Nat.le_refl _⟩, ⟨by (with_reducible repeat (first | apply Kd.R_alloc | apply Kd.R_drewN | apply Kd.R_drew)); exact Kd.R_mono HO482.out (fun _ hk => hk.2)⟩, ⟨by (with_reducible repeat (first | apply Kd.R_alloc | apply Kd.R_drewN | apply Kd.R_drew)); exact Kd.R_mono HO486.out (fun _ hk => hk.2)⟩, ⟨by repeat (first | (with_reducible first | exact HB.out | apply below_alloc | apply pw_below_drewN | apply below_drew1) | exact HB.out)⟩⟩
    case rest =>
      clear HC7
      try clear c1
      try clear p2
      try clear c4
      try clear c7
      try clear c9
      try clear c10
      try clear c11
      try clear c11b0
      try clear c11b1
      obtain ⟨kq, x28_6, rfl, HA, HJ6, HO_5, HO_7, HB⟩ := hcut
      cases kq with
      | zero => exact absurd HA.out (by simp [tenancylaw15_Opt6Rows.j0])
      | succ kj6 =>
        have H := HA.out
        clear HA
        simp only [tenancylaw15_Opt6Rows.j0] at H
        by_cases c12 : x28_6 = true
        · subst c12
          have H1 : (some true) = some r := by rw [if_pos rfl] at H; exact H
          clear H
          have H := H1
          clear H1
          obtain rfl := Option.some.inj H
          go_wp2
          go_ret
          exact ⟨by first | rfl | (simp [errW_none, errW_some] <;> rfl) | (simp [*, errW_none, errW_some] <;> rfl), by repeat (first | (with_reducible first | exact HB.out | apply below_alloc | apply pw_below_drewN | apply below_drew1) | exact HB.out)⟩
        · replace c12 := Bool.eq_false_iff.mpr c12
          subst c12
          have H1 : ((opt6_Emit.f t479).bind fun bt487 => (if bt487.2 = 0 then (if bt487.1.toList = a0.toList then (if a0.size + a1.size ≤ 9223372036854775807 then ((opt6_Parse.f kj6 (a0 ++ a1)).bind fun bt489 => (if (wrap64 ((t479.length : Int) + (t483.length : Int))) > 128 then (if bt489.2 = 6 then (some ((bt489.1.length : Int) == 0)) else (none)) else (if bt489.2 = 0 then (if (bt489.1.length : Int) = (wrap64 ((t479.length : Int) + (t483.length : Int))) then (if 0 ≤ (t479.length : Int) then (if (t479.length : Int) ≤ (bt489.1.length : Int) then ((tenancylaw15_same.f kj6 (bt489.1.take (t479.length)) t479).bind fun t497 => (if t497 = true then ((tenancylaw15_same.f kj6 (bt489.1.drop (t479.length)) t483).bind fun t502 => (if t502 = true then (if (a1.size : Int) = 0 then (some true) else (if 0 ≤ (wrap64 ((a1.size : Int) - 1)) then (if (wrap64 ((a1.size : Int) - 1)) ≤ (a1.size : Int) then (if a0.size + (a1.extract 0 ((wrap64 ((a1.size : Int) - 1)) : Int).toNat).size ≤ 9223372036854775807 then ((opt6_Parse.f kj6 (a0 ++ (a1.extract 0 ((wrap64 ((a1.size : Int) - 1)) : Int).toNat))).bind fun bt503 => (some (bt503.2 == 3))) else (none)) else (none)) else (none))) else (none))) else (none))) else (none)) else (none)) else (none)) else (none)))) else (none)) else (none)) else (none))) = some r := by rw [if_neg (show ¬ (false = true) by decide)] at H; exact H
          clear H
          have H := H1
          clear H1
          replace H := Option.bind_eq_some_iff.mp H
          obtain ⟨⟨t487, t488⟩, A130, H⟩ := H
          replace H : (if t488 = 0 then (if t487.toList = a0.toList then (if a0.size + a1.size ≤ 9223372036854775807 then ((opt6_Parse.f kj6 (a0 ++ a1)).bind fun bt489 => (if (wrap64 ((t479.length : Int) + (t483.length : Int))) > 128 then (if bt489.2 = 6 then (some ((bt489.1.length : Int) == 0)) else (none)) else (if bt489.2 = 0 then (if (bt489.1.length : Int) = (wrap64 ((t479.length : Int) + (t483.length : Int))) then (if 0 ≤ (t479.length : Int) then (if (t479.length : Int) ≤ (bt489.1.length : Int) then ((tenancylaw15_same.f kj6 (bt489.1.take (t479.length)) t479).bind fun t497 => (if t497 = true then ((tenancylaw15_same.f kj6 (bt489.1.drop (t479.length)) t483).bind fun t502 => (if t502 = true then (if (a1.size : Int) = 0 then (some true) else (if 0 ≤ (wrap64 ((a1.size : Int) - 1)) then (if (wrap64 ((a1.size : Int) - 1)) ≤ (a1.size : Int) then (if a0.size + (a1.extract 0 ((wrap64 ((a1.size : Int) - 1)) : Int).toNat).size ≤ 9223372036854775807 then ((opt6_Parse.f kj6 (a0 ++ (a1.extract 0 ((wrap64 ((a1.size : Int) - 1)) : Int).toNat))).bind fun bt503 => (some (bt503.2 == 3))) else (none)) else (none)) else (none))) else (none))) else (none))) else (none)) else (none)) else (none)) else (none)))) else (none)) else (none)) else (none)) = some r := H
          have A13 := Aside0.mk A130
          clear A130
          by_cases c14 : t488 = 0
          · rw [if_pos c14] at H
            have c14b0 : (t488 == 0) = true := beq_iff_eq.mpr c14
            have c14b1 : (t488 != 0) = false := bne_eq_false_iff_eq.mpr c14
            clear c14
            by_cases c15 : t487.toList = a0.toList
            · rw [if_pos c15] at H
              have c15b0 : (t487.toList == a0.toList) = true := beq_iff_eq.mpr c15
              have c15b1 : (t487.toList != a0.toList) = false := bne_eq_false_iff_eq.mpr c15
              clear c15
              by_cases c16 : a0.size + a1.size ≤ 9223372036854775807
              · rw [if_pos c16] at H
                have c16b0 := eq_true c16
                have c16b1 : decide (a0.size + a1.size ≤ 9223372036854775807) = true := decide_eq_true c16
                try have c16b2 : (9223372036854775807 < a0.size + a1.size) = False := eq_false (Nat.not_lt.2 c16)
                replace H := Option.bind_eq_some_iff.mp H
                obtain ⟨⟨t489, t490⟩, A170, H⟩ := H
                replace H : (if (wrap64 ((t479.length : Int) + (t483.length : Int))) > 128 then (if t490 = 6 then (some ((t489.length : Int) == 0)) else (none)) else (if t490 = 0 then (if (t489.length : Int) = (wrap64 ((t479.length : Int) + (t483.length : Int))) then (if 0 ≤ (t479.length : Int) then (if (t479.length : Int) ≤ (t489.length : Int) then ((tenancylaw15_same.f kj6 (t489.take (t479.length)) t479).bind fun t497 => (if t497 = true then ((tenancylaw15_same.f kj6 (t489.drop (t479.length)) t483).bind fun t502 => (if t502 = true then (if (a1.size : Int) = 0 then (some true) else (if 0 ≤ (wrap64 ((a1.size : Int) - 1)) then (if (wrap64 ((a1.size : Int) - 1)) ≤ (a1.size : Int) then (if a0.size + (a1.extract 0 ((wrap64 ((a1.size : Int) - 1)) : Int).toNat).size ≤ 9223372036854775807 then ((opt6_Parse.f kj6 (a0 ++ (a1.extract 0 ((wrap64 ((a1.size : Int) - 1)) : Int).toNat))).bind fun bt503 => (some (bt503.2 == 3))) else (none)) else (none)) else (none))) else (none))) else (none))) else (none)) else (none)) else (none)) else (none))) = some r := H
                have A17 := Aside0.mk A170
                clear A170
                by_cases c18 : (wrap64 ((t479.length : Int) + (t483.length : Int))) > 128
                · rw [if_pos c18] at H
                  have c18b0 : decide (128 < (wrap64 ((t479.length : Int) + (t483.length : Int)))) = true := decide_eq_true c18
                  clear c18
                  by_cases c19 : t490 = 6
                  · rw [if_pos c19] at H
                    have c19b0 : (t490 == 6) = true := beq_iff_eq.mpr c19
                    have c19b1 : (t490 != 6) = false := bne_eq_false_iff_eq.mpr c19
                    clear c19
                    obtain rfl := Option.some.inj H
                    obtain ⟨Ao20, co20, eo20⟩ := Kd.R_slice HO_5.out
                    subst eo20
                    go_wp2_with (first | ((with_reducible refine gate_callee (f := 13) rfl ?_); refine goesL_ (some 31) rfl rfl Try.func13 (by kernel_rfl) rfl #[.slice Ao20 t479.length co20] rfl (by (try simp only [List.map_toArray, List.map_cons, List.map_nil]); first | done | rfl | (simp only [List.length_drop, List.length_take]; rfl)) ?_; (with_reducible refine (opt6_Emit.calls _ _ t479 t487 t488 _ ?side1 ?side2 A13.out).mono ?_); (case side1 => repeat (first | exact (Kd.R_reads' HO_5.out).2.2 | (with_reducible refine Kd.C_alloc ?_ _) | (with_reducible refine Kd.C_drewN ?_ _) | (with_reducible refine Kd.C_drew ?_))); (case side2 => exact (Kd.R_reads' HO_5.out).2.1); rintro e w21 ⟨rfl, hb⟩; refine ⟨_, rfl, ?_⟩; have n0_ := Aside0.mk (Kd.R_below (by (with_reducible repeat (first | apply Kd.R_alloc | apply Kd.R_drewN | apply Kd.R_drew)); exact HO_5.out) hb); have n1_ := Aside0.mk (Kd.R_below (by (with_reducible repeat (first | apply Kd.R_alloc | apply Kd.R_drewN | apply Kd.R_drew)); exact HO_7.out) hb); have n2_ := Aside0.mk (below_step (by repeat (first | (with_reducible first | exact HB.out | apply below_alloc | apply pw_below_drewN | apply below_drew1) | exact HB.out)) hb); clear HO_5; clear HO_7; clear HB; have HO_5 := n0_; have HO_7 := n1_; have HB := n2_; clear n0_ n1_ n2_; (try clear hb); (try clear hb2); (try clear hk); (try clear hi)) | ((with_reducible refine gate_callee (f := 10) rfl ?_); refine goesL_ (some 45) rfl rfl Try.func10 (by kernel_rfl) rfl #[.string (a0 ++ a1)] rfl (by (try simp only [List.map_toArray, List.map_cons, List.map_nil]); first | done | rfl | (simp only [List.length_drop, List.length_take]; rfl)) ?_; (with_reducible refine (opt6_Parse.calls kj6 (a0 ++ a1) t489 t490 _ A17.out).mono ?_); rintro e w22 ⟨v491, rfl, ho0, hb⟩; refine ⟨_, rfl, ?_⟩; have n0_ := Aside0.mk (Kd.R_elder' (by (with_reducible repeat (first | apply Kd.R_alloc | apply Kd.R_drewN | apply Kd.R_drew)); exact HO_5.out) (Kd.R_base ho0) hb); have n1_ := Aside0.mk (Kd.R_elder' (by (with_reducible repeat (first | apply Kd.R_alloc | apply Kd.R_drewN | apply Kd.R_drew)); exact HO_7.out) (Kd.R_base ho0) hb); have n2_ := Aside0.mk (Kd.R_lower (Kd.R_new' (Kd.R_new' ho0 (Kd.R_lt (by (with_reducible repeat (first | apply Kd.R_alloc | apply Kd.R_drewN | apply Kd.R_drew)); exact HO_5.out))) (Kd.R_lt (by (with_reducible repeat (first | apply Kd.R_alloc | apply Kd.R_drewN | apply Kd.R_drew)); exact HO_7.out))) (below_size (by repeat (first | (with_reducible first | exact HB.out | apply below_alloc | apply pw_below_drewN | apply below_drew1) | exact HB.out)))); have n3_ := Aside0.mk (below_step (by repeat (first | (with_reducible first | exact HB.out | apply below_alloc | apply pw_below_drewN | apply below_drew1) | exact HB.out)) hb); clear HO_5; clear HO_7; clear HB; have HO_5 := n0_; have HO_7 := n1_; have HO492 := n2_; have HB := n3_; clear n0_ n1_ n2_ n3_; (try clear hb); (try clear hb2); (try clear hk); (try clear hi); (try clear ho0); obtain ⟨Ao23, co23, eo23⟩ := Kd.R_slice HO_7.out; subst eo23; obtain ⟨Ao24, co24, eo24⟩ := Kd.R_slice HO492.out; subst eo24))
                    go_ret
                    exact ⟨by first | rfl | (simp [errW_none, errW_some] <;> rfl) | (simp [*, errW_none, errW_some] <;> rfl), by repeat (first | (with_reducible first | exact HB.out | apply below_alloc | apply pw_below_drewN | apply below_drew1) | exact HB.out)⟩
                  · rw [if_neg c19] at H
                    exact absurd H (by simp)
                · rw [if_neg c18] at H
                  have c18b0 : decide (128 < (wrap64 ((t479.length : Int) + (t483.length : Int)))) = false := decide_eq_false c18
                  clear c18
                  by_cases c25 : t490 = 0
                  · rw [if_pos c25] at H
                    have c25b0 : (t490 == 0) = true := beq_iff_eq.mpr c25
                    have c25b1 : (t490 != 0) = false := bne_eq_false_iff_eq.mpr c25
                    clear c25
                    by_cases c26 : (t489.length : Int) = (wrap64 ((t479.length : Int) + (t483.length : Int)))
                    · rw [if_pos c26] at H
                      have c26b0 : ((t489.length : Int) == (wrap64 ((t479.length : Int) + (t483.length : Int)))) = true := beq_iff_eq.mpr c26
                      have c26b1 : ((t489.length : Int) != (wrap64 ((t479.length : Int) + (t483.length : Int)))) = false := bne_eq_false_iff_eq.mpr c26
                      clear c26
                      by_cases c27 : 0 ≤ (t479.length : Int)
                      · rw [if_pos c27] at H
                        have c27b0 := eq_true c27
                        have c27b1 : decide (0 ≤ (t479.length : Int)) = true := decide_eq_true c27
                        clear c27
                        by_cases c28 : (t479.length : Int) ≤ (t489.length : Int)
                        · rw [if_pos c28] at H
                          have c28b0 := eq_true c28
                          have c28b1 : decide ((t479.length : Int) ≤ (t489.length : Int)) = true := decide_eq_true c28
                          clear c28
                          obtain ⟨y493, hy493⟩ : ∃ y_ : List (S40), y_ = (t489.take (t479.length)) := ⟨_, rfl⟩
                          replace H : ((tenancylaw15_same.f kj6 y493 t479).bind fun t497 => (if t497 = true then ((tenancylaw15_same.f kj6 (t489.drop (t479.length)) t483).bind fun t502 => (if t502 = true then (if (a1.size : Int) = 0 then (some true) else (if 0 ≤ (wrap64 ((a1.size : Int) - 1)) then (if (wrap64 ((a1.size : Int) - 1)) ≤ (a1.size : Int) then (if a0.size + (a1.extract 0 ((wrap64 ((a1.size : Int) - 1)) : Int).toNat).size ≤ 9223372036854775807 then ((opt6_Parse.f kj6 (a0 ++ (a1.extract 0 ((wrap64 ((a1.size : Int) - 1)) : Int).toNat))).bind fun bt503 => (some (bt503.2 == 3))) else (none)) else (none)) else (none))) else (none))) else (none))) = some r := by first | (rw [hy493]; with_reducible exact H) | (have H2_ := (Option.bind_some _ _).symm.trans H; rw [hy493]; with_reducible exact H2_) | (have H2_ := (Option.bind_some _ _).symm.trans H; with_reducible exact H2_) | with_reducible exact H | (rw [hy493]; exact H) | exact H
                          have Ny493 := Aside0.mk hy493
                          clear hy493
                          replace H := Option.bind_eq_some_iff.mp H
                          obtain ⟨t497, A290, H⟩ := H
                          replace H : (if t497 = true then ((tenancylaw15_same.f kj6 (t489.drop (t479.length)) t483).bind fun t502 => (if t502 = true then (if (a1.size : Int) = 0 then (some true) else (if 0 ≤ (wrap64 ((a1.size : Int) - 1)) then (if (wrap64 ((a1.size : Int) - 1)) ≤ (a1.size : Int) then (if a0.size + (a1.extract 0 ((wrap64 ((a1.size : Int) - 1)) : Int).toNat).size ≤ 9223372036854775807 then ((opt6_Parse.f kj6 (a0 ++ (a1.extract 0 ((wrap64 ((a1.size : Int) - 1)) : Int).toNat))).bind fun bt503 => (some (bt503.2 == 3))) else (none)) else (none)) else (none))) else (none))) else (none)) = some r := H
                          have A29 := Aside0.mk A290
                          clear A290
                          by_cases c30 : t497 = true
                          · subst c30
                            have H1 : ((tenancylaw15_same.f kj6 (t489.drop (t479.length)) t483).bind fun t502 => (if t502 = true then (if (a1.size : Int) = 0 then (some true) else (if 0 ≤ (wrap64 ((a1.size : Int) - 1)) then (if (wrap64 ((a1.size : Int) - 1)) ≤ (a1.size : Int) then (if a0.size + (a1.extract 0 ((wrap64 ((a1.size : Int) - 1)) : Int).toNat).size ≤ 9223372036854775807 then ((opt6_Parse.f kj6 (a0 ++ (a1.extract 0 ((wrap64 ((a1.size : Int) - 1)) : Int).toNat))).bind fun bt503 => (some (bt503.2 == 3))) else (none)) else (none)) else (none))) else (none))) = some r := by rw [if_pos rfl] at H; exact H
                            clear H
                            have H := H1
                            clear H1
                            have c31b0 := eq_true (of_decide_eq_true (by first | (with_reducible assumption) | assumption) : 0 ≤ (t479.length : Int))
                            have c32b0 := eq_true (of_decide_eq_true (by first | (with_reducible assumption) | assumption) : (t479.length : Int) ≤ (t489.length : Int))
                            obtain ⟨y498, hy498⟩ : ∃ y_ : List (S40), y_ = (t489.drop (t479.length)) := ⟨_, rfl⟩
                            replace H : ((tenancylaw15_same.f kj6 y498 t483).bind fun t502 => (if t502 = true then (if (a1.size : Int) = 0 then (some true) else (if 0 ≤ (wrap64 ((a1.size : Int) - 1)) then (if (wrap64 ((a1.size : Int) - 1)) ≤ (a1.size : Int) then (if a0.size + (a1.extract 0 ((wrap64 ((a1.size : Int) - 1)) : Int).toNat).size ≤ 9223372036854775807 then ((opt6_Parse.f kj6 (a0 ++ (a1.extract 0 ((wrap64 ((a1.size : Int) - 1)) : Int).toNat))).bind fun bt503 => (some (bt503.2 == 3))) else (none)) else (none)) else (none))) else (none))) = some r := by first | (rw [hy498]; with_reducible exact H) | (have H2_ := (Option.bind_some _ _).symm.trans H; rw [hy498]; with_reducible exact H2_) | (have H2_ := (Option.bind_some _ _).symm.trans H; with_reducible exact H2_) | with_reducible exact H | (rw [hy498]; exact H) | exact H
                            have Ny498 := Aside0.mk hy498
                            clear hy498
                            replace H := Option.bind_eq_some_iff.mp H
                            obtain ⟨t502, A330, H⟩ := H
                            replace H : (if t502 = true then (if (a1.size : Int) = 0 then (some true) else (if 0 ≤ (wrap64 ((a1.size : Int) - 1)) then (if (wrap64 ((a1.size : Int) - 1)) ≤ (a1.size : Int) then (if a0.size + (a1.extract 0 ((wrap64 ((a1.size : Int) - 1)) : Int).toNat).size ≤ 9223372036854775807 then ((opt6_Parse.f kj6 (a0 ++ (a1.extract 0 ((wrap64 ((a1.size : Int) - 1)) : Int).toNat))).bind fun bt503 => (some (bt503.2 == 3))) else (none)) else (none)) else (none))) else (none)) = some r := H
                            have A33 := Aside0.mk A330
                            clear A330
                            by_cases c34 : t502 = true
                            · subst c34
                              have H1 : (if (a1.size : Int) = 0 then (some true) else (if 0 ≤ (wrap64 ((a1.size : Int) - 1)) then (if (wrap64 ((a1.size : Int) - 1)) ≤ (a1.size : Int) then (if a0.size + (a1.extract 0 ((wrap64 ((a1.size : Int) - 1)) : Int).toNat).size ≤ 9223372036854775807 then ((opt6_Parse.f kj6 (a0 ++ (a1.extract 0 ((wrap64 ((a1.size : Int) - 1)) : Int).toNat))).bind fun bt503 => (some (bt503.2 == 3))) else (none)) else (none)) else (none))) = some r := by rw [if_pos rfl] at H; exact H
                              clear H
                              have H := H1
                              clear H1
                              by_cases c35 : (a1.size : Int) = 0
                              · rw [if_pos c35] at H
                                have c35b0 : ((a1.size : Int) == 0) = true := beq_iff_eq.mpr c35
                                have c35b1 : ((a1.size : Int) != 0) = false := bne_eq_false_iff_eq.mpr c35
                                clear c35
                                obtain rfl := Option.some.inj H
                                obtain ⟨Ao36, co36, eo36⟩ := Kd.R_slice HO_5.out
                                subst eo36
                                go_wp2_with (first | ((with_reducible refine gate_callee (f := 13) rfl ?_); refine goesL_ (some 31) rfl rfl Try.func13 (by kernel_rfl) rfl #[.slice Ao36 t479.length co36] rfl (by (try simp only [List.map_toArray, List.map_cons, List.map_nil]); first | done | rfl | (simp only [List.length_drop, List.length_take]; rfl)) ?_; (with_reducible refine (opt6_Emit.calls _ _ t479 t487 t488 _ ?side1 ?side2 A13.out).mono ?_); (case side1 => repeat (first | exact (Kd.R_reads' HO_5.out).2.2 | (with_reducible refine Kd.C_alloc ?_ _) | (with_reducible refine Kd.C_drewN ?_ _) | (with_reducible refine Kd.C_drew ?_))); (case side2 => exact (Kd.R_reads' HO_5.out).2.1); rintro e w37 ⟨rfl, hb⟩; refine ⟨_, rfl, ?_⟩; have n0_ := Aside0.mk (Kd.R_below (by (with_reducible repeat (first | apply Kd.R_alloc | apply Kd.R_drewN | apply Kd.R_drew)); exact HO_5.out) hb); have n1_ := Aside0.mk (Kd.R_below (by (with_reducible repeat (first | apply Kd.R_alloc | apply Kd.R_drewN | apply Kd.R_drew)); exact HO_7.out) hb); have n2_ := Aside0.mk (below_step (by repeat (first | (with_reducible first | exact HB.out | apply below_alloc | apply pw_below_drewN | apply below_drew1) | exact HB.out)) hb); clear HO_5; clear HO_7; clear HB; have HO_5 := n0_; have HO_7 := n1_; have HB := n2_; clear n0_ n1_ n2_; (try clear hb); (try clear hb2); (try clear hk); (try clear hi)) | ((with_reducible refine gate_callee (f := 10) rfl ?_); refine goesL_ (some 45) rfl rfl Try.func10 (by kernel_rfl) rfl #[.string (a0 ++ a1)] rfl (by (try simp only [List.map_toArray, List.map_cons, List.map_nil]); first | done | rfl | (simp only [List.length_drop, List.length_take]; rfl)) ?_; (with_reducible refine (opt6_Parse.calls kj6 (a0 ++ a1) t489 t490 _ A17.out).mono ?_); rintro e w38 ⟨v491, rfl, ho0, hb⟩; refine ⟨_, rfl, ?_⟩; have n0_ := Aside0.mk (Kd.R_elder' (by (with_reducible repeat (first | apply Kd.R_alloc | apply Kd.R_drewN | apply Kd.R_drew)); exact HO_5.out) (Kd.R_base ho0) hb); have n1_ := Aside0.mk (Kd.R_elder' (by (with_reducible repeat (first | apply Kd.R_alloc | apply Kd.R_drewN | apply Kd.R_drew)); exact HO_7.out) (Kd.R_base ho0) hb); have n2_ := Aside0.mk (Kd.R_lower (Kd.R_new' (Kd.R_new' ho0 (Kd.R_lt (by (with_reducible repeat (first | apply Kd.R_alloc | apply Kd.R_drewN | apply Kd.R_drew)); exact HO_5.out))) (Kd.R_lt (by (with_reducible repeat (first | apply Kd.R_alloc | apply Kd.R_drewN | apply Kd.R_drew)); exact HO_7.out))) (below_size (by repeat (first | (with_reducible first | exact HB.out | apply below_alloc | apply pw_below_drewN | apply below_drew1) | exact HB.out)))); have n3_ := Aside0.mk (below_step (by repeat (first | (with_reducible first | exact HB.out | apply below_alloc | apply pw_below_drewN | apply below_drew1) | exact HB.out)) hb); clear HO_5; clear HO_7; clear HB; have HO_5 := n0_; have HO_7 := n1_; have HO492 := n2_; have HB := n3_; clear n0_ n1_ n2_ n3_; (try clear hb); (try clear hb2); (try clear hk); (try clear hi); (try clear ho0); obtain ⟨Ao39, co39, eo39⟩ := Kd.R_slice HO_7.out; subst eo39; obtain ⟨Ao40, co40, eo40⟩ := Kd.R_slice HO492.out; subst eo40; have q41 : ((t479.length : Int) : Int) ≤ ((t489.length : Int) : Int) := of_decide_eq_true (by first | (with_reducible assumption) | assumption); obtain ⟨i041, hi041, _, hsz41, _⟩ := info_parts info40; have hroom41 : t489.length ≤ co40 := (Kd.R_reads' HO492.out).2.1; have hC41 : Kd.C k40 _ Ao40 t489.length t489 := (Kd.R_reads' HO492.out).2.2; have hcut41 := cut_to (P := Try.prog) 22 40 .i64 Try.underlying22 hi041 Ao40 t489.length co40 (t479.length : Int) (of_decide_eq_true (by first | (with_reducible assumption) | assumption)) q41 hroom41; have hr41 := Kd.C_take (m := (t479.length)) hC41 (by omega); have hy41 : y493.length = ((t479.length : Int) : Int).toNat := (by rw [Ny493.out, List.length_take]; omega); rw [← Ny493.out] at hr41; rw [← hy41] at hcut41; have HR496 := Aside0.mk hr41; have HC496 := Aside0.mk (show y493.length ≤ co40 from by omega); clear hr41 hC41 hroom41 hi041 hsz41; have KY41 := Aside0.mk hy41; clear hy41; have KL41 := Aside0.mk (show (t479.length) ≤ t489.length from by omega); replace q41 := eq_true q41) | (go_at_call 12; (with_reducible refine (tenancylaw15_same.calls kj6 _ _ y493 _ _ t479 true _ ?side1 ?side2 ?side3 ?side4 A29.out).mono ?_); (case side1 => repeat (first | exact (by repeat (first | (with_reducible exact HR496.out) | (with_reducible refine Kd.C_alloc ?_ _) | (with_reducible refine Kd.C_drewN ?_ _) | (with_reducible refine Kd.C_drew ?_) | exact HR496.out)) | (with_reducible refine Kd.C_alloc ?_ _) | (with_reducible refine Kd.C_drewN ?_ _) | (with_reducible refine Kd.C_drew ?_))); (case side2 => exact HC496.out); (case side3 => repeat (first | exact (Kd.R_reads' HO_5.out).2.2 | (with_reducible refine Kd.C_alloc ?_ _) | (with_reducible refine Kd.C_drewN ?_ _) | (with_reducible refine Kd.C_drew ?_))); (case side4 => exact (Kd.R_reads' HO_5.out).2.1); rintro e w' ⟨rfl, ⟨nd, rfl⟩⟩; have q42 : ((t479.length : Int) : Int) ≤ ((t489.length : Int) : Int) := of_decide_eq_true (by first | (with_reducible assumption) | assumption); obtain ⟨i042, hi042, _, hsz42, _⟩ := info_parts info40; have hroom42 : t489.length ≤ co40 := (Kd.R_reads' HO492.out).2.1; have hC42 : Kd.C k40 _ Ao40 t489.length t489 := (Kd.R_reads' HO492.out).2.2; have q042 : (0 : Int) ≤ ((t479.length : Int) : Int) := of_decide_eq_true (by first | (with_reducible assumption) | assumption); (try clear hcut41); have hcut42 := cut_from (P := Try.prog) 22 40 .i64 Try.underlying22 hi042 2 hsz42 Ao40 t489.length co40 (t479.length : Int) q042 q42; (try simp only [Int.toNat_natCast] at hcut42); have hr42 := Kd.C_drop (m := (t479.length)) (c := co40) hC42 (by omega) hroom42; obtain ⟨A42, hA42⟩ : ∃ A1, A1 = (if co40 = (t479.length) then Ao40 else (Ao40 : Option Addr).map (·.add ((t479.length) * 2))) := ⟨_, rfl⟩; obtain ⟨c42, hc42⟩ : ∃ c1, c1 = co40 - (t479.length) := ⟨_, rfl⟩; have hy42 : y498.length = t489.length - (t479.length) := (by rw [Ny498.out, List.length_drop] <;> omega); rw [show (t489).drop (t479.length) = y498 from Ny498.out.symm] at hr42; replace hr42 : Kd.C k40 _ A42 y498.length y498 := (by rw [hA42]; exact hr42); rw [← hy42, ← hA42, ← hc42] at hcut42; have HR501 := Aside0.mk hr42; have HC501 := Aside0.mk (show y498.length ≤ c42 from by rw [hy42, hc42]; exact Nat.sub_le_sub_right hroom42 _); clear hr42 hC42 hroom42 hi042 hsz42 hc42; have KY42 := Aside0.mk hy42; have KA42 := Aside0.mk hA42; clear hy42 hA42; have KL42 := Aside0.mk (show (t479.length) ≤ t489.length from by omega); replace q42 := eq_true q42) | (go_at_call 12; (with_reducible refine (tenancylaw15_same.calls kj6 _ _ y498 _ _ t483 true _ ?side1 ?side2 ?side3 ?side4 A33.out).mono ?_); (case side1 => repeat (first | exact (by repeat (first | (with_reducible exact HR501.out) | (with_reducible refine Kd.C_alloc ?_ _) | (with_reducible refine Kd.C_drewN ?_ _) | (with_reducible refine Kd.C_drew ?_) | exact HR501.out)) | (with_reducible refine Kd.C_alloc ?_ _) | (with_reducible refine Kd.C_drewN ?_ _) | (with_reducible refine Kd.C_drew ?_))); (case side2 => exact HC501.out); (case side3 => repeat (first | exact (Kd.R_reads' HO_7.out).2.2 | (with_reducible refine Kd.C_alloc ?_ _) | (with_reducible refine Kd.C_drewN ?_ _) | (with_reducible refine Kd.C_drew ?_))); (case side4 => exact (Kd.R_reads' HO_7.out).2.1); rintro e w' ⟨rfl, ⟨nd, rfl⟩⟩))
                                go_ret
                                exact ⟨by first | rfl | (simp [errW_none, errW_some] <;> rfl) | (simp [*, errW_none, errW_some] <;> rfl), by repeat (first | (with_reducible first | exact HB.out | apply below_alloc | apply pw_below_drewN | apply below_drew1) | exact HB.out)⟩
                              · rw [if_neg c35] at H
                                have c35b0 : ((a1.size : Int) == 0) = false := beq_eq_false_iff_ne.mpr c35
                                have c35b1 : ((a1.size : Int) != 0) = true := bne_iff_ne.mpr c35
                                obtain ⟨ji43, hji43⟩ : ∃ j_ : Int, (wrap64 ((a1.size : Int) - 1)) = j_ := ⟨_, rfl⟩
                                replace H : (if 0 ≤ (ji43) then (if (ji43) ≤ (a1.size : Int) then (if a0.size + (a1.extract 0 ((ji43) : Int).toNat).size ≤ 9223372036854775807 then ((opt6_Parse.f kj6 (a0 ++ (a1.extract 0 ((ji43) : Int).toNat))).bind fun bt503 => (some (bt503.2 == 3))) else (none)) else (none)) else (none)) = some r := by first | (rw [hji43] at H; exact H) | (simp only [hji43] at H ⊢; exact H)
                                (try rw [hji43] at A13)
                                (try rw [hji43] at A17)
                                (try rw [hji43] at A29)
                                (try rw [hji43] at A33)
                                have hji43w : (IntKind.i64.wrap ((a1.size : Int) - 1)) = ji43 := (i64_w _).trans hji43
                                by_cases c44 : 0 ≤ (ji43)
                                · rw [if_pos c44] at H
                                  have c44b0 := eq_true c44
                                  have c44b1 : decide (0 ≤ (ji43)) = true := decide_eq_true c44
                                  clear c44
                                  by_cases c45 : (ji43) ≤ (a1.size : Int)
                                  · rw [if_pos c45] at H
                                    have c45b0 := eq_true c45
                                    have c45b1 : decide ((ji43) ≤ (a1.size : Int)) = true := decide_eq_true c45
                                    clear c45
                                    by_cases c46 : a0.size + (a1.extract 0 ((ji43) : Int).toNat).size ≤ 9223372036854775807
                                    · rw [if_pos c46] at H
                                      have c46b0 := eq_true c46
                                      have c46b1 : decide (a0.size + (a1.extract 0 ((ji43) : Int).toNat).size ≤ 9223372036854775807) = true := decide_eq_true c46
                                      (try (have c46bs := c46; simp at c46bs))
                                      (try (have c46bm := c46; simp only [ByteArray.size_extract] at c46bm; rw [Nat.min_eq_left (by omega)] at c46bm))
                                      (try (have c46bn := eq_false (Nat.not_lt.2 c46bm)))
                                      try have c46b2 : (9223372036854775807 < a0.size + (a1.extract 0 ((ji43) : Int).toNat).size) = False := eq_false (Nat.not_lt.2 c46)
                                      replace H := Option.bind_eq_some_iff.mp H
                                      obtain ⟨⟨t503, t504⟩, A470, H⟩ := H
                                      replace H : (some (t504 == 3)) = some r := H
                                      have A47 := Aside0.mk A470
                                      clear A470
                                      obtain rfl := Option.some.inj H
                                      obtain ⟨Ao48, co48, eo48⟩ := Kd.R_slice HO_5.out
                                      subst eo48
                                      go_wp2_with (first | ((with_reducible refine gate_callee (f := 13) rfl ?_); refine goesL_ (some 31) rfl rfl Try.func13 (by kernel_rfl) rfl #[.slice Ao48 t479.length co48] rfl (by (try simp only [List.map_toArray, List.map_cons, List.map_nil]); first | done | rfl | (simp only [List.length_drop, List.length_take]; rfl)) ?_; (with_reducible refine (opt6_Emit.calls _ _ t479 t487 t488 _ ?side1 ?side2 A13.out).mono ?_); (case side1 => repeat (first | exact (Kd.R_reads' HO_5.out).2.2 | (with_reducible refine Kd.C_alloc ?_ _) | (with_reducible refine Kd.C_drewN ?_ _) | (with_reducible refine Kd.C_drew ?_))); (case side2 => exact (Kd.R_reads' HO_5.out).2.1); rintro e w49 ⟨rfl, hb⟩; refine ⟨_, rfl, ?_⟩; have n0_ := Aside0.mk (Kd.R_below (by (with_reducible repeat (first | apply Kd.R_alloc | apply Kd.R_drewN | apply Kd.R_drew)); exact HO_5.out) hb); have n1_ := Aside0.mk (Kd.R_below (by (with_reducible repeat (first | apply Kd.R_alloc | apply Kd.R_drewN | apply Kd.R_drew)); exact HO_7.out) hb); have n2_ := Aside0.mk (below_step (by repeat (first | (with_reducible first | exact HB.out | apply below_alloc | apply pw_below_drewN | apply below_drew1) | exact HB.out)) hb); clear HO_5; clear HO_7; clear HB; have HO_5 := n0_; have HO_7 := n1_; have HB := n2_; clear n0_ n1_ n2_; (try clear hb); (try clear hb2); (try clear hk); (try clear hi)) | ((with_reducible refine gate_callee (f := 10) rfl ?_); refine goesL_ (some 45) rfl rfl Try.func10 (by kernel_rfl) rfl #[.string (a0 ++ a1)] rfl (by (try simp only [List.map_toArray, List.map_cons, List.map_nil]); first | done | rfl | (simp only [List.length_drop, List.length_take]; rfl)) ?_; (with_reducible refine (opt6_Parse.calls kj6 (a0 ++ a1) t489 t490 _ A17.out).mono ?_); rintro e w50 ⟨v491, rfl, ho0, hb⟩; refine ⟨_, rfl, ?_⟩; have n0_ := Aside0.mk (Kd.R_elder' (by (with_reducible repeat (first | apply Kd.R_alloc | apply Kd.R_drewN | apply Kd.R_drew)); exact HO_5.out) (Kd.R_base ho0) hb); have n1_ := Aside0.mk (Kd.R_elder' (by (with_reducible repeat (first | apply Kd.R_alloc | apply Kd.R_drewN | apply Kd.R_drew)); exact HO_7.out) (Kd.R_base ho0) hb); have n2_ := Aside0.mk (Kd.R_lower (Kd.R_new' (Kd.R_new' ho0 (Kd.R_lt (by (with_reducible repeat (first | apply Kd.R_alloc | apply Kd.R_drewN | apply Kd.R_drew)); exact HO_5.out))) (Kd.R_lt (by (with_reducible repeat (first | apply Kd.R_alloc | apply Kd.R_drewN | apply Kd.R_drew)); exact HO_7.out))) (below_size (by repeat (first | (with_reducible first | exact HB.out | apply below_alloc | apply pw_below_drewN | apply below_drew1) | exact HB.out)))); have n3_ := Aside0.mk (below_step (by repeat (first | (with_reducible first | exact HB.out | apply below_alloc | apply pw_below_drewN | apply below_drew1) | exact HB.out)) hb); clear HO_5; clear HO_7; clear HB; have HO_5 := n0_; have HO_7 := n1_; have HO492 := n2_; have HB := n3_; clear n0_ n1_ n2_ n3_; (try clear hb); (try clear hb2); (try clear hk); (try clear hi); (try clear ho0); obtain ⟨Ao51, co51, eo51⟩ := Kd.R_slice HO_7.out; subst eo51; obtain ⟨Ao52, co52, eo52⟩ := Kd.R_slice HO492.out; subst eo52; have q53 : ((t479.length : Int) : Int) ≤ ((t489.length : Int) : Int) := of_decide_eq_true (by first | (with_reducible assumption) | assumption); obtain ⟨i053, hi053, _, hsz53, _⟩ := info_parts info40; have hroom53 : t489.length ≤ co52 := (Kd.R_reads' HO492.out).2.1; have hC53 : Kd.C k40 _ Ao52 t489.length t489 := (Kd.R_reads' HO492.out).2.2; (try clear hcut41); (try clear hcut42); have hcut53 := cut_to (P := Try.prog) 22 40 .i64 Try.underlying22 hi053 Ao52 t489.length co52 (t479.length : Int) (of_decide_eq_true (by first | (with_reducible assumption) | assumption)) q53 hroom53; have hr53 := Kd.C_take (m := (t479.length)) hC53 (by omega); have hy53 : y493.length = ((t479.length : Int) : Int).toNat := (by rw [Ny493.out, List.length_take]; omega); rw [← Ny493.out] at hr53; rw [← hy53] at hcut53; have HR496 := Aside0.mk hr53; have HC496 := Aside0.mk (show y493.length ≤ co52 from by omega); clear hr53 hC53 hroom53 hi053 hsz53; have KY53 := Aside0.mk hy53; clear hy53; have KL53 := Aside0.mk (show (t479.length) ≤ t489.length from by omega); replace q53 := eq_true q53) | (go_at_call 12; (with_reducible refine (tenancylaw15_same.calls kj6 _ _ y493 _ _ t479 true _ ?side1 ?side2 ?side3 ?side4 A29.out).mono ?_); (case side1 => repeat (first | exact (by repeat (first | (with_reducible exact HR496.out) | (with_reducible refine Kd.C_alloc ?_ _) | (with_reducible refine Kd.C_drewN ?_ _) | (with_reducible refine Kd.C_drew ?_) | exact HR496.out)) | (with_reducible refine Kd.C_alloc ?_ _) | (with_reducible refine Kd.C_drewN ?_ _) | (with_reducible refine Kd.C_drew ?_))); (case side2 => exact HC496.out); (case side3 => repeat (first | exact (Kd.R_reads' HO_5.out).2.2 | (with_reducible refine Kd.C_alloc ?_ _) | (with_reducible refine Kd.C_drewN ?_ _) | (with_reducible refine Kd.C_drew ?_))); (case side4 => exact (Kd.R_reads' HO_5.out).2.1); rintro e w' ⟨rfl, ⟨nd, rfl⟩⟩; have q54 : ((t479.length : Int) : Int) ≤ ((t489.length : Int) : Int) := of_decide_eq_true (by first | (with_reducible assumption) | assumption); obtain ⟨i054, hi054, _, hsz54, _⟩ := info_parts info40; have hroom54 : t489.length ≤ co52 := (Kd.R_reads' HO492.out).2.1; have hC54 : Kd.C k40 _ Ao52 t489.length t489 := (Kd.R_reads' HO492.out).2.2; have q054 : (0 : Int) ≤ ((t479.length : Int) : Int) := of_decide_eq_true (by first | (with_reducible assumption) | assumption); (try clear hcut41); (try clear hcut42); (try clear hcut53); have hcut54 := cut_from (P := Try.prog) 22 40 .i64 Try.underlying22 hi054 2 hsz54 Ao52 t489.length co52 (t479.length : Int) q054 q54; (try simp only [Int.toNat_natCast] at hcut54); have hr54 := Kd.C_drop (m := (t479.length)) (c := co52) hC54 (by omega) hroom54; obtain ⟨A54, hA54⟩ : ∃ A1, A1 = (if co52 = (t479.length) then Ao52 else (Ao52 : Option Addr).map (·.add ((t479.length) * 2))) := ⟨_, rfl⟩; obtain ⟨c54, hc54⟩ : ∃ c1, c1 = co52 - (t479.length) := ⟨_, rfl⟩; have hy54 : y498.length = t489.length - (t479.length) := (by rw [Ny498.out, List.length_drop] <;> omega); rw [show (t489).drop (t479.length) = y498 from Ny498.out.symm] at hr54; replace hr54 : Kd.C k40 _ A54 y498.length y498 := (by rw [hA54]; exact hr54); rw [← hy54, ← hA54, ← hc54] at hcut54; have HR501 := Aside0.mk hr54; have HC501 := Aside0.mk (show y498.length ≤ c54 from by rw [hy54, hc54]; exact Nat.sub_le_sub_right hroom54 _); clear hr54 hC54 hroom54 hi054 hsz54 hc54; have KY54 := Aside0.mk hy54; have KA54 := Aside0.mk hA54; clear hy54 hA54; have KL54 := Aside0.mk (show (t479.length) ≤ t489.length from by omega); replace q54 := eq_true q54) | (go_at_call 12; (with_reducible refine (tenancylaw15_same.calls kj6 _ _ y498 _ _ t483 true _ ?side1 ?side2 ?side3 ?side4 A33.out).mono ?_); (case side1 => repeat (first | exact (by repeat (first | (with_reducible exact HR501.out) | (with_reducible refine Kd.C_alloc ?_ _) | (with_reducible refine Kd.C_drewN ?_ _) | (with_reducible refine Kd.C_drew ?_) | exact HR501.out)) | (with_reducible refine Kd.C_alloc ?_ _) | (with_reducible refine Kd.C_drewN ?_ _) | (with_reducible refine Kd.C_drew ?_))); (case side2 => exact HC501.out); (case side3 => repeat (first | exact (Kd.R_reads' HO_7.out).2.2 | (with_reducible refine Kd.C_alloc ?_ _) | (with_reducible refine Kd.C_drewN ?_ _) | (with_reducible refine Kd.C_drew ?_))); (case side4 => exact (Kd.R_reads' HO_7.out).2.1); rintro e w' ⟨rfl, ⟨nd, rfl⟩⟩) | ((with_reducible refine gate_callee (f := 10) rfl ?_); refine goesL_ (some 102) rfl rfl Try.func10 (by kernel_rfl) rfl #[.string (a0 ++ (a1.extract 0 ((ji43) : Int).toNat))] rfl (by (try simp only [List.map_toArray, List.map_cons, List.map_nil]); first | done | (simp only [hji43]; rfl) | rfl | (simp only [List.length_drop, List.length_take]; rfl)) ?_; (with_reducible refine (opt6_Parse.calls kj6 (a0 ++ (a1.extract 0 ((ji43) : Int).toNat)) t503 t504 _ A47.out).mono ?_); rintro e w55 ⟨v505, rfl, ho0, hb⟩; refine ⟨_, rfl, ?_⟩; have n0_ := Aside0.mk (Kd.R_elder' (by (with_reducible repeat (first | apply Kd.R_alloc | apply Kd.R_drewN | apply Kd.R_drew)); exact HO_5.out) (Kd.R_base ho0) hb); have n1_ := Aside0.mk (Kd.R_elder' (by (with_reducible repeat (first | apply Kd.R_alloc | apply Kd.R_drewN | apply Kd.R_drew)); exact HO_7.out) (Kd.R_base ho0) hb); have n2_ := Aside0.mk (Kd.R_elder' (by (with_reducible repeat (first | apply Kd.R_alloc | apply Kd.R_drewN | apply Kd.R_drew)); exact HO492.out) (Kd.R_base ho0) hb); have n3_ := Aside0.mk (Kd.R_lower (Kd.R_new' (Kd.R_new' (Kd.R_new' ho0 (Kd.R_lt (by (with_reducible repeat (first | apply Kd.R_alloc | apply Kd.R_drewN | apply Kd.R_drew)); exact HO_5.out))) (Kd.R_lt (by (with_reducible repeat (first | apply Kd.R_alloc | apply Kd.R_drewN | apply Kd.R_drew)); exact HO_7.out))) (Kd.R_lt (by (with_reducible repeat (first | apply Kd.R_alloc | apply Kd.R_drewN | apply Kd.R_drew)); exact HO492.out))) (below_size (by repeat (first | (with_reducible first | exact HB.out | apply below_alloc | apply pw_below_drewN | apply below_drew1) | exact HB.out)))); have n4_ := Aside0.mk (Kd.C_below (by repeat (first | (with_reducible exact HR496.out) | (with_reducible refine Kd.C_alloc ?_ _) | (with_reducible refine Kd.C_drewN ?_ _) | (with_reducible refine Kd.C_drew ?_) | exact HR496.out)) hb); have n5_ := Aside0.mk (Kd.C_below (by repeat (first | (with_reducible exact HR501.out) | (with_reducible refine Kd.C_alloc ?_ _) | (with_reducible refine Kd.C_drewN ?_ _) | (with_reducible refine Kd.C_drew ?_) | exact HR501.out)) hb); have n6_ := Aside0.mk (below_step (by repeat (first | (with_reducible first | exact HB.out | apply below_alloc | apply pw_below_drewN | apply below_drew1) | exact HB.out)) hb); clear HO_5; clear HO_7; clear HO492; clear HR496; clear HR501; clear HB; have HO_5 := n0_; have HO_7 := n1_; have HO492 := n2_; have HO506 := n3_; have HR496 := n4_; have HR501 := n5_; have HB := n6_; clear n0_ n1_ n2_ n3_ n4_ n5_ n6_; (try clear hb); (try clear hb2); (try clear hk); (try clear hi); (try clear ho0)))
                                      go_ret
                                      exact ⟨by first | rfl | (simp [errW_none, errW_some] <;> rfl) | (simp only [← hji43]; first | rfl | (simp [errW_none, errW_some] <;> rfl)) | (simp [*, errW_none, errW_some] <;> rfl), by repeat (first | (with_reducible first | exact HB.out | apply below_alloc | apply pw_below_drewN | apply below_drew1) | exact HB.out)⟩
                                    · rw [if_neg c46] at H
                                      exact absurd H (by simp)
                                  · rw [if_neg c45] at H
                                    exact absurd H (by simp)
                                · rw [if_neg c44] at H
                                  exact absurd H (by simp)
                            · replace c34 := Bool.eq_false_iff.mpr c34
                              subst c34
                              have H1 : (none) = some r := by rw [if_neg (show ¬ (false = true) by decide)] at H; exact H
                              clear H
                              have H := H1
                              clear H1
                              exact absurd H (by simp)
                          · replace c30 := Bool.eq_false_iff.mpr c30
                            subst c30
                            have H1 : (none) = some r := by rw [if_neg (show ¬ (false = true) by decide)] at H; exact H
                            clear H
                            have H := H1
                            clear H1
                            exact absurd H (by simp)
                        · rw [if_neg c28] at H
                          exact absurd H (by simp)
                      · rw [if_neg c27] at H
                        exact absurd H (by simp)
                    · rw [if_neg c26] at H
                      exact absurd H (by simp)
                  · rw [if_neg c25] at H
                    exact absurd H (by simp)
              · rw [if_neg c16] at H
                exact absurd H (by simp)
            · rw [if_neg c15] at H
              exact absurd H (by simp)
          · rw [if_neg c14] at H
            exact absurd H (by simp)
  · replace c4 := Bool.eq_false_iff.mpr c4
    subst c4
    have H1 : (none) = some r := by rw [if_neg (show ¬ (false = true) by decide)] at H; exact H
    clear H
    have H := H1
    clear H1
    exact absurd H (by simp)

/-- The one plain statement of tenancylaw15_Opt6Rows. -/
def tenancylaw15_Opt6Rows.Pure : Prop := ∀ (a0 : ByteArray) (a1 : ByteArray), (a0.size ≤ 140737488351232) → (a1.size ≤ 140737488351232) → ∃ k, tenancylaw15_Opt6Rows.f k a0 a1 = some true

end Go.Proofs.Ytngojiikkokajaa.X
