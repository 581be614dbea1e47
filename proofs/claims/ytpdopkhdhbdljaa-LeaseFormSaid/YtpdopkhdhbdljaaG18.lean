/- Functions of the program as Lean functions, and that the calls come to them: no condition.  By this session's own program (wip/xprint). -/
import Derived.Test.YtpdopkhdhbdljaaG0
import Derived.Test.YtpdopkhdhbdljaaG4
import Derived.Test.YtpdopkhdhbdljaaG5
import Derived.Test.YtpdopkhdhbdljaaG8
namespace Go.Proofs.Ytpdopkhdhbdljaa.X
open Go.RowKit Go.Proofs.YtpdopkhdhbdljaaW.PrintWords Go.Proofs.YtpdopkhdhbdljaaW.PrintLast Go.Proofs.YtpdopkhdhbdljaaW.PrintMore
attribute [local go_sem] max2_int min2_int max_two min_two max_three min_three max_four min_four   -- for this text's walks alone
set_option linter.unusedVariables false
set_option linter.unusedSimpArgs false
/-! ### tenancylaw08_LeaseForm: function 6 -/
mutual
def tenancylaw08_LeaseForm.j0 : Nat → List (S31) → Option (Bool)
  | 0, _ => none
  | k + 1, x1 => (lease_Encode.f x1).bind fun bt523 => (if bt523.2 = 0 then ((lease_Decode.f k bt523.1).bind fun bt525 => (if bt525.2 = 0 then ((tenancylaw08_same.f k bt525.1 x1).bind fun t529 => (if t529 = true then (tenancylaw08_LeaseForm.l0 k bt523.1 0) else (none))) else (none))) else (if bt523.1.toList = ([] : List UInt8) then (some ((bt523.2 == 6) == (decide ((x1.length : Int) > 2048)))) else (none)))
def tenancylaw08_LeaseForm.l0 : Nat → ByteArray → Int → Option (Bool)
  | 0, _, _ => none
  | k + 1, x9, x11 => if x11 < (x9.size : Int) then (tenancylaw08_LeaseForm.j2 k x9 x11 (decide ((x9.size : Int) ≤ 2000))) else (tenancylaw08_LeaseForm.j2 k x9 x11 false)
def tenancylaw08_LeaseForm.j2 : Nat → ByteArray → Int → Bool → Option (Bool)
  | 0, _, _, _ => none
  | k + 1, x9, x11, x71 => if x71 = true then (if 0 ≤ x11 then (if x11 ≤ (x9.size : Int) then ((lease_Decode.f k (x9.extract 0 (x11 : Int).toNat)).bind fun bt530 => (if bt530.2 = 3 then (tenancylaw08_LeaseForm.l0 k x9 (wrap64 (x11 + 1))) else (none))) else (none)) else (none)) else (if x9.size + 1 ≤ 9223372036854775807 then ((lease_Decode.f k (x9 ++ (⟨#[120]⟩ : ByteArray))).bind fun bt534 => (some (bt534.2 == 5))) else (none))
end
def tenancylaw08_LeaseForm.f (k : Nat) (a0 : ByteArray) (l1 : List (S31)) : Option (Bool) := (tenancylaw08_awake.f k).bind fun t516 => (if t516 = true then ((lease_Decode.f k a0).bind fun bt517 => (if bt517.2 = 0 then ((lease_Encode.f bt517.1).bind fun bt521 => (if bt521.2 = 0 then (if bt521.1.toList = a0.toList then (tenancylaw08_LeaseForm.j0 k l1) else (none)) else (none))) else (tenancylaw08_LeaseForm.j0 k l1))) else (none))
theorem tenancylaw08_LeaseForm.mono_l : ∀ k, (∀ y0, LeO (tenancylaw08_LeaseForm.j0 k y0) (tenancylaw08_LeaseForm.j0 (k + 1) y0)) ∧ (∀ y0 y1, LeO (tenancylaw08_LeaseForm.l0 k y0 y1) (tenancylaw08_LeaseForm.l0 (k + 1) y0 y1)) ∧ (∀ y0 y1 y2, LeO (tenancylaw08_LeaseForm.j2 k y0 y1 y2) (tenancylaw08_LeaseForm.j2 (k + 1) y0 y1 y2))
  | 0 => ⟨fun _ r h => by simp [tenancylaw08_LeaseForm.j0] at h, fun _ _ r h => by simp [tenancylaw08_LeaseForm.l0] at h, fun _ _ _ r h => by simp [tenancylaw08_LeaseForm.j2] at h⟩
  | k + 1 => by
    obtain ⟨ih0, ih1, ih2⟩ := tenancylaw08_LeaseForm.mono_l k
    refine ⟨?_, ?_, ?_⟩
    · intro y0
      unfold tenancylaw08_LeaseForm.j0
      repeat' first
      | (with_reducible exact ih0 _)
      | (with_reducible exact ih1 _ _)
      | (with_reducible exact ih2 _ _ _)
      | (with_reducible exact lease_Decode.mono _ _)
      | (with_reducible exact tenancylaw08_awake.mono _)
      | (with_reducible exact tenancylaw08_same.mono _ _ _)
      | (with_reducible exact LeO.refl _)
      | (with_reducible exact LeO.none _)
      | (with_reducible refine LeO.ite ?_ ?_)
      | (with_reducible refine LeO.bind ?_ (fun _ => ?_))
      | exact ih0 _
      | exact ih1 _ _
      | exact ih2 _ _ _
      | exact lease_Decode.mono _ _
      | exact tenancylaw08_awake.mono _
      | exact tenancylaw08_same.mono _ _ _
      | exact LeO.none _
      | refine LeO.ite ?_ ?_
      | refine LeO.bind ?_ (fun _ => ?_)
    · intro y0 y1
      unfold tenancylaw08_LeaseForm.l0
      repeat' first
      | (with_reducible exact ih0 _)
      | (with_reducible exact ih1 _ _)
      | (with_reducible exact ih2 _ _ _)
      | (with_reducible exact lease_Decode.mono _ _)
      | (with_reducible exact tenancylaw08_awake.mono _)
      | (with_reducible exact tenancylaw08_same.mono _ _ _)
      | (with_reducible exact LeO.refl _)
      | (with_reducible exact LeO.none _)
      | (with_reducible refine LeO.ite ?_ ?_)
      | (with_reducible refine LeO.bind ?_ (fun _ => ?_))
      | exact ih0 _
      | exact ih1 _ _
      | exact ih2 _ _ _
      | exact lease_Decode.mono _ _
      | exact tenancylaw08_awake.mono _
      | exact tenancylaw08_same.mono _ _ _
      | exact LeO.none _
      | refine LeO.ite ?_ ?_
      | refine LeO.bind ?_ (fun _ => ?_)
    · intro y0 y1 y2
      unfold tenancylaw08_LeaseForm.j2
      repeat' first
      | (with_reducible exact ih0 _)
      | (with_reducible exact ih1 _ _)
      | (with_reducible exact ih2 _ _ _)
      | (with_reducible exact lease_Decode.mono _ _)
      | (with_reducible exact tenancylaw08_awake.mono _)
      | (with_reducible exact tenancylaw08_same.mono _ _ _)
      | (with_reducible exact LeO.refl _)
      | (with_reducible exact LeO.none _)
      | (with_reducible refine LeO.ite ?_ ?_)
      | (with_reducible refine LeO.bind ?_ (fun _ => ?_))
      | exact ih0 _
      | exact ih1 _ _
      | exact ih2 _ _ _
      | exact lease_Decode.mono _ _
      | exact tenancylaw08_awake.mono _
      | exact tenancylaw08_same.mono _ _ _
      | exact LeO.none _
      | refine LeO.ite ?_ ?_
      | refine LeO.bind ?_ (fun _ => ?_)
theorem tenancylaw08_LeaseForm.mono : ∀ a0 a1 k, LeO (tenancylaw08_LeaseForm.f k a0 a1) (tenancylaw08_LeaseForm.f (k + 1) a0 a1) := by
  intro a0 a1 k
  obtain ⟨ih0, ih1, ih2⟩ := tenancylaw08_LeaseForm.mono_l k
  unfold tenancylaw08_LeaseForm.f
  repeat' first
      | (with_reducible exact ih0 _)
      | (with_reducible exact ih1 _ _)
      | (with_reducible exact ih2 _ _ _)
      | (with_reducible exact lease_Decode.mono _ _)
      | (with_reducible exact tenancylaw08_awake.mono _)
      | (with_reducible exact tenancylaw08_same.mono _ _ _)
      | (with_reducible exact LeO.refl _)
      | (with_reducible exact LeO.none _)
      | (with_reducible refine LeO.ite ?_ ?_)
      | (with_reducible refine LeO.bind ?_ (fun _ => ?_))
      | exact ih0 _
      | exact ih1 _ _
      | exact ih2 _ _ _
      | exact lease_Decode.mono _ _
      | exact tenancylaw08_awake.mono _
      | exact tenancylaw08_same.mono _ _ _
      | exact LeO.none _
      | refine LeO.ite ?_ ?_
      | refine LeO.bind ?_ (fun _ => ?_)
set_option maxHeartbeats 8000000 in
set_option maxRecDepth 100000 in
theorem tenancylaw08_LeaseForm.calls (k : Nat) (a0 : ByteArray) (A1 : Option Addr) (c1 : Nat) (l1 : List (S31)) (r : Bool) (w : World) (hr1 : Kd.C k31 w A1 l1.length l1) (hc1 : l1.length ≤ c1) (h : tenancylaw08_LeaseForm.f k a0 l1 = some r) :
    Calls Try.prog 6 #[.string a0, .slice A1 l1.length c1] w fun e w' => e = .returned (.bool r) ∧ Below w.heap.size w w' := by
  have HR1 := Aside0.mk hr1
  have HC1 := Aside0.mk hc1
  clear hr1 hc1
  have HB := Aside0.mk (Below.refl w.heap.size w)
  have H : ((tenancylaw08_awake.f k).bind fun t516 => (if t516 = true then ((lease_Decode.f k a0).bind fun bt517 => (if bt517.2 = 0 then ((lease_Encode.f bt517.1).bind fun bt521 => (if bt521.2 = 0 then (if bt521.1.toList = a0.toList then (tenancylaw08_LeaseForm.j0 k l1) else (none)) else (none))) else (tenancylaw08_LeaseForm.j0 k l1))) else (none))) = some r := h
  clear h
  replace H := Option.bind_eq_some_iff.mp H
  obtain ⟨t516, A30, H⟩ := H
  replace H : (if t516 = true then ((lease_Decode.f k a0).bind fun bt517 => (if bt517.2 = 0 then ((lease_Encode.f bt517.1).bind fun bt521 => (if bt521.2 = 0 then (if bt521.1.toList = a0.toList then (tenancylaw08_LeaseForm.j0 k l1) else (none)) else (none))) else (tenancylaw08_LeaseForm.j0 k l1))) else (none)) = some r := H
  have A3 := Aside0.mk A30
  clear A30
  by_cases c4 : t516 = true
  · subst c4
    have H1 : ((lease_Decode.f k a0).bind fun bt517 => (if bt517.2 = 0 then ((lease_Encode.f bt517.1).bind fun bt521 => (if bt521.2 = 0 then (if bt521.1.toList = a0.toList then (tenancylaw08_LeaseForm.j0 k l1) else (none)) else (none))) else (tenancylaw08_LeaseForm.j0 k l1))) = some r := by rw [if_pos rfl] at H; exact H
    clear H
    have H := H1
    clear H1
    replace H := Option.bind_eq_some_iff.mp H
    obtain ⟨⟨t517, t518⟩, A50, H⟩ := H
    replace H : (if t518 = 0 then ((lease_Encode.f t517).bind fun bt521 => (if bt521.2 = 0 then (if bt521.1.toList = a0.toList then (tenancylaw08_LeaseForm.j0 k l1) else (none)) else (none))) else (tenancylaw08_LeaseForm.j0 k l1)) = some r := H
    have A5 := Aside0.mk A50
    clear A50
    have HC6 := Aside0.mk H
    clear H
    go_enter Try.func6, Try.ntmps6
    go_upto_if 20 with (first | ((with_reducible refine gate_callee (f := 9) rfl ?_); refine goesL_ (some 12) rfl rfl Try.func9 (by kernel_rfl) rfl #[] rfl (by (try simp only [List.map_toArray, List.map_cons, List.map_nil]); first | done | rfl | (simp only [List.length_drop, List.length_take]; rfl)) ?_; (with_reducible refine (tenancylaw08_awake.calls k  true _ A3.out).mono ?_); rintro e w7 ⟨rfl, hb⟩; refine ⟨_, rfl, ?_⟩; have n0_ := Aside0.mk (below_step (by repeat (first | (with_reducible first | exact HB.out | apply below_alloc | apply pw_below_drewN | apply below_drew1) | exact HB.out)) hb); clear HB; have HB := n0_; clear n0_; (try clear hb); (try clear hb2); (try clear hk); (try clear hi)) | ((with_reducible refine gate_callee (f := 22) rfl ?_); refine goesL_ (some 16) rfl rfl Try.func22 (by kernel_rfl) rfl #[.string a0] rfl (by (try simp only [List.map_toArray, List.map_cons, List.map_nil]); first | done | rfl | (simp only [List.length_drop, List.length_take]; rfl)) ?_; (with_reducible refine (lease_Decode.calls k a0 t517 t518 _ A5.out).mono ?_); rintro e w8 ⟨v519, rfl, ho0, hb⟩; refine ⟨_, rfl, ?_⟩; have n0_ := Aside0.mk (Kd.R_lower ho0 (below_size (by repeat (first | (with_reducible first | exact HB.out | apply below_alloc | apply pw_below_drewN | apply below_drew1) | exact HB.out)))); have n1_ := Aside0.mk (below_step (by repeat (first | (with_reducible first | exact HB.out | apply below_alloc | apply pw_below_drewN | apply below_drew1) | exact HB.out)) hb); clear HB; have HO520 := n0_; have HB := n1_; clear n0_ n1_; (try clear hb); (try clear hb2); (try clear hk); (try clear hi); (try clear ho0)))
    (try simp only [Act.put, List.setIfInBounds_toArray, List.set_cons_zero, List.set_cons_succ])
    go_cut [] (fun wc => ∃ (kq : Nat), Aside0 (tenancylaw08_LeaseForm.j0 kq l1 = some r) ∧ Aside0 (kq ≤ k) ∧ Aside0 (Below w.heap.size w wc))
    case first =>
      have H := HC6.out
      clear HC6
      by_cases c9 : t518 = 0
      · rw [if_pos c9] at H
        have c9b0 : (t518 == 0) = true := beq_iff_eq.mpr c9
        have c9b1 : (t518 != 0) = false := bne_eq_false_iff_eq.mpr c9
        clear c9
        (first | rw [c9b0] | (simp only [i64_w, i32_w]; rw [c9b0]) | skip)
        replace H := Option.bind_eq_some_iff.mp H
        obtain ⟨⟨t521, t522⟩, A100, H⟩ := H
        replace H : (if t522 = 0 then (if t521.toList = a0.toList then (tenancylaw08_LeaseForm.j0 k l1) else (none)) else (none)) = some r := H
        have A10 := Aside0.mk A100
        clear A100
        by_cases c11 : t522 = 0
        · rw [if_pos c11] at H
          have c11b0 : (t522 == 0) = true := beq_iff_eq.mpr c11
          have c11b1 : (t522 != 0) = false := bne_eq_false_iff_eq.mpr c11
          clear c11
          by_cases c12 : t521.toList = a0.toList
          · rw [if_pos c12] at H
            have c12b0 : (t521.toList == a0.toList) = true := beq_iff_eq.mpr c12
            have c12b1 : (t521.toList != a0.toList) = false := bne_eq_false_iff_eq.mpr c12
            clear c12
            have H' := Aside0.mk H
            clear H
            obtain ⟨Ao13, co13, eo13⟩ := Kd.R_slice HO520.out
            subst eo13
            go_wp2_with (first | ((with_reducible refine gate_callee (f := 20) rfl ?_); refine goesL_ (some 23) rfl rfl Try.func20 (by kernel_rfl) rfl #[.slice Ao13 t517.length co13] rfl (by (try simp only [List.map_toArray, List.map_cons, List.map_nil]); first | done | rfl | (simp only [List.length_drop, List.length_take]; rfl)) ?_; (with_reducible refine (lease_Encode.calls _ _ t517 t521 t522 _ ?side1 ?side2 A10.out).mono ?_); (case side1 => repeat (first | exact (Kd.R_reads' HO520.out).2.2 | (with_reducible refine Kd.C_alloc ?_ _) | (with_reducible refine Kd.C_drewN ?_ _) | (with_reducible refine Kd.C_drew ?_))); (case side2 => exact (Kd.R_reads' HO520.out).2.1); rintro e w14 ⟨rfl, hb⟩; refine ⟨_, rfl, ?_⟩; have n0_ := Aside0.mk (Kd.R_below (by (with_reducible repeat (first | apply Kd.R_alloc | apply Kd.R_drewN | apply Kd.R_drew)); exact HO520.out) hb); have n1_ := Aside0.mk (below_step (by repeat (first | (with_reducible first | exact HB.out | apply below_alloc | apply pw_below_drewN | apply below_drew1) | exact HB.out)) hb); clear HO520; clear HB; have HO520 := n0_; have HB := n1_; clear n0_ n1_; (try clear hb); (try clear hb2); (try clear hk); (try clear hi)))
            go_meet
            case rel => exact ⟨_, H', ⟨by first | omega | exact Nat.le_refl _⟩, ⟨by repeat (first | (with_reducible first | exact HB.out | apply below_alloc | apply pw_below_drewN | apply below_drew1) | exact HB.out)⟩⟩
          · rw [if_neg c12] at H
            exact absurd H (by simp)
        · rw [if_neg c11] at H
          exact absurd H (by simp)
      · rw [if_neg c9] at H
        have c9b0 : (t518 == 0) = false := beq_eq_false_iff_ne.mpr c9
        have c9b1 : (t518 != 0) = true := bne_iff_ne.mpr c9
        (first | rw [c9b0] | (simp only [i64_w, i32_w]; rw [c9b0]) | skip)
        have H' := Aside0.mk H
        clear H
        go_wp2
        go_meet
        case rel => exact ⟨_, H', ⟨by first | omega | exact Nat.le_refl _⟩, ⟨by repeat (first | (with_reducible first | exact HB.out | apply below_alloc | apply pw_below_drewN | apply below_drew1) | exact HB.out)⟩⟩
    case rest =>
      clear HC6
      try clear c1
      try clear c2
      try clear p2
      try clear c4
      try clear c6
      try clear c9
      try clear c9b0
      try clear c9b1
      try clear c11
      try clear c11b0
      try clear c11b1
      try clear c12
      try clear c12b0
      try clear c12b1
      obtain ⟨kq, HA, HJ5, HB⟩ := hcut
      cases kq with
      | zero => exact absurd HA.out (by simp [tenancylaw08_LeaseForm.j0])
      | succ kj5 =>
        have H := HA.out
        clear HA
        simp only [tenancylaw08_LeaseForm.j0] at H
        replace H := Option.bind_eq_some_iff.mp H
        obtain ⟨⟨t523, t524⟩, A150, H⟩ := H
        replace H : (if t524 = 0 then ((lease_Decode.f kj5 t523).bind fun bt525 => (if bt525.2 = 0 then ((tenancylaw08_same.f kj5 bt525.1 l1).bind fun t529 => (if t529 = true then (tenancylaw08_LeaseForm.l0 kj5 t523 0) else (none))) else (none))) else (if t523.toList = ([] : List UInt8) then (some ((t524 == 6) == (decide ((l1.length : Int) > 2048)))) else (none))) = some r := H
        have A15 := Aside0.mk A150
        clear A150
        by_cases c16 : t524 = 0
        · rw [if_pos c16] at H
          have c16b0 : (t524 == 0) = true := beq_iff_eq.mpr c16
          have c16b1 : (t524 != 0) = false := bne_eq_false_iff_eq.mpr c16
          clear c16
          replace H := Option.bind_eq_some_iff.mp H
          obtain ⟨⟨t525, t526⟩, A170, H⟩ := H
          replace H : (if t526 = 0 then ((tenancylaw08_same.f kj5 t525 l1).bind fun t529 => (if t529 = true then (tenancylaw08_LeaseForm.l0 kj5 t523 0) else (none))) else (none)) = some r := H
          have A17 := Aside0.mk A170
          clear A170
          by_cases c18 : t526 = 0
          · rw [if_pos c18] at H
            have c18b0 : (t526 == 0) = true := beq_iff_eq.mpr c18
            have c18b1 : (t526 != 0) = false := bne_eq_false_iff_eq.mpr c18
            clear c18
            replace H := Option.bind_eq_some_iff.mp H
            obtain ⟨t529, A190, H⟩ := H
            replace H : (if t529 = true then (tenancylaw08_LeaseForm.l0 kj5 t523 0) else (none)) = some r := H
            have A19 := Aside0.mk A190
            clear A190
            by_cases c20 : t529 = true
            · subst c20
              have H1 : (tenancylaw08_LeaseForm.l0 kj5 t523 0) = some r := by rw [if_pos rfl] at H; exact H
              clear H
              have H := H1
              clear H1
              have H' := Aside0.mk H
              clear H
              go_wp2_with (first | ((with_reducible refine gate_callee (f := 20) rfl ?_); refine goesL_ (some 35) rfl rfl Try.func20 (by kernel_rfl) rfl #[.slice A1 l1.length c1] rfl (by (try simp only [List.map_toArray, List.map_cons, List.map_nil]); first | done | rfl | (simp only [List.length_drop, List.length_take]; rfl)) ?_; (with_reducible refine (lease_Encode.calls _ _ l1 t523 t524 _ ?side1 ?side2 A15.out).mono ?_); (case side1 => repeat (first | exact (Kd.C_below HR1.out HB.out) | (with_reducible refine Kd.C_alloc ?_ _) | (with_reducible refine Kd.C_drewN ?_ _) | (with_reducible refine Kd.C_drew ?_))); (case side2 => exact HC1.out); rintro e w21 ⟨rfl, hb⟩; refine ⟨_, rfl, ?_⟩; have n0_ := Aside0.mk (below_step (by repeat (first | (with_reducible first | exact HB.out | apply below_alloc | apply pw_below_drewN | apply below_drew1) | exact HB.out)) hb); clear HB; have HB := n0_; clear n0_; (try clear hb); (try clear hb2); (try clear hk); (try clear hi)) | ((with_reducible refine gate_callee (f := 22) rfl ?_); refine goesL_ (some 52) rfl rfl Try.func22 (by kernel_rfl) rfl #[.string t523] rfl (by (try simp only [List.map_toArray, List.map_cons, List.map_nil]); first | done | rfl | (simp only [List.length_drop, List.length_take]; rfl)) ?_; (with_reducible refine (lease_Decode.calls kj5 t523 t525 t526 _ A17.out).mono ?_); rintro e w22 ⟨v527, rfl, ho0, hb⟩; refine ⟨_, rfl, ?_⟩; have n0_ := Aside0.mk (Kd.R_lower ho0 (below_size (by repeat (first | (with_reducible first | exact HB.out | apply below_alloc | apply pw_below_drewN | apply below_drew1) | exact HB.out)))); have n1_ := Aside0.mk (below_step (by repeat (first | (with_reducible first | exact HB.out | apply below_alloc | apply pw_below_drewN | apply below_drew1) | exact HB.out)) hb); clear HB; have HO528 := n0_; have HB := n1_; clear n0_ n1_; (try clear hb); (try clear hb2); (try clear hk); (try clear hi); (try clear ho0); obtain ⟨Ao23, co23, eo23⟩ := Kd.R_slice HO528.out; subst eo23) | (go_at_call 24; (with_reducible refine (tenancylaw08_same.calls kj5 _ _ t525 _ _ l1 true _ ?side1 ?side2 ?side3 ?side4 A19.out).mono ?_); (case side1 => repeat (first | exact (Kd.R_reads' HO528.out).2.2 | (with_reducible refine Kd.C_alloc ?_ _) | (with_reducible refine Kd.C_drewN ?_ _) | (with_reducible refine Kd.C_drew ?_))); (case side2 => exact (Kd.R_reads' HO528.out).2.1); (case side3 => repeat (first | exact (Kd.C_below HR1.out HB.out) | (with_reducible refine Kd.C_alloc ?_ _) | (with_reducible refine Kd.C_drewN ?_ _) | (with_reducible refine Kd.C_drew ?_))); (case side4 => exact HC1.out); rintro e w' ⟨rfl, ⟨nd, rfl⟩⟩))
              go_loopg [11] kj5 (fun kq v11 w' => ∃ (x11_2 : Int), v11 = .int .i64 x11_2 ∧ Aside0 (tenancylaw08_LeaseForm.l0 kq t523 x11_2 = some r) ∧ Aside0 (kq ≤ kj5) ∧ Aside0 (Below w.heap.size w w'))
              case atStart => exact ⟨(0), (by first | rfl | (simp; done) | (simp only [ByteArray.size_extract]; rw [Nat.min_eq_left (by omega)]; done) | (simp [*]; done)), H', ⟨Nat.le_refl _⟩, ⟨by repeat (first | (with_reducible first | exact HB.out | apply below_alloc | apply pw_below_drewN | apply below_drew1) | exact HB.out)⟩⟩
              case round =>
                clear H'
                try clear c1
                try clear c2
                try clear p2
                try clear c4
                try clear c6
                try clear c9
                try clear c9b0
                try clear c9b1
                try clear c11
                try clear c11b0
                try clear c11b1
                try clear c12
                try clear c12b0
                try clear c12b1
                try clear c16
                try clear c16b0
                try clear c16b1
                try clear c18
                try clear c18b0
                try clear c18b1
                try clear c20
                try clear c22
                try clear p2
                obtain ⟨x11_2, rfl, HA, HK2, HB⟩ := hrel
                cases gk with
                | zero => exact absurd HA.out (by simp [tenancylaw08_LeaseForm.l0])
                | succ k2 =>
                  have H := HA.out
                  clear HA
                  simp only [tenancylaw08_LeaseForm.l0] at H
                  have HC24 := Aside0.mk H
                  clear H
                  go_upto_region 15 with (fail)
                  go_cut [71] (fun v71 wc => ∃ (kq : Nat) (x71_23 : Bool), v71 = .bool x71_23 ∧ Aside0 (tenancylaw08_LeaseForm.j2 kq t523 x11_2 x71_23 = some r) ∧ Aside0 (kq ≤ k2) ∧ Aside0 (Below w.heap.size w wc))
                  case first =>
                    have H := HC24.out
                    clear HC24
                    by_cases c25 : x11_2 < (t523.size : Int)
                    · rw [if_pos c25] at H
                      have c25b0 : decide (x11_2 < (t523.size : Int)) = true := decide_eq_true c25
                      clear c25
                      (first | rw [c25b0] | (simp only [i64_w, i32_w]; rw [c25b0]) | skip)
                      have H' := Aside0.mk H
                      clear H
                      go_wp2
                      go_meet
                      case rel => exact ⟨_, (decide ((t523.size : Int) ≤ 2000)), (by first | rfl | (simp; done) | (simp only [ByteArray.size_extract]; rw [Nat.min_eq_left (by omega)]; done) | (simp [*]; done)), H', ⟨by have := HJ5.out; have := HK2.out; first | omega | exact Nat.le_refl _⟩, ⟨by repeat (first | (with_reducible first | exact HB.out | apply below_alloc | apply pw_below_drewN | apply below_drew1) | exact HB.out)⟩⟩
                    · rw [if_neg c25] at H
                      have c25b0 : decide (x11_2 < (t523.size : Int)) = false := decide_eq_false c25
                      clear c25
                      (first | rw [c25b0] | (simp only [i64_w, i32_w]; rw [c25b0]) | skip)
                      have H' := Aside0.mk H
                      clear H
                      go_wp2
                      go_meet
                      case rel => exact ⟨_, (false), (by first | rfl | (simp; done) | (simp only [ByteArray.size_extract]; rw [Nat.min_eq_left (by omega)]; done) | (simp [*]; done)), H', ⟨by have := HJ5.out; have := HK2.out; first | omega | exact Nat.le_refl _⟩, ⟨by repeat (first | (with_reducible first | exact HB.out | apply below_alloc | apply pw_below_drewN | apply below_drew1) | exact HB.out)⟩⟩
                  case rest =>
                    clear HC24
                    try clear c1
                    try clear c2
                    try clear p2
                    try clear c4
                    try clear c6
                    try clear c9
                    try clear c9b0
                    try clear c9b1
                    try clear c11
                    try clear c11b0
                    try clear c11b1
                    try clear c12
                    try clear c12b0
                    try clear c12b1
                    try clear c16
                    try clear c16b0
                    try clear c16b1
                    try clear c18
                    try clear c18b0
                    try clear c18b1
                    try clear c20
                    try clear c22
                    try clear c25
                    try clear c25b0
                    try clear p2
                    obtain ⟨kq, x71_23, rfl, HA, HJ23, HB⟩ := hcut
                    cases kq with
                    | zero => exact absurd HA.out (by simp [tenancylaw08_LeaseForm.j2])
                    | succ kj23 =>
                      have H := HA.out
                      clear HA
                      simp only [tenancylaw08_LeaseForm.j2] at H
                      by_cases c26 : x71_23 = true
                      · subst c26
                        have H1 : (if 0 ≤ x11_2 then (if x11_2 ≤ (t523.size : Int) then ((lease_Decode.f kj23 (t523.extract 0 (x11_2 : Int).toNat)).bind fun bt530 => (if bt530.2 = 3 then (tenancylaw08_LeaseForm.l0 kj23 t523 (wrap64 (x11_2 + 1))) else (none))) else (none)) else (none)) = some r := by rw [if_pos rfl] at H; exact H
                        clear H
                        have H := H1
                        clear H1
                        by_cases c27 : 0 ≤ x11_2
                        · rw [if_pos c27] at H
                          have c27b0 := eq_true c27
                          have c27b1 : decide (0 ≤ x11_2) = true := decide_eq_true c27
                          clear c27
                          by_cases c28 : x11_2 ≤ (t523.size : Int)
                          · rw [if_pos c28] at H
                            have c28b0 := eq_true c28
                            have c28b1 : decide (x11_2 ≤ (t523.size : Int)) = true := decide_eq_true c28
                            clear c28
                            replace H := Option.bind_eq_some_iff.mp H
                            obtain ⟨⟨t530, t531⟩, A290, H⟩ := H
                            replace H : (if t531 = 3 then (tenancylaw08_LeaseForm.l0 kj23 t523 (wrap64 (x11_2 + 1))) else (none)) = some r := H
                            have A29 := Aside0.mk A290
                            clear A290
                            by_cases c30 : t531 = 3
                            · rw [if_pos c30] at H
                              have c30b0 : (t531 == 3) = true := beq_iff_eq.mpr c30
                              have c30b1 : (t531 != 3) = false := bne_eq_false_iff_eq.mpr c30
                              clear c30
                              have H' := Aside0.mk H
                              clear H
                              go_wp2_with (first | ((with_reducible refine gate_callee (f := 22) rfl ?_); refine goesL_ (some 78) rfl rfl Try.func22 (by kernel_rfl) rfl #[.string (t523.extract 0 (x11_2 : Int).toNat)] rfl (by (try simp only [List.map_toArray, List.map_cons, List.map_nil]); first | done | rfl | (simp only [List.length_drop, List.length_take]; rfl)) ?_; (with_reducible refine (lease_Decode.calls kj23 (t523.extract 0 (x11_2 : Int).toNat) t530 t531 _ A29.out).mono ?_); rintro e w31 ⟨v532, rfl, ho0, hb⟩; refine ⟨_, rfl, ?_⟩; have n0_ := Aside0.mk (Kd.R_lower ho0 (below_size (by repeat (first | (with_reducible first | exact HB.out | apply below_alloc | apply pw_below_drewN | apply below_drew1) | exact HB.out)))); have n1_ := Aside0.mk (below_step (by repeat (first | (with_reducible first | exact HB.out | apply below_alloc | apply pw_below_drewN | apply below_drew1) | exact HB.out)) hb); clear HB; have HO533 := n0_; have HB := n1_; clear n0_ n1_; (try clear hb); (try clear hb2); (try clear hk); (try clear hi); (try clear ho0)))
                              go_roundg kj23
                              case measure => have := HJ5.out; have := HK2.out; have := HJ23.out; omega
                              case rel => exact ⟨(wrap64 (x11_2 + 1)), (by first | rfl | (simp; done) | (simp only [ByteArray.size_extract]; rw [Nat.min_eq_left (by omega)]; done) | (simp [*]; done)), H', ⟨by have := HJ5.out; have := HK2.out; have := HJ23.out; omega⟩, ⟨by repeat (first | (with_reducible first | exact HB.out | apply below_alloc | apply pw_below_drewN | apply below_drew1) | exact HB.out)⟩⟩
                            · rw [if_neg c30] at H
                              exact absurd H (by simp)
                          · rw [if_neg c28] at H
                            exact absurd H (by simp)
                        · rw [if_neg c27] at H
                          exact absurd H (by simp)
                      · replace c26 := Bool.eq_false_iff.mpr c26
                        subst c26
                        have H1 : (if t523.size + 1 ≤ 9223372036854775807 then ((lease_Decode.f kj23 (t523 ++ (⟨#[120]⟩ : ByteArray))).bind fun bt534 => (some (bt534.2 == 5))) else (none)) = some r := by rw [if_neg (show ¬ (false = true) by decide)] at H; exact H
                        clear H
                        have H := H1
                        clear H1
                        by_cases c32 : t523.size + 1 ≤ 9223372036854775807
                        · rw [if_pos c32] at H
                          have c32b0 := eq_true c32
                          have c32b1 : decide (t523.size + 1 ≤ 9223372036854775807) = true := decide_eq_true c32
                          try have c32b2 : (9223372036854775807 < t523.size + 1) = False := eq_false (Nat.not_lt.2 c32)
                          replace H := Option.bind_eq_some_iff.mp H
                          obtain ⟨⟨t534, t535⟩, A330, H⟩ := H
                          replace H : (some (t535 == 5)) = some r := H
                          have A33 := Aside0.mk A330
                          clear A330
                          obtain rfl := Option.some.inj H
                          go_wp2_with (first | ((with_reducible refine gate_callee (f := 22) rfl ?_); refine goesL_ (some 86) rfl rfl Try.func22 (by kernel_rfl) rfl #[.string (t523 ++ (⟨#[120]⟩ : ByteArray))] rfl (by (try simp only [List.map_toArray, List.map_cons, List.map_nil]); first | done | rfl | (simp only [List.length_drop, List.length_take]; rfl)) ?_; (with_reducible refine (lease_Decode.calls kj23 (t523 ++ (⟨#[120]⟩ : ByteArray)) t534 t535 _ A33.out).mono ?_); rintro e w34 ⟨v536, rfl, ho0, hb⟩; refine ⟨_, rfl, ?_⟩; have n0_ := Aside0.mk (Kd.R_lower ho0 (below_size (by repeat (first | (with_reducible first | exact HB.out | apply below_alloc | apply pw_below_drewN | apply below_drew1) | exact HB.out)))); have n1_ := Aside0.mk (below_step (by repeat (first | (with_reducible first | exact HB.out | apply below_alloc | apply pw_below_drewN | apply below_drew1) | exact HB.out)) hb); clear HB; have HO537 := n0_; have HB := n1_; clear n0_ n1_; (try clear hb); (try clear hb2); (try clear hk); (try clear hi); (try clear ho0)))
                          go_ret
                          exact ⟨by first | rfl | (simp [errW_none, errW_some] <;> rfl) | (simp [*, errW_none, errW_some] <;> rfl), by repeat (first | (with_reducible first | exact HB.out | apply below_alloc | apply pw_below_drewN | apply below_drew1) | exact HB.out)⟩
                        · rw [if_neg c32] at H
                          exact absurd H (by simp)
            · replace c20 := Bool.eq_false_iff.mpr c20
              subst c20
              have H1 : (none) = some r := by rw [if_neg (show ¬ (false = true) by decide)] at H; exact H
              clear H
              have H := H1
              clear H1
              exact absurd H (by simp)
          · rw [if_neg c18] at H
            exact absurd H (by simp)
        · rw [if_neg c16] at H
          have c16b0 : (t524 == 0) = false := beq_eq_false_iff_ne.mpr c16
          have c16b1 : (t524 != 0) = true := bne_iff_ne.mpr c16
          by_cases c35 : t523.toList = ([] : List UInt8)
          · rw [if_pos c35] at H
            have c35b0 : (t523.toList == ([] : List UInt8)) = true := beq_iff_eq.mpr c35
            have c35b1 : (t523.toList != ([] : List UInt8)) = false := bne_eq_false_iff_eq.mpr c35
            clear c35
            obtain rfl := Option.some.inj H
            go_wp2_with (first | ((with_reducible refine gate_callee (f := 20) rfl ?_); refine goesL_ (some 35) rfl rfl Try.func20 (by kernel_rfl) rfl #[.slice A1 l1.length c1] rfl (by (try simp only [List.map_toArray, List.map_cons, List.map_nil]); first | done | rfl | (simp only [List.length_drop, List.length_take]; rfl)) ?_; (with_reducible refine (lease_Encode.calls _ _ l1 t523 t524 _ ?side1 ?side2 A15.out).mono ?_); (case side1 => repeat (first | exact (Kd.C_below HR1.out HB.out) | (with_reducible refine Kd.C_alloc ?_ _) | (with_reducible refine Kd.C_drewN ?_ _) | (with_reducible refine Kd.C_drew ?_))); (case side2 => exact HC1.out); rintro e w36 ⟨rfl, hb⟩; refine ⟨_, rfl, ?_⟩; have n0_ := Aside0.mk (below_step (by repeat (first | (with_reducible first | exact HB.out | apply below_alloc | apply pw_below_drewN | apply below_drew1) | exact HB.out)) hb); clear HB; have HB := n0_; clear n0_; (try clear hb); (try clear hb2); (try clear hk); (try clear hi)))
            go_ret
            exact ⟨by first | rfl | (simp [errW_none, errW_some] <;> rfl) | (simp [*, errW_none, errW_some] <;> rfl), by repeat (first | (with_reducible first | exact HB.out | apply below_alloc | apply pw_below_drewN | apply below_drew1) | exact HB.out)⟩
          · rw [if_neg c35] at H
            exact absurd H (by simp)
  · replace c4 := Bool.eq_false_iff.mpr c4
    subst c4
    have H1 : (none) = some r := by rw [if_neg (show ¬ (false = true) by decide)] at H; exact H
    clear H
    have H := H1
    clear H1
    exact absurd H (by simp)

/-- The one plain statement of tenancylaw08_LeaseForm. -/
def tenancylaw08_LeaseForm.Pure : Prop := ∀ (a0 : ByteArray) (l1 : List (S31)), (a0.size ≤ 140737488351232) → (l1.length * 80 ≤ 140737488351232 ∧ ∀ y_ ∈ l1, wf31 y_) → ∃ k, tenancylaw08_LeaseForm.f k a0 l1 = some true

end Go.Proofs.Ytpdopkhdhbdljaa.X
