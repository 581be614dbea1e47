/- Functions of the program as Lean functions, and that the calls come to them: no condition.  By this session's own program (wip/xprint). -/
import Derived.Test.YtfpamalmkmhpgaaG0
import Derived.Test.YtfpamalmkmhpgaaG1
import Derived.Test.YtfpamalmkmhpgaaG2
import Derived.Test.YtfpamalmkmhpgaaG3
namespace Go.Proofs.Ytfpamalmkmhpgaa.X
open Go.RowKit Go.Proofs.YtfpamalmkmhpgaaW.PrintWords Go.Proofs.YtfpamalmkmhpgaaW.PrintLast Go.Proofs.YtfpamalmkmhpgaaW.PrintMore
attribute [local go_sem] max2_int min2_int max_two min_two max_three min_three max_four min_four   -- for this text's walks alone
set_option linter.unusedVariables false
set_option linter.unusedSimpArgs false
attribute [local go_sem high] eqA33
/-! ### tenancylaw17_RelayBack: function 6 -/
mutual
def tenancylaw17_RelayBack.j0 : Nat → Int → List (S39) → ByteArray → ByteArray → Bool → Option (Bool)
  | 0, _, _, _, _, _ => none
  | k + 1, x0, x1, x2, x7, x55 => if x55 = true then (some true) else ((relay_Unwrap.f k x0 x7).bind fun bt359 => (if bt359.2.2 = 0 then ((tenancylaw17_same.f k bt359.1 x1).bind fun t364 => (if t364 = true then (if bt359.2.1.toList = x2.toList then (if 33 ≤ 4398046511104 then (tenancylaw17_RelayBack.l0 k x0 x1 x7 (([] : List (S39)))) else (none)) else (none)) else (none))) else (none)))
def tenancylaw17_RelayBack.l0 : Nat → Int → List (S39) → ByteArray → List (S39) → Option (Bool)
  | 0, _, _, _, _ => none
  | k + 1, x0, x1, x7, x11 => if (wrap64 ((x11.length : Int) + (x1.length : Int))) ≤ 32 then (if x11.length < 2199023255552 then (tenancylaw17_RelayBack.l0 k x0 x1 x7 (x11 ++ [(⟨0, (⟨0, 0⟩ : S33), (⟨0, 0⟩ : S33), (⟨#[]⟩ : ByteArray), false⟩ : S39)])) else (none)) else (tenancylaw17_RelayBack.l1 k x0 x11 x7 0)
def tenancylaw17_RelayBack.l1 : Nat → Int → List (S39) → ByteArray → Int → Option (Bool)
  | 0, _, _, _, _ => none
  | k + 1, x0, x11, x12, x13 => if x13 < (x11.length : Int) then (if 1 ≤ (x11.length : Int) then ((relay_Wrap.f x0 (x11.take 1) x12).bind fun bt375 => (if bt375.2 = 0 then (tenancylaw17_RelayBack.l1 k x0 x11 bt375.1 (wrap64 (x13 + 1))) else (some (bt375.2 == 6)))) else (none)) else ((relay_Unwrap.f k x0 x12).bind fun bt377 => (some (bt377.2.2 == 170)))
end
def tenancylaw17_RelayBack.f (k : Nat) (a0 : Int) (l1 : List (S39)) (a2 : ByteArray) : Option (Bool) := (tenancylaw17_awake.f k).bind fun t356 => (if t356 = true then ((relay_Wrap.f a0 l1 a2).bind fun bt357 => (if (l1.length : Int) > 32 then (if bt357.2 = 170 then (some true) else (if a0 = 12 then (some false) else (if a0 = 13 then (some false) else (some (bt357.2 == 1))))) else (if bt357.2 = 0 then (if (a2.size : Int) > 0 then (if 0 < (a2.size : Int) then (tenancylaw17_RelayBack.j0 k a0 l1 a2 bt357.1 ((wrap64 (bt a2 0)) == a0)) else (none)) else (tenancylaw17_RelayBack.j0 k a0 l1 a2 bt357.1 false)) else (some (bt357.1.toList == ([] : List UInt8)))))) else (none))
theorem tenancylaw17_RelayBack.mono_l : ∀ k, (∀ y0 y1 y2 y3 y4, LeO (tenancylaw17_RelayBack.j0 k y0 y1 y2 y3 y4) (tenancylaw17_RelayBack.j0 (k + 1) y0 y1 y2 y3 y4)) ∧ (∀ y0 y1 y2 y3, LeO (tenancylaw17_RelayBack.l0 k y0 y1 y2 y3) (tenancylaw17_RelayBack.l0 (k + 1) y0 y1 y2 y3)) ∧ (∀ y0 y1 y2 y3, LeO (tenancylaw17_RelayBack.l1 k y0 y1 y2 y3) (tenancylaw17_RelayBack.l1 (k + 1) y0 y1 y2 y3))
  | 0 => ⟨fun _ _ _ _ _ r h => by simp [tenancylaw17_RelayBack.j0] at h, fun _ _ _ _ r h => by simp [tenancylaw17_RelayBack.l0] at h, fun _ _ _ _ r h => by simp [tenancylaw17_RelayBack.l1] at h⟩
  | k + 1 => by
    obtain ⟨ih0, ih1, ih2⟩ := tenancylaw17_RelayBack.mono_l k
    refine ⟨?_, ?_, ?_⟩
    · intro y0 y1 y2 y3 y4
      unfold tenancylaw17_RelayBack.j0
      repeat' first
      | (with_reducible exact ih0 _ _ _ _ _)
      | (with_reducible exact ih1 _ _ _ _)
      | (with_reducible exact ih2 _ _ _ _)
      | (with_reducible exact relay_Unwrap.mono _ _ _)
      | (with_reducible exact tenancylaw17_awake.mono _)
      | (with_reducible exact tenancylaw17_same.mono _ _ _)
      | (with_reducible exact LeO.refl _)
      | (with_reducible exact LeO.none _)
      | (with_reducible refine LeO.ite ?_ ?_)
      | (with_reducible refine LeO.bind ?_ (fun _ => ?_))
      | exact ih0 _ _ _ _ _
      | exact ih1 _ _ _ _
      | exact ih2 _ _ _ _
      | exact relay_Unwrap.mono _ _ _
      | exact tenancylaw17_awake.mono _
      | exact tenancylaw17_same.mono _ _ _
      | exact LeO.none _
      | refine LeO.ite ?_ ?_
      | refine LeO.bind ?_ (fun _ => ?_)
    · intro y0 y1 y2 y3
      unfold tenancylaw17_RelayBack.l0
      repeat' first
      | (with_reducible exact ih0 _ _ _ _ _)
      | (with_reducible exact ih1 _ _ _ _)
      | (with_reducible exact ih2 _ _ _ _)
      | (with_reducible exact relay_Unwrap.mono _ _ _)
      | (with_reducible exact tenancylaw17_awake.mono _)
      | (with_reducible exact tenancylaw17_same.mono _ _ _)
      | (with_reducible exact LeO.refl _)
      | (with_reducible exact LeO.none _)
      | (with_reducible refine LeO.ite ?_ ?_)
      | (with_reducible refine LeO.bind ?_ (fun _ => ?_))
      | exact ih0 _ _ _ _ _
      | exact ih1 _ _ _ _
      | exact ih2 _ _ _ _
      | exact relay_Unwrap.mono _ _ _
      | exact tenancylaw17_awake.mono _
      | exact tenancylaw17_same.mono _ _ _
      | exact LeO.none _
      | refine LeO.ite ?_ ?_
      | refine LeO.bind ?_ (fun _ => ?_)
    · intro y0 y1 y2 y3
      unfold tenancylaw17_RelayBack.l1
      repeat' first
      | (with_reducible exact ih0 _ _ _ _ _)
      | (with_reducible exact ih1 _ _ _ _)
      | (with_reducible exact ih2 _ _ _ _)
      | (with_reducible exact relay_Unwrap.mono _ _ _)
      | (with_reducible exact tenancylaw17_awake.mono _)
      | (with_reducible exact tenancylaw17_same.mono _ _ _)
      | (with_reducible exact LeO.refl _)
      | (with_reducible exact LeO.none _)
      | (with_reducible refine LeO.ite ?_ ?_)
      | (with_reducible refine LeO.bind ?_ (fun _ => ?_))
      | exact ih0 _ _ _ _ _
      | exact ih1 _ _ _ _
      | exact ih2 _ _ _ _
      | exact relay_Unwrap.mono _ _ _
      | exact tenancylaw17_awake.mono _
      | exact tenancylaw17_same.mono _ _ _
      | exact LeO.none _
      | refine LeO.ite ?_ ?_
      | refine LeO.bind ?_ (fun _ => ?_)
theorem tenancylaw17_RelayBack.mono : ∀ a0 a1 a2 k, LeO (tenancylaw17_RelayBack.f k a0 a1 a2) (tenancylaw17_RelayBack.f (k + 1) a0 a1 a2) := by
  intro a0 a1 a2 k
  obtain ⟨ih0, ih1, ih2⟩ := tenancylaw17_RelayBack.mono_l k
  unfold tenancylaw17_RelayBack.f
  repeat' first
      | (with_reducible exact ih0 _ _ _ _ _)
      | (with_reducible exact ih1 _ _ _ _)
      | (with_reducible exact ih2 _ _ _ _)
      | (with_reducible exact relay_Unwrap.mono _ _ _)
      | (with_reducible exact tenancylaw17_awake.mono _)
      | (with_reducible exact tenancylaw17_same.mono _ _ _)
      | (with_reducible exact LeO.refl _)
      | (with_reducible exact LeO.none _)
      | (with_reducible refine LeO.ite ?_ ?_)
      | (with_reducible refine LeO.bind ?_ (fun _ => ?_))
      | exact ih0 _ _ _ _ _
      | exact ih1 _ _ _ _
      | exact ih2 _ _ _ _
      | exact relay_Unwrap.mono _ _ _
      | exact tenancylaw17_awake.mono _
      | exact tenancylaw17_same.mono _ _ _
      | exact LeO.none _
      | refine LeO.ite ?_ ?_
      | refine LeO.bind ?_ (fun _ => ?_)
set_option maxHeartbeats 8000000 in
set_option maxRecDepth 100000 in
theorem tenancylaw17_RelayBack.calls (k : Nat) (a0 : Int) (A1 : Option Addr) (c1 : Nat) (l1 : List (S39)) (a2 : ByteArray) (r : Bool) (w : World) (hr1 : Kd.C k39 w A1 l1.length l1) (hc1 : l1.length ≤ c1) (h : tenancylaw17_RelayBack.f k a0 l1 a2 = some r) :
    Calls Try.prog 6 #[.int .i64 a0, .slice A1 l1.length c1, .string a2] w fun e w' => e = .returned (.bool r) ∧ Below w.heap.size w w' := by
  have hu39 := Try.underlying39
  have HR1 := Aside0.mk hr1
  have HC1 := Aside0.mk hc1
  clear hr1 hc1
  have HB := Aside0.mk (Below.refl w.heap.size w)
  have H : ((tenancylaw17_awake.f k).bind fun t356 => (if t356 = true then ((relay_Wrap.f a0 l1 a2).bind fun bt357 => (if (l1.length : Int) > 32 then (if bt357.2 = 170 then (some true) else (if a0 = 12 then (some false) else (if a0 = 13 then (some false) else (some (bt357.2 == 1))))) else (if bt357.2 = 0 then (if (a2.size : Int) > 0 then (if 0 < (a2.size : Int) then (tenancylaw17_RelayBack.j0 k a0 l1 a2 bt357.1 ((wrap64 (bt a2 0)) == a0)) else (none)) else (tenancylaw17_RelayBack.j0 k a0 l1 a2 bt357.1 false)) else (some (bt357.1.toList == ([] : List UInt8)))))) else (none))) = some r := h
  clear h
  replace H := Option.bind_eq_some_iff.mp H
  obtain ⟨t356, A40, H⟩ := H
  replace H : (if t356 = true then ((relay_Wrap.f a0 l1 a2).bind fun bt357 => (if (l1.length : Int) > 32 then (if bt357.2 = 170 then (some true) else (if a0 = 12 then (some false) else (if a0 = 13 then (some false) else (some (bt357.2 == 1))))) else (if bt357.2 = 0 then (if (a2.size : Int) > 0 then (if 0 < (a2.size : Int) then (tenancylaw17_RelayBack.j0 k a0 l1 a2 bt357.1 ((wrap64 (bt a2 0)) == a0)) else (none)) else (tenancylaw17_RelayBack.j0 k a0 l1 a2 bt357.1 false)) else (some (bt357.1.toList == ([] : List UInt8)))))) else (none)) = some r := H
  have A4 := Aside0.mk A40
  clear A40
  by_cases c5 : t356 = true
  · subst c5
    have H1 : ((relay_Wrap.f a0 l1 a2).bind fun bt357 => (if (l1.length : Int) > 32 then (if bt357.2 = 170 then (some true) else (if a0 = 12 then (some false) else (if a0 = 13 then (some false) else (some (bt357.2 == 1))))) else (if bt357.2 = 0 then (if (a2.size : Int) > 0 then (if 0 < (a2.size : Int) then (tenancylaw17_RelayBack.j0 k a0 l1 a2 bt357.1 ((wrap64 (bt a2 0)) == a0)) else (none)) else (tenancylaw17_RelayBack.j0 k a0 l1 a2 bt357.1 false)) else (some (bt357.1.toList == ([] : List UInt8)))))) = some r := by rw [if_pos rfl] at H; exact H
    clear H
    have H := H1
    clear H1
    replace H := Option.bind_eq_some_iff.mp H
    obtain ⟨⟨t357, t358⟩, A60, H⟩ := H
    replace H : (if (l1.length : Int) > 32 then (if t358 = 170 then (some true) else (if a0 = 12 then (some false) else (if a0 = 13 then (some false) else (some (t358 == 1))))) else (if t358 = 0 then (if (a2.size : Int) > 0 then (if 0 < (a2.size : Int) then (tenancylaw17_RelayBack.j0 k a0 l1 a2 t357 ((wrap64 (bt a2 0)) == a0)) else (none)) else (tenancylaw17_RelayBack.j0 k a0 l1 a2 t357 false)) else (some (t357.toList == ([] : List UInt8))))) = some r := H
    have A6 := Aside0.mk A60
    clear A60
    by_cases c7 : (l1.length : Int) > 32
    · rw [if_pos c7] at H
      have c7b0 : decide (32 < (l1.length : Int)) = true := decide_eq_true c7
      have c7b1 : decide (32 < l1.length) = true := decide_eq_true (by omega)
      clear c7
      by_cases c8 : t358 = 170
      · rw [if_pos c8] at H
        have c8b0 : (t358 == 170) = true := beq_iff_eq.mpr c8
        have c8b1 : (t358 != 170) = false := bne_eq_false_iff_eq.mpr c8
        clear c8
        obtain rfl := Option.some.inj H
        go_enter Try.func6, Try.ntmps6
        go_wp2_with (first | ((with_reducible refine gate_callee (f := 9) rfl ?_); refine goesL_ (some 16) rfl rfl Try.func9 (by kernel_rfl) rfl #[] rfl (by (try simp only [List.map_toArray, List.map_cons, List.map_nil]); first | done | rfl | (simp only [List.length_drop, List.length_take]; rfl)) ?_; (with_reducible refine (tenancylaw17_awake.calls k  true _ A4.out).mono ?_); rintro e w9 ⟨rfl, hb⟩; refine ⟨_, rfl, ?_⟩; have n0_ := Aside0.mk (below_step (by repeat (first | (with_reducible first | exact HB.out | apply below_alloc | apply pw_below_drewN | apply below_drew1) | exact HB.out)) hb); clear HB; have HB := n0_; clear n0_; (try clear hb); (try clear hb2); (try clear hk); (try clear hi)) | ((with_reducible refine gate_callee (f := 13) rfl ?_); refine goesL_ (some 22) rfl rfl Try.func13 (by kernel_rfl) rfl #[.int .i64 a0, .slice A1 l1.length c1, .string a2] rfl (by (try simp only [List.map_toArray, List.map_cons, List.map_nil]); first | done | rfl | (simp only [List.length_drop, List.length_take]; rfl)) ?_; (with_reducible refine (relay_Wrap.calls a0 _ _ l1 a2 t357 t358 _ ?side1 ?side2 A6.out).mono ?_); (case side1 => repeat (first | exact (Kd.C_below HR1.out HB.out) | (with_reducible refine Kd.C_alloc ?_ _) | (with_reducible refine Kd.C_drewN ?_ _) | (with_reducible refine Kd.C_drew ?_))); (case side2 => exact HC1.out); rintro e w10 ⟨rfl, hb⟩; refine ⟨_, rfl, ?_⟩; have n0_ := Aside0.mk (below_step (by repeat (first | (with_reducible first | exact HB.out | apply below_alloc | apply pw_below_drewN | apply below_drew1) | exact HB.out)) hb); clear HB; have HB := n0_; clear n0_; (try clear hb); (try clear hb2); (try clear hk); (try clear hi)))
        go_ret
        exact ⟨by first | rfl | (simp [errW_none, errW_some] <;> rfl) | (simp [*, errW_none, errW_some] <;> rfl), by repeat (first | (with_reducible first | exact HB.out | apply below_alloc | apply pw_below_drewN | apply below_drew1) | exact HB.out)⟩
      · rw [if_neg c8] at H
        have c8b0 : (t358 == 170) = false := beq_eq_false_iff_ne.mpr c8
        have c8b1 : (t358 != 170) = true := bne_iff_ne.mpr c8
        by_cases c11 : a0 = 12
        · rw [if_pos c11] at H
          have c11b0 : (a0 == 12) = true := beq_iff_eq.mpr c11
          have c11b1 : (a0 != 12) = false := bne_eq_false_iff_eq.mpr c11
          clear c11
          obtain rfl := Option.some.inj H
          go_enter Try.func6, Try.ntmps6
          go_wp2_with (first | ((with_reducible refine gate_callee (f := 9) rfl ?_); refine goesL_ (some 16) rfl rfl Try.func9 (by kernel_rfl) rfl #[] rfl (by (try simp only [List.map_toArray, List.map_cons, List.map_nil]); first | done | rfl | (simp only [List.length_drop, List.length_take]; rfl)) ?_; (with_reducible refine (tenancylaw17_awake.calls k  true _ A4.out).mono ?_); rintro e w12 ⟨rfl, hb⟩; refine ⟨_, rfl, ?_⟩; have n0_ := Aside0.mk (below_step (by repeat (first | (with_reducible first | exact HB.out | apply below_alloc | apply pw_below_drewN | apply below_drew1) | exact HB.out)) hb); clear HB; have HB := n0_; clear n0_; (try clear hb); (try clear hb2); (try clear hk); (try clear hi)) | ((with_reducible refine gate_callee (f := 13) rfl ?_); refine goesL_ (some 22) rfl rfl Try.func13 (by kernel_rfl) rfl #[.int .i64 a0, .slice A1 l1.length c1, .string a2] rfl (by (try simp only [List.map_toArray, List.map_cons, List.map_nil]); first | done | rfl | (simp only [List.length_drop, List.length_take]; rfl)) ?_; (with_reducible refine (relay_Wrap.calls a0 _ _ l1 a2 t357 t358 _ ?side1 ?side2 A6.out).mono ?_); (case side1 => repeat (first | exact (Kd.C_below HR1.out HB.out) | (with_reducible refine Kd.C_alloc ?_ _) | (with_reducible refine Kd.C_drewN ?_ _) | (with_reducible refine Kd.C_drew ?_))); (case side2 => exact HC1.out); rintro e w13 ⟨rfl, hb⟩; refine ⟨_, rfl, ?_⟩; have n0_ := Aside0.mk (below_step (by repeat (first | (with_reducible first | exact HB.out | apply below_alloc | apply pw_below_drewN | apply below_drew1) | exact HB.out)) hb); clear HB; have HB := n0_; clear n0_; (try clear hb); (try clear hb2); (try clear hk); (try clear hi)))
          go_ret
          exact ⟨by first | rfl | (simp [errW_none, errW_some] <;> rfl) | (simp [*, errW_none, errW_some] <;> rfl), by repeat (first | (with_reducible first | exact HB.out | apply below_alloc | apply pw_below_drewN | apply below_drew1) | exact HB.out)⟩
        · rw [if_neg c11] at H
          have c11b0 : (a0 == 12) = false := beq_eq_false_iff_ne.mpr c11
          have c11b1 : (a0 != 12) = true := bne_iff_ne.mpr c11
          by_cases c14 : a0 = 13
          · rw [if_pos c14] at H
            have c14b0 : (a0 == 13) = true := beq_iff_eq.mpr c14
            have c14b1 : (a0 != 13) = false := bne_eq_false_iff_eq.mpr c14
            clear c14
            obtain rfl := Option.some.inj H
            go_enter Try.func6, Try.ntmps6
            go_wp2_with (first | ((with_reducible refine gate_callee (f := 9) rfl ?_); refine goesL_ (some 16) rfl rfl Try.func9 (by kernel_rfl) rfl #[] rfl (by (try simp only [List.map_toArray, List.map_cons, List.map_nil]); first | done | rfl | (simp only [List.length_drop, List.length_take]; rfl)) ?_; (with_reducible refine (tenancylaw17_awake.calls k  true _ A4.out).mono ?_); rintro e w15 ⟨rfl, hb⟩; refine ⟨_, rfl, ?_⟩; have n0_ := Aside0.mk (below_step (by repeat (first | (with_reducible first | exact HB.out | apply below_alloc | apply pw_below_drewN | apply below_drew1) | exact HB.out)) hb); clear HB; have HB := n0_; clear n0_; (try clear hb); (try clear hb2); (try clear hk); (try clear hi)) | ((with_reducible refine gate_callee (f := 13) rfl ?_); refine goesL_ (some 22) rfl rfl Try.func13 (by kernel_rfl) rfl #[.int .i64 a0, .slice A1 l1.length c1, .string a2] rfl (by (try simp only [List.map_toArray, List.map_cons, List.map_nil]); first | done | rfl | (simp only [List.length_drop, List.length_take]; rfl)) ?_; (with_reducible refine (relay_Wrap.calls a0 _ _ l1 a2 t357 t358 _ ?side1 ?side2 A6.out).mono ?_); (case side1 => repeat (first | exact (Kd.C_below HR1.out HB.out) | (with_reducible refine Kd.C_alloc ?_ _) | (with_reducible refine Kd.C_drewN ?_ _) | (with_reducible refine Kd.C_drew ?_))); (case side2 => exact HC1.out); rintro e w16 ⟨rfl, hb⟩; refine ⟨_, rfl, ?_⟩; have n0_ := Aside0.mk (below_step (by repeat (first | (with_reducible first | exact HB.out | apply below_alloc | apply pw_below_drewN | apply below_drew1) | exact HB.out)) hb); clear HB; have HB := n0_; clear n0_; (try clear hb); (try clear hb2); (try clear hk); (try clear hi)))
            go_ret
            exact ⟨by first | rfl | (simp [errW_none, errW_some] <;> rfl) | (simp [*, errW_none, errW_some] <;> rfl), by repeat (first | (with_reducible first | exact HB.out | apply below_alloc | apply pw_below_drewN | apply below_drew1) | exact HB.out)⟩
          · rw [if_neg c14] at H
            have c14b0 : (a0 == 13) = false := beq_eq_false_iff_ne.mpr c14
            have c14b1 : (a0 != 13) = true := bne_iff_ne.mpr c14
            obtain rfl := Option.some.inj H
            go_enter Try.func6, Try.ntmps6
            go_wp2_with (first | ((with_reducible refine gate_callee (f := 9) rfl ?_); refine goesL_ (some 16) rfl rfl Try.func9 (by kernel_rfl) rfl #[] rfl (by (try simp only [List.map_toArray, List.map_cons, List.map_nil]); first | done | rfl | (simp only [List.length_drop, List.length_take]; rfl)) ?_; (with_reducible refine (tenancylaw17_awake.calls k  true _ A4.out).mono ?_); rintro e w17 ⟨rfl, hb⟩; refine ⟨_, rfl, ?_⟩; have n0_ := Aside0.mk (below_step (by repeat (first | (with_reducible first | exact HB.out | apply below_alloc | apply pw_below_drewN | apply below_drew1) | exact HB.out)) hb); clear HB; have HB := n0_; clear n0_; (try clear hb); (try clear hb2); (try clear hk); (try clear hi)) | ((with_reducible refine gate_callee (f := 13) rfl ?_); refine goesL_ (some 22) rfl rfl Try.func13 (by kernel_rfl) rfl #[.int .i64 a0, .slice A1 l1.length c1, .string a2] rfl (by (try simp only [List.map_toArray, List.map_cons, List.map_nil]); first | done | rfl | (simp only [List.length_drop, List.length_take]; rfl)) ?_; (with_reducible refine (relay_Wrap.calls a0 _ _ l1 a2 t357 t358 _ ?side1 ?side2 A6.out).mono ?_); (case side1 => repeat (first | exact (Kd.C_below HR1.out HB.out) | (with_reducible refine Kd.C_alloc ?_ _) | (with_reducible refine Kd.C_drewN ?_ _) | (with_reducible refine Kd.C_drew ?_))); (case side2 => exact HC1.out); rintro e w18 ⟨rfl, hb⟩; refine ⟨_, rfl, ?_⟩; have n0_ := Aside0.mk (below_step (by repeat (first | (with_reducible first | exact HB.out | apply below_alloc | apply pw_below_drewN | apply below_drew1) | exact HB.out)) hb); clear HB; have HB := n0_; clear n0_; (try clear hb); (try clear hb2); (try clear hk); (try clear hi)))
            go_ret
            exact ⟨by first | rfl | (simp [errW_none, errW_some] <;> rfl) | (simp [*, errW_none, errW_some] <;> rfl), by repeat (first | (with_reducible first | exact HB.out | apply below_alloc | apply pw_below_drewN | apply below_drew1) | exact HB.out)⟩
    · rw [if_neg c7] at H
      have c7b0 : decide (32 < (l1.length : Int)) = false := decide_eq_false c7
      have c7b1 : decide (32 < l1.length) = false := decide_eq_false (by omega)
      clear c7
      by_cases c19 : t358 = 0
      · rw [if_pos c19] at H
        have c19b0 : (t358 == 0) = true := beq_iff_eq.mpr c19
        have c19b1 : (t358 != 0) = false := bne_eq_false_iff_eq.mpr c19
        clear c19
        have HC20 := Aside0.mk H
        clear H
        go_enter Try.func6, Try.ntmps6
        go_upto_region 8 with (first | ((with_reducible refine gate_callee (f := 9) rfl ?_); refine goesL_ (some 16) rfl rfl Try.func9 (by kernel_rfl) rfl #[] rfl (by (try simp only [List.map_toArray, List.map_cons, List.map_nil]); first | done | rfl | (simp only [List.length_drop, List.length_take]; rfl)) ?_; (with_reducible refine (tenancylaw17_awake.calls k  true _ A4.out).mono ?_); rintro e w21 ⟨rfl, hb⟩; refine ⟨_, rfl, ?_⟩; have n0_ := Aside0.mk (below_step (by repeat (first | (with_reducible first | exact HB.out | apply below_alloc | apply pw_below_drewN | apply below_drew1) | exact HB.out)) hb); clear HB; have HB := n0_; clear n0_; (try clear hb); (try clear hb2); (try clear hk); (try clear hi)) | ((with_reducible refine gate_callee (f := 13) rfl ?_); refine goesL_ (some 22) rfl rfl Try.func13 (by kernel_rfl) rfl #[.int .i64 a0, .slice A1 l1.length c1, .string a2] rfl (by (try simp only [List.map_toArray, List.map_cons, List.map_nil]); first | done | rfl | (simp only [List.length_drop, List.length_take]; rfl)) ?_; (with_reducible refine (relay_Wrap.calls a0 _ _ l1 a2 t357 t358 _ ?side1 ?side2 A6.out).mono ?_); (case side1 => repeat (first | exact (Kd.C_below HR1.out HB.out) | (with_reducible refine Kd.C_alloc ?_ _) | (with_reducible refine Kd.C_drewN ?_ _) | (with_reducible refine Kd.C_drew ?_))); (case side2 => exact HC1.out); rintro e w22 ⟨rfl, hb⟩; refine ⟨_, rfl, ?_⟩; have n0_ := Aside0.mk (below_step (by repeat (first | (with_reducible first | exact HB.out | apply below_alloc | apply pw_below_drewN | apply below_drew1) | exact HB.out)) hb); clear HB; have HB := n0_; clear n0_; (try clear hb); (try clear hb2); (try clear hk); (try clear hi)))
        (try simp only [Act.put, List.setIfInBounds_toArray, List.set_cons_zero, List.set_cons_succ])
        go_cut [55] (fun v55 wc => ∃ (kq : Nat) (x55_19 : Bool), v55 = .bool x55_19 ∧ Aside0 (tenancylaw17_RelayBack.j0 kq a0 l1 a2 t357 x55_19 = some r) ∧ Aside0 (kq ≤ k) ∧ Aside0 (Below w.heap.size w wc))
        case first =>
          have H := HC20.out
          clear HC20
          by_cases c23 : (a2.size : Int) > 0
          · rw [if_pos c23] at H
            have c23b0 : decide (0 < (a2.size : Int)) = true := decide_eq_true c23
            have c23b1 : decide (0 < a2.size) = true := decide_eq_true (by omega)
            clear c23
            (first | rw [c23b0] | (simp only [i64_w, i32_w]; rw [c23b0]) | skip)
            by_cases c24 : 0 < (a2.size : Int)
            · rw [if_pos c24] at H
              have c24b0 : decide (0 < (a2.size : Int)) = true := decide_eq_true c24
              have c24b1 : decide (0 < a2.size) = true := decide_eq_true (by omega)
              clear c24
              have H' := Aside0.mk H
              clear H
              have p25 : 0 ≤ (0 : Int) := (by omega)
              have q25 : 0 < a2.size := (by have : (0 : Int) < (a2.size : Int) := of_decide_eq_true (by first | (with_reducible assumption) | assumption); omega)
              have hx25 : ∀ h : 0 < a2.size, ((a2[0]'h).toNat : Int) = bt a2 0 := bt_at a2 0
              clear p25
              have qi25 : (0 < (a2.size : Int)) = True := eq_true (of_decide_eq_true (by first | (with_reducible assumption) | assumption))
              replace q25 := eq_true q25
              go_wp2
              go_meet
              case rel => exact ⟨_, (((wrap64 (bt a2 0)) == a0)), (by first | rfl | (simp; done) | (simp only [ByteArray.size_extract]; rw [Nat.min_eq_left (by omega)]; done) | (simp [*]; done)), H', ⟨by first | omega | exact Nat.le_refl _⟩, ⟨by repeat (first | (with_reducible first | exact HB.out | apply below_alloc | apply pw_below_drewN | apply below_drew1) | exact HB.out)⟩⟩
            · rw [if_neg c24] at H
              exact absurd H (by simp)
          · rw [if_neg c23] at H
            have c23b0 : decide (0 < (a2.size : Int)) = false := decide_eq_false c23
            have c23b1 : decide (0 < a2.size) = false := decide_eq_false (by omega)
            clear c23
            (first | rw [c23b0] | (simp only [i64_w, i32_w]; rw [c23b0]) | skip)
            have H' := Aside0.mk H
            clear H
            go_wp2
            go_meet
            case rel => exact ⟨_, (false), (by first | rfl | (simp; done) | (simp only [ByteArray.size_extract]; rw [Nat.min_eq_left (by omega)]; done) | (simp [*]; done)), H', ⟨by first | omega | exact Nat.le_refl _⟩, ⟨by repeat (first | (with_reducible first | exact HB.out | apply below_alloc | apply pw_below_drewN | apply below_drew1) | exact HB.out)⟩⟩
        case rest =>
          clear HC20
          try clear c1
          try clear c2
          try clear p2
          try clear q2
          try clear hx2
          try clear qi2
          try clear c5
          try clear c6
          try clear p6
          try clear c7
          try clear c7b0
          try clear c7b1
          try clear c8
          try clear c8b0
          try clear c8b1
          try clear c9
          try clear c11
          try clear c11b0
          try clear c11b1
          try clear c13
          try clear c14
          try clear c14b0
          try clear c14b1
          try clear c19
          try clear c19b0
          try clear c19b1
          try clear c23
          try clear c23b0
          try clear c23b1
          try clear c24
          try clear c24b0
          try clear c24b1
          try clear p25
          try clear q25
          try clear hx25
          try clear qi25
          try clear p25
          try clear q25
          obtain ⟨kq, x55_19, rfl, HA, HJ19, HB⟩ := hcut
          cases kq with
          | zero => exact absurd HA.out (by simp [tenancylaw17_RelayBack.j0])
          | succ kj19 =>
            have H := HA.out
            clear HA
            simp only [tenancylaw17_RelayBack.j0] at H
            by_cases c26 : x55_19 = true
            · subst c26
              have H1 : (some true) = some r := by rw [if_pos rfl] at H; exact H
              clear H
              have H := H1
              clear H1
              obtain rfl := Option.some.inj H
              go_wp2
              go_ret
              exact ⟨by first | rfl | (simp [errW_none, errW_some] <;> rfl) | (simp [*, errW_none, errW_some] <;> rfl), by repeat (first | (with_reducible first | exact HB.out | apply below_alloc | apply pw_below_drewN | apply below_drew1) | exact HB.out)⟩
            · replace c26 := Bool.eq_false_iff.mpr c26
              subst c26
              have H1 : ((relay_Unwrap.f kj19 a0 t357).bind fun bt359 => (if bt359.2.2 = 0 then ((tenancylaw17_same.f kj19 bt359.1 l1).bind fun t364 => (if t364 = true then (if bt359.2.1.toList = a2.toList then (if 33 ≤ 4398046511104 then (tenancylaw17_RelayBack.l0 kj19 a0 l1 t357 (([] : List (S39)))) else (none)) else (none)) else (none))) else (none))) = some r := by rw [if_neg (show ¬ (false = true) by decide)] at H; exact H
              clear H
              have H := H1
              clear H1
              replace H := Option.bind_eq_some_iff.mp H
              obtain ⟨⟨t359, t360, t361⟩, A270, H⟩ := H
              replace H : (if t361 = 0 then ((tenancylaw17_same.f kj19 t359 l1).bind fun t364 => (if t364 = true then (if t360.toList = a2.toList then (if 33 ≤ 4398046511104 then (tenancylaw17_RelayBack.l0 kj19 a0 l1 t357 (([] : List (S39)))) else (none)) else (none)) else (none))) else (none)) = some r := H
              have A27 := Aside0.mk A270
              clear A270
              by_cases c28 : t361 = 0
              · rw [if_pos c28] at H
                have c28b0 : (t361 == 0) = true := beq_iff_eq.mpr c28
                have c28b1 : (t361 != 0) = false := bne_eq_false_iff_eq.mpr c28
                clear c28
                replace H := Option.bind_eq_some_iff.mp H
                obtain ⟨t364, A290, H⟩ := H
                replace H : (if t364 = true then (if t360.toList = a2.toList then (if 33 ≤ 4398046511104 then (tenancylaw17_RelayBack.l0 kj19 a0 l1 t357 (([] : List (S39)))) else (none)) else (none)) else (none)) = some r := H
                have A29 := Aside0.mk A290
                clear A290
                by_cases c30 : t364 = true
                · subst c30
                  have H1 : (if t360.toList = a2.toList then (if 33 ≤ 4398046511104 then (tenancylaw17_RelayBack.l0 kj19 a0 l1 t357 (([] : List (S39)))) else (none)) else (none)) = some r := by rw [if_pos rfl] at H; exact H
                  clear H
                  have H := H1
                  clear H1
                  by_cases c31 : t360.toList = a2.toList
                  · rw [if_pos c31] at H
                    have c31b0 : (t360.toList == a2.toList) = true := beq_iff_eq.mpr c31
                    have c31b1 : (t360.toList != a2.toList) = false := bne_eq_false_iff_eq.mpr c31
                    clear c31
                    by_cases c32 : 33 ≤ 4398046511104
                    · rw [if_pos c32] at H
                      have c32b0 := eq_true c32
                      have c32b1 : decide (33 ≤ 4398046511104) = true := decide_eq_true c32
                      clear c32
                      obtain ⟨y365, hy365⟩ : ∃ y_ : List (S39), y_ = (([] : List (S39))) := ⟨_, rfl⟩
                      replace H : (tenancylaw17_RelayBack.l0 kj19 a0 l1 t357 y365) = some r := by first | (rw [hy365]; with_reducible exact H) | (have H2_ := (Option.bind_some _ _).symm.trans H; rw [hy365]; with_reducible exact H2_) | (have H2_ := (Option.bind_some _ _).symm.trans H; with_reducible exact H2_) | with_reducible exact H | (rw [hy365]; exact H) | exact H
                      have Ny365 := Aside0.mk hy365
                      clear hy365
                      have H' := Aside0.mk H
                      clear H
                      go_wp2_with (first | ((with_reducible refine gate_callee (f := 10) rfl ?_); refine goesL_ (some 59) rfl rfl Try.func10 (by kernel_rfl) rfl #[.int .i64 a0, .string t357] rfl (by (try simp only [List.map_toArray, List.map_cons, List.map_nil]); first | done | rfl | (simp only [List.length_drop, List.length_take]; rfl)) ?_; (with_reducible refine (relay_Unwrap.calls kj19 a0 t357 t359 t360 t361 _ A27.out).mono ?_); rintro e w33 ⟨v362, rfl, ho0, hb⟩; refine ⟨_, rfl, ?_⟩; have n0_ := Aside0.mk (Kd.R_lower ho0 (below_size (by repeat (first | (with_reducible first | exact HB.out | apply below_alloc | apply pw_below_drewN | apply below_drew1) | exact HB.out)))); have n1_ := Aside0.mk (below_step (by repeat (first | (with_reducible first | exact HB.out | apply below_alloc | apply pw_below_drewN | apply below_drew1) | exact HB.out)) hb); clear HB; have HO363 := n0_; have HB := n1_; clear n0_ n1_; (try clear hb); (try clear hb2); (try clear hk); (try clear hi); (try clear ho0); obtain ⟨Ao34, co34, eo34⟩ := Kd.R_slice HO363.out; subst eo34) | (go_at_call 12; (with_reducible refine (tenancylaw17_same.calls kj19 _ _ t359 _ _ l1 true _ ?side1 ?side2 ?side3 ?side4 A29.out).mono ?_); (case side1 => repeat (first | exact (Kd.R_reads' HO363.out).2.2 | (with_reducible refine Kd.C_alloc ?_ _) | (with_reducible refine Kd.C_drewN ?_ _) | (with_reducible refine Kd.C_drew ?_))); (case side2 => exact (Kd.R_reads' HO363.out).2.1); (case side3 => repeat (first | exact (Kd.C_below HR1.out HB.out) | (with_reducible refine Kd.C_alloc ?_ _) | (with_reducible refine Kd.C_drewN ?_ _) | (with_reducible refine Kd.C_drew ?_))); (case side4 => exact HC1.out); rintro e w' ⟨rfl, ⟨nd, rfl⟩⟩) | ((with_reducible refine gate_dst (N := 76) rfl ?_); refine XRun.R_make0 k39 _ 39 rfl (N := 76) rfl 23 _ _ rfl 33 rfl rfl Try.underlying23 (.agg #[(.int .i64 0), (.int .u64 0), (.int .u64 0), (.int .u64 0), (.int .u64 0), (.string ⟨#[]⟩), (.bool false)]) 64 info39 rfl (by decide) (by omega) z39 (ok := fun _ => True) (okp := fun _ => True) (k39_mkM _ _ _ z39 ) (fun _ hk => hk) trivial (by omega) (by omega) (Below.refl _ _) (Nat.le_refl _) ?_; intro v366 w35 ho36 hb hg_ hnew_; clear hg_ hnew_; (first | rw [← Ny365.out] at ho36 | (simp only [Int.reduceToNat] at ho36; rw [← Ny365.out] at ho36)); have n0_ := Aside0.mk (Kd.R_elder' (by (with_reducible repeat (first | apply Kd.R_alloc | apply Kd.R_drewN | apply Kd.R_drew)); exact HO363.out) (Kd.R_base ho36) hb); have n1_ := Aside0.mk (Kd.R_lower (Kd.R_new' ho36 (Kd.R_lt (by (with_reducible repeat (first | apply Kd.R_alloc | apply Kd.R_drewN | apply Kd.R_drew)); exact HO363.out))) (below_size (by repeat (first | (with_reducible first | exact HB.out | apply below_alloc | apply pw_below_drewN | apply below_drew1) | exact HB.out)))); have n2_ := Aside0.mk (below_step (by repeat (first | (with_reducible first | exact HB.out | apply below_alloc | apply pw_below_drewN | apply below_drew1) | exact HB.out)) hb); clear HO363; clear HB; have HO363 := n0_; have HO367 := n1_; have HB := n2_; clear n0_ n1_ n2_; clear hb ho36))
                      go_loopg [11] kj19 (fun kq v11 w' => ∃ (x11_2 : List (S39)), Aside0 (tenancylaw17_RelayBack.l0 kq a0 l1 t357 x11_2 = some r) ∧ Aside0 (kq ≤ kj19) ∧ Aside0 (Kd.R k39 39 w' w.heap.size (fun _ => True) v11 x11_2) ∧ Aside0 (Below w.heap.size w w'))
                      case atStart => exact ⟨(y365), H', ⟨Nat.le_refl _⟩, ⟨by (with_reducible repeat (first | apply Kd.R_alloc | apply Kd.R_drewN | apply Kd.R_drew)); exact Kd.R_mono HO367.out (fun _ hk => trivial)⟩, ⟨by repeat (first | (with_reducible first | exact HB.out | apply below_alloc | apply pw_below_drewN | apply below_drew1) | exact HB.out)⟩⟩
                      case round =>
                        clear H'
                        try clear c1
                        try clear c2
                        try clear p2
                        try clear q2
                        try clear hx2
                        try clear qi2
                        try clear c3
                        try clear c5
                        try clear c6
                        try clear p6
                        try clear c7
                        try clear c7b0
                        try clear c7b1
                        try clear c8
                        try clear c8b0
                        try clear c8b1
                        try clear c9
                        try clear c10
                        try clear c11
                        try clear c11b0
                        try clear c11b1
                        try clear c13
                        try clear c14
                        try clear c14b0
                        try clear c14b1
                        try clear c19
                        try clear c19b0
                        try clear c19b1
                        try clear c23
                        try clear c23b0
                        try clear c23b1
                        try clear c24
                        try clear c24b0
                        try clear c24b1
                        try clear p25
                        try clear q25
                        try clear hx25
                        try clear qi25
                        try clear c26
                        try clear c28
                        try clear c28b0
                        try clear c28b1
                        try clear c30
                        try clear c31
                        try clear c31b0
                        try clear c31b1
                        try clear c32
                        try clear c32b0
                        try clear c32b1
                        try clear p2
                        try clear p25
                        try clear p6
                        try clear q2
                        try clear q25
                        obtain ⟨x11_2, HA, HK2, HO_11, HB⟩ := hrel
                        cases gk with
                        | zero => exact absurd HA.out (by simp [tenancylaw17_RelayBack.l0])
                        | succ k2 =>
                          have H := HA.out
                          clear HA
                          simp only [tenancylaw17_RelayBack.l0] at H
                          by_cases c37 : (wrap64 ((x11_2.length : Int) + (l1.length : Int))) ≤ 32
                          · rw [if_pos c37] at H
                            have c37b0 : decide ((wrap64 ((x11_2.length : Int) + (l1.length : Int))) ≤ 32) = true := decide_eq_true c37
                            clear c37
                            by_cases c38 : x11_2.length < 2199023255552
                            · rw [if_pos c38] at H
                              have LMc38 := Aside0.mk c38
                              clear c38
                              obtain ⟨y368, hy368⟩ : ∃ y_ : List (S39), y_ = (x11_2 ++ [(⟨0, (⟨0, 0⟩ : S33), (⟨0, 0⟩ : S33), (⟨#[]⟩ : ByteArray), false⟩ : S39)]) := ⟨_, rfl⟩
                              replace H : (tenancylaw17_RelayBack.l0 k2 a0 l1 t357 y368) = some r := by first | (rw [hy368]; with_reducible exact H) | (have H2_ := (Option.bind_some _ _).symm.trans H; rw [hy368]; with_reducible exact H2_) | (have H2_ := (Option.bind_some _ _).symm.trans H; with_reducible exact H2_) | with_reducible exact H | (rw [hy368]; exact H) | exact H
                              have Ny368 := Aside0.mk hy368
                              clear hy368
                              have H' := Aside0.mk H
                              clear H
                              obtain ⟨Ao39, co39, eo39⟩ := Kd.R_slice HO_11.out
                              subst eo39
                              go_wp2_with (first | ((with_reducible refine gate_builtin (b := .append) (xs := #[.tmp 83, .tmp 85]) rfl ?_); at_builtin; refine Kd.R_append k39 (w0 := w) w.heap.size rfl (.tmp 83) (.tmp 85) 23 39 (.agg #[(.int .i64 0), (.int .u64 0), (.int .u64 0), (.int .u64 0), (.int .u64 0), (.string ⟨#[]⟩), (.bool false)]) 64 rfl Try.underlying23 info39 rfl (by decide) (by omega) (.slice Ao39 x11_2.length co39) x11_2 (⟨0, (⟨0, 0⟩ : S33), (⟨0, 0⟩ : S33), (⟨#[]⟩ : ByteArray), false⟩ : S39) [.int .i64 0, .int .u64 0, .int .u64 0, .int .u64 0, .int .u64 0, .string (⟨#[]⟩ : ByteArray), .bool false] (fun _ => True) (fun _ => False) rfl rfl ?aP (fun _ hk => hk.elim) ?aF ?aO ?aB ?aS ?aL ?_; (case aP => exact k39_mkM _ _ _ (⟨0, (⟨0, 0⟩ : S33), (⟨0, 0⟩ : S33), (⟨#[]⟩ : ByteArray), false⟩ : S39)); (case aB => exact (by repeat (first | (with_reducible first | exact HB.out | apply below_alloc | apply pw_below_drewN | apply below_drew1) | exact HB.out))); (case aF => exact (fun _ _ => trivial)); (case aO => exact (by (with_reducible repeat (first | apply Kd.R_alloc | apply Kd.R_drewN | apply Kd.R_drew)); exact HO_11.out)); (case aS => exact (below_size (by repeat (first | (with_reducible first | exact HB.out | apply below_alloc | apply pw_below_drewN | apply below_drew1) | exact HB.out)))); (case aL => have := LMc38.out; omega); intro v369 w40 ho hb hg hat; rw [← Ny368.out] at ho; have n0_ := Aside0.mk (hb); have n1_ := Aside0.mk (ho); clear HB; clear HO_11; have HB := n0_; have HO370 := n1_; clear n0_ n1_; clear ho hb hg hat))
                              go_roundg k2
                              case measure => have := HJ19.out; have := HK2.out; omega
                              case rel => exact ⟨(y368), H', ⟨by have := HJ19.out; have := HK2.out; omega⟩, ⟨by (with_reducible repeat (first | apply Kd.R_alloc | apply Kd.R_drewN | apply Kd.R_drew)); exact HO370.out⟩, ⟨by repeat (first | (with_reducible first | exact HB.out | apply below_alloc | apply pw_below_drewN | apply below_drew1) | exact HB.out)⟩⟩
                            · rw [if_neg c38] at H
                              exact absurd H (by simp)
                          · rw [if_neg c37] at H
                            have c37b0 : decide ((wrap64 ((x11_2.length : Int) + (l1.length : Int))) ≤ 32) = false := decide_eq_false c37
                            clear c37
                            have H' := Aside0.mk H
                            clear H
                            obtain ⟨Ao41, co41, eo41⟩ := Kd.R_slice HO_11.out
                            subst eo41
                            go_wp2
                            go_loopg [12, 13] k2 (fun kq v12 v13 w' => ∃ (x12_3 : ByteArray) (x13_3 : Int), v12 = .string x12_3 ∧ v13 = .int .i64 x13_3 ∧ Aside0 (tenancylaw17_RelayBack.l1 kq a0 x11_2 x12_3 x13_3 = some r) ∧ Aside0 (kq ≤ k2) ∧ Aside0 (Kd.R k39 39 w' w.heap.size (fun _ => True) (.slice Ao41 x11_2.length co41) x11_2) ∧ Aside0 (Below w.heap.size w w'))
                            case atStart => exact ⟨(t357), (0), (by first | rfl | (simp; done) | (simp only [ByteArray.size_extract]; rw [Nat.min_eq_left (by omega)]; done) | (simp [*]; done)), (by first | rfl | (simp; done) | (simp only [ByteArray.size_extract]; rw [Nat.min_eq_left (by omega)]; done) | (simp [*]; done)), H', ⟨Nat.le_refl _⟩, ⟨by (with_reducible repeat (first | apply Kd.R_alloc | apply Kd.R_drewN | apply Kd.R_drew)); exact HO_11.out⟩, ⟨by repeat (first | (with_reducible first | exact HB.out | apply below_alloc | apply pw_below_drewN | apply below_drew1) | exact HB.out)⟩⟩
                            case round =>
                              clear H'
                              try clear c1
                              try clear c2
                              try clear p2
                              try clear q2
                              try clear hx2
                              try clear qi2
                              try clear c3
                              try clear c5
                              try clear c6
                              try clear p6
                              try clear c7
                              try clear c7b0
                              try clear c7b1
                              try clear c8
                              try clear c8b0
                              try clear c8b1
                              try clear c9
                              try clear c10
                              try clear c11
                              try clear c11b0
                              try clear c11b1
                              try clear c13
                              try clear c14
                              try clear c14b0
                              try clear c14b1
                              try clear c19
                              try clear c19b0
                              try clear c19b1
                              try clear c23
                              try clear c23b0
                              try clear c23b1
                              try clear c24
                              try clear c24b0
                              try clear c24b1
                              try clear p25
                              try clear q25
                              try clear hx25
                              try clear qi25
                              try clear c26
                              try clear c28
                              try clear c28b0
                              try clear c28b1
                              try clear c30
                              try clear c31
                              try clear c31b0
                              try clear c31b1
                              try clear c32
                              try clear c32b0
                              try clear c32b1
                              try clear c37
                              try clear c37b0
                              try clear c38
                              try clear p2
                              try clear p25
                              try clear p6
                              try clear q2
                              try clear q25
                              obtain ⟨x12_3, x13_3, rfl, rfl, HA, HK3, HO_11, HB⟩ := hrel
                              cases gk with
                              | zero => exact absurd HA.out (by simp [tenancylaw17_RelayBack.l1])
                              | succ k3 =>
                                have H := HA.out
                                clear HA
                                simp only [tenancylaw17_RelayBack.l1] at H
                                by_cases c42 : x13_3 < (x11_2.length : Int)
                                · rw [if_pos c42] at H
                                  have c42b0 : decide (x13_3 < (x11_2.length : Int)) = true := decide_eq_true c42
                                  clear c42
                                  by_cases c43 : 1 ≤ (x11_2.length : Int)
                                  · rw [if_pos c43] at H
                                    have c43b0 := eq_true c43
                                    have c43b1 : decide (1 ≤ (x11_2.length : Int)) = true := decide_eq_true c43
                                    clear c43
                                    obtain ⟨y371, hy371⟩ : ∃ y_ : List (S39), y_ = (x11_2.take 1) := ⟨_, rfl⟩
                                    replace H : ((relay_Wrap.f a0 y371 x12_3).bind fun bt375 => (if bt375.2 = 0 then (tenancylaw17_RelayBack.l1 k3 a0 x11_2 bt375.1 (wrap64 (x13_3 + 1))) else (some (bt375.2 == 6)))) = some r := by first | (rw [hy371]; with_reducible exact H) | (have H2_ := (Option.bind_some _ _).symm.trans H; rw [hy371]; with_reducible exact H2_) | (have H2_ := (Option.bind_some _ _).symm.trans H; with_reducible exact H2_) | with_reducible exact H | (rw [hy371]; exact H) | exact H
                                    have Ny371 := Aside0.mk hy371
                                    clear hy371
                                    replace H := Option.bind_eq_some_iff.mp H
                                    obtain ⟨⟨t375, t376⟩, A440, H⟩ := H
                                    replace H : (if t376 = 0 then (tenancylaw17_RelayBack.l1 k3 a0 x11_2 t375 (wrap64 (x13_3 + 1))) else (some (t376 == 6))) = some r := H
                                    have A44 := Aside0.mk A440
                                    clear A440
                                    by_cases c45 : t376 = 0
                                    · rw [if_pos c45] at H
                                      have c45b0 : (t376 == 0) = true := beq_iff_eq.mpr c45
                                      have c45b1 : (t376 != 0) = false := bne_eq_false_iff_eq.mpr c45
                                      clear c45
                                      have H' := Aside0.mk H
                                      clear H
                                      have q46 : (1 : Int) ≤ ((x11_2.length : Int) : Int) := of_decide_eq_true (by first | (with_reducible assumption) | assumption)
                                      obtain ⟨i046, hi046, _, hsz46, _⟩ := info_parts info39
                                      have hroom46 : x11_2.length ≤ co41 := (Kd.R_reads' HO_11.out).2.1
                                      have hC46 : Kd.C k39 _ Ao41 x11_2.length x11_2 := (Kd.R_reads' HO_11.out).2.2
                                      have hcut46 := cut_to (P := Try.prog) 23 39 .i64 Try.underlying23 hi046 Ao41 x11_2.length co41 1 (by omega) q46 hroom46
                                      have hr46 := Kd.C_take (m := 1) hC46 (by omega)
                                      have hy46 : y371.length = (1 : Int).toNat := (by rw [Ny371.out, List.length_take]; omega)
                                      rw [← Ny371.out] at hr46
                                      rw [← hy46] at hcut46
                                      have HR374 := Aside0.mk hr46
                                      have HC374 := Aside0.mk (show y371.length ≤ co41 from by omega)
                                      clear hr46 hC46 hroom46 hi046 hsz46
                                      have KY46 := Aside0.mk hy46
                                      clear hy46
                                      have KL46 := Aside0.mk (show 1 ≤ x11_2.length from by omega)
                                      replace q46 := eq_true q46
                                      go_wp2_with (first | ((with_reducible refine gate_callee (f := 13) rfl ?_); refine goesL_ (some 99) rfl rfl Try.func13 (by kernel_rfl) rfl #[.int .i64 a0, .slice Ao41 y371.length co41, .string x12_3] rfl (by (try simp only [List.map_toArray, List.map_cons, List.map_nil]); first | done | rfl | (simp only [List.length_drop, List.length_take]; rfl)) ?_; (with_reducible refine (relay_Wrap.calls a0 _ _ y371 x12_3 t375 t376 _ ?side1 ?side2 A44.out).mono ?_); (case side1 => repeat (first | exact (by repeat (first | (with_reducible exact HR374.out) | (with_reducible refine Kd.C_alloc ?_ _) | (with_reducible refine Kd.C_drewN ?_ _) | (with_reducible refine Kd.C_drew ?_) | exact HR374.out)) | (with_reducible refine Kd.C_alloc ?_ _) | (with_reducible refine Kd.C_drewN ?_ _) | (with_reducible refine Kd.C_drew ?_))); (case side2 => exact HC374.out); rintro e w47 ⟨rfl, hb⟩; refine ⟨_, rfl, ?_⟩; have n0_ := Aside0.mk (Kd.R_below (by (with_reducible repeat (first | apply Kd.R_alloc | apply Kd.R_drewN | apply Kd.R_drew)); exact HO_11.out) hb); have n1_ := Aside0.mk (Kd.C_below (by repeat (first | (with_reducible exact HR374.out) | (with_reducible refine Kd.C_alloc ?_ _) | (with_reducible refine Kd.C_drewN ?_ _) | (with_reducible refine Kd.C_drew ?_) | exact HR374.out)) hb); have n2_ := Aside0.mk (below_step (by repeat (first | (with_reducible first | exact HB.out | apply below_alloc | apply pw_below_drewN | apply below_drew1) | exact HB.out)) hb); clear HO_11; clear HR374; clear HB; have HO_11 := n0_; have HR374 := n1_; have HB := n2_; clear n0_ n1_ n2_; (try clear hb); (try clear hb2); (try clear hk); (try clear hi)))
                                      go_roundg k3
                                      case measure => have := HJ19.out; have := HK2.out; have := HK3.out; omega
                                      case rel => exact ⟨(t375), (wrap64 (x13_3 + 1)), (by first | rfl | (simp; done) | (simp only [ByteArray.size_extract]; rw [Nat.min_eq_left (by omega)]; done) | (simp [*]; done)), (by first | rfl | (simp; done) | (simp only [ByteArray.size_extract]; rw [Nat.min_eq_left (by omega)]; done) | (simp [*]; done)), H', ⟨by have := HJ19.out; have := HK2.out; have := HK3.out; omega⟩, ⟨by (with_reducible repeat (first | apply Kd.R_alloc | apply Kd.R_drewN | apply Kd.R_drew)); exact HO_11.out⟩, ⟨by repeat (first | (with_reducible first | exact HB.out | apply below_alloc | apply pw_below_drewN | apply below_drew1) | exact HB.out)⟩⟩
                                    · rw [if_neg c45] at H
                                      have c45b0 : (t376 == 0) = false := beq_eq_false_iff_ne.mpr c45
                                      have c45b1 : (t376 != 0) = true := bne_iff_ne.mpr c45
                                      obtain rfl := Option.some.inj H
                                      have q48 : (1 : Int) ≤ ((x11_2.length : Int) : Int) := of_decide_eq_true (by first | (with_reducible assumption) | assumption)
                                      obtain ⟨i048, hi048, _, hsz48, _⟩ := info_parts info39
                                      have hroom48 : x11_2.length ≤ co41 := (Kd.R_reads' HO_11.out).2.1
                                      have hC48 : Kd.C k39 _ Ao41 x11_2.length x11_2 := (Kd.R_reads' HO_11.out).2.2
                                      (try clear hcut46); have hcut48 := cut_to (P := Try.prog) 23 39 .i64 Try.underlying23 hi048 Ao41 x11_2.length co41 1 (by omega) q48 hroom48
                                      have hr48 := Kd.C_take (m := 1) hC48 (by omega)
                                      have hy48 : y371.length = (1 : Int).toNat := (by rw [Ny371.out, List.length_take]; omega)
                                      rw [← Ny371.out] at hr48
                                      rw [← hy48] at hcut48
                                      have HR374 := Aside0.mk hr48
                                      have HC374 := Aside0.mk (show y371.length ≤ co41 from by omega)
                                      clear hr48 hC48 hroom48 hi048 hsz48
                                      have KY48 := Aside0.mk hy48
                                      clear hy48
                                      have KL48 := Aside0.mk (show 1 ≤ x11_2.length from by omega)
                                      replace q48 := eq_true q48
                                      go_wp2_with (first | ((with_reducible refine gate_callee (f := 13) rfl ?_); refine goesL_ (some 99) rfl rfl Try.func13 (by kernel_rfl) rfl #[.int .i64 a0, .slice Ao41 y371.length co41, .string x12_3] rfl (by (try simp only [List.map_toArray, List.map_cons, List.map_nil]); first | done | rfl | (simp only [List.length_drop, List.length_take]; rfl)) ?_; (with_reducible refine (relay_Wrap.calls a0 _ _ y371 x12_3 t375 t376 _ ?side1 ?side2 A44.out).mono ?_); (case side1 => repeat (first | exact (by repeat (first | (with_reducible exact HR374.out) | (with_reducible refine Kd.C_alloc ?_ _) | (with_reducible refine Kd.C_drewN ?_ _) | (with_reducible refine Kd.C_drew ?_) | exact HR374.out)) | (with_reducible refine Kd.C_alloc ?_ _) | (with_reducible refine Kd.C_drewN ?_ _) | (with_reducible refine Kd.C_drew ?_))); (case side2 => exact HC374.out); rintro e w49 ⟨rfl, hb⟩; refine ⟨_, rfl, ?_⟩; have n0_ := Aside0.mk (Kd.R_below (by (with_reducible repeat (first | apply Kd.R_alloc | apply Kd.R_drewN | apply Kd.R_drew)); exact HO_11.out) hb); have n1_ := Aside0.mk (Kd.C_below (by repeat (first | (with_reducible exact HR374.out) | (with_reducible refine Kd.C_alloc ?_ _) | (with_reducible refine Kd.C_drewN ?_ _) | (with_reducible refine Kd.C_drew ?_) | exact HR374.out)) hb); have n2_ := Aside0.mk (below_step (by repeat (first | (with_reducible first | exact HB.out | apply below_alloc | apply pw_below_drewN | apply below_drew1) | exact HB.out)) hb); clear HO_11; clear HR374; clear HB; have HO_11 := n0_; have HR374 := n1_; have HB := n2_; clear n0_ n1_ n2_; (try clear hb); (try clear hb2); (try clear hk); (try clear hi)))
                                      go_ret
                                      exact ⟨by first | rfl | (simp [errW_none, errW_some] <;> rfl) | (simp [*, errW_none, errW_some] <;> rfl), by repeat (first | (with_reducible first | exact HB.out | apply below_alloc | apply pw_below_drewN | apply below_drew1) | exact HB.out)⟩
                                  · rw [if_neg c43] at H
                                    exact absurd H (by simp)
                                · rw [if_neg c42] at H
                                  have c42b0 : decide (x13_3 < (x11_2.length : Int)) = false := decide_eq_false c42
                                  clear c42
                                  replace H := Option.bind_eq_some_iff.mp H
                                  obtain ⟨⟨t377, t378, t379⟩, A500, H⟩ := H
                                  replace H : (some (t379 == 170)) = some r := H
                                  have A50 := Aside0.mk A500
                                  clear A500
                                  obtain rfl := Option.some.inj H
                                  go_wp2_with (first | ((with_reducible refine gate_callee (f := 10) rfl ?_); refine goesL_ (some 110) rfl rfl Try.func10 (by kernel_rfl) rfl #[.int .i64 a0, .string x12_3] rfl (by (try simp only [List.map_toArray, List.map_cons, List.map_nil]); first | done | rfl | (simp only [List.length_drop, List.length_take]; rfl)) ?_; (with_reducible refine (relay_Unwrap.calls k3 a0 x12_3 t377 t378 t379 _ A50.out).mono ?_); rintro e w51 ⟨v380, rfl, ho0, hb⟩; refine ⟨_, rfl, ?_⟩; have n0_ := Aside0.mk (Kd.R_elder' (by (with_reducible repeat (first | apply Kd.R_alloc | apply Kd.R_drewN | apply Kd.R_drew)); exact HO_11.out) (Kd.R_base ho0) hb); have n1_ := Aside0.mk (Kd.R_lower (Kd.R_new' ho0 (Kd.R_lt (by (with_reducible repeat (first | apply Kd.R_alloc | apply Kd.R_drewN | apply Kd.R_drew)); exact HO_11.out))) (below_size (by repeat (first | (with_reducible first | exact HB.out | apply below_alloc | apply pw_below_drewN | apply below_drew1) | exact HB.out)))); have n2_ := Aside0.mk (below_step (by repeat (first | (with_reducible first | exact HB.out | apply below_alloc | apply pw_below_drewN | apply below_drew1) | exact HB.out)) hb); clear HO_11; clear HB; have HO_11 := n0_; have HO381 := n1_; have HB := n2_; clear n0_ n1_ n2_; (try clear hb); (try clear hb2); (try clear hk); (try clear hi); (try clear ho0)))
                                  go_ret
                                  exact ⟨by first | rfl | (simp [errW_none, errW_some] <;> rfl) | (simp [*, errW_none, errW_some] <;> rfl), by repeat (first | (with_reducible first | exact HB.out | apply below_alloc | apply pw_below_drewN | apply below_drew1) | exact HB.out)⟩
                    · rw [if_neg c32] at H
                      exact absurd H (by simp)
                  · rw [if_neg c31] at H
                    exact absurd H (by simp)
                · replace c30 := Bool.eq_false_iff.mpr c30
                  subst c30
                  have H1 : (none) = some r := by rw [if_neg (show ¬ (false = true) by decide)] at H; exact H
                  clear H
                  have H := H1
                  clear H1
                  exact absurd H (by simp)
              · rw [if_neg c28] at H
                exact absurd H (by simp)
      · rw [if_neg c19] at H
        have c19b0 : (t358 == 0) = false := beq_eq_false_iff_ne.mpr c19
        have c19b1 : (t358 != 0) = true := bne_iff_ne.mpr c19
        obtain rfl := Option.some.inj H
        go_enter Try.func6, Try.ntmps6
        go_wp2_with (first | ((with_reducible refine gate_callee (f := 9) rfl ?_); refine goesL_ (some 16) rfl rfl Try.func9 (by kernel_rfl) rfl #[] rfl (by (try simp only [List.map_toArray, List.map_cons, List.map_nil]); first | done | rfl | (simp only [List.length_drop, List.length_take]; rfl)) ?_; (with_reducible refine (tenancylaw17_awake.calls k  true _ A4.out).mono ?_); rintro e w52 ⟨rfl, hb⟩; refine ⟨_, rfl, ?_⟩; have n0_ := Aside0.mk (below_step (by repeat (first | (with_reducible first | exact HB.out | apply below_alloc | apply pw_below_drewN | apply below_drew1) | exact HB.out)) hb); clear HB; have HB := n0_; clear n0_; (try clear hb); (try clear hb2); (try clear hk); (try clear hi)) | ((with_reducible refine gate_callee (f := 13) rfl ?_); refine goesL_ (some 22) rfl rfl Try.func13 (by kernel_rfl) rfl #[.int .i64 a0, .slice A1 l1.length c1, .string a2] rfl (by (try simp only [List.map_toArray, List.map_cons, List.map_nil]); first | done | rfl | (simp only [List.length_drop, List.length_take]; rfl)) ?_; (with_reducible refine (relay_Wrap.calls a0 _ _ l1 a2 t357 t358 _ ?side1 ?side2 A6.out).mono ?_); (case side1 => repeat (first | exact (Kd.C_below HR1.out HB.out) | (with_reducible refine Kd.C_alloc ?_ _) | (with_reducible refine Kd.C_drewN ?_ _) | (with_reducible refine Kd.C_drew ?_))); (case side2 => exact HC1.out); rintro e w53 ⟨rfl, hb⟩; refine ⟨_, rfl, ?_⟩; have n0_ := Aside0.mk (below_step (by repeat (first | (with_reducible first | exact HB.out | apply below_alloc | apply pw_below_drewN | apply below_drew1) | exact HB.out)) hb); clear HB; have HB := n0_; clear n0_; (try clear hb); (try clear hb2); (try clear hk); (try clear hi)))
        go_ret
        exact ⟨by first | rfl | (simp [errW_none, errW_some] <;> rfl) | (simp [*, errW_none, errW_some] <;> rfl), by repeat (first | (with_reducible first | exact HB.out | apply below_alloc | apply pw_below_drewN | apply below_drew1) | exact HB.out)⟩
  · replace c5 := Bool.eq_false_iff.mpr c5
    subst c5
    have H1 : (none) = some r := by rw [if_neg (show ¬ (false = true) by decide)] at H; exact H
    clear H
    have H := H1
    clear H1
    exact absurd H (by simp)

/-- The one plain statement of tenancylaw17_RelayBack. -/
def tenancylaw17_RelayBack.Pure : Prop := ∀ (a0 : Int) (l1 : List (S39)) (a2 : ByteArray), ((Lit.int .i64 a0).wf = true) → (l1.length * 64 ≤ 140737488351232 ∧ ∀ y_ ∈ l1, wf39 y_) → (a2.size ≤ 140737488351232) → ∃ k, tenancylaw17_RelayBack.f k a0 l1 a2 = some true

end Go.Proofs.Ytfpamalmkmhpgaa.X
