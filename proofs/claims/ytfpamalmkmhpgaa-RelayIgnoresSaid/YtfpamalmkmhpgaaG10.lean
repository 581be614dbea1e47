/- Functions of the program as Lean functions, and that the calls come to them: no condition.  By this session's own program (wip/xprint). -/
import Derived.Test.YtfpamalmkmhpgaaG0
import Derived.Test.YtfpamalmkmhpgaaG1
import Derived.Test.YtfpamalmkmhpgaaG2
import Derived.Test.YtfpamalmkmhpgaaG3
namespace Go.Proofs.Ytfpamalmkmhpgaa.X
open Go.RowKit Go.Proofs.YtfpamalmkmhpgaaW.PrintWords Go.Proofs.YtfpamalmkmhpgaaW.PrintLast Go.Proofs.YtfpamalmkmhpgaaW.PrintMore
attribute [local go_sem] max2_int min2_int max_two min_two max_three min_three max_four min_four   -- for this text's walks alone
set_option linter.unusedVariables false
set_option linter.unusedSimpArgs false
attribute [local go_sem high] eqA33
/-! ### tenancylaw17_RelayIgnores: function 7 -/
mutual
def tenancylaw17_RelayIgnores.j0 : Nat → ByteArray → ByteArray → ByteArray → Bool → Int → Int → Int → Int → Int → ByteArray → Bool → Int → ByteArray → Option (Bool)
  | 0, _, _, _, _, _, _, _, _, _, _, _, _, _ => none
  | k + 1, x2, x7, x9, x51, x383000, x383001, x383002, x383003, x383004, x383005, x383006, x384000, x384001 => if x51 = true then (some true) else (if x7.size + x9.size ≤ 9223372036854775807 then ((relay_Unwrap.f k 12 (x7 ++ x9)).bind fun bt395 => (if x384000 = 9 then (tenancylaw17_RelayIgnores.j1 k x2 x7 bt395.2.2 bt395.1 bt395.2.1 true x383000 x383001 x383002 x383003 x383004 x383005 x383006 x384000 x384001) else (if x384000 = 18 then (tenancylaw17_RelayIgnores.j1 k x2 x7 bt395.2.2 bt395.1 bt395.2.1 x383006 x383000 x383001 x383002 x383003 x383004 x383005 x383006 x384000 x384001) else (tenancylaw17_RelayIgnores.j1 k x2 x7 bt395.2.2 bt395.1 bt395.2.1 false x383000 x383001 x383002 x383003 x383004 x383005 x383006 x384000 x384001)))) else (none))
def tenancylaw17_RelayIgnores.j1 : Nat → ByteArray → ByteArray → Int → List (S39) → ByteArray → Bool → Int → Int → Int → Int → Int → ByteArray → Bool → Int → ByteArray → Option (Bool)
  | 0, _, _, _, _, _, _, _, _, _, _, _, _, _, _, _ => none
  | k + 1, x2, x7, x8, x11, x12, x71, x383000, x383001, x383002, x383003, x383004, x383005, x383006, x384000, x384001 => if x71 = true then (if x8 = 171 then (some ((x11.length : Int) == 0)) else (none)) else (if x384000 = 18 then (tenancylaw17_RelayIgnores.j2 k x2 x7 x8 x11 x12 x383000 x383001 x383002 x383003 x383004 x384001 true) else (tenancylaw17_RelayIgnores.j2 k x2 x7 x8 x11 x12 x383000 x383001 x383002 x383003 x383004 x383005 x383006))
def tenancylaw17_RelayIgnores.j2 : Nat → ByteArray → ByteArray → Int → List (S39) → ByteArray → Int → Int → Int → Int → Int → ByteArray → Bool → Option (Bool)
  | 0, _, _, _, _, _, _, _, _, _, _, _, _ => none
  | k + 1, x2, x7, x8, x11, x12, x383000, x383001, x383002, x383003, x383004, x383005, x383006 => if x8 = 0 then ((tenancylaw17_same.f k x11 (([(⟨x383000, (⟨x383001, x383002⟩ : S33), (⟨x383003, x383004⟩ : S33), x383005, x383006⟩ : S39)] : List (S39)))).bind fun t403 => (if t403 = true then (if x12.toList = x2.toList then (if 0 ≤ 34 then (if 34 ≤ (x7.size : Int) then ((relay_Unwrap.f k 12 (x7.extract 0 34)).bind fun bt404 => (if 0 ≤ 33 then (if 33 ≤ (x7.size : Int) then ((relay_Unwrap.f k 12 (x7.extract 0 33)).bind fun bt409 => (if bt404.2.2 = 171 then (some (bt409.2.2 == 3)) else (none))) else (none)) else (none))) else (none)) else (none)) else (none)) else (none))) else (none)
end
def tenancylaw17_RelayIgnores.f (k : Nat) (a0_0 : Int) (a0_1 : Int) (a0_2 : Int) (a0_3 : Int) (a0_4 : Int) (a0_5 : ByteArray) (a0_6 : Bool) (a1_0 : Int) (a1_1 : ByteArray) (a2 : ByteArray) : Option (Bool) := (tenancylaw17_awake.f k).bind fun t384 => (if t384 = true then ((relay_Wrap.f 12 (([(⟨a0_0, (⟨a0_1, a0_2⟩ : S33), (⟨a0_3, a0_4⟩ : S33), a0_5, a0_6⟩ : S39)] : List (S39))) a2).bind fun bt388 => ((opt6_Emit.f (([(⟨a1_0, a1_1⟩ : S42)] : List (S42)))).bind fun bt393 => (if bt388.2 = 0 then (if bt393.2 = 0 then (if (wrap64 ((bt388.1.size : Int) + (bt393.1.size : Int))) > 65507 then (tenancylaw17_RelayIgnores.j0 k a2 bt388.1 bt393.1 true a0_0 a0_1 a0_2 a0_3 a0_4 a0_5 a0_6 a1_0 a1_1) else (if (a2.size : Int) > 0 then (if 0 < (a2.size : Int) then (tenancylaw17_RelayIgnores.j0 k a2 bt388.1 bt393.1 ((bt a2 0) == 12) a0_0 a0_1 a0_2 a0_3 a0_4 a0_5 a0_6 a1_0 a1_1) else (none)) else (tenancylaw17_RelayIgnores.j0 k a2 bt388.1 bt393.1 false a0_0 a0_1 a0_2 a0_3 a0_4 a0_5 a0_6 a1_0 a1_1))) else (tenancylaw17_RelayIgnores.j0 k a2 bt388.1 bt393.1 true a0_0 a0_1 a0_2 a0_3 a0_4 a0_5 a0_6 a1_0 a1_1)) else (tenancylaw17_RelayIgnores.j0 k a2 bt388.1 bt393.1 true a0_0 a0_1 a0_2 a0_3 a0_4 a0_5 a0_6 a1_0 a1_1)))) else (none))
theorem tenancylaw17_RelayIgnores.mono_l : ∀ k, (∀ y0 y1 y2 y3 y4 y5 y6 y7 y8 y9 y10 y11 y12, LeO (tenancylaw17_RelayIgnores.j0 k y0 y1 y2 y3 y4 y5 y6 y7 y8 y9 y10 y11 y12) (tenancylaw17_RelayIgnores.j0 (k + 1) y0 y1 y2 y3 y4 y5 y6 y7 y8 y9 y10 y11 y12)) ∧ (∀ y0 y1 y2 y3 y4 y5 y6 y7 y8 y9 y10 y11 y12 y13 y14, LeO (tenancylaw17_RelayIgnores.j1 k y0 y1 y2 y3 y4 y5 y6 y7 y8 y9 y10 y11 y12 y13 y14) (tenancylaw17_RelayIgnores.j1 (k + 1) y0 y1 y2 y3 y4 y5 y6 y7 y8 y9 y10 y11 y12 y13 y14)) ∧ (∀ y0 y1 y2 y3 y4 y5 y6 y7 y8 y9 y10 y11, LeO (tenancylaw17_RelayIgnores.j2 k y0 y1 y2 y3 y4 y5 y6 y7 y8 y9 y10 y11) (tenancylaw17_RelayIgnores.j2 (k + 1) y0 y1 y2 y3 y4 y5 y6 y7 y8 y9 y10 y11))
  | 0 => ⟨fun _ _ _ _ _ _ _ _ _ _ _ _ _ r h => by simp [tenancylaw17_RelayIgnores.j0] at h, fun _ _ _ _ _ _ _ _ _ _ _ _ _ _ _ r h => by simp [tenancylaw17_RelayIgnores.j1] at h, fun _ _ _ _ _ _ _ _ _ _ _ _ r h => by simp [tenancylaw17_RelayIgnores.j2] at h⟩
  | k + 1 => by
    obtain ⟨ih0, ih1, ih2⟩ := tenancylaw17_RelayIgnores.mono_l k
    refine ⟨?_, ?_, ?_⟩
    · intro y0 y1 y2 y3 y4 y5 y6 y7 y8 y9 y10 y11 y12
      unfold tenancylaw17_RelayIgnores.j0
      repeat' first
      | (with_reducible exact ih0 _ _ _ _ _ _ _ _ _ _ _ _ _)
      | (with_reducible exact ih1 _ _ _ _ _ _ _ _ _ _ _ _ _ _ _)
      | (with_reducible exact ih2 _ _ _ _ _ _ _ _ _ _ _ _)
      | (with_reducible exact relay_Unwrap.mono _ _ _)
      | (with_reducible exact tenancylaw17_awake.mono _)
      | (with_reducible exact tenancylaw17_same.mono _ _ _)
      | (with_reducible exact LeO.refl _)
      | (with_reducible exact LeO.none _)
      | (with_reducible refine LeO.ite ?_ ?_)
      | (with_reducible refine LeO.bind ?_ (fun _ => ?_))
      | exact ih0 _ _ _ _ _ _ _ _ _ _ _ _ _
      | exact ih1 _ _ _ _ _ _ _ _ _ _ _ _ _ _ _
      | exact ih2 _ _ _ _ _ _ _ _ _ _ _ _
      | exact relay_Unwrap.mono _ _ _
      | exact tenancylaw17_awake.mono _
      | exact tenancylaw17_same.mono _ _ _
      | exact LeO.none _
      | refine LeO.ite ?_ ?_
      | refine LeO.bind ?_ (fun _ => ?_)
    · intro y0 y1 y2 y3 y4 y5 y6 y7 y8 y9 y10 y11 y12 y13 y14
      unfold tenancylaw17_RelayIgnores.j1
      repeat' first
      | (with_reducible exact ih0 _ _ _ _ _ _ _ _ _ _ _ _ _)
      | (with_reducible exact ih1 _ _ _ _ _ _ _ _ _ _ _ _ _ _ _)
      | (with_reducible exact ih2 _ _ _ _ _ _ _ _ _ _ _ _)
      | (with_reducible exact relay_Unwrap.mono _ _ _)
      | (with_reducible exact tenancylaw17_awake.mono _)
      | (with_reducible exact tenancylaw17_same.mono _ _ _)
      | (with_reducible exact LeO.refl _)
      | (with_reducible exact LeO.none _)
      | (with_reducible refine LeO.ite ?_ ?_)
      | (with_reducible refine LeO.bind ?_ (fun _ => ?_))
      | exact ih0 _ _ _ _ _ _ _ _ _ _ _ _ _
      | exact ih1 _ _ _ _ _ _ _ _ _ _ _ _ _ _ _
      | exact ih2 _ _ _ _ _ _ _ _ _ _ _ _
      | exact relay_Unwrap.mono _ _ _
      | exact tenancylaw17_awake.mono _
      | exact tenancylaw17_same.mono _ _ _
      | exact LeO.none _
      | refine LeO.ite ?_ ?_
      | refine LeO.bind ?_ (fun _ => ?_)
    · intro y0 y1 y2 y3 y4 y5 y6 y7 y8 y9 y10 y11
      unfold tenancylaw17_RelayIgnores.j2
      repeat' first
      | (with_reducible exact ih0 _ _ _ _ _ _ _ _ _ _ _ _ _)
      | (with_reducible exact ih1 _ _ _ _ _ _ _ _ _ _ _ _ _ _ _)
      | (with_reducible exact ih2 _ _ _ _ _ _ _ _ _ _ _ _)
      | (with_reducible exact relay_Unwrap.mono _ _ _)
      | (with_reducible exact tenancylaw17_awake.mono _)
      | (with_reducible exact tenancylaw17_same.mono _ _ _)
      | (with_reducible exact LeO.refl _)
      | (with_reducible exact LeO.none _)
      | (with_reducible refine LeO.ite ?_ ?_)
      | (with_reducible refine LeO.bind ?_ (fun _ => ?_))
      | exact ih0 _ _ _ _ _ _ _ _ _ _ _ _ _
      | exact ih1 _ _ _ _ _ _ _ _ _ _ _ _ _ _ _
      | exact ih2 _ _ _ _ _ _ _ _ _ _ _ _
      | exact relay_Unwrap.mono _ _ _
      | exact tenancylaw17_awake.mono _
      | exact tenancylaw17_same.mono _ _ _
      | exact LeO.none _
      | refine LeO.ite ?_ ?_
      | refine LeO.bind ?_ (fun _ => ?_)
theorem tenancylaw17_RelayIgnores.mono : ∀ a0 a1 a2 a3 a4 a5 a6 a7 a8 a9 k, LeO (tenancylaw17_RelayIgnores.f k a0 a1 a2 a3 a4 a5 a6 a7 a8 a9) (tenancylaw17_RelayIgnores.f (k + 1) a0 a1 a2 a3 a4 a5 a6 a7 a8 a9) := by
  intro a0 a1 a2 a3 a4 a5 a6 a7 a8 a9 k
  obtain ⟨ih0, ih1, ih2⟩ := tenancylaw17_RelayIgnores.mono_l k
  unfold tenancylaw17_RelayIgnores.f
  repeat' first
      | (with_reducible exact ih0 _ _ _ _ _ _ _ _ _ _ _ _ _)
      | (with_reducible exact ih1 _ _ _ _ _ _ _ _ _ _ _ _ _ _ _)
      | (with_reducible exact ih2 _ _ _ _ _ _ _ _ _ _ _ _)
      | (with_reducible exact relay_Unwrap.mono _ _ _)
      | (with_reducible exact tenancylaw17_awake.mono _)
      | (with_reducible exact tenancylaw17_same.mono _ _ _)
      | (with_reducible exact LeO.refl _)
      | (with_reducible exact LeO.none _)
      | (with_reducible refine LeO.ite ?_ ?_)
      | (with_reducible refine LeO.bind ?_ (fun _ => ?_))
      | exact ih0 _ _ _ _ _ _ _ _ _ _ _ _ _
      | exact ih1 _ _ _ _ _ _ _ _ _ _ _ _ _ _ _
      | exact ih2 _ _ _ _ _ _ _ _ _ _ _ _
      | exact relay_Unwrap.mono _ _ _
      | exact tenancylaw17_awake.mono _
      | exact tenancylaw17_same.mono _ _ _
      | exact LeO.none _
      | refine LeO.ite ?_ ?_
      | refine LeO.bind ?_ (fun _ => ?_)
set_option maxHeartbeats 8000000 in
set_option maxRecDepth 100000 in
theorem tenancylaw17_RelayIgnores.calls (k : Nat) (a0_0 : Int) (a0_1 : Int) (a0_2 : Int) (a0_3 : Int) (a0_4 : Int) (a0_5 : ByteArray) (a0_6 : Bool) (a1_0 : Int) (a1_1 : ByteArray) (a2 : ByteArray) (r : Bool) (w : World) (h : tenancylaw17_RelayIgnores.f k a0_0 a0_1 a0_2 a0_3 a0_4 a0_5 a0_6 a1_0 a1_1 a2 = some r) :
    Calls Try.prog 7 #[.agg #[.int .i64 a0_0, .int .u64 a0_1, .int .u64 a0_2, .int .u64 a0_3, .int .u64 a0_4, .string a0_5, .bool a0_6], .agg #[.int .u16 a1_0, .string a1_1], .string a2] w fun e w' => e = .returned (.bool r) ∧ Below w.heap.size w w' := by
  have hu39 := Try.underlying39
  have hu42 := Try.underlying42
  have HB := Aside0.mk (Below.refl w.heap.size w)
  have H : ((tenancylaw17_awake.f k).bind fun t384 => (if t384 = true then ((relay_Wrap.f 12 (([(⟨a0_0, (⟨a0_1, a0_2⟩ : S33), (⟨a0_3, a0_4⟩ : S33), a0_5, a0_6⟩ : S39)] : List (S39))) a2).bind fun bt388 => ((opt6_Emit.f (([(⟨a1_0, a1_1⟩ : S42)] : List (S42)))).bind fun bt393 => (if bt388.2 = 0 then (if bt393.2 = 0 then (if (wrap64 ((bt388.1.size : Int) + (bt393.1.size : Int))) > 65507 then (tenancylaw17_RelayIgnores.j0 k a2 bt388.1 bt393.1 true a0_0 a0_1 a0_2 a0_3 a0_4 a0_5 a0_6 a1_0 a1_1) else (if (a2.size : Int) > 0 then (if 0 < (a2.size : Int) then (tenancylaw17_RelayIgnores.j0 k a2 bt388.1 bt393.1 ((bt a2 0) == 12) a0_0 a0_1 a0_2 a0_3 a0_4 a0_5 a0_6 a1_0 a1_1) else (none)) else (tenancylaw17_RelayIgnores.j0 k a2 bt388.1 bt393.1 false a0_0 a0_1 a0_2 a0_3 a0_4 a0_5 a0_6 a1_0 a1_1))) else (tenancylaw17_RelayIgnores.j0 k a2 bt388.1 bt393.1 true a0_0 a0_1 a0_2 a0_3 a0_4 a0_5 a0_6 a1_0 a1_1)) else (tenancylaw17_RelayIgnores.j0 k a2 bt388.1 bt393.1 true a0_0 a0_1 a0_2 a0_3 a0_4 a0_5 a0_6 a1_0 a1_1)))) else (none))) = some r := h
  clear h
  replace H := Option.bind_eq_some_iff.mp H
  obtain ⟨t384, A40, H⟩ := H
  replace H : (if t384 = true then ((relay_Wrap.f 12 (([(⟨a0_0, (⟨a0_1, a0_2⟩ : S33), (⟨a0_3, a0_4⟩ : S33), a0_5, a0_6⟩ : S39)] : List (S39))) a2).bind fun bt388 => ((opt6_Emit.f (([(⟨a1_0, a1_1⟩ : S42)] : List (S42)))).bind fun bt393 => (if bt388.2 = 0 then (if bt393.2 = 0 then (if (wrap64 ((bt388.1.size : Int) + (bt393.1.size : Int))) > 65507 then (tenancylaw17_RelayIgnores.j0 k a2 bt388.1 bt393.1 true a0_0 a0_1 a0_2 a0_3 a0_4 a0_5 a0_6 a1_0 a1_1) else (if (a2.size : Int) > 0 then (if 0 < (a2.size : Int) then (tenancylaw17_RelayIgnores.j0 k a2 bt388.1 bt393.1 ((bt a2 0) == 12) a0_0 a0_1 a0_2 a0_3 a0_4 a0_5 a0_6 a1_0 a1_1) else (none)) else (tenancylaw17_RelayIgnores.j0 k a2 bt388.1 bt393.1 false a0_0 a0_1 a0_2 a0_3 a0_4 a0_5 a0_6 a1_0 a1_1))) else (tenancylaw17_RelayIgnores.j0 k a2 bt388.1 bt393.1 true a0_0 a0_1 a0_2 a0_3 a0_4 a0_5 a0_6 a1_0 a1_1)) else (tenancylaw17_RelayIgnores.j0 k a2 bt388.1 bt393.1 true a0_0 a0_1 a0_2 a0_3 a0_4 a0_5 a0_6 a1_0 a1_1)))) else (none)) = some r := H
  have A4 := Aside0.mk A40
  clear A40
  by_cases c5 : t384 = true
  · subst c5
    have H1 : ((relay_Wrap.f 12 (([(⟨a0_0, (⟨a0_1, a0_2⟩ : S33), (⟨a0_3, a0_4⟩ : S33), a0_5, a0_6⟩ : S39)] : List (S39))) a2).bind fun bt388 => ((opt6_Emit.f (([(⟨a1_0, a1_1⟩ : S42)] : List (S42)))).bind fun bt393 => (if bt388.2 = 0 then (if bt393.2 = 0 then (if (wrap64 ((bt388.1.size : Int) + (bt393.1.size : Int))) > 65507 then (tenancylaw17_RelayIgnores.j0 k a2 bt388.1 bt393.1 true a0_0 a0_1 a0_2 a0_3 a0_4 a0_5 a0_6 a1_0 a1_1) else (if (a2.size : Int) > 0 then (if 0 < (a2.size : Int) then (tenancylaw17_RelayIgnores.j0 k a2 bt388.1 bt393.1 ((bt a2 0) == 12) a0_0 a0_1 a0_2 a0_3 a0_4 a0_5 a0_6 a1_0 a1_1) else (none)) else (tenancylaw17_RelayIgnores.j0 k a2 bt388.1 bt393.1 false a0_0 a0_1 a0_2 a0_3 a0_4 a0_5 a0_6 a1_0 a1_1))) else (tenancylaw17_RelayIgnores.j0 k a2 bt388.1 bt393.1 true a0_0 a0_1 a0_2 a0_3 a0_4 a0_5 a0_6 a1_0 a1_1)) else (tenancylaw17_RelayIgnores.j0 k a2 bt388.1 bt393.1 true a0_0 a0_1 a0_2 a0_3 a0_4 a0_5 a0_6 a1_0 a1_1)))) = some r := by rw [if_pos rfl] at H; exact H
    clear H
    have H := H1
    clear H1
    obtain ⟨y385, hy385⟩ : ∃ y_ : List (S39), y_ = (([(⟨a0_0, (⟨a0_1, a0_2⟩ : S33), (⟨a0_3, a0_4⟩ : S33), a0_5, a0_6⟩ : S39)] : List (S39))) := ⟨_, rfl⟩
    replace H : ((relay_Wrap.f 12 y385 a2).bind fun bt388 => ((opt6_Emit.f (([(⟨a1_0, a1_1⟩ : S42)] : List (S42)))).bind fun bt393 => (if bt388.2 = 0 then (if bt393.2 = 0 then (if (wrap64 ((bt388.1.size : Int) + (bt393.1.size : Int))) > 65507 then (tenancylaw17_RelayIgnores.j0 k a2 bt388.1 bt393.1 true a0_0 a0_1 a0_2 a0_3 a0_4 a0_5 a0_6 a1_0 a1_1) else (if (a2.size : Int) > 0 then (if 0 < (a2.size : Int) then (tenancylaw17_RelayIgnores.j0 k a2 bt388.1 bt393.1 ((bt a2 0) == 12) a0_0 a0_1 a0_2 a0_3 a0_4 a0_5 a0_6 a1_0 a1_1) else (none)) else (tenancylaw17_RelayIgnores.j0 k a2 bt388.1 bt393.1 false a0_0 a0_1 a0_2 a0_3 a0_4 a0_5 a0_6 a1_0 a1_1))) else (tenancylaw17_RelayIgnores.j0 k a2 bt388.1 bt393.1 true a0_0 a0_1 a0_2 a0_3 a0_4 a0_5 a0_6 a1_0 a1_1)) else (tenancylaw17_RelayIgnores.j0 k a2 bt388.1 bt393.1 true a0_0 a0_1 a0_2 a0_3 a0_4 a0_5 a0_6 a1_0 a1_1)))) = some r := by first | (rw [hy385]; with_reducible exact H) | (have H2_ := (Option.bind_some _ _).symm.trans H; rw [hy385]; with_reducible exact H2_) | (have H2_ := (Option.bind_some _ _).symm.trans H; with_reducible exact H2_) | with_reducible exact H | (rw [hy385]; exact H) | exact H
    have Ny385 := Aside0.mk hy385
    clear hy385
    replace H := Option.bind_eq_some_iff.mp H
    obtain ⟨⟨t388, t389⟩, A60, H⟩ := H
    replace H : ((opt6_Emit.f (([(⟨a1_0, a1_1⟩ : S42)] : List (S42)))).bind fun bt393 => (if t389 = 0 then (if bt393.2 = 0 then (if (wrap64 ((t388.size : Int) + (bt393.1.size : Int))) > 65507 then (tenancylaw17_RelayIgnores.j0 k a2 t388 bt393.1 true a0_0 a0_1 a0_2 a0_3 a0_4 a0_5 a0_6 a1_0 a1_1) else (if (a2.size : Int) > 0 then (if 0 < (a2.size : Int) then (tenancylaw17_RelayIgnores.j0 k a2 t388 bt393.1 ((bt a2 0) == 12) a0_0 a0_1 a0_2 a0_3 a0_4 a0_5 a0_6 a1_0 a1_1) else (none)) else (tenancylaw17_RelayIgnores.j0 k a2 t388 bt393.1 false a0_0 a0_1 a0_2 a0_3 a0_4 a0_5 a0_6 a1_0 a1_1))) else (tenancylaw17_RelayIgnores.j0 k a2 t388 bt393.1 true a0_0 a0_1 a0_2 a0_3 a0_4 a0_5 a0_6 a1_0 a1_1)) else (tenancylaw17_RelayIgnores.j0 k a2 t388 bt393.1 true a0_0 a0_1 a0_2 a0_3 a0_4 a0_5 a0_6 a1_0 a1_1))) = some r := H
    have A6 := Aside0.mk A60
    clear A60
    obtain ⟨y390, hy390⟩ : ∃ y_ : List (S42), y_ = (([(⟨a1_0, a1_1⟩ : S42)] : List (S42))) := ⟨_, rfl⟩
    replace H : ((opt6_Emit.f y390).bind fun bt393 => (if t389 = 0 then (if bt393.2 = 0 then (if (wrap64 ((t388.size : Int) + (bt393.1.size : Int))) > 65507 then (tenancylaw17_RelayIgnores.j0 k a2 t388 bt393.1 true a0_0 a0_1 a0_2 a0_3 a0_4 a0_5 a0_6 a1_0 a1_1) else (if (a2.size : Int) > 0 then (if 0 < (a2.size : Int) then (tenancylaw17_RelayIgnores.j0 k a2 t388 bt393.1 ((bt a2 0) == 12) a0_0 a0_1 a0_2 a0_3 a0_4 a0_5 a0_6 a1_0 a1_1) else (none)) else (tenancylaw17_RelayIgnores.j0 k a2 t388 bt393.1 false a0_0 a0_1 a0_2 a0_3 a0_4 a0_5 a0_6 a1_0 a1_1))) else (tenancylaw17_RelayIgnores.j0 k a2 t388 bt393.1 true a0_0 a0_1 a0_2 a0_3 a0_4 a0_5 a0_6 a1_0 a1_1)) else (tenancylaw17_RelayIgnores.j0 k a2 t388 bt393.1 true a0_0 a0_1 a0_2 a0_3 a0_4 a0_5 a0_6 a1_0 a1_1))) = some r := by first | (rw [hy390]; with_reducible exact H) | (have H2_ := (Option.bind_some _ _).symm.trans H; rw [hy390]; with_reducible exact H2_) | (have H2_ := (Option.bind_some _ _).symm.trans H; with_reducible exact H2_) | with_reducible exact H | (rw [hy390]; exact H) | exact H
    have Ny390 := Aside0.mk hy390
    clear hy390
    replace H := Option.bind_eq_some_iff.mp H
    obtain ⟨⟨t393, t394⟩, A70, H⟩ := H
    replace H : (if t389 = 0 then (if t394 = 0 then (if (wrap64 ((t388.size : Int) + (t393.size : Int))) > 65507 then (tenancylaw17_RelayIgnores.j0 k a2 t388 t393 true a0_0 a0_1 a0_2 a0_3 a0_4 a0_5 a0_6 a1_0 a1_1) else (if (a2.size : Int) > 0 then (if 0 < (a2.size : Int) then (tenancylaw17_RelayIgnores.j0 k a2 t388 t393 ((bt a2 0) == 12) a0_0 a0_1 a0_2 a0_3 a0_4 a0_5 a0_6 a1_0 a1_1) else (none)) else (tenancylaw17_RelayIgnores.j0 k a2 t388 t393 false a0_0 a0_1 a0_2 a0_3 a0_4 a0_5 a0_6 a1_0 a1_1))) else (tenancylaw17_RelayIgnores.j0 k a2 t388 t393 true a0_0 a0_1 a0_2 a0_3 a0_4 a0_5 a0_6 a1_0 a1_1)) else (tenancylaw17_RelayIgnores.j0 k a2 t388 t393 true a0_0 a0_1 a0_2 a0_3 a0_4 a0_5 a0_6 a1_0 a1_1)) = some r := H
    have A7 := Aside0.mk A70
    clear A70
    have HC8 := Aside0.mk H
    clear H
    go_enter Try.func7, Try.ntmps7
    go_upto_region 5 with (first | ((with_reducible refine gate_dst (N := 3) rfl ?_); (try (refine gate_guard (by rfl) ?_; dsimp only)); refine box_event ?hg (N := 3) ?hd (cs := #[.int .i64 a0_0, .int .u64 a0_1, .int .u64 a0_2, .int .u64 a0_3, .int .u64 a0_4, .string a0_5, .bool a0_6]) (t := 39) ?hr ?_; (case hd => rfl); (case hg => rfl); (case hr => first | (go_simp; done) | (go_simp; rfl)); intro gb382 hg w9 hbox hb; have n0_ := Aside0.mk (below_step (by repeat (first | (with_reducible first | exact HB.out | apply below_alloc | apply pw_below_drewN | apply below_drew1) | exact HB.out)) hb); have n1_ := Aside0.mk (hbox); have n2_ := Aside0.mk ((by rw [hg]; exact (below_size (by repeat (first | (with_reducible first | exact HB.out | apply below_alloc | apply pw_below_drewN | apply below_drew1) | exact HB.out))) : w.heap.size ≤ gb382)); have n3_ := Aside0.mk ((by rw [hg]; exact (below_size (by repeat (first | (with_reducible first | exact HB.out | apply below_alloc | apply pw_below_drewN | apply below_drew1) | exact HB.out))) : w.heap.size ≤ gb382)); clear HB; have HB := n0_; have BK382 := n1_; have GW382 := n2_; have GE382 := n3_; clear n0_ n1_ n2_ n3_; clear hb hbox hg) | ((with_reducible refine gate_dst (N := 4) rfl ?_); (try (refine gate_guard (by rfl) ?_; dsimp only)); refine box_event ?hg (N := 4) ?hd (cs := #[.int .u16 a1_0, .string a1_1]) (t := 42) ?hr ?_; (case hd => rfl); (case hg => rfl); (case hr => first | (go_simp; done) | (go_simp; rfl)); intro gb383 hg w10 hbox hb; have n0_ := Aside0.mk (blk_below (g := gb382) (o := .cells #[.int .i64 a0_0, .int .u64 a0_1, .int .u64 a0_2, .int .u64 a0_3, .int .u64 a0_4, .string a0_5, .bool a0_6] 39 (0, 0)) (by (with_reducible repeat (first | refine blk_drewN ?_ _ | refine blk_drew ?_ | refine blk_alloc ?_ _)); exact BK382.out) hb); have n1_ := Aside0.mk (below_step (by repeat (first | (with_reducible first | exact HB.out | apply below_alloc | apply pw_below_drewN | apply below_drew1 | refine below_set ?_ GE382.out) | exact HB.out)) hb); have n2_ := Aside0.mk (hbox); have n3_ := Aside0.mk ((by rw [hg]; exact (below_size (by repeat (first | (with_reducible first | exact HB.out | apply below_alloc | apply pw_below_drewN | apply below_drew1 | refine below_set ?_ GE382.out) | exact HB.out))) : w.heap.size ≤ gb383)); have n4_ := Aside0.mk ((by rw [hg]; exact (below_size (by repeat (first | (with_reducible first | exact HB.out | apply below_alloc | apply pw_below_drewN | apply below_drew1 | refine below_set ?_ GE382.out) | exact HB.out))) : w.heap.size ≤ gb383)); have n5_ := Aside0.mk ((by rw [hg]; exact Nat.ne_of_lt (blk_lt (g := gb382) (o := .cells #[.int .i64 a0_0, .int .u64 a0_1, .int .u64 a0_2, .int .u64 a0_3, .int .u64 a0_4, .string a0_5, .bool a0_6] 39 (0, 0)) (by (with_reducible repeat (first | refine blk_drewN ?_ _ | refine blk_drew ?_ | refine blk_alloc ?_ _)); exact BK382.out)) : gb382 ≠ gb383)); have n6_ := Aside0.mk ((by rw [hg]; exact Nat.ne_of_gt (blk_lt (g := gb382) (o := .cells #[.int .i64 a0_0, .int .u64 a0_1, .int .u64 a0_2, .int .u64 a0_3, .int .u64 a0_4, .string a0_5, .bool a0_6] 39 (0, 0)) (by (with_reducible repeat (first | refine blk_drewN ?_ _ | refine blk_drew ?_ | refine blk_alloc ?_ _)); exact BK382.out)) : gb383 ≠ gb382)); clear BK382; clear HB; have BK382 := n0_; have HB := n1_; have BK383 := n2_; have GW383 := n3_; have GE383 := n4_; have NB382_383 := n5_; have NB383_382 := n6_; clear n0_ n1_ n2_ n3_ n4_ n5_ n6_; clear hb hbox hg) | ((with_reducible refine gate_callee (f := 9) rfl ?_); refine goesL_ (some 13) rfl rfl Try.func9 (by kernel_rfl) rfl #[] rfl (by (try simp only [List.map_toArray, List.map_cons, List.map_nil]); first | done | rfl | (simp only [List.length_drop, List.length_take]; rfl)) ?_; (with_reducible refine (tenancylaw17_awake.calls k  true _ A4.out).mono ?_); rintro e w11 ⟨rfl, hb⟩; refine ⟨_, rfl, ?_⟩; have n0_ := Aside0.mk (blk_below (g := gb382) (o := .cells #[.int .i64 a0_0, .int .u64 a0_1, .int .u64 a0_2, .int .u64 a0_3, .int .u64 a0_4, .string a0_5, .bool a0_6] 39 (0, 0)) (by (with_reducible repeat (first | refine blk_drewN ?_ _ | refine blk_drew ?_ | refine blk_alloc ?_ _)); exact BK382.out) hb); have n1_ := Aside0.mk (blk_below (g := gb383) (o := .cells #[.int .u16 a1_0, .string a1_1] 42 (0, 0)) (by (with_reducible repeat (first | refine blk_drewN ?_ _ | refine blk_drew ?_ | refine blk_alloc ?_ _)); exact BK383.out) hb); have n2_ := Aside0.mk (below_step (by repeat (first | (with_reducible first | exact HB.out | apply below_alloc | apply pw_below_drewN | apply below_drew1 | refine below_set ?_ GE382.out | refine below_set ?_ GE383.out) | exact HB.out)) hb); clear BK382; clear BK383; clear HB; have BK382 := n0_; have BK383 := n1_; have HB := n2_; clear n0_ n1_ n2_; (try clear hb); (try clear hb2); (try clear hk); (try clear hi); have hnb12 := NB382_383.out; have hnc12 := NB383_382.out; have hcz13_0 : w11.cell? ⟨gb382, 0, none⟩ = some (.int .i64 a0_0) := (blk_cell BK382.out 0).trans rfl; have hcz13_1 : w11.cell? ⟨gb382, 1, none⟩ = some (.int .u64 a0_1) := (blk_cell BK382.out 1).trans rfl; have hcz13_2 : w11.cell? ⟨gb382, 2, none⟩ = some (.int .u64 a0_2) := (blk_cell BK382.out 2).trans rfl; have hcz13_3 : w11.cell? ⟨gb382, 3, none⟩ = some (.int .u64 a0_3) := (blk_cell BK382.out 3).trans rfl; have hcz13_4 : w11.cell? ⟨gb382, 4, none⟩ = some (.int .u64 a0_4) := (blk_cell BK382.out 4).trans rfl; have hcz13_5 : w11.cell? ⟨gb382, 5, none⟩ = some (.string a0_5) := (blk_cell BK382.out 5).trans rfl; have hcz13_6 : w11.cell? ⟨gb382, 6, none⟩ = some (.bool a0_6) := (blk_cell BK382.out 6).trans rfl; have hfz13_0 := blk_frozen BK382.out 0; have hfz13_1 := blk_frozen BK382.out 1; have hfz13_2 := blk_frozen BK382.out 2; have hfz13_3 := blk_frozen BK382.out 3; have hfz13_4 := blk_frozen BK382.out 4; have hfz13_5 := blk_frozen BK382.out 5; have hfz13_6 := blk_frozen BK382.out 6) | ((with_reducible refine gate_dst (N := 17) rfl ?_); (try (refine gate_guard (by rfl) ?_; dsimp only)); refine Kd.R_lit k39 _ 39 ?hg (N := 17) ?hd (xs := ([(⟨a0_0, (⟨a0_1, a0_2⟩ : S33), (⟨a0_3, a0_4⟩ : S33), a0_5, a0_6⟩ : S39)] : List (S39))) (inner := [.int .i64 a0_0, .int .u64 a0_1, .int .u64 a0_2, .int .u64 a0_3, .int .u64 a0_4, .string a0_5, .bool a0_6]) (ok := fun _ => True) (okp := fun _ => True) ?hr ?hp (fun _ hk => hk) trivial (Below.refl _ _) (Nat.le_refl _) (by simp) ?_; (case hd => rfl); (case hg => rfl); (case hr => first | (go_simp; done) | (go_simp; rfl)); (case hp => exact (Reps.c7 (show Kd.M k39 _ _ _ (⟨a0_0, (⟨a0_1, a0_2⟩ : S33), (⟨a0_3, a0_4⟩ : S33), a0_5, a0_6⟩ : S39) [.int .i64 a0_0, .int .u64 a0_1, .int .u64 a0_2, .int .u64 a0_3, .int .u64 a0_4, .string a0_5, .bool a0_6] from (k39_mkM _ _ _ (⟨a0_0, (⟨a0_1, a0_2⟩ : S33), (⟨a0_3, a0_4⟩ : S33), a0_5, a0_6⟩ : S39) )) (Reps.none _ _))); intro v386 w14 ho15 hb hg_ hnew_; clear hg_ hnew_; (first | rw [← Ny385.out] at ho15 | (simp only [Int.reduceToNat] at ho15; rw [← Ny385.out] at ho15)); have n0_ := Aside0.mk (Kd.R_lower (Kd.R_newB ho15 (g := gb382) (o := .cells #[.int .i64 a0_0, .int .u64 a0_1, .int .u64 a0_2, .int .u64 a0_3, .int .u64 a0_4, .string a0_5, .bool a0_6] 39 (0, 0)) (by (with_reducible repeat (first | refine blk_drewN ?_ _ | refine blk_drew ?_ | refine blk_alloc ?_ _)); exact BK382.out)) (below_size (by repeat (first | (with_reducible first | exact HB.out | apply below_alloc | apply pw_below_drewN | apply below_drew1 | refine below_set ?_ GE382.out | refine below_set ?_ GE383.out) | exact HB.out)))); have n1_ := Aside0.mk (blk_below (g := gb382) (o := .cells #[.int .i64 a0_0, .int .u64 a0_1, .int .u64 a0_2, .int .u64 a0_3, .int .u64 a0_4, .string a0_5, .bool a0_6] 39 (0, 0)) (by (with_reducible repeat (first | refine blk_drewN ?_ _ | refine blk_drew ?_ | refine blk_alloc ?_ _)); exact BK382.out) hb); have n2_ := Aside0.mk (blk_below (g := gb383) (o := .cells #[.int .u16 a1_0, .string a1_1] 42 (0, 0)) (by (with_reducible repeat (first | refine blk_drewN ?_ _ | refine blk_drew ?_ | refine blk_alloc ?_ _)); exact BK383.out) hb); have n3_ := Aside0.mk (below_step (by repeat (first | (with_reducible first | exact HB.out | apply below_alloc | apply pw_below_drewN | apply below_drew1 | refine below_set ?_ GE382.out | refine below_set ?_ GE383.out) | exact HB.out)) hb); clear BK382; clear BK383; clear HB; have HO387 := n0_; have BK382 := n1_; have BK383 := n2_; have HB := n3_; clear n0_ n1_ n2_ n3_; clear hb ho15; obtain ⟨Ao16, co16, eo16⟩ := Kd.R_slice HO387.out; subst eo16) | ((with_reducible refine gate_callee (f := 13) rfl ?_); refine goesL_ (some 19) rfl rfl Try.func13 (by kernel_rfl) rfl #[.int .i64 12, .slice Ao16 y385.length co16, .string a2] rfl (by (try simp only [List.map_toArray, List.map_cons, List.map_nil]); first | done | rfl | (simp only [List.length_drop, List.length_take]; rfl)) ?_; (with_reducible refine (relay_Wrap.calls 12 _ _ y385 a2 t388 t389 _ ?side1 ?side2 A6.out).mono ?_); (case side1 => repeat (first | exact (Kd.R_reads' HO387.out).2.2 | (with_reducible refine Kd.C_alloc ?_ _) | (with_reducible refine Kd.C_drewN ?_ _) | (with_reducible refine Kd.C_drew ?_))); (case side2 => exact (Kd.R_reads' HO387.out).2.1); rintro e w17 ⟨rfl, hb⟩; refine ⟨_, rfl, ?_⟩; have n0_ := Aside0.mk (Kd.R_below (by (with_reducible repeat (first | apply Kd.R_alloc | apply Kd.R_drewN | apply Kd.R_drew)); exact HO387.out) hb); have n1_ := Aside0.mk (blk_below (g := gb382) (o := .cells #[.int .i64 a0_0, .int .u64 a0_1, .int .u64 a0_2, .int .u64 a0_3, .int .u64 a0_4, .string a0_5, .bool a0_6] 39 (0, 0)) (by (with_reducible repeat (first | refine blk_drewN ?_ _ | refine blk_drew ?_ | refine blk_alloc ?_ _)); exact BK382.out) hb); have n2_ := Aside0.mk (blk_below (g := gb383) (o := .cells #[.int .u16 a1_0, .string a1_1] 42 (0, 0)) (by (with_reducible repeat (first | refine blk_drewN ?_ _ | refine blk_drew ?_ | refine blk_alloc ?_ _)); exact BK383.out) hb); have n3_ := Aside0.mk (below_step (by repeat (first | (with_reducible first | exact HB.out | apply below_alloc | apply pw_below_drewN | apply below_drew1 | refine below_set ?_ GE382.out | refine below_set ?_ GE383.out) | exact HB.out)) hb); clear HO387; clear BK382; clear BK383; clear HB; have HO387 := n0_; have BK382 := n1_; have BK383 := n2_; have HB := n3_; clear n0_ n1_ n2_ n3_; (try clear hb); (try clear hb2); (try clear hk); (try clear hi); have hcz18_0 : w17.cell? ⟨gb383, 0, none⟩ = some (.int .u16 a1_0) := (blk_cell BK383.out 0).trans rfl; have hcz18_1 : w17.cell? ⟨gb383, 1, none⟩ = some (.string a1_1) := (blk_cell BK383.out 1).trans rfl; have hfz18_0 := blk_frozen BK383.out 0; have hfz18_1 := blk_frozen BK383.out 1) | ((with_reducible refine gate_dst (N := 24) rfl ?_); (try (refine gate_guard (by rfl) ?_; dsimp only)); refine Kd.R_lit k42 _ 42 ?hg (N := 24) ?hd (xs := ([(⟨a1_0, a1_1⟩ : S42)] : List (S42))) (inner := [.int .u16 a1_0, .string a1_1]) (ok := fun _ => True) (okp := fun _ => True) ?hr ?hp (fun _ hk => hk) trivial (Below.refl _ _) (Nat.le_refl _) (by simp) ?_; (case hd => rfl); (case hg => rfl); (case hr => first | (go_simp; done) | (go_simp; rfl)); (case hp => exact (Reps.c2 (show Kd.M k42 _ _ _ (⟨a1_0, a1_1⟩ : S42) [.int .u16 a1_0, .string a1_1] from (k42_mkM _ _ _ (⟨a1_0, a1_1⟩ : S42) )) (Reps.none _ _))); intro v391 w19 ho20 hb hg_ hnew_; clear hg_ hnew_; (first | rw [← Ny390.out] at ho20 | (simp only [Int.reduceToNat] at ho20; rw [← Ny390.out] at ho20)); have n0_ := Aside0.mk (Kd.R_below (by (with_reducible repeat (first | apply Kd.R_alloc | apply Kd.R_drewN | apply Kd.R_drew)); exact HO387.out) hb); have n1_ := Aside0.mk (Kd.R_lower (Kd.R_newB ho20 (g := gb383) (o := .cells #[.int .u16 a1_0, .string a1_1] 42 (0, 0)) (by (with_reducible repeat (first | refine blk_drewN ?_ _ | refine blk_drew ?_ | refine blk_alloc ?_ _)); exact BK383.out)) (below_size (by repeat (first | (with_reducible first | exact HB.out | apply below_alloc | apply pw_below_drewN | apply below_drew1 | refine below_set ?_ GE382.out | refine below_set ?_ GE383.out) | exact HB.out)))); have n2_ := Aside0.mk (blk_below (g := gb382) (o := .cells #[.int .i64 a0_0, .int .u64 a0_1, .int .u64 a0_2, .int .u64 a0_3, .int .u64 a0_4, .string a0_5, .bool a0_6] 39 (0, 0)) (by (with_reducible repeat (first | refine blk_drewN ?_ _ | refine blk_drew ?_ | refine blk_alloc ?_ _)); exact BK382.out) hb); have n3_ := Aside0.mk (blk_below (g := gb383) (o := .cells #[.int .u16 a1_0, .string a1_1] 42 (0, 0)) (by (with_reducible repeat (first | refine blk_drewN ?_ _ | refine blk_drew ?_ | refine blk_alloc ?_ _)); exact BK383.out) hb); have n4_ := Aside0.mk (below_step (by repeat (first | (with_reducible first | exact HB.out | apply below_alloc | apply pw_below_drewN | apply below_drew1 | refine below_set ?_ GE382.out | refine below_set ?_ GE383.out) | exact HB.out)) hb); clear HO387; clear BK382; clear BK383; clear HB; have HO387 := n0_; have HO392 := n1_; have BK382 := n2_; have BK383 := n3_; have HB := n4_; clear n0_ n1_ n2_ n3_ n4_; clear hb ho20; obtain ⟨Ao21, co21, eo21⟩ := Kd.R_slice HO392.out; subst eo21) | ((with_reducible refine gate_callee (f := 17) rfl ?_); refine goesL_ (some 25) rfl rfl Try.func17 (by kernel_rfl) rfl #[.slice Ao21 y390.length co21] rfl (by (try simp only [List.map_toArray, List.map_cons, List.map_nil]); first | done | rfl | (simp only [List.length_drop, List.length_take]; rfl)) ?_; (with_reducible refine (opt6_Emit.calls _ _ y390 t393 t394 _ ?side1 ?side2 A7.out).mono ?_); (case side1 => repeat (first | exact (Kd.R_reads' HO392.out).2.2 | (with_reducible refine Kd.C_alloc ?_ _) | (with_reducible refine Kd.C_drewN ?_ _) | (with_reducible refine Kd.C_drew ?_))); (case side2 => exact (Kd.R_reads' HO392.out).2.1); rintro e w22 ⟨rfl, hb⟩; refine ⟨_, rfl, ?_⟩; have n0_ := Aside0.mk (Kd.R_below (by (with_reducible repeat (first | apply Kd.R_alloc | apply Kd.R_drewN | apply Kd.R_drew)); exact HO387.out) hb); have n1_ := Aside0.mk (Kd.R_below (by (with_reducible repeat (first | apply Kd.R_alloc | apply Kd.R_drewN | apply Kd.R_drew)); exact HO392.out) hb); have n2_ := Aside0.mk (blk_below (g := gb382) (o := .cells #[.int .i64 a0_0, .int .u64 a0_1, .int .u64 a0_2, .int .u64 a0_3, .int .u64 a0_4, .string a0_5, .bool a0_6] 39 (0, 0)) (by (with_reducible repeat (first | refine blk_drewN ?_ _ | refine blk_drew ?_ | refine blk_alloc ?_ _)); exact BK382.out) hb); have n3_ := Aside0.mk (blk_below (g := gb383) (o := .cells #[.int .u16 a1_0, .string a1_1] 42 (0, 0)) (by (with_reducible repeat (first | refine blk_drewN ?_ _ | refine blk_drew ?_ | refine blk_alloc ?_ _)); exact BK383.out) hb); have n4_ := Aside0.mk (below_step (by repeat (first | (with_reducible first | exact HB.out | apply below_alloc | apply pw_below_drewN | apply below_drew1 | refine below_set ?_ GE382.out | refine below_set ?_ GE383.out) | exact HB.out)) hb); clear HO387; clear HO392; clear BK382; clear BK383; clear HB; have HO387 := n0_; have HO392 := n1_; have BK382 := n2_; have BK383 := n3_; have HB := n4_; clear n0_ n1_ n2_ n3_ n4_; (try clear hb); (try clear hb2); (try clear hk); (try clear hi)))
    (try simp only [Act.put, List.setIfInBounds_toArray, List.set_cons_zero, List.set_cons_succ])
    go_cut [51] (fun v51 wc => ∃ (kq : Nat) (x51_7 : Bool), v51 = .bool x51_7 ∧ Aside0 (tenancylaw17_RelayIgnores.j0 kq a2 t388 t393 x51_7 a0_0 a0_1 a0_2 a0_3 a0_4 a0_5 a0_6 a1_0 a1_1 = some r) ∧ Aside0 (kq ≤ k) ∧ Aside0 (wc.heap[gb382]? = some (.cells #[.int .i64 a0_0, .int .u64 a0_1, .int .u64 a0_2, .int .u64 a0_3, .int .u64 a0_4, .string a0_5, .bool a0_6] 39 (0, 0))) ∧ Aside0 (wc.heap[gb383]? = some (.cells #[.int .u16 a1_0, .string a1_1] 42 (0, 0))) ∧ Aside0 (Below w.heap.size w wc))
    case first =>
      have H := HC8.out
      clear HC8
      by_cases c23 : t389 = 0
      · rw [if_pos c23] at H
        have c23b0 : (t389 == 0) = true := beq_iff_eq.mpr c23
        have c23b1 : (t389 != 0) = false := bne_eq_false_iff_eq.mpr c23
        clear c23
        (first | rw [c23b0] | (simp only [i64_w, i32_w]; rw [c23b0]) | skip)
        by_cases c24 : t394 = 0
        · rw [if_pos c24] at H
          have c24b0 : (t394 == 0) = true := beq_iff_eq.mpr c24
          have c24b1 : (t394 != 0) = false := bne_eq_false_iff_eq.mpr c24
          clear c24
          by_cases c25 : (wrap64 ((t388.size : Int) + (t393.size : Int))) > 65507
          · rw [if_pos c25] at H
            have c25b0 : decide (65507 < (wrap64 ((t388.size : Int) + (t393.size : Int)))) = true := decide_eq_true c25
            clear c25
            have H' := Aside0.mk H
            clear H
            go_wp2
            go_meet
            case rel => exact ⟨_, (true), (by first | rfl | (simp; done) | (simp only [ByteArray.size_extract]; rw [Nat.min_eq_left (by omega)]; done) | (simp [*]; done)), H', ⟨by first | omega | exact Nat.le_refl _⟩, ⟨by (with_reducible repeat (first | refine blk_drewN ?_ _ | refine blk_drew ?_ | refine blk_alloc ?_ _)); exact BK382.out⟩, ⟨by (with_reducible repeat (first | refine blk_drewN ?_ _ | refine blk_drew ?_ | refine blk_alloc ?_ _)); exact BK383.out⟩, ⟨by repeat (first | (with_reducible first | exact HB.out | apply below_alloc | apply pw_below_drewN | apply below_drew1 | refine below_set ?_ GE382.out | refine below_set ?_ GE383.out) | exact HB.out)⟩⟩
          · rw [if_neg c25] at H
            have c25b0 : decide (65507 < (wrap64 ((t388.size : Int) + (t393.size : Int)))) = false := decide_eq_false c25
            clear c25
            by_cases c26 : (a2.size : Int) > 0
            · rw [if_pos c26] at H
              have c26b0 : decide (0 < (a2.size : Int)) = true := decide_eq_true c26
              have c26b1 : decide (0 < a2.size) = true := decide_eq_true (by omega)
              clear c26
              by_cases c27 : 0 < (a2.size : Int)
              · rw [if_pos c27] at H
                have c27b0 : decide (0 < (a2.size : Int)) = true := decide_eq_true c27
                have c27b1 : decide (0 < a2.size) = true := decide_eq_true (by omega)
                clear c27
                have H' := Aside0.mk H
                clear H
                have p28 : 0 ≤ (0 : Int) := (by omega)
                have q28 : 0 < a2.size := (by have : (0 : Int) < (a2.size : Int) := of_decide_eq_true (by first | (with_reducible assumption) | assumption); omega)
                have hx28 : ∀ h : 0 < a2.size, ((a2[0]'h).toNat : Int) = bt a2 0 := bt_at a2 0
                clear p28
                have qi28 : (0 < (a2.size : Int)) = True := eq_true (of_decide_eq_true (by first | (with_reducible assumption) | assumption))
                replace q28 := eq_true q28
                go_wp2
                go_meet
                case rel => exact ⟨_, (((bt a2 0) == 12)), (by first | rfl | (simp; done) | (simp only [ByteArray.size_extract]; rw [Nat.min_eq_left (by omega)]; done) | (simp [*]; done)), H', ⟨by first | omega | exact Nat.le_refl _⟩, ⟨by (with_reducible repeat (first | refine blk_drewN ?_ _ | refine blk_drew ?_ | refine blk_alloc ?_ _)); exact BK382.out⟩, ⟨by (with_reducible repeat (first | refine blk_drewN ?_ _ | refine blk_drew ?_ | refine blk_alloc ?_ _)); exact BK383.out⟩, ⟨by repeat (first | (with_reducible first | exact HB.out | apply below_alloc | apply pw_below_drewN | apply below_drew1 | refine below_set ?_ GE382.out | refine below_set ?_ GE383.out) | exact HB.out)⟩⟩
              · rw [if_neg c27] at H
                exact absurd H (by simp)
            · rw [if_neg c26] at H
              have c26b0 : decide (0 < (a2.size : Int)) = false := decide_eq_false c26
              have c26b1 : decide (0 < a2.size) = false := decide_eq_false (by omega)
              clear c26
              have H' := Aside0.mk H
              clear H
              go_wp2
              go_meet
              case rel => exact ⟨_, (false), (by first | rfl | (simp; done) | (simp only [ByteArray.size_extract]; rw [Nat.min_eq_left (by omega)]; done) | (simp [*]; done)), H', ⟨by first | omega | exact Nat.le_refl _⟩, ⟨by (with_reducible repeat (first | refine blk_drewN ?_ _ | refine blk_drew ?_ | refine blk_alloc ?_ _)); exact BK382.out⟩, ⟨by (with_reducible repeat (first | refine blk_drewN ?_ _ | refine blk_drew ?_ | refine blk_alloc ?_ _)); exact BK383.out⟩, ⟨by repeat (first | (with_reducible first | exact HB.out | apply below_alloc | apply pw_below_drewN | apply below_drew1 | refine below_set ?_ GE382.out | refine below_set ?_ GE383.out) | exact HB.out)⟩⟩
        · rw [if_neg c24] at H
          have c24b0 : (t394 == 0) = false := beq_eq_false_iff_ne.mpr c24
          have c24b1 : (t394 != 0) = true := bne_iff_ne.mpr c24
          have H' := Aside0.mk H
          clear H
          go_wp2
          go_meet
          case rel => exact ⟨_, (true), (by first | rfl | (simp; done) | (simp only [ByteArray.size_extract]; rw [Nat.min_eq_left (by omega)]; done) | (simp [*]; done)), H', ⟨by first | omega | exact Nat.le_refl _⟩, ⟨by (with_reducible repeat (first | refine blk_drewN ?_ _ | refine blk_drew ?_ | refine blk_alloc ?_ _)); exact BK382.out⟩, ⟨by (with_reducible repeat (first | refine blk_drewN ?_ _ | refine blk_drew ?_ | refine blk_alloc ?_ _)); exact BK383.out⟩, ⟨by repeat (first | (with_reducible first | exact HB.out | apply below_alloc | apply pw_below_drewN | apply below_drew1 | refine below_set ?_ GE382.out | refine below_set ?_ GE383.out) | exact HB.out)⟩⟩
      · rw [if_neg c23] at H
        have c23b0 : (t389 == 0) = false := beq_eq_false_iff_ne.mpr c23
        have c23b1 : (t389 != 0) = true := bne_iff_ne.mpr c23
        (first | rw [c23b0] | (simp only [i64_w, i32_w]; rw [c23b0]) | skip)
        have H' := Aside0.mk H
        clear H
        go_wp2
        go_meet
        case rel => exact ⟨_, (true), (by first | rfl | (simp; done) | (simp only [ByteArray.size_extract]; rw [Nat.min_eq_left (by omega)]; done) | (simp [*]; done)), H', ⟨by first | omega | exact Nat.le_refl _⟩, ⟨by (with_reducible repeat (first | refine blk_drewN ?_ _ | refine blk_drew ?_ | refine blk_alloc ?_ _)); exact BK382.out⟩, ⟨by (with_reducible repeat (first | refine blk_drewN ?_ _ | refine blk_drew ?_ | refine blk_alloc ?_ _)); exact BK383.out⟩, ⟨by repeat (first | (with_reducible first | exact HB.out | apply below_alloc | apply pw_below_drewN | apply below_drew1 | refine below_set ?_ GE382.out | refine below_set ?_ GE383.out) | exact HB.out)⟩⟩
    case rest =>
      clear HC8
      try clear c1
      try clear c2
      try clear p2
      try clear q2
      try clear hx2
      try clear qi2
      try clear c5
      try clear p6
      try clear c7
      try clear c9
      try clear c12
      try clear c13
      try clear c17
      try clear c23
      try clear c23b0
      try clear c23b1
      try clear c24
      try clear c24b0
      try clear c24b1
      try clear c25
      try clear c25b0
      try clear c26
      try clear c26b0
      try clear c26b1
      try clear c27
      try clear c27b0
      try clear c27b1
      try clear p28
      try clear q28
      try clear hx28
      try clear qi28
      try clear hcz13_0
      try clear hcz13_1
      try clear hcz13_2
      try clear hcz13_3
      try clear hcz13_4
      try clear hcz13_5
      try clear hcz13_6
      try clear hcz18_0
      try clear hcz18_1
      try clear hfz13_0
      try clear hfz13_1
      try clear hfz13_2
      try clear hfz13_3
      try clear hfz13_4
      try clear hfz13_5
      try clear hfz13_6
      try clear hfz18_0
      try clear hfz18_1
      try clear p28
      try clear q28
      obtain ⟨kq, x51_7, rfl, HA, HJ7, BK382, BK383, HB⟩ := hcut
      cases kq with
      | zero => exact absurd HA.out (by simp [tenancylaw17_RelayIgnores.j0])
      | succ kj7 =>
        have H := HA.out
        clear HA
        simp only [tenancylaw17_RelayIgnores.j0] at H
        by_cases c29 : x51_7 = true
        · subst c29
          have H1 : (some true) = some r := by rw [if_pos rfl] at H; exact H
          clear H
          have H := H1
          clear H1
          obtain rfl := Option.some.inj H
          go_wp2
          go_ret
          exact ⟨by first | rfl | (simp [errW_none, errW_some] <;> rfl) | (simp [*, errW_none, errW_some] <;> rfl), by repeat (first | (with_reducible first | exact HB.out | apply below_alloc | apply pw_below_drewN | apply below_drew1 | refine below_set ?_ GE382.out | refine below_set ?_ GE383.out) | exact HB.out)⟩
        · replace c29 := Bool.eq_false_iff.mpr c29
          subst c29
          have H1 : (if t388.size + t393.size ≤ 9223372036854775807 then ((relay_Unwrap.f kj7 12 (t388 ++ t393)).bind fun bt395 => (if a1_0 = 9 then (tenancylaw17_RelayIgnores.j1 kj7 a2 t388 bt395.2.2 bt395.1 bt395.2.1 true a0_0 a0_1 a0_2 a0_3 a0_4 a0_5 a0_6 a1_0 a1_1) else (if a1_0 = 18 then (tenancylaw17_RelayIgnores.j1 kj7 a2 t388 bt395.2.2 bt395.1 bt395.2.1 a0_6 a0_0 a0_1 a0_2 a0_3 a0_4 a0_5 a0_6 a1_0 a1_1) else (tenancylaw17_RelayIgnores.j1 kj7 a2 t388 bt395.2.2 bt395.1 bt395.2.1 false a0_0 a0_1 a0_2 a0_3 a0_4 a0_5 a0_6 a1_0 a1_1)))) else (none)) = some r := by rw [if_neg (show ¬ (false = true) by decide)] at H; exact H
          clear H
          have H := H1
          clear H1
          by_cases c30 : t388.size + t393.size ≤ 9223372036854775807
          · rw [if_pos c30] at H
            have c30b0 := eq_true c30
            have c30b1 : decide (t388.size + t393.size ≤ 9223372036854775807) = true := decide_eq_true c30
            try have c30b2 : (9223372036854775807 < t388.size + t393.size) = False := eq_false (Nat.not_lt.2 c30)
            replace H := Option.bind_eq_some_iff.mp H
            obtain ⟨⟨t395, t396, t397⟩, A310, H⟩ := H
            replace H : (if a1_0 = 9 then (tenancylaw17_RelayIgnores.j1 kj7 a2 t388 t397 t395 t396 true a0_0 a0_1 a0_2 a0_3 a0_4 a0_5 a0_6 a1_0 a1_1) else (if a1_0 = 18 then (tenancylaw17_RelayIgnores.j1 kj7 a2 t388 t397 t395 t396 a0_6 a0_0 a0_1 a0_2 a0_3 a0_4 a0_5 a0_6 a1_0 a1_1) else (tenancylaw17_RelayIgnores.j1 kj7 a2 t388 t397 t395 t396 false a0_0 a0_1 a0_2 a0_3 a0_4 a0_5 a0_6 a1_0 a1_1))) = some r := H
            have A31 := Aside0.mk A310
            clear A310
            have HC32 := Aside0.mk H
            clear H
            go_upto_region 8 with (first | ((with_reducible refine gate_callee (f := 10) rfl ?_); refine goesL_ (some 56) rfl rfl Try.func10 (by kernel_rfl) rfl #[.int .i64 12, .string (t388 ++ t393)] rfl (by (try simp only [List.map_toArray, List.map_cons, List.map_nil]); first | done | rfl | (simp only [List.length_drop, List.length_take]; rfl)) ?_; (with_reducible refine (relay_Unwrap.calls kj7 12 (t388 ++ t393) t395 t396 t397 _ A31.out).mono ?_); rintro e w33 ⟨v398, rfl, ho0, hb⟩; refine ⟨_, rfl, ?_⟩; have n0_ := Aside0.mk (Kd.R_lower (Kd.R_newB ho0 (g := gb382) (o := .cells #[.int .i64 a0_0, .int .u64 a0_1, .int .u64 a0_2, .int .u64 a0_3, .int .u64 a0_4, .string a0_5, .bool a0_6] 39 (0, 0)) (by (with_reducible repeat (first | refine blk_drewN ?_ _ | refine blk_drew ?_ | refine blk_alloc ?_ _)); exact BK382.out)) (below_size (by repeat (first | (with_reducible first | exact HB.out | apply below_alloc | apply pw_below_drewN | apply below_drew1 | refine below_set ?_ GE382.out | refine below_set ?_ GE383.out) | exact HB.out)))); have n1_ := Aside0.mk (blk_below (g := gb382) (o := .cells #[.int .i64 a0_0, .int .u64 a0_1, .int .u64 a0_2, .int .u64 a0_3, .int .u64 a0_4, .string a0_5, .bool a0_6] 39 (0, 0)) (by (with_reducible repeat (first | refine blk_drewN ?_ _ | refine blk_drew ?_ | refine blk_alloc ?_ _)); exact BK382.out) hb); have n2_ := Aside0.mk (blk_below (g := gb383) (o := .cells #[.int .u16 a1_0, .string a1_1] 42 (0, 0)) (by (with_reducible repeat (first | refine blk_drewN ?_ _ | refine blk_drew ?_ | refine blk_alloc ?_ _)); exact BK383.out) hb); have n3_ := Aside0.mk (below_step (by repeat (first | (with_reducible first | exact HB.out | apply below_alloc | apply pw_below_drewN | apply below_drew1 | refine below_set ?_ GE382.out | refine below_set ?_ GE383.out) | exact HB.out)) hb); clear BK382; clear BK383; clear HB; have HO399 := n0_; have BK382 := n1_; have BK383 := n2_; have HB := n3_; clear n0_ n1_ n2_ n3_; (try clear hb); (try clear hb2); (try clear hk); (try clear hi); (try clear ho0)))
            (try simp only [Act.put, List.setIfInBounds_toArray, List.set_cons_zero, List.set_cons_succ])
            go_cut [71] (fun v71 wc => ∃ (kq : Nat) (x71_31 : Bool), v71 = .bool x71_31 ∧ Aside0 (tenancylaw17_RelayIgnores.j1 kq a2 t388 t397 t395 t396 x71_31 a0_0 a0_1 a0_2 a0_3 a0_4 a0_5 a0_6 a1_0 a1_1 = some r) ∧ Aside0 (kq ≤ kj7) ∧ Aside0 (Kd.R k39 39 wc w.heap.size (fun k_ => k_ ≠ gb382) v398 t395) ∧ Aside0 (wc.heap[gb382]? = some (.cells #[.int .i64 a0_0, .int .u64 a0_1, .int .u64 a0_2, .int .u64 a0_3, .int .u64 a0_4, .string a0_5, .bool a0_6] 39 (0, 0))) ∧ Aside0 (wc.heap[gb383]? = some (.cells #[.int .u16 a1_0, .string a1_1] 42 (0, 0))) ∧ Aside0 (Below w.heap.size w wc))
            case first =>
              have H := HC32.out
              clear HC32
              by_cases c34 : a1_0 = 9
              · rw [if_pos c34] at H
                have c34b0 : (a1_0 == 9) = true := beq_iff_eq.mpr c34
                have c34b1 : (a1_0 != 9) = false := bne_eq_false_iff_eq.mpr c34
                clear c34
                (first | rw [c34b0] | (simp only [i64_w, i32_w]; rw [c34b0]) | skip)
                have H' := Aside0.mk H
                clear H
                have hnb35 := NB383_382.out
                have hnc35 := NB382_383.out
                have hcz36_0 : w33.cell? ⟨gb383, 0, none⟩ = some (.int .u16 a1_0) := (blk_cell BK383.out 0).trans rfl
                have hcz36_1 : w33.cell? ⟨gb383, 1, none⟩ = some (.string a1_1) := (blk_cell BK383.out 1).trans rfl
                have hfz36_0 := blk_frozen BK383.out 0
                have hfz36_1 := blk_frozen BK383.out 1
                go_wp2
                go_meet
                case rel => exact ⟨_, (true), (by first | rfl | (simp; done) | (simp only [ByteArray.size_extract]; rw [Nat.min_eq_left (by omega)]; done) | (simp [*]; done)), H', ⟨by have := HJ7.out; first | omega | exact Nat.le_refl _⟩, ⟨by (with_reducible repeat (first | apply Kd.R_alloc | apply Kd.R_drewN | apply Kd.R_drew)); exact Kd.R_mono HO399.out (fun _ hk => hk.2)⟩, ⟨by (with_reducible repeat (first | refine blk_drewN ?_ _ | refine blk_drew ?_ | refine blk_alloc ?_ _)); exact BK382.out⟩, ⟨by (with_reducible repeat (first | refine blk_drewN ?_ _ | refine blk_drew ?_ | refine blk_alloc ?_ _)); exact BK383.out⟩, ⟨by repeat (first | (with_reducible first | exact HB.out | apply below_alloc | apply pw_below_drewN | apply below_drew1 | refine below_set ?_ GE382.out | refine below_set ?_ GE383.out) | exact HB.out)⟩⟩
              · rw [if_neg c34] at H
                have c34b0 : (a1_0 == 9) = false := beq_eq_false_iff_ne.mpr c34
                have c34b1 : (a1_0 != 9) = true := bne_iff_ne.mpr c34
                (first | rw [c34b0] | (simp only [i64_w, i32_w]; rw [c34b0]) | skip)
                by_cases c37 : a1_0 = 18
                · rw [if_pos c37] at H
                  have c37b0 : (a1_0 == 18) = true := beq_iff_eq.mpr c37
                  have c37b1 : (a1_0 != 18) = false := bne_eq_false_iff_eq.mpr c37
                  clear c37
                  have H' := Aside0.mk H
                  clear H
                  have hnb38 := NB383_382.out
                  have hnc38 := NB382_383.out
                  have hcz39_0 : w33.cell? ⟨gb383, 0, none⟩ = some (.int .u16 a1_0) := (blk_cell BK383.out 0).trans rfl
                  have hcz39_1 : w33.cell? ⟨gb383, 1, none⟩ = some (.string a1_1) := (blk_cell BK383.out 1).trans rfl
                  have hfz39_0 := blk_frozen BK383.out 0
                  have hfz39_1 := blk_frozen BK383.out 1
                  have hcz40_0 : w33.cell? ⟨gb382, 0, none⟩ = some (.int .i64 a0_0) := (blk_cell BK382.out 0).trans rfl
                  have hcz40_1 : w33.cell? ⟨gb382, 1, none⟩ = some (.int .u64 a0_1) := (blk_cell BK382.out 1).trans rfl
                  have hcz40_2 : w33.cell? ⟨gb382, 2, none⟩ = some (.int .u64 a0_2) := (blk_cell BK382.out 2).trans rfl
                  have hcz40_3 : w33.cell? ⟨gb382, 3, none⟩ = some (.int .u64 a0_3) := (blk_cell BK382.out 3).trans rfl
                  have hcz40_4 : w33.cell? ⟨gb382, 4, none⟩ = some (.int .u64 a0_4) := (blk_cell BK382.out 4).trans rfl
                  have hcz40_5 : w33.cell? ⟨gb382, 5, none⟩ = some (.string a0_5) := (blk_cell BK382.out 5).trans rfl
                  have hcz40_6 : w33.cell? ⟨gb382, 6, none⟩ = some (.bool a0_6) := (blk_cell BK382.out 6).trans rfl
                  have hfz40_0 := blk_frozen BK382.out 0
                  have hfz40_1 := blk_frozen BK382.out 1
                  have hfz40_2 := blk_frozen BK382.out 2
                  have hfz40_3 := blk_frozen BK382.out 3
                  have hfz40_4 := blk_frozen BK382.out 4
                  have hfz40_5 := blk_frozen BK382.out 5
                  have hfz40_6 := blk_frozen BK382.out 6
                  go_wp2
                  go_meet
                  case rel => exact ⟨_, (a0_6), (by first | rfl | (simp; done) | (simp only [ByteArray.size_extract]; rw [Nat.min_eq_left (by omega)]; done) | (simp [*]; done)), H', ⟨by have := HJ7.out; first | omega | exact Nat.le_refl _⟩, ⟨by (with_reducible repeat (first | apply Kd.R_alloc | apply Kd.R_drewN | apply Kd.R_drew)); exact Kd.R_mono HO399.out (fun _ hk => hk.2)⟩, ⟨by (with_reducible repeat (first | refine blk_drewN ?_ _ | refine blk_drew ?_ | refine blk_alloc ?_ _)); exact BK382.out⟩, ⟨by (with_reducible repeat (first | refine blk_drewN ?_ _ | refine blk_drew ?_ | refine blk_alloc ?_ _)); exact BK383.out⟩, ⟨by repeat (first | (with_reducible first | exact HB.out | apply below_alloc | apply pw_below_drewN | apply below_drew1 | refine below_set ?_ GE382.out | refine below_set ?_ GE383.out) | exact HB.out)⟩⟩
                · rw [if_neg c37] at H
                  have c37b0 : (a1_0 == 18) = false := beq_eq_false_iff_ne.mpr c37
                  have c37b1 : (a1_0 != 18) = true := bne_iff_ne.mpr c37
                  have H' := Aside0.mk H
                  clear H
                  have hnb41 := NB383_382.out
                  have hnc41 := NB382_383.out
                  have hcz42_0 : w33.cell? ⟨gb383, 0, none⟩ = some (.int .u16 a1_0) := (blk_cell BK383.out 0).trans rfl
                  have hcz42_1 : w33.cell? ⟨gb383, 1, none⟩ = some (.string a1_1) := (blk_cell BK383.out 1).trans rfl
                  have hfz42_0 := blk_frozen BK383.out 0
                  have hfz42_1 := blk_frozen BK383.out 1
                  go_wp2
                  go_meet
                  case rel => exact ⟨_, (false), (by first | rfl | (simp; done) | (simp only [ByteArray.size_extract]; rw [Nat.min_eq_left (by omega)]; done) | (simp [*]; done)), H', ⟨by have := HJ7.out; first | omega | exact Nat.le_refl _⟩, ⟨by (with_reducible repeat (first | apply Kd.R_alloc | apply Kd.R_drewN | apply Kd.R_drew)); exact Kd.R_mono HO399.out (fun _ hk => hk.2)⟩, ⟨by (with_reducible repeat (first | refine blk_drewN ?_ _ | refine blk_drew ?_ | refine blk_alloc ?_ _)); exact BK382.out⟩, ⟨by (with_reducible repeat (first | refine blk_drewN ?_ _ | refine blk_drew ?_ | refine blk_alloc ?_ _)); exact BK383.out⟩, ⟨by repeat (first | (with_reducible first | exact HB.out | apply below_alloc | apply pw_below_drewN | apply below_drew1 | refine below_set ?_ GE382.out | refine below_set ?_ GE383.out) | exact HB.out)⟩⟩
            case rest =>
              clear HC32
              try clear c1
              try clear c2
              try clear p2
              try clear q2
              try clear hx2
              try clear qi2
              try clear c3
              try clear c4
              try clear c5
              try clear p6
              try clear c7
              try clear c9
              try clear c10
              try clear c12
              try clear c13
              try clear c17
              try clear c23
              try clear c23b0
              try clear c23b1
              try clear c24
              try clear c24b0
              try clear c24b1
              try clear c25
              try clear c25b0
              try clear c26
              try clear c26b0
              try clear c26b1
              try clear c27
              try clear c27b0
              try clear c27b1
              try clear p28
              try clear q28
              try clear hx28
              try clear qi28
              try clear c29
              try clear c30
              try clear c30b0
              try clear c30b1
              try clear c30b2
              try clear c34
              try clear c34b0
              try clear c34b1
              try clear c35
              try clear c37
              try clear c37b0
              try clear c37b1
              try clear c38
              try clear c41
              try clear hcz13_0
              try clear hcz13_1
              try clear hcz13_2
              try clear hcz13_3
              try clear hcz13_4
              try clear hcz13_5
              try clear hcz13_6
              try clear hcz18_0
              try clear hcz18_1
              try clear hcz36_0
              try clear hcz36_1
              try clear hcz39_0
              try clear hcz39_1
              try clear hcz40_0
              try clear hcz40_1
              try clear hcz40_2
              try clear hcz40_3
              try clear hcz40_4
              try clear hcz40_5
              try clear hcz40_6
              try clear hcz42_0
              try clear hcz42_1
              try clear hfz13_0
              try clear hfz13_1
              try clear hfz13_2
              try clear hfz13_3
              try clear hfz13_4
              try clear hfz13_5
              try clear hfz13_6
              try clear hfz18_0
              try clear hfz18_1
              try clear hfz36_0
              try clear hfz36_1
              try clear hfz39_0
              try clear hfz39_1
              try clear hfz40_0
              try clear hfz40_1
              try clear hfz40_2
              try clear hfz40_3
              try clear hfz40_4
              try clear hfz40_5
              try clear hfz40_6
              try clear hfz42_0
              try clear hfz42_1
              try clear p2
              try clear p28
              try clear p6
              try clear q2
              try clear q28
              obtain ⟨kq, x71_31, rfl, HA, HJ31, HO_11, BK382, BK383, HB⟩ := hcut
              cases kq with
              | zero => exact absurd HA.out (by simp [tenancylaw17_RelayIgnores.j1])
              | succ kj31 =>
                have H := HA.out
                clear HA
                simp only [tenancylaw17_RelayIgnores.j1] at H
                by_cases c43 : x71_31 = true
                · subst c43
                  have H1 : (if t397 = 171 then (some ((t395.length : Int) == 0)) else (none)) = some r := by rw [if_pos rfl] at H; exact H
                  clear H
                  have H := H1
                  clear H1
                  by_cases c44 : t397 = 171
                  · rw [if_pos c44] at H
                    have c44b0 : (t397 == 171) = true := beq_iff_eq.mpr c44
                    have c44b1 : (t397 != 171) = false := bne_eq_false_iff_eq.mpr c44
                    clear c44
                    obtain rfl := Option.some.inj H
                    obtain ⟨Ao45, co45, eo45⟩ := Kd.R_slice HO_11.out
                    subst eo45
                    go_wp2
                    go_ret
                    exact ⟨by first | rfl | (simp [errW_none, errW_some] <;> rfl) | (simp [*, errW_none, errW_some] <;> rfl), by repeat (first | (with_reducible first | exact HB.out | apply below_alloc | apply pw_below_drewN | apply below_drew1 | refine below_set ?_ GE382.out | refine below_set ?_ GE383.out) | exact HB.out)⟩
                  · rw [if_neg c44] at H
                    exact absurd H (by simp)
                · replace c43 := Bool.eq_false_iff.mpr c43
                  subst c43
                  have H1 : (if a1_0 = 18 then (tenancylaw17_RelayIgnores.j2 kj31 a2 t388 t397 t395 t396 a0_0 a0_1 a0_2 a0_3 a0_4 a1_1 true) else (tenancylaw17_RelayIgnores.j2 kj31 a2 t388 t397 t395 t396 a0_0 a0_1 a0_2 a0_3 a0_4 a0_5 a0_6)) = some r := by rw [if_neg (show ¬ (false = true) by decide)] at H; exact H
                  clear H
                  have H := H1
                  clear H1
                  have HC46 := Aside0.mk H
                  clear H
                  have hnb47 := NB383_382.out
                  have hnc47 := NB382_383.out
                  have hcz48_0 : wc.cell? ⟨gb383, 0, none⟩ = some (.int .u16 a1_0) := (blk_cell BK383.out 0).trans rfl
                  have hcz48_1 : wc.cell? ⟨gb383, 1, none⟩ = some (.string a1_1) := (blk_cell BK383.out 1).trans rfl
                  have hfz48_0 := blk_frozen BK383.out 0
                  have hfz48_1 := blk_frozen BK383.out 1
                  go_upto_if 81 with (fail)
                  go_cut [] (fun wc => ∃ (kq : Nat) (x383005_45 : ByteArray) (x383006_45 : Bool), Aside0 (tenancylaw17_RelayIgnores.j2 kq a2 t388 t397 t395 t396 a0_0 a0_1 a0_2 a0_3 a0_4 x383005_45 x383006_45 = some r) ∧ Aside0 (kq ≤ kj31) ∧ Aside0 (Kd.R k39 39 wc w.heap.size (fun k_ => k_ ≠ gb382) v398 t395) ∧ Aside0 (wc.heap[gb382]? = some (.cells #[.int .i64 a0_0, .int .u64 a0_1, .int .u64 a0_2, .int .u64 a0_3, .int .u64 a0_4, .string x383005_45, .bool x383006_45] 39 (0, 0))) ∧ Aside0 (wc.heap[gb383]? = some (.cells #[.int .u16 a1_0, .string a1_1] 42 (0, 0))) ∧ Aside0 (Below w.heap.size w wc))
                  case first =>
                    have H := HC46.out
                    clear HC46
                    by_cases c49 : a1_0 = 18
                    · rw [if_pos c49] at H
                      have c49b0 : (a1_0 == 18) = true := beq_iff_eq.mpr c49
                      have c49b1 : (a1_0 != 18) = false := bne_eq_false_iff_eq.mpr c49
                      clear c49
                      (first | rw [c49b0] | (simp only [i64_w, i32_w]; rw [c49b0]) | skip)
                      have H' := Aside0.mk H
                      clear H
                      have hnb50 := NB382_383.out
                      have hnc50 := NB383_382.out
                      have hcz51_0 : wc.cell? ⟨gb382, 0, none⟩ = some (.int .i64 a0_0) := (blk_cell BK382.out 0).trans rfl
                      have hcz51_1 : wc.cell? ⟨gb382, 1, none⟩ = some (.int .u64 a0_1) := (blk_cell BK382.out 1).trans rfl
                      have hcz51_2 : wc.cell? ⟨gb382, 2, none⟩ = some (.int .u64 a0_2) := (blk_cell BK382.out 2).trans rfl
                      have hcz51_3 : wc.cell? ⟨gb382, 3, none⟩ = some (.int .u64 a0_3) := (blk_cell BK382.out 3).trans rfl
                      have hcz51_4 : wc.cell? ⟨gb382, 4, none⟩ = some (.int .u64 a0_4) := (blk_cell BK382.out 4).trans rfl
                      have hcz51_5 : wc.cell? ⟨gb382, 5, none⟩ = some (.string a0_5) := (blk_cell BK382.out 5).trans rfl
                      have hcz51_6 : wc.cell? ⟨gb382, 6, none⟩ = some (.bool a0_6) := (blk_cell BK382.out 6).trans rfl
                      have hfz51_0 := blk_frozen BK382.out 0
                      have hfz51_1 := blk_frozen BK382.out 1
                      have hfz51_2 := blk_frozen BK382.out 2
                      have hfz51_3 := blk_frozen BK382.out 3
                      have hfz51_4 := blk_frozen BK382.out 4
                      have hfz51_5 := blk_frozen BK382.out 5
                      have hfz51_6 := blk_frozen BK382.out 6
                      have hcz52_0 : wc.cell? ⟨gb383, 0, none⟩ = some (.int .u16 a1_0) := (blk_cell BK383.out 0).trans rfl
                      have hcz52_1 : wc.cell? ⟨gb383, 1, none⟩ = some (.string a1_1) := (blk_cell BK383.out 1).trans rfl
                      have hfz52_0 := blk_frozen BK383.out 0
                      have hfz52_1 := blk_frozen BK383.out 1
                      go_wp2
                      go_meet
                      case rel => exact ⟨_, (a1_1), (true), H', ⟨by have := HJ7.out; have := HJ31.out; first | omega | exact Nat.le_refl _⟩, ⟨by (with_reducible repeat (first | apply Kd.R_alloc | apply Kd.R_drewN | apply Kd.R_drew)); exact Kd.R_mono (Kd.R_far (p := ⟨gb382, 5, none⟩) (Kd.R_far (p := ⟨gb382, 6, none⟩) (Kd.R_mono HO_11.out (fun k_ hk => (⟨hk, hk⟩ : _ ∧ k_ ≠ gb382))) (fun _ hk => hk.2) (.bool true)) (fun _ hk => hk.2) (.string a1_1)) (fun _ hk => hk.1)⟩, ⟨by (with_reducible repeat (first | refine blk_drewN ?_ _ | refine blk_drew ?_ | refine blk_alloc ?_ _)); refine blk_put (cs := #[.int .i64 a0_0, .int .u64 a0_1, .int .u64 a0_2, .int .u64 a0_3, .int .u64 a0_4, .string a0_5, .bool true]) ?_ 5 _ rfl; (with_reducible repeat (first | refine blk_drewN ?_ _ | refine blk_drew ?_ | refine blk_alloc ?_ _)); refine blk_put (cs := #[.int .i64 a0_0, .int .u64 a0_1, .int .u64 a0_2, .int .u64 a0_3, .int .u64 a0_4, .string a0_5, .bool a0_6]) ?_ 6 _ rfl; (with_reducible repeat (first | refine blk_drewN ?_ _ | refine blk_drew ?_ | refine blk_alloc ?_ _)); exact BK382.out⟩, ⟨by (with_reducible repeat (first | refine blk_drewN ?_ _ | refine blk_drew ?_ | refine blk_alloc ?_ _)); refine blk_far ?_ NB383_382.out _; (with_reducible repeat (first | refine blk_drewN ?_ _ | refine blk_drew ?_ | refine blk_alloc ?_ _)); refine blk_far ?_ NB383_382.out _; (with_reducible repeat (first | refine blk_drewN ?_ _ | refine blk_drew ?_ | refine blk_alloc ?_ _)); exact BK383.out⟩, ⟨by repeat (first | (with_reducible first | exact HB.out | apply below_alloc | apply pw_below_drewN | apply below_drew1 | refine below_set ?_ GE382.out | refine below_set ?_ GE383.out) | exact HB.out)⟩⟩
                    · rw [if_neg c49] at H
                      have c49b0 : (a1_0 == 18) = false := beq_eq_false_iff_ne.mpr c49
                      have c49b1 : (a1_0 != 18) = true := bne_iff_ne.mpr c49
                      (first | rw [c49b0] | (simp only [i64_w, i32_w]; rw [c49b0]) | skip)
                      have H' := Aside0.mk H
                      clear H
                      go_wp2
                      go_meet
                      case rel => exact ⟨_, (a0_5), (a0_6), H', ⟨by have := HJ7.out; have := HJ31.out; first | omega | exact Nat.le_refl _⟩, ⟨by (with_reducible repeat (first | apply Kd.R_alloc | apply Kd.R_drewN | apply Kd.R_drew)); exact HO_11.out⟩, ⟨by (with_reducible repeat (first | refine blk_drewN ?_ _ | refine blk_drew ?_ | refine blk_alloc ?_ _)); exact BK382.out⟩, ⟨by (with_reducible repeat (first | refine blk_drewN ?_ _ | refine blk_drew ?_ | refine blk_alloc ?_ _)); exact BK383.out⟩, ⟨by repeat (first | (with_reducible first | exact HB.out | apply below_alloc | apply pw_below_drewN | apply below_drew1 | refine below_set ?_ GE382.out | refine below_set ?_ GE383.out) | exact HB.out)⟩⟩
                  case rest =>
                    clear HC46
                    try clear c1
                    try clear c2
                    try clear p2
                    try clear q2
                    try clear hx2
                    try clear qi2
                    try clear c3
                    try clear c4
                    try clear c5
                    try clear p6
                    try clear c7
                    try clear c9
                    try clear c10
                    try clear c12
                    try clear c13
                    try clear c17
                    try clear c23
                    try clear c23b0
                    try clear c23b1
                    try clear c24
                    try clear c24b0
                    try clear c24b1
                    try clear c25
                    try clear c25b0
                    try clear c26
                    try clear c26b0
                    try clear c26b1
                    try clear c27
                    try clear c27b0
                    try clear c27b1
                    try clear p28
                    try clear q28
                    try clear hx28
                    try clear qi28
                    try clear c29
                    try clear c30
                    try clear c30b0
                    try clear c30b1
                    try clear c30b2
                    try clear c34
                    try clear c34b0
                    try clear c34b1
                    try clear c35
                    try clear c37
                    try clear c37b0
                    try clear c37b1
                    try clear c38
                    try clear c41
                    try clear c43
                    try clear c44
                    try clear c44b0
                    try clear c44b1
                    try clear c47
                    try clear c49
                    try clear c49b0
                    try clear c49b1
                    try clear c50
                    try clear hcz13_0
                    try clear hcz13_1
                    try clear hcz13_2
                    try clear hcz13_3
                    try clear hcz13_4
                    try clear hcz13_5
                    try clear hcz13_6
                    try clear hcz18_0
                    try clear hcz18_1
                    try clear hcz36_0
                    try clear hcz36_1
                    try clear hcz39_0
                    try clear hcz39_1
                    try clear hcz40_0
                    try clear hcz40_1
                    try clear hcz40_2
                    try clear hcz40_3
                    try clear hcz40_4
                    try clear hcz40_5
                    try clear hcz40_6
                    try clear hcz42_0
                    try clear hcz42_1
                    try clear hcz48_0
                    try clear hcz48_1
                    try clear hcz51_0
                    try clear hcz51_1
                    try clear hcz51_2
                    try clear hcz51_3
                    try clear hcz51_4
                    try clear hcz51_5
                    try clear hcz51_6
                    try clear hcz52_0
                    try clear hcz52_1
                    try clear hfz13_0
                    try clear hfz13_1
                    try clear hfz13_2
                    try clear hfz13_3
                    try clear hfz13_4
                    try clear hfz13_5
                    try clear hfz13_6
                    try clear hfz18_0
                    try clear hfz18_1
                    try clear hfz36_0
                    try clear hfz36_1
                    try clear hfz39_0
                    try clear hfz39_1
                    try clear hfz40_0
                    try clear hfz40_1
                    try clear hfz40_2
                    try clear hfz40_3
                    try clear hfz40_4
                    try clear hfz40_5
                    try clear hfz40_6
                    try clear hfz42_0
                    try clear hfz42_1
                    try clear hfz48_0
                    try clear hfz48_1
                    try clear hfz51_0
                    try clear hfz51_1
                    try clear hfz51_2
                    try clear hfz51_3
                    try clear hfz51_4
                    try clear hfz51_5
                    try clear hfz51_6
                    try clear hfz52_0
                    try clear hfz52_1
                    try clear p2
                    try clear p28
                    try clear p6
                    try clear q2
                    try clear q28
                    obtain ⟨kq, x383005_45, x383006_45, HA, HJ45, HO_11, BK382, BK383, HB⟩ := hcut
                    cases kq with
                    | zero => exact absurd HA.out (by simp [tenancylaw17_RelayIgnores.j2])
                    | succ kj45 =>
                      have H := HA.out
                      clear HA
                      simp only [tenancylaw17_RelayIgnores.j2] at H
                      by_cases c53 : t397 = 0
                      · rw [if_pos c53] at H
                        have c53b0 : (t397 == 0) = true := beq_iff_eq.mpr c53
                        have c53b1 : (t397 != 0) = false := bne_eq_false_iff_eq.mpr c53
                        clear c53
                        obtain ⟨y400, hy400⟩ : ∃ y_ : List (S39), y_ = (([(⟨a0_0, (⟨a0_1, a0_2⟩ : S33), (⟨a0_3, a0_4⟩ : S33), x383005_45, x383006_45⟩ : S39)] : List (S39))) := ⟨_, rfl⟩
                        replace H : ((tenancylaw17_same.f kj45 t395 y400).bind fun t403 => (if t403 = true then (if t396.toList = a2.toList then (if 0 ≤ 34 then (if 34 ≤ (t388.size : Int) then ((relay_Unwrap.f kj45 12 (t388.extract 0 34)).bind fun bt404 => (if 0 ≤ 33 then (if 33 ≤ (t388.size : Int) then ((relay_Unwrap.f kj45 12 (t388.extract 0 33)).bind fun bt409 => (if bt404.2.2 = 171 then (some (bt409.2.2 == 3)) else (none))) else (none)) else (none))) else (none)) else (none)) else (none)) else (none))) = some r := by first | (rw [hy400]; with_reducible exact H) | (have H2_ := (Option.bind_some _ _).symm.trans H; rw [hy400]; with_reducible exact H2_) | (have H2_ := (Option.bind_some _ _).symm.trans H; with_reducible exact H2_) | with_reducible exact H | (rw [hy400]; exact H) | exact H
                        have Ny400 := Aside0.mk hy400
                        clear hy400
                        replace H := Option.bind_eq_some_iff.mp H
                        obtain ⟨t403, A540, H⟩ := H
                        replace H : (if t403 = true then (if t396.toList = a2.toList then (if 0 ≤ 34 then (if 34 ≤ (t388.size : Int) then ((relay_Unwrap.f kj45 12 (t388.extract 0 34)).bind fun bt404 => (if 0 ≤ 33 then (if 33 ≤ (t388.size : Int) then ((relay_Unwrap.f kj45 12 (t388.extract 0 33)).bind fun bt409 => (if bt404.2.2 = 171 then (some (bt409.2.2 == 3)) else (none))) else (none)) else (none))) else (none)) else (none)) else (none)) else (none)) = some r := H
                        have A54 := Aside0.mk A540
                        clear A540
                        by_cases c55 : t403 = true
                        · subst c55
                          have H1 : (if t396.toList = a2.toList then (if 0 ≤ 34 then (if 34 ≤ (t388.size : Int) then ((relay_Unwrap.f kj45 12 (t388.extract 0 34)).bind fun bt404 => (if 0 ≤ 33 then (if 33 ≤ (t388.size : Int) then ((relay_Unwrap.f kj45 12 (t388.extract 0 33)).bind fun bt409 => (if bt404.2.2 = 171 then (some (bt409.2.2 == 3)) else (none))) else (none)) else (none))) else (none)) else (none)) else (none)) = some r := by rw [if_pos rfl] at H; exact H
                          clear H
                          have H := H1
                          clear H1
                          by_cases c56 : t396.toList = a2.toList
                          · rw [if_pos c56] at H
                            have c56b0 : (t396.toList == a2.toList) = true := beq_iff_eq.mpr c56
                            have c56b1 : (t396.toList != a2.toList) = false := bne_eq_false_iff_eq.mpr c56
                            clear c56
                            by_cases c57 : 0 ≤ 34
                            · rw [if_pos c57] at H
                              have c57b0 := eq_true c57
                              have c57b1 : decide (0 ≤ 34) = true := decide_eq_true c57
                              clear c57
                              by_cases c58 : 34 ≤ (t388.size : Int)
                              · rw [if_pos c58] at H
                                have c58b0 := eq_true c58
                                have c58b1 : decide (34 ≤ (t388.size : Int)) = true := decide_eq_true c58
                                clear c58
                                replace H := Option.bind_eq_some_iff.mp H
                                obtain ⟨⟨t404, t405, t406⟩, A590, H⟩ := H
                                replace H : (if 0 ≤ 33 then (if 33 ≤ (t388.size : Int) then ((relay_Unwrap.f kj45 12 (t388.extract 0 33)).bind fun bt409 => (if t406 = 171 then (some (bt409.2.2 == 3)) else (none))) else (none)) else (none)) = some r := H
                                have A59 := Aside0.mk A590
                                clear A590
                                by_cases c60 : 0 ≤ 33
                                · rw [if_pos c60] at H
                                  have c60b0 := eq_true c60
                                  have c60b1 : decide (0 ≤ 33) = true := decide_eq_true c60
                                  clear c60
                                  by_cases c61 : 33 ≤ (t388.size : Int)
                                  · rw [if_pos c61] at H
                                    have c61b0 := eq_true c61
                                    have c61b1 : decide (33 ≤ (t388.size : Int)) = true := decide_eq_true c61
                                    clear c61
                                    replace H := Option.bind_eq_some_iff.mp H
                                    obtain ⟨⟨t409, t410, t411⟩, A620, H⟩ := H
                                    replace H : (if t406 = 171 then (some (t411 == 3)) else (none)) = some r := H
                                    have A62 := Aside0.mk A620
                                    clear A620
                                    by_cases c63 : t406 = 171
                                    · rw [if_pos c63] at H
                                      have c63b0 : (t406 == 171) = true := beq_iff_eq.mpr c63
                                      have c63b1 : (t406 != 171) = false := bne_eq_false_iff_eq.mpr c63
                                      clear c63
                                      obtain rfl := Option.some.inj H
                                      have hnb64 := NB382_383.out
                                      have hnc64 := NB383_382.out
                                      have hcz65_0 : wc.cell? ⟨gb382, 0, none⟩ = some (.int .i64 a0_0) := (blk_cell BK382.out 0).trans rfl
                                      have hcz65_1 : wc.cell? ⟨gb382, 1, none⟩ = some (.int .u64 a0_1) := (blk_cell BK382.out 1).trans rfl
                                      have hcz65_2 : wc.cell? ⟨gb382, 2, none⟩ = some (.int .u64 a0_2) := (blk_cell BK382.out 2).trans rfl
                                      have hcz65_3 : wc.cell? ⟨gb382, 3, none⟩ = some (.int .u64 a0_3) := (blk_cell BK382.out 3).trans rfl
                                      have hcz65_4 : wc.cell? ⟨gb382, 4, none⟩ = some (.int .u64 a0_4) := (blk_cell BK382.out 4).trans rfl
                                      have hcz65_5 : wc.cell? ⟨gb382, 5, none⟩ = some (.string x383005_45) := (blk_cell BK382.out 5).trans rfl
                                      have hcz65_6 : wc.cell? ⟨gb382, 6, none⟩ = some (.bool x383006_45) := (blk_cell BK382.out 6).trans rfl
                                      have hfz65_0 := blk_frozen BK382.out 0
                                      have hfz65_1 := blk_frozen BK382.out 1
                                      have hfz65_2 := blk_frozen BK382.out 2
                                      have hfz65_3 := blk_frozen BK382.out 3
                                      have hfz65_4 := blk_frozen BK382.out 4
                                      have hfz65_5 := blk_frozen BK382.out 5
                                      have hfz65_6 := blk_frozen BK382.out 6
                                      go_wp2_with (first | ((with_reducible refine gate_dst (N := 91) rfl ?_); (try (refine gate_guard (by rfl) ?_; dsimp only)); refine Kd.R_lit k39 _ 39 ?hg (N := 91) ?hd (xs := ([(⟨a0_0, (⟨a0_1, a0_2⟩ : S33), (⟨a0_3, a0_4⟩ : S33), x383005_45, x383006_45⟩ : S39)] : List (S39))) (inner := [.int .i64 a0_0, .int .u64 a0_1, .int .u64 a0_2, .int .u64 a0_3, .int .u64 a0_4, .string x383005_45, .bool x383006_45]) (ok := fun _ => True) (okp := fun _ => True) ?hr ?hp (fun _ hk => hk) trivial (Below.refl _ _) (Nat.le_refl _) (by simp) ?_; (case hd => rfl); (case hg => rfl); (case hr => first | (go_simp; done) | (go_simp; rfl)); (case hp => exact (Reps.c7 (show Kd.M k39 _ _ _ (⟨a0_0, (⟨a0_1, a0_2⟩ : S33), (⟨a0_3, a0_4⟩ : S33), x383005_45, x383006_45⟩ : S39) [.int .i64 a0_0, .int .u64 a0_1, .int .u64 a0_2, .int .u64 a0_3, .int .u64 a0_4, .string x383005_45, .bool x383006_45] from (k39_mkM _ _ _ (⟨a0_0, (⟨a0_1, a0_2⟩ : S33), (⟨a0_3, a0_4⟩ : S33), x383005_45, x383006_45⟩ : S39) )) (Reps.none _ _))); intro v401 w66 ho67 hb hg_ hnew_; clear hg_ hnew_; (first | rw [← Ny400.out] at ho67 | (simp only [Int.reduceToNat] at ho67; rw [← Ny400.out] at ho67)); have n0_ := Aside0.mk (Kd.R_elder' (by (with_reducible repeat (first | apply Kd.R_alloc | apply Kd.R_drewN | apply Kd.R_drew)); exact HO_11.out) (Kd.R_base ho67) hb); have n1_ := Aside0.mk (Kd.R_lower (Kd.R_newB (Kd.R_new' ho67 (Kd.R_lt (by (with_reducible repeat (first | apply Kd.R_alloc | apply Kd.R_drewN | apply Kd.R_drew)); exact HO_11.out))) (g := gb382) (o := .cells #[.int .i64 a0_0, .int .u64 a0_1, .int .u64 a0_2, .int .u64 a0_3, .int .u64 a0_4, .string x383005_45, .bool x383006_45] 39 (0, 0)) (by (with_reducible repeat (first | refine blk_drewN ?_ _ | refine blk_drew ?_ | refine blk_alloc ?_ _)); exact BK382.out)) (below_size (by repeat (first | (with_reducible first | exact HB.out | apply below_alloc | apply pw_below_drewN | apply below_drew1 | refine below_set ?_ GE382.out | refine below_set ?_ GE383.out) | exact HB.out)))); have n2_ := Aside0.mk (blk_below (g := gb382) (o := .cells #[.int .i64 a0_0, .int .u64 a0_1, .int .u64 a0_2, .int .u64 a0_3, .int .u64 a0_4, .string x383005_45, .bool x383006_45] 39 (0, 0)) (by (with_reducible repeat (first | refine blk_drewN ?_ _ | refine blk_drew ?_ | refine blk_alloc ?_ _)); exact BK382.out) hb); have n3_ := Aside0.mk (blk_below (g := gb383) (o := .cells #[.int .u16 a1_0, .string a1_1] 42 (0, 0)) (by (with_reducible repeat (first | refine blk_drewN ?_ _ | refine blk_drew ?_ | refine blk_alloc ?_ _)); exact BK383.out) hb); have n4_ := Aside0.mk (below_step (by repeat (first | (with_reducible first | exact HB.out | apply below_alloc | apply pw_below_drewN | apply below_drew1 | refine below_set ?_ GE382.out | refine below_set ?_ GE383.out) | exact HB.out)) hb); clear HO_11; clear BK382; clear BK383; clear HB; have HO_11 := n0_; have HO402 := n1_; have BK382 := n2_; have BK383 := n3_; have HB := n4_; clear n0_ n1_ n2_ n3_ n4_; clear hb ho67; obtain ⟨Ao68, co68, eo68⟩ := Kd.R_slice HO_11.out; subst eo68; obtain ⟨Ao69, co69, eo69⟩ := Kd.R_slice HO402.out; subst eo69) | (go_at_call 12; (with_reducible refine (tenancylaw17_same.calls kj45 _ _ t395 _ _ y400 true _ ?side1 ?side2 ?side3 ?side4 A54.out).mono ?_); (case side1 => repeat (first | exact (Kd.R_reads' HO_11.out).2.2 | (with_reducible refine Kd.C_alloc ?_ _) | (with_reducible refine Kd.C_drewN ?_ _) | (with_reducible refine Kd.C_drew ?_))); (case side2 => exact (Kd.R_reads' HO_11.out).2.1); (case side3 => repeat (first | exact (Kd.R_reads' HO402.out).2.2 | (with_reducible refine Kd.C_alloc ?_ _) | (with_reducible refine Kd.C_drewN ?_ _) | (with_reducible refine Kd.C_drew ?_))); (case side4 => exact (Kd.R_reads' HO402.out).2.1); rintro e w' ⟨rfl, ⟨nd, rfl⟩⟩) | ((with_reducible refine gate_callee (f := 10) rfl ?_); refine goesL_ (some 103) rfl rfl Try.func10 (by kernel_rfl) rfl #[.int .i64 12, .string (t388.extract 0 34)] rfl (by (try simp only [List.map_toArray, List.map_cons, List.map_nil]); first | done | rfl | (simp only [List.length_drop, List.length_take]; rfl)) ?_; (with_reducible refine (relay_Unwrap.calls kj45 12 (t388.extract 0 34) t404 t405 t406 _ A59.out).mono ?_); rintro e w70 ⟨v407, rfl, ho0, hb⟩; refine ⟨_, rfl, ?_⟩; have n0_ := Aside0.mk (Kd.R_elder' (by (with_reducible repeat (first | apply Kd.R_alloc | apply Kd.R_drewN | apply Kd.R_drew)); exact HO_11.out) (Kd.R_base ho0) hb); have n1_ := Aside0.mk (Kd.R_elder' (by (with_reducible repeat (first | apply Kd.R_alloc | apply Kd.R_drewN | apply Kd.R_drew)); exact HO402.out) (Kd.R_base ho0) hb); have n2_ := Aside0.mk (Kd.R_lower (Kd.R_newB (Kd.R_new' (Kd.R_new' ho0 (Kd.R_lt (by (with_reducible repeat (first | apply Kd.R_alloc | apply Kd.R_drewN | apply Kd.R_drew)); exact HO_11.out))) (Kd.R_lt (by (with_reducible repeat (first | apply Kd.R_alloc | apply Kd.R_drewN | apply Kd.R_drew)); exact HO402.out))) (g := gb382) (o := .cells #[.int .i64 a0_0, .int .u64 a0_1, .int .u64 a0_2, .int .u64 a0_3, .int .u64 a0_4, .string x383005_45, .bool x383006_45] 39 (0, 0)) (by (with_reducible repeat (first | refine blk_drewN ?_ _ | refine blk_drew ?_ | refine blk_alloc ?_ _)); exact BK382.out)) (below_size (by repeat (first | (with_reducible first | exact HB.out | apply below_alloc | apply pw_below_drewN | apply below_drew1 | refine below_set ?_ GE382.out | refine below_set ?_ GE383.out) | exact HB.out)))); have n3_ := Aside0.mk (blk_below (g := gb382) (o := .cells #[.int .i64 a0_0, .int .u64 a0_1, .int .u64 a0_2, .int .u64 a0_3, .int .u64 a0_4, .string x383005_45, .bool x383006_45] 39 (0, 0)) (by (with_reducible repeat (first | refine blk_drewN ?_ _ | refine blk_drew ?_ | refine blk_alloc ?_ _)); exact BK382.out) hb); have n4_ := Aside0.mk (blk_below (g := gb383) (o := .cells #[.int .u16 a1_0, .string a1_1] 42 (0, 0)) (by (with_reducible repeat (first | refine blk_drewN ?_ _ | refine blk_drew ?_ | refine blk_alloc ?_ _)); exact BK383.out) hb); have n5_ := Aside0.mk (below_step (by repeat (first | (with_reducible first | exact HB.out | apply below_alloc | apply pw_below_drewN | apply below_drew1 | refine below_set ?_ GE382.out | refine below_set ?_ GE383.out) | exact HB.out)) hb); clear HO_11; clear HO402; clear BK382; clear BK383; clear HB; have HO_11 := n0_; have HO402 := n1_; have HO408 := n2_; have BK382 := n3_; have BK383 := n4_; have HB := n5_; clear n0_ n1_ n2_ n3_ n4_ n5_; (try clear hb); (try clear hb2); (try clear hk); (try clear hi); (try clear ho0)) | ((with_reducible refine gate_callee (f := 10) rfl ?_); refine goesL_ (some 110) rfl rfl Try.func10 (by kernel_rfl) rfl #[.int .i64 12, .string (t388.extract 0 33)] rfl (by (try simp only [List.map_toArray, List.map_cons, List.map_nil]); first | done | rfl | (simp only [List.length_drop, List.length_take]; rfl)) ?_; (with_reducible refine (relay_Unwrap.calls kj45 12 (t388.extract 0 33) t409 t410 t411 _ A62.out).mono ?_); rintro e w71 ⟨v412, rfl, ho0, hb⟩; refine ⟨_, rfl, ?_⟩; have n0_ := Aside0.mk (Kd.R_elder' (by (with_reducible repeat (first | apply Kd.R_alloc | apply Kd.R_drewN | apply Kd.R_drew)); exact HO_11.out) (Kd.R_base ho0) hb); have n1_ := Aside0.mk (Kd.R_elder' (by (with_reducible repeat (first | apply Kd.R_alloc | apply Kd.R_drewN | apply Kd.R_drew)); exact HO402.out) (Kd.R_base ho0) hb); have n2_ := Aside0.mk (Kd.R_elder' (by (with_reducible repeat (first | apply Kd.R_alloc | apply Kd.R_drewN | apply Kd.R_drew)); exact HO408.out) (Kd.R_base ho0) hb); have n3_ := Aside0.mk (Kd.R_lower (Kd.R_newB (Kd.R_new' (Kd.R_new' (Kd.R_new' ho0 (Kd.R_lt (by (with_reducible repeat (first | apply Kd.R_alloc | apply Kd.R_drewN | apply Kd.R_drew)); exact HO_11.out))) (Kd.R_lt (by (with_reducible repeat (first | apply Kd.R_alloc | apply Kd.R_drewN | apply Kd.R_drew)); exact HO402.out))) (Kd.R_lt (by (with_reducible repeat (first | apply Kd.R_alloc | apply Kd.R_drewN | apply Kd.R_drew)); exact HO408.out))) (g := gb382) (o := .cells #[.int .i64 a0_0, .int .u64 a0_1, .int .u64 a0_2, .int .u64 a0_3, .int .u64 a0_4, .string x383005_45, .bool x383006_45] 39 (0, 0)) (by (with_reducible repeat (first | refine blk_drewN ?_ _ | refine blk_drew ?_ | refine blk_alloc ?_ _)); exact BK382.out)) (below_size (by repeat (first | (with_reducible first | exact HB.out | apply below_alloc | apply pw_below_drewN | apply below_drew1 | refine below_set ?_ GE382.out | refine below_set ?_ GE383.out) | exact HB.out)))); have n4_ := Aside0.mk (blk_below (g := gb382) (o := .cells #[.int .i64 a0_0, .int .u64 a0_1, .int .u64 a0_2, .int .u64 a0_3, .int .u64 a0_4, .string x383005_45, .bool x383006_45] 39 (0, 0)) (by (with_reducible repeat (first | refine blk_drewN ?_ _ | refine blk_drew ?_ | refine blk_alloc ?_ _)); exact BK382.out) hb); have n5_ := Aside0.mk (blk_below (g := gb383) (o := .cells #[.int .u16 a1_0, .string a1_1] 42 (0, 0)) (by (with_reducible repeat (first | refine blk_drewN ?_ _ | refine blk_drew ?_ | refine blk_alloc ?_ _)); exact BK383.out) hb); have n6_ := Aside0.mk (below_step (by repeat (first | (with_reducible first | exact HB.out | apply below_alloc | apply pw_below_drewN | apply below_drew1 | refine below_set ?_ GE382.out | refine below_set ?_ GE383.out) | exact HB.out)) hb); clear HO_11; clear HO402; clear HO408; clear BK382; clear BK383; clear HB; have HO_11 := n0_; have HO402 := n1_; have HO408 := n2_; have HO413 := n3_; have BK382 := n4_; have BK383 := n5_; have HB := n6_; clear n0_ n1_ n2_ n3_ n4_ n5_ n6_; (try clear hb); (try clear hb2); (try clear hk); (try clear hi); (try clear ho0)))
                                      go_ret
                                      exact ⟨by first | rfl | (simp [errW_none, errW_some] <;> rfl) | (simp [*, errW_none, errW_some] <;> rfl), by repeat (first | (with_reducible first | exact HB.out | apply below_alloc | apply pw_below_drewN | apply below_drew1 | refine below_set ?_ GE382.out | refine below_set ?_ GE383.out) | exact HB.out)⟩
                                    · rw [if_neg c63] at H
                                      exact absurd H (by simp)
                                  · rw [if_neg c61] at H
                                    exact absurd H (by simp)
                                · rw [if_neg c60] at H
                                  exact absurd H (by simp)
                              · rw [if_neg c58] at H
                                exact absurd H (by simp)
                            · rw [if_neg c57] at H
                              exact absurd H (by simp)
                          · rw [if_neg c56] at H
                            exact absurd H (by simp)
                        · replace c55 := Bool.eq_false_iff.mpr c55
                          subst c55
                          have H1 : (none) = some r := by rw [if_neg (show ¬ (false = true) by decide)] at H; exact H
                          clear H
                          have H := H1
                          clear H1
                          exact absurd H (by simp)
                      · rw [if_neg c53] at H
                        exact absurd H (by simp)
          · rw [if_neg c30] at H
            exact absurd H (by simp)
  · replace c5 := Bool.eq_false_iff.mpr c5
    subst c5
    have H1 : (none) = some r := by rw [if_neg (show ¬ (false = true) by decide)] at H; exact H
    clear H
    have H := H1
    clear H1
    exact absurd H (by simp)

/-- The one plain statement of tenancylaw17_RelayIgnores. -/
def tenancylaw17_RelayIgnores.Pure : Prop := ∀ (x0 : S39) (x1 : S42) (a2 : ByteArray), (wf39 x0) → (wf42 x1) → (a2.size ≤ 140737488351232) → ∃ k, tenancylaw17_RelayIgnores.f k (x0.f0) (x0.f1.f0) (x0.f1.f1) (x0.f2.f0) (x0.f2.f1) (x0.f3) (x0.f4) (x1.f0) (x1.f1) a2 = some true

-- NOT PRINTED: function 8 (tenancylaw17_RelayMemory)

end Go.Proofs.Ytfpamalmkmhpgaa.X
