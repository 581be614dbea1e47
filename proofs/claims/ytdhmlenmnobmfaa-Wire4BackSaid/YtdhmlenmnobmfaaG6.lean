/- Functions of the program as Lean functions, and that the calls come to them: no condition.  By this session's own program (wip/xprint). -/
import Derived.Test.YtdhmlenmnobmfaaG0
import Derived.Test.YtdhmlenmnobmfaaG1
import Derived.Test.YtdhmlenmnobmfaaG3
namespace Go.Proofs.Ytdhmlenmnobmfaa.X
open Go.RowKit Go.Proofs.YtdhmlenmnobmfaaW.PrintWords Go.Proofs.YtdhmlenmnobmfaaW.PrintLast Go.Proofs.YtdhmlenmnobmfaaW.PrintMore
attribute [local go_sem] max2_int min2_int max_two min_two max_three min_three max_four min_four   -- for this text's walks alone
set_option linter.unusedVariables false
set_option linter.unusedSimpArgs false
/-! ### tenancylaw14_Wire4Back: function 5 -/
def tenancylaw14_Wire4Back.j0 : Nat → ByteArray → Option (Bool)
  | 0, _ => none
  | k + 1, x1 => (wire4_Decode.f k x1).bind fun bt412 => (if bt412.2.2.2.2.2.2.2.2.2.2.2.2.2.2.2 = 0 then (if (x1.size : Int) > 65251 then (some true) else ((wire4_Encode.f k bt412.1 bt412.2.1 bt412.2.2.1 bt412.2.2.2.1 bt412.2.2.2.2.1 bt412.2.2.2.2.2.1 bt412.2.2.2.2.2.2.1 bt412.2.2.2.2.2.2.2.1 bt412.2.2.2.2.2.2.2.2.1 bt412.2.2.2.2.2.2.2.2.2.1 bt412.2.2.2.2.2.2.2.2.2.2.1 bt412.2.2.2.2.2.2.2.2.2.2.2.1 bt412.2.2.2.2.2.2.2.2.2.2.2.2.1 bt412.2.2.2.2.2.2.2.2.2.2.2.2.2.1 bt412.2.2.2.2.2.2.2.2.2.2.2.2.2.2.1).bind fun bt432 => ((wire4_Decode.f k bt432.1).bind fun bt434 => (if bt432.2 = 0 then (if bt434.2.2.2.2.2.2.2.2.2.2.2.2.2.2.2 = 0 then ((tenancylaw14_same.f k bt434.1 bt434.2.1 bt434.2.2.1 bt434.2.2.2.1 bt434.2.2.2.2.1 bt434.2.2.2.2.2.1 bt434.2.2.2.2.2.2.1 bt434.2.2.2.2.2.2.2.1 bt434.2.2.2.2.2.2.2.2.1 bt434.2.2.2.2.2.2.2.2.2.1 bt434.2.2.2.2.2.2.2.2.2.2.1 bt434.2.2.2.2.2.2.2.2.2.2.2.1 bt434.2.2.2.2.2.2.2.2.2.2.2.2.1 bt434.2.2.2.2.2.2.2.2.2.2.2.2.2.1 bt434.2.2.2.2.2.2.2.2.2.2.2.2.2.2.1 bt412.1 bt412.2.1 bt412.2.2.1 bt412.2.2.2.1 bt412.2.2.2.2.1 bt412.2.2.2.2.2.1 bt412.2.2.2.2.2.2.1 bt412.2.2.2.2.2.2.2.1 bt412.2.2.2.2.2.2.2.2.1 bt412.2.2.2.2.2.2.2.2.2.1 bt412.2.2.2.2.2.2.2.2.2.2.1 bt412.2.2.2.2.2.2.2.2.2.2.2.1 bt412.2.2.2.2.2.2.2.2.2.2.2.2.1 bt412.2.2.2.2.2.2.2.2.2.2.2.2.2.1 bt412.2.2.2.2.2.2.2.2.2.2.2.2.2.2.1).bind fun t453 => (some t453)) else (none)) else (none))))) else ((tenancylaw14_same.f k bt412.1 bt412.2.1 bt412.2.2.1 bt412.2.2.2.1 bt412.2.2.2.2.1 bt412.2.2.2.2.2.1 bt412.2.2.2.2.2.2.1 bt412.2.2.2.2.2.2.2.1 bt412.2.2.2.2.2.2.2.2.1 bt412.2.2.2.2.2.2.2.2.2.1 bt412.2.2.2.2.2.2.2.2.2.2.1 bt412.2.2.2.2.2.2.2.2.2.2.2.1 bt412.2.2.2.2.2.2.2.2.2.2.2.2.1 bt412.2.2.2.2.2.2.2.2.2.2.2.2.2.1 bt412.2.2.2.2.2.2.2.2.2.2.2.2.2.2.1 0 0 0 0 0 0 0 0 0 0 0 (⟨#[]⟩ : ByteArray) (⟨#[]⟩ : ByteArray) (⟨#[]⟩ : ByteArray) ([] : List (S47))).bind fun t431 => (some t431)))
def tenancylaw14_Wire4Back.f (k : Nat) (a0_0 : Int) (a0_1 : Int) (a0_2 : Int) (a0_3 : Int) (a0_4 : Int) (a0_5 : Int) (a0_6 : Int) (a0_7 : Int) (a0_8 : Int) (a0_9 : Int) (a0_10 : Int) (a0_11 : ByteArray) (a0_12 : ByteArray) (a0_13 : ByteArray) (l0_14 : List (S47)) (a1 : ByteArray) : Option (Bool) := (tenancylaw14_awake.f k).bind fun t388 => (if t388 = true then ((wire4_Encode.f k a0_0 a0_1 a0_2 a0_3 a0_4 a0_5 a0_6 a0_7 a0_8 a0_9 a0_10 a0_11 a0_12 a0_13 l0_14).bind fun bt389 => (if bt389.2 = 0 then ((wire4_Decode.f k bt389.1).bind fun bt391 => (if bt391.2.2.2.2.2.2.2.2.2.2.2.2.2.2.2 = 0 then ((tenancylaw14_same.f k bt391.1 bt391.2.1 bt391.2.2.1 bt391.2.2.2.1 bt391.2.2.2.2.1 bt391.2.2.2.2.2.1 bt391.2.2.2.2.2.2.1 bt391.2.2.2.2.2.2.2.1 bt391.2.2.2.2.2.2.2.2.1 bt391.2.2.2.2.2.2.2.2.2.1 bt391.2.2.2.2.2.2.2.2.2.2.1 bt391.2.2.2.2.2.2.2.2.2.2.2.1 bt391.2.2.2.2.2.2.2.2.2.2.2.2.1 bt391.2.2.2.2.2.2.2.2.2.2.2.2.2.1 bt391.2.2.2.2.2.2.2.2.2.2.2.2.2.2.1 a0_0 a0_1 a0_2 a0_3 a0_4 a0_5 a0_6 a0_7 a0_8 a0_9 a0_10 a0_11 a0_12 a0_13 l0_14).bind fun t410 => (if t410 = true then (if (bt389.1.size : Int) < 241 then (none) else (if (bt389.1.size : Int) > 65507 then (none) else (tenancylaw14_Wire4Back.j0 k a1))) else (none))) else (none))) else (if bt389.1.toList = ([] : List UInt8) then ((wire4_Sound.f k a0_0 a0_1 a0_2 a0_3 a0_4 a0_5 a0_6 a0_7 a0_8 a0_9 a0_10 a0_11 a0_12 a0_13 l0_14).bind fun t411 => (if ((bt389.2 == 141) == t411) = true then (none) else (tenancylaw14_Wire4Back.j0 k a1))) else (none)))) else (none))
theorem tenancylaw14_Wire4Back.mono_l : ∀ k, (∀ y0, LeO (tenancylaw14_Wire4Back.j0 k y0) (tenancylaw14_Wire4Back.j0 (k + 1) y0))
  | 0 => fun _ r h => by simp [tenancylaw14_Wire4Back.j0] at h
  | k + 1 => by
    have ih0 := tenancylaw14_Wire4Back.mono_l k
    · intro y0
      unfold tenancylaw14_Wire4Back.j0
      repeat' first
      | (with_reducible exact ih0 _)
      | (with_reducible exact tenancylaw14_awake.mono _)
      | (with_reducible exact tenancylaw14_same.mono _ _ _ _ _ _ _ _ _ _ _ _ _ _ _ _ _ _ _ _ _ _ _ _ _ _ _ _ _ _ _)
      | (with_reducible exact wire4_Decode.mono _ _)
      | (with_reducible exact wire4_Encode.mono _ _ _ _ _ _ _ _ _ _ _ _ _ _ _ _)
      | (with_reducible exact wire4_Sound.mono _ _ _ _ _ _ _ _ _ _ _ _ _ _ _ _)
      | (with_reducible exact LeO.refl _)
      | (with_reducible exact LeO.none _)
      | (with_reducible refine LeO.ite ?_ ?_)
      | (with_reducible refine LeO.bind ?_ (fun _ => ?_))
      | exact ih0 _
      | exact tenancylaw14_awake.mono _
      | exact tenancylaw14_same.mono _ _ _ _ _ _ _ _ _ _ _ _ _ _ _ _ _ _ _ _ _ _ _ _ _ _ _ _ _ _ _
      | exact wire4_Decode.mono _ _
      | exact wire4_Encode.mono _ _ _ _ _ _ _ _ _ _ _ _ _ _ _ _
      | exact wire4_Sound.mono _ _ _ _ _ _ _ _ _ _ _ _ _ _ _ _
      | exact LeO.none _
      | refine LeO.ite ?_ ?_
      | refine LeO.bind ?_ (fun _ => ?_)
theorem tenancylaw14_Wire4Back.mono : ∀ a0 a1 a2 a3 a4 a5 a6 a7 a8 a9 a10 a11 a12 a13 a14 a15 k, LeO (tenancylaw14_Wire4Back.f k a0 a1 a2 a3 a4 a5 a6 a7 a8 a9 a10 a11 a12 a13 a14 a15) (tenancylaw14_Wire4Back.f (k + 1) a0 a1 a2 a3 a4 a5 a6 a7 a8 a9 a10 a11 a12 a13 a14 a15) := by
  intro a0 a1 a2 a3 a4 a5 a6 a7 a8 a9 a10 a11 a12 a13 a14 a15 k
  have ih0 := tenancylaw14_Wire4Back.mono_l k
  unfold tenancylaw14_Wire4Back.f
  repeat' first
      | (with_reducible exact ih0 _)
      | (with_reducible exact tenancylaw14_awake.mono _)
      | (with_reducible exact tenancylaw14_same.mono _ _ _ _ _ _ _ _ _ _ _ _ _ _ _ _ _ _ _ _ _ _ _ _ _ _ _ _ _ _ _)
      | (with_reducible exact wire4_Decode.mono _ _)
      | (with_reducible exact wire4_Encode.mono _ _ _ _ _ _ _ _ _ _ _ _ _ _ _ _)
      | (with_reducible exact wire4_Sound.mono _ _ _ _ _ _ _ _ _ _ _ _ _ _ _ _)
      | (with_reducible exact LeO.refl _)
      | (with_reducible exact LeO.none _)
      | (with_reducible refine LeO.ite ?_ ?_)
      | (with_reducible refine LeO.bind ?_ (fun _ => ?_))
      | exact ih0 _
      | exact tenancylaw14_awake.mono _
      | exact tenancylaw14_same.mono _ _ _ _ _ _ _ _ _ _ _ _ _ _ _ _ _ _ _ _ _ _ _ _ _ _ _ _ _ _ _
      | exact wire4_Decode.mono _ _
      | exact wire4_Encode.mono _ _ _ _ _ _ _ _ _ _ _ _ _ _ _ _
      | exact wire4_Sound.mono _ _ _ _ _ _ _ _ _ _ _ _ _ _ _ _
      | exact LeO.none _
      | refine LeO.ite ?_ ?_
      | refine LeO.bind ?_ (fun _ => ?_)
set_option maxHeartbeats 8000000 in
set_option maxRecDepth 100000 in
theorem tenancylaw14_Wire4Back.calls (k : Nat) (a0_0 : Int) (a0_1 : Int) (a0_2 : Int) (a0_3 : Int) (a0_4 : Int) (a0_5 : Int) (a0_6 : Int) (a0_7 : Int) (a0_8 : Int) (a0_9 : Int) (a0_10 : Int) (a0_11 : ByteArray) (a0_12 : ByteArray) (a0_13 : ByteArray) (A0_14 : Option Addr) (c0_14 : Nat) (l0_14 : List (S47)) (a1 : ByteArray) (r : Bool) (w : World) (hr0_14 : Kd.C k47 w A0_14 l0_14.length l0_14) (hc0_14 : l0_14.length ≤ c0_14) (h : tenancylaw14_Wire4Back.f k a0_0 a0_1 a0_2 a0_3 a0_4 a0_5 a0_6 a0_7 a0_8 a0_9 a0_10 a0_11 a0_12 a0_13 l0_14 a1 = some r) :
    Calls Try.prog 5 #[.agg #[.int .u8 a0_0, .int .u8 a0_1, .int .u8 a0_2, .int .u8 a0_3, .int .u32 a0_4, .int .u16 a0_5, .int .u16 a0_6, .int .u32 a0_7, .int .u32 a0_8, .int .u32 a0_9, .int .u32 a0_10, .string a0_11, .string a0_12, .string a0_13, .slice A0_14 l0_14.length c0_14], .string a1] w fun e w' => e = .returned (.bool r) ∧ Below w.heap.size w w' := by
  have hu26 := Try.underlying26
  have HR0_14 := Aside0.mk hr0_14
  have HC0_14 := Aside0.mk hc0_14
  clear hr0_14 hc0_14
  have HB := Aside0.mk (Below.refl w.heap.size w)
  have H : ((tenancylaw14_awake.f k).bind fun t388 => (if t388 = true then ((wire4_Encode.f k a0_0 a0_1 a0_2 a0_3 a0_4 a0_5 a0_6 a0_7 a0_8 a0_9 a0_10 a0_11 a0_12 a0_13 l0_14).bind fun bt389 => (if bt389.2 = 0 then ((wire4_Decode.f k bt389.1).bind fun bt391 => (if bt391.2.2.2.2.2.2.2.2.2.2.2.2.2.2.2 = 0 then ((tenancylaw14_same.f k bt391.1 bt391.2.1 bt391.2.2.1 bt391.2.2.2.1 bt391.2.2.2.2.1 bt391.2.2.2.2.2.1 bt391.2.2.2.2.2.2.1 bt391.2.2.2.2.2.2.2.1 bt391.2.2.2.2.2.2.2.2.1 bt391.2.2.2.2.2.2.2.2.2.1 bt391.2.2.2.2.2.2.2.2.2.2.1 bt391.2.2.2.2.2.2.2.2.2.2.2.1 bt391.2.2.2.2.2.2.2.2.2.2.2.2.1 bt391.2.2.2.2.2.2.2.2.2.2.2.2.2.1 bt391.2.2.2.2.2.2.2.2.2.2.2.2.2.2.1 a0_0 a0_1 a0_2 a0_3 a0_4 a0_5 a0_6 a0_7 a0_8 a0_9 a0_10 a0_11 a0_12 a0_13 l0_14).bind fun t410 => (if t410 = true then (if (bt389.1.size : Int) < 241 then (none) else (if (bt389.1.size : Int) > 65507 then (none) else (tenancylaw14_Wire4Back.j0 k a1))) else (none))) else (none))) else (if bt389.1.toList = ([] : List UInt8) then ((wire4_Sound.f k a0_0 a0_1 a0_2 a0_3 a0_4 a0_5 a0_6 a0_7 a0_8 a0_9 a0_10 a0_11 a0_12 a0_13 l0_14).bind fun t411 => (if ((bt389.2 == 141) == t411) = true then (none) else (tenancylaw14_Wire4Back.j0 k a1))) else (none)))) else (none))) = some r := h
  clear h
  replace H := Option.bind_eq_some_iff.mp H
  obtain ⟨t388, A30, H⟩ := H
  replace H : (if t388 = true then ((wire4_Encode.f k a0_0 a0_1 a0_2 a0_3 a0_4 a0_5 a0_6 a0_7 a0_8 a0_9 a0_10 a0_11 a0_12 a0_13 l0_14).bind fun bt389 => (if bt389.2 = 0 then ((wire4_Decode.f k bt389.1).bind fun bt391 => (if bt391.2.2.2.2.2.2.2.2.2.2.2.2.2.2.2 = 0 then ((tenancylaw14_same.f k bt391.1 bt391.2.1 bt391.2.2.1 bt391.2.2.2.1 bt391.2.2.2.2.1 bt391.2.2.2.2.2.1 bt391.2.2.2.2.2.2.1 bt391.2.2.2.2.2.2.2.1 bt391.2.2.2.2.2.2.2.2.1 bt391.2.2.2.2.2.2.2.2.2.1 bt391.2.2.2.2.2.2.2.2.2.2.1 bt391.2.2.2.2.2.2.2.2.2.2.2.1 bt391.2.2.2.2.2.2.2.2.2.2.2.2.1 bt391.2.2.2.2.2.2.2.2.2.2.2.2.2.1 bt391.2.2.2.2.2.2.2.2.2.2.2.2.2.2.1 a0_0 a0_1 a0_2 a0_3 a0_4 a0_5 a0_6 a0_7 a0_8 a0_9 a0_10 a0_11 a0_12 a0_13 l0_14).bind fun t410 => (if t410 = true then (if (bt389.1.size : Int) < 241 then (none) else (if (bt389.1.size : Int) > 65507 then (none) else (tenancylaw14_Wire4Back.j0 k a1))) else (none))) else (none))) else (if bt389.1.toList = ([] : List UInt8) then ((wire4_Sound.f k a0_0 a0_1 a0_2 a0_3 a0_4 a0_5 a0_6 a0_7 a0_8 a0_9 a0_10 a0_11 a0_12 a0_13 l0_14).bind fun t411 => (if ((bt389.2 == 141) == t411) = true then (none) else (tenancylaw14_Wire4Back.j0 k a1))) else (none)))) else (none)) = some r := H
  have A3 := Aside0.mk A30
  clear A30
  by_cases c4 : t388 = true
  · subst c4
    have H1 : ((wire4_Encode.f k a0_0 a0_1 a0_2 a0_3 a0_4 a0_5 a0_6 a0_7 a0_8 a0_9 a0_10 a0_11 a0_12 a0_13 l0_14).bind fun bt389 => (if bt389.2 = 0 then ((wire4_Decode.f k bt389.1).bind fun bt391 => (if bt391.2.2.2.2.2.2.2.2.2.2.2.2.2.2.2 = 0 then ((tenancylaw14_same.f k bt391.1 bt391.2.1 bt391.2.2.1 bt391.2.2.2.1 bt391.2.2.2.2.1 bt391.2.2.2.2.2.1 bt391.2.2.2.2.2.2.1 bt391.2.2.2.2.2.2.2.1 bt391.2.2.2.2.2.2.2.2.1 bt391.2.2.2.2.2.2.2.2.2.1 bt391.2.2.2.2.2.2.2.2.2.2.1 bt391.2.2.2.2.2.2.2.2.2.2.2.1 bt391.2.2.2.2.2.2.2.2.2.2.2.2.1 bt391.2.2.2.2.2.2.2.2.2.2.2.2.2.1 bt391.2.2.2.2.2.2.2.2.2.2.2.2.2.2.1 a0_0 a0_1 a0_2 a0_3 a0_4 a0_5 a0_6 a0_7 a0_8 a0_9 a0_10 a0_11 a0_12 a0_13 l0_14).bind fun t410 => (if t410 = true then (if (bt389.1.size : Int) < 241 then (none) else (if (bt389.1.size : Int) > 65507 then (none) else (tenancylaw14_Wire4Back.j0 k a1))) else (none))) else (none))) else (if bt389.1.toList = ([] : List UInt8) then ((wire4_Sound.f k a0_0 a0_1 a0_2 a0_3 a0_4 a0_5 a0_6 a0_7 a0_8 a0_9 a0_10 a0_11 a0_12 a0_13 l0_14).bind fun t411 => (if ((bt389.2 == 141) == t411) = true then (none) else (tenancylaw14_Wire4Back.j0 k a1))) else (none)))) = some r := by rw [if_pos rfl] at H; exact H
    clear H
    have H := H1
    clear H1
    replace H := Option.bind_eq_some_iff.mp H
    obtain ⟨⟨t389, t390⟩, A50, H⟩ := H
    replace H : (if t390 = 0 then ((wire4_Decode.f k t389).bind fun bt391 => (if bt391.2.2.2.2.2.2.2.2.2.2.2.2.2.2.2 = 0 then ((tenancylaw14_same.f k bt391.1 bt391.2.1 bt391.2.2.1 bt391.2.2.2.1 bt391.2.2.2.2.1 bt391.2.2.2.2.2.1 bt391.2.2.2.2.2.2.1 bt391.2.2.2.2.2.2.2.1 bt391.2.2.2.2.2.2.2.2.1 bt391.2.2.2.2.2.2.2.2.2.1 bt391.2.2.2.2.2.2.2.2.2.2.1 bt391.2.2.2.2.2.2.2.2.2.2.2.1 bt391.2.2.2.2.2.2.2.2.2.2.2.2.1 bt391.2.2.2.2.2.2.2.2.2.2.2.2.2.1 bt391.2.2.2.2.2.2.2.2.2.2.2.2.2.2.1 a0_0 a0_1 a0_2 a0_3 a0_4 a0_5 a0_6 a0_7 a0_8 a0_9 a0_10 a0_11 a0_12 a0_13 l0_14).bind fun t410 => (if t410 = true then (if (t389.size : Int) < 241 then (none) else (if (t389.size : Int) > 65507 then (none) else (tenancylaw14_Wire4Back.j0 k a1))) else (none))) else (none))) else (if t389.toList = ([] : List UInt8) then ((wire4_Sound.f k a0_0 a0_1 a0_2 a0_3 a0_4 a0_5 a0_6 a0_7 a0_8 a0_9 a0_10 a0_11 a0_12 a0_13 l0_14).bind fun t411 => (if ((t390 == 141) == t411) = true then (none) else (tenancylaw14_Wire4Back.j0 k a1))) else (none))) = some r := H
    have A5 := Aside0.mk A50
    clear A50
    have HC6 := Aside0.mk H
    clear H
    go_enter Try.func5, Try.ntmps5
    go_upto_if 20 with (first | ((with_reducible refine gate_dst (N := 2) rfl ?_); (try (refine gate_guard (by rfl) ?_; dsimp only)); refine box_event ?hg (N := 2) ?hd (cs := #[.int .u8 a0_0, .int .u8 a0_1, .int .u8 a0_2, .int .u8 a0_3, .int .u32 a0_4, .int .u16 a0_5, .int .u16 a0_6, .int .u32 a0_7, .int .u32 a0_8, .int .u32 a0_9, .int .u32 a0_10, .string a0_11, .string a0_12, .string a0_13, .slice A0_14 l0_14.length c0_14]) (t := 26) ?hr ?_; (case hd => rfl); (case hg => rfl); (case hr => first | (go_simp; done) | (go_simp; rfl)); intro gb387 hg w7 hbox hb; have n0_ := Aside0.mk (below_step (by repeat (first | (with_reducible first | exact HB.out | apply below_alloc | apply pw_below_drewN | apply below_drew1) | exact HB.out)) hb); have n1_ := Aside0.mk (hbox); have n2_ := Aside0.mk ((by rw [hg]; exact (below_size (by repeat (first | (with_reducible first | exact HB.out | apply below_alloc | apply pw_below_drewN | apply below_drew1) | exact HB.out))) : w.heap.size ≤ gb387)); have n3_ := Aside0.mk ((by rw [hg]; exact (below_size (by repeat (first | (with_reducible first | exact HB.out | apply below_alloc | apply pw_below_drewN | apply below_drew1) | exact HB.out))) : w.heap.size ≤ gb387)); clear HB; have HB := n0_; have BK387 := n1_; have GW387 := n2_; have GE387 := n3_; clear n0_ n1_ n2_ n3_; clear hb hbox hg) | ((with_reducible refine gate_callee (f := 8) rfl ?_); refine goesL_ (some 12) rfl rfl Try.func8 (by kernel_rfl) rfl #[] rfl (by (try simp only [List.map_toArray, List.map_cons, List.map_nil]); first | done | rfl | (simp only [List.length_drop, List.length_take]; rfl)) ?_; (with_reducible refine (tenancylaw14_awake.calls k  true _ A3.out).mono ?_); rintro e w8 ⟨rfl, hb⟩; refine ⟨_, rfl, ?_⟩; have n0_ := Aside0.mk (blk_below (g := gb387) (o := .cells #[.int .u8 a0_0, .int .u8 a0_1, .int .u8 a0_2, .int .u8 a0_3, .int .u32 a0_4, .int .u16 a0_5, .int .u16 a0_6, .int .u32 a0_7, .int .u32 a0_8, .int .u32 a0_9, .int .u32 a0_10, .string a0_11, .string a0_12, .string a0_13, .slice A0_14 l0_14.length c0_14] 26 (0, 0)) (by (with_reducible repeat (first | refine blk_drewN ?_ _ | refine blk_drew ?_ | refine blk_alloc ?_ _)); exact BK387.out) hb); have n1_ := Aside0.mk (below_step (by repeat (first | (with_reducible first | exact HB.out | apply below_alloc | apply pw_below_drewN | apply below_drew1 | refine below_set ?_ GE387.out) | exact HB.out)) hb); clear BK387; clear HB; have BK387 := n0_; have HB := n1_; clear n0_ n1_; (try clear hb); (try clear hb2); (try clear hk); (try clear hi); obtain ⟨hcz9_0, hcz9_1, hcz9_2, hcz9_3, hcz9_4, hcz9_5, hcz9_6, hcz9_7, hcz9_8, hcz9_9, hcz9_10, hcz9_11, hcz9_12, hcz9_13, hcz9_14⟩ := XRun.bc15 BK387.out; obtain ⟨hfz9_0, hfz9_1, hfz9_2, hfz9_3, hfz9_4, hfz9_5, hfz9_6, hfz9_7, hfz9_8, hfz9_9, hfz9_10, hfz9_11, hfz9_12, hfz9_13, hfz9_14⟩ := XRun.bf15 BK387.out) | ((with_reducible refine gate_callee (f := 12) rfl ?_); refine goesL_ (some 16) rfl rfl Try.func12 (by kernel_rfl) rfl #[.agg #[.int .u8 a0_0, .int .u8 a0_1, .int .u8 a0_2, .int .u8 a0_3, .int .u32 a0_4, .int .u16 a0_5, .int .u16 a0_6, .int .u32 a0_7, .int .u32 a0_8, .int .u32 a0_9, .int .u32 a0_10, .string a0_11, .string a0_12, .string a0_13, .slice A0_14 l0_14.length c0_14]] rfl (by (try simp only [List.map_toArray, List.map_cons, List.map_nil]); first | done | rfl | (simp only [List.length_drop, List.length_take]; rfl)) ?_; (with_reducible refine (wire4_Encode.calls k a0_0 a0_1 a0_2 a0_3 a0_4 a0_5 a0_6 a0_7 a0_8 a0_9 a0_10 a0_11 a0_12 a0_13 _ _ l0_14 t389 t390 _ ?side1 ?side2 A5.out).mono ?_); (case side1 => repeat (first | exact (Kd.C_below HR0_14.out HB.out) | (with_reducible refine Kd.C_alloc ?_ _) | (with_reducible refine Kd.C_drewN ?_ _) | (with_reducible refine Kd.C_drew ?_))); (case side2 => exact HC0_14.out); rintro e w10 ⟨rfl, hb⟩; refine ⟨_, rfl, ?_⟩; have n0_ := Aside0.mk (blk_below (g := gb387) (o := .cells #[.int .u8 a0_0, .int .u8 a0_1, .int .u8 a0_2, .int .u8 a0_3, .int .u32 a0_4, .int .u16 a0_5, .int .u16 a0_6, .int .u32 a0_7, .int .u32 a0_8, .int .u32 a0_9, .int .u32 a0_10, .string a0_11, .string a0_12, .string a0_13, .slice A0_14 l0_14.length c0_14] 26 (0, 0)) (by (with_reducible repeat (first | refine blk_drewN ?_ _ | refine blk_drew ?_ | refine blk_alloc ?_ _)); exact BK387.out) hb); have n1_ := Aside0.mk (below_step (by repeat (first | (with_reducible first | exact HB.out | apply below_alloc | apply pw_below_drewN | apply below_drew1 | refine below_set ?_ GE387.out) | exact HB.out)) hb); clear BK387; clear HB; have BK387 := n0_; have HB := n1_; clear n0_ n1_; (try clear hb); (try clear hb2); (try clear hk); (try clear hi)))
    (try simp only [Act.put, List.setIfInBounds_toArray, List.set_cons_zero, List.set_cons_succ])
    go_cut [] (fun wc => ∃ (kq : Nat), Aside0 (tenancylaw14_Wire4Back.j0 kq a1 = some r) ∧ Aside0 (kq ≤ k) ∧ Aside0 (wc.heap[gb387]? = some (.cells #[.int .u8 a0_0, .int .u8 a0_1, .int .u8 a0_2, .int .u8 a0_3, .int .u32 a0_4, .int .u16 a0_5, .int .u16 a0_6, .int .u32 a0_7, .int .u32 a0_8, .int .u32 a0_9, .int .u32 a0_10, .string a0_11, .string a0_12, .string a0_13, (.slice A0_14 l0_14.length c0_14)] 26 (0, 0))) ∧ Aside0 (Below w.heap.size w wc))
    case first =>
      have H := HC6.out
      clear HC6
      by_cases c11 : t390 = 0
      · rw [if_pos c11] at H
        have c11b0 : (t390 == 0) = true := beq_iff_eq.mpr c11
        have c11b1 : (t390 != 0) = false := bne_eq_false_iff_eq.mpr c11
        clear c11
        (first | rw [c11b0] | (simp only [i64_w, i32_w]; rw [c11b0]) | skip)
        replace H := Option.bind_eq_some_iff.mp H
        obtain ⟨⟨t391, t392, t393, t394, t395, t396, t397, t398, t399, t400, t401, t402, t403, t404, t405, t408⟩, A120, H⟩ := H
        replace H : (if t408 = 0 then ((tenancylaw14_same.f k t391 t392 t393 t394 t395 t396 t397 t398 t399 t400 t401 t402 t403 t404 t405 a0_0 a0_1 a0_2 a0_3 a0_4 a0_5 a0_6 a0_7 a0_8 a0_9 a0_10 a0_11 a0_12 a0_13 l0_14).bind fun t410 => (if t410 = true then (if (t389.size : Int) < 241 then (none) else (if (t389.size : Int) > 65507 then (none) else (tenancylaw14_Wire4Back.j0 k a1))) else (none))) else (none)) = some r := H
        have A12 := Aside0.mk A120
        clear A120
        by_cases c13 : t408 = 0
        · rw [if_pos c13] at H
          have c13b0 : (t408 == 0) = true := beq_iff_eq.mpr c13
          have c13b1 : (t408 != 0) = false := bne_eq_false_iff_eq.mpr c13
          clear c13
          replace H := Option.bind_eq_some_iff.mp H
          obtain ⟨t410, A140, H⟩ := H
          replace H : (if t410 = true then (if (t389.size : Int) < 241 then (none) else (if (t389.size : Int) > 65507 then (none) else (tenancylaw14_Wire4Back.j0 k a1))) else (none)) = some r := H
          have A14 := Aside0.mk A140
          clear A140
          by_cases c15 : t410 = true
          · subst c15
            have H1 : (if (t389.size : Int) < 241 then (none) else (if (t389.size : Int) > 65507 then (none) else (tenancylaw14_Wire4Back.j0 k a1))) = some r := by rw [if_pos rfl] at H; exact H
            clear H
            have H := H1
            clear H1
            by_cases c16 : (t389.size : Int) < 241
            · rw [if_pos c16] at H
              exact absurd H (by simp)
            · rw [if_neg c16] at H
              have c16b0 : decide ((t389.size : Int) < 241) = false := decide_eq_false c16
              have c16b1 : decide (t389.size < 241) = false := decide_eq_false (by omega)
              clear c16
              by_cases c17 : (t389.size : Int) > 65507
              · rw [if_pos c17] at H
                exact absurd H (by simp)
              · rw [if_neg c17] at H
                have c17b0 : decide (65507 < (t389.size : Int)) = false := decide_eq_false c17
                have c17b1 : decide (65507 < t389.size) = false := decide_eq_false (by omega)
                clear c17
                have H' := Aside0.mk H
                clear H
                go_wp2_with (first | ((with_reducible refine gate_callee (f := 16) rfl ?_); refine goesL_ (some 23) rfl rfl Try.func16 (by kernel_rfl) rfl #[.string t389] rfl (by (try simp only [List.map_toArray, List.map_cons, List.map_nil]); first | done | rfl | (simp only [List.length_drop, List.length_take]; rfl)) ?_; (with_reducible refine (wire4_Decode.calls k t389 t391 t392 t393 t394 t395 t396 t397 t398 t399 t400 t401 t402 t403 t404 t405 t408 _ A12.out).mono ?_); rintro e w18 ⟨v406, rfl, ho0, hb⟩; refine ⟨_, rfl, ?_⟩; have n0_ := Aside0.mk (Kd.R_lower ho0 (below_size (by repeat (first | (with_reducible first | exact HB.out | apply below_alloc | apply pw_below_drewN | apply below_drew1 | refine below_set ?_ GE387.out) | exact HB.out)))); have n1_ := Aside0.mk (blk_below (g := gb387) (o := .cells #[.int .u8 a0_0, .int .u8 a0_1, .int .u8 a0_2, .int .u8 a0_3, .int .u32 a0_4, .int .u16 a0_5, .int .u16 a0_6, .int .u32 a0_7, .int .u32 a0_8, .int .u32 a0_9, .int .u32 a0_10, .string a0_11, .string a0_12, .string a0_13, .slice A0_14 l0_14.length c0_14] 26 (0, 0)) (by (with_reducible repeat (first | refine blk_drewN ?_ _ | refine blk_drew ?_ | refine blk_alloc ?_ _)); exact BK387.out) hb); have n2_ := Aside0.mk (below_step (by repeat (first | (with_reducible first | exact HB.out | apply below_alloc | apply pw_below_drewN | apply below_drew1 | refine below_set ?_ GE387.out) | exact HB.out)) hb); clear BK387; clear HB; have HO407 := n0_; have BK387 := n1_; have HB := n2_; clear n0_ n1_ n2_; (try clear hb); (try clear hb2); (try clear hk); (try clear hi); (try clear ho0)) | ((with_reducible refine gate_dst (N := 7) rfl ?_); (try (refine gate_guard (by rfl) ?_; dsimp only)); refine box_event ?hg (N := 7) ?hd (cs := #[.int .u8 0, .int .u8 0, .int .u8 0, .int .u8 0, .int .u32 0, .int .u16 0, .int .u16 0, .int .u32 0, .int .u32 0, .int .u32 0, .int .u32 0, .string (⟨#[]⟩ : ByteArray), .string (⟨#[]⟩ : ByteArray), .string (⟨#[]⟩ : ByteArray), .slice none 0 0]) (t := 26) ?hr ?_; (case hd => rfl); (case hg => rfl); (case hr => first | (go_simp; done) | (go_simp; rfl)); intro gb409 hg w19 hbox hb; have n0_ := Aside0.mk (Kd.R_below (by (with_reducible repeat (first | apply Kd.R_alloc | apply Kd.R_drewN | apply Kd.R_drew)); exact HO407.out) hb); have n1_ := Aside0.mk (blk_below (g := gb387) (o := .cells #[.int .u8 a0_0, .int .u8 a0_1, .int .u8 a0_2, .int .u8 a0_3, .int .u32 a0_4, .int .u16 a0_5, .int .u16 a0_6, .int .u32 a0_7, .int .u32 a0_8, .int .u32 a0_9, .int .u32 a0_10, .string a0_11, .string a0_12, .string a0_13, .slice A0_14 l0_14.length c0_14] 26 (0, 0)) (by (with_reducible repeat (first | refine blk_drewN ?_ _ | refine blk_drew ?_ | refine blk_alloc ?_ _)); exact BK387.out) hb); have n2_ := Aside0.mk (below_step (by repeat (first | (with_reducible first | exact HB.out | apply below_alloc | apply pw_below_drewN | apply below_drew1 | refine below_set ?_ GE387.out) | exact HB.out)) hb); have n3_ := Aside0.mk (hbox); have n4_ := Aside0.mk ((by rw [hg]; exact (below_size (by repeat (first | (with_reducible first | exact HB.out | apply below_alloc | apply pw_below_drewN | apply below_drew1 | refine below_set ?_ GE387.out) | exact HB.out))) : w.heap.size ≤ gb409)); have n5_ := Aside0.mk ((by rw [hg]; exact (below_size (by repeat (first | (with_reducible first | exact HB.out | apply below_alloc | apply pw_below_drewN | apply below_drew1 | refine below_set ?_ GE387.out) | exact HB.out))) : w.heap.size ≤ gb409)); have n6_ := Aside0.mk ((by rw [hg]; exact Nat.ne_of_lt (blk_lt (g := gb387) (o := .cells #[.int .u8 a0_0, .int .u8 a0_1, .int .u8 a0_2, .int .u8 a0_3, .int .u32 a0_4, .int .u16 a0_5, .int .u16 a0_6, .int .u32 a0_7, .int .u32 a0_8, .int .u32 a0_9, .int .u32 a0_10, .string a0_11, .string a0_12, .string a0_13, .slice A0_14 l0_14.length c0_14] 26 (0, 0)) (by (with_reducible repeat (first | refine blk_drewN ?_ _ | refine blk_drew ?_ | refine blk_alloc ?_ _)); exact BK387.out)) : gb387 ≠ gb409)); have n7_ := Aside0.mk ((by rw [hg]; exact Nat.ne_of_gt (blk_lt (g := gb387) (o := .cells #[.int .u8 a0_0, .int .u8 a0_1, .int .u8 a0_2, .int .u8 a0_3, .int .u32 a0_4, .int .u16 a0_5, .int .u16 a0_6, .int .u32 a0_7, .int .u32 a0_8, .int .u32 a0_9, .int .u32 a0_10, .string a0_11, .string a0_12, .string a0_13, .slice A0_14 l0_14.length c0_14] 26 (0, 0)) (by (with_reducible repeat (first | refine blk_drewN ?_ _ | refine blk_drew ?_ | refine blk_alloc ?_ _)); exact BK387.out)) : gb409 ≠ gb387)); clear HO407; clear BK387; clear HB; have HO407 := n0_; have BK387 := n1_; have HB := n2_; have BK409 := n3_; have GW409 := n4_; have GE409 := n5_; have NB387_409 := n6_; have NB409_387 := n7_; clear n0_ n1_ n2_ n3_ n4_ n5_ n6_ n7_; clear hb hbox hg; have hnb20 := NB409_387.out; have hnc20 := NB387_409.out; obtain ⟨hcz21_0, hcz21_1, hcz21_2, hcz21_3, hcz21_4, hcz21_5, hcz21_6, hcz21_7, hcz21_8, hcz21_9, hcz21_10, hcz21_11, hcz21_12, hcz21_13, hcz21_14⟩ := XRun.bc15 BK409.out; obtain ⟨hfz21_0, hfz21_1, hfz21_2, hfz21_3, hfz21_4, hfz21_5, hfz21_6, hfz21_7, hfz21_8, hfz21_9, hfz21_10, hfz21_11, hfz21_12, hfz21_13, hfz21_14⟩ := XRun.bf15 BK409.out; obtain ⟨Ao22, co22, eo22⟩ := Kd.R_slice HO407.out; subst eo22; obtain ⟨hcz23_0, hcz23_1, hcz23_2, hcz23_3, hcz23_4, hcz23_5, hcz23_6, hcz23_7, hcz23_8, hcz23_9, hcz23_10, hcz23_11, hcz23_12, hcz23_13, hcz23_14⟩ := XRun.bc15 BK387.out; obtain ⟨hfz23_0, hfz23_1, hfz23_2, hfz23_3, hfz23_4, hfz23_5, hfz23_6, hfz23_7, hfz23_8, hfz23_9, hfz23_10, hfz23_11, hfz23_12, hfz23_13, hfz23_14⟩ := XRun.bf15 BK387.out) | (go_at_call 9; (with_reducible refine (tenancylaw14_same.calls k t391 t392 t393 t394 t395 t396 t397 t398 t399 t400 t401 t402 t403 t404 _ _ t405 a0_0 a0_1 a0_2 a0_3 a0_4 a0_5 a0_6 a0_7 a0_8 a0_9 a0_10 a0_11 a0_12 a0_13 _ _ l0_14 true _ ?side1 ?side2 ?side3 ?side4 A14.out).mono ?_); (case side1 => refine (Kd.R_reads' (e := 47) (base := w.heap.size) (ok := fun k_ => True) (n := t405.length) (c := co22) ?_).2.2; exact (by (with_reducible repeat (first | apply Kd.R_alloc | apply Kd.R_drewN | apply Kd.R_drew)); exact (Kd.R_mono (Kd.R_far (p := ⟨gb409, 14, none⟩) (Kd.R_far (p := ⟨gb409, 13, none⟩) (Kd.R_far (p := ⟨gb409, 12, none⟩) (Kd.R_far (p := ⟨gb409, 11, none⟩) (Kd.R_far (p := ⟨gb409, 10, none⟩) (Kd.R_far (p := ⟨gb409, 9, none⟩) (Kd.R_far (p := ⟨gb409, 8, none⟩) (Kd.R_far (p := ⟨gb409, 7, none⟩) (Kd.R_far (p := ⟨gb409, 6, none⟩) (Kd.R_far (p := ⟨gb409, 5, none⟩) (Kd.R_far (p := ⟨gb409, 4, none⟩) (Kd.R_far (p := ⟨gb409, 3, none⟩) (Kd.R_far (p := ⟨gb409, 2, none⟩) (Kd.R_far (p := ⟨gb409, 1, none⟩) (Kd.R_far (p := ⟨gb409, 0, none⟩) (Kd.R_types HO407.out BK409.out (by decide)) (fun _ hk => hk.2) (.int .u8 t391)) (fun _ hk => hk.2) (.int .u8 t392)) (fun _ hk => hk.2) (.int .u8 t393)) (fun _ hk => hk.2) (.int .u8 t394)) (fun _ hk => hk.2) (.int .u32 t395)) (fun _ hk => hk.2) (.int .u16 t396)) (fun _ hk => hk.2) (.int .u16 t397)) (fun _ hk => hk.2) (.int .u32 t398)) (fun _ hk => hk.2) (.int .u32 t399)) (fun _ hk => hk.2) (.int .u32 t400)) (fun _ hk => hk.2) (.int .u32 t401)) (fun _ hk => hk.2) (.string t402)) (fun _ hk => hk.2) (.string t403)) (fun _ hk => hk.2) (.string t404)) (fun _ hk => hk.2) (.slice Ao22 t405.length co22)) (fun _ h_ => h_.1)))); (case side2 => exact (Kd.R_reads' HO407.out).2.1); (case side3 => exact Kd.C_below HR0_14.out (by repeat (first | (with_reducible first | exact HB.out | apply below_alloc | apply pw_below_drewN | apply below_drew1 | refine below_set ?_ GE387.out | refine below_set ?_ GE409.out) | exact HB.out))); (case side4 => exact HC0_14.out); rintro e w24 ⟨rfl, hb⟩; have n0_ := Aside0.mk (Kd.R_below (by (with_reducible repeat (first | apply Kd.R_alloc | apply Kd.R_drewN | apply Kd.R_drew)); exact (Kd.R_mono (Kd.R_far (p := ⟨gb409, 14, none⟩) (Kd.R_far (p := ⟨gb409, 13, none⟩) (Kd.R_far (p := ⟨gb409, 12, none⟩) (Kd.R_far (p := ⟨gb409, 11, none⟩) (Kd.R_far (p := ⟨gb409, 10, none⟩) (Kd.R_far (p := ⟨gb409, 9, none⟩) (Kd.R_far (p := ⟨gb409, 8, none⟩) (Kd.R_far (p := ⟨gb409, 7, none⟩) (Kd.R_far (p := ⟨gb409, 6, none⟩) (Kd.R_far (p := ⟨gb409, 5, none⟩) (Kd.R_far (p := ⟨gb409, 4, none⟩) (Kd.R_far (p := ⟨gb409, 3, none⟩) (Kd.R_far (p := ⟨gb409, 2, none⟩) (Kd.R_far (p := ⟨gb409, 1, none⟩) (Kd.R_far (p := ⟨gb409, 0, none⟩) (Kd.R_types HO407.out BK409.out (by decide)) (fun _ hk => hk.2) (.int .u8 t391)) (fun _ hk => hk.2) (.int .u8 t392)) (fun _ hk => hk.2) (.int .u8 t393)) (fun _ hk => hk.2) (.int .u8 t394)) (fun _ hk => hk.2) (.int .u32 t395)) (fun _ hk => hk.2) (.int .u16 t396)) (fun _ hk => hk.2) (.int .u16 t397)) (fun _ hk => hk.2) (.int .u32 t398)) (fun _ hk => hk.2) (.int .u32 t399)) (fun _ hk => hk.2) (.int .u32 t400)) (fun _ hk => hk.2) (.int .u32 t401)) (fun _ hk => hk.2) (.string t402)) (fun _ hk => hk.2) (.string t403)) (fun _ hk => hk.2) (.string t404)) (fun _ hk => hk.2) (.slice Ao22 t405.length co22)) (fun _ h_ => h_.1))) hb); have n1_ := Aside0.mk (blk_below (g := gb387) (o := .cells #[.int .u8 a0_0, .int .u8 a0_1, .int .u8 a0_2, .int .u8 a0_3, .int .u32 a0_4, .int .u16 a0_5, .int .u16 a0_6, .int .u32 a0_7, .int .u32 a0_8, .int .u32 a0_9, .int .u32 a0_10, .string a0_11, .string a0_12, .string a0_13, .slice A0_14 l0_14.length c0_14] 26 (0, 0)) (by (with_reducible repeat (first | refine blk_drewN ?_ _ | refine blk_drew ?_ | refine blk_alloc ?_ _)); refine blk_far ?_ NB387_409.out _; (with_reducible repeat (first | refine blk_drewN ?_ _ | refine blk_drew ?_ | refine blk_alloc ?_ _)); refine blk_far ?_ NB387_409.out _; (with_reducible repeat (first | refine blk_drewN ?_ _ | refine blk_drew ?_ | refine blk_alloc ?_ _)); refine blk_far ?_ NB387_409.out _; (with_reducible repeat (first | refine blk_drewN ?_ _ | refine blk_drew ?_ | refine blk_alloc ?_ _)); refine blk_far ?_ NB387_409.out _; (with_reducible repeat (first | refine blk_drewN ?_ _ | refine blk_drew ?_ | refine blk_alloc ?_ _)); refine blk_far ?_ NB387_409.out _; (with_reducible repeat (first | refine blk_drewN ?_ _ | refine blk_drew ?_ | refine blk_alloc ?_ _)); refine blk_far ?_ NB387_409.out _; (with_reducible repeat (first | refine blk_drewN ?_ _ | refine blk_drew ?_ | refine blk_alloc ?_ _)); refine blk_far ?_ NB387_409.out _; (with_reducible repeat (first | refine blk_drewN ?_ _ | refine blk_drew ?_ | refine blk_alloc ?_ _)); refine blk_far ?_ NB387_409.out _; (with_reducible repeat (first | refine blk_drewN ?_ _ | refine blk_drew ?_ | refine blk_alloc ?_ _)); refine blk_far ?_ NB387_409.out _; (with_reducible repeat (first | refine blk_drewN ?_ _ | refine blk_drew ?_ | refine blk_alloc ?_ _)); refine blk_far ?_ NB387_409.out _; (with_reducible repeat (first | refine blk_drewN ?_ _ | refine blk_drew ?_ | refine blk_alloc ?_ _)); refine blk_far ?_ NB387_409.out _; (with_reducible repeat (first | refine blk_drewN ?_ _ | refine blk_drew ?_ | refine blk_alloc ?_ _)); refine blk_far ?_ NB387_409.out _; (with_reducible repeat (first | refine blk_drewN ?_ _ | refine blk_drew ?_ | refine blk_alloc ?_ _)); refine blk_far ?_ NB387_409.out _; (with_reducible repeat (first | refine blk_drewN ?_ _ | refine blk_drew ?_ | refine blk_alloc ?_ _)); refine blk_far ?_ NB387_409.out _; (with_reducible repeat (first | refine blk_drewN ?_ _ | refine blk_drew ?_ | refine blk_alloc ?_ _)); refine blk_far ?_ NB387_409.out _; (with_reducible repeat (first | refine blk_drewN ?_ _ | refine blk_drew ?_ | refine blk_alloc ?_ _)); exact BK387.out) hb); have n2_ := Aside0.mk (blk_below (g := gb409) (o := .cells #[.int .u8 t391, .int .u8 t392, .int .u8 t393, .int .u8 t394, .int .u32 t395, .int .u16 t396, .int .u16 t397, .int .u32 t398, .int .u32 t399, .int .u32 t400, .int .u32 t401, .string t402, .string t403, .string t404, .slice Ao22 t405.length co22] 26 (0, 0)) (by (with_reducible repeat (first | refine blk_drewN ?_ _ | refine blk_drew ?_ | refine blk_alloc ?_ _)); refine blk_put (cs := #[.int .u8 t391, .int .u8 t392, .int .u8 t393, .int .u8 t394, .int .u32 t395, .int .u16 t396, .int .u16 t397, .int .u32 t398, .int .u32 t399, .int .u32 t400, .int .u32 t401, .string t402, .string t403, .string t404, .slice none 0 0]) ?_ 14 _ rfl; (with_reducible repeat (first | refine blk_drewN ?_ _ | refine blk_drew ?_ | refine blk_alloc ?_ _)); refine blk_put (cs := #[.int .u8 t391, .int .u8 t392, .int .u8 t393, .int .u8 t394, .int .u32 t395, .int .u16 t396, .int .u16 t397, .int .u32 t398, .int .u32 t399, .int .u32 t400, .int .u32 t401, .string t402, .string t403, .string (⟨#[]⟩ : ByteArray), .slice none 0 0]) ?_ 13 _ rfl; (with_reducible repeat (first | refine blk_drewN ?_ _ | refine blk_drew ?_ | refine blk_alloc ?_ _)); refine blk_put (cs := #[.int .u8 t391, .int .u8 t392, .int .u8 t393, .int .u8 t394, .int .u32 t395, .int .u16 t396, .int .u16 t397, .int .u32 t398, .int .u32 t399, .int .u32 t400, .int .u32 t401, .string t402, .string (⟨#[]⟩ : ByteArray), .string (⟨#[]⟩ : ByteArray), .slice none 0 0]) ?_ 12 _ rfl; (with_reducible repeat (first | refine blk_drewN ?_ _ | refine blk_drew ?_ | refine blk_alloc ?_ _)); refine blk_put (cs := #[.int .u8 t391, .int .u8 t392, .int .u8 t393, .int .u8 t394, .int .u32 t395, .int .u16 t396, .int .u16 t397, .int .u32 t398, .int .u32 t399, .int .u32 t400, .int .u32 t401, .string (⟨#[]⟩ : ByteArray), .string (⟨#[]⟩ : ByteArray), .string (⟨#[]⟩ : ByteArray), .slice none 0 0]) ?_ 11 _ rfl; (with_reducible repeat (first | refine blk_drewN ?_ _ | refine blk_drew ?_ | refine blk_alloc ?_ _)); refine blk_put (cs := #[.int .u8 t391, .int .u8 t392, .int .u8 t393, .int .u8 t394, .int .u32 t395, .int .u16 t396, .int .u16 t397, .int .u32 t398, .int .u32 t399, .int .u32 t400, .int .u32 0, .string (⟨#[]⟩ : ByteArray), .string (⟨#[]⟩ : ByteArray), .string (⟨#[]⟩ : ByteArray), .slice none 0 0]) ?_ 10 _ rfl; (with_reducible repeat (first | refine blk_drewN ?_ _ | refine blk_drew ?_ | refine blk_alloc ?_ _)); refine blk_put (cs := #[.int .u8 t391, .int .u8 t392, .int .u8 t393, .int .u8 t394, .int .u32 t395, .int .u16 t396, .int .u16 t397, .int .u32 t398, .int .u32 t399, .int .u32 0, .int .u32 0, .string (⟨#[]⟩ : ByteArray), .string (⟨#[]⟩ : ByteArray), .string (⟨#[]⟩ : ByteArray), .slice none 0 0]) ?_ 9 _ rfl; (with_reducible repeat (first | refine blk_drewN ?_ _ | refine blk_drew ?_ | refine blk_alloc ?_ _)); refine blk_put (cs := #[.int .u8 t391, .int .u8 t392, .int .u8 t393, .int .u8 t394, .int .u32 t395, .int .u16 t396, .int .u16 t397, .int .u32 t398, .int .u32 0, .int .u32 0, .int .u32 0, .string (⟨#[]⟩ : ByteArray), .string (⟨#[]⟩ : ByteArray), .string (⟨#[]⟩ : ByteArray), .slice none 0 0]) ?_ 8 _ rfl; (with_reducible repeat (first | refine blk_drewN ?_ _ | refine blk_drew ?_ | refine blk_alloc ?_ _)); refine blk_put (cs := #[.int .u8 t391, .int .u8 t392, .int .u8 t393, .int .u8 t394, .int .u32 t395, .int .u16 t396, .int .u16 t397, .int .u32 0, .int .u32 0, .int .u32 0, .int .u32 0, .string (⟨#[]⟩ : ByteArray), .string (⟨#[]⟩ : ByteArray), .string (⟨#[]⟩ : ByteArray), .slice none 0 0]) ?_ 7 _ rfl; (with_reducible repeat (first | refine blk_drewN ?_ _ | refine blk_drew ?_ | refine blk_alloc ?_ _)); refine blk_put (cs := #[.int .u8 t391, .int .u8 t392, .int .u8 t393, .int .u8 t394, .int .u32 t395, .int .u16 t396, .int .u16 0, .int .u32 0, .int .u32 0, .int .u32 0, .int .u32 0, .string (⟨#[]⟩ : ByteArray), .string (⟨#[]⟩ : ByteArray), .string (⟨#[]⟩ : ByteArray), .slice none 0 0]) ?_ 6 _ rfl; (with_reducible repeat (first | refine blk_drewN ?_ _ | refine blk_drew ?_ | refine blk_alloc ?_ _)); refine blk_put (cs := #[.int .u8 t391, .int .u8 t392, .int .u8 t393, .int .u8 t394, .int .u32 t395, .int .u16 0, .int .u16 0, .int .u32 0, .int .u32 0, .int .u32 0, .int .u32 0, .string (⟨#[]⟩ : ByteArray), .string (⟨#[]⟩ : ByteArray), .string (⟨#[]⟩ : ByteArray), .slice none 0 0]) ?_ 5 _ rfl; (with_reducible repeat (first | refine blk_drewN ?_ _ | refine blk_drew ?_ | refine blk_alloc ?_ _)); refine blk_put (cs := #[.int .u8 t391, .int .u8 t392, .int .u8 t393, .int .u8 t394, .int .u32 0, .int .u16 0, .int .u16 0, .int .u32 0, .int .u32 0, .int .u32 0, .int .u32 0, .string (⟨#[]⟩ : ByteArray), .string (⟨#[]⟩ : ByteArray), .string (⟨#[]⟩ : ByteArray), .slice none 0 0]) ?_ 4 _ rfl; (with_reducible repeat (first | refine blk_drewN ?_ _ | refine blk_drew ?_ | refine blk_alloc ?_ _)); refine blk_put (cs := #[.int .u8 t391, .int .u8 t392, .int .u8 t393, .int .u8 0, .int .u32 0, .int .u16 0, .int .u16 0, .int .u32 0, .int .u32 0, .int .u32 0, .int .u32 0, .string (⟨#[]⟩ : ByteArray), .string (⟨#[]⟩ : ByteArray), .string (⟨#[]⟩ : ByteArray), .slice none 0 0]) ?_ 3 _ rfl; (with_reducible repeat (first | refine blk_drewN ?_ _ | refine blk_drew ?_ | refine blk_alloc ?_ _)); refine blk_put (cs := #[.int .u8 t391, .int .u8 t392, .int .u8 0, .int .u8 0, .int .u32 0, .int .u16 0, .int .u16 0, .int .u32 0, .int .u32 0, .int .u32 0, .int .u32 0, .string (⟨#[]⟩ : ByteArray), .string (⟨#[]⟩ : ByteArray), .string (⟨#[]⟩ : ByteArray), .slice none 0 0]) ?_ 2 _ rfl; (with_reducible repeat (first | refine blk_drewN ?_ _ | refine blk_drew ?_ | refine blk_alloc ?_ _)); refine blk_put (cs := #[.int .u8 t391, .int .u8 0, .int .u8 0, .int .u8 0, .int .u32 0, .int .u16 0, .int .u16 0, .int .u32 0, .int .u32 0, .int .u32 0, .int .u32 0, .string (⟨#[]⟩ : ByteArray), .string (⟨#[]⟩ : ByteArray), .string (⟨#[]⟩ : ByteArray), .slice none 0 0]) ?_ 1 _ rfl; (with_reducible repeat (first | refine blk_drewN ?_ _ | refine blk_drew ?_ | refine blk_alloc ?_ _)); refine blk_put (cs := #[.int .u8 0, .int .u8 0, .int .u8 0, .int .u8 0, .int .u32 0, .int .u16 0, .int .u16 0, .int .u32 0, .int .u32 0, .int .u32 0, .int .u32 0, .string (⟨#[]⟩ : ByteArray), .string (⟨#[]⟩ : ByteArray), .string (⟨#[]⟩ : ByteArray), .slice none 0 0]) ?_ 0 _ rfl; (with_reducible repeat (first | refine blk_drewN ?_ _ | refine blk_drew ?_ | refine blk_alloc ?_ _)); exact BK409.out) hb); have n3_ := Aside0.mk (below_step (by repeat (first | (with_reducible first | exact HB.out | apply below_alloc | apply pw_below_drewN | apply below_drew1 | refine below_set ?_ GE387.out | refine below_set ?_ GE409.out) | exact HB.out)) hb); clear HO407; clear BK387; clear BK409; clear HB; have HO407 := n0_; have BK387 := n1_; have BK409 := n2_; have HB := n3_; clear n0_ n1_ n2_ n3_; (try clear hb); (try clear hb2); (try clear hk); (try clear hi)))
                go_meet
                case rel => exact ⟨_, H', ⟨by first | omega | exact Nat.le_refl _⟩, ⟨by (with_reducible repeat (first | refine blk_drewN ?_ _ | refine blk_drew ?_ | refine blk_alloc ?_ _)); exact BK387.out⟩, ⟨by repeat (first | (with_reducible first | exact HB.out | apply below_alloc | apply pw_below_drewN | apply below_drew1 | refine below_set ?_ GE387.out | refine below_set ?_ GE409.out) | exact HB.out)⟩⟩
          · replace c15 := Bool.eq_false_iff.mpr c15
            subst c15
            have H1 : (none) = some r := by rw [if_neg (show ¬ (false = true) by decide)] at H; exact H
            clear H
            have H := H1
            clear H1
            exact absurd H (by simp)
        · rw [if_neg c13] at H
          exact absurd H (by simp)
      · rw [if_neg c11] at H
        have c11b0 : (t390 == 0) = false := beq_eq_false_iff_ne.mpr c11
        have c11b1 : (t390 != 0) = true := bne_iff_ne.mpr c11
        (first | rw [c11b0] | (simp only [i64_w, i32_w]; rw [c11b0]) | skip)
        by_cases c25 : t389.toList = ([] : List UInt8)
        · rw [if_pos c25] at H
          have c25b0 : (t389.toList == ([] : List UInt8)) = true := beq_iff_eq.mpr c25
          have c25b1 : (t389.toList != ([] : List UInt8)) = false := bne_eq_false_iff_eq.mpr c25
          clear c25
          replace H := Option.bind_eq_some_iff.mp H
          obtain ⟨t411, A260, H⟩ := H
          replace H : (if ((t390 == 141) == t411) = true then (none) else (tenancylaw14_Wire4Back.j0 k a1)) = some r := H
          have A26 := Aside0.mk A260
          clear A260
          by_cases c27 : ((t390 == 141) == t411) = true
          · rw [if_pos c27] at H
            exact absurd H (by simp)
          · rw [if_neg c27] at H
            have c27b0 : ((t390 == 141) == t411) = false := by simpa using c27
            (try (have c27b1 : decide ((t390 == 141) = t411) = false := by simpa using c27))
            (try (have c27b2 : ((t390 == 141) == t411) = false := by simpa using c27))
            (try (have c27b3 : ¬ ((t390 == 141) = t411) := by simpa using c27))
            clear c27
            have H' := Aside0.mk H
            clear H
            obtain ⟨hcz28_0, hcz28_1, hcz28_2, hcz28_3, hcz28_4, hcz28_5, hcz28_6, hcz28_7, hcz28_8, hcz28_9, hcz28_10, hcz28_11, hcz28_12, hcz28_13, hcz28_14⟩ := XRun.bc15 BK387.out
            obtain ⟨hfz28_0, hfz28_1, hfz28_2, hfz28_3, hfz28_4, hfz28_5, hfz28_6, hfz28_7, hfz28_8, hfz28_9, hfz28_10, hfz28_11, hfz28_12, hfz28_13, hfz28_14⟩ := XRun.bf15 BK387.out
            go_wp2_with (first | (go_at_call 14; (with_reducible refine (wire4_Sound.calls k a0_0 a0_1 a0_2 a0_3 a0_4 a0_5 a0_6 a0_7 a0_8 a0_9 a0_10 a0_11 a0_12 a0_13 _ _ l0_14 t411 _ ?side1 ?side2 A26.out).mono ?_); (case side1 => repeat (first | exact (Kd.C_below HR0_14.out HB.out) | (with_reducible refine Kd.C_alloc ?_ _) | (with_reducible refine Kd.C_drewN ?_ _) | (with_reducible refine Kd.C_drew ?_))); (case side2 => exact HC0_14.out); rintro e w29 ⟨rfl, hb⟩; have n0_ := Aside0.mk (blk_below (g := gb387) (o := .cells #[.int .u8 a0_0, .int .u8 a0_1, .int .u8 a0_2, .int .u8 a0_3, .int .u32 a0_4, .int .u16 a0_5, .int .u16 a0_6, .int .u32 a0_7, .int .u32 a0_8, .int .u32 a0_9, .int .u32 a0_10, .string a0_11, .string a0_12, .string a0_13, .slice A0_14 l0_14.length c0_14] 26 (0, 0)) (by (with_reducible repeat (first | refine blk_drewN ?_ _ | refine blk_drew ?_ | refine blk_alloc ?_ _)); exact BK387.out) hb); have n1_ := Aside0.mk (below_step (by repeat (first | (with_reducible first | exact HB.out | apply below_alloc | apply pw_below_drewN | apply below_drew1 | refine below_set ?_ GE387.out) | exact HB.out)) hb); clear BK387; clear HB; have BK387 := n0_; have HB := n1_; clear n0_ n1_; (try clear hb); (try clear hb2); (try clear hk); (try clear hi)))
            go_meet
            case rel => exact ⟨_, H', ⟨by first | omega | exact Nat.le_refl _⟩, ⟨by (with_reducible repeat (first | refine blk_drewN ?_ _ | refine blk_drew ?_ | refine blk_alloc ?_ _)); exact BK387.out⟩, ⟨by repeat (first | (with_reducible first | exact HB.out | apply below_alloc | apply pw_below_drewN | apply below_drew1 | refine below_set ?_ GE387.out) | exact HB.out)⟩⟩
        · rw [if_neg c25] at H
          exact absurd H (by simp)
    case rest =>
      clear HC6
      try clear c1
      try clear c2
      try clear p2
      try clear c4
      try clear c5
      try clear c8
      try clear c11
      try clear c11b0
      try clear c11b1
      try clear c12
      try clear c13
      try clear c13b0
      try clear c13b1
      try clear c15
      try clear c16
      try clear c16b0
      try clear c16b1
      try clear c17
      try clear c17b0
      try clear c17b1
      try clear c20
      try clear c25
      try clear c25b0
      try clear c25b1
      try clear c27
      try clear c27b0
      try clear c27b1
      try clear c27b2
      try clear hcz21_0
      try clear hcz21_1
      try clear hcz21_10
      try clear hcz21_11
      try clear hcz21_12
      try clear hcz21_13
      try clear hcz21_14
      try clear hcz21_2
      try clear hcz21_3
      try clear hcz21_4
      try clear hcz21_5
      try clear hcz21_6
      try clear hcz21_7
      try clear hcz21_8
      try clear hcz21_9
      try clear hcz23_0
      try clear hcz23_1
      try clear hcz23_10
      try clear hcz23_11
      try clear hcz23_12
      try clear hcz23_13
      try clear hcz23_14
      try clear hcz23_2
      try clear hcz23_3
      try clear hcz23_4
      try clear hcz23_5
      try clear hcz23_6
      try clear hcz23_7
      try clear hcz23_8
      try clear hcz23_9
      try clear hcz28_0
      try clear hcz28_1
      try clear hcz28_10
      try clear hcz28_11
      try clear hcz28_12
      try clear hcz28_13
      try clear hcz28_14
      try clear hcz28_2
      try clear hcz28_3
      try clear hcz28_4
      try clear hcz28_5
      try clear hcz28_6
      try clear hcz28_7
      try clear hcz28_8
      try clear hcz28_9
      try clear hcz9_0
      try clear hcz9_1
      try clear hcz9_10
      try clear hcz9_11
      try clear hcz9_12
      try clear hcz9_13
      try clear hcz9_14
      try clear hcz9_2
      try clear hcz9_3
      try clear hcz9_4
      try clear hcz9_5
      try clear hcz9_6
      try clear hcz9_7
      try clear hcz9_8
      try clear hcz9_9
      try clear hfz21_0
      try clear hfz21_1
      try clear hfz21_10
      try clear hfz21_11
      try clear hfz21_12
      try clear hfz21_13
      try clear hfz21_14
      try clear hfz21_2
      try clear hfz21_3
      try clear hfz21_4
      try clear hfz21_5
      try clear hfz21_6
      try clear hfz21_7
      try clear hfz21_8
      try clear hfz21_9
      try clear hfz23_0
      try clear hfz23_1
      try clear hfz23_10
      try clear hfz23_11
      try clear hfz23_12
      try clear hfz23_13
      try clear hfz23_14
      try clear hfz23_2
      try clear hfz23_3
      try clear hfz23_4
      try clear hfz23_5
      try clear hfz23_6
      try clear hfz23_7
      try clear hfz23_8
      try clear hfz23_9
      try clear hfz28_0
      try clear hfz28_1
      try clear hfz28_10
      try clear hfz28_11
      try clear hfz28_12
      try clear hfz28_13
      try clear hfz28_14
      try clear hfz28_2
      try clear hfz28_3
      try clear hfz28_4
      try clear hfz28_5
      try clear hfz28_6
      try clear hfz28_7
      try clear hfz28_8
      try clear hfz28_9
      try clear hfz9_0
      try clear hfz9_1
      try clear hfz9_10
      try clear hfz9_11
      try clear hfz9_12
      try clear hfz9_13
      try clear hfz9_14
      try clear hfz9_2
      try clear hfz9_3
      try clear hfz9_4
      try clear hfz9_5
      try clear hfz9_6
      try clear hfz9_7
      try clear hfz9_8
      try clear hfz9_9
      obtain ⟨kq, HA, HJ5, BK387, HB⟩ := hcut
      have hi26 : (Try.prog.info? 26).map (·.size) = some 15 := by kernel_rfl
      cases kq with
      | zero => exact absurd HA.out (by simp [tenancylaw14_Wire4Back.j0])
      | succ kj5 =>
        have H := HA.out
        clear HA
        simp only [tenancylaw14_Wire4Back.j0] at H
        replace H := Option.bind_eq_some_iff.mp H
        obtain ⟨⟨t412, t413, t414, t415, t416, t417, t418, t419, t420, t421, t422, t423, t424, t425, t426, t429⟩, A300, H⟩ := H
        replace H : (if t429 = 0 then (if (a1.size : Int) > 65251 then (some true) else ((wire4_Encode.f kj5 t412 t413 t414 t415 t416 t417 t418 t419 t420 t421 t422 t423 t424 t425 t426).bind fun bt432 => ((wire4_Decode.f kj5 bt432.1).bind fun bt434 => (if bt432.2 = 0 then (if bt434.2.2.2.2.2.2.2.2.2.2.2.2.2.2.2 = 0 then ((tenancylaw14_same.f kj5 bt434.1 bt434.2.1 bt434.2.2.1 bt434.2.2.2.1 bt434.2.2.2.2.1 bt434.2.2.2.2.2.1 bt434.2.2.2.2.2.2.1 bt434.2.2.2.2.2.2.2.1 bt434.2.2.2.2.2.2.2.2.1 bt434.2.2.2.2.2.2.2.2.2.1 bt434.2.2.2.2.2.2.2.2.2.2.1 bt434.2.2.2.2.2.2.2.2.2.2.2.1 bt434.2.2.2.2.2.2.2.2.2.2.2.2.1 bt434.2.2.2.2.2.2.2.2.2.2.2.2.2.1 bt434.2.2.2.2.2.2.2.2.2.2.2.2.2.2.1 t412 t413 t414 t415 t416 t417 t418 t419 t420 t421 t422 t423 t424 t425 t426).bind fun t453 => (some t453)) else (none)) else (none))))) else ((tenancylaw14_same.f kj5 t412 t413 t414 t415 t416 t417 t418 t419 t420 t421 t422 t423 t424 t425 t426 0 0 0 0 0 0 0 0 0 0 0 (⟨#[]⟩ : ByteArray) (⟨#[]⟩ : ByteArray) (⟨#[]⟩ : ByteArray) ([] : List (S47))).bind fun t431 => (some t431))) = some r := H
        have A30 := Aside0.mk A300
        clear A300
        by_cases c31 : t429 = 0
        · rw [if_pos c31] at H
          have c31b0 : (t429 == 0) = true := beq_iff_eq.mpr c31
          have c31b1 : (t429 != 0) = false := bne_eq_false_iff_eq.mpr c31
          clear c31
          by_cases c32 : (a1.size : Int) > 65251
          · rw [if_pos c32] at H
            have c32b0 : decide (65251 < (a1.size : Int)) = true := decide_eq_true c32
            have c32b1 : decide (65251 < a1.size) = true := decide_eq_true (by omega)
            clear c32
            obtain rfl := Option.some.inj H
            go_wp2_with (first | (go_at_call 16; (with_reducible refine (wire4_Decode.calls kj5 a1 t412 t413 t414 t415 t416 t417 t418 t419 t420 t421 t422 t423 t424 t425 t426 t429 _ A30.out).mono ?_); rintro e wn ⟨vn, rfl, hor, hb⟩; obtain ⟨An, cn, rfl, hlc, hkc⟩ := Kd.R_reads hor; have HKn := Aside0.mk hkc; have HLn := Aside0.mk hlc; have HBn := Aside0.mk (below_step HB.out hb); clear hor hb hkc hlc) | ((with_reducible refine gate_dst (N := 9) rfl ?_); refine box_event ?hg (N := 9) ?hd (cs := #[.int .u8 0, .int .u8 0, .int .u8 0, .int .u8 0, .int .u32 0, .int .u16 0, .int .u16 0, .int .u32 0, .int .u32 0, .int .u32 0, .int .u32 0, .string (⟨#[]⟩ : ByteArray), .string (⟨#[]⟩ : ByteArray), .string (⟨#[]⟩ : ByteArray), .slice none 0 0]) (t := 26) ?hr ?_; (case hd => rfl); (case hg => rfl); (case hr => first | (go_simp; done) | (go_simp; rfl)); intro gn hgm wo hbox hb; have BAn := Aside0.mk hbox; have HOn := Aside0.mk hb; have GEn := Aside0.mk (by rw [hgm]; exact Nat.le_refl _ : wn.heap.size ≤ gn); clear hgm hbox hb) | ((with_reducible refine gate_store (p := 9) rfl ?_); refine XBox.storeL_ rfl rfl 26 rfl gn rfl #[.int .u8 0, .int .u8 0, .int .u8 0, .int .u8 0, .int .u32 0, .int .u16 0, .int .u16 0, .int .u32 0, .int .u32 0, .int .u32 0, .int .u32 0, .string (⟨#[]⟩ : ByteArray), .string (⟨#[]⟩ : ByteArray), .string (⟨#[]⟩ : ByteArray), .slice none 0 0] #[.int .u8 t412, .int .u8 t413, .int .u8 t414, .int .u8 t415, .int .u32 t416, .int .u16 t417, .int .u16 t418, .int .u32 t419, .int .u32 t420, .int .u32 t421, .int .u32 t422, .string t423, .string t424, .string t425, .slice An t426.length cn] rfl BAn.out hi26 (Eq.refl 15) (by simp [Value.oneCell']) ?_; intro wp hw1 hw2 hw3; have BNn := Aside0.mk hw1; have HPn := Aside0.mk (HOn.out.trans (hw2 _ GEn.out)); have HBp := Aside0.mk (below_step HBn.out HPn.out); clear hw1 hw2 hw3))
            go_ret
            exact ⟨rfl, HBp.out⟩
          · rw [if_neg c32] at H
            have c32b0 : decide (65251 < (a1.size : Int)) = false := decide_eq_false c32
            have c32b1 : decide (65251 < a1.size) = false := decide_eq_false (by omega)
            clear c32
            replace H := Option.bind_eq_some_iff.mp H
            obtain ⟨⟨t432, t433⟩, A380, H⟩ := H
            replace H : ((wire4_Decode.f kj5 t432).bind fun bt434 => (if t433 = 0 then (if bt434.2.2.2.2.2.2.2.2.2.2.2.2.2.2.2 = 0 then ((tenancylaw14_same.f kj5 bt434.1 bt434.2.1 bt434.2.2.1 bt434.2.2.2.1 bt434.2.2.2.2.1 bt434.2.2.2.2.2.1 bt434.2.2.2.2.2.2.1 bt434.2.2.2.2.2.2.2.1 bt434.2.2.2.2.2.2.2.2.1 bt434.2.2.2.2.2.2.2.2.2.1 bt434.2.2.2.2.2.2.2.2.2.2.1 bt434.2.2.2.2.2.2.2.2.2.2.2.1 bt434.2.2.2.2.2.2.2.2.2.2.2.2.1 bt434.2.2.2.2.2.2.2.2.2.2.2.2.2.1 bt434.2.2.2.2.2.2.2.2.2.2.2.2.2.2.1 t412 t413 t414 t415 t416 t417 t418 t419 t420 t421 t422 t423 t424 t425 t426).bind fun t453 => (some t453)) else (none)) else (none))) = some r := H
            have A38 := Aside0.mk A380
            clear A380
            replace H := Option.bind_eq_some_iff.mp H
            obtain ⟨⟨t434, t435, t436, t437, t438, t439, t440, t441, t442, t443, t444, t445, t446, t447, t448, t451⟩, A390, H⟩ := H
            replace H : (if t433 = 0 then (if t451 = 0 then ((tenancylaw14_same.f kj5 t434 t435 t436 t437 t438 t439 t440 t441 t442 t443 t444 t445 t446 t447 t448 t412 t413 t414 t415 t416 t417 t418 t419 t420 t421 t422 t423 t424 t425 t426).bind fun t453 => (some t453)) else (none)) else (none)) = some r := H
            have A39 := Aside0.mk A390
            clear A390
            by_cases c40 : t433 = 0
            · rw [if_pos c40] at H
              have c40b0 : (t433 == 0) = true := beq_iff_eq.mpr c40
              have c40b1 : (t433 != 0) = false := bne_eq_false_iff_eq.mpr c40
              clear c40
              by_cases c41 : t451 = 0
              · rw [if_pos c41] at H
                have c41b0 : (t451 == 0) = true := beq_iff_eq.mpr c41
                have c41b1 : (t451 != 0) = false := bne_eq_false_iff_eq.mpr c41
                clear c41
                replace H := Option.bind_eq_some_iff.mp H
                obtain ⟨t453, A420, H⟩ := H
                replace H : (some t453) = some r := H
                have A42 := Aside0.mk A420
                clear A420
                obtain rfl := Option.some.inj H
                go_wp2_with (first | (go_at_call 16; (with_reducible refine (wire4_Decode.calls kj5 a1 t412 t413 t414 t415 t416 t417 t418 t419 t420 t421 t422 t423 t424 t425 t426 t429 _ A30.out).mono ?_); rintro e wn ⟨vn, rfl, hor, hb⟩; obtain ⟨An, cn, rfl, hlc, hkc⟩ := Kd.R_reads hor; have HKn := Aside0.mk hkc; have HLn := Aside0.mk hlc; have HBn := Aside0.mk (below_step HB.out hb); clear hor hb hkc hlc) | ((with_reducible refine gate_dst (N := 9) rfl ?_); refine box_event ?hg (N := 9) ?hd (cs := #[.int .u8 0, .int .u8 0, .int .u8 0, .int .u8 0, .int .u32 0, .int .u16 0, .int .u16 0, .int .u32 0, .int .u32 0, .int .u32 0, .int .u32 0, .string (⟨#[]⟩ : ByteArray), .string (⟨#[]⟩ : ByteArray), .string (⟨#[]⟩ : ByteArray), .slice none 0 0]) (t := 26) ?hr ?_; (case hd => rfl); (case hg => rfl); (case hr => first | (go_simp; done) | (go_simp; rfl)); intro gn hgm wo hbox hb; have BAn := Aside0.mk hbox; have HOn := Aside0.mk hb; have GEn := Aside0.mk (by rw [hgm]; exact Nat.le_refl _ : wn.heap.size ≤ gn); clear hgm hbox hb) | ((with_reducible refine gate_store (p := 9) rfl ?_); refine XBox.storeL_ rfl rfl 26 rfl gn rfl #[.int .u8 0, .int .u8 0, .int .u8 0, .int .u8 0, .int .u32 0, .int .u16 0, .int .u16 0, .int .u32 0, .int .u32 0, .int .u32 0, .int .u32 0, .string (⟨#[]⟩ : ByteArray), .string (⟨#[]⟩ : ByteArray), .string (⟨#[]⟩ : ByteArray), .slice none 0 0] #[.int .u8 t412, .int .u8 t413, .int .u8 t414, .int .u8 t415, .int .u32 t416, .int .u16 t417, .int .u16 t418, .int .u32 t419, .int .u32 t420, .int .u32 t421, .int .u32 t422, .string t423, .string t424, .string t425, .slice An t426.length cn] rfl BAn.out hi26 (Eq.refl 15) (by simp [Value.oneCell']) ?_; intro wp hw1 hw2 hw3; have BNn := Aside0.mk hw1; have HPn := Aside0.mk (HOn.out.trans (hw2 _ GEn.out)); have HBp := Aside0.mk (below_step HBn.out HPn.out); clear hw1 hw2 hw3) | ((with_reducible refine gate_dst (N := 67) rfl ?_); refine XBox.loadL_ 67 rfl rfl 26 rfl gn rfl #[.int .u8 t412, .int .u8 t413, .int .u8 t414, .int .u8 t415, .int .u32 t416, .int .u16 t417, .int .u16 t418, .int .u32 t419, .int .u32 t420, .int .u32 t421, .int .u32 t422, .string t423, .string t424, .string t425, .slice An t426.length cn] BNn.out hu26 rfl hi26 ?_; simp only [Act.put, List.setIfInBounds_toArray, List.set_cons_zero, List.set_cons_succ]) | (go_at_call 12; refine (wire4_Encode.calls kj5 t412 t413 t414 t415 t416 t417 t418 t419 t420 t421 t422 t423 t424 t425 An cn t426 t432 t433 _ (Kd.C_below HKn.out HPn.out) HLn.out A38.out).mono ?_; rintro e wq ⟨rfl, hb⟩; have HPq := Aside0.mk (below_step HPn.out hb); have BNq := Aside0.mk (blk_below BNn.out hb); have HBq := Aside0.mk (below_step HBp.out hb); clear hb) | (go_at_call 16; (with_reducible refine (wire4_Decode.calls kj5 t432 t434 t435 t436 t437 t438 t439 t440 t441 t442 t443 t444 t445 t446 t447 t448 t451 _ A39.out).mono ?_); rintro e wg ⟨vg, rfl, hor, hb⟩; obtain ⟨Ag, cg, rfl, hlc, hkc⟩ := Kd.R_reads hor; have HKg := Aside0.mk hkc; have HLg := Aside0.mk hlc; have HBg := Aside0.mk (below_step HBq.out hb); have HPr := Aside0.mk (below_step HPq.out hb); have BNr := Aside0.mk (blk_below BNq.out hb); clear hor hb hkc hlc) | ((with_reducible refine gate_dst (N := 10) rfl ?_); refine box_event ?hg (N := 10) ?hd (cs := #[.int .u8 0, .int .u8 0, .int .u8 0, .int .u8 0, .int .u32 0, .int .u16 0, .int .u16 0, .int .u32 0, .int .u32 0, .int .u32 0, .int .u32 0, .string (⟨#[]⟩ : ByteArray), .string (⟨#[]⟩ : ByteArray), .string (⟨#[]⟩ : ByteArray), .slice none 0 0]) (t := 26) ?hr ?_; (case hd => rfl); (case hg => rfl); (case hr => first | (go_simp; done) | (go_simp; rfl)); intro gk hgm wh hbox hb; have BAg := Aside0.mk hbox; have HOg := Aside0.mk hb; have GEg := Aside0.mk (by rw [hgm]; exact Nat.le_refl _ : wg.heap.size ≤ gk); clear hgm hbox hb) | ((with_reducible refine gate_store (p := 10) rfl ?_); refine XBox.storeL_ rfl rfl 26 rfl gk rfl #[.int .u8 0, .int .u8 0, .int .u8 0, .int .u8 0, .int .u32 0, .int .u16 0, .int .u16 0, .int .u32 0, .int .u32 0, .int .u32 0, .int .u32 0, .string (⟨#[]⟩ : ByteArray), .string (⟨#[]⟩ : ByteArray), .string (⟨#[]⟩ : ByteArray), .slice none 0 0] #[.int .u8 t434, .int .u8 t435, .int .u8 t436, .int .u8 t437, .int .u32 t438, .int .u16 t439, .int .u16 t440, .int .u32 t441, .int .u32 t442, .int .u32 t443, .int .u32 t444, .string t445, .string t446, .string t447, .slice Ag t448.length cg] rfl BAg.out hi26 (Eq.refl 15) (by simp [Value.oneCell']) ?_; intro wi hw1 hw2 hw3; have BNg := Aside0.mk hw1; have HPg := Aside0.mk (HOg.out.trans (hw2 _ GEg.out)); have HBs := Aside0.mk (below_step HBg.out HPg.out); have HPs := Aside0.mk (below_step HPr.out HPg.out); have BNs := Aside0.mk (blk_below BNr.out HPg.out); clear hw1 hw2 hw3) | ((with_reducible refine gate_dst (N := 83) rfl ?_); (try (refine gate_guard (by rfl) ?_; dsimp only)); refine XBox.loadL_ 83 rfl rfl 26 rfl gk rfl #[.int .u8 t434, .int .u8 t435, .int .u8 t436, .int .u8 t437, .int .u32 t438, .int .u16 t439, .int .u16 t440, .int .u32 t441, .int .u32 t442, .int .u32 t443, .int .u32 t444, .string t445, .string t446, .string t447, .slice Ag t448.length cg] BNg.out hu26 rfl hi26 ?_; simp only [Act.put, List.setIfInBounds_toArray, List.set_cons_zero, List.set_cons_succ]) | ((with_reducible refine gate_dst (N := 84) rfl ?_); (try (refine gate_guard (by rfl) ?_; dsimp only)); refine XBox.loadL_ 84 rfl rfl 26 rfl gn rfl #[.int .u8 t412, .int .u8 t413, .int .u8 t414, .int .u8 t415, .int .u32 t416, .int .u16 t417, .int .u16 t418, .int .u32 t419, .int .u32 t420, .int .u32 t421, .int .u32 t422, .string t423, .string t424, .string t425, .slice An t426.length cn] BNs.out hu26 rfl hi26 ?_; simp only [Act.put, List.setIfInBounds_toArray, List.set_cons_zero, List.set_cons_succ]) | (go_at_call 9; refine (tenancylaw14_same.calls kj5 t434 t435 t436 t437 t438 t439 t440 t441 t442 t443 t444 t445 t446 t447 Ag cg t448 t412 t413 t414 t415 t416 t417 t418 t419 t420 t421 t422 t423 t424 t425 An cn t426 t453 _ (Kd.C_below HKg.out HPg.out) HLg.out (Kd.C_below HKn.out HPs.out) HLn.out A42.out).mono ?_; rintro e wz ⟨rfl, hb⟩; have HBz := Aside0.mk (below_step HBs.out hb); clear hb))
                go_ret
                exact ⟨rfl, HBz.out⟩
              · rw [if_neg c41] at H
                exact absurd H (by simp)
            · rw [if_neg c40] at H
              exact absurd H (by simp)
        · rw [if_neg c31] at H
          have c31b0 : (t429 == 0) = false := beq_eq_false_iff_ne.mpr c31
          have c31b1 : (t429 != 0) = true := bne_iff_ne.mpr c31
          replace H := Option.bind_eq_some_iff.mp H
          obtain ⟨t431, A570, H⟩ := H
          replace H : (some t431) = some r := H
          have A57 := Aside0.mk A570
          clear A570
          obtain rfl := Option.some.inj H
          go_wp2_with (first | (go_at_call 16; (with_reducible refine (wire4_Decode.calls kj5 a1 t412 t413 t414 t415 t416 t417 t418 t419 t420 t421 t422 t423 t424 t425 t426 t429 _ A30.out).mono ?_); rintro e wn ⟨vn, rfl, hor, hb⟩; obtain ⟨An, cn, rfl, hlc, hkc⟩ := Kd.R_reads hor; have HKn := Aside0.mk hkc; have HLn := Aside0.mk hlc; have HBn := Aside0.mk (below_step HB.out hb); clear hor hb hkc hlc) | ((with_reducible refine gate_dst (N := 9) rfl ?_); refine box_event ?hg (N := 9) ?hd (cs := #[.int .u8 0, .int .u8 0, .int .u8 0, .int .u8 0, .int .u32 0, .int .u16 0, .int .u16 0, .int .u32 0, .int .u32 0, .int .u32 0, .int .u32 0, .string (⟨#[]⟩ : ByteArray), .string (⟨#[]⟩ : ByteArray), .string (⟨#[]⟩ : ByteArray), .slice none 0 0]) (t := 26) ?hr ?_; (case hd => rfl); (case hg => rfl); (case hr => first | (go_simp; done) | (go_simp; rfl)); intro gn hgm wo hbox hb; have BAn := Aside0.mk hbox; have HOn := Aside0.mk hb; have GEn := Aside0.mk (by rw [hgm]; exact Nat.le_refl _ : wn.heap.size ≤ gn); clear hgm hbox hb) | ((with_reducible refine gate_store (p := 9) rfl ?_); refine XBox.storeL_ rfl rfl 26 rfl gn rfl #[.int .u8 0, .int .u8 0, .int .u8 0, .int .u8 0, .int .u32 0, .int .u16 0, .int .u16 0, .int .u32 0, .int .u32 0, .int .u32 0, .int .u32 0, .string (⟨#[]⟩ : ByteArray), .string (⟨#[]⟩ : ByteArray), .string (⟨#[]⟩ : ByteArray), .slice none 0 0] #[.int .u8 t412, .int .u8 t413, .int .u8 t414, .int .u8 t415, .int .u32 t416, .int .u16 t417, .int .u16 t418, .int .u32 t419, .int .u32 t420, .int .u32 t421, .int .u32 t422, .string t423, .string t424, .string t425, .slice An t426.length cn] rfl BAn.out hi26 (Eq.refl 15) (by simp [Value.oneCell']) ?_; intro wp hw1 hw2 hw3; have BNn := Aside0.mk hw1; have HPn := Aside0.mk (HOn.out.trans (hw2 _ GEn.out)); have HBp := Aside0.mk (below_step HBn.out HPn.out); clear hw1 hw2 hw3) | ((with_reducible refine gate_dst (N := 60) rfl ?_); refine XBox.loadL_ 60 rfl rfl 26 rfl gn rfl #[.int .u8 t412, .int .u8 t413, .int .u8 t414, .int .u8 t415, .int .u32 t416, .int .u16 t417, .int .u16 t418, .int .u32 t419, .int .u32 t420, .int .u32 t421, .int .u32 t422, .string t423, .string t424, .string t425, .slice An t426.length cn] BNn.out hu26 rfl hi26 ?_; simp only [Act.put, List.setIfInBounds_toArray, List.set_cons_zero, List.set_cons_succ]) | (go_at_call 9; refine (tenancylaw14_same.calls kj5 t412 t413 t414 t415 t416 t417 t418 t419 t420 t421 t422 t423 t424 t425 An cn t426 0 0 0 0 0 0 0 0 0 0 0 (⟨#[]⟩ : ByteArray) (⟨#[]⟩ : ByteArray) (⟨#[]⟩ : ByteArray) none 0 [] t431 _ (Kd.C_below HKn.out HPn.out) HLn.out (Kd.C_nil _ _) (Nat.le_refl _) A57.out).mono ?_; rintro e wz ⟨rfl, hb⟩; have HBz := Aside0.mk (below_step HBp.out hb); clear hb))
          go_ret
          exact ⟨rfl, HBz.out⟩
  · replace c4 := Bool.eq_false_iff.mpr c4
    subst c4
    have H1 : (none) = some r := by rw [if_neg (show ¬ (false = true) by decide)] at H; exact H
    clear H
    have H := H1
    clear H1
    exact absurd H (by simp)

/-- The one plain statement of tenancylaw14_Wire4Back. -/
def tenancylaw14_Wire4Back.Pure : Prop := ∀ (x0 : S26) (a1 : ByteArray), (wf26 x0) → (a1.size ≤ 140737488351232) → ∃ k, tenancylaw14_Wire4Back.f k (x0.f0) (x0.f1) (x0.f2) (x0.f3) (x0.f4) (x0.f5) (x0.f6) (x0.f7) (x0.f8) (x0.f9) (x0.f10) (x0.f11) (x0.f12) (x0.f13) (x0.f14) a1 = some true

-- NOT PRINTED: function 6 (tenancylaw14_Wire4Overload)

-- NOT PRINTED: function 7 (tenancylaw14_Wire4Short)

end Go.Proofs.Ytdhmlenmnobmfaa.X
