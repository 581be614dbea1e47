/- Functions of the program as Lean functions, and that the calls come to them: no condition.  By this session's own program (wip/xprint). -/
import Derived.Test.YtngojiikkokajaaG0
import Derived.Test.YtngojiikkokajaaG2
import Derived.Test.YtngojiikkokajaaG3
import Derived.Test.YtngojiikkokajaaG4
import Derived.Test.YtngojiikkokajaaG5
namespace Go.Proofs.Ytngojiikkokajaa.X
open Go.RowKit Go.Proofs.YtngojiikkokajaaW.PrintWords Go.Proofs.YtngojiikkokajaaW.PrintLast Go.Proofs.YtngojiikkokajaaW.PrintMore
attribute [local go_sem] max2_int min2_int max_two min_two max_three min_three max_four min_four   -- for this text's walks alone
set_option linter.unusedVariables false
set_option linter.unusedSimpArgs false
/-! ### tenancylaw15_Opt6Ignores: function 8 -/
mutual
def tenancylaw15_Opt6Ignores.j0 : Nat → Int → Bool → Int → Int → Int → Int → List (S76) → Int → Int → ByteArray → Int → ByteArray → Option (Bool)
  | 0, _, _, _, _, _, _, _, _, _, _, _, _ => none
  | k + 1, x2, x44, x508000, x508001, x508002, x508003, x508004, x508005, x509000, x509001, x514000, x514001 => if x44 = true then (some true) else (if x508000 = 3 then (tenancylaw15_Opt6Ignores.j1 k x2 4 x508000 x508001 x508002 x508003 x508004 x508005 x509000 x509001 x514000 x514001) else (tenancylaw15_Opt6Ignores.j1 k x2 12 x508000 x508001 x508002 x508003 x508004 x508005 x509000 x509001 x514000 x514001))
def tenancylaw15_Opt6Ignores.j1 : Nat → Int → Int → Int → Int → Int → Int → List (S76) → Int → Int → ByteArray → Int → ByteArray → Option (Bool)
  | 0, _, _, _, _, _, _, _, _, _, _, _, _ => none
  | k + 1, x2, x9, x508000, x508001, x508002, x508003, x508004, x508005, x509000, x509001, x514000, x514001 => if 0 ≤ x9 then (if x9 ≤ (x514001.size : Int) then ((opt6_Parse.f k (x514001.extract (x9 : Int).toNat x514001.size)).bind fun bt514 => (if bt514.2 = 0 then (if (IntKind.u64.wrap (wrap64 ((bt514.1.length : Int) + 1))) = 0 then (none) else (if 0 ≤ (wrap64 ((bt514.1.length : Int) + 2)) then (if (wrap64 ((bt514.1.length : Int) + 2) : Int).toNat ≤ 11728124029610 then ((some (([] : List (S40)) : List (S40))).bind fun y518 => (if 0 ≤ (wrap64 (Int.tmod (IntKind.u64.wrap (x2)) (IntKind.u64.wrap (wrap64 ((bt514.1.length : Int) + 1))))) then (if (wrap64 (Int.tmod (IntKind.u64.wrap (x2)) (IntKind.u64.wrap (wrap64 ((bt514.1.length : Int) + 1))))) ≤ (bt514.1.length : Int) then ((some (bt514.1.take ((wrap64 (Int.tmod (IntKind.u64.wrap (x2)) (IntKind.u64.wrap (wrap64 ((bt514.1.length : Int) + 1))))) : Int).toNat : List (S40))).bind fun y521 => (if y518.length + y521.length < 5864062014805 then ((some (y518 ++ y521 : List (S40))).bind fun y525 => (if y525.length < 5864062014805 then ((some (y525 ++ [(⟨x509000, x509001⟩ : S40)] : List (S40))).bind fun y528 => ((some (bt514.1.drop ((wrap64 (Int.tmod (IntKind.u64.wrap (x2)) (IntKind.u64.wrap (wrap64 ((bt514.1.length : Int) + 1))))) : Int).toNat : List (S40))).bind fun y531 => (if y528.length + y531.length < 5864062014805 then ((some (y528 ++ y531 : List (S40))).bind fun y535 => (if x508005 ≥ 0 then (if y535.length < 5864062014805 then (tenancylaw15_Opt6Ignores.j2 k x9 (y535 ++ [(⟨13, (⟨#[0, 9, 116, 101, 120, 116]⟩ : ByteArray)⟩ : S40)]) x508000 x508001 x508002 x508003 x508004 x508005 x514000 x514001) else (none)) else (tenancylaw15_Opt6Ignores.j2 k x9 y535 x508000 x508001 x508002 x508003 x508004 x508005 x514000 x514001))) else (none)))) else (none))) else (none))) else (none)) else (none))) else (none)) else (none))) else (none))) else (none)) else (none)
def tenancylaw15_Opt6Ignores.j2 : Nat → Int → List (S40) → Int → Int → Int → Int → List (S76) → Int → Int → ByteArray → Option (Bool)
  | 0, _, _, _, _, _, _, _, _, _, _ => none
  | k + 1, x9, x12, x508000, x508001, x508002, x508003, x508004, x508005, x514000, x514001 => (opt6_Emit.f x12).bind fun bt541 => (if bt541.2 = 0 then (if 0 ≤ x9 then (if x9 ≤ (x514001.size : Int) then (if (x514001.extract 0 (x9 : Int).toNat).size + bt541.1.size ≤ 9223372036854775807 then ((opt6_GetIA.f x514000 ((x514001.extract 0 (x9 : Int).toNat) ++ bt541.1)).bind fun bt543 => (if bt543.2.2.2.2.2.2 = 0 then ((tenancylaw15_ias.f k x508000 x508001 x508002 x508003 x508004 x508005 bt543.1 bt543.2.1 bt543.2.2.1 bt543.2.2.2.1 bt543.2.2.2.2.1 bt543.2.2.2.2.2.1).bind fun t553 => (some t553)) else (none))) else (none)) else (none)) else (none)) else (none))
end
def tenancylaw15_Opt6Ignores.f (k : Nat) (a0_0 : Int) (a0_1 : Int) (a0_2 : Int) (a0_3 : Int) (l0_4 : List (S76)) (a0_5 : Int) (a1_0 : Int) (a1_1 : ByteArray) (a2 : Int) : Option (Bool) := (tenancylaw15_awake.f k).bind fun t509 => (if t509 = true then ((opt6_PutIA.f a0_0 a0_1 a0_2 a0_3 l0_4 a0_5).bind fun bt510 => (if bt510.2.2 = 0 then (if a1_0 = 5 then (tenancylaw15_Opt6Ignores.j0 k a2 true a0_0 a0_1 a0_2 a0_3 l0_4 a0_5 a1_0 a1_1 bt510.1 bt510.2.1) else (if a1_0 = 26 then (tenancylaw15_Opt6Ignores.j0 k a2 true a0_0 a0_1 a0_2 a0_3 l0_4 a0_5 a1_0 a1_1 bt510.1 bt510.2.1) else (if a1_0 = 13 then (tenancylaw15_Opt6Ignores.j0 k a2 true a0_0 a0_1 a0_2 a0_3 l0_4 a0_5 a1_0 a1_1 bt510.1 bt510.2.1) else (tenancylaw15_Opt6Ignores.j0 k a2 (decide ((a1_1.size : Int) > 1000)) a0_0 a0_1 a0_2 a0_3 l0_4 a0_5 a1_0 a1_1 bt510.1 bt510.2.1)))) else (tenancylaw15_Opt6Ignores.j0 k a2 true a0_0 a0_1 a0_2 a0_3 l0_4 a0_5 a1_0 a1_1 bt510.1 bt510.2.1))) else (none))
theorem tenancylaw15_Opt6Ignores.mono_l : ∀ k, (∀ y0 y1 y2 y3 y4 y5 y6 y7 y8 y9 y10 y11, LeO (tenancylaw15_Opt6Ignores.j0 k y0 y1 y2 y3 y4 y5 y6 y7 y8 y9 y10 y11) (tenancylaw15_Opt6Ignores.j0 (k + 1) y0 y1 y2 y3 y4 y5 y6 y7 y8 y9 y10 y11)) ∧ (∀ y0 y1 y2 y3 y4 y5 y6 y7 y8 y9 y10 y11, LeO (tenancylaw15_Opt6Ignores.j1 k y0 y1 y2 y3 y4 y5 y6 y7 y8 y9 y10 y11) (tenancylaw15_Opt6Ignores.j1 (k + 1) y0 y1 y2 y3 y4 y5 y6 y7 y8 y9 y10 y11)) ∧ (∀ y0 y1 y2 y3 y4 y5 y6 y7 y8 y9, LeO (tenancylaw15_Opt6Ignores.j2 k y0 y1 y2 y3 y4 y5 y6 y7 y8 y9) (tenancylaw15_Opt6Ignores.j2 (k + 1) y0 y1 y2 y3 y4 y5 y6 y7 y8 y9))
  | 0 => ⟨fun _ _ _ _ _ _ _ _ _ _ _ _ r h => by simp [tenancylaw15_Opt6Ignores.j0] at h, fun _ _ _ _ _ _ _ _ _ _ _ _ r h => by simp [tenancylaw15_Opt6Ignores.j1] at h, fun _ _ _ _ _ _ _ _ _ _ r h => by simp [tenancylaw15_Opt6Ignores.j2] at h⟩
  | k + 1 => by
    obtain ⟨ih0, ih1, ih2⟩ := tenancylaw15_Opt6Ignores.mono_l k
    refine ⟨?_, ?_, ?_⟩
    · intro y0 y1 y2 y3 y4 y5 y6 y7 y8 y9 y10 y11
      unfold tenancylaw15_Opt6Ignores.j0
      repeat' first
      | (with_reducible exact ih0 _ _ _ _ _ _ _ _ _ _ _ _)
      | (with_reducible exact ih1 _ _ _ _ _ _ _ _ _ _ _ _)
      | (with_reducible exact ih2 _ _ _ _ _ _ _ _ _ _)
      | (with_reducible exact opt6_Parse.mono _ _)
      | (with_reducible exact tenancylaw15_awake.mono _)
      | (with_reducible exact tenancylaw15_ias.mono _ _ _ _ _ _ _ _ _ _ _ _ _)
      | (with_reducible exact LeO.refl _)
      | (with_reducible exact LeO.none _)
      | (with_reducible refine LeO.ite ?_ ?_)
      | (with_reducible refine LeO.bind ?_ (fun _ => ?_))
      | exact ih0 _ _ _ _ _ _ _ _ _ _ _ _
      | exact ih1 _ _ _ _ _ _ _ _ _ _ _ _
      | exact ih2 _ _ _ _ _ _ _ _ _ _
      | exact opt6_Parse.mono _ _
      | exact tenancylaw15_awake.mono _
      | exact tenancylaw15_ias.mono _ _ _ _ _ _ _ _ _ _ _ _ _
      | exact LeO.none _
      | refine LeO.ite ?_ ?_
      | refine LeO.bind ?_ (fun _ => ?_)
    · intro y0 y1 y2 y3 y4 y5 y6 y7 y8 y9 y10 y11
      unfold tenancylaw15_Opt6Ignores.j1
      repeat' first
      | (with_reducible exact ih0 _ _ _ _ _ _ _ _ _ _ _ _)
      | (with_reducible exact ih1 _ _ _ _ _ _ _ _ _ _ _ _)
      | (with_reducible exact ih2 _ _ _ _ _ _ _ _ _ _)
      | (with_reducible exact opt6_Parse.mono _ _)
      | (with_reducible exact tenancylaw15_awake.mono _)
      | (with_reducible exact tenancylaw15_ias.mono _ _ _ _ _ _ _ _ _ _ _ _ _)
      | (with_reducible exact LeO.refl _)
      | (with_reducible exact LeO.none _)
      | (with_reducible refine LeO.ite ?_ ?_)
      | (with_reducible refine LeO.bind ?_ (fun _ => ?_))
      | exact ih0 _ _ _ _ _ _ _ _ _ _ _ _
      | exact ih1 _ _ _ _ _ _ _ _ _ _ _ _
      | exact ih2 _ _ _ _ _ _ _ _ _ _
      | exact opt6_Parse.mono _ _
      | exact tenancylaw15_awake.mono _
      | exact tenancylaw15_ias.mono _ _ _ _ _ _ _ _ _ _ _ _ _
      | exact LeO.none _
      | refine LeO.ite ?_ ?_
      | refine LeO.bind ?_ (fun _ => ?_)
    · intro y0 y1 y2 y3 y4 y5 y6 y7 y8 y9
      unfold tenancylaw15_Opt6Ignores.j2
      repeat' first
      | (with_reducible exact ih0 _ _ _ _ _ _ _ _ _ _ _ _)
      | (with_reducible exact ih1 _ _ _ _ _ _ _ _ _ _ _ _)
      | (with_reducible exact ih2 _ _ _ _ _ _ _ _ _ _)
      | (with_reducible exact opt6_Parse.mono _ _)
      | (with_reducible exact tenancylaw15_awake.mono _)
      | (with_reducible exact tenancylaw15_ias.mono _ _ _ _ _ _ _ _ _ _ _ _ _)
      | (with_reducible exact LeO.refl _)
      | (with_reducible exact LeO.none _)
      | (with_reducible refine LeO.ite ?_ ?_)
      | (with_reducible refine LeO.bind ?_ (fun _ => ?_))
      | exact ih0 _ _ _ _ _ _ _ _ _ _ _ _
      | exact ih1 _ _ _ _ _ _ _ _ _ _ _ _
      | exact ih2 _ _ _ _ _ _ _ _ _ _
      | exact opt6_Parse.mono _ _
      | exact tenancylaw15_awake.mono _
      | exact tenancylaw15_ias.mono _ _ _ _ _ _ _ _ _ _ _ _ _
      | exact LeO.none _
      | refine LeO.ite ?_ ?_
      | refine LeO.bind ?_ (fun _ => ?_)
theorem tenancylaw15_Opt6Ignores.mono : ∀ a0 a1 a2 a3 a4 a5 a6 a7 a8 k, LeO (tenancylaw15_Opt6Ignores.f k a0 a1 a2 a3 a4 a5 a6 a7 a8) (tenancylaw15_Opt6Ignores.f (k + 1) a0 a1 a2 a3 a4 a5 a6 a7 a8) := by
  intro a0 a1 a2 a3 a4 a5 a6 a7 a8 k
  obtain ⟨ih0, ih1, ih2⟩ := tenancylaw15_Opt6Ignores.mono_l k
  unfold tenancylaw15_Opt6Ignores.f
  repeat' first
      | (with_reducible exact ih0 _ _ _ _ _ _ _ _ _ _ _ _)
      | (with_reducible exact ih1 _ _ _ _ _ _ _ _ _ _ _ _)
      | (with_reducible exact ih2 _ _ _ _ _ _ _ _ _ _)
      | (with_reducible exact opt6_Parse.mono _ _)
      | (with_reducible exact tenancylaw15_awake.mono _)
      | (with_reducible exact tenancylaw15_ias.mono _ _ _ _ _ _ _ _ _ _ _ _ _)
      | (with_reducible exact LeO.refl _)
      | (with_reducible exact LeO.none _)
      | (with_reducible refine LeO.ite ?_ ?_)
      | (with_reducible refine LeO.bind ?_ (fun _ => ?_))
      | exact ih0 _ _ _ _ _ _ _ _ _ _ _ _
      | exact ih1 _ _ _ _ _ _ _ _ _ _ _ _
      | exact ih2 _ _ _ _ _ _ _ _ _ _
      | exact opt6_Parse.mono _ _
      | exact tenancylaw15_awake.mono _
      | exact tenancylaw15_ias.mono _ _ _ _ _ _ _ _ _ _ _ _ _
      | exact LeO.none _
      | refine LeO.ite ?_ ?_
      | refine LeO.bind ?_ (fun _ => ?_)
def tenancylaw15_Opt6Ignores.T22 : Bool × List (List Nat × List Nat) := (true, [([], []), ([0], [0]), ([], []), ([2], [2]), ([], []), ([3, 4], [3, 4]), ([], []), ([5, 6], [5, 6]), ([1, 7], [1, 7]), ([8], [8]), ([9], [9]), ([10], [10]), ([10], [10]), ([], []), ([13, 11, 9, 0, 1, 2, 3, 4, 5, 6, 7, 8, 9, 10, 11, 13], [11, 13]), ([12, 14, 0, 1, 2, 3, 4, 5, 6, 7, 8, 9, 10, 11, 12, 13, 14], [12])])
def tenancylaw15_Opt6Ignores.B22 : List Nat := [0, 1, 0, 4, 0, 28, 0, 124, 255, 511, 1023, 2047, 2047, 0, 12287, 32767]
theorem tenancylaw15_Opt6Ignores.tab22 : rtab .any (opsOf Try.f8 22) = tenancylaw15_Opt6Ignores.T22 := by kernel_rfl
theorem tenancylaw15_Opt6Ignores.bits22 : waitsOk tenancylaw15_Opt6Ignores.T22.2 tenancylaw15_Opt6Ignores.B22 = true := by kernel_rfl
set_option maxHeartbeats 8000000 in
set_option maxRecDepth 100000 in
theorem tenancylaw15_Opt6Ignores.calls (k : Nat) (a0_0 : Int) (a0_1 : Int) (a0_2 : Int) (a0_3 : Int) (A0_4 : Option Addr) (c0_4 : Nat) (l0_4 : List (S76)) (a0_5 : Int) (a1_0 : Int) (a1_1 : ByteArray) (a2 : Int) (r : Bool) (w : World) (hr0_4 : Kd.C k76 w A0_4 l0_4.length l0_4) (hc0_4 : l0_4.length ≤ c0_4) (h : tenancylaw15_Opt6Ignores.f k a0_0 a0_1 a0_2 a0_3 l0_4 a0_5 a1_0 a1_1 a2 = some r) :
    Calls Try.prog 8 #[.agg #[.int .i64 a0_0, .int .u32 a0_1, .int .u32 a0_2, .int .u32 a0_3, .slice A0_4 l0_4.length c0_4, .int .i64 a0_5], .agg #[.int .u16 a1_0, .string a1_1], .int .i64 a2] w fun e w' => e = .returned (.bool r) ∧ Below w.heap.size w w' := by
  have hu37 := Try.underlying37
  have hu40 := Try.underlying40
  have HR0_4 := Aside0.mk hr0_4
  have HC0_4 := Aside0.mk hc0_4
  clear hr0_4 hc0_4
  have HB := Aside0.mk (Below.refl w.heap.size w)
  have H : ((tenancylaw15_awake.f k).bind fun t509 => (if t509 = true then ((opt6_PutIA.f a0_0 a0_1 a0_2 a0_3 l0_4 a0_5).bind fun bt510 => (if bt510.2.2 = 0 then (if a1_0 = 5 then (tenancylaw15_Opt6Ignores.j0 k a2 true a0_0 a0_1 a0_2 a0_3 l0_4 a0_5 a1_0 a1_1 bt510.1 bt510.2.1) else (if a1_0 = 26 then (tenancylaw15_Opt6Ignores.j0 k a2 true a0_0 a0_1 a0_2 a0_3 l0_4 a0_5 a1_0 a1_1 bt510.1 bt510.2.1) else (if a1_0 = 13 then (tenancylaw15_Opt6Ignores.j0 k a2 true a0_0 a0_1 a0_2 a0_3 l0_4 a0_5 a1_0 a1_1 bt510.1 bt510.2.1) else (tenancylaw15_Opt6Ignores.j0 k a2 (decide ((a1_1.size : Int) > 1000)) a0_0 a0_1 a0_2 a0_3 l0_4 a0_5 a1_0 a1_1 bt510.1 bt510.2.1)))) else (tenancylaw15_Opt6Ignores.j0 k a2 true a0_0 a0_1 a0_2 a0_3 l0_4 a0_5 a1_0 a1_1 bt510.1 bt510.2.1))) else (none))) = some r := h
  clear h
  replace H := Option.bind_eq_some_iff.mp H
  obtain ⟨t509, A40, H⟩ := H
  replace H : (if t509 = true then ((opt6_PutIA.f a0_0 a0_1 a0_2 a0_3 l0_4 a0_5).bind fun bt510 => (if bt510.2.2 = 0 then (if a1_0 = 5 then (tenancylaw15_Opt6Ignores.j0 k a2 true a0_0 a0_1 a0_2 a0_3 l0_4 a0_5 a1_0 a1_1 bt510.1 bt510.2.1) else (if a1_0 = 26 then (tenancylaw15_Opt6Ignores.j0 k a2 true a0_0 a0_1 a0_2 a0_3 l0_4 a0_5 a1_0 a1_1 bt510.1 bt510.2.1) else (if a1_0 = 13 then (tenancylaw15_Opt6Ignores.j0 k a2 true a0_0 a0_1 a0_2 a0_3 l0_4 a0_5 a1_0 a1_1 bt510.1 bt510.2.1) else (tenancylaw15_Opt6Ignores.j0 k a2 (decide ((a1_1.size : Int) > 1000)) a0_0 a0_1 a0_2 a0_3 l0_4 a0_5 a1_0 a1_1 bt510.1 bt510.2.1)))) else (tenancylaw15_Opt6Ignores.j0 k a2 true a0_0 a0_1 a0_2 a0_3 l0_4 a0_5 a1_0 a1_1 bt510.1 bt510.2.1))) else (none)) = some r := H
  have A4 := Aside0.mk A40
  clear A40
  by_cases c5 : t509 = true
  · subst c5
    have H1 : ((opt6_PutIA.f a0_0 a0_1 a0_2 a0_3 l0_4 a0_5).bind fun bt510 => (if bt510.2.2 = 0 then (if a1_0 = 5 then (tenancylaw15_Opt6Ignores.j0 k a2 true a0_0 a0_1 a0_2 a0_3 l0_4 a0_5 a1_0 a1_1 bt510.1 bt510.2.1) else (if a1_0 = 26 then (tenancylaw15_Opt6Ignores.j0 k a2 true a0_0 a0_1 a0_2 a0_3 l0_4 a0_5 a1_0 a1_1 bt510.1 bt510.2.1) else (if a1_0 = 13 then (tenancylaw15_Opt6Ignores.j0 k a2 true a0_0 a0_1 a0_2 a0_3 l0_4 a0_5 a1_0 a1_1 bt510.1 bt510.2.1) else (tenancylaw15_Opt6Ignores.j0 k a2 (decide ((a1_1.size : Int) > 1000)) a0_0 a0_1 a0_2 a0_3 l0_4 a0_5 a1_0 a1_1 bt510.1 bt510.2.1)))) else (tenancylaw15_Opt6Ignores.j0 k a2 true a0_0 a0_1 a0_2 a0_3 l0_4 a0_5 a1_0 a1_1 bt510.1 bt510.2.1))) = some r := by rw [if_pos rfl] at H; exact H
    clear H
    have H := H1
    clear H1
    replace H := Option.bind_eq_some_iff.mp H
    obtain ⟨⟨t510, t511, t512⟩, A60, H⟩ := H
    replace H : (if t512 = 0 then (if a1_0 = 5 then (tenancylaw15_Opt6Ignores.j0 k a2 true a0_0 a0_1 a0_2 a0_3 l0_4 a0_5 a1_0 a1_1 t510 t511) else (if a1_0 = 26 then (tenancylaw15_Opt6Ignores.j0 k a2 true a0_0 a0_1 a0_2 a0_3 l0_4 a0_5 a1_0 a1_1 t510 t511) else (if a1_0 = 13 then (tenancylaw15_Opt6Ignores.j0 k a2 true a0_0 a0_1 a0_2 a0_3 l0_4 a0_5 a1_0 a1_1 t510 t511) else (tenancylaw15_Opt6Ignores.j0 k a2 (decide ((a1_1.size : Int) > 1000)) a0_0 a0_1 a0_2 a0_3 l0_4 a0_5 a1_0 a1_1 t510 t511)))) else (tenancylaw15_Opt6Ignores.j0 k a2 true a0_0 a0_1 a0_2 a0_3 l0_4 a0_5 a1_0 a1_1 t510 t511)) = some r := H
    have A6 := Aside0.mk A60
    clear A60
    have HC7 := Aside0.mk H
    clear H
    go_enter Try.func8, Try.ntmps8
    go_upto_region 4 with (first | ((with_reducible refine gate_dst (N := 3) rfl ?_); (try (refine gate_guard (by rfl) ?_; dsimp only)); refine box_event ?hg (N := 3) ?hd (cs := #[.int .i64 a0_0, .int .u32 a0_1, .int .u32 a0_2, .int .u32 a0_3, .slice A0_4 l0_4.length c0_4, .int .i64 a0_5]) (t := 37) ?hr ?_; (case hd => rfl); (case hg => rfl); (case hr => first | (go_simp; done) | (go_simp; rfl)); intro gb507 hg w8 hbox hb; have n0_ := Aside0.mk (below_step (by repeat (first | (with_reducible first | exact HB.out | apply below_alloc | apply pw_below_drewN | apply below_drew1) | exact HB.out)) hb); have n1_ := Aside0.mk (hbox); have n2_ := Aside0.mk ((by rw [hg]; exact (below_size (by repeat (first | (with_reducible first | exact HB.out | apply below_alloc | apply pw_below_drewN | apply below_drew1) | exact HB.out))) : w.heap.size ≤ gb507)); have n3_ := Aside0.mk ((by rw [hg]; exact (below_size (by repeat (first | (with_reducible first | exact HB.out | apply below_alloc | apply pw_below_drewN | apply below_drew1) | exact HB.out))) : w.heap.size ≤ gb507)); clear HB; have HB := n0_; have BK507 := n1_; have GW507 := n2_; have GE507 := n3_; clear n0_ n1_ n2_ n3_; clear hb hbox hg) | ((with_reducible refine gate_dst (N := 4) rfl ?_); (try (refine gate_guard (by rfl) ?_; dsimp only)); refine box_event ?hg (N := 4) ?hd (cs := #[.int .u16 a1_0, .string a1_1]) (t := 40) ?hr ?_; (case hd => rfl); (case hg => rfl); (case hr => first | (go_simp; done) | (go_simp; rfl)); intro gb508 hg w9 hbox hb; have n0_ := Aside0.mk (blk_below (g := gb507) (o := .cells #[.int .i64 a0_0, .int .u32 a0_1, .int .u32 a0_2, .int .u32 a0_3, .slice A0_4 l0_4.length c0_4, .int .i64 a0_5] 37 (0, 0)) (by (with_reducible repeat (first | refine blk_drewN ?_ _ | refine blk_drew ?_ | refine blk_alloc ?_ _)); exact BK507.out) hb); have n1_ := Aside0.mk (below_step (by repeat (first | (with_reducible first | exact HB.out | apply below_alloc | apply pw_below_drewN | apply below_drew1 | refine below_set ?_ GE507.out) | exact HB.out)) hb); have n2_ := Aside0.mk (hbox); have n3_ := Aside0.mk ((by rw [hg]; exact (below_size (by repeat (first | (with_reducible first | exact HB.out | apply below_alloc | apply pw_below_drewN | apply below_drew1 | refine below_set ?_ GE507.out) | exact HB.out))) : w.heap.size ≤ gb508)); have n4_ := Aside0.mk ((by rw [hg]; exact (below_size (by repeat (first | (with_reducible first | exact HB.out | apply below_alloc | apply pw_below_drewN | apply below_drew1 | refine below_set ?_ GE507.out) | exact HB.out))) : w.heap.size ≤ gb508)); have n5_ := Aside0.mk ((by rw [hg]; exact Nat.ne_of_lt (blk_lt (g := gb507) (o := .cells #[.int .i64 a0_0, .int .u32 a0_1, .int .u32 a0_2, .int .u32 a0_3, .slice A0_4 l0_4.length c0_4, .int .i64 a0_5] 37 (0, 0)) (by (with_reducible repeat (first | refine blk_drewN ?_ _ | refine blk_drew ?_ | refine blk_alloc ?_ _)); exact BK507.out)) : gb507 ≠ gb508)); have n6_ := Aside0.mk ((by rw [hg]; exact Nat.ne_of_gt (blk_lt (g := gb507) (o := .cells #[.int .i64 a0_0, .int .u32 a0_1, .int .u32 a0_2, .int .u32 a0_3, .slice A0_4 l0_4.length c0_4, .int .i64 a0_5] 37 (0, 0)) (by (with_reducible repeat (first | refine blk_drewN ?_ _ | refine blk_drew ?_ | refine blk_alloc ?_ _)); exact BK507.out)) : gb508 ≠ gb507)); clear BK507; clear HB; have BK507 := n0_; have HB := n1_; have BK508 := n2_; have GW508 := n3_; have GE508 := n4_; have NB507_508 := n5_; have NB508_507 := n6_; clear n0_ n1_ n2_ n3_ n4_ n5_ n6_; clear hb hbox hg) | ((with_reducible refine gate_callee (f := 9) rfl ?_); refine goesL_ (some 15) rfl rfl Try.func9 (by kernel_rfl) rfl #[] rfl (by (try simp only [List.map_toArray, List.map_cons, List.map_nil]); first | done | rfl | (simp only [List.length_drop, List.length_take]; rfl)) ?_; (with_reducible refine (tenancylaw15_awake.calls k  true _ A4.out).mono ?_); rintro e w10 ⟨rfl, hb⟩; refine ⟨_, rfl, ?_⟩; have n0_ := Aside0.mk (blk_below (g := gb507) (o := .cells #[.int .i64 a0_0, .int .u32 a0_1, .int .u32 a0_2, .int .u32 a0_3, .slice A0_4 l0_4.length c0_4, .int .i64 a0_5] 37 (0, 0)) (by (with_reducible repeat (first | refine blk_drewN ?_ _ | refine blk_drew ?_ | refine blk_alloc ?_ _)); exact BK507.out) hb); have n1_ := Aside0.mk (blk_below (g := gb508) (o := .cells #[.int .u16 a1_0, .string a1_1] 40 (0, 0)) (by (with_reducible repeat (first | refine blk_drewN ?_ _ | refine blk_drew ?_ | refine blk_alloc ?_ _)); exact BK508.out) hb); have n2_ := Aside0.mk (below_step (by repeat (first | (with_reducible first | exact HB.out | apply below_alloc | apply pw_below_drewN | apply below_drew1 | refine below_set ?_ GE507.out | refine below_set ?_ GE508.out) | exact HB.out)) hb); clear BK507; clear BK508; clear HB; have BK507 := n0_; have BK508 := n1_; have HB := n2_; clear n0_ n1_ n2_; (try clear hb); (try clear hb2); (try clear hk); (try clear hi); have hnb11 := NB507_508.out; have hnc11 := NB508_507.out; obtain ⟨hcz12_0, hcz12_1, hcz12_2, hcz12_3, hcz12_4, hcz12_5⟩ := XRun.bc6 BK507.out; obtain ⟨hfz12_0, hfz12_1, hfz12_2, hfz12_3, hfz12_4, hfz12_5⟩ := XRun.bf6 BK507.out) | ((with_reducible refine gate_callee (f := 19) rfl ?_); refine goesL_ (some 19) rfl rfl Try.func19 (by kernel_rfl) rfl #[.agg #[.int .i64 a0_0, .int .u32 a0_1, .int .u32 a0_2, .int .u32 a0_3, .slice A0_4 l0_4.length c0_4, .int .i64 a0_5]] rfl (by (try simp only [List.map_toArray, List.map_cons, List.map_nil]); first | done | rfl | (simp only [List.length_drop, List.length_take]; rfl)) ?_; (with_reducible refine (opt6_PutIA.calls a0_0 a0_1 a0_2 a0_3 _ _ l0_4 a0_5 t510 t511 t512 _ ?side1 ?side2 A6.out).mono ?_); (case side1 => repeat (first | exact (Kd.C_below HR0_4.out HB.out) | (with_reducible refine Kd.C_alloc ?_ _) | (with_reducible refine Kd.C_drewN ?_ _) | (with_reducible refine Kd.C_drew ?_))); (case side2 => exact HC0_4.out); rintro e w13 ⟨rfl, hb⟩; refine ⟨_, rfl, ?_⟩; have n0_ := Aside0.mk (blk_below (g := gb507) (o := .cells #[.int .i64 a0_0, .int .u32 a0_1, .int .u32 a0_2, .int .u32 a0_3, .slice A0_4 l0_4.length c0_4, .int .i64 a0_5] 37 (0, 0)) (by (with_reducible repeat (first | refine blk_drewN ?_ _ | refine blk_drew ?_ | refine blk_alloc ?_ _)); exact BK507.out) hb); have n1_ := Aside0.mk (blk_below (g := gb508) (o := .cells #[.int .u16 a1_0, .string a1_1] 40 (0, 0)) (by (with_reducible repeat (first | refine blk_drewN ?_ _ | refine blk_drew ?_ | refine blk_alloc ?_ _)); exact BK508.out) hb); have n2_ := Aside0.mk (below_step (by repeat (first | (with_reducible first | exact HB.out | apply below_alloc | apply pw_below_drewN | apply below_drew1 | refine below_set ?_ GE507.out | refine below_set ?_ GE508.out) | exact HB.out)) hb); clear BK507; clear BK508; clear HB; have BK507 := n0_; have BK508 := n1_; have HB := n2_; clear n0_ n1_ n2_; (try clear hb); (try clear hb2); (try clear hk); (try clear hi)) | ((with_reducible refine gate_dst (N := 7) rfl ?_); (try (refine gate_guard (by rfl) ?_; dsimp only)); refine box_event ?hg (N := 7) ?hd (cs := #[.int .u16 0, .string (⟨#[]⟩ : ByteArray)]) (t := 40) ?hr ?_; (case hd => rfl); (case hg => rfl); (case hr => first | (go_simp; done) | (go_simp; rfl)); intro gb513 hg w14 hbox hb; have n0_ := Aside0.mk (blk_below (g := gb507) (o := .cells #[.int .i64 a0_0, .int .u32 a0_1, .int .u32 a0_2, .int .u32 a0_3, .slice A0_4 l0_4.length c0_4, .int .i64 a0_5] 37 (0, 0)) (by (with_reducible repeat (first | refine blk_drewN ?_ _ | refine blk_drew ?_ | refine blk_alloc ?_ _)); exact BK507.out) hb); have n1_ := Aside0.mk (blk_below (g := gb508) (o := .cells #[.int .u16 a1_0, .string a1_1] 40 (0, 0)) (by (with_reducible repeat (first | refine blk_drewN ?_ _ | refine blk_drew ?_ | refine blk_alloc ?_ _)); exact BK508.out) hb); have n2_ := Aside0.mk (below_step (by repeat (first | (with_reducible first | exact HB.out | apply below_alloc | apply pw_below_drewN | apply below_drew1 | refine below_set ?_ GE507.out | refine below_set ?_ GE508.out) | exact HB.out)) hb); have n3_ := Aside0.mk (hbox); have n4_ := Aside0.mk ((by rw [hg]; exact (below_size (by repeat (first | (with_reducible first | exact HB.out | apply below_alloc | apply pw_below_drewN | apply below_drew1 | refine below_set ?_ GE507.out | refine below_set ?_ GE508.out) | exact HB.out))) : w.heap.size ≤ gb513)); have n5_ := Aside0.mk ((by rw [hg]; exact (below_size (by repeat (first | (with_reducible first | exact HB.out | apply below_alloc | apply pw_below_drewN | apply below_drew1 | refine below_set ?_ GE507.out | refine below_set ?_ GE508.out) | exact HB.out))) : w.heap.size ≤ gb513)); have n6_ := Aside0.mk ((by rw [hg]; exact Nat.ne_of_lt (blk_lt (g := gb507) (o := .cells #[.int .i64 a0_0, .int .u32 a0_1, .int .u32 a0_2, .int .u32 a0_3, .slice A0_4 l0_4.length c0_4, .int .i64 a0_5] 37 (0, 0)) (by (with_reducible repeat (first | refine blk_drewN ?_ _ | refine blk_drew ?_ | refine blk_alloc ?_ _)); exact BK507.out)) : gb507 ≠ gb513)); have n7_ := Aside0.mk ((by rw [hg]; exact Nat.ne_of_gt (blk_lt (g := gb507) (o := .cells #[.int .i64 a0_0, .int .u32 a0_1, .int .u32 a0_2, .int .u32 a0_3, .slice A0_4 l0_4.length c0_4, .int .i64 a0_5] 37 (0, 0)) (by (with_reducible repeat (first | refine blk_drewN ?_ _ | refine blk_drew ?_ | refine blk_alloc ?_ _)); exact BK507.out)) : gb513 ≠ gb507)); have n8_ := Aside0.mk ((by rw [hg]; exact Nat.ne_of_lt (blk_lt (g := gb508) (o := .cells #[.int .u16 a1_0, .string a1_1] 40 (0, 0)) (by (with_reducible repeat (first | refine blk_drewN ?_ _ | refine blk_drew ?_ | refine blk_alloc ?_ _)); exact BK508.out)) : gb508 ≠ gb513)); have n9_ := Aside0.mk ((by rw [hg]; exact Nat.ne_of_gt (blk_lt (g := gb508) (o := .cells #[.int .u16 a1_0, .string a1_1] 40 (0, 0)) (by (with_reducible repeat (first | refine blk_drewN ?_ _ | refine blk_drew ?_ | refine blk_alloc ?_ _)); exact BK508.out)) : gb513 ≠ gb508)); clear BK507; clear BK508; clear HB; have BK507 := n0_; have BK508 := n1_; have HB := n2_; have BK513 := n3_; have GW513 := n4_; have GE513 := n5_; have NB507_513 := n6_; have NB513_507 := n7_; have NB508_513 := n8_; have NB513_508 := n9_; clear n0_ n1_ n2_ n3_ n4_ n5_ n6_ n7_ n8_ n9_; clear hb hbox hg; have hnb15 := NB513_507.out; have hnc15 := NB507_513.out; have hnb16 := NB513_508.out; have hnc16 := NB508_513.out; obtain ⟨hcz17_0, hcz17_1⟩ := XRun.bc2 BK513.out; obtain ⟨hfz17_0, hfz17_1⟩ := XRun.bf2 BK513.out))
    (try simp only [Act.put, List.setIfInBounds_toArray, List.set_cons_zero, List.set_cons_succ])
    go_cut [44] (fun v44 wc => ∃ (kq : Nat) (x44_6 : Bool), v44 = .bool x44_6 ∧ Aside0 (tenancylaw15_Opt6Ignores.j0 kq a2 x44_6 a0_0 a0_1 a0_2 a0_3 l0_4 a0_5 a1_0 a1_1 t510 t511 = some r) ∧ Aside0 (kq ≤ k) ∧ Aside0 (wc.heap[gb507]? = some (.cells #[.int .i64 a0_0, .int .u32 a0_1, .int .u32 a0_2, .int .u32 a0_3, (.slice A0_4 l0_4.length c0_4), .int .i64 a0_5] 37 (0, 0))) ∧ Aside0 (wc.heap[gb508]? = some (.cells #[.int .u16 a1_0, .string a1_1] 40 (0, 0))) ∧ Aside0 (wc.heap[gb513]? = some (.cells #[.int .u16 t510, .string t511] 40 (0, 0))) ∧ Aside0 (Below w.heap.size w wc))
    case first =>
      have H := HC7.out
      clear HC7
      by_cases c18 : t512 = 0
      · rw [if_pos c18] at H
        have c18b0 : (t512 == 0) = true := beq_iff_eq.mpr c18
        have c18b1 : (t512 != 0) = false := bne_eq_false_iff_eq.mpr c18
        clear c18
        (first | rw [c18b0] | (simp only [i64_w, i32_w]; rw [c18b0]) | skip)
        by_cases c19 : a1_0 = 5
        · rw [if_pos c19] at H
          have c19b0 : (a1_0 == 5) = true := beq_iff_eq.mpr c19
          have c19b1 : (a1_0 != 5) = false := bne_eq_false_iff_eq.mpr c19
          clear c19
          have H' := Aside0.mk H
          clear H
          have hnb20 := NB508_507.out
          have hnc20 := NB507_508.out
          have hnb21 := NB508_513.out
          have hnc21 := NB513_508.out
          obtain ⟨hcz22_0, hcz22_1⟩ := XRun.bc2 BK508.out
          obtain ⟨hfz22_0, hfz22_1⟩ := XRun.bf2 BK508.out
          go_wp2
          go_meet
          case rel => exact ⟨_, (true), (by first | rfl | (simp; done) | (simp only [ByteArray.size_extract]; rw [Nat.min_eq_left (by omega)]; done) | (simp [*]; done)), H', ⟨by first | omega | exact Nat.le_refl _⟩, ⟨by (with_reducible repeat (first | refine blk_drewN ?_ _ | refine blk_drew ?_ | refine blk_alloc ?_ _)); refine blk_far ?_ NB507_513.out _; (with_reducible repeat (first | refine blk_drewN ?_ _ | refine blk_drew ?_ | refine blk_alloc ?_ _)); refine blk_far ?_ NB507_513.out _; (with_reducible repeat (first | refine blk_drewN ?_ _ | refine blk_drew ?_ | refine blk_alloc ?_ _)); exact BK507.out⟩, ⟨by (with_reducible repeat (first | refine blk_drewN ?_ _ | refine blk_drew ?_ | refine blk_alloc ?_ _)); refine blk_far ?_ NB508_513.out _; (with_reducible repeat (first | refine blk_drewN ?_ _ | refine blk_drew ?_ | refine blk_alloc ?_ _)); refine blk_far ?_ NB508_513.out _; (with_reducible repeat (first | refine blk_drewN ?_ _ | refine blk_drew ?_ | refine blk_alloc ?_ _)); exact BK508.out⟩, ⟨by (with_reducible repeat (first | refine blk_drewN ?_ _ | refine blk_drew ?_ | refine blk_alloc ?_ _)); refine blk_put (cs := #[.int .u16 t510, .string (⟨#[]⟩ : ByteArray)]) ?_ 1 _ rfl; (with_reducible repeat (first | refine blk_drewN ?_ _ | refine blk_drew ?_ | refine blk_alloc ?_ _)); refine blk_put (cs := #[.int .u16 0, .string (⟨#[]⟩ : ByteArray)]) ?_ 0 _ rfl; (with_reducible repeat (first | refine blk_drewN ?_ _ | refine blk_drew ?_ | refine blk_alloc ?_ _)); exact BK513.out⟩, ⟨by repeat (first | (with_reducible first | exact HB.out | apply below_alloc | apply pw_below_drewN | apply below_drew1 | refine below_set ?_ GE507.out | refine below_set ?_ GE508.out | refine below_set ?_ GE513.out) | exact HB.out)⟩⟩
        · rw [if_neg c19] at H
          have c19b0 : (a1_0 == 5) = false := beq_eq_false_iff_ne.mpr c19
          have c19b1 : (a1_0 != 5) = true := bne_iff_ne.mpr c19
          by_cases c23 : a1_0 = 26
          · rw [if_pos c23] at H
            have c23b0 : (a1_0 == 26) = true := beq_iff_eq.mpr c23
            have c23b1 : (a1_0 != 26) = false := bne_eq_false_iff_eq.mpr c23
            clear c23
            have H' := Aside0.mk H
            clear H
            have hnb24 := NB508_507.out
            have hnc24 := NB507_508.out
            have hnb25 := NB508_513.out
            have hnc25 := NB513_508.out
            obtain ⟨hcz26_0, hcz26_1⟩ := XRun.bc2 BK508.out
            obtain ⟨hfz26_0, hfz26_1⟩ := XRun.bf2 BK508.out
            go_wp2
            go_meet
            case rel => exact ⟨_, (true), (by first | rfl | (simp; done) | (simp only [ByteArray.size_extract]; rw [Nat.min_eq_left (by omega)]; done) | (simp [*]; done)), H', ⟨by first | omega | exact Nat.le_refl _⟩, ⟨by (with_reducible repeat (first | refine blk_drewN ?_ _ | refine blk_drew ?_ | refine blk_alloc ?_ _)); refine blk_far ?_ NB507_513.out _; (with_reducible repeat (first | refine blk_drewN ?_ _ | refine blk_drew ?_ | refine blk_alloc ?_ _)); refine blk_far ?_ NB507_513.out _; (with_reducible repeat (first | refine blk_drewN ?_ _ | refine blk_drew ?_ | refine blk_alloc ?_ _)); exact BK507.out⟩, ⟨by (with_reducible repeat (first | refine blk_drewN ?_ _ | refine blk_drew ?_ | refine blk_alloc ?_ _)); refine blk_far ?_ NB508_513.out _; (with_reducible repeat (first | refine blk_drewN ?_ _ | refine blk_drew ?_ | refine blk_alloc ?_ _)); refine blk_far ?_ NB508_513.out _; (with_reducible repeat (first | refine blk_drewN ?_ _ | refine blk_drew ?_ | refine blk_alloc ?_ _)); exact BK508.out⟩, ⟨by (with_reducible repeat (first | refine blk_drewN ?_ _ | refine blk_drew ?_ | refine blk_alloc ?_ _)); refine blk_put (cs := #[.int .u16 t510, .string (⟨#[]⟩ : ByteArray)]) ?_ 1 _ rfl; (with_reducible repeat (first | refine blk_drewN ?_ _ | refine blk_drew ?_ | refine blk_alloc ?_ _)); refine blk_put (cs := #[.int .u16 0, .string (⟨#[]⟩ : ByteArray)]) ?_ 0 _ rfl; (with_reducible repeat (first | refine blk_drewN ?_ _ | refine blk_drew ?_ | refine blk_alloc ?_ _)); exact BK513.out⟩, ⟨by repeat (first | (with_reducible first | exact HB.out | apply below_alloc | apply pw_below_drewN | apply below_drew1 | refine below_set ?_ GE507.out | refine below_set ?_ GE508.out | refine below_set ?_ GE513.out) | exact HB.out)⟩⟩
          · rw [if_neg c23] at H
            have c23b0 : (a1_0 == 26) = false := beq_eq_false_iff_ne.mpr c23
            have c23b1 : (a1_0 != 26) = true := bne_iff_ne.mpr c23
            by_cases c27 : a1_0 = 13
            · rw [if_pos c27] at H
              have c27b0 : (a1_0 == 13) = true := beq_iff_eq.mpr c27
              have c27b1 : (a1_0 != 13) = false := bne_eq_false_iff_eq.mpr c27
              clear c27
              have H' := Aside0.mk H
              clear H
              have hnb28 := NB508_507.out
              have hnc28 := NB507_508.out
              have hnb29 := NB508_513.out
              have hnc29 := NB513_508.out
              obtain ⟨hcz30_0, hcz30_1⟩ := XRun.bc2 BK508.out
              obtain ⟨hfz30_0, hfz30_1⟩ := XRun.bf2 BK508.out
              go_wp2
              go_meet
              case rel => exact ⟨_, (true), (by first | rfl | (simp; done) | (simp only [ByteArray.size_extract]; rw [Nat.min_eq_left (by omega)]; done) | (simp [*]; done)), H', ⟨by first | omega | exact Nat.le_refl _⟩, ⟨by (with_reducible repeat (first | refine blk_drewN ?_ _ | refine blk_drew ?_ | refine blk_alloc ?_ _)); refine blk_far ?_ NB507_513.out _; (with_reducible repeat (first | refine blk_drewN ?_ _ | refine blk_drew ?_ | refine blk_alloc ?_ _)); refine blk_far ?_ NB507_513.out _; (with_reducible repeat (first | refine blk_drewN ?_ _ | refine blk_drew ?_ | refine blk_alloc ?_ _)); exact BK507.out⟩, ⟨by (with_reducible repeat (first | refine blk_drewN ?_ _ | refine blk_drew ?_ | refine blk_alloc ?_ _)); refine blk_far ?_ NB508_513.out _; (with_reducible repeat (first | refine blk_drewN ?_ _ | refine blk_drew ?_ | refine blk_alloc ?_ _)); refine blk_far ?_ NB508_513.out _; (with_reducible repeat (first | refine blk_drewN ?_ _ | refine blk_drew ?_ | refine blk_alloc ?_ _)); exact BK508.out⟩, ⟨by (with_reducible repeat (first | refine blk_drewN ?_ _ | refine blk_drew ?_ | refine blk_alloc ?_ _)); refine blk_put (cs := #[.int .u16 t510, .string (⟨#[]⟩ : ByteArray)]) ?_ 1 _ rfl; (with_reducible repeat (first | refine blk_drewN ?_ _ | refine blk_drew ?_ | refine blk_alloc ?_ _)); refine blk_put (cs := #[.int .u16 0, .string (⟨#[]⟩ : ByteArray)]) ?_ 0 _ rfl; (with_reducible repeat (first | refine blk_drewN ?_ _ | refine blk_drew ?_ | refine blk_alloc ?_ _)); exact BK513.out⟩, ⟨by repeat (first | (with_reducible first | exact HB.out | apply below_alloc | apply pw_below_drewN | apply below_drew1 | refine below_set ?_ GE507.out | refine below_set ?_ GE508.out | refine below_set ?_ GE513.out) | exact HB.out)⟩⟩
            · rw [if_neg c27] at H
              have c27b0 : (a1_0 == 13) = false := beq_eq_false_iff_ne.mpr c27
              have c27b1 : (a1_0 != 13) = true := bne_iff_ne.mpr c27
              have H' := Aside0.mk H
              clear H
              have hnb31 := NB508_507.out
              have hnc31 := NB507_508.out
              have hnb32 := NB508_513.out
              have hnc32 := NB513_508.out
              obtain ⟨hcz33_0, hcz33_1⟩ := XRun.bc2 BK508.out
              obtain ⟨hfz33_0, hfz33_1⟩ := XRun.bf2 BK508.out
              go_wp2
              go_meet
              case rel => exact ⟨_, (decide ((a1_1.size : Int) > 1000)), (by first | rfl | (simp; done) | (simp only [ByteArray.size_extract]; rw [Nat.min_eq_left (by omega)]; done) | (simp [*]; done)), H', ⟨by first | omega | exact Nat.le_refl _⟩, ⟨by (with_reducible repeat (first | refine blk_drewN ?_ _ | refine blk_drew ?_ | refine blk_alloc ?_ _)); refine blk_far ?_ NB507_513.out _; (with_reducible repeat (first | refine blk_drewN ?_ _ | refine blk_drew ?_ | refine blk_alloc ?_ _)); refine blk_far ?_ NB507_513.out _; (with_reducible repeat (first | refine blk_drewN ?_ _ | refine blk_drew ?_ | refine blk_alloc ?_ _)); exact BK507.out⟩, ⟨by (with_reducible repeat (first | refine blk_drewN ?_ _ | refine blk_drew ?_ | refine blk_alloc ?_ _)); refine blk_far ?_ NB508_513.out _; (with_reducible repeat (first | refine blk_drewN ?_ _ | refine blk_drew ?_ | refine blk_alloc ?_ _)); refine blk_far ?_ NB508_513.out _; (with_reducible repeat (first | refine blk_drewN ?_ _ | refine blk_drew ?_ | refine blk_alloc ?_ _)); exact BK508.out⟩, ⟨by (with_reducible repeat (first | refine blk_drewN ?_ _ | refine blk_drew ?_ | refine blk_alloc ?_ _)); refine blk_put (cs := #[.int .u16 t510, .string (⟨#[]⟩ : ByteArray)]) ?_ 1 _ rfl; (with_reducible repeat (first | refine blk_drewN ?_ _ | refine blk_drew ?_ | refine blk_alloc ?_ _)); refine blk_put (cs := #[.int .u16 0, .string (⟨#[]⟩ : ByteArray)]) ?_ 0 _ rfl; (with_reducible repeat (first | refine blk_drewN ?_ _ | refine blk_drew ?_ | refine blk_alloc ?_ _)); exact BK513.out⟩, ⟨by repeat (first | (with_reducible first | exact HB.out | apply below_alloc | apply pw_below_drewN | apply below_drew1 | refine below_set ?_ GE507.out | refine below_set ?_ GE508.out | refine below_set ?_ GE513.out) | exact HB.out)⟩⟩
      · rw [if_neg c18] at H
        have c18b0 : (t512 == 0) = false := beq_eq_false_iff_ne.mpr c18
        have c18b1 : (t512 != 0) = true := bne_iff_ne.mpr c18
        (first | rw [c18b0] | (simp only [i64_w, i32_w]; rw [c18b0]) | skip)
        have H' := Aside0.mk H
        clear H
        go_wp2
        go_meet
        case rel => exact ⟨_, (true), (by first | rfl | (simp; done) | (simp only [ByteArray.size_extract]; rw [Nat.min_eq_left (by omega)]; done) | (simp [*]; done)), H', ⟨by first | omega | exact Nat.le_refl _⟩, ⟨by (with_reducible repeat (first | refine blk_drewN ?_ _ | refine blk_drew ?_ | refine blk_alloc ?_ _)); refine blk_far ?_ NB507_513.out _; (with_reducible repeat (first | refine blk_drewN ?_ _ | refine blk_drew ?_ | refine blk_alloc ?_ _)); refine blk_far ?_ NB507_513.out _; (with_reducible repeat (first | refine blk_drewN ?_ _ | refine blk_drew ?_ | refine blk_alloc ?_ _)); exact BK507.out⟩, ⟨by (with_reducible repeat (first | refine blk_drewN ?_ _ | refine blk_drew ?_ | refine blk_alloc ?_ _)); refine blk_far ?_ NB508_513.out _; (with_reducible repeat (first | refine blk_drewN ?_ _ | refine blk_drew ?_ | refine blk_alloc ?_ _)); refine blk_far ?_ NB508_513.out _; (with_reducible repeat (first | refine blk_drewN ?_ _ | refine blk_drew ?_ | refine blk_alloc ?_ _)); exact BK508.out⟩, ⟨by (with_reducible repeat (first | refine blk_drewN ?_ _ | refine blk_drew ?_ | refine blk_alloc ?_ _)); refine blk_put (cs := #[.int .u16 t510, .string (⟨#[]⟩ : ByteArray)]) ?_ 1 _ rfl; (with_reducible repeat (first | refine blk_drewN ?_ _ | refine blk_drew ?_ | refine blk_alloc ?_ _)); refine blk_put (cs := #[.int .u16 0, .string (⟨#[]⟩ : ByteArray)]) ?_ 0 _ rfl; (with_reducible repeat (first | refine blk_drewN ?_ _ | refine blk_drew ?_ | refine blk_alloc ?_ _)); exact BK513.out⟩, ⟨by repeat (first | (with_reducible first | exact HB.out | apply below_alloc | apply pw_below_drewN | apply below_drew1 | refine below_set ?_ GE507.out | refine below_set ?_ GE508.out | refine below_set ?_ GE513.out) | exact HB.out)⟩⟩
    case rest =>
      clear HC7
      try clear c1
      try clear c2
      try clear p2
      try clear c3
      try clear c5
      try clear c8
      try clear c9
      try clear c11
      try clear c15
      try clear c16
      try clear c18
      try clear c18b0
      try clear c18b1
      try clear c19
      try clear c19b0
      try clear c19b1
      try clear c20
      try clear c21
      try clear c23
      try clear c23b0
      try clear c23b1
      try clear c24
      try clear c25
      try clear c27
      try clear c27b0
      try clear c27b1
      try clear c28
      try clear c29
      try clear c31
      try clear c32
      try clear hcz12_0
      try clear hcz12_1
      try clear hcz12_2
      try clear hcz12_3
      try clear hcz12_4
      try clear hcz12_5
      try clear hcz17_0
      try clear hcz17_1
      try clear hcz22_0
      try clear hcz22_1
      try clear hcz26_0
      try clear hcz26_1
      try clear hcz30_0
      try clear hcz30_1
      try clear hcz33_0
      try clear hcz33_1
      try clear hfz12_0
      try clear hfz12_1
      try clear hfz12_2
      try clear hfz12_3
      try clear hfz12_4
      try clear hfz12_5
      try clear hfz17_0
      try clear hfz17_1
      try clear hfz22_0
      try clear hfz22_1
      try clear hfz26_0
      try clear hfz26_1
      try clear hfz30_0
      try clear hfz30_1
      try clear hfz33_0
      try clear hfz33_1
      obtain ⟨kq, x44_6, rfl, HA, HJ6, BK507, BK508, BK513, HB⟩ := hcut
      cases kq with
      | zero => exact absurd HA.out (by simp [tenancylaw15_Opt6Ignores.j0])
      | succ kj6 =>
        have H := HA.out
        clear HA
        simp only [tenancylaw15_Opt6Ignores.j0] at H
        by_cases c34 : x44_6 = true
        · subst c34
          have H1 : (some true) = some r := by rw [if_pos rfl] at H; exact H
          clear H
          have H := H1
          clear H1
          obtain rfl := Option.some.inj H
          go_wp2
          go_ret
          exact ⟨by first | rfl | (simp [errW_none, errW_some] <;> rfl) | (simp [*, errW_none, errW_some] <;> rfl), by repeat (first | (with_reducible first | exact HB.out | apply below_alloc | apply pw_below_drewN | apply below_drew1 | refine below_set ?_ GE507.out | refine below_set ?_ GE508.out | refine below_set ?_ GE513.out) | exact HB.out)⟩
        · replace c34 := Bool.eq_false_iff.mpr c34
          subst c34
          have H1 : (if a0_0 = 3 then (tenancylaw15_Opt6Ignores.j1 kj6 a2 4 a0_0 a0_1 a0_2 a0_3 l0_4 a0_5 a1_0 a1_1 t510 t511) else (tenancylaw15_Opt6Ignores.j1 kj6 a2 12 a0_0 a0_1 a0_2 a0_3 l0_4 a0_5 a1_0 a1_1 t510 t511)) = some r := by rw [if_neg (show ¬ (false = true) by decide)] at H; exact H
          clear H
          have H := H1
          clear H1
          have HC35 := Aside0.mk H
          clear H
          have hnb36 := NB507_508.out
          have hnc36 := NB508_507.out
          have hnb37 := NB507_513.out
          have hnc37 := NB513_507.out
          obtain ⟨hcz38_0, hcz38_1, hcz38_2, hcz38_3, hcz38_4, hcz38_5⟩ := XRun.bc6 BK507.out
          obtain ⟨hfz38_0, hfz38_1, hfz38_2, hfz38_3, hfz38_4, hfz38_5⟩ := XRun.bf6 BK507.out
          go_upto_if 47 with (fail)
          go_cut [9] (fun v9 wc => ∃ (kq : Nat) (x9_34 : Int), v9 = .int .i64 x9_34 ∧ Aside0 (tenancylaw15_Opt6Ignores.j1 kq a2 x9_34 a0_0 a0_1 a0_2 a0_3 l0_4 a0_5 a1_0 a1_1 t510 t511 = some r) ∧ Aside0 (kq ≤ kj6) ∧ Aside0 (wc.heap[gb507]? = some (.cells #[.int .i64 a0_0, .int .u32 a0_1, .int .u32 a0_2, .int .u32 a0_3, (.slice A0_4 l0_4.length c0_4), .int .i64 a0_5] 37 (0, 0))) ∧ Aside0 (wc.heap[gb508]? = some (.cells #[.int .u16 a1_0, .string a1_1] 40 (0, 0))) ∧ Aside0 (wc.heap[gb513]? = some (.cells #[.int .u16 t510, .string t511] 40 (0, 0))) ∧ Aside0 (Below w.heap.size w wc))
          case first =>
            have H := HC35.out
            clear HC35
            by_cases c39 : a0_0 = 3
            · rw [if_pos c39] at H
              have c39b0 : (a0_0 == 3) = true := beq_iff_eq.mpr c39
              have c39b1 : (a0_0 != 3) = false := bne_eq_false_iff_eq.mpr c39
              clear c39
              (first | rw [c39b0] | (simp only [i64_w, i32_w]; rw [c39b0]) | skip)
              have H' := Aside0.mk H
              clear H
              go_wp2
              go_meet
              case rel => exact ⟨_, (4), (by first | rfl | (simp; done) | (simp only [ByteArray.size_extract]; rw [Nat.min_eq_left (by omega)]; done) | (simp [*]; done)), H', ⟨by have := HJ6.out; first | omega | exact Nat.le_refl _⟩, ⟨by (with_reducible repeat (first | refine blk_drewN ?_ _ | refine blk_drew ?_ | refine blk_alloc ?_ _)); exact BK507.out⟩, ⟨by (with_reducible repeat (first | refine blk_drewN ?_ _ | refine blk_drew ?_ | refine blk_alloc ?_ _)); exact BK508.out⟩, ⟨by (with_reducible repeat (first | refine blk_drewN ?_ _ | refine blk_drew ?_ | refine blk_alloc ?_ _)); exact BK513.out⟩, ⟨by repeat (first | (with_reducible first | exact HB.out | apply below_alloc | apply pw_below_drewN | apply below_drew1 | refine below_set ?_ GE507.out | refine below_set ?_ GE508.out | refine below_set ?_ GE513.out) | exact HB.out)⟩⟩
            · rw [if_neg c39] at H
              have c39b0 : (a0_0 == 3) = false := beq_eq_false_iff_ne.mpr c39
              have c39b1 : (a0_0 != 3) = true := bne_iff_ne.mpr c39
              (first | rw [c39b0] | (simp only [i64_w, i32_w]; rw [c39b0]) | skip)
              have H' := Aside0.mk H
              clear H
              go_wp2
              go_meet
              case rel => exact ⟨_, (12), (by first | rfl | (simp; done) | (simp only [ByteArray.size_extract]; rw [Nat.min_eq_left (by omega)]; done) | (simp [*]; done)), H', ⟨by have := HJ6.out; first | omega | exact Nat.le_refl _⟩, ⟨by (with_reducible repeat (first | refine blk_drewN ?_ _ | refine blk_drew ?_ | refine blk_alloc ?_ _)); exact BK507.out⟩, ⟨by (with_reducible repeat (first | refine blk_drewN ?_ _ | refine blk_drew ?_ | refine blk_alloc ?_ _)); exact BK508.out⟩, ⟨by (with_reducible repeat (first | refine blk_drewN ?_ _ | refine blk_drew ?_ | refine blk_alloc ?_ _)); exact BK513.out⟩, ⟨by repeat (first | (with_reducible first | exact HB.out | apply below_alloc | apply pw_below_drewN | apply below_drew1 | refine below_set ?_ GE507.out | refine below_set ?_ GE508.out | refine below_set ?_ GE513.out) | exact HB.out)⟩⟩
          case rest =>
            clear HC35
            try clear c1
            try clear c2
            try clear p2
            try clear c3
            try clear c5
            try clear c8
            try clear c9
            try clear c11
            try clear c15
            try clear c16
            try clear c18
            try clear c18b0
            try clear c18b1
            try clear c19
            try clear c19b0
            try clear c19b1
            try clear c20
            try clear c21
            try clear c23
            try clear c23b0
            try clear c23b1
            try clear c24
            try clear c25
            try clear c27
            try clear c27b0
            try clear c27b1
            try clear c28
            try clear c29
            try clear c31
            try clear c32
            try clear c34
            try clear c36
            try clear c37
            try clear c39
            try clear c39b0
            try clear c39b1
            try clear hcz12_0
            try clear hcz12_1
            try clear hcz12_2
            try clear hcz12_3
            try clear hcz12_4
            try clear hcz12_5
            try clear hcz17_0
            try clear hcz17_1
            try clear hcz22_0
            try clear hcz22_1
            try clear hcz26_0
            try clear hcz26_1
            try clear hcz30_0
            try clear hcz30_1
            try clear hcz33_0
            try clear hcz33_1
            try clear hcz38_0
            try clear hcz38_1
            try clear hcz38_2
            try clear hcz38_3
            try clear hcz38_4
            try clear hcz38_5
            try clear hfz12_0
            try clear hfz12_1
            try clear hfz12_2
            try clear hfz12_3
            try clear hfz12_4
            try clear hfz12_5
            try clear hfz17_0
            try clear hfz17_1
            try clear hfz22_0
            try clear hfz22_1
            try clear hfz26_0
            try clear hfz26_1
            try clear hfz30_0
            try clear hfz30_1
            try clear hfz33_0
            try clear hfz33_1
            try clear hfz38_0
            try clear hfz38_1
            try clear hfz38_2
            try clear hfz38_3
            try clear hfz38_4
            try clear hfz38_5
            try clear p2
            obtain ⟨kq, x9_34, rfl, HA, HJ34, BK507, BK508, BK513, HB⟩ := hcut
            cases kq with
            | zero => exact absurd HA.out (by simp [tenancylaw15_Opt6Ignores.j1])
            | succ kj34 =>
              have H := HA.out
              clear HA
              simp only [tenancylaw15_Opt6Ignores.j1] at H
              by_cases c40 : 0 ≤ x9_34
              · rw [if_pos c40] at H
                have c40b0 := eq_true c40
                have c40b1 : decide (0 ≤ x9_34) = true := decide_eq_true c40
                clear c40
                by_cases c41 : x9_34 ≤ (t511.size : Int)
                · rw [if_pos c41] at H
                  have c41b0 := eq_true c41
                  have c41b1 : decide (x9_34 ≤ (t511.size : Int)) = true := decide_eq_true c41
                  clear c41
                  replace H := Option.bind_eq_some_iff.mp H
                  obtain ⟨⟨t514, t515⟩, A420, H⟩ := H
                  replace H : (if t515 = 0 then (if (IntKind.u64.wrap (wrap64 ((t514.length : Int) + 1))) = 0 then (none) else (if 0 ≤ (wrap64 ((t514.length : Int) + 2)) then (if (wrap64 ((t514.length : Int) + 2) : Int).toNat ≤ 11728124029610 then ((some (([] : List (S40)) : List (S40))).bind fun y518 => (if 0 ≤ (wrap64 (Int.tmod (IntKind.u64.wrap (a2)) (IntKind.u64.wrap (wrap64 ((t514.length : Int) + 1))))) then (if (wrap64 (Int.tmod (IntKind.u64.wrap (a2)) (IntKind.u64.wrap (wrap64 ((t514.length : Int) + 1))))) ≤ (t514.length : Int) then ((some (t514.take ((wrap64 (Int.tmod (IntKind.u64.wrap (a2)) (IntKind.u64.wrap (wrap64 ((t514.length : Int) + 1))))) : Int).toNat : List (S40))).bind fun y521 => (if y518.length + y521.length < 5864062014805 then ((some (y518 ++ y521 : List (S40))).bind fun y525 => (if y525.length < 5864062014805 then ((some (y525 ++ [(⟨a1_0, a1_1⟩ : S40)] : List (S40))).bind fun y528 => ((some (t514.drop ((wrap64 (Int.tmod (IntKind.u64.wrap (a2)) (IntKind.u64.wrap (wrap64 ((t514.length : Int) + 1))))) : Int).toNat : List (S40))).bind fun y531 => (if y528.length + y531.length < 5864062014805 then ((some (y528 ++ y531 : List (S40))).bind fun y535 => (if a0_5 ≥ 0 then (if y535.length < 5864062014805 then (tenancylaw15_Opt6Ignores.j2 kj34 x9_34 (y535 ++ [(⟨13, (⟨#[0, 9, 116, 101, 120, 116]⟩ : ByteArray)⟩ : S40)]) a0_0 a0_1 a0_2 a0_3 l0_4 a0_5 t510 t511) else (none)) else (tenancylaw15_Opt6Ignores.j2 kj34 x9_34 y535 a0_0 a0_1 a0_2 a0_3 l0_4 a0_5 t510 t511))) else (none)))) else (none))) else (none))) else (none)) else (none))) else (none)) else (none))) else (none)) = some r := H
                  have A42 := Aside0.mk A420
                  clear A420
                  by_cases c43 : t515 = 0
                  · rw [if_pos c43] at H
                    have c43b0 : (t515 == 0) = true := beq_iff_eq.mpr c43
                    have c43b1 : (t515 != 0) = false := bne_eq_false_iff_eq.mpr c43
                    clear c43
                    by_cases c44 : (IntKind.u64.wrap (wrap64 ((t514.length : Int) + 1))) = 0
                    · rw [if_pos c44] at H
                      exact absurd H (by simp)
                    · rw [if_neg c44] at H
                      have c44b0 : ((IntKind.u64.wrap (wrap64 ((t514.length : Int) + 1))) == 0) = false := beq_eq_false_iff_ne.mpr c44
                      have c44b1 : ((IntKind.u64.wrap (wrap64 ((t514.length : Int) + 1))) != 0) = true := bne_iff_ne.mpr c44
                      obtain ⟨ji45, hji45⟩ : ∃ j_ : Int, (wrap64 ((t514.length : Int) + 2)) = j_ := ⟨_, rfl⟩
                      replace H : (if 0 ≤ (ji45) then (if (ji45 : Int).toNat ≤ 11728124029610 then ((some (([] : List (S40)) : List (S40))).bind fun y518 => (if 0 ≤ (wrap64 (Int.tmod (IntKind.u64.wrap (a2)) (IntKind.u64.wrap (wrap64 ((t514.length : Int) + 1))))) then (if (wrap64 (Int.tmod (IntKind.u64.wrap (a2)) (IntKind.u64.wrap (wrap64 ((t514.length : Int) + 1))))) ≤ (t514.length : Int) then ((some (t514.take ((wrap64 (Int.tmod (IntKind.u64.wrap (a2)) (IntKind.u64.wrap (wrap64 ((t514.length : Int) + 1))))) : Int).toNat : List (S40))).bind fun y521 => (if y518.length + y521.length < 5864062014805 then ((some (y518 ++ y521 : List (S40))).bind fun y525 => (if y525.length < 5864062014805 then ((some (y525 ++ [(⟨a1_0, a1_1⟩ : S40)] : List (S40))).bind fun y528 => ((some (t514.drop ((wrap64 (Int.tmod (IntKind.u64.wrap (a2)) (IntKind.u64.wrap (wrap64 ((t514.length : Int) + 1))))) : Int).toNat : List (S40))).bind fun y531 => (if y528.length + y531.length < 5864062014805 then ((some (y528 ++ y531 : List (S40))).bind fun y535 => (if a0_5 ≥ 0 then (if y535.length < 5864062014805 then (tenancylaw15_Opt6Ignores.j2 kj34 x9_34 (y535 ++ [(⟨13, (⟨#[0, 9, 116, 101, 120, 116]⟩ : ByteArray)⟩ : S40)]) a0_0 a0_1 a0_2 a0_3 l0_4 a0_5 t510 t511) else (none)) else (tenancylaw15_Opt6Ignores.j2 kj34 x9_34 y535 a0_0 a0_1 a0_2 a0_3 l0_4 a0_5 t510 t511))) else (none)))) else (none))) else (none))) else (none)) else (none))) else (none)) else (none)) = some r := by first | (rw [hji45] at H; exact H) | (simp only [hji45] at H ⊢; exact H)
                      (try rw [hji45] at A42)
                      have hji45w : (IntKind.i64.wrap ((t514.length : Int) + 2)) = ji45 := (i64_w _).trans hji45
                      by_cases c46 : 0 ≤ (ji45)
                      · rw [if_pos c46] at H
                        have c46b0 := eq_true c46
                        have c46b1 : decide (0 ≤ (ji45)) = true := decide_eq_true c46
                        clear c46
                        by_cases c47 : (ji45 : Int).toNat ≤ 11728124029610
                        · rw [if_pos c47] at H
                          have c47b0 := eq_true c47
                          have c47b1 : decide ((ji45 : Int).toNat ≤ 11728124029610) = true := decide_eq_true c47
                          clear c47
                          obtain ⟨y518, hy518⟩ : ∃ y_ : List (S40), y_ = (([] : List (S40))) := ⟨_, rfl⟩
                          replace H : (if 0 ≤ (wrap64 (Int.tmod (IntKind.u64.wrap (a2)) (IntKind.u64.wrap (wrap64 ((t514.length : Int) + 1))))) then (if (wrap64 (Int.tmod (IntKind.u64.wrap (a2)) (IntKind.u64.wrap (wrap64 ((t514.length : Int) + 1))))) ≤ (t514.length : Int) then ((some (t514.take ((wrap64 (Int.tmod (IntKind.u64.wrap (a2)) (IntKind.u64.wrap (wrap64 ((t514.length : Int) + 1))))) : Int).toNat : List (S40))).bind fun y521 => (if y518.length + y521.length < 5864062014805 then ((some (y518 ++ y521 : List (S40))).bind fun y525 => (if y525.length < 5864062014805 then ((some (y525 ++ [(⟨a1_0, a1_1⟩ : S40)] : List (S40))).bind fun y528 => ((some (t514.drop ((wrap64 (Int.tmod (IntKind.u64.wrap (a2)) (IntKind.u64.wrap (wrap64 ((t514.length : Int) + 1))))) : Int).toNat : List (S40))).bind fun y531 => (if y528.length + y531.length < 5864062014805 then ((some (y528 ++ y531 : List (S40))).bind fun y535 => (if a0_5 ≥ 0 then (if y535.length < 5864062014805 then (tenancylaw15_Opt6Ignores.j2 kj34 x9_34 (y535 ++ [(⟨13, (⟨#[0, 9, 116, 101, 120, 116]⟩ : ByteArray)⟩ : S40)]) a0_0 a0_1 a0_2 a0_3 l0_4 a0_5 t510 t511) else (none)) else (tenancylaw15_Opt6Ignores.j2 kj34 x9_34 y535 a0_0 a0_1 a0_2 a0_3 l0_4 a0_5 t510 t511))) else (none)))) else (none))) else (none))) else (none)) else (none)) = some r := by first | (rw [hy518]; with_reducible exact H) | (have H2_ := (Option.bind_some _ _).symm.trans H; rw [hy518]; with_reducible exact H2_) | (have H2_ := (Option.bind_some _ _).symm.trans H; with_reducible exact H2_) | with_reducible exact H | (rw [hy518]; exact H) | exact H
                          have Ny518 := Aside0.mk hy518
                          clear hy518
                          obtain ⟨ji48, hji48⟩ : ∃ j_ : Int, (wrap64 (Int.tmod (IntKind.u64.wrap (a2)) (IntKind.u64.wrap (wrap64 ((t514.length : Int) + 1))))) = j_ := ⟨_, rfl⟩
                          replace H : (if 0 ≤ (ji48) then (if (ji48) ≤ (t514.length : Int) then ((some (t514.take ((ji48) : Int).toNat : List (S40))).bind fun y521 => (if y518.length + y521.length < 5864062014805 then ((some (y518 ++ y521 : List (S40))).bind fun y525 => (if y525.length < 5864062014805 then ((some (y525 ++ [(⟨a1_0, a1_1⟩ : S40)] : List (S40))).bind fun y528 => ((some (t514.drop ((ji48) : Int).toNat : List (S40))).bind fun y531 => (if y528.length + y531.length < 5864062014805 then ((some (y528 ++ y531 : List (S40))).bind fun y535 => (if a0_5 ≥ 0 then (if y535.length < 5864062014805 then (tenancylaw15_Opt6Ignores.j2 kj34 x9_34 (y535 ++ [(⟨13, (⟨#[0, 9, 116, 101, 120, 116]⟩ : ByteArray)⟩ : S40)]) a0_0 a0_1 a0_2 a0_3 l0_4 a0_5 t510 t511) else (none)) else (tenancylaw15_Opt6Ignores.j2 kj34 x9_34 y535 a0_0 a0_1 a0_2 a0_3 l0_4 a0_5 t510 t511))) else (none)))) else (none))) else (none))) else (none)) else (none)) = some r := by first | (rw [hji48] at H; exact H) | (simp only [hji48] at H ⊢; exact H)
                          (try rw [hji48] at A42)
                          have hji48w : (IntKind.i64.wrap (Int.tmod (IntKind.u64.wrap (a2)) (IntKind.u64.wrap (wrap64 ((t514.length : Int) + 1))))) = ji48 := (i64_w _).trans hji48
                          by_cases c49 : 0 ≤ (ji48)
                          · rw [if_pos c49] at H
                            have c49b0 := eq_true c49
                            have c49b1 : decide (0 ≤ (ji48)) = true := decide_eq_true c49
                            clear c49
                            by_cases c50 : (ji48) ≤ (t514.length : Int)
                            · rw [if_pos c50] at H
                              have c50b0 := eq_true c50
                              have c50b1 : decide ((ji48) ≤ (t514.length : Int)) = true := decide_eq_true c50
                              clear c50
                              obtain ⟨y521, hy521⟩ : ∃ y_ : List (S40), y_ = (t514.take ((ji48) : Int).toNat) := ⟨_, rfl⟩
                              replace H : (if y518.length + y521.length < 5864062014805 then ((some (y518 ++ y521 : List (S40))).bind fun y525 => (if y525.length < 5864062014805 then ((some (y525 ++ [(⟨a1_0, a1_1⟩ : S40)] : List (S40))).bind fun y528 => ((some (t514.drop ((ji48) : Int).toNat : List (S40))).bind fun y531 => (if y528.length + y531.length < 5864062014805 then ((some (y528 ++ y531 : List (S40))).bind fun y535 => (if a0_5 ≥ 0 then (if y535.length < 5864062014805 then (tenancylaw15_Opt6Ignores.j2 kj34 x9_34 (y535 ++ [(⟨13, (⟨#[0, 9, 116, 101, 120, 116]⟩ : ByteArray)⟩ : S40)]) a0_0 a0_1 a0_2 a0_3 l0_4 a0_5 t510 t511) else (none)) else (tenancylaw15_Opt6Ignores.j2 kj34 x9_34 y535 a0_0 a0_1 a0_2 a0_3 l0_4 a0_5 t510 t511))) else (none)))) else (none))) else (none)) = some r := by first | (rw [hy521]; with_reducible exact H) | (have H2_ := (Option.bind_some _ _).symm.trans H; rw [hy521]; with_reducible exact H2_) | (have H2_ := (Option.bind_some _ _).symm.trans H; with_reducible exact H2_) | with_reducible exact H | (rw [hy521]; exact H) | exact H
                              have Ny521 := Aside0.mk hy521
                              clear hy521
                              by_cases c51 : y518.length + y521.length < 5864062014805
                              · rw [if_pos c51] at H
                                have LMc51 := Aside0.mk c51
                                clear c51
                                obtain ⟨y525, hy525⟩ : ∃ y_ : List (S40), y_ = (y518 ++ y521) := ⟨_, rfl⟩
                                replace H : (if y525.length < 5864062014805 then ((some (y525 ++ [(⟨a1_0, a1_1⟩ : S40)] : List (S40))).bind fun y528 => ((some (t514.drop ((ji48) : Int).toNat : List (S40))).bind fun y531 => (if y528.length + y531.length < 5864062014805 then ((some (y528 ++ y531 : List (S40))).bind fun y535 => (if a0_5 ≥ 0 then (if y535.length < 5864062014805 then (tenancylaw15_Opt6Ignores.j2 kj34 x9_34 (y535 ++ [(⟨13, (⟨#[0, 9, 116, 101, 120, 116]⟩ : ByteArray)⟩ : S40)]) a0_0 a0_1 a0_2 a0_3 l0_4 a0_5 t510 t511) else (none)) else (tenancylaw15_Opt6Ignores.j2 kj34 x9_34 y535 a0_0 a0_1 a0_2 a0_3 l0_4 a0_5 t510 t511))) else (none)))) else (none)) = some r := by first | (rw [hy525]; with_reducible exact H) | (have H2_ := (Option.bind_some _ _).symm.trans H; rw [hy525]; with_reducible exact H2_) | (have H2_ := (Option.bind_some _ _).symm.trans H; with_reducible exact H2_) | with_reducible exact H | (rw [hy525]; exact H) | exact H
                                have Ny525 := Aside0.mk hy525
                                clear hy525
                                by_cases c52 : y525.length < 5864062014805
                                · rw [if_pos c52] at H
                                  have LMc52 := Aside0.mk c52
                                  clear c52
                                  obtain ⟨y528, hy528⟩ : ∃ y_ : List (S40), y_ = (y525 ++ [(⟨a1_0, a1_1⟩ : S40)]) := ⟨_, rfl⟩
                                  replace H : ((some (t514.drop ((ji48) : Int).toNat : List (S40))).bind fun y531 => (if y528.length + y531.length < 5864062014805 then ((some (y528 ++ y531 : List (S40))).bind fun y535 => (if a0_5 ≥ 0 then (if y535.length < 5864062014805 then (tenancylaw15_Opt6Ignores.j2 kj34 x9_34 (y535 ++ [(⟨13, (⟨#[0, 9, 116, 101, 120, 116]⟩ : ByteArray)⟩ : S40)]) a0_0 a0_1 a0_2 a0_3 l0_4 a0_5 t510 t511) else (none)) else (tenancylaw15_Opt6Ignores.j2 kj34 x9_34 y535 a0_0 a0_1 a0_2 a0_3 l0_4 a0_5 t510 t511))) else (none))) = some r := by first | (rw [hy528]; with_reducible exact H) | (have H2_ := (Option.bind_some _ _).symm.trans H; rw [hy528]; with_reducible exact H2_) | (have H2_ := (Option.bind_some _ _).symm.trans H; with_reducible exact H2_) | with_reducible exact H | (rw [hy528]; exact H) | exact H
                                  have Ny528 := Aside0.mk hy528
                                  clear hy528
                                  have c53b0 := eq_true (of_decide_eq_true (by first | (with_reducible assumption) | assumption) : 0 ≤ (ji48))
                                  have c54b0 := eq_true (of_decide_eq_true (by first | (with_reducible assumption) | assumption) : (ji48) ≤ (t514.length : Int))
                                  obtain ⟨y531, hy531⟩ : ∃ y_ : List (S40), y_ = (t514.drop ((ji48) : Int).toNat) := ⟨_, rfl⟩
                                  replace H : (if y528.length + y531.length < 5864062014805 then ((some (y528 ++ y531 : List (S40))).bind fun y535 => (if a0_5 ≥ 0 then (if y535.length < 5864062014805 then (tenancylaw15_Opt6Ignores.j2 kj34 x9_34 (y535 ++ [(⟨13, (⟨#[0, 9, 116, 101, 120, 116]⟩ : ByteArray)⟩ : S40)]) a0_0 a0_1 a0_2 a0_3 l0_4 a0_5 t510 t511) else (none)) else (tenancylaw15_Opt6Ignores.j2 kj34 x9_34 y535 a0_0 a0_1 a0_2 a0_3 l0_4 a0_5 t510 t511))) else (none)) = some r := by first | (rw [hy531]; with_reducible exact H) | (have H2_ := (Option.bind_some _ _).symm.trans H; rw [hy531]; with_reducible exact H2_) | (have H2_ := (Option.bind_some _ _).symm.trans H; with_reducible exact H2_) | with_reducible exact H | (rw [hy531]; exact H) | exact H
                                  have Ny531 := Aside0.mk hy531
                                  clear hy531
                                  by_cases c55 : y528.length + y531.length < 5864062014805
                                  · rw [if_pos c55] at H
                                    have LMc55 := Aside0.mk c55
                                    clear c55
                                    obtain ⟨y535, hy535⟩ : ∃ y_ : List (S40), y_ = (y528 ++ y531) := ⟨_, rfl⟩
                                    replace H : (if a0_5 ≥ 0 then (if y535.length < 5864062014805 then (tenancylaw15_Opt6Ignores.j2 kj34 x9_34 (y535 ++ [(⟨13, (⟨#[0, 9, 116, 101, 120, 116]⟩ : ByteArray)⟩ : S40)]) a0_0 a0_1 a0_2 a0_3 l0_4 a0_5 t510 t511) else (none)) else (tenancylaw15_Opt6Ignores.j2 kj34 x9_34 y535 a0_0 a0_1 a0_2 a0_3 l0_4 a0_5 t510 t511)) = some r := by first | (rw [hy535]; with_reducible exact H) | (have H2_ := (Option.bind_some _ _).symm.trans H; rw [hy535]; with_reducible exact H2_) | (have H2_ := (Option.bind_some _ _).symm.trans H; with_reducible exact H2_) | with_reducible exact H | (rw [hy535]; exact H) | exact H
                                    have Ny535 := Aside0.mk hy535
                                    clear hy535
                                    have HC56 := Aside0.mk H
                                    clear H
                                    have hnb57 := NB513_507.out
                                    have hnc57 := NB507_513.out
                                    have hnb58 := NB513_508.out
                                    have hnc58 := NB508_513.out
                                    obtain ⟨hcz59_0, hcz59_1⟩ := XRun.bc2 BK513.out
                                    obtain ⟨hfz59_0, hfz59_1⟩ := XRun.bf2 BK513.out
                                    go_upto_if 86 with (first | ((with_reducible refine gate_callee (f := 10) rfl ?_); refine goesL_ (some 53) rfl rfl Try.func10 (by kernel_rfl) rfl #[.string (t511.extract (x9_34 : Int).toNat t511.size)] rfl (by (try simp only [List.map_toArray, List.map_cons, List.map_nil]); first | done | rfl | (simp only [List.length_drop, List.length_take]; rfl)) ?_; (with_reducible refine (opt6_Parse.calls kj34 (t511.extract (x9_34 : Int).toNat t511.size) t514 t515 _ A42.out).mono ?_); rintro e w60 ⟨v516, rfl, ho0, hb⟩; refine ⟨_, rfl, ?_⟩; have n0_ := Aside0.mk (Kd.R_lower (Kd.R_newB (Kd.R_newB ho0 (g := gb508) (o := .cells #[.int .u16 a1_0, .string a1_1] 40 (0, 0)) (by (with_reducible repeat (first | refine blk_drewN ?_ _ | refine blk_drew ?_ | refine blk_alloc ?_ _)); exact BK508.out)) (g := gb513) (o := .cells #[.int .u16 t510, .string t511] 40 (0, 0)) (by (with_reducible repeat (first | refine blk_drewN ?_ _ | refine blk_drew ?_ | refine blk_alloc ?_ _)); exact BK513.out)) (below_size (by repeat (first | (with_reducible first | exact HB.out | apply below_alloc | apply pw_below_drewN | apply below_drew1 | refine below_set ?_ GE507.out | refine below_set ?_ GE508.out | refine below_set ?_ GE513.out) | exact HB.out)))); have n1_ := Aside0.mk (blk_below (g := gb507) (o := .cells #[.int .i64 a0_0, .int .u32 a0_1, .int .u32 a0_2, .int .u32 a0_3, .slice A0_4 l0_4.length c0_4, .int .i64 a0_5] 37 (0, 0)) (by (with_reducible repeat (first | refine blk_drewN ?_ _ | refine blk_drew ?_ | refine blk_alloc ?_ _)); exact BK507.out) hb); have n2_ := Aside0.mk (blk_below (g := gb508) (o := .cells #[.int .u16 a1_0, .string a1_1] 40 (0, 0)) (by (with_reducible repeat (first | refine blk_drewN ?_ _ | refine blk_drew ?_ | refine blk_alloc ?_ _)); exact BK508.out) hb); have n3_ := Aside0.mk (blk_below (g := gb513) (o := .cells #[.int .u16 t510, .string t511] 40 (0, 0)) (by (with_reducible repeat (first | refine blk_drewN ?_ _ | refine blk_drew ?_ | refine blk_alloc ?_ _)); exact BK513.out) hb); have n4_ := Aside0.mk (below_step (by repeat (first | (with_reducible first | exact HB.out | apply below_alloc | apply pw_below_drewN | apply below_drew1 | refine below_set ?_ GE507.out | refine below_set ?_ GE508.out | refine below_set ?_ GE513.out) | exact HB.out)) hb); clear BK507; clear BK508; clear BK513; clear HB; have HO517 := n0_; have BK507 := n1_; have BK508 := n2_; have BK513 := n3_; have HB := n4_; clear n0_ n1_ n2_ n3_ n4_; (try clear hb); (try clear hb2); (try clear hk); (try clear hi); (try clear ho0); obtain ⟨Ao61, co61, eo61⟩ := Kd.R_slice HO517.out; subst eo61) | ((with_reducible refine gate_dst (N := 69) rfl ?_); (try (refine gate_guard (by rfl) ?_; dsimp only)); refine XRun.R_make0 k40 _ 40 rfl (N := 69) rfl 22 _ _ rfl ji45 rfl rfl Try.underlying22 (.agg #[(.int .u16 0), (.string ⟨#[]⟩)]) 24 info40 rfl (by decide) (by omega) z40 (ok := fun _ => True) (okp := fun _ => True) (k40_mkM _ _ _ z40 ) (fun _ hk => hk) trivial (of_decide_eq_true (by first | (with_reducible assumption) | assumption)) (Nat.le_trans (Nat.mul_le_mul_right _ (of_decide_eq_true (by first | (with_reducible assumption) | assumption) : ji45.toNat ≤ 11728124029610)) (by omega)) (Below.refl _ _) (Nat.le_refl _) ?_; intro v519 w62 ho63 hb hg_ hnew_; clear hg_ hnew_; (first | rw [← Ny518.out] at ho63 | (simp only [Int.reduceToNat] at ho63; rw [← Ny518.out] at ho63)); have n0_ := Aside0.mk (Kd.R_elder' (by (with_reducible repeat (first | apply Kd.R_alloc | apply Kd.R_drewN | apply Kd.R_drew)); exact HO517.out) (Kd.R_base ho63) hb); have n1_ := Aside0.mk (Kd.R_lower (Kd.R_newB (Kd.R_newB (Kd.R_new' ho63 (Kd.R_lt (by (with_reducible repeat (first | apply Kd.R_alloc | apply Kd.R_drewN | apply Kd.R_drew)); exact HO517.out))) (g := gb508) (o := .cells #[.int .u16 a1_0, .string a1_1] 40 (0, 0)) (by (with_reducible repeat (first | refine blk_drewN ?_ _ | refine blk_drew ?_ | refine blk_alloc ?_ _)); exact BK508.out)) (g := gb513) (o := .cells #[.int .u16 t510, .string t511] 40 (0, 0)) (by (with_reducible repeat (first | refine blk_drewN ?_ _ | refine blk_drew ?_ | refine blk_alloc ?_ _)); exact BK513.out)) (below_size (by repeat (first | (with_reducible first | exact HB.out | apply below_alloc | apply pw_below_drewN | apply below_drew1 | refine below_set ?_ GE507.out | refine below_set ?_ GE508.out | refine below_set ?_ GE513.out) | exact HB.out)))); have n2_ := Aside0.mk (blk_below (g := gb507) (o := .cells #[.int .i64 a0_0, .int .u32 a0_1, .int .u32 a0_2, .int .u32 a0_3, .slice A0_4 l0_4.length c0_4, .int .i64 a0_5] 37 (0, 0)) (by (with_reducible repeat (first | refine blk_drewN ?_ _ | refine blk_drew ?_ | refine blk_alloc ?_ _)); exact BK507.out) hb); have n3_ := Aside0.mk (blk_below (g := gb508) (o := .cells #[.int .u16 a1_0, .string a1_1] 40 (0, 0)) (by (with_reducible repeat (first | refine blk_drewN ?_ _ | refine blk_drew ?_ | refine blk_alloc ?_ _)); exact BK508.out) hb); have n4_ := Aside0.mk (blk_below (g := gb513) (o := .cells #[.int .u16 t510, .string t511] 40 (0, 0)) (by (with_reducible repeat (first | refine blk_drewN ?_ _ | refine blk_drew ?_ | refine blk_alloc ?_ _)); exact BK513.out) hb); have n5_ := Aside0.mk (below_step (by repeat (first | (with_reducible first | exact HB.out | apply below_alloc | apply pw_below_drewN | apply below_drew1 | refine below_set ?_ GE507.out | refine below_set ?_ GE508.out | refine below_set ?_ GE513.out) | exact HB.out)) hb); clear HO517; clear BK507; clear BK508; clear BK513; clear HB; have HO517 := n0_; have HO520 := n1_; have BK507 := n2_; have BK508 := n3_; have BK513 := n4_; have HB := n5_; clear n0_ n1_ n2_ n3_ n4_ n5_; clear hb ho63; have q64 : ((ji48) : Int) ≤ ((t514.length : Int) : Int) := of_decide_eq_true (by first | (with_reducible assumption) | assumption); obtain ⟨i064, hi064, _, hsz64, _⟩ := info_parts info40; have hroom64 : t514.length ≤ co61 := (Kd.R_reads' HO517.out).2.1; have hC64 : Kd.C k40 _ Ao61 t514.length t514 := (Kd.R_reads' HO517.out).2.2; have hcut64 := cut_to (P := Try.prog) 22 40 .i64 Try.underlying22 hi064 Ao61 t514.length co61 (ji48) (of_decide_eq_true (by first | (with_reducible assumption) | assumption)) q64 hroom64; have hr64 := Kd.C_take (m := ((ji48) : Int).toNat) hC64 (by omega); have hy64 : y521.length = ((ji48) : Int).toNat := (by rw [Ny521.out, List.length_take]; omega); rw [← Ny521.out] at hr64; rw [← hy64] at hcut64; have HR524 := Aside0.mk hr64; have HC524 := Aside0.mk (show y521.length ≤ co61 from by omega); clear hr64 hC64 hroom64 hi064 hsz64; have KY64 := Aside0.mk hy64; clear hy64; have KL64 := Aside0.mk (show ((ji48) : Int).toNat ≤ t514.length from by omega); replace q64 := eq_true q64) | ((with_reducible refine gate_builtin (b := .append) (xs := #[.tmp 70, .tmp 73]) rfl ?_); (try (refine gate_guard (by rfl) ?_; dsimp only)); at_builtin; refine Kd.R_append_rows k40 (w0 := w) w.heap.size rfl (.tmp 70) (.tmp 73) 22 40 (.agg #[(.int .u16 0), (.string ⟨#[]⟩)]) 24 rfl Try.underlying22 info40 rfl (by decide) (by omega) v519 y518 y521 _ _ _ (fun k_ => some k_ ≠ (.slice Ao61 t514.length co61 : Value).ownBlock ∧ k_ ≠ gb508 ∧ k_ ≠ gb513) (fun _ => False) rfl rfl ?aO ?aR (fun _ _ h => h) (fun _ h => h.elim) ?aF ?aB ?aS ?aL ?_; (case aR => repeat (first | exact (by repeat (first | (with_reducible exact HR524.out) | (with_reducible refine Kd.C_alloc ?_ _) | (with_reducible refine Kd.C_drewN ?_ _) | (with_reducible refine Kd.C_drew ?_) | exact HR524.out)) | (with_reducible refine Kd.C_alloc ?_ _) | (with_reducible refine Kd.C_drewN ?_ _) | (with_reducible refine Kd.C_drew ?_))); (case aB => exact (by repeat (first | (with_reducible first | exact HB.out | apply below_alloc | apply pw_below_drewN | apply below_drew1 | refine below_set ?_ GE507.out | refine below_set ?_ GE508.out | refine below_set ?_ GE513.out) | exact HB.out))); (case aF => exact (fun k_ hk => ⟨Kd.fresh' (Kd.R_lt (by (with_reducible repeat (first | apply Kd.R_alloc | apply Kd.R_drewN | apply Kd.R_drew)); exact HO517.out)) k_ hk, Kd.freshB (g := gb508) (o := .cells #[.int .u16 a1_0, .string a1_1] 40 (0, 0)) (by (with_reducible repeat (first | refine blk_drewN ?_ _ | refine blk_drew ?_ | refine blk_alloc ?_ _)); exact BK508.out) k_ hk, Kd.freshB (g := gb513) (o := .cells #[.int .u16 t510, .string t511] 40 (0, 0)) (by (with_reducible repeat (first | refine blk_drewN ?_ _ | refine blk_drew ?_ | refine blk_alloc ?_ _)); exact BK513.out) k_ hk⟩)); (case aO => exact (by (with_reducible repeat (first | apply Kd.R_alloc | apply Kd.R_drewN | apply Kd.R_drew)); exact Kd.R_mono HO520.out (fun _ hk => ⟨hk.1.1.2, ⟨hk.1.2, hk.2⟩⟩))); (case aS => exact (below_size (by repeat (first | (with_reducible first | exact HB.out | apply below_alloc | apply pw_below_drewN | apply below_drew1 | refine below_set ?_ GE507.out | refine below_set ?_ GE508.out | refine below_set ?_ GE513.out) | exact HB.out)))); (case aL => have := LMc51.out; omega); intro v526 w65 ho hb hg hat; rw [← Ny525.out] at ho; have n0_ := Aside0.mk (blk_grown (g := gb507) (o := .cells #[.int .i64 a0_0, .int .u32 a0_1, .int .u32 a0_2, .int .u32 a0_3, .slice A0_4 l0_4.length c0_4, .int .i64 a0_5] 37 (0, 0)) (by (with_reducible repeat (first | refine blk_drewN ?_ _ | refine blk_drew ?_ | refine blk_alloc ?_ _)); exact BK507.out) hg (Kd.R_ne HO520.out BK507.out (by decide))); have n1_ := Aside0.mk (blk_grown (g := gb508) (o := .cells #[.int .u16 a1_0, .string a1_1] 40 (0, 0)) (by (with_reducible repeat (first | refine blk_drewN ?_ _ | refine blk_drew ?_ | refine blk_alloc ?_ _)); exact BK508.out) hg (Kd.R_away HO520.out (fun _ hk => hk.1.2))); have n2_ := Aside0.mk (blk_grown (g := gb513) (o := .cells #[.int .u16 t510, .string t511] 40 (0, 0)) (by (with_reducible repeat (first | refine blk_drewN ?_ _ | refine blk_drew ?_ | refine blk_alloc ?_ _)); exact BK513.out) hg (Kd.R_away HO520.out (fun _ hk => hk.2))); have n3_ := Aside0.mk (Kd.R_after (ok := (fun k_ => k_ ≠ gb508 ∧ k_ ≠ gb513)) (by (with_reducible repeat (first | apply Kd.R_alloc | apply Kd.R_drewN | apply Kd.R_drew)); exact Kd.R_mono HO517.out (fun _ hk => ⟨⟨hk.1.1.2, hk.1.2⟩, hk.2⟩)) hg hat); have n4_ := Aside0.mk (hb); have n5_ := Aside0.mk ((show Kd.C k40 w65 Ao61 y521.length y521 from by rw [Ny521.out]; exact Kd.C_take (m := ((ji48) : Int).toNat) ((Kd.R_reads' (Kd.R_after (ok := (fun k_ => k_ ≠ gb508 ∧ k_ ≠ gb513)) (by (with_reducible repeat (first | apply Kd.R_alloc | apply Kd.R_drewN | apply Kd.R_drew)); exact Kd.R_mono HO517.out (fun _ hk => ⟨⟨hk.1.1.2, hk.1.2⟩, hk.2⟩)) hg hat)).2.2) KL64.out)); have n6_ := Aside0.mk (ho); clear BK507; clear BK508; clear BK513; clear HO517; clear HB; clear HR524; clear HO520; have BK507 := n0_; have BK508 := n1_; have BK513 := n2_; have HO517 := n3_; have HB := n4_; have HR524 := n5_; have HO527 := n6_; clear n0_ n1_ n2_ n3_ n4_ n5_ n6_; clear ho hb hg hat; have hnb66 := NB508_507.out; have hnc66 := NB507_508.out; obtain ⟨hcz67_0, hcz67_1⟩ := XRun.bc2 BK508.out; obtain ⟨hfz67_0, hfz67_1⟩ := XRun.bf2 BK508.out) | ((with_reducible refine gate_builtin (b := .append) (xs := #[.tmp 75, .tmp 77]) rfl ?_); (try (refine gate_guard (by rfl) ?_; dsimp only)); at_builtin; refine Kd.R_append k40 (w0 := w) w.heap.size rfl (.tmp 75) (.tmp 77) 22 40 (.agg #[(.int .u16 0), (.string ⟨#[]⟩)]) 24 rfl Try.underlying22 info40 rfl (by decide) (by omega) v526 y525 (⟨a1_0, a1_1⟩ : S40) [.int .u16 a1_0, .string a1_1] (fun k_ => some k_ ≠ (.slice Ao61 t514.length co61 : Value).ownBlock ∧ k_ ≠ gb508 ∧ k_ ≠ gb513) (fun _ => False) rfl rfl ?aP (fun _ hk => hk.elim) ?aF ?aO ?aB ?aS ?aL ?_; (case aP => exact k40_mkM _ _ _ (⟨a1_0, a1_1⟩ : S40)); (case aB => exact (by repeat (first | (with_reducible first | exact HB.out | apply below_alloc | apply pw_below_drewN | apply below_drew1 | refine below_set ?_ GE507.out | refine below_set ?_ GE508.out | refine below_set ?_ GE513.out) | exact HB.out))); (case aF => exact (fun k_ hk => ⟨Kd.fresh' (Kd.R_lt (by (with_reducible repeat (first | apply Kd.R_alloc | apply Kd.R_drewN | apply Kd.R_drew)); exact HO517.out)) k_ hk, Kd.freshB (g := gb508) (o := .cells #[.int .u16 a1_0, .string a1_1] 40 (0, 0)) (by (with_reducible repeat (first | refine blk_drewN ?_ _ | refine blk_drew ?_ | refine blk_alloc ?_ _)); exact BK508.out) k_ hk, Kd.freshB (g := gb513) (o := .cells #[.int .u16 t510, .string t511] 40 (0, 0)) (by (with_reducible repeat (first | refine blk_drewN ?_ _ | refine blk_drew ?_ | refine blk_alloc ?_ _)); exact BK513.out) k_ hk⟩)); (case aO => exact (by (with_reducible repeat (first | apply Kd.R_alloc | apply Kd.R_drewN | apply Kd.R_drew)); exact HO527.out)); (case aS => exact (below_size (by repeat (first | (with_reducible first | exact HB.out | apply below_alloc | apply pw_below_drewN | apply below_drew1 | refine below_set ?_ GE507.out | refine below_set ?_ GE508.out | refine below_set ?_ GE513.out) | exact HB.out)))); (case aL => have := LMc52.out; omega); intro v529 w68 ho hb hg hat; rw [← Ny528.out] at ho; have n0_ := Aside0.mk (blk_grown (g := gb507) (o := .cells #[.int .i64 a0_0, .int .u32 a0_1, .int .u32 a0_2, .int .u32 a0_3, .slice A0_4 l0_4.length c0_4, .int .i64 a0_5] 37 (0, 0)) (by (with_reducible repeat (first | refine blk_drewN ?_ _ | refine blk_drew ?_ | refine blk_alloc ?_ _)); exact BK507.out) hg (Kd.R_ne HO527.out BK507.out (by decide))); have n1_ := Aside0.mk (blk_grown (g := gb508) (o := .cells #[.int .u16 a1_0, .string a1_1] 40 (0, 0)) (by (with_reducible repeat (first | refine blk_drewN ?_ _ | refine blk_drew ?_ | refine blk_alloc ?_ _)); exact BK508.out) hg (Kd.R_away HO527.out (fun _ hk => hk.2.1))); have n2_ := Aside0.mk (blk_grown (g := gb513) (o := .cells #[.int .u16 t510, .string t511] 40 (0, 0)) (by (with_reducible repeat (first | refine blk_drewN ?_ _ | refine blk_drew ?_ | refine blk_alloc ?_ _)); exact BK513.out) hg (Kd.R_away HO527.out (fun _ hk => hk.2.2))); have n3_ := Aside0.mk (Kd.R_after (ok := (fun k_ => k_ ≠ gb508 ∧ k_ ≠ gb513)) (by (with_reducible repeat (first | apply Kd.R_alloc | apply Kd.R_drewN | apply Kd.R_drew)); exact HO517.out) hg hat); have n4_ := Aside0.mk (hb); have n5_ := Aside0.mk ((show Kd.C k40 w68 Ao61 y521.length y521 from by rw [Ny521.out]; exact Kd.C_take (m := ((ji48) : Int).toNat) ((Kd.R_reads' (Kd.R_after (ok := (fun k_ => k_ ≠ gb508 ∧ k_ ≠ gb513)) (by (with_reducible repeat (first | apply Kd.R_alloc | apply Kd.R_drewN | apply Kd.R_drew)); exact HO517.out) hg hat)).2.2) KL64.out)); have n6_ := Aside0.mk (ho); clear BK507; clear BK508; clear BK513; clear HO517; clear HB; clear HR524; clear HO527; have BK507 := n0_; have BK508 := n1_; have BK513 := n2_; have HO517 := n3_; have HB := n4_; have HR524 := n5_; have HO530 := n6_; clear n0_ n1_ n2_ n3_ n4_ n5_ n6_; clear ho hb hg hat; have q69 : ((ji48) : Int) ≤ ((t514.length : Int) : Int) := of_decide_eq_true (by first | (with_reducible assumption) | assumption); obtain ⟨i069, hi069, _, hsz69, _⟩ := info_parts info40; have hroom69 : t514.length ≤ co61 := (Kd.R_reads' HO517.out).2.1; have hC69 : Kd.C k40 _ Ao61 t514.length t514 := (Kd.R_reads' HO517.out).2.2; have q069 : (0 : Int) ≤ ((ji48) : Int) := of_decide_eq_true (by first | (with_reducible assumption) | assumption); (try clear hcut64); have hcut69 := cut_from (P := Try.prog) 22 40 .i64 Try.underlying22 hi069 2 hsz69 Ao61 t514.length co61 (ji48) q069 q69; have hr69 := Kd.C_drop (m := ((ji48) : Int).toNat) (c := co61) hC69 (by omega) hroom69; obtain ⟨A69, hA69⟩ : ∃ A1, A1 = (if co61 = ((ji48) : Int).toNat then Ao61 else (Ao61 : Option Addr).map (·.add (((ji48) : Int).toNat * 2))) := ⟨_, rfl⟩; obtain ⟨c69, hc69⟩ : ∃ c1, c1 = co61 - ((ji48) : Int).toNat := ⟨_, rfl⟩; have hy69 : y531.length = t514.length - ((ji48) : Int).toNat := (by rw [Ny531.out, List.length_drop] <;> omega); rw [show (t514).drop ((ji48) : Int).toNat = y531 from Ny531.out.symm] at hr69; replace hr69 : Kd.C k40 _ A69 y531.length y531 := (by rw [hA69]; exact hr69); rw [← hy69, ← hA69, ← hc69] at hcut69; have HR534 := Aside0.mk hr69; have HC534 := Aside0.mk (show y531.length ≤ c69 from by rw [hy69, hc69]; exact Nat.sub_le_sub_right hroom69 _); clear hr69 hC69 hroom69 hi069 hsz69 hc69; have KY69 := Aside0.mk hy69; have KA69 := Aside0.mk hA69; clear hy69 hA69; have KL69 := Aside0.mk (show ((ji48) : Int).toNat ≤ t514.length from by omega); replace q69 := eq_true q69) | ((with_reducible refine gate_builtin (b := .append) (xs := #[.tmp 79, .tmp 82]) rfl ?_); (try (refine gate_guard (by rfl) ?_; dsimp only)); at_builtin; refine Kd.R_append_rows k40 (w0 := w) w.heap.size rfl (.tmp 79) (.tmp 82) 22 40 (.agg #[(.int .u16 0), (.string ⟨#[]⟩)]) 24 rfl Try.underlying22 info40 rfl (by decide) (by omega) v529 y528 y531 _ _ _ (fun k_ => some k_ ≠ (.slice Ao61 t514.length co61 : Value).ownBlock ∧ k_ ≠ gb508 ∧ k_ ≠ gb513) (fun _ => False) rfl rfl ?aO ?aR (fun _ _ h => h) (fun _ h => h.elim) ?aF ?aB ?aS ?aL ?_; (case aR => repeat (first | exact (by repeat (first | (with_reducible exact HR534.out) | (with_reducible refine Kd.C_alloc ?_ _) | (with_reducible refine Kd.C_drewN ?_ _) | (with_reducible refine Kd.C_drew ?_) | exact HR534.out)) | (with_reducible refine Kd.C_alloc ?_ _) | (with_reducible refine Kd.C_drewN ?_ _) | (with_reducible refine Kd.C_drew ?_))); (case aB => exact (by repeat (first | (with_reducible first | exact HB.out | apply below_alloc | apply pw_below_drewN | apply below_drew1 | refine below_set ?_ GE507.out | refine below_set ?_ GE508.out | refine below_set ?_ GE513.out) | exact HB.out))); (case aF => exact (fun k_ hk => ⟨Kd.fresh' (Kd.R_lt (by (with_reducible repeat (first | apply Kd.R_alloc | apply Kd.R_drewN | apply Kd.R_drew)); exact HO517.out)) k_ hk, Kd.freshB (g := gb508) (o := .cells #[.int .u16 a1_0, .string a1_1] 40 (0, 0)) (by (with_reducible repeat (first | refine blk_drewN ?_ _ | refine blk_drew ?_ | refine blk_alloc ?_ _)); exact BK508.out) k_ hk, Kd.freshB (g := gb513) (o := .cells #[.int .u16 t510, .string t511] 40 (0, 0)) (by (with_reducible repeat (first | refine blk_drewN ?_ _ | refine blk_drew ?_ | refine blk_alloc ?_ _)); exact BK513.out) k_ hk⟩)); (case aO => exact (by (with_reducible repeat (first | apply Kd.R_alloc | apply Kd.R_drewN | apply Kd.R_drew)); exact HO530.out)); (case aS => exact (below_size (by repeat (first | (with_reducible first | exact HB.out | apply below_alloc | apply pw_below_drewN | apply below_drew1 | refine below_set ?_ GE507.out | refine below_set ?_ GE508.out | refine below_set ?_ GE513.out) | exact HB.out)))); (case aL => have := LMc55.out; omega); intro v536 w70 ho hb hg hat; rw [← Ny535.out] at ho; have n0_ := Aside0.mk (blk_grown (g := gb507) (o := .cells #[.int .i64 a0_0, .int .u32 a0_1, .int .u32 a0_2, .int .u32 a0_3, .slice A0_4 l0_4.length c0_4, .int .i64 a0_5] 37 (0, 0)) (by (with_reducible repeat (first | refine blk_drewN ?_ _ | refine blk_drew ?_ | refine blk_alloc ?_ _)); exact BK507.out) hg (Kd.R_ne HO530.out BK507.out (by decide))); have n1_ := Aside0.mk (blk_grown (g := gb508) (o := .cells #[.int .u16 a1_0, .string a1_1] 40 (0, 0)) (by (with_reducible repeat (first | refine blk_drewN ?_ _ | refine blk_drew ?_ | refine blk_alloc ?_ _)); exact BK508.out) hg (Kd.R_away HO530.out (fun _ hk => hk.2.1))); have n2_ := Aside0.mk (blk_grown (g := gb513) (o := .cells #[.int .u16 t510, .string t511] 40 (0, 0)) (by (with_reducible repeat (first | refine blk_drewN ?_ _ | refine blk_drew ?_ | refine blk_alloc ?_ _)); exact BK513.out) hg (Kd.R_away HO530.out (fun _ hk => hk.2.2))); have n3_ := Aside0.mk (Kd.R_after (ok := (fun k_ => k_ ≠ gb508 ∧ k_ ≠ gb513)) (by (with_reducible repeat (first | apply Kd.R_alloc | apply Kd.R_drewN | apply Kd.R_drew)); exact HO517.out) hg hat); have n4_ := Aside0.mk (hb); have n5_ := Aside0.mk ((show Kd.C k40 w70 Ao61 y521.length y521 from by rw [Ny521.out]; exact Kd.C_take (m := ((ji48) : Int).toNat) ((Kd.R_reads' (Kd.R_after (ok := (fun k_ => k_ ≠ gb508 ∧ k_ ≠ gb513)) (by (with_reducible repeat (first | apply Kd.R_alloc | apply Kd.R_drewN | apply Kd.R_drew)); exact HO517.out) hg hat)).2.2) KL64.out)); have n6_ := Aside0.mk ((show Kd.C k40 w70 A69 y531.length y531 from by rw [Ny531.out, KA69.out]; exact Kd.C_drop (m := ((ji48) : Int).toNat) (c := co61) ((Kd.R_reads' (Kd.R_after (ok := (fun k_ => k_ ≠ gb508 ∧ k_ ≠ gb513)) (by (with_reducible repeat (first | apply Kd.R_alloc | apply Kd.R_drewN | apply Kd.R_drew)); exact HO517.out) hg hat)).2.2) KL69.out ((Kd.R_reads' (Kd.R_after (ok := (fun k_ => k_ ≠ gb508 ∧ k_ ≠ gb513)) (by (with_reducible repeat (first | apply Kd.R_alloc | apply Kd.R_drewN | apply Kd.R_drew)); exact HO517.out) hg hat)).2.1))); have n7_ := Aside0.mk (ho); clear BK507; clear BK508; clear BK513; clear HO517; clear HB; clear HR524; clear HR534; clear HO530; have BK507 := n0_; have BK508 := n1_; have BK513 := n2_; have HO517 := n3_; have HB := n4_; have HR524 := n5_; have HR534 := n6_; have HO537 := n7_; clear n0_ n1_ n2_ n3_ n4_ n5_ n6_ n7_; clear ho hb hg hat; obtain ⟨hcz71_0, hcz71_1, hcz71_2, hcz71_3, hcz71_4, hcz71_5⟩ := XRun.bc6 BK507.out; obtain ⟨hfz71_0, hfz71_1, hfz71_2, hfz71_3, hfz71_4, hfz71_5⟩ := XRun.bf6 BK507.out))
                                    (try simp only [Act.put, List.setIfInBounds_toArray, List.set_cons_zero, List.set_cons_succ])
                                    go_cut [12] (fun v12 wc => ∃ (kq : Nat) (x12_55 : List (S40)), Aside0 (tenancylaw15_Opt6Ignores.j2 kq x9_34 x12_55 a0_0 a0_1 a0_2 a0_3 l0_4 a0_5 t510 t511 = some r) ∧ Aside0 (kq ≤ kj34) ∧ Aside0 (Kd.R k40 40 wc w.heap.size (fun k_ => k_ ≠ gb508 ∧ k_ ≠ gb513) v12 x12_55) ∧ Aside0 (wc.heap[gb507]? = some (.cells #[.int .i64 a0_0, .int .u32 a0_1, .int .u32 a0_2, .int .u32 a0_3, (.slice A0_4 l0_4.length c0_4), .int .i64 a0_5] 37 (0, 0))) ∧ Aside0 (wc.heap[gb508]? = some (.cells #[.int .u16 a1_0, .string a1_1] 40 (0, 0))) ∧ Aside0 (wc.heap[gb513]? = some (.cells #[.int .u16 t510, .string t511] 40 (0, 0))) ∧ Aside0 (Kd.C k40 wc Ao61 y521.length y521) ∧ Aside0 (Kd.C k40 wc A69 y531.length y531) ∧ Aside0 (Below w.heap.size w wc))
                                    case first =>
                                      have H := HC56.out
                                      clear HC56
                                      by_cases c72 : a0_5 ≥ 0
                                      · rw [if_pos c72] at H
                                        have c72b0 : decide (0 ≤ a0_5) = true := decide_eq_true c72
                                        clear c72
                                        (first | rw [c72b0] | (simp only [i64_w, i32_w]; rw [c72b0]) | skip)
                                        by_cases c73 : y535.length < 5864062014805
                                        · rw [if_pos c73] at H
                                          have LMc73 := Aside0.mk c73
                                          clear c73
                                          obtain ⟨y538, hy538⟩ : ∃ y_ : List (S40), y_ = (y535 ++ [(⟨13, (⟨#[0, 9, 116, 101, 120, 116]⟩ : ByteArray)⟩ : S40)]) := ⟨_, rfl⟩
                                          replace H : (tenancylaw15_Opt6Ignores.j2 kj34 x9_34 y538 a0_0 a0_1 a0_2 a0_3 l0_4 a0_5 t510 t511) = some r := by first | (rw [hy538]; with_reducible exact H) | (have H2_ := (Option.bind_some _ _).symm.trans H; rw [hy538]; with_reducible exact H2_) | (have H2_ := (Option.bind_some _ _).symm.trans H; with_reducible exact H2_) | with_reducible exact H | (rw [hy538]; exact H) | exact H
                                          have Ny538 := Aside0.mk hy538
                                          clear hy538
                                          have H' := Aside0.mk H
                                          clear H
                                          go_wp2_with (first | ((with_reducible refine gate_builtin (b := .append) (xs := #[.tmp 87, .tmp 89]) rfl ?_); (try (refine gate_guard (by rfl) ?_; dsimp only)); at_builtin; refine Kd.R_append k40 (w0 := w) w.heap.size rfl (.tmp 87) (.tmp 89) 22 40 (.agg #[(.int .u16 0), (.string ⟨#[]⟩)]) 24 rfl Try.underlying22 info40 rfl (by decide) (by omega) v536 y535 (⟨13, (⟨#[0, 9, 116, 101, 120, 116]⟩ : ByteArray)⟩ : S40) [.int .u16 13, .string (⟨#[0, 9, 116, 101, 120, 116]⟩ : ByteArray)] (fun k_ => some k_ ≠ (.slice Ao61 t514.length co61 : Value).ownBlock ∧ k_ ≠ gb508 ∧ k_ ≠ gb513) (fun _ => False) rfl rfl ?aP (fun _ hk => hk.elim) ?aF ?aO ?aB ?aS ?aL ?_; (case aP => exact k40_mkM _ _ _ (⟨13, (⟨#[0, 9, 116, 101, 120, 116]⟩ : ByteArray)⟩ : S40)); (case aB => exact (by repeat (first | (with_reducible first | exact HB.out | apply below_alloc | apply pw_below_drewN | apply below_drew1 | refine below_set ?_ GE507.out | refine below_set ?_ GE508.out | refine below_set ?_ GE513.out) | exact HB.out))); (case aF => exact (fun k_ hk => ⟨Kd.fresh' (Kd.R_lt (by (with_reducible repeat (first | apply Kd.R_alloc | apply Kd.R_drewN | apply Kd.R_drew)); exact HO517.out)) k_ hk, Kd.freshB (g := gb508) (o := .cells #[.int .u16 a1_0, .string a1_1] 40 (0, 0)) (by (with_reducible repeat (first | refine blk_drewN ?_ _ | refine blk_drew ?_ | refine blk_alloc ?_ _)); exact BK508.out) k_ hk, Kd.freshB (g := gb513) (o := .cells #[.int .u16 t510, .string t511] 40 (0, 0)) (by (with_reducible repeat (first | refine blk_drewN ?_ _ | refine blk_drew ?_ | refine blk_alloc ?_ _)); exact BK513.out) k_ hk⟩)); (case aO => exact (by (with_reducible repeat (first | apply Kd.R_alloc | apply Kd.R_drewN | apply Kd.R_drew)); exact HO537.out)); (case aS => exact (below_size (by repeat (first | (with_reducible first | exact HB.out | apply below_alloc | apply pw_below_drewN | apply below_drew1 | refine below_set ?_ GE507.out | refine below_set ?_ GE508.out | refine below_set ?_ GE513.out) | exact HB.out)))); (case aL => have := LMc73.out; omega); intro v539 w74 ho hb hg hat; rw [← Ny538.out] at ho; have n0_ := Aside0.mk (blk_grown (g := gb507) (o := .cells #[.int .i64 a0_0, .int .u32 a0_1, .int .u32 a0_2, .int .u32 a0_3, .slice A0_4 l0_4.length c0_4, .int .i64 a0_5] 37 (0, 0)) (by (with_reducible repeat (first | refine blk_drewN ?_ _ | refine blk_drew ?_ | refine blk_alloc ?_ _)); exact BK507.out) hg (Kd.R_ne HO537.out BK507.out (by decide))); have n1_ := Aside0.mk (blk_grown (g := gb508) (o := .cells #[.int .u16 a1_0, .string a1_1] 40 (0, 0)) (by (with_reducible repeat (first | refine blk_drewN ?_ _ | refine blk_drew ?_ | refine blk_alloc ?_ _)); exact BK508.out) hg (Kd.R_away HO537.out (fun _ hk => hk.2.1))); have n2_ := Aside0.mk (blk_grown (g := gb513) (o := .cells #[.int .u16 t510, .string t511] 40 (0, 0)) (by (with_reducible repeat (first | refine blk_drewN ?_ _ | refine blk_drew ?_ | refine blk_alloc ?_ _)); exact BK513.out) hg (Kd.R_away HO537.out (fun _ hk => hk.2.2))); have n3_ := Aside0.mk (Kd.R_after (ok := (fun k_ => k_ ≠ gb508 ∧ k_ ≠ gb513)) (by (with_reducible repeat (first | apply Kd.R_alloc | apply Kd.R_drewN | apply Kd.R_drew)); exact HO517.out) hg hat); have n4_ := Aside0.mk (hb); have n5_ := Aside0.mk ((show Kd.C k40 w74 Ao61 y521.length y521 from by rw [Ny521.out]; exact Kd.C_take (m := ((ji48) : Int).toNat) ((Kd.R_reads' (Kd.R_after (ok := (fun k_ => k_ ≠ gb508 ∧ k_ ≠ gb513)) (by (with_reducible repeat (first | apply Kd.R_alloc | apply Kd.R_drewN | apply Kd.R_drew)); exact HO517.out) hg hat)).2.2) KL64.out)); have n6_ := Aside0.mk ((show Kd.C k40 w74 A69 y531.length y531 from by rw [Ny531.out, KA69.out]; exact Kd.C_drop (m := ((ji48) : Int).toNat) (c := co61) ((Kd.R_reads' (Kd.R_after (ok := (fun k_ => k_ ≠ gb508 ∧ k_ ≠ gb513)) (by (with_reducible repeat (first | apply Kd.R_alloc | apply Kd.R_drewN | apply Kd.R_drew)); exact HO517.out) hg hat)).2.2) KL69.out ((Kd.R_reads' (Kd.R_after (ok := (fun k_ => k_ ≠ gb508 ∧ k_ ≠ gb513)) (by (with_reducible repeat (first | apply Kd.R_alloc | apply Kd.R_drewN | apply Kd.R_drew)); exact HO517.out) hg hat)).2.1))); have n7_ := Aside0.mk (ho); clear BK507; clear BK508; clear BK513; clear HO517; clear HB; clear HR524; clear HR534; clear HO537; have BK507 := n0_; have BK508 := n1_; have BK513 := n2_; have HO517 := n3_; have HB := n4_; have HR524 := n5_; have HR534 := n6_; have HO540 := n7_; clear n0_ n1_ n2_ n3_ n4_ n5_ n6_ n7_; clear ho hb hg hat))
                                          go_meet
                                          case rel => exact ⟨_, (y538), H', ⟨by have := HJ6.out; have := HJ34.out; first | omega | exact Nat.le_refl _⟩, ⟨by (with_reducible repeat (first | apply Kd.R_alloc | apply Kd.R_drewN | apply Kd.R_drew)); exact Kd.R_mono HO540.out (fun _ hk => ⟨hk.2.1, hk.2.2⟩)⟩, ⟨by (with_reducible repeat (first | refine blk_drewN ?_ _ | refine blk_drew ?_ | refine blk_alloc ?_ _)); exact BK507.out⟩, ⟨by (with_reducible repeat (first | refine blk_drewN ?_ _ | refine blk_drew ?_ | refine blk_alloc ?_ _)); exact BK508.out⟩, ⟨by (with_reducible repeat (first | refine blk_drewN ?_ _ | refine blk_drew ?_ | refine blk_alloc ?_ _)); exact BK513.out⟩, ⟨by repeat (first | (with_reducible exact HR524.out) | (with_reducible refine Kd.C_alloc ?_ _) | (with_reducible refine Kd.C_drewN ?_ _) | (with_reducible refine Kd.C_drew ?_) | exact HR524.out)⟩, ⟨by repeat (first | (with_reducible exact HR534.out) | (with_reducible refine Kd.C_alloc ?_ _) | (with_reducible refine Kd.C_drewN ?_ _) | (with_reducible refine Kd.C_drew ?_) | exact HR534.out)⟩, ⟨by repeat (first | (with_reducible first | exact HB.out | apply below_alloc | apply pw_below_drewN | apply below_drew1 | refine below_set ?_ GE507.out | refine below_set ?_ GE508.out | refine below_set ?_ GE513.out) | exact HB.out)⟩⟩
                                        · rw [if_neg c73] at H
                                          exact absurd H (by simp)
                                      · rw [if_neg c72] at H
                                        have c72b0 : decide (0 ≤ a0_5) = false := decide_eq_false c72
                                        clear c72
                                        (first | rw [c72b0] | (simp only [i64_w, i32_w]; rw [c72b0]) | skip)
                                        have H' := Aside0.mk H
                                        clear H
                                        go_wp2
                                        go_meet
                                        case rel => exact ⟨_, (y535), H', ⟨by have := HJ6.out; have := HJ34.out; first | omega | exact Nat.le_refl _⟩, ⟨by (with_reducible repeat (first | apply Kd.R_alloc | apply Kd.R_drewN | apply Kd.R_drew)); exact Kd.R_mono HO537.out (fun _ hk => ⟨hk.2.1, hk.2.2⟩)⟩, ⟨by (with_reducible repeat (first | refine blk_drewN ?_ _ | refine blk_drew ?_ | refine blk_alloc ?_ _)); exact BK507.out⟩, ⟨by (with_reducible repeat (first | refine blk_drewN ?_ _ | refine blk_drew ?_ | refine blk_alloc ?_ _)); exact BK508.out⟩, ⟨by (with_reducible repeat (first | refine blk_drewN ?_ _ | refine blk_drew ?_ | refine blk_alloc ?_ _)); exact BK513.out⟩, ⟨by repeat (first | (with_reducible exact HR524.out) | (with_reducible refine Kd.C_alloc ?_ _) | (with_reducible refine Kd.C_drewN ?_ _) | (with_reducible refine Kd.C_drew ?_) | exact HR524.out)⟩, ⟨by repeat (first | (with_reducible exact HR534.out) | (with_reducible refine Kd.C_alloc ?_ _) | (with_reducible refine Kd.C_drewN ?_ _) | (with_reducible refine Kd.C_drew ?_) | exact HR534.out)⟩, ⟨by repeat (first | (with_reducible first | exact HB.out | apply below_alloc | apply pw_below_drewN | apply below_drew1 | refine below_set ?_ GE507.out | refine below_set ?_ GE508.out | refine below_set ?_ GE513.out) | exact HB.out)⟩⟩
                                    case rest =>
                                      clear HC56
                                      try clear c1
                                      try clear c2
                                      try clear p2
                                      try clear c3
                                      try clear c4
                                      try clear c5
                                      try clear c6
                                      try clear p6
                                      try clear q6
                                      try clear c7
                                      try clear c8
                                      try clear c9
                                      try clear c10
                                      try clear c11
                                      try clear c15
                                      try clear c16
                                      try clear c18
                                      try clear c18b0
                                      try clear c18b1
                                      try clear c19
                                      try clear c19b0
                                      try clear c19b1
                                      try clear c20
                                      try clear c21
                                      try clear c23
                                      try clear c23b0
                                      try clear c23b1
                                      try clear c24
                                      try clear c25
                                      try clear c27
                                      try clear c27b0
                                      try clear c27b1
                                      try clear c28
                                      try clear c29
                                      try clear c31
                                      try clear c32
                                      try clear c34
                                      try clear c36
                                      try clear c37
                                      try clear c39
                                      try clear c39b0
                                      try clear c39b1
                                      try clear c40
                                      try clear c40b0
                                      try clear c40b1
                                      try clear c41
                                      try clear c41b0
                                      try clear c41b1
                                      try clear c43
                                      try clear c43b0
                                      try clear c43b1
                                      try clear c44
                                      try clear c44b0
                                      try clear c44b1
                                      try clear c46
                                      try clear c46b0
                                      try clear c46b1
                                      try clear c47
                                      try clear c47b0
                                      try clear c47b1
                                      try clear c49
                                      try clear c49b0
                                      try clear c49b1
                                      try clear c50
                                      try clear c50b0
                                      try clear c50b1
                                      try clear c51
                                      try clear c52
                                      try clear c53
                                      try clear c53b0
                                      try clear c54
                                      try clear c54b0
                                      try clear c55
                                      try clear c57
                                      try clear c58
                                      try clear p64
                                      try clear q64
                                      try clear c66
                                      try clear c69
                                      try clear q69
                                      try clear c72
                                      try clear c72b0
                                      try clear c73
                                      try clear hcz12_0
                                      try clear hcz12_1
                                      try clear hcz12_2
                                      try clear hcz12_3
                                      try clear hcz12_4
                                      try clear hcz12_5
                                      try clear hcz17_0
                                      try clear hcz17_1
                                      try clear hcz22_0
                                      try clear hcz22_1
                                      try clear hcz26_0
                                      try clear hcz26_1
                                      try clear hcz30_0
                                      try clear hcz30_1
                                      try clear hcz33_0
                                      try clear hcz33_1
                                      try clear hcz38_0
                                      try clear hcz38_1
                                      try clear hcz38_2
                                      try clear hcz38_3
                                      try clear hcz38_4
                                      try clear hcz38_5
                                      try clear hcz59_0
                                      try clear hcz59_1
                                      try clear hcz67_0
                                      try clear hcz67_1
                                      try clear hcz71_0
                                      try clear hcz71_1
                                      try clear hcz71_2
                                      try clear hcz71_3
                                      try clear hcz71_4
                                      try clear hcz71_5
                                      try clear hfz12_0
                                      try clear hfz12_1
                                      try clear hfz12_2
                                      try clear hfz12_3
                                      try clear hfz12_4
                                      try clear hfz12_5
                                      try clear hfz17_0
                                      try clear hfz17_1
                                      try clear hfz22_0
                                      try clear hfz22_1
                                      try clear hfz26_0
                                      try clear hfz26_1
                                      try clear hfz30_0
                                      try clear hfz30_1
                                      try clear hfz33_0
                                      try clear hfz33_1
                                      try clear hfz38_0
                                      try clear hfz38_1
                                      try clear hfz38_2
                                      try clear hfz38_3
                                      try clear hfz38_4
                                      try clear hfz38_5
                                      try clear hfz59_0
                                      try clear hfz59_1
                                      try clear hfz67_0
                                      try clear hfz67_1
                                      try clear hfz71_0
                                      try clear hfz71_1
                                      try clear hfz71_2
                                      try clear hfz71_3
                                      try clear hfz71_4
                                      try clear hfz71_5
                                      try clear p2
                                      try clear q069
                                      try clear q64
                                      try clear q69
                                      obtain ⟨kq, x12_55, HA, HJ55, HO_12, BK507, BK508, BK513, HR524, HR534, HB⟩ := hcut
                                      cases kq with
                                      | zero => exact absurd HA.out (by simp [tenancylaw15_Opt6Ignores.j2])
                                      | succ kj55 =>
                                        have H := HA.out
                                        clear HA
                                        simp only [tenancylaw15_Opt6Ignores.j2] at H
                                        replace H := Option.bind_eq_some_iff.mp H
                                        obtain ⟨⟨t541, t542⟩, A750, H⟩ := H
                                        replace H : (if t542 = 0 then (if 0 ≤ x9_34 then (if x9_34 ≤ (t511.size : Int) then (if (t511.extract 0 (x9_34 : Int).toNat).size + t541.size ≤ 9223372036854775807 then ((opt6_GetIA.f t510 ((t511.extract 0 (x9_34 : Int).toNat) ++ t541)).bind fun bt543 => (if bt543.2.2.2.2.2.2 = 0 then ((tenancylaw15_ias.f kj55 a0_0 a0_1 a0_2 a0_3 l0_4 a0_5 bt543.1 bt543.2.1 bt543.2.2.1 bt543.2.2.2.1 bt543.2.2.2.2.1 bt543.2.2.2.2.2.1).bind fun t553 => (some t553)) else (none))) else (none)) else (none)) else (none)) else (none)) = some r := H
                                        have A75 := Aside0.mk A750
                                        clear A750
                                        by_cases c76 : t542 = 0
                                        · rw [if_pos c76] at H
                                          have c76b0 : (t542 == 0) = true := beq_iff_eq.mpr c76
                                          have c76b1 : (t542 != 0) = false := bne_eq_false_iff_eq.mpr c76
                                          clear c76
                                          by_cases c77 : 0 ≤ x9_34
                                          · rw [if_pos c77] at H
                                            have c77b0 := eq_true c77
                                            have c77b1 : decide (0 ≤ x9_34) = true := decide_eq_true c77
                                            clear c77
                                            by_cases c78 : x9_34 ≤ (t511.size : Int)
                                            · rw [if_pos c78] at H
                                              have c78b0 := eq_true c78
                                              have c78b1 : decide (x9_34 ≤ (t511.size : Int)) = true := decide_eq_true c78
                                              clear c78
                                              by_cases c79 : (t511.extract 0 (x9_34 : Int).toNat).size + t541.size ≤ 9223372036854775807
                                              · rw [if_pos c79] at H
                                                have c79b0 := eq_true c79
                                                have c79b1 : decide ((t511.extract 0 (x9_34 : Int).toNat).size + t541.size ≤ 9223372036854775807) = true := decide_eq_true c79
                                                (try (have c79bs := c79; simp at c79bs))
                                                (try (have c79bm := c79; simp only [ByteArray.size_extract] at c79bm; rw [Nat.min_eq_left (by omega)] at c79bm))
                                                (try (have c79bn := eq_false (Nat.not_lt.2 c79bm)))
                                                (try (have c79bq := eq_false (Nat.not_lt.2 (show x9_34.toNat + t541.size ≤ 9223372036854775807 by have h1_ := of_eq_true c78b0; have h2_ := c79; rw [ByteArray.size_extract] at h2_; omega))))
                                                try have c79b2 : (9223372036854775807 < (t511.extract 0 (x9_34 : Int).toNat).size + t541.size) = False := eq_false (Nat.not_lt.2 c79)
                                                replace H := Option.bind_eq_some_iff.mp H
                                                obtain ⟨⟨t543, t544, t545, t546, t547, t550, t551⟩, A800, H⟩ := H
                                                replace H : (if t551 = 0 then ((tenancylaw15_ias.f kj55 a0_0 a0_1 a0_2 a0_3 l0_4 a0_5 t543 t544 t545 t546 t547 t550).bind fun t553 => (some t553)) else (none)) = some r := H
                                                have A80 := Aside0.mk A800
                                                clear A800
                                                by_cases c81 : t551 = 0
                                                · rw [if_pos c81] at H
                                                  have c81b0 : (t551 == 0) = true := beq_iff_eq.mpr c81
                                                  have c81b1 : (t551 != 0) = false := bne_eq_false_iff_eq.mpr c81
                                                  clear c81
                                                  replace H := Option.bind_eq_some_iff.mp H
                                                  obtain ⟨t553, A820, H⟩ := H
                                                  replace H : (some t553) = some r := H
                                                  have A82 := Aside0.mk A820
                                                  clear A820
                                                  obtain rfl := Option.some.inj H
                                                  obtain ⟨Ao83, co83, eo83⟩ := Kd.R_slice HO_12.out
                                                  subst eo83
                                                  try go_wp2_with (first | ((with_reducible refine gate_callee (f := 13) rfl ?_); refine goesL_ (some 93) rfl rfl Try.func13 (by kernel_rfl) rfl #[.slice Ao83 x12_55.length co83] rfl (by (try simp only [List.map_toArray, List.map_cons, List.map_nil]); first | done | rfl | (simp only [List.length_drop, List.length_take]; rfl)) ?_; (with_reducible refine (opt6_Emit.calls _ _ x12_55 t541 t542 _ ?side1 ?side2 A75.out).mono ?_); (case side1 => repeat (first | exact (Kd.R_reads' HO_12.out).2.2 | (with_reducible refine Kd.C_alloc ?_ _) | (with_reducible refine Kd.C_drewN ?_ _) | (with_reducible refine Kd.C_drew ?_))); (case side2 => exact (Kd.R_reads' HO_12.out).2.1); rintro e w84 ⟨rfl, hb⟩; refine ⟨_, rfl, ?_⟩; have n0_ := Aside0.mk (Kd.R_below (by (with_reducible repeat (first | apply Kd.R_alloc | apply Kd.R_drewN | apply Kd.R_drew)); exact HO_12.out) hb); have n1_ := Aside0.mk (blk_below (g := gb507) (o := .cells #[.int .i64 a0_0, .int .u32 a0_1, .int .u32 a0_2, .int .u32 a0_3, .slice A0_4 l0_4.length c0_4, .int .i64 a0_5] 37 (0, 0)) (by (with_reducible repeat (first | refine blk_drewN ?_ _ | refine blk_drew ?_ | refine blk_alloc ?_ _)); exact BK507.out) hb); have n2_ := Aside0.mk (blk_below (g := gb508) (o := .cells #[.int .u16 a1_0, .string a1_1] 40 (0, 0)) (by (with_reducible repeat (first | refine blk_drewN ?_ _ | refine blk_drew ?_ | refine blk_alloc ?_ _)); exact BK508.out) hb); have n3_ := Aside0.mk (blk_below (g := gb513) (o := .cells #[.int .u16 t510, .string t511] 40 (0, 0)) (by (with_reducible repeat (first | refine blk_drewN ?_ _ | refine blk_drew ?_ | refine blk_alloc ?_ _)); exact BK513.out) hb); have n4_ := Aside0.mk (Kd.C_below (by repeat (first | (with_reducible exact HR524.out) | (with_reducible refine Kd.C_alloc ?_ _) | (with_reducible refine Kd.C_drewN ?_ _) | (with_reducible refine Kd.C_drew ?_) | exact HR524.out)) hb); have n5_ := Aside0.mk (Kd.C_below (by repeat (first | (with_reducible exact HR534.out) | (with_reducible refine Kd.C_alloc ?_ _) | (with_reducible refine Kd.C_drewN ?_ _) | (with_reducible refine Kd.C_drew ?_) | exact HR534.out)) hb); have n6_ := Aside0.mk (below_step (by repeat (first | (with_reducible first | exact HB.out | apply below_alloc | apply pw_below_drewN | apply below_drew1 | refine below_set ?_ GE507.out | refine below_set ?_ GE508.out | refine below_set ?_ GE513.out) | exact HB.out)) hb); clear HO_12; clear BK507; clear BK508; clear BK513; clear HR524; clear HR534; clear HB; have HO_12 := n0_; have BK507 := n1_; have BK508 := n2_; have BK513 := n3_; have HR524 := n4_; have HR534 := n5_; have HB := n6_; clear n0_ n1_ n2_ n3_ n4_ n5_ n6_; (try clear hb); (try clear hb2); (try clear hk); (try clear hi)))
                                                  have n0_ := Aside0.mk (Kd.R_drew HO_12.out)
                                                  have n1_ := Aside0.mk (blk_drew BK507.out)
                                                  have n2_ := Aside0.mk (blk_drew BK508.out)
                                                  have n3_ := Aside0.mk (blk_drew BK513.out)
                                                  have n4_ := Aside0.mk (Kd.C_drew HR524.out)
                                                  have n5_ := Aside0.mk (Kd.C_drew HR534.out)
                                                  have n6_ := Aside0.mk (below_drew1 HB.out)
                                                  clear HO_12
                                                  clear BK507
                                                  clear BK508
                                                  clear BK513
                                                  clear HR524
                                                  clear HR534
                                                  clear HB
                                                  have HO_12 := n0_
                                                  have BK507 := n1_
                                                  have BK508 := n2_
                                                  have BK513 := n3_
                                                  have HR524 := n4_
                                                  have HR534 := n5_
                                                  have HB := n6_
                                                  clear n0_ n1_ n2_ n3_ n4_ n5_ n6_
                                                  refine start_ (n := 16) (S := fun w' => w'.cell? ⟨gb513, 0, none⟩ = some (.int .u16 t510) ∧ w'.cell? ⟨gb513, 1, none⟩ = some (.string t511)) (ds := []) #[false, false, false, false, false, false, false, false, false, false, false, false, false, false, false, false] (by kernel_rfl) rfl rfl ⟨(blk_cell BK513.out 0).trans rfl, (blk_cell BK513.out 1).trans rfl⟩ (fun hHeld => ?_); refine with_tabW tenancylaw15_Opt6Ignores.tab22 tenancylaw15_Opt6Ignores.bits22 (fun HT_ HW_ => ?_)
                                                  generalize w84.drew = w85 at HO_12 BK507 BK508 BK513 HR524 HR534 HB hHeld ⊢
                                                  refine pure_ (i := 0) (N := some 99) (v := ?_) (a' := ?_) #[true, false, false, false, false, false, false, false, false, false, false, false, false, false, false, false] rfl rfl (any_of HT_.out (by kernel_rfl)) (fun _ _ _ h => h) (Or.inl ⟨by rfl, ?_⟩) ?_ ?_
                                                  rotate_left
                                                  · intro w'
                                                    go_simp
                                                    with_reducible rfl
                                                  rotate_left
                                                  · simp only [Act.put, List.setIfInBounds_toArray, List.set_cons_zero, List.set_cons_succ, i64_w, i32_w]
                                                    rfl
                                                  refine pure_ (i := 2) (N := some 101) (v := ?_) (a' := ?_) #[true, false, true, false, false, false, false, false, false, false, false, false, false, false, false, false] rfl rfl (any_of HT_.out (by kernel_rfl)) (fun _ _ _ h => h) (Or.inl ⟨by rfl, ?_⟩) ?_ ?_
                                                  rotate_left
                                                  · intro w'
                                                    go_simp
                                                    with_reducible rfl
                                                  rotate_left
                                                  · simp only [Act.put, List.setIfInBounds_toArray, List.set_cons_zero, List.set_cons_succ, i64_w, i32_w]
                                                    rfl
                                                  refine pure_ (i := 4) (N := some 103) (v := ?_) (a' := ?_) #[true, false, true, false, true, false, false, false, false, false, false, false, false, false, false, false] rfl rfl (any_of HT_.out (by kernel_rfl)) (fun _ _ _ h => h) (Or.inl ⟨by rfl, ?_⟩) ?_ ?_
                                                  rotate_left
                                                  · intro w'
                                                    go_simp
                                                    with_reducible rfl
                                                  rotate_left
                                                  · simp only [Act.put, List.setIfInBounds_toArray, List.set_cons_zero, List.set_cons_succ, i64_w, i32_w]
                                                    rfl
                                                  refine pure_ (i := 6) (N := some 105) (v := ?_) (a' := ?_) #[true, false, true, false, true, false, true, false, false, false, false, false, false, false, false, false] rfl rfl (any_of HT_.out (by kernel_rfl)) (fun _ _ _ h => h) (Or.inl ⟨by rfl, ?_⟩) ?_ ?_
                                                  rotate_left
                                                  · intro w'
                                                    go_simp
                                                    with_reducible rfl
                                                  rotate_left
                                                  · simp only [Act.put, List.setIfInBounds_toArray, List.set_cons_zero, List.set_cons_succ, i64_w, i32_w]
                                                    rfl
                                                  refine take_ (i := 1) (N := some 100) (v := ?_) (a' := ?_) #[true, true, true, false, true, false, true, false, false, false, false, false, false, false, false, false] rfl rfl (take_ofW HT_.out HW_.out (by kernel_rfl)) (fun _ _ _ h => h) (Or.inl ⟨by rfl, ?_⟩) hHeld ?_ ?_
                                                  rotate_left
                                                  · rintro w' ⟨s0, s1⟩
                                                    go_simp
                                                    with_reducible rfl
                                                  rotate_left
                                                  · simp only [Act.put, List.setIfInBounds_toArray, List.set_cons_zero, List.set_cons_succ, i64_w, i32_w]
                                                    rfl
                                                  refine take_ (i := 3) (N := some 102) (v := ?_) (a' := ?_) #[true, true, true, true, true, false, true, false, false, false, false, false, false, false, false, false] rfl rfl (take_ofW HT_.out HW_.out (by kernel_rfl)) (fun _ _ _ h => h) (Or.inl ⟨by rfl, ?_⟩) hHeld ?_ ?_
                                                  rotate_left
                                                  · rintro w' ⟨s0, s1⟩
                                                    go_simp
                                                    with_reducible rfl
                                                  rotate_left
                                                  · simp only [Act.put, List.setIfInBounds_toArray, List.set_cons_zero, List.set_cons_succ, i64_w, i32_w]
                                                    rfl
                                                  refine pure_ (i := 5) (N := some 104) (v := ?_) (a' := ?_) #[true, true, true, true, true, true, true, false, false, false, false, false, false, false, false, false] rfl rfl (any_of HT_.out (by kernel_rfl)) (fun _ _ _ h => h) (Or.inl ⟨by rfl, ?_⟩) ?_ ?_
                                                  rotate_left
                                                  · intro w'
                                                    go_simp
                                                    with_reducible rfl
                                                  rotate_left
                                                  · simp only [Act.put, List.setIfInBounds_toArray, List.set_cons_zero, List.set_cons_succ, i64_w, i32_w]
                                                    rfl
                                                  refine pure_ (i := 7) (N := some 106) (v := ?_) (a' := ?_) #[true, true, true, true, true, true, true, true, false, false, false, false, false, false, false, false] rfl rfl (any_of HT_.out (by kernel_rfl)) (fun _ _ _ h => h) (Or.inl ⟨by rfl, ?_⟩) ?_ ?_
                                                  rotate_left
                                                  · intro w'
                                                    go_simp
                                                    with_reducible rfl
                                                  rotate_left
                                                  · simp only [Act.put, List.setIfInBounds_toArray, List.set_cons_zero, List.set_cons_succ, i64_w, i32_w]
                                                    rfl
                                                  refine pure_ (i := 8) (N := some 107) (v := ?_) (a' := ?_) #[true, true, true, true, true, true, true, true, true, false, false, false, false, false, false, false] rfl rfl (any_of HT_.out (by kernel_rfl)) (fun _ _ _ h => h) (Or.inl ⟨by rfl, ?_⟩) ?_ ?_
                                                  rotate_left
                                                  · intro w'
                                                    go_simp
                                                    with_reducible rfl
                                                  rotate_left
                                                  · simp only [Act.put, List.setIfInBounds_toArray, List.set_cons_zero, List.set_cons_succ, i64_w, i32_w]
                                                    rfl
                                                  refine join_ (σ := Value × Nat) 2 #[true, true, true, true, true, true, true, true, true, true, true, true, true, true, false, false] (fun s_ => [(108, .tuple #[.agg #[.int .i64 t543, .int .u32 t544, .int .u32 t545, .int .u32 t546, s_.1, .int .i64 t550], .int .i64 t551]), (14, .pointer (some ⟨s_.2, 0, none⟩)), (98, .tuple #[.agg #[.int .i64 t543, .int .u32 t544, .int .u32 t545, .int .u32 t546, s_.1, .int .i64 t550], .int .i64 t551]), (109, .agg #[.int .i64 t543, .int .u32 t544, .int .u32 t545, .int .u32 t546, s_.1, .int .i64 t550]), (110, .int .i64 t551)]) (fun s_ w' => (w'.cell? ⟨gb513, 0, none⟩ = some (.int .u16 t510) ∧ w'.cell? ⟨gb513, 1, none⟩ = some (.string t511)) ∧ (Kd.R k76 76 w' w.heap.size (fun _ => True) s_.1 t547) ∧ (Kd.R k40 40 w' w.heap.size (fun k_ => k_ ≠ gb508 ∧ k_ ≠ gb513) (.slice Ao83 x12_55.length co83) x12_55) ∧ (w'.heap[gb507]? = some (.cells #[.int .i64 a0_0, .int .u32 a0_1, .int .u32 a0_2, .int .u32 a0_3, .slice A0_4 l0_4.length c0_4, .int .i64 a0_5] 37 (0, 0))) ∧ (w'.heap[gb508]? = some (.cells #[.int .u16 a1_0, .string a1_1] 40 (0, 0))) ∧ (w'.heap[gb513]? = some (.cells #[.int .u16 t510, .string t511] 40 (0, 0))) ∧ (w'.heap[s_.2]? = some (.cells #[.int .i64 0, .int .u32 0, .int .u32 0, .int .u32 0, .slice none 0 0, .int .i64 0] 37 (0, 0))) ∧ (w.heap.size ≤ s_.2) ∧ (w.heap.size ≤ s_.2) ∧ (gb507 ≠ s_.2) ∧ (s_.2 ≠ gb507) ∧ (gb508 ≠ s_.2) ∧ (s_.2 ≠ gb508) ∧ (gb513 ≠ s_.2) ∧ (s_.2 ≠ gb513) ∧ (Below w.heap.size w w')) ?_ ?_
                                                  rotate_left
                                                  · intro hCont
                                                    refine two_ (i := 9) (j := 13) (Ni := some 108) (Nj := some 14) #[true, true, true, true, true, true, true, true, true, true, false, false, false, false, false, false] #[true, true, true, true, true, true, true, true, true, false, false, false, false, true, false, false] rfl rfl rfl rfl (two_of HT_.out (by kernel_rfl)) (by decide) (by decide) (fun K hK => ?_) (fun K hK => ?_)
                                                    · skip
                                                      refine goes_ Try.func23 (by kernel_rfl) rfl #[.agg #[.int .u16 t510, .string ((t511.extract 0 (x9_34 : Int).toNat) ++ t541)]] (by rfl) rfl rfl (by (try simp only [List.map_toArray, List.map_cons, List.map_nil]); first | done | rfl | (simp only [List.length_drop, List.length_take]; rfl)) ?_
                                                      with_reducible refine (opt6_GetIA.calls t510 ((t511.extract 0 (x9_34 : Int).toNat) ++ t541) t543 t544 t545 t546 t547 t550 t551 _ A80.out).mono ?_
                                                      rintro e w86 ⟨v548, rfl, ho0, hb⟩
                                                      refine ⟨_, rfl, ?_⟩
                                                      have n0_ := Aside0.mk (Kd.R_below (by (with_reducible repeat (first | apply Kd.R_alloc | apply Kd.R_drewN | apply Kd.R_drew)); exact HO_12.out) hb)
                                                      have n1_ := Aside0.mk (Kd.R_lower ho0 (below_size (by repeat (first | (with_reducible first | exact HB.out | apply below_alloc | apply pw_below_drewN | apply below_drew1 | refine below_set ?_ GE507.out | refine below_set ?_ GE508.out | refine below_set ?_ GE513.out) | exact HB.out))))
                                                      have n2_ := Aside0.mk (blk_below (g := gb507) (o := .cells #[.int .i64 a0_0, .int .u32 a0_1, .int .u32 a0_2, .int .u32 a0_3, .slice A0_4 l0_4.length c0_4, .int .i64 a0_5] 37 (0, 0)) (by (with_reducible repeat (first | refine blk_drewN ?_ _ | refine blk_drew ?_ | refine blk_alloc ?_ _)); exact BK507.out) hb)
                                                      have n3_ := Aside0.mk (blk_below (g := gb508) (o := .cells #[.int .u16 a1_0, .string a1_1] 40 (0, 0)) (by (with_reducible repeat (first | refine blk_drewN ?_ _ | refine blk_drew ?_ | refine blk_alloc ?_ _)); exact BK508.out) hb)
                                                      have n4_ := Aside0.mk (blk_below (g := gb513) (o := .cells #[.int .u16 t510, .string t511] 40 (0, 0)) (by (with_reducible repeat (first | refine blk_drewN ?_ _ | refine blk_drew ?_ | refine blk_alloc ?_ _)); exact BK513.out) hb)
                                                      have n5_ := Aside0.mk (Kd.C_below (by repeat (first | (with_reducible exact HR524.out) | (with_reducible refine Kd.C_alloc ?_ _) | (with_reducible refine Kd.C_drewN ?_ _) | (with_reducible refine Kd.C_drew ?_) | exact HR524.out)) hb)
                                                      have n6_ := Aside0.mk (Kd.C_below (by repeat (first | (with_reducible exact HR534.out) | (with_reducible refine Kd.C_alloc ?_ _) | (with_reducible refine Kd.C_drewN ?_ _) | (with_reducible refine Kd.C_drew ?_) | exact HR534.out)) hb)
                                                      have n7_ := Aside0.mk (below_step (by repeat (first | (with_reducible first | exact HB.out | apply below_alloc | apply pw_below_drewN | apply below_drew1 | refine below_set ?_ GE507.out | refine below_set ?_ GE508.out | refine below_set ?_ GE513.out) | exact HB.out)) hb)
                                                      clear HO_12
                                                      clear BK507
                                                      clear BK508
                                                      clear BK513
                                                      clear HR524
                                                      clear HR534
                                                      clear HB
                                                      have HO_12 := n0_
                                                      have HO549 := n1_
                                                      have BK507 := n2_
                                                      have BK508 := n3_
                                                      have BK513 := n4_
                                                      have HR524 := n5_
                                                      have HR534 := n6_
                                                      have HB := n7_
                                                      clear n0_ n1_ n2_ n3_ n4_ n5_ n6_ n7_
                                                      (try clear hb)
                                                      (try clear hb2)
                                                      (try clear hk)
                                                      (try clear hi)
                                                      (try clear ho0)
                                                      refine hK.out _ _ ⟨(blk_cell BK513.out 0).trans rfl, (blk_cell BK513.out 1).trans rfl⟩ (fun hHeld => ?_)
                                                      clear hK K
                                                      refine norm_ (a' := ?_) ?_ ?_
                                                      rotate_left
                                                      · show Act.put _ (some 108) _ = _
                                                        simp only [Act.put, List.setIfInBounds_toArray, List.set_cons_zero, List.set_cons_succ, i64_w, i32_w]
                                                        rfl
                                                      refine pure_ (i := 10) (N := some 98) (v := ?_) (a' := ?_) #[true, true, true, true, true, true, true, true, true, true, true, false, false, false, false, false] rfl rfl (any_of HT_.out (by kernel_rfl)) (fun _ _ _ h => h) (Or.inl ⟨by rfl, ?_⟩) ?_ ?_
                                                      rotate_left
                                                      · intro w'
                                                        go_simp
                                                        with_reducible rfl
                                                      rotate_left
                                                      · simp only [Act.put, List.setIfInBounds_toArray, List.set_cons_zero, List.set_cons_succ, i64_w, i32_w]
                                                        rfl
                                                      refine pure_ (i := 11) (N := some 109) (v := ?_) (a' := ?_) #[true, true, true, true, true, true, true, true, true, true, true, true, false, false, false, false] rfl rfl (any_of HT_.out (by kernel_rfl)) (fun _ _ _ h => h) (Or.inl ⟨by rfl, ?_⟩) ?_ ?_
                                                      rotate_left
                                                      · intro w'
                                                        go_simp
                                                        with_reducible rfl
                                                      rotate_left
                                                      · simp only [Act.put, List.setIfInBounds_toArray, List.set_cons_zero, List.set_cons_succ, i64_w, i32_w]
                                                        rfl
                                                      refine pure_ (i := 12) (N := some 110) (v := ?_) (a' := ?_) #[true, true, true, true, true, true, true, true, true, true, true, true, true, false, false, false] rfl rfl (any_of HT_.out (by kernel_rfl)) (fun _ _ _ h => h) (Or.inl ⟨by rfl, ?_⟩) ?_ ?_
                                                      rotate_left
                                                      · intro w'
                                                        go_simp
                                                        with_reducible rfl
                                                      rotate_left
                                                      · simp only [Act.put, List.setIfInBounds_toArray, List.set_cons_zero, List.set_cons_succ, i64_w, i32_w]
                                                        rfl
                                                      refine one_ (i := 13) (N := some 14) #[true, true, true, true, true, true, true, true, true, true, true, true, true, true, false, false] rfl rfl (one_of HT_.out (by kernel_rfl)) (by decide) (fun K hK => ?_)
                                                      refine box_step ?hg (N := 14) ?hd (cs := #[.int .i64 0, .int .u32 0, .int .u32 0, .int .u32 0, .slice none 0 0, .int .i64 0]) (t := 37) ?hr ?_; (case hd => rfl); (case hg => rfl); (case hr => first | (go_simp; done) | (go_simp; rfl))
                                                      intro gb552 hg w87 hbox hb
                                                      have n0_ := Aside0.mk (Kd.R_below (by (with_reducible repeat (first | apply Kd.R_alloc | apply Kd.R_drewN | apply Kd.R_drew)); exact HO_12.out) hb)
                                                      have n1_ := Aside0.mk (Kd.R_below (by (with_reducible repeat (first | apply Kd.R_alloc | apply Kd.R_drewN | apply Kd.R_drew)); exact HO549.out) hb)
                                                      have n2_ := Aside0.mk (blk_below (g := gb507) (o := .cells #[.int .i64 a0_0, .int .u32 a0_1, .int .u32 a0_2, .int .u32 a0_3, .slice A0_4 l0_4.length c0_4, .int .i64 a0_5] 37 (0, 0)) (by (with_reducible repeat (first | refine blk_drewN ?_ _ | refine blk_drew ?_ | refine blk_alloc ?_ _)); exact BK507.out) hb)
                                                      have n3_ := Aside0.mk (blk_below (g := gb508) (o := .cells #[.int .u16 a1_0, .string a1_1] 40 (0, 0)) (by (with_reducible repeat (first | refine blk_drewN ?_ _ | refine blk_drew ?_ | refine blk_alloc ?_ _)); exact BK508.out) hb)
                                                      have n4_ := Aside0.mk (blk_below (g := gb513) (o := .cells #[.int .u16 t510, .string t511] 40 (0, 0)) (by (with_reducible repeat (first | refine blk_drewN ?_ _ | refine blk_drew ?_ | refine blk_alloc ?_ _)); exact BK513.out) hb)
                                                      have n5_ := Aside0.mk (Kd.C_below (by repeat (first | (with_reducible exact HR524.out) | (with_reducible refine Kd.C_alloc ?_ _) | (with_reducible refine Kd.C_drewN ?_ _) | (with_reducible refine Kd.C_drew ?_) | exact HR524.out)) hb)
                                                      have n6_ := Aside0.mk (Kd.C_below (by repeat (first | (with_reducible exact HR534.out) | (with_reducible refine Kd.C_alloc ?_ _) | (with_reducible refine Kd.C_drewN ?_ _) | (with_reducible refine Kd.C_drew ?_) | exact HR534.out)) hb)
                                                      have n7_ := Aside0.mk (below_step (by repeat (first | (with_reducible first | exact HB.out | apply below_alloc | apply pw_below_drewN | apply below_drew1 | refine below_set ?_ GE507.out | refine below_set ?_ GE508.out | refine below_set ?_ GE513.out) | exact HB.out)) hb)
                                                      have n8_ := Aside0.mk (hbox)
                                                      have n9_ := Aside0.mk ((by rw [hg]; exact (below_size (by repeat (first | (with_reducible first | exact HB.out | apply below_alloc | apply pw_below_drewN | apply below_drew1 | refine below_set ?_ GE507.out | refine below_set ?_ GE508.out | refine below_set ?_ GE513.out) | exact HB.out))) : w.heap.size ≤ gb552))
                                                      have n10_ := Aside0.mk ((by rw [hg]; exact (below_size (by repeat (first | (with_reducible first | exact HB.out | apply below_alloc | apply pw_below_drewN | apply below_drew1 | refine below_set ?_ GE507.out | refine below_set ?_ GE508.out | refine below_set ?_ GE513.out) | exact HB.out))) : w.heap.size ≤ gb552))
                                                      have n11_ := Aside0.mk ((by rw [hg]; exact Nat.ne_of_lt (blk_lt (g := gb507) (o := .cells #[.int .i64 a0_0, .int .u32 a0_1, .int .u32 a0_2, .int .u32 a0_3, .slice A0_4 l0_4.length c0_4, .int .i64 a0_5] 37 (0, 0)) (by (with_reducible repeat (first | refine blk_drewN ?_ _ | refine blk_drew ?_ | refine blk_alloc ?_ _)); exact BK507.out)) : gb507 ≠ gb552))
                                                      have n12_ := Aside0.mk ((by rw [hg]; exact Nat.ne_of_gt (blk_lt (g := gb507) (o := .cells #[.int .i64 a0_0, .int .u32 a0_1, .int .u32 a0_2, .int .u32 a0_3, .slice A0_4 l0_4.length c0_4, .int .i64 a0_5] 37 (0, 0)) (by (with_reducible repeat (first | refine blk_drewN ?_ _ | refine blk_drew ?_ | refine blk_alloc ?_ _)); exact BK507.out)) : gb552 ≠ gb507))
                                                      have n13_ := Aside0.mk ((by rw [hg]; exact Nat.ne_of_lt (blk_lt (g := gb508) (o := .cells #[.int .u16 a1_0, .string a1_1] 40 (0, 0)) (by (with_reducible repeat (first | refine blk_drewN ?_ _ | refine blk_drew ?_ | refine blk_alloc ?_ _)); exact BK508.out)) : gb508 ≠ gb552))
                                                      have n14_ := Aside0.mk ((by rw [hg]; exact Nat.ne_of_gt (blk_lt (g := gb508) (o := .cells #[.int .u16 a1_0, .string a1_1] 40 (0, 0)) (by (with_reducible repeat (first | refine blk_drewN ?_ _ | refine blk_drew ?_ | refine blk_alloc ?_ _)); exact BK508.out)) : gb552 ≠ gb508))
                                                      have n15_ := Aside0.mk ((by rw [hg]; exact Nat.ne_of_lt (blk_lt (g := gb513) (o := .cells #[.int .u16 t510, .string t511] 40 (0, 0)) (by (with_reducible repeat (first | refine blk_drewN ?_ _ | refine blk_drew ?_ | refine blk_alloc ?_ _)); exact BK513.out)) : gb513 ≠ gb552))
                                                      have n16_ := Aside0.mk ((by rw [hg]; exact Nat.ne_of_gt (blk_lt (g := gb513) (o := .cells #[.int .u16 t510, .string t511] 40 (0, 0)) (by (with_reducible repeat (first | refine blk_drewN ?_ _ | refine blk_drew ?_ | refine blk_alloc ?_ _)); exact BK513.out)) : gb552 ≠ gb513))
                                                      clear HO_12
                                                      clear HO549
                                                      clear BK507
                                                      clear BK508
                                                      clear BK513
                                                      clear HR524
                                                      clear HR534
                                                      clear HB
                                                      have HO_12 := n0_
                                                      have HO549 := n1_
                                                      have BK507 := n2_
                                                      have BK508 := n3_
                                                      have BK513 := n4_
                                                      have HR524 := n5_
                                                      have HR534 := n6_
                                                      have HB := n7_
                                                      have BK552 := n8_
                                                      have GW552 := n9_
                                                      have GE552 := n10_
                                                      have NB507_552 := n11_
                                                      have NB552_507 := n12_
                                                      have NB508_552 := n13_
                                                      have NB552_508 := n14_
                                                      have NB513_552 := n15_
                                                      have NB552_513 := n16_
                                                      clear n0_ n1_ n2_ n3_ n4_ n5_ n6_ n7_ n8_ n9_ n10_ n11_ n12_ n13_ n14_ n15_ n16_
                                                      clear hb hbox hg
                                                      refine hK.out _ _ ⟨(blk_cell BK513.out 0).trans rfl, (blk_cell BK513.out 1).trans rfl⟩ (fun hHeld => ?_)
                                                      clear hK K
                                                      refine norm_ (a' := ?_) ?_ ?_
                                                      rotate_left
                                                      · show Act.put _ (some 14) _ = _
                                                        simp only [Act.put, List.setIfInBounds_toArray, List.set_cons_zero, List.set_cons_succ, i64_w, i32_w]
                                                        rfl
                                                      exact norm_ (by simp only [putAll, Act.put, List.setIfInBounds_toArray, List.set_cons_zero, List.set_cons_succ]) (hCont (v548, gb552) _ ⟨hHeld, (by (with_reducible repeat (first | apply Kd.R_alloc | apply Kd.R_drewN | apply Kd.R_drew)); exact HO549.out), (by (with_reducible repeat (first | apply Kd.R_alloc | apply Kd.R_drewN | apply Kd.R_drew)); exact HO_12.out), (by (with_reducible repeat (first | refine blk_drewN ?_ _ | refine blk_drew ?_ | refine blk_alloc ?_ _)); exact BK507.out), (by (with_reducible repeat (first | refine blk_drewN ?_ _ | refine blk_drew ?_ | refine blk_alloc ?_ _)); exact BK508.out), (by (with_reducible repeat (first | refine blk_drewN ?_ _ | refine blk_drew ?_ | refine blk_alloc ?_ _)); exact BK513.out), (by (with_reducible repeat (first | refine blk_drewN ?_ _ | refine blk_drew ?_ | refine blk_alloc ?_ _)); exact BK552.out), GW552.out, GE552.out, NB507_552.out, NB552_507.out, NB508_552.out, NB552_508.out, NB513_552.out, NB552_513.out, (by repeat (first | (with_reducible first | exact HB.out | apply below_alloc | apply pw_below_drewN | apply below_drew1 | refine below_set ?_ GE507.out | refine below_set ?_ GE508.out | refine below_set ?_ GE513.out | refine below_set ?_ GE552.out) | exact HB.out))⟩)
                                                    · skip
                                                      refine box_step ?hg (N := 14) ?hd (cs := #[.int .i64 0, .int .u32 0, .int .u32 0, .int .u32 0, .slice none 0 0, .int .i64 0]) (t := 37) ?hr ?_; (case hd => rfl); (case hg => rfl); (case hr => first | (go_simp; done) | (go_simp; rfl))
                                                      intro gb552 hg w86 hbox hb
                                                      have n0_ := Aside0.mk (Kd.R_below (by (with_reducible repeat (first | apply Kd.R_alloc | apply Kd.R_drewN | apply Kd.R_drew)); exact HO_12.out) hb)
                                                      have n1_ := Aside0.mk (blk_below (g := gb507) (o := .cells #[.int .i64 a0_0, .int .u32 a0_1, .int .u32 a0_2, .int .u32 a0_3, .slice A0_4 l0_4.length c0_4, .int .i64 a0_5] 37 (0, 0)) (by (with_reducible repeat (first | refine blk_drewN ?_ _ | refine blk_drew ?_ | refine blk_alloc ?_ _)); exact BK507.out) hb)
                                                      have n2_ := Aside0.mk (blk_below (g := gb508) (o := .cells #[.int .u16 a1_0, .string a1_1] 40 (0, 0)) (by (with_reducible repeat (first | refine blk_drewN ?_ _ | refine blk_drew ?_ | refine blk_alloc ?_ _)); exact BK508.out) hb)
                                                      have n3_ := Aside0.mk (blk_below (g := gb513) (o := .cells #[.int .u16 t510, .string t511] 40 (0, 0)) (by (with_reducible repeat (first | refine blk_drewN ?_ _ | refine blk_drew ?_ | refine blk_alloc ?_ _)); exact BK513.out) hb)
                                                      have n4_ := Aside0.mk (Kd.C_below (by repeat (first | (with_reducible exact HR524.out) | (with_reducible refine Kd.C_alloc ?_ _) | (with_reducible refine Kd.C_drewN ?_ _) | (with_reducible refine Kd.C_drew ?_) | exact HR524.out)) hb)
                                                      have n5_ := Aside0.mk (Kd.C_below (by repeat (first | (with_reducible exact HR534.out) | (with_reducible refine Kd.C_alloc ?_ _) | (with_reducible refine Kd.C_drewN ?_ _) | (with_reducible refine Kd.C_drew ?_) | exact HR534.out)) hb)
                                                      have n6_ := Aside0.mk (below_step (by repeat (first | (with_reducible first | exact HB.out | apply below_alloc | apply pw_below_drewN | apply below_drew1 | refine below_set ?_ GE507.out | refine below_set ?_ GE508.out | refine below_set ?_ GE513.out) | exact HB.out)) hb)
                                                      have n7_ := Aside0.mk (hbox)
                                                      have n8_ := Aside0.mk ((by rw [hg]; exact (below_size (by repeat (first | (with_reducible first | exact HB.out | apply below_alloc | apply pw_below_drewN | apply below_drew1 | refine below_set ?_ GE507.out | refine below_set ?_ GE508.out | refine below_set ?_ GE513.out) | exact HB.out))) : w.heap.size ≤ gb552))
                                                      have n9_ := Aside0.mk ((by rw [hg]; exact (below_size (by repeat (first | (with_reducible first | exact HB.out | apply below_alloc | apply pw_below_drewN | apply below_drew1 | refine below_set ?_ GE507.out | refine below_set ?_ GE508.out | refine below_set ?_ GE513.out) | exact HB.out))) : w.heap.size ≤ gb552))
                                                      have n10_ := Aside0.mk ((by rw [hg]; exact Nat.ne_of_lt (blk_lt (g := gb507) (o := .cells #[.int .i64 a0_0, .int .u32 a0_1, .int .u32 a0_2, .int .u32 a0_3, .slice A0_4 l0_4.length c0_4, .int .i64 a0_5] 37 (0, 0)) (by (with_reducible repeat (first | refine blk_drewN ?_ _ | refine blk_drew ?_ | refine blk_alloc ?_ _)); exact BK507.out)) : gb507 ≠ gb552))
                                                      have n11_ := Aside0.mk ((by rw [hg]; exact Nat.ne_of_gt (blk_lt (g := gb507) (o := .cells #[.int .i64 a0_0, .int .u32 a0_1, .int .u32 a0_2, .int .u32 a0_3, .slice A0_4 l0_4.length c0_4, .int .i64 a0_5] 37 (0, 0)) (by (with_reducible repeat (first | refine blk_drewN ?_ _ | refine blk_drew ?_ | refine blk_alloc ?_ _)); exact BK507.out)) : gb552 ≠ gb507))
                                                      have n12_ := Aside0.mk ((by rw [hg]; exact Nat.ne_of_lt (blk_lt (g := gb508) (o := .cells #[.int .u16 a1_0, .string a1_1] 40 (0, 0)) (by (with_reducible repeat (first | refine blk_drewN ?_ _ | refine blk_drew ?_ | refine blk_alloc ?_ _)); exact BK508.out)) : gb508 ≠ gb552))
                                                      have n13_ := Aside0.mk ((by rw [hg]; exact Nat.ne_of_gt (blk_lt (g := gb508) (o := .cells #[.int .u16 a1_0, .string a1_1] 40 (0, 0)) (by (with_reducible repeat (first | refine blk_drewN ?_ _ | refine blk_drew ?_ | refine blk_alloc ?_ _)); exact BK508.out)) : gb552 ≠ gb508))
                                                      have n14_ := Aside0.mk ((by rw [hg]; exact Nat.ne_of_lt (blk_lt (g := gb513) (o := .cells #[.int .u16 t510, .string t511] 40 (0, 0)) (by (with_reducible repeat (first | refine blk_drewN ?_ _ | refine blk_drew ?_ | refine blk_alloc ?_ _)); exact BK513.out)) : gb513 ≠ gb552))
                                                      have n15_ := Aside0.mk ((by rw [hg]; exact Nat.ne_of_gt (blk_lt (g := gb513) (o := .cells #[.int .u16 t510, .string t511] 40 (0, 0)) (by (with_reducible repeat (first | refine blk_drewN ?_ _ | refine blk_drew ?_ | refine blk_alloc ?_ _)); exact BK513.out)) : gb552 ≠ gb513))
                                                      clear HO_12
                                                      clear BK507
                                                      clear BK508
                                                      clear BK513
                                                      clear HR524
                                                      clear HR534
                                                      clear HB
                                                      have HO_12 := n0_
                                                      have BK507 := n1_
                                                      have BK508 := n2_
                                                      have BK513 := n3_
                                                      have HR524 := n4_
                                                      have HR534 := n5_
                                                      have HB := n6_
                                                      have BK552 := n7_
                                                      have GW552 := n8_
                                                      have GE552 := n9_
                                                      have NB507_552 := n10_
                                                      have NB552_507 := n11_
                                                      have NB508_552 := n12_
                                                      have NB552_508 := n13_
                                                      have NB513_552 := n14_
                                                      have NB552_513 := n15_
                                                      clear n0_ n1_ n2_ n3_ n4_ n5_ n6_ n7_ n8_ n9_ n10_ n11_ n12_ n13_ n14_ n15_
                                                      clear hb hbox hg
                                                      refine hK.out _ _ ⟨(blk_cell BK513.out 0).trans rfl, (blk_cell BK513.out 1).trans rfl⟩ (fun hHeld => ?_)
                                                      clear hK K
                                                      refine norm_ (a' := ?_) ?_ ?_
                                                      rotate_left
                                                      · show Act.put _ (some 14) _ = _
                                                        simp only [Act.put, List.setIfInBounds_toArray, List.set_cons_zero, List.set_cons_succ, i64_w, i32_w]
                                                        rfl
                                                      refine one_ (i := 9) (N := some 108) #[true, true, true, true, true, true, true, true, true, true, false, false, false, true, false, false] rfl rfl (one_of HT_.out (by kernel_rfl)) (by decide) (fun K hK => ?_)
                                                      refine goes_ Try.func23 (by kernel_rfl) rfl #[.agg #[.int .u16 t510, .string ((t511.extract 0 (x9_34 : Int).toNat) ++ t541)]] (by rfl) rfl rfl (by (try simp only [List.map_toArray, List.map_cons, List.map_nil]); first | done | rfl | (simp only [List.length_drop, List.length_take]; rfl)) ?_
                                                      with_reducible refine (opt6_GetIA.calls t510 ((t511.extract 0 (x9_34 : Int).toNat) ++ t541) t543 t544 t545 t546 t547 t550 t551 _ A80.out).mono ?_
                                                      rintro e w87 ⟨v548, rfl, ho0, hb⟩
                                                      refine ⟨_, rfl, ?_⟩
                                                      have n0_ := Aside0.mk (Kd.R_below (by (with_reducible repeat (first | apply Kd.R_alloc | apply Kd.R_drewN | apply Kd.R_drew)); exact HO_12.out) hb)
                                                      have n1_ := Aside0.mk (Kd.R_lower ho0 (below_size (by repeat (first | (with_reducible first | exact HB.out | apply below_alloc | apply pw_below_drewN | apply below_drew1 | refine below_set ?_ GE507.out | refine below_set ?_ GE508.out | refine below_set ?_ GE513.out | refine below_set ?_ GE552.out) | exact HB.out))))
                                                      have n2_ := Aside0.mk (blk_below (g := gb507) (o := .cells #[.int .i64 a0_0, .int .u32 a0_1, .int .u32 a0_2, .int .u32 a0_3, .slice A0_4 l0_4.length c0_4, .int .i64 a0_5] 37 (0, 0)) (by (with_reducible repeat (first | refine blk_drewN ?_ _ | refine blk_drew ?_ | refine blk_alloc ?_ _)); exact BK507.out) hb)
                                                      have n3_ := Aside0.mk (blk_below (g := gb508) (o := .cells #[.int .u16 a1_0, .string a1_1] 40 (0, 0)) (by (with_reducible repeat (first | refine blk_drewN ?_ _ | refine blk_drew ?_ | refine blk_alloc ?_ _)); exact BK508.out) hb)
                                                      have n4_ := Aside0.mk (blk_below (g := gb513) (o := .cells #[.int .u16 t510, .string t511] 40 (0, 0)) (by (with_reducible repeat (first | refine blk_drewN ?_ _ | refine blk_drew ?_ | refine blk_alloc ?_ _)); exact BK513.out) hb)
                                                      have n5_ := Aside0.mk (Kd.C_below (by repeat (first | (with_reducible exact HR524.out) | (with_reducible refine Kd.C_alloc ?_ _) | (with_reducible refine Kd.C_drewN ?_ _) | (with_reducible refine Kd.C_drew ?_) | exact HR524.out)) hb)
                                                      have n6_ := Aside0.mk (Kd.C_below (by repeat (first | (with_reducible exact HR534.out) | (with_reducible refine Kd.C_alloc ?_ _) | (with_reducible refine Kd.C_drewN ?_ _) | (with_reducible refine Kd.C_drew ?_) | exact HR534.out)) hb)
                                                      have n7_ := Aside0.mk (blk_below (g := gb552) (o := .cells #[.int .i64 0, .int .u32 0, .int .u32 0, .int .u32 0, .slice none 0 0, .int .i64 0] 37 (0, 0)) (by (with_reducible repeat (first | refine blk_drewN ?_ _ | refine blk_drew ?_ | refine blk_alloc ?_ _)); exact BK552.out) hb)
                                                      have n8_ := Aside0.mk (below_step (by repeat (first | (with_reducible first | exact HB.out | apply below_alloc | apply pw_below_drewN | apply below_drew1 | refine below_set ?_ GE507.out | refine below_set ?_ GE508.out | refine below_set ?_ GE513.out | refine below_set ?_ GE552.out) | exact HB.out)) hb)
                                                      clear HO_12
                                                      clear BK507
                                                      clear BK508
                                                      clear BK513
                                                      clear HR524
                                                      clear HR534
                                                      clear BK552
                                                      clear HB
                                                      have HO_12 := n0_
                                                      have HO549 := n1_
                                                      have BK507 := n2_
                                                      have BK508 := n3_
                                                      have BK513 := n4_
                                                      have HR524 := n5_
                                                      have HR534 := n6_
                                                      have BK552 := n7_
                                                      have HB := n8_
                                                      clear n0_ n1_ n2_ n3_ n4_ n5_ n6_ n7_ n8_
                                                      (try clear hb)
                                                      (try clear hb2)
                                                      (try clear hk)
                                                      (try clear hi)
                                                      (try clear ho0)
                                                      refine hK.out _ _ ⟨(blk_cell BK513.out 0).trans rfl, (blk_cell BK513.out 1).trans rfl⟩ (fun hHeld => ?_)
                                                      clear hK K
                                                      refine norm_ (a' := ?_) ?_ ?_
                                                      rotate_left
                                                      · show Act.put _ (some 108) _ = _
                                                        simp only [Act.put, List.setIfInBounds_toArray, List.set_cons_zero, List.set_cons_succ, i64_w, i32_w]
                                                        rfl
                                                      refine pure_ (i := 10) (N := some 98) (v := ?_) (a' := ?_) #[true, true, true, true, true, true, true, true, true, true, true, false, false, true, false, false] rfl rfl (any_of HT_.out (by kernel_rfl)) (fun _ _ _ h => h) (Or.inl ⟨by rfl, ?_⟩) ?_ ?_
                                                      rotate_left
                                                      · intro w'
                                                        go_simp
                                                        with_reducible rfl
                                                      rotate_left
                                                      · simp only [Act.put, List.setIfInBounds_toArray, List.set_cons_zero, List.set_cons_succ, i64_w, i32_w]
                                                        rfl
                                                      refine pure_ (i := 11) (N := some 109) (v := ?_) (a' := ?_) #[true, true, true, true, true, true, true, true, true, true, true, true, false, true, false, false] rfl rfl (any_of HT_.out (by kernel_rfl)) (fun _ _ _ h => h) (Or.inl ⟨by rfl, ?_⟩) ?_ ?_
                                                      rotate_left
                                                      · intro w'
                                                        go_simp
                                                        with_reducible rfl
                                                      rotate_left
                                                      · simp only [Act.put, List.setIfInBounds_toArray, List.set_cons_zero, List.set_cons_succ, i64_w, i32_w]
                                                        rfl
                                                      refine pure_ (i := 12) (N := some 110) (v := ?_) (a' := ?_) #[true, true, true, true, true, true, true, true, true, true, true, true, true, true, false, false] rfl rfl (any_of HT_.out (by kernel_rfl)) (fun _ _ _ h => h) (Or.inl ⟨by rfl, ?_⟩) ?_ ?_
                                                      rotate_left
                                                      · intro w'
                                                        go_simp
                                                        with_reducible rfl
                                                      rotate_left
                                                      · simp only [Act.put, List.setIfInBounds_toArray, List.set_cons_zero, List.set_cons_succ, i64_w, i32_w]
                                                        rfl
                                                      exact norm_ (by simp only [putAll, Act.put, List.setIfInBounds_toArray, List.set_cons_zero, List.set_cons_succ]) (hCont (v548, gb552) _ ⟨hHeld, (by (with_reducible repeat (first | apply Kd.R_alloc | apply Kd.R_drewN | apply Kd.R_drew)); exact HO549.out), (by (with_reducible repeat (first | apply Kd.R_alloc | apply Kd.R_drewN | apply Kd.R_drew)); exact HO_12.out), (by (with_reducible repeat (first | refine blk_drewN ?_ _ | refine blk_drew ?_ | refine blk_alloc ?_ _)); exact BK507.out), (by (with_reducible repeat (first | refine blk_drewN ?_ _ | refine blk_drew ?_ | refine blk_alloc ?_ _)); exact BK508.out), (by (with_reducible repeat (first | refine blk_drewN ?_ _ | refine blk_drew ?_ | refine blk_alloc ?_ _)); exact BK513.out), (by (with_reducible repeat (first | refine blk_drewN ?_ _ | refine blk_drew ?_ | refine blk_alloc ?_ _)); exact BK552.out), GW552.out, GE552.out, NB507_552.out, NB552_507.out, NB508_552.out, NB552_508.out, NB513_552.out, NB552_513.out, (by repeat (first | (with_reducible first | exact HB.out | apply below_alloc | apply pw_below_drewN | apply below_drew1 | refine below_set ?_ GE507.out | refine below_set ?_ GE508.out | refine below_set ?_ GE513.out | refine below_set ?_ GE552.out) | exact HB.out))⟩)
                                                  rintro ⟨v548, gb552⟩ w88 ⟨hS_, h0_, h1_, h2_, h3_, h4_, h5_, h6_, h7_, h8_, h9_, h10_, h11_, h12_, h13_, h14_⟩
                                                  have n0_ : Aside0 (Kd.R k76 76 w88 w.heap.size (fun _ => True) v548 t547) := ⟨h0_⟩
                                                  have n1_ : Aside0 (Kd.R k40 40 w88 w.heap.size (fun k_ => k_ ≠ gb508 ∧ k_ ≠ gb513) (.slice Ao83 x12_55.length co83) x12_55) := ⟨h1_⟩
                                                  have n2_ : Aside0 (w88.heap[gb507]? = some (.cells #[.int .i64 a0_0, .int .u32 a0_1, .int .u32 a0_2, .int .u32 a0_3, .slice A0_4 l0_4.length c0_4, .int .i64 a0_5] 37 (0, 0))) := ⟨h2_⟩
                                                  have n3_ : Aside0 (w88.heap[gb508]? = some (.cells #[.int .u16 a1_0, .string a1_1] 40 (0, 0))) := ⟨h3_⟩
                                                  have n4_ : Aside0 (w88.heap[gb513]? = some (.cells #[.int .u16 t510, .string t511] 40 (0, 0))) := ⟨h4_⟩
                                                  have n5_ : Aside0 (w88.heap[gb552]? = some (.cells #[.int .i64 0, .int .u32 0, .int .u32 0, .int .u32 0, .slice none 0 0, .int .i64 0] 37 (0, 0))) := ⟨h5_⟩
                                                  have n6_ : Aside0 (w.heap.size ≤ gb552) := ⟨h6_⟩
                                                  have n7_ : Aside0 (w.heap.size ≤ gb552) := ⟨h7_⟩
                                                  have n8_ : Aside0 (gb507 ≠ gb552) := ⟨h8_⟩
                                                  have n9_ : Aside0 (gb552 ≠ gb507) := ⟨h9_⟩
                                                  have n10_ : Aside0 (gb508 ≠ gb552) := ⟨h10_⟩
                                                  have n11_ : Aside0 (gb552 ≠ gb508) := ⟨h11_⟩
                                                  have n12_ : Aside0 (gb513 ≠ gb552) := ⟨h12_⟩
                                                  have n13_ : Aside0 (gb552 ≠ gb513) := ⟨h13_⟩
                                                  have n14_ : Aside0 (Below w.heap.size w w88) := ⟨h14_⟩
                                                  clear HO_12
                                                  clear BK507
                                                  clear BK508
                                                  clear BK513
                                                  clear HR524
                                                  clear HR534
                                                  clear HB
                                                  clear h0_ h1_ h2_ h3_ h4_ h5_ h6_ h7_ h8_ h9_ h10_ h11_ h12_ h13_ h14_
                                                  have HO549 := n0_
                                                  have HO_12 := n1_
                                                  have BK507 := n2_
                                                  have BK508 := n3_
                                                  have BK513 := n4_
                                                  have BK552 := n5_
                                                  have GW552 := n6_
                                                  have GE552 := n7_
                                                  have NB507_552 := n8_
                                                  have NB552_507 := n9_
                                                  have NB508_552 := n10_
                                                  have NB552_508 := n11_
                                                  have NB513_552 := n12_
                                                  have NB552_513 := n13_
                                                  have HB := n14_
                                                  clear n0_ n1_ n2_ n3_ n4_ n5_ n6_ n7_ n8_ n9_ n10_ n11_ n12_ n13_ n14_
                                                  have hHeld : w88.cell? ⟨gb513, 0, none⟩ = some (.int .u16 t510) ∧ w88.cell? ⟨gb513, 1, none⟩ = some (.string t511) := hS_
                                                  obtain ⟨Ao93, co93, eo93⟩ := Kd.R_slice HO549.out
                                                  (first | subst eo93 | (injection eo93 with f1_ f2_ f3_; have f4_ := f1_.symm; have f5_ := f3_.symm; clear f1_ f2_ f3_; subst f4_; subst f5_))
                                                  refine norm_ (a' := ?_) ?_ ?_
                                                  rotate_left
                                                  · simp only [putAll, Act.put, List.setIfInBounds_toArray, List.set_cons_zero, List.set_cons_succ]
                                                    rfl
                                                  refine one_ (i := 14) (N := none) #[true, true, true, true, true, true, true, true, true, true, true, true, true, true, true, false] rfl rfl (one_of HT_.out (by kernel_rfl)) (by decide) (fun K hK => ?_)
                                                  have hs89 : w88.cell? ⟨gb552, 0, none⟩ = some (.int .i64 0) := (blk_cell BK552.out 0).trans rfl
                                                  have hfs89 := blk_frozen BK552.out 0
                                                  have hns89_0 := NB507_552.out
                                                  have hns89_1 := NB508_552.out
                                                  have hns89_2 := NB513_552.out
                                                  have hms89_0 := NB552_507.out
                                                  have hms89_1 := NB552_508.out
                                                  have hms89_2 := NB552_513.out
                                                  have hs90 : w88.cell? ⟨gb552, 1, none⟩ = some (.int .u32 0) := (blk_cell BK552.out 1).trans rfl
                                                  have hfs90 := blk_frozen BK552.out 1
                                                  have hns90_0 := NB507_552.out
                                                  have hns90_1 := NB508_552.out
                                                  have hns90_2 := NB513_552.out
                                                  have hms90_0 := NB552_507.out
                                                  have hms90_1 := NB552_508.out
                                                  have hms90_2 := NB552_513.out
                                                  have hs91 : w88.cell? ⟨gb552, 2, none⟩ = some (.int .u32 0) := (blk_cell BK552.out 2).trans rfl
                                                  have hfs91 := blk_frozen BK552.out 2
                                                  have hns91_0 := NB507_552.out
                                                  have hns91_1 := NB508_552.out
                                                  have hns91_2 := NB513_552.out
                                                  have hms91_0 := NB552_507.out
                                                  have hms91_1 := NB552_508.out
                                                  have hms91_2 := NB552_513.out
                                                  have hs92 : w88.cell? ⟨gb552, 3, none⟩ = some (.int .u32 0) := (blk_cell BK552.out 3).trans rfl
                                                  have hfs92 := blk_frozen BK552.out 3
                                                  have hns92_0 := NB507_552.out
                                                  have hns92_1 := NB508_552.out
                                                  have hns92_2 := NB513_552.out
                                                  have hms92_0 := NB552_507.out
                                                  have hms92_1 := NB552_508.out
                                                  have hms92_2 := NB552_513.out
                                                  have hs94 : w88.cell? ⟨gb552, 4, none⟩ = some (.slice none 0 0) := (blk_cell BK552.out 4).trans rfl
                                                  have hfs94 := blk_frozen BK552.out 4
                                                  have hns94_0 := NB507_552.out
                                                  have hns94_1 := NB508_552.out
                                                  have hns94_2 := NB513_552.out
                                                  have hms94_0 := NB552_507.out
                                                  have hms94_1 := NB552_508.out
                                                  have hms94_2 := NB552_513.out
                                                  have hs95 : w88.cell? ⟨gb552, 5, none⟩ = some (.int .i64 0) := (blk_cell BK552.out 5).trans rfl
                                                  have hfs95 := blk_frozen BK552.out 5
                                                  have hns95_0 := NB507_552.out
                                                  have hns95_1 := NB508_552.out
                                                  have hns95_2 := NB513_552.out
                                                  have hms95_0 := NB552_507.out
                                                  have hms95_1 := NB552_508.out
                                                  have hms95_2 := NB552_513.out
                                                  refine skip_ (w1 := ?_) (by rfl) rfl ?_ ?_
                                                  rotate_left
                                                  · go_simp
                                                    rfl
                                                  refine hK.out _ _ ⟨((cell_far (p := ⟨gb552, _, none⟩) NB513_552.out _).trans (((cell_far (p := ⟨gb552, _, none⟩) NB513_552.out _).trans (((cell_far (p := ⟨gb552, _, none⟩) NB513_552.out _).trans (((cell_far (p := ⟨gb552, _, none⟩) NB513_552.out _).trans (((cell_far (p := ⟨gb552, _, none⟩) NB513_552.out _).trans (((cell_far (p := ⟨gb552, _, none⟩) NB513_552.out _).trans (hHeld.1)))))))))))), ((cell_far (p := ⟨gb552, _, none⟩) NB513_552.out _).trans (((cell_far (p := ⟨gb552, _, none⟩) NB513_552.out _).trans (((cell_far (p := ⟨gb552, _, none⟩) NB513_552.out _).trans (((cell_far (p := ⟨gb552, _, none⟩) NB513_552.out _).trans (((cell_far (p := ⟨gb552, _, none⟩) NB513_552.out _).trans (((cell_far (p := ⟨gb552, _, none⟩) NB513_552.out _).trans (hHeld.2))))))))))))⟩ (fun hHeld => ?_)
                                                  clear hK K
                                                  refine pure_ (i := 15) (N := some 8) (v := ?_) (a' := ?_) #[true, true, true, true, true, true, true, true, true, true, true, true, true, true, true, true] rfl rfl (any_of HT_.out (by kernel_rfl)) (fun _ _ _ h => h) (Or.inl ⟨by rfl, ?_⟩) ?_ ?_
                                                  rotate_left
                                                  · intro w'
                                                    go_simp
                                                    with_reducible rfl
                                                  rotate_left
                                                  · simp only [Act.put, List.setIfInBounds_toArray, List.set_cons_zero, List.set_cons_succ, i64_w, i32_w]
                                                    rfl
                                                  refine done_ (done_of HT_.out (by kernel_rfl)) ?_
                                                  have hnb96 := NB507_508.out
                                                  have hnc96 := NB508_507.out
                                                  have hnb97 := NB507_513.out
                                                  have hnc97 := NB513_507.out
                                                  have hnb98 := NB507_552.out
                                                  have hnc98 := NB552_507.out
                                                  obtain ⟨hcz99_0, hcz99_1, hcz99_2, hcz99_3, hcz99_4, hcz99_5⟩ := XRun.bc6 BK507.out
                                                  obtain ⟨hfz99_0, hfz99_1, hfz99_2, hfz99_3, hfz99_4, hfz99_5⟩ := XRun.bf6 BK507.out
                                                  have hnb100 := NB552_508.out
                                                  have hnc100 := NB508_552.out
                                                  have hnb101 := NB552_513.out
                                                  have hnc101 := NB513_552.out
                                                  obtain ⟨hcz102_0, hcz102_1, hcz102_2, hcz102_3, hcz102_4, hcz102_5⟩ := XRun.bc6 BK552.out
                                                  obtain ⟨hfz102_0, hfz102_1, hfz102_2, hfz102_3, hfz102_4, hfz102_5⟩ := XRun.bf6 BK552.out
                                                  try go_wp2_with (first | (go_at_call 25; (with_reducible refine (tenancylaw15_ias.calls kj55 a0_0 a0_1 a0_2 a0_3 _ _ l0_4 a0_5 t543 t544 t545 t546 _ _ t547 t550 t553 _ ?side1 ?side2 ?side3 ?side4 A82.out).mono ?_); (case side1 => exact Kd.C_below HR0_4.out (by repeat (first | (with_reducible first | exact HB.out | apply below_alloc | apply pw_below_drewN | apply below_drew1 | refine below_set ?_ GE507.out | refine below_set ?_ GE508.out | refine below_set ?_ GE513.out | refine below_set ?_ GE552.out) | exact HB.out))); (case side2 => exact HC0_4.out); (case side3 => refine (Kd.R_reads' (e := 76) (base := w.heap.size) (ok := fun k_ => True) (n := t547.length) (c := co93) ?_).2.2; exact (by (with_reducible repeat (first | apply Kd.R_alloc | apply Kd.R_drewN | apply Kd.R_drew)); exact (Kd.R_mono (Kd.R_far (p := ⟨gb552, 5, none⟩) (Kd.R_far (p := ⟨gb552, 4, none⟩) (Kd.R_far (p := ⟨gb552, 3, none⟩) (Kd.R_far (p := ⟨gb552, 2, none⟩) (Kd.R_far (p := ⟨gb552, 1, none⟩) (Kd.R_far (p := ⟨gb552, 0, none⟩) (Kd.R_types HO549.out BK552.out (by decide)) (fun _ hk => hk.2) (.int .i64 t543)) (fun _ hk => hk.2) (.int .u32 t544)) (fun _ hk => hk.2) (.int .u32 t545)) (fun _ hk => hk.2) (.int .u32 t546)) (fun _ hk => hk.2) (.slice Ao93 t547.length co93)) (fun _ hk => hk.2) (.int .i64 t550)) (fun _ h_ => h_.1)))); (case side4 => exact (Kd.R_reads' HO549.out).2.1); rintro e w103 ⟨rfl, hb⟩; have n0_ := Aside0.mk (Kd.R_below (by (with_reducible repeat (first | apply Kd.R_alloc | apply Kd.R_drewN | apply Kd.R_drew)); exact (Kd.R_mono (Kd.R_far (p := ⟨gb552, 5, none⟩) (Kd.R_far (p := ⟨gb552, 4, none⟩) (Kd.R_far (p := ⟨gb552, 3, none⟩) (Kd.R_far (p := ⟨gb552, 2, none⟩) (Kd.R_far (p := ⟨gb552, 1, none⟩) (Kd.R_far (p := ⟨gb552, 0, none⟩) (Kd.R_types HO_12.out BK552.out (by decide)) (fun _ hk => hk.2) (.int .i64 t543)) (fun _ hk => hk.2) (.int .u32 t544)) (fun _ hk => hk.2) (.int .u32 t545)) (fun _ hk => hk.2) (.int .u32 t546)) (fun _ hk => hk.2) (.slice Ao93 t547.length co93)) (fun _ hk => hk.2) (.int .i64 t550)) (fun _ h_ => h_.1))) hb); have n1_ := Aside0.mk (Kd.R_below (by (with_reducible repeat (first | apply Kd.R_alloc | apply Kd.R_drewN | apply Kd.R_drew)); exact (Kd.R_mono (Kd.R_far (p := ⟨gb552, 5, none⟩) (Kd.R_far (p := ⟨gb552, 4, none⟩) (Kd.R_far (p := ⟨gb552, 3, none⟩) (Kd.R_far (p := ⟨gb552, 2, none⟩) (Kd.R_far (p := ⟨gb552, 1, none⟩) (Kd.R_far (p := ⟨gb552, 0, none⟩) (Kd.R_types HO549.out BK552.out (by decide)) (fun _ hk => hk.2) (.int .i64 t543)) (fun _ hk => hk.2) (.int .u32 t544)) (fun _ hk => hk.2) (.int .u32 t545)) (fun _ hk => hk.2) (.int .u32 t546)) (fun _ hk => hk.2) (.slice Ao93 t547.length co93)) (fun _ hk => hk.2) (.int .i64 t550)) (fun _ h_ => h_.1))) hb); have n2_ := Aside0.mk (blk_below (g := gb507) (o := .cells #[.int .i64 a0_0, .int .u32 a0_1, .int .u32 a0_2, .int .u32 a0_3, .slice A0_4 l0_4.length c0_4, .int .i64 a0_5] 37 (0, 0)) (by (with_reducible repeat (first | refine blk_drewN ?_ _ | refine blk_drew ?_ | refine blk_alloc ?_ _)); refine blk_far ?_ NB507_552.out _; (with_reducible repeat (first | refine blk_drewN ?_ _ | refine blk_drew ?_ | refine blk_alloc ?_ _)); refine blk_far ?_ NB507_552.out _; (with_reducible repeat (first | refine blk_drewN ?_ _ | refine blk_drew ?_ | refine blk_alloc ?_ _)); refine blk_far ?_ NB507_552.out _; (with_reducible repeat (first | refine blk_drewN ?_ _ | refine blk_drew ?_ | refine blk_alloc ?_ _)); refine blk_far ?_ NB507_552.out _; (with_reducible repeat (first | refine blk_drewN ?_ _ | refine blk_drew ?_ | refine blk_alloc ?_ _)); refine blk_far ?_ NB507_552.out _; (with_reducible repeat (first | refine blk_drewN ?_ _ | refine blk_drew ?_ | refine blk_alloc ?_ _)); refine blk_far ?_ NB507_552.out _; (with_reducible repeat (first | refine blk_drewN ?_ _ | refine blk_drew ?_ | refine blk_alloc ?_ _)); exact BK507.out) hb); have n3_ := Aside0.mk (blk_below (g := gb508) (o := .cells #[.int .u16 a1_0, .string a1_1] 40 (0, 0)) (by (with_reducible repeat (first | refine blk_drewN ?_ _ | refine blk_drew ?_ | refine blk_alloc ?_ _)); refine blk_far ?_ NB508_552.out _; (with_reducible repeat (first | refine blk_drewN ?_ _ | refine blk_drew ?_ | refine blk_alloc ?_ _)); refine blk_far ?_ NB508_552.out _; (with_reducible repeat (first | refine blk_drewN ?_ _ | refine blk_drew ?_ | refine blk_alloc ?_ _)); refine blk_far ?_ NB508_552.out _; (with_reducible repeat (first | refine blk_drewN ?_ _ | refine blk_drew ?_ | refine blk_alloc ?_ _)); refine blk_far ?_ NB508_552.out _; (with_reducible repeat (first | refine blk_drewN ?_ _ | refine blk_drew ?_ | refine blk_alloc ?_ _)); refine blk_far ?_ NB508_552.out _; (with_reducible repeat (first | refine blk_drewN ?_ _ | refine blk_drew ?_ | refine blk_alloc ?_ _)); refine blk_far ?_ NB508_552.out _; (with_reducible repeat (first | refine blk_drewN ?_ _ | refine blk_drew ?_ | refine blk_alloc ?_ _)); exact BK508.out) hb); have n4_ := Aside0.mk (blk_below (g := gb513) (o := .cells #[.int .u16 t510, .string t511] 40 (0, 0)) (by (with_reducible repeat (first | refine blk_drewN ?_ _ | refine blk_drew ?_ | refine blk_alloc ?_ _)); refine blk_far ?_ NB513_552.out _; (with_reducible repeat (first | refine blk_drewN ?_ _ | refine blk_drew ?_ | refine blk_alloc ?_ _)); refine blk_far ?_ NB513_552.out _; (with_reducible repeat (first | refine blk_drewN ?_ _ | refine blk_drew ?_ | refine blk_alloc ?_ _)); refine blk_far ?_ NB513_552.out _; (with_reducible repeat (first | refine blk_drewN ?_ _ | refine blk_drew ?_ | refine blk_alloc ?_ _)); refine blk_far ?_ NB513_552.out _; (with_reducible repeat (first | refine blk_drewN ?_ _ | refine blk_drew ?_ | refine blk_alloc ?_ _)); refine blk_far ?_ NB513_552.out _; (with_reducible repeat (first | refine blk_drewN ?_ _ | refine blk_drew ?_ | refine blk_alloc ?_ _)); refine blk_far ?_ NB513_552.out _; (with_reducible repeat (first | refine blk_drewN ?_ _ | refine blk_drew ?_ | refine blk_alloc ?_ _)); exact BK513.out) hb); have n5_ := Aside0.mk (blk_below (g := gb552) (o := .cells #[.int .i64 t543, .int .u32 t544, .int .u32 t545, .int .u32 t546, .slice Ao93 t547.length co93, .int .i64 t550] 37 (0, 0)) (by (with_reducible repeat (first | refine blk_drewN ?_ _ | refine blk_drew ?_ | refine blk_alloc ?_ _)); refine blk_put (cs := #[.int .i64 t543, .int .u32 t544, .int .u32 t545, .int .u32 t546, .slice Ao93 t547.length co93, .int .i64 0]) ?_ 5 _ rfl; (with_reducible repeat (first | refine blk_drewN ?_ _ | refine blk_drew ?_ | refine blk_alloc ?_ _)); refine blk_put (cs := #[.int .i64 t543, .int .u32 t544, .int .u32 t545, .int .u32 t546, .slice none 0 0, .int .i64 0]) ?_ 4 _ rfl; (with_reducible repeat (first | refine blk_drewN ?_ _ | refine blk_drew ?_ | refine blk_alloc ?_ _)); refine blk_put (cs := #[.int .i64 t543, .int .u32 t544, .int .u32 t545, .int .u32 0, .slice none 0 0, .int .i64 0]) ?_ 3 _ rfl; (with_reducible repeat (first | refine blk_drewN ?_ _ | refine blk_drew ?_ | refine blk_alloc ?_ _)); refine blk_put (cs := #[.int .i64 t543, .int .u32 t544, .int .u32 0, .int .u32 0, .slice none 0 0, .int .i64 0]) ?_ 2 _ rfl; (with_reducible repeat (first | refine blk_drewN ?_ _ | refine blk_drew ?_ | refine blk_alloc ?_ _)); refine blk_put (cs := #[.int .i64 t543, .int .u32 0, .int .u32 0, .int .u32 0, .slice none 0 0, .int .i64 0]) ?_ 1 _ rfl; (with_reducible repeat (first | refine blk_drewN ?_ _ | refine blk_drew ?_ | refine blk_alloc ?_ _)); refine blk_put (cs := #[.int .i64 0, .int .u32 0, .int .u32 0, .int .u32 0, .slice none 0 0, .int .i64 0]) ?_ 0 _ rfl; (with_reducible repeat (first | refine blk_drewN ?_ _ | refine blk_drew ?_ | refine blk_alloc ?_ _)); exact BK552.out) hb); have n6_ := Aside0.mk (below_step (by repeat (first | (with_reducible first | exact HB.out | apply below_alloc | apply pw_below_drewN | apply below_drew1 | refine below_set ?_ GE507.out | refine below_set ?_ GE508.out | refine below_set ?_ GE513.out | refine below_set ?_ GE552.out) | exact HB.out)) hb); clear HO_12; clear HO549; clear BK507; clear BK508; clear BK513; clear BK552; clear HB; have HO_12 := n0_; have HO549 := n1_; have BK507 := n2_; have BK508 := n3_; have BK513 := n4_; have BK552 := n5_; have HB := n6_; clear n0_ n1_ n2_ n3_ n4_ n5_ n6_; (try clear hb); (try clear hb2); (try clear hk); (try clear hi)))
                                                  go_ret
                                                  exact ⟨by first | rfl | (simp [errW_none, errW_some] <;> rfl) | (simp only [← hji45, ← hji48]; first | rfl | (simp [errW_none, errW_some] <;> rfl)) | (simp [*, errW_none, errW_some] <;> rfl), by repeat (first | (with_reducible first | exact HB.out | apply below_alloc | apply pw_below_drewN | apply below_drew1 | refine below_set ?_ GE507.out | refine below_set ?_ GE508.out | refine below_set ?_ GE513.out | refine below_set ?_ GE552.out) | exact HB.out)⟩
                                                · rw [if_neg c81] at H
                                                  exact absurd H (by simp)
                                              · rw [if_neg c79] at H
                                                exact absurd H (by simp)
                                            · rw [if_neg c78] at H
                                              exact absurd H (by simp)
                                          · rw [if_neg c77] at H
                                            exact absurd H (by simp)
                                        · rw [if_neg c76] at H
                                          exact absurd H (by simp)
                                  · rw [if_neg c55] at H
                                    exact absurd H (by simp)
                                · rw [if_neg c52] at H
                                  exact absurd H (by simp)
                              · rw [if_neg c51] at H
                                exact absurd H (by simp)
                            · rw [if_neg c50] at H
                              exact absurd H (by simp)
                          · rw [if_neg c49] at H
                            exact absurd H (by simp)
                        · rw [if_neg c47] at H
                          exact absurd H (by simp)
                      · rw [if_neg c46] at H
                        exact absurd H (by simp)
                  · rw [if_neg c43] at H
                    exact absurd H (by simp)
                · rw [if_neg c41] at H
                  exact absurd H (by simp)
              · rw [if_neg c40] at H
                exact absurd H (by simp)
  · replace c5 := Bool.eq_false_iff.mpr c5
    subst c5
    have H1 : (none) = some r := by rw [if_neg (show ¬ (false = true) by decide)] at H; exact H
    clear H
    have H := H1
    clear H1
    exact absurd H (by simp)

/-- The one plain statement of tenancylaw15_Opt6Ignores. -/
def tenancylaw15_Opt6Ignores.Pure : Prop := ∀ (x0 : S37) (x1 : S40) (a2 : Int), (wf37 x0) → (wf40 x1) → ((Lit.int .i64 a2).wf = true) → ∃ k, tenancylaw15_Opt6Ignores.f k (x0.f0) (x0.f1) (x0.f2) (x0.f3) (x0.f4) (x0.f5) (x1.f0) (x1.f1) a2 = some true

end Go.Proofs.Ytngojiikkokajaa.X
