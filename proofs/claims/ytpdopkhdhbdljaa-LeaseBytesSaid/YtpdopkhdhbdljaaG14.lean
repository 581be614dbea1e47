/- Functions of the program as Lean functions, and that the calls come to them: no condition.  By this session's own program (wip/xprint). -/
import Derived.Test.YtpdopkhdhbdljaaG0
import Derived.Test.YtpdopkhdhbdljaaG4
import Derived.Test.YtpdopkhdhbdljaaG5
import Derived.Test.YtpdopkhdhbdljaaG6
import Derived.Test.YtpdopkhdhbdljaaG13
namespace Go.Proofs.Ytpdopkhdhbdljaa.X
open Go.RowKit Go.Proofs.YtpdopkhdhbdljaaW.PrintWords Go.Proofs.YtpdopkhdhbdljaaW.PrintLast Go.Proofs.YtpdopkhdhbdljaaW.PrintMore
attribute [local go_sem] max2_int min2_int max_two min_two max_three min_three max_four min_four   -- for this text's walks alone
set_option linter.unusedVariables false
set_option linter.unusedSimpArgs false
/-! ### tenancyref08_Encode: function 21 -/
mutual
def tenancyref08_Encode.l0 : Nat → List (S31) → ByteArray → Int → Option (ByteArray × Int)
  | 0, _, _, _ => none
  | k + 1, x0, x4, x5 => if x5 < (x0.length : Int) then (if 0 ≤ x5 then ((tenancyref08_Change.f k ((rd_T31 x0 x5).f0) ((rd_T31 x0 x5).f1.f0) ((rd_T31 x0 x5).f1.f1.f0.f0) ((rd_T31 x0 x5).f1.f1.f0.f1) ((rd_T31 x0 x5).f1.f1.f1) ((rd_T31 x0 x5).f1.f2) ((rd_T31 x0 x5).f1.f3) ((rd_T31 x0 x5).f1.f4) ((rd_T31 x0 x5).f1.f5)).bind fun t427 => (if t427 = true then (if (rd_T31 x0 x5).f0 = true then (tenancyref08_Encode.j1 k x0 x4 x5 2 ((rd_T31 x0 x5).f0) ((rd_T31 x0 x5).f1.f0) ((rd_T31 x0 x5).f1.f1.f0.f0) ((rd_T31 x0 x5).f1.f1.f0.f1) ((rd_T31 x0 x5).f1.f1.f1) ((rd_T31 x0 x5).f1.f2) ((rd_T31 x0 x5).f1.f3) ((rd_T31 x0 x5).f1.f4) ((rd_T31 x0 x5).f1.f5)) else (tenancyref08_Encode.j1 k x0 x4 x5 1 ((rd_T31 x0 x5).f0) ((rd_T31 x0 x5).f1.f0) ((rd_T31 x0 x5).f1.f1.f0.f0) ((rd_T31 x0 x5).f1.f1.f0.f1) ((rd_T31 x0 x5).f1.f1.f1) ((rd_T31 x0 x5).f1.f2) ((rd_T31 x0 x5).f1.f3) ((rd_T31 x0 x5).f1.f4) ((rd_T31 x0 x5).f1.f5))) else (some ((⟨#[]⟩ : ByteArray), 80)))) else (none)) else (some (x4, 0))
def tenancyref08_Encode.j1 : Nat → List (S31) → ByteArray → Int → Int → Bool → Int → Int → Int → Int → Int → ByteArray → Int → Int → Option (ByteArray × Int)
  | 0, _, _, _, _, _, _, _, _, _, _, _, _, _ => none
  | k + 1, x0, x4, x5, x7, x427000, x427001, x427002, x427003, x427004, x427005, x427006, x427007, x427008 => (some (([x7, (x427001) % 256, (x427004) % 256] : List Int) : List Int)).bind fun y428 => (if x4.size + (strOfNums y428).size ≤ 9223372036854775807 then ((tenancyref04_PutAddr.f k x427002 x427003).bind fun t431 => (if (x4 ++ (strOfNums y428)).size + t431.size ≤ 9223372036854775807 then (if x427000 = true then (tenancyref08_Encode.l0 k x0 ((x4 ++ (strOfNums y428)) ++ t431) (wrap64 (x5 + 1))) else ((tenancyref04_Run.f k x427006).bind fun bt432 => ((some (([(x427005) % 256] : List Int) : List Int)).bind fun y434 => (if ((x4 ++ (strOfNums y428)) ++ t431).size + (strOfNums y434).size ≤ 9223372036854775807 then ((tenancyref04_Put32.f k x427007).bind fun t437 => (if (((x4 ++ (strOfNums y428)) ++ t431) ++ (strOfNums y434)).size + t437.size ≤ 9223372036854775807 then ((tenancyref04_Put64.f k (IntKind.u64.wrap (x427008))).bind fun t438 => (if ((((x4 ++ (strOfNums y428)) ++ t431) ++ (strOfNums y434)) ++ t437).size + t438.size ≤ 9223372036854775807 then (if (((((x4 ++ (strOfNums y428)) ++ t431) ++ (strOfNums y434)) ++ t437) ++ t438).size + bt432.1.size ≤ 9223372036854775807 then (tenancyref08_Encode.l0 k x0 ((((((x4 ++ (strOfNums y428)) ++ t431) ++ (strOfNums y434)) ++ t437) ++ t438) ++ bt432.1) (wrap64 (x5 + 1))) else (none)) else (none))) else (none))) else (none))))) else (none))) else (none))
end
def tenancyref08_Encode.f (k : Nat) (l0 : List (S31)) : Option (ByteArray × Int) := if (l0.length : Int) > 2048 then (some ((⟨#[]⟩ : ByteArray), 6)) else ((tenancyref04_Put16.f k (IntKind.u16.wrap ((l0.length : Int)))).bind fun t424 => (tenancyref08_Encode.l0 k l0 t424 0))
theorem tenancyref08_Encode.mono_l : ∀ k, (∀ y0 y1 y2, LeO (tenancyref08_Encode.l0 k y0 y1 y2) (tenancyref08_Encode.l0 (k + 1) y0 y1 y2)) ∧ (∀ y0 y1 y2 y3 y4 y5 y6 y7 y8 y9 y10 y11 y12, LeO (tenancyref08_Encode.j1 k y0 y1 y2 y3 y4 y5 y6 y7 y8 y9 y10 y11 y12) (tenancyref08_Encode.j1 (k + 1) y0 y1 y2 y3 y4 y5 y6 y7 y8 y9 y10 y11 y12))
  | 0 => ⟨fun _ _ _ r h => by simp [tenancyref08_Encode.l0] at h, fun _ _ _ _ _ _ _ _ _ _ _ _ _ r h => by simp [tenancyref08_Encode.j1] at h⟩
  | k + 1 => by
    obtain ⟨ih0, ih1⟩ := tenancyref08_Encode.mono_l k
    refine ⟨?_, ?_⟩
    · intro y0 y1 y2
      unfold tenancyref08_Encode.l0
      repeat' first
      | (with_reducible exact ih0 _ _ _)
      | (with_reducible exact ih1 _ _ _ _ _ _ _ _ _ _ _ _ _)
      | (with_reducible exact tenancyref04_Put16.mono _ _)
      | (with_reducible exact tenancyref04_Put32.mono _ _)
      | (with_reducible exact tenancyref04_Put64.mono _ _)
      | (with_reducible exact tenancyref04_PutAddr.mono _ _ _)
      | (with_reducible exact tenancyref04_Run.mono _ _)
      | (with_reducible exact tenancyref08_Change.mono _ _ _ _ _ _ _ _ _ _)
      | (with_reducible exact LeO.refl _)
      | (with_reducible exact LeO.none _)
      | (with_reducible refine LeO.ite ?_ ?_)
      | (with_reducible refine LeO.bind ?_ (fun _ => ?_))
      | exact ih0 _ _ _
      | exact ih1 _ _ _ _ _ _ _ _ _ _ _ _ _
      | exact tenancyref04_Put16.mono _ _
      | exact tenancyref04_Put32.mono _ _
      | exact tenancyref04_Put64.mono _ _
      | exact tenancyref04_PutAddr.mono _ _ _
      | exact tenancyref04_Run.mono _ _
      | exact tenancyref08_Change.mono _ _ _ _ _ _ _ _ _ _
      | exact LeO.none _
      | refine LeO.ite ?_ ?_
      | refine LeO.bind ?_ (fun _ => ?_)
    · intro y0 y1 y2 y3 y4 y5 y6 y7 y8 y9 y10 y11 y12
      unfold tenancyref08_Encode.j1
      repeat' first
      | (with_reducible exact ih0 _ _ _)
      | (with_reducible exact ih1 _ _ _ _ _ _ _ _ _ _ _ _ _)
      | (with_reducible exact tenancyref04_Put16.mono _ _)
      | (with_reducible exact tenancyref04_Put32.mono _ _)
      | (with_reducible exact tenancyref04_Put64.mono _ _)
      | (with_reducible exact tenancyref04_PutAddr.mono _ _ _)
      | (with_reducible exact tenancyref04_Run.mono _ _)
      | (with_reducible exact tenancyref08_Change.mono _ _ _ _ _ _ _ _ _ _)
      | (with_reducible exact LeO.refl _)
      | (with_reducible exact LeO.none _)
      | (with_reducible refine LeO.ite ?_ ?_)
      | (with_reducible refine LeO.bind ?_ (fun _ => ?_))
      | exact ih0 _ _ _
      | exact ih1 _ _ _ _ _ _ _ _ _ _ _ _ _
      | exact tenancyref04_Put16.mono _ _
      | exact tenancyref04_Put32.mono _ _
      | exact tenancyref04_Put64.mono _ _
      | exact tenancyref04_PutAddr.mono _ _ _
      | exact tenancyref04_Run.mono _ _
      | exact tenancyref08_Change.mono _ _ _ _ _ _ _ _ _ _
      | exact LeO.none _
      | refine LeO.ite ?_ ?_
      | refine LeO.bind ?_ (fun _ => ?_)
theorem tenancyref08_Encode.mono : ∀ a0 k, LeO (tenancyref08_Encode.f k a0) (tenancyref08_Encode.f (k + 1) a0) := by
  intro a0 k
  obtain ⟨ih0, ih1⟩ := tenancyref08_Encode.mono_l k
  unfold tenancyref08_Encode.f
  repeat' first
      | (with_reducible exact ih0 _ _ _)
      | (with_reducible exact ih1 _ _ _ _ _ _ _ _ _ _ _ _ _)
      | (with_reducible exact tenancyref04_Put16.mono _ _)
      | (with_reducible exact tenancyref04_Put32.mono _ _)
      | (with_reducible exact tenancyref04_Put64.mono _ _)
      | (with_reducible exact tenancyref04_PutAddr.mono _ _ _)
      | (with_reducible exact tenancyref04_Run.mono _ _)
      | (with_reducible exact tenancyref08_Change.mono _ _ _ _ _ _ _ _ _ _)
      | (with_reducible exact LeO.refl _)
      | (with_reducible exact LeO.none _)
      | (with_reducible refine LeO.ite ?_ ?_)
      | (with_reducible refine LeO.bind ?_ (fun _ => ?_))
      | exact ih0 _ _ _
      | exact ih1 _ _ _ _ _ _ _ _ _ _ _ _ _
      | exact tenancyref04_Put16.mono _ _
      | exact tenancyref04_Put32.mono _ _
      | exact tenancyref04_Put64.mono _ _
      | exact tenancyref04_PutAddr.mono _ _ _
      | exact tenancyref04_Run.mono _ _
      | exact tenancyref08_Change.mono _ _ _ _ _ _ _ _ _ _
      | exact LeO.none _
      | refine LeO.ite ?_ ?_
      | refine LeO.bind ?_ (fun _ => ?_)
def tenancyref08_Encode.T13 : Bool × List (List Nat × List Nat) := (true, [([], []), ([], []), ([], []), ([2], [2]), ([3], [3]), ([4], [4]), ([], []), ([6], [6]), ([7], [7]), ([8], [8]), ([9], [9]), ([1, 5, 10], [1, 5, 10]), ([11], [11]), ([0, 12], [0, 12]), ([], []), ([14], [14]), ([15], [15]), ([16], [16]), ([17], [17]), ([13, 18], [13, 18]), ([19, 18, 0, 1, 2, 3, 4, 5, 6, 7, 8, 9, 10, 11, 12, 13, 14, 15, 16, 17, 18, 19], [0, 19])])
def tenancyref08_Encode.B13 : List Nat := [0, 0, 0, 4, 12, 28, 0, 64, 192, 448, 960, 2046, 4094, 8191, 0, 16384, 49152, 114688, 245760, 524287, 1048575]
theorem tenancyref08_Encode.tab13 : rtab .any (opsOf Try.f21 13) = tenancyref08_Encode.T13 := by kernel_rfl
theorem tenancyref08_Encode.bits13 : waitsOk tenancyref08_Encode.T13.2 tenancyref08_Encode.B13 = true := by kernel_rfl
def tenancyref08_Encode.T16 : Bool × List (List Nat × List Nat) := (true, [([], []), ([], []), ([1], [1]), ([2], [2]), ([3], [3]), ([4], [4]), ([5], [5]), ([0, 6], [0, 6]), ([], []), ([8], [8]), ([9], [9]), ([10], [10]), ([7, 11], [7, 11]), ([], []), ([13], [13]), ([14], [14]), ([15], [15]), ([16, 11], [16]), ([12, 17], [12, 17]), ([], []), ([18, 19], [18, 19]), ([20, 17, 0, 1, 2, 3, 4, 5, 6, 7, 8, 9, 10, 11, 12, 13, 14, 15, 16, 17, 18, 19, 20], [0, 20])])
def tenancyref08_Encode.B16 : List Nat := [0, 0, 2, 6, 14, 30, 62, 127, 0, 256, 768, 1792, 4095, 0, 8192, 24576, 57344, 126720, 262143, 0, 1048575, 2097151]
theorem tenancyref08_Encode.tab16 : rtab .any (opsOf Try.f21 16) = tenancyref08_Encode.T16 := by kernel_rfl
theorem tenancyref08_Encode.bits16 : waitsOk tenancyref08_Encode.T16.2 tenancyref08_Encode.B16 = true := by kernel_rfl
set_option maxHeartbeats 8000000 in
set_option maxRecDepth 100000 in
theorem tenancyref08_Encode.calls (k : Nat) (A0 : Option Addr) (c0 : Nat) (l0 : List (S31)) (r1 : ByteArray) (r2 : Int) (w : World) (hr0 : Kd.C k31 w A0 l0.length l0) (hc0 : l0.length ≤ c0) (h : tenancyref08_Encode.f k l0 = some (r1, r2)) :
    Calls Try.prog 21 #[.slice A0 l0.length c0] w fun e w' => e = .returned (.tuple #[.string r1, .int .i64 r2]) ∧ Below w.heap.size w w' := by
  have hu31 := Try.underlying31
  have hu24 := Try.underlying24
  have HR0 := Aside0.mk hr0
  have HC0 := Aside0.mk hc0
  clear hr0 hc0
  have HB := Aside0.mk (Below.refl w.heap.size w)
  have H : (if (l0.length : Int) > 2048 then (some ((⟨#[]⟩ : ByteArray), 6)) else ((tenancyref04_Put16.f k (IntKind.u16.wrap ((l0.length : Int)))).bind fun t424 => (tenancyref08_Encode.l0 k l0 t424 0))) = some (r1, r2) := h
  clear h
  by_cases c2 : (l0.length : Int) > 2048
  · rw [if_pos c2] at H
    have c2b0 : decide (2048 < (l0.length : Int)) = true := decide_eq_true c2
    have c2b1 : decide (2048 < l0.length) = true := decide_eq_true (by omega)
    clear c2
    simp only [Option.some.injEq, Prod.mk.injEq] at H
    obtain ⟨rfl, rfl⟩ := H
    go_enter Try.func21, Try.ntmps21
    go_wp2
    go_ret2
    exact ⟨by rfl, by exact HB.out⟩
  · rw [if_neg c2] at H
    have c2b0 : decide (2048 < (l0.length : Int)) = false := decide_eq_false c2
    have c2b1 : decide (2048 < l0.length) = false := decide_eq_false (by omega)
    clear c2
    replace H := Option.bind_eq_some_iff.mp H
    obtain ⟨t424, A30, H⟩ := H
    replace H : (tenancyref08_Encode.l0 k l0 t424 0) = some (r1, r2) := H
    have A3 := Aside0.mk A30
    clear A30
    have H' := Aside0.mk H
    clear H
    go_enter Try.func21, Try.ntmps21
    go_wp2_with (first | ((with_reducible refine gate_callee (f := 40) rfl ?_); refine goesL_ (some 16) rfl rfl Try.func40 (by kernel_rfl) rfl #[.int .u16 (IntKind.u16.wrap ((l0.length : Int)))] rfl (by (try simp only [List.map_toArray, List.map_cons, List.map_nil]); first | rfl) ?_; (with_reducible refine (tenancyref04_Put16.calls k (IntKind.u16.wrap ((l0.length : Int))) t424 _ A3.out).mono ?_); rintro e w4 ⟨rfl, hb⟩; refine ⟨_, rfl, ?_⟩; have n0_ := Aside0.mk (below_step HB.out hb); clear HB; have HB := n0_; clear n0_; (try clear hb); (try clear hb2); (try clear hk); (try clear hi)))
    go_loopg [4, 5] k (fun kq v4 v5 w' => ∃ (x4_1 : ByteArray) (x5_1 : Int), v4 = .string x4_1 ∧ v5 = .int .i64 x5_1 ∧ Aside0 (tenancyref08_Encode.l0 kq l0 x4_1 x5_1 = some (r1, r2)) ∧ Aside0 (kq ≤ k) ∧ Aside0 (Below w.heap.size w w'))
    case atStart => exact ⟨(t424), (0), (by rfl), (by rfl), H', ⟨Nat.le_refl _⟩, ⟨by exact HB.out⟩⟩
    case round =>
      clear H'
      try clear c2
      try clear c2b0
      try clear c2b1
      try clear p2
      try clear c4
      obtain ⟨x4_1, x5_1, rfl, rfl, HA, HK1, HB⟩ := hrel
      cases gk with
      | zero => exact absurd HA.out (by simp [tenancyref08_Encode.l0])
      | succ k1 =>
        have H := HA.out
        clear HA
        simp only [tenancyref08_Encode.l0] at H
        by_cases c5 : x5_1 < (l0.length : Int)
        · rw [if_pos c5] at H
          have c5b0 : decide (x5_1 < (l0.length : Int)) = true := decide_eq_true c5
          clear c5
          by_cases c6 : 0 ≤ x5_1
          · rw [if_pos c6] at H
            have c6b0 : decide (0 ≤ x5_1) = true := decide_eq_true c6
            clear c6
            replace H := Option.bind_eq_some_iff.mp H
            obtain ⟨t427, A70, H⟩ := H
            replace H : (if t427 = true then (if (rd_T31 l0 x5_1).f0 = true then (tenancyref08_Encode.j1 k1 l0 x4_1 x5_1 2 ((rd_T31 l0 x5_1).f0) ((rd_T31 l0 x5_1).f1.f0) ((rd_T31 l0 x5_1).f1.f1.f0.f0) ((rd_T31 l0 x5_1).f1.f1.f0.f1) ((rd_T31 l0 x5_1).f1.f1.f1) ((rd_T31 l0 x5_1).f1.f2) ((rd_T31 l0 x5_1).f1.f3) ((rd_T31 l0 x5_1).f1.f4) ((rd_T31 l0 x5_1).f1.f5)) else (tenancyref08_Encode.j1 k1 l0 x4_1 x5_1 1 ((rd_T31 l0 x5_1).f0) ((rd_T31 l0 x5_1).f1.f0) ((rd_T31 l0 x5_1).f1.f1.f0.f0) ((rd_T31 l0 x5_1).f1.f1.f0.f1) ((rd_T31 l0 x5_1).f1.f1.f1) ((rd_T31 l0 x5_1).f1.f2) ((rd_T31 l0 x5_1).f1.f3) ((rd_T31 l0 x5_1).f1.f4) ((rd_T31 l0 x5_1).f1.f5))) else (some ((⟨#[]⟩ : ByteArray), 80))) = some (r1, r2) := H
            have A7 := Aside0.mk A70
            clear A70
            by_cases c8 : t427 = true
            · subst c8
              have H1 : (if (rd_T31 l0 x5_1).f0 = true then (tenancyref08_Encode.j1 k1 l0 x4_1 x5_1 2 ((rd_T31 l0 x5_1).f0) ((rd_T31 l0 x5_1).f1.f0) ((rd_T31 l0 x5_1).f1.f1.f0.f0) ((rd_T31 l0 x5_1).f1.f1.f0.f1) ((rd_T31 l0 x5_1).f1.f1.f1) ((rd_T31 l0 x5_1).f1.f2) ((rd_T31 l0 x5_1).f1.f3) ((rd_T31 l0 x5_1).f1.f4) ((rd_T31 l0 x5_1).f1.f5)) else (tenancyref08_Encode.j1 k1 l0 x4_1 x5_1 1 ((rd_T31 l0 x5_1).f0) ((rd_T31 l0 x5_1).f1.f0) ((rd_T31 l0 x5_1).f1.f1.f0.f0) ((rd_T31 l0 x5_1).f1.f1.f0.f1) ((rd_T31 l0 x5_1).f1.f1.f1) ((rd_T31 l0 x5_1).f1.f2) ((rd_T31 l0 x5_1).f1.f3) ((rd_T31 l0 x5_1).f1.f4) ((rd_T31 l0 x5_1).f1.f5))) = some (r1, r2) := by rw [if_pos rfl] at H; exact H
              clear H
              have H := H1
              clear H1
              have HC9 := Aside0.mk H
              clear H
              have p425 : 0 ≤ (x5_1 : Int) := of_decide_eq_true (by first | (with_reducible assumption))
              have q425 : x5_1 < (l0.length : Int) := of_decide_eq_true (by first | (with_reducible assumption))
              obtain ⟨ad425, e425, hx425_0, hx425_1, hx425_2, hx425_3, hx425_4, hx425_5, hx425_6, hx425_7, hx425_8⟩ := at_T31 HR0.out x5_1 p425 q425
              cases e425
              replace hx425_0 := (HB.out.cell (World.block_lt_of_cell? w _ hx425_0)).trans hx425_0
              replace hx425_1 := (HB.out.cell (World.block_lt_of_cell? w _ hx425_1)).trans hx425_1
              replace hx425_2 := (HB.out.cell (World.block_lt_of_cell? w _ hx425_2)).trans hx425_2
              replace hx425_3 := (HB.out.cell (World.block_lt_of_cell? w _ hx425_3)).trans hx425_3
              replace hx425_4 := (HB.out.cell (World.block_lt_of_cell? w _ hx425_4)).trans hx425_4
              replace hx425_5 := (HB.out.cell (World.block_lt_of_cell? w _ hx425_5)).trans hx425_5
              replace hx425_6 := (HB.out.cell (World.block_lt_of_cell? w _ hx425_6)).trans hx425_6
              replace hx425_7 := (HB.out.cell (World.block_lt_of_cell? w _ hx425_7)).trans hx425_7
              replace hx425_8 := (HB.out.cell (World.block_lt_of_cell? w _ hx425_8)).trans hx425_8
              replace p425 := eq_true p425
              replace q425 := eq_true q425
              go_upto_if 31 with (first | ((with_reducible refine gate_dst (N := 6) rfl ?_); refine box_event ?hg (N := 6) ?hd (cs := #[.bool false, .int .i64 0, .int .u64 0, .int .u64 0, .int .i64 0, .int .i64 0, .string (⟨#[]⟩ : ByteArray), .int .u32 0, .int .i64 0]) (t := 31) ?hr ?_; (case hd => rfl); (case hg => rfl); (case hr => go_simp; done); intro gb426 hg w10 hbox hb; have n0_ := Aside0.mk (below_step HB.out hb); have n1_ := Aside0.mk (hbox); have n2_ := Aside0.mk ((by rw [hg]; exact (below_size HB.out) : w.heap.size ≤ gb426)); have n3_ := Aside0.mk ((by rw [hg]; exact (below_size HB.out) : w.heap.size ≤ gb426)); clear HB; have HB := n0_; have BK426 := n1_; have GW426 := n2_; have GE426 := n3_; clear n0_ n1_ n2_ n3_; clear hb hbox hg; obtain ⟨hcz11_0, hcz11_1, hcz11_2, hcz11_3, hcz11_4, hcz11_5, hcz11_6, hcz11_7, hcz11_8⟩ := XRun.bc9 BK426.out; obtain ⟨hfz11_0, hfz11_1, hfz11_2, hfz11_3, hfz11_4, hfz11_5, hfz11_6, hfz11_7, hfz11_8⟩ := XRun.bf9 BK426.out) | ((with_reducible refine gate_callee (f := 15) rfl ?_); refine goesL_ (some 28) rfl rfl Try.func15 (by kernel_rfl) rfl #[.agg #[.bool ((rd_T31 l0 x5_1).f0), .int .i64 ((rd_T31 l0 x5_1).f1.f0), .int .u64 ((rd_T31 l0 x5_1).f1.f1.f0.f0), .int .u64 ((rd_T31 l0 x5_1).f1.f1.f0.f1), .int .i64 ((rd_T31 l0 x5_1).f1.f1.f1), .int .i64 ((rd_T31 l0 x5_1).f1.f2), .string ((rd_T31 l0 x5_1).f1.f3), .int .u32 ((rd_T31 l0 x5_1).f1.f4), .int .i64 ((rd_T31 l0 x5_1).f1.f5)]] rfl (by (try simp only [List.map_toArray, List.map_cons, List.map_nil]); first | rfl) ?_; (with_reducible refine (tenancyref08_Change.calls k1 ((rd_T31 l0 x5_1).f0) ((rd_T31 l0 x5_1).f1.f0) ((rd_T31 l0 x5_1).f1.f1.f0.f0) ((rd_T31 l0 x5_1).f1.f1.f0.f1) ((rd_T31 l0 x5_1).f1.f1.f1) ((rd_T31 l0 x5_1).f1.f2) ((rd_T31 l0 x5_1).f1.f3) ((rd_T31 l0 x5_1).f1.f4) ((rd_T31 l0 x5_1).f1.f5) true _ A7.out).mono ?_); rintro e w12 ⟨rfl, hb⟩; refine ⟨_, rfl, ?_⟩; have n0_ := Aside0.mk (blk_below (g := gb426) (o := .cells #[.bool ((rd_T31 l0 x5_1).f0), .int .i64 ((rd_T31 l0 x5_1).f1.f0), .int .u64 ((rd_T31 l0 x5_1).f1.f1.f0.f0), .int .u64 ((rd_T31 l0 x5_1).f1.f1.f0.f1), .int .i64 ((rd_T31 l0 x5_1).f1.f1.f1), .int .i64 ((rd_T31 l0 x5_1).f1.f2), .string ((rd_T31 l0 x5_1).f1.f3), .int .u32 ((rd_T31 l0 x5_1).f1.f4), .int .i64 ((rd_T31 l0 x5_1).f1.f5)] 31 (0, 0)) (by refine blk_put (cs := #[.bool ((rd_T31 l0 x5_1).f0), .int .i64 ((rd_T31 l0 x5_1).f1.f0), .int .u64 ((rd_T31 l0 x5_1).f1.f1.f0.f0), .int .u64 ((rd_T31 l0 x5_1).f1.f1.f0.f1), .int .i64 ((rd_T31 l0 x5_1).f1.f1.f1), .int .i64 ((rd_T31 l0 x5_1).f1.f2), .string ((rd_T31 l0 x5_1).f1.f3), .int .u32 ((rd_T31 l0 x5_1).f1.f4), .int .i64 0]) ?_ 8 _ rfl; refine blk_put (cs := #[.bool ((rd_T31 l0 x5_1).f0), .int .i64 ((rd_T31 l0 x5_1).f1.f0), .int .u64 ((rd_T31 l0 x5_1).f1.f1.f0.f0), .int .u64 ((rd_T31 l0 x5_1).f1.f1.f0.f1), .int .i64 ((rd_T31 l0 x5_1).f1.f1.f1), .int .i64 ((rd_T31 l0 x5_1).f1.f2), .string ((rd_T31 l0 x5_1).f1.f3), .int .u32 0, .int .i64 0]) ?_ 7 _ rfl; refine blk_put (cs := #[.bool ((rd_T31 l0 x5_1).f0), .int .i64 ((rd_T31 l0 x5_1).f1.f0), .int .u64 ((rd_T31 l0 x5_1).f1.f1.f0.f0), .int .u64 ((rd_T31 l0 x5_1).f1.f1.f0.f1), .int .i64 ((rd_T31 l0 x5_1).f1.f1.f1), .int .i64 ((rd_T31 l0 x5_1).f1.f2), .string (⟨#[]⟩ : ByteArray), .int .u32 0, .int .i64 0]) ?_ 6 _ rfl; refine blk_put (cs := #[.bool ((rd_T31 l0 x5_1).f0), .int .i64 ((rd_T31 l0 x5_1).f1.f0), .int .u64 ((rd_T31 l0 x5_1).f1.f1.f0.f0), .int .u64 ((rd_T31 l0 x5_1).f1.f1.f0.f1), .int .i64 ((rd_T31 l0 x5_1).f1.f1.f1), .int .i64 0, .string (⟨#[]⟩ : ByteArray), .int .u32 0, .int .i64 0]) ?_ 5 _ rfl; refine blk_put (cs := #[.bool ((rd_T31 l0 x5_1).f0), .int .i64 ((rd_T31 l0 x5_1).f1.f0), .int .u64 ((rd_T31 l0 x5_1).f1.f1.f0.f0), .int .u64 ((rd_T31 l0 x5_1).f1.f1.f0.f1), .int .i64 0, .int .i64 0, .string (⟨#[]⟩ : ByteArray), .int .u32 0, .int .i64 0]) ?_ 4 _ rfl; refine blk_put (cs := #[.bool ((rd_T31 l0 x5_1).f0), .int .i64 ((rd_T31 l0 x5_1).f1.f0), .int .u64 ((rd_T31 l0 x5_1).f1.f1.f0.f0), .int .u64 0, .int .i64 0, .int .i64 0, .string (⟨#[]⟩ : ByteArray), .int .u32 0, .int .i64 0]) ?_ 3 _ rfl; refine blk_put (cs := #[.bool ((rd_T31 l0 x5_1).f0), .int .i64 ((rd_T31 l0 x5_1).f1.f0), .int .u64 0, .int .u64 0, .int .i64 0, .int .i64 0, .string (⟨#[]⟩ : ByteArray), .int .u32 0, .int .i64 0]) ?_ 2 _ rfl; refine blk_put (cs := #[.bool ((rd_T31 l0 x5_1).f0), .int .i64 0, .int .u64 0, .int .u64 0, .int .i64 0, .int .i64 0, .string (⟨#[]⟩ : ByteArray), .int .u32 0, .int .i64 0]) ?_ 1 _ rfl; refine blk_put (cs := #[.bool false, .int .i64 0, .int .u64 0, .int .u64 0, .int .i64 0, .int .i64 0, .string (⟨#[]⟩ : ByteArray), .int .u32 0, .int .i64 0]) ?_ 0 _ rfl; exact BK426.out) hb); have n1_ := Aside0.mk (below_step (by repeat (first | (with_reducible first | exact HB.out | refine below_set ?_ GE426.out))) hb); clear BK426; clear HB; have BK426 := n0_; have HB := n1_; clear n0_ n1_; (try clear hb); (try clear hb2); (try clear hk); (try clear hi); obtain ⟨hcz13_0, hcz13_1, hcz13_2, hcz13_3, hcz13_4, hcz13_5, hcz13_6, hcz13_7, hcz13_8⟩ := XRun.bc9 BK426.out; obtain ⟨hfz13_0, hfz13_1, hfz13_2, hfz13_3, hfz13_4, hfz13_5, hfz13_6, hfz13_7, hfz13_8⟩ := XRun.bf9 BK426.out))
              (try simp only [Act.put, List.setIfInBounds_toArray, List.set_cons_zero, List.set_cons_succ])
              go_cut [7] (fun v7 wc => ∃ (kq : Nat) (x7_8 : Int), v7 = .int .u8 x7_8 ∧ Aside0 (tenancyref08_Encode.j1 kq l0 x4_1 x5_1 x7_8 ((rd_T31 l0 x5_1).f0) ((rd_T31 l0 x5_1).f1.f0) ((rd_T31 l0 x5_1).f1.f1.f0.f0) ((rd_T31 l0 x5_1).f1.f1.f0.f1) ((rd_T31 l0 x5_1).f1.f1.f1) ((rd_T31 l0 x5_1).f1.f2) ((rd_T31 l0 x5_1).f1.f3) ((rd_T31 l0 x5_1).f1.f4) ((rd_T31 l0 x5_1).f1.f5) = some (r1, r2)) ∧ Aside0 (kq ≤ k1) ∧ Aside0 (wc.heap[gb426]? = some (.cells #[.bool ((rd_T31 l0 x5_1).f0), .int .i64 ((rd_T31 l0 x5_1).f1.f0), .int .u64 ((rd_T31 l0 x5_1).f1.f1.f0.f0), .int .u64 ((rd_T31 l0 x5_1).f1.f1.f0.f1), .int .i64 ((rd_T31 l0 x5_1).f1.f1.f1), .int .i64 ((rd_T31 l0 x5_1).f1.f2), .string ((rd_T31 l0 x5_1).f1.f3), .int .u32 ((rd_T31 l0 x5_1).f1.f4), .int .i64 ((rd_T31 l0 x5_1).f1.f5)] 31 (0, 0))) ∧ Aside0 (Below w.heap.size w wc))
              case first =>
                have H := HC9.out
                clear HC9
                obtain ⟨bq14, hbq14⟩ : ∃ b_ : Bool, b_ = ((rd_T31 l0 x5_1).f0) := ⟨_, rfl⟩
                replace H : (if bq14 = true then (tenancyref08_Encode.j1 k1 l0 x4_1 x5_1 2 bq14 ((rd_T31 l0 x5_1).f1.f0) ((rd_T31 l0 x5_1).f1.f1.f0.f0) ((rd_T31 l0 x5_1).f1.f1.f0.f1) ((rd_T31 l0 x5_1).f1.f1.f1) ((rd_T31 l0 x5_1).f1.f2) ((rd_T31 l0 x5_1).f1.f3) ((rd_T31 l0 x5_1).f1.f4) ((rd_T31 l0 x5_1).f1.f5)) else (tenancyref08_Encode.j1 k1 l0 x4_1 x5_1 1 bq14 ((rd_T31 l0 x5_1).f1.f0) ((rd_T31 l0 x5_1).f1.f1.f0.f0) ((rd_T31 l0 x5_1).f1.f1.f0.f1) ((rd_T31 l0 x5_1).f1.f1.f1) ((rd_T31 l0 x5_1).f1.f2) ((rd_T31 l0 x5_1).f1.f3) ((rd_T31 l0 x5_1).f1.f4) ((rd_T31 l0 x5_1).f1.f5))) = some (r1, r2) := by rw [← hbq14] at H; exact H
                have Nbq14 := Aside0.mk hbq14
                clear hbq14
                (try rw [← Nbq14.out])
                by_cases c15 : bq14 = true
                · subst c15
                  have H1 : (tenancyref08_Encode.j1 k1 l0 x4_1 x5_1 2 true ((rd_T31 l0 x5_1).f1.f0) ((rd_T31 l0 x5_1).f1.f1.f0.f0) ((rd_T31 l0 x5_1).f1.f1.f0.f1) ((rd_T31 l0 x5_1).f1.f1.f1) ((rd_T31 l0 x5_1).f1.f2) ((rd_T31 l0 x5_1).f1.f3) ((rd_T31 l0 x5_1).f1.f4) ((rd_T31 l0 x5_1).f1.f5)) = some (r1, r2) := by rw [if_pos rfl] at H; exact H
                  clear H
                  have H := H1
                  clear H1
                  have H' := Aside0.mk H
                  clear H
                  rw [Nbq14.out] at H'
                  go_wp2
                  go_meet
                  case rel => exact ⟨_, (2), (by rfl), H', ⟨by have := HK1.out; first | omega⟩, ⟨by exact BK426.out⟩, ⟨by exact HB.out⟩⟩
                · replace c15 := Bool.eq_false_iff.mpr c15
                  subst c15
                  have H1 : (tenancyref08_Encode.j1 k1 l0 x4_1 x5_1 1 false ((rd_T31 l0 x5_1).f1.f0) ((rd_T31 l0 x5_1).f1.f1.f0.f0) ((rd_T31 l0 x5_1).f1.f1.f0.f1) ((rd_T31 l0 x5_1).f1.f1.f1) ((rd_T31 l0 x5_1).f1.f2) ((rd_T31 l0 x5_1).f1.f3) ((rd_T31 l0 x5_1).f1.f4) ((rd_T31 l0 x5_1).f1.f5)) = some (r1, r2) := by rw [if_neg (show ¬ (false = true) by decide)] at H; exact H
                  clear H
                  have H := H1
                  clear H1
                  have H' := Aside0.mk H
                  clear H
                  rw [Nbq14.out] at H'
                  go_wp2
                  go_meet
                  case rel => exact ⟨_, (1), (by rfl), H', ⟨by have := HK1.out; first | omega⟩, ⟨by exact BK426.out⟩, ⟨by exact HB.out⟩⟩
              case rest =>
                clear HC9
                try clear c1
                try clear q1
                try clear c2
                try clear c2b0
                try clear c2b1
                try clear p2
                try clear c4
                try clear p4
                try clear q4
                try clear hx4
                try clear c5
                try clear c5b0
                try clear c6
                try clear c6b0
                try clear c8
                try clear q14
                try clear c15
                try clear hcz11_0
                try clear hcz11_1
                try clear hcz11_2
                try clear hcz11_3
                try clear hcz11_4
                try clear hcz11_5
                try clear hcz11_6
                try clear hcz11_7
                try clear hcz11_8
                try clear hcz13_0
                try clear hcz13_1
                try clear hcz13_2
                try clear hcz13_3
                try clear hcz13_4
                try clear hcz13_5
                try clear hcz13_6
                try clear hcz13_7
                try clear hcz13_8
                try clear hfz11_0
                try clear hfz11_1
                try clear hfz11_2
                try clear hfz11_3
                try clear hfz11_4
                try clear hfz11_5
                try clear hfz11_6
                try clear hfz11_7
                try clear hfz11_8
                try clear hfz13_0
                try clear hfz13_1
                try clear hfz13_2
                try clear hfz13_3
                try clear hfz13_4
                try clear hfz13_5
                try clear hfz13_6
                try clear hfz13_7
                try clear hfz13_8
                try clear hx425_0
                try clear hx425_1
                try clear hx425_2
                try clear hx425_3
                try clear hx425_4
                try clear hx425_5
                try clear hx425_6
                try clear hx425_7
                try clear hx425_8
                try clear p2
                try clear p425
                try clear q425
                obtain ⟨kq, x7_8, rfl, HA, HJ8, BK426, HB⟩ := hcut
                cases kq with
                | zero => exact absurd HA.out (by simp [tenancyref08_Encode.j1])
                | succ kj8 =>
                  have H := HA.out
                  clear HA
                  simp only [tenancyref08_Encode.j1] at H
                  obtain ⟨y428, hy428⟩ : ∃ y_ : List Int, y_ = (([x7_8, (((rd_T31 l0 x5_1).f1.f0)) % 256, (((rd_T31 l0 x5_1).f1.f1.f1)) % 256] : List Int)) := ⟨_, rfl⟩
                  replace H : (if x4_1.size + (strOfNums y428).size ≤ 9223372036854775807 then ((tenancyref04_PutAddr.f kj8 ((rd_T31 l0 x5_1).f1.f1.f0.f0) ((rd_T31 l0 x5_1).f1.f1.f0.f1)).bind fun t431 => (if (x4_1 ++ (strOfNums y428)).size + t431.size ≤ 9223372036854775807 then (if ((rd_T31 l0 x5_1).f0) = true then (tenancyref08_Encode.l0 kj8 l0 ((x4_1 ++ (strOfNums y428)) ++ t431) (wrap64 (x5_1 + 1))) else ((tenancyref04_Run.f kj8 ((rd_T31 l0 x5_1).f1.f3)).bind fun bt432 => ((some (([(((rd_T31 l0 x5_1).f1.f2)) % 256] : List Int) : List Int)).bind fun y434 => (if ((x4_1 ++ (strOfNums y428)) ++ t431).size + (strOfNums y434).size ≤ 9223372036854775807 then ((tenancyref04_Put32.f kj8 ((rd_T31 l0 x5_1).f1.f4)).bind fun t437 => (if (((x4_1 ++ (strOfNums y428)) ++ t431) ++ (strOfNums y434)).size + t437.size ≤ 9223372036854775807 then ((tenancyref04_Put64.f kj8 (IntKind.u64.wrap (((rd_T31 l0 x5_1).f1.f5)))).bind fun t438 => (if ((((x4_1 ++ (strOfNums y428)) ++ t431) ++ (strOfNums y434)) ++ t437).size + t438.size ≤ 9223372036854775807 then (if (((((x4_1 ++ (strOfNums y428)) ++ t431) ++ (strOfNums y434)) ++ t437) ++ t438).size + bt432.1.size ≤ 9223372036854775807 then (tenancyref08_Encode.l0 kj8 l0 ((((((x4_1 ++ (strOfNums y428)) ++ t431) ++ (strOfNums y434)) ++ t437) ++ t438) ++ bt432.1) (wrap64 (x5_1 + 1))) else (none)) else (none))) else (none))) else (none))))) else (none))) else (none)) = some (r1, r2) := by first | (have H2_ := (Option.bind_some _ _).symm.trans H; rw [hy428]; with_reducible exact H2_)
                  have Ny428 := Aside0.mk hy428
                  clear hy428
                  by_cases c16 : x4_1.size + (strOfNums y428).size ≤ 9223372036854775807
                  · rw [if_pos c16] at H
                    have c16b0 := eq_true c16
                    have c16b1 : decide (x4_1.size + (strOfNums y428).size ≤ 9223372036854775807) = true := decide_eq_true c16
                    try have c16b2 : (9223372036854775807 < x4_1.size + (strOfNums y428).size) = False := eq_false (Nat.not_lt.2 c16)
                    replace H := Option.bind_eq_some_iff.mp H
                    obtain ⟨t431, A170, H⟩ := H
                    replace H : (if (x4_1 ++ (strOfNums y428)).size + t431.size ≤ 9223372036854775807 then (if ((rd_T31 l0 x5_1).f0) = true then (tenancyref08_Encode.l0 kj8 l0 ((x4_1 ++ (strOfNums y428)) ++ t431) (wrap64 (x5_1 + 1))) else ((tenancyref04_Run.f kj8 ((rd_T31 l0 x5_1).f1.f3)).bind fun bt432 => ((some (([(((rd_T31 l0 x5_1).f1.f2)) % 256] : List Int) : List Int)).bind fun y434 => (if ((x4_1 ++ (strOfNums y428)) ++ t431).size + (strOfNums y434).size ≤ 9223372036854775807 then ((tenancyref04_Put32.f kj8 ((rd_T31 l0 x5_1).f1.f4)).bind fun t437 => (if (((x4_1 ++ (strOfNums y428)) ++ t431) ++ (strOfNums y434)).size + t437.size ≤ 9223372036854775807 then ((tenancyref04_Put64.f kj8 (IntKind.u64.wrap (((rd_T31 l0 x5_1).f1.f5)))).bind fun t438 => (if ((((x4_1 ++ (strOfNums y428)) ++ t431) ++ (strOfNums y434)) ++ t437).size + t438.size ≤ 9223372036854775807 then (if (((((x4_1 ++ (strOfNums y428)) ++ t431) ++ (strOfNums y434)) ++ t437) ++ t438).size + bt432.1.size ≤ 9223372036854775807 then (tenancyref08_Encode.l0 kj8 l0 ((((((x4_1 ++ (strOfNums y428)) ++ t431) ++ (strOfNums y434)) ++ t437) ++ t438) ++ bt432.1) (wrap64 (x5_1 + 1))) else (none)) else (none))) else (none))) else (none))))) else (none)) = some (r1, r2) := H
                    have A17 := Aside0.mk A170
                    clear A170
                    by_cases c18 : (x4_1 ++ (strOfNums y428)).size + t431.size ≤ 9223372036854775807
                    · rw [if_pos c18] at H
                      have c18b0 := eq_true c18
                      have c18b1 : decide ((x4_1 ++ (strOfNums y428)).size + t431.size ≤ 9223372036854775807) = true := decide_eq_true c18
                      try have c18b2 : (9223372036854775807 < (x4_1 ++ (strOfNums y428)).size + t431.size) = False := eq_false (Nat.not_lt.2 c18)
                      (try (have c18b2a := c18b2; simp only [ByteArray.size_append] at c18b2a))
                      by_cases c19 : ((rd_T31 l0 x5_1).f0) = true
                      · rw [if_pos c19] at H
                        have c19b0 : ((rd_T31 l0 x5_1).f0) = true := c19
                        clear c19
                        have H' := Aside0.mk H
                        clear H
                        try go_wp2
                        have n0_ := Aside0.mk (blk_drew BK426.out)
                        have n1_ := Aside0.mk (below_drew1 HB.out)
                        clear BK426
                        clear HB
                        have BK426 := n0_
                        have HB := n1_
                        clear n0_ n1_
                        refine start_ (n := 21) (S := fun w' => w'.cell? ⟨gb426, 0, none⟩ = some (.bool ((rd_T31 l0 x5_1).f0)) ∧ w'.cell? ⟨gb426, 1, none⟩ = some (.int .i64 ((rd_T31 l0 x5_1).f1.f0)) ∧ w'.cell? ⟨gb426, 2, none⟩ = some (.int .u64 ((rd_T31 l0 x5_1).f1.f1.f0.f0)) ∧ w'.cell? ⟨gb426, 3, none⟩ = some (.int .u64 ((rd_T31 l0 x5_1).f1.f1.f0.f1)) ∧ w'.cell? ⟨gb426, 4, none⟩ = some (.int .i64 ((rd_T31 l0 x5_1).f1.f1.f1)) ∧ w'.cell? ⟨gb426, 5, none⟩ = some (.int .i64 ((rd_T31 l0 x5_1).f1.f2)) ∧ w'.cell? ⟨gb426, 6, none⟩ = some (.string ((rd_T31 l0 x5_1).f1.f3)) ∧ w'.cell? ⟨gb426, 7, none⟩ = some (.int .u32 ((rd_T31 l0 x5_1).f1.f4)) ∧ w'.cell? ⟨gb426, 8, none⟩ = some (.int .i64 ((rd_T31 l0 x5_1).f1.f5))) (ds := []) #[false, false, false, false, false, false, false, false, false, false, false, false, false, false, false, false, false, false, false, false, false] (by kernel_rfl) rfl rfl ⟨(blk_cell BK426.out 0).trans rfl, (blk_cell BK426.out 1).trans rfl, (blk_cell BK426.out 2).trans rfl, (blk_cell BK426.out 3).trans rfl, (blk_cell BK426.out 4).trans rfl, (blk_cell BK426.out 5).trans rfl, (blk_cell BK426.out 6).trans rfl, (blk_cell BK426.out 7).trans rfl, (blk_cell BK426.out 8).trans rfl⟩ (fun hHeld => ?_); refine with_tabW tenancyref08_Encode.tab13 tenancyref08_Encode.bits13 (fun HT_ HW_ => ?_)
                        generalize wc.drew = w20 at BK426 HB hHeld ⊢
                        refine pure_ (i := 0) (N := some 32) (v := ?_) (a' := ?_) #[true, false, false, false, false, false, false, false, false, false, false, false, false, false, false, false, false, false, false, false, false] rfl rfl (any_of HT_.out (by kernel_rfl)) (fun _ _ _ h => h) (Or.inl ⟨by rfl, ?_⟩) ?_ ?_
                        rotate_left
                        · intro w'
                          go_simp
                          with_reducible rfl
                        rotate_left
                        · simp only [Act.put, List.setIfInBounds_toArray, List.set_cons_zero, List.set_cons_succ, i64_w, i32_w]
                          rfl
                        refine pure_ (i := 1) (N := some 33) (v := ?_) (a' := ?_) #[true, true, false, false, false, false, false, false, false, false, false, false, false, false, false, false, false, false, false, false, false] rfl rfl (any_of HT_.out (by kernel_rfl)) (fun _ _ _ h => h) (Or.inl ⟨by rfl, ?_⟩) ?_ ?_
                        rotate_left
                        · intro w'
                          go_simp
                          with_reducible rfl
                        rotate_left
                        · simp only [Act.put, List.setIfInBounds_toArray, List.set_cons_zero, List.set_cons_succ, i64_w, i32_w]
                          rfl
                        refine pure_ (i := 2) (N := some 34) (v := ?_) (a' := ?_) #[true, true, true, false, false, false, false, false, false, false, false, false, false, false, false, false, false, false, false, false, false] rfl rfl (any_of HT_.out (by kernel_rfl)) (fun _ _ _ h => h) (Or.inl ⟨by rfl, ?_⟩) ?_ ?_
                        rotate_left
                        · intro w'
                          go_simp
                          with_reducible rfl
                        rotate_left
                        · simp only [Act.put, List.setIfInBounds_toArray, List.set_cons_zero, List.set_cons_succ, i64_w, i32_w]
                          rfl
                        refine pure_ (i := 3) (N := some 35) (v := ?_) (a' := ?_) #[true, true, true, true, false, false, false, false, false, false, false, false, false, false, false, false, false, false, false, false, false] rfl rfl (any_of HT_.out (by kernel_rfl)) (fun _ _ _ h => h) (Or.inl ⟨by rfl, ?_⟩) ?_ ?_
                        rotate_left
                        · intro w'
                          go_simp
                          with_reducible rfl
                        rotate_left
                        · simp only [Act.put, List.setIfInBounds_toArray, List.set_cons_zero, List.set_cons_succ, i64_w, i32_w]
                          rfl
                        refine pure_ (i := 6) (N := some 38) (v := ?_) (a' := ?_) #[true, true, true, true, false, false, true, false, false, false, false, false, false, false, false, false, false, false, false, false, false] rfl rfl (any_of HT_.out (by kernel_rfl)) (fun _ _ _ h => h) (Or.inl ⟨by rfl, ?_⟩) ?_ ?_
                        rotate_left
                        · intro w'
                          go_simp
                          with_reducible rfl
                        rotate_left
                        · simp only [Act.put, List.setIfInBounds_toArray, List.set_cons_zero, List.set_cons_succ, i64_w, i32_w]
                          rfl
                        refine pure_ (i := 7) (N := some 39) (v := ?_) (a' := ?_) #[true, true, true, true, false, false, true, true, false, false, false, false, false, false, false, false, false, false, false, false, false] rfl rfl (any_of HT_.out (by kernel_rfl)) (fun _ _ _ h => h) (Or.inl ⟨by rfl, ?_⟩) ?_ ?_
                        rotate_left
                        · intro w'
                          go_simp
                          with_reducible rfl
                        rotate_left
                        · simp only [Act.put, List.setIfInBounds_toArray, List.set_cons_zero, List.set_cons_succ, i64_w, i32_w]
                          rfl
                        refine pure_ (i := 8) (N := some 40) (v := ?_) (a' := ?_) #[true, true, true, true, false, false, true, true, true, false, false, false, false, false, false, false, false, false, false, false, false] rfl rfl (any_of HT_.out (by kernel_rfl)) (fun _ _ _ h => h) (Or.inl ⟨by rfl, ?_⟩) ?_ ?_
                        rotate_left
                        · intro w'
                          go_simp
                          with_reducible rfl
                        rotate_left
                        · simp only [Act.put, List.setIfInBounds_toArray, List.set_cons_zero, List.set_cons_succ, i64_w, i32_w]
                          rfl
                        refine pure_ (i := 14) (N := some 46) (v := ?_) (a' := ?_) #[true, true, true, true, false, false, true, true, true, false, false, false, false, false, true, false, false, false, false, false, false] rfl rfl (any_of HT_.out (by kernel_rfl)) (fun _ _ _ h => h) (Or.inl ⟨by rfl, ?_⟩) ?_ ?_
                        rotate_left
                        · intro w'
                          go_simp
                          with_reducible rfl
                        rotate_left
                        · simp only [Act.put, List.setIfInBounds_toArray, List.set_cons_zero, List.set_cons_succ, i64_w, i32_w]
                          rfl
                        refine pure_ (i := 15) (N := some 47) (v := ?_) (a' := ?_) #[true, true, true, true, false, false, true, true, true, false, false, false, false, false, true, true, false, false, false, false, false] rfl rfl (any_of HT_.out (by kernel_rfl)) (fun _ _ _ h => h) (Or.inl ⟨by rfl, ?_⟩) ?_ ?_
                        rotate_left
                        · intro w'
                          go_simp
                          with_reducible rfl
                        rotate_left
                        · simp only [Act.put, List.setIfInBounds_toArray, List.set_cons_zero, List.set_cons_succ, i64_w, i32_w]
                          rfl
                        refine pure_ (i := 16) (N := some 48) (v := ?_) (a' := ?_) #[true, true, true, true, false, false, true, true, true, false, false, false, false, false, true, true, true, false, false, false, false] rfl rfl (any_of HT_.out (by kernel_rfl)) (fun _ _ _ h => h) (Or.inl ⟨by rfl, ?_⟩) ?_ ?_
                        rotate_left
                        · intro w'
                          go_simp
                          with_reducible rfl
                        rotate_left
                        · simp only [Act.put, List.setIfInBounds_toArray, List.set_cons_zero, List.set_cons_succ, i64_w, i32_w]
                          rfl
                        refine take_ (i := 4) (N := some 36) (v := ?_) (a' := ?_) #[true, true, true, true, true, false, true, true, true, false, false, false, false, false, true, true, true, false, false, false, false] rfl rfl (take_ofW HT_.out HW_.out (by kernel_rfl)) (fun _ _ _ h => h) (Or.inl ⟨by rfl, ?_⟩) hHeld ?_ ?_
                        rotate_left
                        · rintro w' ⟨s0, s1, s2, s3, s4, s5, s6, s7, s8⟩
                          go_simp
                          with_reducible rfl
                        rotate_left
                        · simp only [Act.put, List.setIfInBounds_toArray, List.set_cons_zero, List.set_cons_succ, i64_w, i32_w]
                          rfl
                        refine pure_ (i := 5) (N := some 37) (v := ?_) (a' := ?_) #[true, true, true, true, true, true, true, true, true, false, false, false, false, false, true, true, true, false, false, false, false] rfl rfl (any_of HT_.out (by kernel_rfl)) (fun _ _ _ h => h) (Or.inl ⟨by rfl, ?_⟩) ?_ ?_
                        rotate_left
                        · intro w'
                          go_simp
                          with_reducible rfl
                        rotate_left
                        · simp only [Act.put, List.setIfInBounds_toArray, List.set_cons_zero, List.set_cons_succ, i64_w, i32_w]
                          rfl
                        refine take_ (i := 9) (N := some 41) (v := ?_) (a' := ?_) #[true, true, true, true, true, true, true, true, true, true, false, false, false, false, true, true, true, false, false, false, false] rfl rfl (take_ofW HT_.out HW_.out (by kernel_rfl)) (fun _ _ _ h => h) (Or.inl ⟨by rfl, ?_⟩) hHeld ?_ ?_
                        rotate_left
                        · rintro w' ⟨s0, s1, s2, s3, s4, s5, s6, s7, s8⟩
                          go_simp
                          with_reducible rfl
                        rotate_left
                        · simp only [Act.put, List.setIfInBounds_toArray, List.set_cons_zero, List.set_cons_succ, i64_w, i32_w]
                          rfl
                        refine pure_ (i := 10) (N := some 42) (v := ?_) (a' := ?_) #[true, true, true, true, true, true, true, true, true, true, true, false, false, false, true, true, true, false, false, false, false] rfl rfl (any_of HT_.out (by kernel_rfl)) (fun _ _ _ h => h) (Or.inl ⟨by rfl, ?_⟩) ?_ ?_
                        rotate_left
                        · intro w'
                          go_simp
                          with_reducible rfl
                        rotate_left
                        · simp only [Act.put, List.setIfInBounds_toArray, List.set_cons_zero, List.set_cons_succ, i64_w, i32_w]
                          rfl
                        refine take_ (i := 17) (N := some 49) (v := ?_) (a' := ?_) #[true, true, true, true, true, true, true, true, true, true, true, false, false, false, true, true, true, true, false, false, false] rfl rfl (take_ofW HT_.out HW_.out (by kernel_rfl)) (fun _ _ _ h => h) (Or.inl ⟨by rfl, ?_⟩) hHeld ?_ ?_
                        rotate_left
                        · rintro w' ⟨s0, s1, s2, s3, s4, s5, s6, s7, s8⟩
                          go_simp
                          with_reducible rfl
                        rotate_left
                        · simp only [Act.put, List.setIfInBounds_toArray, List.set_cons_zero, List.set_cons_succ, i64_w, i32_w]
                          rfl
                        refine join_ (σ := Value) 2 #[true, true, true, true, true, true, true, true, true, true, true, true, true, true, true, true, true, true, true, false, false] (fun s_ => [(43, s_), (44, .string (strOfNums y428)), (50, .string t431), (45, .string (x4_1 ++ (strOfNums y428)))]) (fun s_ w' => (w'.cell? ⟨gb426, 0, none⟩ = some (.bool ((rd_T31 l0 x5_1).f0)) ∧ w'.cell? ⟨gb426, 1, none⟩ = some (.int .i64 ((rd_T31 l0 x5_1).f1.f0)) ∧ w'.cell? ⟨gb426, 2, none⟩ = some (.int .u64 ((rd_T31 l0 x5_1).f1.f1.f0.f0)) ∧ w'.cell? ⟨gb426, 3, none⟩ = some (.int .u64 ((rd_T31 l0 x5_1).f1.f1.f0.f1)) ∧ w'.cell? ⟨gb426, 4, none⟩ = some (.int .i64 ((rd_T31 l0 x5_1).f1.f1.f1)) ∧ w'.cell? ⟨gb426, 5, none⟩ = some (.int .i64 ((rd_T31 l0 x5_1).f1.f2)) ∧ w'.cell? ⟨gb426, 6, none⟩ = some (.string ((rd_T31 l0 x5_1).f1.f3)) ∧ w'.cell? ⟨gb426, 7, none⟩ = some (.int .u32 ((rd_T31 l0 x5_1).f1.f4)) ∧ w'.cell? ⟨gb426, 8, none⟩ = some (.int .i64 ((rd_T31 l0 x5_1).f1.f5))) ∧ (Kd.R (Kd.int .u8) 5 w' w.heap.size (fun _ => True) s_ y428) ∧ (w'.heap[gb426]? = some (.cells #[.bool ((rd_T31 l0 x5_1).f0), .int .i64 ((rd_T31 l0 x5_1).f1.f0), .int .u64 ((rd_T31 l0 x5_1).f1.f1.f0.f0), .int .u64 ((rd_T31 l0 x5_1).f1.f1.f0.f1), .int .i64 ((rd_T31 l0 x5_1).f1.f1.f1), .int .i64 ((rd_T31 l0 x5_1).f1.f2), .string ((rd_T31 l0 x5_1).f1.f3), .int .u32 ((rd_T31 l0 x5_1).f1.f4), .int .i64 ((rd_T31 l0 x5_1).f1.f5)] 31 (0, 0))) ∧ (Below w.heap.size w w')) ?_ ?_
                        rotate_left
                        · intro hCont
                          refine two_ (i := 11) (j := 18) (Ni := some 43) (Nj := some 50) #[true, true, true, true, true, true, true, true, true, true, true, true, false, false, true, true, true, true, false, false, false] #[true, true, true, true, true, true, true, true, true, true, true, false, false, false, true, true, true, true, true, false, false] rfl rfl rfl rfl (two_of HT_.out (by kernel_rfl)) (by decide) (by decide) (fun K hK => ?_) (fun K hK => ?_)
                          · skip
                            refine Kd.R_lit_step (Kd.int .u8) _ 5 ?hg (N := 43) ?hd (xs := ([x7_8, (((rd_T31 l0 x5_1).f1.f0)) % 256, (((rd_T31 l0 x5_1).f1.f1.f1)) % 256] : List Int)) (inner := [.int .u8 x7_8, .int .u8 ((((rd_T31 l0 x5_1).f1.f0)) % 256), .int .u8 ((((rd_T31 l0 x5_1).f1.f1.f1)) % 256)]) (ok := fun _ => True) (okp := fun _ => True) ?hr ?hp (fun _ hk => hk) trivial (Below.refl _ _) (Nat.le_refl _) (by simp) ?_; (case hd => rfl); (case hg => rfl); (case hr => first | (go_simp; rfl)); (case hp => exact (Reps.one (show Kd.M (Kd.int .u8) _ _ _ x7_8 [.int .u8 x7_8] from rfl) (Reps.one (show Kd.M (Kd.int .u8) _ _ _ ((((rd_T31 l0 x5_1).f1.f0)) % 256) [.int .u8 ((((rd_T31 l0 x5_1).f1.f0)) % 256)] from rfl) (Reps.one (show Kd.M (Kd.int .u8) _ _ _ ((((rd_T31 l0 x5_1).f1.f1.f1)) % 256) [.int .u8 ((((rd_T31 l0 x5_1).f1.f1.f1)) % 256)] from rfl) (Reps.none _ _)))))
                            intro v429 w21 ho22 hb hg_ hnew_
                            clear hg_ hnew_
                            (first | rw [← Ny428.out] at ho22)
                            have n0_ := Aside0.mk (Kd.R_lower ho22 (below_size HB.out))
                            have n1_ := Aside0.mk (blk_below (g := gb426) (o := .cells #[.bool ((rd_T31 l0 x5_1).f0), .int .i64 ((rd_T31 l0 x5_1).f1.f0), .int .u64 ((rd_T31 l0 x5_1).f1.f1.f0.f0), .int .u64 ((rd_T31 l0 x5_1).f1.f1.f0.f1), .int .i64 ((rd_T31 l0 x5_1).f1.f1.f1), .int .i64 ((rd_T31 l0 x5_1).f1.f2), .string ((rd_T31 l0 x5_1).f1.f3), .int .u32 ((rd_T31 l0 x5_1).f1.f4), .int .i64 ((rd_T31 l0 x5_1).f1.f5)] 31 (0, 0)) BK426.out hb)
                            have n2_ := Aside0.mk (below_step HB.out hb)
                            clear BK426
                            clear HB
                            have HO430 := n0_
                            have BK426 := n1_
                            have HB := n2_
                            clear n0_ n1_ n2_
                            clear hb ho22
                            refine hK.out _ _ ⟨(blk_cell BK426.out 0).trans rfl, (blk_cell BK426.out 1).trans rfl, (blk_cell BK426.out 2).trans rfl, (blk_cell BK426.out 3).trans rfl, (blk_cell BK426.out 4).trans rfl, (blk_cell BK426.out 5).trans rfl, (blk_cell BK426.out 6).trans rfl, (blk_cell BK426.out 7).trans rfl, (blk_cell BK426.out 8).trans rfl⟩ (fun hHeld => ?_)
                            clear hK K
                            refine norm_ (a' := ?_) ?_ ?_
                            rotate_left
                            · show Act.put _ (some 43) _ = _
                              simp only [Act.put, List.setIfInBounds_toArray, List.set_cons_zero, List.set_cons_succ, i64_w, i32_w]
                              rfl
                            refine two_ (i := 12) (j := 18) (Ni := some 44) (Nj := some 50) #[true, true, true, true, true, true, true, true, true, true, true, true, true, false, true, true, true, true, false, false, false] #[true, true, true, true, true, true, true, true, true, true, true, true, false, false, true, true, true, true, true, false, false] rfl rfl rfl rfl (two_of HT_.out (by kernel_rfl)) (by decide) (by decide) (fun K hK => ?_) (fun K hK => ?_)
                            · skip
                              have hcv23 := own_string (P := Try.prog) Try.underlying60 Try.underlying5 Try.underlying9 (Kd.own_of_R HO430.out)
                              refine value_ (w1 := ?_) (v := ?_) (by rfl) rfl ?_ ?_
                              rotate_left 2
                              · go_simp
                                constructor
                                · rfl
                                · rfl
                              clear hcv23
                              refine hK.out _ _ ⟨(blk_cell BK426.out 0).trans rfl, (blk_cell BK426.out 1).trans rfl, (blk_cell BK426.out 2).trans rfl, (blk_cell BK426.out 3).trans rfl, (blk_cell BK426.out 4).trans rfl, (blk_cell BK426.out 5).trans rfl, (blk_cell BK426.out 6).trans rfl, (blk_cell BK426.out 7).trans rfl, (blk_cell BK426.out 8).trans rfl⟩ (fun hHeld => ?_)
                              clear hK K
                              refine norm_ (a' := ?_) ?_ ?_
                              rotate_left
                              · show Act.put _ (some 44) _ = _
                                simp only [Act.put, List.setIfInBounds_toArray, List.set_cons_zero, List.set_cons_succ, i64_w, i32_w]
                                rfl
                              refine pure_ (i := 13) (N := some 45) (v := ?_) (a' := ?_) #[true, true, true, true, true, true, true, true, true, true, true, true, true, true, true, true, true, true, false, false, false] rfl rfl (any_of HT_.out (by kernel_rfl)) (fun _ _ _ h => h) (Or.inl ⟨by rfl, ?_⟩) ?_ ?_
                              rotate_left
                              · intro w'
                                go_simp
                                with_reducible rfl
                              rotate_left
                              · simp only [Act.put, List.setIfInBounds_toArray, List.set_cons_zero, List.set_cons_succ, i64_w, i32_w]
                                rfl
                              refine one_ (i := 18) (N := some 50) #[true, true, true, true, true, true, true, true, true, true, true, true, true, true, true, true, true, true, true, false, false] rfl rfl (one_of HT_.out (by kernel_rfl)) (by decide) (fun K hK => ?_)
                              refine goes_ Try.func41 (by kernel_rfl) rfl #[.agg #[.int .u64 ((rd_T31 l0 x5_1).f1.f1.f0.f0), .int .u64 ((rd_T31 l0 x5_1).f1.f1.f0.f1)]] (by rfl) rfl rfl (by (try simp only [List.map_toArray, List.map_cons, List.map_nil]); first | rfl) ?_
                              with_reducible refine (tenancyref04_PutAddr.calls kj8 ((rd_T31 l0 x5_1).f1.f1.f0.f0) ((rd_T31 l0 x5_1).f1.f1.f0.f1) t431 _ A17.out).mono ?_
                              rintro e w24 ⟨rfl, hb⟩
                              refine ⟨_, rfl, ?_⟩
                              have n0_ := Aside0.mk (Kd.R_below HO430.out hb)
                              have n1_ := Aside0.mk (blk_below (g := gb426) (o := .cells #[.bool ((rd_T31 l0 x5_1).f0), .int .i64 ((rd_T31 l0 x5_1).f1.f0), .int .u64 ((rd_T31 l0 x5_1).f1.f1.f0.f0), .int .u64 ((rd_T31 l0 x5_1).f1.f1.f0.f1), .int .i64 ((rd_T31 l0 x5_1).f1.f1.f1), .int .i64 ((rd_T31 l0 x5_1).f1.f2), .string ((rd_T31 l0 x5_1).f1.f3), .int .u32 ((rd_T31 l0 x5_1).f1.f4), .int .i64 ((rd_T31 l0 x5_1).f1.f5)] 31 (0, 0)) BK426.out hb)
                              have n2_ := Aside0.mk (below_step HB.out hb)
                              clear HO430
                              clear BK426
                              clear HB
                              have HO430 := n0_
                              have BK426 := n1_
                              have HB := n2_
                              clear n0_ n1_ n2_
                              (try clear hb)
                              (try clear hb2)
                              (try clear hk)
                              (try clear hi)
                              refine hK.out _ _ ⟨(blk_cell BK426.out 0).trans rfl, (blk_cell BK426.out 1).trans rfl, (blk_cell BK426.out 2).trans rfl, (blk_cell BK426.out 3).trans rfl, (blk_cell BK426.out 4).trans rfl, (blk_cell BK426.out 5).trans rfl, (blk_cell BK426.out 6).trans rfl, (blk_cell BK426.out 7).trans rfl, (blk_cell BK426.out 8).trans rfl⟩ (fun hHeld => ?_)
                              clear hK K
                              refine norm_ (a' := ?_) ?_ ?_
                              rotate_left
                              · show Act.put _ (some 50) _ = _
                                simp only [Act.put, List.setIfInBounds_toArray, List.set_cons_zero, List.set_cons_succ, i64_w, i32_w]
                                rfl
                              exact norm_ (by simp only [putAll, Act.put, List.setIfInBounds_toArray, List.set_cons_zero, List.set_cons_succ]) (hCont (v429) _ ⟨hHeld, HO430.out, BK426.out, HB.out⟩)
                            · skip
                              refine goes_ Try.func41 (by kernel_rfl) rfl #[.agg #[.int .u64 ((rd_T31 l0 x5_1).f1.f1.f0.f0), .int .u64 ((rd_T31 l0 x5_1).f1.f1.f0.f1)]] (by rfl) rfl rfl (by (try simp only [List.map_toArray, List.map_cons, List.map_nil]); first | rfl) ?_
                              with_reducible refine (tenancyref04_PutAddr.calls kj8 ((rd_T31 l0 x5_1).f1.f1.f0.f0) ((rd_T31 l0 x5_1).f1.f1.f0.f1) t431 _ A17.out).mono ?_
                              rintro e w23 ⟨rfl, hb⟩
                              refine ⟨_, rfl, ?_⟩
                              have n0_ := Aside0.mk (Kd.R_below HO430.out hb)
                              have n1_ := Aside0.mk (blk_below (g := gb426) (o := .cells #[.bool ((rd_T31 l0 x5_1).f0), .int .i64 ((rd_T31 l0 x5_1).f1.f0), .int .u64 ((rd_T31 l0 x5_1).f1.f1.f0.f0), .int .u64 ((rd_T31 l0 x5_1).f1.f1.f0.f1), .int .i64 ((rd_T31 l0 x5_1).f1.f1.f1), .int .i64 ((rd_T31 l0 x5_1).f1.f2), .string ((rd_T31 l0 x5_1).f1.f3), .int .u32 ((rd_T31 l0 x5_1).f1.f4), .int .i64 ((rd_T31 l0 x5_1).f1.f5)] 31 (0, 0)) BK426.out hb)
                              have n2_ := Aside0.mk (below_step HB.out hb)
                              clear HO430
                              clear BK426
                              clear HB
                              have HO430 := n0_
                              have BK426 := n1_
                              have HB := n2_
                              clear n0_ n1_ n2_
                              (try clear hb)
                              (try clear hb2)
                              (try clear hk)
                              (try clear hi)
                              refine hK.out _ _ ⟨(blk_cell BK426.out 0).trans rfl, (blk_cell BK426.out 1).trans rfl, (blk_cell BK426.out 2).trans rfl, (blk_cell BK426.out 3).trans rfl, (blk_cell BK426.out 4).trans rfl, (blk_cell BK426.out 5).trans rfl, (blk_cell BK426.out 6).trans rfl, (blk_cell BK426.out 7).trans rfl, (blk_cell BK426.out 8).trans rfl⟩ (fun hHeld => ?_)
                              clear hK K
                              refine norm_ (a' := ?_) ?_ ?_
                              rotate_left
                              · show Act.put _ (some 50) _ = _
                                simp only [Act.put, List.setIfInBounds_toArray, List.set_cons_zero, List.set_cons_succ, i64_w, i32_w]
                                rfl
                              refine one_ (i := 12) (N := some 44) #[true, true, true, true, true, true, true, true, true, true, true, true, true, false, true, true, true, true, true, false, false] rfl rfl (one_of HT_.out (by kernel_rfl)) (by decide) (fun K hK => ?_)
                              have hcv24 := own_string (P := Try.prog) Try.underlying60 Try.underlying5 Try.underlying9 (Kd.own_of_R HO430.out)
                              refine value_ (w1 := ?_) (v := ?_) (by rfl) rfl ?_ ?_
                              rotate_left 2
                              · go_simp
                                constructor
                                · rfl
                                · rfl
                              clear hcv24
                              refine hK.out _ _ ⟨(blk_cell BK426.out 0).trans rfl, (blk_cell BK426.out 1).trans rfl, (blk_cell BK426.out 2).trans rfl, (blk_cell BK426.out 3).trans rfl, (blk_cell BK426.out 4).trans rfl, (blk_cell BK426.out 5).trans rfl, (blk_cell BK426.out 6).trans rfl, (blk_cell BK426.out 7).trans rfl, (blk_cell BK426.out 8).trans rfl⟩ (fun hHeld => ?_)
                              clear hK K
                              refine norm_ (a' := ?_) ?_ ?_
                              rotate_left
                              · show Act.put _ (some 44) _ = _
                                simp only [Act.put, List.setIfInBounds_toArray, List.set_cons_zero, List.set_cons_succ, i64_w, i32_w]
                                rfl
                              refine pure_ (i := 13) (N := some 45) (v := ?_) (a' := ?_) #[true, true, true, true, true, true, true, true, true, true, true, true, true, true, true, true, true, true, true, false, false] rfl rfl (any_of HT_.out (by kernel_rfl)) (fun _ _ _ h => h) (Or.inl ⟨by rfl, ?_⟩) ?_ ?_
                              rotate_left
                              · intro w'
                                go_simp
                                with_reducible rfl
                              rotate_left
                              · simp only [Act.put, List.setIfInBounds_toArray, List.set_cons_zero, List.set_cons_succ, i64_w, i32_w]
                                rfl
                              exact norm_ (by simp only [putAll, Act.put, List.setIfInBounds_toArray, List.set_cons_zero, List.set_cons_succ]) (hCont (v429) _ ⟨hHeld, HO430.out, BK426.out, HB.out⟩)
                          · skip
                            refine goes_ Try.func41 (by kernel_rfl) rfl #[.agg #[.int .u64 ((rd_T31 l0 x5_1).f1.f1.f0.f0), .int .u64 ((rd_T31 l0 x5_1).f1.f1.f0.f1)]] (by rfl) rfl rfl (by (try simp only [List.map_toArray, List.map_cons, List.map_nil]); first | rfl) ?_
                            with_reducible refine (tenancyref04_PutAddr.calls kj8 ((rd_T31 l0 x5_1).f1.f1.f0.f0) ((rd_T31 l0 x5_1).f1.f1.f0.f1) t431 _ A17.out).mono ?_
                            rintro e w21 ⟨rfl, hb⟩
                            refine ⟨_, rfl, ?_⟩
                            have n0_ := Aside0.mk (blk_below (g := gb426) (o := .cells #[.bool ((rd_T31 l0 x5_1).f0), .int .i64 ((rd_T31 l0 x5_1).f1.f0), .int .u64 ((rd_T31 l0 x5_1).f1.f1.f0.f0), .int .u64 ((rd_T31 l0 x5_1).f1.f1.f0.f1), .int .i64 ((rd_T31 l0 x5_1).f1.f1.f1), .int .i64 ((rd_T31 l0 x5_1).f1.f2), .string ((rd_T31 l0 x5_1).f1.f3), .int .u32 ((rd_T31 l0 x5_1).f1.f4), .int .i64 ((rd_T31 l0 x5_1).f1.f5)] 31 (0, 0)) BK426.out hb)
                            have n1_ := Aside0.mk (below_step HB.out hb)
                            clear BK426
                            clear HB
                            have BK426 := n0_
                            have HB := n1_
                            clear n0_ n1_
                            (try clear hb)
                            (try clear hb2)
                            (try clear hk)
                            (try clear hi)
                            refine hK.out _ _ ⟨(blk_cell BK426.out 0).trans rfl, (blk_cell BK426.out 1).trans rfl, (blk_cell BK426.out 2).trans rfl, (blk_cell BK426.out 3).trans rfl, (blk_cell BK426.out 4).trans rfl, (blk_cell BK426.out 5).trans rfl, (blk_cell BK426.out 6).trans rfl, (blk_cell BK426.out 7).trans rfl, (blk_cell BK426.out 8).trans rfl⟩ (fun hHeld => ?_)
                            clear hK K
                            refine norm_ (a' := ?_) ?_ ?_
                            rotate_left
                            · show Act.put _ (some 50) _ = _
                              simp only [Act.put, List.setIfInBounds_toArray, List.set_cons_zero, List.set_cons_succ, i64_w, i32_w]
                              rfl
                            refine one_ (i := 11) (N := some 43) #[true, true, true, true, true, true, true, true, true, true, true, true, false, false, true, true, true, true, true, false, false] rfl rfl (one_of HT_.out (by kernel_rfl)) (by decide) (fun K hK => ?_)
                            refine Kd.R_lit_step (Kd.int .u8) _ 5 ?hg (N := 43) ?hd (xs := ([x7_8, (((rd_T31 l0 x5_1).f1.f0)) % 256, (((rd_T31 l0 x5_1).f1.f1.f1)) % 256] : List Int)) (inner := [.int .u8 x7_8, .int .u8 ((((rd_T31 l0 x5_1).f1.f0)) % 256), .int .u8 ((((rd_T31 l0 x5_1).f1.f1.f1)) % 256)]) (ok := fun _ => True) (okp := fun _ => True) ?hr ?hp (fun _ hk => hk) trivial (Below.refl _ _) (Nat.le_refl _) (by simp) ?_; (case hd => rfl); (case hg => rfl); (case hr => first | (go_simp; rfl)); (case hp => exact (Reps.one (show Kd.M (Kd.int .u8) _ _ _ x7_8 [.int .u8 x7_8] from rfl) (Reps.one (show Kd.M (Kd.int .u8) _ _ _ ((((rd_T31 l0 x5_1).f1.f0)) % 256) [.int .u8 ((((rd_T31 l0 x5_1).f1.f0)) % 256)] from rfl) (Reps.one (show Kd.M (Kd.int .u8) _ _ _ ((((rd_T31 l0 x5_1).f1.f1.f1)) % 256) [.int .u8 ((((rd_T31 l0 x5_1).f1.f1.f1)) % 256)] from rfl) (Reps.none _ _)))))
                            intro v429 w22 ho23 hb hg_ hnew_
                            clear hg_ hnew_
                            (first | rw [← Ny428.out] at ho23)
                            have n0_ := Aside0.mk (Kd.R_lower ho23 (below_size HB.out))
                            have n1_ := Aside0.mk (blk_below (g := gb426) (o := .cells #[.bool ((rd_T31 l0 x5_1).f0), .int .i64 ((rd_T31 l0 x5_1).f1.f0), .int .u64 ((rd_T31 l0 x5_1).f1.f1.f0.f0), .int .u64 ((rd_T31 l0 x5_1).f1.f1.f0.f1), .int .i64 ((rd_T31 l0 x5_1).f1.f1.f1), .int .i64 ((rd_T31 l0 x5_1).f1.f2), .string ((rd_T31 l0 x5_1).f1.f3), .int .u32 ((rd_T31 l0 x5_1).f1.f4), .int .i64 ((rd_T31 l0 x5_1).f1.f5)] 31 (0, 0)) BK426.out hb)
                            have n2_ := Aside0.mk (below_step HB.out hb)
                            clear BK426
                            clear HB
                            have HO430 := n0_
                            have BK426 := n1_
                            have HB := n2_
                            clear n0_ n1_ n2_
                            clear hb ho23
                            refine hK.out _ _ ⟨(blk_cell BK426.out 0).trans rfl, (blk_cell BK426.out 1).trans rfl, (blk_cell BK426.out 2).trans rfl, (blk_cell BK426.out 3).trans rfl, (blk_cell BK426.out 4).trans rfl, (blk_cell BK426.out 5).trans rfl, (blk_cell BK426.out 6).trans rfl, (blk_cell BK426.out 7).trans rfl, (blk_cell BK426.out 8).trans rfl⟩ (fun hHeld => ?_)
                            clear hK K
                            refine norm_ (a' := ?_) ?_ ?_
                            rotate_left
                            · show Act.put _ (some 43) _ = _
                              simp only [Act.put, List.setIfInBounds_toArray, List.set_cons_zero, List.set_cons_succ, i64_w, i32_w]
                              rfl
                            refine one_ (i := 12) (N := some 44) #[true, true, true, true, true, true, true, true, true, true, true, true, true, false, true, true, true, true, true, false, false] rfl rfl (one_of HT_.out (by kernel_rfl)) (by decide) (fun K hK => ?_)
                            have hcv24 := own_string (P := Try.prog) Try.underlying60 Try.underlying5 Try.underlying9 (Kd.own_of_R HO430.out)
                            refine value_ (w1 := ?_) (v := ?_) (by rfl) rfl ?_ ?_
                            rotate_left 2
                            · go_simp
                              constructor
                              · rfl
                              · rfl
                            clear hcv24
                            refine hK.out _ _ ⟨(blk_cell BK426.out 0).trans rfl, (blk_cell BK426.out 1).trans rfl, (blk_cell BK426.out 2).trans rfl, (blk_cell BK426.out 3).trans rfl, (blk_cell BK426.out 4).trans rfl, (blk_cell BK426.out 5).trans rfl, (blk_cell BK426.out 6).trans rfl, (blk_cell BK426.out 7).trans rfl, (blk_cell BK426.out 8).trans rfl⟩ (fun hHeld => ?_)
                            clear hK K
                            refine norm_ (a' := ?_) ?_ ?_
                            rotate_left
                            · show Act.put _ (some 44) _ = _
                              simp only [Act.put, List.setIfInBounds_toArray, List.set_cons_zero, List.set_cons_succ, i64_w, i32_w]
                              rfl
                            refine pure_ (i := 13) (N := some 45) (v := ?_) (a' := ?_) #[true, true, true, true, true, true, true, true, true, true, true, true, true, true, true, true, true, true, true, false, false] rfl rfl (any_of HT_.out (by kernel_rfl)) (fun _ _ _ h => h) (Or.inl ⟨by rfl, ?_⟩) ?_ ?_
                            rotate_left
                            · intro w'
                              go_simp
                              with_reducible rfl
                            rotate_left
                            · simp only [Act.put, List.setIfInBounds_toArray, List.set_cons_zero, List.set_cons_succ, i64_w, i32_w]
                              rfl
                            exact norm_ (by simp only [putAll, Act.put, List.setIfInBounds_toArray, List.set_cons_zero, List.set_cons_succ]) (hCont (v429) _ ⟨hHeld, HO430.out, BK426.out, HB.out⟩)
                        rintro v429 w25 ⟨hS_, h0_, h1_, h2_⟩
                        have n0_ : Aside0 (Kd.R (Kd.int .u8) 5 w25 w.heap.size (fun _ => True) v429 y428) := ⟨h0_⟩
                        have n1_ : Aside0 (w25.heap[gb426]? = some (.cells #[.bool ((rd_T31 l0 x5_1).f0), .int .i64 ((rd_T31 l0 x5_1).f1.f0), .int .u64 ((rd_T31 l0 x5_1).f1.f1.f0.f0), .int .u64 ((rd_T31 l0 x5_1).f1.f1.f0.f1), .int .i64 ((rd_T31 l0 x5_1).f1.f1.f1), .int .i64 ((rd_T31 l0 x5_1).f1.f2), .string ((rd_T31 l0 x5_1).f1.f3), .int .u32 ((rd_T31 l0 x5_1).f1.f4), .int .i64 ((rd_T31 l0 x5_1).f1.f5)] 31 (0, 0))) := ⟨h1_⟩
                        have n2_ : Aside0 (Below w.heap.size w w25) := ⟨h2_⟩
                        clear BK426
                        clear HB
                        clear h0_ h1_ h2_
                        have HO430 := n0_
                        have BK426 := n1_
                        have HB := n2_
                        clear n0_ n1_ n2_
                        have hHeld : w25.cell? ⟨gb426, 0, none⟩ = some (.bool ((rd_T31 l0 x5_1).f0)) ∧ w25.cell? ⟨gb426, 1, none⟩ = some (.int .i64 ((rd_T31 l0 x5_1).f1.f0)) ∧ w25.cell? ⟨gb426, 2, none⟩ = some (.int .u64 ((rd_T31 l0 x5_1).f1.f1.f0.f0)) ∧ w25.cell? ⟨gb426, 3, none⟩ = some (.int .u64 ((rd_T31 l0 x5_1).f1.f1.f0.f1)) ∧ w25.cell? ⟨gb426, 4, none⟩ = some (.int .i64 ((rd_T31 l0 x5_1).f1.f1.f1)) ∧ w25.cell? ⟨gb426, 5, none⟩ = some (.int .i64 ((rd_T31 l0 x5_1).f1.f2)) ∧ w25.cell? ⟨gb426, 6, none⟩ = some (.string ((rd_T31 l0 x5_1).f1.f3)) ∧ w25.cell? ⟨gb426, 7, none⟩ = some (.int .u32 ((rd_T31 l0 x5_1).f1.f4)) ∧ w25.cell? ⟨gb426, 8, none⟩ = some (.int .i64 ((rd_T31 l0 x5_1).f1.f5)) := hS_
                        refine norm_ (a' := ?_) ?_ ?_
                        rotate_left
                        · simp only [putAll, Act.put, List.setIfInBounds_toArray, List.set_cons_zero, List.set_cons_succ]
                          rfl
                        refine pure_ (i := 19) (N := some 51) (v := ?_) (a' := ?_) #[true, true, true, true, true, true, true, true, true, true, true, true, true, true, true, true, true, true, true, true, false] rfl rfl (any_of HT_.out (by kernel_rfl)) (fun _ _ _ h => h) (Or.inl ⟨by rfl, ?_⟩) ?_ ?_
                        rotate_left
                        · intro w'
                          go_simp
                          with_reducible rfl
                        rotate_left
                        · simp only [Act.put, List.setIfInBounds_toArray, List.set_cons_zero, List.set_cons_succ, i64_w, i32_w]
                          rfl
                        refine pure_ (i := 20) (N := some 4) (v := ?_) (a' := ?_) #[true, true, true, true, true, true, true, true, true, true, true, true, true, true, true, true, true, true, true, true, true] rfl rfl (any_of HT_.out (by kernel_rfl)) (fun _ _ _ h => h) (Or.inl ⟨by rfl, ?_⟩) ?_ ?_
                        rotate_left
                        · intro w'
                          go_simp
                          with_reducible rfl
                        rotate_left
                        · simp only [Act.put, List.setIfInBounds_toArray, List.set_cons_zero, List.set_cons_succ, i64_w, i32_w]
                          rfl
                        refine done_ (done_of HT_.out (by kernel_rfl)) ?_
                        obtain ⟨hcz26_0, hcz26_1, hcz26_2, hcz26_3, hcz26_4, hcz26_5, hcz26_6, hcz26_7, hcz26_8⟩ := XRun.bc9 BK426.out
                        obtain ⟨hfz26_0, hfz26_1, hfz26_2, hfz26_3, hfz26_4, hfz26_5, hfz26_6, hfz26_7, hfz26_8⟩ := XRun.bf9 BK426.out
                        try go_wp2
                        go_roundg kj8
                        case measure => have := HK1.out; have := HJ8.out; omega
                        case rel => exact ⟨((x4_1 ++ (strOfNums y428)) ++ t431), (wrap64 (x5_1 + 1)), (by rfl), (by rfl), H', ⟨by have := HK1.out; have := HJ8.out; omega⟩, ⟨by exact HB.out⟩⟩
                      · rw [if_neg c19] at H
                        have c19b0 : ((rd_T31 l0 x5_1).f0) = false := by simpa using c19
                        clear c19
                        replace H := Option.bind_eq_some_iff.mp H
                        obtain ⟨⟨t432, t433⟩, A270, H⟩ := H
                        replace H : ((some (([(((rd_T31 l0 x5_1).f1.f2)) % 256] : List Int) : List Int)).bind fun y434 => (if ((x4_1 ++ (strOfNums y428)) ++ t431).size + (strOfNums y434).size ≤ 9223372036854775807 then ((tenancyref04_Put32.f kj8 ((rd_T31 l0 x5_1).f1.f4)).bind fun t437 => (if (((x4_1 ++ (strOfNums y428)) ++ t431) ++ (strOfNums y434)).size + t437.size ≤ 9223372036854775807 then ((tenancyref04_Put64.f kj8 (IntKind.u64.wrap (((rd_T31 l0 x5_1).f1.f5)))).bind fun t438 => (if ((((x4_1 ++ (strOfNums y428)) ++ t431) ++ (strOfNums y434)) ++ t437).size + t438.size ≤ 9223372036854775807 then (if (((((x4_1 ++ (strOfNums y428)) ++ t431) ++ (strOfNums y434)) ++ t437) ++ t438).size + t432.size ≤ 9223372036854775807 then (tenancyref08_Encode.l0 kj8 l0 ((((((x4_1 ++ (strOfNums y428)) ++ t431) ++ (strOfNums y434)) ++ t437) ++ t438) ++ t432) (wrap64 (x5_1 + 1))) else (none)) else (none))) else (none))) else (none))) = some (r1, r2) := H
                        have A27 := Aside0.mk A270
                        clear A270
                        obtain ⟨y434, hy434⟩ : ∃ y_ : List Int, y_ = (([(((rd_T31 l0 x5_1).f1.f2)) % 256] : List Int)) := ⟨_, rfl⟩
                        replace H : (if ((x4_1 ++ (strOfNums y428)) ++ t431).size + (strOfNums y434).size ≤ 9223372036854775807 then ((tenancyref04_Put32.f kj8 ((rd_T31 l0 x5_1).f1.f4)).bind fun t437 => (if (((x4_1 ++ (strOfNums y428)) ++ t431) ++ (strOfNums y434)).size + t437.size ≤ 9223372036854775807 then ((tenancyref04_Put64.f kj8 (IntKind.u64.wrap (((rd_T31 l0 x5_1).f1.f5)))).bind fun t438 => (if ((((x4_1 ++ (strOfNums y428)) ++ t431) ++ (strOfNums y434)) ++ t437).size + t438.size ≤ 9223372036854775807 then (if (((((x4_1 ++ (strOfNums y428)) ++ t431) ++ (strOfNums y434)) ++ t437) ++ t438).size + t432.size ≤ 9223372036854775807 then (tenancyref08_Encode.l0 kj8 l0 ((((((x4_1 ++ (strOfNums y428)) ++ t431) ++ (strOfNums y434)) ++ t437) ++ t438) ++ t432) (wrap64 (x5_1 + 1))) else (none)) else (none))) else (none))) else (none)) = some (r1, r2) := by first | (have H2_ := (Option.bind_some _ _).symm.trans H; rw [hy434]; with_reducible exact H2_)
                        have Ny434 := Aside0.mk hy434
                        clear hy434
                        by_cases c28 : ((x4_1 ++ (strOfNums y428)) ++ t431).size + (strOfNums y434).size ≤ 9223372036854775807
                        · rw [if_pos c28] at H
                          have c28b0 := eq_true c28
                          have c28b1 : decide (((x4_1 ++ (strOfNums y428)) ++ t431).size + (strOfNums y434).size ≤ 9223372036854775807) = true := decide_eq_true c28
                          try have c28b2 : (9223372036854775807 < ((x4_1 ++ (strOfNums y428)) ++ t431).size + (strOfNums y434).size) = False := eq_false (Nat.not_lt.2 c28)
                          (try (have c28b2a := c28b2; simp only [ByteArray.size_append] at c28b2a))
                          replace H := Option.bind_eq_some_iff.mp H
                          obtain ⟨t437, A290, H⟩ := H
                          replace H : (if (((x4_1 ++ (strOfNums y428)) ++ t431) ++ (strOfNums y434)).size + t437.size ≤ 9223372036854775807 then ((tenancyref04_Put64.f kj8 (IntKind.u64.wrap (((rd_T31 l0 x5_1).f1.f5)))).bind fun t438 => (if ((((x4_1 ++ (strOfNums y428)) ++ t431) ++ (strOfNums y434)) ++ t437).size + t438.size ≤ 9223372036854775807 then (if (((((x4_1 ++ (strOfNums y428)) ++ t431) ++ (strOfNums y434)) ++ t437) ++ t438).size + t432.size ≤ 9223372036854775807 then (tenancyref08_Encode.l0 kj8 l0 ((((((x4_1 ++ (strOfNums y428)) ++ t431) ++ (strOfNums y434)) ++ t437) ++ t438) ++ t432) (wrap64 (x5_1 + 1))) else (none)) else (none))) else (none)) = some (r1, r2) := H
                          have A29 := Aside0.mk A290
                          clear A290
                          by_cases c30 : (((x4_1 ++ (strOfNums y428)) ++ t431) ++ (strOfNums y434)).size + t437.size ≤ 9223372036854775807
                          · rw [if_pos c30] at H
                            have c30b0 := eq_true c30
                            have c30b1 : decide ((((x4_1 ++ (strOfNums y428)) ++ t431) ++ (strOfNums y434)).size + t437.size ≤ 9223372036854775807) = true := decide_eq_true c30
                            try have c30b2 : (9223372036854775807 < (((x4_1 ++ (strOfNums y428)) ++ t431) ++ (strOfNums y434)).size + t437.size) = False := eq_false (Nat.not_lt.2 c30)
                            (try (have c30b2a := c30b2; simp only [ByteArray.size_append] at c30b2a))
                            replace H := Option.bind_eq_some_iff.mp H
                            obtain ⟨t438, A310, H⟩ := H
                            replace H : (if ((((x4_1 ++ (strOfNums y428)) ++ t431) ++ (strOfNums y434)) ++ t437).size + t438.size ≤ 9223372036854775807 then (if (((((x4_1 ++ (strOfNums y428)) ++ t431) ++ (strOfNums y434)) ++ t437) ++ t438).size + t432.size ≤ 9223372036854775807 then (tenancyref08_Encode.l0 kj8 l0 ((((((x4_1 ++ (strOfNums y428)) ++ t431) ++ (strOfNums y434)) ++ t437) ++ t438) ++ t432) (wrap64 (x5_1 + 1))) else (none)) else (none)) = some (r1, r2) := H
                            have A31 := Aside0.mk A310
                            clear A310
                            by_cases c32 : ((((x4_1 ++ (strOfNums y428)) ++ t431) ++ (strOfNums y434)) ++ t437).size + t438.size ≤ 9223372036854775807
                            · rw [if_pos c32] at H
                              have c32b0 := eq_true c32
                              have c32b1 : decide (((((x4_1 ++ (strOfNums y428)) ++ t431) ++ (strOfNums y434)) ++ t437).size + t438.size ≤ 9223372036854775807) = true := decide_eq_true c32
                              try have c32b2 : (9223372036854775807 < ((((x4_1 ++ (strOfNums y428)) ++ t431) ++ (strOfNums y434)) ++ t437).size + t438.size) = False := eq_false (Nat.not_lt.2 c32)
                              (try (have c32b2a := c32b2; simp only [ByteArray.size_append] at c32b2a))
                              by_cases c33 : (((((x4_1 ++ (strOfNums y428)) ++ t431) ++ (strOfNums y434)) ++ t437) ++ t438).size + t432.size ≤ 9223372036854775807
                              · rw [if_pos c33] at H
                                have c33b0 := eq_true c33
                                have c33b1 : decide ((((((x4_1 ++ (strOfNums y428)) ++ t431) ++ (strOfNums y434)) ++ t437) ++ t438).size + t432.size ≤ 9223372036854775807) = true := decide_eq_true c33
                                try have c33b2 : (9223372036854775807 < (((((x4_1 ++ (strOfNums y428)) ++ t431) ++ (strOfNums y434)) ++ t437) ++ t438).size + t432.size) = False := eq_false (Nat.not_lt.2 c33)
                                (try (have c33b2a := c33b2; simp only [ByteArray.size_append] at c33b2a))
                                have H' := Aside0.mk H
                                clear H
                                try go_wp2
                                have n0_ := Aside0.mk (blk_drew BK426.out)
                                have n1_ := Aside0.mk (below_drew1 HB.out)
                                clear BK426
                                clear HB
                                have BK426 := n0_
                                have HB := n1_
                                clear n0_ n1_
                                refine start_ (n := 21) (S := fun w' => w'.cell? ⟨gb426, 0, none⟩ = some (.bool ((rd_T31 l0 x5_1).f0)) ∧ w'.cell? ⟨gb426, 1, none⟩ = some (.int .i64 ((rd_T31 l0 x5_1).f1.f0)) ∧ w'.cell? ⟨gb426, 2, none⟩ = some (.int .u64 ((rd_T31 l0 x5_1).f1.f1.f0.f0)) ∧ w'.cell? ⟨gb426, 3, none⟩ = some (.int .u64 ((rd_T31 l0 x5_1).f1.f1.f0.f1)) ∧ w'.cell? ⟨gb426, 4, none⟩ = some (.int .i64 ((rd_T31 l0 x5_1).f1.f1.f1)) ∧ w'.cell? ⟨gb426, 5, none⟩ = some (.int .i64 ((rd_T31 l0 x5_1).f1.f2)) ∧ w'.cell? ⟨gb426, 6, none⟩ = some (.string ((rd_T31 l0 x5_1).f1.f3)) ∧ w'.cell? ⟨gb426, 7, none⟩ = some (.int .u32 ((rd_T31 l0 x5_1).f1.f4)) ∧ w'.cell? ⟨gb426, 8, none⟩ = some (.int .i64 ((rd_T31 l0 x5_1).f1.f5))) (ds := []) #[false, false, false, false, false, false, false, false, false, false, false, false, false, false, false, false, false, false, false, false, false] (by kernel_rfl) rfl rfl ⟨(blk_cell BK426.out 0).trans rfl, (blk_cell BK426.out 1).trans rfl, (blk_cell BK426.out 2).trans rfl, (blk_cell BK426.out 3).trans rfl, (blk_cell BK426.out 4).trans rfl, (blk_cell BK426.out 5).trans rfl, (blk_cell BK426.out 6).trans rfl, (blk_cell BK426.out 7).trans rfl, (blk_cell BK426.out 8).trans rfl⟩ (fun hHeld => ?_); refine with_tabW tenancyref08_Encode.tab13 tenancyref08_Encode.bits13 (fun HT_ HW_ => ?_)
                                generalize wc.drew = w34 at BK426 HB hHeld ⊢
                                refine pure_ (i := 0) (N := some 32) (v := ?_) (a' := ?_) #[true, false, false, false, false, false, false, false, false, false, false, false, false, false, false, false, false, false, false, false, false] rfl rfl (any_of HT_.out (by kernel_rfl)) (fun _ _ _ h => h) (Or.inl ⟨by rfl, ?_⟩) ?_ ?_
                                rotate_left
                                · intro w'
                                  go_simp
                                  with_reducible rfl
                                rotate_left
                                · simp only [Act.put, List.setIfInBounds_toArray, List.set_cons_zero, List.set_cons_succ, i64_w, i32_w]
                                  rfl
                                refine pure_ (i := 1) (N := some 33) (v := ?_) (a' := ?_) #[true, true, false, false, false, false, false, false, false, false, false, false, false, false, false, false, false, false, false, false, false] rfl rfl (any_of HT_.out (by kernel_rfl)) (fun _ _ _ h => h) (Or.inl ⟨by rfl, ?_⟩) ?_ ?_
                                rotate_left
                                · intro w'
                                  go_simp
                                  with_reducible rfl
                                rotate_left
                                · simp only [Act.put, List.setIfInBounds_toArray, List.set_cons_zero, List.set_cons_succ, i64_w, i32_w]
                                  rfl
                                refine pure_ (i := 2) (N := some 34) (v := ?_) (a' := ?_) #[true, true, true, false, false, false, false, false, false, false, false, false, false, false, false, false, false, false, false, false, false] rfl rfl (any_of HT_.out (by kernel_rfl)) (fun _ _ _ h => h) (Or.inl ⟨by rfl, ?_⟩) ?_ ?_
                                rotate_left
                                · intro w'
                                  go_simp
                                  with_reducible rfl
                                rotate_left
                                · simp only [Act.put, List.setIfInBounds_toArray, List.set_cons_zero, List.set_cons_succ, i64_w, i32_w]
                                  rfl
                                refine pure_ (i := 3) (N := some 35) (v := ?_) (a' := ?_) #[true, true, true, true, false, false, false, false, false, false, false, false, false, false, false, false, false, false, false, false, false] rfl rfl (any_of HT_.out (by kernel_rfl)) (fun _ _ _ h => h) (Or.inl ⟨by rfl, ?_⟩) ?_ ?_
                                rotate_left
                                · intro w'
                                  go_simp
                                  with_reducible rfl
                                rotate_left
                                · simp only [Act.put, List.setIfInBounds_toArray, List.set_cons_zero, List.set_cons_succ, i64_w, i32_w]
                                  rfl
                                refine pure_ (i := 6) (N := some 38) (v := ?_) (a' := ?_) #[true, true, true, true, false, false, true, false, false, false, false, false, false, false, false, false, false, false, false, false, false] rfl rfl (any_of HT_.out (by kernel_rfl)) (fun _ _ _ h => h) (Or.inl ⟨by rfl, ?_⟩) ?_ ?_
                                rotate_left
                                · intro w'
                                  go_simp
                                  with_reducible rfl
                                rotate_left
                                · simp only [Act.put, List.setIfInBounds_toArray, List.set_cons_zero, List.set_cons_succ, i64_w, i32_w]
                                  rfl
                                refine pure_ (i := 7) (N := some 39) (v := ?_) (a' := ?_) #[true, true, true, true, false, false, true, true, false, false, false, false, false, false, false, false, false, false, false, false, false] rfl rfl (any_of HT_.out (by kernel_rfl)) (fun _ _ _ h => h) (Or.inl ⟨by rfl, ?_⟩) ?_ ?_
                                rotate_left
                                · intro w'
                                  go_simp
                                  with_reducible rfl
                                rotate_left
                                · simp only [Act.put, List.setIfInBounds_toArray, List.set_cons_zero, List.set_cons_succ, i64_w, i32_w]
                                  rfl
                                refine pure_ (i := 8) (N := some 40) (v := ?_) (a' := ?_) #[true, true, true, true, false, false, true, true, true, false, false, false, false, false, false, false, false, false, false, false, false] rfl rfl (any_of HT_.out (by kernel_rfl)) (fun _ _ _ h => h) (Or.inl ⟨by rfl, ?_⟩) ?_ ?_
                                rotate_left
                                · intro w'
                                  go_simp
                                  with_reducible rfl
                                rotate_left
                                · simp only [Act.put, List.setIfInBounds_toArray, List.set_cons_zero, List.set_cons_succ, i64_w, i32_w]
                                  rfl
                                refine pure_ (i := 14) (N := some 46) (v := ?_) (a' := ?_) #[true, true, true, true, false, false, true, true, true, false, false, false, false, false, true, false, false, false, false, false, false] rfl rfl (any_of HT_.out (by kernel_rfl)) (fun _ _ _ h => h) (Or.inl ⟨by rfl, ?_⟩) ?_ ?_
                                rotate_left
                                · intro w'
                                  go_simp
                                  with_reducible rfl
                                rotate_left
                                · simp only [Act.put, List.setIfInBounds_toArray, List.set_cons_zero, List.set_cons_succ, i64_w, i32_w]
                                  rfl
                                refine pure_ (i := 15) (N := some 47) (v := ?_) (a' := ?_) #[true, true, true, true, false, false, true, true, true, false, false, false, false, false, true, true, false, false, false, false, false] rfl rfl (any_of HT_.out (by kernel_rfl)) (fun _ _ _ h => h) (Or.inl ⟨by rfl, ?_⟩) ?_ ?_
                                rotate_left
                                · intro w'
                                  go_simp
                                  with_reducible rfl
                                rotate_left
                                · simp only [Act.put, List.setIfInBounds_toArray, List.set_cons_zero, List.set_cons_succ, i64_w, i32_w]
                                  rfl
                                refine pure_ (i := 16) (N := some 48) (v := ?_) (a' := ?_) #[true, true, true, true, false, false, true, true, true, false, false, false, false, false, true, true, true, false, false, false, false] rfl rfl (any_of HT_.out (by kernel_rfl)) (fun _ _ _ h => h) (Or.inl ⟨by rfl, ?_⟩) ?_ ?_
                                rotate_left
                                · intro w'
                                  go_simp
                                  with_reducible rfl
                                rotate_left
                                · simp only [Act.put, List.setIfInBounds_toArray, List.set_cons_zero, List.set_cons_succ, i64_w, i32_w]
                                  rfl
                                refine take_ (i := 4) (N := some 36) (v := ?_) (a' := ?_) #[true, true, true, true, true, false, true, true, true, false, false, false, false, false, true, true, true, false, false, false, false] rfl rfl (take_ofW HT_.out HW_.out (by kernel_rfl)) (fun _ _ _ h => h) (Or.inl ⟨by rfl, ?_⟩) hHeld ?_ ?_
                                rotate_left
                                · rintro w' ⟨s0, s1, s2, s3, s4, s5, s6, s7, s8⟩
                                  go_simp
                                  with_reducible rfl
                                rotate_left
                                · simp only [Act.put, List.setIfInBounds_toArray, List.set_cons_zero, List.set_cons_succ, i64_w, i32_w]
                                  rfl
                                refine pure_ (i := 5) (N := some 37) (v := ?_) (a' := ?_) #[true, true, true, true, true, true, true, true, true, false, false, false, false, false, true, true, true, false, false, false, false] rfl rfl (any_of HT_.out (by kernel_rfl)) (fun _ _ _ h => h) (Or.inl ⟨by rfl, ?_⟩) ?_ ?_
                                rotate_left
                                · intro w'
                                  go_simp
                                  with_reducible rfl
                                rotate_left
                                · simp only [Act.put, List.setIfInBounds_toArray, List.set_cons_zero, List.set_cons_succ, i64_w, i32_w]
                                  rfl
                                refine take_ (i := 9) (N := some 41) (v := ?_) (a' := ?_) #[true, true, true, true, true, true, true, true, true, true, false, false, false, false, true, true, true, false, false, false, false] rfl rfl (take_ofW HT_.out HW_.out (by kernel_rfl)) (fun _ _ _ h => h) (Or.inl ⟨by rfl, ?_⟩) hHeld ?_ ?_
                                rotate_left
                                · rintro w' ⟨s0, s1, s2, s3, s4, s5, s6, s7, s8⟩
                                  go_simp
                                  with_reducible rfl
                                rotate_left
                                · simp only [Act.put, List.setIfInBounds_toArray, List.set_cons_zero, List.set_cons_succ, i64_w, i32_w]
                                  rfl
                                refine pure_ (i := 10) (N := some 42) (v := ?_) (a' := ?_) #[true, true, true, true, true, true, true, true, true, true, true, false, false, false, true, true, true, false, false, false, false] rfl rfl (any_of HT_.out (by kernel_rfl)) (fun _ _ _ h => h) (Or.inl ⟨by rfl, ?_⟩) ?_ ?_
                                rotate_left
                                · intro w'
                                  go_simp
                                  with_reducible rfl
                                rotate_left
                                · simp only [Act.put, List.setIfInBounds_toArray, List.set_cons_zero, List.set_cons_succ, i64_w, i32_w]
                                  rfl
                                refine take_ (i := 17) (N := some 49) (v := ?_) (a' := ?_) #[true, true, true, true, true, true, true, true, true, true, true, false, false, false, true, true, true, true, false, false, false] rfl rfl (take_ofW HT_.out HW_.out (by kernel_rfl)) (fun _ _ _ h => h) (Or.inl ⟨by rfl, ?_⟩) hHeld ?_ ?_
                                rotate_left
                                · rintro w' ⟨s0, s1, s2, s3, s4, s5, s6, s7, s8⟩
                                  go_simp
                                  with_reducible rfl
                                rotate_left
                                · simp only [Act.put, List.setIfInBounds_toArray, List.set_cons_zero, List.set_cons_succ, i64_w, i32_w]
                                  rfl
                                refine join_ (σ := Value) 2 #[true, true, true, true, true, true, true, true, true, true, true, true, true, true, true, true, true, true, true, false, false] (fun s_ => [(43, s_), (44, .string (strOfNums y428)), (50, .string t431), (45, .string (x4_1 ++ (strOfNums y428)))]) (fun s_ w' => (w'.cell? ⟨gb426, 0, none⟩ = some (.bool ((rd_T31 l0 x5_1).f0)) ∧ w'.cell? ⟨gb426, 1, none⟩ = some (.int .i64 ((rd_T31 l0 x5_1).f1.f0)) ∧ w'.cell? ⟨gb426, 2, none⟩ = some (.int .u64 ((rd_T31 l0 x5_1).f1.f1.f0.f0)) ∧ w'.cell? ⟨gb426, 3, none⟩ = some (.int .u64 ((rd_T31 l0 x5_1).f1.f1.f0.f1)) ∧ w'.cell? ⟨gb426, 4, none⟩ = some (.int .i64 ((rd_T31 l0 x5_1).f1.f1.f1)) ∧ w'.cell? ⟨gb426, 5, none⟩ = some (.int .i64 ((rd_T31 l0 x5_1).f1.f2)) ∧ w'.cell? ⟨gb426, 6, none⟩ = some (.string ((rd_T31 l0 x5_1).f1.f3)) ∧ w'.cell? ⟨gb426, 7, none⟩ = some (.int .u32 ((rd_T31 l0 x5_1).f1.f4)) ∧ w'.cell? ⟨gb426, 8, none⟩ = some (.int .i64 ((rd_T31 l0 x5_1).f1.f5))) ∧ (Kd.R (Kd.int .u8) 5 w' w.heap.size (fun _ => True) s_ y428) ∧ (w'.heap[gb426]? = some (.cells #[.bool ((rd_T31 l0 x5_1).f0), .int .i64 ((rd_T31 l0 x5_1).f1.f0), .int .u64 ((rd_T31 l0 x5_1).f1.f1.f0.f0), .int .u64 ((rd_T31 l0 x5_1).f1.f1.f0.f1), .int .i64 ((rd_T31 l0 x5_1).f1.f1.f1), .int .i64 ((rd_T31 l0 x5_1).f1.f2), .string ((rd_T31 l0 x5_1).f1.f3), .int .u32 ((rd_T31 l0 x5_1).f1.f4), .int .i64 ((rd_T31 l0 x5_1).f1.f5)] 31 (0, 0))) ∧ (Below w.heap.size w w')) ?_ ?_
                                rotate_left
                                · intro hCont
                                  refine two_ (i := 11) (j := 18) (Ni := some 43) (Nj := some 50) #[true, true, true, true, true, true, true, true, true, true, true, true, false, false, true, true, true, true, false, false, false] #[true, true, true, true, true, true, true, true, true, true, true, false, false, false, true, true, true, true, true, false, false] rfl rfl rfl rfl (two_of HT_.out (by kernel_rfl)) (by decide) (by decide) (fun K hK => ?_) (fun K hK => ?_)
                                  · skip
                                    refine Kd.R_lit_step (Kd.int .u8) _ 5 ?hg (N := 43) ?hd (xs := ([x7_8, (((rd_T31 l0 x5_1).f1.f0)) % 256, (((rd_T31 l0 x5_1).f1.f1.f1)) % 256] : List Int)) (inner := [.int .u8 x7_8, .int .u8 ((((rd_T31 l0 x5_1).f1.f0)) % 256), .int .u8 ((((rd_T31 l0 x5_1).f1.f1.f1)) % 256)]) (ok := fun _ => True) (okp := fun _ => True) ?hr ?hp (fun _ hk => hk) trivial (Below.refl _ _) (Nat.le_refl _) (by simp) ?_; (case hd => rfl); (case hg => rfl); (case hr => first | (go_simp; rfl)); (case hp => exact (Reps.one (show Kd.M (Kd.int .u8) _ _ _ x7_8 [.int .u8 x7_8] from rfl) (Reps.one (show Kd.M (Kd.int .u8) _ _ _ ((((rd_T31 l0 x5_1).f1.f0)) % 256) [.int .u8 ((((rd_T31 l0 x5_1).f1.f0)) % 256)] from rfl) (Reps.one (show Kd.M (Kd.int .u8) _ _ _ ((((rd_T31 l0 x5_1).f1.f1.f1)) % 256) [.int .u8 ((((rd_T31 l0 x5_1).f1.f1.f1)) % 256)] from rfl) (Reps.none _ _)))))
                                    intro v429 w35 ho36 hb hg_ hnew_
                                    clear hg_ hnew_
                                    (first | rw [← Ny428.out] at ho36)
                                    have n0_ := Aside0.mk (Kd.R_lower ho36 (below_size HB.out))
                                    have n1_ := Aside0.mk (blk_below (g := gb426) (o := .cells #[.bool ((rd_T31 l0 x5_1).f0), .int .i64 ((rd_T31 l0 x5_1).f1.f0), .int .u64 ((rd_T31 l0 x5_1).f1.f1.f0.f0), .int .u64 ((rd_T31 l0 x5_1).f1.f1.f0.f1), .int .i64 ((rd_T31 l0 x5_1).f1.f1.f1), .int .i64 ((rd_T31 l0 x5_1).f1.f2), .string ((rd_T31 l0 x5_1).f1.f3), .int .u32 ((rd_T31 l0 x5_1).f1.f4), .int .i64 ((rd_T31 l0 x5_1).f1.f5)] 31 (0, 0)) BK426.out hb)
                                    have n2_ := Aside0.mk (below_step HB.out hb)
                                    clear BK426
                                    clear HB
                                    have HO430 := n0_
                                    have BK426 := n1_
                                    have HB := n2_
                                    clear n0_ n1_ n2_
                                    clear hb ho36
                                    refine hK.out _ _ ⟨(blk_cell BK426.out 0).trans rfl, (blk_cell BK426.out 1).trans rfl, (blk_cell BK426.out 2).trans rfl, (blk_cell BK426.out 3).trans rfl, (blk_cell BK426.out 4).trans rfl, (blk_cell BK426.out 5).trans rfl, (blk_cell BK426.out 6).trans rfl, (blk_cell BK426.out 7).trans rfl, (blk_cell BK426.out 8).trans rfl⟩ (fun hHeld => ?_)
                                    clear hK K
                                    refine norm_ (a' := ?_) ?_ ?_
                                    rotate_left
                                    · show Act.put _ (some 43) _ = _
                                      simp only [Act.put, List.setIfInBounds_toArray, List.set_cons_zero, List.set_cons_succ, i64_w, i32_w]
                                      rfl
                                    refine two_ (i := 12) (j := 18) (Ni := some 44) (Nj := some 50) #[true, true, true, true, true, true, true, true, true, true, true, true, true, false, true, true, true, true, false, false, false] #[true, true, true, true, true, true, true, true, true, true, true, true, false, false, true, true, true, true, true, false, false] rfl rfl rfl rfl (two_of HT_.out (by kernel_rfl)) (by decide) (by decide) (fun K hK => ?_) (fun K hK => ?_)
                                    · skip
                                      have hcv37 := own_string (P := Try.prog) Try.underlying60 Try.underlying5 Try.underlying9 (Kd.own_of_R HO430.out)
                                      refine value_ (w1 := ?_) (v := ?_) (by rfl) rfl ?_ ?_
                                      rotate_left 2
                                      · go_simp
                                        constructor
                                        · rfl
                                        · rfl
                                      clear hcv37
                                      refine hK.out _ _ ⟨(blk_cell BK426.out 0).trans rfl, (blk_cell BK426.out 1).trans rfl, (blk_cell BK426.out 2).trans rfl, (blk_cell BK426.out 3).trans rfl, (blk_cell BK426.out 4).trans rfl, (blk_cell BK426.out 5).trans rfl, (blk_cell BK426.out 6).trans rfl, (blk_cell BK426.out 7).trans rfl, (blk_cell BK426.out 8).trans rfl⟩ (fun hHeld => ?_)
                                      clear hK K
                                      refine norm_ (a' := ?_) ?_ ?_
                                      rotate_left
                                      · show Act.put _ (some 44) _ = _
                                        simp only [Act.put, List.setIfInBounds_toArray, List.set_cons_zero, List.set_cons_succ, i64_w, i32_w]
                                        rfl
                                      refine pure_ (i := 13) (N := some 45) (v := ?_) (a' := ?_) #[true, true, true, true, true, true, true, true, true, true, true, true, true, true, true, true, true, true, false, false, false] rfl rfl (any_of HT_.out (by kernel_rfl)) (fun _ _ _ h => h) (Or.inl ⟨by rfl, ?_⟩) ?_ ?_
                                      rotate_left
                                      · intro w'
                                        go_simp
                                        with_reducible rfl
                                      rotate_left
                                      · simp only [Act.put, List.setIfInBounds_toArray, List.set_cons_zero, List.set_cons_succ, i64_w, i32_w]
                                        rfl
                                      refine one_ (i := 18) (N := some 50) #[true, true, true, true, true, true, true, true, true, true, true, true, true, true, true, true, true, true, true, false, false] rfl rfl (one_of HT_.out (by kernel_rfl)) (by decide) (fun K hK => ?_)
                                      refine goes_ Try.func41 (by kernel_rfl) rfl #[.agg #[.int .u64 ((rd_T31 l0 x5_1).f1.f1.f0.f0), .int .u64 ((rd_T31 l0 x5_1).f1.f1.f0.f1)]] (by rfl) rfl rfl (by (try simp only [List.map_toArray, List.map_cons, List.map_nil]); first | rfl) ?_
                                      with_reducible refine (tenancyref04_PutAddr.calls kj8 ((rd_T31 l0 x5_1).f1.f1.f0.f0) ((rd_T31 l0 x5_1).f1.f1.f0.f1) t431 _ A17.out).mono ?_
                                      rintro e w38 ⟨rfl, hb⟩
                                      refine ⟨_, rfl, ?_⟩
                                      have n0_ := Aside0.mk (Kd.R_below HO430.out hb)
                                      have n1_ := Aside0.mk (blk_below (g := gb426) (o := .cells #[.bool ((rd_T31 l0 x5_1).f0), .int .i64 ((rd_T31 l0 x5_1).f1.f0), .int .u64 ((rd_T31 l0 x5_1).f1.f1.f0.f0), .int .u64 ((rd_T31 l0 x5_1).f1.f1.f0.f1), .int .i64 ((rd_T31 l0 x5_1).f1.f1.f1), .int .i64 ((rd_T31 l0 x5_1).f1.f2), .string ((rd_T31 l0 x5_1).f1.f3), .int .u32 ((rd_T31 l0 x5_1).f1.f4), .int .i64 ((rd_T31 l0 x5_1).f1.f5)] 31 (0, 0)) BK426.out hb)
                                      have n2_ := Aside0.mk (below_step HB.out hb)
                                      clear HO430
                                      clear BK426
                                      clear HB
                                      have HO430 := n0_
                                      have BK426 := n1_
                                      have HB := n2_
                                      clear n0_ n1_ n2_
                                      (try clear hb)
                                      (try clear hb2)
                                      (try clear hk)
                                      (try clear hi)
                                      refine hK.out _ _ ⟨(blk_cell BK426.out 0).trans rfl, (blk_cell BK426.out 1).trans rfl, (blk_cell BK426.out 2).trans rfl, (blk_cell BK426.out 3).trans rfl, (blk_cell BK426.out 4).trans rfl, (blk_cell BK426.out 5).trans rfl, (blk_cell BK426.out 6).trans rfl, (blk_cell BK426.out 7).trans rfl, (blk_cell BK426.out 8).trans rfl⟩ (fun hHeld => ?_)
                                      clear hK K
                                      refine norm_ (a' := ?_) ?_ ?_
                                      rotate_left
                                      · show Act.put _ (some 50) _ = _
                                        simp only [Act.put, List.setIfInBounds_toArray, List.set_cons_zero, List.set_cons_succ, i64_w, i32_w]
                                        rfl
                                      exact norm_ (by simp only [putAll, Act.put, List.setIfInBounds_toArray, List.set_cons_zero, List.set_cons_succ]) (hCont (v429) _ ⟨hHeld, HO430.out, BK426.out, HB.out⟩)
                                    · skip
                                      refine goes_ Try.func41 (by kernel_rfl) rfl #[.agg #[.int .u64 ((rd_T31 l0 x5_1).f1.f1.f0.f0), .int .u64 ((rd_T31 l0 x5_1).f1.f1.f0.f1)]] (by rfl) rfl rfl (by (try simp only [List.map_toArray, List.map_cons, List.map_nil]); first | rfl) ?_
                                      with_reducible refine (tenancyref04_PutAddr.calls kj8 ((rd_T31 l0 x5_1).f1.f1.f0.f0) ((rd_T31 l0 x5_1).f1.f1.f0.f1) t431 _ A17.out).mono ?_
                                      rintro e w37 ⟨rfl, hb⟩
                                      refine ⟨_, rfl, ?_⟩
                                      have n0_ := Aside0.mk (Kd.R_below HO430.out hb)
                                      have n1_ := Aside0.mk (blk_below (g := gb426) (o := .cells #[.bool ((rd_T31 l0 x5_1).f0), .int .i64 ((rd_T31 l0 x5_1).f1.f0), .int .u64 ((rd_T31 l0 x5_1).f1.f1.f0.f0), .int .u64 ((rd_T31 l0 x5_1).f1.f1.f0.f1), .int .i64 ((rd_T31 l0 x5_1).f1.f1.f1), .int .i64 ((rd_T31 l0 x5_1).f1.f2), .string ((rd_T31 l0 x5_1).f1.f3), .int .u32 ((rd_T31 l0 x5_1).f1.f4), .int .i64 ((rd_T31 l0 x5_1).f1.f5)] 31 (0, 0)) BK426.out hb)
                                      have n2_ := Aside0.mk (below_step HB.out hb)
                                      clear HO430
                                      clear BK426
                                      clear HB
                                      have HO430 := n0_
                                      have BK426 := n1_
                                      have HB := n2_
                                      clear n0_ n1_ n2_
                                      (try clear hb)
                                      (try clear hb2)
                                      (try clear hk)
                                      (try clear hi)
                                      refine hK.out _ _ ⟨(blk_cell BK426.out 0).trans rfl, (blk_cell BK426.out 1).trans rfl, (blk_cell BK426.out 2).trans rfl, (blk_cell BK426.out 3).trans rfl, (blk_cell BK426.out 4).trans rfl, (blk_cell BK426.out 5).trans rfl, (blk_cell BK426.out 6).trans rfl, (blk_cell BK426.out 7).trans rfl, (blk_cell BK426.out 8).trans rfl⟩ (fun hHeld => ?_)
                                      clear hK K
                                      refine norm_ (a' := ?_) ?_ ?_
                                      rotate_left
                                      · show Act.put _ (some 50) _ = _
                                        simp only [Act.put, List.setIfInBounds_toArray, List.set_cons_zero, List.set_cons_succ, i64_w, i32_w]
                                        rfl
                                      refine one_ (i := 12) (N := some 44) #[true, true, true, true, true, true, true, true, true, true, true, true, true, false, true, true, true, true, true, false, false] rfl rfl (one_of HT_.out (by kernel_rfl)) (by decide) (fun K hK => ?_)
                                      have hcv38 := own_string (P := Try.prog) Try.underlying60 Try.underlying5 Try.underlying9 (Kd.own_of_R HO430.out)
                                      refine value_ (w1 := ?_) (v := ?_) (by rfl) rfl ?_ ?_
                                      rotate_left 2
                                      · go_simp
                                        constructor
                                        · rfl
                                        · rfl
                                      clear hcv38
                                      refine hK.out _ _ ⟨(blk_cell BK426.out 0).trans rfl, (blk_cell BK426.out 1).trans rfl, (blk_cell BK426.out 2).trans rfl, (blk_cell BK426.out 3).trans rfl, (blk_cell BK426.out 4).trans rfl, (blk_cell BK426.out 5).trans rfl, (blk_cell BK426.out 6).trans rfl, (blk_cell BK426.out 7).trans rfl, (blk_cell BK426.out 8).trans rfl⟩ (fun hHeld => ?_)
                                      clear hK K
                                      refine norm_ (a' := ?_) ?_ ?_
                                      rotate_left
                                      · show Act.put _ (some 44) _ = _
                                        simp only [Act.put, List.setIfInBounds_toArray, List.set_cons_zero, List.set_cons_succ, i64_w, i32_w]
                                        rfl
                                      refine pure_ (i := 13) (N := some 45) (v := ?_) (a' := ?_) #[true, true, true, true, true, true, true, true, true, true, true, true, true, true, true, true, true, true, true, false, false] rfl rfl (any_of HT_.out (by kernel_rfl)) (fun _ _ _ h => h) (Or.inl ⟨by rfl, ?_⟩) ?_ ?_
                                      rotate_left
                                      · intro w'
                                        go_simp
                                        with_reducible rfl
                                      rotate_left
                                      · simp only [Act.put, List.setIfInBounds_toArray, List.set_cons_zero, List.set_cons_succ, i64_w, i32_w]
                                        rfl
                                      exact norm_ (by simp only [putAll, Act.put, List.setIfInBounds_toArray, List.set_cons_zero, List.set_cons_succ]) (hCont (v429) _ ⟨hHeld, HO430.out, BK426.out, HB.out⟩)
                                  · skip
                                    refine goes_ Try.func41 (by kernel_rfl) rfl #[.agg #[.int .u64 ((rd_T31 l0 x5_1).f1.f1.f0.f0), .int .u64 ((rd_T31 l0 x5_1).f1.f1.f0.f1)]] (by rfl) rfl rfl (by (try simp only [List.map_toArray, List.map_cons, List.map_nil]); first | rfl) ?_
                                    with_reducible refine (tenancyref04_PutAddr.calls kj8 ((rd_T31 l0 x5_1).f1.f1.f0.f0) ((rd_T31 l0 x5_1).f1.f1.f0.f1) t431 _ A17.out).mono ?_
                                    rintro e w35 ⟨rfl, hb⟩
                                    refine ⟨_, rfl, ?_⟩
                                    have n0_ := Aside0.mk (blk_below (g := gb426) (o := .cells #[.bool ((rd_T31 l0 x5_1).f0), .int .i64 ((rd_T31 l0 x5_1).f1.f0), .int .u64 ((rd_T31 l0 x5_1).f1.f1.f0.f0), .int .u64 ((rd_T31 l0 x5_1).f1.f1.f0.f1), .int .i64 ((rd_T31 l0 x5_1).f1.f1.f1), .int .i64 ((rd_T31 l0 x5_1).f1.f2), .string ((rd_T31 l0 x5_1).f1.f3), .int .u32 ((rd_T31 l0 x5_1).f1.f4), .int .i64 ((rd_T31 l0 x5_1).f1.f5)] 31 (0, 0)) BK426.out hb)
                                    have n1_ := Aside0.mk (below_step HB.out hb)
                                    clear BK426
                                    clear HB
                                    have BK426 := n0_
                                    have HB := n1_
                                    clear n0_ n1_
                                    (try clear hb)
                                    (try clear hb2)
                                    (try clear hk)
                                    (try clear hi)
                                    refine hK.out _ _ ⟨(blk_cell BK426.out 0).trans rfl, (blk_cell BK426.out 1).trans rfl, (blk_cell BK426.out 2).trans rfl, (blk_cell BK426.out 3).trans rfl, (blk_cell BK426.out 4).trans rfl, (blk_cell BK426.out 5).trans rfl, (blk_cell BK426.out 6).trans rfl, (blk_cell BK426.out 7).trans rfl, (blk_cell BK426.out 8).trans rfl⟩ (fun hHeld => ?_)
                                    clear hK K
                                    refine norm_ (a' := ?_) ?_ ?_
                                    rotate_left
                                    · show Act.put _ (some 50) _ = _
                                      simp only [Act.put, List.setIfInBounds_toArray, List.set_cons_zero, List.set_cons_succ, i64_w, i32_w]
                                      rfl
                                    refine one_ (i := 11) (N := some 43) #[true, true, true, true, true, true, true, true, true, true, true, true, false, false, true, true, true, true, true, false, false] rfl rfl (one_of HT_.out (by kernel_rfl)) (by decide) (fun K hK => ?_)
                                    refine Kd.R_lit_step (Kd.int .u8) _ 5 ?hg (N := 43) ?hd (xs := ([x7_8, (((rd_T31 l0 x5_1).f1.f0)) % 256, (((rd_T31 l0 x5_1).f1.f1.f1)) % 256] : List Int)) (inner := [.int .u8 x7_8, .int .u8 ((((rd_T31 l0 x5_1).f1.f0)) % 256), .int .u8 ((((rd_T31 l0 x5_1).f1.f1.f1)) % 256)]) (ok := fun _ => True) (okp := fun _ => True) ?hr ?hp (fun _ hk => hk) trivial (Below.refl _ _) (Nat.le_refl _) (by simp) ?_; (case hd => rfl); (case hg => rfl); (case hr => first | (go_simp; rfl)); (case hp => exact (Reps.one (show Kd.M (Kd.int .u8) _ _ _ x7_8 [.int .u8 x7_8] from rfl) (Reps.one (show Kd.M (Kd.int .u8) _ _ _ ((((rd_T31 l0 x5_1).f1.f0)) % 256) [.int .u8 ((((rd_T31 l0 x5_1).f1.f0)) % 256)] from rfl) (Reps.one (show Kd.M (Kd.int .u8) _ _ _ ((((rd_T31 l0 x5_1).f1.f1.f1)) % 256) [.int .u8 ((((rd_T31 l0 x5_1).f1.f1.f1)) % 256)] from rfl) (Reps.none _ _)))))
                                    intro v429 w36 ho37 hb hg_ hnew_
                                    clear hg_ hnew_
                                    (first | rw [← Ny428.out] at ho37)
                                    have n0_ := Aside0.mk (Kd.R_lower ho37 (below_size HB.out))
                                    have n1_ := Aside0.mk (blk_below (g := gb426) (o := .cells #[.bool ((rd_T31 l0 x5_1).f0), .int .i64 ((rd_T31 l0 x5_1).f1.f0), .int .u64 ((rd_T31 l0 x5_1).f1.f1.f0.f0), .int .u64 ((rd_T31 l0 x5_1).f1.f1.f0.f1), .int .i64 ((rd_T31 l0 x5_1).f1.f1.f1), .int .i64 ((rd_T31 l0 x5_1).f1.f2), .string ((rd_T31 l0 x5_1).f1.f3), .int .u32 ((rd_T31 l0 x5_1).f1.f4), .int .i64 ((rd_T31 l0 x5_1).f1.f5)] 31 (0, 0)) BK426.out hb)
                                    have n2_ := Aside0.mk (below_step HB.out hb)
                                    clear BK426
                                    clear HB
                                    have HO430 := n0_
                                    have BK426 := n1_
                                    have HB := n2_
                                    clear n0_ n1_ n2_
                                    clear hb ho37
                                    refine hK.out _ _ ⟨(blk_cell BK426.out 0).trans rfl, (blk_cell BK426.out 1).trans rfl, (blk_cell BK426.out 2).trans rfl, (blk_cell BK426.out 3).trans rfl, (blk_cell BK426.out 4).trans rfl, (blk_cell BK426.out 5).trans rfl, (blk_cell BK426.out 6).trans rfl, (blk_cell BK426.out 7).trans rfl, (blk_cell BK426.out 8).trans rfl⟩ (fun hHeld => ?_)
                                    clear hK K
                                    refine norm_ (a' := ?_) ?_ ?_
                                    rotate_left
                                    · show Act.put _ (some 43) _ = _
                                      simp only [Act.put, List.setIfInBounds_toArray, List.set_cons_zero, List.set_cons_succ, i64_w, i32_w]
                                      rfl
                                    refine one_ (i := 12) (N := some 44) #[true, true, true, true, true, true, true, true, true, true, true, true, true, false, true, true, true, true, true, false, false] rfl rfl (one_of HT_.out (by kernel_rfl)) (by decide) (fun K hK => ?_)
                                    have hcv38 := own_string (P := Try.prog) Try.underlying60 Try.underlying5 Try.underlying9 (Kd.own_of_R HO430.out)
                                    refine value_ (w1 := ?_) (v := ?_) (by rfl) rfl ?_ ?_
                                    rotate_left 2
                                    · go_simp
                                      constructor
                                      · rfl
                                      · rfl
                                    clear hcv38
                                    refine hK.out _ _ ⟨(blk_cell BK426.out 0).trans rfl, (blk_cell BK426.out 1).trans rfl, (blk_cell BK426.out 2).trans rfl, (blk_cell BK426.out 3).trans rfl, (blk_cell BK426.out 4).trans rfl, (blk_cell BK426.out 5).trans rfl, (blk_cell BK426.out 6).trans rfl, (blk_cell BK426.out 7).trans rfl, (blk_cell BK426.out 8).trans rfl⟩ (fun hHeld => ?_)
                                    clear hK K
                                    refine norm_ (a' := ?_) ?_ ?_
                                    rotate_left
                                    · show Act.put _ (some 44) _ = _
                                      simp only [Act.put, List.setIfInBounds_toArray, List.set_cons_zero, List.set_cons_succ, i64_w, i32_w]
                                      rfl
                                    refine pure_ (i := 13) (N := some 45) (v := ?_) (a' := ?_) #[true, true, true, true, true, true, true, true, true, true, true, true, true, true, true, true, true, true, true, false, false] rfl rfl (any_of HT_.out (by kernel_rfl)) (fun _ _ _ h => h) (Or.inl ⟨by rfl, ?_⟩) ?_ ?_
                                    rotate_left
                                    · intro w'
                                      go_simp
                                      with_reducible rfl
                                    rotate_left
                                    · simp only [Act.put, List.setIfInBounds_toArray, List.set_cons_zero, List.set_cons_succ, i64_w, i32_w]
                                      rfl
                                    exact norm_ (by simp only [putAll, Act.put, List.setIfInBounds_toArray, List.set_cons_zero, List.set_cons_succ]) (hCont (v429) _ ⟨hHeld, HO430.out, BK426.out, HB.out⟩)
                                rintro v429 w39 ⟨hS_, h0_, h1_, h2_⟩
                                have n0_ : Aside0 (Kd.R (Kd.int .u8) 5 w39 w.heap.size (fun _ => True) v429 y428) := ⟨h0_⟩
                                have n1_ : Aside0 (w39.heap[gb426]? = some (.cells #[.bool ((rd_T31 l0 x5_1).f0), .int .i64 ((rd_T31 l0 x5_1).f1.f0), .int .u64 ((rd_T31 l0 x5_1).f1.f1.f0.f0), .int .u64 ((rd_T31 l0 x5_1).f1.f1.f0.f1), .int .i64 ((rd_T31 l0 x5_1).f1.f1.f1), .int .i64 ((rd_T31 l0 x5_1).f1.f2), .string ((rd_T31 l0 x5_1).f1.f3), .int .u32 ((rd_T31 l0 x5_1).f1.f4), .int .i64 ((rd_T31 l0 x5_1).f1.f5)] 31 (0, 0))) := ⟨h1_⟩
                                have n2_ : Aside0 (Below w.heap.size w w39) := ⟨h2_⟩
                                clear BK426
                                clear HB
                                clear h0_ h1_ h2_
                                have HO430 := n0_
                                have BK426 := n1_
                                have HB := n2_
                                clear n0_ n1_ n2_
                                have hHeld : w39.cell? ⟨gb426, 0, none⟩ = some (.bool ((rd_T31 l0 x5_1).f0)) ∧ w39.cell? ⟨gb426, 1, none⟩ = some (.int .i64 ((rd_T31 l0 x5_1).f1.f0)) ∧ w39.cell? ⟨gb426, 2, none⟩ = some (.int .u64 ((rd_T31 l0 x5_1).f1.f1.f0.f0)) ∧ w39.cell? ⟨gb426, 3, none⟩ = some (.int .u64 ((rd_T31 l0 x5_1).f1.f1.f0.f1)) ∧ w39.cell? ⟨gb426, 4, none⟩ = some (.int .i64 ((rd_T31 l0 x5_1).f1.f1.f1)) ∧ w39.cell? ⟨gb426, 5, none⟩ = some (.int .i64 ((rd_T31 l0 x5_1).f1.f2)) ∧ w39.cell? ⟨gb426, 6, none⟩ = some (.string ((rd_T31 l0 x5_1).f1.f3)) ∧ w39.cell? ⟨gb426, 7, none⟩ = some (.int .u32 ((rd_T31 l0 x5_1).f1.f4)) ∧ w39.cell? ⟨gb426, 8, none⟩ = some (.int .i64 ((rd_T31 l0 x5_1).f1.f5)) := hS_
                                refine norm_ (a' := ?_) ?_ ?_
                                rotate_left
                                · simp only [putAll, Act.put, List.setIfInBounds_toArray, List.set_cons_zero, List.set_cons_succ]
                                  rfl
                                refine pure_ (i := 19) (N := some 51) (v := ?_) (a' := ?_) #[true, true, true, true, true, true, true, true, true, true, true, true, true, true, true, true, true, true, true, true, false] rfl rfl (any_of HT_.out (by kernel_rfl)) (fun _ _ _ h => h) (Or.inl ⟨by rfl, ?_⟩) ?_ ?_
                                rotate_left
                                · intro w'
                                  go_simp
                                  with_reducible rfl
                                rotate_left
                                · simp only [Act.put, List.setIfInBounds_toArray, List.set_cons_zero, List.set_cons_succ, i64_w, i32_w]
                                  rfl
                                refine pure_ (i := 20) (N := some 4) (v := ?_) (a' := ?_) #[true, true, true, true, true, true, true, true, true, true, true, true, true, true, true, true, true, true, true, true, true] rfl rfl (any_of HT_.out (by kernel_rfl)) (fun _ _ _ h => h) (Or.inl ⟨by rfl, ?_⟩) ?_ ?_
                                rotate_left
                                · intro w'
                                  go_simp
                                  with_reducible rfl
                                rotate_left
                                · simp only [Act.put, List.setIfInBounds_toArray, List.set_cons_zero, List.set_cons_succ, i64_w, i32_w]
                                  rfl
                                refine done_ (done_of HT_.out (by kernel_rfl)) ?_
                                obtain ⟨hcz40_0, hcz40_1, hcz40_2, hcz40_3, hcz40_4, hcz40_5, hcz40_6, hcz40_7, hcz40_8⟩ := XRun.bc9 BK426.out
                                obtain ⟨hfz40_0, hfz40_1, hfz40_2, hfz40_3, hfz40_4, hfz40_5, hfz40_6, hfz40_7, hfz40_8⟩ := XRun.bf9 BK426.out
                                try go_wp2_with (first | ((with_reducible refine gate_callee (f := 42) rfl ?_); refine goesL_ (some 59) rfl rfl Try.func42 (by kernel_rfl) rfl #[.string ((rd_T31 l0 x5_1).f1.f3)] rfl (by (try simp only [List.map_toArray, List.map_cons, List.map_nil]); first | rfl) ?_; (with_reducible refine (tenancyref04_Run.calls kj8 ((rd_T31 l0 x5_1).f1.f3) t432 t433 _ A27.out).mono ?_); rintro e w41 ⟨rfl, hb⟩; refine ⟨_, rfl, ?_⟩; have n0_ := Aside0.mk (Kd.R_below HO430.out hb); have n1_ := Aside0.mk (blk_below (g := gb426) (o := .cells #[.bool ((rd_T31 l0 x5_1).f0), .int .i64 ((rd_T31 l0 x5_1).f1.f0), .int .u64 ((rd_T31 l0 x5_1).f1.f1.f0.f0), .int .u64 ((rd_T31 l0 x5_1).f1.f1.f0.f1), .int .i64 ((rd_T31 l0 x5_1).f1.f1.f1), .int .i64 ((rd_T31 l0 x5_1).f1.f2), .string ((rd_T31 l0 x5_1).f1.f3), .int .u32 ((rd_T31 l0 x5_1).f1.f4), .int .i64 ((rd_T31 l0 x5_1).f1.f5)] 31 (0, 0)) BK426.out hb); have n2_ := Aside0.mk (below_step HB.out hb); clear HO430; clear BK426; clear HB; have HO430 := n0_; have BK426 := n1_; have HB := n2_; clear n0_ n1_ n2_; (try clear hb); (try clear hb2); (try clear hk); (try clear hi)))
                                have n0_ := Aside0.mk (Kd.R_drew HO430.out)
                                have n1_ := Aside0.mk (blk_drew BK426.out)
                                have n2_ := Aside0.mk (below_drew1 HB.out)
                                clear HO430
                                clear BK426
                                clear HB
                                have HO430 := n0_
                                have BK426 := n1_
                                have HB := n2_
                                clear n0_ n1_ n2_
                                refine start_ (n := 22) (S := fun w' => w'.cell? ⟨gb426, 0, none⟩ = some (.bool ((rd_T31 l0 x5_1).f0)) ∧ w'.cell? ⟨gb426, 1, none⟩ = some (.int .i64 ((rd_T31 l0 x5_1).f1.f0)) ∧ w'.cell? ⟨gb426, 2, none⟩ = some (.int .u64 ((rd_T31 l0 x5_1).f1.f1.f0.f0)) ∧ w'.cell? ⟨gb426, 3, none⟩ = some (.int .u64 ((rd_T31 l0 x5_1).f1.f1.f0.f1)) ∧ w'.cell? ⟨gb426, 4, none⟩ = some (.int .i64 ((rd_T31 l0 x5_1).f1.f1.f1)) ∧ w'.cell? ⟨gb426, 5, none⟩ = some (.int .i64 ((rd_T31 l0 x5_1).f1.f2)) ∧ w'.cell? ⟨gb426, 6, none⟩ = some (.string ((rd_T31 l0 x5_1).f1.f3)) ∧ w'.cell? ⟨gb426, 7, none⟩ = some (.int .u32 ((rd_T31 l0 x5_1).f1.f4)) ∧ w'.cell? ⟨gb426, 8, none⟩ = some (.int .i64 ((rd_T31 l0 x5_1).f1.f5))) (ds := []) #[false, false, false, false, false, false, false, false, false, false, false, false, false, false, false, false, false, false, false, false, false, false] (by kernel_rfl) rfl rfl ⟨(blk_cell BK426.out 0).trans rfl, (blk_cell BK426.out 1).trans rfl, (blk_cell BK426.out 2).trans rfl, (blk_cell BK426.out 3).trans rfl, (blk_cell BK426.out 4).trans rfl, (blk_cell BK426.out 5).trans rfl, (blk_cell BK426.out 6).trans rfl, (blk_cell BK426.out 7).trans rfl, (blk_cell BK426.out 8).trans rfl⟩ (fun hHeld => ?_); refine with_tabW tenancyref08_Encode.tab16 tenancyref08_Encode.bits16 (fun HT_ HW_ => ?_)
                                generalize w41.drew = w42 at HO430 BK426 HB hHeld ⊢
                                refine pure_ (i := 0) (N := some 62) (v := ?_) (a' := ?_) #[true, false, false, false, false, false, false, false, false, false, false, false, false, false, false, false, false, false, false, false, false, false] rfl rfl (any_of HT_.out (by kernel_rfl)) (fun _ _ _ h => h) (Or.inl ⟨by rfl, ?_⟩) ?_ ?_
                                rotate_left
                                · intro w'
                                  go_simp
                                  with_reducible rfl
                                rotate_left
                                · simp only [Act.put, List.setIfInBounds_toArray, List.set_cons_zero, List.set_cons_succ, i64_w, i32_w]
                                  rfl
                                refine pure_ (i := 1) (N := some 63) (v := ?_) (a' := ?_) #[true, true, false, false, false, false, false, false, false, false, false, false, false, false, false, false, false, false, false, false, false, false] rfl rfl (any_of HT_.out (by kernel_rfl)) (fun _ _ _ h => h) (Or.inl ⟨by rfl, ?_⟩) ?_ ?_
                                rotate_left
                                · intro w'
                                  go_simp
                                  with_reducible rfl
                                rotate_left
                                · simp only [Act.put, List.setIfInBounds_toArray, List.set_cons_zero, List.set_cons_succ, i64_w, i32_w]
                                  rfl
                                refine pure_ (i := 2) (N := some 64) (v := ?_) (a' := ?_) #[true, true, true, false, false, false, false, false, false, false, false, false, false, false, false, false, false, false, false, false, false, false] rfl rfl (any_of HT_.out (by kernel_rfl)) (fun _ _ _ h => h) (Or.inl ⟨by rfl, ?_⟩) ?_ ?_
                                rotate_left
                                · intro w'
                                  go_simp
                                  with_reducible rfl
                                rotate_left
                                · simp only [Act.put, List.setIfInBounds_toArray, List.set_cons_zero, List.set_cons_succ, i64_w, i32_w]
                                  rfl
                                refine pure_ (i := 8) (N := some 70) (v := ?_) (a' := ?_) #[true, true, true, false, false, false, false, false, true, false, false, false, false, false, false, false, false, false, false, false, false, false] rfl rfl (any_of HT_.out (by kernel_rfl)) (fun _ _ _ h => h) (Or.inl ⟨by rfl, ?_⟩) ?_ ?_
                                rotate_left
                                · intro w'
                                  go_simp
                                  with_reducible rfl
                                rotate_left
                                · simp only [Act.put, List.setIfInBounds_toArray, List.set_cons_zero, List.set_cons_succ, i64_w, i32_w]
                                  rfl
                                refine pure_ (i := 9) (N := some 71) (v := ?_) (a' := ?_) #[true, true, true, false, false, false, false, false, true, true, false, false, false, false, false, false, false, false, false, false, false, false] rfl rfl (any_of HT_.out (by kernel_rfl)) (fun _ _ _ h => h) (Or.inl ⟨by rfl, ?_⟩) ?_ ?_
                                rotate_left
                                · intro w'
                                  go_simp
                                  with_reducible rfl
                                rotate_left
                                · simp only [Act.put, List.setIfInBounds_toArray, List.set_cons_zero, List.set_cons_succ, i64_w, i32_w]
                                  rfl
                                refine pure_ (i := 13) (N := some 75) (v := ?_) (a' := ?_) #[true, true, true, false, false, false, false, false, true, true, false, false, false, true, false, false, false, false, false, false, false, false] rfl rfl (any_of HT_.out (by kernel_rfl)) (fun _ _ _ h => h) (Or.inl ⟨by rfl, ?_⟩) ?_ ?_
                                rotate_left
                                · intro w'
                                  go_simp
                                  with_reducible rfl
                                rotate_left
                                · simp only [Act.put, List.setIfInBounds_toArray, List.set_cons_zero, List.set_cons_succ, i64_w, i32_w]
                                  rfl
                                refine pure_ (i := 14) (N := some 76) (v := ?_) (a' := ?_) #[true, true, true, false, false, false, false, false, true, true, false, false, false, true, true, false, false, false, false, false, false, false] rfl rfl (any_of HT_.out (by kernel_rfl)) (fun _ _ _ h => h) (Or.inl ⟨by rfl, ?_⟩) ?_ ?_
                                rotate_left
                                · intro w'
                                  go_simp
                                  with_reducible rfl
                                rotate_left
                                · simp only [Act.put, List.setIfInBounds_toArray, List.set_cons_zero, List.set_cons_succ, i64_w, i32_w]
                                  rfl
                                refine pure_ (i := 19) (N := some 81) (v := ?_) (a' := ?_) #[true, true, true, false, false, false, false, false, true, true, false, false, false, true, true, false, false, false, false, true, false, false] rfl rfl (any_of HT_.out (by kernel_rfl)) (fun _ _ _ h => h) (Or.inl ⟨by rfl, ?_⟩) ?_ ?_
                                rotate_left
                                · intro w'
                                  go_simp
                                  with_reducible rfl
                                rotate_left
                                · simp only [Act.put, List.setIfInBounds_toArray, List.set_cons_zero, List.set_cons_succ, i64_w, i32_w]
                                  rfl
                                refine take_ (i := 3) (N := some 65) (v := ?_) (a' := ?_) #[true, true, true, true, false, false, false, false, true, true, false, false, false, true, true, false, false, false, false, true, false, false] rfl rfl (take_ofW HT_.out HW_.out (by kernel_rfl)) (fun _ _ _ h => h) (Or.inl ⟨by rfl, ?_⟩) hHeld ?_ ?_
                                rotate_left
                                · rintro w' ⟨s0, s1, s2, s3, s4, s5, s6, s7, s8⟩
                                  go_simp
                                  with_reducible rfl
                                rotate_left
                                · simp only [Act.put, List.setIfInBounds_toArray, List.set_cons_zero, List.set_cons_succ, i64_w, i32_w]
                                  rfl
                                refine pure_ (i := 4) (N := some 66) (v := ?_) (a' := ?_) #[true, true, true, true, true, false, false, false, true, true, false, false, false, true, true, false, false, false, false, true, false, false] rfl rfl (any_of HT_.out (by kernel_rfl)) (fun _ _ _ h => h) (Or.inl ⟨by rfl, ?_⟩) ?_ ?_
                                rotate_left
                                · intro w'
                                  go_simp
                                  with_reducible rfl
                                rotate_left
                                · simp only [Act.put, List.setIfInBounds_toArray, List.set_cons_zero, List.set_cons_succ, i64_w, i32_w]
                                  rfl
                                refine take_ (i := 10) (N := some 72) (v := ?_) (a' := ?_) #[true, true, true, true, true, false, false, false, true, true, true, false, false, true, true, false, false, false, false, true, false, false] rfl rfl (take_ofW HT_.out HW_.out (by kernel_rfl)) (fun _ _ _ h => h) (Or.inl ⟨by rfl, ?_⟩) hHeld ?_ ?_
                                rotate_left
                                · rintro w' ⟨s0, s1, s2, s3, s4, s5, s6, s7, s8⟩
                                  go_simp
                                  with_reducible rfl
                                rotate_left
                                · simp only [Act.put, List.setIfInBounds_toArray, List.set_cons_zero, List.set_cons_succ, i64_w, i32_w]
                                  rfl
                                refine take_ (i := 15) (N := some 77) (v := ?_) (a' := ?_) #[true, true, true, true, true, false, false, false, true, true, true, false, false, true, true, true, false, false, false, true, false, false] rfl rfl (take_ofW HT_.out HW_.out (by kernel_rfl)) (fun _ _ _ h => h) (Or.inl ⟨by rfl, ?_⟩) hHeld ?_ ?_
                                rotate_left
                                · rintro w' ⟨s0, s1, s2, s3, s4, s5, s6, s7, s8⟩
                                  go_simp
                                  with_reducible rfl
                                rotate_left
                                · simp only [Act.put, List.setIfInBounds_toArray, List.set_cons_zero, List.set_cons_succ, i64_w, i32_w]
                                  rfl
                                refine pure_ (i := 16) (N := some 78) (v := ?_) (a' := ?_) #[true, true, true, true, true, false, false, false, true, true, true, false, false, true, true, true, true, false, false, true, false, false] rfl rfl (any_of HT_.out (by kernel_rfl)) (fun _ _ _ h => h) (Or.inl ⟨by rfl, ?_⟩) ?_ ?_
                                rotate_left
                                · intro w'
                                  go_simp
                                  with_reducible rfl
                                rotate_left
                                · simp only [Act.put, List.setIfInBounds_toArray, List.set_cons_zero, List.set_cons_succ, i64_w, i32_w]
                                  rfl
                                refine join_ (σ := Value) 3 #[true, true, true, true, true, true, true, true, true, true, true, true, true, true, true, true, true, true, false, true, false, false] (fun s_ => [(67, s_), (68, .string (strOfNums y434)), (73, .string t437), (79, .string t438), (69, .string (((x4_1 ++ (strOfNums y428)) ++ t431) ++ (strOfNums y434))), (74, .string ((((x4_1 ++ (strOfNums y428)) ++ t431) ++ (strOfNums y434)) ++ t437))]) (fun s_ w' => (w'.cell? ⟨gb426, 0, none⟩ = some (.bool ((rd_T31 l0 x5_1).f0)) ∧ w'.cell? ⟨gb426, 1, none⟩ = some (.int .i64 ((rd_T31 l0 x5_1).f1.f0)) ∧ w'.cell? ⟨gb426, 2, none⟩ = some (.int .u64 ((rd_T31 l0 x5_1).f1.f1.f0.f0)) ∧ w'.cell? ⟨gb426, 3, none⟩ = some (.int .u64 ((rd_T31 l0 x5_1).f1.f1.f0.f1)) ∧ w'.cell? ⟨gb426, 4, none⟩ = some (.int .i64 ((rd_T31 l0 x5_1).f1.f1.f1)) ∧ w'.cell? ⟨gb426, 5, none⟩ = some (.int .i64 ((rd_T31 l0 x5_1).f1.f2)) ∧ w'.cell? ⟨gb426, 6, none⟩ = some (.string ((rd_T31 l0 x5_1).f1.f3)) ∧ w'.cell? ⟨gb426, 7, none⟩ = some (.int .u32 ((rd_T31 l0 x5_1).f1.f4)) ∧ w'.cell? ⟨gb426, 8, none⟩ = some (.int .i64 ((rd_T31 l0 x5_1).f1.f5))) ∧ (Kd.R (Kd.int .u8) 5 w' w.heap.size (fun k_ => some k_ ≠ (s_ : Value).ownBlock) v429 y428) ∧ (Kd.R (Kd.int .u8) 5 w' w.heap.size (fun k_ => some k_ ≠ (v429 : Value).ownBlock) s_ y434) ∧ (w'.heap[gb426]? = some (.cells #[.bool ((rd_T31 l0 x5_1).f0), .int .i64 ((rd_T31 l0 x5_1).f1.f0), .int .u64 ((rd_T31 l0 x5_1).f1.f1.f0.f0), .int .u64 ((rd_T31 l0 x5_1).f1.f1.f0.f1), .int .i64 ((rd_T31 l0 x5_1).f1.f1.f1), .int .i64 ((rd_T31 l0 x5_1).f1.f2), .string ((rd_T31 l0 x5_1).f1.f3), .int .u32 ((rd_T31 l0 x5_1).f1.f4), .int .i64 ((rd_T31 l0 x5_1).f1.f5)] 31 (0, 0))) ∧ (Below w.heap.size w w')) ?_ ?_
                                rotate_left
                                · intro hJ5_6_11_17
                                  refine join_ (σ := Value) 4 #[true, true, true, true, true, true, true, true, true, true, true, true, true, true, true, true, true, false, false, true, false, false] (fun s_ => [(67, s_), (68, .string (strOfNums y434)), (73, .string t437), (69, .string (((x4_1 ++ (strOfNums y428)) ++ t431) ++ (strOfNums y434))), (74, .string ((((x4_1 ++ (strOfNums y428)) ++ t431) ++ (strOfNums y434)) ++ t437))]) (fun s_ w' => (w'.cell? ⟨gb426, 0, none⟩ = some (.bool ((rd_T31 l0 x5_1).f0)) ∧ w'.cell? ⟨gb426, 1, none⟩ = some (.int .i64 ((rd_T31 l0 x5_1).f1.f0)) ∧ w'.cell? ⟨gb426, 2, none⟩ = some (.int .u64 ((rd_T31 l0 x5_1).f1.f1.f0.f0)) ∧ w'.cell? ⟨gb426, 3, none⟩ = some (.int .u64 ((rd_T31 l0 x5_1).f1.f1.f0.f1)) ∧ w'.cell? ⟨gb426, 4, none⟩ = some (.int .i64 ((rd_T31 l0 x5_1).f1.f1.f1)) ∧ w'.cell? ⟨gb426, 5, none⟩ = some (.int .i64 ((rd_T31 l0 x5_1).f1.f2)) ∧ w'.cell? ⟨gb426, 6, none⟩ = some (.string ((rd_T31 l0 x5_1).f1.f3)) ∧ w'.cell? ⟨gb426, 7, none⟩ = some (.int .u32 ((rd_T31 l0 x5_1).f1.f4)) ∧ w'.cell? ⟨gb426, 8, none⟩ = some (.int .i64 ((rd_T31 l0 x5_1).f1.f5))) ∧ (Kd.R (Kd.int .u8) 5 w' w.heap.size (fun k_ => some k_ ≠ (s_ : Value).ownBlock) v429 y428) ∧ (Kd.R (Kd.int .u8) 5 w' w.heap.size (fun k_ => some k_ ≠ (v429 : Value).ownBlock) s_ y434) ∧ (w'.heap[gb426]? = some (.cells #[.bool ((rd_T31 l0 x5_1).f0), .int .i64 ((rd_T31 l0 x5_1).f1.f0), .int .u64 ((rd_T31 l0 x5_1).f1.f1.f0.f0), .int .u64 ((rd_T31 l0 x5_1).f1.f1.f0.f1), .int .i64 ((rd_T31 l0 x5_1).f1.f1.f1), .int .i64 ((rd_T31 l0 x5_1).f1.f2), .string ((rd_T31 l0 x5_1).f1.f3), .int .u32 ((rd_T31 l0 x5_1).f1.f4), .int .i64 ((rd_T31 l0 x5_1).f1.f5)] 31 (0, 0))) ∧ (Below w.heap.size w w')) ?_ ?_
                                  rotate_left
                                  · intro hJ5_6_11
                                    refine join_ (σ := Value) 6 #[true, true, true, true, true, true, false, false, true, true, true, true, false, true, true, true, true, true, false, true, false, false] (fun s_ => [(67, s_), (73, .string t437), (79, .string t438)]) (fun s_ w' => (w'.cell? ⟨gb426, 0, none⟩ = some (.bool ((rd_T31 l0 x5_1).f0)) ∧ w'.cell? ⟨gb426, 1, none⟩ = some (.int .i64 ((rd_T31 l0 x5_1).f1.f0)) ∧ w'.cell? ⟨gb426, 2, none⟩ = some (.int .u64 ((rd_T31 l0 x5_1).f1.f1.f0.f0)) ∧ w'.cell? ⟨gb426, 3, none⟩ = some (.int .u64 ((rd_T31 l0 x5_1).f1.f1.f0.f1)) ∧ w'.cell? ⟨gb426, 4, none⟩ = some (.int .i64 ((rd_T31 l0 x5_1).f1.f1.f1)) ∧ w'.cell? ⟨gb426, 5, none⟩ = some (.int .i64 ((rd_T31 l0 x5_1).f1.f2)) ∧ w'.cell? ⟨gb426, 6, none⟩ = some (.string ((rd_T31 l0 x5_1).f1.f3)) ∧ w'.cell? ⟨gb426, 7, none⟩ = some (.int .u32 ((rd_T31 l0 x5_1).f1.f4)) ∧ w'.cell? ⟨gb426, 8, none⟩ = some (.int .i64 ((rd_T31 l0 x5_1).f1.f5))) ∧ (Kd.R (Kd.int .u8) 5 w' w.heap.size (fun k_ => some k_ ≠ (s_ : Value).ownBlock) v429 y428) ∧ (Kd.R (Kd.int .u8) 5 w' w.heap.size (fun k_ => some k_ ≠ (v429 : Value).ownBlock) s_ y434) ∧ (w'.heap[gb426]? = some (.cells #[.bool ((rd_T31 l0 x5_1).f0), .int .i64 ((rd_T31 l0 x5_1).f1.f0), .int .u64 ((rd_T31 l0 x5_1).f1.f1.f0.f0), .int .u64 ((rd_T31 l0 x5_1).f1.f1.f0.f1), .int .i64 ((rd_T31 l0 x5_1).f1.f1.f1), .int .i64 ((rd_T31 l0 x5_1).f1.f2), .string ((rd_T31 l0 x5_1).f1.f3), .int .u32 ((rd_T31 l0 x5_1).f1.f4), .int .i64 ((rd_T31 l0 x5_1).f1.f5)] 31 (0, 0))) ∧ (Below w.heap.size w w')) ?_ ?_
                                    rotate_left
                                    · intro hJ5_11_17
                                      refine join_ (σ := Value) 6 #[true, true, true, true, true, true, true, true, true, true, true, false, false, true, true, true, true, false, false, true, false, false] (fun s_ => [(67, s_), (68, .string (strOfNums y434)), (69, .string (((x4_1 ++ (strOfNums y428)) ++ t431) ++ (strOfNums y434)))]) (fun s_ w' => (w'.cell? ⟨gb426, 0, none⟩ = some (.bool ((rd_T31 l0 x5_1).f0)) ∧ w'.cell? ⟨gb426, 1, none⟩ = some (.int .i64 ((rd_T31 l0 x5_1).f1.f0)) ∧ w'.cell? ⟨gb426, 2, none⟩ = some (.int .u64 ((rd_T31 l0 x5_1).f1.f1.f0.f0)) ∧ w'.cell? ⟨gb426, 3, none⟩ = some (.int .u64 ((rd_T31 l0 x5_1).f1.f1.f0.f1)) ∧ w'.cell? ⟨gb426, 4, none⟩ = some (.int .i64 ((rd_T31 l0 x5_1).f1.f1.f1)) ∧ w'.cell? ⟨gb426, 5, none⟩ = some (.int .i64 ((rd_T31 l0 x5_1).f1.f2)) ∧ w'.cell? ⟨gb426, 6, none⟩ = some (.string ((rd_T31 l0 x5_1).f1.f3)) ∧ w'.cell? ⟨gb426, 7, none⟩ = some (.int .u32 ((rd_T31 l0 x5_1).f1.f4)) ∧ w'.cell? ⟨gb426, 8, none⟩ = some (.int .i64 ((rd_T31 l0 x5_1).f1.f5))) ∧ (Kd.R (Kd.int .u8) 5 w' w.heap.size (fun k_ => some k_ ≠ (s_ : Value).ownBlock) v429 y428) ∧ (Kd.R (Kd.int .u8) 5 w' w.heap.size (fun k_ => some k_ ≠ (v429 : Value).ownBlock) s_ y434) ∧ (w'.heap[gb426]? = some (.cells #[.bool ((rd_T31 l0 x5_1).f0), .int .i64 ((rd_T31 l0 x5_1).f1.f0), .int .u64 ((rd_T31 l0 x5_1).f1.f1.f0.f0), .int .u64 ((rd_T31 l0 x5_1).f1.f1.f0.f1), .int .i64 ((rd_T31 l0 x5_1).f1.f1.f1), .int .i64 ((rd_T31 l0 x5_1).f1.f2), .string ((rd_T31 l0 x5_1).f1.f3), .int .u32 ((rd_T31 l0 x5_1).f1.f4), .int .i64 ((rd_T31 l0 x5_1).f1.f5)] 31 (0, 0))) ∧ (Below w.heap.size w w')) ?_ ?_
                                      rotate_left
                                      · intro hJ5_6
                                        refine join_ (σ := Value) 7 #[true, true, true, true, true, true, false, false, true, true, true, true, false, true, true, true, true, false, false, true, false, false] (fun s_ => [(67, s_), (73, .string t437)]) (fun s_ w' => (w'.cell? ⟨gb426, 0, none⟩ = some (.bool ((rd_T31 l0 x5_1).f0)) ∧ w'.cell? ⟨gb426, 1, none⟩ = some (.int .i64 ((rd_T31 l0 x5_1).f1.f0)) ∧ w'.cell? ⟨gb426, 2, none⟩ = some (.int .u64 ((rd_T31 l0 x5_1).f1.f1.f0.f0)) ∧ w'.cell? ⟨gb426, 3, none⟩ = some (.int .u64 ((rd_T31 l0 x5_1).f1.f1.f0.f1)) ∧ w'.cell? ⟨gb426, 4, none⟩ = some (.int .i64 ((rd_T31 l0 x5_1).f1.f1.f1)) ∧ w'.cell? ⟨gb426, 5, none⟩ = some (.int .i64 ((rd_T31 l0 x5_1).f1.f2)) ∧ w'.cell? ⟨gb426, 6, none⟩ = some (.string ((rd_T31 l0 x5_1).f1.f3)) ∧ w'.cell? ⟨gb426, 7, none⟩ = some (.int .u32 ((rd_T31 l0 x5_1).f1.f4)) ∧ w'.cell? ⟨gb426, 8, none⟩ = some (.int .i64 ((rd_T31 l0 x5_1).f1.f5))) ∧ (Kd.R (Kd.int .u8) 5 w' w.heap.size (fun k_ => some k_ ≠ (s_ : Value).ownBlock) v429 y428) ∧ (Kd.R (Kd.int .u8) 5 w' w.heap.size (fun k_ => some k_ ≠ (v429 : Value).ownBlock) s_ y434) ∧ (w'.heap[gb426]? = some (.cells #[.bool ((rd_T31 l0 x5_1).f0), .int .i64 ((rd_T31 l0 x5_1).f1.f0), .int .u64 ((rd_T31 l0 x5_1).f1.f1.f0.f0), .int .u64 ((rd_T31 l0 x5_1).f1.f1.f0.f1), .int .i64 ((rd_T31 l0 x5_1).f1.f1.f1), .int .i64 ((rd_T31 l0 x5_1).f1.f2), .string ((rd_T31 l0 x5_1).f1.f3), .int .u32 ((rd_T31 l0 x5_1).f1.f4), .int .i64 ((rd_T31 l0 x5_1).f1.f5)] 31 (0, 0))) ∧ (Below w.heap.size w w')) ?_ ?_
                                        rotate_left
                                        · intro hJ5_11
                                          refine join_ (σ := Unit) 7 #[true, true, true, true, true, false, false, false, true, true, true, true, false, true, true, true, true, true, false, true, false, false] (fun s_ => [(73, .string t437), (79, .string t438)]) (fun s_ w' => (w'.cell? ⟨gb426, 0, none⟩ = some (.bool ((rd_T31 l0 x5_1).f0)) ∧ w'.cell? ⟨gb426, 1, none⟩ = some (.int .i64 ((rd_T31 l0 x5_1).f1.f0)) ∧ w'.cell? ⟨gb426, 2, none⟩ = some (.int .u64 ((rd_T31 l0 x5_1).f1.f1.f0.f0)) ∧ w'.cell? ⟨gb426, 3, none⟩ = some (.int .u64 ((rd_T31 l0 x5_1).f1.f1.f0.f1)) ∧ w'.cell? ⟨gb426, 4, none⟩ = some (.int .i64 ((rd_T31 l0 x5_1).f1.f1.f1)) ∧ w'.cell? ⟨gb426, 5, none⟩ = some (.int .i64 ((rd_T31 l0 x5_1).f1.f2)) ∧ w'.cell? ⟨gb426, 6, none⟩ = some (.string ((rd_T31 l0 x5_1).f1.f3)) ∧ w'.cell? ⟨gb426, 7, none⟩ = some (.int .u32 ((rd_T31 l0 x5_1).f1.f4)) ∧ w'.cell? ⟨gb426, 8, none⟩ = some (.int .i64 ((rd_T31 l0 x5_1).f1.f5))) ∧ (Kd.R (Kd.int .u8) 5 w' w.heap.size (fun _ => True) v429 y428) ∧ (w'.heap[gb426]? = some (.cells #[.bool ((rd_T31 l0 x5_1).f0), .int .i64 ((rd_T31 l0 x5_1).f1.f0), .int .u64 ((rd_T31 l0 x5_1).f1.f1.f0.f0), .int .u64 ((rd_T31 l0 x5_1).f1.f1.f0.f1), .int .i64 ((rd_T31 l0 x5_1).f1.f1.f1), .int .i64 ((rd_T31 l0 x5_1).f1.f2), .string ((rd_T31 l0 x5_1).f1.f3), .int .u32 ((rd_T31 l0 x5_1).f1.f4), .int .i64 ((rd_T31 l0 x5_1).f1.f5)] 31 (0, 0))) ∧ (Below w.heap.size w w')) ?_ ?_
                                          rotate_left
                                          · intro hJ11_17
                                            refine join_ (σ := Value) 8 #[true, true, true, true, true, true, false, false, true, true, true, false, false, true, true, true, true, false, false, true, false, false] (fun s_ => [(67, s_)]) (fun s_ w' => (w'.cell? ⟨gb426, 0, none⟩ = some (.bool ((rd_T31 l0 x5_1).f0)) ∧ w'.cell? ⟨gb426, 1, none⟩ = some (.int .i64 ((rd_T31 l0 x5_1).f1.f0)) ∧ w'.cell? ⟨gb426, 2, none⟩ = some (.int .u64 ((rd_T31 l0 x5_1).f1.f1.f0.f0)) ∧ w'.cell? ⟨gb426, 3, none⟩ = some (.int .u64 ((rd_T31 l0 x5_1).f1.f1.f0.f1)) ∧ w'.cell? ⟨gb426, 4, none⟩ = some (.int .i64 ((rd_T31 l0 x5_1).f1.f1.f1)) ∧ w'.cell? ⟨gb426, 5, none⟩ = some (.int .i64 ((rd_T31 l0 x5_1).f1.f2)) ∧ w'.cell? ⟨gb426, 6, none⟩ = some (.string ((rd_T31 l0 x5_1).f1.f3)) ∧ w'.cell? ⟨gb426, 7, none⟩ = some (.int .u32 ((rd_T31 l0 x5_1).f1.f4)) ∧ w'.cell? ⟨gb426, 8, none⟩ = some (.int .i64 ((rd_T31 l0 x5_1).f1.f5))) ∧ (Kd.R (Kd.int .u8) 5 w' w.heap.size (fun k_ => some k_ ≠ (s_ : Value).ownBlock) v429 y428) ∧ (Kd.R (Kd.int .u8) 5 w' w.heap.size (fun k_ => some k_ ≠ (v429 : Value).ownBlock) s_ y434) ∧ (w'.heap[gb426]? = some (.cells #[.bool ((rd_T31 l0 x5_1).f0), .int .i64 ((rd_T31 l0 x5_1).f1.f0), .int .u64 ((rd_T31 l0 x5_1).f1.f1.f0.f0), .int .u64 ((rd_T31 l0 x5_1).f1.f1.f0.f1), .int .i64 ((rd_T31 l0 x5_1).f1.f1.f1), .int .i64 ((rd_T31 l0 x5_1).f1.f2), .string ((rd_T31 l0 x5_1).f1.f3), .int .u32 ((rd_T31 l0 x5_1).f1.f4), .int .i64 ((rd_T31 l0 x5_1).f1.f5)] 31 (0, 0))) ∧ (Below w.heap.size w w')) ?_ ?_
                                            rotate_left
                                            · intro hJ5
                                              refine join_ (σ := Unit) 8 #[true, true, true, true, true, false, false, false, true, true, true, true, false, true, true, true, true, false, false, true, false, false] (fun s_ => [(73, .string t437)]) (fun s_ w' => (w'.cell? ⟨gb426, 0, none⟩ = some (.bool ((rd_T31 l0 x5_1).f0)) ∧ w'.cell? ⟨gb426, 1, none⟩ = some (.int .i64 ((rd_T31 l0 x5_1).f1.f0)) ∧ w'.cell? ⟨gb426, 2, none⟩ = some (.int .u64 ((rd_T31 l0 x5_1).f1.f1.f0.f0)) ∧ w'.cell? ⟨gb426, 3, none⟩ = some (.int .u64 ((rd_T31 l0 x5_1).f1.f1.f0.f1)) ∧ w'.cell? ⟨gb426, 4, none⟩ = some (.int .i64 ((rd_T31 l0 x5_1).f1.f1.f1)) ∧ w'.cell? ⟨gb426, 5, none⟩ = some (.int .i64 ((rd_T31 l0 x5_1).f1.f2)) ∧ w'.cell? ⟨gb426, 6, none⟩ = some (.string ((rd_T31 l0 x5_1).f1.f3)) ∧ w'.cell? ⟨gb426, 7, none⟩ = some (.int .u32 ((rd_T31 l0 x5_1).f1.f4)) ∧ w'.cell? ⟨gb426, 8, none⟩ = some (.int .i64 ((rd_T31 l0 x5_1).f1.f5))) ∧ (Kd.R (Kd.int .u8) 5 w' w.heap.size (fun _ => True) v429 y428) ∧ (w'.heap[gb426]? = some (.cells #[.bool ((rd_T31 l0 x5_1).f0), .int .i64 ((rd_T31 l0 x5_1).f1.f0), .int .u64 ((rd_T31 l0 x5_1).f1.f1.f0.f0), .int .u64 ((rd_T31 l0 x5_1).f1.f1.f0.f1), .int .i64 ((rd_T31 l0 x5_1).f1.f1.f1), .int .i64 ((rd_T31 l0 x5_1).f1.f2), .string ((rd_T31 l0 x5_1).f1.f3), .int .u32 ((rd_T31 l0 x5_1).f1.f4), .int .i64 ((rd_T31 l0 x5_1).f1.f5)] 31 (0, 0))) ∧ (Below w.heap.size w w')) ?_ ?_
                                              rotate_left
                                              · intro hJ11
                                                refine two_ (i := 5) (j := 11) (Ni := some 67) (Nj := some 73) #[true, true, true, true, true, true, false, false, true, true, true, false, false, true, true, true, true, false, false, true, false, false] #[true, true, true, true, true, false, false, false, true, true, true, true, false, true, true, true, true, false, false, true, false, false] rfl rfl rfl rfl (two_of HT_.out (by kernel_rfl)) (by decide) (by decide) (fun K hK => ?_) (fun K hK => ?_)
                                                · skip
                                                  refine Kd.R_lit_step (Kd.int .u8) _ 5 ?hg (N := 67) ?hd (xs := ([(((rd_T31 l0 x5_1).f1.f2)) % 256] : List Int)) (inner := [.int .u8 ((((rd_T31 l0 x5_1).f1.f2)) % 256)]) (ok := fun _ => True) (okp := fun _ => True) ?hr ?hp (fun _ hk => hk) trivial (Below.refl _ _) (Nat.le_refl _) (by simp) ?_; (case hd => rfl); (case hg => rfl); (case hr => first | (go_simp; rfl)); (case hp => exact (Reps.one (show Kd.M (Kd.int .u8) _ _ _ ((((rd_T31 l0 x5_1).f1.f2)) % 256) [.int .u8 ((((rd_T31 l0 x5_1).f1.f2)) % 256)] from rfl) (Reps.none _ _)))
                                                  intro v435 w43 ho44 hb hg_ hnew_
                                                  clear hg_ hnew_
                                                  (first | rw [← Ny434.out] at ho44)
                                                  have n0_ := Aside0.mk (Kd.R_elder' HO430.out (Kd.R_base ho44) hb)
                                                  have n1_ := Aside0.mk (Kd.R_lower (Kd.R_new' ho44 (Kd.R_lt HO430.out)) (below_size HB.out))
                                                  have n2_ := Aside0.mk (blk_below (g := gb426) (o := .cells #[.bool ((rd_T31 l0 x5_1).f0), .int .i64 ((rd_T31 l0 x5_1).f1.f0), .int .u64 ((rd_T31 l0 x5_1).f1.f1.f0.f0), .int .u64 ((rd_T31 l0 x5_1).f1.f1.f0.f1), .int .i64 ((rd_T31 l0 x5_1).f1.f1.f1), .int .i64 ((rd_T31 l0 x5_1).f1.f2), .string ((rd_T31 l0 x5_1).f1.f3), .int .u32 ((rd_T31 l0 x5_1).f1.f4), .int .i64 ((rd_T31 l0 x5_1).f1.f5)] 31 (0, 0)) BK426.out hb)
                                                  have n3_ := Aside0.mk (below_step HB.out hb)
                                                  clear HO430
                                                  clear BK426
                                                  clear HB
                                                  have HO430 := n0_
                                                  have HO436 := n1_
                                                  have BK426 := n2_
                                                  have HB := n3_
                                                  clear n0_ n1_ n2_ n3_
                                                  clear hb ho44
                                                  refine hK.out _ _ ⟨(blk_cell BK426.out 0).trans rfl, (blk_cell BK426.out 1).trans rfl, (blk_cell BK426.out 2).trans rfl, (blk_cell BK426.out 3).trans rfl, (blk_cell BK426.out 4).trans rfl, (blk_cell BK426.out 5).trans rfl, (blk_cell BK426.out 6).trans rfl, (blk_cell BK426.out 7).trans rfl, (blk_cell BK426.out 8).trans rfl⟩ (fun hHeld => ?_)
                                                  clear hK K
                                                  refine norm_ (a' := ?_) ?_ ?_
                                                  rotate_left
                                                  · show Act.put _ (some 67) _ = _
                                                    simp only [Act.put, List.setIfInBounds_toArray, List.set_cons_zero, List.set_cons_succ, i64_w, i32_w]
                                                    rfl
                                                  exact norm_ (by first | (simp only [putAll, Act.put, List.setIfInBounds_toArray, List.set_cons_zero, List.set_cons_succ]; done)) (hJ5 (v435) _ ⟨hHeld, (by exact Kd.R_mono HO430.out (fun _ hk => hk.2)), (by exact Kd.R_mono HO436.out (fun _ hk => hk.2)), BK426.out, HB.out⟩)
                                                · skip
                                                  refine goes_ Try.func43 (by kernel_rfl) rfl #[.int .u32 ((rd_T31 l0 x5_1).f1.f4)] (by rfl) rfl rfl (by (try simp only [List.map_toArray, List.map_cons, List.map_nil]); first | rfl) ?_
                                                  with_reducible refine (tenancyref04_Put32.calls kj8 ((rd_T31 l0 x5_1).f1.f4) t437 _ A29.out).mono ?_
                                                  rintro e w43 ⟨rfl, hb⟩
                                                  refine ⟨_, rfl, ?_⟩
                                                  have n0_ := Aside0.mk (Kd.R_below HO430.out hb)
                                                  have n1_ := Aside0.mk (blk_below (g := gb426) (o := .cells #[.bool ((rd_T31 l0 x5_1).f0), .int .i64 ((rd_T31 l0 x5_1).f1.f0), .int .u64 ((rd_T31 l0 x5_1).f1.f1.f0.f0), .int .u64 ((rd_T31 l0 x5_1).f1.f1.f0.f1), .int .i64 ((rd_T31 l0 x5_1).f1.f1.f1), .int .i64 ((rd_T31 l0 x5_1).f1.f2), .string ((rd_T31 l0 x5_1).f1.f3), .int .u32 ((rd_T31 l0 x5_1).f1.f4), .int .i64 ((rd_T31 l0 x5_1).f1.f5)] 31 (0, 0)) BK426.out hb)
                                                  have n2_ := Aside0.mk (below_step HB.out hb)
                                                  clear HO430
                                                  clear BK426
                                                  clear HB
                                                  have HO430 := n0_
                                                  have BK426 := n1_
                                                  have HB := n2_
                                                  clear n0_ n1_ n2_
                                                  (try clear hb)
                                                  (try clear hb2)
                                                  (try clear hk)
                                                  (try clear hi)
                                                  refine hK.out _ _ ⟨(blk_cell BK426.out 0).trans rfl, (blk_cell BK426.out 1).trans rfl, (blk_cell BK426.out 2).trans rfl, (blk_cell BK426.out 3).trans rfl, (blk_cell BK426.out 4).trans rfl, (blk_cell BK426.out 5).trans rfl, (blk_cell BK426.out 6).trans rfl, (blk_cell BK426.out 7).trans rfl, (blk_cell BK426.out 8).trans rfl⟩ (fun hHeld => ?_)
                                                  clear hK K
                                                  refine norm_ (a' := ?_) ?_ ?_
                                                  rotate_left
                                                  · show Act.put _ (some 73) _ = _
                                                    simp only [Act.put, List.setIfInBounds_toArray, List.set_cons_zero, List.set_cons_succ, i64_w, i32_w]
                                                    rfl
                                                  exact norm_ (by first | (simp only [putAll, Act.put, List.setIfInBounds_toArray, List.set_cons_zero, List.set_cons_succ]; done)) (hJ11 () _ ⟨hHeld, HO430.out, BK426.out, HB.out⟩)
                                              · skip
                                                rintro _ w44 ⟨hS_, h0_, h1_, h2_⟩
                                                have n0_ : Aside0 (Kd.R (Kd.int .u8) 5 w44 w.heap.size (fun _ => True) v429 y428) := ⟨h0_⟩
                                                have n1_ : Aside0 (w44.heap[gb426]? = some (.cells #[.bool ((rd_T31 l0 x5_1).f0), .int .i64 ((rd_T31 l0 x5_1).f1.f0), .int .u64 ((rd_T31 l0 x5_1).f1.f1.f0.f0), .int .u64 ((rd_T31 l0 x5_1).f1.f1.f0.f1), .int .i64 ((rd_T31 l0 x5_1).f1.f1.f1), .int .i64 ((rd_T31 l0 x5_1).f1.f2), .string ((rd_T31 l0 x5_1).f1.f3), .int .u32 ((rd_T31 l0 x5_1).f1.f4), .int .i64 ((rd_T31 l0 x5_1).f1.f5)] 31 (0, 0))) := ⟨h1_⟩
                                                have n2_ : Aside0 (Below w.heap.size w w44) := ⟨h2_⟩
                                                clear HO430
                                                clear BK426
                                                clear HB
                                                clear h0_ h1_ h2_
                                                have HO430 := n0_
                                                have BK426 := n1_
                                                have HB := n2_
                                                clear n0_ n1_ n2_
                                                have hHeld : w44.cell? ⟨gb426, 0, none⟩ = some (.bool ((rd_T31 l0 x5_1).f0)) ∧ w44.cell? ⟨gb426, 1, none⟩ = some (.int .i64 ((rd_T31 l0 x5_1).f1.f0)) ∧ w44.cell? ⟨gb426, 2, none⟩ = some (.int .u64 ((rd_T31 l0 x5_1).f1.f1.f0.f0)) ∧ w44.cell? ⟨gb426, 3, none⟩ = some (.int .u64 ((rd_T31 l0 x5_1).f1.f1.f0.f1)) ∧ w44.cell? ⟨gb426, 4, none⟩ = some (.int .i64 ((rd_T31 l0 x5_1).f1.f1.f1)) ∧ w44.cell? ⟨gb426, 5, none⟩ = some (.int .i64 ((rd_T31 l0 x5_1).f1.f2)) ∧ w44.cell? ⟨gb426, 6, none⟩ = some (.string ((rd_T31 l0 x5_1).f1.f3)) ∧ w44.cell? ⟨gb426, 7, none⟩ = some (.int .u32 ((rd_T31 l0 x5_1).f1.f4)) ∧ w44.cell? ⟨gb426, 8, none⟩ = some (.int .i64 ((rd_T31 l0 x5_1).f1.f5)) := hS_
                                                refine norm_ (a' := ?_) ?_ ?_
                                                rotate_left
                                                · simp only [putAll, Act.put, List.setIfInBounds_toArray, List.set_cons_zero, List.set_cons_succ]
                                                  rfl
                                                refine two_ (i := 5) (j := 17) (Ni := some 67) (Nj := some 79) #[true, true, true, true, true, true, false, false, true, true, true, true, false, true, true, true, true, false, false, true, false, false] #[true, true, true, true, true, false, false, false, true, true, true, true, false, true, true, true, true, true, false, true, false, false] rfl rfl rfl rfl (two_of HT_.out (by kernel_rfl)) (by decide) (by decide) (fun K hK => ?_) (fun K hK => ?_)
                                                · skip
                                                  refine Kd.R_lit_step (Kd.int .u8) _ 5 ?hg (N := 67) ?hd (xs := ([(((rd_T31 l0 x5_1).f1.f2)) % 256] : List Int)) (inner := [.int .u8 ((((rd_T31 l0 x5_1).f1.f2)) % 256)]) (ok := fun _ => True) (okp := fun _ => True) ?hr ?hp (fun _ hk => hk) trivial (Below.refl _ _) (Nat.le_refl _) (by simp) ?_; (case hd => rfl); (case hg => rfl); (case hr => first | (go_simp; rfl)); (case hp => exact (Reps.one (show Kd.M (Kd.int .u8) _ _ _ ((((rd_T31 l0 x5_1).f1.f2)) % 256) [.int .u8 ((((rd_T31 l0 x5_1).f1.f2)) % 256)] from rfl) (Reps.none _ _)))
                                                  intro v435 w45 ho46 hb hg_ hnew_
                                                  clear hg_ hnew_
                                                  (first | rw [← Ny434.out] at ho46)
                                                  have n0_ := Aside0.mk (Kd.R_elder' HO430.out (Kd.R_base ho46) hb)
                                                  have n1_ := Aside0.mk (Kd.R_lower (Kd.R_new' ho46 (Kd.R_lt HO430.out)) (below_size HB.out))
                                                  have n2_ := Aside0.mk (blk_below (g := gb426) (o := .cells #[.bool ((rd_T31 l0 x5_1).f0), .int .i64 ((rd_T31 l0 x5_1).f1.f0), .int .u64 ((rd_T31 l0 x5_1).f1.f1.f0.f0), .int .u64 ((rd_T31 l0 x5_1).f1.f1.f0.f1), .int .i64 ((rd_T31 l0 x5_1).f1.f1.f1), .int .i64 ((rd_T31 l0 x5_1).f1.f2), .string ((rd_T31 l0 x5_1).f1.f3), .int .u32 ((rd_T31 l0 x5_1).f1.f4), .int .i64 ((rd_T31 l0 x5_1).f1.f5)] 31 (0, 0)) BK426.out hb)
                                                  have n3_ := Aside0.mk (below_step HB.out hb)
                                                  clear HO430
                                                  clear BK426
                                                  clear HB
                                                  have HO430 := n0_
                                                  have HO436 := n1_
                                                  have BK426 := n2_
                                                  have HB := n3_
                                                  clear n0_ n1_ n2_ n3_
                                                  clear hb ho46
                                                  refine hK.out _ _ ⟨(blk_cell BK426.out 0).trans rfl, (blk_cell BK426.out 1).trans rfl, (blk_cell BK426.out 2).trans rfl, (blk_cell BK426.out 3).trans rfl, (blk_cell BK426.out 4).trans rfl, (blk_cell BK426.out 5).trans rfl, (blk_cell BK426.out 6).trans rfl, (blk_cell BK426.out 7).trans rfl, (blk_cell BK426.out 8).trans rfl⟩ (fun hHeld => ?_)
                                                  clear hK K
                                                  refine norm_ (a' := ?_) ?_ ?_
                                                  rotate_left
                                                  · show Act.put _ (some 67) _ = _
                                                    simp only [Act.put, List.setIfInBounds_toArray, List.set_cons_zero, List.set_cons_succ, i64_w, i32_w]
                                                    rfl
                                                  exact norm_ (by first | (simp only [putAll, Act.put, List.setIfInBounds_toArray, List.set_cons_zero, List.set_cons_succ]; done)) (hJ5_11 (v435) _ ⟨hHeld, (by exact Kd.R_mono HO430.out (fun _ hk => hk.2)), (by exact Kd.R_mono HO436.out (fun _ hk => hk.2)), BK426.out, HB.out⟩)
                                                · skip
                                                  refine goes_ Try.func44 (by kernel_rfl) rfl #[.int .u64 (IntKind.u64.wrap (((rd_T31 l0 x5_1).f1.f5)))] (by rfl) rfl rfl (by (try simp only [List.map_toArray, List.map_cons, List.map_nil]); first | rfl) ?_
                                                  with_reducible refine (tenancyref04_Put64.calls kj8 (IntKind.u64.wrap (((rd_T31 l0 x5_1).f1.f5))) t438 _ A31.out).mono ?_
                                                  rintro e w45 ⟨rfl, hb⟩
                                                  refine ⟨_, rfl, ?_⟩
                                                  have n0_ := Aside0.mk (Kd.R_below HO430.out hb)
                                                  have n1_ := Aside0.mk (blk_below (g := gb426) (o := .cells #[.bool ((rd_T31 l0 x5_1).f0), .int .i64 ((rd_T31 l0 x5_1).f1.f0), .int .u64 ((rd_T31 l0 x5_1).f1.f1.f0.f0), .int .u64 ((rd_T31 l0 x5_1).f1.f1.f0.f1), .int .i64 ((rd_T31 l0 x5_1).f1.f1.f1), .int .i64 ((rd_T31 l0 x5_1).f1.f2), .string ((rd_T31 l0 x5_1).f1.f3), .int .u32 ((rd_T31 l0 x5_1).f1.f4), .int .i64 ((rd_T31 l0 x5_1).f1.f5)] 31 (0, 0)) BK426.out hb)
                                                  have n2_ := Aside0.mk (below_step HB.out hb)
                                                  clear HO430
                                                  clear BK426
                                                  clear HB
                                                  have HO430 := n0_
                                                  have BK426 := n1_
                                                  have HB := n2_
                                                  clear n0_ n1_ n2_
                                                  (try clear hb)
                                                  (try clear hb2)
                                                  (try clear hk)
                                                  (try clear hi)
                                                  refine hK.out _ _ ⟨(blk_cell BK426.out 0).trans rfl, (blk_cell BK426.out 1).trans rfl, (blk_cell BK426.out 2).trans rfl, (blk_cell BK426.out 3).trans rfl, (blk_cell BK426.out 4).trans rfl, (blk_cell BK426.out 5).trans rfl, (blk_cell BK426.out 6).trans rfl, (blk_cell BK426.out 7).trans rfl, (blk_cell BK426.out 8).trans rfl⟩ (fun hHeld => ?_)
                                                  clear hK K
                                                  refine norm_ (a' := ?_) ?_ ?_
                                                  rotate_left
                                                  · show Act.put _ (some 79) _ = _
                                                    simp only [Act.put, List.setIfInBounds_toArray, List.set_cons_zero, List.set_cons_succ, i64_w, i32_w]
                                                    rfl
                                                  exact norm_ (by first | (simp only [putAll, Act.put, List.setIfInBounds_toArray, List.set_cons_zero, List.set_cons_succ]; done)) (hJ11_17 () _ ⟨hHeld, HO430.out, BK426.out, HB.out⟩)
                                            · skip
                                              rintro v435 w45 ⟨hS_, h0_, h1_, h2_, h3_⟩
                                              have n0_ : Aside0 (Kd.R (Kd.int .u8) 5 w45 w.heap.size (fun k_ => some k_ ≠ (v435 : Value).ownBlock) v429 y428) := ⟨h0_⟩
                                              have n1_ : Aside0 (Kd.R (Kd.int .u8) 5 w45 w.heap.size (fun k_ => some k_ ≠ (v429 : Value).ownBlock) v435 y434) := ⟨h1_⟩
                                              have n2_ : Aside0 (w45.heap[gb426]? = some (.cells #[.bool ((rd_T31 l0 x5_1).f0), .int .i64 ((rd_T31 l0 x5_1).f1.f0), .int .u64 ((rd_T31 l0 x5_1).f1.f1.f0.f0), .int .u64 ((rd_T31 l0 x5_1).f1.f1.f0.f1), .int .i64 ((rd_T31 l0 x5_1).f1.f1.f1), .int .i64 ((rd_T31 l0 x5_1).f1.f2), .string ((rd_T31 l0 x5_1).f1.f3), .int .u32 ((rd_T31 l0 x5_1).f1.f4), .int .i64 ((rd_T31 l0 x5_1).f1.f5)] 31 (0, 0))) := ⟨h2_⟩
                                              have n3_ : Aside0 (Below w.heap.size w w45) := ⟨h3_⟩
                                              clear HO430
                                              clear BK426
                                              clear HB
                                              clear h0_ h1_ h2_ h3_
                                              have HO430 := n0_
                                              have HO436 := n1_
                                              have BK426 := n2_
                                              have HB := n3_
                                              clear n0_ n1_ n2_ n3_
                                              have hHeld : w45.cell? ⟨gb426, 0, none⟩ = some (.bool ((rd_T31 l0 x5_1).f0)) ∧ w45.cell? ⟨gb426, 1, none⟩ = some (.int .i64 ((rd_T31 l0 x5_1).f1.f0)) ∧ w45.cell? ⟨gb426, 2, none⟩ = some (.int .u64 ((rd_T31 l0 x5_1).f1.f1.f0.f0)) ∧ w45.cell? ⟨gb426, 3, none⟩ = some (.int .u64 ((rd_T31 l0 x5_1).f1.f1.f0.f1)) ∧ w45.cell? ⟨gb426, 4, none⟩ = some (.int .i64 ((rd_T31 l0 x5_1).f1.f1.f1)) ∧ w45.cell? ⟨gb426, 5, none⟩ = some (.int .i64 ((rd_T31 l0 x5_1).f1.f2)) ∧ w45.cell? ⟨gb426, 6, none⟩ = some (.string ((rd_T31 l0 x5_1).f1.f3)) ∧ w45.cell? ⟨gb426, 7, none⟩ = some (.int .u32 ((rd_T31 l0 x5_1).f1.f4)) ∧ w45.cell? ⟨gb426, 8, none⟩ = some (.int .i64 ((rd_T31 l0 x5_1).f1.f5)) := hS_
                                              refine norm_ (a' := ?_) ?_ ?_
                                              rotate_left
                                              · simp only [putAll, Act.put, List.setIfInBounds_toArray, List.set_cons_zero, List.set_cons_succ]
                                                rfl
                                              refine two_ (i := 6) (j := 11) (Ni := some 68) (Nj := some 73) #[true, true, true, true, true, true, true, false, true, true, true, false, false, true, true, true, true, false, false, true, false, false] #[true, true, true, true, true, true, false, false, true, true, true, true, false, true, true, true, true, false, false, true, false, false] rfl rfl rfl rfl (two_of HT_.out (by kernel_rfl)) (by decide) (by decide) (fun K hK => ?_) (fun K hK => ?_)
                                              · skip
                                                have hcv46 := own_string (P := Try.prog) Try.underlying60 Try.underlying5 Try.underlying9 (Kd.own_of_R HO436.out)
                                                refine value_ (w1 := ?_) (v := ?_) (by rfl) rfl ?_ ?_
                                                rotate_left 2
                                                · go_simp
                                                  constructor
                                                  · rfl
                                                  · rfl
                                                clear hcv46
                                                refine hK.out _ _ ⟨(blk_cell BK426.out 0).trans rfl, (blk_cell BK426.out 1).trans rfl, (blk_cell BK426.out 2).trans rfl, (blk_cell BK426.out 3).trans rfl, (blk_cell BK426.out 4).trans rfl, (blk_cell BK426.out 5).trans rfl, (blk_cell BK426.out 6).trans rfl, (blk_cell BK426.out 7).trans rfl, (blk_cell BK426.out 8).trans rfl⟩ (fun hHeld => ?_)
                                                clear hK K
                                                refine norm_ (a' := ?_) ?_ ?_
                                                rotate_left
                                                · show Act.put _ (some 68) _ = _
                                                  simp only [Act.put, List.setIfInBounds_toArray, List.set_cons_zero, List.set_cons_succ, i64_w, i32_w]
                                                  rfl
                                                refine pure_ (i := 7) (N := some 69) (v := ?_) (a' := ?_) #[true, true, true, true, true, true, true, true, true, true, true, false, false, true, true, true, true, false, false, true, false, false] rfl rfl (any_of HT_.out (by kernel_rfl)) (fun _ _ _ h => h) (Or.inl ⟨by rfl, ?_⟩) ?_ ?_
                                                rotate_left
                                                · intro w'
                                                  go_simp
                                                  with_reducible rfl
                                                rotate_left
                                                · simp only [Act.put, List.setIfInBounds_toArray, List.set_cons_zero, List.set_cons_succ, i64_w, i32_w]
                                                  rfl
                                                exact norm_ (by first | (simp only [putAll, Act.put, List.setIfInBounds_toArray, List.set_cons_zero, List.set_cons_succ]; done)) (hJ5_6 (v435) _ ⟨hHeld, HO430.out, HO436.out, BK426.out, HB.out⟩)
                                              · skip
                                                refine goes_ Try.func43 (by kernel_rfl) rfl #[.int .u32 ((rd_T31 l0 x5_1).f1.f4)] (by rfl) rfl rfl (by (try simp only [List.map_toArray, List.map_cons, List.map_nil]); first | rfl) ?_
                                                with_reducible refine (tenancyref04_Put32.calls kj8 ((rd_T31 l0 x5_1).f1.f4) t437 _ A29.out).mono ?_
                                                rintro e w46 ⟨rfl, hb⟩
                                                refine ⟨_, rfl, ?_⟩
                                                have n0_ := Aside0.mk (Kd.R_below HO430.out hb)
                                                have n1_ := Aside0.mk (Kd.R_below HO436.out hb)
                                                have n2_ := Aside0.mk (blk_below (g := gb426) (o := .cells #[.bool ((rd_T31 l0 x5_1).f0), .int .i64 ((rd_T31 l0 x5_1).f1.f0), .int .u64 ((rd_T31 l0 x5_1).f1.f1.f0.f0), .int .u64 ((rd_T31 l0 x5_1).f1.f1.f0.f1), .int .i64 ((rd_T31 l0 x5_1).f1.f1.f1), .int .i64 ((rd_T31 l0 x5_1).f1.f2), .string ((rd_T31 l0 x5_1).f1.f3), .int .u32 ((rd_T31 l0 x5_1).f1.f4), .int .i64 ((rd_T31 l0 x5_1).f1.f5)] 31 (0, 0)) BK426.out hb)
                                                have n3_ := Aside0.mk (below_step HB.out hb)
                                                clear HO430
                                                clear HO436
                                                clear BK426
                                                clear HB
                                                have HO430 := n0_
                                                have HO436 := n1_
                                                have BK426 := n2_
                                                have HB := n3_
                                                clear n0_ n1_ n2_ n3_
                                                (try clear hb)
                                                (try clear hb2)
                                                (try clear hk)
                                                (try clear hi)
                                                refine hK.out _ _ ⟨(blk_cell BK426.out 0).trans rfl, (blk_cell BK426.out 1).trans rfl, (blk_cell BK426.out 2).trans rfl, (blk_cell BK426.out 3).trans rfl, (blk_cell BK426.out 4).trans rfl, (blk_cell BK426.out 5).trans rfl, (blk_cell BK426.out 6).trans rfl, (blk_cell BK426.out 7).trans rfl, (blk_cell BK426.out 8).trans rfl⟩ (fun hHeld => ?_)
                                                clear hK K
                                                refine norm_ (a' := ?_) ?_ ?_
                                                rotate_left
                                                · show Act.put _ (some 73) _ = _
                                                  simp only [Act.put, List.setIfInBounds_toArray, List.set_cons_zero, List.set_cons_succ, i64_w, i32_w]
                                                  rfl
                                                exact norm_ (by first | (simp only [putAll, Act.put, List.setIfInBounds_toArray, List.set_cons_zero, List.set_cons_succ]; done)) (hJ5_11 (v435) _ ⟨hHeld, HO430.out, HO436.out, BK426.out, HB.out⟩)
                                          · skip
                                            rintro _ w45 ⟨hS_, h0_, h1_, h2_⟩
                                            have n0_ : Aside0 (Kd.R (Kd.int .u8) 5 w45 w.heap.size (fun _ => True) v429 y428) := ⟨h0_⟩
                                            have n1_ : Aside0 (w45.heap[gb426]? = some (.cells #[.bool ((rd_T31 l0 x5_1).f0), .int .i64 ((rd_T31 l0 x5_1).f1.f0), .int .u64 ((rd_T31 l0 x5_1).f1.f1.f0.f0), .int .u64 ((rd_T31 l0 x5_1).f1.f1.f0.f1), .int .i64 ((rd_T31 l0 x5_1).f1.f1.f1), .int .i64 ((rd_T31 l0 x5_1).f1.f2), .string ((rd_T31 l0 x5_1).f1.f3), .int .u32 ((rd_T31 l0 x5_1).f1.f4), .int .i64 ((rd_T31 l0 x5_1).f1.f5)] 31 (0, 0))) := ⟨h1_⟩
                                            have n2_ : Aside0 (Below w.heap.size w w45) := ⟨h2_⟩
                                            clear HO430
                                            clear BK426
                                            clear HB
                                            clear h0_ h1_ h2_
                                            have HO430 := n0_
                                            have BK426 := n1_
                                            have HB := n2_
                                            clear n0_ n1_ n2_
                                            have hHeld : w45.cell? ⟨gb426, 0, none⟩ = some (.bool ((rd_T31 l0 x5_1).f0)) ∧ w45.cell? ⟨gb426, 1, none⟩ = some (.int .i64 ((rd_T31 l0 x5_1).f1.f0)) ∧ w45.cell? ⟨gb426, 2, none⟩ = some (.int .u64 ((rd_T31 l0 x5_1).f1.f1.f0.f0)) ∧ w45.cell? ⟨gb426, 3, none⟩ = some (.int .u64 ((rd_T31 l0 x5_1).f1.f1.f0.f1)) ∧ w45.cell? ⟨gb426, 4, none⟩ = some (.int .i64 ((rd_T31 l0 x5_1).f1.f1.f1)) ∧ w45.cell? ⟨gb426, 5, none⟩ = some (.int .i64 ((rd_T31 l0 x5_1).f1.f2)) ∧ w45.cell? ⟨gb426, 6, none⟩ = some (.string ((rd_T31 l0 x5_1).f1.f3)) ∧ w45.cell? ⟨gb426, 7, none⟩ = some (.int .u32 ((rd_T31 l0 x5_1).f1.f4)) ∧ w45.cell? ⟨gb426, 8, none⟩ = some (.int .i64 ((rd_T31 l0 x5_1).f1.f5)) := hS_
                                            refine norm_ (a' := ?_) ?_ ?_
                                            rotate_left
                                            · simp only [putAll, Act.put, List.setIfInBounds_toArray, List.set_cons_zero, List.set_cons_succ]
                                              rfl
                                            refine one_ (i := 5) (N := some 67) #[true, true, true, true, true, true, false, false, true, true, true, true, false, true, true, true, true, true, false, true, false, false] rfl rfl (one_of HT_.out (by kernel_rfl)) (by decide) (fun K hK => ?_)
                                            refine Kd.R_lit_step (Kd.int .u8) _ 5 ?hg (N := 67) ?hd (xs := ([(((rd_T31 l0 x5_1).f1.f2)) % 256] : List Int)) (inner := [.int .u8 ((((rd_T31 l0 x5_1).f1.f2)) % 256)]) (ok := fun _ => True) (okp := fun _ => True) ?hr ?hp (fun _ hk => hk) trivial (Below.refl _ _) (Nat.le_refl _) (by simp) ?_; (case hd => rfl); (case hg => rfl); (case hr => first | (go_simp; rfl)); (case hp => exact (Reps.one (show Kd.M (Kd.int .u8) _ _ _ ((((rd_T31 l0 x5_1).f1.f2)) % 256) [.int .u8 ((((rd_T31 l0 x5_1).f1.f2)) % 256)] from rfl) (Reps.none _ _)))
                                            intro v435 w46 ho47 hb hg_ hnew_
                                            clear hg_ hnew_
                                            (first | rw [← Ny434.out] at ho47)
                                            have n0_ := Aside0.mk (Kd.R_elder' HO430.out (Kd.R_base ho47) hb)
                                            have n1_ := Aside0.mk (Kd.R_lower (Kd.R_new' ho47 (Kd.R_lt HO430.out)) (below_size HB.out))
                                            have n2_ := Aside0.mk (blk_below (g := gb426) (o := .cells #[.bool ((rd_T31 l0 x5_1).f0), .int .i64 ((rd_T31 l0 x5_1).f1.f0), .int .u64 ((rd_T31 l0 x5_1).f1.f1.f0.f0), .int .u64 ((rd_T31 l0 x5_1).f1.f1.f0.f1), .int .i64 ((rd_T31 l0 x5_1).f1.f1.f1), .int .i64 ((rd_T31 l0 x5_1).f1.f2), .string ((rd_T31 l0 x5_1).f1.f3), .int .u32 ((rd_T31 l0 x5_1).f1.f4), .int .i64 ((rd_T31 l0 x5_1).f1.f5)] 31 (0, 0)) BK426.out hb)
                                            have n3_ := Aside0.mk (below_step HB.out hb)
                                            clear HO430
                                            clear BK426
                                            clear HB
                                            have HO430 := n0_
                                            have HO436 := n1_
                                            have BK426 := n2_
                                            have HB := n3_
                                            clear n0_ n1_ n2_ n3_
                                            clear hb ho47
                                            refine hK.out _ _ ⟨(blk_cell BK426.out 0).trans rfl, (blk_cell BK426.out 1).trans rfl, (blk_cell BK426.out 2).trans rfl, (blk_cell BK426.out 3).trans rfl, (blk_cell BK426.out 4).trans rfl, (blk_cell BK426.out 5).trans rfl, (blk_cell BK426.out 6).trans rfl, (blk_cell BK426.out 7).trans rfl, (blk_cell BK426.out 8).trans rfl⟩ (fun hHeld => ?_)
                                            clear hK K
                                            refine norm_ (a' := ?_) ?_ ?_
                                            rotate_left
                                            · show Act.put _ (some 67) _ = _
                                              simp only [Act.put, List.setIfInBounds_toArray, List.set_cons_zero, List.set_cons_succ, i64_w, i32_w]
                                              rfl
                                            exact norm_ (by first | (simp only [putAll, Act.put, List.setIfInBounds_toArray, List.set_cons_zero, List.set_cons_succ]; done)) (hJ5_11_17 (v435) _ ⟨hHeld, (by exact Kd.R_mono HO430.out (fun _ hk => hk.2)), (by exact Kd.R_mono HO436.out (fun _ hk => hk.2)), BK426.out, HB.out⟩)
                                        · skip
                                          rintro v435 w46 ⟨hS_, h0_, h1_, h2_, h3_⟩
                                          have n0_ : Aside0 (Kd.R (Kd.int .u8) 5 w46 w.heap.size (fun k_ => some k_ ≠ (v435 : Value).ownBlock) v429 y428) := ⟨h0_⟩
                                          have n1_ : Aside0 (Kd.R (Kd.int .u8) 5 w46 w.heap.size (fun k_ => some k_ ≠ (v429 : Value).ownBlock) v435 y434) := ⟨h1_⟩
                                          have n2_ : Aside0 (w46.heap[gb426]? = some (.cells #[.bool ((rd_T31 l0 x5_1).f0), .int .i64 ((rd_T31 l0 x5_1).f1.f0), .int .u64 ((rd_T31 l0 x5_1).f1.f1.f0.f0), .int .u64 ((rd_T31 l0 x5_1).f1.f1.f0.f1), .int .i64 ((rd_T31 l0 x5_1).f1.f1.f1), .int .i64 ((rd_T31 l0 x5_1).f1.f2), .string ((rd_T31 l0 x5_1).f1.f3), .int .u32 ((rd_T31 l0 x5_1).f1.f4), .int .i64 ((rd_T31 l0 x5_1).f1.f5)] 31 (0, 0))) := ⟨h2_⟩
                                          have n3_ : Aside0 (Below w.heap.size w w46) := ⟨h3_⟩
                                          clear HO430
                                          clear BK426
                                          clear HB
                                          clear h0_ h1_ h2_ h3_
                                          have HO430 := n0_
                                          have HO436 := n1_
                                          have BK426 := n2_
                                          have HB := n3_
                                          clear n0_ n1_ n2_ n3_
                                          have hHeld : w46.cell? ⟨gb426, 0, none⟩ = some (.bool ((rd_T31 l0 x5_1).f0)) ∧ w46.cell? ⟨gb426, 1, none⟩ = some (.int .i64 ((rd_T31 l0 x5_1).f1.f0)) ∧ w46.cell? ⟨gb426, 2, none⟩ = some (.int .u64 ((rd_T31 l0 x5_1).f1.f1.f0.f0)) ∧ w46.cell? ⟨gb426, 3, none⟩ = some (.int .u64 ((rd_T31 l0 x5_1).f1.f1.f0.f1)) ∧ w46.cell? ⟨gb426, 4, none⟩ = some (.int .i64 ((rd_T31 l0 x5_1).f1.f1.f1)) ∧ w46.cell? ⟨gb426, 5, none⟩ = some (.int .i64 ((rd_T31 l0 x5_1).f1.f2)) ∧ w46.cell? ⟨gb426, 6, none⟩ = some (.string ((rd_T31 l0 x5_1).f1.f3)) ∧ w46.cell? ⟨gb426, 7, none⟩ = some (.int .u32 ((rd_T31 l0 x5_1).f1.f4)) ∧ w46.cell? ⟨gb426, 8, none⟩ = some (.int .i64 ((rd_T31 l0 x5_1).f1.f5)) := hS_
                                          refine norm_ (a' := ?_) ?_ ?_
                                          rotate_left
                                          · simp only [putAll, Act.put, List.setIfInBounds_toArray, List.set_cons_zero, List.set_cons_succ]
                                            rfl
                                          refine two_ (i := 6) (j := 17) (Ni := some 68) (Nj := some 79) #[true, true, true, true, true, true, true, false, true, true, true, true, false, true, true, true, true, false, false, true, false, false] #[true, true, true, true, true, true, false, false, true, true, true, true, false, true, true, true, true, true, false, true, false, false] rfl rfl rfl rfl (two_of HT_.out (by kernel_rfl)) (by decide) (by decide) (fun K hK => ?_) (fun K hK => ?_)
                                          · skip
                                            have hcv47 := own_string (P := Try.prog) Try.underlying60 Try.underlying5 Try.underlying9 (Kd.own_of_R HO436.out)
                                            refine value_ (w1 := ?_) (v := ?_) (by rfl) rfl ?_ ?_
                                            rotate_left 2
                                            · go_simp
                                              constructor
                                              · rfl
                                              · rfl
                                            clear hcv47
                                            refine hK.out _ _ ⟨(blk_cell BK426.out 0).trans rfl, (blk_cell BK426.out 1).trans rfl, (blk_cell BK426.out 2).trans rfl, (blk_cell BK426.out 3).trans rfl, (blk_cell BK426.out 4).trans rfl, (blk_cell BK426.out 5).trans rfl, (blk_cell BK426.out 6).trans rfl, (blk_cell BK426.out 7).trans rfl, (blk_cell BK426.out 8).trans rfl⟩ (fun hHeld => ?_)
                                            clear hK K
                                            refine norm_ (a' := ?_) ?_ ?_
                                            rotate_left
                                            · show Act.put _ (some 68) _ = _
                                              simp only [Act.put, List.setIfInBounds_toArray, List.set_cons_zero, List.set_cons_succ, i64_w, i32_w]
                                              rfl
                                            refine pure_ (i := 7) (N := some 69) (v := ?_) (a' := ?_) #[true, true, true, true, true, true, true, true, true, true, true, true, false, true, true, true, true, false, false, true, false, false] rfl rfl (any_of HT_.out (by kernel_rfl)) (fun _ _ _ h => h) (Or.inl ⟨by rfl, ?_⟩) ?_ ?_
                                            rotate_left
                                            · intro w'
                                              go_simp
                                              with_reducible rfl
                                            rotate_left
                                            · simp only [Act.put, List.setIfInBounds_toArray, List.set_cons_zero, List.set_cons_succ, i64_w, i32_w]
                                              rfl
                                            refine pure_ (i := 12) (N := some 74) (v := ?_) (a' := ?_) #[true, true, true, true, true, true, true, true, true, true, true, true, true, true, true, true, true, false, false, true, false, false] rfl rfl (any_of HT_.out (by kernel_rfl)) (fun _ _ _ h => h) (Or.inl ⟨by rfl, ?_⟩) ?_ ?_
                                            rotate_left
                                            · intro w'
                                              go_simp
                                              with_reducible rfl
                                            rotate_left
                                            · simp only [Act.put, List.setIfInBounds_toArray, List.set_cons_zero, List.set_cons_succ, i64_w, i32_w]
                                              rfl
                                            exact norm_ (by first | (simp only [putAll, Act.put, List.setIfInBounds_toArray, List.set_cons_zero, List.set_cons_succ]; done)) (hJ5_6_11 (v435) _ ⟨hHeld, HO430.out, HO436.out, BK426.out, HB.out⟩)
                                          · skip
                                            refine goes_ Try.func44 (by kernel_rfl) rfl #[.int .u64 (IntKind.u64.wrap (((rd_T31 l0 x5_1).f1.f5)))] (by rfl) rfl rfl (by (try simp only [List.map_toArray, List.map_cons, List.map_nil]); first | rfl) ?_
                                            with_reducible refine (tenancyref04_Put64.calls kj8 (IntKind.u64.wrap (((rd_T31 l0 x5_1).f1.f5))) t438 _ A31.out).mono ?_
                                            rintro e w47 ⟨rfl, hb⟩
                                            refine ⟨_, rfl, ?_⟩
                                            have n0_ := Aside0.mk (Kd.R_below HO430.out hb)
                                            have n1_ := Aside0.mk (Kd.R_below HO436.out hb)
                                            have n2_ := Aside0.mk (blk_below (g := gb426) (o := .cells #[.bool ((rd_T31 l0 x5_1).f0), .int .i64 ((rd_T31 l0 x5_1).f1.f0), .int .u64 ((rd_T31 l0 x5_1).f1.f1.f0.f0), .int .u64 ((rd_T31 l0 x5_1).f1.f1.f0.f1), .int .i64 ((rd_T31 l0 x5_1).f1.f1.f1), .int .i64 ((rd_T31 l0 x5_1).f1.f2), .string ((rd_T31 l0 x5_1).f1.f3), .int .u32 ((rd_T31 l0 x5_1).f1.f4), .int .i64 ((rd_T31 l0 x5_1).f1.f5)] 31 (0, 0)) BK426.out hb)
                                            have n3_ := Aside0.mk (below_step HB.out hb)
                                            clear HO430
                                            clear HO436
                                            clear BK426
                                            clear HB
                                            have HO430 := n0_
                                            have HO436 := n1_
                                            have BK426 := n2_
                                            have HB := n3_
                                            clear n0_ n1_ n2_ n3_
                                            (try clear hb)
                                            (try clear hb2)
                                            (try clear hk)
                                            (try clear hi)
                                            refine hK.out _ _ ⟨(blk_cell BK426.out 0).trans rfl, (blk_cell BK426.out 1).trans rfl, (blk_cell BK426.out 2).trans rfl, (blk_cell BK426.out 3).trans rfl, (blk_cell BK426.out 4).trans rfl, (blk_cell BK426.out 5).trans rfl, (blk_cell BK426.out 6).trans rfl, (blk_cell BK426.out 7).trans rfl, (blk_cell BK426.out 8).trans rfl⟩ (fun hHeld => ?_)
                                            clear hK K
                                            refine norm_ (a' := ?_) ?_ ?_
                                            rotate_left
                                            · show Act.put _ (some 79) _ = _
                                              simp only [Act.put, List.setIfInBounds_toArray, List.set_cons_zero, List.set_cons_succ, i64_w, i32_w]
                                              rfl
                                            exact norm_ (by first | (simp only [putAll, Act.put, List.setIfInBounds_toArray, List.set_cons_zero, List.set_cons_succ]; done)) (hJ5_11_17 (v435) _ ⟨hHeld, HO430.out, HO436.out, BK426.out, HB.out⟩)
                                      · skip
                                        rintro v435 w46 ⟨hS_, h0_, h1_, h2_, h3_⟩
                                        have n0_ : Aside0 (Kd.R (Kd.int .u8) 5 w46 w.heap.size (fun k_ => some k_ ≠ (v435 : Value).ownBlock) v429 y428) := ⟨h0_⟩
                                        have n1_ : Aside0 (Kd.R (Kd.int .u8) 5 w46 w.heap.size (fun k_ => some k_ ≠ (v429 : Value).ownBlock) v435 y434) := ⟨h1_⟩
                                        have n2_ : Aside0 (w46.heap[gb426]? = some (.cells #[.bool ((rd_T31 l0 x5_1).f0), .int .i64 ((rd_T31 l0 x5_1).f1.f0), .int .u64 ((rd_T31 l0 x5_1).f1.f1.f0.f0), .int .u64 ((rd_T31 l0 x5_1).f1.f1.f0.f1), .int .i64 ((rd_T31 l0 x5_1).f1.f1.f1), .int .i64 ((rd_T31 l0 x5_1).f1.f2), .string ((rd_T31 l0 x5_1).f1.f3), .int .u32 ((rd_T31 l0 x5_1).f1.f4), .int .i64 ((rd_T31 l0 x5_1).f1.f5)] 31 (0, 0))) := ⟨h2_⟩
                                        have n3_ : Aside0 (Below w.heap.size w w46) := ⟨h3_⟩
                                        clear HO430
                                        clear BK426
                                        clear HB
                                        clear h0_ h1_ h2_ h3_
                                        have HO430 := n0_
                                        have HO436 := n1_
                                        have BK426 := n2_
                                        have HB := n3_
                                        clear n0_ n1_ n2_ n3_
                                        have hHeld : w46.cell? ⟨gb426, 0, none⟩ = some (.bool ((rd_T31 l0 x5_1).f0)) ∧ w46.cell? ⟨gb426, 1, none⟩ = some (.int .i64 ((rd_T31 l0 x5_1).f1.f0)) ∧ w46.cell? ⟨gb426, 2, none⟩ = some (.int .u64 ((rd_T31 l0 x5_1).f1.f1.f0.f0)) ∧ w46.cell? ⟨gb426, 3, none⟩ = some (.int .u64 ((rd_T31 l0 x5_1).f1.f1.f0.f1)) ∧ w46.cell? ⟨gb426, 4, none⟩ = some (.int .i64 ((rd_T31 l0 x5_1).f1.f1.f1)) ∧ w46.cell? ⟨gb426, 5, none⟩ = some (.int .i64 ((rd_T31 l0 x5_1).f1.f2)) ∧ w46.cell? ⟨gb426, 6, none⟩ = some (.string ((rd_T31 l0 x5_1).f1.f3)) ∧ w46.cell? ⟨gb426, 7, none⟩ = some (.int .u32 ((rd_T31 l0 x5_1).f1.f4)) ∧ w46.cell? ⟨gb426, 8, none⟩ = some (.int .i64 ((rd_T31 l0 x5_1).f1.f5)) := hS_
                                        refine norm_ (a' := ?_) ?_ ?_
                                        rotate_left
                                        · simp only [putAll, Act.put, List.setIfInBounds_toArray, List.set_cons_zero, List.set_cons_succ]
                                          rfl
                                        refine one_ (i := 11) (N := some 73) #[true, true, true, true, true, true, true, true, true, true, true, true, false, true, true, true, true, false, false, true, false, false] rfl rfl (one_of HT_.out (by kernel_rfl)) (by decide) (fun K hK => ?_)
                                        refine goes_ Try.func43 (by kernel_rfl) rfl #[.int .u32 ((rd_T31 l0 x5_1).f1.f4)] (by rfl) rfl rfl (by (try simp only [List.map_toArray, List.map_cons, List.map_nil]); first | rfl) ?_
                                        with_reducible refine (tenancyref04_Put32.calls kj8 ((rd_T31 l0 x5_1).f1.f4) t437 _ A29.out).mono ?_
                                        rintro e w47 ⟨rfl, hb⟩
                                        refine ⟨_, rfl, ?_⟩
                                        have n0_ := Aside0.mk (Kd.R_below HO430.out hb)
                                        have n1_ := Aside0.mk (Kd.R_below HO436.out hb)
                                        have n2_ := Aside0.mk (blk_below (g := gb426) (o := .cells #[.bool ((rd_T31 l0 x5_1).f0), .int .i64 ((rd_T31 l0 x5_1).f1.f0), .int .u64 ((rd_T31 l0 x5_1).f1.f1.f0.f0), .int .u64 ((rd_T31 l0 x5_1).f1.f1.f0.f1), .int .i64 ((rd_T31 l0 x5_1).f1.f1.f1), .int .i64 ((rd_T31 l0 x5_1).f1.f2), .string ((rd_T31 l0 x5_1).f1.f3), .int .u32 ((rd_T31 l0 x5_1).f1.f4), .int .i64 ((rd_T31 l0 x5_1).f1.f5)] 31 (0, 0)) BK426.out hb)
                                        have n3_ := Aside0.mk (below_step HB.out hb)
                                        clear HO430
                                        clear HO436
                                        clear BK426
                                        clear HB
                                        have HO430 := n0_
                                        have HO436 := n1_
                                        have BK426 := n2_
                                        have HB := n3_
                                        clear n0_ n1_ n2_ n3_
                                        (try clear hb)
                                        (try clear hb2)
                                        (try clear hk)
                                        (try clear hi)
                                        refine hK.out _ _ ⟨(blk_cell BK426.out 0).trans rfl, (blk_cell BK426.out 1).trans rfl, (blk_cell BK426.out 2).trans rfl, (blk_cell BK426.out 3).trans rfl, (blk_cell BK426.out 4).trans rfl, (blk_cell BK426.out 5).trans rfl, (blk_cell BK426.out 6).trans rfl, (blk_cell BK426.out 7).trans rfl, (blk_cell BK426.out 8).trans rfl⟩ (fun hHeld => ?_)
                                        clear hK K
                                        refine norm_ (a' := ?_) ?_ ?_
                                        rotate_left
                                        · show Act.put _ (some 73) _ = _
                                          simp only [Act.put, List.setIfInBounds_toArray, List.set_cons_zero, List.set_cons_succ, i64_w, i32_w]
                                          rfl
                                        refine pure_ (i := 12) (N := some 74) (v := ?_) (a' := ?_) #[true, true, true, true, true, true, true, true, true, true, true, true, true, true, true, true, true, false, false, true, false, false] rfl rfl (any_of HT_.out (by kernel_rfl)) (fun _ _ _ h => h) (Or.inl ⟨by rfl, ?_⟩) ?_ ?_
                                        rotate_left
                                        · intro w'
                                          go_simp
                                          with_reducible rfl
                                        rotate_left
                                        · simp only [Act.put, List.setIfInBounds_toArray, List.set_cons_zero, List.set_cons_succ, i64_w, i32_w]
                                          rfl
                                        exact norm_ (by first | (simp only [putAll, Act.put, List.setIfInBounds_toArray, List.set_cons_zero, List.set_cons_succ]; done)) (hJ5_6_11 (v435) _ ⟨hHeld, HO430.out, HO436.out, BK426.out, HB.out⟩)
                                    · skip
                                      rintro v435 w47 ⟨hS_, h0_, h1_, h2_, h3_⟩
                                      have n0_ : Aside0 (Kd.R (Kd.int .u8) 5 w47 w.heap.size (fun k_ => some k_ ≠ (v435 : Value).ownBlock) v429 y428) := ⟨h0_⟩
                                      have n1_ : Aside0 (Kd.R (Kd.int .u8) 5 w47 w.heap.size (fun k_ => some k_ ≠ (v429 : Value).ownBlock) v435 y434) := ⟨h1_⟩
                                      have n2_ : Aside0 (w47.heap[gb426]? = some (.cells #[.bool ((rd_T31 l0 x5_1).f0), .int .i64 ((rd_T31 l0 x5_1).f1.f0), .int .u64 ((rd_T31 l0 x5_1).f1.f1.f0.f0), .int .u64 ((rd_T31 l0 x5_1).f1.f1.f0.f1), .int .i64 ((rd_T31 l0 x5_1).f1.f1.f1), .int .i64 ((rd_T31 l0 x5_1).f1.f2), .string ((rd_T31 l0 x5_1).f1.f3), .int .u32 ((rd_T31 l0 x5_1).f1.f4), .int .i64 ((rd_T31 l0 x5_1).f1.f5)] 31 (0, 0))) := ⟨h2_⟩
                                      have n3_ : Aside0 (Below w.heap.size w w47) := ⟨h3_⟩
                                      clear HO430
                                      clear BK426
                                      clear HB
                                      clear h0_ h1_ h2_ h3_
                                      have HO430 := n0_
                                      have HO436 := n1_
                                      have BK426 := n2_
                                      have HB := n3_
                                      clear n0_ n1_ n2_ n3_
                                      have hHeld : w47.cell? ⟨gb426, 0, none⟩ = some (.bool ((rd_T31 l0 x5_1).f0)) ∧ w47.cell? ⟨gb426, 1, none⟩ = some (.int .i64 ((rd_T31 l0 x5_1).f1.f0)) ∧ w47.cell? ⟨gb426, 2, none⟩ = some (.int .u64 ((rd_T31 l0 x5_1).f1.f1.f0.f0)) ∧ w47.cell? ⟨gb426, 3, none⟩ = some (.int .u64 ((rd_T31 l0 x5_1).f1.f1.f0.f1)) ∧ w47.cell? ⟨gb426, 4, none⟩ = some (.int .i64 ((rd_T31 l0 x5_1).f1.f1.f1)) ∧ w47.cell? ⟨gb426, 5, none⟩ = some (.int .i64 ((rd_T31 l0 x5_1).f1.f2)) ∧ w47.cell? ⟨gb426, 6, none⟩ = some (.string ((rd_T31 l0 x5_1).f1.f3)) ∧ w47.cell? ⟨gb426, 7, none⟩ = some (.int .u32 ((rd_T31 l0 x5_1).f1.f4)) ∧ w47.cell? ⟨gb426, 8, none⟩ = some (.int .i64 ((rd_T31 l0 x5_1).f1.f5)) := hS_
                                      refine norm_ (a' := ?_) ?_ ?_
                                      rotate_left
                                      · simp only [putAll, Act.put, List.setIfInBounds_toArray, List.set_cons_zero, List.set_cons_succ]
                                        rfl
                                      refine one_ (i := 6) (N := some 68) #[true, true, true, true, true, true, true, false, true, true, true, true, false, true, true, true, true, true, false, true, false, false] rfl rfl (one_of HT_.out (by kernel_rfl)) (by decide) (fun K hK => ?_)
                                      have hcv48 := own_string (P := Try.prog) Try.underlying60 Try.underlying5 Try.underlying9 (Kd.own_of_R HO436.out)
                                      refine value_ (w1 := ?_) (v := ?_) (by rfl) rfl ?_ ?_
                                      rotate_left 2
                                      · go_simp
                                        constructor
                                        · rfl
                                        · rfl
                                      clear hcv48
                                      refine hK.out _ _ ⟨(blk_cell BK426.out 0).trans rfl, (blk_cell BK426.out 1).trans rfl, (blk_cell BK426.out 2).trans rfl, (blk_cell BK426.out 3).trans rfl, (blk_cell BK426.out 4).trans rfl, (blk_cell BK426.out 5).trans rfl, (blk_cell BK426.out 6).trans rfl, (blk_cell BK426.out 7).trans rfl, (blk_cell BK426.out 8).trans rfl⟩ (fun hHeld => ?_)
                                      clear hK K
                                      refine norm_ (a' := ?_) ?_ ?_
                                      rotate_left
                                      · show Act.put _ (some 68) _ = _
                                        simp only [Act.put, List.setIfInBounds_toArray, List.set_cons_zero, List.set_cons_succ, i64_w, i32_w]
                                        rfl
                                      refine pure_ (i := 7) (N := some 69) (v := ?_) (a' := ?_) #[true, true, true, true, true, true, true, true, true, true, true, true, false, true, true, true, true, true, false, true, false, false] rfl rfl (any_of HT_.out (by kernel_rfl)) (fun _ _ _ h => h) (Or.inl ⟨by rfl, ?_⟩) ?_ ?_
                                      rotate_left
                                      · intro w'
                                        go_simp
                                        with_reducible rfl
                                      rotate_left
                                      · simp only [Act.put, List.setIfInBounds_toArray, List.set_cons_zero, List.set_cons_succ, i64_w, i32_w]
                                        rfl
                                      refine pure_ (i := 12) (N := some 74) (v := ?_) (a' := ?_) #[true, true, true, true, true, true, true, true, true, true, true, true, true, true, true, true, true, true, false, true, false, false] rfl rfl (any_of HT_.out (by kernel_rfl)) (fun _ _ _ h => h) (Or.inl ⟨by rfl, ?_⟩) ?_ ?_
                                      rotate_left
                                      · intro w'
                                        go_simp
                                        with_reducible rfl
                                      rotate_left
                                      · simp only [Act.put, List.setIfInBounds_toArray, List.set_cons_zero, List.set_cons_succ, i64_w, i32_w]
                                        rfl
                                      exact norm_ (by first | (simp only [putAll, Act.put, List.setIfInBounds_toArray, List.set_cons_zero, List.set_cons_succ]; done)) (hJ5_6_11_17 (v435) _ ⟨hHeld, HO430.out, HO436.out, BK426.out, HB.out⟩)
                                  · skip
                                    rintro v435 w47 ⟨hS_, h0_, h1_, h2_, h3_⟩
                                    have n0_ : Aside0 (Kd.R (Kd.int .u8) 5 w47 w.heap.size (fun k_ => some k_ ≠ (v435 : Value).ownBlock) v429 y428) := ⟨h0_⟩
                                    have n1_ : Aside0 (Kd.R (Kd.int .u8) 5 w47 w.heap.size (fun k_ => some k_ ≠ (v429 : Value).ownBlock) v435 y434) := ⟨h1_⟩
                                    have n2_ : Aside0 (w47.heap[gb426]? = some (.cells #[.bool ((rd_T31 l0 x5_1).f0), .int .i64 ((rd_T31 l0 x5_1).f1.f0), .int .u64 ((rd_T31 l0 x5_1).f1.f1.f0.f0), .int .u64 ((rd_T31 l0 x5_1).f1.f1.f0.f1), .int .i64 ((rd_T31 l0 x5_1).f1.f1.f1), .int .i64 ((rd_T31 l0 x5_1).f1.f2), .string ((rd_T31 l0 x5_1).f1.f3), .int .u32 ((rd_T31 l0 x5_1).f1.f4), .int .i64 ((rd_T31 l0 x5_1).f1.f5)] 31 (0, 0))) := ⟨h2_⟩
                                    have n3_ : Aside0 (Below w.heap.size w w47) := ⟨h3_⟩
                                    clear HO430
                                    clear BK426
                                    clear HB
                                    clear h0_ h1_ h2_ h3_
                                    have HO430 := n0_
                                    have HO436 := n1_
                                    have BK426 := n2_
                                    have HB := n3_
                                    clear n0_ n1_ n2_ n3_
                                    have hHeld : w47.cell? ⟨gb426, 0, none⟩ = some (.bool ((rd_T31 l0 x5_1).f0)) ∧ w47.cell? ⟨gb426, 1, none⟩ = some (.int .i64 ((rd_T31 l0 x5_1).f1.f0)) ∧ w47.cell? ⟨gb426, 2, none⟩ = some (.int .u64 ((rd_T31 l0 x5_1).f1.f1.f0.f0)) ∧ w47.cell? ⟨gb426, 3, none⟩ = some (.int .u64 ((rd_T31 l0 x5_1).f1.f1.f0.f1)) ∧ w47.cell? ⟨gb426, 4, none⟩ = some (.int .i64 ((rd_T31 l0 x5_1).f1.f1.f1)) ∧ w47.cell? ⟨gb426, 5, none⟩ = some (.int .i64 ((rd_T31 l0 x5_1).f1.f2)) ∧ w47.cell? ⟨gb426, 6, none⟩ = some (.string ((rd_T31 l0 x5_1).f1.f3)) ∧ w47.cell? ⟨gb426, 7, none⟩ = some (.int .u32 ((rd_T31 l0 x5_1).f1.f4)) ∧ w47.cell? ⟨gb426, 8, none⟩ = some (.int .i64 ((rd_T31 l0 x5_1).f1.f5)) := hS_
                                    refine norm_ (a' := ?_) ?_ ?_
                                    rotate_left
                                    · simp only [putAll, Act.put, List.setIfInBounds_toArray, List.set_cons_zero, List.set_cons_succ]
                                      rfl
                                    refine one_ (i := 17) (N := some 79) #[true, true, true, true, true, true, true, true, true, true, true, true, true, true, true, true, true, true, false, true, false, false] rfl rfl (one_of HT_.out (by kernel_rfl)) (by decide) (fun K hK => ?_)
                                    refine goes_ Try.func44 (by kernel_rfl) rfl #[.int .u64 (IntKind.u64.wrap (((rd_T31 l0 x5_1).f1.f5)))] (by rfl) rfl rfl (by (try simp only [List.map_toArray, List.map_cons, List.map_nil]); first | rfl) ?_
                                    with_reducible refine (tenancyref04_Put64.calls kj8 (IntKind.u64.wrap (((rd_T31 l0 x5_1).f1.f5))) t438 _ A31.out).mono ?_
                                    rintro e w48 ⟨rfl, hb⟩
                                    refine ⟨_, rfl, ?_⟩
                                    have n0_ := Aside0.mk (Kd.R_below HO430.out hb)
                                    have n1_ := Aside0.mk (Kd.R_below HO436.out hb)
                                    have n2_ := Aside0.mk (blk_below (g := gb426) (o := .cells #[.bool ((rd_T31 l0 x5_1).f0), .int .i64 ((rd_T31 l0 x5_1).f1.f0), .int .u64 ((rd_T31 l0 x5_1).f1.f1.f0.f0), .int .u64 ((rd_T31 l0 x5_1).f1.f1.f0.f1), .int .i64 ((rd_T31 l0 x5_1).f1.f1.f1), .int .i64 ((rd_T31 l0 x5_1).f1.f2), .string ((rd_T31 l0 x5_1).f1.f3), .int .u32 ((rd_T31 l0 x5_1).f1.f4), .int .i64 ((rd_T31 l0 x5_1).f1.f5)] 31 (0, 0)) BK426.out hb)
                                    have n3_ := Aside0.mk (below_step HB.out hb)
                                    clear HO430
                                    clear HO436
                                    clear BK426
                                    clear HB
                                    have HO430 := n0_
                                    have HO436 := n1_
                                    have BK426 := n2_
                                    have HB := n3_
                                    clear n0_ n1_ n2_ n3_
                                    (try clear hb)
                                    (try clear hb2)
                                    (try clear hk)
                                    (try clear hi)
                                    refine hK.out _ _ ⟨(blk_cell BK426.out 0).trans rfl, (blk_cell BK426.out 1).trans rfl, (blk_cell BK426.out 2).trans rfl, (blk_cell BK426.out 3).trans rfl, (blk_cell BK426.out 4).trans rfl, (blk_cell BK426.out 5).trans rfl, (blk_cell BK426.out 6).trans rfl, (blk_cell BK426.out 7).trans rfl, (blk_cell BK426.out 8).trans rfl⟩ (fun hHeld => ?_)
                                    clear hK K
                                    refine norm_ (a' := ?_) ?_ ?_
                                    rotate_left
                                    · show Act.put _ (some 79) _ = _
                                      simp only [Act.put, List.setIfInBounds_toArray, List.set_cons_zero, List.set_cons_succ, i64_w, i32_w]
                                      rfl
                                    exact norm_ (by first | (simp only [putAll, Act.put, List.setIfInBounds_toArray, List.set_cons_zero, List.set_cons_succ]; done)) (hJ5_6_11_17 (v435) _ ⟨hHeld, HO430.out, HO436.out, BK426.out, HB.out⟩)
                                rintro v435 w48 ⟨hS_, h0_, h1_, h2_, h3_⟩
                                have n0_ : Aside0 (Kd.R (Kd.int .u8) 5 w48 w.heap.size (fun k_ => some k_ ≠ (v435 : Value).ownBlock) v429 y428) := ⟨h0_⟩
                                have n1_ : Aside0 (Kd.R (Kd.int .u8) 5 w48 w.heap.size (fun k_ => some k_ ≠ (v429 : Value).ownBlock) v435 y434) := ⟨h1_⟩
                                have n2_ : Aside0 (w48.heap[gb426]? = some (.cells #[.bool ((rd_T31 l0 x5_1).f0), .int .i64 ((rd_T31 l0 x5_1).f1.f0), .int .u64 ((rd_T31 l0 x5_1).f1.f1.f0.f0), .int .u64 ((rd_T31 l0 x5_1).f1.f1.f0.f1), .int .i64 ((rd_T31 l0 x5_1).f1.f1.f1), .int .i64 ((rd_T31 l0 x5_1).f1.f2), .string ((rd_T31 l0 x5_1).f1.f3), .int .u32 ((rd_T31 l0 x5_1).f1.f4), .int .i64 ((rd_T31 l0 x5_1).f1.f5)] 31 (0, 0))) := ⟨h2_⟩
                                have n3_ : Aside0 (Below w.heap.size w w48) := ⟨h3_⟩
                                clear HO430
                                clear BK426
                                clear HB
                                clear h0_ h1_ h2_ h3_
                                have HO430 := n0_
                                have HO436 := n1_
                                have BK426 := n2_
                                have HB := n3_
                                clear n0_ n1_ n2_ n3_
                                have hHeld : w48.cell? ⟨gb426, 0, none⟩ = some (.bool ((rd_T31 l0 x5_1).f0)) ∧ w48.cell? ⟨gb426, 1, none⟩ = some (.int .i64 ((rd_T31 l0 x5_1).f1.f0)) ∧ w48.cell? ⟨gb426, 2, none⟩ = some (.int .u64 ((rd_T31 l0 x5_1).f1.f1.f0.f0)) ∧ w48.cell? ⟨gb426, 3, none⟩ = some (.int .u64 ((rd_T31 l0 x5_1).f1.f1.f0.f1)) ∧ w48.cell? ⟨gb426, 4, none⟩ = some (.int .i64 ((rd_T31 l0 x5_1).f1.f1.f1)) ∧ w48.cell? ⟨gb426, 5, none⟩ = some (.int .i64 ((rd_T31 l0 x5_1).f1.f2)) ∧ w48.cell? ⟨gb426, 6, none⟩ = some (.string ((rd_T31 l0 x5_1).f1.f3)) ∧ w48.cell? ⟨gb426, 7, none⟩ = some (.int .u32 ((rd_T31 l0 x5_1).f1.f4)) ∧ w48.cell? ⟨gb426, 8, none⟩ = some (.int .i64 ((rd_T31 l0 x5_1).f1.f5)) := hS_
                                refine norm_ (a' := ?_) ?_ ?_
                                rotate_left
                                · simp only [putAll, Act.put, List.setIfInBounds_toArray, List.set_cons_zero, List.set_cons_succ]
                                  rfl
                                refine pure_ (i := 18) (N := some 80) (v := ?_) (a' := ?_) #[true, true, true, true, true, true, true, true, true, true, true, true, true, true, true, true, true, true, true, true, false, false] rfl rfl (any_of HT_.out (by kernel_rfl)) (fun _ _ _ h => h) (Or.inl ⟨by rfl, ?_⟩) ?_ ?_
                                rotate_left
                                · intro w'
                                  go_simp
                                  with_reducible rfl
                                rotate_left
                                · simp only [Act.put, List.setIfInBounds_toArray, List.set_cons_zero, List.set_cons_succ, i64_w, i32_w]
                                  rfl
                                refine pure_ (i := 20) (N := some 82) (v := ?_) (a' := ?_) #[true, true, true, true, true, true, true, true, true, true, true, true, true, true, true, true, true, true, true, true, true, false] rfl rfl (any_of HT_.out (by kernel_rfl)) (fun _ _ _ h => h) (Or.inl ⟨by rfl, ?_⟩) ?_ ?_
                                rotate_left
                                · intro w'
                                  go_simp
                                  with_reducible rfl
                                rotate_left
                                · simp only [Act.put, List.setIfInBounds_toArray, List.set_cons_zero, List.set_cons_succ, i64_w, i32_w]
                                  rfl
                                refine pure_ (i := 21) (N := some 4) (v := ?_) (a' := ?_) #[true, true, true, true, true, true, true, true, true, true, true, true, true, true, true, true, true, true, true, true, true, true] rfl rfl (any_of HT_.out (by kernel_rfl)) (fun _ _ _ h => h) (Or.inl ⟨by rfl, ?_⟩) ?_ ?_
                                rotate_left
                                · intro w'
                                  go_simp
                                  with_reducible rfl
                                rotate_left
                                · simp only [Act.put, List.setIfInBounds_toArray, List.set_cons_zero, List.set_cons_succ, i64_w, i32_w]
                                  rfl
                                refine done_ (done_of HT_.out (by kernel_rfl)) ?_
                                try go_wp2
                                go_roundg kj8
                                case measure => have := HK1.out; have := HJ8.out; omega
                                case rel => exact ⟨((((((x4_1 ++ (strOfNums y428)) ++ t431) ++ (strOfNums y434)) ++ t437) ++ t438) ++ t432), (wrap64 (x5_1 + 1)), (by rfl), (by rfl), H', ⟨by have := HK1.out; have := HJ8.out; omega⟩, ⟨by exact HB.out⟩⟩
                              · rw [if_neg c33] at H
                                exact absurd H (by simp)
                            · rw [if_neg c32] at H
                              exact absurd H (by simp)
                          · rw [if_neg c30] at H
                            exact absurd H (by simp)
                        · rw [if_neg c28] at H
                          exact absurd H (by simp)
                    · rw [if_neg c18] at H
                      exact absurd H (by simp)
                  · rw [if_neg c16] at H
                    exact absurd H (by simp)
            · replace c8 := Bool.eq_false_iff.mpr c8
              subst c8
              have H1 : (some ((⟨#[]⟩ : ByteArray), 80)) = some (r1, r2) := by rw [if_neg (show ¬ (false = true) by decide)] at H; exact H
              clear H
              have H := H1
              clear H1
              simp only [Option.some.injEq, Prod.mk.injEq] at H
              obtain ⟨rfl, rfl⟩ := H
              have p425 : 0 ≤ (x5_1 : Int) := of_decide_eq_true (by first | (with_reducible assumption))
              have q425 : x5_1 < (l0.length : Int) := of_decide_eq_true (by first | (with_reducible assumption))
              obtain ⟨ad425, e425, hx425_0, hx425_1, hx425_2, hx425_3, hx425_4, hx425_5, hx425_6, hx425_7, hx425_8⟩ := at_T31 HR0.out x5_1 p425 q425
              cases e425
              replace hx425_0 := (HB.out.cell (World.block_lt_of_cell? w _ hx425_0)).trans hx425_0
              replace hx425_1 := (HB.out.cell (World.block_lt_of_cell? w _ hx425_1)).trans hx425_1
              replace hx425_2 := (HB.out.cell (World.block_lt_of_cell? w _ hx425_2)).trans hx425_2
              replace hx425_3 := (HB.out.cell (World.block_lt_of_cell? w _ hx425_3)).trans hx425_3
              replace hx425_4 := (HB.out.cell (World.block_lt_of_cell? w _ hx425_4)).trans hx425_4
              replace hx425_5 := (HB.out.cell (World.block_lt_of_cell? w _ hx425_5)).trans hx425_5
              replace hx425_6 := (HB.out.cell (World.block_lt_of_cell? w _ hx425_6)).trans hx425_6
              replace hx425_7 := (HB.out.cell (World.block_lt_of_cell? w _ hx425_7)).trans hx425_7
              replace hx425_8 := (HB.out.cell (World.block_lt_of_cell? w _ hx425_8)).trans hx425_8
              replace p425 := eq_true p425
              replace q425 := eq_true q425
              go_wp2_with (first | ((with_reducible refine gate_dst (N := 6) rfl ?_); refine box_event ?hg (N := 6) ?hd (cs := #[.bool false, .int .i64 0, .int .u64 0, .int .u64 0, .int .i64 0, .int .i64 0, .string (⟨#[]⟩ : ByteArray), .int .u32 0, .int .i64 0]) (t := 31) ?hr ?_; (case hd => rfl); (case hg => rfl); (case hr => go_simp; done); intro gb426 hg w49 hbox hb; have n0_ := Aside0.mk (below_step HB.out hb); have n1_ := Aside0.mk (hbox); have n2_ := Aside0.mk ((by rw [hg]; exact (below_size HB.out) : w.heap.size ≤ gb426)); have n3_ := Aside0.mk ((by rw [hg]; exact (below_size HB.out) : w.heap.size ≤ gb426)); clear HB; have HB := n0_; have BK426 := n1_; have GW426 := n2_; have GE426 := n3_; clear n0_ n1_ n2_ n3_; clear hb hbox hg; obtain ⟨hcz50_0, hcz50_1, hcz50_2, hcz50_3, hcz50_4, hcz50_5, hcz50_6, hcz50_7, hcz50_8⟩ := XRun.bc9 BK426.out; obtain ⟨hfz50_0, hfz50_1, hfz50_2, hfz50_3, hfz50_4, hfz50_5, hfz50_6, hfz50_7, hfz50_8⟩ := XRun.bf9 BK426.out) | ((with_reducible refine gate_callee (f := 15) rfl ?_); refine goesL_ (some 28) rfl rfl Try.func15 (by kernel_rfl) rfl #[.agg #[.bool ((rd_T31 l0 x5_1).f0), .int .i64 ((rd_T31 l0 x5_1).f1.f0), .int .u64 ((rd_T31 l0 x5_1).f1.f1.f0.f0), .int .u64 ((rd_T31 l0 x5_1).f1.f1.f0.f1), .int .i64 ((rd_T31 l0 x5_1).f1.f1.f1), .int .i64 ((rd_T31 l0 x5_1).f1.f2), .string ((rd_T31 l0 x5_1).f1.f3), .int .u32 ((rd_T31 l0 x5_1).f1.f4), .int .i64 ((rd_T31 l0 x5_1).f1.f5)]] rfl (by (try simp only [List.map_toArray, List.map_cons, List.map_nil]); first | rfl) ?_; (with_reducible refine (tenancyref08_Change.calls k1 ((rd_T31 l0 x5_1).f0) ((rd_T31 l0 x5_1).f1.f0) ((rd_T31 l0 x5_1).f1.f1.f0.f0) ((rd_T31 l0 x5_1).f1.f1.f0.f1) ((rd_T31 l0 x5_1).f1.f1.f1) ((rd_T31 l0 x5_1).f1.f2) ((rd_T31 l0 x5_1).f1.f3) ((rd_T31 l0 x5_1).f1.f4) ((rd_T31 l0 x5_1).f1.f5) false _ A7.out).mono ?_); rintro e w51 ⟨rfl, hb⟩; refine ⟨_, rfl, ?_⟩; have n0_ := Aside0.mk (blk_below (g := gb426) (o := .cells #[.bool ((rd_T31 l0 x5_1).f0), .int .i64 ((rd_T31 l0 x5_1).f1.f0), .int .u64 ((rd_T31 l0 x5_1).f1.f1.f0.f0), .int .u64 ((rd_T31 l0 x5_1).f1.f1.f0.f1), .int .i64 ((rd_T31 l0 x5_1).f1.f1.f1), .int .i64 ((rd_T31 l0 x5_1).f1.f2), .string ((rd_T31 l0 x5_1).f1.f3), .int .u32 ((rd_T31 l0 x5_1).f1.f4), .int .i64 ((rd_T31 l0 x5_1).f1.f5)] 31 (0, 0)) (by refine blk_put (cs := #[.bool ((rd_T31 l0 x5_1).f0), .int .i64 ((rd_T31 l0 x5_1).f1.f0), .int .u64 ((rd_T31 l0 x5_1).f1.f1.f0.f0), .int .u64 ((rd_T31 l0 x5_1).f1.f1.f0.f1), .int .i64 ((rd_T31 l0 x5_1).f1.f1.f1), .int .i64 ((rd_T31 l0 x5_1).f1.f2), .string ((rd_T31 l0 x5_1).f1.f3), .int .u32 ((rd_T31 l0 x5_1).f1.f4), .int .i64 0]) ?_ 8 _ rfl; refine blk_put (cs := #[.bool ((rd_T31 l0 x5_1).f0), .int .i64 ((rd_T31 l0 x5_1).f1.f0), .int .u64 ((rd_T31 l0 x5_1).f1.f1.f0.f0), .int .u64 ((rd_T31 l0 x5_1).f1.f1.f0.f1), .int .i64 ((rd_T31 l0 x5_1).f1.f1.f1), .int .i64 ((rd_T31 l0 x5_1).f1.f2), .string ((rd_T31 l0 x5_1).f1.f3), .int .u32 0, .int .i64 0]) ?_ 7 _ rfl; refine blk_put (cs := #[.bool ((rd_T31 l0 x5_1).f0), .int .i64 ((rd_T31 l0 x5_1).f1.f0), .int .u64 ((rd_T31 l0 x5_1).f1.f1.f0.f0), .int .u64 ((rd_T31 l0 x5_1).f1.f1.f0.f1), .int .i64 ((rd_T31 l0 x5_1).f1.f1.f1), .int .i64 ((rd_T31 l0 x5_1).f1.f2), .string (⟨#[]⟩ : ByteArray), .int .u32 0, .int .i64 0]) ?_ 6 _ rfl; refine blk_put (cs := #[.bool ((rd_T31 l0 x5_1).f0), .int .i64 ((rd_T31 l0 x5_1).f1.f0), .int .u64 ((rd_T31 l0 x5_1).f1.f1.f0.f0), .int .u64 ((rd_T31 l0 x5_1).f1.f1.f0.f1), .int .i64 ((rd_T31 l0 x5_1).f1.f1.f1), .int .i64 0, .string (⟨#[]⟩ : ByteArray), .int .u32 0, .int .i64 0]) ?_ 5 _ rfl; refine blk_put (cs := #[.bool ((rd_T31 l0 x5_1).f0), .int .i64 ((rd_T31 l0 x5_1).f1.f0), .int .u64 ((rd_T31 l0 x5_1).f1.f1.f0.f0), .int .u64 ((rd_T31 l0 x5_1).f1.f1.f0.f1), .int .i64 0, .int .i64 0, .string (⟨#[]⟩ : ByteArray), .int .u32 0, .int .i64 0]) ?_ 4 _ rfl; refine blk_put (cs := #[.bool ((rd_T31 l0 x5_1).f0), .int .i64 ((rd_T31 l0 x5_1).f1.f0), .int .u64 ((rd_T31 l0 x5_1).f1.f1.f0.f0), .int .u64 0, .int .i64 0, .int .i64 0, .string (⟨#[]⟩ : ByteArray), .int .u32 0, .int .i64 0]) ?_ 3 _ rfl; refine blk_put (cs := #[.bool ((rd_T31 l0 x5_1).f0), .int .i64 ((rd_T31 l0 x5_1).f1.f0), .int .u64 0, .int .u64 0, .int .i64 0, .int .i64 0, .string (⟨#[]⟩ : ByteArray), .int .u32 0, .int .i64 0]) ?_ 2 _ rfl; refine blk_put (cs := #[.bool ((rd_T31 l0 x5_1).f0), .int .i64 0, .int .u64 0, .int .u64 0, .int .i64 0, .int .i64 0, .string (⟨#[]⟩ : ByteArray), .int .u32 0, .int .i64 0]) ?_ 1 _ rfl; refine blk_put (cs := #[.bool false, .int .i64 0, .int .u64 0, .int .u64 0, .int .i64 0, .int .i64 0, .string (⟨#[]⟩ : ByteArray), .int .u32 0, .int .i64 0]) ?_ 0 _ rfl; exact BK426.out) hb); have n1_ := Aside0.mk (below_step (by repeat (first | (with_reducible first | exact HB.out | refine below_set ?_ GE426.out))) hb); clear BK426; clear HB; have BK426 := n0_; have HB := n1_; clear n0_ n1_; (try clear hb); (try clear hb2); (try clear hk); (try clear hi)))
              go_ret2
              exact ⟨by rfl, by exact HB.out⟩
          · rw [if_neg c6] at H
            exact absurd H (by simp)
        · rw [if_neg c5] at H
          have c5b0 : decide (x5_1 < (l0.length : Int)) = false := decide_eq_false c5
          clear c5
          simp only [Option.some.injEq, Prod.mk.injEq] at H
          obtain ⟨rfl, rfl⟩ := H
          go_wp2
          go_ret2
          exact ⟨by rfl, by exact HB.out⟩

/-! ### tenancylaw08_LeaseBytes: function 4 -/
def tenancylaw08_LeaseBytes.f (k : Nat) (l0 : List (S31)) : Option (Bool) := (tenancylaw08_awake.f k).bind fun t439 => (if t439 = true then ((lease_Encode.f l0).bind fun bt440 => ((tenancyref08_Encode.f k l0).bind fun bt442 => (if bt440.1.toList = bt442.1.toList then (some (bt440.2 == bt442.2)) else (none)))) else (none))
theorem tenancylaw08_LeaseBytes.mono : ∀ a0 k, LeO (tenancylaw08_LeaseBytes.f k a0) (tenancylaw08_LeaseBytes.f (k + 1) a0) := by
  intro a0 k
  unfold tenancylaw08_LeaseBytes.f
  repeat' first
      | (with_reducible exact tenancylaw08_awake.mono _)
      | (with_reducible exact tenancyref08_Encode.mono _ _)
      | (with_reducible exact LeO.refl _)
      | (with_reducible exact LeO.none _)
      | (with_reducible refine LeO.ite ?_ ?_)
      | (with_reducible refine LeO.bind ?_ (fun _ => ?_))
      | exact tenancylaw08_awake.mono _
      | exact tenancyref08_Encode.mono _ _
      | exact LeO.none _
      | refine LeO.ite ?_ ?_
      | refine LeO.bind ?_ (fun _ => ?_)
set_option maxHeartbeats 8000000 in
set_option maxRecDepth 100000 in
theorem tenancylaw08_LeaseBytes.calls (k : Nat) (A0 : Option Addr) (c0 : Nat) (l0 : List (S31)) (r : Bool) (w : World) (hr0 : Kd.C k31 w A0 l0.length l0) (hc0 : l0.length ≤ c0) (h : tenancylaw08_LeaseBytes.f k l0 = some r) :
    Calls Try.prog 4 #[.slice A0 l0.length c0] w fun e w' => e = .returned (.bool r) ∧ Below w.heap.size w w' := by
  have HR0 := Aside0.mk hr0
  have HC0 := Aside0.mk hc0
  clear hr0 hc0
  have HB := Aside0.mk (Below.refl w.heap.size w)
  have H : ((tenancylaw08_awake.f k).bind fun t439 => (if t439 = true then ((lease_Encode.f l0).bind fun bt440 => ((tenancyref08_Encode.f k l0).bind fun bt442 => (if bt440.1.toList = bt442.1.toList then (some (bt440.2 == bt442.2)) else (none)))) else (none))) = some r := h
  clear h
  replace H := Option.bind_eq_some_iff.mp H
  obtain ⟨t439, A20, H⟩ := H
  replace H : (if t439 = true then ((lease_Encode.f l0).bind fun bt440 => ((tenancyref08_Encode.f k l0).bind fun bt442 => (if bt440.1.toList = bt442.1.toList then (some (bt440.2 == bt442.2)) else (none)))) else (none)) = some r := H
  have A2 := Aside0.mk A20
  clear A20
  by_cases c3 : t439 = true
  · subst c3
    have H1 : ((lease_Encode.f l0).bind fun bt440 => ((tenancyref08_Encode.f k l0).bind fun bt442 => (if bt440.1.toList = bt442.1.toList then (some (bt440.2 == bt442.2)) else (none)))) = some r := by rw [if_pos rfl] at H; exact H
    clear H
    have H := H1
    clear H1
    replace H := Option.bind_eq_some_iff.mp H
    obtain ⟨⟨t440, t441⟩, A40, H⟩ := H
    replace H : ((tenancyref08_Encode.f k l0).bind fun bt442 => (if t440.toList = bt442.1.toList then (some (t441 == bt442.2)) else (none))) = some r := H
    have A4 := Aside0.mk A40
    clear A40
    replace H := Option.bind_eq_some_iff.mp H
    obtain ⟨⟨t442, t443⟩, A50, H⟩ := H
    replace H : (if t440.toList = t442.toList then (some (t441 == t443)) else (none)) = some r := H
    have A5 := Aside0.mk A50
    clear A50
    by_cases c6 : t440.toList = t442.toList
    · rw [if_pos c6] at H
      have c6b0 : (t440.toList == t442.toList) = true := beq_iff_eq.mpr c6
      have c6b1 : (t440.toList != t442.toList) = false := bne_eq_false_iff_eq.mpr c6
      clear c6
      obtain rfl := Option.some.inj H
      go_enter Try.func4, Try.ntmps4
      go_wp2_with (first | ((with_reducible refine gate_callee (f := 9) rfl ?_); refine goesL_ (some 7) rfl rfl Try.func9 (by kernel_rfl) rfl #[] rfl (by (try simp only [List.map_toArray, List.map_cons, List.map_nil]); first | done) ?_; (with_reducible refine (tenancylaw08_awake.calls k  true _ A2.out).mono ?_); rintro e w7 ⟨rfl, hb⟩; refine ⟨_, rfl, ?_⟩; have n0_ := Aside0.mk (below_step HB.out hb); clear HB; have HB := n0_; clear n0_; (try clear hb); (try clear hb2); (try clear hk); (try clear hi)) | ((with_reducible refine gate_callee (f := 20) rfl ?_); refine goesL_ (some 11) rfl rfl Try.func20 (by kernel_rfl) rfl #[.slice A0 l0.length c0] rfl (by (try simp only [List.map_toArray, List.map_cons, List.map_nil]); first | rfl) ?_; (with_reducible refine (lease_Encode.calls _ _ l0 t440 t441 _ ?side1 ?side2 A4.out).mono ?_); (case side1 => repeat (first | exact (Kd.C_below HR0.out HB.out))); (case side2 => exact HC0.out); rintro e w8 ⟨rfl, hb⟩; refine ⟨_, rfl, ?_⟩; have n0_ := Aside0.mk (below_step HB.out hb); clear HB; have HB := n0_; clear n0_; (try clear hb); (try clear hb2); (try clear hk); (try clear hi)) | ((with_reducible refine gate_callee (f := 21) rfl ?_); refine goesL_ (some 16) rfl rfl Try.func21 (by kernel_rfl) rfl #[.slice A0 l0.length c0] rfl (by (try simp only [List.map_toArray, List.map_cons, List.map_nil]); first | rfl) ?_; (with_reducible refine (tenancyref08_Encode.calls k _ _ l0 t442 t443 _ ?side1 ?side2 A5.out).mono ?_); (case side1 => repeat (first | exact (Kd.C_below HR0.out HB.out))); (case side2 => exact HC0.out); rintro e w9 ⟨rfl, hb⟩; refine ⟨_, rfl, ?_⟩; have n0_ := Aside0.mk (below_step HB.out hb); clear HB; have HB := n0_; clear n0_; (try clear hb); (try clear hb2); (try clear hk); (try clear hi)))
      go_ret
      exact ⟨by rfl, by exact HB.out⟩
    · rw [if_neg c6] at H
      exact absurd H (by simp)
  · replace c3 := Bool.eq_false_iff.mpr c3
    subst c3
    have H1 : (none) = some r := by rw [if_neg (show ¬ (false = true) by decide)] at H; exact H
    clear H
    have H := H1
    clear H1
    exact absurd H (by simp)

/-- The one plain statement of tenancylaw08_LeaseBytes. -/
def tenancylaw08_LeaseBytes.Pure : Prop := ∀ (l0 : List (S31)), (l0.length * 80 ≤ 140737488351232 ∧ ∀ y_ ∈ l0, wf31 y_) → ∃ k, tenancylaw08_LeaseBytes.f k l0 = some true

end Go.Proofs.Ytpdopkhdhbdljaa.X
