/- Functions of the program as Lean functions, and that the calls come to them: no condition.  By this session's own program (wip/xprint). -/
import Derived.Test.YtngojiikkokajaaG0
import Derived.Test.YtngojiikkokajaaG1
import Derived.Test.YtngojiikkokajaaG2
import Derived.Test.YtngojiikkokajaaG3
import Derived.Test.YtngojiikkokajaaG5
import Derived.Test.YtngojiikkokajaaG11
namespace Go.Proofs.Ytngojiikkokajaa.X
open Go.RowKit Go.Proofs.YtngojiikkokajaaW.PrintWords Go.Proofs.YtngojiikkokajaaW.PrintLast Go.Proofs.YtngojiikkokajaaW.PrintMore
attribute [local go_sem] max2_int min2_int max_two min_two max_three min_three max_four min_four   -- for this text's walks alone
set_option linter.unusedVariables false
set_option linter.unusedSimpArgs false
attribute [local go_sem high] eqA40
/-! ### tenancyref15_PutIA: function 20 -/
mutual
def tenancyref15_PutIA.j0 : Nat → ByteArray → Int → Int → Int → Int → List (S76) → Int → Option (Int × ByteArray × Int)
  | 0, _, _, _, _, _, _, _ => none
  | k + 1, x4, x314000, x314001, x314002, x314003, x314004, x314005 => tenancyref15_PutIA.l0 k x4 0 x314000 x314001 x314002 x314003 x314004 x314005
def tenancyref15_PutIA.l0 : Nat → ByteArray → Int → Int → Int → Int → Int → List (S76) → Int → Option (Int × ByteArray × Int)
  | 0, _, _, _, _, _, _, _, _ => none
  | k + 1, x4, x5, x314000, x314001, x314002, x314003, x314004, x314005 => if x5 < (x314004.length : Int) then (if 0 ≤ x5 then ((tenancyref04_Put32.f k ((rd_T76 x314004 x5).f1)).bind fun t323 => ((tenancyref04_Put32.f k ((rd_T76 x314004 x5).f2)).bind fun t324 => (if t323.size + t324.size ≤ 9223372036854775807 then (if x314000 = 4 then ((some (([((rd_T76 x314004 x5).f0.f1) % 256] : List Int) : List Int)).bind fun y325 => (if (t323 ++ t324).size + (strOfNums y325).size ≤ 9223372036854775807 then ((tenancyref04_PutAddr.f k ((rd_T76 x314004 x5).f0.f0.f0) ((rd_T76 x314004 x5).f0.f0.f1)).bind fun t328 => (if ((t323 ++ t324) ++ (strOfNums y325)).size + t328.size ≤ 9223372036854775807 then ((tenancyref15_statusOption.f k ((rd_T76 x314004 x5).f3)).bind fun t329 => (if (((t323 ++ t324) ++ (strOfNums y325)) ++ t328).size + t329.size ≤ 9223372036854775807 then ((tenancyref15_option.f k 26 ((((t323 ++ t324) ++ (strOfNums y325)) ++ t328) ++ t329)).bind fun t330 => (if x4.size + t330.size ≤ 9223372036854775807 then (tenancyref15_PutIA.l0 k (x4 ++ t330) (wrap64 (x5 + 1)) x314000 x314001 x314002 x314003 x314004 x314005) else (none))) else (none))) else (none))) else (none))) else ((tenancyref04_PutAddr.f k ((rd_T76 x314004 x5).f0.f0.f0) ((rd_T76 x314004 x5).f0.f0.f1)).bind fun t331 => (if t331.size + (t323 ++ t324).size ≤ 9223372036854775807 then ((tenancyref15_statusOption.f k ((rd_T76 x314004 x5).f3)).bind fun t332 => (if (t331 ++ (t323 ++ t324)).size + t332.size ≤ 9223372036854775807 then ((tenancyref15_option.f k 5 ((t331 ++ (t323 ++ t324)) ++ t332)).bind fun t333 => (if x4.size + t333.size ≤ 9223372036854775807 then (tenancyref15_PutIA.l0 k (x4 ++ t333) (wrap64 (x5 + 1)) x314000 x314001 x314002 x314003 x314004 x314005) else (none))) else (none))) else (none)))) else (none)))) else (none)) else ((tenancyref15_statusOption.f k x314005).bind fun t319 => (if x4.size + t319.size ≤ 9223372036854775807 then ((tenancyref15_Code.f x314000).bind fun t320 => (some (t320, x4 ++ t319, 0))) else (none)))
end
def tenancyref15_PutIA.f (k : Nat) (a0_0 : Int) (a0_1 : Int) (a0_2 : Int) (a0_3 : Int) (l0_4 : List (S76)) (a0_5 : Int) : Option (Int × ByteArray × Int) := (tenancyref15_Sound.f k a0_0 a0_1 a0_2 a0_3 l0_4 a0_5).bind fun t315 => (if t315 = true then ((tenancyref04_Put32.f k a0_1).bind fun t316 => (if a0_0 = 3 then (tenancyref15_PutIA.j0 k t316 a0_0 a0_1 a0_2 a0_3 l0_4 a0_5) else ((tenancyref04_Put32.f k a0_2).bind fun t317 => (if t316.size + t317.size ≤ 9223372036854775807 then ((tenancyref04_Put32.f k a0_3).bind fun t318 => (if (t316 ++ t317).size + t318.size ≤ 9223372036854775807 then (tenancyref15_PutIA.j0 k ((t316 ++ t317) ++ t318) a0_0 a0_1 a0_2 a0_3 l0_4 a0_5) else (none))) else (none))))) else (some (0, (⟨#[]⟩ : ByteArray), 130)))
theorem tenancyref15_PutIA.mono_l : ∀ k, (∀ y0 y1 y2 y3 y4 y5 y6, LeO (tenancyref15_PutIA.j0 k y0 y1 y2 y3 y4 y5 y6) (tenancyref15_PutIA.j0 (k + 1) y0 y1 y2 y3 y4 y5 y6)) ∧ (∀ y0 y1 y2 y3 y4 y5 y6 y7, LeO (tenancyref15_PutIA.l0 k y0 y1 y2 y3 y4 y5 y6 y7) (tenancyref15_PutIA.l0 (k + 1) y0 y1 y2 y3 y4 y5 y6 y7))
  | 0 => ⟨fun _ _ _ _ _ _ _ r h => by simp [tenancyref15_PutIA.j0] at h, fun _ _ _ _ _ _ _ _ r h => by simp [tenancyref15_PutIA.l0] at h⟩
  | k + 1 => by
    obtain ⟨ih0, ih1⟩ := tenancyref15_PutIA.mono_l k
    refine ⟨?_, ?_⟩
    · intro y0 y1 y2 y3 y4 y5 y6
      unfold tenancyref15_PutIA.j0
      repeat' first
      | (with_reducible exact ih0 _ _ _ _ _ _ _)
      | (with_reducible exact ih1 _ _ _ _ _ _ _ _)
      | (with_reducible exact tenancyref04_Put32.mono _ _)
      | (with_reducible exact tenancyref04_PutAddr.mono _ _ _)
      | (with_reducible exact tenancyref15_Sound.mono _ _ _ _ _ _ _)
      | (with_reducible exact tenancyref15_option.mono _ _ _)
      | (with_reducible exact tenancyref15_statusOption.mono _ _)
      | (with_reducible exact LeO.refl _)
      | (with_reducible exact LeO.none _)
      | (with_reducible refine LeO.ite ?_ ?_)
      | (with_reducible refine LeO.bind ?_ (fun _ => ?_))
      | exact ih0 _ _ _ _ _ _ _
      | exact ih1 _ _ _ _ _ _ _ _
      | exact tenancyref04_Put32.mono _ _
      | exact tenancyref04_PutAddr.mono _ _ _
      | exact tenancyref15_Sound.mono _ _ _ _ _ _ _
      | exact tenancyref15_option.mono _ _ _
      | exact tenancyref15_statusOption.mono _ _
      | exact LeO.none _
      | refine LeO.ite ?_ ?_
      | refine LeO.bind ?_ (fun _ => ?_)
    · intro y0 y1 y2 y3 y4 y5 y6 y7
      unfold tenancyref15_PutIA.l0
      repeat' first
      | (with_reducible exact ih0 _ _ _ _ _ _ _)
      | (with_reducible exact ih1 _ _ _ _ _ _ _ _)
      | (with_reducible exact tenancyref04_Put32.mono _ _)
      | (with_reducible exact tenancyref04_PutAddr.mono _ _ _)
      | (with_reducible exact tenancyref15_Sound.mono _ _ _ _ _ _ _)
      | (with_reducible exact tenancyref15_option.mono _ _ _)
      | (with_reducible exact tenancyref15_statusOption.mono _ _)
      | (with_reducible exact LeO.refl _)
      | (with_reducible exact LeO.none _)
      | (with_reducible refine LeO.ite ?_ ?_)
      | (with_reducible refine LeO.bind ?_ (fun _ => ?_))
      | exact ih0 _ _ _ _ _ _ _
      | exact ih1 _ _ _ _ _ _ _ _
      | exact tenancyref04_Put32.mono _ _
      | exact tenancyref04_PutAddr.mono _ _ _
      | exact tenancyref15_Sound.mono _ _ _ _ _ _ _
      | exact tenancyref15_option.mono _ _ _
      | exact tenancyref15_statusOption.mono _ _
      | exact LeO.none _
      | refine LeO.ite ?_ ?_
      | refine LeO.bind ?_ (fun _ => ?_)
theorem tenancyref15_PutIA.mono : ∀ a0 a1 a2 a3 a4 a5 k, LeO (tenancyref15_PutIA.f k a0 a1 a2 a3 a4 a5) (tenancyref15_PutIA.f (k + 1) a0 a1 a2 a3 a4 a5) := by
  intro a0 a1 a2 a3 a4 a5 k
  obtain ⟨ih0, ih1⟩ := tenancyref15_PutIA.mono_l k
  unfold tenancyref15_PutIA.f
  repeat' first
      | (with_reducible exact ih0 _ _ _ _ _ _ _)
      | (with_reducible exact ih1 _ _ _ _ _ _ _ _)
      | (with_reducible exact tenancyref04_Put32.mono _ _)
      | (with_reducible exact tenancyref04_PutAddr.mono _ _ _)
      | (with_reducible exact tenancyref15_Sound.mono _ _ _ _ _ _ _)
      | (with_reducible exact tenancyref15_option.mono _ _ _)
      | (with_reducible exact tenancyref15_statusOption.mono _ _)
      | (with_reducible exact LeO.refl _)
      | (with_reducible exact LeO.none _)
      | (with_reducible refine LeO.ite ?_ ?_)
      | (with_reducible refine LeO.bind ?_ (fun _ => ?_))
      | exact ih0 _ _ _ _ _ _ _
      | exact ih1 _ _ _ _ _ _ _ _
      | exact tenancyref04_Put32.mono _ _
      | exact tenancyref04_PutAddr.mono _ _ _
      | exact tenancyref15_Sound.mono _ _ _ _ _ _ _
      | exact tenancyref15_option.mono _ _ _
      | exact tenancyref15_statusOption.mono _ _
      | exact LeO.none _
      | refine LeO.ite ?_ ?_
      | refine LeO.bind ?_ (fun _ => ?_)
def tenancyref15_PutIA.T5 : Bool × List (List Nat × List Nat) := (true, [([], []), ([], []), ([1], [1]), ([2], [2]), ([0, 3], [0, 3]), ([], []), ([5], [5]), ([6, 3], [6]), ([4, 7], [4, 7]), ([8, 7, 0, 1, 2, 3, 4, 5, 6, 7, 8], [0, 8])])
def tenancyref15_PutIA.B5 : List Nat := [0, 0, 2, 6, 15, 0, 32, 110, 255, 511]
theorem tenancyref15_PutIA.tab5 : rtab .any (opsOf Try.f20 5) = tenancyref15_PutIA.T5 := by kernel_rfl
theorem tenancyref15_PutIA.bits5 : waitsOk tenancyref15_PutIA.T5.2 tenancyref15_PutIA.B5 = true := by kernel_rfl
def tenancyref15_PutIA.T10 : Bool × List (List Nat × List Nat) := (true, [([], []), ([0], [0]), ([1], [1]), ([], []), ([3], [3]), ([4, 2], [4]), ([2, 5], [2, 5]), ([6, 5, 0, 1, 2, 3, 4, 5, 6], [6])])
def tenancyref15_PutIA.B10 : List Nat := [0, 1, 3, 0, 8, 31, 63, 127]
theorem tenancyref15_PutIA.tab10 : rtab .any (opsOf Try.f20 10) = tenancyref15_PutIA.T10 := by kernel_rfl
theorem tenancyref15_PutIA.bits10 : waitsOk tenancyref15_PutIA.T10.2 tenancyref15_PutIA.B10 = true := by kernel_rfl
def tenancyref15_PutIA.T12 : Bool × List (List Nat × List Nat) := (true, [([], []), ([], []), ([], []), ([2], [2]), ([3], [3]), ([4], [4]), ([5], [5]), ([6], [6]), ([1, 7], [1, 7]), ([], []), ([9], [9]), ([10], [10]), ([11], [11]), ([8, 12], [8, 12]), ([], []), ([14], [14]), ([15, 12], [15]), ([13, 16], [13, 16]), ([17, 16], [17]), ([0, 18], [0, 18]), ([19, 18, 0, 1, 2, 3, 4, 5, 6, 7, 8, 9, 10, 11, 12, 13, 14, 15, 16, 17, 18, 19], [0, 19])])
def tenancyref15_PutIA.B12 : List Nat := [0, 0, 0, 4, 12, 28, 60, 124, 254, 0, 512, 1536, 3584, 8190, 0, 16384, 56832, 131070, 262142, 524287, 1048575]
theorem tenancyref15_PutIA.tab12 : rtab .any (opsOf Try.f20 12) = tenancyref15_PutIA.T12 := by kernel_rfl
theorem tenancyref15_PutIA.bits12 : waitsOk tenancyref15_PutIA.T12.2 tenancyref15_PutIA.B12 = true := by kernel_rfl
def tenancyref15_PutIA.T13 : Bool × List (List Nat × List Nat) := (true, [([], []), ([], []), ([1], [1]), ([2], [2]), ([3], [3]), ([], []), ([4, 5], [4, 5]), ([], []), ([7], [7]), ([8, 4], [8]), ([6, 9], [6, 9]), ([10, 9], [10]), ([0, 11], [0, 11]), ([12, 11, 0, 1, 2, 3, 4, 5, 6, 7, 8, 9, 10, 11, 12], [0, 12])])
def tenancyref15_PutIA.B13 : List Nat := [0, 0, 2, 6, 14, 0, 62, 0, 128, 414, 1022, 2046, 4095, 8191]
theorem tenancyref15_PutIA.tab13 : rtab .any (opsOf Try.f20 13) = tenancyref15_PutIA.T13 := by kernel_rfl
theorem tenancyref15_PutIA.bits13 : waitsOk tenancyref15_PutIA.T13.2 tenancyref15_PutIA.B13 = true := by kernel_rfl
set_option maxHeartbeats 8000000 in
set_option maxRecDepth 100000 in
theorem tenancyref15_PutIA.calls (k : Nat) (a0_0 : Int) (a0_1 : Int) (a0_2 : Int) (a0_3 : Int) (A0_4 : Option Addr) (c0_4 : Nat) (l0_4 : List (S76)) (a0_5 : Int) (r1 : Int) (r2 : ByteArray) (r3 : Int) (w : World) (hr0_4 : Kd.C k76 w A0_4 l0_4.length l0_4) (hc0_4 : l0_4.length ≤ c0_4) (h : tenancyref15_PutIA.f k a0_0 a0_1 a0_2 a0_3 l0_4 a0_5 = some (r1, r2, r3)) :
    Calls Try.prog 20 #[.agg #[.int .i64 a0_0, .int .u32 a0_1, .int .u32 a0_2, .int .u32 a0_3, .slice A0_4 l0_4.length c0_4, .int .i64 a0_5]] w fun e w' => e = .returned (.tuple #[.agg #[.int .u16 r1, .string r2], .int .i64 r3]) ∧ Below w.heap.size w w' := by
  have hu37 := Try.underlying37
  have hu40 := Try.underlying40
  have hu76 := Try.underlying76
  have hu72 := Try.underlying72
  have HR0_4 := Aside0.mk hr0_4
  have HC0_4 := Aside0.mk hc0_4
  clear hr0_4 hc0_4
  have HB := Aside0.mk (Below.refl w.heap.size w)
  have H : ((tenancyref15_Sound.f k a0_0 a0_1 a0_2 a0_3 l0_4 a0_5).bind fun t315 => (if t315 = true then ((tenancyref04_Put32.f k a0_1).bind fun t316 => (if a0_0 = 3 then (tenancyref15_PutIA.j0 k t316 a0_0 a0_1 a0_2 a0_3 l0_4 a0_5) else ((tenancyref04_Put32.f k a0_2).bind fun t317 => (if t316.size + t317.size ≤ 9223372036854775807 then ((tenancyref04_Put32.f k a0_3).bind fun t318 => (if (t316 ++ t317).size + t318.size ≤ 9223372036854775807 then (tenancyref15_PutIA.j0 k ((t316 ++ t317) ++ t318) a0_0 a0_1 a0_2 a0_3 l0_4 a0_5) else (none))) else (none))))) else (some (0, (⟨#[]⟩ : ByteArray), 130)))) = some (r1, r2, r3) := h
  clear h
  replace H := Option.bind_eq_some_iff.mp H
  obtain ⟨t315, A20, H⟩ := H
  replace H : (if t315 = true then ((tenancyref04_Put32.f k a0_1).bind fun t316 => (if a0_0 = 3 then (tenancyref15_PutIA.j0 k t316 a0_0 a0_1 a0_2 a0_3 l0_4 a0_5) else ((tenancyref04_Put32.f k a0_2).bind fun t317 => (if t316.size + t317.size ≤ 9223372036854775807 then ((tenancyref04_Put32.f k a0_3).bind fun t318 => (if (t316 ++ t317).size + t318.size ≤ 9223372036854775807 then (tenancyref15_PutIA.j0 k ((t316 ++ t317) ++ t318) a0_0 a0_1 a0_2 a0_3 l0_4 a0_5) else (none))) else (none))))) else (some (0, (⟨#[]⟩ : ByteArray), 130))) = some (r1, r2, r3) := H
  have A2 := Aside0.mk A20
  clear A20
  by_cases c3 : t315 = true
  · subst c3
    have H1 : ((tenancyref04_Put32.f k a0_1).bind fun t316 => (if a0_0 = 3 then (tenancyref15_PutIA.j0 k t316 a0_0 a0_1 a0_2 a0_3 l0_4 a0_5) else ((tenancyref04_Put32.f k a0_2).bind fun t317 => (if t316.size + t317.size ≤ 9223372036854775807 then ((tenancyref04_Put32.f k a0_3).bind fun t318 => (if (t316 ++ t317).size + t318.size ≤ 9223372036854775807 then (tenancyref15_PutIA.j0 k ((t316 ++ t317) ++ t318) a0_0 a0_1 a0_2 a0_3 l0_4 a0_5) else (none))) else (none))))) = some (r1, r2, r3) := by rw [if_pos rfl] at H; exact H
    clear H
    have H := H1
    clear H1
    replace H := Option.bind_eq_some_iff.mp H
    obtain ⟨t316, A40, H⟩ := H
    replace H : (if a0_0 = 3 then (tenancyref15_PutIA.j0 k t316 a0_0 a0_1 a0_2 a0_3 l0_4 a0_5) else ((tenancyref04_Put32.f k a0_2).bind fun t317 => (if t316.size + t317.size ≤ 9223372036854775807 then ((tenancyref04_Put32.f k a0_3).bind fun t318 => (if (t316 ++ t317).size + t318.size ≤ 9223372036854775807 then (tenancyref15_PutIA.j0 k ((t316 ++ t317) ++ t318) a0_0 a0_1 a0_2 a0_3 l0_4 a0_5) else (none))) else (none)))) = some (r1, r2, r3) := H
    have A4 := Aside0.mk A40
    clear A40
    have HC5 := Aside0.mk H
    clear H
    go_enter Try.func20, Try.ntmps20
    go_upto_if 17 with (first | ((with_reducible refine gate_dst (N := 1) rfl ?_); refine box_event ?hg (N := 1) ?hd (cs := #[.int .i64 a0_0, .int .u32 a0_1, .int .u32 a0_2, .int .u32 a0_3, .slice A0_4 l0_4.length c0_4, .int .i64 a0_5]) (t := 37) ?hr ?_; (case hd => rfl); (case hg => rfl); (case hr => go_simp; done); intro gb313 hg w6 hbox hb; have n0_ := Aside0.mk (below_step HB.out hb); have n1_ := Aside0.mk (hbox); have n2_ := Aside0.mk ((by rw [hg]; exact (below_size HB.out) : w.heap.size ≤ gb313)); have n3_ := Aside0.mk ((by rw [hg]; exact (below_size HB.out) : w.heap.size ≤ gb313)); clear HB; have HB := n0_; have BK313 := n1_; have GW313 := n2_; have GE313 := n3_; clear n0_ n1_ n2_ n3_; clear hb hbox hg) | ((with_reducible refine gate_dst (N := 2) rfl ?_); refine box_event ?hg (N := 2) ?hd (cs := #[.int .u16 0, .string (⟨#[]⟩ : ByteArray)]) (t := 40) ?hr ?_; (case hd => rfl); (case hg => rfl); (case hr => go_simp; done); intro gb314 hg w7 hbox hb; have n0_ := Aside0.mk (blk_below (g := gb313) (o := .cells #[.int .i64 a0_0, .int .u32 a0_1, .int .u32 a0_2, .int .u32 a0_3, .slice A0_4 l0_4.length c0_4, .int .i64 a0_5] 37 (0, 0)) BK313.out hb); have n1_ := Aside0.mk (below_step HB.out hb); have n2_ := Aside0.mk (hbox); have n3_ := Aside0.mk ((by rw [hg]; exact (below_size HB.out) : w.heap.size ≤ gb314)); have n4_ := Aside0.mk ((by rw [hg]; exact (below_size HB.out) : w.heap.size ≤ gb314)); have n5_ := Aside0.mk ((by rw [hg]; exact Nat.ne_of_lt (blk_lt (g := gb313) (o := .cells #[.int .i64 a0_0, .int .u32 a0_1, .int .u32 a0_2, .int .u32 a0_3, .slice A0_4 l0_4.length c0_4, .int .i64 a0_5] 37 (0, 0)) BK313.out) : gb313 ≠ gb314)); have n6_ := Aside0.mk ((by rw [hg]; exact Nat.ne_of_gt (blk_lt (g := gb313) (o := .cells #[.int .i64 a0_0, .int .u32 a0_1, .int .u32 a0_2, .int .u32 a0_3, .slice A0_4 l0_4.length c0_4, .int .i64 a0_5] 37 (0, 0)) BK313.out) : gb314 ≠ gb313)); clear BK313; clear HB; have BK313 := n0_; have HB := n1_; have BK314 := n2_; have GW314 := n3_; have GE314 := n4_; have NB313_314 := n5_; have NB314_313 := n6_; clear n0_ n1_ n2_ n3_ n4_ n5_ n6_; clear hb hbox hg; have hnb8 := NB313_314.out; have hnc8 := NB314_313.out; obtain ⟨hcz9_0, hcz9_1, hcz9_2, hcz9_3, hcz9_4, hcz9_5⟩ := XRun.bc6 BK313.out; obtain ⟨hfz9_0, hfz9_1, hfz9_2, hfz9_3, hfz9_4, hfz9_5⟩ := XRun.bf6 BK313.out) | ((with_reducible refine gate_callee (f := 22) rfl ?_); refine goesL_ (some 9) rfl rfl Try.func22 (by kernel_rfl) rfl #[.agg #[.int .i64 a0_0, .int .u32 a0_1, .int .u32 a0_2, .int .u32 a0_3, .slice A0_4 l0_4.length c0_4, .int .i64 a0_5]] rfl (by (try simp only [List.map_toArray, List.map_cons, List.map_nil]); first | rfl) ?_; (with_reducible refine (tenancyref15_Sound.calls k a0_0 a0_1 a0_2 a0_3 _ _ l0_4 a0_5 true _ ?side1 ?side2 A2.out).mono ?_); (case side1 => repeat (first | exact (Kd.C_below HR0_4.out HB.out))); (case side2 => exact HC0_4.out); rintro e w10 ⟨rfl, hb⟩; refine ⟨_, rfl, ?_⟩; have n0_ := Aside0.mk (blk_below (g := gb313) (o := .cells #[.int .i64 a0_0, .int .u32 a0_1, .int .u32 a0_2, .int .u32 a0_3, .slice A0_4 l0_4.length c0_4, .int .i64 a0_5] 37 (0, 0)) BK313.out hb); have n1_ := Aside0.mk (blk_below (g := gb314) (o := .cells #[.int .u16 0, .string (⟨#[]⟩ : ByteArray)] 40 (0, 0)) BK314.out hb); have n2_ := Aside0.mk (below_step HB.out hb); clear BK313; clear BK314; clear HB; have BK313 := n0_; have BK314 := n1_; have HB := n2_; clear n0_ n1_ n2_; (try clear hb); (try clear hb2); (try clear hk); (try clear hi); obtain ⟨hcz11_0, hcz11_1, hcz11_2, hcz11_3, hcz11_4, hcz11_5⟩ := XRun.bc6 BK313.out; obtain ⟨hfz11_0, hfz11_1, hfz11_2, hfz11_3, hfz11_4, hfz11_5⟩ := XRun.bf6 BK313.out) | ((with_reducible refine gate_callee (f := 42) rfl ?_); refine goesL_ (some 14) rfl rfl Try.func42 (by kernel_rfl) rfl #[.int .u32 a0_1] rfl (by (try simp only [List.map_toArray, List.map_cons, List.map_nil]); first | rfl) ?_; (with_reducible refine (tenancyref04_Put32.calls k a0_1 t316 _ A4.out).mono ?_); rintro e w12 ⟨rfl, hb⟩; refine ⟨_, rfl, ?_⟩; have n0_ := Aside0.mk (blk_below (g := gb313) (o := .cells #[.int .i64 a0_0, .int .u32 a0_1, .int .u32 a0_2, .int .u32 a0_3, .slice A0_4 l0_4.length c0_4, .int .i64 a0_5] 37 (0, 0)) BK313.out hb); have n1_ := Aside0.mk (blk_below (g := gb314) (o := .cells #[.int .u16 0, .string (⟨#[]⟩ : ByteArray)] 40 (0, 0)) BK314.out hb); have n2_ := Aside0.mk (below_step HB.out hb); clear BK313; clear BK314; clear HB; have BK313 := n0_; have BK314 := n1_; have HB := n2_; clear n0_ n1_ n2_; (try clear hb); (try clear hb2); (try clear hk); (try clear hi); obtain ⟨hcz13_0, hcz13_1, hcz13_2, hcz13_3, hcz13_4, hcz13_5⟩ := XRun.bc6 BK313.out; obtain ⟨hfz13_0, hfz13_1, hfz13_2, hfz13_3, hfz13_4, hfz13_5⟩ := XRun.bf6 BK313.out))
    (try simp only [Act.put, List.setIfInBounds_toArray, List.set_cons_zero, List.set_cons_succ])
    go_cut [4] (fun v4 wc => ∃ (kq : Nat) (x4_4 : ByteArray), v4 = .string x4_4 ∧ Aside0 (tenancyref15_PutIA.j0 kq x4_4 a0_0 a0_1 a0_2 a0_3 l0_4 a0_5 = some (r1, r2, r3)) ∧ Aside0 (kq ≤ k) ∧ Aside0 (wc.heap[gb313]? = some (.cells #[.int .i64 a0_0, .int .u32 a0_1, .int .u32 a0_2, .int .u32 a0_3, (.slice A0_4 l0_4.length c0_4), .int .i64 a0_5] 37 (0, 0))) ∧ Aside0 (wc.heap[gb314]? = some (.cells #[.int .u16 0, .string (⟨#[]⟩ : ByteArray)] 40 (0, 0))) ∧ Aside0 (Below w.heap.size w wc))
    case first =>
      have H := HC5.out
      clear HC5
      by_cases c14 : a0_0 = 3
      · rw [if_pos c14] at H
        have c14b0 : (a0_0 == 3) = true := beq_iff_eq.mpr c14
        have c14b1 : (a0_0 != 3) = false := bne_eq_false_iff_eq.mpr c14
        clear c14
        (first | skip)
        have H' := Aside0.mk H
        clear H
        go_wp2
        go_meet
        case rel => exact ⟨_, (t316), (by rfl), H', ⟨by omega⟩, ⟨by exact BK313.out⟩, ⟨by exact BK314.out⟩, ⟨by exact HB.out⟩⟩
      · rw [if_neg c14] at H
        have c14b0 : (a0_0 == 3) = false := beq_eq_false_iff_ne.mpr c14
        have c14b1 : (a0_0 != 3) = true := bne_iff_ne.mpr c14
        (first | skip)
        replace H := Option.bind_eq_some_iff.mp H
        obtain ⟨t317, A150, H⟩ := H
        replace H : (if t316.size + t317.size ≤ 9223372036854775807 then ((tenancyref04_Put32.f k a0_3).bind fun t318 => (if (t316 ++ t317).size + t318.size ≤ 9223372036854775807 then (tenancyref15_PutIA.j0 k ((t316 ++ t317) ++ t318) a0_0 a0_1 a0_2 a0_3 l0_4 a0_5) else (none))) else (none)) = some (r1, r2, r3) := H
        have A15 := Aside0.mk A150
        clear A150
        by_cases c16 : t316.size + t317.size ≤ 9223372036854775807
        · rw [if_pos c16] at H
          have c16b0 := eq_true c16
          have c16b1 : decide (t316.size + t317.size ≤ 9223372036854775807) = true := decide_eq_true c16
          try have c16b2 : (9223372036854775807 < t316.size + t317.size) = False := eq_false (Nat.not_lt.2 c16)
          replace H := Option.bind_eq_some_iff.mp H
          obtain ⟨t318, A170, H⟩ := H
          replace H : (if (t316 ++ t317).size + t318.size ≤ 9223372036854775807 then (tenancyref15_PutIA.j0 k ((t316 ++ t317) ++ t318) a0_0 a0_1 a0_2 a0_3 l0_4 a0_5) else (none)) = some (r1, r2, r3) := H
          have A17 := Aside0.mk A170
          clear A170
          by_cases c18 : (t316 ++ t317).size + t318.size ≤ 9223372036854775807
          · rw [if_pos c18] at H
            have c18b0 := eq_true c18
            have c18b1 : decide ((t316 ++ t317).size + t318.size ≤ 9223372036854775807) = true := decide_eq_true c18
            try have c18b2 : (9223372036854775807 < (t316 ++ t317).size + t318.size) = False := eq_false (Nat.not_lt.2 c18)
            (try (have c18b2a := c18b2; simp only [ByteArray.size_append] at c18b2a))
            have H' := Aside0.mk H
            clear H
            try go_wp2
            have n0_ := Aside0.mk (blk_drew BK313.out)
            have n1_ := Aside0.mk (blk_drew BK314.out)
            have n2_ := Aside0.mk (below_drew1 HB.out)
            clear BK313
            clear BK314
            clear HB
            have BK313 := n0_
            have BK314 := n1_
            have HB := n2_
            clear n0_ n1_ n2_
            refine start_ (n := 10) (S := fun w' => w'.cell? ⟨gb313, 0, none⟩ = some (.int .i64 a0_0) ∧ w'.cell? ⟨gb313, 1, none⟩ = some (.int .u32 a0_1) ∧ w'.cell? ⟨gb313, 2, none⟩ = some (.int .u32 a0_2) ∧ w'.cell? ⟨gb313, 3, none⟩ = some (.int .u32 a0_3) ∧ w'.cell? ⟨gb313, 4, none⟩ = some (.slice A0_4 l0_4.length c0_4) ∧ w'.cell? ⟨gb313, 5, none⟩ = some (.int .i64 a0_5)) (ds := []) #[false, false, false, false, false, false, false, false, false, false] (by kernel_rfl) rfl rfl ⟨(blk_cell BK313.out 0).trans rfl, (blk_cell BK313.out 1).trans rfl, (blk_cell BK313.out 2).trans rfl, (blk_cell BK313.out 3).trans rfl, (blk_cell BK313.out 4).trans rfl, (blk_cell BK313.out 5).trans rfl⟩ (fun hHeld => ?_); refine with_tabW tenancyref15_PutIA.tab5 tenancyref15_PutIA.bits5 (fun HT_ HW_ => ?_)
            generalize w12.drew = w19 at BK313 BK314 HB hHeld ⊢
            refine pure_ (i := 0) (N := some 18) (v := ?_) (a' := ?_) #[true, false, false, false, false, false, false, false, false, false] rfl rfl (any_of HT_.out (by kernel_rfl)) (fun _ _ _ h => h) (Or.inl ⟨by rfl, ?_⟩) ?_ ?_
            rotate_left
            · intro w'
              go_simp
              with_reducible rfl
            rotate_left
            · simp only [Act.put, List.setIfInBounds_toArray, List.set_cons_zero, List.set_cons_succ, i64_w, i32_w]
              rfl
            refine pure_ (i := 1) (N := some 19) (v := ?_) (a' := ?_) #[true, true, false, false, false, false, false, false, false, false] rfl rfl (any_of HT_.out (by kernel_rfl)) (fun _ _ _ h => h) (Or.inl ⟨by rfl, ?_⟩) ?_ ?_
            rotate_left
            · intro w'
              go_simp
              with_reducible rfl
            rotate_left
            · simp only [Act.put, List.setIfInBounds_toArray, List.set_cons_zero, List.set_cons_succ, i64_w, i32_w]
              rfl
            refine pure_ (i := 5) (N := some 23) (v := ?_) (a' := ?_) #[true, true, false, false, false, true, false, false, false, false] rfl rfl (any_of HT_.out (by kernel_rfl)) (fun _ _ _ h => h) (Or.inl ⟨by rfl, ?_⟩) ?_ ?_
            rotate_left
            · intro w'
              go_simp
              with_reducible rfl
            rotate_left
            · simp only [Act.put, List.setIfInBounds_toArray, List.set_cons_zero, List.set_cons_succ, i64_w, i32_w]
              rfl
            refine take_ (i := 2) (N := some 20) (v := ?_) (a' := ?_) #[true, true, true, false, false, true, false, false, false, false] rfl rfl (take_ofW HT_.out HW_.out (by kernel_rfl)) (fun _ _ _ h => h) (Or.inl ⟨by rfl, ?_⟩) hHeld ?_ ?_
            rotate_left
            · rintro w' ⟨s0, s1, s2, s3, s4, s5⟩
              go_simp
              with_reducible rfl
            rotate_left
            · simp only [Act.put, List.setIfInBounds_toArray, List.set_cons_zero, List.set_cons_succ, i64_w, i32_w]
              rfl
            refine take_ (i := 6) (N := some 24) (v := ?_) (a' := ?_) #[true, true, true, false, false, true, true, false, false, false] rfl rfl (take_ofW HT_.out HW_.out (by kernel_rfl)) (fun _ _ _ h => h) (Or.inl ⟨by rfl, ?_⟩) hHeld ?_ ?_
            rotate_left
            · rintro w' ⟨s0, s1, s2, s3, s4, s5⟩
              go_simp
              with_reducible rfl
            rotate_left
            · simp only [Act.put, List.setIfInBounds_toArray, List.set_cons_zero, List.set_cons_succ, i64_w, i32_w]
              rfl
            refine one_ (i := 3) (N := some 21) #[true, true, true, true, false, true, true, false, false, false] rfl rfl (one_of HT_.out (by kernel_rfl)) (by decide) (fun K hK => ?_)
            refine goes_ Try.func42 (by kernel_rfl) rfl #[.int .u32 a0_2] (by rfl) rfl rfl (by (try simp only [List.map_toArray, List.map_cons, List.map_nil]); first | rfl) ?_
            with_reducible refine (tenancyref04_Put32.calls k a0_2 t317 _ A15.out).mono ?_
            rintro e w20 ⟨rfl, hb⟩
            refine ⟨_, rfl, ?_⟩
            have n0_ := Aside0.mk (blk_below (g := gb313) (o := .cells #[.int .i64 a0_0, .int .u32 a0_1, .int .u32 a0_2, .int .u32 a0_3, .slice A0_4 l0_4.length c0_4, .int .i64 a0_5] 37 (0, 0)) BK313.out hb)
            have n1_ := Aside0.mk (blk_below (g := gb314) (o := .cells #[.int .u16 0, .string (⟨#[]⟩ : ByteArray)] 40 (0, 0)) BK314.out hb)
            have n2_ := Aside0.mk (below_step HB.out hb)
            clear BK313
            clear BK314
            clear HB
            have BK313 := n0_
            have BK314 := n1_
            have HB := n2_
            clear n0_ n1_ n2_
            (try clear hb)
            (try clear hb2)
            (try clear hk)
            (try clear hi)
            refine hK.out _ _ ⟨(blk_cell BK313.out 0).trans rfl, (blk_cell BK313.out 1).trans rfl, (blk_cell BK313.out 2).trans rfl, (blk_cell BK313.out 3).trans rfl, (blk_cell BK313.out 4).trans rfl, (blk_cell BK313.out 5).trans rfl⟩ (fun hHeld => ?_)
            clear hK K
            refine norm_ (a' := ?_) ?_ ?_
            rotate_left
            · show Act.put _ (some 21) _ = _
              simp only [Act.put, List.setIfInBounds_toArray, List.set_cons_zero, List.set_cons_succ, i64_w, i32_w]
              rfl
            refine pure_ (i := 4) (N := some 22) (v := ?_) (a' := ?_) #[true, true, true, true, true, true, true, false, false, false] rfl rfl (any_of HT_.out (by kernel_rfl)) (fun _ _ _ h => h) (Or.inl ⟨by rfl, ?_⟩) ?_ ?_
            rotate_left
            · intro w'
              go_simp
              with_reducible rfl
            rotate_left
            · simp only [Act.put, List.setIfInBounds_toArray, List.set_cons_zero, List.set_cons_succ, i64_w, i32_w]
              rfl
            refine one_ (i := 7) (N := some 25) #[true, true, true, true, true, true, true, true, false, false] rfl rfl (one_of HT_.out (by kernel_rfl)) (by decide) (fun K hK => ?_)
            refine goes_ Try.func42 (by kernel_rfl) rfl #[.int .u32 a0_3] (by rfl) rfl rfl (by (try simp only [List.map_toArray, List.map_cons, List.map_nil]); first | rfl) ?_
            with_reducible refine (tenancyref04_Put32.calls k a0_3 t318 _ A17.out).mono ?_
            rintro e w21 ⟨rfl, hb⟩
            refine ⟨_, rfl, ?_⟩
            have n0_ := Aside0.mk (blk_below (g := gb313) (o := .cells #[.int .i64 a0_0, .int .u32 a0_1, .int .u32 a0_2, .int .u32 a0_3, .slice A0_4 l0_4.length c0_4, .int .i64 a0_5] 37 (0, 0)) BK313.out hb)
            have n1_ := Aside0.mk (blk_below (g := gb314) (o := .cells #[.int .u16 0, .string (⟨#[]⟩ : ByteArray)] 40 (0, 0)) BK314.out hb)
            have n2_ := Aside0.mk (below_step HB.out hb)
            clear BK313
            clear BK314
            clear HB
            have BK313 := n0_
            have BK314 := n1_
            have HB := n2_
            clear n0_ n1_ n2_
            (try clear hb)
            (try clear hb2)
            (try clear hk)
            (try clear hi)
            refine hK.out _ _ ⟨(blk_cell BK313.out 0).trans rfl, (blk_cell BK313.out 1).trans rfl, (blk_cell BK313.out 2).trans rfl, (blk_cell BK313.out 3).trans rfl, (blk_cell BK313.out 4).trans rfl, (blk_cell BK313.out 5).trans rfl⟩ (fun hHeld => ?_)
            clear hK K
            refine norm_ (a' := ?_) ?_ ?_
            rotate_left
            · show Act.put _ (some 25) _ = _
              simp only [Act.put, List.setIfInBounds_toArray, List.set_cons_zero, List.set_cons_succ, i64_w, i32_w]
              rfl
            refine pure_ (i := 8) (N := some 26) (v := ?_) (a' := ?_) #[true, true, true, true, true, true, true, true, true, false] rfl rfl (any_of HT_.out (by kernel_rfl)) (fun _ _ _ h => h) (Or.inl ⟨by rfl, ?_⟩) ?_ ?_
            rotate_left
            · intro w'
              go_simp
              with_reducible rfl
            rotate_left
            · simp only [Act.put, List.setIfInBounds_toArray, List.set_cons_zero, List.set_cons_succ, i64_w, i32_w]
              rfl
            refine pure_ (i := 9) (N := some 4) (v := ?_) (a' := ?_) #[true, true, true, true, true, true, true, true, true, true] rfl rfl (any_of HT_.out (by kernel_rfl)) (fun _ _ _ h => h) (Or.inl ⟨by rfl, ?_⟩) ?_ ?_
            rotate_left
            · intro w'
              go_simp
              with_reducible rfl
            rotate_left
            · simp only [Act.put, List.setIfInBounds_toArray, List.set_cons_zero, List.set_cons_succ, i64_w, i32_w]
              rfl
            refine done_ (done_of HT_.out (by kernel_rfl)) ?_
            try go_wp2
            go_meet
            case rel => exact ⟨_, ((t316 ++ t317) ++ t318), (by rfl), H', ⟨by omega⟩, ⟨by exact BK313.out⟩, ⟨by exact BK314.out⟩, ⟨by exact HB.out⟩⟩
          · rw [if_neg c18] at H
            exact absurd H (by simp)
        · rw [if_neg c16] at H
          exact absurd H (by simp)
    case rest =>
      clear HC5
      try clear c1
      try clear c2
      try clear p2
      try clear c3
      try clear c4
      try clear c8
      try clear c14
      try clear c14b0
      try clear c14b1
      try clear c16
      try clear c16b0
      try clear c16b1
      try clear c16b2
      try clear c18
      try clear c18b0
      try clear c18b1
      try clear c18b2
      try clear c20
      try clear hcz11_0
      try clear hcz11_1
      try clear hcz11_2
      try clear hcz11_3
      try clear hcz11_4
      try clear hcz11_5
      try clear hcz13_0
      try clear hcz13_1
      try clear hcz13_2
      try clear hcz13_3
      try clear hcz13_4
      try clear hcz13_5
      try clear hcz9_0
      try clear hcz9_1
      try clear hcz9_2
      try clear hcz9_3
      try clear hcz9_4
      try clear hcz9_5
      try clear hfz11_0
      try clear hfz11_1
      try clear hfz11_2
      try clear hfz11_3
      try clear hfz11_4
      try clear hfz11_5
      try clear hfz13_0
      try clear hfz13_1
      try clear hfz13_2
      try clear hfz13_3
      try clear hfz13_4
      try clear hfz13_5
      try clear hfz9_0
      try clear hfz9_1
      try clear hfz9_2
      try clear hfz9_3
      try clear hfz9_4
      try clear hfz9_5
      obtain ⟨kq, x4_4, rfl, HA, HJ4, BK313, BK314, HB⟩ := hcut
      cases kq with
      | zero => exact absurd HA.out (by simp [tenancyref15_PutIA.j0])
      | succ kj4 =>
        have H := HA.out
        clear HA
        simp only [tenancyref15_PutIA.j0] at H
        have H' := Aside0.mk H
        clear H
        go_wp2
        go_loopg [4, 5] kj4 (fun kq v4 v5 w' => ∃ (x4_2 : ByteArray) (x5_2 : Int), v4 = .string x4_2 ∧ v5 = .int .i64 x5_2 ∧ Aside0 (tenancyref15_PutIA.l0 kq x4_2 x5_2 a0_0 a0_1 a0_2 a0_3 l0_4 a0_5 = some (r1, r2, r3)) ∧ Aside0 (kq ≤ kj4) ∧ Aside0 (w'.heap[gb313]? = some (.cells #[.int .i64 a0_0, .int .u32 a0_1, .int .u32 a0_2, .int .u32 a0_3, (.slice A0_4 l0_4.length c0_4), .int .i64 a0_5] 37 (0, 0))) ∧ Aside0 (w'.heap[gb314]? = some (.cells #[.int .u16 0, .string (⟨#[]⟩ : ByteArray)] 40 (0, 0))) ∧ Aside0 (Below w.heap.size w w'))
        case atStart => exact ⟨(x4_4), (0), (by rfl), (by rfl), H', ⟨Nat.le_refl _⟩, ⟨by exact BK313.out⟩, ⟨by exact BK314.out⟩, ⟨by exact HB.out⟩⟩
        case round =>
          clear H'
          try clear c1
          try clear c2
          try clear p2
          try clear c3
          try clear c4
          try clear c8
          try clear c14
          try clear c14b0
          try clear c14b1
          try clear c16
          try clear c16b0
          try clear c16b1
          try clear c16b2
          try clear c18
          try clear c18b0
          try clear c18b1
          try clear c18b2
          try clear c20
          try clear hcz11_0
          try clear hcz11_1
          try clear hcz11_2
          try clear hcz11_3
          try clear hcz11_4
          try clear hcz11_5
          try clear hcz13_0
          try clear hcz13_1
          try clear hcz13_2
          try clear hcz13_3
          try clear hcz13_4
          try clear hcz13_5
          try clear hcz9_0
          try clear hcz9_1
          try clear hcz9_2
          try clear hcz9_3
          try clear hcz9_4
          try clear hcz9_5
          try clear hfz11_0
          try clear hfz11_1
          try clear hfz11_2
          try clear hfz11_3
          try clear hfz11_4
          try clear hfz11_5
          try clear hfz13_0
          try clear hfz13_1
          try clear hfz13_2
          try clear hfz13_3
          try clear hfz13_4
          try clear hfz13_5
          try clear hfz9_0
          try clear hfz9_1
          try clear hfz9_2
          try clear hfz9_3
          try clear hfz9_4
          try clear hfz9_5
          try clear p2
          obtain ⟨x4_2, x5_2, rfl, rfl, HA, HK2, BK313, BK314, HB⟩ := hrel
          cases gk with
          | zero => exact absurd HA.out (by simp [tenancyref15_PutIA.l0])
          | succ k2 =>
            have H := HA.out
            clear HA
            simp only [tenancyref15_PutIA.l0] at H
            by_cases c22 : x5_2 < (l0_4.length : Int)
            · rw [if_pos c22] at H
              have c22b0 : decide (x5_2 < (l0_4.length : Int)) = true := decide_eq_true c22
              clear c22
              by_cases c23 : 0 ≤ x5_2
              · rw [if_pos c23] at H
                have c23b0 : decide (0 ≤ x5_2) = true := decide_eq_true c23
                clear c23
                replace H := Option.bind_eq_some_iff.mp H
                obtain ⟨t323, A240, H⟩ := H
                replace H : ((tenancyref04_Put32.f k2 ((rd_T76 l0_4 x5_2).f2)).bind fun t324 => (if t323.size + t324.size ≤ 9223372036854775807 then (if a0_0 = 4 then ((some (([((rd_T76 l0_4 x5_2).f0.f1) % 256] : List Int) : List Int)).bind fun y325 => (if (t323 ++ t324).size + (strOfNums y325).size ≤ 9223372036854775807 then ((tenancyref04_PutAddr.f k2 ((rd_T76 l0_4 x5_2).f0.f0.f0) ((rd_T76 l0_4 x5_2).f0.f0.f1)).bind fun t328 => (if ((t323 ++ t324) ++ (strOfNums y325)).size + t328.size ≤ 9223372036854775807 then ((tenancyref15_statusOption.f k2 ((rd_T76 l0_4 x5_2).f3)).bind fun t329 => (if (((t323 ++ t324) ++ (strOfNums y325)) ++ t328).size + t329.size ≤ 9223372036854775807 then ((tenancyref15_option.f k2 26 ((((t323 ++ t324) ++ (strOfNums y325)) ++ t328) ++ t329)).bind fun t330 => (if x4_2.size + t330.size ≤ 9223372036854775807 then (tenancyref15_PutIA.l0 k2 (x4_2 ++ t330) (wrap64 (x5_2 + 1)) a0_0 a0_1 a0_2 a0_3 l0_4 a0_5) else (none))) else (none))) else (none))) else (none))) else ((tenancyref04_PutAddr.f k2 ((rd_T76 l0_4 x5_2).f0.f0.f0) ((rd_T76 l0_4 x5_2).f0.f0.f1)).bind fun t331 => (if t331.size + (t323 ++ t324).size ≤ 9223372036854775807 then ((tenancyref15_statusOption.f k2 ((rd_T76 l0_4 x5_2).f3)).bind fun t332 => (if (t331 ++ (t323 ++ t324)).size + t332.size ≤ 9223372036854775807 then ((tenancyref15_option.f k2 5 ((t331 ++ (t323 ++ t324)) ++ t332)).bind fun t333 => (if x4_2.size + t333.size ≤ 9223372036854775807 then (tenancyref15_PutIA.l0 k2 (x4_2 ++ t333) (wrap64 (x5_2 + 1)) a0_0 a0_1 a0_2 a0_3 l0_4 a0_5) else (none))) else (none))) else (none)))) else (none))) = some (r1, r2, r3) := H
                have A24 := Aside0.mk A240
                clear A240
                replace H := Option.bind_eq_some_iff.mp H
                obtain ⟨t324, A250, H⟩ := H
                replace H : (if t323.size + t324.size ≤ 9223372036854775807 then (if a0_0 = 4 then ((some (([((rd_T76 l0_4 x5_2).f0.f1) % 256] : List Int) : List Int)).bind fun y325 => (if (t323 ++ t324).size + (strOfNums y325).size ≤ 9223372036854775807 then ((tenancyref04_PutAddr.f k2 ((rd_T76 l0_4 x5_2).f0.f0.f0) ((rd_T76 l0_4 x5_2).f0.f0.f1)).bind fun t328 => (if ((t323 ++ t324) ++ (strOfNums y325)).size + t328.size ≤ 9223372036854775807 then ((tenancyref15_statusOption.f k2 ((rd_T76 l0_4 x5_2).f3)).bind fun t329 => (if (((t323 ++ t324) ++ (strOfNums y325)) ++ t328).size + t329.size ≤ 9223372036854775807 then ((tenancyref15_option.f k2 26 ((((t323 ++ t324) ++ (strOfNums y325)) ++ t328) ++ t329)).bind fun t330 => (if x4_2.size + t330.size ≤ 9223372036854775807 then (tenancyref15_PutIA.l0 k2 (x4_2 ++ t330) (wrap64 (x5_2 + 1)) a0_0 a0_1 a0_2 a0_3 l0_4 a0_5) else (none))) else (none))) else (none))) else (none))) else ((tenancyref04_PutAddr.f k2 ((rd_T76 l0_4 x5_2).f0.f0.f0) ((rd_T76 l0_4 x5_2).f0.f0.f1)).bind fun t331 => (if t331.size + (t323 ++ t324).size ≤ 9223372036854775807 then ((tenancyref15_statusOption.f k2 ((rd_T76 l0_4 x5_2).f3)).bind fun t332 => (if (t331 ++ (t323 ++ t324)).size + t332.size ≤ 9223372036854775807 then ((tenancyref15_option.f k2 5 ((t331 ++ (t323 ++ t324)) ++ t332)).bind fun t333 => (if x4_2.size + t333.size ≤ 9223372036854775807 then (tenancyref15_PutIA.l0 k2 (x4_2 ++ t333) (wrap64 (x5_2 + 1)) a0_0 a0_1 a0_2 a0_3 l0_4 a0_5) else (none))) else (none))) else (none)))) else (none)) = some (r1, r2, r3) := H
                have A25 := Aside0.mk A250
                clear A250
                by_cases c26 : t323.size + t324.size ≤ 9223372036854775807
                · rw [if_pos c26] at H
                  have c26b0 := eq_true c26
                  have c26b1 : decide (t323.size + t324.size ≤ 9223372036854775807) = true := decide_eq_true c26
                  try have c26b2 : (9223372036854775807 < t323.size + t324.size) = False := eq_false (Nat.not_lt.2 c26)
                  by_cases c27 : a0_0 = 4
                  · rw [if_pos c27] at H
                    have c27b0 : (a0_0 == 4) = true := beq_iff_eq.mpr c27
                    have c27b1 : (a0_0 != 4) = false := bne_eq_false_iff_eq.mpr c27
                    clear c27
                    obtain ⟨y325, hy325⟩ : ∃ y_ : List Int, y_ = (([((rd_T76 l0_4 x5_2).f0.f1) % 256] : List Int)) := ⟨_, rfl⟩
                    replace H : (if (t323 ++ t324).size + (strOfNums y325).size ≤ 9223372036854775807 then ((tenancyref04_PutAddr.f k2 ((rd_T76 l0_4 x5_2).f0.f0.f0) ((rd_T76 l0_4 x5_2).f0.f0.f1)).bind fun t328 => (if ((t323 ++ t324) ++ (strOfNums y325)).size + t328.size ≤ 9223372036854775807 then ((tenancyref15_statusOption.f k2 ((rd_T76 l0_4 x5_2).f3)).bind fun t329 => (if (((t323 ++ t324) ++ (strOfNums y325)) ++ t328).size + t329.size ≤ 9223372036854775807 then ((tenancyref15_option.f k2 26 ((((t323 ++ t324) ++ (strOfNums y325)) ++ t328) ++ t329)).bind fun t330 => (if x4_2.size + t330.size ≤ 9223372036854775807 then (tenancyref15_PutIA.l0 k2 (x4_2 ++ t330) (wrap64 (x5_2 + 1)) a0_0 a0_1 a0_2 a0_3 l0_4 a0_5) else (none))) else (none))) else (none))) else (none)) = some (r1, r2, r3) := by first | (have H2_ := (Option.bind_some _ _).symm.trans H; rw [hy325]; with_reducible exact H2_)
                    have Ny325 := Aside0.mk hy325
                    clear hy325
                    by_cases c28 : (t323 ++ t324).size + (strOfNums y325).size ≤ 9223372036854775807
                    · rw [if_pos c28] at H
                      have c28b0 := eq_true c28
                      have c28b1 : decide ((t323 ++ t324).size + (strOfNums y325).size ≤ 9223372036854775807) = true := decide_eq_true c28
                      try have c28b2 : (9223372036854775807 < (t323 ++ t324).size + (strOfNums y325).size) = False := eq_false (Nat.not_lt.2 c28)
                      (try (have c28b2a := c28b2; simp only [ByteArray.size_append] at c28b2a))
                      replace H := Option.bind_eq_some_iff.mp H
                      obtain ⟨t328, A290, H⟩ := H
                      replace H : (if ((t323 ++ t324) ++ (strOfNums y325)).size + t328.size ≤ 9223372036854775807 then ((tenancyref15_statusOption.f k2 ((rd_T76 l0_4 x5_2).f3)).bind fun t329 => (if (((t323 ++ t324) ++ (strOfNums y325)) ++ t328).size + t329.size ≤ 9223372036854775807 then ((tenancyref15_option.f k2 26 ((((t323 ++ t324) ++ (strOfNums y325)) ++ t328) ++ t329)).bind fun t330 => (if x4_2.size + t330.size ≤ 9223372036854775807 then (tenancyref15_PutIA.l0 k2 (x4_2 ++ t330) (wrap64 (x5_2 + 1)) a0_0 a0_1 a0_2 a0_3 l0_4 a0_5) else (none))) else (none))) else (none)) = some (r1, r2, r3) := H
                      have A29 := Aside0.mk A290
                      clear A290
                      by_cases c30 : ((t323 ++ t324) ++ (strOfNums y325)).size + t328.size ≤ 9223372036854775807
                      · rw [if_pos c30] at H
                        have c30b0 := eq_true c30
                        have c30b1 : decide (((t323 ++ t324) ++ (strOfNums y325)).size + t328.size ≤ 9223372036854775807) = true := decide_eq_true c30
                        try have c30b2 : (9223372036854775807 < ((t323 ++ t324) ++ (strOfNums y325)).size + t328.size) = False := eq_false (Nat.not_lt.2 c30)
                        (try (have c30b2a := c30b2; simp only [ByteArray.size_append] at c30b2a))
                        replace H := Option.bind_eq_some_iff.mp H
                        obtain ⟨t329, A310, H⟩ := H
                        replace H : (if (((t323 ++ t324) ++ (strOfNums y325)) ++ t328).size + t329.size ≤ 9223372036854775807 then ((tenancyref15_option.f k2 26 ((((t323 ++ t324) ++ (strOfNums y325)) ++ t328) ++ t329)).bind fun t330 => (if x4_2.size + t330.size ≤ 9223372036854775807 then (tenancyref15_PutIA.l0 k2 (x4_2 ++ t330) (wrap64 (x5_2 + 1)) a0_0 a0_1 a0_2 a0_3 l0_4 a0_5) else (none))) else (none)) = some (r1, r2, r3) := H
                        have A31 := Aside0.mk A310
                        clear A310
                        by_cases c32 : (((t323 ++ t324) ++ (strOfNums y325)) ++ t328).size + t329.size ≤ 9223372036854775807
                        · rw [if_pos c32] at H
                          have c32b0 := eq_true c32
                          have c32b1 : decide ((((t323 ++ t324) ++ (strOfNums y325)) ++ t328).size + t329.size ≤ 9223372036854775807) = true := decide_eq_true c32
                          try have c32b2 : (9223372036854775807 < (((t323 ++ t324) ++ (strOfNums y325)) ++ t328).size + t329.size) = False := eq_false (Nat.not_lt.2 c32)
                          (try (have c32b2a := c32b2; simp only [ByteArray.size_append] at c32b2a))
                          replace H := Option.bind_eq_some_iff.mp H
                          obtain ⟨t330, A330, H⟩ := H
                          replace H : (if x4_2.size + t330.size ≤ 9223372036854775807 then (tenancyref15_PutIA.l0 k2 (x4_2 ++ t330) (wrap64 (x5_2 + 1)) a0_0 a0_1 a0_2 a0_3 l0_4 a0_5) else (none)) = some (r1, r2, r3) := H
                          have A33 := Aside0.mk A330
                          clear A330
                          by_cases c34 : x4_2.size + t330.size ≤ 9223372036854775807
                          · rw [if_pos c34] at H
                            have c34b0 := eq_true c34
                            have c34b1 : decide (x4_2.size + t330.size ≤ 9223372036854775807) = true := decide_eq_true c34
                            try have c34b2 : (9223372036854775807 < x4_2.size + t330.size) = False := eq_false (Nat.not_lt.2 c34)
                            have H' := Aside0.mk H
                            clear H
                            have hnb35 := NB313_314.out
                            have hnc35 := NB314_313.out
                            obtain ⟨hcz36_0, hcz36_1, hcz36_2, hcz36_3, hcz36_4, hcz36_5⟩ := XRun.bc6 BK313.out
                            obtain ⟨hfz36_0, hfz36_1, hfz36_2, hfz36_3, hfz36_4, hfz36_5⟩ := XRun.bf6 BK313.out
                            have p321 : 0 ≤ (x5_2 : Int) := of_decide_eq_true (by first | (with_reducible assumption))
                            have q321 : x5_2 < (l0_4.length : Int) := of_decide_eq_true (by first | (with_reducible assumption))
                            obtain ⟨ad321, e321, hx321_0, hx321_1, hx321_2, hx321_3, hx321_4, hx321_5⟩ := at_T76 HR0_4.out x5_2 p321 q321
                            cases e321
                            replace hx321_0 := (HB.out.cell (World.block_lt_of_cell? w _ hx321_0)).trans hx321_0
                            replace hx321_1 := (HB.out.cell (World.block_lt_of_cell? w _ hx321_1)).trans hx321_1
                            replace hx321_2 := (HB.out.cell (World.block_lt_of_cell? w _ hx321_2)).trans hx321_2
                            replace hx321_3 := (HB.out.cell (World.block_lt_of_cell? w _ hx321_3)).trans hx321_3
                            replace hx321_4 := (HB.out.cell (World.block_lt_of_cell? w _ hx321_4)).trans hx321_4
                            replace hx321_5 := (HB.out.cell (World.block_lt_of_cell? w _ hx321_5)).trans hx321_5
                            replace p321 := eq_true p321
                            replace q321 := eq_true q321
                            try go_wp2_with (first | ((with_reducible refine gate_dst (N := 6) rfl ?_); refine box_event ?hg (N := 6) ?hd (cs := #[.int .u64 0, .int .u64 0, .int .i64 0, .int .u32 0, .int .u32 0, .int .i64 0]) (t := 76) ?hr ?_; (case hd => rfl); (case hg => rfl); (case hr => go_simp; done); intro gb322 hg w37 hbox hb; have n0_ := Aside0.mk (blk_below (g := gb313) (o := .cells #[.int .i64 a0_0, .int .u32 a0_1, .int .u32 a0_2, .int .u32 a0_3, .slice (some ad321) l0_4.length c0_4, .int .i64 a0_5] 37 (0, 0)) BK313.out hb); have n1_ := Aside0.mk (blk_below (g := gb314) (o := .cells #[.int .u16 0, .string (⟨#[]⟩ : ByteArray)] 40 (0, 0)) BK314.out hb); have n2_ := Aside0.mk (below_step HB.out hb); have n3_ := Aside0.mk (hbox); have n4_ := Aside0.mk ((by rw [hg]; exact (below_size HB.out) : w.heap.size ≤ gb322)); have n5_ := Aside0.mk ((by rw [hg]; exact (below_size HB.out) : w.heap.size ≤ gb322)); have n6_ := Aside0.mk ((by rw [hg]; exact Nat.ne_of_lt (blk_lt (g := gb313) (o := .cells #[.int .i64 a0_0, .int .u32 a0_1, .int .u32 a0_2, .int .u32 a0_3, .slice (some ad321) l0_4.length c0_4, .int .i64 a0_5] 37 (0, 0)) BK313.out) : gb313 ≠ gb322)); have n7_ := Aside0.mk ((by rw [hg]; exact Nat.ne_of_gt (blk_lt (g := gb313) (o := .cells #[.int .i64 a0_0, .int .u32 a0_1, .int .u32 a0_2, .int .u32 a0_3, .slice (some ad321) l0_4.length c0_4, .int .i64 a0_5] 37 (0, 0)) BK313.out) : gb322 ≠ gb313)); have n8_ := Aside0.mk ((by rw [hg]; exact Nat.ne_of_lt (blk_lt (g := gb314) (o := .cells #[.int .u16 0, .string (⟨#[]⟩ : ByteArray)] 40 (0, 0)) BK314.out) : gb314 ≠ gb322)); have n9_ := Aside0.mk ((by rw [hg]; exact Nat.ne_of_gt (blk_lt (g := gb314) (o := .cells #[.int .u16 0, .string (⟨#[]⟩ : ByteArray)] 40 (0, 0)) BK314.out) : gb322 ≠ gb314)); clear BK313; clear BK314; clear HB; have BK313 := n0_; have BK314 := n1_; have HB := n2_; have BK322 := n3_; have GW322 := n4_; have GE322 := n5_; have NB313_322 := n6_; have NB322_313 := n7_; have NB314_322 := n8_; have NB322_314 := n9_; clear n0_ n1_ n2_ n3_ n4_ n5_ n6_ n7_ n8_ n9_; clear hb hbox hg; have hnb38 := NB322_313.out; have hnc38 := NB313_322.out; have hnb39 := NB322_314.out; have hnc39 := NB314_322.out; obtain ⟨hcz40_0, hcz40_1, hcz40_2, hcz40_3, hcz40_4, hcz40_5⟩ := XRun.bc6 BK322.out; obtain ⟨hfz40_0, hfz40_1, hfz40_2, hfz40_3, hfz40_4, hfz40_5⟩ := XRun.bf6 BK322.out))
                            have n0_ : Aside0 (((((((w37.setCell ⟨gb322, 0, none⟩ (.int .u64 ((rd_T76 l0_4 x5_2).f0.f0.f0))).setCell ⟨gb322, 1, none⟩ (.int .u64 ((rd_T76 l0_4 x5_2).f0.f0.f1))).setCell ⟨gb322, 2, none⟩ (.int .i64 ((rd_T76 l0_4 x5_2).f0.f1))).setCell ⟨gb322, 3, none⟩ (.int .u32 ((rd_T76 l0_4 x5_2).f1))).setCell ⟨gb322, 4, none⟩ (.int .u32 ((rd_T76 l0_4 x5_2).f2))).setCell ⟨gb322, 5, none⟩ (.int .i64 ((rd_T76 l0_4 x5_2).f3))).heap[gb313]? = some (.cells #[.int .i64 a0_0, .int .u32 a0_1, .int .u32 a0_2, .int .u32 a0_3, .slice (some ad321) l0_4.length c0_4, .int .i64 a0_5] 37 (0, 0))) := ⟨by refine blk_far ?_ NB313_322.out _; refine blk_far ?_ NB313_322.out _; refine blk_far ?_ NB313_322.out _; refine blk_far ?_ NB313_322.out _; refine blk_far ?_ NB313_322.out _; refine blk_far ?_ NB313_322.out _; exact BK313.out⟩
                            have n1_ : Aside0 (((((((w37.setCell ⟨gb322, 0, none⟩ (.int .u64 ((rd_T76 l0_4 x5_2).f0.f0.f0))).setCell ⟨gb322, 1, none⟩ (.int .u64 ((rd_T76 l0_4 x5_2).f0.f0.f1))).setCell ⟨gb322, 2, none⟩ (.int .i64 ((rd_T76 l0_4 x5_2).f0.f1))).setCell ⟨gb322, 3, none⟩ (.int .u32 ((rd_T76 l0_4 x5_2).f1))).setCell ⟨gb322, 4, none⟩ (.int .u32 ((rd_T76 l0_4 x5_2).f2))).setCell ⟨gb322, 5, none⟩ (.int .i64 ((rd_T76 l0_4 x5_2).f3))).heap[gb314]? = some (.cells #[.int .u16 0, .string (⟨#[]⟩ : ByteArray)] 40 (0, 0))) := ⟨by refine blk_far ?_ NB314_322.out _; refine blk_far ?_ NB314_322.out _; refine blk_far ?_ NB314_322.out _; refine blk_far ?_ NB314_322.out _; refine blk_far ?_ NB314_322.out _; refine blk_far ?_ NB314_322.out _; exact BK314.out⟩
                            have n2_ : Aside0 (((((((w37.setCell ⟨gb322, 0, none⟩ (.int .u64 ((rd_T76 l0_4 x5_2).f0.f0.f0))).setCell ⟨gb322, 1, none⟩ (.int .u64 ((rd_T76 l0_4 x5_2).f0.f0.f1))).setCell ⟨gb322, 2, none⟩ (.int .i64 ((rd_T76 l0_4 x5_2).f0.f1))).setCell ⟨gb322, 3, none⟩ (.int .u32 ((rd_T76 l0_4 x5_2).f1))).setCell ⟨gb322, 4, none⟩ (.int .u32 ((rd_T76 l0_4 x5_2).f2))).setCell ⟨gb322, 5, none⟩ (.int .i64 ((rd_T76 l0_4 x5_2).f3))).heap[gb322]? = some (.cells #[.int .u64 ((rd_T76 l0_4 x5_2).f0.f0.f0), .int .u64 ((rd_T76 l0_4 x5_2).f0.f0.f1), .int .i64 ((rd_T76 l0_4 x5_2).f0.f1), .int .u32 ((rd_T76 l0_4 x5_2).f1), .int .u32 ((rd_T76 l0_4 x5_2).f2), .int .i64 ((rd_T76 l0_4 x5_2).f3)] 76 (0, 0))) := ⟨by refine blk_put (cs := #[.int .u64 ((rd_T76 l0_4 x5_2).f0.f0.f0), .int .u64 ((rd_T76 l0_4 x5_2).f0.f0.f1), .int .i64 ((rd_T76 l0_4 x5_2).f0.f1), .int .u32 ((rd_T76 l0_4 x5_2).f1), .int .u32 ((rd_T76 l0_4 x5_2).f2), .int .i64 0]) ?_ 5 _ rfl; refine blk_put (cs := #[.int .u64 ((rd_T76 l0_4 x5_2).f0.f0.f0), .int .u64 ((rd_T76 l0_4 x5_2).f0.f0.f1), .int .i64 ((rd_T76 l0_4 x5_2).f0.f1), .int .u32 ((rd_T76 l0_4 x5_2).f1), .int .u32 0, .int .i64 0]) ?_ 4 _ rfl; refine blk_put (cs := #[.int .u64 ((rd_T76 l0_4 x5_2).f0.f0.f0), .int .u64 ((rd_T76 l0_4 x5_2).f0.f0.f1), .int .i64 ((rd_T76 l0_4 x5_2).f0.f1), .int .u32 0, .int .u32 0, .int .i64 0]) ?_ 3 _ rfl; refine blk_put (cs := #[.int .u64 ((rd_T76 l0_4 x5_2).f0.f0.f0), .int .u64 ((rd_T76 l0_4 x5_2).f0.f0.f1), .int .i64 0, .int .u32 0, .int .u32 0, .int .i64 0]) ?_ 2 _ rfl; refine blk_put (cs := #[.int .u64 ((rd_T76 l0_4 x5_2).f0.f0.f0), .int .u64 0, .int .i64 0, .int .u32 0, .int .u32 0, .int .i64 0]) ?_ 1 _ rfl; refine blk_put (cs := #[.int .u64 0, .int .u64 0, .int .i64 0, .int .u32 0, .int .u32 0, .int .i64 0]) ?_ 0 _ rfl; exact BK322.out⟩
                            have n3_ : Aside0 (Below w.heap.size w ((((((w37.setCell ⟨gb322, 0, none⟩ (.int .u64 ((rd_T76 l0_4 x5_2).f0.f0.f0))).setCell ⟨gb322, 1, none⟩ (.int .u64 ((rd_T76 l0_4 x5_2).f0.f0.f1))).setCell ⟨gb322, 2, none⟩ (.int .i64 ((rd_T76 l0_4 x5_2).f0.f1))).setCell ⟨gb322, 3, none⟩ (.int .u32 ((rd_T76 l0_4 x5_2).f1))).setCell ⟨gb322, 4, none⟩ (.int .u32 ((rd_T76 l0_4 x5_2).f2))).setCell ⟨gb322, 5, none⟩ (.int .i64 ((rd_T76 l0_4 x5_2).f3)))) := ⟨by repeat (first | (with_reducible first | exact HB.out | refine below_set ?_ GE322.out))⟩
                            (try clear BK313)
                            (try clear BK314)
                            (try clear BK322)
                            (try clear HB)
                            generalize ((((((w37.setCell ⟨gb322, 0, none⟩ (.int .u64 ((rd_T76 l0_4 x5_2).f0.f0.f0))).setCell ⟨gb322, 1, none⟩ (.int .u64 ((rd_T76 l0_4 x5_2).f0.f0.f1))).setCell ⟨gb322, 2, none⟩ (.int .i64 ((rd_T76 l0_4 x5_2).f0.f1))).setCell ⟨gb322, 3, none⟩ (.int .u32 ((rd_T76 l0_4 x5_2).f1))).setCell ⟨gb322, 4, none⟩ (.int .u32 ((rd_T76 l0_4 x5_2).f2))).setCell ⟨gb322, 5, none⟩ (.int .i64 ((rd_T76 l0_4 x5_2).f3))) = w41 at n0_ n1_ n2_ n3_ ⊢
                            have BK313 := n0_
                            have BK314 := n1_
                            have BK322 := n2_
                            have HB := n3_
                            clear n0_ n1_ n2_ n3_
                            have n0_ := Aside0.mk (blk_drew BK313.out)
                            have n1_ := Aside0.mk (blk_drew BK314.out)
                            have n2_ := Aside0.mk (blk_drew BK322.out)
                            have n3_ := Aside0.mk (below_drew1 HB.out)
                            clear BK313
                            clear BK314
                            clear BK322
                            clear HB
                            have BK313 := n0_
                            have BK314 := n1_
                            have BK322 := n2_
                            have HB := n3_
                            clear n0_ n1_ n2_ n3_
                            refine start_ (n := 8) (S := fun w' => w'.cell? ⟨gb322, 0, none⟩ = some (.int .u64 ((rd_T76 l0_4 x5_2).f0.f0.f0)) ∧ w'.cell? ⟨gb322, 1, none⟩ = some (.int .u64 ((rd_T76 l0_4 x5_2).f0.f0.f1)) ∧ w'.cell? ⟨gb322, 2, none⟩ = some (.int .i64 ((rd_T76 l0_4 x5_2).f0.f1)) ∧ w'.cell? ⟨gb322, 3, none⟩ = some (.int .u32 ((rd_T76 l0_4 x5_2).f1)) ∧ w'.cell? ⟨gb322, 4, none⟩ = some (.int .u32 ((rd_T76 l0_4 x5_2).f2)) ∧ w'.cell? ⟨gb322, 5, none⟩ = some (.int .i64 ((rd_T76 l0_4 x5_2).f3))) (ds := []) #[false, false, false, false, false, false, false, false] (by kernel_rfl) rfl rfl ⟨(blk_cell BK322.out 0).trans rfl, (blk_cell BK322.out 1).trans rfl, (blk_cell BK322.out 2).trans rfl, (blk_cell BK322.out 3).trans rfl, (blk_cell BK322.out 4).trans rfl, (blk_cell BK322.out 5).trans rfl⟩ (fun hHeld => ?_); refine with_tabW tenancyref15_PutIA.tab10 tenancyref15_PutIA.bits10 (fun HT_ HW_ => ?_)
                            generalize w41.drew = w42 at BK313 BK314 BK322 HB hHeld ⊢
                            refine pure_ (i := 0) (N := some 39) (v := ?_) (a' := ?_) #[true, false, false, false, false, false, false, false] rfl rfl (any_of HT_.out (by kernel_rfl)) (fun _ _ _ h => h) (Or.inl ⟨by rfl, ?_⟩) ?_ ?_
                            rotate_left
                            · intro w'
                              go_simp
                              with_reducible rfl
                            rotate_left
                            · simp only [Act.put, List.setIfInBounds_toArray, List.set_cons_zero, List.set_cons_succ, i64_w, i32_w]
                              rfl
                            refine pure_ (i := 3) (N := some 42) (v := ?_) (a' := ?_) #[true, false, false, true, false, false, false, false] rfl rfl (any_of HT_.out (by kernel_rfl)) (fun _ _ _ h => h) (Or.inl ⟨by rfl, ?_⟩) ?_ ?_
                            rotate_left
                            · intro w'
                              go_simp
                              with_reducible rfl
                            rotate_left
                            · simp only [Act.put, List.setIfInBounds_toArray, List.set_cons_zero, List.set_cons_succ, i64_w, i32_w]
                              rfl
                            refine take_ (i := 1) (N := some 40) (v := ?_) (a' := ?_) #[true, true, false, true, false, false, false, false] rfl rfl (take_ofW HT_.out HW_.out (by kernel_rfl)) (fun _ _ _ h => h) (Or.inl ⟨by rfl, ?_⟩) hHeld ?_ ?_
                            rotate_left
                            · rintro w' ⟨s0, s1, s2, s3, s4, s5⟩
                              go_simp
                              with_reducible rfl
                            rotate_left
                            · simp only [Act.put, List.setIfInBounds_toArray, List.set_cons_zero, List.set_cons_succ, i64_w, i32_w]
                              rfl
                            refine take_ (i := 4) (N := some 43) (v := ?_) (a' := ?_) #[true, true, false, true, true, false, false, false] rfl rfl (take_ofW HT_.out HW_.out (by kernel_rfl)) (fun _ _ _ h => h) (Or.inl ⟨by rfl, ?_⟩) hHeld ?_ ?_
                            rotate_left
                            · rintro w' ⟨s0, s1, s2, s3, s4, s5⟩
                              go_simp
                              with_reducible rfl
                            rotate_left
                            · simp only [Act.put, List.setIfInBounds_toArray, List.set_cons_zero, List.set_cons_succ, i64_w, i32_w]
                              rfl
                            refine one_ (i := 2) (N := some 41) #[true, true, true, true, true, false, false, false] rfl rfl (one_of HT_.out (by kernel_rfl)) (by decide) (fun K hK => ?_)
                            refine goes_ Try.func42 (by kernel_rfl) rfl #[.int .u32 ((rd_T76 l0_4 x5_2).f1)] (by rfl) rfl rfl (by (try simp only [List.map_toArray, List.map_cons, List.map_nil]); first | rfl) ?_
                            with_reducible refine (tenancyref04_Put32.calls k2 ((rd_T76 l0_4 x5_2).f1) t323 _ A24.out).mono ?_
                            rintro e w43 ⟨rfl, hb⟩
                            refine ⟨_, rfl, ?_⟩
                            have n0_ := Aside0.mk (blk_below (g := gb313) (o := .cells #[.int .i64 a0_0, .int .u32 a0_1, .int .u32 a0_2, .int .u32 a0_3, .slice (some ad321) l0_4.length c0_4, .int .i64 a0_5] 37 (0, 0)) BK313.out hb)
                            have n1_ := Aside0.mk (blk_below (g := gb314) (o := .cells #[.int .u16 0, .string (⟨#[]⟩ : ByteArray)] 40 (0, 0)) BK314.out hb)
                            have n2_ := Aside0.mk (blk_below (g := gb322) (o := .cells #[.int .u64 ((rd_T76 l0_4 x5_2).f0.f0.f0), .int .u64 ((rd_T76 l0_4 x5_2).f0.f0.f1), .int .i64 ((rd_T76 l0_4 x5_2).f0.f1), .int .u32 ((rd_T76 l0_4 x5_2).f1), .int .u32 ((rd_T76 l0_4 x5_2).f2), .int .i64 ((rd_T76 l0_4 x5_2).f3)] 76 (0, 0)) BK322.out hb)
                            have n3_ := Aside0.mk (below_step HB.out hb)
                            clear BK313
                            clear BK314
                            clear BK322
                            clear HB
                            have BK313 := n0_
                            have BK314 := n1_
                            have BK322 := n2_
                            have HB := n3_
                            clear n0_ n1_ n2_ n3_
                            (try clear hb)
                            (try clear hb2)
                            (try clear hk)
                            (try clear hi)
                            refine hK.out _ _ ⟨(blk_cell BK322.out 0).trans rfl, (blk_cell BK322.out 1).trans rfl, (blk_cell BK322.out 2).trans rfl, (blk_cell BK322.out 3).trans rfl, (blk_cell BK322.out 4).trans rfl, (blk_cell BK322.out 5).trans rfl⟩ (fun hHeld => ?_)
                            clear hK K
                            refine norm_ (a' := ?_) ?_ ?_
                            rotate_left
                            · show Act.put _ (some 41) _ = _
                              simp only [Act.put, List.setIfInBounds_toArray, List.set_cons_zero, List.set_cons_succ, i64_w, i32_w]
                              rfl
                            refine one_ (i := 5) (N := some 44) #[true, true, true, true, true, true, false, false] rfl rfl (one_of HT_.out (by kernel_rfl)) (by decide) (fun K hK => ?_)
                            refine goes_ Try.func42 (by kernel_rfl) rfl #[.int .u32 ((rd_T76 l0_4 x5_2).f2)] (by rfl) rfl rfl (by (try simp only [List.map_toArray, List.map_cons, List.map_nil]); first | rfl) ?_
                            with_reducible refine (tenancyref04_Put32.calls k2 ((rd_T76 l0_4 x5_2).f2) t324 _ A25.out).mono ?_
                            rintro e w44 ⟨rfl, hb⟩
                            refine ⟨_, rfl, ?_⟩
                            have n0_ := Aside0.mk (blk_below (g := gb313) (o := .cells #[.int .i64 a0_0, .int .u32 a0_1, .int .u32 a0_2, .int .u32 a0_3, .slice (some ad321) l0_4.length c0_4, .int .i64 a0_5] 37 (0, 0)) BK313.out hb)
                            have n1_ := Aside0.mk (blk_below (g := gb314) (o := .cells #[.int .u16 0, .string (⟨#[]⟩ : ByteArray)] 40 (0, 0)) BK314.out hb)
                            have n2_ := Aside0.mk (blk_below (g := gb322) (o := .cells #[.int .u64 ((rd_T76 l0_4 x5_2).f0.f0.f0), .int .u64 ((rd_T76 l0_4 x5_2).f0.f0.f1), .int .i64 ((rd_T76 l0_4 x5_2).f0.f1), .int .u32 ((rd_T76 l0_4 x5_2).f1), .int .u32 ((rd_T76 l0_4 x5_2).f2), .int .i64 ((rd_T76 l0_4 x5_2).f3)] 76 (0, 0)) BK322.out hb)
                            have n3_ := Aside0.mk (below_step HB.out hb)
                            clear BK313
                            clear BK314
                            clear BK322
                            clear HB
                            have BK313 := n0_
                            have BK314 := n1_
                            have BK322 := n2_
                            have HB := n3_
                            clear n0_ n1_ n2_ n3_
                            (try clear hb)
                            (try clear hb2)
                            (try clear hk)
                            (try clear hi)
                            refine hK.out _ _ ⟨(blk_cell BK322.out 0).trans rfl, (blk_cell BK322.out 1).trans rfl, (blk_cell BK322.out 2).trans rfl, (blk_cell BK322.out 3).trans rfl, (blk_cell BK322.out 4).trans rfl, (blk_cell BK322.out 5).trans rfl⟩ (fun hHeld => ?_)
                            clear hK K
                            refine norm_ (a' := ?_) ?_ ?_
                            rotate_left
                            · show Act.put _ (some 44) _ = _
                              simp only [Act.put, List.setIfInBounds_toArray, List.set_cons_zero, List.set_cons_succ, i64_w, i32_w]
                              rfl
                            refine pure_ (i := 6) (N := some 45) (v := ?_) (a' := ?_) #[true, true, true, true, true, true, true, false] rfl rfl (any_of HT_.out (by kernel_rfl)) (fun _ _ _ h => h) (Or.inl ⟨by rfl, ?_⟩) ?_ ?_
                            rotate_left
                            · intro w'
                              go_simp
                              with_reducible rfl
                            rotate_left
                            · simp only [Act.put, List.setIfInBounds_toArray, List.set_cons_zero, List.set_cons_succ, i64_w, i32_w]
                              rfl
                            refine pure_ (i := 7) (N := some 7) (v := ?_) (a' := ?_) #[true, true, true, true, true, true, true, true] rfl rfl (any_of HT_.out (by kernel_rfl)) (fun _ _ _ h => h) (Or.inl ⟨by rfl, ?_⟩) ?_ ?_
                            rotate_left
                            · intro w'
                              go_simp
                              with_reducible rfl
                            rotate_left
                            · simp only [Act.put, List.setIfInBounds_toArray, List.set_cons_zero, List.set_cons_succ, i64_w, i32_w]
                              rfl
                            refine done_ (done_of HT_.out (by kernel_rfl)) ?_
                            obtain ⟨hcz45_0, hcz45_1, hcz45_2, hcz45_3, hcz45_4, hcz45_5⟩ := XRun.bc6 BK313.out
                            obtain ⟨hfz45_0, hfz45_1, hfz45_2, hfz45_3, hfz45_4, hfz45_5⟩ := XRun.bf6 BK313.out
                            try go_wp2
                            have n0_ := Aside0.mk (blk_drew BK313.out)
                            have n1_ := Aside0.mk (blk_drew BK314.out)
                            have n2_ := Aside0.mk (blk_drew BK322.out)
                            have n3_ := Aside0.mk (below_drew1 HB.out)
                            clear BK313
                            clear BK314
                            clear BK322
                            clear HB
                            have BK313 := n0_
                            have BK314 := n1_
                            have BK322 := n2_
                            have HB := n3_
                            clear n0_ n1_ n2_ n3_
                            refine start_ (n := 21) (S := fun w' => w'.cell? ⟨gb322, 0, none⟩ = some (.int .u64 ((rd_T76 l0_4 x5_2).f0.f0.f0)) ∧ w'.cell? ⟨gb322, 1, none⟩ = some (.int .u64 ((rd_T76 l0_4 x5_2).f0.f0.f1)) ∧ w'.cell? ⟨gb322, 2, none⟩ = some (.int .i64 ((rd_T76 l0_4 x5_2).f0.f1)) ∧ w'.cell? ⟨gb322, 3, none⟩ = some (.int .u32 ((rd_T76 l0_4 x5_2).f1)) ∧ w'.cell? ⟨gb322, 4, none⟩ = some (.int .u32 ((rd_T76 l0_4 x5_2).f2)) ∧ w'.cell? ⟨gb322, 5, none⟩ = some (.int .i64 ((rd_T76 l0_4 x5_2).f3))) (ds := []) #[false, false, false, false, false, false, false, false, false, false, false, false, false, false, false, false, false, false, false, false, false] (by kernel_rfl) rfl rfl ⟨(blk_cell BK322.out 0).trans rfl, (blk_cell BK322.out 1).trans rfl, (blk_cell BK322.out 2).trans rfl, (blk_cell BK322.out 3).trans rfl, (blk_cell BK322.out 4).trans rfl, (blk_cell BK322.out 5).trans rfl⟩ (fun hHeld => ?_); refine with_tabW tenancyref15_PutIA.tab12 tenancyref15_PutIA.bits12 (fun HT_ HW_ => ?_)
                            generalize w44.drew = w46 at BK313 BK314 BK322 HB hHeld ⊢
                            refine pure_ (i := 0) (N := some 49) (v := ?_) (a' := ?_) #[true, false, false, false, false, false, false, false, false, false, false, false, false, false, false, false, false, false, false, false, false] rfl rfl (any_of HT_.out (by kernel_rfl)) (fun _ _ _ h => h) (Or.inl ⟨by rfl, ?_⟩) ?_ ?_
                            rotate_left
                            · intro w'
                              go_simp
                              with_reducible rfl
                            rotate_left
                            · simp only [Act.put, List.setIfInBounds_toArray, List.set_cons_zero, List.set_cons_succ, i64_w, i32_w]
                              rfl
                            refine pure_ (i := 1) (N := some 50) (v := ?_) (a' := ?_) #[true, true, false, false, false, false, false, false, false, false, false, false, false, false, false, false, false, false, false, false, false] rfl rfl (any_of HT_.out (by kernel_rfl)) (fun _ _ _ h => h) (Or.inl ⟨by rfl, ?_⟩) ?_ ?_
                            rotate_left
                            · intro w'
                              go_simp
                              with_reducible rfl
                            rotate_left
                            · simp only [Act.put, List.setIfInBounds_toArray, List.set_cons_zero, List.set_cons_succ, i64_w, i32_w]
                              rfl
                            refine pure_ (i := 2) (N := some 51) (v := ?_) (a' := ?_) #[true, true, true, false, false, false, false, false, false, false, false, false, false, false, false, false, false, false, false, false, false] rfl rfl (any_of HT_.out (by kernel_rfl)) (fun _ _ _ h => h) (Or.inl ⟨by rfl, ?_⟩) ?_ ?_
                            rotate_left
                            · intro w'
                              go_simp
                              with_reducible rfl
                            rotate_left
                            · simp only [Act.put, List.setIfInBounds_toArray, List.set_cons_zero, List.set_cons_succ, i64_w, i32_w]
                              rfl
                            refine pure_ (i := 3) (N := some 52) (v := ?_) (a' := ?_) #[true, true, true, true, false, false, false, false, false, false, false, false, false, false, false, false, false, false, false, false, false] rfl rfl (any_of HT_.out (by kernel_rfl)) (fun _ _ _ h => h) (Or.inl ⟨by rfl, ?_⟩) ?_ ?_
                            rotate_left
                            · intro w'
                              go_simp
                              with_reducible rfl
                            rotate_left
                            · simp only [Act.put, List.setIfInBounds_toArray, List.set_cons_zero, List.set_cons_succ, i64_w, i32_w]
                              rfl
                            refine pure_ (i := 9) (N := some 58) (v := ?_) (a' := ?_) #[true, true, true, true, false, false, false, false, false, true, false, false, false, false, false, false, false, false, false, false, false] rfl rfl (any_of HT_.out (by kernel_rfl)) (fun _ _ _ h => h) (Or.inl ⟨by rfl, ?_⟩) ?_ ?_
                            rotate_left
                            · intro w'
                              go_simp
                              with_reducible rfl
                            rotate_left
                            · simp only [Act.put, List.setIfInBounds_toArray, List.set_cons_zero, List.set_cons_succ, i64_w, i32_w]
                              rfl
                            refine pure_ (i := 10) (N := some 59) (v := ?_) (a' := ?_) #[true, true, true, true, false, false, false, false, false, true, true, false, false, false, false, false, false, false, false, false, false] rfl rfl (any_of HT_.out (by kernel_rfl)) (fun _ _ _ h => h) (Or.inl ⟨by rfl, ?_⟩) ?_ ?_
                            rotate_left
                            · intro w'
                              go_simp
                              with_reducible rfl
                            rotate_left
                            · simp only [Act.put, List.setIfInBounds_toArray, List.set_cons_zero, List.set_cons_succ, i64_w, i32_w]
                              rfl
                            refine pure_ (i := 14) (N := some 63) (v := ?_) (a' := ?_) #[true, true, true, true, false, false, false, false, false, true, true, false, false, false, true, false, false, false, false, false, false] rfl rfl (any_of HT_.out (by kernel_rfl)) (fun _ _ _ h => h) (Or.inl ⟨by rfl, ?_⟩) ?_ ?_
                            rotate_left
                            · intro w'
                              go_simp
                              with_reducible rfl
                            rotate_left
                            · simp only [Act.put, List.setIfInBounds_toArray, List.set_cons_zero, List.set_cons_succ, i64_w, i32_w]
                              rfl
                            refine take_ (i := 4) (N := some 53) (v := ?_) (a' := ?_) #[true, true, true, true, true, false, false, false, false, true, true, false, false, false, true, false, false, false, false, false, false] rfl rfl (take_ofW HT_.out HW_.out (by kernel_rfl)) (fun _ _ _ h => h) (Or.inl ⟨by rfl, ?_⟩) hHeld ?_ ?_
                            rotate_left
                            · rintro w' ⟨s0, s1, s2, s3, s4, s5⟩
                              go_simp
                              with_reducible rfl
                            rotate_left
                            · simp only [Act.put, List.setIfInBounds_toArray, List.set_cons_zero, List.set_cons_succ, i64_w, i32_w]
                              rfl
                            refine pure_ (i := 5) (N := some 54) (v := ?_) (a' := ?_) #[true, true, true, true, true, true, false, false, false, true, true, false, false, false, true, false, false, false, false, false, false] rfl rfl (any_of HT_.out (by kernel_rfl)) (fun _ _ _ h => h) (Or.inl ⟨by rfl, ?_⟩) ?_ ?_
                            rotate_left
                            · intro w'
                              go_simp
                              with_reducible rfl
                            rotate_left
                            · simp only [Act.put, List.setIfInBounds_toArray, List.set_cons_zero, List.set_cons_succ, i64_w, i32_w]
                              rfl
                            refine take_ (i := 11) (N := some 60) (v := ?_) (a' := ?_) #[true, true, true, true, true, true, false, false, false, true, true, true, false, false, true, false, false, false, false, false, false] rfl rfl (take_ofW HT_.out HW_.out (by kernel_rfl)) (fun _ _ _ h => h) (Or.inl ⟨by rfl, ?_⟩) hHeld ?_ ?_
                            rotate_left
                            · rintro w' ⟨s0, s1, s2, s3, s4, s5⟩
                              go_simp
                              with_reducible rfl
                            rotate_left
                            · simp only [Act.put, List.setIfInBounds_toArray, List.set_cons_zero, List.set_cons_succ, i64_w, i32_w]
                              rfl
                            refine take_ (i := 15) (N := some 64) (v := ?_) (a' := ?_) #[true, true, true, true, true, true, false, false, false, true, true, true, false, false, true, true, false, false, false, false, false] rfl rfl (take_ofW HT_.out HW_.out (by kernel_rfl)) (fun _ _ _ h => h) (Or.inl ⟨by rfl, ?_⟩) hHeld ?_ ?_
                            rotate_left
                            · rintro w' ⟨s0, s1, s2, s3, s4, s5⟩
                              go_simp
                              with_reducible rfl
                            rotate_left
                            · simp only [Act.put, List.setIfInBounds_toArray, List.set_cons_zero, List.set_cons_succ, i64_w, i32_w]
                              rfl
                            refine join_ (σ := Value) 4 #[true, true, true, true, true, true, true, true, true, true, true, true, true, true, true, true, true, false, false, false, false] (fun s_ => [(55, s_), (56, .string (strOfNums y325)), (61, .string t328), (65, .string t329), (57, .string ((t323 ++ t324) ++ (strOfNums y325))), (62, .string (((t323 ++ t324) ++ (strOfNums y325)) ++ t328))]) (fun s_ w' => (w'.cell? ⟨gb322, 0, none⟩ = some (.int .u64 ((rd_T76 l0_4 x5_2).f0.f0.f0)) ∧ w'.cell? ⟨gb322, 1, none⟩ = some (.int .u64 ((rd_T76 l0_4 x5_2).f0.f0.f1)) ∧ w'.cell? ⟨gb322, 2, none⟩ = some (.int .i64 ((rd_T76 l0_4 x5_2).f0.f1)) ∧ w'.cell? ⟨gb322, 3, none⟩ = some (.int .u32 ((rd_T76 l0_4 x5_2).f1)) ∧ w'.cell? ⟨gb322, 4, none⟩ = some (.int .u32 ((rd_T76 l0_4 x5_2).f2)) ∧ w'.cell? ⟨gb322, 5, none⟩ = some (.int .i64 ((rd_T76 l0_4 x5_2).f3))) ∧ (Kd.R (Kd.int .u8) 5 w' w.heap.size (fun _ => True) s_ y325) ∧ (w'.heap[gb313]? = some (.cells #[.int .i64 a0_0, .int .u32 a0_1, .int .u32 a0_2, .int .u32 a0_3, .slice (some ad321) l0_4.length c0_4, .int .i64 a0_5] 37 (0, 0))) ∧ (w'.heap[gb314]? = some (.cells #[.int .u16 0, .string (⟨#[]⟩ : ByteArray)] 40 (0, 0))) ∧ (w'.heap[gb322]? = some (.cells #[.int .u64 ((rd_T76 l0_4 x5_2).f0.f0.f0), .int .u64 ((rd_T76 l0_4 x5_2).f0.f0.f1), .int .i64 ((rd_T76 l0_4 x5_2).f0.f1), .int .u32 ((rd_T76 l0_4 x5_2).f1), .int .u32 ((rd_T76 l0_4 x5_2).f2), .int .i64 ((rd_T76 l0_4 x5_2).f3)] 76 (0, 0))) ∧ (Below w.heap.size w w')) ?_ ?_
                            rotate_left
                            · intro hJ6_7_12_16
                              refine join_ (σ := Value) 5 #[true, true, true, true, true, true, true, true, true, true, true, true, true, true, true, true, false, false, false, false, false] (fun s_ => [(55, s_), (56, .string (strOfNums y325)), (61, .string t328), (57, .string ((t323 ++ t324) ++ (strOfNums y325))), (62, .string (((t323 ++ t324) ++ (strOfNums y325)) ++ t328))]) (fun s_ w' => (w'.cell? ⟨gb322, 0, none⟩ = some (.int .u64 ((rd_T76 l0_4 x5_2).f0.f0.f0)) ∧ w'.cell? ⟨gb322, 1, none⟩ = some (.int .u64 ((rd_T76 l0_4 x5_2).f0.f0.f1)) ∧ w'.cell? ⟨gb322, 2, none⟩ = some (.int .i64 ((rd_T76 l0_4 x5_2).f0.f1)) ∧ w'.cell? ⟨gb322, 3, none⟩ = some (.int .u32 ((rd_T76 l0_4 x5_2).f1)) ∧ w'.cell? ⟨gb322, 4, none⟩ = some (.int .u32 ((rd_T76 l0_4 x5_2).f2)) ∧ w'.cell? ⟨gb322, 5, none⟩ = some (.int .i64 ((rd_T76 l0_4 x5_2).f3))) ∧ (Kd.R (Kd.int .u8) 5 w' w.heap.size (fun _ => True) s_ y325) ∧ (w'.heap[gb313]? = some (.cells #[.int .i64 a0_0, .int .u32 a0_1, .int .u32 a0_2, .int .u32 a0_3, .slice (some ad321) l0_4.length c0_4, .int .i64 a0_5] 37 (0, 0))) ∧ (w'.heap[gb314]? = some (.cells #[.int .u16 0, .string (⟨#[]⟩ : ByteArray)] 40 (0, 0))) ∧ (w'.heap[gb322]? = some (.cells #[.int .u64 ((rd_T76 l0_4 x5_2).f0.f0.f0), .int .u64 ((rd_T76 l0_4 x5_2).f0.f0.f1), .int .i64 ((rd_T76 l0_4 x5_2).f0.f1), .int .u32 ((rd_T76 l0_4 x5_2).f1), .int .u32 ((rd_T76 l0_4 x5_2).f2), .int .i64 ((rd_T76 l0_4 x5_2).f3)] 76 (0, 0))) ∧ (Below w.heap.size w w')) ?_ ?_
                              rotate_left
                              · intro hJ6_7_12
                                refine join_ (σ := Value) 7 #[true, true, true, true, true, true, true, false, false, true, true, true, true, false, true, true, true, false, false, false, false] (fun s_ => [(55, s_), (61, .string t328), (65, .string t329)]) (fun s_ w' => (w'.cell? ⟨gb322, 0, none⟩ = some (.int .u64 ((rd_T76 l0_4 x5_2).f0.f0.f0)) ∧ w'.cell? ⟨gb322, 1, none⟩ = some (.int .u64 ((rd_T76 l0_4 x5_2).f0.f0.f1)) ∧ w'.cell? ⟨gb322, 2, none⟩ = some (.int .i64 ((rd_T76 l0_4 x5_2).f0.f1)) ∧ w'.cell? ⟨gb322, 3, none⟩ = some (.int .u32 ((rd_T76 l0_4 x5_2).f1)) ∧ w'.cell? ⟨gb322, 4, none⟩ = some (.int .u32 ((rd_T76 l0_4 x5_2).f2)) ∧ w'.cell? ⟨gb322, 5, none⟩ = some (.int .i64 ((rd_T76 l0_4 x5_2).f3))) ∧ (Kd.R (Kd.int .u8) 5 w' w.heap.size (fun _ => True) s_ y325) ∧ (w'.heap[gb313]? = some (.cells #[.int .i64 a0_0, .int .u32 a0_1, .int .u32 a0_2, .int .u32 a0_3, .slice (some ad321) l0_4.length c0_4, .int .i64 a0_5] 37 (0, 0))) ∧ (w'.heap[gb314]? = some (.cells #[.int .u16 0, .string (⟨#[]⟩ : ByteArray)] 40 (0, 0))) ∧ (w'.heap[gb322]? = some (.cells #[.int .u64 ((rd_T76 l0_4 x5_2).f0.f0.f0), .int .u64 ((rd_T76 l0_4 x5_2).f0.f0.f1), .int .i64 ((rd_T76 l0_4 x5_2).f0.f1), .int .u32 ((rd_T76 l0_4 x5_2).f1), .int .u32 ((rd_T76 l0_4 x5_2).f2), .int .i64 ((rd_T76 l0_4 x5_2).f3)] 76 (0, 0))) ∧ (Below w.heap.size w w')) ?_ ?_
                                rotate_left
                                · intro hJ6_12_16
                                  refine join_ (σ := Value) 7 #[true, true, true, true, true, true, true, true, true, true, true, true, false, false, true, true, false, false, false, false, false] (fun s_ => [(55, s_), (56, .string (strOfNums y325)), (57, .string ((t323 ++ t324) ++ (strOfNums y325)))]) (fun s_ w' => (w'.cell? ⟨gb322, 0, none⟩ = some (.int .u64 ((rd_T76 l0_4 x5_2).f0.f0.f0)) ∧ w'.cell? ⟨gb322, 1, none⟩ = some (.int .u64 ((rd_T76 l0_4 x5_2).f0.f0.f1)) ∧ w'.cell? ⟨gb322, 2, none⟩ = some (.int .i64 ((rd_T76 l0_4 x5_2).f0.f1)) ∧ w'.cell? ⟨gb322, 3, none⟩ = some (.int .u32 ((rd_T76 l0_4 x5_2).f1)) ∧ w'.cell? ⟨gb322, 4, none⟩ = some (.int .u32 ((rd_T76 l0_4 x5_2).f2)) ∧ w'.cell? ⟨gb322, 5, none⟩ = some (.int .i64 ((rd_T76 l0_4 x5_2).f3))) ∧ (Kd.R (Kd.int .u8) 5 w' w.heap.size (fun _ => True) s_ y325) ∧ (w'.heap[gb313]? = some (.cells #[.int .i64 a0_0, .int .u32 a0_1, .int .u32 a0_2, .int .u32 a0_3, .slice (some ad321) l0_4.length c0_4, .int .i64 a0_5] 37 (0, 0))) ∧ (w'.heap[gb314]? = some (.cells #[.int .u16 0, .string (⟨#[]⟩ : ByteArray)] 40 (0, 0))) ∧ (w'.heap[gb322]? = some (.cells #[.int .u64 ((rd_T76 l0_4 x5_2).f0.f0.f0), .int .u64 ((rd_T76 l0_4 x5_2).f0.f0.f1), .int .i64 ((rd_T76 l0_4 x5_2).f0.f1), .int .u32 ((rd_T76 l0_4 x5_2).f1), .int .u32 ((rd_T76 l0_4 x5_2).f2), .int .i64 ((rd_T76 l0_4 x5_2).f3)] 76 (0, 0))) ∧ (Below w.heap.size w w')) ?_ ?_
                                  rotate_left
                                  · intro hJ6_7
                                    refine join_ (σ := Value) 8 #[true, true, true, true, true, true, true, false, false, true, true, true, true, false, true, true, false, false, false, false, false] (fun s_ => [(55, s_), (61, .string t328)]) (fun s_ w' => (w'.cell? ⟨gb322, 0, none⟩ = some (.int .u64 ((rd_T76 l0_4 x5_2).f0.f0.f0)) ∧ w'.cell? ⟨gb322, 1, none⟩ = some (.int .u64 ((rd_T76 l0_4 x5_2).f0.f0.f1)) ∧ w'.cell? ⟨gb322, 2, none⟩ = some (.int .i64 ((rd_T76 l0_4 x5_2).f0.f1)) ∧ w'.cell? ⟨gb322, 3, none⟩ = some (.int .u32 ((rd_T76 l0_4 x5_2).f1)) ∧ w'.cell? ⟨gb322, 4, none⟩ = some (.int .u32 ((rd_T76 l0_4 x5_2).f2)) ∧ w'.cell? ⟨gb322, 5, none⟩ = some (.int .i64 ((rd_T76 l0_4 x5_2).f3))) ∧ (Kd.R (Kd.int .u8) 5 w' w.heap.size (fun _ => True) s_ y325) ∧ (w'.heap[gb313]? = some (.cells #[.int .i64 a0_0, .int .u32 a0_1, .int .u32 a0_2, .int .u32 a0_3, .slice (some ad321) l0_4.length c0_4, .int .i64 a0_5] 37 (0, 0))) ∧ (w'.heap[gb314]? = some (.cells #[.int .u16 0, .string (⟨#[]⟩ : ByteArray)] 40 (0, 0))) ∧ (w'.heap[gb322]? = some (.cells #[.int .u64 ((rd_T76 l0_4 x5_2).f0.f0.f0), .int .u64 ((rd_T76 l0_4 x5_2).f0.f0.f1), .int .i64 ((rd_T76 l0_4 x5_2).f0.f1), .int .u32 ((rd_T76 l0_4 x5_2).f1), .int .u32 ((rd_T76 l0_4 x5_2).f2), .int .i64 ((rd_T76 l0_4 x5_2).f3)] 76 (0, 0))) ∧ (Below w.heap.size w w')) ?_ ?_
                                    rotate_left
                                    · intro hJ6_12
                                      refine join_ (σ := Unit) 8 #[true, true, true, true, true, true, false, false, false, true, true, true, true, false, true, true, true, false, false, false, false] (fun s_ => [(61, .string t328), (65, .string t329)]) (fun s_ w' => (w'.cell? ⟨gb322, 0, none⟩ = some (.int .u64 ((rd_T76 l0_4 x5_2).f0.f0.f0)) ∧ w'.cell? ⟨gb322, 1, none⟩ = some (.int .u64 ((rd_T76 l0_4 x5_2).f0.f0.f1)) ∧ w'.cell? ⟨gb322, 2, none⟩ = some (.int .i64 ((rd_T76 l0_4 x5_2).f0.f1)) ∧ w'.cell? ⟨gb322, 3, none⟩ = some (.int .u32 ((rd_T76 l0_4 x5_2).f1)) ∧ w'.cell? ⟨gb322, 4, none⟩ = some (.int .u32 ((rd_T76 l0_4 x5_2).f2)) ∧ w'.cell? ⟨gb322, 5, none⟩ = some (.int .i64 ((rd_T76 l0_4 x5_2).f3))) ∧ (w'.heap[gb313]? = some (.cells #[.int .i64 a0_0, .int .u32 a0_1, .int .u32 a0_2, .int .u32 a0_3, .slice (some ad321) l0_4.length c0_4, .int .i64 a0_5] 37 (0, 0))) ∧ (w'.heap[gb314]? = some (.cells #[.int .u16 0, .string (⟨#[]⟩ : ByteArray)] 40 (0, 0))) ∧ (w'.heap[gb322]? = some (.cells #[.int .u64 ((rd_T76 l0_4 x5_2).f0.f0.f0), .int .u64 ((rd_T76 l0_4 x5_2).f0.f0.f1), .int .i64 ((rd_T76 l0_4 x5_2).f0.f1), .int .u32 ((rd_T76 l0_4 x5_2).f1), .int .u32 ((rd_T76 l0_4 x5_2).f2), .int .i64 ((rd_T76 l0_4 x5_2).f3)] 76 (0, 0))) ∧ (Below w.heap.size w w')) ?_ ?_
                                      rotate_left
                                      · intro hJ12_16
                                        refine join_ (σ := Value) 9 #[true, true, true, true, true, true, true, false, false, true, true, true, false, false, true, true, false, false, false, false, false] (fun s_ => [(55, s_)]) (fun s_ w' => (w'.cell? ⟨gb322, 0, none⟩ = some (.int .u64 ((rd_T76 l0_4 x5_2).f0.f0.f0)) ∧ w'.cell? ⟨gb322, 1, none⟩ = some (.int .u64 ((rd_T76 l0_4 x5_2).f0.f0.f1)) ∧ w'.cell? ⟨gb322, 2, none⟩ = some (.int .i64 ((rd_T76 l0_4 x5_2).f0.f1)) ∧ w'.cell? ⟨gb322, 3, none⟩ = some (.int .u32 ((rd_T76 l0_4 x5_2).f1)) ∧ w'.cell? ⟨gb322, 4, none⟩ = some (.int .u32 ((rd_T76 l0_4 x5_2).f2)) ∧ w'.cell? ⟨gb322, 5, none⟩ = some (.int .i64 ((rd_T76 l0_4 x5_2).f3))) ∧ (Kd.R (Kd.int .u8) 5 w' w.heap.size (fun _ => True) s_ y325) ∧ (w'.heap[gb313]? = some (.cells #[.int .i64 a0_0, .int .u32 a0_1, .int .u32 a0_2, .int .u32 a0_3, .slice (some ad321) l0_4.length c0_4, .int .i64 a0_5] 37 (0, 0))) ∧ (w'.heap[gb314]? = some (.cells #[.int .u16 0, .string (⟨#[]⟩ : ByteArray)] 40 (0, 0))) ∧ (w'.heap[gb322]? = some (.cells #[.int .u64 ((rd_T76 l0_4 x5_2).f0.f0.f0), .int .u64 ((rd_T76 l0_4 x5_2).f0.f0.f1), .int .i64 ((rd_T76 l0_4 x5_2).f0.f1), .int .u32 ((rd_T76 l0_4 x5_2).f1), .int .u32 ((rd_T76 l0_4 x5_2).f2), .int .i64 ((rd_T76 l0_4 x5_2).f3)] 76 (0, 0))) ∧ (Below w.heap.size w w')) ?_ ?_
                                        rotate_left
                                        · intro hJ6
                                          refine join_ (σ := Unit) 9 #[true, true, true, true, true, true, false, false, false, true, true, true, true, false, true, true, false, false, false, false, false] (fun s_ => [(61, .string t328)]) (fun s_ w' => (w'.cell? ⟨gb322, 0, none⟩ = some (.int .u64 ((rd_T76 l0_4 x5_2).f0.f0.f0)) ∧ w'.cell? ⟨gb322, 1, none⟩ = some (.int .u64 ((rd_T76 l0_4 x5_2).f0.f0.f1)) ∧ w'.cell? ⟨gb322, 2, none⟩ = some (.int .i64 ((rd_T76 l0_4 x5_2).f0.f1)) ∧ w'.cell? ⟨gb322, 3, none⟩ = some (.int .u32 ((rd_T76 l0_4 x5_2).f1)) ∧ w'.cell? ⟨gb322, 4, none⟩ = some (.int .u32 ((rd_T76 l0_4 x5_2).f2)) ∧ w'.cell? ⟨gb322, 5, none⟩ = some (.int .i64 ((rd_T76 l0_4 x5_2).f3))) ∧ (w'.heap[gb313]? = some (.cells #[.int .i64 a0_0, .int .u32 a0_1, .int .u32 a0_2, .int .u32 a0_3, .slice (some ad321) l0_4.length c0_4, .int .i64 a0_5] 37 (0, 0))) ∧ (w'.heap[gb314]? = some (.cells #[.int .u16 0, .string (⟨#[]⟩ : ByteArray)] 40 (0, 0))) ∧ (w'.heap[gb322]? = some (.cells #[.int .u64 ((rd_T76 l0_4 x5_2).f0.f0.f0), .int .u64 ((rd_T76 l0_4 x5_2).f0.f0.f1), .int .i64 ((rd_T76 l0_4 x5_2).f0.f1), .int .u32 ((rd_T76 l0_4 x5_2).f1), .int .u32 ((rd_T76 l0_4 x5_2).f2), .int .i64 ((rd_T76 l0_4 x5_2).f3)] 76 (0, 0))) ∧ (Below w.heap.size w w')) ?_ ?_
                                          rotate_left
                                          · intro hJ12
                                            refine two_ (i := 6) (j := 12) (Ni := some 55) (Nj := some 61) #[true, true, true, true, true, true, true, false, false, true, true, true, false, false, true, true, false, false, false, false, false] #[true, true, true, true, true, true, false, false, false, true, true, true, true, false, true, true, false, false, false, false, false] rfl rfl rfl rfl (two_of HT_.out (by kernel_rfl)) (by decide) (by decide) (fun K hK => ?_) (fun K hK => ?_)
                                            · skip
                                              refine Kd.R_lit_step (Kd.int .u8) _ 5 ?hg (N := 55) ?hd (xs := ([((rd_T76 l0_4 x5_2).f0.f1) % 256] : List Int)) (inner := [.int .u8 (((rd_T76 l0_4 x5_2).f0.f1) % 256)]) (ok := fun _ => True) (okp := fun _ => True) ?hr ?hp (fun _ hk => hk) trivial (Below.refl _ _) (Nat.le_refl _) (by simp) ?_; (case hd => rfl); (case hg => rfl); (case hr => first | (go_simp; rfl)); (case hp => exact (Reps.one (show Kd.M (Kd.int .u8) _ _ _ (((rd_T76 l0_4 x5_2).f0.f1) % 256) [.int .u8 (((rd_T76 l0_4 x5_2).f0.f1) % 256)] from rfl) (Reps.none _ _)))
                                              intro v326 w47 ho48 hb hg_ hnew_
                                              clear hg_ hnew_
                                              (first | rw [← Ny325.out] at ho48)
                                              have n0_ := Aside0.mk (Kd.R_lower ho48 (below_size HB.out))
                                              have n1_ := Aside0.mk (blk_below (g := gb313) (o := .cells #[.int .i64 a0_0, .int .u32 a0_1, .int .u32 a0_2, .int .u32 a0_3, .slice (some ad321) l0_4.length c0_4, .int .i64 a0_5] 37 (0, 0)) BK313.out hb)
                                              have n2_ := Aside0.mk (blk_below (g := gb314) (o := .cells #[.int .u16 0, .string (⟨#[]⟩ : ByteArray)] 40 (0, 0)) BK314.out hb)
                                              have n3_ := Aside0.mk (blk_below (g := gb322) (o := .cells #[.int .u64 ((rd_T76 l0_4 x5_2).f0.f0.f0), .int .u64 ((rd_T76 l0_4 x5_2).f0.f0.f1), .int .i64 ((rd_T76 l0_4 x5_2).f0.f1), .int .u32 ((rd_T76 l0_4 x5_2).f1), .int .u32 ((rd_T76 l0_4 x5_2).f2), .int .i64 ((rd_T76 l0_4 x5_2).f3)] 76 (0, 0)) BK322.out hb)
                                              have n4_ := Aside0.mk (below_step HB.out hb)
                                              clear BK313
                                              clear BK314
                                              clear BK322
                                              clear HB
                                              have HO327 := n0_
                                              have BK313 := n1_
                                              have BK314 := n2_
                                              have BK322 := n3_
                                              have HB := n4_
                                              clear n0_ n1_ n2_ n3_ n4_
                                              clear hb ho48
                                              refine hK.out _ _ ⟨(blk_cell BK322.out 0).trans rfl, (blk_cell BK322.out 1).trans rfl, (blk_cell BK322.out 2).trans rfl, (blk_cell BK322.out 3).trans rfl, (blk_cell BK322.out 4).trans rfl, (blk_cell BK322.out 5).trans rfl⟩ (fun hHeld => ?_)
                                              clear hK K
                                              refine norm_ (a' := ?_) ?_ ?_
                                              rotate_left
                                              · show Act.put _ (some 55) _ = _
                                                simp only [Act.put, List.setIfInBounds_toArray, List.set_cons_zero, List.set_cons_succ, i64_w, i32_w]
                                                rfl
                                              exact norm_ (by first | (simp only [putAll, Act.put, List.setIfInBounds_toArray, List.set_cons_zero, List.set_cons_succ]; done)) (hJ6 (v326) _ ⟨hHeld, HO327.out, BK313.out, BK314.out, BK322.out, HB.out⟩)
                                            · skip
                                              refine goes_ Try.func44 (by kernel_rfl) rfl #[.agg #[.int .u64 ((rd_T76 l0_4 x5_2).f0.f0.f0), .int .u64 ((rd_T76 l0_4 x5_2).f0.f0.f1)]] (by rfl) rfl rfl (by (try simp only [List.map_toArray, List.map_cons, List.map_nil]); first | rfl) ?_
                                              with_reducible refine (tenancyref04_PutAddr.calls k2 ((rd_T76 l0_4 x5_2).f0.f0.f0) ((rd_T76 l0_4 x5_2).f0.f0.f1) t328 _ A29.out).mono ?_
                                              rintro e w47 ⟨rfl, hb⟩
                                              refine ⟨_, rfl, ?_⟩
                                              have n0_ := Aside0.mk (blk_below (g := gb313) (o := .cells #[.int .i64 a0_0, .int .u32 a0_1, .int .u32 a0_2, .int .u32 a0_3, .slice (some ad321) l0_4.length c0_4, .int .i64 a0_5] 37 (0, 0)) BK313.out hb)
                                              have n1_ := Aside0.mk (blk_below (g := gb314) (o := .cells #[.int .u16 0, .string (⟨#[]⟩ : ByteArray)] 40 (0, 0)) BK314.out hb)
                                              have n2_ := Aside0.mk (blk_below (g := gb322) (o := .cells #[.int .u64 ((rd_T76 l0_4 x5_2).f0.f0.f0), .int .u64 ((rd_T76 l0_4 x5_2).f0.f0.f1), .int .i64 ((rd_T76 l0_4 x5_2).f0.f1), .int .u32 ((rd_T76 l0_4 x5_2).f1), .int .u32 ((rd_T76 l0_4 x5_2).f2), .int .i64 ((rd_T76 l0_4 x5_2).f3)] 76 (0, 0)) BK322.out hb)
                                              have n3_ := Aside0.mk (below_step HB.out hb)
                                              clear BK313
                                              clear BK314
                                              clear BK322
                                              clear HB
                                              have BK313 := n0_
                                              have BK314 := n1_
                                              have BK322 := n2_
                                              have HB := n3_
                                              clear n0_ n1_ n2_ n3_
                                              (try clear hb)
                                              (try clear hb2)
                                              (try clear hk)
                                              (try clear hi)
                                              refine hK.out _ _ ⟨(blk_cell BK322.out 0).trans rfl, (blk_cell BK322.out 1).trans rfl, (blk_cell BK322.out 2).trans rfl, (blk_cell BK322.out 3).trans rfl, (blk_cell BK322.out 4).trans rfl, (blk_cell BK322.out 5).trans rfl⟩ (fun hHeld => ?_)
                                              clear hK K
                                              refine norm_ (a' := ?_) ?_ ?_
                                              rotate_left
                                              · show Act.put _ (some 61) _ = _
                                                simp only [Act.put, List.setIfInBounds_toArray, List.set_cons_zero, List.set_cons_succ, i64_w, i32_w]
                                                rfl
                                              exact norm_ (by first | (simp only [putAll, Act.put, List.setIfInBounds_toArray, List.set_cons_zero, List.set_cons_succ]; done)) (hJ12 () _ ⟨hHeld, BK313.out, BK314.out, BK322.out, HB.out⟩)
                                          · skip
                                            rintro _ w48 ⟨hS_, h0_, h1_, h2_, h3_⟩
                                            have n0_ : Aside0 (w48.heap[gb313]? = some (.cells #[.int .i64 a0_0, .int .u32 a0_1, .int .u32 a0_2, .int .u32 a0_3, .slice (some ad321) l0_4.length c0_4, .int .i64 a0_5] 37 (0, 0))) := ⟨h0_⟩
                                            have n1_ : Aside0 (w48.heap[gb314]? = some (.cells #[.int .u16 0, .string (⟨#[]⟩ : ByteArray)] 40 (0, 0))) := ⟨h1_⟩
                                            have n2_ : Aside0 (w48.heap[gb322]? = some (.cells #[.int .u64 ((rd_T76 l0_4 x5_2).f0.f0.f0), .int .u64 ((rd_T76 l0_4 x5_2).f0.f0.f1), .int .i64 ((rd_T76 l0_4 x5_2).f0.f1), .int .u32 ((rd_T76 l0_4 x5_2).f1), .int .u32 ((rd_T76 l0_4 x5_2).f2), .int .i64 ((rd_T76 l0_4 x5_2).f3)] 76 (0, 0))) := ⟨h2_⟩
                                            have n3_ : Aside0 (Below w.heap.size w w48) := ⟨h3_⟩
                                            clear BK313
                                            clear BK314
                                            clear BK322
                                            clear HB
                                            clear h0_ h1_ h2_ h3_
                                            have BK313 := n0_
                                            have BK314 := n1_
                                            have BK322 := n2_
                                            have HB := n3_
                                            clear n0_ n1_ n2_ n3_
                                            have hHeld : w48.cell? ⟨gb322, 0, none⟩ = some (.int .u64 ((rd_T76 l0_4 x5_2).f0.f0.f0)) ∧ w48.cell? ⟨gb322, 1, none⟩ = some (.int .u64 ((rd_T76 l0_4 x5_2).f0.f0.f1)) ∧ w48.cell? ⟨gb322, 2, none⟩ = some (.int .i64 ((rd_T76 l0_4 x5_2).f0.f1)) ∧ w48.cell? ⟨gb322, 3, none⟩ = some (.int .u32 ((rd_T76 l0_4 x5_2).f1)) ∧ w48.cell? ⟨gb322, 4, none⟩ = some (.int .u32 ((rd_T76 l0_4 x5_2).f2)) ∧ w48.cell? ⟨gb322, 5, none⟩ = some (.int .i64 ((rd_T76 l0_4 x5_2).f3)) := hS_
                                            refine norm_ (a' := ?_) ?_ ?_
                                            rotate_left
                                            · simp only [putAll, Act.put, List.setIfInBounds_toArray, List.set_cons_zero, List.set_cons_succ]
                                              rfl
                                            refine two_ (i := 6) (j := 16) (Ni := some 55) (Nj := some 65) #[true, true, true, true, true, true, true, false, false, true, true, true, true, false, true, true, false, false, false, false, false] #[true, true, true, true, true, true, false, false, false, true, true, true, true, false, true, true, true, false, false, false, false] rfl rfl rfl rfl (two_of HT_.out (by kernel_rfl)) (by decide) (by decide) (fun K hK => ?_) (fun K hK => ?_)
                                            · skip
                                              refine Kd.R_lit_step (Kd.int .u8) _ 5 ?hg (N := 55) ?hd (xs := ([((rd_T76 l0_4 x5_2).f0.f1) % 256] : List Int)) (inner := [.int .u8 (((rd_T76 l0_4 x5_2).f0.f1) % 256)]) (ok := fun _ => True) (okp := fun _ => True) ?hr ?hp (fun _ hk => hk) trivial (Below.refl _ _) (Nat.le_refl _) (by simp) ?_; (case hd => rfl); (case hg => rfl); (case hr => first | (go_simp; rfl)); (case hp => exact (Reps.one (show Kd.M (Kd.int .u8) _ _ _ (((rd_T76 l0_4 x5_2).f0.f1) % 256) [.int .u8 (((rd_T76 l0_4 x5_2).f0.f1) % 256)] from rfl) (Reps.none _ _)))
                                              intro v326 w49 ho50 hb hg_ hnew_
                                              clear hg_ hnew_
                                              (first | rw [← Ny325.out] at ho50)
                                              have n0_ := Aside0.mk (Kd.R_lower ho50 (below_size HB.out))
                                              have n1_ := Aside0.mk (blk_below (g := gb313) (o := .cells #[.int .i64 a0_0, .int .u32 a0_1, .int .u32 a0_2, .int .u32 a0_3, .slice (some ad321) l0_4.length c0_4, .int .i64 a0_5] 37 (0, 0)) BK313.out hb)
                                              have n2_ := Aside0.mk (blk_below (g := gb314) (o := .cells #[.int .u16 0, .string (⟨#[]⟩ : ByteArray)] 40 (0, 0)) BK314.out hb)
                                              have n3_ := Aside0.mk (blk_below (g := gb322) (o := .cells #[.int .u64 ((rd_T76 l0_4 x5_2).f0.f0.f0), .int .u64 ((rd_T76 l0_4 x5_2).f0.f0.f1), .int .i64 ((rd_T76 l0_4 x5_2).f0.f1), .int .u32 ((rd_T76 l0_4 x5_2).f1), .int .u32 ((rd_T76 l0_4 x5_2).f2), .int .i64 ((rd_T76 l0_4 x5_2).f3)] 76 (0, 0)) BK322.out hb)
                                              have n4_ := Aside0.mk (below_step HB.out hb)
                                              clear BK313
                                              clear BK314
                                              clear BK322
                                              clear HB
                                              have HO327 := n0_
                                              have BK313 := n1_
                                              have BK314 := n2_
                                              have BK322 := n3_
                                              have HB := n4_
                                              clear n0_ n1_ n2_ n3_ n4_
                                              clear hb ho50
                                              refine hK.out _ _ ⟨(blk_cell BK322.out 0).trans rfl, (blk_cell BK322.out 1).trans rfl, (blk_cell BK322.out 2).trans rfl, (blk_cell BK322.out 3).trans rfl, (blk_cell BK322.out 4).trans rfl, (blk_cell BK322.out 5).trans rfl⟩ (fun hHeld => ?_)
                                              clear hK K
                                              refine norm_ (a' := ?_) ?_ ?_
                                              rotate_left
                                              · show Act.put _ (some 55) _ = _
                                                simp only [Act.put, List.setIfInBounds_toArray, List.set_cons_zero, List.set_cons_succ, i64_w, i32_w]
                                                rfl
                                              exact norm_ (by first | (simp only [putAll, Act.put, List.setIfInBounds_toArray, List.set_cons_zero, List.set_cons_succ]; done)) (hJ6_12 (v326) _ ⟨hHeld, HO327.out, BK313.out, BK314.out, BK322.out, HB.out⟩)
                                            · skip
                                              refine goes_ Try.func45 (by kernel_rfl) rfl #[.int .i64 ((rd_T76 l0_4 x5_2).f3)] (by rfl) rfl rfl (by (try simp only [List.map_toArray, List.map_cons, List.map_nil]); first | rfl) ?_
                                              with_reducible refine (tenancyref15_statusOption.calls k2 ((rd_T76 l0_4 x5_2).f3) t329 _ A31.out).mono ?_
                                              rintro e w49 ⟨rfl, hb⟩
                                              refine ⟨_, rfl, ?_⟩
                                              have n0_ := Aside0.mk (blk_below (g := gb313) (o := .cells #[.int .i64 a0_0, .int .u32 a0_1, .int .u32 a0_2, .int .u32 a0_3, .slice (some ad321) l0_4.length c0_4, .int .i64 a0_5] 37 (0, 0)) BK313.out hb)
                                              have n1_ := Aside0.mk (blk_below (g := gb314) (o := .cells #[.int .u16 0, .string (⟨#[]⟩ : ByteArray)] 40 (0, 0)) BK314.out hb)
                                              have n2_ := Aside0.mk (blk_below (g := gb322) (o := .cells #[.int .u64 ((rd_T76 l0_4 x5_2).f0.f0.f0), .int .u64 ((rd_T76 l0_4 x5_2).f0.f0.f1), .int .i64 ((rd_T76 l0_4 x5_2).f0.f1), .int .u32 ((rd_T76 l0_4 x5_2).f1), .int .u32 ((rd_T76 l0_4 x5_2).f2), .int .i64 ((rd_T76 l0_4 x5_2).f3)] 76 (0, 0)) BK322.out hb)
                                              have n3_ := Aside0.mk (below_step HB.out hb)
                                              clear BK313
                                              clear BK314
                                              clear BK322
                                              clear HB
                                              have BK313 := n0_
                                              have BK314 := n1_
                                              have BK322 := n2_
                                              have HB := n3_
                                              clear n0_ n1_ n2_ n3_
                                              (try clear hb)
                                              (try clear hb2)
                                              (try clear hk)
                                              (try clear hi)
                                              refine hK.out _ _ ⟨(blk_cell BK322.out 0).trans rfl, (blk_cell BK322.out 1).trans rfl, (blk_cell BK322.out 2).trans rfl, (blk_cell BK322.out 3).trans rfl, (blk_cell BK322.out 4).trans rfl, (blk_cell BK322.out 5).trans rfl⟩ (fun hHeld => ?_)
                                              clear hK K
                                              refine norm_ (a' := ?_) ?_ ?_
                                              rotate_left
                                              · show Act.put _ (some 65) _ = _
                                                simp only [Act.put, List.setIfInBounds_toArray, List.set_cons_zero, List.set_cons_succ, i64_w, i32_w]
                                                rfl
                                              exact norm_ (by first | (simp only [putAll, Act.put, List.setIfInBounds_toArray, List.set_cons_zero, List.set_cons_succ]; done)) (hJ12_16 () _ ⟨hHeld, BK313.out, BK314.out, BK322.out, HB.out⟩)
                                        · skip
                                          rintro v326 w49 ⟨hS_, h0_, h1_, h2_, h3_, h4_⟩
                                          have n0_ : Aside0 (Kd.R (Kd.int .u8) 5 w49 w.heap.size (fun _ => True) v326 y325) := ⟨h0_⟩
                                          have n1_ : Aside0 (w49.heap[gb313]? = some (.cells #[.int .i64 a0_0, .int .u32 a0_1, .int .u32 a0_2, .int .u32 a0_3, .slice (some ad321) l0_4.length c0_4, .int .i64 a0_5] 37 (0, 0))) := ⟨h1_⟩
                                          have n2_ : Aside0 (w49.heap[gb314]? = some (.cells #[.int .u16 0, .string (⟨#[]⟩ : ByteArray)] 40 (0, 0))) := ⟨h2_⟩
                                          have n3_ : Aside0 (w49.heap[gb322]? = some (.cells #[.int .u64 ((rd_T76 l0_4 x5_2).f0.f0.f0), .int .u64 ((rd_T76 l0_4 x5_2).f0.f0.f1), .int .i64 ((rd_T76 l0_4 x5_2).f0.f1), .int .u32 ((rd_T76 l0_4 x5_2).f1), .int .u32 ((rd_T76 l0_4 x5_2).f2), .int .i64 ((rd_T76 l0_4 x5_2).f3)] 76 (0, 0))) := ⟨h3_⟩
                                          have n4_ : Aside0 (Below w.heap.size w w49) := ⟨h4_⟩
                                          clear BK313
                                          clear BK314
                                          clear BK322
                                          clear HB
                                          clear h0_ h1_ h2_ h3_ h4_
                                          have HO327 := n0_
                                          have BK313 := n1_
                                          have BK314 := n2_
                                          have BK322 := n3_
                                          have HB := n4_
                                          clear n0_ n1_ n2_ n3_ n4_
                                          have hHeld : w49.cell? ⟨gb322, 0, none⟩ = some (.int .u64 ((rd_T76 l0_4 x5_2).f0.f0.f0)) ∧ w49.cell? ⟨gb322, 1, none⟩ = some (.int .u64 ((rd_T76 l0_4 x5_2).f0.f0.f1)) ∧ w49.cell? ⟨gb322, 2, none⟩ = some (.int .i64 ((rd_T76 l0_4 x5_2).f0.f1)) ∧ w49.cell? ⟨gb322, 3, none⟩ = some (.int .u32 ((rd_T76 l0_4 x5_2).f1)) ∧ w49.cell? ⟨gb322, 4, none⟩ = some (.int .u32 ((rd_T76 l0_4 x5_2).f2)) ∧ w49.cell? ⟨gb322, 5, none⟩ = some (.int .i64 ((rd_T76 l0_4 x5_2).f3)) := hS_
                                          refine norm_ (a' := ?_) ?_ ?_
                                          rotate_left
                                          · simp only [putAll, Act.put, List.setIfInBounds_toArray, List.set_cons_zero, List.set_cons_succ]
                                            rfl
                                          refine two_ (i := 7) (j := 12) (Ni := some 56) (Nj := some 61) #[true, true, true, true, true, true, true, true, false, true, true, true, false, false, true, true, false, false, false, false, false] #[true, true, true, true, true, true, true, false, false, true, true, true, true, false, true, true, false, false, false, false, false] rfl rfl rfl rfl (two_of HT_.out (by kernel_rfl)) (by decide) (by decide) (fun K hK => ?_) (fun K hK => ?_)
                                          · skip
                                            have hcv50 := own_string (P := Try.prog) Try.underlying57 Try.underlying5 Try.underlying9 (Kd.own_of_R HO327.out)
                                            refine value_ (w1 := ?_) (v := ?_) (by rfl) rfl ?_ ?_
                                            rotate_left 2
                                            · go_simp
                                              constructor
                                              · rfl
                                              · rfl
                                            clear hcv50
                                            refine hK.out _ _ ⟨(blk_cell BK322.out 0).trans rfl, (blk_cell BK322.out 1).trans rfl, (blk_cell BK322.out 2).trans rfl, (blk_cell BK322.out 3).trans rfl, (blk_cell BK322.out 4).trans rfl, (blk_cell BK322.out 5).trans rfl⟩ (fun hHeld => ?_)
                                            clear hK K
                                            refine norm_ (a' := ?_) ?_ ?_
                                            rotate_left
                                            · show Act.put _ (some 56) _ = _
                                              simp only [Act.put, List.setIfInBounds_toArray, List.set_cons_zero, List.set_cons_succ, i64_w, i32_w]
                                              rfl
                                            refine pure_ (i := 8) (N := some 57) (v := ?_) (a' := ?_) #[true, true, true, true, true, true, true, true, true, true, true, true, false, false, true, true, false, false, false, false, false] rfl rfl (any_of HT_.out (by kernel_rfl)) (fun _ _ _ h => h) (Or.inl ⟨by rfl, ?_⟩) ?_ ?_
                                            rotate_left
                                            · intro w'
                                              go_simp
                                              with_reducible rfl
                                            rotate_left
                                            · simp only [Act.put, List.setIfInBounds_toArray, List.set_cons_zero, List.set_cons_succ, i64_w, i32_w]
                                              rfl
                                            exact norm_ (by first | (simp only [putAll, Act.put, List.setIfInBounds_toArray, List.set_cons_zero, List.set_cons_succ]; done)) (hJ6_7 (v326) _ ⟨hHeld, HO327.out, BK313.out, BK314.out, BK322.out, HB.out⟩)
                                          · skip
                                            refine goes_ Try.func44 (by kernel_rfl) rfl #[.agg #[.int .u64 ((rd_T76 l0_4 x5_2).f0.f0.f0), .int .u64 ((rd_T76 l0_4 x5_2).f0.f0.f1)]] (by rfl) rfl rfl (by (try simp only [List.map_toArray, List.map_cons, List.map_nil]); first | rfl) ?_
                                            with_reducible refine (tenancyref04_PutAddr.calls k2 ((rd_T76 l0_4 x5_2).f0.f0.f0) ((rd_T76 l0_4 x5_2).f0.f0.f1) t328 _ A29.out).mono ?_
                                            rintro e w50 ⟨rfl, hb⟩
                                            refine ⟨_, rfl, ?_⟩
                                            have n0_ := Aside0.mk (Kd.R_below HO327.out hb)
                                            have n1_ := Aside0.mk (blk_below (g := gb313) (o := .cells #[.int .i64 a0_0, .int .u32 a0_1, .int .u32 a0_2, .int .u32 a0_3, .slice (some ad321) l0_4.length c0_4, .int .i64 a0_5] 37 (0, 0)) BK313.out hb)
                                            have n2_ := Aside0.mk (blk_below (g := gb314) (o := .cells #[.int .u16 0, .string (⟨#[]⟩ : ByteArray)] 40 (0, 0)) BK314.out hb)
                                            have n3_ := Aside0.mk (blk_below (g := gb322) (o := .cells #[.int .u64 ((rd_T76 l0_4 x5_2).f0.f0.f0), .int .u64 ((rd_T76 l0_4 x5_2).f0.f0.f1), .int .i64 ((rd_T76 l0_4 x5_2).f0.f1), .int .u32 ((rd_T76 l0_4 x5_2).f1), .int .u32 ((rd_T76 l0_4 x5_2).f2), .int .i64 ((rd_T76 l0_4 x5_2).f3)] 76 (0, 0)) BK322.out hb)
                                            have n4_ := Aside0.mk (below_step HB.out hb)
                                            clear HO327
                                            clear BK313
                                            clear BK314
                                            clear BK322
                                            clear HB
                                            have HO327 := n0_
                                            have BK313 := n1_
                                            have BK314 := n2_
                                            have BK322 := n3_
                                            have HB := n4_
                                            clear n0_ n1_ n2_ n3_ n4_
                                            (try clear hb)
                                            (try clear hb2)
                                            (try clear hk)
                                            (try clear hi)
                                            refine hK.out _ _ ⟨(blk_cell BK322.out 0).trans rfl, (blk_cell BK322.out 1).trans rfl, (blk_cell BK322.out 2).trans rfl, (blk_cell BK322.out 3).trans rfl, (blk_cell BK322.out 4).trans rfl, (blk_cell BK322.out 5).trans rfl⟩ (fun hHeld => ?_)
                                            clear hK K
                                            refine norm_ (a' := ?_) ?_ ?_
                                            rotate_left
                                            · show Act.put _ (some 61) _ = _
                                              simp only [Act.put, List.setIfInBounds_toArray, List.set_cons_zero, List.set_cons_succ, i64_w, i32_w]
                                              rfl
                                            exact norm_ (by first | (simp only [putAll, Act.put, List.setIfInBounds_toArray, List.set_cons_zero, List.set_cons_succ]; done)) (hJ6_12 (v326) _ ⟨hHeld, HO327.out, BK313.out, BK314.out, BK322.out, HB.out⟩)
                                      · skip
                                        rintro _ w49 ⟨hS_, h0_, h1_, h2_, h3_⟩
                                        have n0_ : Aside0 (w49.heap[gb313]? = some (.cells #[.int .i64 a0_0, .int .u32 a0_1, .int .u32 a0_2, .int .u32 a0_3, .slice (some ad321) l0_4.length c0_4, .int .i64 a0_5] 37 (0, 0))) := ⟨h0_⟩
                                        have n1_ : Aside0 (w49.heap[gb314]? = some (.cells #[.int .u16 0, .string (⟨#[]⟩ : ByteArray)] 40 (0, 0))) := ⟨h1_⟩
                                        have n2_ : Aside0 (w49.heap[gb322]? = some (.cells #[.int .u64 ((rd_T76 l0_4 x5_2).f0.f0.f0), .int .u64 ((rd_T76 l0_4 x5_2).f0.f0.f1), .int .i64 ((rd_T76 l0_4 x5_2).f0.f1), .int .u32 ((rd_T76 l0_4 x5_2).f1), .int .u32 ((rd_T76 l0_4 x5_2).f2), .int .i64 ((rd_T76 l0_4 x5_2).f3)] 76 (0, 0))) := ⟨h2_⟩
                                        have n3_ : Aside0 (Below w.heap.size w w49) := ⟨h3_⟩
                                        clear BK313
                                        clear BK314
                                        clear BK322
                                        clear HB
                                        clear h0_ h1_ h2_ h3_
                                        have BK313 := n0_
                                        have BK314 := n1_
                                        have BK322 := n2_
                                        have HB := n3_
                                        clear n0_ n1_ n2_ n3_
                                        have hHeld : w49.cell? ⟨gb322, 0, none⟩ = some (.int .u64 ((rd_T76 l0_4 x5_2).f0.f0.f0)) ∧ w49.cell? ⟨gb322, 1, none⟩ = some (.int .u64 ((rd_T76 l0_4 x5_2).f0.f0.f1)) ∧ w49.cell? ⟨gb322, 2, none⟩ = some (.int .i64 ((rd_T76 l0_4 x5_2).f0.f1)) ∧ w49.cell? ⟨gb322, 3, none⟩ = some (.int .u32 ((rd_T76 l0_4 x5_2).f1)) ∧ w49.cell? ⟨gb322, 4, none⟩ = some (.int .u32 ((rd_T76 l0_4 x5_2).f2)) ∧ w49.cell? ⟨gb322, 5, none⟩ = some (.int .i64 ((rd_T76 l0_4 x5_2).f3)) := hS_
                                        refine norm_ (a' := ?_) ?_ ?_
                                        rotate_left
                                        · simp only [putAll, Act.put, List.setIfInBounds_toArray, List.set_cons_zero, List.set_cons_succ]
                                          rfl
                                        refine one_ (i := 6) (N := some 55) #[true, true, true, true, true, true, true, false, false, true, true, true, true, false, true, true, true, false, false, false, false] rfl rfl (one_of HT_.out (by kernel_rfl)) (by decide) (fun K hK => ?_)
                                        refine Kd.R_lit_step (Kd.int .u8) _ 5 ?hg (N := 55) ?hd (xs := ([((rd_T76 l0_4 x5_2).f0.f1) % 256] : List Int)) (inner := [.int .u8 (((rd_T76 l0_4 x5_2).f0.f1) % 256)]) (ok := fun _ => True) (okp := fun _ => True) ?hr ?hp (fun _ hk => hk) trivial (Below.refl _ _) (Nat.le_refl _) (by simp) ?_; (case hd => rfl); (case hg => rfl); (case hr => first | (go_simp; rfl)); (case hp => exact (Reps.one (show Kd.M (Kd.int .u8) _ _ _ (((rd_T76 l0_4 x5_2).f0.f1) % 256) [.int .u8 (((rd_T76 l0_4 x5_2).f0.f1) % 256)] from rfl) (Reps.none _ _)))
                                        intro v326 w50 ho51 hb hg_ hnew_
                                        clear hg_ hnew_
                                        (first | rw [← Ny325.out] at ho51)
                                        have n0_ := Aside0.mk (Kd.R_lower ho51 (below_size HB.out))
                                        have n1_ := Aside0.mk (blk_below (g := gb313) (o := .cells #[.int .i64 a0_0, .int .u32 a0_1, .int .u32 a0_2, .int .u32 a0_3, .slice (some ad321) l0_4.length c0_4, .int .i64 a0_5] 37 (0, 0)) BK313.out hb)
                                        have n2_ := Aside0.mk (blk_below (g := gb314) (o := .cells #[.int .u16 0, .string (⟨#[]⟩ : ByteArray)] 40 (0, 0)) BK314.out hb)
                                        have n3_ := Aside0.mk (blk_below (g := gb322) (o := .cells #[.int .u64 ((rd_T76 l0_4 x5_2).f0.f0.f0), .int .u64 ((rd_T76 l0_4 x5_2).f0.f0.f1), .int .i64 ((rd_T76 l0_4 x5_2).f0.f1), .int .u32 ((rd_T76 l0_4 x5_2).f1), .int .u32 ((rd_T76 l0_4 x5_2).f2), .int .i64 ((rd_T76 l0_4 x5_2).f3)] 76 (0, 0)) BK322.out hb)
                                        have n4_ := Aside0.mk (below_step HB.out hb)
                                        clear BK313
                                        clear BK314
                                        clear BK322
                                        clear HB
                                        have HO327 := n0_
                                        have BK313 := n1_
                                        have BK314 := n2_
                                        have BK322 := n3_
                                        have HB := n4_
                                        clear n0_ n1_ n2_ n3_ n4_
                                        clear hb ho51
                                        refine hK.out _ _ ⟨(blk_cell BK322.out 0).trans rfl, (blk_cell BK322.out 1).trans rfl, (blk_cell BK322.out 2).trans rfl, (blk_cell BK322.out 3).trans rfl, (blk_cell BK322.out 4).trans rfl, (blk_cell BK322.out 5).trans rfl⟩ (fun hHeld => ?_)
                                        clear hK K
                                        refine norm_ (a' := ?_) ?_ ?_
                                        rotate_left
                                        · show Act.put _ (some 55) _ = _
                                          simp only [Act.put, List.setIfInBounds_toArray, List.set_cons_zero, List.set_cons_succ, i64_w, i32_w]
                                          rfl
                                        exact norm_ (by first | (simp only [putAll, Act.put, List.setIfInBounds_toArray, List.set_cons_zero, List.set_cons_succ]; done)) (hJ6_12_16 (v326) _ ⟨hHeld, HO327.out, BK313.out, BK314.out, BK322.out, HB.out⟩)
                                    · skip
                                      rintro v326 w50 ⟨hS_, h0_, h1_, h2_, h3_, h4_⟩
                                      have n0_ : Aside0 (Kd.R (Kd.int .u8) 5 w50 w.heap.size (fun _ => True) v326 y325) := ⟨h0_⟩
                                      have n1_ : Aside0 (w50.heap[gb313]? = some (.cells #[.int .i64 a0_0, .int .u32 a0_1, .int .u32 a0_2, .int .u32 a0_3, .slice (some ad321) l0_4.length c0_4, .int .i64 a0_5] 37 (0, 0))) := ⟨h1_⟩
                                      have n2_ : Aside0 (w50.heap[gb314]? = some (.cells #[.int .u16 0, .string (⟨#[]⟩ : ByteArray)] 40 (0, 0))) := ⟨h2_⟩
                                      have n3_ : Aside0 (w50.heap[gb322]? = some (.cells #[.int .u64 ((rd_T76 l0_4 x5_2).f0.f0.f0), .int .u64 ((rd_T76 l0_4 x5_2).f0.f0.f1), .int .i64 ((rd_T76 l0_4 x5_2).f0.f1), .int .u32 ((rd_T76 l0_4 x5_2).f1), .int .u32 ((rd_T76 l0_4 x5_2).f2), .int .i64 ((rd_T76 l0_4 x5_2).f3)] 76 (0, 0))) := ⟨h3_⟩
                                      have n4_ : Aside0 (Below w.heap.size w w50) := ⟨h4_⟩
                                      clear BK313
                                      clear BK314
                                      clear BK322
                                      clear HB
                                      clear h0_ h1_ h2_ h3_ h4_
                                      have HO327 := n0_
                                      have BK313 := n1_
                                      have BK314 := n2_
                                      have BK322 := n3_
                                      have HB := n4_
                                      clear n0_ n1_ n2_ n3_ n4_
                                      have hHeld : w50.cell? ⟨gb322, 0, none⟩ = some (.int .u64 ((rd_T76 l0_4 x5_2).f0.f0.f0)) ∧ w50.cell? ⟨gb322, 1, none⟩ = some (.int .u64 ((rd_T76 l0_4 x5_2).f0.f0.f1)) ∧ w50.cell? ⟨gb322, 2, none⟩ = some (.int .i64 ((rd_T76 l0_4 x5_2).f0.f1)) ∧ w50.cell? ⟨gb322, 3, none⟩ = some (.int .u32 ((rd_T76 l0_4 x5_2).f1)) ∧ w50.cell? ⟨gb322, 4, none⟩ = some (.int .u32 ((rd_T76 l0_4 x5_2).f2)) ∧ w50.cell? ⟨gb322, 5, none⟩ = some (.int .i64 ((rd_T76 l0_4 x5_2).f3)) := hS_
                                      refine norm_ (a' := ?_) ?_ ?_
                                      rotate_left
                                      · simp only [putAll, Act.put, List.setIfInBounds_toArray, List.set_cons_zero, List.set_cons_succ]
                                        rfl
                                      refine two_ (i := 7) (j := 16) (Ni := some 56) (Nj := some 65) #[true, true, true, true, true, true, true, true, false, true, true, true, true, false, true, true, false, false, false, false, false] #[true, true, true, true, true, true, true, false, false, true, true, true, true, false, true, true, true, false, false, false, false] rfl rfl rfl rfl (two_of HT_.out (by kernel_rfl)) (by decide) (by decide) (fun K hK => ?_) (fun K hK => ?_)
                                      · skip
                                        have hcv51 := own_string (P := Try.prog) Try.underlying57 Try.underlying5 Try.underlying9 (Kd.own_of_R HO327.out)
                                        refine value_ (w1 := ?_) (v := ?_) (by rfl) rfl ?_ ?_
                                        rotate_left 2
                                        · go_simp
                                          constructor
                                          · rfl
                                          · rfl
                                        clear hcv51
                                        refine hK.out _ _ ⟨(blk_cell BK322.out 0).trans rfl, (blk_cell BK322.out 1).trans rfl, (blk_cell BK322.out 2).trans rfl, (blk_cell BK322.out 3).trans rfl, (blk_cell BK322.out 4).trans rfl, (blk_cell BK322.out 5).trans rfl⟩ (fun hHeld => ?_)
                                        clear hK K
                                        refine norm_ (a' := ?_) ?_ ?_
                                        rotate_left
                                        · show Act.put _ (some 56) _ = _
                                          simp only [Act.put, List.setIfInBounds_toArray, List.set_cons_zero, List.set_cons_succ, i64_w, i32_w]
                                          rfl
                                        refine pure_ (i := 8) (N := some 57) (v := ?_) (a' := ?_) #[true, true, true, true, true, true, true, true, true, true, true, true, true, false, true, true, false, false, false, false, false] rfl rfl (any_of HT_.out (by kernel_rfl)) (fun _ _ _ h => h) (Or.inl ⟨by rfl, ?_⟩) ?_ ?_
                                        rotate_left
                                        · intro w'
                                          go_simp
                                          with_reducible rfl
                                        rotate_left
                                        · simp only [Act.put, List.setIfInBounds_toArray, List.set_cons_zero, List.set_cons_succ, i64_w, i32_w]
                                          rfl
                                        refine pure_ (i := 13) (N := some 62) (v := ?_) (a' := ?_) #[true, true, true, true, true, true, true, true, true, true, true, true, true, true, true, true, false, false, false, false, false] rfl rfl (any_of HT_.out (by kernel_rfl)) (fun _ _ _ h => h) (Or.inl ⟨by rfl, ?_⟩) ?_ ?_
                                        rotate_left
                                        · intro w'
                                          go_simp
                                          with_reducible rfl
                                        rotate_left
                                        · simp only [Act.put, List.setIfInBounds_toArray, List.set_cons_zero, List.set_cons_succ, i64_w, i32_w]
                                          rfl
                                        exact norm_ (by first | (simp only [putAll, Act.put, List.setIfInBounds_toArray, List.set_cons_zero, List.set_cons_succ]; done)) (hJ6_7_12 (v326) _ ⟨hHeld, HO327.out, BK313.out, BK314.out, BK322.out, HB.out⟩)
                                      · skip
                                        refine goes_ Try.func45 (by kernel_rfl) rfl #[.int .i64 ((rd_T76 l0_4 x5_2).f3)] (by rfl) rfl rfl (by (try simp only [List.map_toArray, List.map_cons, List.map_nil]); first | rfl) ?_
                                        with_reducible refine (tenancyref15_statusOption.calls k2 ((rd_T76 l0_4 x5_2).f3) t329 _ A31.out).mono ?_
                                        rintro e w51 ⟨rfl, hb⟩
                                        refine ⟨_, rfl, ?_⟩
                                        have n0_ := Aside0.mk (Kd.R_below HO327.out hb)
                                        have n1_ := Aside0.mk (blk_below (g := gb313) (o := .cells #[.int .i64 a0_0, .int .u32 a0_1, .int .u32 a0_2, .int .u32 a0_3, .slice (some ad321) l0_4.length c0_4, .int .i64 a0_5] 37 (0, 0)) BK313.out hb)
                                        have n2_ := Aside0.mk (blk_below (g := gb314) (o := .cells #[.int .u16 0, .string (⟨#[]⟩ : ByteArray)] 40 (0, 0)) BK314.out hb)
                                        have n3_ := Aside0.mk (blk_below (g := gb322) (o := .cells #[.int .u64 ((rd_T76 l0_4 x5_2).f0.f0.f0), .int .u64 ((rd_T76 l0_4 x5_2).f0.f0.f1), .int .i64 ((rd_T76 l0_4 x5_2).f0.f1), .int .u32 ((rd_T76 l0_4 x5_2).f1), .int .u32 ((rd_T76 l0_4 x5_2).f2), .int .i64 ((rd_T76 l0_4 x5_2).f3)] 76 (0, 0)) BK322.out hb)
                                        have n4_ := Aside0.mk (below_step HB.out hb)
                                        clear HO327
                                        clear BK313
                                        clear BK314
                                        clear BK322
                                        clear HB
                                        have HO327 := n0_
                                        have BK313 := n1_
                                        have BK314 := n2_
                                        have BK322 := n3_
                                        have HB := n4_
                                        clear n0_ n1_ n2_ n3_ n4_
                                        (try clear hb)
                                        (try clear hb2)
                                        (try clear hk)
                                        (try clear hi)
                                        refine hK.out _ _ ⟨(blk_cell BK322.out 0).trans rfl, (blk_cell BK322.out 1).trans rfl, (blk_cell BK322.out 2).trans rfl, (blk_cell BK322.out 3).trans rfl, (blk_cell BK322.out 4).trans rfl, (blk_cell BK322.out 5).trans rfl⟩ (fun hHeld => ?_)
                                        clear hK K
                                        refine norm_ (a' := ?_) ?_ ?_
                                        rotate_left
                                        · show Act.put _ (some 65) _ = _
                                          simp only [Act.put, List.setIfInBounds_toArray, List.set_cons_zero, List.set_cons_succ, i64_w, i32_w]
                                          rfl
                                        exact norm_ (by first | (simp only [putAll, Act.put, List.setIfInBounds_toArray, List.set_cons_zero, List.set_cons_succ]; done)) (hJ6_12_16 (v326) _ ⟨hHeld, HO327.out, BK313.out, BK314.out, BK322.out, HB.out⟩)
                                  · skip
                                    rintro v326 w50 ⟨hS_, h0_, h1_, h2_, h3_, h4_⟩
                                    have n0_ : Aside0 (Kd.R (Kd.int .u8) 5 w50 w.heap.size (fun _ => True) v326 y325) := ⟨h0_⟩
                                    have n1_ : Aside0 (w50.heap[gb313]? = some (.cells #[.int .i64 a0_0, .int .u32 a0_1, .int .u32 a0_2, .int .u32 a0_3, .slice (some ad321) l0_4.length c0_4, .int .i64 a0_5] 37 (0, 0))) := ⟨h1_⟩
                                    have n2_ : Aside0 (w50.heap[gb314]? = some (.cells #[.int .u16 0, .string (⟨#[]⟩ : ByteArray)] 40 (0, 0))) := ⟨h2_⟩
                                    have n3_ : Aside0 (w50.heap[gb322]? = some (.cells #[.int .u64 ((rd_T76 l0_4 x5_2).f0.f0.f0), .int .u64 ((rd_T76 l0_4 x5_2).f0.f0.f1), .int .i64 ((rd_T76 l0_4 x5_2).f0.f1), .int .u32 ((rd_T76 l0_4 x5_2).f1), .int .u32 ((rd_T76 l0_4 x5_2).f2), .int .i64 ((rd_T76 l0_4 x5_2).f3)] 76 (0, 0))) := ⟨h3_⟩
                                    have n4_ : Aside0 (Below w.heap.size w w50) := ⟨h4_⟩
                                    clear BK313
                                    clear BK314
                                    clear BK322
                                    clear HB
                                    clear h0_ h1_ h2_ h3_ h4_
                                    have HO327 := n0_
                                    have BK313 := n1_
                                    have BK314 := n2_
                                    have BK322 := n3_
                                    have HB := n4_
                                    clear n0_ n1_ n2_ n3_ n4_
                                    have hHeld : w50.cell? ⟨gb322, 0, none⟩ = some (.int .u64 ((rd_T76 l0_4 x5_2).f0.f0.f0)) ∧ w50.cell? ⟨gb322, 1, none⟩ = some (.int .u64 ((rd_T76 l0_4 x5_2).f0.f0.f1)) ∧ w50.cell? ⟨gb322, 2, none⟩ = some (.int .i64 ((rd_T76 l0_4 x5_2).f0.f1)) ∧ w50.cell? ⟨gb322, 3, none⟩ = some (.int .u32 ((rd_T76 l0_4 x5_2).f1)) ∧ w50.cell? ⟨gb322, 4, none⟩ = some (.int .u32 ((rd_T76 l0_4 x5_2).f2)) ∧ w50.cell? ⟨gb322, 5, none⟩ = some (.int .i64 ((rd_T76 l0_4 x5_2).f3)) := hS_
                                    refine norm_ (a' := ?_) ?_ ?_
                                    rotate_left
                                    · simp only [putAll, Act.put, List.setIfInBounds_toArray, List.set_cons_zero, List.set_cons_succ]
                                      rfl
                                    refine one_ (i := 12) (N := some 61) #[true, true, true, true, true, true, true, true, true, true, true, true, true, false, true, true, false, false, false, false, false] rfl rfl (one_of HT_.out (by kernel_rfl)) (by decide) (fun K hK => ?_)
                                    refine goes_ Try.func44 (by kernel_rfl) rfl #[.agg #[.int .u64 ((rd_T76 l0_4 x5_2).f0.f0.f0), .int .u64 ((rd_T76 l0_4 x5_2).f0.f0.f1)]] (by rfl) rfl rfl (by (try simp only [List.map_toArray, List.map_cons, List.map_nil]); first | rfl) ?_
                                    with_reducible refine (tenancyref04_PutAddr.calls k2 ((rd_T76 l0_4 x5_2).f0.f0.f0) ((rd_T76 l0_4 x5_2).f0.f0.f1) t328 _ A29.out).mono ?_
                                    rintro e w51 ⟨rfl, hb⟩
                                    refine ⟨_, rfl, ?_⟩
                                    have n0_ := Aside0.mk (Kd.R_below HO327.out hb)
                                    have n1_ := Aside0.mk (blk_below (g := gb313) (o := .cells #[.int .i64 a0_0, .int .u32 a0_1, .int .u32 a0_2, .int .u32 a0_3, .slice (some ad321) l0_4.length c0_4, .int .i64 a0_5] 37 (0, 0)) BK313.out hb)
                                    have n2_ := Aside0.mk (blk_below (g := gb314) (o := .cells #[.int .u16 0, .string (⟨#[]⟩ : ByteArray)] 40 (0, 0)) BK314.out hb)
                                    have n3_ := Aside0.mk (blk_below (g := gb322) (o := .cells #[.int .u64 ((rd_T76 l0_4 x5_2).f0.f0.f0), .int .u64 ((rd_T76 l0_4 x5_2).f0.f0.f1), .int .i64 ((rd_T76 l0_4 x5_2).f0.f1), .int .u32 ((rd_T76 l0_4 x5_2).f1), .int .u32 ((rd_T76 l0_4 x5_2).f2), .int .i64 ((rd_T76 l0_4 x5_2).f3)] 76 (0, 0)) BK322.out hb)
                                    have n4_ := Aside0.mk (below_step HB.out hb)
                                    clear HO327
                                    clear BK313
                                    clear BK314
                                    clear BK322
                                    clear HB
                                    have HO327 := n0_
                                    have BK313 := n1_
                                    have BK314 := n2_
                                    have BK322 := n3_
                                    have HB := n4_
                                    clear n0_ n1_ n2_ n3_ n4_
                                    (try clear hb)
                                    (try clear hb2)
                                    (try clear hk)
                                    (try clear hi)
                                    refine hK.out _ _ ⟨(blk_cell BK322.out 0).trans rfl, (blk_cell BK322.out 1).trans rfl, (blk_cell BK322.out 2).trans rfl, (blk_cell BK322.out 3).trans rfl, (blk_cell BK322.out 4).trans rfl, (blk_cell BK322.out 5).trans rfl⟩ (fun hHeld => ?_)
                                    clear hK K
                                    refine norm_ (a' := ?_) ?_ ?_
                                    rotate_left
                                    · show Act.put _ (some 61) _ = _
                                      simp only [Act.put, List.setIfInBounds_toArray, List.set_cons_zero, List.set_cons_succ, i64_w, i32_w]
                                      rfl
                                    refine pure_ (i := 13) (N := some 62) (v := ?_) (a' := ?_) #[true, true, true, true, true, true, true, true, true, true, true, true, true, true, true, true, false, false, false, false, false] rfl rfl (any_of HT_.out (by kernel_rfl)) (fun _ _ _ h => h) (Or.inl ⟨by rfl, ?_⟩) ?_ ?_
                                    rotate_left
                                    · intro w'
                                      go_simp
                                      with_reducible rfl
                                    rotate_left
                                    · simp only [Act.put, List.setIfInBounds_toArray, List.set_cons_zero, List.set_cons_succ, i64_w, i32_w]
                                      rfl
                                    exact norm_ (by first | (simp only [putAll, Act.put, List.setIfInBounds_toArray, List.set_cons_zero, List.set_cons_succ]; done)) (hJ6_7_12 (v326) _ ⟨hHeld, HO327.out, BK313.out, BK314.out, BK322.out, HB.out⟩)
                                · skip
                                  rintro v326 w51 ⟨hS_, h0_, h1_, h2_, h3_, h4_⟩
                                  have n0_ : Aside0 (Kd.R (Kd.int .u8) 5 w51 w.heap.size (fun _ => True) v326 y325) := ⟨h0_⟩
                                  have n1_ : Aside0 (w51.heap[gb313]? = some (.cells #[.int .i64 a0_0, .int .u32 a0_1, .int .u32 a0_2, .int .u32 a0_3, .slice (some ad321) l0_4.length c0_4, .int .i64 a0_5] 37 (0, 0))) := ⟨h1_⟩
                                  have n2_ : Aside0 (w51.heap[gb314]? = some (.cells #[.int .u16 0, .string (⟨#[]⟩ : ByteArray)] 40 (0, 0))) := ⟨h2_⟩
                                  have n3_ : Aside0 (w51.heap[gb322]? = some (.cells #[.int .u64 ((rd_T76 l0_4 x5_2).f0.f0.f0), .int .u64 ((rd_T76 l0_4 x5_2).f0.f0.f1), .int .i64 ((rd_T76 l0_4 x5_2).f0.f1), .int .u32 ((rd_T76 l0_4 x5_2).f1), .int .u32 ((rd_T76 l0_4 x5_2).f2), .int .i64 ((rd_T76 l0_4 x5_2).f3)] 76 (0, 0))) := ⟨h3_⟩
                                  have n4_ : Aside0 (Below w.heap.size w w51) := ⟨h4_⟩
                                  clear BK313
                                  clear BK314
                                  clear BK322
                                  clear HB
                                  clear h0_ h1_ h2_ h3_ h4_
                                  have HO327 := n0_
                                  have BK313 := n1_
                                  have BK314 := n2_
                                  have BK322 := n3_
                                  have HB := n4_
                                  clear n0_ n1_ n2_ n3_ n4_
                                  have hHeld : w51.cell? ⟨gb322, 0, none⟩ = some (.int .u64 ((rd_T76 l0_4 x5_2).f0.f0.f0)) ∧ w51.cell? ⟨gb322, 1, none⟩ = some (.int .u64 ((rd_T76 l0_4 x5_2).f0.f0.f1)) ∧ w51.cell? ⟨gb322, 2, none⟩ = some (.int .i64 ((rd_T76 l0_4 x5_2).f0.f1)) ∧ w51.cell? ⟨gb322, 3, none⟩ = some (.int .u32 ((rd_T76 l0_4 x5_2).f1)) ∧ w51.cell? ⟨gb322, 4, none⟩ = some (.int .u32 ((rd_T76 l0_4 x5_2).f2)) ∧ w51.cell? ⟨gb322, 5, none⟩ = some (.int .i64 ((rd_T76 l0_4 x5_2).f3)) := hS_
                                  refine norm_ (a' := ?_) ?_ ?_
                                  rotate_left
                                  · simp only [putAll, Act.put, List.setIfInBounds_toArray, List.set_cons_zero, List.set_cons_succ]
                                    rfl
                                  refine one_ (i := 7) (N := some 56) #[true, true, true, true, true, true, true, true, false, true, true, true, true, false, true, true, true, false, false, false, false] rfl rfl (one_of HT_.out (by kernel_rfl)) (by decide) (fun K hK => ?_)
                                  have hcv52 := own_string (P := Try.prog) Try.underlying57 Try.underlying5 Try.underlying9 (Kd.own_of_R HO327.out)
                                  refine value_ (w1 := ?_) (v := ?_) (by rfl) rfl ?_ ?_
                                  rotate_left 2
                                  · go_simp
                                    constructor
                                    · rfl
                                    · rfl
                                  clear hcv52
                                  refine hK.out _ _ ⟨(blk_cell BK322.out 0).trans rfl, (blk_cell BK322.out 1).trans rfl, (blk_cell BK322.out 2).trans rfl, (blk_cell BK322.out 3).trans rfl, (blk_cell BK322.out 4).trans rfl, (blk_cell BK322.out 5).trans rfl⟩ (fun hHeld => ?_)
                                  clear hK K
                                  refine norm_ (a' := ?_) ?_ ?_
                                  rotate_left
                                  · show Act.put _ (some 56) _ = _
                                    simp only [Act.put, List.setIfInBounds_toArray, List.set_cons_zero, List.set_cons_succ, i64_w, i32_w]
                                    rfl
                                  refine pure_ (i := 8) (N := some 57) (v := ?_) (a' := ?_) #[true, true, true, true, true, true, true, true, true, true, true, true, true, false, true, true, true, false, false, false, false] rfl rfl (any_of HT_.out (by kernel_rfl)) (fun _ _ _ h => h) (Or.inl ⟨by rfl, ?_⟩) ?_ ?_
                                  rotate_left
                                  · intro w'
                                    go_simp
                                    with_reducible rfl
                                  rotate_left
                                  · simp only [Act.put, List.setIfInBounds_toArray, List.set_cons_zero, List.set_cons_succ, i64_w, i32_w]
                                    rfl
                                  refine pure_ (i := 13) (N := some 62) (v := ?_) (a' := ?_) #[true, true, true, true, true, true, true, true, true, true, true, true, true, true, true, true, true, false, false, false, false] rfl rfl (any_of HT_.out (by kernel_rfl)) (fun _ _ _ h => h) (Or.inl ⟨by rfl, ?_⟩) ?_ ?_
                                  rotate_left
                                  · intro w'
                                    go_simp
                                    with_reducible rfl
                                  rotate_left
                                  · simp only [Act.put, List.setIfInBounds_toArray, List.set_cons_zero, List.set_cons_succ, i64_w, i32_w]
                                    rfl
                                  exact norm_ (by first | (simp only [putAll, Act.put, List.setIfInBounds_toArray, List.set_cons_zero, List.set_cons_succ]; done)) (hJ6_7_12_16 (v326) _ ⟨hHeld, HO327.out, BK313.out, BK314.out, BK322.out, HB.out⟩)
                              · skip
                                rintro v326 w51 ⟨hS_, h0_, h1_, h2_, h3_, h4_⟩
                                have n0_ : Aside0 (Kd.R (Kd.int .u8) 5 w51 w.heap.size (fun _ => True) v326 y325) := ⟨h0_⟩
                                have n1_ : Aside0 (w51.heap[gb313]? = some (.cells #[.int .i64 a0_0, .int .u32 a0_1, .int .u32 a0_2, .int .u32 a0_3, .slice (some ad321) l0_4.length c0_4, .int .i64 a0_5] 37 (0, 0))) := ⟨h1_⟩
                                have n2_ : Aside0 (w51.heap[gb314]? = some (.cells #[.int .u16 0, .string (⟨#[]⟩ : ByteArray)] 40 (0, 0))) := ⟨h2_⟩
                                have n3_ : Aside0 (w51.heap[gb322]? = some (.cells #[.int .u64 ((rd_T76 l0_4 x5_2).f0.f0.f0), .int .u64 ((rd_T76 l0_4 x5_2).f0.f0.f1), .int .i64 ((rd_T76 l0_4 x5_2).f0.f1), .int .u32 ((rd_T76 l0_4 x5_2).f1), .int .u32 ((rd_T76 l0_4 x5_2).f2), .int .i64 ((rd_T76 l0_4 x5_2).f3)] 76 (0, 0))) := ⟨h3_⟩
                                have n4_ : Aside0 (Below w.heap.size w w51) := ⟨h4_⟩
                                clear BK313
                                clear BK314
                                clear BK322
                                clear HB
                                clear h0_ h1_ h2_ h3_ h4_
                                have HO327 := n0_
                                have BK313 := n1_
                                have BK314 := n2_
                                have BK322 := n3_
                                have HB := n4_
                                clear n0_ n1_ n2_ n3_ n4_
                                have hHeld : w51.cell? ⟨gb322, 0, none⟩ = some (.int .u64 ((rd_T76 l0_4 x5_2).f0.f0.f0)) ∧ w51.cell? ⟨gb322, 1, none⟩ = some (.int .u64 ((rd_T76 l0_4 x5_2).f0.f0.f1)) ∧ w51.cell? ⟨gb322, 2, none⟩ = some (.int .i64 ((rd_T76 l0_4 x5_2).f0.f1)) ∧ w51.cell? ⟨gb322, 3, none⟩ = some (.int .u32 ((rd_T76 l0_4 x5_2).f1)) ∧ w51.cell? ⟨gb322, 4, none⟩ = some (.int .u32 ((rd_T76 l0_4 x5_2).f2)) ∧ w51.cell? ⟨gb322, 5, none⟩ = some (.int .i64 ((rd_T76 l0_4 x5_2).f3)) := hS_
                                refine norm_ (a' := ?_) ?_ ?_
                                rotate_left
                                · simp only [putAll, Act.put, List.setIfInBounds_toArray, List.set_cons_zero, List.set_cons_succ]
                                  rfl
                                refine one_ (i := 16) (N := some 65) #[true, true, true, true, true, true, true, true, true, true, true, true, true, true, true, true, true, false, false, false, false] rfl rfl (one_of HT_.out (by kernel_rfl)) (by decide) (fun K hK => ?_)
                                refine goes_ Try.func45 (by kernel_rfl) rfl #[.int .i64 ((rd_T76 l0_4 x5_2).f3)] (by rfl) rfl rfl (by (try simp only [List.map_toArray, List.map_cons, List.map_nil]); first | rfl) ?_
                                with_reducible refine (tenancyref15_statusOption.calls k2 ((rd_T76 l0_4 x5_2).f3) t329 _ A31.out).mono ?_
                                rintro e w52 ⟨rfl, hb⟩
                                refine ⟨_, rfl, ?_⟩
                                have n0_ := Aside0.mk (Kd.R_below HO327.out hb)
                                have n1_ := Aside0.mk (blk_below (g := gb313) (o := .cells #[.int .i64 a0_0, .int .u32 a0_1, .int .u32 a0_2, .int .u32 a0_3, .slice (some ad321) l0_4.length c0_4, .int .i64 a0_5] 37 (0, 0)) BK313.out hb)
                                have n2_ := Aside0.mk (blk_below (g := gb314) (o := .cells #[.int .u16 0, .string (⟨#[]⟩ : ByteArray)] 40 (0, 0)) BK314.out hb)
                                have n3_ := Aside0.mk (blk_below (g := gb322) (o := .cells #[.int .u64 ((rd_T76 l0_4 x5_2).f0.f0.f0), .int .u64 ((rd_T76 l0_4 x5_2).f0.f0.f1), .int .i64 ((rd_T76 l0_4 x5_2).f0.f1), .int .u32 ((rd_T76 l0_4 x5_2).f1), .int .u32 ((rd_T76 l0_4 x5_2).f2), .int .i64 ((rd_T76 l0_4 x5_2).f3)] 76 (0, 0)) BK322.out hb)
                                have n4_ := Aside0.mk (below_step HB.out hb)
                                clear HO327
                                clear BK313
                                clear BK314
                                clear BK322
                                clear HB
                                have HO327 := n0_
                                have BK313 := n1_
                                have BK314 := n2_
                                have BK322 := n3_
                                have HB := n4_
                                clear n0_ n1_ n2_ n3_ n4_
                                (try clear hb)
                                (try clear hb2)
                                (try clear hk)
                                (try clear hi)
                                refine hK.out _ _ ⟨(blk_cell BK322.out 0).trans rfl, (blk_cell BK322.out 1).trans rfl, (blk_cell BK322.out 2).trans rfl, (blk_cell BK322.out 3).trans rfl, (blk_cell BK322.out 4).trans rfl, (blk_cell BK322.out 5).trans rfl⟩ (fun hHeld => ?_)
                                clear hK K
                                refine norm_ (a' := ?_) ?_ ?_
                                rotate_left
                                · show Act.put _ (some 65) _ = _
                                  simp only [Act.put, List.setIfInBounds_toArray, List.set_cons_zero, List.set_cons_succ, i64_w, i32_w]
                                  rfl
                                exact norm_ (by first | (simp only [putAll, Act.put, List.setIfInBounds_toArray, List.set_cons_zero, List.set_cons_succ]; done)) (hJ6_7_12_16 (v326) _ ⟨hHeld, HO327.out, BK313.out, BK314.out, BK322.out, HB.out⟩)
                            rintro v326 w52 ⟨hS_, h0_, h1_, h2_, h3_, h4_⟩
                            have n0_ : Aside0 (Kd.R (Kd.int .u8) 5 w52 w.heap.size (fun _ => True) v326 y325) := ⟨h0_⟩
                            have n1_ : Aside0 (w52.heap[gb313]? = some (.cells #[.int .i64 a0_0, .int .u32 a0_1, .int .u32 a0_2, .int .u32 a0_3, .slice (some ad321) l0_4.length c0_4, .int .i64 a0_5] 37 (0, 0))) := ⟨h1_⟩
                            have n2_ : Aside0 (w52.heap[gb314]? = some (.cells #[.int .u16 0, .string (⟨#[]⟩ : ByteArray)] 40 (0, 0))) := ⟨h2_⟩
                            have n3_ : Aside0 (w52.heap[gb322]? = some (.cells #[.int .u64 ((rd_T76 l0_4 x5_2).f0.f0.f0), .int .u64 ((rd_T76 l0_4 x5_2).f0.f0.f1), .int .i64 ((rd_T76 l0_4 x5_2).f0.f1), .int .u32 ((rd_T76 l0_4 x5_2).f1), .int .u32 ((rd_T76 l0_4 x5_2).f2), .int .i64 ((rd_T76 l0_4 x5_2).f3)] 76 (0, 0))) := ⟨h3_⟩
                            have n4_ : Aside0 (Below w.heap.size w w52) := ⟨h4_⟩
                            clear BK313
                            clear BK314
                            clear BK322
                            clear HB
                            clear h0_ h1_ h2_ h3_ h4_
                            have HO327 := n0_
                            have BK313 := n1_
                            have BK314 := n2_
                            have BK322 := n3_
                            have HB := n4_
                            clear n0_ n1_ n2_ n3_ n4_
                            have hHeld : w52.cell? ⟨gb322, 0, none⟩ = some (.int .u64 ((rd_T76 l0_4 x5_2).f0.f0.f0)) ∧ w52.cell? ⟨gb322, 1, none⟩ = some (.int .u64 ((rd_T76 l0_4 x5_2).f0.f0.f1)) ∧ w52.cell? ⟨gb322, 2, none⟩ = some (.int .i64 ((rd_T76 l0_4 x5_2).f0.f1)) ∧ w52.cell? ⟨gb322, 3, none⟩ = some (.int .u32 ((rd_T76 l0_4 x5_2).f1)) ∧ w52.cell? ⟨gb322, 4, none⟩ = some (.int .u32 ((rd_T76 l0_4 x5_2).f2)) ∧ w52.cell? ⟨gb322, 5, none⟩ = some (.int .i64 ((rd_T76 l0_4 x5_2).f3)) := hS_
                            refine norm_ (a' := ?_) ?_ ?_
                            rotate_left
                            · simp only [putAll, Act.put, List.setIfInBounds_toArray, List.set_cons_zero, List.set_cons_succ]
                              rfl
                            refine pure_ (i := 17) (N := some 66) (v := ?_) (a' := ?_) #[true, true, true, true, true, true, true, true, true, true, true, true, true, true, true, true, true, true, false, false, false] rfl rfl (any_of HT_.out (by kernel_rfl)) (fun _ _ _ h => h) (Or.inl ⟨by rfl, ?_⟩) ?_ ?_
                            rotate_left
                            · intro w'
                              go_simp
                              with_reducible rfl
                            rotate_left
                            · simp only [Act.put, List.setIfInBounds_toArray, List.set_cons_zero, List.set_cons_succ, i64_w, i32_w]
                              rfl
                            refine one_ (i := 18) (N := some 67) #[true, true, true, true, true, true, true, true, true, true, true, true, true, true, true, true, true, true, true, false, false] rfl rfl (one_of HT_.out (by kernel_rfl)) (by decide) (fun K hK => ?_)
                            refine goes_ Try.func43 (by kernel_rfl) rfl #[.int .u16 26, .string ((((t323 ++ t324) ++ (strOfNums y325)) ++ t328) ++ t329)] (by rfl) rfl rfl (by (try simp only [List.map_toArray, List.map_cons, List.map_nil]); first | rfl) ?_
                            with_reducible refine (tenancyref15_option.calls k2 26 ((((t323 ++ t324) ++ (strOfNums y325)) ++ t328) ++ t329) t330 _ A33.out).mono ?_
                            rintro e w53 ⟨rfl, hb⟩
                            refine ⟨_, rfl, ?_⟩
                            have n0_ := Aside0.mk (Kd.R_below HO327.out hb)
                            have n1_ := Aside0.mk (blk_below (g := gb313) (o := .cells #[.int .i64 a0_0, .int .u32 a0_1, .int .u32 a0_2, .int .u32 a0_3, .slice (some ad321) l0_4.length c0_4, .int .i64 a0_5] 37 (0, 0)) BK313.out hb)
                            have n2_ := Aside0.mk (blk_below (g := gb314) (o := .cells #[.int .u16 0, .string (⟨#[]⟩ : ByteArray)] 40 (0, 0)) BK314.out hb)
                            have n3_ := Aside0.mk (blk_below (g := gb322) (o := .cells #[.int .u64 ((rd_T76 l0_4 x5_2).f0.f0.f0), .int .u64 ((rd_T76 l0_4 x5_2).f0.f0.f1), .int .i64 ((rd_T76 l0_4 x5_2).f0.f1), .int .u32 ((rd_T76 l0_4 x5_2).f1), .int .u32 ((rd_T76 l0_4 x5_2).f2), .int .i64 ((rd_T76 l0_4 x5_2).f3)] 76 (0, 0)) BK322.out hb)
                            have n4_ := Aside0.mk (below_step HB.out hb)
                            clear HO327
                            clear BK313
                            clear BK314
                            clear BK322
                            clear HB
                            have HO327 := n0_
                            have BK313 := n1_
                            have BK314 := n2_
                            have BK322 := n3_
                            have HB := n4_
                            clear n0_ n1_ n2_ n3_ n4_
                            (try clear hb)
                            (try clear hb2)
                            (try clear hk)
                            (try clear hi)
                            refine hK.out _ _ ⟨(blk_cell BK322.out 0).trans rfl, (blk_cell BK322.out 1).trans rfl, (blk_cell BK322.out 2).trans rfl, (blk_cell BK322.out 3).trans rfl, (blk_cell BK322.out 4).trans rfl, (blk_cell BK322.out 5).trans rfl⟩ (fun hHeld => ?_)
                            clear hK K
                            refine norm_ (a' := ?_) ?_ ?_
                            rotate_left
                            · show Act.put _ (some 67) _ = _
                              simp only [Act.put, List.setIfInBounds_toArray, List.set_cons_zero, List.set_cons_succ, i64_w, i32_w]
                              rfl
                            refine pure_ (i := 19) (N := some 68) (v := ?_) (a' := ?_) #[true, true, true, true, true, true, true, true, true, true, true, true, true, true, true, true, true, true, true, true, false] rfl rfl (any_of HT_.out (by kernel_rfl)) (fun _ _ _ h => h) (Or.inl ⟨by rfl, ?_⟩) ?_ ?_
                            rotate_left
                            · intro w'
                              go_simp
                              with_reducible rfl
                            rotate_left
                            · simp only [Act.put, List.setIfInBounds_toArray, List.set_cons_zero, List.set_cons_succ, i64_w, i32_w]
                              rfl
                            refine pure_ (i := 20) (N := some 4) (v := ?_) (a' := ?_) #[true, true, true, true, true, true, true, true, true, true, true, true, true, true, true, true, true, true, true, true, true] rfl rfl (any_of HT_.out (by kernel_rfl)) (fun _ _ _ h => h) (Or.inl ⟨by rfl, ?_⟩) ?_ ?_
                            rotate_left
                            · intro w'
                              go_simp
                              with_reducible rfl
                            rotate_left
                            · simp only [Act.put, List.setIfInBounds_toArray, List.set_cons_zero, List.set_cons_succ, i64_w, i32_w]
                              rfl
                            refine done_ (done_of HT_.out (by kernel_rfl)) ?_
                            try go_wp2
                            go_roundg k2
                            case measure => have := HJ4.out; have := HK2.out; omega
                            case rel => exact ⟨(x4_2 ++ t330), (wrap64 (x5_2 + 1)), (by rfl), (by rfl), H', ⟨by have := HJ4.out; have := HK2.out; omega⟩, ⟨by exact BK313.out⟩, ⟨by exact BK314.out⟩, ⟨by exact HB.out⟩⟩
                          · rw [if_neg c34] at H
                            exact absurd H (by simp)
                        · rw [if_neg c32] at H
                          exact absurd H (by simp)
                      · rw [if_neg c30] at H
                        exact absurd H (by simp)
                    · rw [if_neg c28] at H
                      exact absurd H (by simp)
                  · rw [if_neg c27] at H
                    have c27b0 : (a0_0 == 4) = false := beq_eq_false_iff_ne.mpr c27
                    have c27b1 : (a0_0 != 4) = true := bne_iff_ne.mpr c27
                    replace H := Option.bind_eq_some_iff.mp H
                    obtain ⟨t331, A540, H⟩ := H
                    replace H : (if t331.size + (t323 ++ t324).size ≤ 9223372036854775807 then ((tenancyref15_statusOption.f k2 ((rd_T76 l0_4 x5_2).f3)).bind fun t332 => (if (t331 ++ (t323 ++ t324)).size + t332.size ≤ 9223372036854775807 then ((tenancyref15_option.f k2 5 ((t331 ++ (t323 ++ t324)) ++ t332)).bind fun t333 => (if x4_2.size + t333.size ≤ 9223372036854775807 then (tenancyref15_PutIA.l0 k2 (x4_2 ++ t333) (wrap64 (x5_2 + 1)) a0_0 a0_1 a0_2 a0_3 l0_4 a0_5) else (none))) else (none))) else (none)) = some (r1, r2, r3) := H
                    have A54 := Aside0.mk A540
                    clear A540
                    by_cases c55 : t331.size + (t323 ++ t324).size ≤ 9223372036854775807
                    · rw [if_pos c55] at H
                      have c55b0 := eq_true c55
                      have c55b1 : decide (t331.size + (t323 ++ t324).size ≤ 9223372036854775807) = true := decide_eq_true c55
                      try have c55b2 : (9223372036854775807 < t331.size + (t323 ++ t324).size) = False := eq_false (Nat.not_lt.2 c55)
                      (try (have c55b2a := c55b2; simp only [ByteArray.size_append] at c55b2a))
                      replace H := Option.bind_eq_some_iff.mp H
                      obtain ⟨t332, A560, H⟩ := H
                      replace H : (if (t331 ++ (t323 ++ t324)).size + t332.size ≤ 9223372036854775807 then ((tenancyref15_option.f k2 5 ((t331 ++ (t323 ++ t324)) ++ t332)).bind fun t333 => (if x4_2.size + t333.size ≤ 9223372036854775807 then (tenancyref15_PutIA.l0 k2 (x4_2 ++ t333) (wrap64 (x5_2 + 1)) a0_0 a0_1 a0_2 a0_3 l0_4 a0_5) else (none))) else (none)) = some (r1, r2, r3) := H
                      have A56 := Aside0.mk A560
                      clear A560
                      by_cases c57 : (t331 ++ (t323 ++ t324)).size + t332.size ≤ 9223372036854775807
                      · rw [if_pos c57] at H
                        have c57b0 := eq_true c57
                        have c57b1 : decide ((t331 ++ (t323 ++ t324)).size + t332.size ≤ 9223372036854775807) = true := decide_eq_true c57
                        try have c57b2 : (9223372036854775807 < (t331 ++ (t323 ++ t324)).size + t332.size) = False := eq_false (Nat.not_lt.2 c57)
                        (try (have c57b2a := c57b2; simp only [ByteArray.size_append] at c57b2a))
                        replace H := Option.bind_eq_some_iff.mp H
                        obtain ⟨t333, A580, H⟩ := H
                        replace H : (if x4_2.size + t333.size ≤ 9223372036854775807 then (tenancyref15_PutIA.l0 k2 (x4_2 ++ t333) (wrap64 (x5_2 + 1)) a0_0 a0_1 a0_2 a0_3 l0_4 a0_5) else (none)) = some (r1, r2, r3) := H
                        have A58 := Aside0.mk A580
                        clear A580
                        by_cases c59 : x4_2.size + t333.size ≤ 9223372036854775807
                        · rw [if_pos c59] at H
                          have c59b0 := eq_true c59
                          have c59b1 : decide (x4_2.size + t333.size ≤ 9223372036854775807) = true := decide_eq_true c59
                          try have c59b2 : (9223372036854775807 < x4_2.size + t333.size) = False := eq_false (Nat.not_lt.2 c59)
                          have H' := Aside0.mk H
                          clear H
                          have hnb60 := NB313_314.out
                          have hnc60 := NB314_313.out
                          obtain ⟨hcz61_0, hcz61_1, hcz61_2, hcz61_3, hcz61_4, hcz61_5⟩ := XRun.bc6 BK313.out
                          obtain ⟨hfz61_0, hfz61_1, hfz61_2, hfz61_3, hfz61_4, hfz61_5⟩ := XRun.bf6 BK313.out
                          have p321 : 0 ≤ (x5_2 : Int) := of_decide_eq_true (by first | (with_reducible assumption))
                          have q321 : x5_2 < (l0_4.length : Int) := of_decide_eq_true (by first | (with_reducible assumption))
                          obtain ⟨ad321, e321, hx321_0, hx321_1, hx321_2, hx321_3, hx321_4, hx321_5⟩ := at_T76 HR0_4.out x5_2 p321 q321
                          cases e321
                          replace hx321_0 := (HB.out.cell (World.block_lt_of_cell? w _ hx321_0)).trans hx321_0
                          replace hx321_1 := (HB.out.cell (World.block_lt_of_cell? w _ hx321_1)).trans hx321_1
                          replace hx321_2 := (HB.out.cell (World.block_lt_of_cell? w _ hx321_2)).trans hx321_2
                          replace hx321_3 := (HB.out.cell (World.block_lt_of_cell? w _ hx321_3)).trans hx321_3
                          replace hx321_4 := (HB.out.cell (World.block_lt_of_cell? w _ hx321_4)).trans hx321_4
                          replace hx321_5 := (HB.out.cell (World.block_lt_of_cell? w _ hx321_5)).trans hx321_5
                          replace p321 := eq_true p321
                          replace q321 := eq_true q321
                          try go_wp2_with (first | ((with_reducible refine gate_dst (N := 6) rfl ?_); refine box_event ?hg (N := 6) ?hd (cs := #[.int .u64 0, .int .u64 0, .int .i64 0, .int .u32 0, .int .u32 0, .int .i64 0]) (t := 76) ?hr ?_; (case hd => rfl); (case hg => rfl); (case hr => go_simp; done); intro gb322 hg w62 hbox hb; have n0_ := Aside0.mk (blk_below (g := gb313) (o := .cells #[.int .i64 a0_0, .int .u32 a0_1, .int .u32 a0_2, .int .u32 a0_3, .slice (some ad321) l0_4.length c0_4, .int .i64 a0_5] 37 (0, 0)) BK313.out hb); have n1_ := Aside0.mk (blk_below (g := gb314) (o := .cells #[.int .u16 0, .string (⟨#[]⟩ : ByteArray)] 40 (0, 0)) BK314.out hb); have n2_ := Aside0.mk (below_step HB.out hb); have n3_ := Aside0.mk (hbox); have n4_ := Aside0.mk ((by rw [hg]; exact (below_size HB.out) : w.heap.size ≤ gb322)); have n5_ := Aside0.mk ((by rw [hg]; exact (below_size HB.out) : w.heap.size ≤ gb322)); have n6_ := Aside0.mk ((by rw [hg]; exact Nat.ne_of_lt (blk_lt (g := gb313) (o := .cells #[.int .i64 a0_0, .int .u32 a0_1, .int .u32 a0_2, .int .u32 a0_3, .slice (some ad321) l0_4.length c0_4, .int .i64 a0_5] 37 (0, 0)) BK313.out) : gb313 ≠ gb322)); have n7_ := Aside0.mk ((by rw [hg]; exact Nat.ne_of_gt (blk_lt (g := gb313) (o := .cells #[.int .i64 a0_0, .int .u32 a0_1, .int .u32 a0_2, .int .u32 a0_3, .slice (some ad321) l0_4.length c0_4, .int .i64 a0_5] 37 (0, 0)) BK313.out) : gb322 ≠ gb313)); have n8_ := Aside0.mk ((by rw [hg]; exact Nat.ne_of_lt (blk_lt (g := gb314) (o := .cells #[.int .u16 0, .string (⟨#[]⟩ : ByteArray)] 40 (0, 0)) BK314.out) : gb314 ≠ gb322)); have n9_ := Aside0.mk ((by rw [hg]; exact Nat.ne_of_gt (blk_lt (g := gb314) (o := .cells #[.int .u16 0, .string (⟨#[]⟩ : ByteArray)] 40 (0, 0)) BK314.out) : gb322 ≠ gb314)); clear BK313; clear BK314; clear HB; have BK313 := n0_; have BK314 := n1_; have HB := n2_; have BK322 := n3_; have GW322 := n4_; have GE322 := n5_; have NB313_322 := n6_; have NB322_313 := n7_; have NB314_322 := n8_; have NB322_314 := n9_; clear n0_ n1_ n2_ n3_ n4_ n5_ n6_ n7_ n8_ n9_; clear hb hbox hg; have hnb63 := NB322_313.out; have hnc63 := NB313_322.out; have hnb64 := NB322_314.out; have hnc64 := NB314_322.out; obtain ⟨hcz65_0, hcz65_1, hcz65_2, hcz65_3, hcz65_4, hcz65_5⟩ := XRun.bc6 BK322.out; obtain ⟨hfz65_0, hfz65_1, hfz65_2, hfz65_3, hfz65_4, hfz65_5⟩ := XRun.bf6 BK322.out))
                          have n0_ : Aside0 (((((((w62.setCell ⟨gb322, 0, none⟩ (.int .u64 ((rd_T76 l0_4 x5_2).f0.f0.f0))).setCell ⟨gb322, 1, none⟩ (.int .u64 ((rd_T76 l0_4 x5_2).f0.f0.f1))).setCell ⟨gb322, 2, none⟩ (.int .i64 ((rd_T76 l0_4 x5_2).f0.f1))).setCell ⟨gb322, 3, none⟩ (.int .u32 ((rd_T76 l0_4 x5_2).f1))).setCell ⟨gb322, 4, none⟩ (.int .u32 ((rd_T76 l0_4 x5_2).f2))).setCell ⟨gb322, 5, none⟩ (.int .i64 ((rd_T76 l0_4 x5_2).f3))).heap[gb313]? = some (.cells #[.int .i64 a0_0, .int .u32 a0_1, .int .u32 a0_2, .int .u32 a0_3, .slice (some ad321) l0_4.length c0_4, .int .i64 a0_5] 37 (0, 0))) := ⟨by refine blk_far ?_ NB313_322.out _; refine blk_far ?_ NB313_322.out _; refine blk_far ?_ NB313_322.out _; refine blk_far ?_ NB313_322.out _; refine blk_far ?_ NB313_322.out _; refine blk_far ?_ NB313_322.out _; exact BK313.out⟩
                          have n1_ : Aside0 (((((((w62.setCell ⟨gb322, 0, none⟩ (.int .u64 ((rd_T76 l0_4 x5_2).f0.f0.f0))).setCell ⟨gb322, 1, none⟩ (.int .u64 ((rd_T76 l0_4 x5_2).f0.f0.f1))).setCell ⟨gb322, 2, none⟩ (.int .i64 ((rd_T76 l0_4 x5_2).f0.f1))).setCell ⟨gb322, 3, none⟩ (.int .u32 ((rd_T76 l0_4 x5_2).f1))).setCell ⟨gb322, 4, none⟩ (.int .u32 ((rd_T76 l0_4 x5_2).f2))).setCell ⟨gb322, 5, none⟩ (.int .i64 ((rd_T76 l0_4 x5_2).f3))).heap[gb314]? = some (.cells #[.int .u16 0, .string (⟨#[]⟩ : ByteArray)] 40 (0, 0))) := ⟨by refine blk_far ?_ NB314_322.out _; refine blk_far ?_ NB314_322.out _; refine blk_far ?_ NB314_322.out _; refine blk_far ?_ NB314_322.out _; refine blk_far ?_ NB314_322.out _; refine blk_far ?_ NB314_322.out _; exact BK314.out⟩
                          have n2_ : Aside0 (((((((w62.setCell ⟨gb322, 0, none⟩ (.int .u64 ((rd_T76 l0_4 x5_2).f0.f0.f0))).setCell ⟨gb322, 1, none⟩ (.int .u64 ((rd_T76 l0_4 x5_2).f0.f0.f1))).setCell ⟨gb322, 2, none⟩ (.int .i64 ((rd_T76 l0_4 x5_2).f0.f1))).setCell ⟨gb322, 3, none⟩ (.int .u32 ((rd_T76 l0_4 x5_2).f1))).setCell ⟨gb322, 4, none⟩ (.int .u32 ((rd_T76 l0_4 x5_2).f2))).setCell ⟨gb322, 5, none⟩ (.int .i64 ((rd_T76 l0_4 x5_2).f3))).heap[gb322]? = some (.cells #[.int .u64 ((rd_T76 l0_4 x5_2).f0.f0.f0), .int .u64 ((rd_T76 l0_4 x5_2).f0.f0.f1), .int .i64 ((rd_T76 l0_4 x5_2).f0.f1), .int .u32 ((rd_T76 l0_4 x5_2).f1), .int .u32 ((rd_T76 l0_4 x5_2).f2), .int .i64 ((rd_T76 l0_4 x5_2).f3)] 76 (0, 0))) := ⟨by refine blk_put (cs := #[.int .u64 ((rd_T76 l0_4 x5_2).f0.f0.f0), .int .u64 ((rd_T76 l0_4 x5_2).f0.f0.f1), .int .i64 ((rd_T76 l0_4 x5_2).f0.f1), .int .u32 ((rd_T76 l0_4 x5_2).f1), .int .u32 ((rd_T76 l0_4 x5_2).f2), .int .i64 0]) ?_ 5 _ rfl; refine blk_put (cs := #[.int .u64 ((rd_T76 l0_4 x5_2).f0.f0.f0), .int .u64 ((rd_T76 l0_4 x5_2).f0.f0.f1), .int .i64 ((rd_T76 l0_4 x5_2).f0.f1), .int .u32 ((rd_T76 l0_4 x5_2).f1), .int .u32 0, .int .i64 0]) ?_ 4 _ rfl; refine blk_put (cs := #[.int .u64 ((rd_T76 l0_4 x5_2).f0.f0.f0), .int .u64 ((rd_T76 l0_4 x5_2).f0.f0.f1), .int .i64 ((rd_T76 l0_4 x5_2).f0.f1), .int .u32 0, .int .u32 0, .int .i64 0]) ?_ 3 _ rfl; refine blk_put (cs := #[.int .u64 ((rd_T76 l0_4 x5_2).f0.f0.f0), .int .u64 ((rd_T76 l0_4 x5_2).f0.f0.f1), .int .i64 0, .int .u32 0, .int .u32 0, .int .i64 0]) ?_ 2 _ rfl; refine blk_put (cs := #[.int .u64 ((rd_T76 l0_4 x5_2).f0.f0.f0), .int .u64 0, .int .i64 0, .int .u32 0, .int .u32 0, .int .i64 0]) ?_ 1 _ rfl; refine blk_put (cs := #[.int .u64 0, .int .u64 0, .int .i64 0, .int .u32 0, .int .u32 0, .int .i64 0]) ?_ 0 _ rfl; exact BK322.out⟩
                          have n3_ : Aside0 (Below w.heap.size w ((((((w62.setCell ⟨gb322, 0, none⟩ (.int .u64 ((rd_T76 l0_4 x5_2).f0.f0.f0))).setCell ⟨gb322, 1, none⟩ (.int .u64 ((rd_T76 l0_4 x5_2).f0.f0.f1))).setCell ⟨gb322, 2, none⟩ (.int .i64 ((rd_T76 l0_4 x5_2).f0.f1))).setCell ⟨gb322, 3, none⟩ (.int .u32 ((rd_T76 l0_4 x5_2).f1))).setCell ⟨gb322, 4, none⟩ (.int .u32 ((rd_T76 l0_4 x5_2).f2))).setCell ⟨gb322, 5, none⟩ (.int .i64 ((rd_T76 l0_4 x5_2).f3)))) := ⟨by repeat (first | (with_reducible first | exact HB.out | refine below_set ?_ GE322.out))⟩
                          (try clear BK313)
                          (try clear BK314)
                          (try clear BK322)
                          (try clear HB)
                          generalize ((((((w62.setCell ⟨gb322, 0, none⟩ (.int .u64 ((rd_T76 l0_4 x5_2).f0.f0.f0))).setCell ⟨gb322, 1, none⟩ (.int .u64 ((rd_T76 l0_4 x5_2).f0.f0.f1))).setCell ⟨gb322, 2, none⟩ (.int .i64 ((rd_T76 l0_4 x5_2).f0.f1))).setCell ⟨gb322, 3, none⟩ (.int .u32 ((rd_T76 l0_4 x5_2).f1))).setCell ⟨gb322, 4, none⟩ (.int .u32 ((rd_T76 l0_4 x5_2).f2))).setCell ⟨gb322, 5, none⟩ (.int .i64 ((rd_T76 l0_4 x5_2).f3))) = w66 at n0_ n1_ n2_ n3_ ⊢
                          have BK313 := n0_
                          have BK314 := n1_
                          have BK322 := n2_
                          have HB := n3_
                          clear n0_ n1_ n2_ n3_
                          have n0_ := Aside0.mk (blk_drew BK313.out)
                          have n1_ := Aside0.mk (blk_drew BK314.out)
                          have n2_ := Aside0.mk (blk_drew BK322.out)
                          have n3_ := Aside0.mk (below_drew1 HB.out)
                          clear BK313
                          clear BK314
                          clear BK322
                          clear HB
                          have BK313 := n0_
                          have BK314 := n1_
                          have BK322 := n2_
                          have HB := n3_
                          clear n0_ n1_ n2_ n3_
                          refine start_ (n := 8) (S := fun w' => w'.cell? ⟨gb322, 0, none⟩ = some (.int .u64 ((rd_T76 l0_4 x5_2).f0.f0.f0)) ∧ w'.cell? ⟨gb322, 1, none⟩ = some (.int .u64 ((rd_T76 l0_4 x5_2).f0.f0.f1)) ∧ w'.cell? ⟨gb322, 2, none⟩ = some (.int .i64 ((rd_T76 l0_4 x5_2).f0.f1)) ∧ w'.cell? ⟨gb322, 3, none⟩ = some (.int .u32 ((rd_T76 l0_4 x5_2).f1)) ∧ w'.cell? ⟨gb322, 4, none⟩ = some (.int .u32 ((rd_T76 l0_4 x5_2).f2)) ∧ w'.cell? ⟨gb322, 5, none⟩ = some (.int .i64 ((rd_T76 l0_4 x5_2).f3))) (ds := []) #[false, false, false, false, false, false, false, false] (by kernel_rfl) rfl rfl ⟨(blk_cell BK322.out 0).trans rfl, (blk_cell BK322.out 1).trans rfl, (blk_cell BK322.out 2).trans rfl, (blk_cell BK322.out 3).trans rfl, (blk_cell BK322.out 4).trans rfl, (blk_cell BK322.out 5).trans rfl⟩ (fun hHeld => ?_); refine with_tabW tenancyref15_PutIA.tab10 tenancyref15_PutIA.bits10 (fun HT_ HW_ => ?_)
                          generalize w66.drew = w67 at BK313 BK314 BK322 HB hHeld ⊢
                          refine pure_ (i := 0) (N := some 39) (v := ?_) (a' := ?_) #[true, false, false, false, false, false, false, false] rfl rfl (any_of HT_.out (by kernel_rfl)) (fun _ _ _ h => h) (Or.inl ⟨by rfl, ?_⟩) ?_ ?_
                          rotate_left
                          · intro w'
                            go_simp
                            with_reducible rfl
                          rotate_left
                          · simp only [Act.put, List.setIfInBounds_toArray, List.set_cons_zero, List.set_cons_succ, i64_w, i32_w]
                            rfl
                          refine pure_ (i := 3) (N := some 42) (v := ?_) (a' := ?_) #[true, false, false, true, false, false, false, false] rfl rfl (any_of HT_.out (by kernel_rfl)) (fun _ _ _ h => h) (Or.inl ⟨by rfl, ?_⟩) ?_ ?_
                          rotate_left
                          · intro w'
                            go_simp
                            with_reducible rfl
                          rotate_left
                          · simp only [Act.put, List.setIfInBounds_toArray, List.set_cons_zero, List.set_cons_succ, i64_w, i32_w]
                            rfl
                          refine take_ (i := 1) (N := some 40) (v := ?_) (a' := ?_) #[true, true, false, true, false, false, false, false] rfl rfl (take_ofW HT_.out HW_.out (by kernel_rfl)) (fun _ _ _ h => h) (Or.inl ⟨by rfl, ?_⟩) hHeld ?_ ?_
                          rotate_left
                          · rintro w' ⟨s0, s1, s2, s3, s4, s5⟩
                            go_simp
                            with_reducible rfl
                          rotate_left
                          · simp only [Act.put, List.setIfInBounds_toArray, List.set_cons_zero, List.set_cons_succ, i64_w, i32_w]
                            rfl
                          refine take_ (i := 4) (N := some 43) (v := ?_) (a' := ?_) #[true, true, false, true, true, false, false, false] rfl rfl (take_ofW HT_.out HW_.out (by kernel_rfl)) (fun _ _ _ h => h) (Or.inl ⟨by rfl, ?_⟩) hHeld ?_ ?_
                          rotate_left
                          · rintro w' ⟨s0, s1, s2, s3, s4, s5⟩
                            go_simp
                            with_reducible rfl
                          rotate_left
                          · simp only [Act.put, List.setIfInBounds_toArray, List.set_cons_zero, List.set_cons_succ, i64_w, i32_w]
                            rfl
                          refine one_ (i := 2) (N := some 41) #[true, true, true, true, true, false, false, false] rfl rfl (one_of HT_.out (by kernel_rfl)) (by decide) (fun K hK => ?_)
                          refine goes_ Try.func42 (by kernel_rfl) rfl #[.int .u32 ((rd_T76 l0_4 x5_2).f1)] (by rfl) rfl rfl (by (try simp only [List.map_toArray, List.map_cons, List.map_nil]); first | rfl) ?_
                          with_reducible refine (tenancyref04_Put32.calls k2 ((rd_T76 l0_4 x5_2).f1) t323 _ A24.out).mono ?_
                          rintro e w68 ⟨rfl, hb⟩
                          refine ⟨_, rfl, ?_⟩
                          have n0_ := Aside0.mk (blk_below (g := gb313) (o := .cells #[.int .i64 a0_0, .int .u32 a0_1, .int .u32 a0_2, .int .u32 a0_3, .slice (some ad321) l0_4.length c0_4, .int .i64 a0_5] 37 (0, 0)) BK313.out hb)
                          have n1_ := Aside0.mk (blk_below (g := gb314) (o := .cells #[.int .u16 0, .string (⟨#[]⟩ : ByteArray)] 40 (0, 0)) BK314.out hb)
                          have n2_ := Aside0.mk (blk_below (g := gb322) (o := .cells #[.int .u64 ((rd_T76 l0_4 x5_2).f0.f0.f0), .int .u64 ((rd_T76 l0_4 x5_2).f0.f0.f1), .int .i64 ((rd_T76 l0_4 x5_2).f0.f1), .int .u32 ((rd_T76 l0_4 x5_2).f1), .int .u32 ((rd_T76 l0_4 x5_2).f2), .int .i64 ((rd_T76 l0_4 x5_2).f3)] 76 (0, 0)) BK322.out hb)
                          have n3_ := Aside0.mk (below_step HB.out hb)
                          clear BK313
                          clear BK314
                          clear BK322
                          clear HB
                          have BK313 := n0_
                          have BK314 := n1_
                          have BK322 := n2_
                          have HB := n3_
                          clear n0_ n1_ n2_ n3_
                          (try clear hb)
                          (try clear hb2)
                          (try clear hk)
                          (try clear hi)
                          refine hK.out _ _ ⟨(blk_cell BK322.out 0).trans rfl, (blk_cell BK322.out 1).trans rfl, (blk_cell BK322.out 2).trans rfl, (blk_cell BK322.out 3).trans rfl, (blk_cell BK322.out 4).trans rfl, (blk_cell BK322.out 5).trans rfl⟩ (fun hHeld => ?_)
                          clear hK K
                          refine norm_ (a' := ?_) ?_ ?_
                          rotate_left
                          · show Act.put _ (some 41) _ = _
                            simp only [Act.put, List.setIfInBounds_toArray, List.set_cons_zero, List.set_cons_succ, i64_w, i32_w]
                            rfl
                          refine one_ (i := 5) (N := some 44) #[true, true, true, true, true, true, false, false] rfl rfl (one_of HT_.out (by kernel_rfl)) (by decide) (fun K hK => ?_)
                          refine goes_ Try.func42 (by kernel_rfl) rfl #[.int .u32 ((rd_T76 l0_4 x5_2).f2)] (by rfl) rfl rfl (by (try simp only [List.map_toArray, List.map_cons, List.map_nil]); first | rfl) ?_
                          with_reducible refine (tenancyref04_Put32.calls k2 ((rd_T76 l0_4 x5_2).f2) t324 _ A25.out).mono ?_
                          rintro e w69 ⟨rfl, hb⟩
                          refine ⟨_, rfl, ?_⟩
                          have n0_ := Aside0.mk (blk_below (g := gb313) (o := .cells #[.int .i64 a0_0, .int .u32 a0_1, .int .u32 a0_2, .int .u32 a0_3, .slice (some ad321) l0_4.length c0_4, .int .i64 a0_5] 37 (0, 0)) BK313.out hb)
                          have n1_ := Aside0.mk (blk_below (g := gb314) (o := .cells #[.int .u16 0, .string (⟨#[]⟩ : ByteArray)] 40 (0, 0)) BK314.out hb)
                          have n2_ := Aside0.mk (blk_below (g := gb322) (o := .cells #[.int .u64 ((rd_T76 l0_4 x5_2).f0.f0.f0), .int .u64 ((rd_T76 l0_4 x5_2).f0.f0.f1), .int .i64 ((rd_T76 l0_4 x5_2).f0.f1), .int .u32 ((rd_T76 l0_4 x5_2).f1), .int .u32 ((rd_T76 l0_4 x5_2).f2), .int .i64 ((rd_T76 l0_4 x5_2).f3)] 76 (0, 0)) BK322.out hb)
                          have n3_ := Aside0.mk (below_step HB.out hb)
                          clear BK313
                          clear BK314
                          clear BK322
                          clear HB
                          have BK313 := n0_
                          have BK314 := n1_
                          have BK322 := n2_
                          have HB := n3_
                          clear n0_ n1_ n2_ n3_
                          (try clear hb)
                          (try clear hb2)
                          (try clear hk)
                          (try clear hi)
                          refine hK.out _ _ ⟨(blk_cell BK322.out 0).trans rfl, (blk_cell BK322.out 1).trans rfl, (blk_cell BK322.out 2).trans rfl, (blk_cell BK322.out 3).trans rfl, (blk_cell BK322.out 4).trans rfl, (blk_cell BK322.out 5).trans rfl⟩ (fun hHeld => ?_)
                          clear hK K
                          refine norm_ (a' := ?_) ?_ ?_
                          rotate_left
                          · show Act.put _ (some 44) _ = _
                            simp only [Act.put, List.setIfInBounds_toArray, List.set_cons_zero, List.set_cons_succ, i64_w, i32_w]
                            rfl
                          refine pure_ (i := 6) (N := some 45) (v := ?_) (a' := ?_) #[true, true, true, true, true, true, true, false] rfl rfl (any_of HT_.out (by kernel_rfl)) (fun _ _ _ h => h) (Or.inl ⟨by rfl, ?_⟩) ?_ ?_
                          rotate_left
                          · intro w'
                            go_simp
                            with_reducible rfl
                          rotate_left
                          · simp only [Act.put, List.setIfInBounds_toArray, List.set_cons_zero, List.set_cons_succ, i64_w, i32_w]
                            rfl
                          refine pure_ (i := 7) (N := some 7) (v := ?_) (a' := ?_) #[true, true, true, true, true, true, true, true] rfl rfl (any_of HT_.out (by kernel_rfl)) (fun _ _ _ h => h) (Or.inl ⟨by rfl, ?_⟩) ?_ ?_
                          rotate_left
                          · intro w'
                            go_simp
                            with_reducible rfl
                          rotate_left
                          · simp only [Act.put, List.setIfInBounds_toArray, List.set_cons_zero, List.set_cons_succ, i64_w, i32_w]
                            rfl
                          refine done_ (done_of HT_.out (by kernel_rfl)) ?_
                          obtain ⟨hcz70_0, hcz70_1, hcz70_2, hcz70_3, hcz70_4, hcz70_5⟩ := XRun.bc6 BK313.out
                          obtain ⟨hfz70_0, hfz70_1, hfz70_2, hfz70_3, hfz70_4, hfz70_5⟩ := XRun.bf6 BK313.out
                          try go_wp2
                          have n0_ := Aside0.mk (blk_drew BK313.out)
                          have n1_ := Aside0.mk (blk_drew BK314.out)
                          have n2_ := Aside0.mk (blk_drew BK322.out)
                          have n3_ := Aside0.mk (below_drew1 HB.out)
                          clear BK313
                          clear BK314
                          clear BK322
                          clear HB
                          have BK313 := n0_
                          have BK314 := n1_
                          have BK322 := n2_
                          have HB := n3_
                          clear n0_ n1_ n2_ n3_
                          refine start_ (n := 14) (S := fun w' => w'.cell? ⟨gb322, 0, none⟩ = some (.int .u64 ((rd_T76 l0_4 x5_2).f0.f0.f0)) ∧ w'.cell? ⟨gb322, 1, none⟩ = some (.int .u64 ((rd_T76 l0_4 x5_2).f0.f0.f1)) ∧ w'.cell? ⟨gb322, 2, none⟩ = some (.int .i64 ((rd_T76 l0_4 x5_2).f0.f1)) ∧ w'.cell? ⟨gb322, 3, none⟩ = some (.int .u32 ((rd_T76 l0_4 x5_2).f1)) ∧ w'.cell? ⟨gb322, 4, none⟩ = some (.int .u32 ((rd_T76 l0_4 x5_2).f2)) ∧ w'.cell? ⟨gb322, 5, none⟩ = some (.int .i64 ((rd_T76 l0_4 x5_2).f3))) (ds := []) #[false, false, false, false, false, false, false, false, false, false, false, false, false, false] (by kernel_rfl) rfl rfl ⟨(blk_cell BK322.out 0).trans rfl, (blk_cell BK322.out 1).trans rfl, (blk_cell BK322.out 2).trans rfl, (blk_cell BK322.out 3).trans rfl, (blk_cell BK322.out 4).trans rfl, (blk_cell BK322.out 5).trans rfl⟩ (fun hHeld => ?_); refine with_tabW tenancyref15_PutIA.tab13 tenancyref15_PutIA.bits13 (fun HT_ HW_ => ?_)
                          generalize w69.drew = w71 at BK313 BK314 BK322 HB hHeld ⊢
                          refine pure_ (i := 0) (N := some 69) (v := ?_) (a' := ?_) #[true, false, false, false, false, false, false, false, false, false, false, false, false, false] rfl rfl (any_of HT_.out (by kernel_rfl)) (fun _ _ _ h => h) (Or.inl ⟨by rfl, ?_⟩) ?_ ?_
                          rotate_left
                          · intro w'
                            go_simp
                            with_reducible rfl
                          rotate_left
                          · simp only [Act.put, List.setIfInBounds_toArray, List.set_cons_zero, List.set_cons_succ, i64_w, i32_w]
                            rfl
                          refine pure_ (i := 1) (N := some 70) (v := ?_) (a' := ?_) #[true, true, false, false, false, false, false, false, false, false, false, false, false, false] rfl rfl (any_of HT_.out (by kernel_rfl)) (fun _ _ _ h => h) (Or.inl ⟨by rfl, ?_⟩) ?_ ?_
                          rotate_left
                          · intro w'
                            go_simp
                            with_reducible rfl
                          rotate_left
                          · simp only [Act.put, List.setIfInBounds_toArray, List.set_cons_zero, List.set_cons_succ, i64_w, i32_w]
                            rfl
                          refine pure_ (i := 2) (N := some 71) (v := ?_) (a' := ?_) #[true, true, true, false, false, false, false, false, false, false, false, false, false, false] rfl rfl (any_of HT_.out (by kernel_rfl)) (fun _ _ _ h => h) (Or.inl ⟨by rfl, ?_⟩) ?_ ?_
                          rotate_left
                          · intro w'
                            go_simp
                            with_reducible rfl
                          rotate_left
                          · simp only [Act.put, List.setIfInBounds_toArray, List.set_cons_zero, List.set_cons_succ, i64_w, i32_w]
                            rfl
                          refine pure_ (i := 5) (N := some 74) (v := ?_) (a' := ?_) #[true, true, true, false, false, true, false, false, false, false, false, false, false, false] rfl rfl (any_of HT_.out (by kernel_rfl)) (fun _ _ _ h => h) (Or.inl ⟨by rfl, ?_⟩) ?_ ?_
                          rotate_left
                          · intro w'
                            go_simp
                            with_reducible rfl
                          rotate_left
                          · simp only [Act.put, List.setIfInBounds_toArray, List.set_cons_zero, List.set_cons_succ, i64_w, i32_w]
                            rfl
                          refine pure_ (i := 7) (N := some 76) (v := ?_) (a' := ?_) #[true, true, true, false, false, true, false, true, false, false, false, false, false, false] rfl rfl (any_of HT_.out (by kernel_rfl)) (fun _ _ _ h => h) (Or.inl ⟨by rfl, ?_⟩) ?_ ?_
                          rotate_left
                          · intro w'
                            go_simp
                            with_reducible rfl
                          rotate_left
                          · simp only [Act.put, List.setIfInBounds_toArray, List.set_cons_zero, List.set_cons_succ, i64_w, i32_w]
                            rfl
                          refine take_ (i := 3) (N := some 72) (v := ?_) (a' := ?_) #[true, true, true, true, false, true, false, true, false, false, false, false, false, false] rfl rfl (take_ofW HT_.out HW_.out (by kernel_rfl)) (fun _ _ _ h => h) (Or.inl ⟨by rfl, ?_⟩) hHeld ?_ ?_
                          rotate_left
                          · rintro w' ⟨s0, s1, s2, s3, s4, s5⟩
                            go_simp
                            with_reducible rfl
                          rotate_left
                          · simp only [Act.put, List.setIfInBounds_toArray, List.set_cons_zero, List.set_cons_succ, i64_w, i32_w]
                            rfl
                          refine take_ (i := 8) (N := some 77) (v := ?_) (a' := ?_) #[true, true, true, true, false, true, false, true, true, false, false, false, false, false] rfl rfl (take_ofW HT_.out HW_.out (by kernel_rfl)) (fun _ _ _ h => h) (Or.inl ⟨by rfl, ?_⟩) hHeld ?_ ?_
                          rotate_left
                          · rintro w' ⟨s0, s1, s2, s3, s4, s5⟩
                            go_simp
                            with_reducible rfl
                          rotate_left
                          · simp only [Act.put, List.setIfInBounds_toArray, List.set_cons_zero, List.set_cons_succ, i64_w, i32_w]
                            rfl
                          refine one_ (i := 4) (N := some 73) #[true, true, true, true, true, true, false, true, true, false, false, false, false, false] rfl rfl (one_of HT_.out (by kernel_rfl)) (by decide) (fun K hK => ?_)
                          refine goes_ Try.func44 (by kernel_rfl) rfl #[.agg #[.int .u64 ((rd_T76 l0_4 x5_2).f0.f0.f0), .int .u64 ((rd_T76 l0_4 x5_2).f0.f0.f1)]] (by rfl) rfl rfl (by (try simp only [List.map_toArray, List.map_cons, List.map_nil]); first | rfl) ?_
                          with_reducible refine (tenancyref04_PutAddr.calls k2 ((rd_T76 l0_4 x5_2).f0.f0.f0) ((rd_T76 l0_4 x5_2).f0.f0.f1) t331 _ A54.out).mono ?_
                          rintro e w72 ⟨rfl, hb⟩
                          refine ⟨_, rfl, ?_⟩
                          have n0_ := Aside0.mk (blk_below (g := gb313) (o := .cells #[.int .i64 a0_0, .int .u32 a0_1, .int .u32 a0_2, .int .u32 a0_3, .slice (some ad321) l0_4.length c0_4, .int .i64 a0_5] 37 (0, 0)) BK313.out hb)
                          have n1_ := Aside0.mk (blk_below (g := gb314) (o := .cells #[.int .u16 0, .string (⟨#[]⟩ : ByteArray)] 40 (0, 0)) BK314.out hb)
                          have n2_ := Aside0.mk (blk_below (g := gb322) (o := .cells #[.int .u64 ((rd_T76 l0_4 x5_2).f0.f0.f0), .int .u64 ((rd_T76 l0_4 x5_2).f0.f0.f1), .int .i64 ((rd_T76 l0_4 x5_2).f0.f1), .int .u32 ((rd_T76 l0_4 x5_2).f1), .int .u32 ((rd_T76 l0_4 x5_2).f2), .int .i64 ((rd_T76 l0_4 x5_2).f3)] 76 (0, 0)) BK322.out hb)
                          have n3_ := Aside0.mk (below_step HB.out hb)
                          clear BK313
                          clear BK314
                          clear BK322
                          clear HB
                          have BK313 := n0_
                          have BK314 := n1_
                          have BK322 := n2_
                          have HB := n3_
                          clear n0_ n1_ n2_ n3_
                          (try clear hb)
                          (try clear hb2)
                          (try clear hk)
                          (try clear hi)
                          refine hK.out _ _ ⟨(blk_cell BK322.out 0).trans rfl, (blk_cell BK322.out 1).trans rfl, (blk_cell BK322.out 2).trans rfl, (blk_cell BK322.out 3).trans rfl, (blk_cell BK322.out 4).trans rfl, (blk_cell BK322.out 5).trans rfl⟩ (fun hHeld => ?_)
                          clear hK K
                          refine norm_ (a' := ?_) ?_ ?_
                          rotate_left
                          · show Act.put _ (some 73) _ = _
                            simp only [Act.put, List.setIfInBounds_toArray, List.set_cons_zero, List.set_cons_succ, i64_w, i32_w]
                            rfl
                          refine pure_ (i := 6) (N := some 75) (v := ?_) (a' := ?_) #[true, true, true, true, true, true, true, true, true, false, false, false, false, false] rfl rfl (any_of HT_.out (by kernel_rfl)) (fun _ _ _ h => h) (Or.inl ⟨by rfl, ?_⟩) ?_ ?_
                          rotate_left
                          · intro w'
                            go_simp
                            with_reducible rfl
                          rotate_left
                          · simp only [Act.put, List.setIfInBounds_toArray, List.set_cons_zero, List.set_cons_succ, i64_w, i32_w]
                            rfl
                          refine one_ (i := 9) (N := some 78) #[true, true, true, true, true, true, true, true, true, true, false, false, false, false] rfl rfl (one_of HT_.out (by kernel_rfl)) (by decide) (fun K hK => ?_)
                          refine goes_ Try.func45 (by kernel_rfl) rfl #[.int .i64 ((rd_T76 l0_4 x5_2).f3)] (by rfl) rfl rfl (by (try simp only [List.map_toArray, List.map_cons, List.map_nil]); first | rfl) ?_
                          with_reducible refine (tenancyref15_statusOption.calls k2 ((rd_T76 l0_4 x5_2).f3) t332 _ A56.out).mono ?_
                          rintro e w73 ⟨rfl, hb⟩
                          refine ⟨_, rfl, ?_⟩
                          have n0_ := Aside0.mk (blk_below (g := gb313) (o := .cells #[.int .i64 a0_0, .int .u32 a0_1, .int .u32 a0_2, .int .u32 a0_3, .slice (some ad321) l0_4.length c0_4, .int .i64 a0_5] 37 (0, 0)) BK313.out hb)
                          have n1_ := Aside0.mk (blk_below (g := gb314) (o := .cells #[.int .u16 0, .string (⟨#[]⟩ : ByteArray)] 40 (0, 0)) BK314.out hb)
                          have n2_ := Aside0.mk (blk_below (g := gb322) (o := .cells #[.int .u64 ((rd_T76 l0_4 x5_2).f0.f0.f0), .int .u64 ((rd_T76 l0_4 x5_2).f0.f0.f1), .int .i64 ((rd_T76 l0_4 x5_2).f0.f1), .int .u32 ((rd_T76 l0_4 x5_2).f1), .int .u32 ((rd_T76 l0_4 x5_2).f2), .int .i64 ((rd_T76 l0_4 x5_2).f3)] 76 (0, 0)) BK322.out hb)
                          have n3_ := Aside0.mk (below_step HB.out hb)
                          clear BK313
                          clear BK314
                          clear BK322
                          clear HB
                          have BK313 := n0_
                          have BK314 := n1_
                          have BK322 := n2_
                          have HB := n3_
                          clear n0_ n1_ n2_ n3_
                          (try clear hb)
                          (try clear hb2)
                          (try clear hk)
                          (try clear hi)
                          refine hK.out _ _ ⟨(blk_cell BK322.out 0).trans rfl, (blk_cell BK322.out 1).trans rfl, (blk_cell BK322.out 2).trans rfl, (blk_cell BK322.out 3).trans rfl, (blk_cell BK322.out 4).trans rfl, (blk_cell BK322.out 5).trans rfl⟩ (fun hHeld => ?_)
                          clear hK K
                          refine norm_ (a' := ?_) ?_ ?_
                          rotate_left
                          · show Act.put _ (some 78) _ = _
                            simp only [Act.put, List.setIfInBounds_toArray, List.set_cons_zero, List.set_cons_succ, i64_w, i32_w]
                            rfl
                          refine pure_ (i := 10) (N := some 79) (v := ?_) (a' := ?_) #[true, true, true, true, true, true, true, true, true, true, true, false, false, false] rfl rfl (any_of HT_.out (by kernel_rfl)) (fun _ _ _ h => h) (Or.inl ⟨by rfl, ?_⟩) ?_ ?_
                          rotate_left
                          · intro w'
                            go_simp
                            with_reducible rfl
                          rotate_left
                          · simp only [Act.put, List.setIfInBounds_toArray, List.set_cons_zero, List.set_cons_succ, i64_w, i32_w]
                            rfl
                          refine one_ (i := 11) (N := some 80) #[true, true, true, true, true, true, true, true, true, true, true, true, false, false] rfl rfl (one_of HT_.out (by kernel_rfl)) (by decide) (fun K hK => ?_)
                          refine goes_ Try.func43 (by kernel_rfl) rfl #[.int .u16 5, .string ((t331 ++ (t323 ++ t324)) ++ t332)] (by rfl) rfl rfl (by (try simp only [List.map_toArray, List.map_cons, List.map_nil]); first | rfl) ?_
                          with_reducible refine (tenancyref15_option.calls k2 5 ((t331 ++ (t323 ++ t324)) ++ t332) t333 _ A58.out).mono ?_
                          rintro e w74 ⟨rfl, hb⟩
                          refine ⟨_, rfl, ?_⟩
                          have n0_ := Aside0.mk (blk_below (g := gb313) (o := .cells #[.int .i64 a0_0, .int .u32 a0_1, .int .u32 a0_2, .int .u32 a0_3, .slice (some ad321) l0_4.length c0_4, .int .i64 a0_5] 37 (0, 0)) BK313.out hb)
                          have n1_ := Aside0.mk (blk_below (g := gb314) (o := .cells #[.int .u16 0, .string (⟨#[]⟩ : ByteArray)] 40 (0, 0)) BK314.out hb)
                          have n2_ := Aside0.mk (blk_below (g := gb322) (o := .cells #[.int .u64 ((rd_T76 l0_4 x5_2).f0.f0.f0), .int .u64 ((rd_T76 l0_4 x5_2).f0.f0.f1), .int .i64 ((rd_T76 l0_4 x5_2).f0.f1), .int .u32 ((rd_T76 l0_4 x5_2).f1), .int .u32 ((rd_T76 l0_4 x5_2).f2), .int .i64 ((rd_T76 l0_4 x5_2).f3)] 76 (0, 0)) BK322.out hb)
                          have n3_ := Aside0.mk (below_step HB.out hb)
                          clear BK313
                          clear BK314
                          clear BK322
                          clear HB
                          have BK313 := n0_
                          have BK314 := n1_
                          have BK322 := n2_
                          have HB := n3_
                          clear n0_ n1_ n2_ n3_
                          (try clear hb)
                          (try clear hb2)
                          (try clear hk)
                          (try clear hi)
                          refine hK.out _ _ ⟨(blk_cell BK322.out 0).trans rfl, (blk_cell BK322.out 1).trans rfl, (blk_cell BK322.out 2).trans rfl, (blk_cell BK322.out 3).trans rfl, (blk_cell BK322.out 4).trans rfl, (blk_cell BK322.out 5).trans rfl⟩ (fun hHeld => ?_)
                          clear hK K
                          refine norm_ (a' := ?_) ?_ ?_
                          rotate_left
                          · show Act.put _ (some 80) _ = _
                            simp only [Act.put, List.setIfInBounds_toArray, List.set_cons_zero, List.set_cons_succ, i64_w, i32_w]
                            rfl
                          refine pure_ (i := 12) (N := some 81) (v := ?_) (a' := ?_) #[true, true, true, true, true, true, true, true, true, true, true, true, true, false] rfl rfl (any_of HT_.out (by kernel_rfl)) (fun _ _ _ h => h) (Or.inl ⟨by rfl, ?_⟩) ?_ ?_
                          rotate_left
                          · intro w'
                            go_simp
                            with_reducible rfl
                          rotate_left
                          · simp only [Act.put, List.setIfInBounds_toArray, List.set_cons_zero, List.set_cons_succ, i64_w, i32_w]
                            rfl
                          refine pure_ (i := 13) (N := some 4) (v := ?_) (a' := ?_) #[true, true, true, true, true, true, true, true, true, true, true, true, true, true] rfl rfl (any_of HT_.out (by kernel_rfl)) (fun _ _ _ h => h) (Or.inl ⟨by rfl, ?_⟩) ?_ ?_
                          rotate_left
                          · intro w'
                            go_simp
                            with_reducible rfl
                          rotate_left
                          · simp only [Act.put, List.setIfInBounds_toArray, List.set_cons_zero, List.set_cons_succ, i64_w, i32_w]
                            rfl
                          refine done_ (done_of HT_.out (by kernel_rfl)) ?_
                          try go_wp2
                          go_roundg k2
                          case measure => have := HJ4.out; have := HK2.out; omega
                          case rel => exact ⟨(x4_2 ++ t333), (wrap64 (x5_2 + 1)), (by rfl), (by rfl), H', ⟨by have := HJ4.out; have := HK2.out; omega⟩, ⟨by exact BK313.out⟩, ⟨by exact BK314.out⟩, ⟨by exact HB.out⟩⟩
                        · rw [if_neg c59] at H
                          exact absurd H (by simp)
                      · rw [if_neg c57] at H
                        exact absurd H (by simp)
                    · rw [if_neg c55] at H
                      exact absurd H (by simp)
                · rw [if_neg c26] at H
                  exact absurd H (by simp)
              · rw [if_neg c23] at H
                exact absurd H (by simp)
            · rw [if_neg c22] at H
              have c22b0 : decide (x5_2 < (l0_4.length : Int)) = false := decide_eq_false c22
              clear c22
              replace H := Option.bind_eq_some_iff.mp H
              obtain ⟨t319, A750, H⟩ := H
              replace H : (if x4_2.size + t319.size ≤ 9223372036854775807 then ((tenancyref15_Code.f a0_0).bind fun t320 => (some (t320, x4_2 ++ t319, 0))) else (none)) = some (r1, r2, r3) := H
              have A75 := Aside0.mk A750
              clear A750
              by_cases c76 : x4_2.size + t319.size ≤ 9223372036854775807
              · rw [if_pos c76] at H
                have c76b0 := eq_true c76
                have c76b1 : decide (x4_2.size + t319.size ≤ 9223372036854775807) = true := decide_eq_true c76
                try have c76b2 : (9223372036854775807 < x4_2.size + t319.size) = False := eq_false (Nat.not_lt.2 c76)
                replace H := Option.bind_eq_some_iff.mp H
                obtain ⟨t320, A770, H⟩ := H
                replace H : (some (t320, x4_2 ++ t319, 0)) = some (r1, r2, r3) := H
                have A77 := Aside0.mk A770
                clear A770
                simp only [Option.some.injEq, Prod.mk.injEq] at H
                obtain ⟨rfl, rfl, rfl⟩ := H
                have hnb78 := NB313_314.out
                have hnc78 := NB314_313.out
                obtain ⟨hcz79_0, hcz79_1, hcz79_2, hcz79_3, hcz79_4, hcz79_5⟩ := XRun.bc6 BK313.out
                obtain ⟨hfz79_0, hfz79_1, hfz79_2, hfz79_3, hfz79_4, hfz79_5⟩ := XRun.bf6 BK313.out
                go_wp2_with (first | ((with_reducible refine gate_callee (f := 45) rfl ?_); refine goesL_ (some 85) rfl rfl Try.func45 (by kernel_rfl) rfl #[.int .i64 a0_5] rfl (by (try simp only [List.map_toArray, List.map_cons, List.map_nil]); first | rfl) ?_; (with_reducible refine (tenancyref15_statusOption.calls k2 a0_5 t319 _ A75.out).mono ?_); rintro e w80 ⟨rfl, hb⟩; refine ⟨_, rfl, ?_⟩; have n0_ := Aside0.mk (blk_below (g := gb313) (o := .cells #[.int .i64 a0_0, .int .u32 a0_1, .int .u32 a0_2, .int .u32 a0_3, .slice A0_4 l0_4.length c0_4, .int .i64 a0_5] 37 (0, 0)) BK313.out hb); have n1_ := Aside0.mk (blk_below (g := gb314) (o := .cells #[.int .u16 0, .string (⟨#[]⟩ : ByteArray)] 40 (0, 0)) BK314.out hb); have n2_ := Aside0.mk (below_step HB.out hb); clear BK313; clear BK314; clear HB; have BK313 := n0_; have BK314 := n1_; have HB := n2_; clear n0_ n1_ n2_; (try clear hb); (try clear hb2); (try clear hk); (try clear hi); obtain ⟨hcz81_0, hcz81_1, hcz81_2, hcz81_3, hcz81_4, hcz81_5⟩ := XRun.bc6 BK313.out; obtain ⟨hfz81_0, hfz81_1, hfz81_2, hfz81_3, hfz81_4, hfz81_5⟩ := XRun.bf6 BK313.out) | ((with_reducible refine gate_callee (f := 46) rfl ?_); refine goesL_ (some 89) rfl rfl Try.func46 (by kernel_rfl) rfl #[.int .i64 a0_0] rfl (by (try simp only [List.map_toArray, List.map_cons, List.map_nil]); first | rfl) ?_; (with_reducible refine (tenancyref15_Code.calls a0_0 t320 _ A77.out).mono ?_); rintro e w' ⟨rfl, ⟨nd, rfl⟩⟩; refine ⟨_, rfl, ?_⟩; (try (rw [drewN_self w80]; generalize hq_ : World.drewN w80 _ = w80; have n0_ : Aside0 (w80.heap[gb313]? = some (.cells #[.int .i64 a0_0, .int .u32 a0_1, .int .u32 a0_2, .int .u32 a0_3, .slice A0_4 l0_4.length c0_4, .int .i64 a0_5] 37 (0, 0))) := ⟨by rw [← hq_]; exact (by (with_reducible repeat (first | refine blk_drewN ?_ _)); exact BK313.out)⟩; have n1_ : Aside0 (w80.heap[gb314]? = some (.cells #[.int .u16 0, .string (⟨#[]⟩ : ByteArray)] 40 (0, 0))) := ⟨by rw [← hq_]; exact (by (with_reducible repeat (first | refine blk_drewN ?_ _)); exact BK314.out)⟩; have n2_ : Aside0 (Below w.heap.size w w80) := ⟨by rw [← hq_]; exact (by repeat (first | (with_reducible first | exact HB.out | apply pw_below_drewN)))⟩; clear BK313 BK314 HB hq_; have BK313 := n0_; have BK314 := n1_; have HB := n2_; clear n0_ n1_ n2_)); obtain ⟨hcz82_0, hcz82_1⟩ := XRun.bc2 BK314.out; obtain ⟨hfz82_0, hfz82_1⟩ := XRun.bf2 BK314.out))
                refine bodyPost_ret (results_ct rfl _ _ gb314 40 #[.int .u16 t320, .string (x4_2 ++ t319)] (0, 0) _ rfl (by refine blk_put (cs := #[.int .u16 t320, .string (⟨#[]⟩ : ByteArray)]) ?_ 1 _ rfl; refine blk_put (cs := #[.int .u16 0, .string (⟨#[]⟩ : ByteArray)]) ?_ 0 _ rfl; exact BK314.out) Try.underlying40 rfl (by kernel_rfl)) rfl ?_
                exact ⟨by rfl, by repeat (first | (with_reducible first | exact HB.out | refine below_set ?_ GE314.out))⟩
              · rw [if_neg c76] at H
                exact absurd H (by simp)
  · replace c3 := Bool.eq_false_iff.mpr c3
    subst c3
    have H1 : (some (0, (⟨#[]⟩ : ByteArray), 130)) = some (r1, r2, r3) := by rw [if_neg (show ¬ (false = true) by decide)] at H; exact H
    clear H
    have H := H1
    clear H1
    simp only [Option.some.injEq, Prod.mk.injEq] at H
    obtain ⟨rfl, rfl, rfl⟩ := H
    go_enter Try.func20, Try.ntmps20
    go_wp2_with (first | ((with_reducible refine gate_dst (N := 1) rfl ?_); refine box_event ?hg (N := 1) ?hd (cs := #[.int .i64 a0_0, .int .u32 a0_1, .int .u32 a0_2, .int .u32 a0_3, .slice A0_4 l0_4.length c0_4, .int .i64 a0_5]) (t := 37) ?hr ?_; (case hd => rfl); (case hg => rfl); (case hr => go_simp; done); intro gb313 hg w83 hbox hb; have n0_ := Aside0.mk (below_step HB.out hb); have n1_ := Aside0.mk (hbox); have n2_ := Aside0.mk ((by rw [hg]; exact (below_size HB.out) : w.heap.size ≤ gb313)); have n3_ := Aside0.mk ((by rw [hg]; exact (below_size HB.out) : w.heap.size ≤ gb313)); clear HB; have HB := n0_; have BK313 := n1_; have GW313 := n2_; have GE313 := n3_; clear n0_ n1_ n2_ n3_; clear hb hbox hg) | ((with_reducible refine gate_dst (N := 2) rfl ?_); refine box_event ?hg (N := 2) ?hd (cs := #[.int .u16 0, .string (⟨#[]⟩ : ByteArray)]) (t := 40) ?hr ?_; (case hd => rfl); (case hg => rfl); (case hr => go_simp; done); intro gb314 hg w84 hbox hb; have n0_ := Aside0.mk (blk_below (g := gb313) (o := .cells #[.int .i64 a0_0, .int .u32 a0_1, .int .u32 a0_2, .int .u32 a0_3, .slice A0_4 l0_4.length c0_4, .int .i64 a0_5] 37 (0, 0)) BK313.out hb); have n1_ := Aside0.mk (below_step HB.out hb); have n2_ := Aside0.mk (hbox); have n3_ := Aside0.mk ((by rw [hg]; exact (below_size HB.out) : w.heap.size ≤ gb314)); have n4_ := Aside0.mk ((by rw [hg]; exact (below_size HB.out) : w.heap.size ≤ gb314)); have n5_ := Aside0.mk ((by rw [hg]; exact Nat.ne_of_lt (blk_lt (g := gb313) (o := .cells #[.int .i64 a0_0, .int .u32 a0_1, .int .u32 a0_2, .int .u32 a0_3, .slice A0_4 l0_4.length c0_4, .int .i64 a0_5] 37 (0, 0)) BK313.out) : gb313 ≠ gb314)); have n6_ := Aside0.mk ((by rw [hg]; exact Nat.ne_of_gt (blk_lt (g := gb313) (o := .cells #[.int .i64 a0_0, .int .u32 a0_1, .int .u32 a0_2, .int .u32 a0_3, .slice A0_4 l0_4.length c0_4, .int .i64 a0_5] 37 (0, 0)) BK313.out) : gb314 ≠ gb313)); clear BK313; clear HB; have BK313 := n0_; have HB := n1_; have BK314 := n2_; have GW314 := n3_; have GE314 := n4_; have NB313_314 := n5_; have NB314_313 := n6_; clear n0_ n1_ n2_ n3_ n4_ n5_ n6_; clear hb hbox hg; have hnb85 := NB313_314.out; have hnc85 := NB314_313.out; obtain ⟨hcz86_0, hcz86_1, hcz86_2, hcz86_3, hcz86_4, hcz86_5⟩ := XRun.bc6 BK313.out; obtain ⟨hfz86_0, hfz86_1, hfz86_2, hfz86_3, hfz86_4, hfz86_5⟩ := XRun.bf6 BK313.out) | ((with_reducible refine gate_callee (f := 22) rfl ?_); refine goesL_ (some 9) rfl rfl Try.func22 (by kernel_rfl) rfl #[.agg #[.int .i64 a0_0, .int .u32 a0_1, .int .u32 a0_2, .int .u32 a0_3, .slice A0_4 l0_4.length c0_4, .int .i64 a0_5]] rfl (by (try simp only [List.map_toArray, List.map_cons, List.map_nil]); first | rfl) ?_; (with_reducible refine (tenancyref15_Sound.calls k a0_0 a0_1 a0_2 a0_3 _ _ l0_4 a0_5 false _ ?side1 ?side2 A2.out).mono ?_); (case side1 => repeat (first | exact (Kd.C_below HR0_4.out HB.out))); (case side2 => exact HC0_4.out); rintro e w87 ⟨rfl, hb⟩; refine ⟨_, rfl, ?_⟩; have n0_ := Aside0.mk (blk_below (g := gb313) (o := .cells #[.int .i64 a0_0, .int .u32 a0_1, .int .u32 a0_2, .int .u32 a0_3, .slice A0_4 l0_4.length c0_4, .int .i64 a0_5] 37 (0, 0)) BK313.out hb); have n1_ := Aside0.mk (blk_below (g := gb314) (o := .cells #[.int .u16 0, .string (⟨#[]⟩ : ByteArray)] 40 (0, 0)) BK314.out hb); have n2_ := Aside0.mk (below_step HB.out hb); clear BK313; clear BK314; clear HB; have BK313 := n0_; have BK314 := n1_; have HB := n2_; clear n0_ n1_ n2_; (try clear hb); (try clear hb2); (try clear hk); (try clear hi); obtain ⟨hcz88_0, hcz88_1⟩ := XRun.bc2 BK314.out; obtain ⟨hfz88_0, hfz88_1⟩ := XRun.bf2 BK314.out))
    refine bodyPost_ret (results_ct rfl _ _ gb314 40 #[.int .u16 0, .string (⟨#[]⟩ : ByteArray)] (0, 0) _ rfl (by refine blk_put (cs := #[.int .u16 0, .string (⟨#[]⟩ : ByteArray)]) ?_ 1 _ rfl; refine blk_put (cs := #[.int .u16 0, .string (⟨#[]⟩ : ByteArray)]) ?_ 0 _ rfl; exact BK314.out) Try.underlying40 rfl (by kernel_rfl)) rfl ?_
    exact ⟨by rfl, by repeat (first | (with_reducible first | exact HB.out | refine below_set ?_ GE314.out))⟩

/-! ### tenancylaw15_Opt6Writes: function 4 -/
def tenancylaw15_Opt6Writes.f (k : Nat) (a0_0 : Int) (a0_1 : Int) (a0_2 : Int) (a0_3 : Int) (l0_4 : List (S76)) (a0_5 : Int) : Option (Bool) := (tenancylaw15_awake.f k).bind fun t335 => (if t335 = true then ((opt6_PutIA.f a0_0 a0_1 a0_2 a0_3 l0_4 a0_5).bind fun bt336 => ((tenancyref15_PutIA.f k a0_0 a0_1 a0_2 a0_3 l0_4 a0_5).bind fun bt340 => (if (bt336.1 == bt340.1 && (bt336.2.1.toList == bt340.2.1.toList)) = true then (if bt336.2.2 = bt340.2.2 then ((opt6_Sound.f a0_0 a0_1 a0_2 a0_3 l0_4 a0_5).bind fun t344 => ((tenancyref15_Sound.f k a0_0 a0_1 a0_2 a0_3 l0_4 a0_5).bind fun t345 => (some (t344 == t345)))) else (none)) else (none)))) else (none))
theorem tenancylaw15_Opt6Writes.mono : ∀ a0 a1 a2 a3 a4 a5 k, LeO (tenancylaw15_Opt6Writes.f k a0 a1 a2 a3 a4 a5) (tenancylaw15_Opt6Writes.f (k + 1) a0 a1 a2 a3 a4 a5) := by
  intro a0 a1 a2 a3 a4 a5 k
  unfold tenancylaw15_Opt6Writes.f
  repeat' first
      | (with_reducible exact tenancylaw15_awake.mono _)
      | (with_reducible exact tenancyref15_PutIA.mono _ _ _ _ _ _ _)
      | (with_reducible exact tenancyref15_Sound.mono _ _ _ _ _ _ _)
      | (with_reducible exact LeO.refl _)
      | (with_reducible exact LeO.none _)
      | (with_reducible refine LeO.ite ?_ ?_)
      | (with_reducible refine LeO.bind ?_ (fun _ => ?_))
      | exact tenancylaw15_awake.mono _
      | exact tenancyref15_PutIA.mono _ _ _ _ _ _ _
      | exact tenancyref15_Sound.mono _ _ _ _ _ _ _
      | exact LeO.none _
      | refine LeO.ite ?_ ?_
      | refine LeO.bind ?_ (fun _ => ?_)
def tenancylaw15_Opt6Writes.T5 : Bool × List (List Nat × List Nat) := (true, [([], []), ([], []), ([0, 1], [0, 1]), ([2], [2]), ([3], [3]), ([3], [3]), ([4, 5, 3], [3, 4, 5]), ([3, 6], [3, 6]), ([7, 3], [7]), ([8], [8]), ([9, 8, 8], [8, 9]), ([8], [8]), ([11, 10, 8], [8, 11]), ([10, 12, 8], [8, 10, 12]), ([8, 13], [8, 13]), ([14, 12, 0, 1, 2, 3, 4, 5, 6, 7, 8, 9, 10, 11, 12, 13, 14], [14])])
def tenancylaw15_Opt6Writes.B5 : List Nat := [0, 0, 3, 7, 15, 15, 63, 127, 255, 511, 1023, 511, 4095, 8191, 16383, 32767]
theorem tenancylaw15_Opt6Writes.tab5 : rtab .any (opsOf Try.f4 5) = tenancylaw15_Opt6Writes.T5 := by kernel_rfl
theorem tenancylaw15_Opt6Writes.bits5 : waitsOk tenancylaw15_Opt6Writes.T5.2 tenancylaw15_Opt6Writes.B5 = true := by kernel_rfl
set_option maxHeartbeats 8000000 in
set_option maxRecDepth 100000 in
theorem tenancylaw15_Opt6Writes.calls (k : Nat) (a0_0 : Int) (a0_1 : Int) (a0_2 : Int) (a0_3 : Int) (A0_4 : Option Addr) (c0_4 : Nat) (l0_4 : List (S76)) (a0_5 : Int) (r : Bool) (w : World) (hr0_4 : Kd.C k76 w A0_4 l0_4.length l0_4) (hc0_4 : l0_4.length ≤ c0_4) (h : tenancylaw15_Opt6Writes.f k a0_0 a0_1 a0_2 a0_3 l0_4 a0_5 = some r) :
    Calls Try.prog 4 #[.agg #[.int .i64 a0_0, .int .u32 a0_1, .int .u32 a0_2, .int .u32 a0_3, .slice A0_4 l0_4.length c0_4, .int .i64 a0_5]] w fun e w' => e = .returned (.bool r) ∧ Below w.heap.size w w' := by
  have hu37 := Try.underlying37
  have hu40 := Try.underlying40
  have HR0_4 := Aside0.mk hr0_4
  have HC0_4 := Aside0.mk hc0_4
  clear hr0_4 hc0_4
  have HB := Aside0.mk (Below.refl w.heap.size w)
  have H : ((tenancylaw15_awake.f k).bind fun t335 => (if t335 = true then ((opt6_PutIA.f a0_0 a0_1 a0_2 a0_3 l0_4 a0_5).bind fun bt336 => ((tenancyref15_PutIA.f k a0_0 a0_1 a0_2 a0_3 l0_4 a0_5).bind fun bt340 => (if (bt336.1 == bt340.1 && (bt336.2.1.toList == bt340.2.1.toList)) = true then (if bt336.2.2 = bt340.2.2 then ((opt6_Sound.f a0_0 a0_1 a0_2 a0_3 l0_4 a0_5).bind fun t344 => ((tenancyref15_Sound.f k a0_0 a0_1 a0_2 a0_3 l0_4 a0_5).bind fun t345 => (some (t344 == t345)))) else (none)) else (none)))) else (none))) = some r := h
  clear h
  replace H := Option.bind_eq_some_iff.mp H
  obtain ⟨t335, A20, H⟩ := H
  replace H : (if t335 = true then ((opt6_PutIA.f a0_0 a0_1 a0_2 a0_3 l0_4 a0_5).bind fun bt336 => ((tenancyref15_PutIA.f k a0_0 a0_1 a0_2 a0_3 l0_4 a0_5).bind fun bt340 => (if (bt336.1 == bt340.1 && (bt336.2.1.toList == bt340.2.1.toList)) = true then (if bt336.2.2 = bt340.2.2 then ((opt6_Sound.f a0_0 a0_1 a0_2 a0_3 l0_4 a0_5).bind fun t344 => ((tenancyref15_Sound.f k a0_0 a0_1 a0_2 a0_3 l0_4 a0_5).bind fun t345 => (some (t344 == t345)))) else (none)) else (none)))) else (none)) = some r := H
  have A2 := Aside0.mk A20
  clear A20
  by_cases c3 : t335 = true
  · subst c3
    have H1 : ((opt6_PutIA.f a0_0 a0_1 a0_2 a0_3 l0_4 a0_5).bind fun bt336 => ((tenancyref15_PutIA.f k a0_0 a0_1 a0_2 a0_3 l0_4 a0_5).bind fun bt340 => (if (bt336.1 == bt340.1 && (bt336.2.1.toList == bt340.2.1.toList)) = true then (if bt336.2.2 = bt340.2.2 then ((opt6_Sound.f a0_0 a0_1 a0_2 a0_3 l0_4 a0_5).bind fun t344 => ((tenancyref15_Sound.f k a0_0 a0_1 a0_2 a0_3 l0_4 a0_5).bind fun t345 => (some (t344 == t345)))) else (none)) else (none)))) = some r := by rw [if_pos rfl] at H; exact H
    clear H
    have H := H1
    clear H1
    replace H := Option.bind_eq_some_iff.mp H
    obtain ⟨⟨t336, t337, t338⟩, A40, H⟩ := H
    replace H : ((tenancyref15_PutIA.f k a0_0 a0_1 a0_2 a0_3 l0_4 a0_5).bind fun bt340 => (if (t336 == bt340.1 && (t337.toList == bt340.2.1.toList)) = true then (if t338 = bt340.2.2 then ((opt6_Sound.f a0_0 a0_1 a0_2 a0_3 l0_4 a0_5).bind fun t344 => ((tenancyref15_Sound.f k a0_0 a0_1 a0_2 a0_3 l0_4 a0_5).bind fun t345 => (some (t344 == t345)))) else (none)) else (none))) = some r := H
    have A4 := Aside0.mk A40
    clear A40
    replace H := Option.bind_eq_some_iff.mp H
    obtain ⟨⟨t340, t341, t342⟩, A50, H⟩ := H
    replace H : (if (t336 == t340 && (t337.toList == t341.toList)) = true then (if t338 = t342 then ((opt6_Sound.f a0_0 a0_1 a0_2 a0_3 l0_4 a0_5).bind fun t344 => ((tenancyref15_Sound.f k a0_0 a0_1 a0_2 a0_3 l0_4 a0_5).bind fun t345 => (some (t344 == t345)))) else (none)) else (none)) = some r := H
    have A5 := Aside0.mk A50
    clear A50
    by_cases c6 : (t336 == t340 && (t337.toList == t341.toList)) = true
    · rw [if_pos c6] at H
      have c6b0 : (t336 == t340 && (t337.toList == t341.toList)) = true := c6
      (try (have c6b1 : decide (t336 = t340 && (t337.toList == t341.toList)) = true := by simpa using c6))
      (try (have c6b2 : (t336 == t340 && (t337.toList == t341.toList)) = true := by simpa using c6))
      clear c6
      by_cases c7 : t338 = t342
      · rw [if_pos c7] at H
        have c7b0 : (t338 == t342) = true := beq_iff_eq.mpr c7
        have c7b1 : (t338 != t342) = false := bne_eq_false_iff_eq.mpr c7
        clear c7
        replace H := Option.bind_eq_some_iff.mp H
        obtain ⟨t344, A80, H⟩ := H
        replace H : ((tenancyref15_Sound.f k a0_0 a0_1 a0_2 a0_3 l0_4 a0_5).bind fun t345 => (some (t344 == t345))) = some r := H
        have A8 := Aside0.mk A80
        clear A80
        replace H := Option.bind_eq_some_iff.mp H
        obtain ⟨t345, A90, H⟩ := H
        replace H : (some (t344 == t345)) = some r := H
        have A9 := Aside0.mk A90
        clear A90
        obtain rfl := Option.some.inj H
        go_enter Try.func4, Try.ntmps4
        try go_wp2_with (first | ((with_reducible refine gate_dst (N := 1) rfl ?_); refine box_event ?hg (N := 1) ?hd (cs := #[.int .i64 a0_0, .int .u32 a0_1, .int .u32 a0_2, .int .u32 a0_3, .slice A0_4 l0_4.length c0_4, .int .i64 a0_5]) (t := 37) ?hr ?_; (case hd => rfl); (case hg => rfl); (case hr => go_simp; done); intro gb334 hg w10 hbox hb; have n0_ := Aside0.mk (below_step HB.out hb); have n1_ := Aside0.mk (hbox); have n2_ := Aside0.mk ((by rw [hg]; exact (below_size HB.out) : w.heap.size ≤ gb334)); have n3_ := Aside0.mk ((by rw [hg]; exact (below_size HB.out) : w.heap.size ≤ gb334)); clear HB; have HB := n0_; have BK334 := n1_; have GW334 := n2_; have GE334 := n3_; clear n0_ n1_ n2_ n3_; clear hb hbox hg) | ((with_reducible refine gate_callee (f := 9) rfl ?_); refine goesL_ (some 7) rfl rfl Try.func9 (by kernel_rfl) rfl #[] rfl (by (try simp only [List.map_toArray, List.map_cons, List.map_nil]); first | done) ?_; (with_reducible refine (tenancylaw15_awake.calls k  true _ A2.out).mono ?_); rintro e w11 ⟨rfl, hb⟩; refine ⟨_, rfl, ?_⟩; have n0_ := Aside0.mk (blk_below (g := gb334) (o := .cells #[.int .i64 a0_0, .int .u32 a0_1, .int .u32 a0_2, .int .u32 a0_3, .slice A0_4 l0_4.length c0_4, .int .i64 a0_5] 37 (0, 0)) BK334.out hb); have n1_ := Aside0.mk (below_step HB.out hb); clear BK334; clear HB; have BK334 := n0_; have HB := n1_; clear n0_ n1_; (try clear hb); (try clear hb2); (try clear hk); (try clear hi); obtain ⟨hcz12_0, hcz12_1, hcz12_2, hcz12_3, hcz12_4, hcz12_5⟩ := XRun.bc6 BK334.out; obtain ⟨hfz12_0, hfz12_1, hfz12_2, hfz12_3, hfz12_4, hfz12_5⟩ := XRun.bf6 BK334.out) | ((with_reducible refine gate_callee (f := 19) rfl ?_); refine goesL_ (some 11) rfl rfl Try.func19 (by kernel_rfl) rfl #[.agg #[.int .i64 a0_0, .int .u32 a0_1, .int .u32 a0_2, .int .u32 a0_3, .slice A0_4 l0_4.length c0_4, .int .i64 a0_5]] rfl (by (try simp only [List.map_toArray, List.map_cons, List.map_nil]); first | rfl) ?_; (with_reducible refine (opt6_PutIA.calls a0_0 a0_1 a0_2 a0_3 _ _ l0_4 a0_5 t336 t337 t338 _ ?side1 ?side2 A4.out).mono ?_); (case side1 => repeat (first | exact (Kd.C_below HR0_4.out HB.out))); (case side2 => exact HC0_4.out); rintro e w13 ⟨rfl, hb⟩; refine ⟨_, rfl, ?_⟩; have n0_ := Aside0.mk (blk_below (g := gb334) (o := .cells #[.int .i64 a0_0, .int .u32 a0_1, .int .u32 a0_2, .int .u32 a0_3, .slice A0_4 l0_4.length c0_4, .int .i64 a0_5] 37 (0, 0)) BK334.out hb); have n1_ := Aside0.mk (below_step HB.out hb); clear BK334; clear HB; have BK334 := n0_; have HB := n1_; clear n0_ n1_; (try clear hb); (try clear hb2); (try clear hk); (try clear hi)) | ((with_reducible refine gate_dst (N := 3) rfl ?_); refine box_event ?hg (N := 3) ?hd (cs := #[.int .u16 0, .string (⟨#[]⟩ : ByteArray)]) (t := 40) ?hr ?_; (case hd => rfl); (case hg => rfl); (case hr => go_simp; done); intro gb339 hg w14 hbox hb; have n0_ := Aside0.mk (blk_below (g := gb334) (o := .cells #[.int .i64 a0_0, .int .u32 a0_1, .int .u32 a0_2, .int .u32 a0_3, .slice A0_4 l0_4.length c0_4, .int .i64 a0_5] 37 (0, 0)) BK334.out hb); have n1_ := Aside0.mk (below_step HB.out hb); have n2_ := Aside0.mk (hbox); have n3_ := Aside0.mk ((by rw [hg]; exact (below_size HB.out) : w.heap.size ≤ gb339)); have n4_ := Aside0.mk ((by rw [hg]; exact (below_size HB.out) : w.heap.size ≤ gb339)); have n5_ := Aside0.mk ((by rw [hg]; exact Nat.ne_of_lt (blk_lt (g := gb334) (o := .cells #[.int .i64 a0_0, .int .u32 a0_1, .int .u32 a0_2, .int .u32 a0_3, .slice A0_4 l0_4.length c0_4, .int .i64 a0_5] 37 (0, 0)) BK334.out) : gb334 ≠ gb339)); have n6_ := Aside0.mk ((by rw [hg]; exact Nat.ne_of_gt (blk_lt (g := gb334) (o := .cells #[.int .i64 a0_0, .int .u32 a0_1, .int .u32 a0_2, .int .u32 a0_3, .slice A0_4 l0_4.length c0_4, .int .i64 a0_5] 37 (0, 0)) BK334.out) : gb339 ≠ gb334)); clear BK334; clear HB; have BK334 := n0_; have HB := n1_; have BK339 := n2_; have GW339 := n3_; have GE339 := n4_; have NB334_339 := n5_; have NB339_334 := n6_; clear n0_ n1_ n2_ n3_ n4_ n5_ n6_; clear hb hbox hg; have hnb15 := NB339_334.out; have hnc15 := NB334_339.out; obtain ⟨hcz16_0, hcz16_1⟩ := XRun.bc2 BK339.out; obtain ⟨hfz16_0, hfz16_1⟩ := XRun.bf2 BK339.out; obtain ⟨hcz17_0, hcz17_1, hcz17_2, hcz17_3, hcz17_4, hcz17_5⟩ := XRun.bc6 BK334.out; obtain ⟨hfz17_0, hfz17_1, hfz17_2, hfz17_3, hfz17_4, hfz17_5⟩ := XRun.bf6 BK334.out) | ((with_reducible refine gate_callee (f := 20) rfl ?_); refine goesL_ (some 16) rfl rfl Try.func20 (by kernel_rfl) rfl #[.agg #[.int .i64 a0_0, .int .u32 a0_1, .int .u32 a0_2, .int .u32 a0_3, .slice A0_4 l0_4.length c0_4, .int .i64 a0_5]] rfl (by (try simp only [List.map_toArray, List.map_cons, List.map_nil]); first | rfl) ?_; (with_reducible refine (tenancyref15_PutIA.calls k a0_0 a0_1 a0_2 a0_3 _ _ l0_4 a0_5 t340 t341 t342 _ ?side1 ?side2 A5.out).mono ?_); (case side1 => exact Kd.C_below HR0_4.out (by repeat (first | (with_reducible first | exact HB.out | refine below_set ?_ GE339.out)))); (case side2 => exact HC0_4.out); rintro e w18 ⟨rfl, hb⟩; refine ⟨_, rfl, ?_⟩; have n0_ := Aside0.mk (blk_below (g := gb334) (o := .cells #[.int .i64 a0_0, .int .u32 a0_1, .int .u32 a0_2, .int .u32 a0_3, .slice A0_4 l0_4.length c0_4, .int .i64 a0_5] 37 (0, 0)) (by refine blk_far ?_ NB334_339.out _; refine blk_far ?_ NB334_339.out _; exact BK334.out) hb); have n1_ := Aside0.mk (blk_below (g := gb339) (o := .cells #[.int .u16 t336, .string t337] 40 (0, 0)) (by refine blk_put (cs := #[.int .u16 t336, .string (⟨#[]⟩ : ByteArray)]) ?_ 1 _ rfl; refine blk_put (cs := #[.int .u16 0, .string (⟨#[]⟩ : ByteArray)]) ?_ 0 _ rfl; exact BK339.out) hb); have n2_ := Aside0.mk (below_step (by repeat (first | (with_reducible first | exact HB.out | refine below_set ?_ GE339.out))) hb); clear BK334; clear BK339; clear HB; have BK334 := n0_; have BK339 := n1_; have HB := n2_; clear n0_ n1_ n2_; (try clear hb); (try clear hb2); (try clear hk); (try clear hi)) | ((with_reducible refine gate_dst (N := 5) rfl ?_); refine box_event ?hg (N := 5) ?hd (cs := #[.int .u16 0, .string (⟨#[]⟩ : ByteArray)]) (t := 40) ?hr ?_; (case hd => rfl); (case hg => rfl); (case hr => go_simp; done); intro gb343 hg w19 hbox hb; have n0_ := Aside0.mk (blk_below (g := gb334) (o := .cells #[.int .i64 a0_0, .int .u32 a0_1, .int .u32 a0_2, .int .u32 a0_3, .slice A0_4 l0_4.length c0_4, .int .i64 a0_5] 37 (0, 0)) BK334.out hb); have n1_ := Aside0.mk (blk_below (g := gb339) (o := .cells #[.int .u16 t336, .string t337] 40 (0, 0)) BK339.out hb); have n2_ := Aside0.mk (below_step HB.out hb); have n3_ := Aside0.mk (hbox); have n4_ := Aside0.mk ((by rw [hg]; exact (below_size HB.out) : w.heap.size ≤ gb343)); have n5_ := Aside0.mk ((by rw [hg]; exact (below_size HB.out) : w.heap.size ≤ gb343)); have n6_ := Aside0.mk ((by rw [hg]; exact Nat.ne_of_lt (blk_lt (g := gb334) (o := .cells #[.int .i64 a0_0, .int .u32 a0_1, .int .u32 a0_2, .int .u32 a0_3, .slice A0_4 l0_4.length c0_4, .int .i64 a0_5] 37 (0, 0)) BK334.out) : gb334 ≠ gb343)); have n7_ := Aside0.mk ((by rw [hg]; exact Nat.ne_of_gt (blk_lt (g := gb334) (o := .cells #[.int .i64 a0_0, .int .u32 a0_1, .int .u32 a0_2, .int .u32 a0_3, .slice A0_4 l0_4.length c0_4, .int .i64 a0_5] 37 (0, 0)) BK334.out) : gb343 ≠ gb334)); have n8_ := Aside0.mk ((by rw [hg]; exact Nat.ne_of_lt (blk_lt (g := gb339) (o := .cells #[.int .u16 t336, .string t337] 40 (0, 0)) BK339.out) : gb339 ≠ gb343)); have n9_ := Aside0.mk ((by rw [hg]; exact Nat.ne_of_gt (blk_lt (g := gb339) (o := .cells #[.int .u16 t336, .string t337] 40 (0, 0)) BK339.out) : gb343 ≠ gb339)); clear BK334; clear BK339; clear HB; have BK334 := n0_; have BK339 := n1_; have HB := n2_; have BK343 := n3_; have GW343 := n4_; have GE343 := n5_; have NB334_343 := n6_; have NB343_334 := n7_; have NB339_343 := n8_; have NB343_339 := n9_; clear n0_ n1_ n2_ n3_ n4_ n5_ n6_ n7_ n8_ n9_; clear hb hbox hg; have hnb20 := NB343_334.out; have hnc20 := NB334_343.out; have hnb21 := NB343_339.out; have hnc21 := NB339_343.out; obtain ⟨hcz22_0, hcz22_1⟩ := XRun.bc2 BK343.out; obtain ⟨hfz22_0, hfz22_1⟩ := XRun.bf2 BK343.out))
        have n0_ : Aside0 (((w19.setCell ⟨gb343, 0, none⟩ (.int .u16 t340)).setCell ⟨gb343, 1, none⟩ (.string t341)).heap[gb334]? = some (.cells #[.int .i64 a0_0, .int .u32 a0_1, .int .u32 a0_2, .int .u32 a0_3, .slice A0_4 l0_4.length c0_4, .int .i64 a0_5] 37 (0, 0))) := ⟨by refine blk_far ?_ NB334_343.out _; refine blk_far ?_ NB334_343.out _; exact BK334.out⟩
        have n1_ : Aside0 (((w19.setCell ⟨gb343, 0, none⟩ (.int .u16 t340)).setCell ⟨gb343, 1, none⟩ (.string t341)).heap[gb339]? = some (.cells #[.int .u16 t336, .string t337] 40 (0, 0))) := ⟨by refine blk_far ?_ NB339_343.out _; refine blk_far ?_ NB339_343.out _; exact BK339.out⟩
        have n2_ : Aside0 (((w19.setCell ⟨gb343, 0, none⟩ (.int .u16 t340)).setCell ⟨gb343, 1, none⟩ (.string t341)).heap[gb343]? = some (.cells #[.int .u16 t340, .string t341] 40 (0, 0))) := ⟨by refine blk_put (cs := #[.int .u16 t340, .string (⟨#[]⟩ : ByteArray)]) ?_ 1 _ rfl; refine blk_put (cs := #[.int .u16 0, .string (⟨#[]⟩ : ByteArray)]) ?_ 0 _ rfl; exact BK343.out⟩
        have n3_ : Aside0 (Below w.heap.size w ((w19.setCell ⟨gb343, 0, none⟩ (.int .u16 t340)).setCell ⟨gb343, 1, none⟩ (.string t341))) := ⟨by repeat (first | (with_reducible first | exact HB.out | refine below_set ?_ GE343.out))⟩
        (try clear BK334)
        (try clear BK339)
        (try clear BK343)
        (try clear HB)
        generalize ((w19.setCell ⟨gb343, 0, none⟩ (.int .u16 t340)).setCell ⟨gb343, 1, none⟩ (.string t341)) = w23 at n0_ n1_ n2_ n3_ ⊢
        have BK334 := n0_
        have BK339 := n1_
        have BK343 := n2_
        have HB := n3_
        clear n0_ n1_ n2_ n3_
        have n0_ := Aside0.mk (blk_drew BK334.out)
        have n1_ := Aside0.mk (blk_drew BK339.out)
        have n2_ := Aside0.mk (blk_drew BK343.out)
        have n3_ := Aside0.mk (below_drew1 HB.out)
        clear BK334
        clear BK339
        clear BK343
        clear HB
        have BK334 := n0_
        have BK339 := n1_
        have BK343 := n2_
        have HB := n3_
        clear n0_ n1_ n2_ n3_
        refine start_ (n := 16) (S := fun w' => w'.cell? ⟨gb339, 0, none⟩ = some (.int .u16 t336) ∧ w'.cell? ⟨gb339, 1, none⟩ = some (.string t337) ∧ w'.cell? ⟨gb343, 0, none⟩ = some (.int .u16 t340) ∧ w'.cell? ⟨gb343, 1, none⟩ = some (.string t341) ∧ w'.cell? ⟨gb334, 0, none⟩ = some (.int .i64 a0_0) ∧ w'.cell? ⟨gb334, 1, none⟩ = some (.int .u32 a0_1) ∧ w'.cell? ⟨gb334, 2, none⟩ = some (.int .u32 a0_2) ∧ w'.cell? ⟨gb334, 3, none⟩ = some (.int .u32 a0_3) ∧ w'.cell? ⟨gb334, 4, none⟩ = some (.slice A0_4 l0_4.length c0_4) ∧ w'.cell? ⟨gb334, 5, none⟩ = some (.int .i64 a0_5)) (ds := []) #[false, false, false, false, false, false, false, false, false, false, false, false, false, false, false, false] (by kernel_rfl) rfl rfl ⟨(blk_cell BK339.out 0).trans rfl, (blk_cell BK339.out 1).trans rfl, (blk_cell BK343.out 0).trans rfl, (blk_cell BK343.out 1).trans rfl, (blk_cell BK334.out 0).trans rfl, (blk_cell BK334.out 1).trans rfl, (blk_cell BK334.out 2).trans rfl, (blk_cell BK334.out 3).trans rfl, (blk_cell BK334.out 4).trans rfl, (blk_cell BK334.out 5).trans rfl⟩ (fun hHeld => ?_); refine with_tabW tenancylaw15_Opt6Writes.tab5 tenancylaw15_Opt6Writes.bits5 (fun HT_ HW_ => ?_)
        generalize w23.drew = w24 at BK334 BK339 BK343 HB hHeld ⊢
        refine take_ (i := 0) (N := some 19) (v := ?_) (a' := ?_) #[true, false, false, false, false, false, false, false, false, false, false, false, false, false, false, false] rfl rfl (take_ofW HT_.out HW_.out (by kernel_rfl)) (fun _ _ _ h => h) (Or.inl ⟨by rfl, ?_⟩) hHeld ?_ ?_
        rotate_left
        · rintro w' ⟨s0, s1, s2, s3, s4, s5, s6, s7, s8, s9⟩
          go_simp
          with_reducible rfl
        rotate_left
        · simp only [Act.put, List.setIfInBounds_toArray, List.set_cons_zero, List.set_cons_succ, i64_w, i32_w]
          rfl
        refine take_ (i := 1) (N := some 20) (v := ?_) (a' := ?_) #[true, true, false, false, false, false, false, false, false, false, false, false, false, false, false, false] rfl rfl (take_ofW HT_.out HW_.out (by kernel_rfl)) (fun _ _ _ h => h) (Or.inl ⟨by rfl, ?_⟩) hHeld ?_ ?_
        rotate_left
        · rintro w' ⟨s0, s1, s2, s3, s4, s5, s6, s7, s8, s9⟩
          go_simp
          with_reducible rfl
        rotate_left
        · simp only [Act.put, List.setIfInBounds_toArray, List.set_cons_zero, List.set_cons_succ, i64_w, i32_w]
          rfl
        refine pure_ (i := 2) (N := some 21) (v := ?_) (a' := ?_) #[true, true, true, false, false, false, false, false, false, false, false, false, false, false, false, false] rfl rfl (any_of HT_.out (by kernel_rfl)) (fun _ _ _ h => h) (Or.inl ⟨by rfl, ?_⟩) ?_ ?_
        rotate_left
        · intro w'
          go_simp
          with_reducible rfl
        rotate_left
        · simp only [Act.put, List.setIfInBounds_toArray, List.set_cons_zero, List.set_cons_succ, i64_w, i32_w]
          rfl
        refine pure_ (i := 3) (N := some 22) (v := ?_) (a' := ?_) #[true, true, true, true, false, false, false, false, false, false, false, false, false, false, false, false] rfl rfl (any_of HT_.out (by kernel_rfl)) (fun _ _ _ h => h) (Or.inl ⟨by rfl, ?_⟩) ?_ ?_
        rotate_left
        · intro w'
          go_simp
          with_reducible rfl
        rotate_left
        · simp only [Act.put, List.setIfInBounds_toArray, List.set_cons_zero, List.set_cons_succ, i64_w, i32_w]
          rfl
        refine pure_ (i := 4) (N := some 23) (v := ?_) (a' := ?_) #[true, true, true, true, true, false, false, false, false, false, false, false, false, false, false, false] rfl rfl (any_of HT_.out (by kernel_rfl)) (fun _ _ _ h => h) (Or.inl ⟨by rfl, ?_⟩) ?_ ?_
        rotate_left
        · intro w'
          go_simp
          with_reducible rfl
        rotate_left
        · simp only [Act.put, List.setIfInBounds_toArray, List.set_cons_zero, List.set_cons_succ, i64_w, i32_w]
          rfl
        refine pure_ (i := 5) (N := some 24) (v := ?_) (a' := ?_) #[true, true, true, true, true, true, false, false, false, false, false, false, false, false, false, false] rfl rfl (any_of HT_.out (by kernel_rfl)) (fun _ _ _ h => h) (Or.inl ⟨by rfl, ?_⟩) ?_ ?_
        rotate_left
        · intro w'
          go_simp
          with_reducible rfl
        rotate_left
        · simp only [Act.put, List.setIfInBounds_toArray, List.set_cons_zero, List.set_cons_succ, i64_w, i32_w]
          rfl
        refine pure_ (i := 6) (N := some 25) (v := ?_) (a' := ?_) #[true, true, true, true, true, true, true, false, false, false, false, false, false, false, false, false] rfl rfl (any_of HT_.out (by kernel_rfl)) (fun _ _ _ h => h) (Or.inl ⟨by rfl, ?_⟩) ?_ ?_
        rotate_left
        · intro w'
          go_simp
          with_reducible rfl
        rotate_left
        · simp only [Act.put, List.setIfInBounds_toArray, List.set_cons_zero, List.set_cons_succ, i64_w, i32_w]
          rfl
        refine pure_ (i := 7) (N := some 26) (v := ?_) (a' := ?_) #[true, true, true, true, true, true, true, true, false, false, false, false, false, false, false, false] rfl rfl (any_of HT_.out (by kernel_rfl)) (fun _ _ _ h => h) (Or.inl ⟨by rfl, ?_⟩) ?_ ?_
        rotate_left
        · intro w'
          go_simp
          with_reducible rfl
        rotate_left
        · simp only [Act.put, List.setIfInBounds_toArray, List.set_cons_zero, List.set_cons_succ, i64_w, i32_w]
          rfl
        refine pure_ (i := 8) (N := some 27) (v := ?_) (a' := ?_) #[true, true, true, true, true, true, true, true, true, false, false, false, false, false, false, false] rfl rfl (any_of HT_.out (by kernel_rfl)) (fun _ _ _ h => h) (Or.inl ⟨by rfl, ?_⟩) ?_ ?_
        rotate_left
        · intro w'
          go_simp
          with_reducible rfl
        rotate_left
        · simp only [Act.put, List.setIfInBounds_toArray, List.set_cons_zero, List.set_cons_succ, i64_w, i32_w]
          rfl
        refine take_ (i := 9) (N := some 28) (v := ?_) (a' := ?_) #[true, true, true, true, true, true, true, true, true, true, false, false, false, false, false, false] rfl rfl (take_ofW HT_.out HW_.out (by kernel_rfl)) (fun _ _ _ h => h) (Or.inl ⟨by rfl, ?_⟩) hHeld ?_ ?_
        rotate_left
        · rintro w' ⟨s0, s1, s2, s3, s4, s5, s6, s7, s8, s9⟩
          go_simp
          with_reducible rfl
        rotate_left
        · simp only [Act.put, List.setIfInBounds_toArray, List.set_cons_zero, List.set_cons_succ, i64_w, i32_w]
          rfl
        refine take_ (i := 11) (N := some 30) (v := ?_) (a' := ?_) #[true, true, true, true, true, true, true, true, true, true, false, true, false, false, false, false] rfl rfl (take_ofW HT_.out HW_.out (by kernel_rfl)) (fun _ _ _ h => h) (Or.inl ⟨by rfl, ?_⟩) hHeld ?_ ?_
        rotate_left
        · rintro w' ⟨s0, s1, s2, s3, s4, s5, s6, s7, s8, s9⟩
          go_simp
          with_reducible rfl
        rotate_left
        · simp only [Act.put, List.setIfInBounds_toArray, List.set_cons_zero, List.set_cons_succ, i64_w, i32_w]
          rfl
        refine one_ (i := 10) (N := some 29) #[true, true, true, true, true, true, true, true, true, true, true, true, false, false, false, false] rfl rfl (one_of HT_.out (by kernel_rfl)) (by decide) (fun K hK => ?_)
        refine goes_ Try.func21 (by kernel_rfl) rfl #[.agg #[.int .i64 a0_0, .int .u32 a0_1, .int .u32 a0_2, .int .u32 a0_3, .slice A0_4 l0_4.length c0_4, .int .i64 a0_5]] (by rfl) rfl rfl (by (try simp only [List.map_toArray, List.map_cons, List.map_nil]); first | rfl) ?_
        with_reducible refine (opt6_Sound.calls a0_0 a0_1 a0_2 a0_3 _ _ l0_4 a0_5 t344 _ ?side1 ?side2 A8.out).mono ?_
        (case side1 => repeat (first | exact (Kd.C_below HR0_4.out HB.out)))
        (case side2 => exact HC0_4.out)
        rintro e w25 ⟨rfl, hb⟩
        refine ⟨_, rfl, ?_⟩
        have n0_ := Aside0.mk (blk_below (g := gb334) (o := .cells #[.int .i64 a0_0, .int .u32 a0_1, .int .u32 a0_2, .int .u32 a0_3, .slice A0_4 l0_4.length c0_4, .int .i64 a0_5] 37 (0, 0)) BK334.out hb)
        have n1_ := Aside0.mk (blk_below (g := gb339) (o := .cells #[.int .u16 t336, .string t337] 40 (0, 0)) BK339.out hb)
        have n2_ := Aside0.mk (blk_below (g := gb343) (o := .cells #[.int .u16 t340, .string t341] 40 (0, 0)) BK343.out hb)
        have n3_ := Aside0.mk (below_step HB.out hb)
        clear BK334
        clear BK339
        clear BK343
        clear HB
        have BK334 := n0_
        have BK339 := n1_
        have BK343 := n2_
        have HB := n3_
        clear n0_ n1_ n2_ n3_
        (try clear hb)
        (try clear hb2)
        (try clear hk)
        (try clear hi)
        refine hK.out _ _ ⟨(blk_cell BK339.out 0).trans rfl, (blk_cell BK339.out 1).trans rfl, (blk_cell BK343.out 0).trans rfl, (blk_cell BK343.out 1).trans rfl, (blk_cell BK334.out 0).trans rfl, (blk_cell BK334.out 1).trans rfl, (blk_cell BK334.out 2).trans rfl, (blk_cell BK334.out 3).trans rfl, (blk_cell BK334.out 4).trans rfl, (blk_cell BK334.out 5).trans rfl⟩ (fun hHeld => ?_)
        clear hK K
        refine norm_ (a' := ?_) ?_ ?_
        rotate_left
        · show Act.put _ (some 29) _ = _
          simp only [Act.put, List.setIfInBounds_toArray, List.set_cons_zero, List.set_cons_succ, i64_w, i32_w]
          rfl
        refine one_ (i := 12) (N := some 31) #[true, true, true, true, true, true, true, true, true, true, true, true, true, false, false, false] rfl rfl (one_of HT_.out (by kernel_rfl)) (by decide) (fun K hK => ?_)
        refine goes_ Try.func22 (by kernel_rfl) rfl #[.agg #[.int .i64 a0_0, .int .u32 a0_1, .int .u32 a0_2, .int .u32 a0_3, .slice A0_4 l0_4.length c0_4, .int .i64 a0_5]] (by rfl) rfl rfl (by (try simp only [List.map_toArray, List.map_cons, List.map_nil]); first | rfl) ?_
        with_reducible refine (tenancyref15_Sound.calls k a0_0 a0_1 a0_2 a0_3 _ _ l0_4 a0_5 t345 _ ?side1 ?side2 A9.out).mono ?_
        (case side1 => repeat (first | exact (Kd.C_below HR0_4.out HB.out)))
        (case side2 => exact HC0_4.out)
        rintro e w26 ⟨rfl, hb⟩
        refine ⟨_, rfl, ?_⟩
        have n0_ := Aside0.mk (blk_below (g := gb334) (o := .cells #[.int .i64 a0_0, .int .u32 a0_1, .int .u32 a0_2, .int .u32 a0_3, .slice A0_4 l0_4.length c0_4, .int .i64 a0_5] 37 (0, 0)) BK334.out hb)
        have n1_ := Aside0.mk (blk_below (g := gb339) (o := .cells #[.int .u16 t336, .string t337] 40 (0, 0)) BK339.out hb)
        have n2_ := Aside0.mk (blk_below (g := gb343) (o := .cells #[.int .u16 t340, .string t341] 40 (0, 0)) BK343.out hb)
        have n3_ := Aside0.mk (below_step HB.out hb)
        clear BK334
        clear BK339
        clear BK343
        clear HB
        have BK334 := n0_
        have BK339 := n1_
        have BK343 := n2_
        have HB := n3_
        clear n0_ n1_ n2_ n3_
        (try clear hb)
        (try clear hb2)
        (try clear hk)
        (try clear hi)
        refine hK.out _ _ ⟨(blk_cell BK339.out 0).trans rfl, (blk_cell BK339.out 1).trans rfl, (blk_cell BK343.out 0).trans rfl, (blk_cell BK343.out 1).trans rfl, (blk_cell BK334.out 0).trans rfl, (blk_cell BK334.out 1).trans rfl, (blk_cell BK334.out 2).trans rfl, (blk_cell BK334.out 3).trans rfl, (blk_cell BK334.out 4).trans rfl, (blk_cell BK334.out 5).trans rfl⟩ (fun hHeld => ?_)
        clear hK K
        refine norm_ (a' := ?_) ?_ ?_
        rotate_left
        · show Act.put _ (some 31) _ = _
          simp only [Act.put, List.setIfInBounds_toArray, List.set_cons_zero, List.set_cons_succ, i64_w, i32_w]
          rfl
        refine pure_ (i := 13) (N := some 32) (v := ?_) (a' := ?_) #[true, true, true, true, true, true, true, true, true, true, true, true, true, true, false, false] rfl rfl (any_of HT_.out (by kernel_rfl)) (fun _ _ _ h => h) (Or.inl ⟨by rfl, ?_⟩) ?_ ?_
        rotate_left
        · intro w'
          go_simp
          with_reducible rfl
        rotate_left
        · simp only [Act.put, List.setIfInBounds_toArray, List.set_cons_zero, List.set_cons_succ, i64_w, i32_w]
          rfl
        refine pure_ (i := 14) (N := some 33) (v := ?_) (a' := ?_) #[true, true, true, true, true, true, true, true, true, true, true, true, true, true, true, false] rfl rfl (any_of HT_.out (by kernel_rfl)) (fun _ _ _ h => h) (Or.inl ⟨by rfl, ?_⟩) ?_ ?_
        rotate_left
        · intro w'
          go_simp
          with_reducible rfl
        rotate_left
        · simp only [Act.put, List.setIfInBounds_toArray, List.set_cons_zero, List.set_cons_succ, i64_w, i32_w]
          rfl
        refine pure_ (i := 15) (N := some 2) (v := ?_) (a' := ?_) #[true, true, true, true, true, true, true, true, true, true, true, true, true, true, true, true] rfl rfl (any_of HT_.out (by kernel_rfl)) (fun _ _ _ h => h) (Or.inl ⟨by rfl, ?_⟩) ?_ ?_
        rotate_left
        · intro w'
          go_simp
          with_reducible rfl
        rotate_left
        · simp only [Act.put, List.setIfInBounds_toArray, List.set_cons_zero, List.set_cons_succ, i64_w, i32_w]
          rfl
        refine done_ (done_of HT_.out (by kernel_rfl)) ?_
        try go_wp2
        go_ret
        exact ⟨by rfl, by exact HB.out⟩
      · rw [if_neg c7] at H
        exact absurd H (by simp)
    · rw [if_neg c6] at H
      exact absurd H (by simp)
  · replace c3 := Bool.eq_false_iff.mpr c3
    subst c3
    have H1 : (none) = some r := by rw [if_neg (show ¬ (false = true) by decide)] at H; exact H
    clear H
    have H := H1
    clear H1
    exact absurd H (by simp)

/-- The one plain statement of tenancylaw15_Opt6Writes. -/
def tenancylaw15_Opt6Writes.Pure : Prop := ∀ (x0 : S37), (wf37 x0) → ∃ k, tenancylaw15_Opt6Writes.f k (x0.f0) (x0.f1) (x0.f2) (x0.f3) (x0.f4) (x0.f5) = some true

end Go.Proofs.Ytngojiikkokajaa.X
