/- Functions of the program as Lean functions, and that the calls come to them: no condition.  By this session's own program (wip/xprint). -/
import Derived.Test.YtngojiikkokajaaG0
import Derived.Test.YtngojiikkokajaaG2
import Derived.Test.YtngojiikkokajaaG6
import Derived.Test.YtngojiikkokajaaG13
import Derived.Test.YtngojiikkokajaaG14
namespace Go.Proofs.Ytngojiikkokajaa.X
open Go.RowKit Go.Proofs.YtngojiikkokajaaW.PrintWords Go.Proofs.YtngojiikkokajaaW.PrintLast Go.Proofs.YtngojiikkokajaaW.PrintMore
attribute [local go_sem] max2_int min2_int max_two min_two max_three min_three max_four min_four   -- for this text's walks alone
set_option linter.unusedVariables false
set_option linter.unusedSimpArgs false
/-! ### tenancyref15_GetIA: function 24 -/
mutual
def tenancyref15_GetIA.j0 : Nat → Int → Int → Int → ByteArray → Int → Int → Int → Int → Int → Option (Int × Int × Int × Int × (List (S76)) × Int × Int)
  | 0, _, _, _, _, _, _, _, _, _ => none
  | k + 1, x5, x6, x381000, x381001, x383000, x383001, x383002, x383003, x383005 => (tenancyref04_Cut.f x381001 0 x5).bind fun bt383 => (if bt383.2 = true then ((tenancyref15_word.f k bt383.1 0).bind fun t385 => (if x5 = 12 then ((tenancyref15_word.f k bt383.1 4).bind fun t386 => ((tenancyref15_word.f k bt383.1 8).bind fun t387 => (tenancyref15_GetIA.j1 k x5 x6 x381000 x381001 x383000 t385 t386 t387 x383005))) else (tenancyref15_GetIA.j1 k x5 x6 x381000 x381001 x383000 t385 x383002 x383003 x383005))) else (some (0, 0, 0, 0, ([] : List (S76)), 0, 3)))
def tenancyref15_GetIA.j1 : Nat → Int → Int → Int → ByteArray → Int → Int → Int → Int → Int → Option (Int × Int × Int × Int × (List (S76)) × Int × Int)
  | 0, _, _, _, _, _, _, _, _, _ => none
  | k + 1, x5, x6, x381000, x381001, x383000, x383001, x383002, x383003, x383005 => if 0 ≤ x5 then (if x5 ≤ (x381001.size : Int) then ((tenancyref15_Parse.f k (x381001.extract (x5 : Int).toNat x381001.size)).bind fun bt388 => (if bt388.2 = 0 then (tenancyref15_GetIA.l0 k x6 bt388.1 0 x383000 x383001 x383002 x383003 ([] : List (S76)) x383005) else (some (0, 0, 0, 0, ([] : List (S76)), 0, bt388.2)))) else (none)) else (none)
def tenancyref15_GetIA.l0 : Nat → Int → List (S40) → Int → Int → Int → Int → Int → List (S76) → Int → Option (Int × Int × Int × Int × (List (S76)) × Int × Int)
  | 0, _, _, _, _, _, _, _, _, _ => none
  | k + 1, x6, x9, x11, x383000, x383001, x383002, x383003, x383004, x383005 => if x11 < (x9.length : Int) then (if 0 ≤ x11 then (if ((rd_T40 x9 x11).f0) = 13 then ((tenancyref15_GetStatus.f k ((rd_T40 x9 x11).f1)).bind fun bt394 => (if bt394.2 = true then (if x383005 < 0 then (tenancyref15_GetIA.j3 k x6 x9 x11 x383000 x383001 x383002 x383003 x383004 bt394.1) else (tenancyref15_GetIA.j3 k x6 x9 x11 x383000 x383001 x383002 x383003 x383004 x383005)) else (some (0, 0, 0, 0, ([] : List (S76)), 0, 130)))) else (tenancyref15_GetIA.j3 k x6 x9 x11 x383000 x383001 x383002 x383003 x383004 x383005)) else (none)) else (some (x383000, x383001, x383002, x383003, x383004, x383005, 0))
def tenancyref15_GetIA.j3 : Nat → Int → List (S40) → Int → Int → Int → Int → Int → List (S76) → Int → Option (Int × Int × Int × Int × (List (S76)) × Int × Int)
  | 0, _, _, _, _, _, _, _, _, _ => none
  | k + 1, x6, x9, x11, x383000, x383001, x383002, x383003, x383004, x383005 => if 0 ≤ x11 then (if x11 < (x9.length : Int) then (if ((rd_T40 x9 x11).f0) = x6 then (if (x383004.length : Int) ≥ 8 then (some (0, 0, 0, 0, ([] : List (S76)), 0, 6)) else ((tenancyref15_inner.f k x383000 ((rd_T40 x9 x11).f1)).bind fun bt398 => (if bt398.2.2.2.2.2.2 = 0 then (if x383004.length < 3518437208883 then (tenancyref15_GetIA.l0 k x6 x9 (wrap64 (x11 + 1)) x383000 x383001 x383002 x383003 (x383004 ++ [(⟨(⟨(⟨bt398.1, bt398.2.1⟩ : S72), bt398.2.2.1⟩ : S74), bt398.2.2.2.1, bt398.2.2.2.2.1, bt398.2.2.2.2.2.1⟩ : S76)]) x383005) else (none)) else (some (0, 0, 0, 0, ([] : List (S76)), 0, bt398.2.2.2.2.2.2))))) else (tenancyref15_GetIA.l0 k x6 x9 (wrap64 (x11 + 1)) x383000 x383001 x383002 x383003 x383004 x383005)) else (none)) else (none)
end
def tenancyref15_GetIA.f (k : Nat) (a0_0 : Int) (a0_1 : ByteArray) : Option (Int × Int × Int × Int × (List (S76)) × Int × Int) := if a0_0 = 3 then (tenancyref15_GetIA.j0 k 12 5 a0_0 a0_1 2 0 0 0 (-1)) else (if a0_0 = 4 then (tenancyref15_GetIA.j0 k 4 5 a0_0 a0_1 3 0 0 0 (-1)) else (if a0_0 = 25 then (tenancyref15_GetIA.j0 k 12 26 a0_0 a0_1 4 0 0 0 (-1)) else (some (0, 0, 0, 0, ([] : List (S76)), 0, 130))))
theorem tenancyref15_GetIA.mono_l : ∀ k, (∀ y0 y1 y2 y3 y4 y5 y6 y7 y8, LeO (tenancyref15_GetIA.j0 k y0 y1 y2 y3 y4 y5 y6 y7 y8) (tenancyref15_GetIA.j0 (k + 1) y0 y1 y2 y3 y4 y5 y6 y7 y8)) ∧ (∀ y0 y1 y2 y3 y4 y5 y6 y7 y8, LeO (tenancyref15_GetIA.j1 k y0 y1 y2 y3 y4 y5 y6 y7 y8) (tenancyref15_GetIA.j1 (k + 1) y0 y1 y2 y3 y4 y5 y6 y7 y8)) ∧ (∀ y0 y1 y2 y3 y4 y5 y6 y7 y8, LeO (tenancyref15_GetIA.l0 k y0 y1 y2 y3 y4 y5 y6 y7 y8) (tenancyref15_GetIA.l0 (k + 1) y0 y1 y2 y3 y4 y5 y6 y7 y8)) ∧ (∀ y0 y1 y2 y3 y4 y5 y6 y7 y8, LeO (tenancyref15_GetIA.j3 k y0 y1 y2 y3 y4 y5 y6 y7 y8) (tenancyref15_GetIA.j3 (k + 1) y0 y1 y2 y3 y4 y5 y6 y7 y8))
  | 0 => ⟨fun _ _ _ _ _ _ _ _ _ r h => by simp [tenancyref15_GetIA.j0] at h, fun _ _ _ _ _ _ _ _ _ r h => by simp [tenancyref15_GetIA.j1] at h, fun _ _ _ _ _ _ _ _ _ r h => by simp [tenancyref15_GetIA.l0] at h, fun _ _ _ _ _ _ _ _ _ r h => by simp [tenancyref15_GetIA.j3] at h⟩
  | k + 1 => by
    obtain ⟨ih0, ih1, ih2, ih3⟩ := tenancyref15_GetIA.mono_l k
    refine ⟨?_, ?_, ?_, ?_⟩
    · intro y0 y1 y2 y3 y4 y5 y6 y7 y8
      unfold tenancyref15_GetIA.j0
      repeat' first
      | (with_reducible exact ih0 _ _ _ _ _ _ _ _ _)
      | (with_reducible exact ih1 _ _ _ _ _ _ _ _ _)
      | (with_reducible exact ih2 _ _ _ _ _ _ _ _ _)
      | (with_reducible exact ih3 _ _ _ _ _ _ _ _ _)
      | (with_reducible exact tenancyref15_GetStatus.mono _ _)
      | (with_reducible exact tenancyref15_Parse.mono _ _)
      | (with_reducible exact tenancyref15_inner.mono _ _ _)
      | (with_reducible exact tenancyref15_word.mono _ _ _)
      | (with_reducible exact LeO.refl _)
      | (with_reducible exact LeO.none _)
      | (with_reducible refine LeO.ite ?_ ?_)
      | (with_reducible refine LeO.bind ?_ (fun _ => ?_))
      | exact ih0 _ _ _ _ _ _ _ _ _
      | exact ih1 _ _ _ _ _ _ _ _ _
      | exact ih2 _ _ _ _ _ _ _ _ _
      | exact ih3 _ _ _ _ _ _ _ _ _
      | exact tenancyref15_GetStatus.mono _ _
      | exact tenancyref15_Parse.mono _ _
      | exact tenancyref15_inner.mono _ _ _
      | exact tenancyref15_word.mono _ _ _
      | exact LeO.none _
      | refine LeO.ite ?_ ?_
      | refine LeO.bind ?_ (fun _ => ?_)
    · intro y0 y1 y2 y3 y4 y5 y6 y7 y8
      unfold tenancyref15_GetIA.j1
      repeat' first
      | (with_reducible exact ih0 _ _ _ _ _ _ _ _ _)
      | (with_reducible exact ih1 _ _ _ _ _ _ _ _ _)
      | (with_reducible exact ih2 _ _ _ _ _ _ _ _ _)
      | (with_reducible exact ih3 _ _ _ _ _ _ _ _ _)
      | (with_reducible exact tenancyref15_GetStatus.mono _ _)
      | (with_reducible exact tenancyref15_Parse.mono _ _)
      | (with_reducible exact tenancyref15_inner.mono _ _ _)
      | (with_reducible exact tenancyref15_word.mono _ _ _)
      | (with_reducible exact LeO.refl _)
      | (with_reducible exact LeO.none _)
      | (with_reducible refine LeO.ite ?_ ?_)
      | (with_reducible refine LeO.bind ?_ (fun _ => ?_))
      | exact ih0 _ _ _ _ _ _ _ _ _
      | exact ih1 _ _ _ _ _ _ _ _ _
      | exact ih2 _ _ _ _ _ _ _ _ _
      | exact ih3 _ _ _ _ _ _ _ _ _
      | exact tenancyref15_GetStatus.mono _ _
      | exact tenancyref15_Parse.mono _ _
      | exact tenancyref15_inner.mono _ _ _
      | exact tenancyref15_word.mono _ _ _
      | exact LeO.none _
      | refine LeO.ite ?_ ?_
      | refine LeO.bind ?_ (fun _ => ?_)
    · intro y0 y1 y2 y3 y4 y5 y6 y7 y8
      unfold tenancyref15_GetIA.l0
      repeat' first
      | (with_reducible exact ih0 _ _ _ _ _ _ _ _ _)
      | (with_reducible exact ih1 _ _ _ _ _ _ _ _ _)
      | (with_reducible exact ih2 _ _ _ _ _ _ _ _ _)
      | (with_reducible exact ih3 _ _ _ _ _ _ _ _ _)
      | (with_reducible exact tenancyref15_GetStatus.mono _ _)
      | (with_reducible exact tenancyref15_Parse.mono _ _)
      | (with_reducible exact tenancyref15_inner.mono _ _ _)
      | (with_reducible exact tenancyref15_word.mono _ _ _)
      | (with_reducible exact LeO.refl _)
      | (with_reducible exact LeO.none _)
      | (with_reducible refine LeO.ite ?_ ?_)
      | (with_reducible refine LeO.bind ?_ (fun _ => ?_))
      | exact ih0 _ _ _ _ _ _ _ _ _
      | exact ih1 _ _ _ _ _ _ _ _ _
      | exact ih2 _ _ _ _ _ _ _ _ _
      | exact ih3 _ _ _ _ _ _ _ _ _
      | exact tenancyref15_GetStatus.mono _ _
      | exact tenancyref15_Parse.mono _ _
      | exact tenancyref15_inner.mono _ _ _
      | exact tenancyref15_word.mono _ _ _
      | exact LeO.none _
      | refine LeO.ite ?_ ?_
      | refine LeO.bind ?_ (fun _ => ?_)
    · intro y0 y1 y2 y3 y4 y5 y6 y7 y8
      unfold tenancyref15_GetIA.j3
      repeat' first
      | (with_reducible exact ih0 _ _ _ _ _ _ _ _ _)
      | (with_reducible exact ih1 _ _ _ _ _ _ _ _ _)
      | (with_reducible exact ih2 _ _ _ _ _ _ _ _ _)
      | (with_reducible exact ih3 _ _ _ _ _ _ _ _ _)
      | (with_reducible exact tenancyref15_GetStatus.mono _ _)
      | (with_reducible exact tenancyref15_Parse.mono _ _)
      | (with_reducible exact tenancyref15_inner.mono _ _ _)
      | (with_reducible exact tenancyref15_word.mono _ _ _)
      | (with_reducible exact LeO.refl _)
      | (with_reducible exact LeO.none _)
      | (with_reducible refine LeO.ite ?_ ?_)
      | (with_reducible refine LeO.bind ?_ (fun _ => ?_))
      | exact ih0 _ _ _ _ _ _ _ _ _
      | exact ih1 _ _ _ _ _ _ _ _ _
      | exact ih2 _ _ _ _ _ _ _ _ _
      | exact ih3 _ _ _ _ _ _ _ _ _
      | exact tenancyref15_GetStatus.mono _ _
      | exact tenancyref15_Parse.mono _ _
      | exact tenancyref15_inner.mono _ _ _
      | exact tenancyref15_word.mono _ _ _
      | exact LeO.none _
      | refine LeO.ite ?_ ?_
      | refine LeO.bind ?_ (fun _ => ?_)
theorem tenancyref15_GetIA.mono : ∀ a0 a1 k, LeO (tenancyref15_GetIA.f k a0 a1) (tenancyref15_GetIA.f (k + 1) a0 a1) := by
  intro a0 a1 k
  obtain ⟨ih0, ih1, ih2, ih3⟩ := tenancyref15_GetIA.mono_l k
  unfold tenancyref15_GetIA.f
  repeat' first
      | (with_reducible exact ih0 _ _ _ _ _ _ _ _ _)
      | (with_reducible exact ih1 _ _ _ _ _ _ _ _ _)
      | (with_reducible exact ih2 _ _ _ _ _ _ _ _ _)
      | (with_reducible exact ih3 _ _ _ _ _ _ _ _ _)
      | (with_reducible exact tenancyref15_GetStatus.mono _ _)
      | (with_reducible exact tenancyref15_Parse.mono _ _)
      | (with_reducible exact tenancyref15_inner.mono _ _ _)
      | (with_reducible exact tenancyref15_word.mono _ _ _)
      | (with_reducible exact LeO.refl _)
      | (with_reducible exact LeO.none _)
      | (with_reducible refine LeO.ite ?_ ?_)
      | (with_reducible refine LeO.bind ?_ (fun _ => ?_))
      | exact ih0 _ _ _ _ _ _ _ _ _
      | exact ih1 _ _ _ _ _ _ _ _ _
      | exact ih2 _ _ _ _ _ _ _ _ _
      | exact ih3 _ _ _ _ _ _ _ _ _
      | exact tenancyref15_GetStatus.mono _ _
      | exact tenancyref15_Parse.mono _ _
      | exact tenancyref15_inner.mono _ _ _
      | exact tenancyref15_word.mono _ _ _
      | exact LeO.none _
      | refine LeO.ite ?_ ?_
      | refine LeO.bind ?_ (fun _ => ?_)
def tenancyref15_GetIA.T36 : Bool × List (List Nat × List Nat) := (true, [([], []), ([0], [0]), ([], []), ([], []), ([2, 3], [2, 3]), ([4], [4]), ([5], [5]), ([1, 6], [1, 6]), ([7], [7]), ([8], [8]), ([8], [8]), ([], []), ([11, 9, 7, 0, 1, 2, 3, 4, 5, 6, 7, 8, 9, 11], [9, 11]), ([10, 12, 0, 1, 2, 3, 4, 5, 6, 7, 8, 9, 10, 11, 12], [10])])
def tenancyref15_GetIA.B36 : List Nat := [0, 1, 0, 0, 12, 28, 60, 127, 255, 511, 511, 0, 3071, 8191]
theorem tenancyref15_GetIA.tab36 : rtab .any (opsOf Try.f24 36) = tenancyref15_GetIA.T36 := by kernel_rfl
theorem tenancyref15_GetIA.bits36 : waitsOk tenancyref15_GetIA.T36.2 tenancyref15_GetIA.B36 = true := by kernel_rfl
set_option maxHeartbeats 8000000 in
set_option maxRecDepth 100000 in
theorem tenancyref15_GetIA.calls (k : Nat) (a0_0 : Int) (a0_1 : ByteArray) (r1 : Int) (r2 : Int) (r3 : Int) (r4 : Int) (r5 : List (S76)) (r6 : Int) (r7 : Int) (w : World) (h : tenancyref15_GetIA.f k a0_0 a0_1 = some (r1, r2, r3, r4, r5, r6, r7)) :
    Calls Try.prog 24 #[.agg #[.int .u16 a0_0, .string a0_1]] w fun e w' => ∃ v4_ : Value, e = .returned (.tuple #[.agg #[.int .i64 r1, .int .u32 r2, .int .u32 r3, .int .u32 r4, v4_, .int .i64 r6], .int .i64 r7]) ∧ Kd.R k76 76 w' w.heap.size (fun _ => True) v4_ r5 ∧ Below w.heap.size w w' := by
  have hu40 := Try.underlying40
  have hu37 := Try.underlying37
  have hu76 := Try.underlying76
  have HB := Aside0.mk (Below.refl w.heap.size w)
  have H : (if a0_0 = 3 then (tenancyref15_GetIA.j0 k 12 5 a0_0 a0_1 2 0 0 0 (-1)) else (if a0_0 = 4 then (tenancyref15_GetIA.j0 k 4 5 a0_0 a0_1 3 0 0 0 (-1)) else (if a0_0 = 25 then (tenancyref15_GetIA.j0 k 12 26 a0_0 a0_1 4 0 0 0 (-1)) else (some (0, 0, 0, 0, ([] : List (S76)), 0, 130))))) = some (r1, r2, r3, r4, r5, r6, r7) := h
  clear h
  have HC2 := Aside0.mk H
  clear H
  go_enter Try.func24, Try.ntmps24
  go_upto_block 0 with (first | ((with_reducible refine gate_dst (N := 1) rfl ?_); refine box_event ?hg (N := 1) ?hd (cs := #[.int .u16 a0_0, .string a0_1]) (t := 40) ?hr ?_; (case hd => rfl); (case hg => rfl); (case hr => go_simp; done); intro gb380 hg w3 hbox hb; have n0_ := Aside0.mk (below_step HB.out hb); have n1_ := Aside0.mk (hbox); have n2_ := Aside0.mk ((by rw [hg]; exact (below_size HB.out) : w.heap.size ≤ gb380)); have n3_ := Aside0.mk ((by rw [hg]; exact (below_size HB.out) : w.heap.size ≤ gb380)); clear HB; have HB := n0_; have BK380 := n1_; have GW380 := n2_; have GE380 := n3_; clear n0_ n1_ n2_ n3_; clear hb hbox hg) | ((with_reducible refine gate_dst (N := 2) rfl ?_); refine box_event ?hg (N := 2) ?hd (cs := #[.int .i64 0, .int .u32 0, .int .u32 0, .int .u32 0, .slice none 0 0, .int .i64 0]) (t := 37) ?hr ?_; (case hd => rfl); (case hg => rfl); (case hr => go_simp; done); intro gb381 hg w4 hbox hb; have n0_ := Aside0.mk (blk_below (g := gb380) (o := .cells #[.int .u16 a0_0, .string a0_1] 40 (0, 0)) BK380.out hb); have n1_ := Aside0.mk (below_step HB.out hb); have n2_ := Aside0.mk (hbox); have n3_ := Aside0.mk ((by rw [hg]; exact (below_size HB.out) : w.heap.size ≤ gb381)); have n4_ := Aside0.mk ((by rw [hg]; exact (below_size HB.out) : w.heap.size ≤ gb381)); have n5_ := Aside0.mk ((by rw [hg]; exact Nat.ne_of_lt (blk_lt (g := gb380) (o := .cells #[.int .u16 a0_0, .string a0_1] 40 (0, 0)) BK380.out) : gb380 ≠ gb381)); have n6_ := Aside0.mk ((by rw [hg]; exact Nat.ne_of_gt (blk_lt (g := gb380) (o := .cells #[.int .u16 a0_0, .string a0_1] 40 (0, 0)) BK380.out) : gb381 ≠ gb380)); clear BK380; clear HB; have BK380 := n0_; have HB := n1_; have BK381 := n2_; have GW381 := n3_; have GE381 := n4_; have NB380_381 := n5_; have NB381_380 := n6_; clear n0_ n1_ n2_ n3_ n4_ n5_ n6_; clear hb hbox hg) | ((with_reducible refine gate_dst (N := 4) rfl ?_); refine box_event ?hg (N := 4) ?hd (cs := #[.int .i64 0, .int .u32 0, .int .u32 0, .int .u32 0, .slice none 0 0, .int .i64 0]) (t := 37) ?hr ?_; (case hd => rfl); (case hg => rfl); (case hr => go_simp; done); intro gb382 hg w5 hbox hb; have n0_ := Aside0.mk (blk_below (g := gb380) (o := .cells #[.int .u16 a0_0, .string a0_1] 40 (0, 0)) BK380.out hb); have n1_ := Aside0.mk (blk_below (g := gb381) (o := .cells #[.int .i64 0, .int .u32 0, .int .u32 0, .int .u32 0, .slice none 0 0, .int .i64 0] 37 (0, 0)) BK381.out hb); have n2_ := Aside0.mk (below_step HB.out hb); have n3_ := Aside0.mk (hbox); have n4_ := Aside0.mk ((by rw [hg]; exact (below_size HB.out) : w.heap.size ≤ gb382)); have n5_ := Aside0.mk ((by rw [hg]; exact (below_size HB.out) : w.heap.size ≤ gb382)); have n6_ := Aside0.mk ((by rw [hg]; exact Nat.ne_of_lt (blk_lt (g := gb380) (o := .cells #[.int .u16 a0_0, .string a0_1] 40 (0, 0)) BK380.out) : gb380 ≠ gb382)); have n7_ := Aside0.mk ((by rw [hg]; exact Nat.ne_of_gt (blk_lt (g := gb380) (o := .cells #[.int .u16 a0_0, .string a0_1] 40 (0, 0)) BK380.out) : gb382 ≠ gb380)); have n8_ := Aside0.mk ((by rw [hg]; exact Nat.ne_of_lt (blk_lt (g := gb381) (o := .cells #[.int .i64 0, .int .u32 0, .int .u32 0, .int .u32 0, .slice none 0 0, .int .i64 0] 37 (0, 0)) BK381.out) : gb381 ≠ gb382)); have n9_ := Aside0.mk ((by rw [hg]; exact Nat.ne_of_gt (blk_lt (g := gb381) (o := .cells #[.int .i64 0, .int .u32 0, .int .u32 0, .int .u32 0, .slice none 0 0, .int .i64 0] 37 (0, 0)) BK381.out) : gb382 ≠ gb381)); clear BK380; clear BK381; clear HB; have BK380 := n0_; have BK381 := n1_; have HB := n2_; have BK382 := n3_; have GW382 := n4_; have GE382 := n5_; have NB380_382 := n6_; have NB382_380 := n7_; have NB381_382 := n8_; have NB382_381 := n9_; clear n0_ n1_ n2_ n3_ n4_ n5_ n6_ n7_ n8_ n9_; clear hb hbox hg; have hnb6 := NB382_380.out; have hnc6 := NB380_382.out; have hnb7 := NB382_381.out; have hnc7 := NB381_382.out; obtain ⟨hcz8_0, hcz8_1, hcz8_2, hcz8_3, hcz8_4, hcz8_5⟩ := XRun.bc6 BK382.out; obtain ⟨hfz8_0, hfz8_1, hfz8_2, hfz8_3, hfz8_4, hfz8_5⟩ := XRun.bf6 BK382.out; have hnb9 := NB380_381.out; have hnc9 := NB381_380.out; obtain ⟨hcz10_0, hcz10_1⟩ := XRun.bc2 BK380.out; obtain ⟨hfz10_0, hfz10_1⟩ := XRun.bf2 BK380.out))
  (try simp only [Act.put, List.setIfInBounds_toArray, List.set_cons_zero, List.set_cons_succ])
  go_cut [5, 6] (fun v5 v6 wc => ∃ (kq : Nat) (x5_1 : Int) (x6_1 : Int) (x382000_1 : Int) (x382001_1 : Int) (x382002_1 : Int) (x382003_1 : Int) (x382005_1 : Int) (x383000_1 : Int), v5 = .int .i64 x5_1 ∧ v6 = .int .u16 x6_1 ∧ Aside0 (tenancyref15_GetIA.j0 kq x5_1 x6_1 a0_0 a0_1 x383000_1 0 0 0 (-1) = some (r1, r2, r3, r4, r5, r6, r7)) ∧ Aside0 (kq ≤ k) ∧ Aside0 (wc.heap[gb380]? = some (.cells #[.int .u16 a0_0, .string a0_1] 40 (0, 0))) ∧ Aside0 (wc.heap[gb381]? = some (.cells #[.int .i64 x382000_1, .int .u32 x382001_1, .int .u32 x382002_1, .int .u32 x382003_1, (.slice none 0 0), .int .i64 x382005_1] 37 (0, 0))) ∧ Aside0 (wc.heap[gb382]? = some (.cells #[.int .i64 x383000_1, .int .u32 0, .int .u32 0, .int .u32 0, (.slice none 0 0), .int .i64 (-1)] 37 (0, 0))) ∧ Aside0 (Below w.heap.size w wc))
  case first =>
    have H := HC2.out
    clear HC2
    by_cases c11 : a0_0 = 3
    · rw [if_pos c11] at H
      have c11b0 : (a0_0 == 3) = true := beq_iff_eq.mpr c11
      have c11b1 : (a0_0 != 3) = false := bne_eq_false_iff_eq.mpr c11
      clear c11
      (first | skip)
      have H' := Aside0.mk H
      clear H
      have hnb12 := NB382_380.out
      have hnc12 := NB380_382.out
      have hnb13 := NB382_381.out
      have hnc13 := NB381_382.out
      obtain ⟨hcz14_0, hcz14_1, hcz14_2, hcz14_3, hcz14_4, hcz14_5⟩ := XRun.bc6 BK382.out
      obtain ⟨hfz14_0, hfz14_1, hfz14_2, hfz14_3, hfz14_4, hfz14_5⟩ := XRun.bf6 BK382.out
      go_wp2
      go_meet
      case rel => exact ⟨_, (12), (5), (0), (0), (0), (0), (0), (2), (by rfl), (by rfl), H', ⟨by omega⟩, ⟨by refine blk_far ?_ NB380_382.out _; refine blk_far ?_ NB380_382.out _; refine blk_far ?_ NB380_382.out _; refine blk_far ?_ NB380_382.out _; refine blk_far ?_ NB380_382.out _; refine blk_far ?_ NB380_382.out _; refine blk_far ?_ NB380_382.out _; exact BK380.out⟩, ⟨by refine blk_far ?_ NB381_382.out _; refine blk_far ?_ NB381_382.out _; refine blk_far ?_ NB381_382.out _; refine blk_far ?_ NB381_382.out _; refine blk_far ?_ NB381_382.out _; refine blk_far ?_ NB381_382.out _; refine blk_far ?_ NB381_382.out _; exact BK381.out⟩, ⟨by refine blk_put (cs := #[.int .i64 0, .int .u32 0, .int .u32 0, .int .u32 0, .slice none 0 0, .int .i64 (-1)]) ?_ 0 _ rfl; refine blk_put (cs := #[.int .i64 0, .int .u32 0, .int .u32 0, .int .u32 0, .slice none 0 0, .int .i64 0]) ?_ 5 _ rfl; refine blk_put (cs := #[.int .i64 0, .int .u32 0, .int .u32 0, .int .u32 0, .slice none 0 0, .int .i64 0]) ?_ 4 _ rfl; refine blk_put (cs := #[.int .i64 0, .int .u32 0, .int .u32 0, .int .u32 0, .slice none 0 0, .int .i64 0]) ?_ 3 _ rfl; refine blk_put (cs := #[.int .i64 0, .int .u32 0, .int .u32 0, .int .u32 0, .slice none 0 0, .int .i64 0]) ?_ 2 _ rfl; refine blk_put (cs := #[.int .i64 0, .int .u32 0, .int .u32 0, .int .u32 0, .slice none 0 0, .int .i64 0]) ?_ 1 _ rfl; refine blk_put (cs := #[.int .i64 0, .int .u32 0, .int .u32 0, .int .u32 0, .slice none 0 0, .int .i64 0]) ?_ 0 _ rfl; exact BK382.out⟩, ⟨by repeat (first | (with_reducible first | exact HB.out | refine below_set ?_ GE382.out))⟩⟩
    · rw [if_neg c11] at H
      have c11b0 : (a0_0 == 3) = false := beq_eq_false_iff_ne.mpr c11
      have c11b1 : (a0_0 != 3) = true := bne_iff_ne.mpr c11
      (first | skip)
      by_cases c15 : a0_0 = 4
      · rw [if_pos c15] at H
        have c15b0 : (a0_0 == 4) = true := beq_iff_eq.mpr c15
        have c15b1 : (a0_0 != 4) = false := bne_eq_false_iff_eq.mpr c15
        clear c15
        have H' := Aside0.mk H
        clear H
        have hnb16 := NB382_380.out
        have hnc16 := NB380_382.out
        have hnb17 := NB382_381.out
        have hnc17 := NB381_382.out
        obtain ⟨hcz18_0, hcz18_1, hcz18_2, hcz18_3, hcz18_4, hcz18_5⟩ := XRun.bc6 BK382.out
        obtain ⟨hfz18_0, hfz18_1, hfz18_2, hfz18_3, hfz18_4, hfz18_5⟩ := XRun.bf6 BK382.out
        go_wp2
        go_meet
        case rel => exact ⟨_, (4), (5), (0), (0), (0), (0), (0), (3), (by rfl), (by rfl), H', ⟨by omega⟩, ⟨by refine blk_far ?_ NB380_382.out _; refine blk_far ?_ NB380_382.out _; refine blk_far ?_ NB380_382.out _; refine blk_far ?_ NB380_382.out _; refine blk_far ?_ NB380_382.out _; refine blk_far ?_ NB380_382.out _; refine blk_far ?_ NB380_382.out _; exact BK380.out⟩, ⟨by refine blk_far ?_ NB381_382.out _; refine blk_far ?_ NB381_382.out _; refine blk_far ?_ NB381_382.out _; refine blk_far ?_ NB381_382.out _; refine blk_far ?_ NB381_382.out _; refine blk_far ?_ NB381_382.out _; refine blk_far ?_ NB381_382.out _; exact BK381.out⟩, ⟨by refine blk_put (cs := #[.int .i64 0, .int .u32 0, .int .u32 0, .int .u32 0, .slice none 0 0, .int .i64 (-1)]) ?_ 0 _ rfl; refine blk_put (cs := #[.int .i64 0, .int .u32 0, .int .u32 0, .int .u32 0, .slice none 0 0, .int .i64 0]) ?_ 5 _ rfl; refine blk_put (cs := #[.int .i64 0, .int .u32 0, .int .u32 0, .int .u32 0, .slice none 0 0, .int .i64 0]) ?_ 4 _ rfl; refine blk_put (cs := #[.int .i64 0, .int .u32 0, .int .u32 0, .int .u32 0, .slice none 0 0, .int .i64 0]) ?_ 3 _ rfl; refine blk_put (cs := #[.int .i64 0, .int .u32 0, .int .u32 0, .int .u32 0, .slice none 0 0, .int .i64 0]) ?_ 2 _ rfl; refine blk_put (cs := #[.int .i64 0, .int .u32 0, .int .u32 0, .int .u32 0, .slice none 0 0, .int .i64 0]) ?_ 1 _ rfl; refine blk_put (cs := #[.int .i64 0, .int .u32 0, .int .u32 0, .int .u32 0, .slice none 0 0, .int .i64 0]) ?_ 0 _ rfl; exact BK382.out⟩, ⟨by repeat (first | (with_reducible first | exact HB.out | refine below_set ?_ GE382.out))⟩⟩
      · rw [if_neg c15] at H
        have c15b0 : (a0_0 == 4) = false := beq_eq_false_iff_ne.mpr c15
        have c15b1 : (a0_0 != 4) = true := bne_iff_ne.mpr c15
        by_cases c19 : a0_0 = 25
        · rw [if_pos c19] at H
          have c19b0 : (a0_0 == 25) = true := beq_iff_eq.mpr c19
          have c19b1 : (a0_0 != 25) = false := bne_eq_false_iff_eq.mpr c19
          clear c19
          have H' := Aside0.mk H
          clear H
          have hnb20 := NB382_380.out
          have hnc20 := NB380_382.out
          have hnb21 := NB382_381.out
          have hnc21 := NB381_382.out
          obtain ⟨hcz22_0, hcz22_1, hcz22_2, hcz22_3, hcz22_4, hcz22_5⟩ := XRun.bc6 BK382.out
          obtain ⟨hfz22_0, hfz22_1, hfz22_2, hfz22_3, hfz22_4, hfz22_5⟩ := XRun.bf6 BK382.out
          go_wp2
          go_meet
          case rel => exact ⟨_, (12), (26), (0), (0), (0), (0), (0), (4), (by rfl), (by rfl), H', ⟨by omega⟩, ⟨by refine blk_far ?_ NB380_382.out _; refine blk_far ?_ NB380_382.out _; refine blk_far ?_ NB380_382.out _; refine blk_far ?_ NB380_382.out _; refine blk_far ?_ NB380_382.out _; refine blk_far ?_ NB380_382.out _; refine blk_far ?_ NB380_382.out _; exact BK380.out⟩, ⟨by refine blk_far ?_ NB381_382.out _; refine blk_far ?_ NB381_382.out _; refine blk_far ?_ NB381_382.out _; refine blk_far ?_ NB381_382.out _; refine blk_far ?_ NB381_382.out _; refine blk_far ?_ NB381_382.out _; refine blk_far ?_ NB381_382.out _; exact BK381.out⟩, ⟨by refine blk_put (cs := #[.int .i64 0, .int .u32 0, .int .u32 0, .int .u32 0, .slice none 0 0, .int .i64 (-1)]) ?_ 0 _ rfl; refine blk_put (cs := #[.int .i64 0, .int .u32 0, .int .u32 0, .int .u32 0, .slice none 0 0, .int .i64 0]) ?_ 5 _ rfl; refine blk_put (cs := #[.int .i64 0, .int .u32 0, .int .u32 0, .int .u32 0, .slice none 0 0, .int .i64 0]) ?_ 4 _ rfl; refine blk_put (cs := #[.int .i64 0, .int .u32 0, .int .u32 0, .int .u32 0, .slice none 0 0, .int .i64 0]) ?_ 3 _ rfl; refine blk_put (cs := #[.int .i64 0, .int .u32 0, .int .u32 0, .int .u32 0, .slice none 0 0, .int .i64 0]) ?_ 2 _ rfl; refine blk_put (cs := #[.int .i64 0, .int .u32 0, .int .u32 0, .int .u32 0, .slice none 0 0, .int .i64 0]) ?_ 1 _ rfl; refine blk_put (cs := #[.int .i64 0, .int .u32 0, .int .u32 0, .int .u32 0, .slice none 0 0, .int .i64 0]) ?_ 0 _ rfl; exact BK382.out⟩, ⟨by repeat (first | (with_reducible first | exact HB.out | refine below_set ?_ GE382.out))⟩⟩
        · rw [if_neg c19] at H
          have c19b0 : (a0_0 == 25) = false := beq_eq_false_iff_ne.mpr c19
          have c19b1 : (a0_0 != 25) = true := bne_iff_ne.mpr c19
          simp only [Option.some.injEq, Prod.mk.injEq] at H
          obtain ⟨rfl, rfl, rfl, rfl, rfl, rfl, rfl⟩ := H
          have hnb23 := NB381_380.out
          have hnc23 := NB380_381.out
          have hnb24 := NB381_382.out
          have hnc24 := NB382_381.out
          obtain ⟨hcz25_0, hcz25_1, hcz25_2, hcz25_3, hcz25_4, hcz25_5⟩ := XRun.bc6 BK381.out
          obtain ⟨hfz25_0, hfz25_1, hfz25_2, hfz25_3, hfz25_4, hfz25_5⟩ := XRun.bf6 BK381.out
          go_wp2
          refine bodyPost_ret (results_ct rfl _ _ gb381 37 #[.int .i64 0, .int .u32 0, .int .u32 0, .int .u32 0, .slice none 0 0, .int .i64 0] (0, 0) _ rfl (by refine blk_put (cs := #[.int .i64 0, .int .u32 0, .int .u32 0, .int .u32 0, .slice none 0 0, .int .i64 0]) ?_ 5 _ rfl; refine blk_put (cs := #[.int .i64 0, .int .u32 0, .int .u32 0, .int .u32 0, .slice none 0 0, .int .i64 0]) ?_ 4 _ rfl; refine blk_put (cs := #[.int .i64 0, .int .u32 0, .int .u32 0, .int .u32 0, .slice none 0 0, .int .i64 0]) ?_ 3 _ rfl; refine blk_put (cs := #[.int .i64 0, .int .u32 0, .int .u32 0, .int .u32 0, .slice none 0 0, .int .i64 0]) ?_ 2 _ rfl; refine blk_put (cs := #[.int .i64 0, .int .u32 0, .int .u32 0, .int .u32 0, .slice none 0 0, .int .i64 0]) ?_ 1 _ rfl; refine blk_put (cs := #[.int .i64 0, .int .u32 0, .int .u32 0, .int .u32 0, .slice none 0 0, .int .i64 0]) ?_ 0 _ rfl; refine blk_far ?_ NB381_382.out _; refine blk_far ?_ NB381_382.out _; refine blk_far ?_ NB381_382.out _; refine blk_far ?_ NB381_382.out _; refine blk_far ?_ NB381_382.out _; refine blk_far ?_ NB381_382.out _; exact BK381.out) Try.underlying37 rfl (by kernel_rfl)) rfl ?_
          exact ⟨_, by rfl, by first | exact Kd.R_nil _ _ _ _ _, by repeat (first | (with_reducible first | exact HB.out | refine below_set ?_ GE381.out | refine below_set ?_ GE382.out))⟩
  case rest =>
    clear HC2
    try clear c1
    try clear c2
    try clear p2
    try clear c6
    try clear c7
    try clear c9
    try clear c11
    try clear c11b0
    try clear c11b1
    try clear c12
    try clear c13
    try clear c15
    try clear c15b0
    try clear c15b1
    try clear c16
    try clear c17
    try clear c19
    try clear c19b0
    try clear c19b1
    try clear c20
    try clear c21
    try clear c23
    try clear c24
    try clear hcz10_0
    try clear hcz10_1
    try clear hcz14_0
    try clear hcz14_1
    try clear hcz14_2
    try clear hcz14_3
    try clear hcz14_4
    try clear hcz14_5
    try clear hcz18_0
    try clear hcz18_1
    try clear hcz18_2
    try clear hcz18_3
    try clear hcz18_4
    try clear hcz18_5
    try clear hcz22_0
    try clear hcz22_1
    try clear hcz22_2
    try clear hcz22_3
    try clear hcz22_4
    try clear hcz22_5
    try clear hcz25_0
    try clear hcz25_1
    try clear hcz25_2
    try clear hcz25_3
    try clear hcz25_4
    try clear hcz25_5
    try clear hcz8_0
    try clear hcz8_1
    try clear hcz8_2
    try clear hcz8_3
    try clear hcz8_4
    try clear hcz8_5
    try clear hfz10_0
    try clear hfz10_1
    try clear hfz14_0
    try clear hfz14_1
    try clear hfz14_2
    try clear hfz14_3
    try clear hfz14_4
    try clear hfz14_5
    try clear hfz18_0
    try clear hfz18_1
    try clear hfz18_2
    try clear hfz18_3
    try clear hfz18_4
    try clear hfz18_5
    try clear hfz22_0
    try clear hfz22_1
    try clear hfz22_2
    try clear hfz22_3
    try clear hfz22_4
    try clear hfz22_5
    try clear hfz25_0
    try clear hfz25_1
    try clear hfz25_2
    try clear hfz25_3
    try clear hfz25_4
    try clear hfz25_5
    try clear hfz8_0
    try clear hfz8_1
    try clear hfz8_2
    try clear hfz8_3
    try clear hfz8_4
    try clear hfz8_5
    obtain ⟨kq, x5_1, x6_1, x382000_1, x382001_1, x382002_1, x382003_1, x382005_1, x383000_1, rfl, rfl, HA, HJ1, BK380, BK381, BK382, HB⟩ := hcut
    cases kq with
    | zero => exact absurd HA.out (by simp [tenancyref15_GetIA.j0])
    | succ kj1 =>
      have H := HA.out
      clear HA
      simp only [tenancyref15_GetIA.j0] at H
      replace H := Option.bind_eq_some_iff.mp H
      obtain ⟨⟨t383, t384⟩, A260, H⟩ := H
      replace H : (if t384 = true then ((tenancyref15_word.f kj1 t383 0).bind fun t385 => (if x5_1 = 12 then ((tenancyref15_word.f kj1 t383 4).bind fun t386 => ((tenancyref15_word.f kj1 t383 8).bind fun t387 => (tenancyref15_GetIA.j1 kj1 x5_1 x6_1 a0_0 a0_1 x383000_1 t385 t386 t387 (-1)))) else (tenancyref15_GetIA.j1 kj1 x5_1 x6_1 a0_0 a0_1 x383000_1 t385 0 0 (-1)))) else (some (0, 0, 0, 0, ([] : List (S76)), 0, 3))) = some (r1, r2, r3, r4, r5, r6, r7) := H
      have A26 := Aside0.mk A260
      clear A260
      by_cases c27 : t384 = true
      · subst c27
        have H1 : ((tenancyref15_word.f kj1 t383 0).bind fun t385 => (if x5_1 = 12 then ((tenancyref15_word.f kj1 t383 4).bind fun t386 => ((tenancyref15_word.f kj1 t383 8).bind fun t387 => (tenancyref15_GetIA.j1 kj1 x5_1 x6_1 a0_0 a0_1 x383000_1 t385 t386 t387 (-1)))) else (tenancyref15_GetIA.j1 kj1 x5_1 x6_1 a0_0 a0_1 x383000_1 t385 0 0 (-1)))) = some (r1, r2, r3, r4, r5, r6, r7) := by rw [if_pos rfl] at H; exact H
        clear H
        have H := H1
        clear H1
        replace H := Option.bind_eq_some_iff.mp H
        obtain ⟨t385, A280, H⟩ := H
        replace H : (if x5_1 = 12 then ((tenancyref15_word.f kj1 t383 4).bind fun t386 => ((tenancyref15_word.f kj1 t383 8).bind fun t387 => (tenancyref15_GetIA.j1 kj1 x5_1 x6_1 a0_0 a0_1 x383000_1 t385 t386 t387 (-1)))) else (tenancyref15_GetIA.j1 kj1 x5_1 x6_1 a0_0 a0_1 x383000_1 t385 0 0 (-1))) = some (r1, r2, r3, r4, r5, r6, r7) := H
        have A28 := Aside0.mk A280
        clear A280
        have HC29 := Aside0.mk H
        clear H
        have hnb30 := NB380_381.out
        have hnc30 := NB381_380.out
        have hnb31 := NB380_382.out
        have hnc31 := NB382_380.out
        obtain ⟨hcz32_0, hcz32_1⟩ := XRun.bc2 BK380.out
        obtain ⟨hfz32_0, hfz32_1⟩ := XRun.bf2 BK380.out
        go_upto_if 43 with (first | ((with_reducible refine gate_callee (f := 59) rfl ?_); refine goesL_ (some 33) rfl rfl Try.func59 (by kernel_rfl) rfl #[.string a0_1, .int .i64 0, .int .i64 x5_1] rfl (by (try simp only [List.map_toArray, List.map_cons, List.map_nil]); first | rfl) ?_; (with_reducible refine (tenancyref04_Cut.calls a0_1 0 x5_1 t383 true _ A26.out).mono ?_); rintro e w' ⟨rfl, ⟨nd, rfl⟩⟩; refine ⟨_, rfl, ?_⟩; (try (rw [drewN_self wc]; generalize hq_ : World.drewN wc _ = wc; have n0_ : Aside0 (wc.heap[gb380]? = some (.cells #[.int .u16 a0_0, .string a0_1] 40 (0, 0))) := ⟨by rw [← hq_]; exact (by (with_reducible repeat (first | refine blk_drewN ?_ _)); exact BK380.out)⟩; have n1_ : Aside0 (wc.heap[gb381]? = some (.cells #[.int .i64 x382000_1, .int .u32 x382001_1, .int .u32 x382002_1, .int .u32 x382003_1, .slice none 0 0, .int .i64 x382005_1] 37 (0, 0))) := ⟨by rw [← hq_]; exact (by (with_reducible repeat (first | refine blk_drewN ?_ _)); exact BK381.out)⟩; have n2_ : Aside0 (wc.heap[gb382]? = some (.cells #[.int .i64 x383000_1, .int .u32 0, .int .u32 0, .int .u32 0, .slice none 0 0, .int .i64 (-1)] 37 (0, 0))) := ⟨by rw [← hq_]; exact (by (with_reducible repeat (first | refine blk_drewN ?_ _)); exact BK382.out)⟩; have n3_ : Aside0 (Below w.heap.size w wc) := ⟨by rw [← hq_]; exact (by repeat (first | (with_reducible first | exact HB.out | apply pw_below_drewN)))⟩; clear BK380 BK381 BK382 HB hq_; have BK380 := n0_; have BK381 := n1_; have BK382 := n2_; have HB := n3_; clear n0_ n1_ n2_ n3_))) | ((with_reducible refine gate_callee (f := 60) rfl ?_); refine goesL_ (some 40) rfl rfl Try.func60 (by kernel_rfl) rfl #[.string t383, .int .i64 0] rfl (by (try simp only [List.map_toArray, List.map_cons, List.map_nil]); first | rfl) ?_; (with_reducible refine (tenancyref15_word.calls kj1 t383 0 t385 _ A28.out).mono ?_); rintro e w' ⟨rfl, ⟨nd, rfl⟩⟩; refine ⟨_, rfl, ?_⟩; (try (rw [drewN_self wc]; generalize hq_ : World.drewN wc _ = wc; have n0_ : Aside0 (wc.heap[gb380]? = some (.cells #[.int .u16 a0_0, .string a0_1] 40 (0, 0))) := ⟨by rw [← hq_]; exact (by (with_reducible repeat (first | refine blk_drewN ?_ _)); exact BK380.out)⟩; have n1_ : Aside0 (wc.heap[gb381]? = some (.cells #[.int .i64 x382000_1, .int .u32 x382001_1, .int .u32 x382002_1, .int .u32 x382003_1, .slice none 0 0, .int .i64 x382005_1] 37 (0, 0))) := ⟨by rw [← hq_]; exact (by (with_reducible repeat (first | refine blk_drewN ?_ _)); exact BK381.out)⟩; have n2_ : Aside0 (wc.heap[gb382]? = some (.cells #[.int .i64 x383000_1, .int .u32 0, .int .u32 0, .int .u32 0, .slice none 0 0, .int .i64 (-1)] 37 (0, 0))) := ⟨by rw [← hq_]; exact (by (with_reducible repeat (first | refine blk_drewN ?_ _)); exact BK382.out)⟩; have n3_ : Aside0 (Below w.heap.size w wc) := ⟨by rw [← hq_]; exact (by repeat (first | (with_reducible first | exact HB.out | apply pw_below_drewN)))⟩; clear BK380 BK381 BK382 HB hq_; have BK380 := n0_; have BK381 := n1_; have BK382 := n2_; have HB := n3_; clear n0_ n1_ n2_ n3_)); have hnb33 := NB382_381.out; have hnc33 := NB381_382.out; obtain ⟨hcz34_0, hcz34_1, hcz34_2, hcz34_3, hcz34_4, hcz34_5⟩ := XRun.bc6 BK382.out; obtain ⟨hfz34_0, hfz34_1, hfz34_2, hfz34_3, hfz34_4, hfz34_5⟩ := XRun.bf6 BK382.out))
        (try simp only [Act.put, List.setIfInBounds_toArray, List.set_cons_zero, List.set_cons_succ])
        go_cut [] (fun wc => ∃ (kq : Nat) (x383002_28 : Int) (x383003_28 : Int), Aside0 (tenancyref15_GetIA.j1 kq x5_1 x6_1 a0_0 a0_1 x383000_1 t385 x383002_28 x383003_28 (-1) = some (r1, r2, r3, r4, r5, r6, r7)) ∧ Aside0 (kq ≤ kj1) ∧ Aside0 (wc.heap[gb380]? = some (.cells #[.int .u16 a0_0, .string a0_1] 40 (0, 0))) ∧ Aside0 (wc.heap[gb381]? = some (.cells #[.int .i64 x382000_1, .int .u32 x382001_1, .int .u32 x382002_1, .int .u32 x382003_1, (.slice none 0 0), .int .i64 x382005_1] 37 (0, 0))) ∧ Aside0 (wc.heap[gb382]? = some (.cells #[.int .i64 x383000_1, .int .u32 t385, .int .u32 x383002_28, .int .u32 x383003_28, (.slice none 0 0), .int .i64 (-1)] 37 (0, 0))) ∧ Aside0 (Below w.heap.size w wc))
        case first =>
          have H := HC29.out
          clear HC29
          by_cases c35 : x5_1 = 12
          · rw [if_pos c35] at H
            have c35b0 : (x5_1 == 12) = true := beq_iff_eq.mpr c35
            have c35b1 : (x5_1 != 12) = false := bne_eq_false_iff_eq.mpr c35
            clear c35
            (first | rw [c35b0])
            replace H := Option.bind_eq_some_iff.mp H
            obtain ⟨t386, A360, H⟩ := H
            replace H : ((tenancyref15_word.f kj1 t383 8).bind fun t387 => (tenancyref15_GetIA.j1 kj1 x5_1 x6_1 a0_0 a0_1 x383000_1 t385 t386 t387 (-1))) = some (r1, r2, r3, r4, r5, r6, r7) := H
            have A36 := Aside0.mk A360
            clear A360
            replace H := Option.bind_eq_some_iff.mp H
            obtain ⟨t387, A370, H⟩ := H
            replace H : (tenancyref15_GetIA.j1 kj1 x5_1 x6_1 a0_0 a0_1 x383000_1 t385 t386 t387 (-1)) = some (r1, r2, r3, r4, r5, r6, r7) := H
            have A37 := Aside0.mk A370
            clear A370
            have H' := Aside0.mk H
            clear H
            go_wp2_with (first | ((with_reducible refine gate_callee (f := 60) rfl ?_); refine goesL_ (some 45) rfl rfl Try.func60 (by kernel_rfl) rfl #[.string t383, .int .i64 4] rfl (by (try simp only [List.map_toArray, List.map_cons, List.map_nil]); first | rfl) ?_; (with_reducible refine (tenancyref15_word.calls kj1 t383 4 t386 _ A36.out).mono ?_); rintro e w' ⟨rfl, ⟨nd, rfl⟩⟩; refine ⟨_, rfl, ?_⟩; have hnb38 := NB382_380.out; have hnc38 := NB380_382.out; have hnb39 := NB382_381.out; have hnc39 := NB381_382.out; obtain ⟨hcz40_0, hcz40_1, hcz40_2, hcz40_3, hcz40_4, hcz40_5⟩ := XRun.bc6 BK382.out; obtain ⟨hfz40_0, hfz40_1, hfz40_2, hfz40_3, hfz40_4, hfz40_5⟩ := XRun.bf6 BK382.out) | ((with_reducible refine gate_callee (f := 60) rfl ?_); refine goesL_ (some 48) rfl rfl Try.func60 (by kernel_rfl) rfl #[.string t383, .int .i64 8] rfl (by (try simp only [List.map_toArray, List.map_cons, List.map_nil]); first | rfl) ?_; (with_reducible refine (tenancyref15_word.calls kj1 t383 8 t387 _ A37.out).mono ?_); rintro e w' ⟨rfl, ⟨nd, rfl⟩⟩; refine ⟨_, rfl, ?_⟩))
            go_meet
            case rel => exact ⟨_, (t386), (t387), H', ⟨by have := HJ1.out; first | omega⟩, ⟨by refine blk_far ?_ NB380_382.out _; (with_reducible repeat (first | refine blk_drewN ?_ _)); refine blk_far ?_ NB380_382.out _; (with_reducible repeat (first | refine blk_drewN ?_ _)); refine blk_far ?_ NB380_382.out _; exact BK380.out⟩, ⟨by refine blk_far ?_ NB381_382.out _; (with_reducible repeat (first | refine blk_drewN ?_ _)); refine blk_far ?_ NB381_382.out _; (with_reducible repeat (first | refine blk_drewN ?_ _)); refine blk_far ?_ NB381_382.out _; exact BK381.out⟩, ⟨by refine blk_put (cs := #[.int .i64 x383000_1, .int .u32 t385, .int .u32 t386, .int .u32 0, .slice none 0 0, .int .i64 (-1)]) ?_ 3 _ rfl; (with_reducible repeat (first | refine blk_drewN ?_ _)); refine blk_put (cs := #[.int .i64 x383000_1, .int .u32 t385, .int .u32 0, .int .u32 0, .slice none 0 0, .int .i64 (-1)]) ?_ 2 _ rfl; (with_reducible repeat (first | refine blk_drewN ?_ _)); refine blk_put (cs := #[.int .i64 x383000_1, .int .u32 0, .int .u32 0, .int .u32 0, .slice none 0 0, .int .i64 (-1)]) ?_ 1 _ rfl; exact BK382.out⟩, ⟨by repeat (first | (with_reducible first | exact HB.out | apply pw_below_drewN | refine below_set ?_ GE382.out))⟩⟩
          · rw [if_neg c35] at H
            have c35b0 : (x5_1 == 12) = false := beq_eq_false_iff_ne.mpr c35
            have c35b1 : (x5_1 != 12) = true := bne_iff_ne.mpr c35
            (first | rw [c35b0])
            have H' := Aside0.mk H
            clear H
            go_wp2
            go_meet
            case rel => exact ⟨_, (0), (0), H', ⟨by have := HJ1.out; first | omega⟩, ⟨by refine blk_far ?_ NB380_382.out _; exact BK380.out⟩, ⟨by refine blk_far ?_ NB381_382.out _; exact BK381.out⟩, ⟨by refine blk_put (cs := #[.int .i64 x383000_1, .int .u32 0, .int .u32 0, .int .u32 0, .slice none 0 0, .int .i64 (-1)]) ?_ 1 _ rfl; exact BK382.out⟩, ⟨by repeat (first | (with_reducible first | exact HB.out | refine below_set ?_ GE382.out))⟩⟩
        case rest =>
          clear HC29
          try clear c1
          try clear c2
          try clear p2
          try clear c3
          try clear c5
          try clear c6
          try clear c7
          try clear c9
          try clear c11
          try clear c11b0
          try clear c11b1
          try clear c12
          try clear c13
          try clear c15
          try clear c15b0
          try clear c15b1
          try clear c16
          try clear c17
          try clear c19
          try clear c19b0
          try clear c19b1
          try clear c20
          try clear c21
          try clear c23
          try clear c24
          try clear c27
          try clear c30
          try clear c31
          try clear c33
          try clear c35
          try clear c35b0
          try clear c35b1
          try clear c38
          try clear c39
          try clear hcz10_0
          try clear hcz10_1
          try clear hcz14_0
          try clear hcz14_1
          try clear hcz14_2
          try clear hcz14_3
          try clear hcz14_4
          try clear hcz14_5
          try clear hcz18_0
          try clear hcz18_1
          try clear hcz18_2
          try clear hcz18_3
          try clear hcz18_4
          try clear hcz18_5
          try clear hcz22_0
          try clear hcz22_1
          try clear hcz22_2
          try clear hcz22_3
          try clear hcz22_4
          try clear hcz22_5
          try clear hcz25_0
          try clear hcz25_1
          try clear hcz25_2
          try clear hcz25_3
          try clear hcz25_4
          try clear hcz25_5
          try clear hcz32_0
          try clear hcz32_1
          try clear hcz34_0
          try clear hcz34_1
          try clear hcz34_2
          try clear hcz34_3
          try clear hcz34_4
          try clear hcz34_5
          try clear hcz40_0
          try clear hcz40_1
          try clear hcz40_2
          try clear hcz40_3
          try clear hcz40_4
          try clear hcz40_5
          try clear hcz8_0
          try clear hcz8_1
          try clear hcz8_2
          try clear hcz8_3
          try clear hcz8_4
          try clear hcz8_5
          try clear hfz10_0
          try clear hfz10_1
          try clear hfz14_0
          try clear hfz14_1
          try clear hfz14_2
          try clear hfz14_3
          try clear hfz14_4
          try clear hfz14_5
          try clear hfz18_0
          try clear hfz18_1
          try clear hfz18_2
          try clear hfz18_3
          try clear hfz18_4
          try clear hfz18_5
          try clear hfz22_0
          try clear hfz22_1
          try clear hfz22_2
          try clear hfz22_3
          try clear hfz22_4
          try clear hfz22_5
          try clear hfz25_0
          try clear hfz25_1
          try clear hfz25_2
          try clear hfz25_3
          try clear hfz25_4
          try clear hfz25_5
          try clear hfz32_0
          try clear hfz32_1
          try clear hfz34_0
          try clear hfz34_1
          try clear hfz34_2
          try clear hfz34_3
          try clear hfz34_4
          try clear hfz34_5
          try clear hfz40_0
          try clear hfz40_1
          try clear hfz40_2
          try clear hfz40_3
          try clear hfz40_4
          try clear hfz40_5
          try clear hfz8_0
          try clear hfz8_1
          try clear hfz8_2
          try clear hfz8_3
          try clear hfz8_4
          try clear hfz8_5
          try clear p2
          obtain ⟨kq, x383002_28, x383003_28, HA, HJ28, BK380, BK381, BK382, HB⟩ := hcut
          cases kq with
          | zero => exact absurd HA.out (by simp [tenancyref15_GetIA.j1])
          | succ kj28 =>
            have H := HA.out
            clear HA
            simp only [tenancyref15_GetIA.j1] at H
            by_cases c41 : 0 ≤ x5_1
            · rw [if_pos c41] at H
              have c41b0 := eq_true c41
              have c41b1 : decide (0 ≤ x5_1) = true := decide_eq_true c41
              clear c41
              by_cases c42 : x5_1 ≤ (a0_1.size : Int)
              · rw [if_pos c42] at H
                have c42b0 := eq_true c42
                have c42b1 : decide (x5_1 ≤ (a0_1.size : Int)) = true := decide_eq_true c42
                clear c42
                replace H := Option.bind_eq_some_iff.mp H
                obtain ⟨⟨t388, t389⟩, A430, H⟩ := H
                replace H : (if t389 = 0 then (tenancyref15_GetIA.l0 kj28 x6_1 t388 0 x383000_1 t385 x383002_28 x383003_28 ([] : List (S76)) (-1)) else (some (0, 0, 0, 0, ([] : List (S76)), 0, t389))) = some (r1, r2, r3, r4, r5, r6, r7) := H
                have A43 := Aside0.mk A430
                clear A430
                by_cases c44 : t389 = 0
                · rw [if_pos c44] at H
                  have c44b0 : (t389 == 0) = true := beq_iff_eq.mpr c44
                  have c44b1 : (t389 != 0) = false := bne_eq_false_iff_eq.mpr c44
                  clear c44
                  have H' := Aside0.mk H
                  clear H
                  have hnb45 := NB380_381.out
                  have hnc45 := NB381_380.out
                  have hnb46 := NB380_382.out
                  have hnc46 := NB382_380.out
                  obtain ⟨hcz47_0, hcz47_1⟩ := XRun.bc2 BK380.out
                  obtain ⟨hfz47_0, hfz47_1⟩ := XRun.bf2 BK380.out
                  go_wp2_with (first | ((with_reducible refine gate_callee (f := 11) rfl ?_); refine goesL_ (some 55) rfl rfl Try.func11 (by kernel_rfl) rfl #[.string (a0_1.extract (x5_1 : Int).toNat a0_1.size)] rfl (by (try simp only [List.map_toArray, List.map_cons, List.map_nil]); first | rfl) ?_; (with_reducible refine (tenancyref15_Parse.calls kj28 (a0_1.extract (x5_1 : Int).toNat a0_1.size) t388 t389 _ A43.out).mono ?_); rintro e w48 ⟨v390, rfl, ho0, hb⟩; refine ⟨_, rfl, ?_⟩; have n0_ := Aside0.mk (Kd.R_lower (Kd.R_newB ho0 (g := gb380) (o := .cells #[.int .u16 a0_0, .string a0_1] 40 (0, 0)) BK380.out) (below_size HB.out)); have n1_ := Aside0.mk (blk_below (g := gb380) (o := .cells #[.int .u16 a0_0, .string a0_1] 40 (0, 0)) BK380.out hb); have n2_ := Aside0.mk (blk_below (g := gb381) (o := .cells #[.int .i64 x382000_1, .int .u32 x382001_1, .int .u32 x382002_1, .int .u32 x382003_1, .slice none 0 0, .int .i64 x382005_1] 37 (0, 0)) BK381.out hb); have n3_ := Aside0.mk (blk_below (g := gb382) (o := .cells #[.int .i64 x383000_1, .int .u32 t385, .int .u32 x383002_28, .int .u32 x383003_28, .slice none 0 0, .int .i64 (-1)] 37 (0, 0)) BK382.out hb); have n4_ := Aside0.mk (below_step HB.out hb); clear BK380; clear BK381; clear BK382; clear HB; have HO391 := n0_; have BK380 := n1_; have BK381 := n2_; have BK382 := n3_; have HB := n4_; clear n0_ n1_ n2_ n3_ n4_; (try clear hb); (try clear hb2); (try clear hk); (try clear hi); (try clear ho0)))
                  go_loopg [11] kj28 (fun kq v11 w' => ∃ (x11_3 : Int) (x382000_3 : Int) (x382001_3 : Int) (x382002_3 : Int) (x382003_3 : Int) (x382005_3 : Int) (x383004_3 : List (S76)) (x383005_3 : Int) (u383004 : Value), v11 = .int .i64 x11_3 ∧ Aside0 (tenancyref15_GetIA.l0 kq x6_1 t388 x11_3 x383000_1 t385 x383002_28 x383003_28 x383004_3 x383005_3 = some (r1, r2, r3, r4, r5, r6, r7)) ∧ Aside0 (kq ≤ kj28) ∧ Aside0 (Kd.R k40 40 w' w.heap.size (fun k_ => k_ ≠ gb380) v390 t388) ∧ Aside0 (Kd.R k76 76 w' w.heap.size (fun _ => True) u383004 x383004_3) ∧ Aside0 (w'.heap[gb380]? = some (.cells #[.int .u16 a0_0, .string a0_1] 40 (0, 0))) ∧ Aside0 (w'.heap[gb381]? = some (.cells #[.int .i64 x382000_3, .int .u32 x382001_3, .int .u32 x382002_3, .int .u32 x382003_3, (.slice none 0 0), .int .i64 x382005_3] 37 (0, 0))) ∧ Aside0 (w'.heap[gb382]? = some (.cells #[.int .i64 x383000_1, .int .u32 t385, .int .u32 x383002_28, .int .u32 x383003_28, u383004, .int .i64 x383005_3] 37 (0, 0))) ∧ Aside0 (Below w.heap.size w w'))
                  case atStart => exact ⟨(0), (x382000_1), (x382001_1), (x382002_1), (x382003_1), (x382005_1), (([] : List (S76))), ((-1)), (.slice none 0 0), (by rfl), H', ⟨Nat.le_refl _⟩, ⟨by exact Kd.R_mono HO391.out (fun _ hk => hk.2)⟩, ⟨by first | exact Kd.R_nil _ _ _ _ _⟩, ⟨by exact BK380.out⟩, ⟨by exact BK381.out⟩, ⟨by exact BK382.out⟩, ⟨by exact HB.out⟩⟩
                  case round =>
                    clear H'
                    try clear c1
                    try clear c2
                    try clear p2
                    try clear c3
                    try clear c4
                    try clear c5
                    try clear c6
                    try clear c7
                    try clear c9
                    try clear c11
                    try clear c11b0
                    try clear c11b1
                    try clear c12
                    try clear c13
                    try clear c15
                    try clear c15b0
                    try clear c15b1
                    try clear c16
                    try clear c17
                    try clear c19
                    try clear c19b0
                    try clear c19b1
                    try clear c20
                    try clear c21
                    try clear c23
                    try clear c24
                    try clear c27
                    try clear c30
                    try clear c31
                    try clear c33
                    try clear c35
                    try clear c35b0
                    try clear c35b1
                    try clear c38
                    try clear c39
                    try clear c41
                    try clear c41b0
                    try clear c41b1
                    try clear c42
                    try clear c42b0
                    try clear c42b1
                    try clear c44
                    try clear c44b0
                    try clear c44b1
                    try clear c45
                    try clear c46
                    try clear hcz10_0
                    try clear hcz10_1
                    try clear hcz14_0
                    try clear hcz14_1
                    try clear hcz14_2
                    try clear hcz14_3
                    try clear hcz14_4
                    try clear hcz14_5
                    try clear hcz18_0
                    try clear hcz18_1
                    try clear hcz18_2
                    try clear hcz18_3
                    try clear hcz18_4
                    try clear hcz18_5
                    try clear hcz22_0
                    try clear hcz22_1
                    try clear hcz22_2
                    try clear hcz22_3
                    try clear hcz22_4
                    try clear hcz22_5
                    try clear hcz25_0
                    try clear hcz25_1
                    try clear hcz25_2
                    try clear hcz25_3
                    try clear hcz25_4
                    try clear hcz25_5
                    try clear hcz32_0
                    try clear hcz32_1
                    try clear hcz34_0
                    try clear hcz34_1
                    try clear hcz34_2
                    try clear hcz34_3
                    try clear hcz34_4
                    try clear hcz34_5
                    try clear hcz40_0
                    try clear hcz40_1
                    try clear hcz40_2
                    try clear hcz40_3
                    try clear hcz40_4
                    try clear hcz40_5
                    try clear hcz47_0
                    try clear hcz47_1
                    try clear hcz8_0
                    try clear hcz8_1
                    try clear hcz8_2
                    try clear hcz8_3
                    try clear hcz8_4
                    try clear hcz8_5
                    try clear hfz10_0
                    try clear hfz10_1
                    try clear hfz14_0
                    try clear hfz14_1
                    try clear hfz14_2
                    try clear hfz14_3
                    try clear hfz14_4
                    try clear hfz14_5
                    try clear hfz18_0
                    try clear hfz18_1
                    try clear hfz18_2
                    try clear hfz18_3
                    try clear hfz18_4
                    try clear hfz18_5
                    try clear hfz22_0
                    try clear hfz22_1
                    try clear hfz22_2
                    try clear hfz22_3
                    try clear hfz22_4
                    try clear hfz22_5
                    try clear hfz25_0
                    try clear hfz25_1
                    try clear hfz25_2
                    try clear hfz25_3
                    try clear hfz25_4
                    try clear hfz25_5
                    try clear hfz32_0
                    try clear hfz32_1
                    try clear hfz34_0
                    try clear hfz34_1
                    try clear hfz34_2
                    try clear hfz34_3
                    try clear hfz34_4
                    try clear hfz34_5
                    try clear hfz40_0
                    try clear hfz40_1
                    try clear hfz40_2
                    try clear hfz40_3
                    try clear hfz40_4
                    try clear hfz40_5
                    try clear hfz47_0
                    try clear hfz47_1
                    try clear hfz8_0
                    try clear hfz8_1
                    try clear hfz8_2
                    try clear hfz8_3
                    try clear hfz8_4
                    try clear hfz8_5
                    try clear p2
                    obtain ⟨x11_3, x382000_3, x382001_3, x382002_3, x382003_3, x382005_3, x383004_3, x383005_3, u383004, rfl, HA, HK3, HO_9, HO_383004, BK380, BK381, BK382, HB⟩ := hrel
                    cases gk with
                    | zero => exact absurd HA.out (by simp [tenancyref15_GetIA.l0])
                    | succ k3 =>
                      have H := HA.out
                      clear HA
                      simp only [tenancyref15_GetIA.l0] at H
                      by_cases c49 : x11_3 < (t388.length : Int)
                      · rw [if_pos c49] at H
                        have c49b0 : decide (x11_3 < (t388.length : Int)) = true := decide_eq_true c49
                        clear c49
                        by_cases c50 : 0 ≤ x11_3
                        · rw [if_pos c50] at H
                          have c50b0 : decide (0 ≤ x11_3) = true := decide_eq_true c50
                          clear c50
                          have HC51 := Aside0.mk H
                          clear H
                          obtain ⟨Ao52, co52, eo52⟩ := Kd.R_slice HO_9.out
                          subst eo52
                          have p392 : 0 ≤ (x11_3 : Int) := of_decide_eq_true (by first | (with_reducible assumption))
                          have q392 : x11_3 < (t388.length : Int) := of_decide_eq_true (by first | (with_reducible assumption))
                          obtain ⟨ad392, e392, hx392_0, hx392_1⟩ := at_T40 (Kd.R_reads' HO_9.out).2.2 x11_3 p392 q392
                          cases e392
                          replace p392 := eq_true p392
                          replace q392 := eq_true q392
                          go_upto_if 73 with (fail)
                          go_cut [] (fun wc => ∃ (kq : Nat) (x382000_50 : Int) (x382001_50 : Int) (x382002_50 : Int) (x382003_50 : Int) (x382005_50 : Int) (x383005_50 : Int), Aside0 (tenancyref15_GetIA.j3 kq x6_1 t388 x11_3 x383000_1 t385 x383002_28 x383003_28 x383004_3 x383005_50 = some (r1, r2, r3, r4, r5, r6, r7)) ∧ Aside0 (kq ≤ k3) ∧ Aside0 (Kd.R k40 40 wc w.heap.size (fun k_ => k_ ≠ gb380) (.slice (some ad392) t388.length co52) t388) ∧ Aside0 (Kd.R k76 76 wc w.heap.size (fun _ => True) u383004 x383004_3) ∧ Aside0 (wc.heap[gb380]? = some (.cells #[.int .u16 a0_0, .string a0_1] 40 (0, 0))) ∧ Aside0 (wc.heap[gb381]? = some (.cells #[.int .i64 x382000_50, .int .u32 x382001_50, .int .u32 x382002_50, .int .u32 x382003_50, (.slice none 0 0), .int .i64 x382005_50] 37 (0, 0))) ∧ Aside0 (wc.heap[gb382]? = some (.cells #[.int .i64 x383000_1, .int .u32 t385, .int .u32 x383002_28, .int .u32 x383003_28, u383004, .int .i64 x383005_50] 37 (0, 0))) ∧ Aside0 (Below w.heap.size w wc))
                          case first =>
                            have H := HC51.out
                            clear HC51
                            by_cases c53 : ((rd_T40 t388 x11_3).f0) = 13
                            · rw [if_pos c53] at H
                              have c53b0 : (((rd_T40 t388 x11_3).f0) == 13) = true := beq_iff_eq.mpr c53
                              have c53b1 : (((rd_T40 t388 x11_3).f0) != 13) = false := bne_eq_false_iff_eq.mpr c53
                              clear c53
                              (first | rw [c53b0])
                              replace H := Option.bind_eq_some_iff.mp H
                              obtain ⟨⟨t394, t395⟩, A540, H⟩ := H
                              replace H : (if t395 = true then (if x383005_3 < 0 then (tenancyref15_GetIA.j3 k3 x6_1 t388 x11_3 x383000_1 t385 x383002_28 x383003_28 x383004_3 t394) else (tenancyref15_GetIA.j3 k3 x6_1 t388 x11_3 x383000_1 t385 x383002_28 x383003_28 x383004_3 x383005_3)) else (some (0, 0, 0, 0, ([] : List (S76)), 0, 130))) = some (r1, r2, r3, r4, r5, r6, r7) := H
                              have A54 := Aside0.mk A540
                              clear A540
                              by_cases c55 : t395 = true
                              · subst c55
                                have H1 : (if x383005_3 < 0 then (tenancyref15_GetIA.j3 k3 x6_1 t388 x11_3 x383000_1 t385 x383002_28 x383003_28 x383004_3 t394) else (tenancyref15_GetIA.j3 k3 x6_1 t388 x11_3 x383000_1 t385 x383002_28 x383003_28 x383004_3 x383005_3)) = some (r1, r2, r3, r4, r5, r6, r7) := by rw [if_pos rfl] at H; exact H
                                clear H
                                have H := H1
                                clear H1
                                by_cases c56 : x383005_3 < 0
                                · rw [if_pos c56] at H
                                  have c56b0 : decide (x383005_3 < 0) = true := decide_eq_true c56
                                  clear c56
                                  have H' := Aside0.mk H
                                  clear H
                                  have p393 : 0 ≤ (x11_3 : Int) := of_decide_eq_true (by first | (with_reducible assumption))
                                  have q393 : x11_3 < (t388.length : Int) := of_decide_eq_true (by first | (with_reducible assumption))
                                  obtain ⟨ad393, e393, hx393_0, hx393_1⟩ := at_T40 (Kd.R_reads' HO_9.out).2.2 x11_3 p393 q393
                                  obtain rfl : ad392 = ad393 := (by injection e393)
                                  replace p393 := eq_true p393
                                  replace q393 := eq_true q393
                                  go_wp2_with (first | ((with_reducible refine gate_callee (f := 16) rfl ?_); refine goesL_ (some 80) rfl rfl Try.func16 (by kernel_rfl) rfl #[.string ((rd_T40 t388 x11_3).f1)] rfl (by (try simp only [List.map_toArray, List.map_cons, List.map_nil]); first | rfl) ?_; (with_reducible refine (tenancyref15_GetStatus.calls k3 ((rd_T40 t388 x11_3).f1) t394 true _ A54.out).mono ?_); rintro e w' ⟨rfl, ⟨nd, rfl⟩⟩; refine ⟨_, rfl, ?_⟩; (try (rw [drewN_self wr]; generalize hq_ : World.drewN wr _ = wr; have n0_ : Aside0 (Kd.R k76 76 wr w.heap.size (fun _ => True) u383004 x383004_3) := ⟨by rw [← hq_]; exact (by (with_reducible repeat (first | apply Kd.R_drewN)); exact HO_383004.out)⟩; have n1_ : Aside0 (Kd.R k40 40 wr w.heap.size (fun k_ => k_ ≠ gb380) (.slice (some ad392) t388.length co52) t388) := ⟨by rw [← hq_]; exact (by (with_reducible repeat (first | apply Kd.R_drewN)); exact HO_9.out)⟩; have n2_ : Aside0 (wr.heap[gb380]? = some (.cells #[.int .u16 a0_0, .string a0_1] 40 (0, 0))) := ⟨by rw [← hq_]; exact (by (with_reducible repeat (first | refine blk_drewN ?_ _)); exact BK380.out)⟩; have n3_ : Aside0 (wr.heap[gb381]? = some (.cells #[.int .i64 x382000_3, .int .u32 x382001_3, .int .u32 x382002_3, .int .u32 x382003_3, .slice none 0 0, .int .i64 x382005_3] 37 (0, 0))) := ⟨by rw [← hq_]; exact (by (with_reducible repeat (first | refine blk_drewN ?_ _)); exact BK381.out)⟩; have n4_ : Aside0 (wr.heap[gb382]? = some (.cells #[.int .i64 x383000_1, .int .u32 t385, .int .u32 x383002_28, .int .u32 x383003_28, u383004, .int .i64 x383005_3] 37 (0, 0))) := ⟨by rw [← hq_]; exact (by (with_reducible repeat (first | refine blk_drewN ?_ _)); exact BK382.out)⟩; have n5_ : Aside0 (Below w.heap.size w wr) := ⟨by rw [← hq_]; exact (by repeat (first | (with_reducible first | exact HB.out | apply pw_below_drewN)))⟩; clear HO_383004 HO_9 BK380 BK381 BK382 HB hq_; have HO_383004 := n0_; have HO_9 := n1_; have BK380 := n2_; have BK381 := n3_; have BK382 := n4_; have HB := n5_; clear n0_ n1_ n2_ n3_ n4_ n5_)); have hnb57 := NB382_380.out; have hnc57 := NB380_382.out; have hnb58 := NB382_381.out; have hnc58 := NB381_382.out; obtain ⟨hcz59_0, hcz59_1, hcz59_2, hcz59_3, hcz59_4, hcz59_5⟩ := XRun.bc6 BK382.out; obtain ⟨hfz59_0, hfz59_1, hfz59_2, hfz59_3, hfz59_4, hfz59_5⟩ := XRun.bf6 BK382.out))
                                  go_meet
                                  case rel => exact ⟨_, (x382000_3), (x382001_3), (x382002_3), (x382003_3), (x382005_3), (t394), H', ⟨by have := HJ1.out; have := HJ28.out; have := HK3.out; first | omega⟩, ⟨by exact Kd.R_mono (Kd.R_far (p := ⟨gb382, 5, none⟩) (Kd.R_types HO_9.out BK382.out (by decide)) (fun _ hk => hk.2) (.int .i64 t394)) (fun _ hk => hk.1)⟩, ⟨by exact Kd.R_mono (Kd.R_far (p := ⟨gb382, 5, none⟩) (Kd.R_types HO_383004.out BK382.out (by decide)) (fun _ hk => hk.2) (.int .i64 t394)) (fun _ hk => trivial)⟩, ⟨by refine blk_far ?_ NB380_382.out _; exact BK380.out⟩, ⟨by refine blk_far ?_ NB381_382.out _; exact BK381.out⟩, ⟨by refine blk_put (cs := #[.int .i64 x383000_1, .int .u32 t385, .int .u32 x383002_28, .int .u32 x383003_28, u383004, .int .i64 x383005_3]) ?_ 5 _ rfl; exact BK382.out⟩, ⟨by repeat (first | (with_reducible first | exact HB.out | refine below_set ?_ GE382.out))⟩⟩
                                · rw [if_neg c56] at H
                                  have c56b0 : decide (x383005_3 < 0) = false := decide_eq_false c56
                                  clear c56
                                  have H' := Aside0.mk H
                                  clear H
                                  have p393 : 0 ≤ (x11_3 : Int) := of_decide_eq_true (by first | (with_reducible assumption))
                                  have q393 : x11_3 < (t388.length : Int) := of_decide_eq_true (by first | (with_reducible assumption))
                                  obtain ⟨ad393, e393, hx393_0, hx393_1⟩ := at_T40 (Kd.R_reads' HO_9.out).2.2 x11_3 p393 q393
                                  obtain rfl : ad392 = ad393 := (by injection e393)
                                  replace p393 := eq_true p393
                                  replace q393 := eq_true q393
                                  go_wp2_with (first | ((with_reducible refine gate_callee (f := 16) rfl ?_); refine goesL_ (some 80) rfl rfl Try.func16 (by kernel_rfl) rfl #[.string ((rd_T40 t388 x11_3).f1)] rfl (by (try simp only [List.map_toArray, List.map_cons, List.map_nil]); first | rfl) ?_; (with_reducible refine (tenancyref15_GetStatus.calls k3 ((rd_T40 t388 x11_3).f1) t394 true _ A54.out).mono ?_); rintro e w' ⟨rfl, ⟨nd, rfl⟩⟩; refine ⟨_, rfl, ?_⟩; have hnb60 := NB382_380.out; have hnc60 := NB380_382.out; have hnb61 := NB382_381.out; have hnc61 := NB381_382.out; obtain ⟨hcz62_0, hcz62_1, hcz62_2, hcz62_3, hcz62_4, hcz62_5⟩ := XRun.bc6 BK382.out; obtain ⟨hfz62_0, hfz62_1, hfz62_2, hfz62_3, hfz62_4, hfz62_5⟩ := XRun.bf6 BK382.out))
                                  go_meet
                                  case rel => exact ⟨_, (x382000_3), (x382001_3), (x382002_3), (x382003_3), (x382005_3), (x383005_3), H', ⟨by have := HJ1.out; have := HJ28.out; have := HK3.out; first | omega⟩, ⟨by (with_reducible repeat (first | apply Kd.R_drewN)); exact HO_9.out⟩, ⟨by (with_reducible repeat (first | apply Kd.R_drewN)); exact HO_383004.out⟩, ⟨by (with_reducible repeat (first | refine blk_drewN ?_ _)); exact BK380.out⟩, ⟨by (with_reducible repeat (first | refine blk_drewN ?_ _)); exact BK381.out⟩, ⟨by (with_reducible repeat (first | refine blk_drewN ?_ _)); exact BK382.out⟩, ⟨by repeat (first | (with_reducible first | exact HB.out | apply pw_below_drewN))⟩⟩
                              · replace c55 := Bool.eq_false_iff.mpr c55
                                subst c55
                                have H1 : (some (0, 0, 0, 0, ([] : List (S76)), 0, 130)) = some (r1, r2, r3, r4, r5, r6, r7) := by rw [if_neg (show ¬ (false = true) by decide)] at H; exact H
                                clear H
                                have H := H1
                                clear H1
                                simp only [Option.some.injEq, Prod.mk.injEq] at H
                                obtain ⟨rfl, rfl, rfl, rfl, rfl, rfl, rfl⟩ := H
                                have p393 : 0 ≤ (x11_3 : Int) := of_decide_eq_true (by first | (with_reducible assumption))
                                have q393 : x11_3 < (t388.length : Int) := of_decide_eq_true (by first | (with_reducible assumption))
                                obtain ⟨ad393, e393, hx393_0, hx393_1⟩ := at_T40 (Kd.R_reads' HO_9.out).2.2 x11_3 p393 q393
                                obtain rfl : ad392 = ad393 := (by injection e393)
                                replace p393 := eq_true p393
                                replace q393 := eq_true q393
                                go_wp2_with (first | ((with_reducible refine gate_callee (f := 16) rfl ?_); refine goesL_ (some 80) rfl rfl Try.func16 (by kernel_rfl) rfl #[.string ((rd_T40 t388 x11_3).f1)] rfl (by (try simp only [List.map_toArray, List.map_cons, List.map_nil]); first | rfl) ?_; (with_reducible refine (tenancyref15_GetStatus.calls k3 ((rd_T40 t388 x11_3).f1) t394 false _ A54.out).mono ?_); rintro e w' ⟨rfl, ⟨nd, rfl⟩⟩; refine ⟨_, rfl, ?_⟩; (try (rw [drewN_self wr]; generalize hq_ : World.drewN wr _ = wr; have n0_ : Aside0 (Kd.R k76 76 wr w.heap.size (fun _ => True) u383004 x383004_3) := ⟨by rw [← hq_]; exact (by (with_reducible repeat (first | apply Kd.R_drewN)); exact HO_383004.out)⟩; have n1_ : Aside0 (Kd.R k40 40 wr w.heap.size (fun k_ => k_ ≠ gb380) (.slice (some ad392) t388.length co52) t388) := ⟨by rw [← hq_]; exact (by (with_reducible repeat (first | apply Kd.R_drewN)); exact HO_9.out)⟩; have n2_ : Aside0 (wr.heap[gb380]? = some (.cells #[.int .u16 a0_0, .string a0_1] 40 (0, 0))) := ⟨by rw [← hq_]; exact (by (with_reducible repeat (first | refine blk_drewN ?_ _)); exact BK380.out)⟩; have n3_ : Aside0 (wr.heap[gb381]? = some (.cells #[.int .i64 x382000_3, .int .u32 x382001_3, .int .u32 x382002_3, .int .u32 x382003_3, .slice none 0 0, .int .i64 x382005_3] 37 (0, 0))) := ⟨by rw [← hq_]; exact (by (with_reducible repeat (first | refine blk_drewN ?_ _)); exact BK381.out)⟩; have n4_ : Aside0 (wr.heap[gb382]? = some (.cells #[.int .i64 x383000_1, .int .u32 t385, .int .u32 x383002_28, .int .u32 x383003_28, u383004, .int .i64 x383005_3] 37 (0, 0))) := ⟨by rw [← hq_]; exact (by (with_reducible repeat (first | refine blk_drewN ?_ _)); exact BK382.out)⟩; have n5_ : Aside0 (Below w.heap.size w wr) := ⟨by rw [← hq_]; exact (by repeat (first | (with_reducible first | exact HB.out | apply pw_below_drewN)))⟩; clear HO_383004 HO_9 BK380 BK381 BK382 HB hq_; have HO_383004 := n0_; have HO_9 := n1_; have BK380 := n2_; have BK381 := n3_; have BK382 := n4_; have HB := n5_; clear n0_ n1_ n2_ n3_ n4_ n5_)); have hnb63 := NB381_380.out; have hnc63 := NB380_381.out; have hnb64 := NB381_382.out; have hnc64 := NB382_381.out; obtain ⟨hcz65_0, hcz65_1, hcz65_2, hcz65_3, hcz65_4, hcz65_5⟩ := XRun.bc6 BK381.out; obtain ⟨hfz65_0, hfz65_1, hfz65_2, hfz65_3, hfz65_4, hfz65_5⟩ := XRun.bf6 BK381.out))
                                refine bodyPost_ret (results_ct rfl _ _ gb381 37 #[.int .i64 0, .int .u32 0, .int .u32 0, .int .u32 0, .slice none 0 0, .int .i64 0] (0, 0) _ rfl (by refine blk_put (cs := #[.int .i64 0, .int .u32 0, .int .u32 0, .int .u32 0, .slice none 0 0, .int .i64 x382005_3]) ?_ 5 _ rfl; refine blk_put (cs := #[.int .i64 0, .int .u32 0, .int .u32 0, .int .u32 0, .slice none 0 0, .int .i64 x382005_3]) ?_ 4 _ rfl; refine blk_put (cs := #[.int .i64 0, .int .u32 0, .int .u32 0, .int .u32 x382003_3, .slice none 0 0, .int .i64 x382005_3]) ?_ 3 _ rfl; refine blk_put (cs := #[.int .i64 0, .int .u32 0, .int .u32 x382002_3, .int .u32 x382003_3, .slice none 0 0, .int .i64 x382005_3]) ?_ 2 _ rfl; refine blk_put (cs := #[.int .i64 0, .int .u32 x382001_3, .int .u32 x382002_3, .int .u32 x382003_3, .slice none 0 0, .int .i64 x382005_3]) ?_ 1 _ rfl; refine blk_put (cs := #[.int .i64 x382000_3, .int .u32 x382001_3, .int .u32 x382002_3, .int .u32 x382003_3, .slice none 0 0, .int .i64 x382005_3]) ?_ 0 _ rfl; exact BK381.out) Try.underlying37 rfl (by kernel_rfl)) rfl ?_
                                exact ⟨_, by rfl, by first | exact Kd.R_nil _ _ _ _ _, by repeat (first | (with_reducible first | exact HB.out | refine below_set ?_ GE381.out))⟩
                            · rw [if_neg c53] at H
                              have c53b0 : (((rd_T40 t388 x11_3).f0) == 13) = false := beq_eq_false_iff_ne.mpr c53
                              have c53b1 : (((rd_T40 t388 x11_3).f0) != 13) = true := bne_iff_ne.mpr c53
                              (first | rw [c53b0])
                              have H' := Aside0.mk H
                              clear H
                              go_wp2
                              go_meet
                              case rel => exact ⟨_, (x382000_3), (x382001_3), (x382002_3), (x382003_3), (x382005_3), (x383005_3), H', ⟨by have := HJ1.out; have := HJ28.out; have := HK3.out; first | omega⟩, ⟨by exact HO_9.out⟩, ⟨by exact HO_383004.out⟩, ⟨by exact BK380.out⟩, ⟨by exact BK381.out⟩, ⟨by exact BK382.out⟩, ⟨by exact HB.out⟩⟩
                          case rest =>
                            clear HC51
                            try clear c1
                            try clear c2
                            try clear p2
                            try clear c3
                            try clear p3
                            try clear q3
                            try clear hx3
                            try clear c4
                            try clear c5
                            try clear c6
                            try clear c7
                            try clear c9
                            try clear c11
                            try clear c11b0
                            try clear c11b1
                            try clear c12
                            try clear c13
                            try clear c15
                            try clear c15b0
                            try clear c15b1
                            try clear c16
                            try clear c17
                            try clear c19
                            try clear c19b0
                            try clear c19b1
                            try clear c20
                            try clear c21
                            try clear c23
                            try clear c24
                            try clear c27
                            try clear c30
                            try clear c31
                            try clear c33
                            try clear c35
                            try clear c35b0
                            try clear c35b1
                            try clear c38
                            try clear c39
                            try clear p39
                            try clear q39
                            try clear hx39
                            try clear c41
                            try clear c41b0
                            try clear c41b1
                            try clear c42
                            try clear c42b0
                            try clear c42b1
                            try clear c44
                            try clear c44b0
                            try clear c44b1
                            try clear c45
                            try clear c46
                            try clear c49
                            try clear c49b0
                            try clear c50
                            try clear c50b0
                            try clear c53
                            try clear c53b0
                            try clear c53b1
                            try clear c55
                            try clear c56
                            try clear c56b0
                            try clear c57
                            try clear c58
                            try clear c59
                            try clear c60
                            try clear c61
                            try clear c63
                            try clear c64
                            try clear hcz10_0
                            try clear hcz10_1
                            try clear hcz14_0
                            try clear hcz14_1
                            try clear hcz14_2
                            try clear hcz14_3
                            try clear hcz14_4
                            try clear hcz14_5
                            try clear hcz18_0
                            try clear hcz18_1
                            try clear hcz18_2
                            try clear hcz18_3
                            try clear hcz18_4
                            try clear hcz18_5
                            try clear hcz22_0
                            try clear hcz22_1
                            try clear hcz22_2
                            try clear hcz22_3
                            try clear hcz22_4
                            try clear hcz22_5
                            try clear hcz25_0
                            try clear hcz25_1
                            try clear hcz25_2
                            try clear hcz25_3
                            try clear hcz25_4
                            try clear hcz25_5
                            try clear hcz32_0
                            try clear hcz32_1
                            try clear hcz34_0
                            try clear hcz34_1
                            try clear hcz34_2
                            try clear hcz34_3
                            try clear hcz34_4
                            try clear hcz34_5
                            try clear hcz40_0
                            try clear hcz40_1
                            try clear hcz40_2
                            try clear hcz40_3
                            try clear hcz40_4
                            try clear hcz40_5
                            try clear hcz47_0
                            try clear hcz47_1
                            try clear hcz59_0
                            try clear hcz59_1
                            try clear hcz59_2
                            try clear hcz59_3
                            try clear hcz59_4
                            try clear hcz59_5
                            try clear hcz62_0
                            try clear hcz62_1
                            try clear hcz62_2
                            try clear hcz62_3
                            try clear hcz62_4
                            try clear hcz62_5
                            try clear hcz65_0
                            try clear hcz65_1
                            try clear hcz65_2
                            try clear hcz65_3
                            try clear hcz65_4
                            try clear hcz65_5
                            try clear hcz8_0
                            try clear hcz8_1
                            try clear hcz8_2
                            try clear hcz8_3
                            try clear hcz8_4
                            try clear hcz8_5
                            try clear hfz10_0
                            try clear hfz10_1
                            try clear hfz14_0
                            try clear hfz14_1
                            try clear hfz14_2
                            try clear hfz14_3
                            try clear hfz14_4
                            try clear hfz14_5
                            try clear hfz18_0
                            try clear hfz18_1
                            try clear hfz18_2
                            try clear hfz18_3
                            try clear hfz18_4
                            try clear hfz18_5
                            try clear hfz22_0
                            try clear hfz22_1
                            try clear hfz22_2
                            try clear hfz22_3
                            try clear hfz22_4
                            try clear hfz22_5
                            try clear hfz25_0
                            try clear hfz25_1
                            try clear hfz25_2
                            try clear hfz25_3
                            try clear hfz25_4
                            try clear hfz25_5
                            try clear hfz32_0
                            try clear hfz32_1
                            try clear hfz34_0
                            try clear hfz34_1
                            try clear hfz34_2
                            try clear hfz34_3
                            try clear hfz34_4
                            try clear hfz34_5
                            try clear hfz40_0
                            try clear hfz40_1
                            try clear hfz40_2
                            try clear hfz40_3
                            try clear hfz40_4
                            try clear hfz40_5
                            try clear hfz47_0
                            try clear hfz47_1
                            try clear hfz59_0
                            try clear hfz59_1
                            try clear hfz59_2
                            try clear hfz59_3
                            try clear hfz59_4
                            try clear hfz59_5
                            try clear hfz62_0
                            try clear hfz62_1
                            try clear hfz62_2
                            try clear hfz62_3
                            try clear hfz62_4
                            try clear hfz62_5
                            try clear hfz65_0
                            try clear hfz65_1
                            try clear hfz65_2
                            try clear hfz65_3
                            try clear hfz65_4
                            try clear hfz65_5
                            try clear hfz8_0
                            try clear hfz8_1
                            try clear hfz8_2
                            try clear hfz8_3
                            try clear hfz8_4
                            try clear hfz8_5
                            try clear hx392_0
                            try clear hx392_1
                            try clear hx393_0
                            try clear hx393_1
                            try clear p2
                            try clear p392
                            try clear p393
                            try clear q392
                            try clear q393
                            obtain ⟨kq, x382000_50, x382001_50, x382002_50, x382003_50, x382005_50, x383005_50, HA, HJ50, HO_9, HO_383004, BK380, BK381, BK382, HB⟩ := hcut
                            cases kq with
                            | zero => exact absurd HA.out (by simp [tenancyref15_GetIA.j3])
                            | succ kj50 =>
                              have H := HA.out
                              clear HA
                              simp only [tenancyref15_GetIA.j3] at H
                              by_cases c66 : 0 ≤ x11_3
                              · rw [if_pos c66] at H
                                have c66b0 : decide (0 ≤ x11_3) = true := decide_eq_true c66
                                clear c66
                                by_cases c67 : x11_3 < (t388.length : Int)
                                · rw [if_pos c67] at H
                                  have c67b0 : decide (x11_3 < (t388.length : Int)) = true := decide_eq_true c67
                                  clear c67
                                  by_cases c68 : ((rd_T40 t388 x11_3).f0) = x6_1
                                  · rw [if_pos c68] at H
                                    have c68b0 : (((rd_T40 t388 x11_3).f0) == x6_1) = true := beq_iff_eq.mpr c68
                                    have c68b1 : (((rd_T40 t388 x11_3).f0) != x6_1) = false := bne_eq_false_iff_eq.mpr c68
                                    clear c68
                                    by_cases c69 : (x383004_3.length : Int) ≥ 8
                                    · rw [if_pos c69] at H
                                      have c69b0 : decide (8 ≤ (x383004_3.length : Int)) = true := decide_eq_true c69
                                      have c69b1 : decide (8 ≤ x383004_3.length) = true := decide_eq_true (by omega)
                                      clear c69
                                      simp only [Option.some.injEq, Prod.mk.injEq] at H
                                      obtain ⟨rfl, rfl, rfl, rfl, rfl, rfl, rfl⟩ := H
                                      have p396 : 0 ≤ (x11_3 : Int) := of_decide_eq_true (by first | (with_reducible assumption))
                                      have q396 : x11_3 < (t388.length : Int) := of_decide_eq_true (by first | (with_reducible assumption))
                                      obtain ⟨ad396, e396, hx396_0, hx396_1⟩ := at_T40 (Kd.R_reads' HO_9.out).2.2 x11_3 p396 q396
                                      obtain rfl : ad392 = ad396 := (by injection e396)
                                      replace p396 := eq_true p396
                                      replace q396 := eq_true q396
                                      have hnb70 := NB382_380.out
                                      have hnc70 := NB380_382.out
                                      have hnb71 := NB382_381.out
                                      have hnc71 := NB381_382.out
                                      obtain ⟨hcz72_0, hcz72_1, hcz72_2, hcz72_3, hcz72_4, hcz72_5⟩ := XRun.bc6 BK382.out
                                      obtain ⟨hfz72_0, hfz72_1, hfz72_2, hfz72_3, hfz72_4, hfz72_5⟩ := XRun.bf6 BK382.out
                                      obtain ⟨Ao73, co73, eo73⟩ := Kd.R_slice HO_383004.out
                                      subst eo73
                                      have hnb74 := NB381_380.out
                                      have hnc74 := NB380_381.out
                                      obtain ⟨hcz75_0, hcz75_1, hcz75_2, hcz75_3, hcz75_4, hcz75_5⟩ := XRun.bc6 BK381.out
                                      obtain ⟨hfz75_0, hfz75_1, hfz75_2, hfz75_3, hfz75_4, hfz75_5⟩ := XRun.bf6 BK381.out
                                      go_wp2
                                      refine bodyPost_ret (results_ct rfl _ _ gb381 37 #[.int .i64 0, .int .u32 0, .int .u32 0, .int .u32 0, .slice none 0 0, .int .i64 0] (0, 0) _ rfl (by refine blk_put (cs := #[.int .i64 0, .int .u32 0, .int .u32 0, .int .u32 0, .slice none 0 0, .int .i64 x382005_50]) ?_ 5 _ rfl; refine blk_put (cs := #[.int .i64 0, .int .u32 0, .int .u32 0, .int .u32 0, .slice none 0 0, .int .i64 x382005_50]) ?_ 4 _ rfl; refine blk_put (cs := #[.int .i64 0, .int .u32 0, .int .u32 0, .int .u32 x382003_50, .slice none 0 0, .int .i64 x382005_50]) ?_ 3 _ rfl; refine blk_put (cs := #[.int .i64 0, .int .u32 0, .int .u32 x382002_50, .int .u32 x382003_50, .slice none 0 0, .int .i64 x382005_50]) ?_ 2 _ rfl; refine blk_put (cs := #[.int .i64 0, .int .u32 x382001_50, .int .u32 x382002_50, .int .u32 x382003_50, .slice none 0 0, .int .i64 x382005_50]) ?_ 1 _ rfl; refine blk_put (cs := #[.int .i64 x382000_50, .int .u32 x382001_50, .int .u32 x382002_50, .int .u32 x382003_50, .slice none 0 0, .int .i64 x382005_50]) ?_ 0 _ rfl; exact BK381.out) Try.underlying37 rfl (by kernel_rfl)) rfl ?_
                                      exact ⟨_, by rfl, by first | exact Kd.R_nil _ _ _ _ _, by repeat (first | (with_reducible first | exact HB.out | refine below_set ?_ GE381.out))⟩
                                    · rw [if_neg c69] at H
                                      have c69b0 : decide (8 ≤ (x383004_3.length : Int)) = false := decide_eq_false c69
                                      have c69b1 : decide (8 ≤ x383004_3.length) = false := decide_eq_false (by omega)
                                      clear c69
                                      replace H := Option.bind_eq_some_iff.mp H
                                      obtain ⟨⟨t398, t399, t400, t401, t402, t403, t404⟩, A760, H⟩ := H
                                      replace H : (if t404 = 0 then (if x383004_3.length < 3518437208883 then (tenancyref15_GetIA.l0 kj50 x6_1 t388 (wrap64 (x11_3 + 1)) x383000_1 t385 x383002_28 x383003_28 (x383004_3 ++ [(⟨(⟨(⟨t398, t399⟩ : S72), t400⟩ : S74), t401, t402, t403⟩ : S76)]) x383005_50) else (none)) else (some (0, 0, 0, 0, ([] : List (S76)), 0, t404))) = some (r1, r2, r3, r4, r5, r6, r7) := H
                                      have A76 := Aside0.mk A760
                                      clear A760
                                      by_cases c77 : t404 = 0
                                      · rw [if_pos c77] at H
                                        have c77b0 : (t404 == 0) = true := beq_iff_eq.mpr c77
                                        have c77b1 : (t404 != 0) = false := bne_eq_false_iff_eq.mpr c77
                                        clear c77
                                        by_cases c78 : x383004_3.length < 3518437208883
                                        · rw [if_pos c78] at H
                                          have LMc78 := Aside0.mk c78
                                          clear c78
                                          obtain ⟨y406, hy406⟩ : ∃ y_ : List (S76), y_ = (x383004_3 ++ [(⟨(⟨(⟨t398, t399⟩ : S72), t400⟩ : S74), t401, t402, t403⟩ : S76)]) := ⟨_, rfl⟩
                                          replace H : (tenancyref15_GetIA.l0 kj50 x6_1 t388 (wrap64 (x11_3 + 1)) x383000_1 t385 x383002_28 x383003_28 y406 x383005_50) = some (r1, r2, r3, r4, r5, r6, r7) := by first | (rw [hy406]; with_reducible exact H)
                                          have Ny406 := Aside0.mk hy406
                                          clear hy406
                                          have H' := Aside0.mk H
                                          clear H
                                          have p396 : 0 ≤ (x11_3 : Int) := of_decide_eq_true (by first | (with_reducible assumption))
                                          have q396 : x11_3 < (t388.length : Int) := of_decide_eq_true (by first | (with_reducible assumption))
                                          obtain ⟨ad396, e396, hx396_0, hx396_1⟩ := at_T40 (Kd.R_reads' HO_9.out).2.2 x11_3 p396 q396
                                          obtain rfl : ad392 = ad396 := (by injection e396)
                                          replace p396 := eq_true p396
                                          replace q396 := eq_true q396
                                          have hnb79 := NB382_380.out
                                          have hnc79 := NB380_382.out
                                          have hnb80 := NB382_381.out
                                          have hnc80 := NB381_382.out
                                          obtain ⟨hcz81_0, hcz81_1, hcz81_2, hcz81_3, hcz81_4, hcz81_5⟩ := XRun.bc6 BK382.out
                                          obtain ⟨hfz81_0, hfz81_1, hfz81_2, hfz81_3, hfz81_4, hfz81_5⟩ := XRun.bf6 BK382.out
                                          obtain ⟨Ao82, co82, eo82⟩ := Kd.R_slice HO_383004.out
                                          subst eo82
                                          try go_wp2
                                          have n0_ := Aside0.mk (Kd.R_drew HO_9.out)
                                          have n1_ := Aside0.mk (Kd.R_drew HO_383004.out)
                                          have n2_ := Aside0.mk (blk_drew BK380.out)
                                          have n3_ := Aside0.mk (blk_drew BK381.out)
                                          have n4_ := Aside0.mk (blk_drew BK382.out)
                                          have n5_ := Aside0.mk (below_drew1 HB.out)
                                          clear HO_9
                                          clear HO_383004
                                          clear BK380
                                          clear BK381
                                          clear BK382
                                          clear HB
                                          have HO_9 := n0_
                                          have HO_383004 := n1_
                                          have BK380 := n2_
                                          have BK381 := n3_
                                          have BK382 := n4_
                                          have HB := n5_
                                          clear n0_ n1_ n2_ n3_ n4_ n5_
                                          have p397 : 0 ≤ (x11_3 : Int) := of_decide_eq_true (by first | (with_reducible assumption))
                                          have q397 : x11_3 < (t388.length : Int) := of_decide_eq_true (by first | (with_reducible assumption))
                                          obtain ⟨ad397, e397, hx397_0, hx397_1⟩ := at_T40 (Kd.R_reads' HO_9.out).2.2 x11_3 p397 q397
                                          obtain rfl : ad392 = ad397 := (by injection e397)
                                          replace p397 := eq_true p397
                                          replace q397 := eq_true q397
                                          refine start_ (n := 14) (S := fun w' => w'.cell? ⟨gb382, 0, none⟩ = some (.int .i64 x383000_1) ∧ w'.cell? ⟨gb382, 1, none⟩ = some (.int .u32 t385) ∧ w'.cell? ⟨gb382, 2, none⟩ = some (.int .u32 x383002_28) ∧ w'.cell? ⟨gb382, 3, none⟩ = some (.int .u32 x383003_28) ∧ w'.cell? ⟨gb382, 4, none⟩ = some (.slice Ao82 x383004_3.length co82) ∧ w'.cell? ⟨gb382, 5, none⟩ = some (.int .i64 x383005_50) ∧ w'.cell? (ad392.add ((x11_3).toNat * 2)) = some (.int .u16 ((rd_T40 t388 x11_3).f0)) ∧ w'.cell? ⟨(ad392.add ((x11_3).toNat * 2)).block, (ad392.add ((x11_3).toNat * 2)).off + 1, none⟩ = some (.string ((rd_T40 t388 x11_3).f1))) (ds := []) #[false, false, false, false, false, false, false, false, false, false, false, false, false, false] (by kernel_rfl) rfl rfl ⟨(blk_cell BK382.out 0).trans rfl, (blk_cell BK382.out 1).trans rfl, (blk_cell BK382.out 2).trans rfl, (blk_cell BK382.out 3).trans rfl, (blk_cell BK382.out 4).trans rfl, (blk_cell BK382.out 5).trans rfl, hx397_0, hx397_1⟩ (fun hHeld => ?_); refine with_tabW tenancyref15_GetIA.tab36 tenancyref15_GetIA.bits36 (fun HT_ HW_ => ?_)
                                          generalize wc.drew = w83 at HO_9 HO_383004 BK380 BK381 BK382 HB hx397_0 hx397_1 hHeld ⊢
                                          refine pure_ (i := 0) (N := some 104) (v := ?_) (a' := ?_) #[true, false, false, false, false, false, false, false, false, false, false, false, false, false] rfl rfl (any_of HT_.out (by kernel_rfl)) (fun _ _ _ h => h) (Or.inl ⟨by rfl, ?_⟩) ?_ ?_
                                          rotate_left
                                          · intro w'
                                            go_simp
                                            with_reducible rfl
                                          rotate_left
                                          · simp only [Act.put, List.setIfInBounds_toArray, List.set_cons_zero, List.set_cons_succ, i64_w, i32_w]
                                            rfl
                                          refine pure_ (i := 2) (N := some 106) (v := ?_) (a' := ?_) #[true, false, true, false, false, false, false, false, false, false, false, false, false, false] rfl rfl (any_of HT_.out (by kernel_rfl)) (fun _ _ _ h => h) (Or.inl ⟨by rfl, ?_⟩) ?_ ?_
                                          rotate_left
                                          · intro w'
                                            go_simp
                                            with_reducible rfl
                                          rotate_left
                                          · simp only [Act.put, List.setIfInBounds_toArray, List.set_cons_zero, List.set_cons_succ, i64_w, i32_w]
                                            rfl
                                          refine pure_ (i := 3) (N := some 107) (v := ?_) (a' := ?_) #[true, false, true, true, false, false, false, false, false, false, false, false, false, false] rfl rfl (any_of HT_.out (by kernel_rfl)) (fun _ _ _ h => h) (Or.inl ⟨by rfl, ?_⟩) ?_ ?_
                                          rotate_left
                                          · intro w'
                                            go_simp
                                            with_reducible rfl
                                          rotate_left
                                          · simp only [Act.put, List.setIfInBounds_toArray, List.set_cons_zero, List.set_cons_succ, i64_w, i32_w]
                                            rfl
                                          refine pure_ (i := 4) (N := some 108) (v := ?_) (a' := ?_) #[true, false, true, true, true, false, false, false, false, false, false, false, false, false] rfl rfl (any_of HT_.out (by kernel_rfl)) (fun _ _ _ h => h) (Or.inl ⟨by rfl, ?_⟩) ?_ ?_
                                          rotate_left
                                          · intro w'
                                            go_simp
                                            with_reducible rfl
                                          rotate_left
                                          · simp only [Act.put, List.setIfInBounds_toArray, List.set_cons_zero, List.set_cons_succ, i64_w, i32_w]
                                            rfl
                                          refine pure_ (i := 5) (N := some 109) (v := ?_) (a' := ?_) #[true, false, true, true, true, true, false, false, false, false, false, false, false, false] rfl rfl (any_of HT_.out (by kernel_rfl)) (fun _ _ _ h => h) (Or.inl ⟨by rfl, ?_⟩) ?_ ?_
                                          rotate_left
                                          · intro w'
                                            go_simp
                                            with_reducible rfl
                                          rotate_left
                                          · simp only [Act.put, List.setIfInBounds_toArray, List.set_cons_zero, List.set_cons_succ, i64_w, i32_w]
                                            rfl
                                          refine take_ (i := 1) (N := some 105) (v := ?_) (a' := ?_) #[true, true, true, true, true, true, false, false, false, false, false, false, false, false] rfl rfl (take_ofW HT_.out HW_.out (by kernel_rfl)) (fun _ _ _ h => h) (Or.inl ⟨by rfl, ?_⟩) hHeld ?_ ?_
                                          rotate_left
                                          · rintro w' ⟨s0, s1, s2, s3, s4, s5, s6, s7⟩
                                            go_simp
                                            with_reducible rfl
                                          rotate_left
                                          · simp only [Act.put, List.setIfInBounds_toArray, List.set_cons_zero, List.set_cons_succ, i64_w, i32_w]
                                            rfl
                                          refine take_ (i := 6) (N := some 110) (v := ?_) (a' := ?_) #[true, true, true, true, true, true, true, false, false, false, false, false, false, false] rfl rfl (take_ofW HT_.out HW_.out (by kernel_rfl)) (fun _ _ _ h => h) (Or.inl ⟨by rfl, ?_⟩) hHeld ?_ ?_
                                          rotate_left
                                          · rintro w' ⟨s0, s1, s2, s3, s4, s5, s6, s7⟩
                                            go_simp
                                            with_reducible rfl
                                          rotate_left
                                          · simp only [Act.put, List.setIfInBounds_toArray, List.set_cons_zero, List.set_cons_succ, i64_w, i32_w]
                                            rfl
                                          refine join_ (σ := Nat) 2 #[true, true, true, true, true, true, true, true, true, true, true, true, false, false] (fun s_ => [(111, .tuple #[.agg #[.int .u64 t398, .int .u64 t399, .int .i64 t400, .int .u32 t401, .int .u32 t402, .int .i64 t403], .int .i64 t404]), (14, .pointer (some ⟨s_, 0, none⟩)), (103, .tuple #[.agg #[.int .u64 t398, .int .u64 t399, .int .i64 t400, .int .u32 t401, .int .u32 t402, .int .i64 t403], .int .i64 t404]), (112, .agg #[.int .u64 t398, .int .u64 t399, .int .i64 t400, .int .u32 t401, .int .u32 t402, .int .i64 t403]), (113, .int .i64 t404)]) (fun s_ w' => (w'.cell? ⟨gb382, 0, none⟩ = some (.int .i64 x383000_1) ∧ w'.cell? ⟨gb382, 1, none⟩ = some (.int .u32 t385) ∧ w'.cell? ⟨gb382, 2, none⟩ = some (.int .u32 x383002_28) ∧ w'.cell? ⟨gb382, 3, none⟩ = some (.int .u32 x383003_28) ∧ w'.cell? ⟨gb382, 4, none⟩ = some (.slice Ao82 x383004_3.length co82) ∧ w'.cell? ⟨gb382, 5, none⟩ = some (.int .i64 x383005_50) ∧ w'.cell? (ad392.add ((x11_3).toNat * 2)) = some (.int .u16 ((rd_T40 t388 x11_3).f0)) ∧ w'.cell? ⟨(ad392.add ((x11_3).toNat * 2)).block, (ad392.add ((x11_3).toNat * 2)).off + 1, none⟩ = some (.string ((rd_T40 t388 x11_3).f1))) ∧ (Kd.R k76 76 w' w.heap.size (fun k_ => k_ ≠ s_) (.slice Ao82 x383004_3.length co82) x383004_3) ∧ (Kd.R k40 40 w' w.heap.size (fun k_ => k_ ≠ gb380) (.slice (some ad392) t388.length co52) t388) ∧ (w'.heap[gb380]? = some (.cells #[.int .u16 a0_0, .string a0_1] 40 (0, 0))) ∧ (w'.heap[gb381]? = some (.cells #[.int .i64 x382000_50, .int .u32 x382001_50, .int .u32 x382002_50, .int .u32 x382003_50, .slice none 0 0, .int .i64 x382005_50] 37 (0, 0))) ∧ (w'.heap[gb382]? = some (.cells #[.int .i64 x383000_1, .int .u32 t385, .int .u32 x383002_28, .int .u32 x383003_28, .slice Ao82 x383004_3.length co82, .int .i64 x383005_50] 37 (0, 0))) ∧ (w'.heap[s_]? = some (.cells #[.int .u64 0, .int .u64 0, .int .i64 0, .int .u32 0, .int .u32 0, .int .i64 0] 76 (0, 0))) ∧ (w.heap.size ≤ s_) ∧ (w.heap.size ≤ s_) ∧ (gb380 ≠ s_) ∧ (s_ ≠ gb380) ∧ (gb381 ≠ s_) ∧ (s_ ≠ gb381) ∧ (gb382 ≠ s_) ∧ (s_ ≠ gb382) ∧ (Below w.heap.size w w')) ?_ ?_
                                          rotate_left
                                          · intro hCont
                                            refine two_ (i := 7) (j := 11) (Ni := some 111) (Nj := some 14) #[true, true, true, true, true, true, true, true, false, false, false, false, false, false] #[true, true, true, true, true, true, true, false, false, false, false, true, false, false] rfl rfl rfl rfl (two_of HT_.out (by kernel_rfl)) (by decide) (by decide) (fun K hK => ?_) (fun K hK => ?_)
                                            · skip
                                              refine goes_ Try.func61 (by kernel_rfl) rfl #[.int .i64 x383000_1, .string ((rd_T40 t388 x11_3).f1)] (by rfl) rfl rfl (by (try simp only [List.map_toArray, List.map_cons, List.map_nil]); first | rfl) ?_
                                              with_reducible refine (tenancyref15_inner.calls kj50 x383000_1 ((rd_T40 t388 x11_3).f1) t398 t399 t400 t401 t402 t403 t404 _ A76.out).mono ?_
                                              rintro e w84 ⟨rfl, hb⟩
                                              have HS6_ := (hb.cell (World.block_lt_of_cell? _ _ (hHeld.2.2.2.2.2.2.1))).trans (hHeld.2.2.2.2.2.2.1)
                                              have HS7_ := (hb.cell (World.block_lt_of_cell? _ _ (hHeld.2.2.2.2.2.2.2))).trans (hHeld.2.2.2.2.2.2.2)
                                              refine ⟨_, rfl, ?_⟩
                                              have n0_ := Aside0.mk (Kd.R_below HO_9.out hb)
                                              have n1_ := Aside0.mk (Kd.R_below HO_383004.out hb)
                                              have n2_ := Aside0.mk (blk_below (g := gb380) (o := .cells #[.int .u16 a0_0, .string a0_1] 40 (0, 0)) BK380.out hb)
                                              have n3_ := Aside0.mk (blk_below (g := gb381) (o := .cells #[.int .i64 x382000_50, .int .u32 x382001_50, .int .u32 x382002_50, .int .u32 x382003_50, .slice none 0 0, .int .i64 x382005_50] 37 (0, 0)) BK381.out hb)
                                              have n4_ := Aside0.mk (blk_below (g := gb382) (o := .cells #[.int .i64 x383000_1, .int .u32 t385, .int .u32 x383002_28, .int .u32 x383003_28, .slice Ao82 x383004_3.length co82, .int .i64 x383005_50] 37 (0, 0)) BK382.out hb)
                                              have n5_ := Aside0.mk (below_step HB.out hb)
                                              clear HO_9
                                              clear HO_383004
                                              clear BK380
                                              clear BK381
                                              clear BK382
                                              clear HB
                                              have HO_9 := n0_
                                              have HO_383004 := n1_
                                              have BK380 := n2_
                                              have BK381 := n3_
                                              have BK382 := n4_
                                              have HB := n5_
                                              clear n0_ n1_ n2_ n3_ n4_ n5_
                                              (try clear hb)
                                              (try clear hb2)
                                              (try clear hk)
                                              (try clear hi)
                                              refine hK.out _ _ ⟨(blk_cell BK382.out 0).trans rfl, (blk_cell BK382.out 1).trans rfl, (blk_cell BK382.out 2).trans rfl, (blk_cell BK382.out 3).trans rfl, (blk_cell BK382.out 4).trans rfl, (blk_cell BK382.out 5).trans rfl, HS6_, HS7_⟩ (fun hHeld => ?_)
                                              clear hK K
                                              refine norm_ (a' := ?_) ?_ ?_
                                              rotate_left
                                              · show Act.put _ (some 111) _ = _
                                                simp only [Act.put, List.setIfInBounds_toArray, List.set_cons_zero, List.set_cons_succ, i64_w, i32_w]
                                                rfl
                                              refine pure_ (i := 8) (N := some 103) (v := ?_) (a' := ?_) #[true, true, true, true, true, true, true, true, true, false, false, false, false, false] rfl rfl (any_of HT_.out (by kernel_rfl)) (fun _ _ _ h => h) (Or.inl ⟨by rfl, ?_⟩) ?_ ?_
                                              rotate_left
                                              · intro w'
                                                go_simp
                                                with_reducible rfl
                                              rotate_left
                                              · simp only [Act.put, List.setIfInBounds_toArray, List.set_cons_zero, List.set_cons_succ, i64_w, i32_w]
                                                rfl
                                              refine pure_ (i := 9) (N := some 112) (v := ?_) (a' := ?_) #[true, true, true, true, true, true, true, true, true, true, false, false, false, false] rfl rfl (any_of HT_.out (by kernel_rfl)) (fun _ _ _ h => h) (Or.inl ⟨by rfl, ?_⟩) ?_ ?_
                                              rotate_left
                                              · intro w'
                                                go_simp
                                                with_reducible rfl
                                              rotate_left
                                              · simp only [Act.put, List.setIfInBounds_toArray, List.set_cons_zero, List.set_cons_succ, i64_w, i32_w]
                                                rfl
                                              refine pure_ (i := 10) (N := some 113) (v := ?_) (a' := ?_) #[true, true, true, true, true, true, true, true, true, true, true, false, false, false] rfl rfl (any_of HT_.out (by kernel_rfl)) (fun _ _ _ h => h) (Or.inl ⟨by rfl, ?_⟩) ?_ ?_
                                              rotate_left
                                              · intro w'
                                                go_simp
                                                with_reducible rfl
                                              rotate_left
                                              · simp only [Act.put, List.setIfInBounds_toArray, List.set_cons_zero, List.set_cons_succ, i64_w, i32_w]
                                                rfl
                                              refine one_ (i := 11) (N := some 14) #[true, true, true, true, true, true, true, true, true, true, true, true, false, false] rfl rfl (one_of HT_.out (by kernel_rfl)) (by decide) (fun K hK => ?_)
                                              refine box_step ?hg (N := 14) ?hd (cs := #[.int .u64 0, .int .u64 0, .int .i64 0, .int .u32 0, .int .u32 0, .int .i64 0]) (t := 76) ?hr ?_; (case hd => rfl); (case hg => rfl); (case hr => go_simp; done)
                                              intro gb405 hg w85 hbox hb
                                              have HS6_ := (hb.cell (World.block_lt_of_cell? _ _ (hHeld.2.2.2.2.2.2.1))).trans (hHeld.2.2.2.2.2.2.1)
                                              have HS7_ := (hb.cell (World.block_lt_of_cell? _ _ (hHeld.2.2.2.2.2.2.2))).trans (hHeld.2.2.2.2.2.2.2)
                                              have n0_ := Aside0.mk (Kd.R_below HO_9.out hb)
                                              have n1_ := Aside0.mk (Kd.R_below (Kd.R_elderB HO_383004.out gb405 (Nat.le_of_eq hg.symm)) hb)
                                              have n2_ := Aside0.mk (blk_below (g := gb380) (o := .cells #[.int .u16 a0_0, .string a0_1] 40 (0, 0)) BK380.out hb)
                                              have n3_ := Aside0.mk (blk_below (g := gb381) (o := .cells #[.int .i64 x382000_50, .int .u32 x382001_50, .int .u32 x382002_50, .int .u32 x382003_50, .slice none 0 0, .int .i64 x382005_50] 37 (0, 0)) BK381.out hb)
                                              have n4_ := Aside0.mk (blk_below (g := gb382) (o := .cells #[.int .i64 x383000_1, .int .u32 t385, .int .u32 x383002_28, .int .u32 x383003_28, .slice Ao82 x383004_3.length co82, .int .i64 x383005_50] 37 (0, 0)) BK382.out hb)
                                              have n5_ := Aside0.mk (below_step HB.out hb)
                                              have n6_ := Aside0.mk (hbox)
                                              have n7_ := Aside0.mk ((by rw [hg]; exact (below_size HB.out) : w.heap.size ≤ gb405))
                                              have n8_ := Aside0.mk ((by rw [hg]; exact (below_size HB.out) : w.heap.size ≤ gb405))
                                              have n9_ := Aside0.mk ((by rw [hg]; exact Nat.ne_of_lt (blk_lt (g := gb380) (o := .cells #[.int .u16 a0_0, .string a0_1] 40 (0, 0)) BK380.out) : gb380 ≠ gb405))
                                              have n10_ := Aside0.mk ((by rw [hg]; exact Nat.ne_of_gt (blk_lt (g := gb380) (o := .cells #[.int .u16 a0_0, .string a0_1] 40 (0, 0)) BK380.out) : gb405 ≠ gb380))
                                              have n11_ := Aside0.mk ((by rw [hg]; exact Nat.ne_of_lt (blk_lt (g := gb381) (o := .cells #[.int .i64 x382000_50, .int .u32 x382001_50, .int .u32 x382002_50, .int .u32 x382003_50, .slice none 0 0, .int .i64 x382005_50] 37 (0, 0)) BK381.out) : gb381 ≠ gb405))
                                              have n12_ := Aside0.mk ((by rw [hg]; exact Nat.ne_of_gt (blk_lt (g := gb381) (o := .cells #[.int .i64 x382000_50, .int .u32 x382001_50, .int .u32 x382002_50, .int .u32 x382003_50, .slice none 0 0, .int .i64 x382005_50] 37 (0, 0)) BK381.out) : gb405 ≠ gb381))
                                              have n13_ := Aside0.mk ((by rw [hg]; exact Nat.ne_of_lt (blk_lt (g := gb382) (o := .cells #[.int .i64 x383000_1, .int .u32 t385, .int .u32 x383002_28, .int .u32 x383003_28, .slice Ao82 x383004_3.length co82, .int .i64 x383005_50] 37 (0, 0)) BK382.out) : gb382 ≠ gb405))
                                              have n14_ := Aside0.mk ((by rw [hg]; exact Nat.ne_of_gt (blk_lt (g := gb382) (o := .cells #[.int .i64 x383000_1, .int .u32 t385, .int .u32 x383002_28, .int .u32 x383003_28, .slice Ao82 x383004_3.length co82, .int .i64 x383005_50] 37 (0, 0)) BK382.out) : gb405 ≠ gb382))
                                              clear HO_9
                                              clear HO_383004
                                              clear BK380
                                              clear BK381
                                              clear BK382
                                              clear HB
                                              have HO_9 := n0_
                                              have HO_383004 := n1_
                                              have BK380 := n2_
                                              have BK381 := n3_
                                              have BK382 := n4_
                                              have HB := n5_
                                              have BK405 := n6_
                                              have GW405 := n7_
                                              have GE405 := n8_
                                              have NB380_405 := n9_
                                              have NB405_380 := n10_
                                              have NB381_405 := n11_
                                              have NB405_381 := n12_
                                              have NB382_405 := n13_
                                              have NB405_382 := n14_
                                              clear n0_ n1_ n2_ n3_ n4_ n5_ n6_ n7_ n8_ n9_ n10_ n11_ n12_ n13_ n14_
                                              clear hb hbox hg
                                              refine hK.out _ _ ⟨(blk_cell BK382.out 0).trans rfl, (blk_cell BK382.out 1).trans rfl, (blk_cell BK382.out 2).trans rfl, (blk_cell BK382.out 3).trans rfl, (blk_cell BK382.out 4).trans rfl, (blk_cell BK382.out 5).trans rfl, HS6_, HS7_⟩ (fun hHeld => ?_)
                                              clear hK K
                                              refine norm_ (a' := ?_) ?_ ?_
                                              rotate_left
                                              · show Act.put _ (some 14) _ = _
                                                simp only [Act.put, List.setIfInBounds_toArray, List.set_cons_zero, List.set_cons_succ, i64_w, i32_w]
                                                rfl
                                              exact norm_ (by simp only [putAll, Act.put, List.setIfInBounds_toArray, List.set_cons_zero, List.set_cons_succ]) (hCont (gb405) _ ⟨hHeld, (by exact Kd.R_mono HO_383004.out (fun _ hk => hk.2)), HO_9.out, BK380.out, BK381.out, BK382.out, BK405.out, GW405.out, GE405.out, NB380_405.out, NB405_380.out, NB381_405.out, NB405_381.out, NB382_405.out, NB405_382.out, HB.out⟩)
                                            · skip
                                              refine box_step ?hg (N := 14) ?hd (cs := #[.int .u64 0, .int .u64 0, .int .i64 0, .int .u32 0, .int .u32 0, .int .i64 0]) (t := 76) ?hr ?_; (case hd => rfl); (case hg => rfl); (case hr => go_simp; done)
                                              intro gb405 hg w84 hbox hb
                                              have HS6_ := (hb.cell (World.block_lt_of_cell? _ _ (hHeld.2.2.2.2.2.2.1))).trans (hHeld.2.2.2.2.2.2.1)
                                              have HS7_ := (hb.cell (World.block_lt_of_cell? _ _ (hHeld.2.2.2.2.2.2.2))).trans (hHeld.2.2.2.2.2.2.2)
                                              have n0_ := Aside0.mk (Kd.R_below HO_9.out hb)
                                              have n1_ := Aside0.mk (Kd.R_below (Kd.R_elderB HO_383004.out gb405 (Nat.le_of_eq hg.symm)) hb)
                                              have n2_ := Aside0.mk (blk_below (g := gb380) (o := .cells #[.int .u16 a0_0, .string a0_1] 40 (0, 0)) BK380.out hb)
                                              have n3_ := Aside0.mk (blk_below (g := gb381) (o := .cells #[.int .i64 x382000_50, .int .u32 x382001_50, .int .u32 x382002_50, .int .u32 x382003_50, .slice none 0 0, .int .i64 x382005_50] 37 (0, 0)) BK381.out hb)
                                              have n4_ := Aside0.mk (blk_below (g := gb382) (o := .cells #[.int .i64 x383000_1, .int .u32 t385, .int .u32 x383002_28, .int .u32 x383003_28, .slice Ao82 x383004_3.length co82, .int .i64 x383005_50] 37 (0, 0)) BK382.out hb)
                                              have n5_ := Aside0.mk (below_step HB.out hb)
                                              have n6_ := Aside0.mk (hbox)
                                              have n7_ := Aside0.mk ((by rw [hg]; exact (below_size HB.out) : w.heap.size ≤ gb405))
                                              have n8_ := Aside0.mk ((by rw [hg]; exact (below_size HB.out) : w.heap.size ≤ gb405))
                                              have n9_ := Aside0.mk ((by rw [hg]; exact Nat.ne_of_lt (blk_lt (g := gb380) (o := .cells #[.int .u16 a0_0, .string a0_1] 40 (0, 0)) BK380.out) : gb380 ≠ gb405))
                                              have n10_ := Aside0.mk ((by rw [hg]; exact Nat.ne_of_gt (blk_lt (g := gb380) (o := .cells #[.int .u16 a0_0, .string a0_1] 40 (0, 0)) BK380.out) : gb405 ≠ gb380))
                                              have n11_ := Aside0.mk ((by rw [hg]; exact Nat.ne_of_lt (blk_lt (g := gb381) (o := .cells #[.int .i64 x382000_50, .int .u32 x382001_50, .int .u32 x382002_50, .int .u32 x382003_50, .slice none 0 0, .int .i64 x382005_50] 37 (0, 0)) BK381.out) : gb381 ≠ gb405))
                                              have n12_ := Aside0.mk ((by rw [hg]; exact Nat.ne_of_gt (blk_lt (g := gb381) (o := .cells #[.int .i64 x382000_50, .int .u32 x382001_50, .int .u32 x382002_50, .int .u32 x382003_50, .slice none 0 0, .int .i64 x382005_50] 37 (0, 0)) BK381.out) : gb405 ≠ gb381))
                                              have n13_ := Aside0.mk ((by rw [hg]; exact Nat.ne_of_lt (blk_lt (g := gb382) (o := .cells #[.int .i64 x383000_1, .int .u32 t385, .int .u32 x383002_28, .int .u32 x383003_28, .slice Ao82 x383004_3.length co82, .int .i64 x383005_50] 37 (0, 0)) BK382.out) : gb382 ≠ gb405))
                                              have n14_ := Aside0.mk ((by rw [hg]; exact Nat.ne_of_gt (blk_lt (g := gb382) (o := .cells #[.int .i64 x383000_1, .int .u32 t385, .int .u32 x383002_28, .int .u32 x383003_28, .slice Ao82 x383004_3.length co82, .int .i64 x383005_50] 37 (0, 0)) BK382.out) : gb405 ≠ gb382))
                                              clear HO_9
                                              clear HO_383004
                                              clear BK380
                                              clear BK381
                                              clear BK382
                                              clear HB
                                              have HO_9 := n0_
                                              have HO_383004 := n1_
                                              have BK380 := n2_
                                              have BK381 := n3_
                                              have BK382 := n4_
                                              have HB := n5_
                                              have BK405 := n6_
                                              have GW405 := n7_
                                              have GE405 := n8_
                                              have NB380_405 := n9_
                                              have NB405_380 := n10_
                                              have NB381_405 := n11_
                                              have NB405_381 := n12_
                                              have NB382_405 := n13_
                                              have NB405_382 := n14_
                                              clear n0_ n1_ n2_ n3_ n4_ n5_ n6_ n7_ n8_ n9_ n10_ n11_ n12_ n13_ n14_
                                              clear hb hbox hg
                                              refine hK.out _ _ ⟨(blk_cell BK382.out 0).trans rfl, (blk_cell BK382.out 1).trans rfl, (blk_cell BK382.out 2).trans rfl, (blk_cell BK382.out 3).trans rfl, (blk_cell BK382.out 4).trans rfl, (blk_cell BK382.out 5).trans rfl, HS6_, HS7_⟩ (fun hHeld => ?_)
                                              clear hK K
                                              refine norm_ (a' := ?_) ?_ ?_
                                              rotate_left
                                              · show Act.put _ (some 14) _ = _
                                                simp only [Act.put, List.setIfInBounds_toArray, List.set_cons_zero, List.set_cons_succ, i64_w, i32_w]
                                                rfl
                                              refine one_ (i := 7) (N := some 111) #[true, true, true, true, true, true, true, true, false, false, false, true, false, false] rfl rfl (one_of HT_.out (by kernel_rfl)) (by decide) (fun K hK => ?_)
                                              refine goes_ Try.func61 (by kernel_rfl) rfl #[.int .i64 x383000_1, .string ((rd_T40 t388 x11_3).f1)] (by rfl) rfl rfl (by (try simp only [List.map_toArray, List.map_cons, List.map_nil]); first | rfl) ?_
                                              with_reducible refine (tenancyref15_inner.calls kj50 x383000_1 ((rd_T40 t388 x11_3).f1) t398 t399 t400 t401 t402 t403 t404 _ A76.out).mono ?_
                                              rintro e w85 ⟨rfl, hb⟩
                                              have HS6_ := (hb.cell (World.block_lt_of_cell? _ _ (hHeld.2.2.2.2.2.2.1))).trans (hHeld.2.2.2.2.2.2.1)
                                              have HS7_ := (hb.cell (World.block_lt_of_cell? _ _ (hHeld.2.2.2.2.2.2.2))).trans (hHeld.2.2.2.2.2.2.2)
                                              refine ⟨_, rfl, ?_⟩
                                              have n0_ := Aside0.mk (Kd.R_below HO_9.out hb)
                                              have n1_ := Aside0.mk (Kd.R_below HO_383004.out hb)
                                              have n2_ := Aside0.mk (blk_below (g := gb380) (o := .cells #[.int .u16 a0_0, .string a0_1] 40 (0, 0)) BK380.out hb)
                                              have n3_ := Aside0.mk (blk_below (g := gb381) (o := .cells #[.int .i64 x382000_50, .int .u32 x382001_50, .int .u32 x382002_50, .int .u32 x382003_50, .slice none 0 0, .int .i64 x382005_50] 37 (0, 0)) BK381.out hb)
                                              have n4_ := Aside0.mk (blk_below (g := gb382) (o := .cells #[.int .i64 x383000_1, .int .u32 t385, .int .u32 x383002_28, .int .u32 x383003_28, .slice Ao82 x383004_3.length co82, .int .i64 x383005_50] 37 (0, 0)) BK382.out hb)
                                              have n5_ := Aside0.mk (blk_below (g := gb405) (o := .cells #[.int .u64 0, .int .u64 0, .int .i64 0, .int .u32 0, .int .u32 0, .int .i64 0] 76 (0, 0)) BK405.out hb)
                                              have n6_ := Aside0.mk (below_step HB.out hb)
                                              clear HO_9
                                              clear HO_383004
                                              clear BK380
                                              clear BK381
                                              clear BK382
                                              clear BK405
                                              clear HB
                                              have HO_9 := n0_
                                              have HO_383004 := n1_
                                              have BK380 := n2_
                                              have BK381 := n3_
                                              have BK382 := n4_
                                              have BK405 := n5_
                                              have HB := n6_
                                              clear n0_ n1_ n2_ n3_ n4_ n5_ n6_
                                              (try clear hb)
                                              (try clear hb2)
                                              (try clear hk)
                                              (try clear hi)
                                              refine hK.out _ _ ⟨(blk_cell BK382.out 0).trans rfl, (blk_cell BK382.out 1).trans rfl, (blk_cell BK382.out 2).trans rfl, (blk_cell BK382.out 3).trans rfl, (blk_cell BK382.out 4).trans rfl, (blk_cell BK382.out 5).trans rfl, HS6_, HS7_⟩ (fun hHeld => ?_)
                                              clear hK K
                                              refine norm_ (a' := ?_) ?_ ?_
                                              rotate_left
                                              · show Act.put _ (some 111) _ = _
                                                simp only [Act.put, List.setIfInBounds_toArray, List.set_cons_zero, List.set_cons_succ, i64_w, i32_w]
                                                rfl
                                              refine pure_ (i := 8) (N := some 103) (v := ?_) (a' := ?_) #[true, true, true, true, true, true, true, true, true, false, false, true, false, false] rfl rfl (any_of HT_.out (by kernel_rfl)) (fun _ _ _ h => h) (Or.inl ⟨by rfl, ?_⟩) ?_ ?_
                                              rotate_left
                                              · intro w'
                                                go_simp
                                                with_reducible rfl
                                              rotate_left
                                              · simp only [Act.put, List.setIfInBounds_toArray, List.set_cons_zero, List.set_cons_succ, i64_w, i32_w]
                                                rfl
                                              refine pure_ (i := 9) (N := some 112) (v := ?_) (a' := ?_) #[true, true, true, true, true, true, true, true, true, true, false, true, false, false] rfl rfl (any_of HT_.out (by kernel_rfl)) (fun _ _ _ h => h) (Or.inl ⟨by rfl, ?_⟩) ?_ ?_
                                              rotate_left
                                              · intro w'
                                                go_simp
                                                with_reducible rfl
                                              rotate_left
                                              · simp only [Act.put, List.setIfInBounds_toArray, List.set_cons_zero, List.set_cons_succ, i64_w, i32_w]
                                                rfl
                                              refine pure_ (i := 10) (N := some 113) (v := ?_) (a' := ?_) #[true, true, true, true, true, true, true, true, true, true, true, true, false, false] rfl rfl (any_of HT_.out (by kernel_rfl)) (fun _ _ _ h => h) (Or.inl ⟨by rfl, ?_⟩) ?_ ?_
                                              rotate_left
                                              · intro w'
                                                go_simp
                                                with_reducible rfl
                                              rotate_left
                                              · simp only [Act.put, List.setIfInBounds_toArray, List.set_cons_zero, List.set_cons_succ, i64_w, i32_w]
                                                rfl
                                              exact norm_ (by simp only [putAll, Act.put, List.setIfInBounds_toArray, List.set_cons_zero, List.set_cons_succ]) (hCont (gb405) _ ⟨hHeld, (by exact Kd.R_mono HO_383004.out (fun _ hk => hk.2)), HO_9.out, BK380.out, BK381.out, BK382.out, BK405.out, GW405.out, GE405.out, NB380_405.out, NB405_380.out, NB381_405.out, NB405_381.out, NB382_405.out, NB405_382.out, HB.out⟩)
                                          rintro gb405 w86 ⟨hS_, h0_, h1_, h2_, h3_, h4_, h5_, h6_, h7_, h8_, h9_, h10_, h11_, h12_, h13_, h14_⟩
                                          have n0_ : Aside0 (Kd.R k76 76 w86 w.heap.size (fun k_ => k_ ≠ gb405) (.slice Ao82 x383004_3.length co82) x383004_3) := ⟨h0_⟩
                                          have n1_ : Aside0 (Kd.R k40 40 w86 w.heap.size (fun k_ => k_ ≠ gb380) (.slice (some ad392) t388.length co52) t388) := ⟨h1_⟩
                                          have n2_ : Aside0 (w86.heap[gb380]? = some (.cells #[.int .u16 a0_0, .string a0_1] 40 (0, 0))) := ⟨h2_⟩
                                          have n3_ : Aside0 (w86.heap[gb381]? = some (.cells #[.int .i64 x382000_50, .int .u32 x382001_50, .int .u32 x382002_50, .int .u32 x382003_50, .slice none 0 0, .int .i64 x382005_50] 37 (0, 0))) := ⟨h3_⟩
                                          have n4_ : Aside0 (w86.heap[gb382]? = some (.cells #[.int .i64 x383000_1, .int .u32 t385, .int .u32 x383002_28, .int .u32 x383003_28, .slice Ao82 x383004_3.length co82, .int .i64 x383005_50] 37 (0, 0))) := ⟨h4_⟩
                                          have n5_ : Aside0 (w86.heap[gb405]? = some (.cells #[.int .u64 0, .int .u64 0, .int .i64 0, .int .u32 0, .int .u32 0, .int .i64 0] 76 (0, 0))) := ⟨h5_⟩
                                          have n6_ : Aside0 (w.heap.size ≤ gb405) := ⟨h6_⟩
                                          have n7_ : Aside0 (w.heap.size ≤ gb405) := ⟨h7_⟩
                                          have n8_ : Aside0 (gb380 ≠ gb405) := ⟨h8_⟩
                                          have n9_ : Aside0 (gb405 ≠ gb380) := ⟨h9_⟩
                                          have n10_ : Aside0 (gb381 ≠ gb405) := ⟨h10_⟩
                                          have n11_ : Aside0 (gb405 ≠ gb381) := ⟨h11_⟩
                                          have n12_ : Aside0 (gb382 ≠ gb405) := ⟨h12_⟩
                                          have n13_ : Aside0 (gb405 ≠ gb382) := ⟨h13_⟩
                                          have n14_ : Aside0 (Below w.heap.size w w86) := ⟨h14_⟩
                                          clear HO_9
                                          clear HO_383004
                                          clear BK380
                                          clear BK381
                                          clear BK382
                                          clear HB
                                          clear h0_ h1_ h2_ h3_ h4_ h5_ h6_ h7_ h8_ h9_ h10_ h11_ h12_ h13_ h14_
                                          have HO_383004 := n0_
                                          have HO_9 := n1_
                                          have BK380 := n2_
                                          have BK381 := n3_
                                          have BK382 := n4_
                                          have BK405 := n5_
                                          have GW405 := n6_
                                          have GE405 := n7_
                                          have NB380_405 := n8_
                                          have NB405_380 := n9_
                                          have NB381_405 := n10_
                                          have NB405_381 := n11_
                                          have NB382_405 := n12_
                                          have NB405_382 := n13_
                                          have HB := n14_
                                          clear n0_ n1_ n2_ n3_ n4_ n5_ n6_ n7_ n8_ n9_ n10_ n11_ n12_ n13_ n14_
                                          have hHeld : w86.cell? ⟨gb382, 0, none⟩ = some (.int .i64 x383000_1) ∧ w86.cell? ⟨gb382, 1, none⟩ = some (.int .u32 t385) ∧ w86.cell? ⟨gb382, 2, none⟩ = some (.int .u32 x383002_28) ∧ w86.cell? ⟨gb382, 3, none⟩ = some (.int .u32 x383003_28) ∧ w86.cell? ⟨gb382, 4, none⟩ = some (.slice Ao82 x383004_3.length co82) ∧ w86.cell? ⟨gb382, 5, none⟩ = some (.int .i64 x383005_50) ∧ w86.cell? (ad392.add ((x11_3).toNat * 2)) = some (.int .u16 ((rd_T40 t388 x11_3).f0)) ∧ w86.cell? ⟨(ad392.add ((x11_3).toNat * 2)).block, (ad392.add ((x11_3).toNat * 2)).off + 1, none⟩ = some (.string ((rd_T40 t388 x11_3).f1)) := hS_
                                          refine norm_ (a' := ?_) ?_ ?_
                                          rotate_left
                                          · simp only [putAll, Act.put, List.setIfInBounds_toArray, List.set_cons_zero, List.set_cons_succ]
                                            rfl
                                          refine one_ (i := 12) (N := none) #[true, true, true, true, true, true, true, true, true, true, true, true, true, false] rfl rfl (one_of HT_.out (by kernel_rfl)) (by decide) (fun K hK => ?_)
                                          have hs87 : w86.cell? ⟨gb405, 0, none⟩ = some (.int .u64 0) := (blk_cell BK405.out 0).trans rfl
                                          have hfs87 := blk_frozen BK405.out 0
                                          have hns87_0 := NB380_405.out
                                          have hns87_1 := NB381_405.out
                                          have hns87_2 := NB382_405.out
                                          have hms87_0 := NB405_380.out
                                          have hms87_1 := NB405_381.out
                                          have hms87_2 := NB405_382.out
                                          have hs88 : w86.cell? ⟨gb405, 1, none⟩ = some (.int .u64 0) := (blk_cell BK405.out 1).trans rfl
                                          have hfs88 := blk_frozen BK405.out 1
                                          have hns88_0 := NB380_405.out
                                          have hns88_1 := NB381_405.out
                                          have hns88_2 := NB382_405.out
                                          have hms88_0 := NB405_380.out
                                          have hms88_1 := NB405_381.out
                                          have hms88_2 := NB405_382.out
                                          have hs89 : w86.cell? ⟨gb405, 2, none⟩ = some (.int .i64 0) := (blk_cell BK405.out 2).trans rfl
                                          have hfs89 := blk_frozen BK405.out 2
                                          have hns89_0 := NB380_405.out
                                          have hns89_1 := NB381_405.out
                                          have hns89_2 := NB382_405.out
                                          have hms89_0 := NB405_380.out
                                          have hms89_1 := NB405_381.out
                                          have hms89_2 := NB405_382.out
                                          have hs90 : w86.cell? ⟨gb405, 3, none⟩ = some (.int .u32 0) := (blk_cell BK405.out 3).trans rfl
                                          have hfs90 := blk_frozen BK405.out 3
                                          have hns90_0 := NB380_405.out
                                          have hns90_1 := NB381_405.out
                                          have hns90_2 := NB382_405.out
                                          have hms90_0 := NB405_380.out
                                          have hms90_1 := NB405_381.out
                                          have hms90_2 := NB405_382.out
                                          have hs91 : w86.cell? ⟨gb405, 4, none⟩ = some (.int .u32 0) := (blk_cell BK405.out 4).trans rfl
                                          have hfs91 := blk_frozen BK405.out 4
                                          have hns91_0 := NB380_405.out
                                          have hns91_1 := NB381_405.out
                                          have hns91_2 := NB382_405.out
                                          have hms91_0 := NB405_380.out
                                          have hms91_1 := NB405_381.out
                                          have hms91_2 := NB405_382.out
                                          have hs92 : w86.cell? ⟨gb405, 5, none⟩ = some (.int .i64 0) := (blk_cell BK405.out 5).trans rfl
                                          have hfs92 := blk_frozen BK405.out 5
                                          have hns92_0 := NB380_405.out
                                          have hns92_1 := NB381_405.out
                                          have hns92_2 := NB382_405.out
                                          have hms92_0 := NB405_380.out
                                          have hms92_1 := NB405_381.out
                                          have hms92_2 := NB405_382.out
                                          refine skip_ (w1 := ?_) (by rfl) rfl ?_ ?_
                                          rotate_left
                                          · go_simp
                                            rfl
                                          refine hK.out _ _ ⟨((cell_far (p := ⟨gb405, _, none⟩) NB382_405.out _).trans (((cell_far (p := ⟨gb405, _, none⟩) NB382_405.out _).trans (((cell_far (p := ⟨gb405, _, none⟩) NB382_405.out _).trans (((cell_far (p := ⟨gb405, _, none⟩) NB382_405.out _).trans (((cell_far (p := ⟨gb405, _, none⟩) NB382_405.out _).trans (((cell_far (p := ⟨gb405, _, none⟩) NB382_405.out _).trans (hHeld.1)))))))))))), ((cell_far (p := ⟨gb405, _, none⟩) NB382_405.out _).trans (((cell_far (p := ⟨gb405, _, none⟩) NB382_405.out _).trans (((cell_far (p := ⟨gb405, _, none⟩) NB382_405.out _).trans (((cell_far (p := ⟨gb405, _, none⟩) NB382_405.out _).trans (((cell_far (p := ⟨gb405, _, none⟩) NB382_405.out _).trans (((cell_far (p := ⟨gb405, _, none⟩) NB382_405.out _).trans (hHeld.2.1)))))))))))), ((cell_far (p := ⟨gb405, _, none⟩) NB382_405.out _).trans (((cell_far (p := ⟨gb405, _, none⟩) NB382_405.out _).trans (((cell_far (p := ⟨gb405, _, none⟩) NB382_405.out _).trans (((cell_far (p := ⟨gb405, _, none⟩) NB382_405.out _).trans (((cell_far (p := ⟨gb405, _, none⟩) NB382_405.out _).trans (((cell_far (p := ⟨gb405, _, none⟩) NB382_405.out _).trans (hHeld.2.2.1)))))))))))), ((cell_far (p := ⟨gb405, _, none⟩) NB382_405.out _).trans (((cell_far (p := ⟨gb405, _, none⟩) NB382_405.out _).trans (((cell_far (p := ⟨gb405, _, none⟩) NB382_405.out _).trans (((cell_far (p := ⟨gb405, _, none⟩) NB382_405.out _).trans (((cell_far (p := ⟨gb405, _, none⟩) NB382_405.out _).trans (((cell_far (p := ⟨gb405, _, none⟩) NB382_405.out _).trans (hHeld.2.2.2.1)))))))))))), ((cell_far (p := ⟨gb405, _, none⟩) NB382_405.out _).trans (((cell_far (p := ⟨gb405, _, none⟩) NB382_405.out _).trans (((cell_far (p := ⟨gb405, _, none⟩) NB382_405.out _).trans (((cell_far (p := ⟨gb405, _, none⟩) NB382_405.out _).trans (((cell_far (p := ⟨gb405, _, none⟩) NB382_405.out _).trans (((cell_far (p := ⟨gb405, _, none⟩) NB382_405.out _).trans (hHeld.2.2.2.2.1)))))))))))), ((cell_far (p := ⟨gb405, _, none⟩) NB382_405.out _).trans (((cell_far (p := ⟨gb405, _, none⟩) NB382_405.out _).trans (((cell_far (p := ⟨gb405, _, none⟩) NB382_405.out _).trans (((cell_far (p := ⟨gb405, _, none⟩) NB382_405.out _).trans (((cell_far (p := ⟨gb405, _, none⟩) NB382_405.out _).trans (((cell_far (p := ⟨gb405, _, none⟩) NB382_405.out _).trans (hHeld.2.2.2.2.2.1)))))))))))), ((cell_far (p := ⟨gb405, _, none⟩) (by first | (rw [add_block]; exact Kd.own_blk (Kd.R_ne HO_9.out BK405.out (by decide)))) _).trans (((cell_far (p := ⟨gb405, _, none⟩) (by first | (rw [add_block]; exact Kd.own_blk (Kd.R_ne HO_9.out BK405.out (by decide)))) _).trans (((cell_far (p := ⟨gb405, _, none⟩) (by first | (rw [add_block]; exact Kd.own_blk (Kd.R_ne HO_9.out BK405.out (by decide)))) _).trans (((cell_far (p := ⟨gb405, _, none⟩) (by first | (rw [add_block]; exact Kd.own_blk (Kd.R_ne HO_9.out BK405.out (by decide)))) _).trans (((cell_far (p := ⟨gb405, _, none⟩) (by first | (rw [add_block]; exact Kd.own_blk (Kd.R_ne HO_9.out BK405.out (by decide)))) _).trans (((cell_far (p := ⟨gb405, _, none⟩) (by first | (rw [add_block]; exact Kd.own_blk (Kd.R_ne HO_9.out BK405.out (by decide)))) _).trans (hHeld.2.2.2.2.2.2.1)))))))))))), ((cell_far (p := ⟨gb405, _, none⟩) (by first | (rw [add_block]; exact Kd.own_blk (Kd.R_ne HO_9.out BK405.out (by decide)))) _).trans (((cell_far (p := ⟨gb405, _, none⟩) (by first | (rw [add_block]; exact Kd.own_blk (Kd.R_ne HO_9.out BK405.out (by decide)))) _).trans (((cell_far (p := ⟨gb405, _, none⟩) (by first | (rw [add_block]; exact Kd.own_blk (Kd.R_ne HO_9.out BK405.out (by decide)))) _).trans (((cell_far (p := ⟨gb405, _, none⟩) (by first | (rw [add_block]; exact Kd.own_blk (Kd.R_ne HO_9.out BK405.out (by decide)))) _).trans (((cell_far (p := ⟨gb405, _, none⟩) (by first | (rw [add_block]; exact Kd.own_blk (Kd.R_ne HO_9.out BK405.out (by decide)))) _).trans (((cell_far (p := ⟨gb405, _, none⟩) (by first | (rw [add_block]; exact Kd.own_blk (Kd.R_ne HO_9.out BK405.out (by decide)))) _).trans (hHeld.2.2.2.2.2.2.2))))))))))))⟩ (fun hHeld => ?_)
                                          clear hK K
                                          refine pure_ (i := 13) (N := some 15) (v := ?_) (a' := ?_) #[true, true, true, true, true, true, true, true, true, true, true, true, true, true] rfl rfl (any_of HT_.out (by kernel_rfl)) (fun _ _ _ h => h) (Or.inl ⟨by rfl, ?_⟩) ?_ ?_
                                          rotate_left
                                          · intro w'
                                            go_simp
                                            with_reducible rfl
                                          rotate_left
                                          · simp only [Act.put, List.setIfInBounds_toArray, List.set_cons_zero, List.set_cons_succ, i64_w, i32_w]
                                            rfl
                                          refine done_ (done_of HT_.out (by kernel_rfl)) ?_
                                          have hnb93 := NB382_405.out
                                          have hnc93 := NB405_382.out
                                          obtain ⟨hcz94_0, hcz94_1, hcz94_2, hcz94_3, hcz94_4, hcz94_5⟩ := XRun.bc6 BK382.out
                                          obtain ⟨hfz94_0, hfz94_1, hfz94_2, hfz94_3, hfz94_4, hfz94_5⟩ := XRun.bf6 BK382.out
                                          have hnb95 := NB405_380.out
                                          have hnc95 := NB380_405.out
                                          have hnb96 := NB405_381.out
                                          have hnc96 := NB381_405.out
                                          obtain ⟨hcz97_0, hcz97_1, hcz97_2, hcz97_3, hcz97_4, hcz97_5⟩ := XRun.bc6 BK405.out
                                          obtain ⟨hfz97_0, hfz97_1, hfz97_2, hfz97_3, hfz97_4, hfz97_5⟩ := XRun.bf6 BK405.out
                                          try go_wp2_with (first | ((with_reducible refine gate_builtin (b := .append) (xs := #[.tmp 119, .tmp 121]) rfl ?_); at_builtin; refine Kd.R_append k76 (w0 := w) w.heap.size rfl (.tmp 119) (.tmp 121) 35 76 (.agg #[(.int .u64 0), (.int .u64 0), (.int .i64 0), (.int .u32 0), (.int .u32 0), (.int .i64 0)]) 40 rfl Try.underlying35 info76 rfl (by decide) (by omega) (.slice Ao82 x383004_3.length co82) x383004_3 (⟨(⟨(⟨t398, t399⟩ : S72), t400⟩ : S74), t401, t402, t403⟩ : S76) [.int .u64 t398, .int .u64 t399, .int .i64 t400, .int .u32 t401, .int .u32 t402, .int .i64 t403] (fun k_ => k_ ≠ gb405) (fun _ => False) rfl (by first | (go_simp; done)) ?aP (fun _ hk => hk.elim) ?aF ?aO ?aB ?aS ?aL ?_; (case aP => exact k76_mkM _ _ _ (⟨(⟨(⟨t398, t399⟩ : S72), t400⟩ : S74), t401, t402, t403⟩ : S76)); (case aB => exact (by repeat (first | (with_reducible first | exact HB.out | refine below_set ?_ GE405.out)))); (case aF => exact (fun k_ hk => Kd.freshB (g := gb405) (o := .cells #[.int .u64 t398, .int .u64 t399, .int .i64 t400, .int .u32 t401, .int .u32 t402, .int .i64 t403] 76 (0, 0)) (by refine blk_put (cs := #[.int .u64 t398, .int .u64 t399, .int .i64 t400, .int .u32 t401, .int .u32 t402, .int .i64 0]) ?_ 5 _ rfl; refine blk_put (cs := #[.int .u64 t398, .int .u64 t399, .int .i64 t400, .int .u32 t401, .int .u32 0, .int .i64 0]) ?_ 4 _ rfl; refine blk_put (cs := #[.int .u64 t398, .int .u64 t399, .int .i64 t400, .int .u32 0, .int .u32 0, .int .i64 0]) ?_ 3 _ rfl; refine blk_put (cs := #[.int .u64 t398, .int .u64 t399, .int .i64 0, .int .u32 0, .int .u32 0, .int .i64 0]) ?_ 2 _ rfl; refine blk_put (cs := #[.int .u64 t398, .int .u64 0, .int .i64 0, .int .u32 0, .int .u32 0, .int .i64 0]) ?_ 1 _ rfl; refine blk_put (cs := #[.int .u64 0, .int .u64 0, .int .i64 0, .int .u32 0, .int .u32 0, .int .i64 0]) ?_ 0 _ rfl; exact BK405.out) k_ hk)); (case aO => exact (by exact Kd.R_mono (Kd.R_far (p := ⟨gb405, 5, none⟩) (Kd.R_far (p := ⟨gb405, 4, none⟩) (Kd.R_far (p := ⟨gb405, 3, none⟩) (Kd.R_far (p := ⟨gb405, 2, none⟩) (Kd.R_far (p := ⟨gb405, 1, none⟩) (Kd.R_far (p := ⟨gb405, 0, none⟩) (Kd.R_mono HO_383004.out (fun k_ hk => (⟨hk, hk⟩ : _ ∧ k_ ≠ gb405))) (fun _ hk => hk.2) (.int .u64 t398)) (fun _ hk => hk.2) (.int .u64 t399)) (fun _ hk => hk.2) (.int .i64 t400)) (fun _ hk => hk.2) (.int .u32 t401)) (fun _ hk => hk.2) (.int .u32 t402)) (fun _ hk => hk.2) (.int .i64 t403)) (fun _ hk => hk.1))); (case aS => exact (below_size (by repeat (first | (with_reducible first | exact HB.out | refine below_set ?_ GE405.out))))); (case aL => have := LMc78.out; omega); intro v407 w98 ho hb hg hat; rw [← Ny406.out] at ho; have n0_ := Aside0.mk (Kd.R_over' (by exact (Kd.R_mono (Kd.R_far (p := ⟨gb405, 5, none⟩) (Kd.R_far (p := ⟨gb405, 4, none⟩) (Kd.R_far (p := ⟨gb405, 3, none⟩) (Kd.R_far (p := ⟨gb405, 2, none⟩) (Kd.R_far (p := ⟨gb405, 1, none⟩) (Kd.R_far (p := ⟨gb405, 0, none⟩) (Kd.R_types HO_9.out BK405.out (by decide)) (fun _ hk => hk.2) (.int .u64 t398)) (fun _ hk => hk.2) (.int .u64 t399)) (fun _ hk => hk.2) (.int .i64 t400)) (fun _ hk => hk.2) (.int .u32 t401)) (fun _ hk => hk.2) (.int .u32 t402)) (fun _ hk => hk.2) (.int .i64 t403)) (fun _ h_ => h_.1))) (Kd.R_typed (by exact (Kd.R_mono (Kd.R_far (p := ⟨gb405, 5, none⟩) (Kd.R_far (p := ⟨gb405, 4, none⟩) (Kd.R_far (p := ⟨gb405, 3, none⟩) (Kd.R_far (p := ⟨gb405, 2, none⟩) (Kd.R_far (p := ⟨gb405, 1, none⟩) (Kd.R_far (p := ⟨gb405, 0, none⟩) (Kd.R_mono HO_383004.out (fun k_ hk => (⟨hk, hk⟩ : _ ∧ k_ ≠ gb405))) (fun _ hk => hk.2) (.int .u64 t398)) (fun _ hk => hk.2) (.int .u64 t399)) (fun _ hk => hk.2) (.int .i64 t400)) (fun _ hk => hk.2) (.int .u32 t401)) (fun _ hk => hk.2) (.int .u32 t402)) (fun _ hk => hk.2) (.int .i64 t403)) (fun _ h_ => h_.1)))) (by decide) hg); have n1_ := Aside0.mk (blk_grown (g := gb380) (o := .cells #[.int .u16 a0_0, .string a0_1] 40 (0, 0)) (by refine blk_far ?_ NB380_405.out _; refine blk_far ?_ NB380_405.out _; refine blk_far ?_ NB380_405.out _; refine blk_far ?_ NB380_405.out _; refine blk_far ?_ NB380_405.out _; refine blk_far ?_ NB380_405.out _; exact BK380.out) hg (Kd.R_ne HO_383004.out BK380.out (by decide))); have n2_ := Aside0.mk (blk_grown (g := gb381) (o := .cells #[.int .i64 x382000_50, .int .u32 x382001_50, .int .u32 x382002_50, .int .u32 x382003_50, .slice none 0 0, .int .i64 x382005_50] 37 (0, 0)) (by refine blk_far ?_ NB381_405.out _; refine blk_far ?_ NB381_405.out _; refine blk_far ?_ NB381_405.out _; refine blk_far ?_ NB381_405.out _; refine blk_far ?_ NB381_405.out _; refine blk_far ?_ NB381_405.out _; exact BK381.out) hg (Kd.R_ne HO_383004.out BK381.out (by decide))); have n3_ := Aside0.mk (blk_grown (g := gb382) (o := .cells #[.int .i64 x383000_1, .int .u32 t385, .int .u32 x383002_28, .int .u32 x383003_28, .slice Ao82 x383004_3.length co82, .int .i64 x383005_50] 37 (0, 0)) (by refine blk_far ?_ NB382_405.out _; refine blk_far ?_ NB382_405.out _; refine blk_far ?_ NB382_405.out _; refine blk_far ?_ NB382_405.out _; refine blk_far ?_ NB382_405.out _; refine blk_far ?_ NB382_405.out _; exact BK382.out) hg (Kd.R_ne HO_383004.out BK382.out (by decide))); have n4_ := Aside0.mk (blk_grown (g := gb405) (o := .cells #[.int .u64 t398, .int .u64 t399, .int .i64 t400, .int .u32 t401, .int .u32 t402, .int .i64 t403] 76 (0, 0)) (by refine blk_put (cs := #[.int .u64 t398, .int .u64 t399, .int .i64 t400, .int .u32 t401, .int .u32 t402, .int .i64 0]) ?_ 5 _ rfl; refine blk_put (cs := #[.int .u64 t398, .int .u64 t399, .int .i64 t400, .int .u32 t401, .int .u32 0, .int .i64 0]) ?_ 4 _ rfl; refine blk_put (cs := #[.int .u64 t398, .int .u64 t399, .int .i64 t400, .int .u32 0, .int .u32 0, .int .i64 0]) ?_ 3 _ rfl; refine blk_put (cs := #[.int .u64 t398, .int .u64 t399, .int .i64 0, .int .u32 0, .int .u32 0, .int .i64 0]) ?_ 2 _ rfl; refine blk_put (cs := #[.int .u64 t398, .int .u64 0, .int .i64 0, .int .u32 0, .int .u32 0, .int .i64 0]) ?_ 1 _ rfl; refine blk_put (cs := #[.int .u64 0, .int .u64 0, .int .i64 0, .int .u32 0, .int .u32 0, .int .i64 0]) ?_ 0 _ rfl; exact BK405.out) hg (Kd.R_away HO_383004.out (fun _ hk => hk))); have n5_ := Aside0.mk (hb); have n6_ := Aside0.mk (ho); clear HO_9; clear BK380; clear BK381; clear BK382; clear BK405; clear HB; clear HO_383004; have HO_9 := n0_; have BK380 := n1_; have BK381 := n2_; have BK382 := n3_; have BK405 := n4_; have HB := n5_; have HO408 := n6_; clear n0_ n1_ n2_ n3_ n4_ n5_ n6_; clear ho hb hg hat; obtain ⟨Ao99, co99, eo99⟩ := Kd.R_slice HO408.out; subst eo99; obtain ⟨hcz100_0, hcz100_1, hcz100_2, hcz100_3, hcz100_4, hcz100_5⟩ := XRun.bc6 BK382.out; obtain ⟨hfz100_0, hfz100_1, hfz100_2, hfz100_3, hfz100_4, hfz100_5⟩ := XRun.bf6 BK382.out))
                                          go_roundg kj50
                                          case measure => have := HJ1.out; have := HJ28.out; have := HK3.out; have := HJ50.out; omega
                                          case rel => exact ⟨(wrap64 (x11_3 + 1)), (x382000_50), (x382001_50), (x382002_50), (x382003_50), (x382005_50), (y406), (x383005_50), (.slice Ao99 y406.length co99), (by rfl), H', ⟨by have := HJ1.out; have := HJ28.out; have := HK3.out; have := HJ50.out; omega⟩, ⟨by exact Kd.R_mono (Kd.R_far (p := ⟨gb382, 4, none⟩) (Kd.R_types HO_9.out BK382.out (by decide)) (fun _ hk => hk.2) (.slice Ao99 y406.length co99)) (fun _ hk => hk.1)⟩, ⟨by exact Kd.R_mono (Kd.R_far (p := ⟨gb382, 4, none⟩) (Kd.R_types HO408.out BK382.out (by decide)) (fun _ hk => hk.2) (.slice Ao99 y406.length co99)) (fun _ hk => trivial)⟩, ⟨by refine blk_far ?_ NB380_382.out _; exact BK380.out⟩, ⟨by refine blk_far ?_ NB381_382.out _; exact BK381.out⟩, ⟨by refine blk_put (cs := #[.int .i64 x383000_1, .int .u32 t385, .int .u32 x383002_28, .int .u32 x383003_28, .slice Ao82 x383004_3.length co82, .int .i64 x383005_50]) ?_ 4 _ rfl; exact BK382.out⟩, ⟨by repeat (first | (with_reducible first | exact HB.out | refine below_set ?_ GE382.out))⟩⟩
                                        · rw [if_neg c78] at H
                                          exact absurd H (by simp)
                                      · rw [if_neg c77] at H
                                        have c77b0 : (t404 == 0) = false := beq_eq_false_iff_ne.mpr c77
                                        have c77b1 : (t404 != 0) = true := bne_iff_ne.mpr c77
                                        simp only [Option.some.injEq, Prod.mk.injEq] at H
                                        obtain ⟨rfl, rfl, rfl, rfl, rfl, rfl, rfl⟩ := H
                                        have p396 : 0 ≤ (x11_3 : Int) := of_decide_eq_true (by first | (with_reducible assumption))
                                        have q396 : x11_3 < (t388.length : Int) := of_decide_eq_true (by first | (with_reducible assumption))
                                        obtain ⟨ad396, e396, hx396_0, hx396_1⟩ := at_T40 (Kd.R_reads' HO_9.out).2.2 x11_3 p396 q396
                                        obtain rfl : ad392 = ad396 := (by injection e396)
                                        replace p396 := eq_true p396
                                        replace q396 := eq_true q396
                                        have hnb101 := NB382_380.out
                                        have hnc101 := NB380_382.out
                                        have hnb102 := NB382_381.out
                                        have hnc102 := NB381_382.out
                                        obtain ⟨hcz103_0, hcz103_1, hcz103_2, hcz103_3, hcz103_4, hcz103_5⟩ := XRun.bc6 BK382.out
                                        obtain ⟨hfz103_0, hfz103_1, hfz103_2, hfz103_3, hfz103_4, hfz103_5⟩ := XRun.bf6 BK382.out
                                        obtain ⟨Ao104, co104, eo104⟩ := Kd.R_slice HO_383004.out
                                        subst eo104
                                        try go_wp2
                                        have n0_ := Aside0.mk (Kd.R_drew HO_9.out)
                                        have n1_ := Aside0.mk (Kd.R_drew HO_383004.out)
                                        have n2_ := Aside0.mk (blk_drew BK380.out)
                                        have n3_ := Aside0.mk (blk_drew BK381.out)
                                        have n4_ := Aside0.mk (blk_drew BK382.out)
                                        have n5_ := Aside0.mk (below_drew1 HB.out)
                                        clear HO_9
                                        clear HO_383004
                                        clear BK380
                                        clear BK381
                                        clear BK382
                                        clear HB
                                        have HO_9 := n0_
                                        have HO_383004 := n1_
                                        have BK380 := n2_
                                        have BK381 := n3_
                                        have BK382 := n4_
                                        have HB := n5_
                                        clear n0_ n1_ n2_ n3_ n4_ n5_
                                        have p397 : 0 ≤ (x11_3 : Int) := of_decide_eq_true (by first | (with_reducible assumption))
                                        have q397 : x11_3 < (t388.length : Int) := of_decide_eq_true (by first | (with_reducible assumption))
                                        obtain ⟨ad397, e397, hx397_0, hx397_1⟩ := at_T40 (Kd.R_reads' HO_9.out).2.2 x11_3 p397 q397
                                        obtain rfl : ad392 = ad397 := (by injection e397)
                                        replace p397 := eq_true p397
                                        replace q397 := eq_true q397
                                        refine start_ (n := 14) (S := fun w' => w'.cell? ⟨gb382, 0, none⟩ = some (.int .i64 x383000_1) ∧ w'.cell? ⟨gb382, 1, none⟩ = some (.int .u32 t385) ∧ w'.cell? ⟨gb382, 2, none⟩ = some (.int .u32 x383002_28) ∧ w'.cell? ⟨gb382, 3, none⟩ = some (.int .u32 x383003_28) ∧ w'.cell? ⟨gb382, 4, none⟩ = some (.slice Ao104 x383004_3.length co104) ∧ w'.cell? ⟨gb382, 5, none⟩ = some (.int .i64 x383005_50) ∧ w'.cell? (ad392.add ((x11_3).toNat * 2)) = some (.int .u16 ((rd_T40 t388 x11_3).f0)) ∧ w'.cell? ⟨(ad392.add ((x11_3).toNat * 2)).block, (ad392.add ((x11_3).toNat * 2)).off + 1, none⟩ = some (.string ((rd_T40 t388 x11_3).f1))) (ds := []) #[false, false, false, false, false, false, false, false, false, false, false, false, false, false] (by kernel_rfl) rfl rfl ⟨(blk_cell BK382.out 0).trans rfl, (blk_cell BK382.out 1).trans rfl, (blk_cell BK382.out 2).trans rfl, (blk_cell BK382.out 3).trans rfl, (blk_cell BK382.out 4).trans rfl, (blk_cell BK382.out 5).trans rfl, hx397_0, hx397_1⟩ (fun hHeld => ?_); refine with_tabW tenancyref15_GetIA.tab36 tenancyref15_GetIA.bits36 (fun HT_ HW_ => ?_)
                                        generalize wc.drew = w105 at HO_9 HO_383004 BK380 BK381 BK382 HB hx397_0 hx397_1 hHeld ⊢
                                        refine pure_ (i := 0) (N := some 104) (v := ?_) (a' := ?_) #[true, false, false, false, false, false, false, false, false, false, false, false, false, false] rfl rfl (any_of HT_.out (by kernel_rfl)) (fun _ _ _ h => h) (Or.inl ⟨by rfl, ?_⟩) ?_ ?_
                                        rotate_left
                                        · intro w'
                                          go_simp
                                          with_reducible rfl
                                        rotate_left
                                        · simp only [Act.put, List.setIfInBounds_toArray, List.set_cons_zero, List.set_cons_succ, i64_w, i32_w]
                                          rfl
                                        refine pure_ (i := 2) (N := some 106) (v := ?_) (a' := ?_) #[true, false, true, false, false, false, false, false, false, false, false, false, false, false] rfl rfl (any_of HT_.out (by kernel_rfl)) (fun _ _ _ h => h) (Or.inl ⟨by rfl, ?_⟩) ?_ ?_
                                        rotate_left
                                        · intro w'
                                          go_simp
                                          with_reducible rfl
                                        rotate_left
                                        · simp only [Act.put, List.setIfInBounds_toArray, List.set_cons_zero, List.set_cons_succ, i64_w, i32_w]
                                          rfl
                                        refine pure_ (i := 3) (N := some 107) (v := ?_) (a' := ?_) #[true, false, true, true, false, false, false, false, false, false, false, false, false, false] rfl rfl (any_of HT_.out (by kernel_rfl)) (fun _ _ _ h => h) (Or.inl ⟨by rfl, ?_⟩) ?_ ?_
                                        rotate_left
                                        · intro w'
                                          go_simp
                                          with_reducible rfl
                                        rotate_left
                                        · simp only [Act.put, List.setIfInBounds_toArray, List.set_cons_zero, List.set_cons_succ, i64_w, i32_w]
                                          rfl
                                        refine pure_ (i := 4) (N := some 108) (v := ?_) (a' := ?_) #[true, false, true, true, true, false, false, false, false, false, false, false, false, false] rfl rfl (any_of HT_.out (by kernel_rfl)) (fun _ _ _ h => h) (Or.inl ⟨by rfl, ?_⟩) ?_ ?_
                                        rotate_left
                                        · intro w'
                                          go_simp
                                          with_reducible rfl
                                        rotate_left
                                        · simp only [Act.put, List.setIfInBounds_toArray, List.set_cons_zero, List.set_cons_succ, i64_w, i32_w]
                                          rfl
                                        refine pure_ (i := 5) (N := some 109) (v := ?_) (a' := ?_) #[true, false, true, true, true, true, false, false, false, false, false, false, false, false] rfl rfl (any_of HT_.out (by kernel_rfl)) (fun _ _ _ h => h) (Or.inl ⟨by rfl, ?_⟩) ?_ ?_
                                        rotate_left
                                        · intro w'
                                          go_simp
                                          with_reducible rfl
                                        rotate_left
                                        · simp only [Act.put, List.setIfInBounds_toArray, List.set_cons_zero, List.set_cons_succ, i64_w, i32_w]
                                          rfl
                                        refine take_ (i := 1) (N := some 105) (v := ?_) (a' := ?_) #[true, true, true, true, true, true, false, false, false, false, false, false, false, false] rfl rfl (take_ofW HT_.out HW_.out (by kernel_rfl)) (fun _ _ _ h => h) (Or.inl ⟨by rfl, ?_⟩) hHeld ?_ ?_
                                        rotate_left
                                        · rintro w' ⟨s0, s1, s2, s3, s4, s5, s6, s7⟩
                                          go_simp
                                          with_reducible rfl
                                        rotate_left
                                        · simp only [Act.put, List.setIfInBounds_toArray, List.set_cons_zero, List.set_cons_succ, i64_w, i32_w]
                                          rfl
                                        refine take_ (i := 6) (N := some 110) (v := ?_) (a' := ?_) #[true, true, true, true, true, true, true, false, false, false, false, false, false, false] rfl rfl (take_ofW HT_.out HW_.out (by kernel_rfl)) (fun _ _ _ h => h) (Or.inl ⟨by rfl, ?_⟩) hHeld ?_ ?_
                                        rotate_left
                                        · rintro w' ⟨s0, s1, s2, s3, s4, s5, s6, s7⟩
                                          go_simp
                                          with_reducible rfl
                                        rotate_left
                                        · simp only [Act.put, List.setIfInBounds_toArray, List.set_cons_zero, List.set_cons_succ, i64_w, i32_w]
                                          rfl
                                        refine join_ (σ := Nat) 2 #[true, true, true, true, true, true, true, true, true, true, true, true, false, false] (fun s_ => [(111, .tuple #[.agg #[.int .u64 t398, .int .u64 t399, .int .i64 t400, .int .u32 t401, .int .u32 t402, .int .i64 t403], .int .i64 t404]), (14, .pointer (some ⟨s_, 0, none⟩)), (103, .tuple #[.agg #[.int .u64 t398, .int .u64 t399, .int .i64 t400, .int .u32 t401, .int .u32 t402, .int .i64 t403], .int .i64 t404]), (112, .agg #[.int .u64 t398, .int .u64 t399, .int .i64 t400, .int .u32 t401, .int .u32 t402, .int .i64 t403]), (113, .int .i64 t404)]) (fun s_ w' => (w'.cell? ⟨gb382, 0, none⟩ = some (.int .i64 x383000_1) ∧ w'.cell? ⟨gb382, 1, none⟩ = some (.int .u32 t385) ∧ w'.cell? ⟨gb382, 2, none⟩ = some (.int .u32 x383002_28) ∧ w'.cell? ⟨gb382, 3, none⟩ = some (.int .u32 x383003_28) ∧ w'.cell? ⟨gb382, 4, none⟩ = some (.slice Ao104 x383004_3.length co104) ∧ w'.cell? ⟨gb382, 5, none⟩ = some (.int .i64 x383005_50) ∧ w'.cell? (ad392.add ((x11_3).toNat * 2)) = some (.int .u16 ((rd_T40 t388 x11_3).f0)) ∧ w'.cell? ⟨(ad392.add ((x11_3).toNat * 2)).block, (ad392.add ((x11_3).toNat * 2)).off + 1, none⟩ = some (.string ((rd_T40 t388 x11_3).f1))) ∧ (Kd.R k76 76 w' w.heap.size (fun k_ => k_ ≠ s_) (.slice Ao104 x383004_3.length co104) x383004_3) ∧ (Kd.R k40 40 w' w.heap.size (fun k_ => k_ ≠ gb380) (.slice (some ad392) t388.length co52) t388) ∧ (w'.heap[gb380]? = some (.cells #[.int .u16 a0_0, .string a0_1] 40 (0, 0))) ∧ (w'.heap[gb381]? = some (.cells #[.int .i64 x382000_50, .int .u32 x382001_50, .int .u32 x382002_50, .int .u32 x382003_50, .slice none 0 0, .int .i64 x382005_50] 37 (0, 0))) ∧ (w'.heap[gb382]? = some (.cells #[.int .i64 x383000_1, .int .u32 t385, .int .u32 x383002_28, .int .u32 x383003_28, .slice Ao104 x383004_3.length co104, .int .i64 x383005_50] 37 (0, 0))) ∧ (w'.heap[s_]? = some (.cells #[.int .u64 0, .int .u64 0, .int .i64 0, .int .u32 0, .int .u32 0, .int .i64 0] 76 (0, 0))) ∧ (w.heap.size ≤ s_) ∧ (w.heap.size ≤ s_) ∧ (gb380 ≠ s_) ∧ (s_ ≠ gb380) ∧ (gb381 ≠ s_) ∧ (s_ ≠ gb381) ∧ (gb382 ≠ s_) ∧ (s_ ≠ gb382) ∧ (Below w.heap.size w w')) ?_ ?_
                                        rotate_left
                                        · intro hCont
                                          refine two_ (i := 7) (j := 11) (Ni := some 111) (Nj := some 14) #[true, true, true, true, true, true, true, true, false, false, false, false, false, false] #[true, true, true, true, true, true, true, false, false, false, false, true, false, false] rfl rfl rfl rfl (two_of HT_.out (by kernel_rfl)) (by decide) (by decide) (fun K hK => ?_) (fun K hK => ?_)
                                          · skip
                                            refine goes_ Try.func61 (by kernel_rfl) rfl #[.int .i64 x383000_1, .string ((rd_T40 t388 x11_3).f1)] (by rfl) rfl rfl (by (try simp only [List.map_toArray, List.map_cons, List.map_nil]); first | rfl) ?_
                                            with_reducible refine (tenancyref15_inner.calls kj50 x383000_1 ((rd_T40 t388 x11_3).f1) t398 t399 t400 t401 t402 t403 t404 _ A76.out).mono ?_
                                            rintro e w106 ⟨rfl, hb⟩
                                            have HS6_ := (hb.cell (World.block_lt_of_cell? _ _ (hHeld.2.2.2.2.2.2.1))).trans (hHeld.2.2.2.2.2.2.1)
                                            have HS7_ := (hb.cell (World.block_lt_of_cell? _ _ (hHeld.2.2.2.2.2.2.2))).trans (hHeld.2.2.2.2.2.2.2)
                                            refine ⟨_, rfl, ?_⟩
                                            have n0_ := Aside0.mk (Kd.R_below HO_9.out hb)
                                            have n1_ := Aside0.mk (Kd.R_below HO_383004.out hb)
                                            have n2_ := Aside0.mk (blk_below (g := gb380) (o := .cells #[.int .u16 a0_0, .string a0_1] 40 (0, 0)) BK380.out hb)
                                            have n3_ := Aside0.mk (blk_below (g := gb381) (o := .cells #[.int .i64 x382000_50, .int .u32 x382001_50, .int .u32 x382002_50, .int .u32 x382003_50, .slice none 0 0, .int .i64 x382005_50] 37 (0, 0)) BK381.out hb)
                                            have n4_ := Aside0.mk (blk_below (g := gb382) (o := .cells #[.int .i64 x383000_1, .int .u32 t385, .int .u32 x383002_28, .int .u32 x383003_28, .slice Ao104 x383004_3.length co104, .int .i64 x383005_50] 37 (0, 0)) BK382.out hb)
                                            have n5_ := Aside0.mk (below_step HB.out hb)
                                            clear HO_9
                                            clear HO_383004
                                            clear BK380
                                            clear BK381
                                            clear BK382
                                            clear HB
                                            have HO_9 := n0_
                                            have HO_383004 := n1_
                                            have BK380 := n2_
                                            have BK381 := n3_
                                            have BK382 := n4_
                                            have HB := n5_
                                            clear n0_ n1_ n2_ n3_ n4_ n5_
                                            (try clear hb)
                                            (try clear hb2)
                                            (try clear hk)
                                            (try clear hi)
                                            refine hK.out _ _ ⟨(blk_cell BK382.out 0).trans rfl, (blk_cell BK382.out 1).trans rfl, (blk_cell BK382.out 2).trans rfl, (blk_cell BK382.out 3).trans rfl, (blk_cell BK382.out 4).trans rfl, (blk_cell BK382.out 5).trans rfl, HS6_, HS7_⟩ (fun hHeld => ?_)
                                            clear hK K
                                            refine norm_ (a' := ?_) ?_ ?_
                                            rotate_left
                                            · show Act.put _ (some 111) _ = _
                                              simp only [Act.put, List.setIfInBounds_toArray, List.set_cons_zero, List.set_cons_succ, i64_w, i32_w]
                                              rfl
                                            refine pure_ (i := 8) (N := some 103) (v := ?_) (a' := ?_) #[true, true, true, true, true, true, true, true, true, false, false, false, false, false] rfl rfl (any_of HT_.out (by kernel_rfl)) (fun _ _ _ h => h) (Or.inl ⟨by rfl, ?_⟩) ?_ ?_
                                            rotate_left
                                            · intro w'
                                              go_simp
                                              with_reducible rfl
                                            rotate_left
                                            · simp only [Act.put, List.setIfInBounds_toArray, List.set_cons_zero, List.set_cons_succ, i64_w, i32_w]
                                              rfl
                                            refine pure_ (i := 9) (N := some 112) (v := ?_) (a' := ?_) #[true, true, true, true, true, true, true, true, true, true, false, false, false, false] rfl rfl (any_of HT_.out (by kernel_rfl)) (fun _ _ _ h => h) (Or.inl ⟨by rfl, ?_⟩) ?_ ?_
                                            rotate_left
                                            · intro w'
                                              go_simp
                                              with_reducible rfl
                                            rotate_left
                                            · simp only [Act.put, List.setIfInBounds_toArray, List.set_cons_zero, List.set_cons_succ, i64_w, i32_w]
                                              rfl
                                            refine pure_ (i := 10) (N := some 113) (v := ?_) (a' := ?_) #[true, true, true, true, true, true, true, true, true, true, true, false, false, false] rfl rfl (any_of HT_.out (by kernel_rfl)) (fun _ _ _ h => h) (Or.inl ⟨by rfl, ?_⟩) ?_ ?_
                                            rotate_left
                                            · intro w'
                                              go_simp
                                              with_reducible rfl
                                            rotate_left
                                            · simp only [Act.put, List.setIfInBounds_toArray, List.set_cons_zero, List.set_cons_succ, i64_w, i32_w]
                                              rfl
                                            refine one_ (i := 11) (N := some 14) #[true, true, true, true, true, true, true, true, true, true, true, true, false, false] rfl rfl (one_of HT_.out (by kernel_rfl)) (by decide) (fun K hK => ?_)
                                            refine box_step ?hg (N := 14) ?hd (cs := #[.int .u64 0, .int .u64 0, .int .i64 0, .int .u32 0, .int .u32 0, .int .i64 0]) (t := 76) ?hr ?_; (case hd => rfl); (case hg => rfl); (case hr => go_simp; done)
                                            intro gb405 hg w107 hbox hb
                                            have HS6_ := (hb.cell (World.block_lt_of_cell? _ _ (hHeld.2.2.2.2.2.2.1))).trans (hHeld.2.2.2.2.2.2.1)
                                            have HS7_ := (hb.cell (World.block_lt_of_cell? _ _ (hHeld.2.2.2.2.2.2.2))).trans (hHeld.2.2.2.2.2.2.2)
                                            have n0_ := Aside0.mk (Kd.R_below HO_9.out hb)
                                            have n1_ := Aside0.mk (Kd.R_below (Kd.R_elderB HO_383004.out gb405 (Nat.le_of_eq hg.symm)) hb)
                                            have n2_ := Aside0.mk (blk_below (g := gb380) (o := .cells #[.int .u16 a0_0, .string a0_1] 40 (0, 0)) BK380.out hb)
                                            have n3_ := Aside0.mk (blk_below (g := gb381) (o := .cells #[.int .i64 x382000_50, .int .u32 x382001_50, .int .u32 x382002_50, .int .u32 x382003_50, .slice none 0 0, .int .i64 x382005_50] 37 (0, 0)) BK381.out hb)
                                            have n4_ := Aside0.mk (blk_below (g := gb382) (o := .cells #[.int .i64 x383000_1, .int .u32 t385, .int .u32 x383002_28, .int .u32 x383003_28, .slice Ao104 x383004_3.length co104, .int .i64 x383005_50] 37 (0, 0)) BK382.out hb)
                                            have n5_ := Aside0.mk (below_step HB.out hb)
                                            have n6_ := Aside0.mk (hbox)
                                            have n7_ := Aside0.mk ((by rw [hg]; exact (below_size HB.out) : w.heap.size ≤ gb405))
                                            have n8_ := Aside0.mk ((by rw [hg]; exact (below_size HB.out) : w.heap.size ≤ gb405))
                                            have n9_ := Aside0.mk ((by rw [hg]; exact Nat.ne_of_lt (blk_lt (g := gb380) (o := .cells #[.int .u16 a0_0, .string a0_1] 40 (0, 0)) BK380.out) : gb380 ≠ gb405))
                                            have n10_ := Aside0.mk ((by rw [hg]; exact Nat.ne_of_gt (blk_lt (g := gb380) (o := .cells #[.int .u16 a0_0, .string a0_1] 40 (0, 0)) BK380.out) : gb405 ≠ gb380))
                                            have n11_ := Aside0.mk ((by rw [hg]; exact Nat.ne_of_lt (blk_lt (g := gb381) (o := .cells #[.int .i64 x382000_50, .int .u32 x382001_50, .int .u32 x382002_50, .int .u32 x382003_50, .slice none 0 0, .int .i64 x382005_50] 37 (0, 0)) BK381.out) : gb381 ≠ gb405))
                                            have n12_ := Aside0.mk ((by rw [hg]; exact Nat.ne_of_gt (blk_lt (g := gb381) (o := .cells #[.int .i64 x382000_50, .int .u32 x382001_50, .int .u32 x382002_50, .int .u32 x382003_50, .slice none 0 0, .int .i64 x382005_50] 37 (0, 0)) BK381.out) : gb405 ≠ gb381))
                                            have n13_ := Aside0.mk ((by rw [hg]; exact Nat.ne_of_lt (blk_lt (g := gb382) (o := .cells #[.int .i64 x383000_1, .int .u32 t385, .int .u32 x383002_28, .int .u32 x383003_28, .slice Ao104 x383004_3.length co104, .int .i64 x383005_50] 37 (0, 0)) BK382.out) : gb382 ≠ gb405))
                                            have n14_ := Aside0.mk ((by rw [hg]; exact Nat.ne_of_gt (blk_lt (g := gb382) (o := .cells #[.int .i64 x383000_1, .int .u32 t385, .int .u32 x383002_28, .int .u32 x383003_28, .slice Ao104 x383004_3.length co104, .int .i64 x383005_50] 37 (0, 0)) BK382.out) : gb405 ≠ gb382))
                                            clear HO_9
                                            clear HO_383004
                                            clear BK380
                                            clear BK381
                                            clear BK382
                                            clear HB
                                            have HO_9 := n0_
                                            have HO_383004 := n1_
                                            have BK380 := n2_
                                            have BK381 := n3_
                                            have BK382 := n4_
                                            have HB := n5_
                                            have BK405 := n6_
                                            have GW405 := n7_
                                            have GE405 := n8_
                                            have NB380_405 := n9_
                                            have NB405_380 := n10_
                                            have NB381_405 := n11_
                                            have NB405_381 := n12_
                                            have NB382_405 := n13_
                                            have NB405_382 := n14_
                                            clear n0_ n1_ n2_ n3_ n4_ n5_ n6_ n7_ n8_ n9_ n10_ n11_ n12_ n13_ n14_
                                            clear hb hbox hg
                                            refine hK.out _ _ ⟨(blk_cell BK382.out 0).trans rfl, (blk_cell BK382.out 1).trans rfl, (blk_cell BK382.out 2).trans rfl, (blk_cell BK382.out 3).trans rfl, (blk_cell BK382.out 4).trans rfl, (blk_cell BK382.out 5).trans rfl, HS6_, HS7_⟩ (fun hHeld => ?_)
                                            clear hK K
                                            refine norm_ (a' := ?_) ?_ ?_
                                            rotate_left
                                            · show Act.put _ (some 14) _ = _
                                              simp only [Act.put, List.setIfInBounds_toArray, List.set_cons_zero, List.set_cons_succ, i64_w, i32_w]
                                              rfl
                                            exact norm_ (by simp only [putAll, Act.put, List.setIfInBounds_toArray, List.set_cons_zero, List.set_cons_succ]) (hCont (gb405) _ ⟨hHeld, (by exact Kd.R_mono HO_383004.out (fun _ hk => hk.2)), HO_9.out, BK380.out, BK381.out, BK382.out, BK405.out, GW405.out, GE405.out, NB380_405.out, NB405_380.out, NB381_405.out, NB405_381.out, NB382_405.out, NB405_382.out, HB.out⟩)
                                          · skip
                                            refine box_step ?hg (N := 14) ?hd (cs := #[.int .u64 0, .int .u64 0, .int .i64 0, .int .u32 0, .int .u32 0, .int .i64 0]) (t := 76) ?hr ?_; (case hd => rfl); (case hg => rfl); (case hr => go_simp; done)
                                            intro gb405 hg w106 hbox hb
                                            have HS6_ := (hb.cell (World.block_lt_of_cell? _ _ (hHeld.2.2.2.2.2.2.1))).trans (hHeld.2.2.2.2.2.2.1)
                                            have HS7_ := (hb.cell (World.block_lt_of_cell? _ _ (hHeld.2.2.2.2.2.2.2))).trans (hHeld.2.2.2.2.2.2.2)
                                            have n0_ := Aside0.mk (Kd.R_below HO_9.out hb)
                                            have n1_ := Aside0.mk (Kd.R_below (Kd.R_elderB HO_383004.out gb405 (Nat.le_of_eq hg.symm)) hb)
                                            have n2_ := Aside0.mk (blk_below (g := gb380) (o := .cells #[.int .u16 a0_0, .string a0_1] 40 (0, 0)) BK380.out hb)
                                            have n3_ := Aside0.mk (blk_below (g := gb381) (o := .cells #[.int .i64 x382000_50, .int .u32 x382001_50, .int .u32 x382002_50, .int .u32 x382003_50, .slice none 0 0, .int .i64 x382005_50] 37 (0, 0)) BK381.out hb)
                                            have n4_ := Aside0.mk (blk_below (g := gb382) (o := .cells #[.int .i64 x383000_1, .int .u32 t385, .int .u32 x383002_28, .int .u32 x383003_28, .slice Ao104 x383004_3.length co104, .int .i64 x383005_50] 37 (0, 0)) BK382.out hb)
                                            have n5_ := Aside0.mk (below_step HB.out hb)
                                            have n6_ := Aside0.mk (hbox)
                                            have n7_ := Aside0.mk ((by rw [hg]; exact (below_size HB.out) : w.heap.size ≤ gb405))
                                            have n8_ := Aside0.mk ((by rw [hg]; exact (below_size HB.out) : w.heap.size ≤ gb405))
                                            have n9_ := Aside0.mk ((by rw [hg]; exact Nat.ne_of_lt (blk_lt (g := gb380) (o := .cells #[.int .u16 a0_0, .string a0_1] 40 (0, 0)) BK380.out) : gb380 ≠ gb405))
                                            have n10_ := Aside0.mk ((by rw [hg]; exact Nat.ne_of_gt (blk_lt (g := gb380) (o := .cells #[.int .u16 a0_0, .string a0_1] 40 (0, 0)) BK380.out) : gb405 ≠ gb380))
                                            have n11_ := Aside0.mk ((by rw [hg]; exact Nat.ne_of_lt (blk_lt (g := gb381) (o := .cells #[.int .i64 x382000_50, .int .u32 x382001_50, .int .u32 x382002_50, .int .u32 x382003_50, .slice none 0 0, .int .i64 x382005_50] 37 (0, 0)) BK381.out) : gb381 ≠ gb405))
                                            have n12_ := Aside0.mk ((by rw [hg]; exact Nat.ne_of_gt (blk_lt (g := gb381) (o := .cells #[.int .i64 x382000_50, .int .u32 x382001_50, .int .u32 x382002_50, .int .u32 x382003_50, .slice none 0 0, .int .i64 x382005_50] 37 (0, 0)) BK381.out) : gb405 ≠ gb381))
                                            have n13_ := Aside0.mk ((by rw [hg]; exact Nat.ne_of_lt (blk_lt (g := gb382) (o := .cells #[.int .i64 x383000_1, .int .u32 t385, .int .u32 x383002_28, .int .u32 x383003_28, .slice Ao104 x383004_3.length co104, .int .i64 x383005_50] 37 (0, 0)) BK382.out) : gb382 ≠ gb405))
                                            have n14_ := Aside0.mk ((by rw [hg]; exact Nat.ne_of_gt (blk_lt (g := gb382) (o := .cells #[.int .i64 x383000_1, .int .u32 t385, .int .u32 x383002_28, .int .u32 x383003_28, .slice Ao104 x383004_3.length co104, .int .i64 x383005_50] 37 (0, 0)) BK382.out) : gb405 ≠ gb382))
                                            clear HO_9
                                            clear HO_383004
                                            clear BK380
                                            clear BK381
                                            clear BK382
                                            clear HB
                                            have HO_9 := n0_
                                            have HO_383004 := n1_
                                            have BK380 := n2_
                                            have BK381 := n3_
                                            have BK382 := n4_
                                            have HB := n5_
                                            have BK405 := n6_
                                            have GW405 := n7_
                                            have GE405 := n8_
                                            have NB380_405 := n9_
                                            have NB405_380 := n10_
                                            have NB381_405 := n11_
                                            have NB405_381 := n12_
                                            have NB382_405 := n13_
                                            have NB405_382 := n14_
                                            clear n0_ n1_ n2_ n3_ n4_ n5_ n6_ n7_ n8_ n9_ n10_ n11_ n12_ n13_ n14_
                                            clear hb hbox hg
                                            refine hK.out _ _ ⟨(blk_cell BK382.out 0).trans rfl, (blk_cell BK382.out 1).trans rfl, (blk_cell BK382.out 2).trans rfl, (blk_cell BK382.out 3).trans rfl, (blk_cell BK382.out 4).trans rfl, (blk_cell BK382.out 5).trans rfl, HS6_, HS7_⟩ (fun hHeld => ?_)
                                            clear hK K
                                            refine norm_ (a' := ?_) ?_ ?_
                                            rotate_left
                                            · show Act.put _ (some 14) _ = _
                                              simp only [Act.put, List.setIfInBounds_toArray, List.set_cons_zero, List.set_cons_succ, i64_w, i32_w]
                                              rfl
                                            refine one_ (i := 7) (N := some 111) #[true, true, true, true, true, true, true, true, false, false, false, true, false, false] rfl rfl (one_of HT_.out (by kernel_rfl)) (by decide) (fun K hK => ?_)
                                            refine goes_ Try.func61 (by kernel_rfl) rfl #[.int .i64 x383000_1, .string ((rd_T40 t388 x11_3).f1)] (by rfl) rfl rfl (by (try simp only [List.map_toArray, List.map_cons, List.map_nil]); first | rfl) ?_
                                            with_reducible refine (tenancyref15_inner.calls kj50 x383000_1 ((rd_T40 t388 x11_3).f1) t398 t399 t400 t401 t402 t403 t404 _ A76.out).mono ?_
                                            rintro e w107 ⟨rfl, hb⟩
                                            have HS6_ := (hb.cell (World.block_lt_of_cell? _ _ (hHeld.2.2.2.2.2.2.1))).trans (hHeld.2.2.2.2.2.2.1)
                                            have HS7_ := (hb.cell (World.block_lt_of_cell? _ _ (hHeld.2.2.2.2.2.2.2))).trans (hHeld.2.2.2.2.2.2.2)
                                            refine ⟨_, rfl, ?_⟩
                                            have n0_ := Aside0.mk (Kd.R_below HO_9.out hb)
                                            have n1_ := Aside0.mk (Kd.R_below HO_383004.out hb)
                                            have n2_ := Aside0.mk (blk_below (g := gb380) (o := .cells #[.int .u16 a0_0, .string a0_1] 40 (0, 0)) BK380.out hb)
                                            have n3_ := Aside0.mk (blk_below (g := gb381) (o := .cells #[.int .i64 x382000_50, .int .u32 x382001_50, .int .u32 x382002_50, .int .u32 x382003_50, .slice none 0 0, .int .i64 x382005_50] 37 (0, 0)) BK381.out hb)
                                            have n4_ := Aside0.mk (blk_below (g := gb382) (o := .cells #[.int .i64 x383000_1, .int .u32 t385, .int .u32 x383002_28, .int .u32 x383003_28, .slice Ao104 x383004_3.length co104, .int .i64 x383005_50] 37 (0, 0)) BK382.out hb)
                                            have n5_ := Aside0.mk (blk_below (g := gb405) (o := .cells #[.int .u64 0, .int .u64 0, .int .i64 0, .int .u32 0, .int .u32 0, .int .i64 0] 76 (0, 0)) BK405.out hb)
                                            have n6_ := Aside0.mk (below_step HB.out hb)
                                            clear HO_9
                                            clear HO_383004
                                            clear BK380
                                            clear BK381
                                            clear BK382
                                            clear BK405
                                            clear HB
                                            have HO_9 := n0_
                                            have HO_383004 := n1_
                                            have BK380 := n2_
                                            have BK381 := n3_
                                            have BK382 := n4_
                                            have BK405 := n5_
                                            have HB := n6_
                                            clear n0_ n1_ n2_ n3_ n4_ n5_ n6_
                                            (try clear hb)
                                            (try clear hb2)
                                            (try clear hk)
                                            (try clear hi)
                                            refine hK.out _ _ ⟨(blk_cell BK382.out 0).trans rfl, (blk_cell BK382.out 1).trans rfl, (blk_cell BK382.out 2).trans rfl, (blk_cell BK382.out 3).trans rfl, (blk_cell BK382.out 4).trans rfl, (blk_cell BK382.out 5).trans rfl, HS6_, HS7_⟩ (fun hHeld => ?_)
                                            clear hK K
                                            refine norm_ (a' := ?_) ?_ ?_
                                            rotate_left
                                            · show Act.put _ (some 111) _ = _
                                              simp only [Act.put, List.setIfInBounds_toArray, List.set_cons_zero, List.set_cons_succ, i64_w, i32_w]
                                              rfl
                                            refine pure_ (i := 8) (N := some 103) (v := ?_) (a' := ?_) #[true, true, true, true, true, true, true, true, true, false, false, true, false, false] rfl rfl (any_of HT_.out (by kernel_rfl)) (fun _ _ _ h => h) (Or.inl ⟨by rfl, ?_⟩) ?_ ?_
                                            rotate_left
                                            · intro w'
                                              go_simp
                                              with_reducible rfl
                                            rotate_left
                                            · simp only [Act.put, List.setIfInBounds_toArray, List.set_cons_zero, List.set_cons_succ, i64_w, i32_w]
                                              rfl
                                            refine pure_ (i := 9) (N := some 112) (v := ?_) (a' := ?_) #[true, true, true, true, true, true, true, true, true, true, false, true, false, false] rfl rfl (any_of HT_.out (by kernel_rfl)) (fun _ _ _ h => h) (Or.inl ⟨by rfl, ?_⟩) ?_ ?_
                                            rotate_left
                                            · intro w'
                                              go_simp
                                              with_reducible rfl
                                            rotate_left
                                            · simp only [Act.put, List.setIfInBounds_toArray, List.set_cons_zero, List.set_cons_succ, i64_w, i32_w]
                                              rfl
                                            refine pure_ (i := 10) (N := some 113) (v := ?_) (a' := ?_) #[true, true, true, true, true, true, true, true, true, true, true, true, false, false] rfl rfl (any_of HT_.out (by kernel_rfl)) (fun _ _ _ h => h) (Or.inl ⟨by rfl, ?_⟩) ?_ ?_
                                            rotate_left
                                            · intro w'
                                              go_simp
                                              with_reducible rfl
                                            rotate_left
                                            · simp only [Act.put, List.setIfInBounds_toArray, List.set_cons_zero, List.set_cons_succ, i64_w, i32_w]
                                              rfl
                                            exact norm_ (by simp only [putAll, Act.put, List.setIfInBounds_toArray, List.set_cons_zero, List.set_cons_succ]) (hCont (gb405) _ ⟨hHeld, (by exact Kd.R_mono HO_383004.out (fun _ hk => hk.2)), HO_9.out, BK380.out, BK381.out, BK382.out, BK405.out, GW405.out, GE405.out, NB380_405.out, NB405_380.out, NB381_405.out, NB405_381.out, NB382_405.out, NB405_382.out, HB.out⟩)
                                        rintro gb405 w108 ⟨hS_, h0_, h1_, h2_, h3_, h4_, h5_, h6_, h7_, h8_, h9_, h10_, h11_, h12_, h13_, h14_⟩
                                        have n0_ : Aside0 (Kd.R k76 76 w108 w.heap.size (fun k_ => k_ ≠ gb405) (.slice Ao104 x383004_3.length co104) x383004_3) := ⟨h0_⟩
                                        have n1_ : Aside0 (Kd.R k40 40 w108 w.heap.size (fun k_ => k_ ≠ gb380) (.slice (some ad392) t388.length co52) t388) := ⟨h1_⟩
                                        have n2_ : Aside0 (w108.heap[gb380]? = some (.cells #[.int .u16 a0_0, .string a0_1] 40 (0, 0))) := ⟨h2_⟩
                                        have n3_ : Aside0 (w108.heap[gb381]? = some (.cells #[.int .i64 x382000_50, .int .u32 x382001_50, .int .u32 x382002_50, .int .u32 x382003_50, .slice none 0 0, .int .i64 x382005_50] 37 (0, 0))) := ⟨h3_⟩
                                        have n4_ : Aside0 (w108.heap[gb382]? = some (.cells #[.int .i64 x383000_1, .int .u32 t385, .int .u32 x383002_28, .int .u32 x383003_28, .slice Ao104 x383004_3.length co104, .int .i64 x383005_50] 37 (0, 0))) := ⟨h4_⟩
                                        have n5_ : Aside0 (w108.heap[gb405]? = some (.cells #[.int .u64 0, .int .u64 0, .int .i64 0, .int .u32 0, .int .u32 0, .int .i64 0] 76 (0, 0))) := ⟨h5_⟩
                                        have n6_ : Aside0 (w.heap.size ≤ gb405) := ⟨h6_⟩
                                        have n7_ : Aside0 (w.heap.size ≤ gb405) := ⟨h7_⟩
                                        have n8_ : Aside0 (gb380 ≠ gb405) := ⟨h8_⟩
                                        have n9_ : Aside0 (gb405 ≠ gb380) := ⟨h9_⟩
                                        have n10_ : Aside0 (gb381 ≠ gb405) := ⟨h10_⟩
                                        have n11_ : Aside0 (gb405 ≠ gb381) := ⟨h11_⟩
                                        have n12_ : Aside0 (gb382 ≠ gb405) := ⟨h12_⟩
                                        have n13_ : Aside0 (gb405 ≠ gb382) := ⟨h13_⟩
                                        have n14_ : Aside0 (Below w.heap.size w w108) := ⟨h14_⟩
                                        clear HO_9
                                        clear HO_383004
                                        clear BK380
                                        clear BK381
                                        clear BK382
                                        clear HB
                                        clear h0_ h1_ h2_ h3_ h4_ h5_ h6_ h7_ h8_ h9_ h10_ h11_ h12_ h13_ h14_
                                        have HO_383004 := n0_
                                        have HO_9 := n1_
                                        have BK380 := n2_
                                        have BK381 := n3_
                                        have BK382 := n4_
                                        have BK405 := n5_
                                        have GW405 := n6_
                                        have GE405 := n7_
                                        have NB380_405 := n8_
                                        have NB405_380 := n9_
                                        have NB381_405 := n10_
                                        have NB405_381 := n11_
                                        have NB382_405 := n12_
                                        have NB405_382 := n13_
                                        have HB := n14_
                                        clear n0_ n1_ n2_ n3_ n4_ n5_ n6_ n7_ n8_ n9_ n10_ n11_ n12_ n13_ n14_
                                        have hHeld : w108.cell? ⟨gb382, 0, none⟩ = some (.int .i64 x383000_1) ∧ w108.cell? ⟨gb382, 1, none⟩ = some (.int .u32 t385) ∧ w108.cell? ⟨gb382, 2, none⟩ = some (.int .u32 x383002_28) ∧ w108.cell? ⟨gb382, 3, none⟩ = some (.int .u32 x383003_28) ∧ w108.cell? ⟨gb382, 4, none⟩ = some (.slice Ao104 x383004_3.length co104) ∧ w108.cell? ⟨gb382, 5, none⟩ = some (.int .i64 x383005_50) ∧ w108.cell? (ad392.add ((x11_3).toNat * 2)) = some (.int .u16 ((rd_T40 t388 x11_3).f0)) ∧ w108.cell? ⟨(ad392.add ((x11_3).toNat * 2)).block, (ad392.add ((x11_3).toNat * 2)).off + 1, none⟩ = some (.string ((rd_T40 t388 x11_3).f1)) := hS_
                                        refine norm_ (a' := ?_) ?_ ?_
                                        rotate_left
                                        · simp only [putAll, Act.put, List.setIfInBounds_toArray, List.set_cons_zero, List.set_cons_succ]
                                          rfl
                                        refine one_ (i := 12) (N := none) #[true, true, true, true, true, true, true, true, true, true, true, true, true, false] rfl rfl (one_of HT_.out (by kernel_rfl)) (by decide) (fun K hK => ?_)
                                        have hs109 : w108.cell? ⟨gb405, 0, none⟩ = some (.int .u64 0) := (blk_cell BK405.out 0).trans rfl
                                        have hfs109 := blk_frozen BK405.out 0
                                        have hns109_0 := NB380_405.out
                                        have hns109_1 := NB381_405.out
                                        have hns109_2 := NB382_405.out
                                        have hms109_0 := NB405_380.out
                                        have hms109_1 := NB405_381.out
                                        have hms109_2 := NB405_382.out
                                        have hs110 : w108.cell? ⟨gb405, 1, none⟩ = some (.int .u64 0) := (blk_cell BK405.out 1).trans rfl
                                        have hfs110 := blk_frozen BK405.out 1
                                        have hns110_0 := NB380_405.out
                                        have hns110_1 := NB381_405.out
                                        have hns110_2 := NB382_405.out
                                        have hms110_0 := NB405_380.out
                                        have hms110_1 := NB405_381.out
                                        have hms110_2 := NB405_382.out
                                        have hs111 : w108.cell? ⟨gb405, 2, none⟩ = some (.int .i64 0) := (blk_cell BK405.out 2).trans rfl
                                        have hfs111 := blk_frozen BK405.out 2
                                        have hns111_0 := NB380_405.out
                                        have hns111_1 := NB381_405.out
                                        have hns111_2 := NB382_405.out
                                        have hms111_0 := NB405_380.out
                                        have hms111_1 := NB405_381.out
                                        have hms111_2 := NB405_382.out
                                        have hs112 : w108.cell? ⟨gb405, 3, none⟩ = some (.int .u32 0) := (blk_cell BK405.out 3).trans rfl
                                        have hfs112 := blk_frozen BK405.out 3
                                        have hns112_0 := NB380_405.out
                                        have hns112_1 := NB381_405.out
                                        have hns112_2 := NB382_405.out
                                        have hms112_0 := NB405_380.out
                                        have hms112_1 := NB405_381.out
                                        have hms112_2 := NB405_382.out
                                        have hs113 : w108.cell? ⟨gb405, 4, none⟩ = some (.int .u32 0) := (blk_cell BK405.out 4).trans rfl
                                        have hfs113 := blk_frozen BK405.out 4
                                        have hns113_0 := NB380_405.out
                                        have hns113_1 := NB381_405.out
                                        have hns113_2 := NB382_405.out
                                        have hms113_0 := NB405_380.out
                                        have hms113_1 := NB405_381.out
                                        have hms113_2 := NB405_382.out
                                        have hs114 : w108.cell? ⟨gb405, 5, none⟩ = some (.int .i64 0) := (blk_cell BK405.out 5).trans rfl
                                        have hfs114 := blk_frozen BK405.out 5
                                        have hns114_0 := NB380_405.out
                                        have hns114_1 := NB381_405.out
                                        have hns114_2 := NB382_405.out
                                        have hms114_0 := NB405_380.out
                                        have hms114_1 := NB405_381.out
                                        have hms114_2 := NB405_382.out
                                        refine skip_ (w1 := ?_) (by rfl) rfl ?_ ?_
                                        rotate_left
                                        · go_simp
                                          rfl
                                        refine hK.out _ _ ⟨((cell_far (p := ⟨gb405, _, none⟩) NB382_405.out _).trans (((cell_far (p := ⟨gb405, _, none⟩) NB382_405.out _).trans (((cell_far (p := ⟨gb405, _, none⟩) NB382_405.out _).trans (((cell_far (p := ⟨gb405, _, none⟩) NB382_405.out _).trans (((cell_far (p := ⟨gb405, _, none⟩) NB382_405.out _).trans (((cell_far (p := ⟨gb405, _, none⟩) NB382_405.out _).trans (hHeld.1)))))))))))), ((cell_far (p := ⟨gb405, _, none⟩) NB382_405.out _).trans (((cell_far (p := ⟨gb405, _, none⟩) NB382_405.out _).trans (((cell_far (p := ⟨gb405, _, none⟩) NB382_405.out _).trans (((cell_far (p := ⟨gb405, _, none⟩) NB382_405.out _).trans (((cell_far (p := ⟨gb405, _, none⟩) NB382_405.out _).trans (((cell_far (p := ⟨gb405, _, none⟩) NB382_405.out _).trans (hHeld.2.1)))))))))))), ((cell_far (p := ⟨gb405, _, none⟩) NB382_405.out _).trans (((cell_far (p := ⟨gb405, _, none⟩) NB382_405.out _).trans (((cell_far (p := ⟨gb405, _, none⟩) NB382_405.out _).trans (((cell_far (p := ⟨gb405, _, none⟩) NB382_405.out _).trans (((cell_far (p := ⟨gb405, _, none⟩) NB382_405.out _).trans (((cell_far (p := ⟨gb405, _, none⟩) NB382_405.out _).trans (hHeld.2.2.1)))))))))))), ((cell_far (p := ⟨gb405, _, none⟩) NB382_405.out _).trans (((cell_far (p := ⟨gb405, _, none⟩) NB382_405.out _).trans (((cell_far (p := ⟨gb405, _, none⟩) NB382_405.out _).trans (((cell_far (p := ⟨gb405, _, none⟩) NB382_405.out _).trans (((cell_far (p := ⟨gb405, _, none⟩) NB382_405.out _).trans (((cell_far (p := ⟨gb405, _, none⟩) NB382_405.out _).trans (hHeld.2.2.2.1)))))))))))), ((cell_far (p := ⟨gb405, _, none⟩) NB382_405.out _).trans (((cell_far (p := ⟨gb405, _, none⟩) NB382_405.out _).trans (((cell_far (p := ⟨gb405, _, none⟩) NB382_405.out _).trans (((cell_far (p := ⟨gb405, _, none⟩) NB382_405.out _).trans (((cell_far (p := ⟨gb405, _, none⟩) NB382_405.out _).trans (((cell_far (p := ⟨gb405, _, none⟩) NB382_405.out _).trans (hHeld.2.2.2.2.1)))))))))))), ((cell_far (p := ⟨gb405, _, none⟩) NB382_405.out _).trans (((cell_far (p := ⟨gb405, _, none⟩) NB382_405.out _).trans (((cell_far (p := ⟨gb405, _, none⟩) NB382_405.out _).trans (((cell_far (p := ⟨gb405, _, none⟩) NB382_405.out _).trans (((cell_far (p := ⟨gb405, _, none⟩) NB382_405.out _).trans (((cell_far (p := ⟨gb405, _, none⟩) NB382_405.out _).trans (hHeld.2.2.2.2.2.1)))))))))))), ((cell_far (p := ⟨gb405, _, none⟩) (by first | (rw [add_block]; exact Kd.own_blk (Kd.R_ne HO_9.out BK405.out (by decide)))) _).trans (((cell_far (p := ⟨gb405, _, none⟩) (by first | (rw [add_block]; exact Kd.own_blk (Kd.R_ne HO_9.out BK405.out (by decide)))) _).trans (((cell_far (p := ⟨gb405, _, none⟩) (by first | (rw [add_block]; exact Kd.own_blk (Kd.R_ne HO_9.out BK405.out (by decide)))) _).trans (((cell_far (p := ⟨gb405, _, none⟩) (by first | (rw [add_block]; exact Kd.own_blk (Kd.R_ne HO_9.out BK405.out (by decide)))) _).trans (((cell_far (p := ⟨gb405, _, none⟩) (by first | (rw [add_block]; exact Kd.own_blk (Kd.R_ne HO_9.out BK405.out (by decide)))) _).trans (((cell_far (p := ⟨gb405, _, none⟩) (by first | (rw [add_block]; exact Kd.own_blk (Kd.R_ne HO_9.out BK405.out (by decide)))) _).trans (hHeld.2.2.2.2.2.2.1)))))))))))), ((cell_far (p := ⟨gb405, _, none⟩) (by first | (rw [add_block]; exact Kd.own_blk (Kd.R_ne HO_9.out BK405.out (by decide)))) _).trans (((cell_far (p := ⟨gb405, _, none⟩) (by first | (rw [add_block]; exact Kd.own_blk (Kd.R_ne HO_9.out BK405.out (by decide)))) _).trans (((cell_far (p := ⟨gb405, _, none⟩) (by first | (rw [add_block]; exact Kd.own_blk (Kd.R_ne HO_9.out BK405.out (by decide)))) _).trans (((cell_far (p := ⟨gb405, _, none⟩) (by first | (rw [add_block]; exact Kd.own_blk (Kd.R_ne HO_9.out BK405.out (by decide)))) _).trans (((cell_far (p := ⟨gb405, _, none⟩) (by first | (rw [add_block]; exact Kd.own_blk (Kd.R_ne HO_9.out BK405.out (by decide)))) _).trans (((cell_far (p := ⟨gb405, _, none⟩) (by first | (rw [add_block]; exact Kd.own_blk (Kd.R_ne HO_9.out BK405.out (by decide)))) _).trans (hHeld.2.2.2.2.2.2.2))))))))))))⟩ (fun hHeld => ?_)
                                        clear hK K
                                        refine pure_ (i := 13) (N := some 15) (v := ?_) (a' := ?_) #[true, true, true, true, true, true, true, true, true, true, true, true, true, true] rfl rfl (any_of HT_.out (by kernel_rfl)) (fun _ _ _ h => h) (Or.inl ⟨by rfl, ?_⟩) ?_ ?_
                                        rotate_left
                                        · intro w'
                                          go_simp
                                          with_reducible rfl
                                        rotate_left
                                        · simp only [Act.put, List.setIfInBounds_toArray, List.set_cons_zero, List.set_cons_succ, i64_w, i32_w]
                                          rfl
                                        refine done_ (done_of HT_.out (by kernel_rfl)) ?_
                                        have hnb115 := NB381_380.out
                                        have hnc115 := NB380_381.out
                                        have hnb116 := NB381_405.out
                                        have hnc116 := NB405_381.out
                                        obtain ⟨hcz117_0, hcz117_1, hcz117_2, hcz117_3, hcz117_4, hcz117_5⟩ := XRun.bc6 BK381.out
                                        obtain ⟨hfz117_0, hfz117_1, hfz117_2, hfz117_3, hfz117_4, hfz117_5⟩ := XRun.bf6 BK381.out
                                        try go_wp2
                                        refine bodyPost_ret (results_ct rfl _ _ gb381 37 #[.int .i64 0, .int .u32 0, .int .u32 0, .int .u32 0, .slice none 0 0, .int .i64 0] (0, 0) _ rfl (by refine blk_put (cs := #[.int .i64 0, .int .u32 0, .int .u32 0, .int .u32 0, .slice none 0 0, .int .i64 x382005_50]) ?_ 5 _ rfl; refine blk_put (cs := #[.int .i64 0, .int .u32 0, .int .u32 0, .int .u32 0, .slice none 0 0, .int .i64 x382005_50]) ?_ 4 _ rfl; refine blk_put (cs := #[.int .i64 0, .int .u32 0, .int .u32 0, .int .u32 x382003_50, .slice none 0 0, .int .i64 x382005_50]) ?_ 3 _ rfl; refine blk_put (cs := #[.int .i64 0, .int .u32 0, .int .u32 x382002_50, .int .u32 x382003_50, .slice none 0 0, .int .i64 x382005_50]) ?_ 2 _ rfl; refine blk_put (cs := #[.int .i64 0, .int .u32 x382001_50, .int .u32 x382002_50, .int .u32 x382003_50, .slice none 0 0, .int .i64 x382005_50]) ?_ 1 _ rfl; refine blk_put (cs := #[.int .i64 x382000_50, .int .u32 x382001_50, .int .u32 x382002_50, .int .u32 x382003_50, .slice none 0 0, .int .i64 x382005_50]) ?_ 0 _ rfl; refine blk_far ?_ NB381_405.out _; refine blk_far ?_ NB381_405.out _; refine blk_far ?_ NB381_405.out _; refine blk_far ?_ NB381_405.out _; refine blk_far ?_ NB381_405.out _; refine blk_far ?_ NB381_405.out _; exact BK381.out) Try.underlying37 rfl (by kernel_rfl)) rfl ?_
                                        exact ⟨_, by rfl, by first | exact Kd.R_nil _ _ _ _ _, by repeat (first | (with_reducible first | exact HB.out | refine below_set ?_ GE381.out | refine below_set ?_ GE405.out))⟩
                                  · rw [if_neg c68] at H
                                    have c68b0 : (((rd_T40 t388 x11_3).f0) == x6_1) = false := beq_eq_false_iff_ne.mpr c68
                                    have c68b1 : (((rd_T40 t388 x11_3).f0) != x6_1) = true := bne_iff_ne.mpr c68
                                    have H' := Aside0.mk H
                                    clear H
                                    have p396 : 0 ≤ (x11_3 : Int) := of_decide_eq_true (by first | (with_reducible assumption))
                                    have q396 : x11_3 < (t388.length : Int) := of_decide_eq_true (by first | (with_reducible assumption))
                                    obtain ⟨ad396, e396, hx396_0, hx396_1⟩ := at_T40 (Kd.R_reads' HO_9.out).2.2 x11_3 p396 q396
                                    obtain rfl : ad392 = ad396 := (by injection e396)
                                    replace p396 := eq_true p396
                                    replace q396 := eq_true q396
                                    go_wp2
                                    go_roundg kj50
                                    case measure => have := HJ1.out; have := HJ28.out; have := HK3.out; have := HJ50.out; omega
                                    case rel => exact ⟨(wrap64 (x11_3 + 1)), (x382000_50), (x382001_50), (x382002_50), (x382003_50), (x382005_50), (x383004_3), (x383005_50), (u383004), (by rfl), H', ⟨by have := HJ1.out; have := HJ28.out; have := HK3.out; have := HJ50.out; omega⟩, ⟨by exact HO_9.out⟩, ⟨by exact HO_383004.out⟩, ⟨by exact BK380.out⟩, ⟨by exact BK381.out⟩, ⟨by exact BK382.out⟩, ⟨by exact HB.out⟩⟩
                                · rw [if_neg c67] at H
                                  exact absurd H (by simp)
                              · rw [if_neg c66] at H
                                exact absurd H (by simp)
                        · rw [if_neg c50] at H
                          exact absurd H (by simp)
                      · rw [if_neg c49] at H
                        have c49b0 : decide (x11_3 < (t388.length : Int)) = false := decide_eq_false c49
                        clear c49
                        simp only [Option.some.injEq, Prod.mk.injEq] at H
                        obtain ⟨rfl, rfl, rfl, rfl, rfl, rfl, rfl⟩ := H
                        obtain ⟨Ao118, co118, eo118⟩ := Kd.R_slice HO_9.out
                        subst eo118
                        have hnb119 := NB382_380.out
                        have hnc119 := NB380_382.out
                        have hnb120 := NB382_381.out
                        have hnc120 := NB381_382.out
                        obtain ⟨hcz121_0, hcz121_1, hcz121_2, hcz121_3, hcz121_4, hcz121_5⟩ := XRun.bc6 BK382.out
                        obtain ⟨hfz121_0, hfz121_1, hfz121_2, hfz121_3, hfz121_4, hfz121_5⟩ := XRun.bf6 BK382.out
                        have hnb122 := NB381_380.out
                        have hnc122 := NB380_381.out
                        obtain ⟨hcz123_0, hcz123_1, hcz123_2, hcz123_3, hcz123_4, hcz123_5⟩ := XRun.bc6 BK381.out
                        obtain ⟨hfz123_0, hfz123_1, hfz123_2, hfz123_3, hfz123_4, hfz123_5⟩ := XRun.bf6 BK381.out
                        obtain ⟨Ao124, co124, eo124⟩ := Kd.R_slice HO_383004.out
                        subst eo124
                        go_wp2
                        refine bodyPost_ret (results_ct rfl _ _ gb381 37 #[.int .i64 x383000_1, .int .u32 t385, .int .u32 x383002_28, .int .u32 x383003_28, .slice Ao124 x383004_3.length co124, .int .i64 x383005_3] (0, 0) _ rfl (by refine blk_put (cs := #[.int .i64 x383000_1, .int .u32 t385, .int .u32 x383002_28, .int .u32 x383003_28, .slice Ao124 x383004_3.length co124, .int .i64 x382005_3]) ?_ 5 _ rfl; refine blk_put (cs := #[.int .i64 x383000_1, .int .u32 t385, .int .u32 x383002_28, .int .u32 x383003_28, .slice none 0 0, .int .i64 x382005_3]) ?_ 4 _ rfl; refine blk_put (cs := #[.int .i64 x383000_1, .int .u32 t385, .int .u32 x383002_28, .int .u32 x382003_3, .slice none 0 0, .int .i64 x382005_3]) ?_ 3 _ rfl; refine blk_put (cs := #[.int .i64 x383000_1, .int .u32 t385, .int .u32 x382002_3, .int .u32 x382003_3, .slice none 0 0, .int .i64 x382005_3]) ?_ 2 _ rfl; refine blk_put (cs := #[.int .i64 x383000_1, .int .u32 x382001_3, .int .u32 x382002_3, .int .u32 x382003_3, .slice none 0 0, .int .i64 x382005_3]) ?_ 1 _ rfl; refine blk_put (cs := #[.int .i64 x382000_3, .int .u32 x382001_3, .int .u32 x382002_3, .int .u32 x382003_3, .slice none 0 0, .int .i64 x382005_3]) ?_ 0 _ rfl; exact BK381.out) Try.underlying37 rfl (by kernel_rfl)) rfl ?_
                        exact ⟨_, by rfl, by exact Kd.R_mono (Kd.R_far (p := ⟨gb381, 5, none⟩) (Kd.R_far (p := ⟨gb381, 4, none⟩) (Kd.R_far (p := ⟨gb381, 3, none⟩) (Kd.R_far (p := ⟨gb381, 2, none⟩) (Kd.R_far (p := ⟨gb381, 1, none⟩) (Kd.R_far (p := ⟨gb381, 0, none⟩) (Kd.R_types HO_383004.out BK381.out (by decide)) (fun _ hk => hk.2) (.int .i64 x383000_1)) (fun _ hk => hk.2) (.int .u32 t385)) (fun _ hk => hk.2) (.int .u32 x383002_28)) (fun _ hk => hk.2) (.int .u32 x383003_28)) (fun _ hk => hk.2) (.slice Ao124 x383004_3.length co124)) (fun _ hk => hk.2) (.int .i64 x383005_3)) (fun _ hk => trivial), by repeat (first | (with_reducible first | exact HB.out | refine below_set ?_ GE381.out))⟩
                · rw [if_neg c44] at H
                  have c44b0 : (t389 == 0) = false := beq_eq_false_iff_ne.mpr c44
                  have c44b1 : (t389 != 0) = true := bne_iff_ne.mpr c44
                  simp only [Option.some.injEq, Prod.mk.injEq] at H
                  obtain ⟨rfl, rfl, rfl, rfl, rfl, rfl, rfl⟩ := H
                  have hnb125 := NB380_381.out
                  have hnc125 := NB381_380.out
                  have hnb126 := NB380_382.out
                  have hnc126 := NB382_380.out
                  obtain ⟨hcz127_0, hcz127_1⟩ := XRun.bc2 BK380.out
                  obtain ⟨hfz127_0, hfz127_1⟩ := XRun.bf2 BK380.out
                  go_wp2_with (first | ((with_reducible refine gate_callee (f := 11) rfl ?_); refine goesL_ (some 55) rfl rfl Try.func11 (by kernel_rfl) rfl #[.string (a0_1.extract (x5_1 : Int).toNat a0_1.size)] rfl (by (try simp only [List.map_toArray, List.map_cons, List.map_nil]); first | rfl) ?_; (with_reducible refine (tenancyref15_Parse.calls kj28 (a0_1.extract (x5_1 : Int).toNat a0_1.size) t388 t389 _ A43.out).mono ?_); rintro e w128 ⟨v390, rfl, ho0, hb⟩; refine ⟨_, rfl, ?_⟩; have n0_ := Aside0.mk (Kd.R_lower (Kd.R_newB ho0 (g := gb380) (o := .cells #[.int .u16 a0_0, .string a0_1] 40 (0, 0)) BK380.out) (below_size HB.out)); have n1_ := Aside0.mk (blk_below (g := gb380) (o := .cells #[.int .u16 a0_0, .string a0_1] 40 (0, 0)) BK380.out hb); have n2_ := Aside0.mk (blk_below (g := gb381) (o := .cells #[.int .i64 x382000_1, .int .u32 x382001_1, .int .u32 x382002_1, .int .u32 x382003_1, .slice none 0 0, .int .i64 x382005_1] 37 (0, 0)) BK381.out hb); have n3_ := Aside0.mk (blk_below (g := gb382) (o := .cells #[.int .i64 x383000_1, .int .u32 t385, .int .u32 x383002_28, .int .u32 x383003_28, .slice none 0 0, .int .i64 (-1)] 37 (0, 0)) BK382.out hb); have n4_ := Aside0.mk (below_step HB.out hb); clear BK380; clear BK381; clear BK382; clear HB; have HO391 := n0_; have BK380 := n1_; have BK381 := n2_; have BK382 := n3_; have HB := n4_; clear n0_ n1_ n2_ n3_ n4_; (try clear hb); (try clear hb2); (try clear hk); (try clear hi); (try clear ho0); have hnb129 := NB381_382.out; have hnc129 := NB382_381.out; obtain ⟨hcz130_0, hcz130_1, hcz130_2, hcz130_3, hcz130_4, hcz130_5⟩ := XRun.bc6 BK381.out; obtain ⟨hfz130_0, hfz130_1, hfz130_2, hfz130_3, hfz130_4, hfz130_5⟩ := XRun.bf6 BK381.out))
                  refine bodyPost_ret (results_ct rfl _ _ gb381 37 #[.int .i64 0, .int .u32 0, .int .u32 0, .int .u32 0, .slice none 0 0, .int .i64 0] (0, 0) _ rfl (by refine blk_put (cs := #[.int .i64 0, .int .u32 0, .int .u32 0, .int .u32 0, .slice none 0 0, .int .i64 x382005_1]) ?_ 5 _ rfl; refine blk_put (cs := #[.int .i64 0, .int .u32 0, .int .u32 0, .int .u32 0, .slice none 0 0, .int .i64 x382005_1]) ?_ 4 _ rfl; refine blk_put (cs := #[.int .i64 0, .int .u32 0, .int .u32 0, .int .u32 x382003_1, .slice none 0 0, .int .i64 x382005_1]) ?_ 3 _ rfl; refine blk_put (cs := #[.int .i64 0, .int .u32 0, .int .u32 x382002_1, .int .u32 x382003_1, .slice none 0 0, .int .i64 x382005_1]) ?_ 2 _ rfl; refine blk_put (cs := #[.int .i64 0, .int .u32 x382001_1, .int .u32 x382002_1, .int .u32 x382003_1, .slice none 0 0, .int .i64 x382005_1]) ?_ 1 _ rfl; refine blk_put (cs := #[.int .i64 x382000_1, .int .u32 x382001_1, .int .u32 x382002_1, .int .u32 x382003_1, .slice none 0 0, .int .i64 x382005_1]) ?_ 0 _ rfl; exact BK381.out) Try.underlying37 rfl (by kernel_rfl)) rfl ?_
                  exact ⟨_, by rfl, by first | exact Kd.R_nil _ _ _ _ _, by repeat (first | (with_reducible first | exact HB.out | refine below_set ?_ GE381.out))⟩
              · rw [if_neg c42] at H
                exact absurd H (by simp)
            · rw [if_neg c41] at H
              exact absurd H (by simp)
      · replace c27 := Bool.eq_false_iff.mpr c27
        subst c27
        have H1 : (some (0, 0, 0, 0, ([] : List (S76)), 0, 3)) = some (r1, r2, r3, r4, r5, r6, r7) := by rw [if_neg (show ¬ (false = true) by decide)] at H; exact H
        clear H
        have H := H1
        clear H1
        simp only [Option.some.injEq, Prod.mk.injEq] at H
        obtain ⟨rfl, rfl, rfl, rfl, rfl, rfl, rfl⟩ := H
        have hnb131 := NB380_381.out
        have hnc131 := NB381_380.out
        have hnb132 := NB380_382.out
        have hnc132 := NB382_380.out
        obtain ⟨hcz133_0, hcz133_1⟩ := XRun.bc2 BK380.out
        obtain ⟨hfz133_0, hfz133_1⟩ := XRun.bf2 BK380.out
        go_wp2_with (first | ((with_reducible refine gate_callee (f := 59) rfl ?_); refine goesL_ (some 33) rfl rfl Try.func59 (by kernel_rfl) rfl #[.string a0_1, .int .i64 0, .int .i64 x5_1] rfl (by (try simp only [List.map_toArray, List.map_cons, List.map_nil]); first | rfl) ?_; (with_reducible refine (tenancyref04_Cut.calls a0_1 0 x5_1 t383 false _ A26.out).mono ?_); rintro e w' ⟨rfl, ⟨nd, rfl⟩⟩; refine ⟨_, rfl, ?_⟩; (try (rw [drewN_self wc]; generalize hq_ : World.drewN wc _ = wc; have n0_ : Aside0 (wc.heap[gb380]? = some (.cells #[.int .u16 a0_0, .string a0_1] 40 (0, 0))) := ⟨by rw [← hq_]; exact (by (with_reducible repeat (first | refine blk_drewN ?_ _)); exact BK380.out)⟩; have n1_ : Aside0 (wc.heap[gb381]? = some (.cells #[.int .i64 x382000_1, .int .u32 x382001_1, .int .u32 x382002_1, .int .u32 x382003_1, .slice none 0 0, .int .i64 x382005_1] 37 (0, 0))) := ⟨by rw [← hq_]; exact (by (with_reducible repeat (first | refine blk_drewN ?_ _)); exact BK381.out)⟩; have n2_ : Aside0 (wc.heap[gb382]? = some (.cells #[.int .i64 x383000_1, .int .u32 0, .int .u32 0, .int .u32 0, .slice none 0 0, .int .i64 (-1)] 37 (0, 0))) := ⟨by rw [← hq_]; exact (by (with_reducible repeat (first | refine blk_drewN ?_ _)); exact BK382.out)⟩; have n3_ : Aside0 (Below w.heap.size w wc) := ⟨by rw [← hq_]; exact (by repeat (first | (with_reducible first | exact HB.out | apply pw_below_drewN)))⟩; clear BK380 BK381 BK382 HB hq_; have BK380 := n0_; have BK381 := n1_; have BK382 := n2_; have HB := n3_; clear n0_ n1_ n2_ n3_)); have hnb134 := NB381_382.out; have hnc134 := NB382_381.out; obtain ⟨hcz135_0, hcz135_1, hcz135_2, hcz135_3, hcz135_4, hcz135_5⟩ := XRun.bc6 BK381.out; obtain ⟨hfz135_0, hfz135_1, hfz135_2, hfz135_3, hfz135_4, hfz135_5⟩ := XRun.bf6 BK381.out))
        refine bodyPost_ret (results_ct rfl _ _ gb381 37 #[.int .i64 0, .int .u32 0, .int .u32 0, .int .u32 0, .slice none 0 0, .int .i64 0] (0, 0) _ rfl (by refine blk_put (cs := #[.int .i64 0, .int .u32 0, .int .u32 0, .int .u32 0, .slice none 0 0, .int .i64 x382005_1]) ?_ 5 _ rfl; refine blk_put (cs := #[.int .i64 0, .int .u32 0, .int .u32 0, .int .u32 0, .slice none 0 0, .int .i64 x382005_1]) ?_ 4 _ rfl; refine blk_put (cs := #[.int .i64 0, .int .u32 0, .int .u32 0, .int .u32 x382003_1, .slice none 0 0, .int .i64 x382005_1]) ?_ 3 _ rfl; refine blk_put (cs := #[.int .i64 0, .int .u32 0, .int .u32 x382002_1, .int .u32 x382003_1, .slice none 0 0, .int .i64 x382005_1]) ?_ 2 _ rfl; refine blk_put (cs := #[.int .i64 0, .int .u32 x382001_1, .int .u32 x382002_1, .int .u32 x382003_1, .slice none 0 0, .int .i64 x382005_1]) ?_ 1 _ rfl; refine blk_put (cs := #[.int .i64 x382000_1, .int .u32 x382001_1, .int .u32 x382002_1, .int .u32 x382003_1, .slice none 0 0, .int .i64 x382005_1]) ?_ 0 _ rfl; exact BK381.out) Try.underlying37 rfl (by kernel_rfl)) rfl ?_
        exact ⟨_, by rfl, by first | exact Kd.R_nil _ _ _ _ _, by repeat (first | (with_reducible first | exact HB.out | refine below_set ?_ GE381.out))⟩

end Go.Proofs.Ytngojiikkokajaa.X
