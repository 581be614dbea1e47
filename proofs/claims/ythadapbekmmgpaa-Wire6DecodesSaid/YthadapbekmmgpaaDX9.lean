/- Functions of the program as Lean functions, and that the calls come to them: no condition.  By this session's own program (wip/xprint). -/
import Derived.Test.YthadapbekmmgpaaDX0
import Derived.Test.YthadapbekmmgpaaDX8
namespace Go.Proofs.Ythadapbekmmgpaa.X
open Go.RowKit Go.Proofs.YthadapbekmmgpaaW.PrintWords Go.Proofs.YthadapbekmmgpaaW.PrintLast Go.Proofs.YthadapbekmmgpaaW.PrintMore
attribute [local go_sem] max2_int min2_int max_two min_two max_three min_three max_four min_four
set_option linter.unusedVariables false
set_option linter.unusedSimpArgs false

mutual
def tenancyref15_GetIA.j0 : Nat → Int → Int → Int → ByteArray → Int → Int → Int → Int → Int → Option (Int × Int × Int × Int × (List (S58)) × Int × Int)
  | 0, _, _, _, _, _, _, _, _, _ => none
  | k + 1, x5, x6, x473000, x473001, x475000, x475001, x475002, x475003, x475005 => (tenancyref04_Cut.f x473001 0 x5).bind fun bt475 => (if bt475.2 = true then ((tenancyref15_word.f k bt475.1 0).bind fun t477 => (if x5 = 12 then ((tenancyref15_word.f k bt475.1 4).bind fun t478 => ((tenancyref15_word.f k bt475.1 8).bind fun t479 => (tenancyref15_GetIA.j1 k x5 x6 x473000 x473001 x475000 t477 t478 t479 x475005))) else (tenancyref15_GetIA.j1 k x5 x6 x473000 x473001 x475000 t477 x475002 x475003 x475005))) else (some (0, 0, 0, 0, ([] : List (S58)), 0, 3)))
def tenancyref15_GetIA.j1 : Nat → Int → Int → Int → ByteArray → Int → Int → Int → Int → Int → Option (Int × Int × Int × Int × (List (S58)) × Int × Int)
  | 0, _, _, _, _, _, _, _, _, _ => none
  | k + 1, x5, x6, x473000, x473001, x475000, x475001, x475002, x475003, x475005 => if 0 ≤ x5 then (if x5 ≤ (x473001.size : Int) then ((tenancyref15_Parse.f k (x473001.extract (x5 : Int).toNat x473001.size)).bind fun bt480 => (if bt480.2 = 0 then (tenancyref15_GetIA.l0 k x6 bt480.1 0 x475000 x475001 x475002 x475003 ([] : List (S58)) x475005) else (some (0, 0, 0, 0, ([] : List (S58)), 0, bt480.2)))) else (none)) else (none)
def tenancyref15_GetIA.l0 : Nat → Int → List (S42) → Int → Int → Int → Int → Int → List (S58) → Int → Option (Int × Int × Int × Int × (List (S58)) × Int × Int)
  | 0, _, _, _, _, _, _, _, _, _ => none
  | k + 1, x6, x9, x11, x475000, x475001, x475002, x475003, x475004, x475005 => if x11 < (x9.length : Int) then (if 0 ≤ x11 then (if ((rd_T42 x9 x11).f0) = 13 then ((tenancyref15_GetStatus.f k ((rd_T42 x9 x11).f1)).bind fun bt486 => (if bt486.2 = true then (if x475005 < 0 then (tenancyref15_GetIA.j3 k x6 x9 x11 x475000 x475001 x475002 x475003 x475004 bt486.1) else (tenancyref15_GetIA.j3 k x6 x9 x11 x475000 x475001 x475002 x475003 x475004 x475005)) else (some (0, 0, 0, 0, ([] : List (S58)), 0, 130)))) else (tenancyref15_GetIA.j3 k x6 x9 x11 x475000 x475001 x475002 x475003 x475004 x475005)) else (none)) else (some (x475000, x475001, x475002, x475003, x475004, x475005, 0))
def tenancyref15_GetIA.j3 : Nat → Int → List (S42) → Int → Int → Int → Int → Int → List (S58) → Int → Option (Int × Int × Int × Int × (List (S58)) × Int × Int)
  | 0, _, _, _, _, _, _, _, _, _ => none
  | k + 1, x6, x9, x11, x475000, x475001, x475002, x475003, x475004, x475005 => if 0 ≤ x11 then (if x11 < (x9.length : Int) then (if ((rd_T42 x9 x11).f0) = x6 then (if (x475004.length : Int) ≥ 8 then (some (0, 0, 0, 0, ([] : List (S58)), 0, 6)) else ((tenancyref15_inner.f k x475000 ((rd_T42 x9 x11).f1)).bind fun bt490 => (if bt490.2.2.2.2.2.2 = 0 then (if x475004.length < 3518437208883 then (tenancyref15_GetIA.l0 k x6 x9 (wrap64 (x11 + 1)) x475000 x475001 x475002 x475003 (x475004 ++ [(⟨(⟨(⟨bt490.1, bt490.2.1⟩ : S54), bt490.2.2.1⟩ : S56), bt490.2.2.2.1, bt490.2.2.2.2.1, bt490.2.2.2.2.2.1⟩ : S58)]) x475005) else (none)) else (some (0, 0, 0, 0, ([] : List (S58)), 0, bt490.2.2.2.2.2.2))))) else (tenancyref15_GetIA.l0 k x6 x9 (wrap64 (x11 + 1)) x475000 x475001 x475002 x475003 x475004 x475005)) else (none)) else (none)
end
def tenancyref15_GetIA.f (k : Nat) (a0_0 : Int) (a0_1 : ByteArray) : Option (Int × Int × Int × Int × (List (S58)) × Int × Int) := if a0_0 = 3 then (tenancyref15_GetIA.j0 k 12 5 a0_0 a0_1 2 0 0 0 (-1)) else (if a0_0 = 4 then (tenancyref15_GetIA.j0 k 4 5 a0_0 a0_1 3 0 0 0 (-1)) else (if a0_0 = 25 then (tenancyref15_GetIA.j0 k 12 26 a0_0 a0_1 4 0 0 0 (-1)) else (some (0, 0, 0, 0, ([] : List (S58)), 0, 130))))
def tenancyref15_GetIA.T36 : Bool × List (List Nat × List Nat) := (true, [([], []), ([0], [0]), ([], []), ([], []), ([2, 3], [2, 3]), ([4], [4]), ([5], [5]), ([1, 6], [1, 6]), ([7], [7]), ([8], [8]), ([8], [8]), ([], []), ([11, 9, 7, 0, 1, 2, 3, 4, 5, 6, 7, 8, 9, 11], [9, 11]), ([10, 12, 0, 1, 2, 3, 4, 5, 6, 7, 8, 9, 10, 11, 12], [10])])
def tenancyref15_GetIA.B36 : List Nat := [0, 1, 0, 0, 12, 28, 60, 127, 255, 511, 511, 0, 3071, 8191]
theorem tenancyref15_GetIA.tab36 : rtab .any (opsOf Try.f58 36) = tenancyref15_GetIA.T36 := by kernel_rfl
theorem tenancyref15_GetIA.bits36 : waitsOk tenancyref15_GetIA.T36.2 tenancyref15_GetIA.B36 = true := by kernel_rfl
set_option maxHeartbeats 8000000 in
set_option maxRecDepth 100000 in
theorem tenancyref15_GetIA.calls (k : Nat) (a0_0 : Int) (a0_1 : ByteArray) (r1 : Int) (r2 : Int) (r3 : Int) (r4 : Int) (r5 : List (S58)) (r6 : Int) (r7 : Int) (w : World) (h : tenancyref15_GetIA.f k a0_0 a0_1 = some (r1, r2, r3, r4, r5, r6, r7)) :
 Calls Try.prog 58 #[.agg #[.int .u16 a0_0, .string a0_1]] w fun e w' => ∃ v4_ : Value, e = .returned (.tuple #[.agg #[.int .i64 r1, .int .u32 r2, .int .u32 r3, .int .u32 r4, v4_, .int .i64 r6], .int .i64 r7]) ∧ Kd.R k58 58 w' w.heap.size (fun _ => True) v4_ r5 ∧ Below w.heap.size w w' := by
 have hu42 := Try.underlying42
 have hu51 := Try.underlying51
 have hu58 := Try.underlying58
 have HB := ak_ (Below.refl w.heap.size w)
 have H : (if a0_0 = 3 then (tenancyref15_GetIA.j0 k 12 5 a0_0 a0_1 2 0 0 0 (-1)) else (if a0_0 = 4 then (tenancyref15_GetIA.j0 k 4 5 a0_0 a0_1 3 0 0 0 (-1)) else (if a0_0 = 25 then (tenancyref15_GetIA.j0 k 12 26 a0_0 a0_1 4 0 0 0 (-1)) else (some (0, 0, 0, 0, ([] : List (S58)), 0, 130))))) = some (r1, r2, r3, r4, r5, r6, r7) := h
 clear h
 have HC2 := ak_ H
 clear H
 go_enter Try.func58, Try.ntmps58
 go_upto_block 0 with (first | ((with_reducible refine gate_dst (N := 1) rfl ?_); refine box_event ?hg (N := 1) ?hd (cs := #[.int .u16 a0_0, .string a0_1]) (t := 42) ?hr ?_; (case hd => rfl); (case hg => rfl); (case hr => go_simp; done); intro gb472 hg w3 hbox hb; have BK472 := ak_ hbox; have GW472 := gz_ HB hg; have GE472 := gz_ HB hg; replace HB := bs_ HB hb; clear hb hbox hg) | ((with_reducible refine gate_dst (N := 2) rfl ?_); refine box_event ?hg (N := 2) ?hd (cs := #[.int .i64 0, .int .u32 0, .int .u32 0, .int .u32 0, .slice none 0 0, .int .i64 0]) (t := 51) ?hr ?_; (case hd => rfl); (case hg => rfl); (case hr => go_simp; done); intro gb473 hg w4 hbox hb; have BK473 := ak_ hbox; have GW473 := gz_ HB hg; have GE473 := gz_ HB hg; replace HB := bs_ HB hb; have NB472_473 := gl_ BK472 hg; have NB473_472 := gr_ BK472 hg; replace BK472 := bb_ BK472 hb; clear hb hbox hg) | ((with_reducible refine gate_dst (N := 4) rfl ?_); refine box_event ?hg (N := 4) ?hd (cs := #[.int .i64 0, .int .u32 0, .int .u32 0, .int .u32 0, .slice none 0 0, .int .i64 0]) (t := 51) ?hr ?_; (case hd => rfl); (case hg => rfl); (case hr => go_simp; done); intro gb474 hg w5 hbox hb; have BK474 := ak_ hbox; have GW474 := gz_ HB hg; have GE474 := gz_ HB hg; replace HB := bs_ HB hb; have NB472_474 := gl_ BK472 hg; have NB474_472 := gr_ BK472 hg; replace BK472 := bb_ BK472 hb; have NB473_474 := gl_ BK473 hg; have NB474_473 := gr_ BK473 hg; replace BK473 := bb_ BK473 hb; clear hb hbox hg; have hnb6 := NB474_472.out; have hnc6 := NB472_474.out; have hnb7 := NB474_473.out; have hnc7 := NB473_474.out; have hz8 := bz6_ BK474; have hnb9 := NB472_473.out; have hnc9 := NB473_472.out; have hz10 := bz2_ BK472))
 (try simp only [Act.put, List.setIfInBounds_toArray, List.set_cons_zero, List.set_cons_succ])
 go_cut [5, 6] (fun v5 v6 wc => ∃ (kq : Nat) (x5_1 : Int) (x6_1 : Int) (x474000_1 : Int) (x474001_1 : Int) (x474002_1 : Int) (x474003_1 : Int) (x474005_1 : Int) (x475000_1 : Int), v5 = .int .i64 x5_1 ∧ v6 = .int .u16 x6_1 ∧ Aside0 (tenancyref15_GetIA.j0 kq x5_1 x6_1 a0_0 a0_1 x475000_1 0 0 0 (-1) = some (r1, r2, r3, r4, r5, r6, r7)) ∧ Aside0 (kq ≤ k) ∧ Aside0 (wc.heap[gb472]? = some (.cells #[.int .u16 a0_0, .string a0_1] 42 (0, 0))) ∧ Aside0 (wc.heap[gb473]? = some (.cells #[.int .i64 x474000_1, .int .u32 x474001_1, .int .u32 x474002_1, .int .u32 x474003_1, (.slice none 0 0), .int .i64 x474005_1] 51 (0, 0))) ∧ Aside0 (wc.heap[gb474]? = some (.cells #[.int .i64 x475000_1, .int .u32 0, .int .u32 0, .int .u32 0, (.slice none 0 0), .int .i64 (-1)] 51 (0, 0))) ∧ Aside0 (Below w.heap.size w wc))
 case first =>
  have H := HC2.out
  clear HC2
  by_cases c11 : a0_0 = 3
  ·rw [if_pos c11] at H
   have c11b0 : (a0_0 == 3) = true := beq_iff_eq.mpr c11
   have c11b1 : (a0_0 != 3) = false := bne_eq_false_iff_eq.mpr c11
   clear c11
   (first | skip)
   have H' := ak_ H
   clear H
   have hnb12 := NB474_472.out
   have hnc12 := NB472_474.out
   have hnb13 := NB474_473.out
   have hnc13 := NB473_474.out
   have hz14 := bz6_ BK474
   go_wp2
   go_meet
   case rel => exact ⟨_, (12), (5), (0), (0), (0), (0), (0), (2), (by rfl), (by rfl), H', ⟨by omega⟩, ⟨by refine blk_far ?_ NB472_474.out _; refine blk_far ?_ NB472_474.out _; refine blk_far ?_ NB472_474.out _; refine blk_far ?_ NB472_474.out _; refine blk_far ?_ NB472_474.out _; refine blk_far ?_ NB472_474.out _; refine blk_far ?_ NB472_474.out _; exact BK472.out⟩, ⟨by refine blk_far ?_ NB473_474.out _; refine blk_far ?_ NB473_474.out _; refine blk_far ?_ NB473_474.out _; refine blk_far ?_ NB473_474.out _; refine blk_far ?_ NB473_474.out _; refine blk_far ?_ NB473_474.out _; refine blk_far ?_ NB473_474.out _; exact BK473.out⟩, ⟨by refine blk_put (cs := #[.int .i64 0, .int .u32 0, .int .u32 0, .int .u32 0, .slice none 0 0, .int .i64 (-1)]) ?_ 0 _ rfl; refine blk_put (cs := #[.int .i64 0, .int .u32 0, .int .u32 0, .int .u32 0, .slice none 0 0, .int .i64 0]) ?_ 5 _ rfl; refine blk_put (cs := #[.int .i64 0, .int .u32 0, .int .u32 0, .int .u32 0, .slice none 0 0, .int .i64 0]) ?_ 4 _ rfl; refine blk_put (cs := #[.int .i64 0, .int .u32 0, .int .u32 0, .int .u32 0, .slice none 0 0, .int .i64 0]) ?_ 3 _ rfl; refine blk_put (cs := #[.int .i64 0, .int .u32 0, .int .u32 0, .int .u32 0, .slice none 0 0, .int .i64 0]) ?_ 2 _ rfl; refine blk_put (cs := #[.int .i64 0, .int .u32 0, .int .u32 0, .int .u32 0, .slice none 0 0, .int .i64 0]) ?_ 1 _ rfl; refine blk_put (cs := #[.int .i64 0, .int .u32 0, .int .u32 0, .int .u32 0, .slice none 0 0, .int .i64 0]) ?_ 0 _ rfl; exact BK474.out⟩, ⟨by repeat (first | (with_reducible first | exact HB.out | refine below_set ?_ GE474.out))⟩⟩
  rw [if_neg c11] at H
  have c11b0 : (a0_0 == 3) = false := beq_eq_false_iff_ne.mpr c11
  have c11b1 : (a0_0 != 3) = true := bne_iff_ne.mpr c11
  (first | skip)
  by_cases c15 : a0_0 = 4
  ·rw [if_pos c15] at H
   have c15b0 : (a0_0 == 4) = true := beq_iff_eq.mpr c15
   have c15b1 : (a0_0 != 4) = false := bne_eq_false_iff_eq.mpr c15
   clear c15
   have H' := ak_ H
   clear H
   have hnb16 := NB474_472.out
   have hnc16 := NB472_474.out
   have hnb17 := NB474_473.out
   have hnc17 := NB473_474.out
   have hz18 := bz6_ BK474
   go_wp2
   go_meet
   case rel => exact ⟨_, (4), (5), (0), (0), (0), (0), (0), (3), (by rfl), (by rfl), H', ⟨by omega⟩, ⟨by refine blk_far ?_ NB472_474.out _; refine blk_far ?_ NB472_474.out _; refine blk_far ?_ NB472_474.out _; refine blk_far ?_ NB472_474.out _; refine blk_far ?_ NB472_474.out _; refine blk_far ?_ NB472_474.out _; refine blk_far ?_ NB472_474.out _; exact BK472.out⟩, ⟨by refine blk_far ?_ NB473_474.out _; refine blk_far ?_ NB473_474.out _; refine blk_far ?_ NB473_474.out _; refine blk_far ?_ NB473_474.out _; refine blk_far ?_ NB473_474.out _; refine blk_far ?_ NB473_474.out _; refine blk_far ?_ NB473_474.out _; exact BK473.out⟩, ⟨by refine blk_put (cs := #[.int .i64 0, .int .u32 0, .int .u32 0, .int .u32 0, .slice none 0 0, .int .i64 (-1)]) ?_ 0 _ rfl; refine blk_put (cs := #[.int .i64 0, .int .u32 0, .int .u32 0, .int .u32 0, .slice none 0 0, .int .i64 0]) ?_ 5 _ rfl; refine blk_put (cs := #[.int .i64 0, .int .u32 0, .int .u32 0, .int .u32 0, .slice none 0 0, .int .i64 0]) ?_ 4 _ rfl; refine blk_put (cs := #[.int .i64 0, .int .u32 0, .int .u32 0, .int .u32 0, .slice none 0 0, .int .i64 0]) ?_ 3 _ rfl; refine blk_put (cs := #[.int .i64 0, .int .u32 0, .int .u32 0, .int .u32 0, .slice none 0 0, .int .i64 0]) ?_ 2 _ rfl; refine blk_put (cs := #[.int .i64 0, .int .u32 0, .int .u32 0, .int .u32 0, .slice none 0 0, .int .i64 0]) ?_ 1 _ rfl; refine blk_put (cs := #[.int .i64 0, .int .u32 0, .int .u32 0, .int .u32 0, .slice none 0 0, .int .i64 0]) ?_ 0 _ rfl; exact BK474.out⟩, ⟨by repeat (first | (with_reducible first | exact HB.out | refine below_set ?_ GE474.out))⟩⟩
  rw [if_neg c15] at H
  have c15b0 : (a0_0 == 4) = false := beq_eq_false_iff_ne.mpr c15
  have c15b1 : (a0_0 != 4) = true := bne_iff_ne.mpr c15
  by_cases c19 : a0_0 = 25
  ·rw [if_pos c19] at H
   have c19b0 : (a0_0 == 25) = true := beq_iff_eq.mpr c19
   have c19b1 : (a0_0 != 25) = false := bne_eq_false_iff_eq.mpr c19
   clear c19
   have H' := ak_ H
   clear H
   have hnb20 := NB474_472.out
   have hnc20 := NB472_474.out
   have hnb21 := NB474_473.out
   have hnc21 := NB473_474.out
   have hz22 := bz6_ BK474
   go_wp2
   go_meet
   case rel => exact ⟨_, (12), (26), (0), (0), (0), (0), (0), (4), (by rfl), (by rfl), H', ⟨by omega⟩, ⟨by refine blk_far ?_ NB472_474.out _; refine blk_far ?_ NB472_474.out _; refine blk_far ?_ NB472_474.out _; refine blk_far ?_ NB472_474.out _; refine blk_far ?_ NB472_474.out _; refine blk_far ?_ NB472_474.out _; refine blk_far ?_ NB472_474.out _; exact BK472.out⟩, ⟨by refine blk_far ?_ NB473_474.out _; refine blk_far ?_ NB473_474.out _; refine blk_far ?_ NB473_474.out _; refine blk_far ?_ NB473_474.out _; refine blk_far ?_ NB473_474.out _; refine blk_far ?_ NB473_474.out _; refine blk_far ?_ NB473_474.out _; exact BK473.out⟩, ⟨by refine blk_put (cs := #[.int .i64 0, .int .u32 0, .int .u32 0, .int .u32 0, .slice none 0 0, .int .i64 (-1)]) ?_ 0 _ rfl; refine blk_put (cs := #[.int .i64 0, .int .u32 0, .int .u32 0, .int .u32 0, .slice none 0 0, .int .i64 0]) ?_ 5 _ rfl; refine blk_put (cs := #[.int .i64 0, .int .u32 0, .int .u32 0, .int .u32 0, .slice none 0 0, .int .i64 0]) ?_ 4 _ rfl; refine blk_put (cs := #[.int .i64 0, .int .u32 0, .int .u32 0, .int .u32 0, .slice none 0 0, .int .i64 0]) ?_ 3 _ rfl; refine blk_put (cs := #[.int .i64 0, .int .u32 0, .int .u32 0, .int .u32 0, .slice none 0 0, .int .i64 0]) ?_ 2 _ rfl; refine blk_put (cs := #[.int .i64 0, .int .u32 0, .int .u32 0, .int .u32 0, .slice none 0 0, .int .i64 0]) ?_ 1 _ rfl; refine blk_put (cs := #[.int .i64 0, .int .u32 0, .int .u32 0, .int .u32 0, .slice none 0 0, .int .i64 0]) ?_ 0 _ rfl; exact BK474.out⟩, ⟨by repeat (first | (with_reducible first | exact HB.out | refine below_set ?_ GE474.out))⟩⟩
  rw [if_neg c19] at H
  have c19b0 : (a0_0 == 25) = false := beq_eq_false_iff_ne.mpr c19
  have c19b1 : (a0_0 != 25) = true := bne_iff_ne.mpr c19
  simp only [Option.some.injEq, Prod.mk.injEq] at H
  obtain ⟨rfl, rfl, rfl, rfl, rfl, rfl, rfl⟩ := H
  have hnb23 := NB473_472.out
  have hnc23 := NB472_473.out
  have hnb24 := NB473_474.out
  have hnc24 := NB474_473.out
  have hz25 := bz6_ BK473
  go_wp2
  refine bodyPost_ret (results_ct rfl _ _ gb473 51 #[.int .i64 0, .int .u32 0, .int .u32 0, .int .u32 0, .slice none 0 0, .int .i64 0] (0, 0) _ rfl (by refine blk_put (cs := #[.int .i64 0, .int .u32 0, .int .u32 0, .int .u32 0, .slice none 0 0, .int .i64 0]) ?_ 5 _ rfl; refine blk_put (cs := #[.int .i64 0, .int .u32 0, .int .u32 0, .int .u32 0, .slice none 0 0, .int .i64 0]) ?_ 4 _ rfl; refine blk_put (cs := #[.int .i64 0, .int .u32 0, .int .u32 0, .int .u32 0, .slice none 0 0, .int .i64 0]) ?_ 3 _ rfl; refine blk_put (cs := #[.int .i64 0, .int .u32 0, .int .u32 0, .int .u32 0, .slice none 0 0, .int .i64 0]) ?_ 2 _ rfl; refine blk_put (cs := #[.int .i64 0, .int .u32 0, .int .u32 0, .int .u32 0, .slice none 0 0, .int .i64 0]) ?_ 1 _ rfl; refine blk_put (cs := #[.int .i64 0, .int .u32 0, .int .u32 0, .int .u32 0, .slice none 0 0, .int .i64 0]) ?_ 0 _ rfl; refine blk_far ?_ NB473_474.out _; refine blk_far ?_ NB473_474.out _; refine blk_far ?_ NB473_474.out _; refine blk_far ?_ NB473_474.out _; refine blk_far ?_ NB473_474.out _; refine blk_far ?_ NB473_474.out _; exact BK473.out) Try.underlying51 rfl (by kernel_rfl)) rfl ?_
  exact ⟨_, by rfl, by first | exact Kd.R_nil _ _ _ _ _, by repeat (first | (with_reducible first | exact HB.out | refine below_set ?_ GE473.out | refine below_set ?_ GE474.out))⟩
 case rest =>
 clear HC2
 try clear c1
 try clear c2
 try clear p2
 try clear c5
 try clear c6
 try clear c7
 try clear c9
 try clear c11
 try clear c11b0
 try clear c11b1
 try clear c12
 try clear c13
 try clear c15
 try clear c15b0
 try clear c15b1
 try clear c16
 try clear c17
 try clear c19
 try clear c19b0
 try clear c19b1
 try clear c20
 try clear c21
 try clear c23
 try clear c24
 try clear hz10
 try clear hz14
 try clear hz18
 try clear hz22
 try clear hz25
 try clear hz8
 obtain ⟨kq, x5_1, x6_1, x474000_1, x474001_1, x474002_1, x474003_1, x474005_1, x475000_1, rfl, rfl, HA, HJ1, BK472, BK473, BK474, HB⟩ := hcut
 cases kq with
 | zero => exact absurd HA.out (by simp [tenancyref15_GetIA.j0])
 | succ kj1 =>
 have H := HA.out
 clear HA
 simp only [tenancyref15_GetIA.j0] at H
 replace H := Option.bind_eq_some_iff.mp H
 obtain ⟨⟨t475, t476⟩, A260, H⟩ := H
 replace H : (if t476 = true then ((tenancyref15_word.f kj1 t475 0).bind fun t477 => (if x5_1 = 12 then ((tenancyref15_word.f kj1 t475 4).bind fun t478 => ((tenancyref15_word.f kj1 t475 8).bind fun t479 => (tenancyref15_GetIA.j1 kj1 x5_1 x6_1 a0_0 a0_1 x475000_1 t477 t478 t479 (-1)))) else (tenancyref15_GetIA.j1 kj1 x5_1 x6_1 a0_0 a0_1 x475000_1 t477 0 0 (-1)))) else (some (0, 0, 0, 0, ([] : List (S58)), 0, 3))) = some (r1, r2, r3, r4, r5, r6, r7) := H
 have A26 := ak_ A260
 clear A260
 by_cases c27 : t476 = true
 ·subst c27
  have H1 : ((tenancyref15_word.f kj1 t475 0).bind fun t477 => (if x5_1 = 12 then ((tenancyref15_word.f kj1 t475 4).bind fun t478 => ((tenancyref15_word.f kj1 t475 8).bind fun t479 => (tenancyref15_GetIA.j1 kj1 x5_1 x6_1 a0_0 a0_1 x475000_1 t477 t478 t479 (-1)))) else (tenancyref15_GetIA.j1 kj1 x5_1 x6_1 a0_0 a0_1 x475000_1 t477 0 0 (-1)))) = some (r1, r2, r3, r4, r5, r6, r7) := by rw [if_pos rfl] at H; exact H
  clear H
  have H := H1
  clear H1
  replace H := Option.bind_eq_some_iff.mp H
  obtain ⟨t477, A280, H⟩ := H
  replace H : (if x5_1 = 12 then ((tenancyref15_word.f kj1 t475 4).bind fun t478 => ((tenancyref15_word.f kj1 t475 8).bind fun t479 => (tenancyref15_GetIA.j1 kj1 x5_1 x6_1 a0_0 a0_1 x475000_1 t477 t478 t479 (-1)))) else (tenancyref15_GetIA.j1 kj1 x5_1 x6_1 a0_0 a0_1 x475000_1 t477 0 0 (-1))) = some (r1, r2, r3, r4, r5, r6, r7) := H
  have A28 := ak_ A280
  clear A280
  have HC29 := ak_ H
  clear H
  have hnb30 := NB472_473.out
  have hnc30 := NB473_472.out
  have hnb31 := NB472_474.out
  have hnc31 := NB474_472.out
  have hz32 := bz2_ BK472
  go_upto_if 43 with (first | ((with_reducible refine gate_callee (f := 84) rfl ?_); refine goesL_ (some 33) rfl rfl Try.func84 (by kernel_rfl) rfl #[.string a0_1, .int .i64 0, .int .i64 x5_1] rfl (by (try simp only [List.map_toArray, List.map_cons, List.map_nil]); first | rfl) ?_; (with_reducible refine (tenancyref04_Cut.calls a0_1 0 x5_1 t475 true _ A26.out).mono ?_); rintro e w' ⟨rfl, ⟨nd, rfl⟩⟩; refine ⟨_, rfl, ?_⟩; (try (rw [drewN_self wc]; generalize hq_ : World.drewN wc _ = wc; have n0_ : Aside0 (wc.heap[gb472]? = some (.cells #[.int .u16 a0_0, .string a0_1] 42 (0, 0))) := ⟨by rw [← hq_]; exact (by (with_reducible repeat (first | refine blk_drewN ?_ _)); exact BK472.out)⟩; have n1_ : Aside0 (wc.heap[gb473]? = some (.cells #[.int .i64 x474000_1, .int .u32 x474001_1, .int .u32 x474002_1, .int .u32 x474003_1, .slice none 0 0, .int .i64 x474005_1] 51 (0, 0))) := ⟨by rw [← hq_]; exact (by (with_reducible repeat (first | refine blk_drewN ?_ _)); exact BK473.out)⟩; have n2_ : Aside0 (wc.heap[gb474]? = some (.cells #[.int .i64 x475000_1, .int .u32 0, .int .u32 0, .int .u32 0, .slice none 0 0, .int .i64 (-1)] 51 (0, 0))) := ⟨by rw [← hq_]; exact (by (with_reducible repeat (first | refine blk_drewN ?_ _)); exact BK474.out)⟩; have n3_ : Aside0 (Below w.heap.size w wc) := ⟨by rw [← hq_]; exact (by repeat (first | (with_reducible first | exact HB.out | apply pw_below_drewN)))⟩; clear BK472 BK473 BK474 HB hq_; have BK472 := n0_; have BK473 := n1_; have BK474 := n2_; have HB := n3_; clear n0_ n1_ n2_ n3_))) | ((with_reducible refine gate_callee (f := 85) rfl ?_); refine goesL_ (some 40) rfl rfl Try.func85 (by kernel_rfl) rfl #[.string t475, .int .i64 0] rfl (by (try simp only [List.map_toArray, List.map_cons, List.map_nil]); first | rfl) ?_; (with_reducible refine (tenancyref15_word.calls kj1 t475 0 t477 _ A28.out).mono ?_); rintro e w' ⟨rfl, ⟨nd, rfl⟩⟩; refine ⟨_, rfl, ?_⟩; (try (rw [drewN_self wc]; generalize hq_ : World.drewN wc _ = wc; have n0_ : Aside0 (wc.heap[gb472]? = some (.cells #[.int .u16 a0_0, .string a0_1] 42 (0, 0))) := ⟨by rw [← hq_]; exact (by (with_reducible repeat (first | refine blk_drewN ?_ _)); exact BK472.out)⟩; have n1_ : Aside0 (wc.heap[gb473]? = some (.cells #[.int .i64 x474000_1, .int .u32 x474001_1, .int .u32 x474002_1, .int .u32 x474003_1, .slice none 0 0, .int .i64 x474005_1] 51 (0, 0))) := ⟨by rw [← hq_]; exact (by (with_reducible repeat (first | refine blk_drewN ?_ _)); exact BK473.out)⟩; have n2_ : Aside0 (wc.heap[gb474]? = some (.cells #[.int .i64 x475000_1, .int .u32 0, .int .u32 0, .int .u32 0, .slice none 0 0, .int .i64 (-1)] 51 (0, 0))) := ⟨by rw [← hq_]; exact (by (with_reducible repeat (first | refine blk_drewN ?_ _)); exact BK474.out)⟩; have n3_ : Aside0 (Below w.heap.size w wc) := ⟨by rw [← hq_]; exact (by repeat (first | (with_reducible first | exact HB.out | apply pw_below_drewN)))⟩; clear BK472 BK473 BK474 HB hq_; have BK472 := n0_; have BK473 := n1_; have BK474 := n2_; have HB := n3_; clear n0_ n1_ n2_ n3_)); have hnb33 := NB474_473.out; have hnc33 := NB473_474.out; have hz34 := bz6_ BK474))
  (try simp only [Act.put, List.setIfInBounds_toArray, List.set_cons_zero, List.set_cons_succ])
  go_cut [] (fun wc => ∃ (kq : Nat) (x475002_28 : Int) (x475003_28 : Int), Aside0 (tenancyref15_GetIA.j1 kq x5_1 x6_1 a0_0 a0_1 x475000_1 t477 x475002_28 x475003_28 (-1) = some (r1, r2, r3, r4, r5, r6, r7)) ∧ Aside0 (kq ≤ kj1) ∧ Aside0 (wc.heap[gb472]? = some (.cells #[.int .u16 a0_0, .string a0_1] 42 (0, 0))) ∧ Aside0 (wc.heap[gb473]? = some (.cells #[.int .i64 x474000_1, .int .u32 x474001_1, .int .u32 x474002_1, .int .u32 x474003_1, (.slice none 0 0), .int .i64 x474005_1] 51 (0, 0))) ∧ Aside0 (wc.heap[gb474]? = some (.cells #[.int .i64 x475000_1, .int .u32 t477, .int .u32 x475002_28, .int .u32 x475003_28, (.slice none 0 0), .int .i64 (-1)] 51 (0, 0))) ∧ Aside0 (Below w.heap.size w wc))
  case first =>
   have H := HC29.out
   clear HC29
   by_cases c35 : x5_1 = 12
   ·rw [if_pos c35] at H
    have c35b0 : (x5_1 == 12) = true := beq_iff_eq.mpr c35
    have c35b1 : (x5_1 != 12) = false := bne_eq_false_iff_eq.mpr c35
    clear c35
    rw [c35b0]
    replace H := Option.bind_eq_some_iff.mp H
    obtain ⟨t478, A360, H⟩ := H
    replace H : ((tenancyref15_word.f kj1 t475 8).bind fun t479 => (tenancyref15_GetIA.j1 kj1 x5_1 x6_1 a0_0 a0_1 x475000_1 t477 t478 t479 (-1))) = some (r1, r2, r3, r4, r5, r6, r7) := H
    have A36 := ak_ A360
    clear A360
    replace H := Option.bind_eq_some_iff.mp H
    obtain ⟨t479, A370, H⟩ := H
    replace H : (tenancyref15_GetIA.j1 kj1 x5_1 x6_1 a0_0 a0_1 x475000_1 t477 t478 t479 (-1)) = some (r1, r2, r3, r4, r5, r6, r7) := H
    have A37 := ak_ A370
    clear A370
    have H' := ak_ H
    clear H
    go_wp2_with (first | ((with_reducible refine gate_callee (f := 85) rfl ?_); refine goesL_ (some 45) rfl rfl Try.func85 (by kernel_rfl) rfl #[.string t475, .int .i64 4] rfl (by (try simp only [List.map_toArray, List.map_cons, List.map_nil]); first | rfl) ?_; (with_reducible refine (tenancyref15_word.calls kj1 t475 4 t478 _ A36.out).mono ?_); rintro e w' ⟨rfl, ⟨nd, rfl⟩⟩; refine ⟨_, rfl, ?_⟩; have hnb38 := NB474_472.out; have hnc38 := NB472_474.out; have hnb39 := NB474_473.out; have hnc39 := NB473_474.out; have hz40 := bz6_ BK474) | ((with_reducible refine gate_callee (f := 85) rfl ?_); refine goesL_ (some 48) rfl rfl Try.func85 (by kernel_rfl) rfl #[.string t475, .int .i64 8] rfl (by (try simp only [List.map_toArray, List.map_cons, List.map_nil]); first | rfl) ?_; (with_reducible refine (tenancyref15_word.calls kj1 t475 8 t479 _ A37.out).mono ?_); rintro e w' ⟨rfl, ⟨nd, rfl⟩⟩; refine ⟨_, rfl, ?_⟩))
    go_meet
    case rel => exact ⟨_, (t478), (t479), H', ⟨by have := HJ1.out; first | omega⟩, ⟨by refine blk_far ?_ NB472_474.out _; (with_reducible repeat (first | refine blk_drewN ?_ _)); refine blk_far ?_ NB472_474.out _; (with_reducible repeat (first | refine blk_drewN ?_ _)); refine blk_far ?_ NB472_474.out _; exact BK472.out⟩, ⟨by refine blk_far ?_ NB473_474.out _; (with_reducible repeat (first | refine blk_drewN ?_ _)); refine blk_far ?_ NB473_474.out _; (with_reducible repeat (first | refine blk_drewN ?_ _)); refine blk_far ?_ NB473_474.out _; exact BK473.out⟩, ⟨by refine blk_put (cs := #[.int .i64 x475000_1, .int .u32 t477, .int .u32 t478, .int .u32 0, .slice none 0 0, .int .i64 (-1)]) ?_ 3 _ rfl; (with_reducible repeat (first | refine blk_drewN ?_ _)); refine blk_put (cs := #[.int .i64 x475000_1, .int .u32 t477, .int .u32 0, .int .u32 0, .slice none 0 0, .int .i64 (-1)]) ?_ 2 _ rfl; (with_reducible repeat (first | refine blk_drewN ?_ _)); refine blk_put (cs := #[.int .i64 x475000_1, .int .u32 0, .int .u32 0, .int .u32 0, .slice none 0 0, .int .i64 (-1)]) ?_ 1 _ rfl; exact BK474.out⟩, ⟨by repeat (first | (with_reducible first | exact HB.out | apply pw_below_drewN | refine below_set ?_ GE474.out))⟩⟩
   rw [if_neg c35] at H
   have c35b0 : (x5_1 == 12) = false := beq_eq_false_iff_ne.mpr c35
   have c35b1 : (x5_1 != 12) = true := bne_iff_ne.mpr c35
   rw [c35b0]
   have H' := ak_ H
   clear H
   go_wp2
   go_meet
   case rel => exact ⟨_, (0), (0), H', ⟨by have := HJ1.out; first | omega⟩, ⟨by refine blk_far ?_ NB472_474.out _; exact BK472.out⟩, ⟨by refine blk_far ?_ NB473_474.out _; exact BK473.out⟩, ⟨by refine blk_put (cs := #[.int .i64 x475000_1, .int .u32 0, .int .u32 0, .int .u32 0, .slice none 0 0, .int .i64 (-1)]) ?_ 1 _ rfl; exact BK474.out⟩, ⟨by repeat (first | (with_reducible first | exact HB.out | refine below_set ?_ GE474.out))⟩⟩
  case rest =>
  clear HC29
  try clear c1
  try clear c2
  try clear p2
  try clear c3
  try clear c5
  try clear c6
  try clear c7
  try clear c8
  try clear c9
  try clear c11
  try clear c11b0
  try clear c11b1
  try clear c12
  try clear c13
  try clear c15
  try clear c15b0
  try clear c15b1
  try clear c16
  try clear c17
  try clear c19
  try clear c19b0
  try clear c19b1
  try clear c20
  try clear c21
  try clear c23
  try clear c24
  try clear c27
  try clear c30
  try clear c31
  try clear c33
  try clear c35
  try clear c35b0
  try clear c35b1
  try clear c38
  try clear c39
  try clear hz10
  try clear hz14
  try clear hz18
  try clear hz22
  try clear hz25
  try clear hz32
  try clear hz34
  try clear hz40
  try clear hz8
  try clear p2
  obtain ⟨kq, x475002_28, x475003_28, HA, HJ28, BK472, BK473, BK474, HB⟩ := hcut
  cases kq with
  | zero => exact absurd HA.out (by simp [tenancyref15_GetIA.j1])
  | succ kj28 =>
  have H := HA.out
  clear HA
  simp only [tenancyref15_GetIA.j1] at H
  by_cases c41 : 0 ≤ x5_1
  ·rw [if_pos c41] at H
   have c41b0 := eq_true c41
   have c41b1 : decide (0 ≤ x5_1) = true := decide_eq_true c41
   clear c41
   by_cases c42 : x5_1 ≤ (a0_1.size : Int)
   ·rw [if_pos c42] at H
    have c42b0 := eq_true c42
    have c42b1 : decide (x5_1 ≤ (a0_1.size : Int)) = true := decide_eq_true c42
    clear c42
    replace H := Option.bind_eq_some_iff.mp H
    obtain ⟨⟨t480, t481⟩, A430, H⟩ := H
    replace H : (if t481 = 0 then (tenancyref15_GetIA.l0 kj28 x6_1 t480 0 x475000_1 t477 x475002_28 x475003_28 ([] : List (S58)) (-1)) else (some (0, 0, 0, 0, ([] : List (S58)), 0, t481))) = some (r1, r2, r3, r4, r5, r6, r7) := H
    have A43 := ak_ A430
    clear A430
    by_cases c44 : t481 = 0
    ·rw [if_pos c44] at H
     have c44b0 : (t481 == 0) = true := beq_iff_eq.mpr c44
     have c44b1 : (t481 != 0) = false := bne_eq_false_iff_eq.mpr c44
     clear c44
     have H' := ak_ H
     clear H
     have hnb45 := NB472_473.out
     have hnc45 := NB473_472.out
     have hnb46 := NB472_474.out
     have hnc46 := NB474_472.out
     have hz47 := bz2_ BK472
     go_wp2_with (first | ((with_reducible refine gate_callee (f := 31) rfl ?_); refine goesL_ (some 55) rfl rfl Try.func31 (by kernel_rfl) rfl #[.string (a0_1.extract (x5_1 : Int).toNat a0_1.size)] rfl (by (try simp only [List.map_toArray, List.map_cons, List.map_nil]); first | rfl) ?_; (with_reducible refine (tenancyref15_Parse.calls kj28 (a0_1.extract (x5_1 : Int).toNat a0_1.size) t480 t481 _ A43.out).mono ?_); rintro e w48 ⟨v482, rfl, ho0, hb⟩; refine ⟨_, rfl, ?_⟩; have HO483 := ak_ (Kd.R_lower (Kd.R_newB ho0 (g := gb472) (o := .cells #[.int .u16 a0_0, .string a0_1] 42 (0, 0)) BK472.out) (below_size HB.out)); replace BK472 := bb_ BK472 hb; replace BK473 := bb_ BK473 hb; replace BK474 := bb_ BK474 hb; replace HB := bs_ HB hb; (try clear hb); (try clear ho0)))
     go_loopg [11] kj28 (fun kq v11 w' => ∃ (x11_3 : Int) (x474000_3 : Int) (x474001_3 : Int) (x474002_3 : Int) (x474003_3 : Int) (x474005_3 : Int) (x475004_3 : List (S58)) (x475005_3 : Int) (u475004 : Value), v11 = .int .i64 x11_3 ∧ Aside0 (tenancyref15_GetIA.l0 kq x6_1 t480 x11_3 x475000_1 t477 x475002_28 x475003_28 x475004_3 x475005_3 = some (r1, r2, r3, r4, r5, r6, r7)) ∧ Aside0 (kq ≤ kj28) ∧ Aside0 (Kd.R k42 42 w' w.heap.size (fun k_ => k_ ≠ gb472) v482 t480) ∧ Aside0 (Kd.R k58 58 w' w.heap.size (fun _ => True) u475004 x475004_3) ∧ Aside0 (w'.heap[gb472]? = some (.cells #[.int .u16 a0_0, .string a0_1] 42 (0, 0))) ∧ Aside0 (w'.heap[gb473]? = some (.cells #[.int .i64 x474000_3, .int .u32 x474001_3, .int .u32 x474002_3, .int .u32 x474003_3, (.slice none 0 0), .int .i64 x474005_3] 51 (0, 0))) ∧ Aside0 (w'.heap[gb474]? = some (.cells #[.int .i64 x475000_1, .int .u32 t477, .int .u32 x475002_28, .int .u32 x475003_28, u475004, .int .i64 x475005_3] 51 (0, 0))) ∧ Aside0 (Below w.heap.size w w'))
     case atStart => exact ⟨(0), (x474000_1), (x474001_1), (x474002_1), (x474003_1), (x474005_1), (([] : List (S58))), ((-1)), (.slice none 0 0), (by rfl), H', ⟨Nat.le_refl _⟩, ⟨by exact Kd.R_mono HO483.out (fun _ hk => hk.2)⟩, ⟨by first | exact Kd.R_nil _ _ _ _ _⟩, ⟨by exact BK472.out⟩, ⟨by exact BK473.out⟩, ⟨by exact BK474.out⟩, ⟨by exact HB.out⟩⟩
     case round =>
     clear H'
     try clear c1
     try clear c2
     try clear p2
     try clear c3
     try clear c4
     try clear c5
     try clear c6
     try clear c7
     try clear c8
     try clear c9
     try clear c11
     try clear c11b0
     try clear c11b1
     try clear c12
     try clear c13
     try clear c15
     try clear c15b0
     try clear c15b1
     try clear c16
     try clear c17
     try clear c19
     try clear c19b0
     try clear c19b1
     try clear c20
     try clear c21
     try clear c23
     try clear c24
     try clear c27
     try clear c30
     try clear c31
     try clear c33
     try clear c35
     try clear c35b0
     try clear c35b1
     try clear c38
     try clear c39
     try clear c41
     try clear c41b0
     try clear c41b1
     try clear c42
     try clear c42b0
     try clear c42b1
     try clear c44
     try clear c44b0
     try clear c44b1
     try clear c45
     try clear c46
     try clear hz10
     try clear hz14
     try clear hz18
     try clear hz22
     try clear hz25
     try clear hz32
     try clear hz34
     try clear hz40
     try clear hz47
     try clear hz8
     try clear p2
     obtain ⟨x11_3, x474000_3, x474001_3, x474002_3, x474003_3, x474005_3, x475004_3, x475005_3, u475004, rfl, HA, HK3, HO_9, HO_475004, BK472, BK473, BK474, HB⟩ := hrel
     cases gk with
     | zero => exact absurd HA.out (by simp [tenancyref15_GetIA.l0])
     | succ k3 =>
     have H := HA.out
     clear HA
     simp only [tenancyref15_GetIA.l0] at H
     by_cases c49 : x11_3 < (t480.length : Int)
     ·rw [if_pos c49] at H
      have c49b0 : decide (x11_3 < (t480.length : Int)) = true := decide_eq_true c49
      clear c49
      by_cases c50 : 0 ≤ x11_3
      ·rw [if_pos c50] at H
       have c50b0 : decide (0 ≤ x11_3) = true := decide_eq_true c50
       clear c50
       have HC51 := ak_ H
       clear H
       obtain ⟨Ao52, co52, eo52⟩ := Kd.R_slice HO_9.out
       subst eo52
       have p484 : 0 ≤ (x11_3 : Int) := of_decide_eq_true (by first | (with_reducible assumption))
       have q484 : x11_3 < (t480.length : Int) := of_decide_eq_true (by first | (with_reducible assumption))
       obtain ⟨ad484, e484, hx484_0, hx484_1⟩ := at_T42 (Kd.R_reads' HO_9.out).2.2 x11_3 p484 q484
       cases e484
       replace p484 := eq_true p484
       replace q484 := eq_true q484
       go_upto_if 73 with (fail)
       go_cut [] (fun wc => ∃ (kq : Nat) (x474000_50 : Int) (x474001_50 : Int) (x474002_50 : Int) (x474003_50 : Int) (x474005_50 : Int) (x475005_50 : Int), Aside0 (tenancyref15_GetIA.j3 kq x6_1 t480 x11_3 x475000_1 t477 x475002_28 x475003_28 x475004_3 x475005_50 = some (r1, r2, r3, r4, r5, r6, r7)) ∧ Aside0 (kq ≤ k3) ∧ Aside0 (Kd.R k42 42 wc w.heap.size (fun k_ => k_ ≠ gb472) (.slice (some ad484) t480.length co52) t480) ∧ Aside0 (Kd.R k58 58 wc w.heap.size (fun _ => True) u475004 x475004_3) ∧ Aside0 (wc.heap[gb472]? = some (.cells #[.int .u16 a0_0, .string a0_1] 42 (0, 0))) ∧ Aside0 (wc.heap[gb473]? = some (.cells #[.int .i64 x474000_50, .int .u32 x474001_50, .int .u32 x474002_50, .int .u32 x474003_50, (.slice none 0 0), .int .i64 x474005_50] 51 (0, 0))) ∧ Aside0 (wc.heap[gb474]? = some (.cells #[.int .i64 x475000_1, .int .u32 t477, .int .u32 x475002_28, .int .u32 x475003_28, u475004, .int .i64 x475005_50] 51 (0, 0))) ∧ Aside0 (Below w.heap.size w wc))
       case first =>
        have H := HC51.out
        clear HC51
        by_cases c53 : ((rd_T42 t480 x11_3).f0) = 13
        ·rw [if_pos c53] at H
         have c53b0 : (((rd_T42 t480 x11_3).f0) == 13) = true := beq_iff_eq.mpr c53
         have c53b1 : (((rd_T42 t480 x11_3).f0) != 13) = false := bne_eq_false_iff_eq.mpr c53
         clear c53
         rw [c53b0]
         replace H := Option.bind_eq_some_iff.mp H
         obtain ⟨⟨t486, t487⟩, A540, H⟩ := H
         replace H : (if t487 = true then (if x475005_3 < 0 then (tenancyref15_GetIA.j3 k3 x6_1 t480 x11_3 x475000_1 t477 x475002_28 x475003_28 x475004_3 t486) else (tenancyref15_GetIA.j3 k3 x6_1 t480 x11_3 x475000_1 t477 x475002_28 x475003_28 x475004_3 x475005_3)) else (some (0, 0, 0, 0, ([] : List (S58)), 0, 130))) = some (r1, r2, r3, r4, r5, r6, r7) := H
         have A54 := ak_ A540
         clear A540
         by_cases c55 : t487 = true
         ·subst c55
          have H1 : (if x475005_3 < 0 then (tenancyref15_GetIA.j3 k3 x6_1 t480 x11_3 x475000_1 t477 x475002_28 x475003_28 x475004_3 t486) else (tenancyref15_GetIA.j3 k3 x6_1 t480 x11_3 x475000_1 t477 x475002_28 x475003_28 x475004_3 x475005_3)) = some (r1, r2, r3, r4, r5, r6, r7) := by rw [if_pos rfl] at H; exact H
          clear H
          have H := H1
          clear H1
          by_cases c56 : x475005_3 < 0
          ·rw [if_pos c56] at H
           have c56b0 : decide (x475005_3 < 0) = true := decide_eq_true c56
           clear c56
           have H' := ak_ H
           clear H
           have p485 : 0 ≤ (x11_3 : Int) := of_decide_eq_true (by first | (with_reducible assumption))
           have q485 : x11_3 < (t480.length : Int) := of_decide_eq_true (by first | (with_reducible assumption))
           obtain ⟨ad485, e485, hx485_0, hx485_1⟩ := at_T42 (Kd.R_reads' HO_9.out).2.2 x11_3 p485 q485
           obtain rfl : ad484 = ad485 := (by injection e485)
           replace p485 := eq_true p485
           replace q485 := eq_true q485
           go_wp2_with (first | ((with_reducible refine gate_callee (f := 57) rfl ?_); refine goesL_ (some 80) rfl rfl Try.func57 (by kernel_rfl) rfl #[.string ((rd_T42 t480 x11_3).f1)] rfl (by (try simp only [List.map_toArray, List.map_cons, List.map_nil]); first | rfl) ?_; (with_reducible refine (tenancyref15_GetStatus.calls k3 ((rd_T42 t480 x11_3).f1) t486 true _ A54.out).mono ?_); rintro e w' ⟨rfl, ⟨nd, rfl⟩⟩; refine ⟨_, rfl, ?_⟩; (try (rw [drewN_self wr]; generalize hq_ : World.drewN wr _ = wr; have n0_ : Aside0 (Kd.R k58 58 wr w.heap.size (fun _ => True) u475004 x475004_3) := ⟨by rw [← hq_]; exact (by (with_reducible repeat (first | apply Kd.R_drewN)); exact HO_475004.out)⟩; have n1_ : Aside0 (Kd.R k42 42 wr w.heap.size (fun k_ => k_ ≠ gb472) (.slice (some ad484) t480.length co52) t480) := ⟨by rw [← hq_]; exact (by (with_reducible repeat (first | apply Kd.R_drewN)); exact HO_9.out)⟩; have n2_ : Aside0 (wr.heap[gb472]? = some (.cells #[.int .u16 a0_0, .string a0_1] 42 (0, 0))) := ⟨by rw [← hq_]; exact (by (with_reducible repeat (first | refine blk_drewN ?_ _)); exact BK472.out)⟩; have n3_ : Aside0 (wr.heap[gb473]? = some (.cells #[.int .i64 x474000_3, .int .u32 x474001_3, .int .u32 x474002_3, .int .u32 x474003_3, .slice none 0 0, .int .i64 x474005_3] 51 (0, 0))) := ⟨by rw [← hq_]; exact (by (with_reducible repeat (first | refine blk_drewN ?_ _)); exact BK473.out)⟩; have n4_ : Aside0 (wr.heap[gb474]? = some (.cells #[.int .i64 x475000_1, .int .u32 t477, .int .u32 x475002_28, .int .u32 x475003_28, u475004, .int .i64 x475005_3] 51 (0, 0))) := ⟨by rw [← hq_]; exact (by (with_reducible repeat (first | refine blk_drewN ?_ _)); exact BK474.out)⟩; have n5_ : Aside0 (Below w.heap.size w wr) := ⟨by rw [← hq_]; exact (by repeat (first | (with_reducible first | exact HB.out | apply pw_below_drewN)))⟩; clear HO_475004 HO_9 BK472 BK473 BK474 HB hq_; have HO_475004 := n0_; have HO_9 := n1_; have BK472 := n2_; have BK473 := n3_; have BK474 := n4_; have HB := n5_; clear n0_ n1_ n2_ n3_ n4_ n5_)); have hnb57 := NB474_472.out; have hnc57 := NB472_474.out; have hnb58 := NB474_473.out; have hnc58 := NB473_474.out; have hz59 := bz6_ BK474))
           go_meet
           case rel => exact ⟨_, (x474000_3), (x474001_3), (x474002_3), (x474003_3), (x474005_3), (t486), H', ⟨by have := HJ1.out; have := HJ28.out; have := HK3.out; first | omega⟩, ⟨by exact Kd.R_mono (Kd.R_far (p := ⟨gb474, 5, none⟩) (Kd.R_types HO_9.out BK474.out (by decide)) (fun _ hk => hk.2) (.int .i64 t486)) (fun _ hk => hk.1)⟩, ⟨by exact Kd.R_mono (Kd.R_far (p := ⟨gb474, 5, none⟩) (Kd.R_types HO_475004.out BK474.out (by decide)) (fun _ hk => hk.2) (.int .i64 t486)) (fun _ hk => trivial)⟩, ⟨by refine blk_far ?_ NB472_474.out _; exact BK472.out⟩, ⟨by refine blk_far ?_ NB473_474.out _; exact BK473.out⟩, ⟨by refine blk_put (cs := #[.int .i64 x475000_1, .int .u32 t477, .int .u32 x475002_28, .int .u32 x475003_28, u475004, .int .i64 x475005_3]) ?_ 5 _ rfl; exact BK474.out⟩, ⟨by repeat (first | (with_reducible first | exact HB.out | refine below_set ?_ GE474.out))⟩⟩
          rw [if_neg c56] at H
          have c56b0 : decide (x475005_3 < 0) = false := decide_eq_false c56
          clear c56
          have H' := ak_ H
          clear H
          have p485 : 0 ≤ (x11_3 : Int) := of_decide_eq_true (by first | (with_reducible assumption))
          have q485 : x11_3 < (t480.length : Int) := of_decide_eq_true (by first | (with_reducible assumption))
          obtain ⟨ad485, e485, hx485_0, hx485_1⟩ := at_T42 (Kd.R_reads' HO_9.out).2.2 x11_3 p485 q485
          obtain rfl : ad484 = ad485 := (by injection e485)
          replace p485 := eq_true p485
          replace q485 := eq_true q485
          go_wp2_with (first | ((with_reducible refine gate_callee (f := 57) rfl ?_); refine goesL_ (some 80) rfl rfl Try.func57 (by kernel_rfl) rfl #[.string ((rd_T42 t480 x11_3).f1)] rfl (by (try simp only [List.map_toArray, List.map_cons, List.map_nil]); first | rfl) ?_; (with_reducible refine (tenancyref15_GetStatus.calls k3 ((rd_T42 t480 x11_3).f1) t486 true _ A54.out).mono ?_); rintro e w' ⟨rfl, ⟨nd, rfl⟩⟩; refine ⟨_, rfl, ?_⟩; have hnb60 := NB474_472.out; have hnc60 := NB472_474.out; have hnb61 := NB474_473.out; have hnc61 := NB473_474.out; have hz62 := bz6_ BK474))
          go_meet
          case rel => exact ⟨_, (x474000_3), (x474001_3), (x474002_3), (x474003_3), (x474005_3), (x475005_3), H', ⟨by have := HJ1.out; have := HJ28.out; have := HK3.out; first | omega⟩, ⟨by (with_reducible repeat (first | apply Kd.R_drewN)); exact HO_9.out⟩, ⟨by (with_reducible repeat (first | apply Kd.R_drewN)); exact HO_475004.out⟩, ⟨by (with_reducible repeat (first | refine blk_drewN ?_ _)); exact BK472.out⟩, ⟨by (with_reducible repeat (first | refine blk_drewN ?_ _)); exact BK473.out⟩, ⟨by (with_reducible repeat (first | refine blk_drewN ?_ _)); exact BK474.out⟩, ⟨by repeat (first | (with_reducible first | exact HB.out | apply pw_below_drewN))⟩⟩
         replace c55 := Bool.eq_false_iff.mpr c55
         subst c55
         have H1 : (some (0, 0, 0, 0, ([] : List (S58)), 0, 130)) = some (r1, r2, r3, r4, r5, r6, r7) := by rw [if_neg (show ¬ (false = true) by decide)] at H; exact H
         clear H
         have H := H1
         clear H1
         simp only [Option.some.injEq, Prod.mk.injEq] at H
         obtain ⟨rfl, rfl, rfl, rfl, rfl, rfl, rfl⟩ := H
         have p485 : 0 ≤ (x11_3 : Int) := of_decide_eq_true (by first | (with_reducible assumption))
         have q485 : x11_3 < (t480.length : Int) := of_decide_eq_true (by first | (with_reducible assumption))
         obtain ⟨ad485, e485, hx485_0, hx485_1⟩ := at_T42 (Kd.R_reads' HO_9.out).2.2 x11_3 p485 q485
         obtain rfl : ad484 = ad485 := (by injection e485)
         replace p485 := eq_true p485
         replace q485 := eq_true q485
         go_wp2_with (first | ((with_reducible refine gate_callee (f := 57) rfl ?_); refine goesL_ (some 80) rfl rfl Try.func57 (by kernel_rfl) rfl #[.string ((rd_T42 t480 x11_3).f1)] rfl (by (try simp only [List.map_toArray, List.map_cons, List.map_nil]); first | rfl) ?_; (with_reducible refine (tenancyref15_GetStatus.calls k3 ((rd_T42 t480 x11_3).f1) t486 false _ A54.out).mono ?_); rintro e w' ⟨rfl, ⟨nd, rfl⟩⟩; refine ⟨_, rfl, ?_⟩; (try (rw [drewN_self wr]; generalize hq_ : World.drewN wr _ = wr; have n0_ : Aside0 (Kd.R k58 58 wr w.heap.size (fun _ => True) u475004 x475004_3) := ⟨by rw [← hq_]; exact (by (with_reducible repeat (first | apply Kd.R_drewN)); exact HO_475004.out)⟩; have n1_ : Aside0 (Kd.R k42 42 wr w.heap.size (fun k_ => k_ ≠ gb472) (.slice (some ad484) t480.length co52) t480) := ⟨by rw [← hq_]; exact (by (with_reducible repeat (first | apply Kd.R_drewN)); exact HO_9.out)⟩; have n2_ : Aside0 (wr.heap[gb472]? = some (.cells #[.int .u16 a0_0, .string a0_1] 42 (0, 0))) := ⟨by rw [← hq_]; exact (by (with_reducible repeat (first | refine blk_drewN ?_ _)); exact BK472.out)⟩; have n3_ : Aside0 (wr.heap[gb473]? = some (.cells #[.int .i64 x474000_3, .int .u32 x474001_3, .int .u32 x474002_3, .int .u32 x474003_3, .slice none 0 0, .int .i64 x474005_3] 51 (0, 0))) := ⟨by rw [← hq_]; exact (by (with_reducible repeat (first | refine blk_drewN ?_ _)); exact BK473.out)⟩; have n4_ : Aside0 (wr.heap[gb474]? = some (.cells #[.int .i64 x475000_1, .int .u32 t477, .int .u32 x475002_28, .int .u32 x475003_28, u475004, .int .i64 x475005_3] 51 (0, 0))) := ⟨by rw [← hq_]; exact (by (with_reducible repeat (first | refine blk_drewN ?_ _)); exact BK474.out)⟩; have n5_ : Aside0 (Below w.heap.size w wr) := ⟨by rw [← hq_]; exact (by repeat (first | (with_reducible first | exact HB.out | apply pw_below_drewN)))⟩; clear HO_475004 HO_9 BK472 BK473 BK474 HB hq_; have HO_475004 := n0_; have HO_9 := n1_; have BK472 := n2_; have BK473 := n3_; have BK474 := n4_; have HB := n5_; clear n0_ n1_ n2_ n3_ n4_ n5_)); have hnb63 := NB473_472.out; have hnc63 := NB472_473.out; have hnb64 := NB473_474.out; have hnc64 := NB474_473.out; have hz65 := bz6_ BK473))
         refine bodyPost_ret (results_ct rfl _ _ gb473 51 #[.int .i64 0, .int .u32 0, .int .u32 0, .int .u32 0, .slice none 0 0, .int .i64 0] (0, 0) _ rfl (by refine blk_put (cs := #[.int .i64 0, .int .u32 0, .int .u32 0, .int .u32 0, .slice none 0 0, .int .i64 x474005_3]) ?_ 5 _ rfl; refine blk_put (cs := #[.int .i64 0, .int .u32 0, .int .u32 0, .int .u32 0, .slice none 0 0, .int .i64 x474005_3]) ?_ 4 _ rfl; refine blk_put (cs := #[.int .i64 0, .int .u32 0, .int .u32 0, .int .u32 x474003_3, .slice none 0 0, .int .i64 x474005_3]) ?_ 3 _ rfl; refine blk_put (cs := #[.int .i64 0, .int .u32 0, .int .u32 x474002_3, .int .u32 x474003_3, .slice none 0 0, .int .i64 x474005_3]) ?_ 2 _ rfl; refine blk_put (cs := #[.int .i64 0, .int .u32 x474001_3, .int .u32 x474002_3, .int .u32 x474003_3, .slice none 0 0, .int .i64 x474005_3]) ?_ 1 _ rfl; refine blk_put (cs := #[.int .i64 x474000_3, .int .u32 x474001_3, .int .u32 x474002_3, .int .u32 x474003_3, .slice none 0 0, .int .i64 x474005_3]) ?_ 0 _ rfl; exact BK473.out) Try.underlying51 rfl (by kernel_rfl)) rfl ?_
         exact ⟨_, by rfl, by first | exact Kd.R_nil _ _ _ _ _, by repeat (first | (with_reducible first | exact HB.out | refine below_set ?_ GE473.out))⟩
        rw [if_neg c53] at H
        have c53b0 : (((rd_T42 t480 x11_3).f0) == 13) = false := beq_eq_false_iff_ne.mpr c53
        have c53b1 : (((rd_T42 t480 x11_3).f0) != 13) = true := bne_iff_ne.mpr c53
        rw [c53b0]
        have H' := ak_ H
        clear H
        go_wp2
        go_meet
        case rel => exact ⟨_, (x474000_3), (x474001_3), (x474002_3), (x474003_3), (x474005_3), (x475005_3), H', ⟨by have := HJ1.out; have := HJ28.out; have := HK3.out; first | omega⟩, ⟨by exact HO_9.out⟩, ⟨by exact HO_475004.out⟩, ⟨by exact BK472.out⟩, ⟨by exact BK473.out⟩, ⟨by exact BK474.out⟩, ⟨by exact HB.out⟩⟩
       case rest =>
       clear HC51
       try clear c1
       try clear c2
       try clear p2
       try clear c3
       try clear c4
       try clear p4
       try clear q4
       try clear hx4
       try clear c5
       try clear c6
       try clear c7
       try clear c8
       try clear c9
       try clear c11
       try clear c11b0
       try clear c11b1
       try clear c12
       try clear c13
       try clear c15
       try clear c15b0
       try clear c15b1
       try clear c16
       try clear c17
       try clear c19
       try clear c19b0
       try clear c19b1
       try clear c20
       try clear c21
       try clear c23
       try clear c24
       try clear c27
       try clear c30
       try clear c31
       try clear c33
       try clear c35
       try clear c35b0
       try clear c35b1
       try clear c38
       try clear c39
       try clear c41
       try clear c41b0
       try clear c41b1
       try clear c42
       try clear c42b0
       try clear c42b1
       try clear c44
       try clear c44b0
       try clear c44b1
       try clear c45
       try clear c46
       try clear p48
       try clear q48
       try clear hx48
       try clear c49
       try clear c49b0
       try clear c50
       try clear c50b0
       try clear c53
       try clear c53b0
       try clear c53b1
       try clear c55
       try clear c56
       try clear c56b0
       try clear c57
       try clear c58
       try clear c60
       try clear c61
       try clear c63
       try clear c64
       try clear hz10
       try clear hz14
       try clear hz18
       try clear hz22
       try clear hz25
       try clear hz32
       try clear hz34
       try clear hz40
       try clear hz47
       try clear hz59
       try clear hz62
       try clear hz65
       try clear hz8
       try clear hx484_0
       try clear hx484_1
       try clear hx485_0
       try clear hx485_1
       try clear p2
       try clear p484
       try clear p485
       try clear q484
       try clear q485
       obtain ⟨kq, x474000_50, x474001_50, x474002_50, x474003_50, x474005_50, x475005_50, HA, HJ50, HO_9, HO_475004, BK472, BK473, BK474, HB⟩ := hcut
       cases kq with
       | zero => exact absurd HA.out (by simp [tenancyref15_GetIA.j3])
       | succ kj50 =>
       have H := HA.out
       clear HA
       simp only [tenancyref15_GetIA.j3] at H
       by_cases c66 : 0 ≤ x11_3
       ·rw [if_pos c66] at H
        have c66b0 : decide (0 ≤ x11_3) = true := decide_eq_true c66
        clear c66
        by_cases c67 : x11_3 < (t480.length : Int)
        ·rw [if_pos c67] at H
         have c67b0 : decide (x11_3 < (t480.length : Int)) = true := decide_eq_true c67
         clear c67
         by_cases c68 : ((rd_T42 t480 x11_3).f0) = x6_1
         ·rw [if_pos c68] at H
          have c68b0 : (((rd_T42 t480 x11_3).f0) == x6_1) = true := beq_iff_eq.mpr c68
          have c68b1 : (((rd_T42 t480 x11_3).f0) != x6_1) = false := bne_eq_false_iff_eq.mpr c68
          clear c68
          by_cases c69 : (x475004_3.length : Int) ≥ 8
          ·rw [if_pos c69] at H
           have c69b0 : decide (8 ≤ (x475004_3.length : Int)) = true := decide_eq_true c69
           have c69b1 : decide (8 ≤ x475004_3.length) = true := decide_eq_true (by omega)
           clear c69
           simp only [Option.some.injEq, Prod.mk.injEq] at H
           obtain ⟨rfl, rfl, rfl, rfl, rfl, rfl, rfl⟩ := H
           have p488 : 0 ≤ (x11_3 : Int) := of_decide_eq_true (by first | (with_reducible assumption))
           have q488 : x11_3 < (t480.length : Int) := of_decide_eq_true (by first | (with_reducible assumption))
           obtain ⟨ad488, e488, hx488_0, hx488_1⟩ := at_T42 (Kd.R_reads' HO_9.out).2.2 x11_3 p488 q488
           obtain rfl : ad484 = ad488 := (by injection e488)
           replace p488 := eq_true p488
           replace q488 := eq_true q488
           have hnb70 := NB474_472.out
           have hnc70 := NB472_474.out
           have hnb71 := NB474_473.out
           have hnc71 := NB473_474.out
           have hz72 := bz6_ BK474
           obtain ⟨Ao73, co73, eo73⟩ := Kd.R_slice HO_475004.out
           subst eo73
           have hnb74 := NB473_472.out
           have hnc74 := NB472_473.out
           have hz75 := bz6_ BK473
           go_wp2
           refine bodyPost_ret (results_ct rfl _ _ gb473 51 #[.int .i64 0, .int .u32 0, .int .u32 0, .int .u32 0, .slice none 0 0, .int .i64 0] (0, 0) _ rfl (by refine blk_put (cs := #[.int .i64 0, .int .u32 0, .int .u32 0, .int .u32 0, .slice none 0 0, .int .i64 x474005_50]) ?_ 5 _ rfl; refine blk_put (cs := #[.int .i64 0, .int .u32 0, .int .u32 0, .int .u32 0, .slice none 0 0, .int .i64 x474005_50]) ?_ 4 _ rfl; refine blk_put (cs := #[.int .i64 0, .int .u32 0, .int .u32 0, .int .u32 x474003_50, .slice none 0 0, .int .i64 x474005_50]) ?_ 3 _ rfl; refine blk_put (cs := #[.int .i64 0, .int .u32 0, .int .u32 x474002_50, .int .u32 x474003_50, .slice none 0 0, .int .i64 x474005_50]) ?_ 2 _ rfl; refine blk_put (cs := #[.int .i64 0, .int .u32 x474001_50, .int .u32 x474002_50, .int .u32 x474003_50, .slice none 0 0, .int .i64 x474005_50]) ?_ 1 _ rfl; refine blk_put (cs := #[.int .i64 x474000_50, .int .u32 x474001_50, .int .u32 x474002_50, .int .u32 x474003_50, .slice none 0 0, .int .i64 x474005_50]) ?_ 0 _ rfl; exact BK473.out) Try.underlying51 rfl (by kernel_rfl)) rfl ?_
           exact ⟨_, by rfl, by first | exact Kd.R_nil _ _ _ _ _, by repeat (first | (with_reducible first | exact HB.out | refine below_set ?_ GE473.out))⟩
          rw [if_neg c69] at H
          have c69b0 : decide (8 ≤ (x475004_3.length : Int)) = false := decide_eq_false c69
          have c69b1 : decide (8 ≤ x475004_3.length) = false := decide_eq_false (by omega)
          clear c69
          replace H := Option.bind_eq_some_iff.mp H
          obtain ⟨⟨t490, t491, t492, t493, t494, t495, t496⟩, A760, H⟩ := H
          replace H : (if t496 = 0 then (if x475004_3.length < 3518437208883 then (tenancyref15_GetIA.l0 kj50 x6_1 t480 (wrap64 (x11_3 + 1)) x475000_1 t477 x475002_28 x475003_28 (x475004_3 ++ [(⟨(⟨(⟨t490, t491⟩ : S54), t492⟩ : S56), t493, t494, t495⟩ : S58)]) x475005_50) else (none)) else (some (0, 0, 0, 0, ([] : List (S58)), 0, t496))) = some (r1, r2, r3, r4, r5, r6, r7) := H
          have A76 := ak_ A760
          clear A760
          by_cases c77 : t496 = 0
          ·rw [if_pos c77] at H
           have c77b0 : (t496 == 0) = true := beq_iff_eq.mpr c77
           have c77b1 : (t496 != 0) = false := bne_eq_false_iff_eq.mpr c77
           clear c77
           by_cases c78 : x475004_3.length < 3518437208883
           ·rw [if_pos c78] at H
            have LMc78 := ak_ c78
            clear c78
            obtain ⟨y498, hy498⟩ : ∃ y_ : List (S58), y_ = (x475004_3 ++ [(⟨(⟨(⟨t490, t491⟩ : S54), t492⟩ : S56), t493, t494, t495⟩ : S58)]) := ⟨_, rfl⟩
            replace H : (tenancyref15_GetIA.l0 kj50 x6_1 t480 (wrap64 (x11_3 + 1)) x475000_1 t477 x475002_28 x475003_28 y498 x475005_50) = some (r1, r2, r3, r4, r5, r6, r7) := by first | (rw [hy498]; with_reducible exact H)
            have Ny498 := ak_ hy498
            clear hy498
            have H' := ak_ H
            clear H
            have p488 : 0 ≤ (x11_3 : Int) := of_decide_eq_true (by first | (with_reducible assumption))
            have q488 : x11_3 < (t480.length : Int) := of_decide_eq_true (by first | (with_reducible assumption))
            obtain ⟨ad488, e488, hx488_0, hx488_1⟩ := at_T42 (Kd.R_reads' HO_9.out).2.2 x11_3 p488 q488
            obtain rfl : ad484 = ad488 := (by injection e488)
            replace p488 := eq_true p488
            replace q488 := eq_true q488
            have hnb79 := NB474_472.out
            have hnc79 := NB472_474.out
            have hnb80 := NB474_473.out
            have hnc80 := NB473_474.out
            have hz81 := bz6_ BK474
            obtain ⟨Ao82, co82, eo82⟩ := Kd.R_slice HO_475004.out
            subst eo82
            try go_wp2
            replace HO_9 := ak_ (Kd.R_drew HO_9.out)
            replace HO_475004 := ak_ (Kd.R_drew HO_475004.out)
            replace BK472 := ak_ (blk_drew BK472.out)
            replace BK473 := ak_ (blk_drew BK473.out)
            replace BK474 := ak_ (blk_drew BK474.out)
            replace HB := ak_ (below_drew1 HB.out)
            have p489 : 0 ≤ (x11_3 : Int) := of_decide_eq_true (by first | (with_reducible assumption))
            have q489 : x11_3 < (t480.length : Int) := of_decide_eq_true (by first | (with_reducible assumption))
            obtain ⟨ad489, e489, hx489_0, hx489_1⟩ := at_T42 (Kd.R_reads' HO_9.out).2.2 x11_3 p489 q489
            obtain rfl : ad484 = ad489 := (by injection e489)
            replace p489 := eq_true p489
            replace q489 := eq_true q489
            refine start_ (n := 14) (S := fun w' => w'.cell? ⟨gb474, 0, none⟩ = some (.int .i64 x475000_1) ∧ w'.cell? ⟨gb474, 1, none⟩ = some (.int .u32 t477) ∧ w'.cell? ⟨gb474, 2, none⟩ = some (.int .u32 x475002_28) ∧ w'.cell? ⟨gb474, 3, none⟩ = some (.int .u32 x475003_28) ∧ w'.cell? ⟨gb474, 4, none⟩ = some (.slice Ao82 x475004_3.length co82) ∧ w'.cell? ⟨gb474, 5, none⟩ = some (.int .i64 x475005_50) ∧ w'.cell? (ad484.add ((x11_3).toNat * 2)) = some (.int .u16 ((rd_T42 t480 x11_3).f0)) ∧ w'.cell? ⟨(ad484.add ((x11_3).toNat * 2)).block, (ad484.add ((x11_3).toNat * 2)).off + 1, none⟩ = some (.string ((rd_T42 t480 x11_3).f1))) (ds := []) #[false, false, false, false, false, false, false, false, false, false, false, false, false, false] (by kernel_rfl) rfl rfl ⟨(blk_cell BK474.out 0).trans rfl, (blk_cell BK474.out 1).trans rfl, (blk_cell BK474.out 2).trans rfl, (blk_cell BK474.out 3).trans rfl, (blk_cell BK474.out 4).trans rfl, (blk_cell BK474.out 5).trans rfl, hx489_0, hx489_1⟩ (fun hHeld => ?_); refine with_tabW tenancyref15_GetIA.tab36 tenancyref15_GetIA.bits36 (fun HT_ HW_ => ?_)
            generalize wc.drew = w83 at HO_9 HO_475004 BK472 BK473 BK474 HB hx489_0 hx489_1 hHeld ⊢
            refine pure_ (i := 0) (N := some 104) (v := ?_) (a' := ?_) #[true, false, false, false, false, false, false, false, false, false, false, false, false, false] rfl rfl (any_of HT_.out (by kernel_rfl)) (fun _ _ _ h => h) (Or.inl ⟨by rfl, ?_⟩) ?_ ?_
            rotate_left
            ·intro w'
             go_simp
             with_reducible rfl
            rotate_left
            ·simp only [Act.put, List.setIfInBounds_toArray, List.set_cons_zero, List.set_cons_succ, i64_w, i32_w]
             rfl
            refine pure_ (i := 2) (N := some 106) (v := ?_) (a' := ?_) #[true, false, true, false, false, false, false, false, false, false, false, false, false, false] rfl rfl (any_of HT_.out (by kernel_rfl)) (fun _ _ _ h => h) (Or.inl ⟨by rfl, ?_⟩) ?_ ?_
            rotate_left
            ·intro w'
             go_simp
             with_reducible rfl
            rotate_left
            ·simp only [Act.put, List.setIfInBounds_toArray, List.set_cons_zero, List.set_cons_succ, i64_w, i32_w]
             rfl
            refine pure_ (i := 3) (N := some 107) (v := ?_) (a' := ?_) #[true, false, true, true, false, false, false, false, false, false, false, false, false, false] rfl rfl (any_of HT_.out (by kernel_rfl)) (fun _ _ _ h => h) (Or.inl ⟨by rfl, ?_⟩) ?_ ?_
            rotate_left
            ·intro w'
             go_simp
             with_reducible rfl
            rotate_left
            ·simp only [Act.put, List.setIfInBounds_toArray, List.set_cons_zero, List.set_cons_succ, i64_w, i32_w]
             rfl
            refine pure_ (i := 4) (N := some 108) (v := ?_) (a' := ?_) #[true, false, true, true, true, false, false, false, false, false, false, false, false, false] rfl rfl (any_of HT_.out (by kernel_rfl)) (fun _ _ _ h => h) (Or.inl ⟨by rfl, ?_⟩) ?_ ?_
            rotate_left
            ·intro w'
             go_simp
             with_reducible rfl
            rotate_left
            ·simp only [Act.put, List.setIfInBounds_toArray, List.set_cons_zero, List.set_cons_succ, i64_w, i32_w]
             rfl
            refine pure_ (i := 5) (N := some 109) (v := ?_) (a' := ?_) #[true, false, true, true, true, true, false, false, false, false, false, false, false, false] rfl rfl (any_of HT_.out (by kernel_rfl)) (fun _ _ _ h => h) (Or.inl ⟨by rfl, ?_⟩) ?_ ?_
            rotate_left
            ·intro w'
             go_simp
             with_reducible rfl
            rotate_left
            ·simp only [Act.put, List.setIfInBounds_toArray, List.set_cons_zero, List.set_cons_succ, i64_w, i32_w]
             rfl
            refine take_ (i := 1) (N := some 105) (v := ?_) (a' := ?_) #[true, true, true, true, true, true, false, false, false, false, false, false, false, false] rfl rfl (take_ofW HT_.out HW_.out (by kernel_rfl)) (fun _ _ _ h => h) (Or.inl ⟨by rfl, ?_⟩) hHeld ?_ ?_
            rotate_left
            ·rintro w' ⟨s0, s1, s2, s3, s4, s5, s6, s7⟩
             go_simp
             with_reducible rfl
            rotate_left
            ·simp only [Act.put, List.setIfInBounds_toArray, List.set_cons_zero, List.set_cons_succ, i64_w, i32_w]
             rfl
            refine take_ (i := 6) (N := some 110) (v := ?_) (a' := ?_) #[true, true, true, true, true, true, true, false, false, false, false, false, false, false] rfl rfl (take_ofW HT_.out HW_.out (by kernel_rfl)) (fun _ _ _ h => h) (Or.inl ⟨by rfl, ?_⟩) hHeld ?_ ?_
            rotate_left
            ·rintro w' ⟨s0, s1, s2, s3, s4, s5, s6, s7⟩
             go_simp
             with_reducible rfl
            rotate_left
            ·simp only [Act.put, List.setIfInBounds_toArray, List.set_cons_zero, List.set_cons_succ, i64_w, i32_w]
             rfl
            refine join_ (σ := Nat) 2 #[true, true, true, true, true, true, true, true, true, true, true, true, false, false] (fun s_ => [(111, .tuple #[.agg #[.int .u64 t490, .int .u64 t491, .int .i64 t492, .int .u32 t493, .int .u32 t494, .int .i64 t495], .int .i64 t496]), (14, .pointer (some ⟨s_, 0, none⟩)), (103, .tuple #[.agg #[.int .u64 t490, .int .u64 t491, .int .i64 t492, .int .u32 t493, .int .u32 t494, .int .i64 t495], .int .i64 t496]), (112, .agg #[.int .u64 t490, .int .u64 t491, .int .i64 t492, .int .u32 t493, .int .u32 t494, .int .i64 t495]), (113, .int .i64 t496)]) (fun s_ w' => (w'.cell? ⟨gb474, 0, none⟩ = some (.int .i64 x475000_1) ∧ w'.cell? ⟨gb474, 1, none⟩ = some (.int .u32 t477) ∧ w'.cell? ⟨gb474, 2, none⟩ = some (.int .u32 x475002_28) ∧ w'.cell? ⟨gb474, 3, none⟩ = some (.int .u32 x475003_28) ∧ w'.cell? ⟨gb474, 4, none⟩ = some (.slice Ao82 x475004_3.length co82) ∧ w'.cell? ⟨gb474, 5, none⟩ = some (.int .i64 x475005_50) ∧ w'.cell? (ad484.add ((x11_3).toNat * 2)) = some (.int .u16 ((rd_T42 t480 x11_3).f0)) ∧ w'.cell? ⟨(ad484.add ((x11_3).toNat * 2)).block, (ad484.add ((x11_3).toNat * 2)).off + 1, none⟩ = some (.string ((rd_T42 t480 x11_3).f1))) ∧ (Kd.R k58 58 w' w.heap.size (fun k_ => k_ ≠ s_) (.slice Ao82 x475004_3.length co82) x475004_3) ∧ (Kd.R k42 42 w' w.heap.size (fun k_ => k_ ≠ gb472) (.slice (some ad484) t480.length co52) t480) ∧ (w'.heap[gb472]? = some (.cells #[.int .u16 a0_0, .string a0_1] 42 (0, 0))) ∧ (w'.heap[gb473]? = some (.cells #[.int .i64 x474000_50, .int .u32 x474001_50, .int .u32 x474002_50, .int .u32 x474003_50, .slice none 0 0, .int .i64 x474005_50] 51 (0, 0))) ∧ (w'.heap[gb474]? = some (.cells #[.int .i64 x475000_1, .int .u32 t477, .int .u32 x475002_28, .int .u32 x475003_28, .slice Ao82 x475004_3.length co82, .int .i64 x475005_50] 51 (0, 0))) ∧ (w'.heap[s_]? = some (.cells #[.int .u64 0, .int .u64 0, .int .i64 0, .int .u32 0, .int .u32 0, .int .i64 0] 58 (0, 0))) ∧ (w.heap.size ≤ s_) ∧ (w.heap.size ≤ s_) ∧ (gb472 ≠ s_) ∧ (s_ ≠ gb472) ∧ (gb473 ≠ s_) ∧ (s_ ≠ gb473) ∧ (gb474 ≠ s_) ∧ (s_ ≠ gb474) ∧ (Below w.heap.size w w')) ?_ ?_
            rotate_left
            ·intro hCont
             refine two_ (i := 7) (j := 11) (Ni := some 111) (Nj := some 14) #[true, true, true, true, true, true, true, true, false, false, false, false, false, false] #[true, true, true, true, true, true, true, false, false, false, false, true, false, false] rfl rfl rfl rfl (two_of HT_.out (by kernel_rfl)) (by decide) (by decide) (fun K hK => ?_) (fun K hK => ?_)
             ·skip
              refine goes_ Try.func86 (by kernel_rfl) rfl #[.int .i64 x475000_1, .string ((rd_T42 t480 x11_3).f1)] (by rfl) rfl rfl (by (try simp only [List.map_toArray, List.map_cons, List.map_nil]); first | rfl) ?_
              with_reducible refine (tenancyref15_inner.calls kj50 x475000_1 ((rd_T42 t480 x11_3).f1) t490 t491 t492 t493 t494 t495 t496 _ A76.out).mono ?_
              rintro e w84 ⟨rfl, hb⟩
              have HS6_ := (hb.cell (World.block_lt_of_cell? _ _ (hHeld.2.2.2.2.2.2.1))).trans (hHeld.2.2.2.2.2.2.1)
              have HS7_ := (hb.cell (World.block_lt_of_cell? _ _ (hHeld.2.2.2.2.2.2.2))).trans (hHeld.2.2.2.2.2.2.2)
              refine ⟨_, rfl, ?_⟩
              replace HO_9 := ak_ (Kd.R_below HO_9.out hb)
              replace HO_475004 := ak_ (Kd.R_below HO_475004.out hb)
              replace BK472 := bb_ BK472 hb
              replace BK473 := bb_ BK473 hb
              replace BK474 := bb_ BK474 hb
              replace HB := bs_ HB hb
              (try clear hb)
              (try clear hb2)
              (try clear hk)
              (try clear hi)
              refine hK.out _ _ ⟨(blk_cell BK474.out 0).trans rfl, (blk_cell BK474.out 1).trans rfl, (blk_cell BK474.out 2).trans rfl, (blk_cell BK474.out 3).trans rfl, (blk_cell BK474.out 4).trans rfl, (blk_cell BK474.out 5).trans rfl, HS6_, HS7_⟩ (fun hHeld => ?_)
              clear hK K
              refine norm_ (a' := ?_) ?_ ?_
              rotate_left
              ·show Act.put _ (some 111) _ = _
               simp only [Act.put, List.setIfInBounds_toArray, List.set_cons_zero, List.set_cons_succ, i64_w, i32_w]
               rfl
              refine pure_ (i := 8) (N := some 103) (v := ?_) (a' := ?_) #[true, true, true, true, true, true, true, true, true, false, false, false, false, false] rfl rfl (any_of HT_.out (by kernel_rfl)) (fun _ _ _ h => h) (Or.inl ⟨by rfl, ?_⟩) ?_ ?_
              rotate_left
              ·intro w'
               go_simp
               with_reducible rfl
              rotate_left
              ·simp only [Act.put, List.setIfInBounds_toArray, List.set_cons_zero, List.set_cons_succ, i64_w, i32_w]
               rfl
              refine pure_ (i := 9) (N := some 112) (v := ?_) (a' := ?_) #[true, true, true, true, true, true, true, true, true, true, false, false, false, false] rfl rfl (any_of HT_.out (by kernel_rfl)) (fun _ _ _ h => h) (Or.inl ⟨by rfl, ?_⟩) ?_ ?_
              rotate_left
              ·intro w'
               go_simp
               with_reducible rfl
              rotate_left
              ·simp only [Act.put, List.setIfInBounds_toArray, List.set_cons_zero, List.set_cons_succ, i64_w, i32_w]
               rfl
              refine pure_ (i := 10) (N := some 113) (v := ?_) (a' := ?_) #[true, true, true, true, true, true, true, true, true, true, true, false, false, false] rfl rfl (any_of HT_.out (by kernel_rfl)) (fun _ _ _ h => h) (Or.inl ⟨by rfl, ?_⟩) ?_ ?_
              rotate_left
              ·intro w'
               go_simp
               with_reducible rfl
              rotate_left
              ·simp only [Act.put, List.setIfInBounds_toArray, List.set_cons_zero, List.set_cons_succ, i64_w, i32_w]
               rfl
              refine one_ (i := 11) (N := some 14) #[true, true, true, true, true, true, true, true, true, true, true, true, false, false] rfl rfl (one_of HT_.out (by kernel_rfl)) (by decide) (fun K hK => ?_)
              refine box_step ?hg (N := 14) ?hd (cs := #[.int .u64 0, .int .u64 0, .int .i64 0, .int .u32 0, .int .u32 0, .int .i64 0]) (t := 58) ?hr ?_; (case hd => rfl); (case hg => rfl); (case hr => go_simp; done)
              intro gb497 hg w85 hbox hb
              have HS6_ := (hb.cell (World.block_lt_of_cell? _ _ (hHeld.2.2.2.2.2.2.1))).trans (hHeld.2.2.2.2.2.2.1)
              have HS7_ := (hb.cell (World.block_lt_of_cell? _ _ (hHeld.2.2.2.2.2.2.2))).trans (hHeld.2.2.2.2.2.2.2)
              replace HO_9 := ak_ (Kd.R_below HO_9.out hb)
              replace HO_475004 := ak_ (Kd.R_below (Kd.R_elderB HO_475004.out gb497 (Nat.le_of_eq hg.symm)) hb)
              have BK497 := ak_ hbox
              have GW497 := gz_ HB hg
              have GE497 := gz_ HB hg
              replace HB := bs_ HB hb
              have NB472_497 := gl_ BK472 hg
              have NB497_472 := gr_ BK472 hg
              replace BK472 := bb_ BK472 hb
              have NB473_497 := gl_ BK473 hg
              have NB497_473 := gr_ BK473 hg
              replace BK473 := bb_ BK473 hb
              have NB474_497 := gl_ BK474 hg
              have NB497_474 := gr_ BK474 hg
              replace BK474 := bb_ BK474 hb
              clear hb hbox hg
              refine hK.out _ _ ⟨(blk_cell BK474.out 0).trans rfl, (blk_cell BK474.out 1).trans rfl, (blk_cell BK474.out 2).trans rfl, (blk_cell BK474.out 3).trans rfl, (blk_cell BK474.out 4).trans rfl, (blk_cell BK474.out 5).trans rfl, HS6_, HS7_⟩ (fun hHeld => ?_)
              clear hK K
              refine norm_ (a' := ?_) ?_ ?_
              rotate_left
              ·show Act.put _ (some 14) _ = _
               simp only [Act.put, List.setIfInBounds_toArray, List.set_cons_zero, List.set_cons_succ, i64_w, i32_w]
               rfl
              exact norm_ (by simp only [putAll, Act.put, List.setIfInBounds_toArray, List.set_cons_zero, List.set_cons_succ]) (hCont (gb497) _ ⟨hHeld, (by exact Kd.R_mono HO_475004.out (fun _ hk => hk.2)), HO_9.out, BK472.out, BK473.out, BK474.out, BK497.out, GW497.out, GE497.out, NB472_497.out, NB497_472.out, NB473_497.out, NB497_473.out, NB474_497.out, NB497_474.out, HB.out⟩)
             skip
             refine box_step ?hg (N := 14) ?hd (cs := #[.int .u64 0, .int .u64 0, .int .i64 0, .int .u32 0, .int .u32 0, .int .i64 0]) (t := 58) ?hr ?_; (case hd => rfl); (case hg => rfl); (case hr => go_simp; done)
             intro gb497 hg w84 hbox hb
             have HS6_ := (hb.cell (World.block_lt_of_cell? _ _ (hHeld.2.2.2.2.2.2.1))).trans (hHeld.2.2.2.2.2.2.1)
             have HS7_ := (hb.cell (World.block_lt_of_cell? _ _ (hHeld.2.2.2.2.2.2.2))).trans (hHeld.2.2.2.2.2.2.2)
             replace HO_9 := ak_ (Kd.R_below HO_9.out hb)
             replace HO_475004 := ak_ (Kd.R_below (Kd.R_elderB HO_475004.out gb497 (Nat.le_of_eq hg.symm)) hb)
             have BK497 := ak_ hbox
             have GW497 := gz_ HB hg
             have GE497 := gz_ HB hg
             replace HB := bs_ HB hb
             have NB472_497 := gl_ BK472 hg
             have NB497_472 := gr_ BK472 hg
             replace BK472 := bb_ BK472 hb
             have NB473_497 := gl_ BK473 hg
             have NB497_473 := gr_ BK473 hg
             replace BK473 := bb_ BK473 hb
             have NB474_497 := gl_ BK474 hg
             have NB497_474 := gr_ BK474 hg
             replace BK474 := bb_ BK474 hb
             clear hb hbox hg
             refine hK.out _ _ ⟨(blk_cell BK474.out 0).trans rfl, (blk_cell BK474.out 1).trans rfl, (blk_cell BK474.out 2).trans rfl, (blk_cell BK474.out 3).trans rfl, (blk_cell BK474.out 4).trans rfl, (blk_cell BK474.out 5).trans rfl, HS6_, HS7_⟩ (fun hHeld => ?_)
             clear hK K
             refine norm_ (a' := ?_) ?_ ?_
             rotate_left
             ·show Act.put _ (some 14) _ = _
              simp only [Act.put, List.setIfInBounds_toArray, List.set_cons_zero, List.set_cons_succ, i64_w, i32_w]
              rfl
             refine one_ (i := 7) (N := some 111) #[true, true, true, true, true, true, true, true, false, false, false, true, false, false] rfl rfl (one_of HT_.out (by kernel_rfl)) (by decide) (fun K hK => ?_)
             refine goes_ Try.func86 (by kernel_rfl) rfl #[.int .i64 x475000_1, .string ((rd_T42 t480 x11_3).f1)] (by rfl) rfl rfl (by (try simp only [List.map_toArray, List.map_cons, List.map_nil]); first | rfl) ?_
             with_reducible refine (tenancyref15_inner.calls kj50 x475000_1 ((rd_T42 t480 x11_3).f1) t490 t491 t492 t493 t494 t495 t496 _ A76.out).mono ?_
             rintro e w85 ⟨rfl, hb⟩
             have HS6_ := (hb.cell (World.block_lt_of_cell? _ _ (hHeld.2.2.2.2.2.2.1))).trans (hHeld.2.2.2.2.2.2.1)
             have HS7_ := (hb.cell (World.block_lt_of_cell? _ _ (hHeld.2.2.2.2.2.2.2))).trans (hHeld.2.2.2.2.2.2.2)
             refine ⟨_, rfl, ?_⟩
             replace HO_9 := ak_ (Kd.R_below HO_9.out hb)
             replace HO_475004 := ak_ (Kd.R_below HO_475004.out hb)
             replace BK472 := bb_ BK472 hb
             replace BK473 := bb_ BK473 hb
             replace BK474 := bb_ BK474 hb
             replace BK497 := bb_ BK497 hb
             replace HB := bs_ HB hb
             (try clear hb)
             (try clear hb2)
             (try clear hk)
             (try clear hi)
             refine hK.out _ _ ⟨(blk_cell BK474.out 0).trans rfl, (blk_cell BK474.out 1).trans rfl, (blk_cell BK474.out 2).trans rfl, (blk_cell BK474.out 3).trans rfl, (blk_cell BK474.out 4).trans rfl, (blk_cell BK474.out 5).trans rfl, HS6_, HS7_⟩ (fun hHeld => ?_)
             clear hK K
             refine norm_ (a' := ?_) ?_ ?_
             rotate_left
             ·show Act.put _ (some 111) _ = _
              simp only [Act.put, List.setIfInBounds_toArray, List.set_cons_zero, List.set_cons_succ, i64_w, i32_w]
              rfl
             refine pure_ (i := 8) (N := some 103) (v := ?_) (a' := ?_) #[true, true, true, true, true, true, true, true, true, false, false, true, false, false] rfl rfl (any_of HT_.out (by kernel_rfl)) (fun _ _ _ h => h) (Or.inl ⟨by rfl, ?_⟩) ?_ ?_
             rotate_left
             ·intro w'
              go_simp
              with_reducible rfl
             rotate_left
             ·simp only [Act.put, List.setIfInBounds_toArray, List.set_cons_zero, List.set_cons_succ, i64_w, i32_w]
              rfl
             refine pure_ (i := 9) (N := some 112) (v := ?_) (a' := ?_) #[true, true, true, true, true, true, true, true, true, true, false, true, false, false] rfl rfl (any_of HT_.out (by kernel_rfl)) (fun _ _ _ h => h) (Or.inl ⟨by rfl, ?_⟩) ?_ ?_
             rotate_left
             ·intro w'
              go_simp
              with_reducible rfl
             rotate_left
             ·simp only [Act.put, List.setIfInBounds_toArray, List.set_cons_zero, List.set_cons_succ, i64_w, i32_w]
              rfl
             refine pure_ (i := 10) (N := some 113) (v := ?_) (a' := ?_) #[true, true, true, true, true, true, true, true, true, true, true, true, false, false] rfl rfl (any_of HT_.out (by kernel_rfl)) (fun _ _ _ h => h) (Or.inl ⟨by rfl, ?_⟩) ?_ ?_
             rotate_left
             ·intro w'
              go_simp
              with_reducible rfl
             rotate_left
             ·simp only [Act.put, List.setIfInBounds_toArray, List.set_cons_zero, List.set_cons_succ, i64_w, i32_w]
              rfl
             exact norm_ (by simp only [putAll, Act.put, List.setIfInBounds_toArray, List.set_cons_zero, List.set_cons_succ]) (hCont (gb497) _ ⟨hHeld, (by exact Kd.R_mono HO_475004.out (fun _ hk => hk.2)), HO_9.out, BK472.out, BK473.out, BK474.out, BK497.out, GW497.out, GE497.out, NB472_497.out, NB497_472.out, NB473_497.out, NB497_473.out, NB474_497.out, NB497_474.out, HB.out⟩)
            rintro gb497 w86 ⟨hS_, h0_, h1_, h2_, h3_, h4_, h5_, h6_, h7_, h8_, h9_, h10_, h11_, h12_, h13_, h14_⟩
            have n0_ : Aside0 (Kd.R k58 58 w86 w.heap.size (fun k_ => k_ ≠ gb497) (.slice Ao82 x475004_3.length co82) x475004_3) := ⟨h0_⟩
            have n1_ : Aside0 (Kd.R k42 42 w86 w.heap.size (fun k_ => k_ ≠ gb472) (.slice (some ad484) t480.length co52) t480) := ⟨h1_⟩
            have n2_ : Aside0 (w86.heap[gb472]? = some (.cells #[.int .u16 a0_0, .string a0_1] 42 (0, 0))) := ⟨h2_⟩
            have n3_ : Aside0 (w86.heap[gb473]? = some (.cells #[.int .i64 x474000_50, .int .u32 x474001_50, .int .u32 x474002_50, .int .u32 x474003_50, .slice none 0 0, .int .i64 x474005_50] 51 (0, 0))) := ⟨h3_⟩
            have n4_ : Aside0 (w86.heap[gb474]? = some (.cells #[.int .i64 x475000_1, .int .u32 t477, .int .u32 x475002_28, .int .u32 x475003_28, .slice Ao82 x475004_3.length co82, .int .i64 x475005_50] 51 (0, 0))) := ⟨h4_⟩
            have n5_ : Aside0 (w86.heap[gb497]? = some (.cells #[.int .u64 0, .int .u64 0, .int .i64 0, .int .u32 0, .int .u32 0, .int .i64 0] 58 (0, 0))) := ⟨h5_⟩
            have n6_ : Aside0 (w.heap.size ≤ gb497) := ⟨h6_⟩
            have n7_ : Aside0 (w.heap.size ≤ gb497) := ⟨h7_⟩
            have n8_ : Aside0 (gb472 ≠ gb497) := ⟨h8_⟩
            have n9_ : Aside0 (gb497 ≠ gb472) := ⟨h9_⟩
            have n10_ : Aside0 (gb473 ≠ gb497) := ⟨h10_⟩
            have n11_ : Aside0 (gb497 ≠ gb473) := ⟨h11_⟩
            have n12_ : Aside0 (gb474 ≠ gb497) := ⟨h12_⟩
            have n13_ : Aside0 (gb497 ≠ gb474) := ⟨h13_⟩
            have n14_ : Aside0 (Below w.heap.size w w86) := ⟨h14_⟩
            clear HO_9
            clear HO_475004
            clear BK472
            clear BK473
            clear BK474
            clear HB
            clear h0_ h1_ h2_ h3_ h4_ h5_ h6_ h7_ h8_ h9_ h10_ h11_ h12_ h13_ h14_
            have HO_475004 := n0_
            have HO_9 := n1_
            have BK472 := n2_
            have BK473 := n3_
            have BK474 := n4_
            have BK497 := n5_
            have GW497 := n6_
            have GE497 := n7_
            have NB472_497 := n8_
            have NB497_472 := n9_
            have NB473_497 := n10_
            have NB497_473 := n11_
            have NB474_497 := n12_
            have NB497_474 := n13_
            have HB := n14_
            clear n0_ n1_ n2_ n3_ n4_ n5_ n6_ n7_ n8_ n9_ n10_ n11_ n12_ n13_ n14_
            have hHeld : w86.cell? ⟨gb474, 0, none⟩ = some (.int .i64 x475000_1) ∧ w86.cell? ⟨gb474, 1, none⟩ = some (.int .u32 t477) ∧ w86.cell? ⟨gb474, 2, none⟩ = some (.int .u32 x475002_28) ∧ w86.cell? ⟨gb474, 3, none⟩ = some (.int .u32 x475003_28) ∧ w86.cell? ⟨gb474, 4, none⟩ = some (.slice Ao82 x475004_3.length co82) ∧ w86.cell? ⟨gb474, 5, none⟩ = some (.int .i64 x475005_50) ∧ w86.cell? (ad484.add ((x11_3).toNat * 2)) = some (.int .u16 ((rd_T42 t480 x11_3).f0)) ∧ w86.cell? ⟨(ad484.add ((x11_3).toNat * 2)).block, (ad484.add ((x11_3).toNat * 2)).off + 1, none⟩ = some (.string ((rd_T42 t480 x11_3).f1)) := hS_
            refine norm_ (a' := ?_) ?_ ?_
            rotate_left
            ·simp only [putAll, Act.put, List.setIfInBounds_toArray, List.set_cons_zero, List.set_cons_succ]
             rfl
            refine one_ (i := 12) (N := none) #[true, true, true, true, true, true, true, true, true, true, true, true, true, false] rfl rfl (one_of HT_.out (by kernel_rfl)) (by decide) (fun K hK => ?_)
            have hs87 : w86.cell? ⟨gb497, 0, none⟩ = some (.int .u64 0) := (blk_cell BK497.out 0).trans rfl
            have hfs87 := blk_frozen BK497.out 0
            have hns87_0 := NB472_497.out
            have hns87_1 := NB473_497.out
            have hns87_2 := NB474_497.out
            have hms87_0 := NB497_472.out
            have hms87_1 := NB497_473.out
            have hms87_2 := NB497_474.out
            have hs88 : w86.cell? ⟨gb497, 1, none⟩ = some (.int .u64 0) := (blk_cell BK497.out 1).trans rfl
            have hfs88 := blk_frozen BK497.out 1
            have hns88_0 := NB472_497.out
            have hns88_1 := NB473_497.out
            have hns88_2 := NB474_497.out
            have hms88_0 := NB497_472.out
            have hms88_1 := NB497_473.out
            have hms88_2 := NB497_474.out
            have hs89 : w86.cell? ⟨gb497, 2, none⟩ = some (.int .i64 0) := (blk_cell BK497.out 2).trans rfl
            have hfs89 := blk_frozen BK497.out 2
            have hns89_0 := NB472_497.out
            have hns89_1 := NB473_497.out
            have hns89_2 := NB474_497.out
            have hms89_0 := NB497_472.out
            have hms89_1 := NB497_473.out
            have hms89_2 := NB497_474.out
            have hs90 : w86.cell? ⟨gb497, 3, none⟩ = some (.int .u32 0) := (blk_cell BK497.out 3).trans rfl
            have hfs90 := blk_frozen BK497.out 3
            have hns90_0 := NB472_497.out
            have hns90_1 := NB473_497.out
            have hns90_2 := NB474_497.out
            have hms90_0 := NB497_472.out
            have hms90_1 := NB497_473.out
            have hms90_2 := NB497_474.out
            have hs91 : w86.cell? ⟨gb497, 4, none⟩ = some (.int .u32 0) := (blk_cell BK497.out 4).trans rfl
            have hfs91 := blk_frozen BK497.out 4
            have hns91_0 := NB472_497.out
            have hns91_1 := NB473_497.out
            have hns91_2 := NB474_497.out
            have hms91_0 := NB497_472.out
            have hms91_1 := NB497_473.out
            have hms91_2 := NB497_474.out
            have hs92 : w86.cell? ⟨gb497, 5, none⟩ = some (.int .i64 0) := (blk_cell BK497.out 5).trans rfl
            have hfs92 := blk_frozen BK497.out 5
            have hns92_0 := NB472_497.out
            have hns92_1 := NB473_497.out
            have hns92_2 := NB474_497.out
            have hms92_0 := NB497_472.out
            have hms92_1 := NB497_473.out
            have hms92_2 := NB497_474.out
            refine skip_ (w1 := ?_) (by rfl) rfl ?_ ?_
            rotate_left
            ·go_simp
             rfl
            refine hK.out _ _ ⟨((cell_far (p := ⟨gb497, _, none⟩) NB474_497.out _).trans (((cell_far (p := ⟨gb497, _, none⟩) NB474_497.out _).trans (((cell_far (p := ⟨gb497, _, none⟩) NB474_497.out _).trans (((cell_far (p := ⟨gb497, _, none⟩) NB474_497.out _).trans (((cell_far (p := ⟨gb497, _, none⟩) NB474_497.out _).trans (((cell_far (p := ⟨gb497, _, none⟩) NB474_497.out _).trans (hHeld.1)))))))))))), ((cell_far (p := ⟨gb497, _, none⟩) NB474_497.out _).trans (((cell_far (p := ⟨gb497, _, none⟩) NB474_497.out _).trans (((cell_far (p := ⟨gb497, _, none⟩) NB474_497.out _).trans (((cell_far (p := ⟨gb497, _, none⟩) NB474_497.out _).trans (((cell_far (p := ⟨gb497, _, none⟩) NB474_497.out _).trans (((cell_far (p := ⟨gb497, _, none⟩) NB474_497.out _).trans (hHeld.2.1)))))))))))), ((cell_far (p := ⟨gb497, _, none⟩) NB474_497.out _).trans (((cell_far (p := ⟨gb497, _, none⟩) NB474_497.out _).trans (((cell_far (p := ⟨gb497, _, none⟩) NB474_497.out _).trans (((cell_far (p := ⟨gb497, _, none⟩) NB474_497.out _).trans (((cell_far (p := ⟨gb497, _, none⟩) NB474_497.out _).trans (((cell_far (p := ⟨gb497, _, none⟩) NB474_497.out _).trans (hHeld.2.2.1)))))))))))), ((cell_far (p := ⟨gb497, _, none⟩) NB474_497.out _).trans (((cell_far (p := ⟨gb497, _, none⟩) NB474_497.out _).trans (((cell_far (p := ⟨gb497, _, none⟩) NB474_497.out _).trans (((cell_far (p := ⟨gb497, _, none⟩) NB474_497.out _).trans (((cell_far (p := ⟨gb497, _, none⟩) NB474_497.out _).trans (((cell_far (p := ⟨gb497, _, none⟩) NB474_497.out _).trans (hHeld.2.2.2.1)))))))))))), ((cell_far (p := ⟨gb497, _, none⟩) NB474_497.out _).trans (((cell_far (p := ⟨gb497, _, none⟩) NB474_497.out _).trans (((cell_far (p := ⟨gb497, _, none⟩) NB474_497.out _).trans (((cell_far (p := ⟨gb497, _, none⟩) NB474_497.out _).trans (((cell_far (p := ⟨gb497, _, none⟩) NB474_497.out _).trans (((cell_far (p := ⟨gb497, _, none⟩) NB474_497.out _).trans (hHeld.2.2.2.2.1)))))))))))), ((cell_far (p := ⟨gb497, _, none⟩) NB474_497.out _).trans (((cell_far (p := ⟨gb497, _, none⟩) NB474_497.out _).trans (((cell_far (p := ⟨gb497, _, none⟩) NB474_497.out _).trans (((cell_far (p := ⟨gb497, _, none⟩) NB474_497.out _).trans (((cell_far (p := ⟨gb497, _, none⟩) NB474_497.out _).trans (((cell_far (p := ⟨gb497, _, none⟩) NB474_497.out _).trans (hHeld.2.2.2.2.2.1)))))))))))), ((cell_far (p := ⟨gb497, _, none⟩) (by first | (rw [add_block]; exact Kd.own_blk (Kd.R_ne HO_9.out BK497.out (by decide)))) _).trans (((cell_far (p := ⟨gb497, _, none⟩) (by first | (rw [add_block]; exact Kd.own_blk (Kd.R_ne HO_9.out BK497.out (by decide)))) _).trans (((cell_far (p := ⟨gb497, _, none⟩) (by first | (rw [add_block]; exact Kd.own_blk (Kd.R_ne HO_9.out BK497.out (by decide)))) _).trans (((cell_far (p := ⟨gb497, _, none⟩) (by first | (rw [add_block]; exact Kd.own_blk (Kd.R_ne HO_9.out BK497.out (by decide)))) _).trans (((cell_far (p := ⟨gb497, _, none⟩) (by first | (rw [add_block]; exact Kd.own_blk (Kd.R_ne HO_9.out BK497.out (by decide)))) _).trans (((cell_far (p := ⟨gb497, _, none⟩) (by first | (rw [add_block]; exact Kd.own_blk (Kd.R_ne HO_9.out BK497.out (by decide)))) _).trans (hHeld.2.2.2.2.2.2.1)))))))))))), ((cell_far (p := ⟨gb497, _, none⟩) (by first | (rw [add_block]; exact Kd.own_blk (Kd.R_ne HO_9.out BK497.out (by decide)))) _).trans (((cell_far (p := ⟨gb497, _, none⟩) (by first | (rw [add_block]; exact Kd.own_blk (Kd.R_ne HO_9.out BK497.out (by decide)))) _).trans (((cell_far (p := ⟨gb497, _, none⟩) (by first | (rw [add_block]; exact Kd.own_blk (Kd.R_ne HO_9.out BK497.out (by decide)))) _).trans (((cell_far (p := ⟨gb497, _, none⟩) (by first | (rw [add_block]; exact Kd.own_blk (Kd.R_ne HO_9.out BK497.out (by decide)))) _).trans (((cell_far (p := ⟨gb497, _, none⟩) (by first | (rw [add_block]; exact Kd.own_blk (Kd.R_ne HO_9.out BK497.out (by decide)))) _).trans (((cell_far (p := ⟨gb497, _, none⟩) (by first | (rw [add_block]; exact Kd.own_blk (Kd.R_ne HO_9.out BK497.out (by decide)))) _).trans (hHeld.2.2.2.2.2.2.2))))))))))))⟩ (fun hHeld => ?_)
            clear hK K
            refine pure_ (i := 13) (N := some 15) (v := ?_) (a' := ?_) #[true, true, true, true, true, true, true, true, true, true, true, true, true, true] rfl rfl (any_of HT_.out (by kernel_rfl)) (fun _ _ _ h => h) (Or.inl ⟨by rfl, ?_⟩) ?_ ?_
            rotate_left
            ·intro w'
             go_simp
             with_reducible rfl
            rotate_left
            ·simp only [Act.put, List.setIfInBounds_toArray, List.set_cons_zero, List.set_cons_succ, i64_w, i32_w]
             rfl
            refine done_ (done_of HT_.out (by kernel_rfl)) ?_
            have hnb93 := NB474_497.out
            have hnc93 := NB497_474.out
            have hz94 := bz6_ BK474
            have hnb95 := NB497_472.out
            have hnc95 := NB472_497.out
            have hnb96 := NB497_473.out
            have hnc96 := NB473_497.out
            have hz97 := bz6_ BK497
            try go_wp2_with (first | ((with_reducible refine gate_builtin (b := .append) (xs := #[.tmp 119, .tmp 121]) rfl ?_); at_builtin; refine Kd.R_append k58 (w0 := w) w.heap.size rfl (.tmp 119) (.tmp 121) 49 58 (.agg #[(.int .u64 0), (.int .u64 0), (.int .i64 0), (.int .u32 0), (.int .u32 0), (.int .i64 0)]) 40 rfl Try.underlying49 info58 rfl (by decide) (by omega) (.slice Ao82 x475004_3.length co82) x475004_3 (⟨(⟨(⟨t490, t491⟩ : S54), t492⟩ : S56), t493, t494, t495⟩ : S58) [.int .u64 t490, .int .u64 t491, .int .i64 t492, .int .u32 t493, .int .u32 t494, .int .i64 t495] (fun k_ => k_ ≠ gb497) (fun _ => False) rfl (by first | (go_simp; done)) ?aP (fun _ hk => hk.elim) ?aF ?aO ?aB ?aS ?aL ?_; (case aP => exact k58_mkM _ _ _ (⟨(⟨(⟨t490, t491⟩ : S54), t492⟩ : S56), t493, t494, t495⟩ : S58)); (case aB => exact (by repeat (first | (with_reducible first | exact HB.out | refine below_set ?_ GE497.out)))); (case aF => exact (fun k_ hk => Kd.freshB (g := gb497) (o := .cells #[.int .u64 t490, .int .u64 t491, .int .i64 t492, .int .u32 t493, .int .u32 t494, .int .i64 t495] 58 (0, 0)) (by refine blk_put (cs := #[.int .u64 t490, .int .u64 t491, .int .i64 t492, .int .u32 t493, .int .u32 t494, .int .i64 0]) ?_ 5 _ rfl; refine blk_put (cs := #[.int .u64 t490, .int .u64 t491, .int .i64 t492, .int .u32 t493, .int .u32 0, .int .i64 0]) ?_ 4 _ rfl; refine blk_put (cs := #[.int .u64 t490, .int .u64 t491, .int .i64 t492, .int .u32 0, .int .u32 0, .int .i64 0]) ?_ 3 _ rfl; refine blk_put (cs := #[.int .u64 t490, .int .u64 t491, .int .i64 0, .int .u32 0, .int .u32 0, .int .i64 0]) ?_ 2 _ rfl; refine blk_put (cs := #[.int .u64 t490, .int .u64 0, .int .i64 0, .int .u32 0, .int .u32 0, .int .i64 0]) ?_ 1 _ rfl; refine blk_put (cs := #[.int .u64 0, .int .u64 0, .int .i64 0, .int .u32 0, .int .u32 0, .int .i64 0]) ?_ 0 _ rfl; exact BK497.out) k_ hk)); (case aO => exact (by exact Kd.R_mono (Kd.R_far (p := ⟨gb497, 5, none⟩) (Kd.R_far (p := ⟨gb497, 4, none⟩) (Kd.R_far (p := ⟨gb497, 3, none⟩) (Kd.R_far (p := ⟨gb497, 2, none⟩) (Kd.R_far (p := ⟨gb497, 1, none⟩) (Kd.R_far (p := ⟨gb497, 0, none⟩) (Kd.R_mono HO_475004.out (fun k_ hk => (⟨hk, hk⟩ : _ ∧ k_ ≠ gb497))) (fun _ hk => hk.2) (.int .u64 t490)) (fun _ hk => hk.2) (.int .u64 t491)) (fun _ hk => hk.2) (.int .i64 t492)) (fun _ hk => hk.2) (.int .u32 t493)) (fun _ hk => hk.2) (.int .u32 t494)) (fun _ hk => hk.2) (.int .i64 t495)) (fun _ hk => hk.1))); (case aS => exact (below_size (by repeat (first | (with_reducible first | exact HB.out | refine below_set ?_ GE497.out))))); (case aL => have := LMc78.out; omega); intro v499 w98 ho hb hg hat; rw [← Ny498.out] at ho; replace HO_9 := ak_ (Kd.R_over' (by exact (Kd.R_mono (Kd.R_far (p := ⟨gb497, 5, none⟩) (Kd.R_far (p := ⟨gb497, 4, none⟩) (Kd.R_far (p := ⟨gb497, 3, none⟩) (Kd.R_far (p := ⟨gb497, 2, none⟩) (Kd.R_far (p := ⟨gb497, 1, none⟩) (Kd.R_far (p := ⟨gb497, 0, none⟩) (Kd.R_types HO_9.out BK497.out (by decide)) (fun _ hk => hk.2) (.int .u64 t490)) (fun _ hk => hk.2) (.int .u64 t491)) (fun _ hk => hk.2) (.int .i64 t492)) (fun _ hk => hk.2) (.int .u32 t493)) (fun _ hk => hk.2) (.int .u32 t494)) (fun _ hk => hk.2) (.int .i64 t495)) (fun _ h_ => h_.1))) (Kd.R_typed (by exact (Kd.R_mono (Kd.R_far (p := ⟨gb497, 5, none⟩) (Kd.R_far (p := ⟨gb497, 4, none⟩) (Kd.R_far (p := ⟨gb497, 3, none⟩) (Kd.R_far (p := ⟨gb497, 2, none⟩) (Kd.R_far (p := ⟨gb497, 1, none⟩) (Kd.R_far (p := ⟨gb497, 0, none⟩) (Kd.R_mono HO_475004.out (fun k_ hk => (⟨hk, hk⟩ : _ ∧ k_ ≠ gb497))) (fun _ hk => hk.2) (.int .u64 t490)) (fun _ hk => hk.2) (.int .u64 t491)) (fun _ hk => hk.2) (.int .i64 t492)) (fun _ hk => hk.2) (.int .u32 t493)) (fun _ hk => hk.2) (.int .u32 t494)) (fun _ hk => hk.2) (.int .i64 t495)) (fun _ h_ => h_.1)))) (by decide) hg); replace BK472 := ak_ (blk_grown (g := gb472) (o := .cells #[.int .u16 a0_0, .string a0_1] 42 (0, 0)) (by refine blk_far ?_ NB472_497.out _; refine blk_far ?_ NB472_497.out _; refine blk_far ?_ NB472_497.out _; refine blk_far ?_ NB472_497.out _; refine blk_far ?_ NB472_497.out _; refine blk_far ?_ NB472_497.out _; exact BK472.out) hg (Kd.R_ne HO_475004.out BK472.out (by decide))); replace BK473 := ak_ (blk_grown (g := gb473) (o := .cells #[.int .i64 x474000_50, .int .u32 x474001_50, .int .u32 x474002_50, .int .u32 x474003_50, .slice none 0 0, .int .i64 x474005_50] 51 (0, 0)) (by refine blk_far ?_ NB473_497.out _; refine blk_far ?_ NB473_497.out _; refine blk_far ?_ NB473_497.out _; refine blk_far ?_ NB473_497.out _; refine blk_far ?_ NB473_497.out _; refine blk_far ?_ NB473_497.out _; exact BK473.out) hg (Kd.R_ne HO_475004.out BK473.out (by decide))); replace BK474 := ak_ (blk_grown (g := gb474) (o := .cells #[.int .i64 x475000_1, .int .u32 t477, .int .u32 x475002_28, .int .u32 x475003_28, .slice Ao82 x475004_3.length co82, .int .i64 x475005_50] 51 (0, 0)) (by refine blk_far ?_ NB474_497.out _; refine blk_far ?_ NB474_497.out _; refine blk_far ?_ NB474_497.out _; refine blk_far ?_ NB474_497.out _; refine blk_far ?_ NB474_497.out _; refine blk_far ?_ NB474_497.out _; exact BK474.out) hg (Kd.R_ne HO_475004.out BK474.out (by decide))); replace BK497 := ak_ (blk_grown (g := gb497) (o := .cells #[.int .u64 t490, .int .u64 t491, .int .i64 t492, .int .u32 t493, .int .u32 t494, .int .i64 t495] 58 (0, 0)) (by refine blk_put (cs := #[.int .u64 t490, .int .u64 t491, .int .i64 t492, .int .u32 t493, .int .u32 t494, .int .i64 0]) ?_ 5 _ rfl; refine blk_put (cs := #[.int .u64 t490, .int .u64 t491, .int .i64 t492, .int .u32 t493, .int .u32 0, .int .i64 0]) ?_ 4 _ rfl; refine blk_put (cs := #[.int .u64 t490, .int .u64 t491, .int .i64 t492, .int .u32 0, .int .u32 0, .int .i64 0]) ?_ 3 _ rfl; refine blk_put (cs := #[.int .u64 t490, .int .u64 t491, .int .i64 0, .int .u32 0, .int .u32 0, .int .i64 0]) ?_ 2 _ rfl; refine blk_put (cs := #[.int .u64 t490, .int .u64 0, .int .i64 0, .int .u32 0, .int .u32 0, .int .i64 0]) ?_ 1 _ rfl; refine blk_put (cs := #[.int .u64 0, .int .u64 0, .int .i64 0, .int .u32 0, .int .u32 0, .int .i64 0]) ?_ 0 _ rfl; exact BK497.out) hg (Kd.R_away HO_475004.out (fun _ hk => hk))); replace HB := ak_ hb; have HO500 := ak_ ho; clear HO_475004; clear ho hb hg hat; obtain ⟨Ao99, co99, eo99⟩ := Kd.R_slice HO500.out; subst eo99; have hz100 := bz6_ BK474))
            go_roundg kj50
            case measure => have := HJ1.out; have := HJ28.out; have := HK3.out; have := HJ50.out; omega
            case rel => exact ⟨(wrap64 (x11_3 + 1)), (x474000_50), (x474001_50), (x474002_50), (x474003_50), (x474005_50), (y498), (x475005_50), (.slice Ao99 y498.length co99), (by rfl), H', ⟨by have := HJ1.out; have := HJ28.out; have := HK3.out; have := HJ50.out; omega⟩, ⟨by exact Kd.R_mono (Kd.R_far (p := ⟨gb474, 4, none⟩) (Kd.R_types HO_9.out BK474.out (by decide)) (fun _ hk => hk.2) (.slice Ao99 y498.length co99)) (fun _ hk => hk.1)⟩, ⟨by exact Kd.R_mono (Kd.R_far (p := ⟨gb474, 4, none⟩) (Kd.R_types HO500.out BK474.out (by decide)) (fun _ hk => hk.2) (.slice Ao99 y498.length co99)) (fun _ hk => trivial)⟩, ⟨by refine blk_far ?_ NB472_474.out _; exact BK472.out⟩, ⟨by refine blk_far ?_ NB473_474.out _; exact BK473.out⟩, ⟨by refine blk_put (cs := #[.int .i64 x475000_1, .int .u32 t477, .int .u32 x475002_28, .int .u32 x475003_28, .slice Ao82 x475004_3.length co82, .int .i64 x475005_50]) ?_ 4 _ rfl; exact BK474.out⟩, ⟨by repeat (first | (with_reducible first | exact HB.out | refine below_set ?_ GE474.out))⟩⟩
           rw [if_neg c78] at H
           exact absurd H (by simp)
          rw [if_neg c77] at H
          have c77b0 : (t496 == 0) = false := beq_eq_false_iff_ne.mpr c77
          have c77b1 : (t496 != 0) = true := bne_iff_ne.mpr c77
          simp only [Option.some.injEq, Prod.mk.injEq] at H
          obtain ⟨rfl, rfl, rfl, rfl, rfl, rfl, rfl⟩ := H
          have p488 : 0 ≤ (x11_3 : Int) := of_decide_eq_true (by first | (with_reducible assumption))
          have q488 : x11_3 < (t480.length : Int) := of_decide_eq_true (by first | (with_reducible assumption))
          obtain ⟨ad488, e488, hx488_0, hx488_1⟩ := at_T42 (Kd.R_reads' HO_9.out).2.2 x11_3 p488 q488
          obtain rfl : ad484 = ad488 := (by injection e488)
          replace p488 := eq_true p488
          replace q488 := eq_true q488
          have hnb101 := NB474_472.out
          have hnc101 := NB472_474.out
          have hnb102 := NB474_473.out
          have hnc102 := NB473_474.out
          have hz103 := bz6_ BK474
          obtain ⟨Ao104, co104, eo104⟩ := Kd.R_slice HO_475004.out
          subst eo104
          try go_wp2
          replace HO_9 := ak_ (Kd.R_drew HO_9.out)
          replace HO_475004 := ak_ (Kd.R_drew HO_475004.out)
          replace BK472 := ak_ (blk_drew BK472.out)
          replace BK473 := ak_ (blk_drew BK473.out)
          replace BK474 := ak_ (blk_drew BK474.out)
          replace HB := ak_ (below_drew1 HB.out)
          have p489 : 0 ≤ (x11_3 : Int) := of_decide_eq_true (by first | (with_reducible assumption))
          have q489 : x11_3 < (t480.length : Int) := of_decide_eq_true (by first | (with_reducible assumption))
          obtain ⟨ad489, e489, hx489_0, hx489_1⟩ := at_T42 (Kd.R_reads' HO_9.out).2.2 x11_3 p489 q489
          obtain rfl : ad484 = ad489 := (by injection e489)
          replace p489 := eq_true p489
          replace q489 := eq_true q489
          refine start_ (n := 14) (S := fun w' => w'.cell? ⟨gb474, 0, none⟩ = some (.int .i64 x475000_1) ∧ w'.cell? ⟨gb474, 1, none⟩ = some (.int .u32 t477) ∧ w'.cell? ⟨gb474, 2, none⟩ = some (.int .u32 x475002_28) ∧ w'.cell? ⟨gb474, 3, none⟩ = some (.int .u32 x475003_28) ∧ w'.cell? ⟨gb474, 4, none⟩ = some (.slice Ao104 x475004_3.length co104) ∧ w'.cell? ⟨gb474, 5, none⟩ = some (.int .i64 x475005_50) ∧ w'.cell? (ad484.add ((x11_3).toNat * 2)) = some (.int .u16 ((rd_T42 t480 x11_3).f0)) ∧ w'.cell? ⟨(ad484.add ((x11_3).toNat * 2)).block, (ad484.add ((x11_3).toNat * 2)).off + 1, none⟩ = some (.string ((rd_T42 t480 x11_3).f1))) (ds := []) #[false, false, false, false, false, false, false, false, false, false, false, false, false, false] (by kernel_rfl) rfl rfl ⟨(blk_cell BK474.out 0).trans rfl, (blk_cell BK474.out 1).trans rfl, (blk_cell BK474.out 2).trans rfl, (blk_cell BK474.out 3).trans rfl, (blk_cell BK474.out 4).trans rfl, (blk_cell BK474.out 5).trans rfl, hx489_0, hx489_1⟩ (fun hHeld => ?_); refine with_tabW tenancyref15_GetIA.tab36 tenancyref15_GetIA.bits36 (fun HT_ HW_ => ?_)
          generalize wc.drew = w105 at HO_9 HO_475004 BK472 BK473 BK474 HB hx489_0 hx489_1 hHeld ⊢
          refine pure_ (i := 0) (N := some 104) (v := ?_) (a' := ?_) #[true, false, false, false, false, false, false, false, false, false, false, false, false, false] rfl rfl (any_of HT_.out (by kernel_rfl)) (fun _ _ _ h => h) (Or.inl ⟨by rfl, ?_⟩) ?_ ?_
          rotate_left
          ·intro w'
           go_simp
           with_reducible rfl
          rotate_left
          ·simp only [Act.put, List.setIfInBounds_toArray, List.set_cons_zero, List.set_cons_succ, i64_w, i32_w]
           rfl
          refine pure_ (i := 2) (N := some 106) (v := ?_) (a' := ?_) #[true, false, true, false, false, false, false, false, false, false, false, false, false, false] rfl rfl (any_of HT_.out (by kernel_rfl)) (fun _ _ _ h => h) (Or.inl ⟨by rfl, ?_⟩) ?_ ?_
          rotate_left
          ·intro w'
           go_simp
           with_reducible rfl
          rotate_left
          ·simp only [Act.put, List.setIfInBounds_toArray, List.set_cons_zero, List.set_cons_succ, i64_w, i32_w]
           rfl
          refine pure_ (i := 3) (N := some 107) (v := ?_) (a' := ?_) #[true, false, true, true, false, false, false, false, false, false, false, false, false, false] rfl rfl (any_of HT_.out (by kernel_rfl)) (fun _ _ _ h => h) (Or.inl ⟨by rfl, ?_⟩) ?_ ?_
          rotate_left
          ·intro w'
           go_simp
           with_reducible rfl
          rotate_left
          ·simp only [Act.put, List.setIfInBounds_toArray, List.set_cons_zero, List.set_cons_succ, i64_w, i32_w]
           rfl
          refine pure_ (i := 4) (N := some 108) (v := ?_) (a' := ?_) #[true, false, true, true, true, false, false, false, false, false, false, false, false, false] rfl rfl (any_of HT_.out (by kernel_rfl)) (fun _ _ _ h => h) (Or.inl ⟨by rfl, ?_⟩) ?_ ?_
          rotate_left
          ·intro w'
           go_simp
           with_reducible rfl
          rotate_left
          ·simp only [Act.put, List.setIfInBounds_toArray, List.set_cons_zero, List.set_cons_succ, i64_w, i32_w]
           rfl
          refine pure_ (i := 5) (N := some 109) (v := ?_) (a' := ?_) #[true, false, true, true, true, true, false, false, false, false, false, false, false, false] rfl rfl (any_of HT_.out (by kernel_rfl)) (fun _ _ _ h => h) (Or.inl ⟨by rfl, ?_⟩) ?_ ?_
          rotate_left
          ·intro w'
           go_simp
           with_reducible rfl
          rotate_left
          ·simp only [Act.put, List.setIfInBounds_toArray, List.set_cons_zero, List.set_cons_succ, i64_w, i32_w]
           rfl
          refine take_ (i := 1) (N := some 105) (v := ?_) (a' := ?_) #[true, true, true, true, true, true, false, false, false, false, false, false, false, false] rfl rfl (take_ofW HT_.out HW_.out (by kernel_rfl)) (fun _ _ _ h => h) (Or.inl ⟨by rfl, ?_⟩) hHeld ?_ ?_
          rotate_left
          ·rintro w' ⟨s0, s1, s2, s3, s4, s5, s6, s7⟩
           go_simp
           with_reducible rfl
          rotate_left
          ·simp only [Act.put, List.setIfInBounds_toArray, List.set_cons_zero, List.set_cons_succ, i64_w, i32_w]
           rfl
          refine take_ (i := 6) (N := some 110) (v := ?_) (a' := ?_) #[true, true, true, true, true, true, true, false, false, false, false, false, false, false] rfl rfl (take_ofW HT_.out HW_.out (by kernel_rfl)) (fun _ _ _ h => h) (Or.inl ⟨by rfl, ?_⟩) hHeld ?_ ?_
          rotate_left
          ·rintro w' ⟨s0, s1, s2, s3, s4, s5, s6, s7⟩
           go_simp
           with_reducible rfl
          rotate_left
          ·simp only [Act.put, List.setIfInBounds_toArray, List.set_cons_zero, List.set_cons_succ, i64_w, i32_w]
           rfl
          refine join_ (σ := Nat) 2 #[true, true, true, true, true, true, true, true, true, true, true, true, false, false] (fun s_ => [(111, .tuple #[.agg #[.int .u64 t490, .int .u64 t491, .int .i64 t492, .int .u32 t493, .int .u32 t494, .int .i64 t495], .int .i64 t496]), (14, .pointer (some ⟨s_, 0, none⟩)), (103, .tuple #[.agg #[.int .u64 t490, .int .u64 t491, .int .i64 t492, .int .u32 t493, .int .u32 t494, .int .i64 t495], .int .i64 t496]), (112, .agg #[.int .u64 t490, .int .u64 t491, .int .i64 t492, .int .u32 t493, .int .u32 t494, .int .i64 t495]), (113, .int .i64 t496)]) (fun s_ w' => (w'.cell? ⟨gb474, 0, none⟩ = some (.int .i64 x475000_1) ∧ w'.cell? ⟨gb474, 1, none⟩ = some (.int .u32 t477) ∧ w'.cell? ⟨gb474, 2, none⟩ = some (.int .u32 x475002_28) ∧ w'.cell? ⟨gb474, 3, none⟩ = some (.int .u32 x475003_28) ∧ w'.cell? ⟨gb474, 4, none⟩ = some (.slice Ao104 x475004_3.length co104) ∧ w'.cell? ⟨gb474, 5, none⟩ = some (.int .i64 x475005_50) ∧ w'.cell? (ad484.add ((x11_3).toNat * 2)) = some (.int .u16 ((rd_T42 t480 x11_3).f0)) ∧ w'.cell? ⟨(ad484.add ((x11_3).toNat * 2)).block, (ad484.add ((x11_3).toNat * 2)).off + 1, none⟩ = some (.string ((rd_T42 t480 x11_3).f1))) ∧ (Kd.R k58 58 w' w.heap.size (fun k_ => k_ ≠ s_) (.slice Ao104 x475004_3.length co104) x475004_3) ∧ (Kd.R k42 42 w' w.heap.size (fun k_ => k_ ≠ gb472) (.slice (some ad484) t480.length co52) t480) ∧ (w'.heap[gb472]? = some (.cells #[.int .u16 a0_0, .string a0_1] 42 (0, 0))) ∧ (w'.heap[gb473]? = some (.cells #[.int .i64 x474000_50, .int .u32 x474001_50, .int .u32 x474002_50, .int .u32 x474003_50, .slice none 0 0, .int .i64 x474005_50] 51 (0, 0))) ∧ (w'.heap[gb474]? = some (.cells #[.int .i64 x475000_1, .int .u32 t477, .int .u32 x475002_28, .int .u32 x475003_28, .slice Ao104 x475004_3.length co104, .int .i64 x475005_50] 51 (0, 0))) ∧ (w'.heap[s_]? = some (.cells #[.int .u64 0, .int .u64 0, .int .i64 0, .int .u32 0, .int .u32 0, .int .i64 0] 58 (0, 0))) ∧ (w.heap.size ≤ s_) ∧ (w.heap.size ≤ s_) ∧ (gb472 ≠ s_) ∧ (s_ ≠ gb472) ∧ (gb473 ≠ s_) ∧ (s_ ≠ gb473) ∧ (gb474 ≠ s_) ∧ (s_ ≠ gb474) ∧ (Below w.heap.size w w')) ?_ ?_
          rotate_left
          ·intro hCont
           refine two_ (i := 7) (j := 11) (Ni := some 111) (Nj := some 14) #[true, true, true, true, true, true, true, true, false, false, false, false, false, false] #[true, true, true, true, true, true, true, false, false, false, false, true, false, false] rfl rfl rfl rfl (two_of HT_.out (by kernel_rfl)) (by decide) (by decide) (fun K hK => ?_) (fun K hK => ?_)
           ·skip
            refine goes_ Try.func86 (by kernel_rfl) rfl #[.int .i64 x475000_1, .string ((rd_T42 t480 x11_3).f1)] (by rfl) rfl rfl (by (try simp only [List.map_toArray, List.map_cons, List.map_nil]); first | rfl) ?_
            with_reducible refine (tenancyref15_inner.calls kj50 x475000_1 ((rd_T42 t480 x11_3).f1) t490 t491 t492 t493 t494 t495 t496 _ A76.out).mono ?_
            rintro e w106 ⟨rfl, hb⟩
            have HS6_ := (hb.cell (World.block_lt_of_cell? _ _ (hHeld.2.2.2.2.2.2.1))).trans (hHeld.2.2.2.2.2.2.1)
            have HS7_ := (hb.cell (World.block_lt_of_cell? _ _ (hHeld.2.2.2.2.2.2.2))).trans (hHeld.2.2.2.2.2.2.2)
            refine ⟨_, rfl, ?_⟩
            replace HO_9 := ak_ (Kd.R_below HO_9.out hb)
            replace HO_475004 := ak_ (Kd.R_below HO_475004.out hb)
            replace BK472 := bb_ BK472 hb
            replace BK473 := bb_ BK473 hb
            replace BK474 := bb_ BK474 hb
            replace HB := bs_ HB hb
            (try clear hb)
            (try clear hb2)
            (try clear hk)
            (try clear hi)
            refine hK.out _ _ ⟨(blk_cell BK474.out 0).trans rfl, (blk_cell BK474.out 1).trans rfl, (blk_cell BK474.out 2).trans rfl, (blk_cell BK474.out 3).trans rfl, (blk_cell BK474.out 4).trans rfl, (blk_cell BK474.out 5).trans rfl, HS6_, HS7_⟩ (fun hHeld => ?_)
            clear hK K
            refine norm_ (a' := ?_) ?_ ?_
            rotate_left
            ·show Act.put _ (some 111) _ = _
             simp only [Act.put, List.setIfInBounds_toArray, List.set_cons_zero, List.set_cons_succ, i64_w, i32_w]
             rfl
            refine pure_ (i := 8) (N := some 103) (v := ?_) (a' := ?_) #[true, true, true, true, true, true, true, true, true, false, false, false, false, false] rfl rfl (any_of HT_.out (by kernel_rfl)) (fun _ _ _ h => h) (Or.inl ⟨by rfl, ?_⟩) ?_ ?_
            rotate_left
            ·intro w'
             go_simp
             with_reducible rfl
            rotate_left
            ·simp only [Act.put, List.setIfInBounds_toArray, List.set_cons_zero, List.set_cons_succ, i64_w, i32_w]
             rfl
            refine pure_ (i := 9) (N := some 112) (v := ?_) (a' := ?_) #[true, true, true, true, true, true, true, true, true, true, false, false, false, false] rfl rfl (any_of HT_.out (by kernel_rfl)) (fun _ _ _ h => h) (Or.inl ⟨by rfl, ?_⟩) ?_ ?_
            rotate_left
            ·intro w'
             go_simp
             with_reducible rfl
            rotate_left
            ·simp only [Act.put, List.setIfInBounds_toArray, List.set_cons_zero, List.set_cons_succ, i64_w, i32_w]
             rfl
            refine pure_ (i := 10) (N := some 113) (v := ?_) (a' := ?_) #[true, true, true, true, true, true, true, true, true, true, true, false, false, false] rfl rfl (any_of HT_.out (by kernel_rfl)) (fun _ _ _ h => h) (Or.inl ⟨by rfl, ?_⟩) ?_ ?_
            rotate_left
            ·intro w'
             go_simp
             with_reducible rfl
            rotate_left
            ·simp only [Act.put, List.setIfInBounds_toArray, List.set_cons_zero, List.set_cons_succ, i64_w, i32_w]
             rfl
            refine one_ (i := 11) (N := some 14) #[true, true, true, true, true, true, true, true, true, true, true, true, false, false] rfl rfl (one_of HT_.out (by kernel_rfl)) (by decide) (fun K hK => ?_)
            refine box_step ?hg (N := 14) ?hd (cs := #[.int .u64 0, .int .u64 0, .int .i64 0, .int .u32 0, .int .u32 0, .int .i64 0]) (t := 58) ?hr ?_; (case hd => rfl); (case hg => rfl); (case hr => go_simp; done)
            intro gb497 hg w107 hbox hb
            have HS6_ := (hb.cell (World.block_lt_of_cell? _ _ (hHeld.2.2.2.2.2.2.1))).trans (hHeld.2.2.2.2.2.2.1)
            have HS7_ := (hb.cell (World.block_lt_of_cell? _ _ (hHeld.2.2.2.2.2.2.2))).trans (hHeld.2.2.2.2.2.2.2)
            replace HO_9 := ak_ (Kd.R_below HO_9.out hb)
            replace HO_475004 := ak_ (Kd.R_below (Kd.R_elderB HO_475004.out gb497 (Nat.le_of_eq hg.symm)) hb)
            have BK497 := ak_ hbox
            have GW497 := gz_ HB hg
            have GE497 := gz_ HB hg
            replace HB := bs_ HB hb
            have NB472_497 := gl_ BK472 hg
            have NB497_472 := gr_ BK472 hg
            replace BK472 := bb_ BK472 hb
            have NB473_497 := gl_ BK473 hg
            have NB497_473 := gr_ BK473 hg
            replace BK473 := bb_ BK473 hb
            have NB474_497 := gl_ BK474 hg
            have NB497_474 := gr_ BK474 hg
            replace BK474 := bb_ BK474 hb
            clear hb hbox hg
            refine hK.out _ _ ⟨(blk_cell BK474.out 0).trans rfl, (blk_cell BK474.out 1).trans rfl, (blk_cell BK474.out 2).trans rfl, (blk_cell BK474.out 3).trans rfl, (blk_cell BK474.out 4).trans rfl, (blk_cell BK474.out 5).trans rfl, HS6_, HS7_⟩ (fun hHeld => ?_)
            clear hK K
            refine norm_ (a' := ?_) ?_ ?_
            rotate_left
            ·show Act.put _ (some 14) _ = _
             simp only [Act.put, List.setIfInBounds_toArray, List.set_cons_zero, List.set_cons_succ, i64_w, i32_w]
             rfl
            exact norm_ (by simp only [putAll, Act.put, List.setIfInBounds_toArray, List.set_cons_zero, List.set_cons_succ]) (hCont (gb497) _ ⟨hHeld, (by exact Kd.R_mono HO_475004.out (fun _ hk => hk.2)), HO_9.out, BK472.out, BK473.out, BK474.out, BK497.out, GW497.out, GE497.out, NB472_497.out, NB497_472.out, NB473_497.out, NB497_473.out, NB474_497.out, NB497_474.out, HB.out⟩)
           skip
           refine box_step ?hg (N := 14) ?hd (cs := #[.int .u64 0, .int .u64 0, .int .i64 0, .int .u32 0, .int .u32 0, .int .i64 0]) (t := 58) ?hr ?_; (case hd => rfl); (case hg => rfl); (case hr => go_simp; done)
           intro gb497 hg w106 hbox hb
           have HS6_ := (hb.cell (World.block_lt_of_cell? _ _ (hHeld.2.2.2.2.2.2.1))).trans (hHeld.2.2.2.2.2.2.1)
           have HS7_ := (hb.cell (World.block_lt_of_cell? _ _ (hHeld.2.2.2.2.2.2.2))).trans (hHeld.2.2.2.2.2.2.2)
           replace HO_9 := ak_ (Kd.R_below HO_9.out hb)
           replace HO_475004 := ak_ (Kd.R_below (Kd.R_elderB HO_475004.out gb497 (Nat.le_of_eq hg.symm)) hb)
           have BK497 := ak_ hbox
           have GW497 := gz_ HB hg
           have GE497 := gz_ HB hg
           replace HB := bs_ HB hb
           have NB472_497 := gl_ BK472 hg
           have NB497_472 := gr_ BK472 hg
           replace BK472 := bb_ BK472 hb
           have NB473_497 := gl_ BK473 hg
           have NB497_473 := gr_ BK473 hg
           replace BK473 := bb_ BK473 hb
           have NB474_497 := gl_ BK474 hg
           have NB497_474 := gr_ BK474 hg
           replace BK474 := bb_ BK474 hb
           clear hb hbox hg
           refine hK.out _ _ ⟨(blk_cell BK474.out 0).trans rfl, (blk_cell BK474.out 1).trans rfl, (blk_cell BK474.out 2).trans rfl, (blk_cell BK474.out 3).trans rfl, (blk_cell BK474.out 4).trans rfl, (blk_cell BK474.out 5).trans rfl, HS6_, HS7_⟩ (fun hHeld => ?_)
           clear hK K
           refine norm_ (a' := ?_) ?_ ?_
           rotate_left
           ·show Act.put _ (some 14) _ = _
            simp only [Act.put, List.setIfInBounds_toArray, List.set_cons_zero, List.set_cons_succ, i64_w, i32_w]
            rfl
           refine one_ (i := 7) (N := some 111) #[true, true, true, true, true, true, true, true, false, false, false, true, false, false] rfl rfl (one_of HT_.out (by kernel_rfl)) (by decide) (fun K hK => ?_)
           refine goes_ Try.func86 (by kernel_rfl) rfl #[.int .i64 x475000_1, .string ((rd_T42 t480 x11_3).f1)] (by rfl) rfl rfl (by (try simp only [List.map_toArray, List.map_cons, List.map_nil]); first | rfl) ?_
           with_reducible refine (tenancyref15_inner.calls kj50 x475000_1 ((rd_T42 t480 x11_3).f1) t490 t491 t492 t493 t494 t495 t496 _ A76.out).mono ?_
           rintro e w107 ⟨rfl, hb⟩
           have HS6_ := (hb.cell (World.block_lt_of_cell? _ _ (hHeld.2.2.2.2.2.2.1))).trans (hHeld.2.2.2.2.2.2.1)
           have HS7_ := (hb.cell (World.block_lt_of_cell? _ _ (hHeld.2.2.2.2.2.2.2))).trans (hHeld.2.2.2.2.2.2.2)
           refine ⟨_, rfl, ?_⟩
           replace HO_9 := ak_ (Kd.R_below HO_9.out hb)
           replace HO_475004 := ak_ (Kd.R_below HO_475004.out hb)
           replace BK472 := bb_ BK472 hb
           replace BK473 := bb_ BK473 hb
           replace BK474 := bb_ BK474 hb
           replace BK497 := bb_ BK497 hb
           replace HB := bs_ HB hb
           (try clear hb)
           (try clear hb2)
           (try clear hk)
           (try clear hi)
           refine hK.out _ _ ⟨(blk_cell BK474.out 0).trans rfl, (blk_cell BK474.out 1).trans rfl, (blk_cell BK474.out 2).trans rfl, (blk_cell BK474.out 3).trans rfl, (blk_cell BK474.out 4).trans rfl, (blk_cell BK474.out 5).trans rfl, HS6_, HS7_⟩ (fun hHeld => ?_)
           clear hK K
           refine norm_ (a' := ?_) ?_ ?_
           rotate_left
           ·show Act.put _ (some 111) _ = _
            simp only [Act.put, List.setIfInBounds_toArray, List.set_cons_zero, List.set_cons_succ, i64_w, i32_w]
            rfl
           refine pure_ (i := 8) (N := some 103) (v := ?_) (a' := ?_) #[true, true, true, true, true, true, true, true, true, false, false, true, false, false] rfl rfl (any_of HT_.out (by kernel_rfl)) (fun _ _ _ h => h) (Or.inl ⟨by rfl, ?_⟩) ?_ ?_
           rotate_left
           ·intro w'
            go_simp
            with_reducible rfl
           rotate_left
           ·simp only [Act.put, List.setIfInBounds_toArray, List.set_cons_zero, List.set_cons_succ, i64_w, i32_w]
            rfl
           refine pure_ (i := 9) (N := some 112) (v := ?_) (a' := ?_) #[true, true, true, true, true, true, true, true, true, true, false, true, false, false] rfl rfl (any_of HT_.out (by kernel_rfl)) (fun _ _ _ h => h) (Or.inl ⟨by rfl, ?_⟩) ?_ ?_
           rotate_left
           ·intro w'
            go_simp
            with_reducible rfl
           rotate_left
           ·simp only [Act.put, List.setIfInBounds_toArray, List.set_cons_zero, List.set_cons_succ, i64_w, i32_w]
            rfl
           refine pure_ (i := 10) (N := some 113) (v := ?_) (a' := ?_) #[true, true, true, true, true, true, true, true, true, true, true, true, false, false] rfl rfl (any_of HT_.out (by kernel_rfl)) (fun _ _ _ h => h) (Or.inl ⟨by rfl, ?_⟩) ?_ ?_
           rotate_left
           ·intro w'
            go_simp
            with_reducible rfl
           rotate_left
           ·simp only [Act.put, List.setIfInBounds_toArray, List.set_cons_zero, List.set_cons_succ, i64_w, i32_w]
            rfl
           exact norm_ (by simp only [putAll, Act.put, List.setIfInBounds_toArray, List.set_cons_zero, List.set_cons_succ]) (hCont (gb497) _ ⟨hHeld, (by exact Kd.R_mono HO_475004.out (fun _ hk => hk.2)), HO_9.out, BK472.out, BK473.out, BK474.out, BK497.out, GW497.out, GE497.out, NB472_497.out, NB497_472.out, NB473_497.out, NB497_473.out, NB474_497.out, NB497_474.out, HB.out⟩)
          rintro gb497 w108 ⟨hS_, h0_, h1_, h2_, h3_, h4_, h5_, h6_, h7_, h8_, h9_, h10_, h11_, h12_, h13_, h14_⟩
          have n0_ : Aside0 (Kd.R k58 58 w108 w.heap.size (fun k_ => k_ ≠ gb497) (.slice Ao104 x475004_3.length co104) x475004_3) := ⟨h0_⟩
          have n1_ : Aside0 (Kd.R k42 42 w108 w.heap.size (fun k_ => k_ ≠ gb472) (.slice (some ad484) t480.length co52) t480) := ⟨h1_⟩
          have n2_ : Aside0 (w108.heap[gb472]? = some (.cells #[.int .u16 a0_0, .string a0_1] 42 (0, 0))) := ⟨h2_⟩
          have n3_ : Aside0 (w108.heap[gb473]? = some (.cells #[.int .i64 x474000_50, .int .u32 x474001_50, .int .u32 x474002_50, .int .u32 x474003_50, .slice none 0 0, .int .i64 x474005_50] 51 (0, 0))) := ⟨h3_⟩
          have n4_ : Aside0 (w108.heap[gb474]? = some (.cells #[.int .i64 x475000_1, .int .u32 t477, .int .u32 x475002_28, .int .u32 x475003_28, .slice Ao104 x475004_3.length co104, .int .i64 x475005_50] 51 (0, 0))) := ⟨h4_⟩
          have n5_ : Aside0 (w108.heap[gb497]? = some (.cells #[.int .u64 0, .int .u64 0, .int .i64 0, .int .u32 0, .int .u32 0, .int .i64 0] 58 (0, 0))) := ⟨h5_⟩
          have n6_ : Aside0 (w.heap.size ≤ gb497) := ⟨h6_⟩
          have n7_ : Aside0 (w.heap.size ≤ gb497) := ⟨h7_⟩
          have n8_ : Aside0 (gb472 ≠ gb497) := ⟨h8_⟩
          have n9_ : Aside0 (gb497 ≠ gb472) := ⟨h9_⟩
          have n10_ : Aside0 (gb473 ≠ gb497) := ⟨h10_⟩
          have n11_ : Aside0 (gb497 ≠ gb473) := ⟨h11_⟩
          have n12_ : Aside0 (gb474 ≠ gb497) := ⟨h12_⟩
          have n13_ : Aside0 (gb497 ≠ gb474) := ⟨h13_⟩
          have n14_ : Aside0 (Below w.heap.size w w108) := ⟨h14_⟩
          clear HO_9
          clear HO_475004
          clear BK472
          clear BK473
          clear BK474
          clear HB
          clear h0_ h1_ h2_ h3_ h4_ h5_ h6_ h7_ h8_ h9_ h10_ h11_ h12_ h13_ h14_
          have HO_475004 := n0_
          have HO_9 := n1_
          have BK472 := n2_
          have BK473 := n3_
          have BK474 := n4_
          have BK497 := n5_
          have GW497 := n6_
          have GE497 := n7_
          have NB472_497 := n8_
          have NB497_472 := n9_
          have NB473_497 := n10_
          have NB497_473 := n11_
          have NB474_497 := n12_
          have NB497_474 := n13_
          have HB := n14_
          clear n0_ n1_ n2_ n3_ n4_ n5_ n6_ n7_ n8_ n9_ n10_ n11_ n12_ n13_ n14_
          have hHeld : w108.cell? ⟨gb474, 0, none⟩ = some (.int .i64 x475000_1) ∧ w108.cell? ⟨gb474, 1, none⟩ = some (.int .u32 t477) ∧ w108.cell? ⟨gb474, 2, none⟩ = some (.int .u32 x475002_28) ∧ w108.cell? ⟨gb474, 3, none⟩ = some (.int .u32 x475003_28) ∧ w108.cell? ⟨gb474, 4, none⟩ = some (.slice Ao104 x475004_3.length co104) ∧ w108.cell? ⟨gb474, 5, none⟩ = some (.int .i64 x475005_50) ∧ w108.cell? (ad484.add ((x11_3).toNat * 2)) = some (.int .u16 ((rd_T42 t480 x11_3).f0)) ∧ w108.cell? ⟨(ad484.add ((x11_3).toNat * 2)).block, (ad484.add ((x11_3).toNat * 2)).off + 1, none⟩ = some (.string ((rd_T42 t480 x11_3).f1)) := hS_
          refine norm_ (a' := ?_) ?_ ?_
          rotate_left
          ·simp only [putAll, Act.put, List.setIfInBounds_toArray, List.set_cons_zero, List.set_cons_succ]
           rfl
          refine one_ (i := 12) (N := none) #[true, true, true, true, true, true, true, true, true, true, true, true, true, false] rfl rfl (one_of HT_.out (by kernel_rfl)) (by decide) (fun K hK => ?_)
          have hs109 : w108.cell? ⟨gb497, 0, none⟩ = some (.int .u64 0) := (blk_cell BK497.out 0).trans rfl
          have hfs109 := blk_frozen BK497.out 0
          have hns109_0 := NB472_497.out
          have hns109_1 := NB473_497.out
          have hns109_2 := NB474_497.out
          have hms109_0 := NB497_472.out
          have hms109_1 := NB497_473.out
          have hms109_2 := NB497_474.out
          have hs110 : w108.cell? ⟨gb497, 1, none⟩ = some (.int .u64 0) := (blk_cell BK497.out 1).trans rfl
          have hfs110 := blk_frozen BK497.out 1
          have hns110_0 := NB472_497.out
          have hns110_1 := NB473_497.out
          have hns110_2 := NB474_497.out
          have hms110_0 := NB497_472.out
          have hms110_1 := NB497_473.out
          have hms110_2 := NB497_474.out
          have hs111 : w108.cell? ⟨gb497, 2, none⟩ = some (.int .i64 0) := (blk_cell BK497.out 2).trans rfl
          have hfs111 := blk_frozen BK497.out 2
          have hns111_0 := NB472_497.out
          have hns111_1 := NB473_497.out
          have hns111_2 := NB474_497.out
          have hms111_0 := NB497_472.out
          have hms111_1 := NB497_473.out
          have hms111_2 := NB497_474.out
          have hs112 : w108.cell? ⟨gb497, 3, none⟩ = some (.int .u32 0) := (blk_cell BK497.out 3).trans rfl
          have hfs112 := blk_frozen BK497.out 3
          have hns112_0 := NB472_497.out
          have hns112_1 := NB473_497.out
          have hns112_2 := NB474_497.out
          have hms112_0 := NB497_472.out
          have hms112_1 := NB497_473.out
          have hms112_2 := NB497_474.out
          have hs113 : w108.cell? ⟨gb497, 4, none⟩ = some (.int .u32 0) := (blk_cell BK497.out 4).trans rfl
          have hfs113 := blk_frozen BK497.out 4
          have hns113_0 := NB472_497.out
          have hns113_1 := NB473_497.out
          have hns113_2 := NB474_497.out
          have hms113_0 := NB497_472.out
          have hms113_1 := NB497_473.out
          have hms113_2 := NB497_474.out
          have hs114 : w108.cell? ⟨gb497, 5, none⟩ = some (.int .i64 0) := (blk_cell BK497.out 5).trans rfl
          have hfs114 := blk_frozen BK497.out 5
          have hns114_0 := NB472_497.out
          have hns114_1 := NB473_497.out
          have hns114_2 := NB474_497.out
          have hms114_0 := NB497_472.out
          have hms114_1 := NB497_473.out
          have hms114_2 := NB497_474.out
          refine skip_ (w1 := ?_) (by rfl) rfl ?_ ?_
          rotate_left
          ·go_simp
           rfl
          refine hK.out _ _ ⟨((cell_far (p := ⟨gb497, _, none⟩) NB474_497.out _).trans (((cell_far (p := ⟨gb497, _, none⟩) NB474_497.out _).trans (((cell_far (p := ⟨gb497, _, none⟩) NB474_497.out _).trans (((cell_far (p := ⟨gb497, _, none⟩) NB474_497.out _).trans (((cell_far (p := ⟨gb497, _, none⟩) NB474_497.out _).trans (((cell_far (p := ⟨gb497, _, none⟩) NB474_497.out _).trans (hHeld.1)))))))))))), ((cell_far (p := ⟨gb497, _, none⟩) NB474_497.out _).trans (((cell_far (p := ⟨gb497, _, none⟩) NB474_497.out _).trans (((cell_far (p := ⟨gb497, _, none⟩) NB474_497.out _).trans (((cell_far (p := ⟨gb497, _, none⟩) NB474_497.out _).trans (((cell_far (p := ⟨gb497, _, none⟩) NB474_497.out _).trans (((cell_far (p := ⟨gb497, _, none⟩) NB474_497.out _).trans (hHeld.2.1)))))))))))), ((cell_far (p := ⟨gb497, _, none⟩) NB474_497.out _).trans (((cell_far (p := ⟨gb497, _, none⟩) NB474_497.out _).trans (((cell_far (p := ⟨gb497, _, none⟩) NB474_497.out _).trans (((cell_far (p := ⟨gb497, _, none⟩) NB474_497.out _).trans (((cell_far (p := ⟨gb497, _, none⟩) NB474_497.out _).trans (((cell_far (p := ⟨gb497, _, none⟩) NB474_497.out _).trans (hHeld.2.2.1)))))))))))), ((cell_far (p := ⟨gb497, _, none⟩) NB474_497.out _).trans (((cell_far (p := ⟨gb497, _, none⟩) NB474_497.out _).trans (((cell_far (p := ⟨gb497, _, none⟩) NB474_497.out _).trans (((cell_far (p := ⟨gb497, _, none⟩) NB474_497.out _).trans (((cell_far (p := ⟨gb497, _, none⟩) NB474_497.out _).trans (((cell_far (p := ⟨gb497, _, none⟩) NB474_497.out _).trans (hHeld.2.2.2.1)))))))))))), ((cell_far (p := ⟨gb497, _, none⟩) NB474_497.out _).trans (((cell_far (p := ⟨gb497, _, none⟩) NB474_497.out _).trans (((cell_far (p := ⟨gb497, _, none⟩) NB474_497.out _).trans (((cell_far (p := ⟨gb497, _, none⟩) NB474_497.out _).trans (((cell_far (p := ⟨gb497, _, none⟩) NB474_497.out _).trans (((cell_far (p := ⟨gb497, _, none⟩) NB474_497.out _).trans (hHeld.2.2.2.2.1)))))))))))), ((cell_far (p := ⟨gb497, _, none⟩) NB474_497.out _).trans (((cell_far (p := ⟨gb497, _, none⟩) NB474_497.out _).trans (((cell_far (p := ⟨gb497, _, none⟩) NB474_497.out _).trans (((cell_far (p := ⟨gb497, _, none⟩) NB474_497.out _).trans (((cell_far (p := ⟨gb497, _, none⟩) NB474_497.out _).trans (((cell_far (p := ⟨gb497, _, none⟩) NB474_497.out _).trans (hHeld.2.2.2.2.2.1)))))))))))), ((cell_far (p := ⟨gb497, _, none⟩) (by first | (rw [add_block]; exact Kd.own_blk (Kd.R_ne HO_9.out BK497.out (by decide)))) _).trans (((cell_far (p := ⟨gb497, _, none⟩) (by first | (rw [add_block]; exact Kd.own_blk (Kd.R_ne HO_9.out BK497.out (by decide)))) _).trans (((cell_far (p := ⟨gb497, _, none⟩) (by first | (rw [add_block]; exact Kd.own_blk (Kd.R_ne HO_9.out BK497.out (by decide)))) _).trans (((cell_far (p := ⟨gb497, _, none⟩) (by first | (rw [add_block]; exact Kd.own_blk (Kd.R_ne HO_9.out BK497.out (by decide)))) _).trans (((cell_far (p := ⟨gb497, _, none⟩) (by first | (rw [add_block]; exact Kd.own_blk (Kd.R_ne HO_9.out BK497.out (by decide)))) _).trans (((cell_far (p := ⟨gb497, _, none⟩) (by first | (rw [add_block]; exact Kd.own_blk (Kd.R_ne HO_9.out BK497.out (by decide)))) _).trans (hHeld.2.2.2.2.2.2.1)))))))))))), ((cell_far (p := ⟨gb497, _, none⟩) (by first | (rw [add_block]; exact Kd.own_blk (Kd.R_ne HO_9.out BK497.out (by decide)))) _).trans (((cell_far (p := ⟨gb497, _, none⟩) (by first | (rw [add_block]; exact Kd.own_blk (Kd.R_ne HO_9.out BK497.out (by decide)))) _).trans (((cell_far (p := ⟨gb497, _, none⟩) (by first | (rw [add_block]; exact Kd.own_blk (Kd.R_ne HO_9.out BK497.out (by decide)))) _).trans (((cell_far (p := ⟨gb497, _, none⟩) (by first | (rw [add_block]; exact Kd.own_blk (Kd.R_ne HO_9.out BK497.out (by decide)))) _).trans (((cell_far (p := ⟨gb497, _, none⟩) (by first | (rw [add_block]; exact Kd.own_blk (Kd.R_ne HO_9.out BK497.out (by decide)))) _).trans (((cell_far (p := ⟨gb497, _, none⟩) (by first | (rw [add_block]; exact Kd.own_blk (Kd.R_ne HO_9.out BK497.out (by decide)))) _).trans (hHeld.2.2.2.2.2.2.2))))))))))))⟩ (fun hHeld => ?_)
          clear hK K
          refine pure_ (i := 13) (N := some 15) (v := ?_) (a' := ?_) #[true, true, true, true, true, true, true, true, true, true, true, true, true, true] rfl rfl (any_of HT_.out (by kernel_rfl)) (fun _ _ _ h => h) (Or.inl ⟨by rfl, ?_⟩) ?_ ?_
          rotate_left
          ·intro w'
           go_simp
           with_reducible rfl
          rotate_left
          ·simp only [Act.put, List.setIfInBounds_toArray, List.set_cons_zero, List.set_cons_succ, i64_w, i32_w]
           rfl
          refine done_ (done_of HT_.out (by kernel_rfl)) ?_
          have hnb115 := NB473_472.out
          have hnc115 := NB472_473.out
          have hnb116 := NB473_497.out
          have hnc116 := NB497_473.out
          have hz117 := bz6_ BK473
          try go_wp2
          refine bodyPost_ret (results_ct rfl _ _ gb473 51 #[.int .i64 0, .int .u32 0, .int .u32 0, .int .u32 0, .slice none 0 0, .int .i64 0] (0, 0) _ rfl (by refine blk_put (cs := #[.int .i64 0, .int .u32 0, .int .u32 0, .int .u32 0, .slice none 0 0, .int .i64 x474005_50]) ?_ 5 _ rfl; refine blk_put (cs := #[.int .i64 0, .int .u32 0, .int .u32 0, .int .u32 0, .slice none 0 0, .int .i64 x474005_50]) ?_ 4 _ rfl; refine blk_put (cs := #[.int .i64 0, .int .u32 0, .int .u32 0, .int .u32 x474003_50, .slice none 0 0, .int .i64 x474005_50]) ?_ 3 _ rfl; refine blk_put (cs := #[.int .i64 0, .int .u32 0, .int .u32 x474002_50, .int .u32 x474003_50, .slice none 0 0, .int .i64 x474005_50]) ?_ 2 _ rfl; refine blk_put (cs := #[.int .i64 0, .int .u32 x474001_50, .int .u32 x474002_50, .int .u32 x474003_50, .slice none 0 0, .int .i64 x474005_50]) ?_ 1 _ rfl; refine blk_put (cs := #[.int .i64 x474000_50, .int .u32 x474001_50, .int .u32 x474002_50, .int .u32 x474003_50, .slice none 0 0, .int .i64 x474005_50]) ?_ 0 _ rfl; refine blk_far ?_ NB473_497.out _; refine blk_far ?_ NB473_497.out _; refine blk_far ?_ NB473_497.out _; refine blk_far ?_ NB473_497.out _; refine blk_far ?_ NB473_497.out _; refine blk_far ?_ NB473_497.out _; exact BK473.out) Try.underlying51 rfl (by kernel_rfl)) rfl ?_
          exact ⟨_, by rfl, by first | exact Kd.R_nil _ _ _ _ _, by repeat (first | (with_reducible first | exact HB.out | refine below_set ?_ GE473.out | refine below_set ?_ GE497.out))⟩
         rw [if_neg c68] at H
         have c68b0 : (((rd_T42 t480 x11_3).f0) == x6_1) = false := beq_eq_false_iff_ne.mpr c68
         have c68b1 : (((rd_T42 t480 x11_3).f0) != x6_1) = true := bne_iff_ne.mpr c68
         have H' := ak_ H
         clear H
         have p488 : 0 ≤ (x11_3 : Int) := of_decide_eq_true (by first | (with_reducible assumption))
         have q488 : x11_3 < (t480.length : Int) := of_decide_eq_true (by first | (with_reducible assumption))
         obtain ⟨ad488, e488, hx488_0, hx488_1⟩ := at_T42 (Kd.R_reads' HO_9.out).2.2 x11_3 p488 q488
         obtain rfl : ad484 = ad488 := (by injection e488)
         replace p488 := eq_true p488
         replace q488 := eq_true q488
         go_wp2
         go_roundg kj50
         case measure => have := HJ1.out; have := HJ28.out; have := HK3.out; have := HJ50.out; omega
         case rel => exact ⟨(wrap64 (x11_3 + 1)), (x474000_50), (x474001_50), (x474002_50), (x474003_50), (x474005_50), (x475004_3), (x475005_50), (u475004), (by rfl), H', ⟨by have := HJ1.out; have := HJ28.out; have := HK3.out; have := HJ50.out; omega⟩, ⟨by exact HO_9.out⟩, ⟨by exact HO_475004.out⟩, ⟨by exact BK472.out⟩, ⟨by exact BK473.out⟩, ⟨by exact BK474.out⟩, ⟨by exact HB.out⟩⟩
        rw [if_neg c67] at H
        exact absurd H (by simp)
       rw [if_neg c66] at H
       exact absurd H (by simp)
      rw [if_neg c50] at H
      exact absurd H (by simp)
     rw [if_neg c49] at H
     have c49b0 : decide (x11_3 < (t480.length : Int)) = false := decide_eq_false c49
     clear c49
     simp only [Option.some.injEq, Prod.mk.injEq] at H
     obtain ⟨rfl, rfl, rfl, rfl, rfl, rfl, rfl⟩ := H
     obtain ⟨Ao118, co118, eo118⟩ := Kd.R_slice HO_9.out
     subst eo118
     have hnb119 := NB474_472.out
     have hnc119 := NB472_474.out
     have hnb120 := NB474_473.out
     have hnc120 := NB473_474.out
     have hz121 := bz6_ BK474
     have hnb122 := NB473_472.out
     have hnc122 := NB472_473.out
     have hz123 := bz6_ BK473
     obtain ⟨Ao124, co124, eo124⟩ := Kd.R_slice HO_475004.out
     subst eo124
     go_wp2
     refine bodyPost_ret (results_ct rfl _ _ gb473 51 #[.int .i64 x475000_1, .int .u32 t477, .int .u32 x475002_28, .int .u32 x475003_28, .slice Ao124 x475004_3.length co124, .int .i64 x475005_3] (0, 0) _ rfl (by refine blk_put (cs := #[.int .i64 x475000_1, .int .u32 t477, .int .u32 x475002_28, .int .u32 x475003_28, .slice Ao124 x475004_3.length co124, .int .i64 x474005_3]) ?_ 5 _ rfl; refine blk_put (cs := #[.int .i64 x475000_1, .int .u32 t477, .int .u32 x475002_28, .int .u32 x475003_28, .slice none 0 0, .int .i64 x474005_3]) ?_ 4 _ rfl; refine blk_put (cs := #[.int .i64 x475000_1, .int .u32 t477, .int .u32 x475002_28, .int .u32 x474003_3, .slice none 0 0, .int .i64 x474005_3]) ?_ 3 _ rfl; refine blk_put (cs := #[.int .i64 x475000_1, .int .u32 t477, .int .u32 x474002_3, .int .u32 x474003_3, .slice none 0 0, .int .i64 x474005_3]) ?_ 2 _ rfl; refine blk_put (cs := #[.int .i64 x475000_1, .int .u32 x474001_3, .int .u32 x474002_3, .int .u32 x474003_3, .slice none 0 0, .int .i64 x474005_3]) ?_ 1 _ rfl; refine blk_put (cs := #[.int .i64 x474000_3, .int .u32 x474001_3, .int .u32 x474002_3, .int .u32 x474003_3, .slice none 0 0, .int .i64 x474005_3]) ?_ 0 _ rfl; exact BK473.out) Try.underlying51 rfl (by kernel_rfl)) rfl ?_
     exact ⟨_, by rfl, by exact Kd.R_mono (Kd.R_far (p := ⟨gb473, 5, none⟩) (Kd.R_far (p := ⟨gb473, 4, none⟩) (Kd.R_far (p := ⟨gb473, 3, none⟩) (Kd.R_far (p := ⟨gb473, 2, none⟩) (Kd.R_far (p := ⟨gb473, 1, none⟩) (Kd.R_far (p := ⟨gb473, 0, none⟩) (Kd.R_types HO_475004.out BK473.out (by decide)) (fun _ hk => hk.2) (.int .i64 x475000_1)) (fun _ hk => hk.2) (.int .u32 t477)) (fun _ hk => hk.2) (.int .u32 x475002_28)) (fun _ hk => hk.2) (.int .u32 x475003_28)) (fun _ hk => hk.2) (.slice Ao124 x475004_3.length co124)) (fun _ hk => hk.2) (.int .i64 x475005_3)) (fun _ hk => trivial), by repeat (first | (with_reducible first | exact HB.out | refine below_set ?_ GE473.out))⟩
    rw [if_neg c44] at H
    have c44b0 : (t481 == 0) = false := beq_eq_false_iff_ne.mpr c44
    have c44b1 : (t481 != 0) = true := bne_iff_ne.mpr c44
    simp only [Option.some.injEq, Prod.mk.injEq] at H
    obtain ⟨rfl, rfl, rfl, rfl, rfl, rfl, rfl⟩ := H
    have hnb125 := NB472_473.out
    have hnc125 := NB473_472.out
    have hnb126 := NB472_474.out
    have hnc126 := NB474_472.out
    have hz127 := bz2_ BK472
    go_wp2_with (first | ((with_reducible refine gate_callee (f := 31) rfl ?_); refine goesL_ (some 55) rfl rfl Try.func31 (by kernel_rfl) rfl #[.string (a0_1.extract (x5_1 : Int).toNat a0_1.size)] rfl (by (try simp only [List.map_toArray, List.map_cons, List.map_nil]); first | rfl) ?_; (with_reducible refine (tenancyref15_Parse.calls kj28 (a0_1.extract (x5_1 : Int).toNat a0_1.size) t480 t481 _ A43.out).mono ?_); rintro e w128 ⟨v482, rfl, ho0, hb⟩; refine ⟨_, rfl, ?_⟩; have HO483 := ak_ (Kd.R_lower (Kd.R_newB ho0 (g := gb472) (o := .cells #[.int .u16 a0_0, .string a0_1] 42 (0, 0)) BK472.out) (below_size HB.out)); replace BK472 := bb_ BK472 hb; replace BK473 := bb_ BK473 hb; replace BK474 := bb_ BK474 hb; replace HB := bs_ HB hb; (try clear hb); (try clear ho0); have hnb129 := NB473_474.out; have hnc129 := NB474_473.out; have hz130 := bz6_ BK473))
    refine bodyPost_ret (results_ct rfl _ _ gb473 51 #[.int .i64 0, .int .u32 0, .int .u32 0, .int .u32 0, .slice none 0 0, .int .i64 0] (0, 0) _ rfl (by refine blk_put (cs := #[.int .i64 0, .int .u32 0, .int .u32 0, .int .u32 0, .slice none 0 0, .int .i64 x474005_1]) ?_ 5 _ rfl; refine blk_put (cs := #[.int .i64 0, .int .u32 0, .int .u32 0, .int .u32 0, .slice none 0 0, .int .i64 x474005_1]) ?_ 4 _ rfl; refine blk_put (cs := #[.int .i64 0, .int .u32 0, .int .u32 0, .int .u32 x474003_1, .slice none 0 0, .int .i64 x474005_1]) ?_ 3 _ rfl; refine blk_put (cs := #[.int .i64 0, .int .u32 0, .int .u32 x474002_1, .int .u32 x474003_1, .slice none 0 0, .int .i64 x474005_1]) ?_ 2 _ rfl; refine blk_put (cs := #[.int .i64 0, .int .u32 x474001_1, .int .u32 x474002_1, .int .u32 x474003_1, .slice none 0 0, .int .i64 x474005_1]) ?_ 1 _ rfl; refine blk_put (cs := #[.int .i64 x474000_1, .int .u32 x474001_1, .int .u32 x474002_1, .int .u32 x474003_1, .slice none 0 0, .int .i64 x474005_1]) ?_ 0 _ rfl; exact BK473.out) Try.underlying51 rfl (by kernel_rfl)) rfl ?_
    exact ⟨_, by rfl, by first | exact Kd.R_nil _ _ _ _ _, by repeat (first | (with_reducible first | exact HB.out | refine below_set ?_ GE473.out))⟩
   rw [if_neg c42] at H
   exact absurd H (by simp)
  rw [if_neg c41] at H
  exact absurd H (by simp)
 replace c27 := Bool.eq_false_iff.mpr c27
 subst c27
 have H1 : (some (0, 0, 0, 0, ([] : List (S58)), 0, 3)) = some (r1, r2, r3, r4, r5, r6, r7) := by rw [if_neg (show ¬ (false = true) by decide)] at H; exact H
 clear H
 have H := H1
 clear H1
 simp only [Option.some.injEq, Prod.mk.injEq] at H
 obtain ⟨rfl, rfl, rfl, rfl, rfl, rfl, rfl⟩ := H
 have hnb131 := NB472_473.out
 have hnc131 := NB473_472.out
 have hnb132 := NB472_474.out
 have hnc132 := NB474_472.out
 have hz133 := bz2_ BK472
 go_wp2_with (first | ((with_reducible refine gate_callee (f := 84) rfl ?_); refine goesL_ (some 33) rfl rfl Try.func84 (by kernel_rfl) rfl #[.string a0_1, .int .i64 0, .int .i64 x5_1] rfl (by (try simp only [List.map_toArray, List.map_cons, List.map_nil]); first | rfl) ?_; (with_reducible refine (tenancyref04_Cut.calls a0_1 0 x5_1 t475 false _ A26.out).mono ?_); rintro e w' ⟨rfl, ⟨nd, rfl⟩⟩; refine ⟨_, rfl, ?_⟩; (try (rw [drewN_self wc]; generalize hq_ : World.drewN wc _ = wc; have n0_ : Aside0 (wc.heap[gb472]? = some (.cells #[.int .u16 a0_0, .string a0_1] 42 (0, 0))) := ⟨by rw [← hq_]; exact (by (with_reducible repeat (first | refine blk_drewN ?_ _)); exact BK472.out)⟩; have n1_ : Aside0 (wc.heap[gb473]? = some (.cells #[.int .i64 x474000_1, .int .u32 x474001_1, .int .u32 x474002_1, .int .u32 x474003_1, .slice none 0 0, .int .i64 x474005_1] 51 (0, 0))) := ⟨by rw [← hq_]; exact (by (with_reducible repeat (first | refine blk_drewN ?_ _)); exact BK473.out)⟩; have n2_ : Aside0 (wc.heap[gb474]? = some (.cells #[.int .i64 x475000_1, .int .u32 0, .int .u32 0, .int .u32 0, .slice none 0 0, .int .i64 (-1)] 51 (0, 0))) := ⟨by rw [← hq_]; exact (by (with_reducible repeat (first | refine blk_drewN ?_ _)); exact BK474.out)⟩; have n3_ : Aside0 (Below w.heap.size w wc) := ⟨by rw [← hq_]; exact (by repeat (first | (with_reducible first | exact HB.out | apply pw_below_drewN)))⟩; clear BK472 BK473 BK474 HB hq_; have BK472 := n0_; have BK473 := n1_; have BK474 := n2_; have HB := n3_; clear n0_ n1_ n2_ n3_)); have hnb134 := NB473_474.out; have hnc134 := NB474_473.out; have hz135 := bz6_ BK473))
 refine bodyPost_ret (results_ct rfl _ _ gb473 51 #[.int .i64 0, .int .u32 0, .int .u32 0, .int .u32 0, .slice none 0 0, .int .i64 0] (0, 0) _ rfl (by refine blk_put (cs := #[.int .i64 0, .int .u32 0, .int .u32 0, .int .u32 0, .slice none 0 0, .int .i64 x474005_1]) ?_ 5 _ rfl; refine blk_put (cs := #[.int .i64 0, .int .u32 0, .int .u32 0, .int .u32 0, .slice none 0 0, .int .i64 x474005_1]) ?_ 4 _ rfl; refine blk_put (cs := #[.int .i64 0, .int .u32 0, .int .u32 0, .int .u32 x474003_1, .slice none 0 0, .int .i64 x474005_1]) ?_ 3 _ rfl; refine blk_put (cs := #[.int .i64 0, .int .u32 0, .int .u32 x474002_1, .int .u32 x474003_1, .slice none 0 0, .int .i64 x474005_1]) ?_ 2 _ rfl; refine blk_put (cs := #[.int .i64 0, .int .u32 x474001_1, .int .u32 x474002_1, .int .u32 x474003_1, .slice none 0 0, .int .i64 x474005_1]) ?_ 1 _ rfl; refine blk_put (cs := #[.int .i64 x474000_1, .int .u32 x474001_1, .int .u32 x474002_1, .int .u32 x474003_1, .slice none 0 0, .int .i64 x474005_1]) ?_ 0 _ rfl; exact BK473.out) Try.underlying51 rfl (by kernel_rfl)) rfl ?_
 exact ⟨_, by rfl, by first | exact Kd.R_nil _ _ _ _ _, by repeat (first | (with_reducible first | exact HB.out | refine below_set ?_ GE473.out))⟩









end Go.Proofs.Ythadapbekmmgpaa.X
