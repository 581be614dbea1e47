/- Functions of the program as Lean functions, and that the calls come to them: no condition.  By this session's own program (wip/xprint). -/
import Derived.Test.YthadapbekmmgpaaEX0
import Derived.Test.YthadapbekmmgpaaEX5
namespace Go.Proofs.Ythadapbekmmgpaa.X
open Go.RowKit Go.Proofs.YthadapbekmmgpaaW.PrintWords Go.Proofs.YthadapbekmmgpaaW.PrintLast Go.Proofs.YthadapbekmmgpaaW.PrintMore
attribute [local go_sem] max2_int min2_int max_two min_two max_three min_three max_four min_four
set_option linter.unusedVariables false
set_option linter.unusedSimpArgs false

mutual
def tenancyref15_PutIA.j0 : Nat → ByteArray → Int → Int → Int → Int → List (S58) → Int → Option (Int × ByteArray × Int)
  | 0, _, _, _, _, _, _, _ => none
  | k + 1, x4, x324000, x324001, x324002, x324003, x324004, x324005 => tenancyref15_PutIA.l0 k x4 0 x324000 x324001 x324002 x324003 x324004 x324005
def tenancyref15_PutIA.l0 : Nat → ByteArray → Int → Int → Int → Int → Int → List (S58) → Int → Option (Int × ByteArray × Int)
  | 0, _, _, _, _, _, _, _, _ => none
  | k + 1, x4, x5, x324000, x324001, x324002, x324003, x324004, x324005 => if x5 < (x324004.length : Int) then (if 0 ≤ x5 then ((tenancyref04_Put32.f k ((rd_T58 x324004 x5).f1)).bind fun t333 => ((tenancyref04_Put32.f k ((rd_T58 x324004 x5).f2)).bind fun t334 => (if t333.size + t334.size ≤ 9223372036854775807 then (if x324000 = 4 then ((some (([((rd_T58 x324004 x5).f0.f1) % 256] : List Int) : List Int)).bind fun y335 => (if (t333 ++ t334).size + (strOfNums y335).size ≤ 9223372036854775807 then ((tenancyref04_PutAddr.f k ((rd_T58 x324004 x5).f0.f0.f0) ((rd_T58 x324004 x5).f0.f0.f1)).bind fun t338 => (if ((t333 ++ t334) ++ (strOfNums y335)).size + t338.size ≤ 9223372036854775807 then ((tenancyref15_statusOption.f k ((rd_T58 x324004 x5).f3)).bind fun t339 => (if (((t333 ++ t334) ++ (strOfNums y335)) ++ t338).size + t339.size ≤ 9223372036854775807 then ((tenancyref15_option.f k 26 ((((t333 ++ t334) ++ (strOfNums y335)) ++ t338) ++ t339)).bind fun t340 => (if x4.size + t340.size ≤ 9223372036854775807 then (tenancyref15_PutIA.l0 k (x4 ++ t340) (wrap64 (x5 + 1)) x324000 x324001 x324002 x324003 x324004 x324005) else (none))) else (none))) else (none))) else (none))) else ((tenancyref04_PutAddr.f k ((rd_T58 x324004 x5).f0.f0.f0) ((rd_T58 x324004 x5).f0.f0.f1)).bind fun t341 => (if t341.size + (t333 ++ t334).size ≤ 9223372036854775807 then ((tenancyref15_statusOption.f k ((rd_T58 x324004 x5).f3)).bind fun t342 => (if (t341 ++ (t333 ++ t334)).size + t342.size ≤ 9223372036854775807 then ((tenancyref15_option.f k 5 ((t341 ++ (t333 ++ t334)) ++ t342)).bind fun t343 => (if x4.size + t343.size ≤ 9223372036854775807 then (tenancyref15_PutIA.l0 k (x4 ++ t343) (wrap64 (x5 + 1)) x324000 x324001 x324002 x324003 x324004 x324005) else (none))) else (none))) else (none)))) else (none)))) else (none)) else ((tenancyref15_statusOption.f k x324005).bind fun t329 => (if x4.size + t329.size ≤ 9223372036854775807 then ((tenancyref15_Code.f x324000).bind fun t330 => (some (t330, x4 ++ t329, 0))) else (none)))
end
def tenancyref15_PutIA.f (k : Nat) (a0_0 : Int) (a0_1 : Int) (a0_2 : Int) (a0_3 : Int) (l0_4 : List (S58)) (a0_5 : Int) : Option (Int × ByteArray × Int) := (tenancyref15_Sound.f k a0_0 a0_1 a0_2 a0_3 l0_4 a0_5).bind fun t325 => (if t325 = true then ((tenancyref04_Put32.f k a0_1).bind fun t326 => (if a0_0 = 3 then (tenancyref15_PutIA.j0 k t326 a0_0 a0_1 a0_2 a0_3 l0_4 a0_5) else ((tenancyref04_Put32.f k a0_2).bind fun t327 => (if t326.size + t327.size ≤ 9223372036854775807 then ((tenancyref04_Put32.f k a0_3).bind fun t328 => (if (t326 ++ t327).size + t328.size ≤ 9223372036854775807 then (tenancyref15_PutIA.j0 k ((t326 ++ t327) ++ t328) a0_0 a0_1 a0_2 a0_3 l0_4 a0_5) else (none))) else (none))))) else (some (0, (⟨#[]⟩ : ByteArray), 130)))
def tenancyref15_PutIA.T5 : Bool × List (List Nat × List Nat) := (true, [([], []), ([], []), ([1], [1]), ([2], [2]), ([0, 3], [0, 3]), ([], []), ([5], [5]), ([6, 3], [6]), ([4, 7], [4, 7]), ([8, 7, 0, 1, 2, 3, 4, 5, 6, 7, 8], [0, 8])])
def tenancyref15_PutIA.B5 : List Nat := [0, 0, 2, 6, 15, 0, 32, 110, 255, 511]
theorem tenancyref15_PutIA.tab5 : rtab .any (opsOf Try.f46 5) = tenancyref15_PutIA.T5 := by kernel_rfl
theorem tenancyref15_PutIA.bits5 : waitsOk tenancyref15_PutIA.T5.2 tenancyref15_PutIA.B5 = true := by kernel_rfl
def tenancyref15_PutIA.T10 : Bool × List (List Nat × List Nat) := (true, [([], []), ([0], [0]), ([1], [1]), ([], []), ([3], [3]), ([4, 2], [4]), ([2, 5], [2, 5]), ([6, 5, 0, 1, 2, 3, 4, 5, 6], [6])])
def tenancyref15_PutIA.B10 : List Nat := [0, 1, 3, 0, 8, 31, 63, 127]
theorem tenancyref15_PutIA.tab10 : rtab .any (opsOf Try.f46 10) = tenancyref15_PutIA.T10 := by kernel_rfl
theorem tenancyref15_PutIA.bits10 : waitsOk tenancyref15_PutIA.T10.2 tenancyref15_PutIA.B10 = true := by kernel_rfl
def tenancyref15_PutIA.T12 : Bool × List (List Nat × List Nat) := (true, [([], []), ([], []), ([], []), ([2], [2]), ([3], [3]), ([4], [4]), ([5], [5]), ([6], [6]), ([1, 7], [1, 7]), ([], []), ([9], [9]), ([10], [10]), ([11], [11]), ([8, 12], [8, 12]), ([], []), ([14], [14]), ([15, 12], [15]), ([13, 16], [13, 16]), ([17, 16], [17]), ([0, 18], [0, 18]), ([19, 18, 0, 1, 2, 3, 4, 5, 6, 7, 8, 9, 10, 11, 12, 13, 14, 15, 16, 17, 18, 19], [0, 19])])
def tenancyref15_PutIA.B12 : List Nat := [0, 0, 0, 4, 12, 28, 60, 124, 254, 0, 512, 1536, 3584, 8190, 0, 16384, 56832, 131070, 262142, 524287, 1048575]
theorem tenancyref15_PutIA.tab12 : rtab .any (opsOf Try.f46 12) = tenancyref15_PutIA.T12 := by kernel_rfl
theorem tenancyref15_PutIA.bits12 : waitsOk tenancyref15_PutIA.T12.2 tenancyref15_PutIA.B12 = true := by kernel_rfl
def tenancyref15_PutIA.T13 : Bool × List (List Nat × List Nat) := (true, [([], []), ([], []), ([1], [1]), ([2], [2]), ([3], [3]), ([], []), ([4, 5], [4, 5]), ([], []), ([7], [7]), ([8, 4], [8]), ([6, 9], [6, 9]), ([10, 9], [10]), ([0, 11], [0, 11]), ([12, 11, 0, 1, 2, 3, 4, 5, 6, 7, 8, 9, 10, 11, 12], [0, 12])])
def tenancyref15_PutIA.B13 : List Nat := [0, 0, 2, 6, 14, 0, 62, 0, 128, 414, 1022, 2046, 4095, 8191]
theorem tenancyref15_PutIA.tab13 : rtab .any (opsOf Try.f46 13) = tenancyref15_PutIA.T13 := by kernel_rfl
theorem tenancyref15_PutIA.bits13 : waitsOk tenancyref15_PutIA.T13.2 tenancyref15_PutIA.B13 = true := by kernel_rfl
set_option maxHeartbeats 8000000 in
set_option maxRecDepth 100000 in
theorem tenancyref15_PutIA.calls (k : Nat) (a0_0 : Int) (a0_1 : Int) (a0_2 : Int) (a0_3 : Int) (A0_4 : Option Addr) (c0_4 : Nat) (l0_4 : List (S58)) (a0_5 : Int) (r1 : Int) (r2 : ByteArray) (r3 : Int) (w : World) (hr0_4 : Kd.C k58 w A0_4 l0_4.length l0_4) (hc0_4 : l0_4.length ≤ c0_4) (h : tenancyref15_PutIA.f k a0_0 a0_1 a0_2 a0_3 l0_4 a0_5 = some (r1, r2, r3)) :
 Calls Try.prog 46 #[.agg #[.int .i64 a0_0, .int .u32 a0_1, .int .u32 a0_2, .int .u32 a0_3, .slice A0_4 l0_4.length c0_4, .int .i64 a0_5]] w fun e w' => e = .returned (.tuple #[.agg #[.int .u16 r1, .string r2], .int .i64 r3]) ∧ Below w.heap.size w w' := by
 have hu51 := Try.underlying51
 have hu42 := Try.underlying42
 have hu58 := Try.underlying58
 have hu54 := Try.underlying54
 have HR0_4 := ak_ hr0_4
 have HC0_4 := ak_ hc0_4
 clear hr0_4 hc0_4
 have HB := ak_ (Below.refl w.heap.size w)
 have H : ((tenancyref15_Sound.f k a0_0 a0_1 a0_2 a0_3 l0_4 a0_5).bind fun t325 => (if t325 = true then ((tenancyref04_Put32.f k a0_1).bind fun t326 => (if a0_0 = 3 then (tenancyref15_PutIA.j0 k t326 a0_0 a0_1 a0_2 a0_3 l0_4 a0_5) else ((tenancyref04_Put32.f k a0_2).bind fun t327 => (if t326.size + t327.size ≤ 9223372036854775807 then ((tenancyref04_Put32.f k a0_3).bind fun t328 => (if (t326 ++ t327).size + t328.size ≤ 9223372036854775807 then (tenancyref15_PutIA.j0 k ((t326 ++ t327) ++ t328) a0_0 a0_1 a0_2 a0_3 l0_4 a0_5) else (none))) else (none))))) else (some (0, (⟨#[]⟩ : ByteArray), 130)))) = some (r1, r2, r3) := h
 clear h
 replace H := Option.bind_eq_some_iff.mp H
 obtain ⟨t325, A20, H⟩ := H
 replace H : (if t325 = true then ((tenancyref04_Put32.f k a0_1).bind fun t326 => (if a0_0 = 3 then (tenancyref15_PutIA.j0 k t326 a0_0 a0_1 a0_2 a0_3 l0_4 a0_5) else ((tenancyref04_Put32.f k a0_2).bind fun t327 => (if t326.size + t327.size ≤ 9223372036854775807 then ((tenancyref04_Put32.f k a0_3).bind fun t328 => (if (t326 ++ t327).size + t328.size ≤ 9223372036854775807 then (tenancyref15_PutIA.j0 k ((t326 ++ t327) ++ t328) a0_0 a0_1 a0_2 a0_3 l0_4 a0_5) else (none))) else (none))))) else (some (0, (⟨#[]⟩ : ByteArray), 130))) = some (r1, r2, r3) := H
 have A2 := ak_ A20
 clear A20
 by_cases c3 : t325 = true
 ·subst c3
  have H1 : ((tenancyref04_Put32.f k a0_1).bind fun t326 => (if a0_0 = 3 then (tenancyref15_PutIA.j0 k t326 a0_0 a0_1 a0_2 a0_3 l0_4 a0_5) else ((tenancyref04_Put32.f k a0_2).bind fun t327 => (if t326.size + t327.size ≤ 9223372036854775807 then ((tenancyref04_Put32.f k a0_3).bind fun t328 => (if (t326 ++ t327).size + t328.size ≤ 9223372036854775807 then (tenancyref15_PutIA.j0 k ((t326 ++ t327) ++ t328) a0_0 a0_1 a0_2 a0_3 l0_4 a0_5) else (none))) else (none))))) = some (r1, r2, r3) := by rw [if_pos rfl] at H; exact H
  clear H
  have H := H1
  clear H1
  replace H := Option.bind_eq_some_iff.mp H
  obtain ⟨t326, A40, H⟩ := H
  replace H : (if a0_0 = 3 then (tenancyref15_PutIA.j0 k t326 a0_0 a0_1 a0_2 a0_3 l0_4 a0_5) else ((tenancyref04_Put32.f k a0_2).bind fun t327 => (if t326.size + t327.size ≤ 9223372036854775807 then ((tenancyref04_Put32.f k a0_3).bind fun t328 => (if (t326 ++ t327).size + t328.size ≤ 9223372036854775807 then (tenancyref15_PutIA.j0 k ((t326 ++ t327) ++ t328) a0_0 a0_1 a0_2 a0_3 l0_4 a0_5) else (none))) else (none)))) = some (r1, r2, r3) := H
  have A4 := ak_ A40
  clear A40
  have HC5 := ak_ H
  clear H
  go_enter Try.func46, Try.ntmps46
  go_upto_if 17 with (first | ((with_reducible refine gate_dst (N := 1) rfl ?_); refine box_event ?hg (N := 1) ?hd (cs := #[.int .i64 a0_0, .int .u32 a0_1, .int .u32 a0_2, .int .u32 a0_3, .slice A0_4 l0_4.length c0_4, .int .i64 a0_5]) (t := 51) ?hr ?_; (case hd => rfl); (case hg => rfl); (case hr => go_simp; done); intro gb323 hg w6 hbox hb; have BK323 := ak_ hbox; have GW323 := gz_ HB hg; have GE323 := gz_ HB hg; replace HB := bs_ HB hb; clear hb hbox hg) | ((with_reducible refine gate_dst (N := 2) rfl ?_); refine box_event ?hg (N := 2) ?hd (cs := #[.int .u16 0, .string (⟨#[]⟩ : ByteArray)]) (t := 42) ?hr ?_; (case hd => rfl); (case hg => rfl); (case hr => go_simp; done); intro gb324 hg w7 hbox hb; have BK324 := ak_ hbox; have GW324 := gz_ HB hg; have GE324 := gz_ HB hg; replace HB := bs_ HB hb; have NB323_324 := gl_ BK323 hg; have NB324_323 := gr_ BK323 hg; replace BK323 := bb_ BK323 hb; clear hb hbox hg; have hnb8 := NB323_324.out; have hnc8 := NB324_323.out; have hz9 := bz6_ BK323) | ((with_reducible refine gate_callee (f := 69) rfl ?_); refine goesL_ (some 9) rfl rfl Try.func69 (by kernel_rfl) rfl #[.agg #[.int .i64 a0_0, .int .u32 a0_1, .int .u32 a0_2, .int .u32 a0_3, .slice A0_4 l0_4.length c0_4, .int .i64 a0_5]] rfl (by (try simp only [List.map_toArray, List.map_cons, List.map_nil]); first | rfl) ?_; (with_reducible refine (tenancyref15_Sound.calls k a0_0 a0_1 a0_2 a0_3 _ _ l0_4 a0_5 true _ ?side1 ?side2 A2.out).mono ?_); (case side1 => repeat (first | exact (Kd.C_below HR0_4.out HB.out))); (case side2 => exact HC0_4.out); rintro e w10 ⟨rfl, hb⟩; refine ⟨_, rfl, ?_⟩; replace BK323 := bb_ BK323 hb; replace BK324 := bb_ BK324 hb; replace HB := bs_ HB hb; (try clear hb); have hz11 := bz6_ BK323) | ((with_reducible refine gate_callee (f := 70) rfl ?_); refine goesL_ (some 14) rfl rfl Try.func70 (by kernel_rfl) rfl #[.int .u32 a0_1] rfl (by (try simp only [List.map_toArray, List.map_cons, List.map_nil]); first | rfl) ?_; (with_reducible refine (tenancyref04_Put32.calls k a0_1 t326 _ A4.out).mono ?_); rintro e w12 ⟨rfl, hb⟩; refine ⟨_, rfl, ?_⟩; replace BK323 := bb_ BK323 hb; replace BK324 := bb_ BK324 hb; replace HB := bs_ HB hb; (try clear hb); have hz13 := bz6_ BK323))
  (try simp only [Act.put, List.setIfInBounds_toArray, List.set_cons_zero, List.set_cons_succ])
  go_cut [4] (fun v4 wc => ∃ (kq : Nat) (x4_4 : ByteArray), v4 = .string x4_4 ∧ Aside0 (tenancyref15_PutIA.j0 kq x4_4 a0_0 a0_1 a0_2 a0_3 l0_4 a0_5 = some (r1, r2, r3)) ∧ Aside0 (kq ≤ k) ∧ Aside0 (wc.heap[gb323]? = some (.cells #[.int .i64 a0_0, .int .u32 a0_1, .int .u32 a0_2, .int .u32 a0_3, (.slice A0_4 l0_4.length c0_4), .int .i64 a0_5] 51 (0, 0))) ∧ Aside0 (wc.heap[gb324]? = some (.cells #[.int .u16 0, .string (⟨#[]⟩ : ByteArray)] 42 (0, 0))) ∧ Aside0 (Below w.heap.size w wc))
  case first =>
   have H := HC5.out
   clear HC5
   by_cases c14 : a0_0 = 3
   ·rw [if_pos c14] at H
    have c14b0 : (a0_0 == 3) = true := beq_iff_eq.mpr c14
    have c14b1 : (a0_0 != 3) = false := bne_eq_false_iff_eq.mpr c14
    clear c14
    (first | skip)
    have H' := ak_ H
    clear H
    go_wp2
    go_meet
    case rel => exact ⟨_, (t326), (by rfl), H', ⟨by omega⟩, ⟨by exact BK323.out⟩, ⟨by exact BK324.out⟩, ⟨by exact HB.out⟩⟩
   rw [if_neg c14] at H
   have c14b0 : (a0_0 == 3) = false := beq_eq_false_iff_ne.mpr c14
   have c14b1 : (a0_0 != 3) = true := bne_iff_ne.mpr c14
   (first | skip)
   replace H := Option.bind_eq_some_iff.mp H
   obtain ⟨t327, A150, H⟩ := H
   replace H : (if t326.size + t327.size ≤ 9223372036854775807 then ((tenancyref04_Put32.f k a0_3).bind fun t328 => (if (t326 ++ t327).size + t328.size ≤ 9223372036854775807 then (tenancyref15_PutIA.j0 k ((t326 ++ t327) ++ t328) a0_0 a0_1 a0_2 a0_3 l0_4 a0_5) else (none))) else (none)) = some (r1, r2, r3) := H
   have A15 := ak_ A150
   clear A150
   by_cases c16 : t326.size + t327.size ≤ 9223372036854775807
   ·rw [if_pos c16] at H
    have c16b0 := eq_true c16
    have c16b1 : decide (t326.size + t327.size ≤ 9223372036854775807) = true := decide_eq_true c16
    try have c16b2 : (9223372036854775807 < t326.size + t327.size) = False := eq_false (Nat.not_lt.2 c16)
    replace H := Option.bind_eq_some_iff.mp H
    obtain ⟨t328, A170, H⟩ := H
    replace H : (if (t326 ++ t327).size + t328.size ≤ 9223372036854775807 then (tenancyref15_PutIA.j0 k ((t326 ++ t327) ++ t328) a0_0 a0_1 a0_2 a0_3 l0_4 a0_5) else (none)) = some (r1, r2, r3) := H
    have A17 := ak_ A170
    clear A170
    by_cases c18 : (t326 ++ t327).size + t328.size ≤ 9223372036854775807
    ·rw [if_pos c18] at H
     have c18b0 := eq_true c18
     have c18b1 : decide ((t326 ++ t327).size + t328.size ≤ 9223372036854775807) = true := decide_eq_true c18
     try have c18b2 : (9223372036854775807 < (t326 ++ t327).size + t328.size) = False := eq_false (Nat.not_lt.2 c18)
     (try (have c18b2a := c18b2; simp only [ByteArray.size_append] at c18b2a))
     have H' := ak_ H
     clear H
     try go_wp2
     replace BK323 := ak_ (blk_drew BK323.out)
     replace BK324 := ak_ (blk_drew BK324.out)
     replace HB := ak_ (below_drew1 HB.out)
     refine start_ (n := 10) (S := fun w' => w'.cell? ⟨gb323, 0, none⟩ = some (.int .i64 a0_0) ∧ w'.cell? ⟨gb323, 1, none⟩ = some (.int .u32 a0_1) ∧ w'.cell? ⟨gb323, 2, none⟩ = some (.int .u32 a0_2) ∧ w'.cell? ⟨gb323, 3, none⟩ = some (.int .u32 a0_3) ∧ w'.cell? ⟨gb323, 4, none⟩ = some (.slice A0_4 l0_4.length c0_4) ∧ w'.cell? ⟨gb323, 5, none⟩ = some (.int .i64 a0_5)) (ds := []) #[false, false, false, false, false, false, false, false, false, false] (by kernel_rfl) rfl rfl ⟨(blk_cell BK323.out 0).trans rfl, (blk_cell BK323.out 1).trans rfl, (blk_cell BK323.out 2).trans rfl, (blk_cell BK323.out 3).trans rfl, (blk_cell BK323.out 4).trans rfl, (blk_cell BK323.out 5).trans rfl⟩ (fun hHeld => ?_); refine with_tabW tenancyref15_PutIA.tab5 tenancyref15_PutIA.bits5 (fun HT_ HW_ => ?_)
     generalize w12.drew = w19 at BK323 BK324 HB hHeld ⊢
     refine pure_ (i := 0) (N := some 18) (v := ?_) (a' := ?_) #[true, false, false, false, false, false, false, false, false, false] rfl rfl (any_of HT_.out (by kernel_rfl)) (fun _ _ _ h => h) (Or.inl ⟨by rfl, ?_⟩) ?_ ?_
     rotate_left
     ·intro w'
      go_simp
      with_reducible rfl
     rotate_left
     ·simp only [Act.put, List.setIfInBounds_toArray, List.set_cons_zero, List.set_cons_succ, i64_w, i32_w]
      rfl
     refine pure_ (i := 1) (N := some 19) (v := ?_) (a' := ?_) #[true, true, false, false, false, false, false, false, false, false] rfl rfl (any_of HT_.out (by kernel_rfl)) (fun _ _ _ h => h) (Or.inl ⟨by rfl, ?_⟩) ?_ ?_
     rotate_left
     ·intro w'
      go_simp
      with_reducible rfl
     rotate_left
     ·simp only [Act.put, List.setIfInBounds_toArray, List.set_cons_zero, List.set_cons_succ, i64_w, i32_w]
      rfl
     refine pure_ (i := 5) (N := some 23) (v := ?_) (a' := ?_) #[true, true, false, false, false, true, false, false, false, false] rfl rfl (any_of HT_.out (by kernel_rfl)) (fun _ _ _ h => h) (Or.inl ⟨by rfl, ?_⟩) ?_ ?_
     rotate_left
     ·intro w'
      go_simp
      with_reducible rfl
     rotate_left
     ·simp only [Act.put, List.setIfInBounds_toArray, List.set_cons_zero, List.set_cons_succ, i64_w, i32_w]
      rfl
     refine take_ (i := 2) (N := some 20) (v := ?_) (a' := ?_) #[true, true, true, false, false, true, false, false, false, false] rfl rfl (take_ofW HT_.out HW_.out (by kernel_rfl)) (fun _ _ _ h => h) (Or.inl ⟨by rfl, ?_⟩) hHeld ?_ ?_
     rotate_left
     ·rintro w' ⟨s0, s1, s2, s3, s4, s5⟩
      go_simp
      with_reducible rfl
     rotate_left
     ·simp only [Act.put, List.setIfInBounds_toArray, List.set_cons_zero, List.set_cons_succ, i64_w, i32_w]
      rfl
     refine take_ (i := 6) (N := some 24) (v := ?_) (a' := ?_) #[true, true, true, false, false, true, true, false, false, false] rfl rfl (take_ofW HT_.out HW_.out (by kernel_rfl)) (fun _ _ _ h => h) (Or.inl ⟨by rfl, ?_⟩) hHeld ?_ ?_
     rotate_left
     ·rintro w' ⟨s0, s1, s2, s3, s4, s5⟩
      go_simp
      with_reducible rfl
     rotate_left
     ·simp only [Act.put, List.setIfInBounds_toArray, List.set_cons_zero, List.set_cons_succ, i64_w, i32_w]
      rfl
     refine one_ (i := 3) (N := some 21) #[true, true, true, true, false, true, true, false, false, false] rfl rfl (one_of HT_.out (by kernel_rfl)) (by decide) (fun K hK => ?_)
     refine goes_ Try.func70 (by kernel_rfl) rfl #[.int .u32 a0_2] (by rfl) rfl rfl (by (try simp only [List.map_toArray, List.map_cons, List.map_nil]); first | rfl) ?_
     with_reducible refine (tenancyref04_Put32.calls k a0_2 t327 _ A15.out).mono ?_
     rintro e w20 ⟨rfl, hb⟩
     refine ⟨_, rfl, ?_⟩
     replace BK323 := bb_ BK323 hb
     replace BK324 := bb_ BK324 hb
     replace HB := bs_ HB hb
     (try clear hb)
     (try clear hb2)
     (try clear hk)
     (try clear hi)
     refine hK.out _ _ ⟨(blk_cell BK323.out 0).trans rfl, (blk_cell BK323.out 1).trans rfl, (blk_cell BK323.out 2).trans rfl, (blk_cell BK323.out 3).trans rfl, (blk_cell BK323.out 4).trans rfl, (blk_cell BK323.out 5).trans rfl⟩ (fun hHeld => ?_)
     clear hK K
     refine norm_ (a' := ?_) ?_ ?_
     rotate_left
     ·show Act.put _ (some 21) _ = _
      simp only [Act.put, List.setIfInBounds_toArray, List.set_cons_zero, List.set_cons_succ, i64_w, i32_w]
      rfl
     refine pure_ (i := 4) (N := some 22) (v := ?_) (a' := ?_) #[true, true, true, true, true, true, true, false, false, false] rfl rfl (any_of HT_.out (by kernel_rfl)) (fun _ _ _ h => h) (Or.inl ⟨by rfl, ?_⟩) ?_ ?_
     rotate_left
     ·intro w'
      go_simp
      with_reducible rfl
     rotate_left
     ·simp only [Act.put, List.setIfInBounds_toArray, List.set_cons_zero, List.set_cons_succ, i64_w, i32_w]
      rfl
     refine one_ (i := 7) (N := some 25) #[true, true, true, true, true, true, true, true, false, false] rfl rfl (one_of HT_.out (by kernel_rfl)) (by decide) (fun K hK => ?_)
     refine goes_ Try.func70 (by kernel_rfl) rfl #[.int .u32 a0_3] (by rfl) rfl rfl (by (try simp only [List.map_toArray, List.map_cons, List.map_nil]); first | rfl) ?_
     with_reducible refine (tenancyref04_Put32.calls k a0_3 t328 _ A17.out).mono ?_
     rintro e w21 ⟨rfl, hb⟩
     refine ⟨_, rfl, ?_⟩
     replace BK323 := bb_ BK323 hb
     replace BK324 := bb_ BK324 hb
     replace HB := bs_ HB hb
     (try clear hb)
     (try clear hb2)
     (try clear hk)
     (try clear hi)
     refine hK.out _ _ ⟨(blk_cell BK323.out 0).trans rfl, (blk_cell BK323.out 1).trans rfl, (blk_cell BK323.out 2).trans rfl, (blk_cell BK323.out 3).trans rfl, (blk_cell BK323.out 4).trans rfl, (blk_cell BK323.out 5).trans rfl⟩ (fun hHeld => ?_)
     clear hK K
     refine norm_ (a' := ?_) ?_ ?_
     rotate_left
     ·show Act.put _ (some 25) _ = _
      simp only [Act.put, List.setIfInBounds_toArray, List.set_cons_zero, List.set_cons_succ, i64_w, i32_w]
      rfl
     refine pure_ (i := 8) (N := some 26) (v := ?_) (a' := ?_) #[true, true, true, true, true, true, true, true, true, false] rfl rfl (any_of HT_.out (by kernel_rfl)) (fun _ _ _ h => h) (Or.inl ⟨by rfl, ?_⟩) ?_ ?_
     rotate_left
     ·intro w'
      go_simp
      with_reducible rfl
     rotate_left
     ·simp only [Act.put, List.setIfInBounds_toArray, List.set_cons_zero, List.set_cons_succ, i64_w, i32_w]
      rfl
     refine pure_ (i := 9) (N := some 4) (v := ?_) (a' := ?_) #[true, true, true, true, true, true, true, true, true, true] rfl rfl (any_of HT_.out (by kernel_rfl)) (fun _ _ _ h => h) (Or.inl ⟨by rfl, ?_⟩) ?_ ?_
     rotate_left
     ·intro w'
      go_simp
      with_reducible rfl
     rotate_left
     ·simp only [Act.put, List.setIfInBounds_toArray, List.set_cons_zero, List.set_cons_succ, i64_w, i32_w]
      rfl
     refine done_ (done_of HT_.out (by kernel_rfl)) ?_
     try go_wp2
     go_meet
     case rel => exact ⟨_, ((t326 ++ t327) ++ t328), (by rfl), H', ⟨by omega⟩, ⟨by exact BK323.out⟩, ⟨by exact BK324.out⟩, ⟨by exact HB.out⟩⟩
    rw [if_neg c18] at H
    exact absurd H (by simp)
   rw [if_neg c16] at H
   exact absurd H (by simp)
  case rest =>
  clear HC5
  try clear c1
  try clear p2
  try clear c3
  try clear c4
  try clear c6
  try clear c7
  try clear c8
  try clear c14
  try clear c14b0
  try clear c14b1
  try clear c16
  try clear c16b0
  try clear c16b1
  try clear c16b2
  try clear c18
  try clear c18b0
  try clear c18b1
  try clear c18b2
  try clear hz11
  try clear hz13
  try clear hz9
  obtain ⟨kq, x4_4, rfl, HA, HJ4, BK323, BK324, HB⟩ := hcut
  cases kq with
  | zero => exact absurd HA.out (by simp [tenancyref15_PutIA.j0])
  | succ kj4 =>
  have H := HA.out
  clear HA
  simp only [tenancyref15_PutIA.j0] at H
  have H' := ak_ H
  clear H
  go_wp2
  go_loopg [4, 5] kj4 (fun kq v4 v5 w' => ∃ (x4_2 : ByteArray) (x5_2 : Int), v4 = .string x4_2 ∧ v5 = .int .i64 x5_2 ∧ Aside0 (tenancyref15_PutIA.l0 kq x4_2 x5_2 a0_0 a0_1 a0_2 a0_3 l0_4 a0_5 = some (r1, r2, r3)) ∧ Aside0 (kq ≤ kj4) ∧ Aside0 (w'.heap[gb323]? = some (.cells #[.int .i64 a0_0, .int .u32 a0_1, .int .u32 a0_2, .int .u32 a0_3, (.slice A0_4 l0_4.length c0_4), .int .i64 a0_5] 51 (0, 0))) ∧ Aside0 (w'.heap[gb324]? = some (.cells #[.int .u16 0, .string (⟨#[]⟩ : ByteArray)] 42 (0, 0))) ∧ Aside0 (Below w.heap.size w w'))
  case atStart => exact ⟨(x4_4), (0), (by rfl), (by rfl), H', ⟨Nat.le_refl _⟩, ⟨by exact BK323.out⟩, ⟨by exact BK324.out⟩, ⟨by exact HB.out⟩⟩
  case round =>
  clear H'
  try clear c1
  try clear p2
  try clear c3
  try clear c4
  try clear c6
  try clear c7
  try clear c8
  try clear c14
  try clear c14b0
  try clear c14b1
  try clear c16
  try clear c16b0
  try clear c16b1
  try clear c16b2
  try clear c18
  try clear c18b0
  try clear c18b1
  try clear c18b2
  try clear hz11
  try clear hz13
  try clear hz9
  try clear p2
  obtain ⟨x4_2, x5_2, rfl, rfl, HA, HK2, BK323, BK324, HB⟩ := hrel
  cases gk with
  | zero => exact absurd HA.out (by simp [tenancyref15_PutIA.l0])
  | succ k2 =>
  have H := HA.out
  clear HA
  simp only [tenancyref15_PutIA.l0] at H
  by_cases c22 : x5_2 < (l0_4.length : Int)
  ·rw [if_pos c22] at H
   have c22b0 : decide (x5_2 < (l0_4.length : Int)) = true := decide_eq_true c22
   clear c22
   by_cases c23 : 0 ≤ x5_2
   ·rw [if_pos c23] at H
    have c23b0 : decide (0 ≤ x5_2) = true := decide_eq_true c23
    clear c23
    replace H := Option.bind_eq_some_iff.mp H
    obtain ⟨t333, A240, H⟩ := H
    replace H : ((tenancyref04_Put32.f k2 ((rd_T58 l0_4 x5_2).f2)).bind fun t334 => (if t333.size + t334.size ≤ 9223372036854775807 then (if a0_0 = 4 then ((some (([((rd_T58 l0_4 x5_2).f0.f1) % 256] : List Int) : List Int)).bind fun y335 => (if (t333 ++ t334).size + (strOfNums y335).size ≤ 9223372036854775807 then ((tenancyref04_PutAddr.f k2 ((rd_T58 l0_4 x5_2).f0.f0.f0) ((rd_T58 l0_4 x5_2).f0.f0.f1)).bind fun t338 => (if ((t333 ++ t334) ++ (strOfNums y335)).size + t338.size ≤ 9223372036854775807 then ((tenancyref15_statusOption.f k2 ((rd_T58 l0_4 x5_2).f3)).bind fun t339 => (if (((t333 ++ t334) ++ (strOfNums y335)) ++ t338).size + t339.size ≤ 9223372036854775807 then ((tenancyref15_option.f k2 26 ((((t333 ++ t334) ++ (strOfNums y335)) ++ t338) ++ t339)).bind fun t340 => (if x4_2.size + t340.size ≤ 9223372036854775807 then (tenancyref15_PutIA.l0 k2 (x4_2 ++ t340) (wrap64 (x5_2 + 1)) a0_0 a0_1 a0_2 a0_3 l0_4 a0_5) else (none))) else (none))) else (none))) else (none))) else ((tenancyref04_PutAddr.f k2 ((rd_T58 l0_4 x5_2).f0.f0.f0) ((rd_T58 l0_4 x5_2).f0.f0.f1)).bind fun t341 => (if t341.size + (t333 ++ t334).size ≤ 9223372036854775807 then ((tenancyref15_statusOption.f k2 ((rd_T58 l0_4 x5_2).f3)).bind fun t342 => (if (t341 ++ (t333 ++ t334)).size + t342.size ≤ 9223372036854775807 then ((tenancyref15_option.f k2 5 ((t341 ++ (t333 ++ t334)) ++ t342)).bind fun t343 => (if x4_2.size + t343.size ≤ 9223372036854775807 then (tenancyref15_PutIA.l0 k2 (x4_2 ++ t343) (wrap64 (x5_2 + 1)) a0_0 a0_1 a0_2 a0_3 l0_4 a0_5) else (none))) else (none))) else (none)))) else (none))) = some (r1, r2, r3) := H
    have A24 := ak_ A240
    clear A240
    replace H := Option.bind_eq_some_iff.mp H
    obtain ⟨t334, A250, H⟩ := H
    replace H : (if t333.size + t334.size ≤ 9223372036854775807 then (if a0_0 = 4 then ((some (([((rd_T58 l0_4 x5_2).f0.f1) % 256] : List Int) : List Int)).bind fun y335 => (if (t333 ++ t334).size + (strOfNums y335).size ≤ 9223372036854775807 then ((tenancyref04_PutAddr.f k2 ((rd_T58 l0_4 x5_2).f0.f0.f0) ((rd_T58 l0_4 x5_2).f0.f0.f1)).bind fun t338 => (if ((t333 ++ t334) ++ (strOfNums y335)).size + t338.size ≤ 9223372036854775807 then ((tenancyref15_statusOption.f k2 ((rd_T58 l0_4 x5_2).f3)).bind fun t339 => (if (((t333 ++ t334) ++ (strOfNums y335)) ++ t338).size + t339.size ≤ 9223372036854775807 then ((tenancyref15_option.f k2 26 ((((t333 ++ t334) ++ (strOfNums y335)) ++ t338) ++ t339)).bind fun t340 => (if x4_2.size + t340.size ≤ 9223372036854775807 then (tenancyref15_PutIA.l0 k2 (x4_2 ++ t340) (wrap64 (x5_2 + 1)) a0_0 a0_1 a0_2 a0_3 l0_4 a0_5) else (none))) else (none))) else (none))) else (none))) else ((tenancyref04_PutAddr.f k2 ((rd_T58 l0_4 x5_2).f0.f0.f0) ((rd_T58 l0_4 x5_2).f0.f0.f1)).bind fun t341 => (if t341.size + (t333 ++ t334).size ≤ 9223372036854775807 then ((tenancyref15_statusOption.f k2 ((rd_T58 l0_4 x5_2).f3)).bind fun t342 => (if (t341 ++ (t333 ++ t334)).size + t342.size ≤ 9223372036854775807 then ((tenancyref15_option.f k2 5 ((t341 ++ (t333 ++ t334)) ++ t342)).bind fun t343 => (if x4_2.size + t343.size ≤ 9223372036854775807 then (tenancyref15_PutIA.l0 k2 (x4_2 ++ t343) (wrap64 (x5_2 + 1)) a0_0 a0_1 a0_2 a0_3 l0_4 a0_5) else (none))) else (none))) else (none)))) else (none)) = some (r1, r2, r3) := H
    have A25 := ak_ A250
    clear A250
    by_cases c26 : t333.size + t334.size ≤ 9223372036854775807
    ·rw [if_pos c26] at H
     have c26b0 := eq_true c26
     have c26b1 : decide (t333.size + t334.size ≤ 9223372036854775807) = true := decide_eq_true c26
     try have c26b2 : (9223372036854775807 < t333.size + t334.size) = False := eq_false (Nat.not_lt.2 c26)
     by_cases c27 : a0_0 = 4
     ·rw [if_pos c27] at H
      have c27b0 : (a0_0 == 4) = true := beq_iff_eq.mpr c27
      have c27b1 : (a0_0 != 4) = false := bne_eq_false_iff_eq.mpr c27
      clear c27
      obtain ⟨y335, hy335⟩ : ∃ y_ : List Int, y_ = (([((rd_T58 l0_4 x5_2).f0.f1) % 256] : List Int)) := ⟨_, rfl⟩
      replace H : (if (t333 ++ t334).size + (strOfNums y335).size ≤ 9223372036854775807 then ((tenancyref04_PutAddr.f k2 ((rd_T58 l0_4 x5_2).f0.f0.f0) ((rd_T58 l0_4 x5_2).f0.f0.f1)).bind fun t338 => (if ((t333 ++ t334) ++ (strOfNums y335)).size + t338.size ≤ 9223372036854775807 then ((tenancyref15_statusOption.f k2 ((rd_T58 l0_4 x5_2).f3)).bind fun t339 => (if (((t333 ++ t334) ++ (strOfNums y335)) ++ t338).size + t339.size ≤ 9223372036854775807 then ((tenancyref15_option.f k2 26 ((((t333 ++ t334) ++ (strOfNums y335)) ++ t338) ++ t339)).bind fun t340 => (if x4_2.size + t340.size ≤ 9223372036854775807 then (tenancyref15_PutIA.l0 k2 (x4_2 ++ t340) (wrap64 (x5_2 + 1)) a0_0 a0_1 a0_2 a0_3 l0_4 a0_5) else (none))) else (none))) else (none))) else (none)) = some (r1, r2, r3) := by first | (have H2_ := (Option.bind_some _ _).symm.trans H; rw [hy335]; with_reducible exact H2_)
      have Ny335 := ak_ hy335
      clear hy335
      by_cases c28 : (t333 ++ t334).size + (strOfNums y335).size ≤ 9223372036854775807
      ·rw [if_pos c28] at H
       have c28b0 := eq_true c28
       have c28b1 : decide ((t333 ++ t334).size + (strOfNums y335).size ≤ 9223372036854775807) = true := decide_eq_true c28
       try have c28b2 : (9223372036854775807 < (t333 ++ t334).size + (strOfNums y335).size) = False := eq_false (Nat.not_lt.2 c28)
       (try (have c28b2a := c28b2; simp only [ByteArray.size_append] at c28b2a))
       replace H := Option.bind_eq_some_iff.mp H
       obtain ⟨t338, A290, H⟩ := H
       replace H : (if ((t333 ++ t334) ++ (strOfNums y335)).size + t338.size ≤ 9223372036854775807 then ((tenancyref15_statusOption.f k2 ((rd_T58 l0_4 x5_2).f3)).bind fun t339 => (if (((t333 ++ t334) ++ (strOfNums y335)) ++ t338).size + t339.size ≤ 9223372036854775807 then ((tenancyref15_option.f k2 26 ((((t333 ++ t334) ++ (strOfNums y335)) ++ t338) ++ t339)).bind fun t340 => (if x4_2.size + t340.size ≤ 9223372036854775807 then (tenancyref15_PutIA.l0 k2 (x4_2 ++ t340) (wrap64 (x5_2 + 1)) a0_0 a0_1 a0_2 a0_3 l0_4 a0_5) else (none))) else (none))) else (none)) = some (r1, r2, r3) := H
       have A29 := ak_ A290
       clear A290
       by_cases c30 : ((t333 ++ t334) ++ (strOfNums y335)).size + t338.size ≤ 9223372036854775807
       ·rw [if_pos c30] at H
        have c30b0 := eq_true c30
        have c30b1 : decide (((t333 ++ t334) ++ (strOfNums y335)).size + t338.size ≤ 9223372036854775807) = true := decide_eq_true c30
        try have c30b2 : (9223372036854775807 < ((t333 ++ t334) ++ (strOfNums y335)).size + t338.size) = False := eq_false (Nat.not_lt.2 c30)
        (try (have c30b2a := c30b2; simp only [ByteArray.size_append] at c30b2a))
        replace H := Option.bind_eq_some_iff.mp H
        obtain ⟨t339, A310, H⟩ := H
        replace H : (if (((t333 ++ t334) ++ (strOfNums y335)) ++ t338).size + t339.size ≤ 9223372036854775807 then ((tenancyref15_option.f k2 26 ((((t333 ++ t334) ++ (strOfNums y335)) ++ t338) ++ t339)).bind fun t340 => (if x4_2.size + t340.size ≤ 9223372036854775807 then (tenancyref15_PutIA.l0 k2 (x4_2 ++ t340) (wrap64 (x5_2 + 1)) a0_0 a0_1 a0_2 a0_3 l0_4 a0_5) else (none))) else (none)) = some (r1, r2, r3) := H
        have A31 := ak_ A310
        clear A310
        by_cases c32 : (((t333 ++ t334) ++ (strOfNums y335)) ++ t338).size + t339.size ≤ 9223372036854775807
        ·rw [if_pos c32] at H
         have c32b0 := eq_true c32
         have c32b1 : decide ((((t333 ++ t334) ++ (strOfNums y335)) ++ t338).size + t339.size ≤ 9223372036854775807) = true := decide_eq_true c32
         try have c32b2 : (9223372036854775807 < (((t333 ++ t334) ++ (strOfNums y335)) ++ t338).size + t339.size) = False := eq_false (Nat.not_lt.2 c32)
         (try (have c32b2a := c32b2; simp only [ByteArray.size_append] at c32b2a))
         replace H := Option.bind_eq_some_iff.mp H
         obtain ⟨t340, A330, H⟩ := H
         replace H : (if x4_2.size + t340.size ≤ 9223372036854775807 then (tenancyref15_PutIA.l0 k2 (x4_2 ++ t340) (wrap64 (x5_2 + 1)) a0_0 a0_1 a0_2 a0_3 l0_4 a0_5) else (none)) = some (r1, r2, r3) := H
         have A33 := ak_ A330
         clear A330
         by_cases c34 : x4_2.size + t340.size ≤ 9223372036854775807
         ·rw [if_pos c34] at H
          have c34b0 := eq_true c34
          have c34b1 : decide (x4_2.size + t340.size ≤ 9223372036854775807) = true := decide_eq_true c34
          try have c34b2 : (9223372036854775807 < x4_2.size + t340.size) = False := eq_false (Nat.not_lt.2 c34)
          have H' := ak_ H
          clear H
          have hnb35 := NB323_324.out
          have hnc35 := NB324_323.out
          have hz36 := bz6_ BK323
          have p331 : 0 ≤ (x5_2 : Int) := of_decide_eq_true (by first | (with_reducible assumption))
          have q331 : x5_2 < (l0_4.length : Int) := of_decide_eq_true (by first | (with_reducible assumption))
          obtain ⟨ad331, e331, hx331_0, hx331_1, hx331_2, hx331_3, hx331_4, hx331_5⟩ := at_T58 HR0_4.out x5_2 p331 q331
          cases e331
          replace hx331_0 := (HB.out.cell (World.block_lt_of_cell? w _ hx331_0)).trans hx331_0
          replace hx331_1 := (HB.out.cell (World.block_lt_of_cell? w _ hx331_1)).trans hx331_1
          replace hx331_2 := (HB.out.cell (World.block_lt_of_cell? w _ hx331_2)).trans hx331_2
          replace hx331_3 := (HB.out.cell (World.block_lt_of_cell? w _ hx331_3)).trans hx331_3
          replace hx331_4 := (HB.out.cell (World.block_lt_of_cell? w _ hx331_4)).trans hx331_4
          replace hx331_5 := (HB.out.cell (World.block_lt_of_cell? w _ hx331_5)).trans hx331_5
          replace p331 := eq_true p331
          replace q331 := eq_true q331
          try go_wp2_with (first | ((with_reducible refine gate_dst (N := 6) rfl ?_); refine box_event ?hg (N := 6) ?hd (cs := #[.int .u64 0, .int .u64 0, .int .i64 0, .int .u32 0, .int .u32 0, .int .i64 0]) (t := 58) ?hr ?_; (case hd => rfl); (case hg => rfl); (case hr => go_simp; done); intro gb332 hg w37 hbox hb; have BK332 := ak_ hbox; have GW332 := gz_ HB hg; have GE332 := gz_ HB hg; replace HB := bs_ HB hb; have NB323_332 := gl_ BK323 hg; have NB332_323 := gr_ BK323 hg; replace BK323 := bb_ BK323 hb; have NB324_332 := gl_ BK324 hg; have NB332_324 := gr_ BK324 hg; replace BK324 := bb_ BK324 hb; clear hb hbox hg; have hnb38 := NB332_323.out; have hnc38 := NB323_332.out; have hnb39 := NB332_324.out; have hnc39 := NB324_332.out; have hz40 := bz6_ BK332))
          have n0_ : Aside0 (((((((w37.setCell ⟨gb332, 0, none⟩ (.int .u64 ((rd_T58 l0_4 x5_2).f0.f0.f0))).setCell ⟨gb332, 1, none⟩ (.int .u64 ((rd_T58 l0_4 x5_2).f0.f0.f1))).setCell ⟨gb332, 2, none⟩ (.int .i64 ((rd_T58 l0_4 x5_2).f0.f1))).setCell ⟨gb332, 3, none⟩ (.int .u32 ((rd_T58 l0_4 x5_2).f1))).setCell ⟨gb332, 4, none⟩ (.int .u32 ((rd_T58 l0_4 x5_2).f2))).setCell ⟨gb332, 5, none⟩ (.int .i64 ((rd_T58 l0_4 x5_2).f3))).heap[gb323]? = some (.cells #[.int .i64 a0_0, .int .u32 a0_1, .int .u32 a0_2, .int .u32 a0_3, .slice (some ad331) l0_4.length c0_4, .int .i64 a0_5] 51 (0, 0))) := ⟨by refine blk_far ?_ NB323_332.out _; refine blk_far ?_ NB323_332.out _; refine blk_far ?_ NB323_332.out _; refine blk_far ?_ NB323_332.out _; refine blk_far ?_ NB323_332.out _; refine blk_far ?_ NB323_332.out _; exact BK323.out⟩
          have n1_ : Aside0 (((((((w37.setCell ⟨gb332, 0, none⟩ (.int .u64 ((rd_T58 l0_4 x5_2).f0.f0.f0))).setCell ⟨gb332, 1, none⟩ (.int .u64 ((rd_T58 l0_4 x5_2).f0.f0.f1))).setCell ⟨gb332, 2, none⟩ (.int .i64 ((rd_T58 l0_4 x5_2).f0.f1))).setCell ⟨gb332, 3, none⟩ (.int .u32 ((rd_T58 l0_4 x5_2).f1))).setCell ⟨gb332, 4, none⟩ (.int .u32 ((rd_T58 l0_4 x5_2).f2))).setCell ⟨gb332, 5, none⟩ (.int .i64 ((rd_T58 l0_4 x5_2).f3))).heap[gb324]? = some (.cells #[.int .u16 0, .string (⟨#[]⟩ : ByteArray)] 42 (0, 0))) := ⟨by refine blk_far ?_ NB324_332.out _; refine blk_far ?_ NB324_332.out _; refine blk_far ?_ NB324_332.out _; refine blk_far ?_ NB324_332.out _; refine blk_far ?_ NB324_332.out _; refine blk_far ?_ NB324_332.out _; exact BK324.out⟩
          have n2_ : Aside0 (((((((w37.setCell ⟨gb332, 0, none⟩ (.int .u64 ((rd_T58 l0_4 x5_2).f0.f0.f0))).setCell ⟨gb332, 1, none⟩ (.int .u64 ((rd_T58 l0_4 x5_2).f0.f0.f1))).setCell ⟨gb332, 2, none⟩ (.int .i64 ((rd_T58 l0_4 x5_2).f0.f1))).setCell ⟨gb332, 3, none⟩ (.int .u32 ((rd_T58 l0_4 x5_2).f1))).setCell ⟨gb332, 4, none⟩ (.int .u32 ((rd_T58 l0_4 x5_2).f2))).setCell ⟨gb332, 5, none⟩ (.int .i64 ((rd_T58 l0_4 x5_2).f3))).heap[gb332]? = some (.cells #[.int .u64 ((rd_T58 l0_4 x5_2).f0.f0.f0), .int .u64 ((rd_T58 l0_4 x5_2).f0.f0.f1), .int .i64 ((rd_T58 l0_4 x5_2).f0.f1), .int .u32 ((rd_T58 l0_4 x5_2).f1), .int .u32 ((rd_T58 l0_4 x5_2).f2), .int .i64 ((rd_T58 l0_4 x5_2).f3)] 58 (0, 0))) := ⟨by refine blk_put (cs := #[.int .u64 ((rd_T58 l0_4 x5_2).f0.f0.f0), .int .u64 ((rd_T58 l0_4 x5_2).f0.f0.f1), .int .i64 ((rd_T58 l0_4 x5_2).f0.f1), .int .u32 ((rd_T58 l0_4 x5_2).f1), .int .u32 ((rd_T58 l0_4 x5_2).f2), .int .i64 0]) ?_ 5 _ rfl; refine blk_put (cs := #[.int .u64 ((rd_T58 l0_4 x5_2).f0.f0.f0), .int .u64 ((rd_T58 l0_4 x5_2).f0.f0.f1), .int .i64 ((rd_T58 l0_4 x5_2).f0.f1), .int .u32 ((rd_T58 l0_4 x5_2).f1), .int .u32 0, .int .i64 0]) ?_ 4 _ rfl; refine blk_put (cs := #[.int .u64 ((rd_T58 l0_4 x5_2).f0.f0.f0), .int .u64 ((rd_T58 l0_4 x5_2).f0.f0.f1), .int .i64 ((rd_T58 l0_4 x5_2).f0.f1), .int .u32 0, .int .u32 0, .int .i64 0]) ?_ 3 _ rfl; refine blk_put (cs := #[.int .u64 ((rd_T58 l0_4 x5_2).f0.f0.f0), .int .u64 ((rd_T58 l0_4 x5_2).f0.f0.f1), .int .i64 0, .int .u32 0, .int .u32 0, .int .i64 0]) ?_ 2 _ rfl; refine blk_put (cs := #[.int .u64 ((rd_T58 l0_4 x5_2).f0.f0.f0), .int .u64 0, .int .i64 0, .int .u32 0, .int .u32 0, .int .i64 0]) ?_ 1 _ rfl; refine blk_put (cs := #[.int .u64 0, .int .u64 0, .int .i64 0, .int .u32 0, .int .u32 0, .int .i64 0]) ?_ 0 _ rfl; exact BK332.out⟩
          have n3_ : Aside0 (Below w.heap.size w ((((((w37.setCell ⟨gb332, 0, none⟩ (.int .u64 ((rd_T58 l0_4 x5_2).f0.f0.f0))).setCell ⟨gb332, 1, none⟩ (.int .u64 ((rd_T58 l0_4 x5_2).f0.f0.f1))).setCell ⟨gb332, 2, none⟩ (.int .i64 ((rd_T58 l0_4 x5_2).f0.f1))).setCell ⟨gb332, 3, none⟩ (.int .u32 ((rd_T58 l0_4 x5_2).f1))).setCell ⟨gb332, 4, none⟩ (.int .u32 ((rd_T58 l0_4 x5_2).f2))).setCell ⟨gb332, 5, none⟩ (.int .i64 ((rd_T58 l0_4 x5_2).f3)))) := ⟨by repeat (first | (with_reducible first | exact HB.out | refine below_set ?_ GE332.out))⟩
          (try clear BK323)
          (try clear BK324)
          (try clear BK332)
          (try clear HB)
          generalize ((((((w37.setCell ⟨gb332, 0, none⟩ (.int .u64 ((rd_T58 l0_4 x5_2).f0.f0.f0))).setCell ⟨gb332, 1, none⟩ (.int .u64 ((rd_T58 l0_4 x5_2).f0.f0.f1))).setCell ⟨gb332, 2, none⟩ (.int .i64 ((rd_T58 l0_4 x5_2).f0.f1))).setCell ⟨gb332, 3, none⟩ (.int .u32 ((rd_T58 l0_4 x5_2).f1))).setCell ⟨gb332, 4, none⟩ (.int .u32 ((rd_T58 l0_4 x5_2).f2))).setCell ⟨gb332, 5, none⟩ (.int .i64 ((rd_T58 l0_4 x5_2).f3))) = w41 at n0_ n1_ n2_ n3_ ⊢
          have BK323 := n0_
          have BK324 := n1_
          have BK332 := n2_
          have HB := n3_
          clear n0_ n1_ n2_ n3_
          replace BK323 := ak_ (blk_drew BK323.out)
          replace BK324 := ak_ (blk_drew BK324.out)
          replace BK332 := ak_ (blk_drew BK332.out)
          replace HB := ak_ (below_drew1 HB.out)
          refine start_ (n := 8) (S := fun w' => w'.cell? ⟨gb332, 0, none⟩ = some (.int .u64 ((rd_T58 l0_4 x5_2).f0.f0.f0)) ∧ w'.cell? ⟨gb332, 1, none⟩ = some (.int .u64 ((rd_T58 l0_4 x5_2).f0.f0.f1)) ∧ w'.cell? ⟨gb332, 2, none⟩ = some (.int .i64 ((rd_T58 l0_4 x5_2).f0.f1)) ∧ w'.cell? ⟨gb332, 3, none⟩ = some (.int .u32 ((rd_T58 l0_4 x5_2).f1)) ∧ w'.cell? ⟨gb332, 4, none⟩ = some (.int .u32 ((rd_T58 l0_4 x5_2).f2)) ∧ w'.cell? ⟨gb332, 5, none⟩ = some (.int .i64 ((rd_T58 l0_4 x5_2).f3))) (ds := []) #[false, false, false, false, false, false, false, false] (by kernel_rfl) rfl rfl ⟨(blk_cell BK332.out 0).trans rfl, (blk_cell BK332.out 1).trans rfl, (blk_cell BK332.out 2).trans rfl, (blk_cell BK332.out 3).trans rfl, (blk_cell BK332.out 4).trans rfl, (blk_cell BK332.out 5).trans rfl⟩ (fun hHeld => ?_); refine with_tabW tenancyref15_PutIA.tab10 tenancyref15_PutIA.bits10 (fun HT_ HW_ => ?_)
          generalize w41.drew = w42 at BK323 BK324 BK332 HB hHeld ⊢
          refine pure_ (i := 0) (N := some 39) (v := ?_) (a' := ?_) #[true, false, false, false, false, false, false, false] rfl rfl (any_of HT_.out (by kernel_rfl)) (fun _ _ _ h => h) (Or.inl ⟨by rfl, ?_⟩) ?_ ?_
          rotate_left
          ·intro w'
           go_simp
           with_reducible rfl
          rotate_left
          ·simp only [Act.put, List.setIfInBounds_toArray, List.set_cons_zero, List.set_cons_succ, i64_w, i32_w]
           rfl
          refine pure_ (i := 3) (N := some 42) (v := ?_) (a' := ?_) #[true, false, false, true, false, false, false, false] rfl rfl (any_of HT_.out (by kernel_rfl)) (fun _ _ _ h => h) (Or.inl ⟨by rfl, ?_⟩) ?_ ?_
          rotate_left
          ·intro w'
           go_simp
           with_reducible rfl
          rotate_left
          ·simp only [Act.put, List.setIfInBounds_toArray, List.set_cons_zero, List.set_cons_succ, i64_w, i32_w]
           rfl
          refine take_ (i := 1) (N := some 40) (v := ?_) (a' := ?_) #[true, true, false, true, false, false, false, false] rfl rfl (take_ofW HT_.out HW_.out (by kernel_rfl)) (fun _ _ _ h => h) (Or.inl ⟨by rfl, ?_⟩) hHeld ?_ ?_
          rotate_left
          ·rintro w' ⟨s0, s1, s2, s3, s4, s5⟩
           go_simp
           with_reducible rfl
          rotate_left
          ·simp only [Act.put, List.setIfInBounds_toArray, List.set_cons_zero, List.set_cons_succ, i64_w, i32_w]
           rfl
          refine take_ (i := 4) (N := some 43) (v := ?_) (a' := ?_) #[true, true, false, true, true, false, false, false] rfl rfl (take_ofW HT_.out HW_.out (by kernel_rfl)) (fun _ _ _ h => h) (Or.inl ⟨by rfl, ?_⟩) hHeld ?_ ?_
          rotate_left
          ·rintro w' ⟨s0, s1, s2, s3, s4, s5⟩
           go_simp
           with_reducible rfl
          rotate_left
          ·simp only [Act.put, List.setIfInBounds_toArray, List.set_cons_zero, List.set_cons_succ, i64_w, i32_w]
           rfl
          refine one_ (i := 2) (N := some 41) #[true, true, true, true, true, false, false, false] rfl rfl (one_of HT_.out (by kernel_rfl)) (by decide) (fun K hK => ?_)
          refine goes_ Try.func70 (by kernel_rfl) rfl #[.int .u32 ((rd_T58 l0_4 x5_2).f1)] (by rfl) rfl rfl (by (try simp only [List.map_toArray, List.map_cons, List.map_nil]); first | rfl) ?_
          with_reducible refine (tenancyref04_Put32.calls k2 ((rd_T58 l0_4 x5_2).f1) t333 _ A24.out).mono ?_
          rintro e w43 ⟨rfl, hb⟩
          refine ⟨_, rfl, ?_⟩
          replace BK323 := bb_ BK323 hb
          replace BK324 := bb_ BK324 hb
          replace BK332 := bb_ BK332 hb
          replace HB := bs_ HB hb
          (try clear hb)
          (try clear hb2)
          (try clear hk)
          (try clear hi)
          refine hK.out _ _ ⟨(blk_cell BK332.out 0).trans rfl, (blk_cell BK332.out 1).trans rfl, (blk_cell BK332.out 2).trans rfl, (blk_cell BK332.out 3).trans rfl, (blk_cell BK332.out 4).trans rfl, (blk_cell BK332.out 5).trans rfl⟩ (fun hHeld => ?_)
          clear hK K
          refine norm_ (a' := ?_) ?_ ?_
          rotate_left
          ·show Act.put _ (some 41) _ = _
           simp only [Act.put, List.setIfInBounds_toArray, List.set_cons_zero, List.set_cons_succ, i64_w, i32_w]
           rfl
          refine one_ (i := 5) (N := some 44) #[true, true, true, true, true, true, false, false] rfl rfl (one_of HT_.out (by kernel_rfl)) (by decide) (fun K hK => ?_)
          refine goes_ Try.func70 (by kernel_rfl) rfl #[.int .u32 ((rd_T58 l0_4 x5_2).f2)] (by rfl) rfl rfl (by (try simp only [List.map_toArray, List.map_cons, List.map_nil]); first | rfl) ?_
          with_reducible refine (tenancyref04_Put32.calls k2 ((rd_T58 l0_4 x5_2).f2) t334 _ A25.out).mono ?_
          rintro e w44 ⟨rfl, hb⟩
          refine ⟨_, rfl, ?_⟩
          replace BK323 := bb_ BK323 hb
          replace BK324 := bb_ BK324 hb
          replace BK332 := bb_ BK332 hb
          replace HB := bs_ HB hb
          (try clear hb)
          (try clear hb2)
          (try clear hk)
          (try clear hi)
          refine hK.out _ _ ⟨(blk_cell BK332.out 0).trans rfl, (blk_cell BK332.out 1).trans rfl, (blk_cell BK332.out 2).trans rfl, (blk_cell BK332.out 3).trans rfl, (blk_cell BK332.out 4).trans rfl, (blk_cell BK332.out 5).trans rfl⟩ (fun hHeld => ?_)
          clear hK K
          refine norm_ (a' := ?_) ?_ ?_
          rotate_left
          ·show Act.put _ (some 44) _ = _
           simp only [Act.put, List.setIfInBounds_toArray, List.set_cons_zero, List.set_cons_succ, i64_w, i32_w]
           rfl
          refine pure_ (i := 6) (N := some 45) (v := ?_) (a' := ?_) #[true, true, true, true, true, true, true, false] rfl rfl (any_of HT_.out (by kernel_rfl)) (fun _ _ _ h => h) (Or.inl ⟨by rfl, ?_⟩) ?_ ?_
          rotate_left
          ·intro w'
           go_simp
           with_reducible rfl
          rotate_left
          ·simp only [Act.put, List.setIfInBounds_toArray, List.set_cons_zero, List.set_cons_succ, i64_w, i32_w]
           rfl
          refine pure_ (i := 7) (N := some 7) (v := ?_) (a' := ?_) #[true, true, true, true, true, true, true, true] rfl rfl (any_of HT_.out (by kernel_rfl)) (fun _ _ _ h => h) (Or.inl ⟨by rfl, ?_⟩) ?_ ?_
          rotate_left
          ·intro w'
           go_simp
           with_reducible rfl
          rotate_left
          ·simp only [Act.put, List.setIfInBounds_toArray, List.set_cons_zero, List.set_cons_succ, i64_w, i32_w]
           rfl
          refine done_ (done_of HT_.out (by kernel_rfl)) ?_
          have hz45 := bz6_ BK323
          try go_wp2
          replace BK323 := ak_ (blk_drew BK323.out)
          replace BK324 := ak_ (blk_drew BK324.out)
          replace BK332 := ak_ (blk_drew BK332.out)
          replace HB := ak_ (below_drew1 HB.out)
          refine start_ (n := 21) (S := fun w' => w'.cell? ⟨gb332, 0, none⟩ = some (.int .u64 ((rd_T58 l0_4 x5_2).f0.f0.f0)) ∧ w'.cell? ⟨gb332, 1, none⟩ = some (.int .u64 ((rd_T58 l0_4 x5_2).f0.f0.f1)) ∧ w'.cell? ⟨gb332, 2, none⟩ = some (.int .i64 ((rd_T58 l0_4 x5_2).f0.f1)) ∧ w'.cell? ⟨gb332, 3, none⟩ = some (.int .u32 ((rd_T58 l0_4 x5_2).f1)) ∧ w'.cell? ⟨gb332, 4, none⟩ = some (.int .u32 ((rd_T58 l0_4 x5_2).f2)) ∧ w'.cell? ⟨gb332, 5, none⟩ = some (.int .i64 ((rd_T58 l0_4 x5_2).f3))) (ds := []) #[false, false, false, false, false, false, false, false, false, false, false, false, false, false, false, false, false, false, false, false, false] (by kernel_rfl) rfl rfl ⟨(blk_cell BK332.out 0).trans rfl, (blk_cell BK332.out 1).trans rfl, (blk_cell BK332.out 2).trans rfl, (blk_cell BK332.out 3).trans rfl, (blk_cell BK332.out 4).trans rfl, (blk_cell BK332.out 5).trans rfl⟩ (fun hHeld => ?_); refine with_tabW tenancyref15_PutIA.tab12 tenancyref15_PutIA.bits12 (fun HT_ HW_ => ?_)
          generalize w44.drew = w46 at BK323 BK324 BK332 HB hHeld ⊢
          refine pure_ (i := 0) (N := some 49) (v := ?_) (a' := ?_) #[true, false, false, false, false, false, false, false, false, false, false, false, false, false, false, false, false, false, false, false, false] rfl rfl (any_of HT_.out (by kernel_rfl)) (fun _ _ _ h => h) (Or.inl ⟨by rfl, ?_⟩) ?_ ?_
          rotate_left
          ·intro w'
           go_simp
           with_reducible rfl
          rotate_left
          ·simp only [Act.put, List.setIfInBounds_toArray, List.set_cons_zero, List.set_cons_succ, i64_w, i32_w]
           rfl
          refine pure_ (i := 1) (N := some 50) (v := ?_) (a' := ?_) #[true, true, false, false, false, false, false, false, false, false, false, false, false, false, false, false, false, false, false, false, false] rfl rfl (any_of HT_.out (by kernel_rfl)) (fun _ _ _ h => h) (Or.inl ⟨by rfl, ?_⟩) ?_ ?_
          rotate_left
          ·intro w'
           go_simp
           with_reducible rfl
          rotate_left
          ·simp only [Act.put, List.setIfInBounds_toArray, List.set_cons_zero, List.set_cons_succ, i64_w, i32_w]
           rfl
          refine pure_ (i := 2) (N := some 51) (v := ?_) (a' := ?_) #[true, true, true, false, false, false, false, false, false, false, false, false, false, false, false, false, false, false, false, false, false] rfl rfl (any_of HT_.out (by kernel_rfl)) (fun _ _ _ h => h) (Or.inl ⟨by rfl, ?_⟩) ?_ ?_
          rotate_left
          ·intro w'
           go_simp
           with_reducible rfl
          rotate_left
          ·simp only [Act.put, List.setIfInBounds_toArray, List.set_cons_zero, List.set_cons_succ, i64_w, i32_w]
           rfl
          refine pure_ (i := 3) (N := some 52) (v := ?_) (a' := ?_) #[true, true, true, true, false, false, false, false, false, false, false, false, false, false, false, false, false, false, false, false, false] rfl rfl (any_of HT_.out (by kernel_rfl)) (fun _ _ _ h => h) (Or.inl ⟨by rfl, ?_⟩) ?_ ?_
          rotate_left
          ·intro w'
           go_simp
           with_reducible rfl
          rotate_left
          ·simp only [Act.put, List.setIfInBounds_toArray, List.set_cons_zero, List.set_cons_succ, i64_w, i32_w]
           rfl
          refine pure_ (i := 9) (N := some 58) (v := ?_) (a' := ?_) #[true, true, true, true, false, false, false, false, false, true, false, false, false, false, false, false, false, false, false, false, false] rfl rfl (any_of HT_.out (by kernel_rfl)) (fun _ _ _ h => h) (Or.inl ⟨by rfl, ?_⟩) ?_ ?_
          rotate_left
          ·intro w'
           go_simp
           with_reducible rfl
          rotate_left
          ·simp only [Act.put, List.setIfInBounds_toArray, List.set_cons_zero, List.set_cons_succ, i64_w, i32_w]
           rfl
          refine pure_ (i := 10) (N := some 59) (v := ?_) (a' := ?_) #[true, true, true, true, false, false, false, false, false, true, true, false, false, false, false, false, false, false, false, false, false] rfl rfl (any_of HT_.out (by kernel_rfl)) (fun _ _ _ h => h) (Or.inl ⟨by rfl, ?_⟩) ?_ ?_
          rotate_left
          ·intro w'
           go_simp
           with_reducible rfl
          rotate_left
          ·simp only [Act.put, List.setIfInBounds_toArray, List.set_cons_zero, List.set_cons_succ, i64_w, i32_w]
           rfl
          refine pure_ (i := 14) (N := some 63) (v := ?_) (a' := ?_) #[true, true, true, true, false, false, false, false, false, true, true, false, false, false, true, false, false, false, false, false, false] rfl rfl (any_of HT_.out (by kernel_rfl)) (fun _ _ _ h => h) (Or.inl ⟨by rfl, ?_⟩) ?_ ?_
          rotate_left
          ·intro w'
           go_simp
           with_reducible rfl
          rotate_left
          ·simp only [Act.put, List.setIfInBounds_toArray, List.set_cons_zero, List.set_cons_succ, i64_w, i32_w]
           rfl
          refine take_ (i := 4) (N := some 53) (v := ?_) (a' := ?_) #[true, true, true, true, true, false, false, false, false, true, true, false, false, false, true, false, false, false, false, false, false] rfl rfl (take_ofW HT_.out HW_.out (by kernel_rfl)) (fun _ _ _ h => h) (Or.inl ⟨by rfl, ?_⟩) hHeld ?_ ?_
          rotate_left
          ·rintro w' ⟨s0, s1, s2, s3, s4, s5⟩
           go_simp
           with_reducible rfl
          rotate_left
          ·simp only [Act.put, List.setIfInBounds_toArray, List.set_cons_zero, List.set_cons_succ, i64_w, i32_w]
           rfl
          refine pure_ (i := 5) (N := some 54) (v := ?_) (a' := ?_) #[true, true, true, true, true, true, false, false, false, true, true, false, false, false, true, false, false, false, false, false, false] rfl rfl (any_of HT_.out (by kernel_rfl)) (fun _ _ _ h => h) (Or.inl ⟨by rfl, ?_⟩) ?_ ?_
          rotate_left
          ·intro w'
           go_simp
           with_reducible rfl
          rotate_left
          ·simp only [Act.put, List.setIfInBounds_toArray, List.set_cons_zero, List.set_cons_succ, i64_w, i32_w]
           rfl
          refine take_ (i := 11) (N := some 60) (v := ?_) (a' := ?_) #[true, true, true, true, true, true, false, false, false, true, true, true, false, false, true, false, false, false, false, false, false] rfl rfl (take_ofW HT_.out HW_.out (by kernel_rfl)) (fun _ _ _ h => h) (Or.inl ⟨by rfl, ?_⟩) hHeld ?_ ?_
          rotate_left
          ·rintro w' ⟨s0, s1, s2, s3, s4, s5⟩
           go_simp
           with_reducible rfl
          rotate_left
          ·simp only [Act.put, List.setIfInBounds_toArray, List.set_cons_zero, List.set_cons_succ, i64_w, i32_w]
           rfl
          refine take_ (i := 15) (N := some 64) (v := ?_) (a' := ?_) #[true, true, true, true, true, true, false, false, false, true, true, true, false, false, true, true, false, false, false, false, false] rfl rfl (take_ofW HT_.out HW_.out (by kernel_rfl)) (fun _ _ _ h => h) (Or.inl ⟨by rfl, ?_⟩) hHeld ?_ ?_
          rotate_left
          ·rintro w' ⟨s0, s1, s2, s3, s4, s5⟩
           go_simp
           with_reducible rfl
          rotate_left
          ·simp only [Act.put, List.setIfInBounds_toArray, List.set_cons_zero, List.set_cons_succ, i64_w, i32_w]
           rfl
          refine join_ (σ := Value) 4 #[true, true, true, true, true, true, true, true, true, true, true, true, true, true, true, true, true, false, false, false, false] (fun s_ => [(55, s_), (56, .string (strOfNums y335)), (61, .string t338), (65, .string t339), (57, .string ((t333 ++ t334) ++ (strOfNums y335))), (62, .string (((t333 ++ t334) ++ (strOfNums y335)) ++ t338))]) (fun s_ w' => (w'.cell? ⟨gb332, 0, none⟩ = some (.int .u64 ((rd_T58 l0_4 x5_2).f0.f0.f0)) ∧ w'.cell? ⟨gb332, 1, none⟩ = some (.int .u64 ((rd_T58 l0_4 x5_2).f0.f0.f1)) ∧ w'.cell? ⟨gb332, 2, none⟩ = some (.int .i64 ((rd_T58 l0_4 x5_2).f0.f1)) ∧ w'.cell? ⟨gb332, 3, none⟩ = some (.int .u32 ((rd_T58 l0_4 x5_2).f1)) ∧ w'.cell? ⟨gb332, 4, none⟩ = some (.int .u32 ((rd_T58 l0_4 x5_2).f2)) ∧ w'.cell? ⟨gb332, 5, none⟩ = some (.int .i64 ((rd_T58 l0_4 x5_2).f3))) ∧ (Kd.R (Kd.int .u8) 5 w' w.heap.size (fun _ => True) s_ y335) ∧ (w'.heap[gb323]? = some (.cells #[.int .i64 a0_0, .int .u32 a0_1, .int .u32 a0_2, .int .u32 a0_3, .slice (some ad331) l0_4.length c0_4, .int .i64 a0_5] 51 (0, 0))) ∧ (w'.heap[gb324]? = some (.cells #[.int .u16 0, .string (⟨#[]⟩ : ByteArray)] 42 (0, 0))) ∧ (w'.heap[gb332]? = some (.cells #[.int .u64 ((rd_T58 l0_4 x5_2).f0.f0.f0), .int .u64 ((rd_T58 l0_4 x5_2).f0.f0.f1), .int .i64 ((rd_T58 l0_4 x5_2).f0.f1), .int .u32 ((rd_T58 l0_4 x5_2).f1), .int .u32 ((rd_T58 l0_4 x5_2).f2), .int .i64 ((rd_T58 l0_4 x5_2).f3)] 58 (0, 0))) ∧ (Below w.heap.size w w')) ?_ ?_
          rotate_left
          ·intro hJ6_7_12_16
           refine join_ (σ := Value) 5 #[true, true, true, true, true, true, true, true, true, true, true, true, true, true, true, true, false, false, false, false, false] (fun s_ => [(55, s_), (56, .string (strOfNums y335)), (61, .string t338), (57, .string ((t333 ++ t334) ++ (strOfNums y335))), (62, .string (((t333 ++ t334) ++ (strOfNums y335)) ++ t338))]) (fun s_ w' => (w'.cell? ⟨gb332, 0, none⟩ = some (.int .u64 ((rd_T58 l0_4 x5_2).f0.f0.f0)) ∧ w'.cell? ⟨gb332, 1, none⟩ = some (.int .u64 ((rd_T58 l0_4 x5_2).f0.f0.f1)) ∧ w'.cell? ⟨gb332, 2, none⟩ = some (.int .i64 ((rd_T58 l0_4 x5_2).f0.f1)) ∧ w'.cell? ⟨gb332, 3, none⟩ = some (.int .u32 ((rd_T58 l0_4 x5_2).f1)) ∧ w'.cell? ⟨gb332, 4, none⟩ = some (.int .u32 ((rd_T58 l0_4 x5_2).f2)) ∧ w'.cell? ⟨gb332, 5, none⟩ = some (.int .i64 ((rd_T58 l0_4 x5_2).f3))) ∧ (Kd.R (Kd.int .u8) 5 w' w.heap.size (fun _ => True) s_ y335) ∧ (w'.heap[gb323]? = some (.cells #[.int .i64 a0_0, .int .u32 a0_1, .int .u32 a0_2, .int .u32 a0_3, .slice (some ad331) l0_4.length c0_4, .int .i64 a0_5] 51 (0, 0))) ∧ (w'.heap[gb324]? = some (.cells #[.int .u16 0, .string (⟨#[]⟩ : ByteArray)] 42 (0, 0))) ∧ (w'.heap[gb332]? = some (.cells #[.int .u64 ((rd_T58 l0_4 x5_2).f0.f0.f0), .int .u64 ((rd_T58 l0_4 x5_2).f0.f0.f1), .int .i64 ((rd_T58 l0_4 x5_2).f0.f1), .int .u32 ((rd_T58 l0_4 x5_2).f1), .int .u32 ((rd_T58 l0_4 x5_2).f2), .int .i64 ((rd_T58 l0_4 x5_2).f3)] 58 (0, 0))) ∧ (Below w.heap.size w w')) ?_ ?_
           rotate_left
           ·intro hJ6_7_12
            refine join_ (σ := Value) 7 #[true, true, true, true, true, true, true, false, false, true, true, true, true, false, true, true, true, false, false, false, false] (fun s_ => [(55, s_), (61, .string t338), (65, .string t339)]) (fun s_ w' => (w'.cell? ⟨gb332, 0, none⟩ = some (.int .u64 ((rd_T58 l0_4 x5_2).f0.f0.f0)) ∧ w'.cell? ⟨gb332, 1, none⟩ = some (.int .u64 ((rd_T58 l0_4 x5_2).f0.f0.f1)) ∧ w'.cell? ⟨gb332, 2, none⟩ = some (.int .i64 ((rd_T58 l0_4 x5_2).f0.f1)) ∧ w'.cell? ⟨gb332, 3, none⟩ = some (.int .u32 ((rd_T58 l0_4 x5_2).f1)) ∧ w'.cell? ⟨gb332, 4, none⟩ = some (.int .u32 ((rd_T58 l0_4 x5_2).f2)) ∧ w'.cell? ⟨gb332, 5, none⟩ = some (.int .i64 ((rd_T58 l0_4 x5_2).f3))) ∧ (Kd.R (Kd.int .u8) 5 w' w.heap.size (fun _ => True) s_ y335) ∧ (w'.heap[gb323]? = some (.cells #[.int .i64 a0_0, .int .u32 a0_1, .int .u32 a0_2, .int .u32 a0_3, .slice (some ad331) l0_4.length c0_4, .int .i64 a0_5] 51 (0, 0))) ∧ (w'.heap[gb324]? = some (.cells #[.int .u16 0, .string (⟨#[]⟩ : ByteArray)] 42 (0, 0))) ∧ (w'.heap[gb332]? = some (.cells #[.int .u64 ((rd_T58 l0_4 x5_2).f0.f0.f0), .int .u64 ((rd_T58 l0_4 x5_2).f0.f0.f1), .int .i64 ((rd_T58 l0_4 x5_2).f0.f1), .int .u32 ((rd_T58 l0_4 x5_2).f1), .int .u32 ((rd_T58 l0_4 x5_2).f2), .int .i64 ((rd_T58 l0_4 x5_2).f3)] 58 (0, 0))) ∧ (Below w.heap.size w w')) ?_ ?_
            rotate_left
            ·intro hJ6_12_16
             refine join_ (σ := Value) 7 #[true, true, true, true, true, true, true, true, true, true, true, true, false, false, true, true, false, false, false, false, false] (fun s_ => [(55, s_), (56, .string (strOfNums y335)), (57, .string ((t333 ++ t334) ++ (strOfNums y335)))]) (fun s_ w' => (w'.cell? ⟨gb332, 0, none⟩ = some (.int .u64 ((rd_T58 l0_4 x5_2).f0.f0.f0)) ∧ w'.cell? ⟨gb332, 1, none⟩ = some (.int .u64 ((rd_T58 l0_4 x5_2).f0.f0.f1)) ∧ w'.cell? ⟨gb332, 2, none⟩ = some (.int .i64 ((rd_T58 l0_4 x5_2).f0.f1)) ∧ w'.cell? ⟨gb332, 3, none⟩ = some (.int .u32 ((rd_T58 l0_4 x5_2).f1)) ∧ w'.cell? ⟨gb332, 4, none⟩ = some (.int .u32 ((rd_T58 l0_4 x5_2).f2)) ∧ w'.cell? ⟨gb332, 5, none⟩ = some (.int .i64 ((rd_T58 l0_4 x5_2).f3))) ∧ (Kd.R (Kd.int .u8) 5 w' w.heap.size (fun _ => True) s_ y335) ∧ (w'.heap[gb323]? = some (.cells #[.int .i64 a0_0, .int .u32 a0_1, .int .u32 a0_2, .int .u32 a0_3, .slice (some ad331) l0_4.length c0_4, .int .i64 a0_5] 51 (0, 0))) ∧ (w'.heap[gb324]? = some (.cells #[.int .u16 0, .string (⟨#[]⟩ : ByteArray)] 42 (0, 0))) ∧ (w'.heap[gb332]? = some (.cells #[.int .u64 ((rd_T58 l0_4 x5_2).f0.f0.f0), .int .u64 ((rd_T58 l0_4 x5_2).f0.f0.f1), .int .i64 ((rd_T58 l0_4 x5_2).f0.f1), .int .u32 ((rd_T58 l0_4 x5_2).f1), .int .u32 ((rd_T58 l0_4 x5_2).f2), .int .i64 ((rd_T58 l0_4 x5_2).f3)] 58 (0, 0))) ∧ (Below w.heap.size w w')) ?_ ?_
             rotate_left
             ·intro hJ6_7
              refine join_ (σ := Value) 8 #[true, true, true, true, true, true, true, false, false, true, true, true, true, false, true, true, false, false, false, false, false] (fun s_ => [(55, s_), (61, .string t338)]) (fun s_ w' => (w'.cell? ⟨gb332, 0, none⟩ = some (.int .u64 ((rd_T58 l0_4 x5_2).f0.f0.f0)) ∧ w'.cell? ⟨gb332, 1, none⟩ = some (.int .u64 ((rd_T58 l0_4 x5_2).f0.f0.f1)) ∧ w'.cell? ⟨gb332, 2, none⟩ = some (.int .i64 ((rd_T58 l0_4 x5_2).f0.f1)) ∧ w'.cell? ⟨gb332, 3, none⟩ = some (.int .u32 ((rd_T58 l0_4 x5_2).f1)) ∧ w'.cell? ⟨gb332, 4, none⟩ = some (.int .u32 ((rd_T58 l0_4 x5_2).f2)) ∧ w'.cell? ⟨gb332, 5, none⟩ = some (.int .i64 ((rd_T58 l0_4 x5_2).f3))) ∧ (Kd.R (Kd.int .u8) 5 w' w.heap.size (fun _ => True) s_ y335) ∧ (w'.heap[gb323]? = some (.cells #[.int .i64 a0_0, .int .u32 a0_1, .int .u32 a0_2, .int .u32 a0_3, .slice (some ad331) l0_4.length c0_4, .int .i64 a0_5] 51 (0, 0))) ∧ (w'.heap[gb324]? = some (.cells #[.int .u16 0, .string (⟨#[]⟩ : ByteArray)] 42 (0, 0))) ∧ (w'.heap[gb332]? = some (.cells #[.int .u64 ((rd_T58 l0_4 x5_2).f0.f0.f0), .int .u64 ((rd_T58 l0_4 x5_2).f0.f0.f1), .int .i64 ((rd_T58 l0_4 x5_2).f0.f1), .int .u32 ((rd_T58 l0_4 x5_2).f1), .int .u32 ((rd_T58 l0_4 x5_2).f2), .int .i64 ((rd_T58 l0_4 x5_2).f3)] 58 (0, 0))) ∧ (Below w.heap.size w w')) ?_ ?_
              rotate_left
              ·intro hJ6_12
               refine join_ (σ := Unit) 8 #[true, true, true, true, true, true, false, false, false, true, true, true, true, false, true, true, true, false, false, false, false] (fun s_ => [(61, .string t338), (65, .string t339)]) (fun s_ w' => (w'.cell? ⟨gb332, 0, none⟩ = some (.int .u64 ((rd_T58 l0_4 x5_2).f0.f0.f0)) ∧ w'.cell? ⟨gb332, 1, none⟩ = some (.int .u64 ((rd_T58 l0_4 x5_2).f0.f0.f1)) ∧ w'.cell? ⟨gb332, 2, none⟩ = some (.int .i64 ((rd_T58 l0_4 x5_2).f0.f1)) ∧ w'.cell? ⟨gb332, 3, none⟩ = some (.int .u32 ((rd_T58 l0_4 x5_2).f1)) ∧ w'.cell? ⟨gb332, 4, none⟩ = some (.int .u32 ((rd_T58 l0_4 x5_2).f2)) ∧ w'.cell? ⟨gb332, 5, none⟩ = some (.int .i64 ((rd_T58 l0_4 x5_2).f3))) ∧ (w'.heap[gb323]? = some (.cells #[.int .i64 a0_0, .int .u32 a0_1, .int .u32 a0_2, .int .u32 a0_3, .slice (some ad331) l0_4.length c0_4, .int .i64 a0_5] 51 (0, 0))) ∧ (w'.heap[gb324]? = some (.cells #[.int .u16 0, .string (⟨#[]⟩ : ByteArray)] 42 (0, 0))) ∧ (w'.heap[gb332]? = some (.cells #[.int .u64 ((rd_T58 l0_4 x5_2).f0.f0.f0), .int .u64 ((rd_T58 l0_4 x5_2).f0.f0.f1), .int .i64 ((rd_T58 l0_4 x5_2).f0.f1), .int .u32 ((rd_T58 l0_4 x5_2).f1), .int .u32 ((rd_T58 l0_4 x5_2).f2), .int .i64 ((rd_T58 l0_4 x5_2).f3)] 58 (0, 0))) ∧ (Below w.heap.size w w')) ?_ ?_
               rotate_left
               ·intro hJ12_16
                refine join_ (σ := Value) 9 #[true, true, true, true, true, true, true, false, false, true, true, true, false, false, true, true, false, false, false, false, false] (fun s_ => [(55, s_)]) (fun s_ w' => (w'.cell? ⟨gb332, 0, none⟩ = some (.int .u64 ((rd_T58 l0_4 x5_2).f0.f0.f0)) ∧ w'.cell? ⟨gb332, 1, none⟩ = some (.int .u64 ((rd_T58 l0_4 x5_2).f0.f0.f1)) ∧ w'.cell? ⟨gb332, 2, none⟩ = some (.int .i64 ((rd_T58 l0_4 x5_2).f0.f1)) ∧ w'.cell? ⟨gb332, 3, none⟩ = some (.int .u32 ((rd_T58 l0_4 x5_2).f1)) ∧ w'.cell? ⟨gb332, 4, none⟩ = some (.int .u32 ((rd_T58 l0_4 x5_2).f2)) ∧ w'.cell? ⟨gb332, 5, none⟩ = some (.int .i64 ((rd_T58 l0_4 x5_2).f3))) ∧ (Kd.R (Kd.int .u8) 5 w' w.heap.size (fun _ => True) s_ y335) ∧ (w'.heap[gb323]? = some (.cells #[.int .i64 a0_0, .int .u32 a0_1, .int .u32 a0_2, .int .u32 a0_3, .slice (some ad331) l0_4.length c0_4, .int .i64 a0_5] 51 (0, 0))) ∧ (w'.heap[gb324]? = some (.cells #[.int .u16 0, .string (⟨#[]⟩ : ByteArray)] 42 (0, 0))) ∧ (w'.heap[gb332]? = some (.cells #[.int .u64 ((rd_T58 l0_4 x5_2).f0.f0.f0), .int .u64 ((rd_T58 l0_4 x5_2).f0.f0.f1), .int .i64 ((rd_T58 l0_4 x5_2).f0.f1), .int .u32 ((rd_T58 l0_4 x5_2).f1), .int .u32 ((rd_T58 l0_4 x5_2).f2), .int .i64 ((rd_T58 l0_4 x5_2).f3)] 58 (0, 0))) ∧ (Below w.heap.size w w')) ?_ ?_
                rotate_left
                ·intro hJ6
                 refine join_ (σ := Unit) 9 #[true, true, true, true, true, true, false, false, false, true, true, true, true, false, true, true, false, false, false, false, false] (fun s_ => [(61, .string t338)]) (fun s_ w' => (w'.cell? ⟨gb332, 0, none⟩ = some (.int .u64 ((rd_T58 l0_4 x5_2).f0.f0.f0)) ∧ w'.cell? ⟨gb332, 1, none⟩ = some (.int .u64 ((rd_T58 l0_4 x5_2).f0.f0.f1)) ∧ w'.cell? ⟨gb332, 2, none⟩ = some (.int .i64 ((rd_T58 l0_4 x5_2).f0.f1)) ∧ w'.cell? ⟨gb332, 3, none⟩ = some (.int .u32 ((rd_T58 l0_4 x5_2).f1)) ∧ w'.cell? ⟨gb332, 4, none⟩ = some (.int .u32 ((rd_T58 l0_4 x5_2).f2)) ∧ w'.cell? ⟨gb332, 5, none⟩ = some (.int .i64 ((rd_T58 l0_4 x5_2).f3))) ∧ (w'.heap[gb323]? = some (.cells #[.int .i64 a0_0, .int .u32 a0_1, .int .u32 a0_2, .int .u32 a0_3, .slice (some ad331) l0_4.length c0_4, .int .i64 a0_5] 51 (0, 0))) ∧ (w'.heap[gb324]? = some (.cells #[.int .u16 0, .string (⟨#[]⟩ : ByteArray)] 42 (0, 0))) ∧ (w'.heap[gb332]? = some (.cells #[.int .u64 ((rd_T58 l0_4 x5_2).f0.f0.f0), .int .u64 ((rd_T58 l0_4 x5_2).f0.f0.f1), .int .i64 ((rd_T58 l0_4 x5_2).f0.f1), .int .u32 ((rd_T58 l0_4 x5_2).f1), .int .u32 ((rd_T58 l0_4 x5_2).f2), .int .i64 ((rd_T58 l0_4 x5_2).f3)] 58 (0, 0))) ∧ (Below w.heap.size w w')) ?_ ?_
                 rotate_left
                 ·intro hJ12
                  refine two_ (i := 6) (j := 12) (Ni := some 55) (Nj := some 61) #[true, true, true, true, true, true, true, false, false, true, true, true, false, false, true, true, false, false, false, false, false] #[true, true, true, true, true, true, false, false, false, true, true, true, true, false, true, true, false, false, false, false, false] rfl rfl rfl rfl (two_of HT_.out (by kernel_rfl)) (by decide) (by decide) (fun K hK => ?_) (fun K hK => ?_)
                  ·skip
                   refine Kd.R_lit_step (Kd.int .u8) _ 5 ?hg (N := 55) ?hd (xs := ([((rd_T58 l0_4 x5_2).f0.f1) % 256] : List Int)) (inner := [.int .u8 (((rd_T58 l0_4 x5_2).f0.f1) % 256)]) (ok := fun _ => True) (okp := fun _ => True) ?hr ?hp (fun _ hk => hk) trivial (Below.refl _ _) (Nat.le_refl _) (by simp) ?_; (case hd => rfl); (case hg => rfl); (case hr => first | (go_simp; rfl)); (case hp => exact (Reps.one (show Kd.M (Kd.int .u8) _ _ _ (((rd_T58 l0_4 x5_2).f0.f1) % 256) [.int .u8 (((rd_T58 l0_4 x5_2).f0.f1) % 256)] from rfl) (Reps.none _ _)))
                   intro v336 w47 ho48 hb hg_ hnew_
                   clear hg_ hnew_
                   (first | rw [← Ny335.out] at ho48)
                   have HO337 := ak_ (Kd.R_lower ho48 (below_size HB.out))
                   replace BK323 := bb_ BK323 hb
                   replace BK324 := bb_ BK324 hb
                   replace BK332 := bb_ BK332 hb
                   replace HB := bs_ HB hb
                   clear hb ho48
                   refine hK.out _ _ ⟨(blk_cell BK332.out 0).trans rfl, (blk_cell BK332.out 1).trans rfl, (blk_cell BK332.out 2).trans rfl, (blk_cell BK332.out 3).trans rfl, (blk_cell BK332.out 4).trans rfl, (blk_cell BK332.out 5).trans rfl⟩ (fun hHeld => ?_)
                   clear hK K
                   refine norm_ (a' := ?_) ?_ ?_
                   rotate_left
                   ·show Act.put _ (some 55) _ = _
                    simp only [Act.put, List.setIfInBounds_toArray, List.set_cons_zero, List.set_cons_succ, i64_w, i32_w]
                    rfl
                   exact norm_ (by first | (simp only [putAll, Act.put, List.setIfInBounds_toArray, List.set_cons_zero, List.set_cons_succ]; done)) (hJ6 (v336) _ ⟨hHeld, HO337.out, BK323.out, BK324.out, BK332.out, HB.out⟩)
                  skip
                  refine goes_ Try.func72 (by kernel_rfl) rfl #[.agg #[.int .u64 ((rd_T58 l0_4 x5_2).f0.f0.f0), .int .u64 ((rd_T58 l0_4 x5_2).f0.f0.f1)]] (by rfl) rfl rfl (by (try simp only [List.map_toArray, List.map_cons, List.map_nil]); first | rfl) ?_
                  with_reducible refine (tenancyref04_PutAddr.calls k2 ((rd_T58 l0_4 x5_2).f0.f0.f0) ((rd_T58 l0_4 x5_2).f0.f0.f1) t338 _ A29.out).mono ?_
                  rintro e w47 ⟨rfl, hb⟩
                  refine ⟨_, rfl, ?_⟩
                  replace BK323 := bb_ BK323 hb
                  replace BK324 := bb_ BK324 hb
                  replace BK332 := bb_ BK332 hb
                  replace HB := bs_ HB hb
                  (try clear hb)
                  (try clear hb2)
                  (try clear hk)
                  (try clear hi)
                  refine hK.out _ _ ⟨(blk_cell BK332.out 0).trans rfl, (blk_cell BK332.out 1).trans rfl, (blk_cell BK332.out 2).trans rfl, (blk_cell BK332.out 3).trans rfl, (blk_cell BK332.out 4).trans rfl, (blk_cell BK332.out 5).trans rfl⟩ (fun hHeld => ?_)
                  clear hK K
                  refine norm_ (a' := ?_) ?_ ?_
                  rotate_left
                  ·show Act.put _ (some 61) _ = _
                   simp only [Act.put, List.setIfInBounds_toArray, List.set_cons_zero, List.set_cons_succ, i64_w, i32_w]
                   rfl
                  exact norm_ (by first | (simp only [putAll, Act.put, List.setIfInBounds_toArray, List.set_cons_zero, List.set_cons_succ]; done)) (hJ12 () _ ⟨hHeld, BK323.out, BK324.out, BK332.out, HB.out⟩)
                 skip
                 rintro _ w48 ⟨hS_, h0_, h1_, h2_, h3_⟩
                 have n0_ : Aside0 (w48.heap[gb323]? = some (.cells #[.int .i64 a0_0, .int .u32 a0_1, .int .u32 a0_2, .int .u32 a0_3, .slice (some ad331) l0_4.length c0_4, .int .i64 a0_5] 51 (0, 0))) := ⟨h0_⟩
                 have n1_ : Aside0 (w48.heap[gb324]? = some (.cells #[.int .u16 0, .string (⟨#[]⟩ : ByteArray)] 42 (0, 0))) := ⟨h1_⟩
                 have n2_ : Aside0 (w48.heap[gb332]? = some (.cells #[.int .u64 ((rd_T58 l0_4 x5_2).f0.f0.f0), .int .u64 ((rd_T58 l0_4 x5_2).f0.f0.f1), .int .i64 ((rd_T58 l0_4 x5_2).f0.f1), .int .u32 ((rd_T58 l0_4 x5_2).f1), .int .u32 ((rd_T58 l0_4 x5_2).f2), .int .i64 ((rd_T58 l0_4 x5_2).f3)] 58 (0, 0))) := ⟨h2_⟩
                 have n3_ : Aside0 (Below w.heap.size w w48) := ⟨h3_⟩
                 clear BK323
                 clear BK324
                 clear BK332
                 clear HB
                 clear h0_ h1_ h2_ h3_
                 have BK323 := n0_
                 have BK324 := n1_
                 have BK332 := n2_
                 have HB := n3_
                 clear n0_ n1_ n2_ n3_
                 have hHeld : w48.cell? ⟨gb332, 0, none⟩ = some (.int .u64 ((rd_T58 l0_4 x5_2).f0.f0.f0)) ∧ w48.cell? ⟨gb332, 1, none⟩ = some (.int .u64 ((rd_T58 l0_4 x5_2).f0.f0.f1)) ∧ w48.cell? ⟨gb332, 2, none⟩ = some (.int .i64 ((rd_T58 l0_4 x5_2).f0.f1)) ∧ w48.cell? ⟨gb332, 3, none⟩ = some (.int .u32 ((rd_T58 l0_4 x5_2).f1)) ∧ w48.cell? ⟨gb332, 4, none⟩ = some (.int .u32 ((rd_T58 l0_4 x5_2).f2)) ∧ w48.cell? ⟨gb332, 5, none⟩ = some (.int .i64 ((rd_T58 l0_4 x5_2).f3)) := hS_
                 refine norm_ (a' := ?_) ?_ ?_
                 rotate_left
                 ·simp only [putAll, Act.put, List.setIfInBounds_toArray, List.set_cons_zero, List.set_cons_succ]
                  rfl
                 refine two_ (i := 6) (j := 16) (Ni := some 55) (Nj := some 65) #[true, true, true, true, true, true, true, false, false, true, true, true, true, false, true, true, false, false, false, false, false] #[true, true, true, true, true, true, false, false, false, true, true, true, true, false, true, true, true, false, false, false, false] rfl rfl rfl rfl (two_of HT_.out (by kernel_rfl)) (by decide) (by decide) (fun K hK => ?_) (fun K hK => ?_)
                 ·skip
                  refine Kd.R_lit_step (Kd.int .u8) _ 5 ?hg (N := 55) ?hd (xs := ([((rd_T58 l0_4 x5_2).f0.f1) % 256] : List Int)) (inner := [.int .u8 (((rd_T58 l0_4 x5_2).f0.f1) % 256)]) (ok := fun _ => True) (okp := fun _ => True) ?hr ?hp (fun _ hk => hk) trivial (Below.refl _ _) (Nat.le_refl _) (by simp) ?_; (case hd => rfl); (case hg => rfl); (case hr => first | (go_simp; rfl)); (case hp => exact (Reps.one (show Kd.M (Kd.int .u8) _ _ _ (((rd_T58 l0_4 x5_2).f0.f1) % 256) [.int .u8 (((rd_T58 l0_4 x5_2).f0.f1) % 256)] from rfl) (Reps.none _ _)))
                  intro v336 w49 ho50 hb hg_ hnew_
                  clear hg_ hnew_
                  (first | rw [← Ny335.out] at ho50)
                  have HO337 := ak_ (Kd.R_lower ho50 (below_size HB.out))
                  replace BK323 := bb_ BK323 hb
                  replace BK324 := bb_ BK324 hb
                  replace BK332 := bb_ BK332 hb
                  replace HB := bs_ HB hb
                  clear hb ho50
                  refine hK.out _ _ ⟨(blk_cell BK332.out 0).trans rfl, (blk_cell BK332.out 1).trans rfl, (blk_cell BK332.out 2).trans rfl, (blk_cell BK332.out 3).trans rfl, (blk_cell BK332.out 4).trans rfl, (blk_cell BK332.out 5).trans rfl⟩ (fun hHeld => ?_)
                  clear hK K
                  refine norm_ (a' := ?_) ?_ ?_
                  rotate_left
                  ·show Act.put _ (some 55) _ = _
                   simp only [Act.put, List.setIfInBounds_toArray, List.set_cons_zero, List.set_cons_succ, i64_w, i32_w]
                   rfl
                  exact norm_ (by first | (simp only [putAll, Act.put, List.setIfInBounds_toArray, List.set_cons_zero, List.set_cons_succ]; done)) (hJ6_12 (v336) _ ⟨hHeld, HO337.out, BK323.out, BK324.out, BK332.out, HB.out⟩)
                 skip
                 refine goes_ Try.func73 (by kernel_rfl) rfl #[.int .i64 ((rd_T58 l0_4 x5_2).f3)] (by rfl) rfl rfl (by (try simp only [List.map_toArray, List.map_cons, List.map_nil]); first | rfl) ?_
                 with_reducible refine (tenancyref15_statusOption.calls k2 ((rd_T58 l0_4 x5_2).f3) t339 _ A31.out).mono ?_
                 rintro e w49 ⟨rfl, hb⟩
                 refine ⟨_, rfl, ?_⟩
                 replace BK323 := bb_ BK323 hb
                 replace BK324 := bb_ BK324 hb
                 replace BK332 := bb_ BK332 hb
                 replace HB := bs_ HB hb
                 (try clear hb)
                 (try clear hb2)
                 (try clear hk)
                 (try clear hi)
                 refine hK.out _ _ ⟨(blk_cell BK332.out 0).trans rfl, (blk_cell BK332.out 1).trans rfl, (blk_cell BK332.out 2).trans rfl, (blk_cell BK332.out 3).trans rfl, (blk_cell BK332.out 4).trans rfl, (blk_cell BK332.out 5).trans rfl⟩ (fun hHeld => ?_)
                 clear hK K
                 refine norm_ (a' := ?_) ?_ ?_
                 rotate_left
                 ·show Act.put _ (some 65) _ = _
                  simp only [Act.put, List.setIfInBounds_toArray, List.set_cons_zero, List.set_cons_succ, i64_w, i32_w]
                  rfl
                 exact norm_ (by first | (simp only [putAll, Act.put, List.setIfInBounds_toArray, List.set_cons_zero, List.set_cons_succ]; done)) (hJ12_16 () _ ⟨hHeld, BK323.out, BK324.out, BK332.out, HB.out⟩)
                skip
                rintro v336 w49 ⟨hS_, h0_, h1_, h2_, h3_, h4_⟩
                have n0_ : Aside0 (Kd.R (Kd.int .u8) 5 w49 w.heap.size (fun _ => True) v336 y335) := ⟨h0_⟩
                have n1_ : Aside0 (w49.heap[gb323]? = some (.cells #[.int .i64 a0_0, .int .u32 a0_1, .int .u32 a0_2, .int .u32 a0_3, .slice (some ad331) l0_4.length c0_4, .int .i64 a0_5] 51 (0, 0))) := ⟨h1_⟩
                have n2_ : Aside0 (w49.heap[gb324]? = some (.cells #[.int .u16 0, .string (⟨#[]⟩ : ByteArray)] 42 (0, 0))) := ⟨h2_⟩
                have n3_ : Aside0 (w49.heap[gb332]? = some (.cells #[.int .u64 ((rd_T58 l0_4 x5_2).f0.f0.f0), .int .u64 ((rd_T58 l0_4 x5_2).f0.f0.f1), .int .i64 ((rd_T58 l0_4 x5_2).f0.f1), .int .u32 ((rd_T58 l0_4 x5_2).f1), .int .u32 ((rd_T58 l0_4 x5_2).f2), .int .i64 ((rd_T58 l0_4 x5_2).f3)] 58 (0, 0))) := ⟨h3_⟩
                have n4_ : Aside0 (Below w.heap.size w w49) := ⟨h4_⟩
                clear BK323
                clear BK324
                clear BK332
                clear HB
                clear h0_ h1_ h2_ h3_ h4_
                have HO337 := n0_
                have BK323 := n1_
                have BK324 := n2_
                have BK332 := n3_
                have HB := n4_
                clear n0_ n1_ n2_ n3_ n4_
                have hHeld : w49.cell? ⟨gb332, 0, none⟩ = some (.int .u64 ((rd_T58 l0_4 x5_2).f0.f0.f0)) ∧ w49.cell? ⟨gb332, 1, none⟩ = some (.int .u64 ((rd_T58 l0_4 x5_2).f0.f0.f1)) ∧ w49.cell? ⟨gb332, 2, none⟩ = some (.int .i64 ((rd_T58 l0_4 x5_2).f0.f1)) ∧ w49.cell? ⟨gb332, 3, none⟩ = some (.int .u32 ((rd_T58 l0_4 x5_2).f1)) ∧ w49.cell? ⟨gb332, 4, none⟩ = some (.int .u32 ((rd_T58 l0_4 x5_2).f2)) ∧ w49.cell? ⟨gb332, 5, none⟩ = some (.int .i64 ((rd_T58 l0_4 x5_2).f3)) := hS_
                refine norm_ (a' := ?_) ?_ ?_
                rotate_left
                ·simp only [putAll, Act.put, List.setIfInBounds_toArray, List.set_cons_zero, List.set_cons_succ]
                 rfl
                refine two_ (i := 7) (j := 12) (Ni := some 56) (Nj := some 61) #[true, true, true, true, true, true, true, true, false, true, true, true, false, false, true, true, false, false, false, false, false] #[true, true, true, true, true, true, true, false, false, true, true, true, true, false, true, true, false, false, false, false, false] rfl rfl rfl rfl (two_of HT_.out (by kernel_rfl)) (by decide) (by decide) (fun K hK => ?_) (fun K hK => ?_)
                ·skip
                 have hcv50 := own_string (P := Try.prog) Try.underlying47 Try.underlying5 Try.underlying9 (Kd.own_of_R HO337.out)
                 refine value_ (w1 := ?_) (v := ?_) (by rfl) rfl ?_ ?_
                 rotate_left 2
                 ·go_simp
                  constructor
                  ·rfl
                  rfl
                 clear hcv50
                 refine hK.out _ _ ⟨(blk_cell BK332.out 0).trans rfl, (blk_cell BK332.out 1).trans rfl, (blk_cell BK332.out 2).trans rfl, (blk_cell BK332.out 3).trans rfl, (blk_cell BK332.out 4).trans rfl, (blk_cell BK332.out 5).trans rfl⟩ (fun hHeld => ?_)
                 clear hK K
                 refine norm_ (a' := ?_) ?_ ?_
                 rotate_left
                 ·show Act.put _ (some 56) _ = _
                  simp only [Act.put, List.setIfInBounds_toArray, List.set_cons_zero, List.set_cons_succ, i64_w, i32_w]
                  rfl
                 refine pure_ (i := 8) (N := some 57) (v := ?_) (a' := ?_) #[true, true, true, true, true, true, true, true, true, true, true, true, false, false, true, true, false, false, false, false, false] rfl rfl (any_of HT_.out (by kernel_rfl)) (fun _ _ _ h => h) (Or.inl ⟨by rfl, ?_⟩) ?_ ?_
                 rotate_left
                 ·intro w'
                  go_simp
                  with_reducible rfl
                 rotate_left
                 ·simp only [Act.put, List.setIfInBounds_toArray, List.set_cons_zero, List.set_cons_succ, i64_w, i32_w]
                  rfl
                 exact norm_ (by first | (simp only [putAll, Act.put, List.setIfInBounds_toArray, List.set_cons_zero, List.set_cons_succ]; done)) (hJ6_7 (v336) _ ⟨hHeld, HO337.out, BK323.out, BK324.out, BK332.out, HB.out⟩)
                skip
                refine goes_ Try.func72 (by kernel_rfl) rfl #[.agg #[.int .u64 ((rd_T58 l0_4 x5_2).f0.f0.f0), .int .u64 ((rd_T58 l0_4 x5_2).f0.f0.f1)]] (by rfl) rfl rfl (by (try simp only [List.map_toArray, List.map_cons, List.map_nil]); first | rfl) ?_
                with_reducible refine (tenancyref04_PutAddr.calls k2 ((rd_T58 l0_4 x5_2).f0.f0.f0) ((rd_T58 l0_4 x5_2).f0.f0.f1) t338 _ A29.out).mono ?_
                rintro e w50 ⟨rfl, hb⟩
                refine ⟨_, rfl, ?_⟩
                replace HO337 := ak_ (Kd.R_below HO337.out hb)
                replace BK323 := bb_ BK323 hb
                replace BK324 := bb_ BK324 hb
                replace BK332 := bb_ BK332 hb
                replace HB := bs_ HB hb
                (try clear hb)
                (try clear hb2)
                (try clear hk)
                (try clear hi)
                refine hK.out _ _ ⟨(blk_cell BK332.out 0).trans rfl, (blk_cell BK332.out 1).trans rfl, (blk_cell BK332.out 2).trans rfl, (blk_cell BK332.out 3).trans rfl, (blk_cell BK332.out 4).trans rfl, (blk_cell BK332.out 5).trans rfl⟩ (fun hHeld => ?_)
                clear hK K
                refine norm_ (a' := ?_) ?_ ?_
                rotate_left
                ·show Act.put _ (some 61) _ = _
                 simp only [Act.put, List.setIfInBounds_toArray, List.set_cons_zero, List.set_cons_succ, i64_w, i32_w]
                 rfl
                exact norm_ (by first | (simp only [putAll, Act.put, List.setIfInBounds_toArray, List.set_cons_zero, List.set_cons_succ]; done)) (hJ6_12 (v336) _ ⟨hHeld, HO337.out, BK323.out, BK324.out, BK332.out, HB.out⟩)
               skip
               rintro _ w49 ⟨hS_, h0_, h1_, h2_, h3_⟩
               have n0_ : Aside0 (w49.heap[gb323]? = some (.cells #[.int .i64 a0_0, .int .u32 a0_1, .int .u32 a0_2, .int .u32 a0_3, .slice (some ad331) l0_4.length c0_4, .int .i64 a0_5] 51 (0, 0))) := ⟨h0_⟩
               have n1_ : Aside0 (w49.heap[gb324]? = some (.cells #[.int .u16 0, .string (⟨#[]⟩ : ByteArray)] 42 (0, 0))) := ⟨h1_⟩
               have n2_ : Aside0 (w49.heap[gb332]? = some (.cells #[.int .u64 ((rd_T58 l0_4 x5_2).f0.f0.f0), .int .u64 ((rd_T58 l0_4 x5_2).f0.f0.f1), .int .i64 ((rd_T58 l0_4 x5_2).f0.f1), .int .u32 ((rd_T58 l0_4 x5_2).f1), .int .u32 ((rd_T58 l0_4 x5_2).f2), .int .i64 ((rd_T58 l0_4 x5_2).f3)] 58 (0, 0))) := ⟨h2_⟩
               have n3_ : Aside0 (Below w.heap.size w w49) := ⟨h3_⟩
               clear BK323
               clear BK324
               clear BK332
               clear HB
               clear h0_ h1_ h2_ h3_
               have BK323 := n0_
               have BK324 := n1_
               have BK332 := n2_
               have HB := n3_
               clear n0_ n1_ n2_ n3_
               have hHeld : w49.cell? ⟨gb332, 0, none⟩ = some (.int .u64 ((rd_T58 l0_4 x5_2).f0.f0.f0)) ∧ w49.cell? ⟨gb332, 1, none⟩ = some (.int .u64 ((rd_T58 l0_4 x5_2).f0.f0.f1)) ∧ w49.cell? ⟨gb332, 2, none⟩ = some (.int .i64 ((rd_T58 l0_4 x5_2).f0.f1)) ∧ w49.cell? ⟨gb332, 3, none⟩ = some (.int .u32 ((rd_T58 l0_4 x5_2).f1)) ∧ w49.cell? ⟨gb332, 4, none⟩ = some (.int .u32 ((rd_T58 l0_4 x5_2).f2)) ∧ w49.cell? ⟨gb332, 5, none⟩ = some (.int .i64 ((rd_T58 l0_4 x5_2).f3)) := hS_
               refine norm_ (a' := ?_) ?_ ?_
               rotate_left
               ·simp only [putAll, Act.put, List.setIfInBounds_toArray, List.set_cons_zero, List.set_cons_succ]
                rfl
               refine one_ (i := 6) (N := some 55) #[true, true, true, true, true, true, true, false, false, true, true, true, true, false, true, true, true, false, false, false, false] rfl rfl (one_of HT_.out (by kernel_rfl)) (by decide) (fun K hK => ?_)
               refine Kd.R_lit_step (Kd.int .u8) _ 5 ?hg (N := 55) ?hd (xs := ([((rd_T58 l0_4 x5_2).f0.f1) % 256] : List Int)) (inner := [.int .u8 (((rd_T58 l0_4 x5_2).f0.f1) % 256)]) (ok := fun _ => True) (okp := fun _ => True) ?hr ?hp (fun _ hk => hk) trivial (Below.refl _ _) (Nat.le_refl _) (by simp) ?_; (case hd => rfl); (case hg => rfl); (case hr => first | (go_simp; rfl)); (case hp => exact (Reps.one (show Kd.M (Kd.int .u8) _ _ _ (((rd_T58 l0_4 x5_2).f0.f1) % 256) [.int .u8 (((rd_T58 l0_4 x5_2).f0.f1) % 256)] from rfl) (Reps.none _ _)))
               intro v336 w50 ho51 hb hg_ hnew_
               clear hg_ hnew_
               (first | rw [← Ny335.out] at ho51)
               have HO337 := ak_ (Kd.R_lower ho51 (below_size HB.out))
               replace BK323 := bb_ BK323 hb
               replace BK324 := bb_ BK324 hb
               replace BK332 := bb_ BK332 hb
               replace HB := bs_ HB hb
               clear hb ho51
               refine hK.out _ _ ⟨(blk_cell BK332.out 0).trans rfl, (blk_cell BK332.out 1).trans rfl, (blk_cell BK332.out 2).trans rfl, (blk_cell BK332.out 3).trans rfl, (blk_cell BK332.out 4).trans rfl, (blk_cell BK332.out 5).trans rfl⟩ (fun hHeld => ?_)
               clear hK K
               refine norm_ (a' := ?_) ?_ ?_
               rotate_left
               ·show Act.put _ (some 55) _ = _
                simp only [Act.put, List.setIfInBounds_toArray, List.set_cons_zero, List.set_cons_succ, i64_w, i32_w]
                rfl
               exact norm_ (by first | (simp only [putAll, Act.put, List.setIfInBounds_toArray, List.set_cons_zero, List.set_cons_succ]; done)) (hJ6_12_16 (v336) _ ⟨hHeld, HO337.out, BK323.out, BK324.out, BK332.out, HB.out⟩)
              skip
              rintro v336 w50 ⟨hS_, h0_, h1_, h2_, h3_, h4_⟩
              have n0_ : Aside0 (Kd.R (Kd.int .u8) 5 w50 w.heap.size (fun _ => True) v336 y335) := ⟨h0_⟩
              have n1_ : Aside0 (w50.heap[gb323]? = some (.cells #[.int .i64 a0_0, .int .u32 a0_1, .int .u32 a0_2, .int .u32 a0_3, .slice (some ad331) l0_4.length c0_4, .int .i64 a0_5] 51 (0, 0))) := ⟨h1_⟩
              have n2_ : Aside0 (w50.heap[gb324]? = some (.cells #[.int .u16 0, .string (⟨#[]⟩ : ByteArray)] 42 (0, 0))) := ⟨h2_⟩
              have n3_ : Aside0 (w50.heap[gb332]? = some (.cells #[.int .u64 ((rd_T58 l0_4 x5_2).f0.f0.f0), .int .u64 ((rd_T58 l0_4 x5_2).f0.f0.f1), .int .i64 ((rd_T58 l0_4 x5_2).f0.f1), .int .u32 ((rd_T58 l0_4 x5_2).f1), .int .u32 ((rd_T58 l0_4 x5_2).f2), .int .i64 ((rd_T58 l0_4 x5_2).f3)] 58 (0, 0))) := ⟨h3_⟩
              have n4_ : Aside0 (Below w.heap.size w w50) := ⟨h4_⟩
              clear BK323
              clear BK324
              clear BK332
              clear HB
              clear h0_ h1_ h2_ h3_ h4_
              have HO337 := n0_
              have BK323 := n1_
              have BK324 := n2_
              have BK332 := n3_
              have HB := n4_
              clear n0_ n1_ n2_ n3_ n4_
              have hHeld : w50.cell? ⟨gb332, 0, none⟩ = some (.int .u64 ((rd_T58 l0_4 x5_2).f0.f0.f0)) ∧ w50.cell? ⟨gb332, 1, none⟩ = some (.int .u64 ((rd_T58 l0_4 x5_2).f0.f0.f1)) ∧ w50.cell? ⟨gb332, 2, none⟩ = some (.int .i64 ((rd_T58 l0_4 x5_2).f0.f1)) ∧ w50.cell? ⟨gb332, 3, none⟩ = some (.int .u32 ((rd_T58 l0_4 x5_2).f1)) ∧ w50.cell? ⟨gb332, 4, none⟩ = some (.int .u32 ((rd_T58 l0_4 x5_2).f2)) ∧ w50.cell? ⟨gb332, 5, none⟩ = some (.int .i64 ((rd_T58 l0_4 x5_2).f3)) := hS_
              refine norm_ (a' := ?_) ?_ ?_
              rotate_left
              ·simp only [putAll, Act.put, List.setIfInBounds_toArray, List.set_cons_zero, List.set_cons_succ]
               rfl
              refine two_ (i := 7) (j := 16) (Ni := some 56) (Nj := some 65) #[true, true, true, true, true, true, true, true, false, true, true, true, true, false, true, true, false, false, false, false, false] #[true, true, true, true, true, true, true, false, false, true, true, true, true, false, true, true, true, false, false, false, false] rfl rfl rfl rfl (two_of HT_.out (by kernel_rfl)) (by decide) (by decide) (fun K hK => ?_) (fun K hK => ?_)
              ·skip
               have hcv51 := own_string (P := Try.prog) Try.underlying47 Try.underlying5 Try.underlying9 (Kd.own_of_R HO337.out)
               refine value_ (w1 := ?_) (v := ?_) (by rfl) rfl ?_ ?_
               rotate_left 2
               ·go_simp
                constructor
                ·rfl
                rfl
               clear hcv51
               refine hK.out _ _ ⟨(blk_cell BK332.out 0).trans rfl, (blk_cell BK332.out 1).trans rfl, (blk_cell BK332.out 2).trans rfl, (blk_cell BK332.out 3).trans rfl, (blk_cell BK332.out 4).trans rfl, (blk_cell BK332.out 5).trans rfl⟩ (fun hHeld => ?_)
               clear hK K
               refine norm_ (a' := ?_) ?_ ?_
               rotate_left
               ·show Act.put _ (some 56) _ = _
                simp only [Act.put, List.setIfInBounds_toArray, List.set_cons_zero, List.set_cons_succ, i64_w, i32_w]
                rfl
               refine pure_ (i := 8) (N := some 57) (v := ?_) (a' := ?_) #[true, true, true, true, true, true, true, true, true, true, true, true, true, false, true, true, false, false, false, false, false] rfl rfl (any_of HT_.out (by kernel_rfl)) (fun _ _ _ h => h) (Or.inl ⟨by rfl, ?_⟩) ?_ ?_
               rotate_left
               ·intro w'
                go_simp
                with_reducible rfl
               rotate_left
               ·simp only [Act.put, List.setIfInBounds_toArray, List.set_cons_zero, List.set_cons_succ, i64_w, i32_w]
                rfl
               refine pure_ (i := 13) (N := some 62) (v := ?_) (a' := ?_) #[true, true, true, true, true, true, true, true, true, true, true, true, true, true, true, true, false, false, false, false, false] rfl rfl (any_of HT_.out (by kernel_rfl)) (fun _ _ _ h => h) (Or.inl ⟨by rfl, ?_⟩) ?_ ?_
               rotate_left
               ·intro w'
                go_simp
                with_reducible rfl
               rotate_left
               ·simp only [Act.put, List.setIfInBounds_toArray, List.set_cons_zero, List.set_cons_succ, i64_w, i32_w]
                rfl
               exact norm_ (by first | (simp only [putAll, Act.put, List.setIfInBounds_toArray, List.set_cons_zero, List.set_cons_succ]; done)) (hJ6_7_12 (v336) _ ⟨hHeld, HO337.out, BK323.out, BK324.out, BK332.out, HB.out⟩)
              skip
              refine goes_ Try.func73 (by kernel_rfl) rfl #[.int .i64 ((rd_T58 l0_4 x5_2).f3)] (by rfl) rfl rfl (by (try simp only [List.map_toArray, List.map_cons, List.map_nil]); first | rfl) ?_
              with_reducible refine (tenancyref15_statusOption.calls k2 ((rd_T58 l0_4 x5_2).f3) t339 _ A31.out).mono ?_
              rintro e w51 ⟨rfl, hb⟩
              refine ⟨_, rfl, ?_⟩
              replace HO337 := ak_ (Kd.R_below HO337.out hb)
              replace BK323 := bb_ BK323 hb
              replace BK324 := bb_ BK324 hb
              replace BK332 := bb_ BK332 hb
              replace HB := bs_ HB hb
              (try clear hb)
              (try clear hb2)
              (try clear hk)
              (try clear hi)
              refine hK.out _ _ ⟨(blk_cell BK332.out 0).trans rfl, (blk_cell BK332.out 1).trans rfl, (blk_cell BK332.out 2).trans rfl, (blk_cell BK332.out 3).trans rfl, (blk_cell BK332.out 4).trans rfl, (blk_cell BK332.out 5).trans rfl⟩ (fun hHeld => ?_)
              clear hK K
              refine norm_ (a' := ?_) ?_ ?_
              rotate_left
              ·show Act.put _ (some 65) _ = _
               simp only [Act.put, List.setIfInBounds_toArray, List.set_cons_zero, List.set_cons_succ, i64_w, i32_w]
               rfl
              exact norm_ (by first | (simp only [putAll, Act.put, List.setIfInBounds_toArray, List.set_cons_zero, List.set_cons_succ]; done)) (hJ6_12_16 (v336) _ ⟨hHeld, HO337.out, BK323.out, BK324.out, BK332.out, HB.out⟩)
             skip
             rintro v336 w50 ⟨hS_, h0_, h1_, h2_, h3_, h4_⟩
             have n0_ : Aside0 (Kd.R (Kd.int .u8) 5 w50 w.heap.size (fun _ => True) v336 y335) := ⟨h0_⟩
             have n1_ : Aside0 (w50.heap[gb323]? = some (.cells #[.int .i64 a0_0, .int .u32 a0_1, .int .u32 a0_2, .int .u32 a0_3, .slice (some ad331) l0_4.length c0_4, .int .i64 a0_5] 51 (0, 0))) := ⟨h1_⟩
             have n2_ : Aside0 (w50.heap[gb324]? = some (.cells #[.int .u16 0, .string (⟨#[]⟩ : ByteArray)] 42 (0, 0))) := ⟨h2_⟩
             have n3_ : Aside0 (w50.heap[gb332]? = some (.cells #[.int .u64 ((rd_T58 l0_4 x5_2).f0.f0.f0), .int .u64 ((rd_T58 l0_4 x5_2).f0.f0.f1), .int .i64 ((rd_T58 l0_4 x5_2).f0.f1), .int .u32 ((rd_T58 l0_4 x5_2).f1), .int .u32 ((rd_T58 l0_4 x5_2).f2), .int .i64 ((rd_T58 l0_4 x5_2).f3)] 58 (0, 0))) := ⟨h3_⟩
             have n4_ : Aside0 (Below w.heap.size w w50) := ⟨h4_⟩
             clear BK323
             clear BK324
             clear BK332
             clear HB
             clear h0_ h1_ h2_ h3_ h4_
             have HO337 := n0_
             have BK323 := n1_
             have BK324 := n2_
             have BK332 := n3_
             have HB := n4_
             clear n0_ n1_ n2_ n3_ n4_
             have hHeld : w50.cell? ⟨gb332, 0, none⟩ = some (.int .u64 ((rd_T58 l0_4 x5_2).f0.f0.f0)) ∧ w50.cell? ⟨gb332, 1, none⟩ = some (.int .u64 ((rd_T58 l0_4 x5_2).f0.f0.f1)) ∧ w50.cell? ⟨gb332, 2, none⟩ = some (.int .i64 ((rd_T58 l0_4 x5_2).f0.f1)) ∧ w50.cell? ⟨gb332, 3, none⟩ = some (.int .u32 ((rd_T58 l0_4 x5_2).f1)) ∧ w50.cell? ⟨gb332, 4, none⟩ = some (.int .u32 ((rd_T58 l0_4 x5_2).f2)) ∧ w50.cell? ⟨gb332, 5, none⟩ = some (.int .i64 ((rd_T58 l0_4 x5_2).f3)) := hS_
             refine norm_ (a' := ?_) ?_ ?_
             rotate_left
             ·simp only [putAll, Act.put, List.setIfInBounds_toArray, List.set_cons_zero, List.set_cons_succ]
              rfl
             refine one_ (i := 12) (N := some 61) #[true, true, true, true, true, true, true, true, true, true, true, true, true, false, true, true, false, false, false, false, false] rfl rfl (one_of HT_.out (by kernel_rfl)) (by decide) (fun K hK => ?_)
             refine goes_ Try.func72 (by kernel_rfl) rfl #[.agg #[.int .u64 ((rd_T58 l0_4 x5_2).f0.f0.f0), .int .u64 ((rd_T58 l0_4 x5_2).f0.f0.f1)]] (by rfl) rfl rfl (by (try simp only [List.map_toArray, List.map_cons, List.map_nil]); first | rfl) ?_
             with_reducible refine (tenancyref04_PutAddr.calls k2 ((rd_T58 l0_4 x5_2).f0.f0.f0) ((rd_T58 l0_4 x5_2).f0.f0.f1) t338 _ A29.out).mono ?_
             rintro e w51 ⟨rfl, hb⟩
             refine ⟨_, rfl, ?_⟩
             replace HO337 := ak_ (Kd.R_below HO337.out hb)
             replace BK323 := bb_ BK323 hb
             replace BK324 := bb_ BK324 hb
             replace BK332 := bb_ BK332 hb
             replace HB := bs_ HB hb
             (try clear hb)
             (try clear hb2)
             (try clear hk)
             (try clear hi)
             refine hK.out _ _ ⟨(blk_cell BK332.out 0).trans rfl, (blk_cell BK332.out 1).trans rfl, (blk_cell BK332.out 2).trans rfl, (blk_cell BK332.out 3).trans rfl, (blk_cell BK332.out 4).trans rfl, (blk_cell BK332.out 5).trans rfl⟩ (fun hHeld => ?_)
             clear hK K
             refine norm_ (a' := ?_) ?_ ?_
             rotate_left
             ·show Act.put _ (some 61) _ = _
              simp only [Act.put, List.setIfInBounds_toArray, List.set_cons_zero, List.set_cons_succ, i64_w, i32_w]
              rfl
             refine pure_ (i := 13) (N := some 62) (v := ?_) (a' := ?_) #[true, true, true, true, true, true, true, true, true, true, true, true, true, true, true, true, false, false, false, false, false] rfl rfl (any_of HT_.out (by kernel_rfl)) (fun _ _ _ h => h) (Or.inl ⟨by rfl, ?_⟩) ?_ ?_
             rotate_left
             ·intro w'
              go_simp
              with_reducible rfl
             rotate_left
             ·simp only [Act.put, List.setIfInBounds_toArray, List.set_cons_zero, List.set_cons_succ, i64_w, i32_w]
              rfl
             exact norm_ (by first | (simp only [putAll, Act.put, List.setIfInBounds_toArray, List.set_cons_zero, List.set_cons_succ]; done)) (hJ6_7_12 (v336) _ ⟨hHeld, HO337.out, BK323.out, BK324.out, BK332.out, HB.out⟩)
            skip
            rintro v336 w51 ⟨hS_, h0_, h1_, h2_, h3_, h4_⟩
            have n0_ : Aside0 (Kd.R (Kd.int .u8) 5 w51 w.heap.size (fun _ => True) v336 y335) := ⟨h0_⟩
            have n1_ : Aside0 (w51.heap[gb323]? = some (.cells #[.int .i64 a0_0, .int .u32 a0_1, .int .u32 a0_2, .int .u32 a0_3, .slice (some ad331) l0_4.length c0_4, .int .i64 a0_5] 51 (0, 0))) := ⟨h1_⟩
            have n2_ : Aside0 (w51.heap[gb324]? = some (.cells #[.int .u16 0, .string (⟨#[]⟩ : ByteArray)] 42 (0, 0))) := ⟨h2_⟩
            have n3_ : Aside0 (w51.heap[gb332]? = some (.cells #[.int .u64 ((rd_T58 l0_4 x5_2).f0.f0.f0), .int .u64 ((rd_T58 l0_4 x5_2).f0.f0.f1), .int .i64 ((rd_T58 l0_4 x5_2).f0.f1), .int .u32 ((rd_T58 l0_4 x5_2).f1), .int .u32 ((rd_T58 l0_4 x5_2).f2), .int .i64 ((rd_T58 l0_4 x5_2).f3)] 58 (0, 0))) := ⟨h3_⟩
            have n4_ : Aside0 (Below w.heap.size w w51) := ⟨h4_⟩
            clear BK323
            clear BK324
            clear BK332
            clear HB
            clear h0_ h1_ h2_ h3_ h4_
            have HO337 := n0_
            have BK323 := n1_
            have BK324 := n2_
            have BK332 := n3_
            have HB := n4_
            clear n0_ n1_ n2_ n3_ n4_
            have hHeld : w51.cell? ⟨gb332, 0, none⟩ = some (.int .u64 ((rd_T58 l0_4 x5_2).f0.f0.f0)) ∧ w51.cell? ⟨gb332, 1, none⟩ = some (.int .u64 ((rd_T58 l0_4 x5_2).f0.f0.f1)) ∧ w51.cell? ⟨gb332, 2, none⟩ = some (.int .i64 ((rd_T58 l0_4 x5_2).f0.f1)) ∧ w51.cell? ⟨gb332, 3, none⟩ = some (.int .u32 ((rd_T58 l0_4 x5_2).f1)) ∧ w51.cell? ⟨gb332, 4, none⟩ = some (.int .u32 ((rd_T58 l0_4 x5_2).f2)) ∧ w51.cell? ⟨gb332, 5, none⟩ = some (.int .i64 ((rd_T58 l0_4 x5_2).f3)) := hS_
            refine norm_ (a' := ?_) ?_ ?_
            rotate_left
            ·simp only [putAll, Act.put, List.setIfInBounds_toArray, List.set_cons_zero, List.set_cons_succ]
             rfl
            refine one_ (i := 7) (N := some 56) #[true, true, true, true, true, true, true, true, false, true, true, true, true, false, true, true, true, false, false, false, false] rfl rfl (one_of HT_.out (by kernel_rfl)) (by decide) (fun K hK => ?_)
            have hcv52 := own_string (P := Try.prog) Try.underlying47 Try.underlying5 Try.underlying9 (Kd.own_of_R HO337.out)
            refine value_ (w1 := ?_) (v := ?_) (by rfl) rfl ?_ ?_
            rotate_left 2
            ·go_simp
             constructor
             ·rfl
             rfl
            clear hcv52
            refine hK.out _ _ ⟨(blk_cell BK332.out 0).trans rfl, (blk_cell BK332.out 1).trans rfl, (blk_cell BK332.out 2).trans rfl, (blk_cell BK332.out 3).trans rfl, (blk_cell BK332.out 4).trans rfl, (blk_cell BK332.out 5).trans rfl⟩ (fun hHeld => ?_)
            clear hK K
            refine norm_ (a' := ?_) ?_ ?_
            rotate_left
            ·show Act.put _ (some 56) _ = _
             simp only [Act.put, List.setIfInBounds_toArray, List.set_cons_zero, List.set_cons_succ, i64_w, i32_w]
             rfl
            refine pure_ (i := 8) (N := some 57) (v := ?_) (a' := ?_) #[true, true, true, true, true, true, true, true, true, true, true, true, true, false, true, true, true, false, false, false, false] rfl rfl (any_of HT_.out (by kernel_rfl)) (fun _ _ _ h => h) (Or.inl ⟨by rfl, ?_⟩) ?_ ?_
            rotate_left
            ·intro w'
             go_simp
             with_reducible rfl
            rotate_left
            ·simp only [Act.put, List.setIfInBounds_toArray, List.set_cons_zero, List.set_cons_succ, i64_w, i32_w]
             rfl
            refine pure_ (i := 13) (N := some 62) (v := ?_) (a' := ?_) #[true, true, true, true, true, true, true, true, true, true, true, true, true, true, true, true, true, false, false, false, false] rfl rfl (any_of HT_.out (by kernel_rfl)) (fun _ _ _ h => h) (Or.inl ⟨by rfl, ?_⟩) ?_ ?_
            rotate_left
            ·intro w'
             go_simp
             with_reducible rfl
            rotate_left
            ·simp only [Act.put, List.setIfInBounds_toArray, List.set_cons_zero, List.set_cons_succ, i64_w, i32_w]
             rfl
            exact norm_ (by first | (simp only [putAll, Act.put, List.setIfInBounds_toArray, List.set_cons_zero, List.set_cons_succ]; done)) (hJ6_7_12_16 (v336) _ ⟨hHeld, HO337.out, BK323.out, BK324.out, BK332.out, HB.out⟩)
           skip
           rintro v336 w51 ⟨hS_, h0_, h1_, h2_, h3_, h4_⟩
           have n0_ : Aside0 (Kd.R (Kd.int .u8) 5 w51 w.heap.size (fun _ => True) v336 y335) := ⟨h0_⟩
           have n1_ : Aside0 (w51.heap[gb323]? = some (.cells #[.int .i64 a0_0, .int .u32 a0_1, .int .u32 a0_2, .int .u32 a0_3, .slice (some ad331) l0_4.length c0_4, .int .i64 a0_5] 51 (0, 0))) := ⟨h1_⟩
           have n2_ : Aside0 (w51.heap[gb324]? = some (.cells #[.int .u16 0, .string (⟨#[]⟩ : ByteArray)] 42 (0, 0))) := ⟨h2_⟩
           have n3_ : Aside0 (w51.heap[gb332]? = some (.cells #[.int .u64 ((rd_T58 l0_4 x5_2).f0.f0.f0), .int .u64 ((rd_T58 l0_4 x5_2).f0.f0.f1), .int .i64 ((rd_T58 l0_4 x5_2).f0.f1), .int .u32 ((rd_T58 l0_4 x5_2).f1), .int .u32 ((rd_T58 l0_4 x5_2).f2), .int .i64 ((rd_T58 l0_4 x5_2).f3)] 58 (0, 0))) := ⟨h3_⟩
           have n4_ : Aside0 (Below w.heap.size w w51) := ⟨h4_⟩
           clear BK323
           clear BK324
           clear BK332
           clear HB
           clear h0_ h1_ h2_ h3_ h4_
           have HO337 := n0_
           have BK323 := n1_
           have BK324 := n2_
           have BK332 := n3_
           have HB := n4_
           clear n0_ n1_ n2_ n3_ n4_
           have hHeld : w51.cell? ⟨gb332, 0, none⟩ = some (.int .u64 ((rd_T58 l0_4 x5_2).f0.f0.f0)) ∧ w51.cell? ⟨gb332, 1, none⟩ = some (.int .u64 ((rd_T58 l0_4 x5_2).f0.f0.f1)) ∧ w51.cell? ⟨gb332, 2, none⟩ = some (.int .i64 ((rd_T58 l0_4 x5_2).f0.f1)) ∧ w51.cell? ⟨gb332, 3, none⟩ = some (.int .u32 ((rd_T58 l0_4 x5_2).f1)) ∧ w51.cell? ⟨gb332, 4, none⟩ = some (.int .u32 ((rd_T58 l0_4 x5_2).f2)) ∧ w51.cell? ⟨gb332, 5, none⟩ = some (.int .i64 ((rd_T58 l0_4 x5_2).f3)) := hS_
           refine norm_ (a' := ?_) ?_ ?_
           rotate_left
           ·simp only [putAll, Act.put, List.setIfInBounds_toArray, List.set_cons_zero, List.set_cons_succ]
            rfl
           refine one_ (i := 16) (N := some 65) #[true, true, true, true, true, true, true, true, true, true, true, true, true, true, true, true, true, false, false, false, false] rfl rfl (one_of HT_.out (by kernel_rfl)) (by decide) (fun K hK => ?_)
           refine goes_ Try.func73 (by kernel_rfl) rfl #[.int .i64 ((rd_T58 l0_4 x5_2).f3)] (by rfl) rfl rfl (by (try simp only [List.map_toArray, List.map_cons, List.map_nil]); first | rfl) ?_
           with_reducible refine (tenancyref15_statusOption.calls k2 ((rd_T58 l0_4 x5_2).f3) t339 _ A31.out).mono ?_
           rintro e w52 ⟨rfl, hb⟩
           refine ⟨_, rfl, ?_⟩
           replace HO337 := ak_ (Kd.R_below HO337.out hb)
           replace BK323 := bb_ BK323 hb
           replace BK324 := bb_ BK324 hb
           replace BK332 := bb_ BK332 hb
           replace HB := bs_ HB hb
           (try clear hb)
           (try clear hb2)
           (try clear hk)
           (try clear hi)
           refine hK.out _ _ ⟨(blk_cell BK332.out 0).trans rfl, (blk_cell BK332.out 1).trans rfl, (blk_cell BK332.out 2).trans rfl, (blk_cell BK332.out 3).trans rfl, (blk_cell BK332.out 4).trans rfl, (blk_cell BK332.out 5).trans rfl⟩ (fun hHeld => ?_)
           clear hK K
           refine norm_ (a' := ?_) ?_ ?_
           rotate_left
           ·show Act.put _ (some 65) _ = _
            simp only [Act.put, List.setIfInBounds_toArray, List.set_cons_zero, List.set_cons_succ, i64_w, i32_w]
            rfl
           exact norm_ (by first | (simp only [putAll, Act.put, List.setIfInBounds_toArray, List.set_cons_zero, List.set_cons_succ]; done)) (hJ6_7_12_16 (v336) _ ⟨hHeld, HO337.out, BK323.out, BK324.out, BK332.out, HB.out⟩)
          rintro v336 w52 ⟨hS_, h0_, h1_, h2_, h3_, h4_⟩
          have n0_ : Aside0 (Kd.R (Kd.int .u8) 5 w52 w.heap.size (fun _ => True) v336 y335) := ⟨h0_⟩
          have n1_ : Aside0 (w52.heap[gb323]? = some (.cells #[.int .i64 a0_0, .int .u32 a0_1, .int .u32 a0_2, .int .u32 a0_3, .slice (some ad331) l0_4.length c0_4, .int .i64 a0_5] 51 (0, 0))) := ⟨h1_⟩
          have n2_ : Aside0 (w52.heap[gb324]? = some (.cells #[.int .u16 0, .string (⟨#[]⟩ : ByteArray)] 42 (0, 0))) := ⟨h2_⟩
          have n3_ : Aside0 (w52.heap[gb332]? = some (.cells #[.int .u64 ((rd_T58 l0_4 x5_2).f0.f0.f0), .int .u64 ((rd_T58 l0_4 x5_2).f0.f0.f1), .int .i64 ((rd_T58 l0_4 x5_2).f0.f1), .int .u32 ((rd_T58 l0_4 x5_2).f1), .int .u32 ((rd_T58 l0_4 x5_2).f2), .int .i64 ((rd_T58 l0_4 x5_2).f3)] 58 (0, 0))) := ⟨h3_⟩
          have n4_ : Aside0 (Below w.heap.size w w52) := ⟨h4_⟩
          clear BK323
          clear BK324
          clear BK332
          clear HB
          clear h0_ h1_ h2_ h3_ h4_
          have HO337 := n0_
          have BK323 := n1_
          have BK324 := n2_
          have BK332 := n3_
          have HB := n4_
          clear n0_ n1_ n2_ n3_ n4_
          have hHeld : w52.cell? ⟨gb332, 0, none⟩ = some (.int .u64 ((rd_T58 l0_4 x5_2).f0.f0.f0)) ∧ w52.cell? ⟨gb332, 1, none⟩ = some (.int .u64 ((rd_T58 l0_4 x5_2).f0.f0.f1)) ∧ w52.cell? ⟨gb332, 2, none⟩ = some (.int .i64 ((rd_T58 l0_4 x5_2).f0.f1)) ∧ w52.cell? ⟨gb332, 3, none⟩ = some (.int .u32 ((rd_T58 l0_4 x5_2).f1)) ∧ w52.cell? ⟨gb332, 4, none⟩ = some (.int .u32 ((rd_T58 l0_4 x5_2).f2)) ∧ w52.cell? ⟨gb332, 5, none⟩ = some (.int .i64 ((rd_T58 l0_4 x5_2).f3)) := hS_
          refine norm_ (a' := ?_) ?_ ?_
          rotate_left
          ·simp only [putAll, Act.put, List.setIfInBounds_toArray, List.set_cons_zero, List.set_cons_succ]
           rfl
          refine pure_ (i := 17) (N := some 66) (v := ?_) (a' := ?_) #[true, true, true, true, true, true, true, true, true, true, true, true, true, true, true, true, true, true, false, false, false] rfl rfl (any_of HT_.out (by kernel_rfl)) (fun _ _ _ h => h) (Or.inl ⟨by rfl, ?_⟩) ?_ ?_
          rotate_left
          ·intro w'
           go_simp
           with_reducible rfl
          rotate_left
          ·simp only [Act.put, List.setIfInBounds_toArray, List.set_cons_zero, List.set_cons_succ, i64_w, i32_w]
           rfl
          refine one_ (i := 18) (N := some 67) #[true, true, true, true, true, true, true, true, true, true, true, true, true, true, true, true, true, true, true, false, false] rfl rfl (one_of HT_.out (by kernel_rfl)) (by decide) (fun K hK => ?_)
          refine goes_ Try.func71 (by kernel_rfl) rfl #[.int .u16 26, .string ((((t333 ++ t334) ++ (strOfNums y335)) ++ t338) ++ t339)] (by rfl) rfl rfl (by (try simp only [List.map_toArray, List.map_cons, List.map_nil]); first | rfl) ?_
          with_reducible refine (tenancyref15_option.calls k2 26 ((((t333 ++ t334) ++ (strOfNums y335)) ++ t338) ++ t339) t340 _ A33.out).mono ?_
          rintro e w53 ⟨rfl, hb⟩
          refine ⟨_, rfl, ?_⟩
          replace HO337 := ak_ (Kd.R_below HO337.out hb)
          replace BK323 := bb_ BK323 hb
          replace BK324 := bb_ BK324 hb
          replace BK332 := bb_ BK332 hb
          replace HB := bs_ HB hb
          (try clear hb)
          (try clear hb2)
          (try clear hk)
          (try clear hi)
          refine hK.out _ _ ⟨(blk_cell BK332.out 0).trans rfl, (blk_cell BK332.out 1).trans rfl, (blk_cell BK332.out 2).trans rfl, (blk_cell BK332.out 3).trans rfl, (blk_cell BK332.out 4).trans rfl, (blk_cell BK332.out 5).trans rfl⟩ (fun hHeld => ?_)
          clear hK K
          refine norm_ (a' := ?_) ?_ ?_
          rotate_left
          ·show Act.put _ (some 67) _ = _
           simp only [Act.put, List.setIfInBounds_toArray, List.set_cons_zero, List.set_cons_succ, i64_w, i32_w]
           rfl
          refine pure_ (i := 19) (N := some 68) (v := ?_) (a' := ?_) #[true, true, true, true, true, true, true, true, true, true, true, true, true, true, true, true, true, true, true, true, false] rfl rfl (any_of HT_.out (by kernel_rfl)) (fun _ _ _ h => h) (Or.inl ⟨by rfl, ?_⟩) ?_ ?_
          rotate_left
          ·intro w'
           go_simp
           with_reducible rfl
          rotate_left
          ·simp only [Act.put, List.setIfInBounds_toArray, List.set_cons_zero, List.set_cons_succ, i64_w, i32_w]
           rfl
          refine pure_ (i := 20) (N := some 4) (v := ?_) (a' := ?_) #[true, true, true, true, true, true, true, true, true, true, true, true, true, true, true, true, true, true, true, true, true] rfl rfl (any_of HT_.out (by kernel_rfl)) (fun _ _ _ h => h) (Or.inl ⟨by rfl, ?_⟩) ?_ ?_
          rotate_left
          ·intro w'
           go_simp
           with_reducible rfl
          rotate_left
          ·simp only [Act.put, List.setIfInBounds_toArray, List.set_cons_zero, List.set_cons_succ, i64_w, i32_w]
           rfl
          refine done_ (done_of HT_.out (by kernel_rfl)) ?_
          try go_wp2
          go_roundg k2
          case measure => have := HJ4.out; have := HK2.out; omega
          case rel => exact ⟨(x4_2 ++ t340), (wrap64 (x5_2 + 1)), (by rfl), (by rfl), H', ⟨by have := HJ4.out; have := HK2.out; omega⟩, ⟨by exact BK323.out⟩, ⟨by exact BK324.out⟩, ⟨by exact HB.out⟩⟩
         rw [if_neg c34] at H
         exact absurd H (by simp)
        rw [if_neg c32] at H
        exact absurd H (by simp)
       rw [if_neg c30] at H
       exact absurd H (by simp)
      rw [if_neg c28] at H
      exact absurd H (by simp)
     rw [if_neg c27] at H
     have c27b0 : (a0_0 == 4) = false := beq_eq_false_iff_ne.mpr c27
     have c27b1 : (a0_0 != 4) = true := bne_iff_ne.mpr c27
     replace H := Option.bind_eq_some_iff.mp H
     obtain ⟨t341, A540, H⟩ := H
     replace H : (if t341.size + (t333 ++ t334).size ≤ 9223372036854775807 then ((tenancyref15_statusOption.f k2 ((rd_T58 l0_4 x5_2).f3)).bind fun t342 => (if (t341 ++ (t333 ++ t334)).size + t342.size ≤ 9223372036854775807 then ((tenancyref15_option.f k2 5 ((t341 ++ (t333 ++ t334)) ++ t342)).bind fun t343 => (if x4_2.size + t343.size ≤ 9223372036854775807 then (tenancyref15_PutIA.l0 k2 (x4_2 ++ t343) (wrap64 (x5_2 + 1)) a0_0 a0_1 a0_2 a0_3 l0_4 a0_5) else (none))) else (none))) else (none)) = some (r1, r2, r3) := H
     have A54 := ak_ A540
     clear A540
     by_cases c55 : t341.size + (t333 ++ t334).size ≤ 9223372036854775807
     ·rw [if_pos c55] at H
      have c55b0 := eq_true c55
      have c55b1 : decide (t341.size + (t333 ++ t334).size ≤ 9223372036854775807) = true := decide_eq_true c55
      try have c55b2 : (9223372036854775807 < t341.size + (t333 ++ t334).size) = False := eq_false (Nat.not_lt.2 c55)
      (try (have c55b2a := c55b2; simp only [ByteArray.size_append] at c55b2a))
      replace H := Option.bind_eq_some_iff.mp H
      obtain ⟨t342, A560, H⟩ := H
      replace H : (if (t341 ++ (t333 ++ t334)).size + t342.size ≤ 9223372036854775807 then ((tenancyref15_option.f k2 5 ((t341 ++ (t333 ++ t334)) ++ t342)).bind fun t343 => (if x4_2.size + t343.size ≤ 9223372036854775807 then (tenancyref15_PutIA.l0 k2 (x4_2 ++ t343) (wrap64 (x5_2 + 1)) a0_0 a0_1 a0_2 a0_3 l0_4 a0_5) else (none))) else (none)) = some (r1, r2, r3) := H
      have A56 := ak_ A560
      clear A560
      by_cases c57 : (t341 ++ (t333 ++ t334)).size + t342.size ≤ 9223372036854775807
      ·rw [if_pos c57] at H
       have c57b0 := eq_true c57
       have c57b1 : decide ((t341 ++ (t333 ++ t334)).size + t342.size ≤ 9223372036854775807) = true := decide_eq_true c57
       try have c57b2 : (9223372036854775807 < (t341 ++ (t333 ++ t334)).size + t342.size) = False := eq_false (Nat.not_lt.2 c57)
       (try (have c57b2a := c57b2; simp only [ByteArray.size_append] at c57b2a))
       replace H := Option.bind_eq_some_iff.mp H
       obtain ⟨t343, A580, H⟩ := H
       replace H : (if x4_2.size + t343.size ≤ 9223372036854775807 then (tenancyref15_PutIA.l0 k2 (x4_2 ++ t343) (wrap64 (x5_2 + 1)) a0_0 a0_1 a0_2 a0_3 l0_4 a0_5) else (none)) = some (r1, r2, r3) := H
       have A58 := ak_ A580
       clear A580
       by_cases c59 : x4_2.size + t343.size ≤ 9223372036854775807
       ·rw [if_pos c59] at H
        have c59b0 := eq_true c59
        have c59b1 : decide (x4_2.size + t343.size ≤ 9223372036854775807) = true := decide_eq_true c59
        try have c59b2 : (9223372036854775807 < x4_2.size + t343.size) = False := eq_false (Nat.not_lt.2 c59)
        have H' := ak_ H
        clear H
        have hnb60 := NB323_324.out
        have hnc60 := NB324_323.out
        have hz61 := bz6_ BK323
        have p331 : 0 ≤ (x5_2 : Int) := of_decide_eq_true (by first | (with_reducible assumption))
        have q331 : x5_2 < (l0_4.length : Int) := of_decide_eq_true (by first | (with_reducible assumption))
        obtain ⟨ad331, e331, hx331_0, hx331_1, hx331_2, hx331_3, hx331_4, hx331_5⟩ := at_T58 HR0_4.out x5_2 p331 q331
        cases e331
        replace hx331_0 := (HB.out.cell (World.block_lt_of_cell? w _ hx331_0)).trans hx331_0
        replace hx331_1 := (HB.out.cell (World.block_lt_of_cell? w _ hx331_1)).trans hx331_1
        replace hx331_2 := (HB.out.cell (World.block_lt_of_cell? w _ hx331_2)).trans hx331_2
        replace hx331_3 := (HB.out.cell (World.block_lt_of_cell? w _ hx331_3)).trans hx331_3
        replace hx331_4 := (HB.out.cell (World.block_lt_of_cell? w _ hx331_4)).trans hx331_4
        replace hx331_5 := (HB.out.cell (World.block_lt_of_cell? w _ hx331_5)).trans hx331_5
        replace p331 := eq_true p331
        replace q331 := eq_true q331
        try go_wp2_with (first | ((with_reducible refine gate_dst (N := 6) rfl ?_); refine box_event ?hg (N := 6) ?hd (cs := #[.int .u64 0, .int .u64 0, .int .i64 0, .int .u32 0, .int .u32 0, .int .i64 0]) (t := 58) ?hr ?_; (case hd => rfl); (case hg => rfl); (case hr => go_simp; done); intro gb332 hg w62 hbox hb; have BK332 := ak_ hbox; have GW332 := gz_ HB hg; have GE332 := gz_ HB hg; replace HB := bs_ HB hb; have NB323_332 := gl_ BK323 hg; have NB332_323 := gr_ BK323 hg; replace BK323 := bb_ BK323 hb; have NB324_332 := gl_ BK324 hg; have NB332_324 := gr_ BK324 hg; replace BK324 := bb_ BK324 hb; clear hb hbox hg; have hnb63 := NB332_323.out; have hnc63 := NB323_332.out; have hnb64 := NB332_324.out; have hnc64 := NB324_332.out; have hz65 := bz6_ BK332))
        have n0_ : Aside0 (((((((w62.setCell ⟨gb332, 0, none⟩ (.int .u64 ((rd_T58 l0_4 x5_2).f0.f0.f0))).setCell ⟨gb332, 1, none⟩ (.int .u64 ((rd_T58 l0_4 x5_2).f0.f0.f1))).setCell ⟨gb332, 2, none⟩ (.int .i64 ((rd_T58 l0_4 x5_2).f0.f1))).setCell ⟨gb332, 3, none⟩ (.int .u32 ((rd_T58 l0_4 x5_2).f1))).setCell ⟨gb332, 4, none⟩ (.int .u32 ((rd_T58 l0_4 x5_2).f2))).setCell ⟨gb332, 5, none⟩ (.int .i64 ((rd_T58 l0_4 x5_2).f3))).heap[gb323]? = some (.cells #[.int .i64 a0_0, .int .u32 a0_1, .int .u32 a0_2, .int .u32 a0_3, .slice (some ad331) l0_4.length c0_4, .int .i64 a0_5] 51 (0, 0))) := ⟨by refine blk_far ?_ NB323_332.out _; refine blk_far ?_ NB323_332.out _; refine blk_far ?_ NB323_332.out _; refine blk_far ?_ NB323_332.out _; refine blk_far ?_ NB323_332.out _; refine blk_far ?_ NB323_332.out _; exact BK323.out⟩
        have n1_ : Aside0 (((((((w62.setCell ⟨gb332, 0, none⟩ (.int .u64 ((rd_T58 l0_4 x5_2).f0.f0.f0))).setCell ⟨gb332, 1, none⟩ (.int .u64 ((rd_T58 l0_4 x5_2).f0.f0.f1))).setCell ⟨gb332, 2, none⟩ (.int .i64 ((rd_T58 l0_4 x5_2).f0.f1))).setCell ⟨gb332, 3, none⟩ (.int .u32 ((rd_T58 l0_4 x5_2).f1))).setCell ⟨gb332, 4, none⟩ (.int .u32 ((rd_T58 l0_4 x5_2).f2))).setCell ⟨gb332, 5, none⟩ (.int .i64 ((rd_T58 l0_4 x5_2).f3))).heap[gb324]? = some (.cells #[.int .u16 0, .string (⟨#[]⟩ : ByteArray)] 42 (0, 0))) := ⟨by refine blk_far ?_ NB324_332.out _; refine blk_far ?_ NB324_332.out _; refine blk_far ?_ NB324_332.out _; refine blk_far ?_ NB324_332.out _; refine blk_far ?_ NB324_332.out _; refine blk_far ?_ NB324_332.out _; exact BK324.out⟩
        have n2_ : Aside0 (((((((w62.setCell ⟨gb332, 0, none⟩ (.int .u64 ((rd_T58 l0_4 x5_2).f0.f0.f0))).setCell ⟨gb332, 1, none⟩ (.int .u64 ((rd_T58 l0_4 x5_2).f0.f0.f1))).setCell ⟨gb332, 2, none⟩ (.int .i64 ((rd_T58 l0_4 x5_2).f0.f1))).setCell ⟨gb332, 3, none⟩ (.int .u32 ((rd_T58 l0_4 x5_2).f1))).setCell ⟨gb332, 4, none⟩ (.int .u32 ((rd_T58 l0_4 x5_2).f2))).setCell ⟨gb332, 5, none⟩ (.int .i64 ((rd_T58 l0_4 x5_2).f3))).heap[gb332]? = some (.cells #[.int .u64 ((rd_T58 l0_4 x5_2).f0.f0.f0), .int .u64 ((rd_T58 l0_4 x5_2).f0.f0.f1), .int .i64 ((rd_T58 l0_4 x5_2).f0.f1), .int .u32 ((rd_T58 l0_4 x5_2).f1), .int .u32 ((rd_T58 l0_4 x5_2).f2), .int .i64 ((rd_T58 l0_4 x5_2).f3)] 58 (0, 0))) := ⟨by refine blk_put (cs := #[.int .u64 ((rd_T58 l0_4 x5_2).f0.f0.f0), .int .u64 ((rd_T58 l0_4 x5_2).f0.f0.f1), .int .i64 ((rd_T58 l0_4 x5_2).f0.f1), .int .u32 ((rd_T58 l0_4 x5_2).f1), .int .u32 ((rd_T58 l0_4 x5_2).f2), .int .i64 0]) ?_ 5 _ rfl; refine blk_put (cs := #[.int .u64 ((rd_T58 l0_4 x5_2).f0.f0.f0), .int .u64 ((rd_T58 l0_4 x5_2).f0.f0.f1), .int .i64 ((rd_T58 l0_4 x5_2).f0.f1), .int .u32 ((rd_T58 l0_4 x5_2).f1), .int .u32 0, .int .i64 0]) ?_ 4 _ rfl; refine blk_put (cs := #[.int .u64 ((rd_T58 l0_4 x5_2).f0.f0.f0), .int .u64 ((rd_T58 l0_4 x5_2).f0.f0.f1), .int .i64 ((rd_T58 l0_4 x5_2).f0.f1), .int .u32 0, .int .u32 0, .int .i64 0]) ?_ 3 _ rfl; refine blk_put (cs := #[.int .u64 ((rd_T58 l0_4 x5_2).f0.f0.f0), .int .u64 ((rd_T58 l0_4 x5_2).f0.f0.f1), .int .i64 0, .int .u32 0, .int .u32 0, .int .i64 0]) ?_ 2 _ rfl; refine blk_put (cs := #[.int .u64 ((rd_T58 l0_4 x5_2).f0.f0.f0), .int .u64 0, .int .i64 0, .int .u32 0, .int .u32 0, .int .i64 0]) ?_ 1 _ rfl; refine blk_put (cs := #[.int .u64 0, .int .u64 0, .int .i64 0, .int .u32 0, .int .u32 0, .int .i64 0]) ?_ 0 _ rfl; exact BK332.out⟩
        have n3_ : Aside0 (Below w.heap.size w ((((((w62.setCell ⟨gb332, 0, none⟩ (.int .u64 ((rd_T58 l0_4 x5_2).f0.f0.f0))).setCell ⟨gb332, 1, none⟩ (.int .u64 ((rd_T58 l0_4 x5_2).f0.f0.f1))).setCell ⟨gb332, 2, none⟩ (.int .i64 ((rd_T58 l0_4 x5_2).f0.f1))).setCell ⟨gb332, 3, none⟩ (.int .u32 ((rd_T58 l0_4 x5_2).f1))).setCell ⟨gb332, 4, none⟩ (.int .u32 ((rd_T58 l0_4 x5_2).f2))).setCell ⟨gb332, 5, none⟩ (.int .i64 ((rd_T58 l0_4 x5_2).f3)))) := ⟨by repeat (first | (with_reducible first | exact HB.out | refine below_set ?_ GE332.out))⟩
        (try clear BK323)
        (try clear BK324)
        (try clear BK332)
        (try clear HB)
        generalize ((((((w62.setCell ⟨gb332, 0, none⟩ (.int .u64 ((rd_T58 l0_4 x5_2).f0.f0.f0))).setCell ⟨gb332, 1, none⟩ (.int .u64 ((rd_T58 l0_4 x5_2).f0.f0.f1))).setCell ⟨gb332, 2, none⟩ (.int .i64 ((rd_T58 l0_4 x5_2).f0.f1))).setCell ⟨gb332, 3, none⟩ (.int .u32 ((rd_T58 l0_4 x5_2).f1))).setCell ⟨gb332, 4, none⟩ (.int .u32 ((rd_T58 l0_4 x5_2).f2))).setCell ⟨gb332, 5, none⟩ (.int .i64 ((rd_T58 l0_4 x5_2).f3))) = w66 at n0_ n1_ n2_ n3_ ⊢
        have BK323 := n0_
        have BK324 := n1_
        have BK332 := n2_
        have HB := n3_
        clear n0_ n1_ n2_ n3_
        replace BK323 := ak_ (blk_drew BK323.out)
        replace BK324 := ak_ (blk_drew BK324.out)
        replace BK332 := ak_ (blk_drew BK332.out)
        replace HB := ak_ (below_drew1 HB.out)
        refine start_ (n := 8) (S := fun w' => w'.cell? ⟨gb332, 0, none⟩ = some (.int .u64 ((rd_T58 l0_4 x5_2).f0.f0.f0)) ∧ w'.cell? ⟨gb332, 1, none⟩ = some (.int .u64 ((rd_T58 l0_4 x5_2).f0.f0.f1)) ∧ w'.cell? ⟨gb332, 2, none⟩ = some (.int .i64 ((rd_T58 l0_4 x5_2).f0.f1)) ∧ w'.cell? ⟨gb332, 3, none⟩ = some (.int .u32 ((rd_T58 l0_4 x5_2).f1)) ∧ w'.cell? ⟨gb332, 4, none⟩ = some (.int .u32 ((rd_T58 l0_4 x5_2).f2)) ∧ w'.cell? ⟨gb332, 5, none⟩ = some (.int .i64 ((rd_T58 l0_4 x5_2).f3))) (ds := []) #[false, false, false, false, false, false, false, false] (by kernel_rfl) rfl rfl ⟨(blk_cell BK332.out 0).trans rfl, (blk_cell BK332.out 1).trans rfl, (blk_cell BK332.out 2).trans rfl, (blk_cell BK332.out 3).trans rfl, (blk_cell BK332.out 4).trans rfl, (blk_cell BK332.out 5).trans rfl⟩ (fun hHeld => ?_); refine with_tabW tenancyref15_PutIA.tab10 tenancyref15_PutIA.bits10 (fun HT_ HW_ => ?_)
        generalize w66.drew = w67 at BK323 BK324 BK332 HB hHeld ⊢
        refine pure_ (i := 0) (N := some 39) (v := ?_) (a' := ?_) #[true, false, false, false, false, false, false, false] rfl rfl (any_of HT_.out (by kernel_rfl)) (fun _ _ _ h => h) (Or.inl ⟨by rfl, ?_⟩) ?_ ?_
        rotate_left
        ·intro w'
         go_simp
         with_reducible rfl
        rotate_left
        ·simp only [Act.put, List.setIfInBounds_toArray, List.set_cons_zero, List.set_cons_succ, i64_w, i32_w]
         rfl
        refine pure_ (i := 3) (N := some 42) (v := ?_) (a' := ?_) #[true, false, false, true, false, false, false, false] rfl rfl (any_of HT_.out (by kernel_rfl)) (fun _ _ _ h => h) (Or.inl ⟨by rfl, ?_⟩) ?_ ?_
        rotate_left
        ·intro w'
         go_simp
         with_reducible rfl
        rotate_left
        ·simp only [Act.put, List.setIfInBounds_toArray, List.set_cons_zero, List.set_cons_succ, i64_w, i32_w]
         rfl
        refine take_ (i := 1) (N := some 40) (v := ?_) (a' := ?_) #[true, true, false, true, false, false, false, false] rfl rfl (take_ofW HT_.out HW_.out (by kernel_rfl)) (fun _ _ _ h => h) (Or.inl ⟨by rfl, ?_⟩) hHeld ?_ ?_
        rotate_left
        ·rintro w' ⟨s0, s1, s2, s3, s4, s5⟩
         go_simp
         with_reducible rfl
        rotate_left
        ·simp only [Act.put, List.setIfInBounds_toArray, List.set_cons_zero, List.set_cons_succ, i64_w, i32_w]
         rfl
        refine take_ (i := 4) (N := some 43) (v := ?_) (a' := ?_) #[true, true, false, true, true, false, false, false] rfl rfl (take_ofW HT_.out HW_.out (by kernel_rfl)) (fun _ _ _ h => h) (Or.inl ⟨by rfl, ?_⟩) hHeld ?_ ?_
        rotate_left
        ·rintro w' ⟨s0, s1, s2, s3, s4, s5⟩
         go_simp
         with_reducible rfl
        rotate_left
        ·simp only [Act.put, List.setIfInBounds_toArray, List.set_cons_zero, List.set_cons_succ, i64_w, i32_w]
         rfl
        refine one_ (i := 2) (N := some 41) #[true, true, true, true, true, false, false, false] rfl rfl (one_of HT_.out (by kernel_rfl)) (by decide) (fun K hK => ?_)
        refine goes_ Try.func70 (by kernel_rfl) rfl #[.int .u32 ((rd_T58 l0_4 x5_2).f1)] (by rfl) rfl rfl (by (try simp only [List.map_toArray, List.map_cons, List.map_nil]); first | rfl) ?_
        with_reducible refine (tenancyref04_Put32.calls k2 ((rd_T58 l0_4 x5_2).f1) t333 _ A24.out).mono ?_
        rintro e w68 ⟨rfl, hb⟩
        refine ⟨_, rfl, ?_⟩
        replace BK323 := bb_ BK323 hb
        replace BK324 := bb_ BK324 hb
        replace BK332 := bb_ BK332 hb
        replace HB := bs_ HB hb
        (try clear hb)
        (try clear hb2)
        (try clear hk)
        (try clear hi)
        refine hK.out _ _ ⟨(blk_cell BK332.out 0).trans rfl, (blk_cell BK332.out 1).trans rfl, (blk_cell BK332.out 2).trans rfl, (blk_cell BK332.out 3).trans rfl, (blk_cell BK332.out 4).trans rfl, (blk_cell BK332.out 5).trans rfl⟩ (fun hHeld => ?_)
        clear hK K
        refine norm_ (a' := ?_) ?_ ?_
        rotate_left
        ·show Act.put _ (some 41) _ = _
         simp only [Act.put, List.setIfInBounds_toArray, List.set_cons_zero, List.set_cons_succ, i64_w, i32_w]
         rfl
        refine one_ (i := 5) (N := some 44) #[true, true, true, true, true, true, false, false] rfl rfl (one_of HT_.out (by kernel_rfl)) (by decide) (fun K hK => ?_)
        refine goes_ Try.func70 (by kernel_rfl) rfl #[.int .u32 ((rd_T58 l0_4 x5_2).f2)] (by rfl) rfl rfl (by (try simp only [List.map_toArray, List.map_cons, List.map_nil]); first | rfl) ?_
        with_reducible refine (tenancyref04_Put32.calls k2 ((rd_T58 l0_4 x5_2).f2) t334 _ A25.out).mono ?_
        rintro e w69 ⟨rfl, hb⟩
        refine ⟨_, rfl, ?_⟩
        replace BK323 := bb_ BK323 hb
        replace BK324 := bb_ BK324 hb
        replace BK332 := bb_ BK332 hb
        replace HB := bs_ HB hb
        (try clear hb)
        (try clear hb2)
        (try clear hk)
        (try clear hi)
        refine hK.out _ _ ⟨(blk_cell BK332.out 0).trans rfl, (blk_cell BK332.out 1).trans rfl, (blk_cell BK332.out 2).trans rfl, (blk_cell BK332.out 3).trans rfl, (blk_cell BK332.out 4).trans rfl, (blk_cell BK332.out 5).trans rfl⟩ (fun hHeld => ?_)
        clear hK K
        refine norm_ (a' := ?_) ?_ ?_
        rotate_left
        ·show Act.put _ (some 44) _ = _
         simp only [Act.put, List.setIfInBounds_toArray, List.set_cons_zero, List.set_cons_succ, i64_w, i32_w]
         rfl
        refine pure_ (i := 6) (N := some 45) (v := ?_) (a' := ?_) #[true, true, true, true, true, true, true, false] rfl rfl (any_of HT_.out (by kernel_rfl)) (fun _ _ _ h => h) (Or.inl ⟨by rfl, ?_⟩) ?_ ?_
        rotate_left
        ·intro w'
         go_simp
         with_reducible rfl
        rotate_left
        ·simp only [Act.put, List.setIfInBounds_toArray, List.set_cons_zero, List.set_cons_succ, i64_w, i32_w]
         rfl
        refine pure_ (i := 7) (N := some 7) (v := ?_) (a' := ?_) #[true, true, true, true, true, true, true, true] rfl rfl (any_of HT_.out (by kernel_rfl)) (fun _ _ _ h => h) (Or.inl ⟨by rfl, ?_⟩) ?_ ?_
        rotate_left
        ·intro w'
         go_simp
         with_reducible rfl
        rotate_left
        ·simp only [Act.put, List.setIfInBounds_toArray, List.set_cons_zero, List.set_cons_succ, i64_w, i32_w]
         rfl
        refine done_ (done_of HT_.out (by kernel_rfl)) ?_
        have hz70 := bz6_ BK323
        try go_wp2
        replace BK323 := ak_ (blk_drew BK323.out)
        replace BK324 := ak_ (blk_drew BK324.out)
        replace BK332 := ak_ (blk_drew BK332.out)
        replace HB := ak_ (below_drew1 HB.out)
        refine start_ (n := 14) (S := fun w' => w'.cell? ⟨gb332, 0, none⟩ = some (.int .u64 ((rd_T58 l0_4 x5_2).f0.f0.f0)) ∧ w'.cell? ⟨gb332, 1, none⟩ = some (.int .u64 ((rd_T58 l0_4 x5_2).f0.f0.f1)) ∧ w'.cell? ⟨gb332, 2, none⟩ = some (.int .i64 ((rd_T58 l0_4 x5_2).f0.f1)) ∧ w'.cell? ⟨gb332, 3, none⟩ = some (.int .u32 ((rd_T58 l0_4 x5_2).f1)) ∧ w'.cell? ⟨gb332, 4, none⟩ = some (.int .u32 ((rd_T58 l0_4 x5_2).f2)) ∧ w'.cell? ⟨gb332, 5, none⟩ = some (.int .i64 ((rd_T58 l0_4 x5_2).f3))) (ds := []) #[false, false, false, false, false, false, false, false, false, false, false, false, false, false] (by kernel_rfl) rfl rfl ⟨(blk_cell BK332.out 0).trans rfl, (blk_cell BK332.out 1).trans rfl, (blk_cell BK332.out 2).trans rfl, (blk_cell BK332.out 3).trans rfl, (blk_cell BK332.out 4).trans rfl, (blk_cell BK332.out 5).trans rfl⟩ (fun hHeld => ?_); refine with_tabW tenancyref15_PutIA.tab13 tenancyref15_PutIA.bits13 (fun HT_ HW_ => ?_)
        generalize w69.drew = w71 at BK323 BK324 BK332 HB hHeld ⊢
        refine pure_ (i := 0) (N := some 69) (v := ?_) (a' := ?_) #[true, false, false, false, false, false, false, false, false, false, false, false, false, false] rfl rfl (any_of HT_.out (by kernel_rfl)) (fun _ _ _ h => h) (Or.inl ⟨by rfl, ?_⟩) ?_ ?_
        rotate_left
        ·intro w'
         go_simp
         with_reducible rfl
        rotate_left
        ·simp only [Act.put, List.setIfInBounds_toArray, List.set_cons_zero, List.set_cons_succ, i64_w, i32_w]
         rfl
        refine pure_ (i := 1) (N := some 70) (v := ?_) (a' := ?_) #[true, true, false, false, false, false, false, false, false, false, false, false, false, false] rfl rfl (any_of HT_.out (by kernel_rfl)) (fun _ _ _ h => h) (Or.inl ⟨by rfl, ?_⟩) ?_ ?_
        rotate_left
        ·intro w'
         go_simp
         with_reducible rfl
        rotate_left
        ·simp only [Act.put, List.setIfInBounds_toArray, List.set_cons_zero, List.set_cons_succ, i64_w, i32_w]
         rfl
        refine pure_ (i := 2) (N := some 71) (v := ?_) (a' := ?_) #[true, true, true, false, false, false, false, false, false, false, false, false, false, false] rfl rfl (any_of HT_.out (by kernel_rfl)) (fun _ _ _ h => h) (Or.inl ⟨by rfl, ?_⟩) ?_ ?_
        rotate_left
        ·intro w'
         go_simp
         with_reducible rfl
        rotate_left
        ·simp only [Act.put, List.setIfInBounds_toArray, List.set_cons_zero, List.set_cons_succ, i64_w, i32_w]
         rfl
        refine pure_ (i := 5) (N := some 74) (v := ?_) (a' := ?_) #[true, true, true, false, false, true, false, false, false, false, false, false, false, false] rfl rfl (any_of HT_.out (by kernel_rfl)) (fun _ _ _ h => h) (Or.inl ⟨by rfl, ?_⟩) ?_ ?_
        rotate_left
        ·intro w'
         go_simp
         with_reducible rfl
        rotate_left
        ·simp only [Act.put, List.setIfInBounds_toArray, List.set_cons_zero, List.set_cons_succ, i64_w, i32_w]
         rfl
        refine pure_ (i := 7) (N := some 76) (v := ?_) (a' := ?_) #[true, true, true, false, false, true, false, true, false, false, false, false, false, false] rfl rfl (any_of HT_.out (by kernel_rfl)) (fun _ _ _ h => h) (Or.inl ⟨by rfl, ?_⟩) ?_ ?_
        rotate_left
        ·intro w'
         go_simp
         with_reducible rfl
        rotate_left
        ·simp only [Act.put, List.setIfInBounds_toArray, List.set_cons_zero, List.set_cons_succ, i64_w, i32_w]
         rfl
        refine take_ (i := 3) (N := some 72) (v := ?_) (a' := ?_) #[true, true, true, true, false, true, false, true, false, false, false, false, false, false] rfl rfl (take_ofW HT_.out HW_.out (by kernel_rfl)) (fun _ _ _ h => h) (Or.inl ⟨by rfl, ?_⟩) hHeld ?_ ?_
        rotate_left
        ·rintro w' ⟨s0, s1, s2, s3, s4, s5⟩
         go_simp
         with_reducible rfl
        rotate_left
        ·simp only [Act.put, List.setIfInBounds_toArray, List.set_cons_zero, List.set_cons_succ, i64_w, i32_w]
         rfl
        refine take_ (i := 8) (N := some 77) (v := ?_) (a' := ?_) #[true, true, true, true, false, true, false, true, true, false, false, false, false, false] rfl rfl (take_ofW HT_.out HW_.out (by kernel_rfl)) (fun _ _ _ h => h) (Or.inl ⟨by rfl, ?_⟩) hHeld ?_ ?_
        rotate_left
        ·rintro w' ⟨s0, s1, s2, s3, s4, s5⟩
         go_simp
         with_reducible rfl
        rotate_left
        ·simp only [Act.put, List.setIfInBounds_toArray, List.set_cons_zero, List.set_cons_succ, i64_w, i32_w]
         rfl
        refine one_ (i := 4) (N := some 73) #[true, true, true, true, true, true, false, true, true, false, false, false, false, false] rfl rfl (one_of HT_.out (by kernel_rfl)) (by decide) (fun K hK => ?_)
        refine goes_ Try.func72 (by kernel_rfl) rfl #[.agg #[.int .u64 ((rd_T58 l0_4 x5_2).f0.f0.f0), .int .u64 ((rd_T58 l0_4 x5_2).f0.f0.f1)]] (by rfl) rfl rfl (by (try simp only [List.map_toArray, List.map_cons, List.map_nil]); first | rfl) ?_
        with_reducible refine (tenancyref04_PutAddr.calls k2 ((rd_T58 l0_4 x5_2).f0.f0.f0) ((rd_T58 l0_4 x5_2).f0.f0.f1) t341 _ A54.out).mono ?_
        rintro e w72 ⟨rfl, hb⟩
        refine ⟨_, rfl, ?_⟩
        replace BK323 := bb_ BK323 hb
        replace BK324 := bb_ BK324 hb
        replace BK332 := bb_ BK332 hb
        replace HB := bs_ HB hb
        (try clear hb)
        (try clear hb2)
        (try clear hk)
        (try clear hi)
        refine hK.out _ _ ⟨(blk_cell BK332.out 0).trans rfl, (blk_cell BK332.out 1).trans rfl, (blk_cell BK332.out 2).trans rfl, (blk_cell BK332.out 3).trans rfl, (blk_cell BK332.out 4).trans rfl, (blk_cell BK332.out 5).trans rfl⟩ (fun hHeld => ?_)
        clear hK K
        refine norm_ (a' := ?_) ?_ ?_
        rotate_left
        ·show Act.put _ (some 73) _ = _
         simp only [Act.put, List.setIfInBounds_toArray, List.set_cons_zero, List.set_cons_succ, i64_w, i32_w]
         rfl
        refine pure_ (i := 6) (N := some 75) (v := ?_) (a' := ?_) #[true, true, true, true, true, true, true, true, true, false, false, false, false, false] rfl rfl (any_of HT_.out (by kernel_rfl)) (fun _ _ _ h => h) (Or.inl ⟨by rfl, ?_⟩) ?_ ?_
        rotate_left
        ·intro w'
         go_simp
         with_reducible rfl
        rotate_left
        ·simp only [Act.put, List.setIfInBounds_toArray, List.set_cons_zero, List.set_cons_succ, i64_w, i32_w]
         rfl
        refine one_ (i := 9) (N := some 78) #[true, true, true, true, true, true, true, true, true, true, false, false, false, false] rfl rfl (one_of HT_.out (by kernel_rfl)) (by decide) (fun K hK => ?_)
        refine goes_ Try.func73 (by kernel_rfl) rfl #[.int .i64 ((rd_T58 l0_4 x5_2).f3)] (by rfl) rfl rfl (by (try simp only [List.map_toArray, List.map_cons, List.map_nil]); first | rfl) ?_
        with_reducible refine (tenancyref15_statusOption.calls k2 ((rd_T58 l0_4 x5_2).f3) t342 _ A56.out).mono ?_
        rintro e w73 ⟨rfl, hb⟩
        refine ⟨_, rfl, ?_⟩
        replace BK323 := bb_ BK323 hb
        replace BK324 := bb_ BK324 hb
        replace BK332 := bb_ BK332 hb
        replace HB := bs_ HB hb
        (try clear hb)
        (try clear hb2)
        (try clear hk)
        (try clear hi)
        refine hK.out _ _ ⟨(blk_cell BK332.out 0).trans rfl, (blk_cell BK332.out 1).trans rfl, (blk_cell BK332.out 2).trans rfl, (blk_cell BK332.out 3).trans rfl, (blk_cell BK332.out 4).trans rfl, (blk_cell BK332.out 5).trans rfl⟩ (fun hHeld => ?_)
        clear hK K
        refine norm_ (a' := ?_) ?_ ?_
        rotate_left
        ·show Act.put _ (some 78) _ = _
         simp only [Act.put, List.setIfInBounds_toArray, List.set_cons_zero, List.set_cons_succ, i64_w, i32_w]
         rfl
        refine pure_ (i := 10) (N := some 79) (v := ?_) (a' := ?_) #[true, true, true, true, true, true, true, true, true, true, true, false, false, false] rfl rfl (any_of HT_.out (by kernel_rfl)) (fun _ _ _ h => h) (Or.inl ⟨by rfl, ?_⟩) ?_ ?_
        rotate_left
        ·intro w'
         go_simp
         with_reducible rfl
        rotate_left
        ·simp only [Act.put, List.setIfInBounds_toArray, List.set_cons_zero, List.set_cons_succ, i64_w, i32_w]
         rfl
        refine one_ (i := 11) (N := some 80) #[true, true, true, true, true, true, true, true, true, true, true, true, false, false] rfl rfl (one_of HT_.out (by kernel_rfl)) (by decide) (fun K hK => ?_)
        refine goes_ Try.func71 (by kernel_rfl) rfl #[.int .u16 5, .string ((t341 ++ (t333 ++ t334)) ++ t342)] (by rfl) rfl rfl (by (try simp only [List.map_toArray, List.map_cons, List.map_nil]); first | rfl) ?_
        with_reducible refine (tenancyref15_option.calls k2 5 ((t341 ++ (t333 ++ t334)) ++ t342) t343 _ A58.out).mono ?_
        rintro e w74 ⟨rfl, hb⟩
        refine ⟨_, rfl, ?_⟩
        replace BK323 := bb_ BK323 hb
        replace BK324 := bb_ BK324 hb
        replace BK332 := bb_ BK332 hb
        replace HB := bs_ HB hb
        (try clear hb)
        (try clear hb2)
        (try clear hk)
        (try clear hi)
        refine hK.out _ _ ⟨(blk_cell BK332.out 0).trans rfl, (blk_cell BK332.out 1).trans rfl, (blk_cell BK332.out 2).trans rfl, (blk_cell BK332.out 3).trans rfl, (blk_cell BK332.out 4).trans rfl, (blk_cell BK332.out 5).trans rfl⟩ (fun hHeld => ?_)
        clear hK K
        refine norm_ (a' := ?_) ?_ ?_
        rotate_left
        ·show Act.put _ (some 80) _ = _
         simp only [Act.put, List.setIfInBounds_toArray, List.set_cons_zero, List.set_cons_succ, i64_w, i32_w]
         rfl
        refine pure_ (i := 12) (N := some 81) (v := ?_) (a' := ?_) #[true, true, true, true, true, true, true, true, true, true, true, true, true, false] rfl rfl (any_of HT_.out (by kernel_rfl)) (fun _ _ _ h => h) (Or.inl ⟨by rfl, ?_⟩) ?_ ?_
        rotate_left
        ·intro w'
         go_simp
         with_reducible rfl
        rotate_left
        ·simp only [Act.put, List.setIfInBounds_toArray, List.set_cons_zero, List.set_cons_succ, i64_w, i32_w]
         rfl
        refine pure_ (i := 13) (N := some 4) (v := ?_) (a' := ?_) #[true, true, true, true, true, true, true, true, true, true, true, true, true, true] rfl rfl (any_of HT_.out (by kernel_rfl)) (fun _ _ _ h => h) (Or.inl ⟨by rfl, ?_⟩) ?_ ?_
        rotate_left
        ·intro w'
         go_simp
         with_reducible rfl
        rotate_left
        ·simp only [Act.put, List.setIfInBounds_toArray, List.set_cons_zero, List.set_cons_succ, i64_w, i32_w]
         rfl
        refine done_ (done_of HT_.out (by kernel_rfl)) ?_
        try go_wp2
        go_roundg k2
        case measure => have := HJ4.out; have := HK2.out; omega
        case rel => exact ⟨(x4_2 ++ t343), (wrap64 (x5_2 + 1)), (by rfl), (by rfl), H', ⟨by have := HJ4.out; have := HK2.out; omega⟩, ⟨by exact BK323.out⟩, ⟨by exact BK324.out⟩, ⟨by exact HB.out⟩⟩
       rw [if_neg c59] at H
       exact absurd H (by simp)
      rw [if_neg c57] at H
      exact absurd H (by simp)
     rw [if_neg c55] at H
     exact absurd H (by simp)
    rw [if_neg c26] at H
    exact absurd H (by simp)
   rw [if_neg c23] at H
   exact absurd H (by simp)
  rw [if_neg c22] at H
  have c22b0 : decide (x5_2 < (l0_4.length : Int)) = false := decide_eq_false c22
  clear c22
  replace H := Option.bind_eq_some_iff.mp H
  obtain ⟨t329, A750, H⟩ := H
  replace H : (if x4_2.size + t329.size ≤ 9223372036854775807 then ((tenancyref15_Code.f a0_0).bind fun t330 => (some (t330, x4_2 ++ t329, 0))) else (none)) = some (r1, r2, r3) := H
  have A75 := ak_ A750
  clear A750
  by_cases c76 : x4_2.size + t329.size ≤ 9223372036854775807
  ·rw [if_pos c76] at H
   have c76b0 := eq_true c76
   have c76b1 : decide (x4_2.size + t329.size ≤ 9223372036854775807) = true := decide_eq_true c76
   try have c76b2 : (9223372036854775807 < x4_2.size + t329.size) = False := eq_false (Nat.not_lt.2 c76)
   replace H := Option.bind_eq_some_iff.mp H
   obtain ⟨t330, A770, H⟩ := H
   replace H : (some (t330, x4_2 ++ t329, 0)) = some (r1, r2, r3) := H
   have A77 := ak_ A770
   clear A770
   simp only [Option.some.injEq, Prod.mk.injEq] at H
   obtain ⟨rfl, rfl, rfl⟩ := H
   have hnb78 := NB323_324.out
   have hnc78 := NB324_323.out
   have hz79 := bz6_ BK323
   go_wp2_with (first | ((with_reducible refine gate_callee (f := 73) rfl ?_); refine goesL_ (some 85) rfl rfl Try.func73 (by kernel_rfl) rfl #[.int .i64 a0_5] rfl (by (try simp only [List.map_toArray, List.map_cons, List.map_nil]); first | rfl) ?_; (with_reducible refine (tenancyref15_statusOption.calls k2 a0_5 t329 _ A75.out).mono ?_); rintro e w80 ⟨rfl, hb⟩; refine ⟨_, rfl, ?_⟩; replace BK323 := bb_ BK323 hb; replace BK324 := bb_ BK324 hb; replace HB := bs_ HB hb; (try clear hb); have hz81 := bz6_ BK323) | ((with_reducible refine gate_callee (f := 74) rfl ?_); refine goesL_ (some 89) rfl rfl Try.func74 (by kernel_rfl) rfl #[.int .i64 a0_0] rfl (by (try simp only [List.map_toArray, List.map_cons, List.map_nil]); first | rfl) ?_; (with_reducible refine (tenancyref15_Code.calls a0_0 t330 _ A77.out).mono ?_); rintro e w' ⟨rfl, ⟨nd, rfl⟩⟩; refine ⟨_, rfl, ?_⟩; (try (rw [drewN_self w80]; generalize hq_ : World.drewN w80 _ = w80; have n0_ : Aside0 (w80.heap[gb323]? = some (.cells #[.int .i64 a0_0, .int .u32 a0_1, .int .u32 a0_2, .int .u32 a0_3, .slice A0_4 l0_4.length c0_4, .int .i64 a0_5] 51 (0, 0))) := ⟨by rw [← hq_]; exact (by (with_reducible repeat (first | refine blk_drewN ?_ _)); exact BK323.out)⟩; have n1_ : Aside0 (w80.heap[gb324]? = some (.cells #[.int .u16 0, .string (⟨#[]⟩ : ByteArray)] 42 (0, 0))) := ⟨by rw [← hq_]; exact (by (with_reducible repeat (first | refine blk_drewN ?_ _)); exact BK324.out)⟩; have n2_ : Aside0 (Below w.heap.size w w80) := ⟨by rw [← hq_]; exact (by repeat (first | (with_reducible first | exact HB.out | apply pw_below_drewN)))⟩; clear BK323 BK324 HB hq_; have BK323 := n0_; have BK324 := n1_; have HB := n2_; clear n0_ n1_ n2_)); have hz82 := bz2_ BK324))
   refine bodyPost_ret (results_ct rfl _ _ gb324 42 #[.int .u16 t330, .string (x4_2 ++ t329)] (0, 0) _ rfl (by refine blk_put (cs := #[.int .u16 t330, .string (⟨#[]⟩ : ByteArray)]) ?_ 1 _ rfl; refine blk_put (cs := #[.int .u16 0, .string (⟨#[]⟩ : ByteArray)]) ?_ 0 _ rfl; exact BK324.out) Try.underlying42 rfl (by kernel_rfl)) rfl ?_
   exact ⟨by rfl, by repeat (first | (with_reducible first | exact HB.out | refine below_set ?_ GE324.out))⟩
  rw [if_neg c76] at H
  exact absurd H (by simp)
 replace c3 := Bool.eq_false_iff.mpr c3
 subst c3
 have H1 : (some (0, (⟨#[]⟩ : ByteArray), 130)) = some (r1, r2, r3) := by rw [if_neg (show ¬ (false = true) by decide)] at H; exact H
 clear H
 have H := H1
 clear H1
 simp only [Option.some.injEq, Prod.mk.injEq] at H
 obtain ⟨rfl, rfl, rfl⟩ := H
 go_enter Try.func46, Try.ntmps46
 go_wp2_with (first | ((with_reducible refine gate_dst (N := 1) rfl ?_); refine box_event ?hg (N := 1) ?hd (cs := #[.int .i64 a0_0, .int .u32 a0_1, .int .u32 a0_2, .int .u32 a0_3, .slice A0_4 l0_4.length c0_4, .int .i64 a0_5]) (t := 51) ?hr ?_; (case hd => rfl); (case hg => rfl); (case hr => go_simp; done); intro gb323 hg w83 hbox hb; have BK323 := ak_ hbox; have GW323 := gz_ HB hg; have GE323 := gz_ HB hg; replace HB := bs_ HB hb; clear hb hbox hg) | ((with_reducible refine gate_dst (N := 2) rfl ?_); refine box_event ?hg (N := 2) ?hd (cs := #[.int .u16 0, .string (⟨#[]⟩ : ByteArray)]) (t := 42) ?hr ?_; (case hd => rfl); (case hg => rfl); (case hr => go_simp; done); intro gb324 hg w84 hbox hb; have BK324 := ak_ hbox; have GW324 := gz_ HB hg; have GE324 := gz_ HB hg; replace HB := bs_ HB hb; have NB323_324 := gl_ BK323 hg; have NB324_323 := gr_ BK323 hg; replace BK323 := bb_ BK323 hb; clear hb hbox hg; have hnb85 := NB323_324.out; have hnc85 := NB324_323.out; have hz86 := bz6_ BK323) | ((with_reducible refine gate_callee (f := 69) rfl ?_); refine goesL_ (some 9) rfl rfl Try.func69 (by kernel_rfl) rfl #[.agg #[.int .i64 a0_0, .int .u32 a0_1, .int .u32 a0_2, .int .u32 a0_3, .slice A0_4 l0_4.length c0_4, .int .i64 a0_5]] rfl (by (try simp only [List.map_toArray, List.map_cons, List.map_nil]); first | rfl) ?_; (with_reducible refine (tenancyref15_Sound.calls k a0_0 a0_1 a0_2 a0_3 _ _ l0_4 a0_5 false _ ?side1 ?side2 A2.out).mono ?_); (case side1 => repeat (first | exact (Kd.C_below HR0_4.out HB.out))); (case side2 => exact HC0_4.out); rintro e w87 ⟨rfl, hb⟩; refine ⟨_, rfl, ?_⟩; replace BK323 := bb_ BK323 hb; replace BK324 := bb_ BK324 hb; replace HB := bs_ HB hb; (try clear hb); have hz88 := bz2_ BK324))
 refine bodyPost_ret (results_ct rfl _ _ gb324 42 #[.int .u16 0, .string (⟨#[]⟩ : ByteArray)] (0, 0) _ rfl (by refine blk_put (cs := #[.int .u16 0, .string (⟨#[]⟩ : ByteArray)]) ?_ 1 _ rfl; refine blk_put (cs := #[.int .u16 0, .string (⟨#[]⟩ : ByteArray)]) ?_ 0 _ rfl; exact BK324.out) Try.underlying42 rfl (by kernel_rfl)) rfl ?_
 exact ⟨by rfl, by repeat (first | (with_reducible first | exact HB.out | refine below_set ?_ GE324.out))⟩

end Go.Proofs.Ythadapbekmmgpaa.X
