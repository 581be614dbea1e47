/- Functions of the program as Lean functions, and that the calls come to them: no condition.  By this session's own program (wip/xprint). -/
import Derived.Test.YthadapbekmmgpaaDX0
import Derived.Test.YthadapbekmmgpaaDX2
namespace Go.Proofs.Ythadapbekmmgpaa.X
open Go.RowKit Go.Proofs.YthadapbekmmgpaaW.PrintWords Go.Proofs.YthadapbekmmgpaaW.PrintLast Go.Proofs.YthadapbekmmgpaaW.PrintMore
attribute [local go_sem] max2_int min2_int max_two min_two max_three min_three max_four min_four
set_option linter.unusedVariables false
set_option linter.unusedSimpArgs false

mutual
def wire6_Sound.j2 : Nat → Int → Int → ByteArray → ByteArray → List (S51) → Int → Bool → Bool → Int → List (S42) → Option (Bool)
  | 0, _, _, _, _, _, _, _, _, _, _ => none
  | k + 1, x146000, x146001, x146002, x146003, x146004, x146005, x146006, x146007, x146008, x146009 => wire6_Sound.l0 k x146009 (x146009.length : Int) 0 x146000 x146001 x146002 x146003 x146004 x146005 x146006 x146007 x146008 x146009
def wire6_Sound.l0 : Nat → List (S42) → Int → Int → Int → Int → ByteArray → ByteArray → List (S51) → Int → Bool → Bool → Int → List (S42) → Option (Bool)
  | 0, _, _, _, _, _, _, _, _, _, _, _, _, _ => none
  | k + 1, x57, x58, x59, x146000, x146001, x146002, x146003, x146004, x146005, x146006, x146007, x146008, x146009 => if x59 < x58 then (if 0 ≤ x59 then (if x59 < (x57.length : Int) then ((wire6_isOwn.f k ((rd_T42 x57 x59).f0)).bind fun t149 => (if t149 = true then (some false) else (if (((rd_T42 x57 x59).f1).size : Int) > 65535 then (some false) else (wire6_Sound.l0 k x57 x58 (wrap64 (x59 + 1)) x146000 x146001 x146002 x146003 x146004 x146005 x146006 x146007 x146008 x146009)))) else (none)) else (none)) else ((wire6_options.f x146000 x146001 x146002 x146003 x146004 x146005 x146006 x146007 x146008 x146009).bind fun bt150 => (if bt150.2 = 0 then (some (decide ((bt150.1.length : Int) ≤ 128))) else (some false)))
def wire6_Sound.j0 : Nat → Bool → Int → Int → ByteArray → ByteArray → List (S51) → Int → Bool → Bool → Int → List (S42) → Option (Bool)
  | 0, _, _, _, _, _, _, _, _, _, _, _ => none
  | k + 1, x7, x146000, x146001, x146002, x146003, x146004, x146005, x146006, x146007, x146008, x146009 => if x7 = true then (some false) else (if (mx (x146002.size : Int) (x146003.size : Int)) > 130 then (wire6_Sound.j1 k true x146000 x146001 x146002 x146003 x146004 x146005 x146006 x146007 x146008 x146009) else (wire6_Sound.j1 k (decide ((x146004.length : Int) > 8)) x146000 x146001 x146002 x146003 x146004 x146005 x146006 x146007 x146008 x146009))
def wire6_Sound.j1 : Nat → Bool → Int → Int → ByteArray → ByteArray → List (S51) → Int → Bool → Bool → Int → List (S42) → Option (Bool)
  | 0, _, _, _, _, _, _, _, _, _, _, _ => none
  | k + 1, x21, x146000, x146001, x146002, x146003, x146004, x146005, x146006, x146007, x146008, x146009 => if x21 = true then (some false) else (if x146005 < (-1) then (some false) else (if x146005 > 65535 then (some false) else (if x146008 = 0 then (wire6_Sound.j2 k x146000 x146001 x146002 x146003 x146004 x146005 x146006 x146007 x146008 x146009) else ((wire6_isAgain.f x146008).bind fun t146 => (if t146 = true then (wire6_Sound.j2 k x146000 x146001 x146002 x146003 x146004 x146005 x146006 x146007 x146008 x146009) else (some false))))))
end
def wire6_Sound.f (k : Nat) (a0_0 : Int) (a0_1 : Int) (a0_2 : ByteArray) (a0_3 : ByteArray) (l0_4 : List (S51)) (a0_5 : Int) (a0_6 : Bool) (a0_7 : Bool) (a0_8 : Int) (l0_9 : List (S42)) : Option (Bool) := if a0_0 < 1 then (wire6_Sound.j0 k true a0_0 a0_1 a0_2 a0_3 l0_4 a0_5 a0_6 a0_7 a0_8 l0_9) else (if a0_0 > 11 then (wire6_Sound.j0 k true a0_0 a0_1 a0_2 a0_3 l0_4 a0_5 a0_6 a0_7 a0_8 l0_9) else (wire6_Sound.j0 k (decide (a0_1 ≥ 16777216)) a0_0 a0_1 a0_2 a0_3 l0_4 a0_5 a0_6 a0_7 a0_8 l0_9))
set_option maxHeartbeats 8000000 in
set_option maxRecDepth 100000 in
theorem wire6_Sound.calls (k : Nat) (a0_0 : Int) (a0_1 : Int) (a0_2 : ByteArray) (a0_3 : ByteArray) (A0_4 : Option Addr) (c0_4 : Nat) (l0_4 : List (S51)) (a0_5 : Int) (a0_6 : Bool) (a0_7 : Bool) (a0_8 : Int) (A0_9 : Option Addr) (c0_9 : Nat) (l0_9 : List (S42)) (r : Bool) (w : World) (hr0_4 : Kd.C k51 w A0_4 l0_4.length l0_4) (hc0_4 : l0_4.length ≤ c0_4) (hr0_9 : Kd.C k42 w A0_9 l0_9.length l0_9) (hc0_9 : l0_9.length ≤ c0_9) (h : wire6_Sound.f k a0_0 a0_1 a0_2 a0_3 l0_4 a0_5 a0_6 a0_7 a0_8 l0_9 = some r) :
 Calls Try.prog 15 #[.agg #[.int .i64 a0_0, .int .u32 a0_1, .string a0_2, .string a0_3, .slice A0_4 l0_4.length c0_4, .int .i64 a0_5, .bool a0_6, .bool a0_7, .int .i64 a0_8, .slice A0_9 l0_9.length c0_9]] w fun e w' => e = .returned (.bool r) ∧ Below w.heap.size w w' := by
 have hu26 := Try.underlying26
 have hu42 := Try.underlying42
 have HR0_4 := ak_ hr0_4
 have HC0_4 := ak_ hc0_4
 clear hr0_4 hc0_4
 have HR0_9 := ak_ hr0_9
 have HC0_9 := ak_ hc0_9
 clear hr0_9 hc0_9
 have HB := ak_ (Below.refl w.heap.size w)
 have H : (if a0_0 < 1 then (wire6_Sound.j0 k true a0_0 a0_1 a0_2 a0_3 l0_4 a0_5 a0_6 a0_7 a0_8 l0_9) else (if a0_0 > 11 then (wire6_Sound.j0 k true a0_0 a0_1 a0_2 a0_3 l0_4 a0_5 a0_6 a0_7 a0_8 l0_9) else (wire6_Sound.j0 k (decide (a0_1 ≥ 16777216)) a0_0 a0_1 a0_2 a0_3 l0_4 a0_5 a0_6 a0_7 a0_8 l0_9))) = some r := h
 clear h
 have HC2 := ak_ H
 clear H
 go_enter Try.func15, Try.ntmps15
 go_upto_block 0 with (first | ((with_reducible refine gate_dst (N := 1) rfl ?_); (try (refine gate_guard (by rfl) ?_; dsimp only)); refine box_event ?hg (N := 1) ?hd (cs := #[.int .i64 a0_0, .int .u32 a0_1, .string a0_2, .string a0_3, .slice A0_4 l0_4.length c0_4, .int .i64 a0_5, .bool a0_6, .bool a0_7, .int .i64 a0_8, .slice A0_9 l0_9.length c0_9]) (t := 26) ?hr ?_; (case hd => rfl); (case hg => rfl); (case hr => go_simp; done); intro gb145 hg w3 hbox hb; have BK145 := ak_ hbox; have GW145 := gz_ HB hg; have GE145 := gz_ HB hg; replace HB := bs_ HB hb; clear hb hbox hg))
 (try simp only [Act.put, List.setIfInBounds_toArray, List.set_cons_zero, List.set_cons_succ])
 go_cut [] (fun wc => ∃ (kq : Nat), Aside0 (wire6_Sound.j2 kq a0_0 a0_1 a0_2 a0_3 l0_4 a0_5 a0_6 a0_7 a0_8 l0_9 = some r) ∧ Aside0 (kq ≤ k) ∧ Aside0 (wc.heap[gb145]? = some (.cells #[.int .i64 a0_0, .int .u32 a0_1, .string a0_2, .string a0_3, (.slice A0_4 l0_4.length c0_4), .int .i64 a0_5, .bool a0_6, .bool a0_7, .int .i64 a0_8, (.slice A0_9 l0_9.length c0_9)] 26 (0, 0))) ∧ Aside0 (Below w.heap.size w wc))
 case first =>
  have H := HC2.out
  clear HC2
  have HC4 := ak_ H
  clear H
  go_upto_region 1 with (fail)
  go_cut [7] (fun v7 wc => ∃ (kq : Nat) (x7_3 : Bool), v7 = .bool x7_3 ∧ Aside0 (wire6_Sound.j0 kq x7_3 a0_0 a0_1 a0_2 a0_3 l0_4 a0_5 a0_6 a0_7 a0_8 l0_9 = some r) ∧ Aside0 (kq ≤ k) ∧ Aside0 (wc.heap[gb145]? = some (.cells #[.int .i64 a0_0, .int .u32 a0_1, .string a0_2, .string a0_3, (.slice A0_4 l0_4.length c0_4), .int .i64 a0_5, .bool a0_6, .bool a0_7, .int .i64 a0_8, (.slice A0_9 l0_9.length c0_9)] 26 (0, 0))) ∧ Aside0 (Below w.heap.size w wc))
  case first =>
   have H := HC4.out
   clear HC4
   by_cases c5 : a0_0 < 1
   ·rw [if_pos c5] at H
    have c5b0 : decide (a0_0 < 1) = true := decide_eq_true c5
    clear c5
    (first | skip)
    have H' := ak_ H
    clear H
    have hz6 := bz10_ BK145
    go_wp2
    go_meet
    case rel => exact ⟨_, (true), (by rfl), H', ⟨by omega⟩, ⟨by exact BK145.out⟩, ⟨by exact HB.out⟩⟩
   rw [if_neg c5] at H
   have c5b0 : decide (a0_0 < 1) = false := decide_eq_false c5
   clear c5
   (first | skip)
   by_cases c7 : a0_0 > 11
   ·rw [if_pos c7] at H
    have c7b0 : decide (11 < a0_0) = true := decide_eq_true c7
    clear c7
    have H' := ak_ H
    clear H
    have hz8 := bz10_ BK145
    go_wp2
    go_meet
    case rel => exact ⟨_, (true), (by rfl), H', ⟨by omega⟩, ⟨by exact BK145.out⟩, ⟨by exact HB.out⟩⟩
   rw [if_neg c7] at H
   have c7b0 : decide (11 < a0_0) = false := decide_eq_false c7
   clear c7
   have H' := ak_ H
   clear H
   have hz9 := bz10_ BK145
   go_wp2
   go_meet
   case rel => exact ⟨_, (decide (a0_1 ≥ 16777216)), (by rfl), H', ⟨by omega⟩, ⟨by exact BK145.out⟩, ⟨by exact HB.out⟩⟩
  case rest =>
  clear HC4
  try clear c1
  try clear p2
  try clear c5
  try clear c5b0
  try clear c7
  try clear c7b0
  try clear hz6
  try clear hz8
  try clear hz9
  obtain ⟨kq, x7_3, rfl, HA, HJ3, BK145, HB⟩ := hcut
  cases kq with
  | zero => exact absurd HA.out (by simp [wire6_Sound.j0])
  | succ kj3 =>
  have H := HA.out
  clear HA
  simp only [wire6_Sound.j0] at H
  by_cases c10 : x7_3 = true
  ·subst c10
   have H1 : (some false) = some r := by rw [if_pos rfl] at H; exact H
   clear H
   have H := H1
   clear H1
   obtain rfl := Option.some.inj H
   go_wp2
   go_ret
   exact ⟨by rfl, by exact HB.out⟩
  replace c10 := Bool.eq_false_iff.mpr c10
  subst c10
  have H1 : (if (mx (a0_2.size : Int) (a0_3.size : Int)) > 130 then (wire6_Sound.j1 kj3 true a0_0 a0_1 a0_2 a0_3 l0_4 a0_5 a0_6 a0_7 a0_8 l0_9) else (wire6_Sound.j1 kj3 (decide ((l0_4.length : Int) > 8)) a0_0 a0_1 a0_2 a0_3 l0_4 a0_5 a0_6 a0_7 a0_8 l0_9)) = some r := by rw [if_neg (show ¬ (false = true) by decide)] at H; exact H
  clear H
  have H := H1
  clear H1
  have HC11 := ak_ H
  clear H
  go_upto_region 3 with (fail)
  go_cut [21] (fun v21 wc => ∃ (kq : Nat) (x21_10 : Bool), v21 = .bool x21_10 ∧ Aside0 (wire6_Sound.j1 kq x21_10 a0_0 a0_1 a0_2 a0_3 l0_4 a0_5 a0_6 a0_7 a0_8 l0_9 = some r) ∧ Aside0 (kq ≤ kj3) ∧ Aside0 (wc.heap[gb145]? = some (.cells #[.int .i64 a0_0, .int .u32 a0_1, .string a0_2, .string a0_3, (.slice A0_4 l0_4.length c0_4), .int .i64 a0_5, .bool a0_6, .bool a0_7, .int .i64 a0_8, (.slice A0_9 l0_9.length c0_9)] 26 (0, 0))) ∧ Aside0 (Below w.heap.size w wc))
  case first =>
   have H := HC11.out
   clear HC11
   obtain ⟨ji12, hji12⟩ : ∃ j_ : Int, (mx (a0_2.size : Int) (a0_3.size : Int)) = j_ := ⟨_, rfl⟩
   replace H : (if (ji12) > 130 then (wire6_Sound.j1 kj3 true a0_0 a0_1 a0_2 a0_3 l0_4 a0_5 a0_6 a0_7 a0_8 l0_9) else (wire6_Sound.j1 kj3 (decide ((l0_4.length : Int) > 8)) a0_0 a0_1 a0_2 a0_3 l0_4 a0_5 a0_6 a0_7 a0_8 l0_9)) = some r := by first | (rw [hji12] at H; exact H)
   have hji12_ : (if (a0_2.size : Int) < (a0_3.size : Int) then (a0_3.size : Int) else (a0_2.size : Int)) = ji12 := hji12
   have hji12n : (if a0_2.size < a0_3.size then (a0_3.size : Int) else (a0_2.size : Int)) = ji12 := by rw [← hji12_]; simp only [Int.ofNat_lt]
   by_cases c13 : (ji12) > 130
   ·rw [if_pos c13] at H
    have c13b0 : decide (130 < (ji12)) = true := decide_eq_true c13
    clear c13
    (first | skip)
    have H' := ak_ H
    clear H
    have hz14 := bz10_ BK145
    go_wp2
    go_meet
    case rel => exact ⟨_, (true), (by rfl), H', ⟨by have := HJ3.out; first | omega⟩, ⟨by exact BK145.out⟩, ⟨by exact HB.out⟩⟩
   rw [if_neg c13] at H
   have c13b0 : decide (130 < (ji12)) = false := decide_eq_false c13
   clear c13
   (first | skip)
   have H' := ak_ H
   clear H
   have hz15 := bz10_ BK145
   go_wp2
   go_meet
   case rel => exact ⟨_, (decide ((l0_4.length : Int) > 8)), (by rfl), H', ⟨by have := HJ3.out; first | omega⟩, ⟨by exact BK145.out⟩, ⟨by exact HB.out⟩⟩
  case rest =>
  clear HC11
  try clear c1
  try clear p2
  try clear c5
  try clear c5b0
  try clear c7
  try clear c7b0
  try clear c10
  try clear c13
  try clear c13b0
  try clear c15
  try clear hz14
  try clear hz15
  try clear hz6
  try clear hz8
  try clear hz9
  try clear p2
  obtain ⟨kq, x21_10, rfl, HA, HJ10, BK145, HB⟩ := hcut
  cases kq with
  | zero => exact absurd HA.out (by simp [wire6_Sound.j1])
  | succ kj10 =>
  have H := HA.out
  clear HA
  simp only [wire6_Sound.j1] at H
  by_cases c16 : x21_10 = true
  ·subst c16
   have H1 : (some false) = some r := by rw [if_pos rfl] at H; exact H
   clear H
   have H := H1
   clear H1
   obtain rfl := Option.some.inj H
   go_wp2
   go_ret
   exact ⟨by rfl, by exact HB.out⟩
  replace c16 := Bool.eq_false_iff.mpr c16
  subst c16
  have H1 : (if a0_5 < (-1) then (some false) else (if a0_5 > 65535 then (some false) else (if a0_8 = 0 then (wire6_Sound.j2 kj10 a0_0 a0_1 a0_2 a0_3 l0_4 a0_5 a0_6 a0_7 a0_8 l0_9) else ((wire6_isAgain.f a0_8).bind fun t146 => (if t146 = true then (wire6_Sound.j2 kj10 a0_0 a0_1 a0_2 a0_3 l0_4 a0_5 a0_6 a0_7 a0_8 l0_9) else (some false)))))) = some r := by rw [if_neg (show ¬ (false = true) by decide)] at H; exact H
  clear H
  have H := H1
  clear H1
  by_cases c17 : a0_5 < (-1)
  ·rw [if_pos c17] at H
   have c17b0 : decide (a0_5 < (-1)) = true := decide_eq_true c17
   clear c17
   obtain rfl := Option.some.inj H
   have hz18 := bz10_ BK145
   go_wp2
   go_ret
   exact ⟨by rfl, by exact HB.out⟩
  rw [if_neg c17] at H
  have c17b0 : decide (a0_5 < (-1)) = false := decide_eq_false c17
  clear c17
  by_cases c19 : a0_5 > 65535
  ·rw [if_pos c19] at H
   have c19b0 : decide (65535 < a0_5) = true := decide_eq_true c19
   clear c19
   obtain rfl := Option.some.inj H
   have hz20 := bz10_ BK145
   go_wp2
   go_ret
   exact ⟨by rfl, by exact HB.out⟩
  rw [if_neg c19] at H
  have c19b0 : decide (65535 < a0_5) = false := decide_eq_false c19
  clear c19
  by_cases c21 : a0_8 = 0
  ·rw [if_pos c21] at H
   have c21b0 : (a0_8 == 0) = true := beq_iff_eq.mpr c21
   have c21b1 : (a0_8 != 0) = false := bne_eq_false_iff_eq.mpr c21
   clear c21
   have H' := ak_ H
   clear H
   have hz22 := bz10_ BK145
   go_wp2
   go_meet
   case rel => exact ⟨_, H', ⟨by have := HJ3.out; have := HJ10.out; first | omega⟩, ⟨by exact BK145.out⟩, ⟨by exact HB.out⟩⟩
  rw [if_neg c21] at H
  have c21b0 : (a0_8 == 0) = false := beq_eq_false_iff_ne.mpr c21
  have c21b1 : (a0_8 != 0) = true := bne_iff_ne.mpr c21
  replace H := Option.bind_eq_some_iff.mp H
  obtain ⟨t146, A230, H⟩ := H
  replace H : (if t146 = true then (wire6_Sound.j2 kj10 a0_0 a0_1 a0_2 a0_3 l0_4 a0_5 a0_6 a0_7 a0_8 l0_9) else (some false)) = some r := H
  have A23 := ak_ A230
  clear A230
  by_cases c24 : t146 = true
  ·subst c24
   have H1 : (wire6_Sound.j2 kj10 a0_0 a0_1 a0_2 a0_3 l0_4 a0_5 a0_6 a0_7 a0_8 l0_9) = some r := by rw [if_pos rfl] at H; exact H
   clear H
   have H := H1
   clear H1
   have H' := ak_ H
   clear H
   have hz25 := bz10_ BK145
   go_wp2_with (first | (go_at_call 26; (with_reducible refine (wire6_isAgain.calls a0_8 true _ A23.out).mono ?_); rintro e w' ⟨rfl, ⟨nd, rfl⟩⟩))
   go_meet
   case rel => exact ⟨_, H', ⟨by have := HJ3.out; have := HJ10.out; first | omega⟩, ⟨by (with_reducible repeat (first | refine blk_drewN ?_ _)); exact BK145.out⟩, ⟨by repeat (first | (with_reducible first | exact HB.out | apply pw_below_drewN))⟩⟩
  replace c24 := Bool.eq_false_iff.mpr c24
  subst c24
  have H1 : (some false) = some r := by rw [if_neg (show ¬ (false = true) by decide)] at H; exact H
  clear H
  have H := H1
  clear H1
  obtain rfl := Option.some.inj H
  have hz26 := bz10_ BK145
  go_wp2_with (first | (go_at_call 26; (with_reducible refine (wire6_isAgain.calls a0_8 false _ A23.out).mono ?_); rintro e w' ⟨rfl, ⟨nd, rfl⟩⟩))
  go_ret
  exact ⟨by rfl, by repeat (first | (with_reducible first | exact HB.out | apply pw_below_drewN))⟩
 case rest =>
 clear HC2
 try clear c1
 try clear c2
 try clear p2
 try clear c5
 try clear c5b0
 try clear c7
 try clear c7b0
 try clear c10
 try clear c13
 try clear c13b0
 try clear c15
 try clear c16
 try clear c17
 try clear c17b0
 try clear c19
 try clear c19b0
 try clear c21
 try clear c21b0
 try clear c21b1
 try clear c24
 try clear hz14
 try clear hz15
 try clear hz18
 try clear hz20
 try clear hz22
 try clear hz25
 try clear hz26
 try clear hz6
 try clear hz8
 try clear hz9
 try clear p2
 obtain ⟨kq, HA, HJ1, BK145, HB⟩ := hcut
 cases kq with
 | zero => exact absurd HA.out (by simp [wire6_Sound.j2])
 | succ kj1 =>
 have H := HA.out
 clear HA
 simp only [wire6_Sound.j2] at H
 have H' := ak_ H
 clear H
 have hz27 := bz10_ BK145
 go_wp2
 go_loopg [59] kj1 (fun kq v59 w' => ∃ (x59_2 : Int), v59 = .int .i64 x59_2 ∧ Aside0 (wire6_Sound.l0 kq l0_9 (l0_9.length : Int) x59_2 a0_0 a0_1 a0_2 a0_3 l0_4 a0_5 a0_6 a0_7 a0_8 l0_9 = some r) ∧ Aside0 (kq ≤ kj1) ∧ Aside0 (w'.heap[gb145]? = some (.cells #[.int .i64 a0_0, .int .u32 a0_1, .string a0_2, .string a0_3, (.slice A0_4 l0_4.length c0_4), .int .i64 a0_5, .bool a0_6, .bool a0_7, .int .i64 a0_8, (.slice A0_9 l0_9.length c0_9)] 26 (0, 0))) ∧ Aside0 (Below w.heap.size w w'))
 case atStart => exact ⟨(0), (by rfl), H', ⟨Nat.le_refl _⟩, ⟨by exact BK145.out⟩, ⟨by exact HB.out⟩⟩
 case round =>
 clear H'
 try clear c1
 try clear c2
 try clear p2
 try clear c5
 try clear c5b0
 try clear c7
 try clear c7b0
 try clear c10
 try clear c13
 try clear c13b0
 try clear c15
 try clear c16
 try clear c17
 try clear c17b0
 try clear c19
 try clear c19b0
 try clear c21
 try clear c21b0
 try clear c21b1
 try clear c24
 try clear hz14
 try clear hz15
 try clear hz18
 try clear hz20
 try clear hz22
 try clear hz25
 try clear hz26
 try clear hz27
 try clear hz6
 try clear hz8
 try clear hz9
 try clear p2
 obtain ⟨x59_2, rfl, HA, HK2, BK145, HB⟩ := hrel
 cases gk with
 | zero => exact absurd HA.out (by simp [wire6_Sound.l0])
 | succ k2 =>
 have H := HA.out
 clear HA
 simp only [wire6_Sound.l0] at H
 by_cases c28 : x59_2 < (l0_9.length : Int)
 ·rw [if_pos c28] at H
  have c28b0 : decide (x59_2 < (l0_9.length : Int)) = true := decide_eq_true c28
  clear c28
  by_cases c29 : 0 ≤ x59_2
  ·rw [if_pos c29] at H
   have c29b0 : decide (0 ≤ x59_2) = true := decide_eq_true c29
   clear c29
   by_cases c30 : x59_2 < (l0_9.length : Int)
   ·rw [if_pos c30] at H
    have c30b0 : decide (x59_2 < (l0_9.length : Int)) = true := decide_eq_true c30
    clear c30
    replace H := Option.bind_eq_some_iff.mp H
    obtain ⟨t149, A310, H⟩ := H
    replace H : (if t149 = true then (some false) else (if (((rd_T42 l0_9 x59_2).f1).size : Int) > 65535 then (some false) else (wire6_Sound.l0 k2 l0_9 (l0_9.length : Int) (wrap64 (x59_2 + 1)) a0_0 a0_1 a0_2 a0_3 l0_4 a0_5 a0_6 a0_7 a0_8 l0_9))) = some r := H
    have A31 := ak_ A310
    clear A310
    by_cases c32 : t149 = true
    ·subst c32
     have H1 : (some false) = some r := by rw [if_pos rfl] at H; exact H
     clear H
     have H := H1
     clear H1
     obtain rfl := Option.some.inj H
     have p147 : 0 ≤ (x59_2 : Int) := of_decide_eq_true (by first | (with_reducible assumption))
     have q147 : x59_2 < (l0_9.length : Int) := of_decide_eq_true (by first | (with_reducible assumption))
     obtain ⟨ad147, e147, hx147_0, hx147_1⟩ := at_T42 HR0_9.out x59_2 p147 q147
     cases e147
     replace hx147_0 := (HB.out.cell (World.block_lt_of_cell? w _ hx147_0)).trans hx147_0
     replace hx147_1 := (HB.out.cell (World.block_lt_of_cell? w _ hx147_1)).trans hx147_1
     replace p147 := eq_true p147
     replace q147 := eq_true q147
     go_wp2_with (first | ((with_reducible refine gate_dst (N := 4) rfl ?_); (try (refine gate_guard (by rfl) ?_; dsimp only)); refine box_event ?hg (N := 4) ?hd (cs := #[.int .u16 0, .string (⟨#[]⟩ : ByteArray)]) (t := 42) ?hr ?_; (case hd => rfl); (case hg => rfl); (case hr => go_simp; done); intro gb148 hg w33 hbox hb; have BK148 := ak_ hbox; have GW148 := gz_ HB hg; have GE148 := gz_ HB hg; replace HB := bs_ HB hb; have NB145_148 := gl_ BK145 hg; have NB148_145 := gr_ BK145 hg; replace BK145 := bb_ BK145 hb; clear hb hbox hg; have hnb34 := NB148_145.out; have hnc34 := NB145_148.out; have hz35 := bz2_ BK148) | ((with_reducible refine gate_callee (f := 27) rfl ?_); refine goesL_ (some 65) rfl rfl Try.func27 (by kernel_rfl) rfl #[.int .u16 ((rd_T42 l0_9 x59_2).f0)] rfl (by (try simp only [List.map_toArray, List.map_cons, List.map_nil]); first | rfl) ?_; (with_reducible refine (wire6_isOwn.calls k2 ((rd_T42 l0_9 x59_2).f0) true _ A31.out).mono ?_); rintro e w36 ⟨rfl, hb⟩; refine ⟨_, rfl, ?_⟩; replace BK145 := ak_ (blk_below (g := gb145) (o := .cells #[.int .i64 a0_0, .int .u32 a0_1, .string a0_2, .string a0_3, .slice A0_4 l0_4.length c0_4, .int .i64 a0_5, .bool a0_6, .bool a0_7, .int .i64 a0_8, .slice (some ad147) l0_9.length c0_9] 26 (0, 0)) (by refine blk_far ?_ NB145_148.out _; refine blk_far ?_ NB145_148.out _; exact BK145.out) hb); replace BK148 := ak_ (blk_below (g := gb148) (o := .cells #[.int .u16 ((rd_T42 l0_9 x59_2).f0), .string ((rd_T42 l0_9 x59_2).f1)] 42 (0, 0)) (by refine blk_put (cs := #[.int .u16 ((rd_T42 l0_9 x59_2).f0), .string (⟨#[]⟩ : ByteArray)]) ?_ 1 _ rfl; refine blk_put (cs := #[.int .u16 0, .string (⟨#[]⟩ : ByteArray)]) ?_ 0 _ rfl; exact BK148.out) hb); replace HB := ak_ (below_step (by repeat (first | (with_reducible first | exact HB.out | refine below_set ?_ GE148.out))) hb); (try clear hb)))
     go_ret
     exact ⟨by rfl, by exact HB.out⟩
    replace c32 := Bool.eq_false_iff.mpr c32
    subst c32
    have H1 : (if (((rd_T42 l0_9 x59_2).f1).size : Int) > 65535 then (some false) else (wire6_Sound.l0 k2 l0_9 (l0_9.length : Int) (wrap64 (x59_2 + 1)) a0_0 a0_1 a0_2 a0_3 l0_4 a0_5 a0_6 a0_7 a0_8 l0_9)) = some r := by rw [if_neg (show ¬ (false = true) by decide)] at H; exact H
    clear H
    have H := H1
    clear H1
    by_cases c37 : (((rd_T42 l0_9 x59_2).f1).size : Int) > 65535
    ·rw [if_pos c37] at H
     have c37b0 : decide (65535 < (((rd_T42 l0_9 x59_2).f1).size : Int)) = true := decide_eq_true c37
     have c37b1 : decide (65535 < ((rd_T42 l0_9 x59_2).f1).size) = true := decide_eq_true (by omega)
     clear c37
     obtain rfl := Option.some.inj H
     have p147 : 0 ≤ (x59_2 : Int) := of_decide_eq_true (by first | (with_reducible assumption))
     have q147 : x59_2 < (l0_9.length : Int) := of_decide_eq_true (by first | (with_reducible assumption))
     obtain ⟨ad147, e147, hx147_0, hx147_1⟩ := at_T42 HR0_9.out x59_2 p147 q147
     cases e147
     replace hx147_0 := (HB.out.cell (World.block_lt_of_cell? w _ hx147_0)).trans hx147_0
     replace hx147_1 := (HB.out.cell (World.block_lt_of_cell? w _ hx147_1)).trans hx147_1
     replace p147 := eq_true p147
     replace q147 := eq_true q147
     go_wp2_with (first | ((with_reducible refine gate_dst (N := 4) rfl ?_); (try (refine gate_guard (by rfl) ?_; dsimp only)); refine box_event ?hg (N := 4) ?hd (cs := #[.int .u16 0, .string (⟨#[]⟩ : ByteArray)]) (t := 42) ?hr ?_; (case hd => rfl); (case hg => rfl); (case hr => go_simp; done); intro gb148 hg w38 hbox hb; have BK148 := ak_ hbox; have GW148 := gz_ HB hg; have GE148 := gz_ HB hg; replace HB := bs_ HB hb; have NB145_148 := gl_ BK145 hg; have NB148_145 := gr_ BK145 hg; replace BK145 := bb_ BK145 hb; clear hb hbox hg; have hnb39 := NB148_145.out; have hnc39 := NB145_148.out; have hz40 := bz2_ BK148) | ((with_reducible refine gate_callee (f := 27) rfl ?_); refine goesL_ (some 65) rfl rfl Try.func27 (by kernel_rfl) rfl #[.int .u16 ((rd_T42 l0_9 x59_2).f0)] rfl (by (try simp only [List.map_toArray, List.map_cons, List.map_nil]); first | rfl) ?_; (with_reducible refine (wire6_isOwn.calls k2 ((rd_T42 l0_9 x59_2).f0) false _ A31.out).mono ?_); rintro e w41 ⟨rfl, hb⟩; refine ⟨_, rfl, ?_⟩; replace BK145 := ak_ (blk_below (g := gb145) (o := .cells #[.int .i64 a0_0, .int .u32 a0_1, .string a0_2, .string a0_3, .slice A0_4 l0_4.length c0_4, .int .i64 a0_5, .bool a0_6, .bool a0_7, .int .i64 a0_8, .slice (some ad147) l0_9.length c0_9] 26 (0, 0)) (by refine blk_far ?_ NB145_148.out _; refine blk_far ?_ NB145_148.out _; exact BK145.out) hb); replace BK148 := ak_ (blk_below (g := gb148) (o := .cells #[.int .u16 ((rd_T42 l0_9 x59_2).f0), .string ((rd_T42 l0_9 x59_2).f1)] 42 (0, 0)) (by refine blk_put (cs := #[.int .u16 ((rd_T42 l0_9 x59_2).f0), .string (⟨#[]⟩ : ByteArray)]) ?_ 1 _ rfl; refine blk_put (cs := #[.int .u16 0, .string (⟨#[]⟩ : ByteArray)]) ?_ 0 _ rfl; exact BK148.out) hb); replace HB := ak_ (below_step (by repeat (first | (with_reducible first | exact HB.out | refine below_set ?_ GE148.out))) hb); (try clear hb); have hz42 := bz2_ BK148))
     go_ret
     exact ⟨by rfl, by exact HB.out⟩
    rw [if_neg c37] at H
    have c37b0 : decide (65535 < (((rd_T42 l0_9 x59_2).f1).size : Int)) = false := decide_eq_false c37
    have c37b1 : decide (65535 < ((rd_T42 l0_9 x59_2).f1).size) = false := decide_eq_false (by omega)
    clear c37
    have H' := ak_ H
    clear H
    have p147 : 0 ≤ (x59_2 : Int) := of_decide_eq_true (by first | (with_reducible assumption))
    have q147 : x59_2 < (l0_9.length : Int) := of_decide_eq_true (by first | (with_reducible assumption))
    obtain ⟨ad147, e147, hx147_0, hx147_1⟩ := at_T42 HR0_9.out x59_2 p147 q147
    cases e147
    replace hx147_0 := (HB.out.cell (World.block_lt_of_cell? w _ hx147_0)).trans hx147_0
    replace hx147_1 := (HB.out.cell (World.block_lt_of_cell? w _ hx147_1)).trans hx147_1
    replace p147 := eq_true p147
    replace q147 := eq_true q147
    go_wp2_with (first | ((with_reducible refine gate_dst (N := 4) rfl ?_); (try (refine gate_guard (by rfl) ?_; dsimp only)); refine box_event ?hg (N := 4) ?hd (cs := #[.int .u16 0, .string (⟨#[]⟩ : ByteArray)]) (t := 42) ?hr ?_; (case hd => rfl); (case hg => rfl); (case hr => go_simp; done); intro gb148 hg w43 hbox hb; have BK148 := ak_ hbox; have GW148 := gz_ HB hg; have GE148 := gz_ HB hg; replace HB := bs_ HB hb; have NB145_148 := gl_ BK145 hg; have NB148_145 := gr_ BK145 hg; replace BK145 := bb_ BK145 hb; clear hb hbox hg; have hnb44 := NB148_145.out; have hnc44 := NB145_148.out; have hz45 := bz2_ BK148) | ((with_reducible refine gate_callee (f := 27) rfl ?_); refine goesL_ (some 65) rfl rfl Try.func27 (by kernel_rfl) rfl #[.int .u16 ((rd_T42 l0_9 x59_2).f0)] rfl (by (try simp only [List.map_toArray, List.map_cons, List.map_nil]); first | rfl) ?_; (with_reducible refine (wire6_isOwn.calls k2 ((rd_T42 l0_9 x59_2).f0) false _ A31.out).mono ?_); rintro e w46 ⟨rfl, hb⟩; refine ⟨_, rfl, ?_⟩; replace BK145 := ak_ (blk_below (g := gb145) (o := .cells #[.int .i64 a0_0, .int .u32 a0_1, .string a0_2, .string a0_3, .slice A0_4 l0_4.length c0_4, .int .i64 a0_5, .bool a0_6, .bool a0_7, .int .i64 a0_8, .slice (some ad147) l0_9.length c0_9] 26 (0, 0)) (by refine blk_far ?_ NB145_148.out _; refine blk_far ?_ NB145_148.out _; exact BK145.out) hb); replace BK148 := ak_ (blk_below (g := gb148) (o := .cells #[.int .u16 ((rd_T42 l0_9 x59_2).f0), .string ((rd_T42 l0_9 x59_2).f1)] 42 (0, 0)) (by refine blk_put (cs := #[.int .u16 ((rd_T42 l0_9 x59_2).f0), .string (⟨#[]⟩ : ByteArray)]) ?_ 1 _ rfl; refine blk_put (cs := #[.int .u16 0, .string (⟨#[]⟩ : ByteArray)]) ?_ 0 _ rfl; exact BK148.out) hb); replace HB := ak_ (below_step (by repeat (first | (with_reducible first | exact HB.out | refine below_set ?_ GE148.out))) hb); (try clear hb); have hz47 := bz2_ BK148))
    go_roundg k2
    case measure => have := HJ1.out; have := HK2.out; omega
    case rel => exact ⟨(wrap64 (x59_2 + 1)), (by rfl), H', ⟨by have := HJ1.out; have := HK2.out; omega⟩, ⟨by exact BK145.out⟩, ⟨by exact HB.out⟩⟩
   rw [if_neg c30] at H
   exact absurd H (by simp)
  rw [if_neg c29] at H
  exact absurd H (by simp)
 rw [if_neg c28] at H
 have c28b0 : decide (x59_2 < (l0_9.length : Int)) = false := decide_eq_false c28
 clear c28
 replace H := Option.bind_eq_some_iff.mp H
 obtain ⟨⟨t150, t153⟩, A480, H⟩ := H
 replace H : (if t153 = 0 then (some (decide ((t150.length : Int) ≤ 128))) else (some false)) = some r := H
 have A48 := ak_ A480
 clear A480
 by_cases c49 : t153 = 0
 ·rw [if_pos c49] at H
  have c49b0 : (t153 == 0) = true := beq_iff_eq.mpr c49
  have c49b1 : (t153 != 0) = false := bne_eq_false_iff_eq.mpr c49
  clear c49
  obtain rfl := Option.some.inj H
  have hz50 := bz10_ BK145
  go_wp2_with (first | ((with_reducible refine gate_callee (f := 22) rfl ?_); refine goesL_ (some 75) rfl rfl Try.func22 (by kernel_rfl) rfl #[.agg #[.int .i64 a0_0, .int .u32 a0_1, .string a0_2, .string a0_3, .slice A0_4 l0_4.length c0_4, .int .i64 a0_5, .bool a0_6, .bool a0_7, .int .i64 a0_8, .slice A0_9 l0_9.length c0_9]] rfl (by (try simp only [List.map_toArray, List.map_cons, List.map_nil]); first | rfl) ?_; (with_reducible refine (wire6_options.calls a0_0 a0_1 a0_2 a0_3 _ _ l0_4 a0_5 a0_6 a0_7 a0_8 _ _ l0_9 t150 t153 _ ?side1 ?side2 ?side3 ?side4 A48.out).mono ?_); (case side1 => repeat (first | exact (Kd.C_below HR0_4.out HB.out))); (case side2 => exact HC0_4.out); (case side3 => repeat (first | exact (Kd.C_below HR0_9.out HB.out))); (case side4 => exact HC0_9.out); rintro e w51 ⟨v151, rfl, ho0, hb⟩; refine ⟨_, rfl, ?_⟩; have HO152 := ak_ (Kd.R_lower ho0 (below_size HB.out)); replace BK145 := bb_ BK145 hb; replace HB := bs_ HB hb; (try clear hb); (try clear ho0); obtain ⟨Ao52, co52, eo52⟩ := Kd.R_slice HO152.out; subst eo52))
  go_ret
  exact ⟨by rfl, by exact HB.out⟩
 rw [if_neg c49] at H
 have c49b0 : (t153 == 0) = false := beq_eq_false_iff_ne.mpr c49
 have c49b1 : (t153 != 0) = true := bne_iff_ne.mpr c49
 obtain rfl := Option.some.inj H
 have hz53 := bz10_ BK145
 go_wp2_with (first | ((with_reducible refine gate_callee (f := 22) rfl ?_); refine goesL_ (some 75) rfl rfl Try.func22 (by kernel_rfl) rfl #[.agg #[.int .i64 a0_0, .int .u32 a0_1, .string a0_2, .string a0_3, .slice A0_4 l0_4.length c0_4, .int .i64 a0_5, .bool a0_6, .bool a0_7, .int .i64 a0_8, .slice A0_9 l0_9.length c0_9]] rfl (by (try simp only [List.map_toArray, List.map_cons, List.map_nil]); first | rfl) ?_; (with_reducible refine (wire6_options.calls a0_0 a0_1 a0_2 a0_3 _ _ l0_4 a0_5 a0_6 a0_7 a0_8 _ _ l0_9 t150 t153 _ ?side1 ?side2 ?side3 ?side4 A48.out).mono ?_); (case side1 => repeat (first | exact (Kd.C_below HR0_4.out HB.out))); (case side2 => exact HC0_4.out); (case side3 => repeat (first | exact (Kd.C_below HR0_9.out HB.out))); (case side4 => exact HC0_9.out); rintro e w54 ⟨v151, rfl, ho0, hb⟩; refine ⟨_, rfl, ?_⟩; have HO152 := ak_ (Kd.R_lower ho0 (below_size HB.out)); replace BK145 := bb_ BK145 hb; replace HB := bs_ HB hb; (try clear hb); (try clear ho0)))
 go_ret
 exact ⟨by rfl, by exact HB.out⟩

def wire6_Encode.l0 : Nat → List (S42) → List (S42) → Int → Int → Int → Int → ByteArray → ByteArray → List (S51) → Int → Bool → Bool → Int → List (S42) → Option (ByteArray × Int)
  | 0, _, _, _, _, _, _, _, _, _, _, _, _, _, _ => none
  | k + 1, x4, x18, x19, x20, x155000, x155001, x155002, x155003, x155004, x155005, x155006, x155007, x155008, x155009 => if x20 < x19 then (if 0 ≤ x20 then (if x20 < (x18.length : Int) then (if (((rd_T42 x18 x20).f1).size : Int) > 65507 then (some ((⟨#[]⟩ : ByteArray), 6)) else (wire6_Encode.l0 k x4 x18 x19 (wrap64 (x20 + 1)) x155000 x155001 x155002 x155003 x155004 x155005 x155006 x155007 x155008 x155009)) else (none)) else (none)) else ((opt6_Emit.f x4).bind fun bt162 => (if bt162.2 = 0 then (if (wrap64 (4 + (bt162.1.size : Int))) > 65507 then (some ((⟨#[]⟩ : ByteArray), 6)) else ((octet_Put32.f k (Go.bits .or .u32 ((((x155000) % 4294967296) * 16777216) % 4294967296) x155001)).bind fun t164 => (if t164.size + bt162.1.size ≤ 9223372036854775807 then (some (t164 ++ bt162.1, 0)) else (none)))) else (some ((⟨#[]⟩ : ByteArray), 6))))
def wire6_Encode.f (k : Nat) (a0_0 : Int) (a0_1 : Int) (a0_2 : ByteArray) (a0_3 : ByteArray) (l0_4 : List (S51)) (a0_5 : Int) (a0_6 : Bool) (a0_7 : Bool) (a0_8 : Int) (l0_9 : List (S42)) : Option (ByteArray × Int) := (wire6_Sound.f k a0_0 a0_1 a0_2 a0_3 l0_4 a0_5 a0_6 a0_7 a0_8 l0_9).bind fun t155 => (if t155 = true then ((wire6_options.f a0_0 a0_1 a0_2 a0_3 l0_4 a0_5 a0_6 a0_7 a0_8 l0_9).bind fun bt156 => (wire6_Encode.l0 k bt156.1 bt156.1 (bt156.1.length : Int) 0 a0_0 a0_1 a0_2 a0_3 l0_4 a0_5 a0_6 a0_7 a0_8 l0_9)) else (some ((⟨#[]⟩ : ByteArray), 141)))
set_option maxHeartbeats 8000000 in
set_option maxRecDepth 100000 in
theorem wire6_Encode.calls (k : Nat) (a0_0 : Int) (a0_1 : Int) (a0_2 : ByteArray) (a0_3 : ByteArray) (A0_4 : Option Addr) (c0_4 : Nat) (l0_4 : List (S51)) (a0_5 : Int) (a0_6 : Bool) (a0_7 : Bool) (a0_8 : Int) (A0_9 : Option Addr) (c0_9 : Nat) (l0_9 : List (S42)) (r1 : ByteArray) (r2 : Int) (w : World) (hr0_4 : Kd.C k51 w A0_4 l0_4.length l0_4) (hc0_4 : l0_4.length ≤ c0_4) (hr0_9 : Kd.C k42 w A0_9 l0_9.length l0_9) (hc0_9 : l0_9.length ≤ c0_9) (h : wire6_Encode.f k a0_0 a0_1 a0_2 a0_3 l0_4 a0_5 a0_6 a0_7 a0_8 l0_9 = some (r1, r2)) :
 Calls Try.prog 13 #[.agg #[.int .i64 a0_0, .int .u32 a0_1, .string a0_2, .string a0_3, .slice A0_4 l0_4.length c0_4, .int .i64 a0_5, .bool a0_6, .bool a0_7, .int .i64 a0_8, .slice A0_9 l0_9.length c0_9]] w fun e w' => e = .returned (.tuple #[.string r1, .int .i64 r2]) ∧ Below w.heap.size w w' := by
 have hu26 := Try.underlying26
 have hu42 := Try.underlying42
 have HR0_4 := ak_ hr0_4
 have HC0_4 := ak_ hc0_4
 clear hr0_4 hc0_4
 have HR0_9 := ak_ hr0_9
 have HC0_9 := ak_ hc0_9
 clear hr0_9 hc0_9
 have HB := ak_ (Below.refl w.heap.size w)
 have H : ((wire6_Sound.f k a0_0 a0_1 a0_2 a0_3 l0_4 a0_5 a0_6 a0_7 a0_8 l0_9).bind fun t155 => (if t155 = true then ((wire6_options.f a0_0 a0_1 a0_2 a0_3 l0_4 a0_5 a0_6 a0_7 a0_8 l0_9).bind fun bt156 => (wire6_Encode.l0 k bt156.1 bt156.1 (bt156.1.length : Int) 0 a0_0 a0_1 a0_2 a0_3 l0_4 a0_5 a0_6 a0_7 a0_8 l0_9)) else (some ((⟨#[]⟩ : ByteArray), 141)))) = some (r1, r2) := h
 clear h
 replace H := Option.bind_eq_some_iff.mp H
 obtain ⟨t155, A20, H⟩ := H
 replace H : (if t155 = true then ((wire6_options.f a0_0 a0_1 a0_2 a0_3 l0_4 a0_5 a0_6 a0_7 a0_8 l0_9).bind fun bt156 => (wire6_Encode.l0 k bt156.1 bt156.1 (bt156.1.length : Int) 0 a0_0 a0_1 a0_2 a0_3 l0_4 a0_5 a0_6 a0_7 a0_8 l0_9)) else (some ((⟨#[]⟩ : ByteArray), 141))) = some (r1, r2) := H
 have A2 := ak_ A20
 clear A20
 by_cases c3 : t155 = true
 ·subst c3
  have H1 : ((wire6_options.f a0_0 a0_1 a0_2 a0_3 l0_4 a0_5 a0_6 a0_7 a0_8 l0_9).bind fun bt156 => (wire6_Encode.l0 k bt156.1 bt156.1 (bt156.1.length : Int) 0 a0_0 a0_1 a0_2 a0_3 l0_4 a0_5 a0_6 a0_7 a0_8 l0_9)) = some (r1, r2) := by rw [if_pos rfl] at H; exact H
  clear H
  have H := H1
  clear H1
  replace H := Option.bind_eq_some_iff.mp H
  obtain ⟨⟨t156, t159⟩, A40, H⟩ := H
  replace H : (wire6_Encode.l0 k t156 t156 (t156.length : Int) 0 a0_0 a0_1 a0_2 a0_3 l0_4 a0_5 a0_6 a0_7 a0_8 l0_9) = some (r1, r2) := H
  have A4 := ak_ A40
  clear A40
  have H' := ak_ H
  clear H
  go_enter Try.func13, Try.ntmps13
  go_wp2_with (first | ((with_reducible refine gate_dst (N := 1) rfl ?_); (try (refine gate_guard (by rfl) ?_; dsimp only)); refine box_event ?hg (N := 1) ?hd (cs := #[.int .i64 a0_0, .int .u32 a0_1, .string a0_2, .string a0_3, .slice A0_4 l0_4.length c0_4, .int .i64 a0_5, .bool a0_6, .bool a0_7, .int .i64 a0_8, .slice A0_9 l0_9.length c0_9]) (t := 26) ?hr ?_; (case hd => rfl); (case hg => rfl); (case hr => go_simp; done); intro gb154 hg w5 hbox hb; have BK154 := ak_ hbox; have GW154 := gz_ HB hg; have GE154 := gz_ HB hg; replace HB := bs_ HB hb; clear hb hbox hg; have hz6 := bz10_ BK154) | ((with_reducible refine gate_callee (f := 15) rfl ?_); refine goesL_ (some 11) rfl rfl Try.func15 (by kernel_rfl) rfl #[.agg #[.int .i64 a0_0, .int .u32 a0_1, .string a0_2, .string a0_3, .slice A0_4 l0_4.length c0_4, .int .i64 a0_5, .bool a0_6, .bool a0_7, .int .i64 a0_8, .slice A0_9 l0_9.length c0_9]] rfl (by (try simp only [List.map_toArray, List.map_cons, List.map_nil]); first | rfl) ?_; (with_reducible refine (wire6_Sound.calls k a0_0 a0_1 a0_2 a0_3 _ _ l0_4 a0_5 a0_6 a0_7 a0_8 _ _ l0_9 true _ ?side1 ?side2 ?side3 ?side4 A2.out).mono ?_); (case side1 => repeat (first | exact (Kd.C_below HR0_4.out HB.out))); (case side2 => exact HC0_4.out); (case side3 => repeat (first | exact (Kd.C_below HR0_9.out HB.out))); (case side4 => exact HC0_9.out); rintro e w7 ⟨rfl, hb⟩; refine ⟨_, rfl, ?_⟩; replace BK154 := bb_ BK154 hb; replace HB := bs_ HB hb; (try clear hb); have hz8 := bz10_ BK154) | ((with_reducible refine gate_callee (f := 22) rfl ?_); refine goesL_ (some 15) rfl rfl Try.func22 (by kernel_rfl) rfl #[.agg #[.int .i64 a0_0, .int .u32 a0_1, .string a0_2, .string a0_3, .slice A0_4 l0_4.length c0_4, .int .i64 a0_5, .bool a0_6, .bool a0_7, .int .i64 a0_8, .slice A0_9 l0_9.length c0_9]] rfl (by (try simp only [List.map_toArray, List.map_cons, List.map_nil]); first | rfl) ?_; (with_reducible refine (wire6_options.calls a0_0 a0_1 a0_2 a0_3 _ _ l0_4 a0_5 a0_6 a0_7 a0_8 _ _ l0_9 t156 t159 _ ?side1 ?side2 ?side3 ?side4 A4.out).mono ?_); (case side1 => repeat (first | exact (Kd.C_below HR0_4.out HB.out))); (case side2 => exact HC0_4.out); (case side3 => repeat (first | exact (Kd.C_below HR0_9.out HB.out))); (case side4 => exact HC0_9.out); rintro e w9 ⟨v157, rfl, ho0, hb⟩; refine ⟨_, rfl, ?_⟩; have HO158 := ak_ (Kd.R_lower ho0 (below_size HB.out)); replace BK154 := bb_ BK154 hb; replace HB := bs_ HB hb; (try clear hb); (try clear ho0); obtain ⟨Ao10, co10, eo10⟩ := Kd.R_slice HO158.out; subst eo10))
  go_loopg [20] k (fun kq v20 w' => ∃ (x20_1 : Int), v20 = .int .i64 x20_1 ∧ Aside0 (wire6_Encode.l0 kq t156 t156 (t156.length : Int) x20_1 a0_0 a0_1 a0_2 a0_3 l0_4 a0_5 a0_6 a0_7 a0_8 l0_9 = some (r1, r2)) ∧ Aside0 (kq ≤ k) ∧ Aside0 (Kd.R k42 42 w' w.heap.size (fun _ => True) (.slice Ao10 t156.length co10) t156) ∧ Aside0 (Kd.R k42 42 w' w.heap.size (fun _ => True) (.slice Ao10 t156.length co10) t156) ∧ Aside0 (w'.heap[gb154]? = some (.cells #[.int .i64 a0_0, .int .u32 a0_1, .string a0_2, .string a0_3, (.slice A0_4 l0_4.length c0_4), .int .i64 a0_5, .bool a0_6, .bool a0_7, .int .i64 a0_8, (.slice A0_9 l0_9.length c0_9)] 26 (0, 0))) ∧ Aside0 (Below w.heap.size w w'))
  case atStart => exact ⟨(0), (by rfl), H', ⟨Nat.le_refl _⟩, ⟨by exact HO158.out⟩, ⟨by exact HO158.out⟩, ⟨by exact BK154.out⟩, ⟨by exact HB.out⟩⟩
  case round =>
  clear H'
  try clear c1
  try clear c2
  try clear p2
  try clear c3
  try clear hz6
  try clear hz8
  obtain ⟨x20_1, rfl, HA, HK1, HO_4, HO_18, BK154, HB⟩ := hrel
  cases gk with
  | zero => exact absurd HA.out (by simp [wire6_Encode.l0])
  | succ k1 =>
  have H := HA.out
  clear HA
  simp only [wire6_Encode.l0] at H
  by_cases c11 : x20_1 < (t156.length : Int)
  ·rw [if_pos c11] at H
   have c11b0 : decide (x20_1 < (t156.length : Int)) = true := decide_eq_true c11
   clear c11
   by_cases c12 : 0 ≤ x20_1
   ·rw [if_pos c12] at H
    have c12b0 : decide (0 ≤ x20_1) = true := decide_eq_true c12
    clear c12
    by_cases c13 : x20_1 < (t156.length : Int)
    ·rw [if_pos c13] at H
     have c13b0 : decide (x20_1 < (t156.length : Int)) = true := decide_eq_true c13
     clear c13
     by_cases c14 : (((rd_T42 t156 x20_1).f1).size : Int) > 65507
     ·rw [if_pos c14] at H
      have c14b0 : decide (65507 < (((rd_T42 t156 x20_1).f1).size : Int)) = true := decide_eq_true c14
      have c14b1 : decide (65507 < ((rd_T42 t156 x20_1).f1).size) = true := decide_eq_true (by omega)
      clear c14
      simp only [Option.some.injEq, Prod.mk.injEq] at H
      obtain ⟨rfl, rfl⟩ := H
      have p160 : 0 ≤ (x20_1 : Int) := of_decide_eq_true (by first | (with_reducible assumption))
      have q160 : x20_1 < (t156.length : Int) := of_decide_eq_true (by first | (with_reducible assumption))
      obtain ⟨ad160, e160, hx160_0, hx160_1⟩ := at_T42 (Kd.R_reads' HO_18.out).2.2 x20_1 p160 q160
      cases e160
      replace p160 := eq_true p160
      replace q160 := eq_true q160
      go_wp2_with (first | ((with_reducible refine gate_dst (N := 7) rfl ?_); (try (refine gate_guard (by rfl) ?_; dsimp only)); refine box_event ?hg (N := 7) ?hd (cs := #[.int .u16 0, .string (⟨#[]⟩ : ByteArray)]) (t := 42) ?hr ?_; (case hd => rfl); (case hg => rfl); (case hr => go_simp; done); intro gb161 hg w15 hbox hb; replace HO_4 := ak_ (Kd.R_below (Kd.R_elderB HO_4.out gb161 (Nat.le_of_eq hg.symm)) hb); replace HO_18 := ak_ (Kd.R_below (Kd.R_elderB HO_18.out gb161 (Nat.le_of_eq hg.symm)) hb); have BK161 := ak_ hbox; have GW161 := gz_ HB hg; have GE161 := gz_ HB hg; replace HB := bs_ HB hb; have NB154_161 := gl_ BK154 hg; have NB161_154 := gr_ BK154 hg; replace BK154 := bb_ BK154 hb; clear hb hbox hg; have hnb16 := NB161_154.out; have hnc16 := NB154_161.out; have hz17 := bz2_ BK161))
      go_ret2
      exact ⟨by rfl, by repeat (first | (with_reducible first | exact HB.out | refine below_set ?_ GE161.out))⟩
     rw [if_neg c14] at H
     have c14b0 : decide (65507 < (((rd_T42 t156 x20_1).f1).size : Int)) = false := decide_eq_false c14
     have c14b1 : decide (65507 < ((rd_T42 t156 x20_1).f1).size) = false := decide_eq_false (by omega)
     clear c14
     have H' := ak_ H
     clear H
     have p160 : 0 ≤ (x20_1 : Int) := of_decide_eq_true (by first | (with_reducible assumption))
     have q160 : x20_1 < (t156.length : Int) := of_decide_eq_true (by first | (with_reducible assumption))
     obtain ⟨ad160, e160, hx160_0, hx160_1⟩ := at_T42 (Kd.R_reads' HO_18.out).2.2 x20_1 p160 q160
     cases e160
     replace p160 := eq_true p160
     replace q160 := eq_true q160
     go_wp2_with (first | ((with_reducible refine gate_dst (N := 7) rfl ?_); (try (refine gate_guard (by rfl) ?_; dsimp only)); refine box_event ?hg (N := 7) ?hd (cs := #[.int .u16 0, .string (⟨#[]⟩ : ByteArray)]) (t := 42) ?hr ?_; (case hd => rfl); (case hg => rfl); (case hr => go_simp; done); intro gb161 hg w18 hbox hb; replace HO_4 := ak_ (Kd.R_below (Kd.R_elderB HO_4.out gb161 (Nat.le_of_eq hg.symm)) hb); replace HO_18 := ak_ (Kd.R_below (Kd.R_elderB HO_18.out gb161 (Nat.le_of_eq hg.symm)) hb); have BK161 := ak_ hbox; have GW161 := gz_ HB hg; have GE161 := gz_ HB hg; replace HB := bs_ HB hb; have NB154_161 := gl_ BK154 hg; have NB161_154 := gr_ BK154 hg; replace BK154 := bb_ BK154 hb; clear hb hbox hg; have hnb19 := NB161_154.out; have hnc19 := NB154_161.out; have hz20 := bz2_ BK161))
     go_roundg k1
     case measure => have := HK1.out; omega
     case rel => exact ⟨(wrap64 (x20_1 + 1)), (by rfl), H', ⟨by have := HK1.out; omega⟩, ⟨by exact Kd.R_mono (Kd.R_far (p := ⟨gb161, 1, none⟩) (Kd.R_far (p := ⟨gb161, 0, none⟩) (Kd.R_mono HO_4.out (fun k_ hk => (⟨hk, hk.2⟩ : _ ∧ k_ ≠ gb161))) (fun _ hk => hk.2) (.int .u16 ((rd_T42 t156 x20_1).f0))) (fun _ hk => hk.2) (.string ((rd_T42 t156 x20_1).f1))) (fun _ hk => trivial)⟩, ⟨by exact Kd.R_mono (Kd.R_far (p := ⟨gb161, 1, none⟩) (Kd.R_far (p := ⟨gb161, 0, none⟩) (Kd.R_mono HO_18.out (fun k_ hk => (⟨hk, hk.2⟩ : _ ∧ k_ ≠ gb161))) (fun _ hk => hk.2) (.int .u16 ((rd_T42 t156 x20_1).f0))) (fun _ hk => hk.2) (.string ((rd_T42 t156 x20_1).f1))) (fun _ hk => trivial)⟩, ⟨by refine blk_far ?_ NB154_161.out _; refine blk_far ?_ NB154_161.out _; exact BK154.out⟩, ⟨by repeat (first | (with_reducible first | exact HB.out | refine below_set ?_ GE161.out))⟩⟩
    rw [if_neg c13] at H
    exact absurd H (by simp)
   rw [if_neg c12] at H
   exact absurd H (by simp)
  rw [if_neg c11] at H
  have c11b0 : decide (x20_1 < (t156.length : Int)) = false := decide_eq_false c11
  clear c11
  replace H := Option.bind_eq_some_iff.mp H
  obtain ⟨⟨t162, t163⟩, A210, H⟩ := H
  replace H : (if t163 = 0 then (if (wrap64 (4 + (t162.size : Int))) > 65507 then (some ((⟨#[]⟩ : ByteArray), 6)) else ((octet_Put32.f k1 (Go.bits .or .u32 ((((a0_0) % 4294967296) * 16777216) % 4294967296) a0_1)).bind fun t164 => (if t164.size + t162.size ≤ 9223372036854775807 then (some (t164 ++ t162, 0)) else (none)))) else (some ((⟨#[]⟩ : ByteArray), 6))) = some (r1, r2) := H
  have A21 := ak_ A210
  clear A210
  by_cases c22 : t163 = 0
  ·rw [if_pos c22] at H
   have c22b0 : (t163 == 0) = true := beq_iff_eq.mpr c22
   have c22b1 : (t163 != 0) = false := bne_eq_false_iff_eq.mpr c22
   clear c22
   by_cases c23 : (wrap64 (4 + (t162.size : Int))) > 65507
   ·rw [if_pos c23] at H
    have c23b0 : decide (65507 < (wrap64 (4 + (t162.size : Int)))) = true := decide_eq_true c23
    clear c23
    simp only [Option.some.injEq, Prod.mk.injEq] at H
    obtain ⟨rfl, rfl⟩ := H
    go_wp2_with (first | ((with_reducible refine gate_callee (f := 20) rfl ?_); refine goesL_ (some 31) rfl rfl Try.func20 (by kernel_rfl) rfl #[.slice Ao10 t156.length co10] rfl (by (try simp only [List.map_toArray, List.map_cons, List.map_nil]); first | rfl) ?_; (with_reducible refine (opt6_Emit.calls _ _ t156 t162 t163 _ ?side1 ?side2 A21.out).mono ?_); (case side1 => repeat (first | exact (Kd.R_reads' HO_4.out).2.2)); (case side2 => exact (Kd.R_reads' HO_4.out).2.1); rintro e w24 ⟨rfl, hb⟩; refine ⟨_, rfl, ?_⟩; replace HO_4 := ak_ (Kd.R_below HO_4.out hb); replace HO_18 := ak_ (Kd.R_below HO_18.out hb); replace BK154 := bb_ BK154 hb; replace HB := bs_ HB hb; (try clear hb)))
    go_ret2
    exact ⟨by rfl, by exact HB.out⟩
   rw [if_neg c23] at H
   have c23b0 : decide (65507 < (wrap64 (4 + (t162.size : Int)))) = false := decide_eq_false c23
   clear c23
   replace H := Option.bind_eq_some_iff.mp H
   obtain ⟨t164, A250, H⟩ := H
   replace H : (if t164.size + t162.size ≤ 9223372036854775807 then (some (t164 ++ t162, 0)) else (none)) = some (r1, r2) := H
   have A25 := ak_ A250
   clear A250
   by_cases c26 : t164.size + t162.size ≤ 9223372036854775807
   ·rw [if_pos c26] at H
    have c26b0 := eq_true c26
    have c26b1 : decide (t164.size + t162.size ≤ 9223372036854775807) = true := decide_eq_true c26
    try have c26b2 : (9223372036854775807 < t164.size + t162.size) = False := eq_false (Nat.not_lt.2 c26)
    simp only [Option.some.injEq, Prod.mk.injEq] at H
    obtain ⟨rfl, rfl⟩ := H
    go_wp2_with (first | ((with_reducible refine gate_callee (f := 20) rfl ?_); refine goesL_ (some 31) rfl rfl Try.func20 (by kernel_rfl) rfl #[.slice Ao10 t156.length co10] rfl (by (try simp only [List.map_toArray, List.map_cons, List.map_nil]); first | rfl) ?_; (with_reducible refine (opt6_Emit.calls _ _ t156 t162 t163 _ ?side1 ?side2 A21.out).mono ?_); (case side1 => repeat (first | exact (Kd.R_reads' HO_4.out).2.2)); (case side2 => exact (Kd.R_reads' HO_4.out).2.1); rintro e w27 ⟨rfl, hb⟩; refine ⟨_, rfl, ?_⟩; replace HO_4 := ak_ (Kd.R_below HO_4.out hb); replace HO_18 := ak_ (Kd.R_below HO_18.out hb); replace BK154 := bb_ BK154 hb; replace HB := bs_ HB hb; (try clear hb); have hz28 := bz10_ BK154) | ((with_reducible refine gate_callee (f := 23) rfl ?_); refine goesL_ (some 49) rfl rfl Try.func23 (by kernel_rfl) rfl #[.int .u32 (Go.bits .or .u32 ((((a0_0) % 4294967296) * 16777216) % 4294967296) a0_1)] rfl (by (try simp only [List.map_toArray, List.map_cons, List.map_nil]); first | rfl) ?_; (with_reducible refine (octet_Put32.calls k1 (Go.bits .or .u32 ((((a0_0) % 4294967296) * 16777216) % 4294967296) a0_1) t164 _ A25.out).mono ?_); rintro e w29 ⟨rfl, hb⟩; refine ⟨_, rfl, ?_⟩; replace HO_4 := ak_ (Kd.R_below HO_4.out hb); replace HO_18 := ak_ (Kd.R_below HO_18.out hb); replace BK154 := bb_ BK154 hb; replace HB := bs_ HB hb; (try clear hb)))
    go_ret2
    exact ⟨by rfl, by exact HB.out⟩
   rw [if_neg c26] at H
   exact absurd H (by simp)
  rw [if_neg c22] at H
  have c22b0 : (t163 == 0) = false := beq_eq_false_iff_ne.mpr c22
  have c22b1 : (t163 != 0) = true := bne_iff_ne.mpr c22
  simp only [Option.some.injEq, Prod.mk.injEq] at H
  obtain ⟨rfl, rfl⟩ := H
  go_wp2_with (first | ((with_reducible refine gate_callee (f := 20) rfl ?_); refine goesL_ (some 31) rfl rfl Try.func20 (by kernel_rfl) rfl #[.slice Ao10 t156.length co10] rfl (by (try simp only [List.map_toArray, List.map_cons, List.map_nil]); first | rfl) ?_; (with_reducible refine (opt6_Emit.calls _ _ t156 t162 t163 _ ?side1 ?side2 A21.out).mono ?_); (case side1 => repeat (first | exact (Kd.R_reads' HO_4.out).2.2)); (case side2 => exact (Kd.R_reads' HO_4.out).2.1); rintro e w30 ⟨rfl, hb⟩; refine ⟨_, rfl, ?_⟩; replace HO_4 := ak_ (Kd.R_below HO_4.out hb); replace HO_18 := ak_ (Kd.R_below HO_18.out hb); replace BK154 := bb_ BK154 hb; replace HB := bs_ HB hb; (try clear hb)))
  go_ret2
  exact ⟨by rfl, by exact HB.out⟩
 replace c3 := Bool.eq_false_iff.mpr c3
 subst c3
 have H1 : (some ((⟨#[]⟩ : ByteArray), 141)) = some (r1, r2) := by rw [if_neg (show ¬ (false = true) by decide)] at H; exact H
 clear H
 have H := H1
 clear H1
 simp only [Option.some.injEq, Prod.mk.injEq] at H
 obtain ⟨rfl, rfl⟩ := H
 go_enter Try.func13, Try.ntmps13
 go_wp2_with (first | ((with_reducible refine gate_dst (N := 1) rfl ?_); (try (refine gate_guard (by rfl) ?_; dsimp only)); refine box_event ?hg (N := 1) ?hd (cs := #[.int .i64 a0_0, .int .u32 a0_1, .string a0_2, .string a0_3, .slice A0_4 l0_4.length c0_4, .int .i64 a0_5, .bool a0_6, .bool a0_7, .int .i64 a0_8, .slice A0_9 l0_9.length c0_9]) (t := 26) ?hr ?_; (case hd => rfl); (case hg => rfl); (case hr => go_simp; done); intro gb154 hg w31 hbox hb; have BK154 := ak_ hbox; have GW154 := gz_ HB hg; have GE154 := gz_ HB hg; replace HB := bs_ HB hb; clear hb hbox hg; have hz32 := bz10_ BK154) | ((with_reducible refine gate_callee (f := 15) rfl ?_); refine goesL_ (some 11) rfl rfl Try.func15 (by kernel_rfl) rfl #[.agg #[.int .i64 a0_0, .int .u32 a0_1, .string a0_2, .string a0_3, .slice A0_4 l0_4.length c0_4, .int .i64 a0_5, .bool a0_6, .bool a0_7, .int .i64 a0_8, .slice A0_9 l0_9.length c0_9]] rfl (by (try simp only [List.map_toArray, List.map_cons, List.map_nil]); first | rfl) ?_; (with_reducible refine (wire6_Sound.calls k a0_0 a0_1 a0_2 a0_3 _ _ l0_4 a0_5 a0_6 a0_7 a0_8 _ _ l0_9 false _ ?side1 ?side2 ?side3 ?side4 A2.out).mono ?_); (case side1 => repeat (first | exact (Kd.C_below HR0_4.out HB.out))); (case side2 => exact HC0_4.out); (case side3 => repeat (first | exact (Kd.C_below HR0_9.out HB.out))); (case side4 => exact HC0_9.out); rintro e w33 ⟨rfl, hb⟩; refine ⟨_, rfl, ?_⟩; replace BK154 := bb_ BK154 hb; replace HB := bs_ HB hb; (try clear hb)))
 go_ret2
 exact ⟨by rfl, by exact HB.out⟩

def octet_Cut.f (a0 : ByteArray) (a1 : Int) (a2 : Int) : Option (ByteArray × Bool) := if (mn a1 a2) < 0 then (some ((⟨#[]⟩ : ByteArray), false)) else (if a1 > (a0.size : Int) then (some ((⟨#[]⟩ : ByteArray), false)) else (if a2 > (wrap64 ((a0.size : Int) - a1)) then (some ((⟨#[]⟩ : ByteArray), false)) else (if 0 ≤ a1 then (if a1 ≤ (a0.size : Int) then (if 0 ≤ a2 then (if a2 ≤ ((a0.extract (a1 : Int).toNat a0.size).size : Int) then (some ((a0.extract (a1 : Int).toNat a0.size).extract 0 (a2 : Int).toNat, true)) else (none)) else (none)) else (none)) else (none))))
set_option maxHeartbeats 8000000 in
set_option maxRecDepth 100000 in
theorem octet_Cut.calls (a0 : ByteArray) (a1 : Int) (a2 : Int) (r1 : ByteArray) (r2 : Bool) (w : World) (h : octet_Cut.f a0 a1 a2 = some (r1, r2)) :
 Calls Try.prog 60 #[.string a0, .int .i64 a1, .int .i64 a2] w fun e w' => e = .returned (.tuple #[.string r1, .bool r2]) ∧ Below w.heap.size w w' := by
 have HB := ak_ (Below.refl w.heap.size w)
 have H : (if (mn a1 a2) < 0 then (some ((⟨#[]⟩ : ByteArray), false)) else (if a1 > (a0.size : Int) then (some ((⟨#[]⟩ : ByteArray), false)) else (if a2 > (wrap64 ((a0.size : Int) - a1)) then (some ((⟨#[]⟩ : ByteArray), false)) else (if 0 ≤ a1 then (if a1 ≤ (a0.size : Int) then (if 0 ≤ a2 then (if a2 ≤ ((a0.extract (a1 : Int).toNat a0.size).size : Int) then (some ((a0.extract (a1 : Int).toNat a0.size).extract 0 (a2 : Int).toNat, true)) else (none)) else (none)) else (none)) else (none))))) = some (r1, r2) := h
 clear h
 obtain ⟨ji4, hji4⟩ : ∃ j_ : Int, (mn a1 a2) = j_ := ⟨_, rfl⟩
 replace H : (if (ji4) < 0 then (some ((⟨#[]⟩ : ByteArray), false)) else (if a1 > (a0.size : Int) then (some ((⟨#[]⟩ : ByteArray), false)) else (if a2 > (wrap64 ((a0.size : Int) - a1)) then (some ((⟨#[]⟩ : ByteArray), false)) else (if 0 ≤ a1 then (if a1 ≤ (a0.size : Int) then (if 0 ≤ a2 then (if a2 ≤ ((a0.extract (a1 : Int).toNat a0.size).size : Int) then (some ((a0.extract (a1 : Int).toNat a0.size).extract 0 (a2 : Int).toNat, true)) else (none)) else (none)) else (none)) else (none))))) = some (r1, r2) := by first | (rw [hji4] at H; exact H)
 have hji4_ : (if a2 < a1 then a2 else a1) = ji4 := hji4
 by_cases c5 : (ji4) < 0
 ·rw [if_pos c5] at H
  have c5b0 : decide ((ji4) < 0) = true := decide_eq_true c5
  clear c5
  simp only [Option.some.injEq, Prod.mk.injEq] at H
  obtain ⟨rfl, rfl⟩ := H
  go_enter Try.func60, Try.ntmps60
  go_wp2
  go_ret2
  exact ⟨by rfl, by exact HB.out⟩
 rw [if_neg c5] at H
 have c5b0 : decide ((ji4) < 0) = false := decide_eq_false c5
 clear c5
 by_cases c6 : a1 > (a0.size : Int)
 ·rw [if_pos c6] at H
  have c6b0 : decide ((a0.size : Int) < a1) = true := decide_eq_true c6
  clear c6
  simp only [Option.some.injEq, Prod.mk.injEq] at H
  obtain ⟨rfl, rfl⟩ := H
  go_enter Try.func60, Try.ntmps60
  go_wp2
  go_ret2
  exact ⟨by rfl, by exact HB.out⟩
 rw [if_neg c6] at H
 have c6b0 : decide ((a0.size : Int) < a1) = false := decide_eq_false c6
 clear c6
 by_cases c7 : a2 > (wrap64 ((a0.size : Int) - a1))
 ·rw [if_pos c7] at H
  have c7b0 : decide ((wrap64 ((a0.size : Int) - a1)) < a2) = true := decide_eq_true c7
  clear c7
  simp only [Option.some.injEq, Prod.mk.injEq] at H
  obtain ⟨rfl, rfl⟩ := H
  go_enter Try.func60, Try.ntmps60
  go_wp2
  go_ret2
  exact ⟨by rfl, by exact HB.out⟩
 rw [if_neg c7] at H
 have c7b0 : decide ((wrap64 ((a0.size : Int) - a1)) < a2) = false := decide_eq_false c7
 clear c7
 by_cases c8 : 0 ≤ a1
 ·rw [if_pos c8] at H
  have c8b0 := eq_true c8
  have c8b1 : decide (0 ≤ a1) = true := decide_eq_true c8
  clear c8
  by_cases c9 : a1 ≤ (a0.size : Int)
  ·rw [if_pos c9] at H
   have c9b0 := eq_true c9
   have c9b1 : decide (a1 ≤ (a0.size : Int)) = true := decide_eq_true c9
   clear c9
   by_cases c10 : 0 ≤ a2
   ·rw [if_pos c10] at H
    have c10b0 := eq_true c10
    have c10b1 : decide (0 ≤ a2) = true := decide_eq_true c10
    clear c10
    by_cases c11 : a2 ≤ ((a0.extract (a1 : Int).toNat a0.size).size : Int)
    ·rw [if_pos c11] at H
     have c11b0 := eq_true c11
     have c11b1 : decide (a2 ≤ ((a0.extract (a1 : Int).toNat a0.size).size : Int)) = true := decide_eq_true c11
     (try (have c11bs := c11; simp at c11bs))
     (try (have c11bm := c11; simp only [ByteArray.size_extract] at c11bm; rw [Nat.min_eq_left (by omega)] at c11bm))
     clear c11
     simp only [Option.some.injEq, Prod.mk.injEq] at H
     obtain ⟨rfl, rfl⟩ := H
     go_enter Try.func60, Try.ntmps60
     go_wp2
     go_ret2
     exact ⟨by rfl, by exact HB.out⟩
    rw [if_neg c11] at H
    exact absurd H (by simp)
   rw [if_neg c10] at H
   exact absurd H (by simp)
  rw [if_neg c9] at H
  exact absurd H (by simp)
 rw [if_neg c8] at H
 exact absurd H (by simp)

def octet_get_uint16.l0 : Nat → Bool → Int → List Int → Int → Int → Option (Int × Bool)
  | 0, _, _, _, _, _ => none
  | k + 1, x9, x10, x21, x22, x23 => if x23 < x22 then (if 0 ≤ x23 then (if x23 < (x21.length : Int) then (octet_get_uint16.l0 k x9 (Go.bits .or .u16 (IntKind.u16.wrap (x10 * 256)) (IntKind.u16.wrap (rd x21 x23))) x21 x22 (wrap64 (x23 + 1))) else (none)) else (none)) else (some (x10, x9))
def octet_get_uint16.f (k : Nat) (a0 : ByteArray) (a1 : Int) (a2 : Int) : Option (Int × Bool) := (octet_Cut.f a0 a1 a2).bind fun bt165 => ((conv9_47.f bt165.1).bind fun t167 => (octet_get_uint16.l0 k bt165.2 0 t167 (t167.length : Int) 0))
set_option maxHeartbeats 8000000 in
set_option maxRecDepth 100000 in
theorem octet_get_uint16.calls (k : Nat) (a0 : ByteArray) (a1 : Int) (a2 : Int) (r1 : Int) (r2 : Bool) (w : World) (h : octet_get_uint16.f k a0 a1 a2 = some (r1, r2)) :
 Calls Try.prog 59 #[.string a0, .int .i64 a1, .int .i64 a2] w fun e w' => e = .returned (.tuple #[.int .u16 r1, .bool r2]) ∧ Below w.heap.size w w' := by
 have HB := ak_ (Below.refl w.heap.size w)
 have H : ((octet_Cut.f a0 a1 a2).bind fun bt165 => ((conv9_47.f bt165.1).bind fun t167 => (octet_get_uint16.l0 k bt165.2 0 t167 (t167.length : Int) 0))) = some (r1, r2) := h
 clear h
 replace H := Option.bind_eq_some_iff.mp H
 obtain ⟨⟨t165, t166⟩, A40, H⟩ := H
 replace H : ((conv9_47.f t165).bind fun t167 => (octet_get_uint16.l0 k t166 0 t167 (t167.length : Int) 0)) = some (r1, r2) := H
 have A4 := ak_ A40
 clear A40
 replace H := Option.bind_eq_some_iff.mp H
 obtain ⟨t167, A50, H⟩ := H
 replace H : (octet_get_uint16.l0 k t166 0 t167 (t167.length : Int) 0) = some (r1, r2) := H
 have A5 := ak_ A50
 clear A50
 have H' := ak_ H
 clear H
 go_enter Try.func59, Try.ntmps59
 go_wp2_with (first | ((with_reducible refine gate_callee (f := 60) rfl ?_); refine goesL_ (some 17) rfl rfl Try.func60 (by kernel_rfl) rfl #[.string a0, .int .i64 a1, .int .i64 a2] rfl (by (try simp only [List.map_toArray, List.map_cons, List.map_nil]); first | rfl) ?_; (with_reducible refine (octet_Cut.calls a0 a1 a2 t165 t166 _ A4.out).mono ?_); rintro e w6 ⟨rfl, hb⟩; refine ⟨_, rfl, ?_⟩; replace HB := bs_ HB hb; (try clear hb)) | ((with_reducible refine gate_dst (N := 21) rfl ?_); refine XRun.convL_ 21 rfl rfl 9 47 5 Try.underlying9 Try.underlying47 Try.underlying5 t165 rfl (by rfl) ?_; (with_reducible refine (conv9_47.calls t165 t167 _ A5.out).mono ?_); rintro e w7 ⟨v168, rfl, ho0, hb⟩; refine ⟨_, rfl, ?_⟩; have HO169 := ak_ (Kd.V_lower (Kd.V_mono (ok' := fun k_ => True) ho0 (fun k_ hk_ => trivial)) (below_size HB.out)); replace HB := bs_ HB hb; (try clear hb); (try clear ho0); obtain ⟨Ao8, co8, eo8⟩ := Kd.V_slice HO169.out; subst eo8))
 go_loopg [10, 23] k (fun kq v10 v23 w' => ∃ (x10_1 : Int) (x23_1 : Int), v10 = .int .u16 x10_1 ∧ v23 = .int .i64 x23_1 ∧ Aside0 (octet_get_uint16.l0 kq t166 x10_1 t167 (t167.length : Int) x23_1 = some (r1, r2)) ∧ Aside0 (kq ≤ k) ∧ Aside0 (Kd.V (Kd.int .u8) 5 w' w.heap.size (fun _ => True) (.slice Ao8 t167.length co8) t167) ∧ Aside0 (Below w.heap.size w w'))
 case atStart => exact ⟨(0), (0), (by rfl), (by rfl), H', ⟨Nat.le_refl _⟩, ⟨by exact HO169.out⟩, ⟨by exact HB.out⟩⟩
 case round =>
 clear H'
 try clear p2
 try clear c5
 try clear c6
 obtain ⟨x10_1, x23_1, rfl, rfl, HA, HK1, HO_21, HB⟩ := hrel
 cases gk with
 | zero => exact absurd HA.out (by simp [octet_get_uint16.l0])
 | succ k1 =>
 have H := HA.out
 clear HA
 simp only [octet_get_uint16.l0] at H
 by_cases c9 : x23_1 < (t167.length : Int)
 ·rw [if_pos c9] at H
  have c9b0 : decide (x23_1 < (t167.length : Int)) = true := decide_eq_true c9
  clear c9
  by_cases c10 : 0 ≤ x23_1
  ·rw [if_pos c10] at H
   have c10b0 : decide (0 ≤ x23_1) = true := decide_eq_true c10
   clear c10
   by_cases c11 : x23_1 < (t167.length : Int)
   ·rw [if_pos c11] at H
    have c11b0 : decide (x23_1 < (t167.length : Int)) = true := decide_eq_true c11
    clear c11
    have H' := ak_ H
    clear H
    have p170 : 0 ≤ (x23_1 : Int) := of_decide_eq_true (by first | (with_reducible assumption))
    have q170 : x23_1 < (t167.length : Int) := of_decide_eq_true (by first | (with_reducible assumption))
    obtain ⟨ad170, e170, hx170_0⟩ := Kd.at_int (Kd.V_reads' HO_21.out).2.2 x23_1 p170 q170
    cases e170
    replace p170 := eq_true p170
    replace q170 := eq_true q170
    go_wp2
    go_roundg k1
    case measure => have := HK1.out; omega
    case rel => exact ⟨(Go.bits .or .u16 (IntKind.u16.wrap (x10_1 * 256)) (IntKind.u16.wrap (rd t167 x23_1))), (wrap64 (x23_1 + 1)), (by rfl), (by rfl), H', ⟨by have := HK1.out; omega⟩, ⟨by exact HO_21.out⟩, ⟨by exact HB.out⟩⟩
   rw [if_neg c11] at H
   exact absurd H (by simp)
  rw [if_neg c10] at H
  exact absurd H (by simp)
 rw [if_neg c9] at H
 have c9b0 : decide (x23_1 < (t167.length : Int)) = false := decide_eq_false c9
 clear c9
 simp only [Option.some.injEq, Prod.mk.injEq] at H
 obtain ⟨rfl, rfl⟩ := H
 go_wp2
 go_ret2
 exact ⟨by rfl, by exact HB.out⟩

def octet_Get16.f (k : Nat) (a0 : ByteArray) (a1 : Int) : Option (Int × Bool) := (octet_get_uint16.f k a0 a1 2).bind fun bt171 => (some (bt171.1, bt171.2))
set_option maxHeartbeats 8000000 in
set_option maxRecDepth 100000 in
theorem octet_Get16.calls (k : Nat) (a0 : ByteArray) (a1 : Int) (r1 : Int) (r2 : Bool) (w : World) (h : octet_Get16.f k a0 a1 = some (r1, r2)) :
 Calls Try.prog 35 #[.string a0, .int .i64 a1] w fun e w' => e = .returned (.tuple #[.int .u16 r1, .bool r2]) ∧ Below w.heap.size w w' := by
 have HB := ak_ (Below.refl w.heap.size w)
 have H : ((octet_get_uint16.f k a0 a1 2).bind fun bt171 => (some (bt171.1, bt171.2))) = some (r1, r2) := h
 clear h
 replace H := Option.bind_eq_some_iff.mp H
 obtain ⟨⟨t171, t172⟩, A30, H⟩ := H
 replace H : (some (t171, t172)) = some (r1, r2) := H
 have A3 := ak_ A30
 clear A30
 simp only [Option.some.injEq, Prod.mk.injEq] at H
 obtain ⟨rfl, rfl⟩ := H
 go_enter Try.func35, Try.ntmps35
 go_wp2_with (first | ((with_reducible refine gate_callee (f := 59) rfl ?_); refine goesL_ (some 8) rfl rfl Try.func59 (by kernel_rfl) rfl #[.string a0, .int .i64 a1, .int .i64 2] rfl (by (try simp only [List.map_toArray, List.map_cons, List.map_nil]); first | rfl) ?_; (with_reducible refine (octet_get_uint16.calls k a0 a1 2 t171 t172 _ A3.out).mono ?_); rintro e w4 ⟨rfl, hb⟩; refine ⟨_, rfl, ?_⟩; replace HB := bs_ HB hb; (try clear hb)))
 go_ret2
 exact ⟨by rfl, by exact HB.out⟩

def octet_TakeRun.f (k : Nat) (a0 : ByteArray) (a1 : Int) : Option (ByteArray × Int × Bool) := (octet_Get16.f k a0 a1).bind fun bt173 => (if bt173.2 = true then ((octet_Cut.f a0 (wrap64 (a1 + 2)) (wrap64 (bt173.1))).bind fun bt175 => (if bt175.2 = true then (some (bt175.1, wrap64 ((wrap64 (a1 + 2)) + (bt175.1.size : Int)), true)) else (some ((⟨#[]⟩ : ByteArray), 0, false)))) else (some ((⟨#[]⟩ : ByteArray), 0, false)))
set_option maxHeartbeats 8000000 in
set_option maxRecDepth 100000 in
theorem octet_TakeRun.calls (k : Nat) (a0 : ByteArray) (a1 : Int) (r1 : ByteArray) (r2 : Int) (r3 : Bool) (w : World) (h : octet_TakeRun.f k a0 a1 = some (r1, r2, r3)) :
 Calls Try.prog 36 #[.string a0, .int .i64 a1] w fun e w' => e = .returned (.tuple #[.string r1, .int .i64 r2, .bool r3]) ∧ Below w.heap.size w w' := by
 have HB := ak_ (Below.refl w.heap.size w)
 have H : ((octet_Get16.f k a0 a1).bind fun bt173 => (if bt173.2 = true then ((octet_Cut.f a0 (wrap64 (a1 + 2)) (wrap64 (bt173.1))).bind fun bt175 => (if bt175.2 = true then (some (bt175.1, wrap64 ((wrap64 (a1 + 2)) + (bt175.1.size : Int)), true)) else (some ((⟨#[]⟩ : ByteArray), 0, false)))) else (some ((⟨#[]⟩ : ByteArray), 0, false)))) = some (r1, r2, r3) := h
 clear h
 replace H := Option.bind_eq_some_iff.mp H
 obtain ⟨⟨t173, t174⟩, A30, H⟩ := H
 replace H : (if t174 = true then ((octet_Cut.f a0 (wrap64 (a1 + 2)) (wrap64 (t173))).bind fun bt175 => (if bt175.2 = true then (some (bt175.1, wrap64 ((wrap64 (a1 + 2)) + (bt175.1.size : Int)), true)) else (some ((⟨#[]⟩ : ByteArray), 0, false)))) else (some ((⟨#[]⟩ : ByteArray), 0, false))) = some (r1, r2, r3) := H
 have A3 := ak_ A30
 clear A30
 by_cases c4 : t174 = true
 ·subst c4
  have H1 : ((octet_Cut.f a0 (wrap64 (a1 + 2)) (wrap64 (t173))).bind fun bt175 => (if bt175.2 = true then (some (bt175.1, wrap64 ((wrap64 (a1 + 2)) + (bt175.1.size : Int)), true)) else (some ((⟨#[]⟩ : ByteArray), 0, false)))) = some (r1, r2, r3) := by rw [if_pos rfl] at H; exact H
  clear H
  have H := H1
  clear H1
  replace H := Option.bind_eq_some_iff.mp H
  obtain ⟨⟨t175, t176⟩, A50, H⟩ := H
  replace H : (if t176 = true then (some (t175, wrap64 ((wrap64 (a1 + 2)) + (t175.size : Int)), true)) else (some ((⟨#[]⟩ : ByteArray), 0, false))) = some (r1, r2, r3) := H
  have A5 := ak_ A50
  clear A50
  by_cases c6 : t176 = true
  ·subst c6
   have H1 : (some (t175, wrap64 ((wrap64 (a1 + 2)) + (t175.size : Int)), true)) = some (r1, r2, r3) := by rw [if_pos rfl] at H; exact H
   clear H
   have H := H1
   clear H1
   simp only [Option.some.injEq, Prod.mk.injEq] at H
   obtain ⟨rfl, rfl, rfl⟩ := H
   go_enter Try.func36, Try.ntmps36
   go_wp2_with (first | ((with_reducible refine gate_callee (f := 35) rfl ?_); refine goesL_ (some 13) rfl rfl Try.func35 (by kernel_rfl) rfl #[.string a0, .int .i64 a1] rfl (by (try simp only [List.map_toArray, List.map_cons, List.map_nil]); first | rfl) ?_; (with_reducible refine (octet_Get16.calls k a0 a1 t173 true _ A3.out).mono ?_); rintro e w7 ⟨rfl, hb⟩; refine ⟨_, rfl, ?_⟩; replace HB := bs_ HB hb; (try clear hb)) | ((with_reducible refine gate_callee (f := 60) rfl ?_); refine goesL_ (some 24) rfl rfl Try.func60 (by kernel_rfl) rfl #[.string a0, .int .i64 (wrap64 (a1 + 2)), .int .i64 (wrap64 (t173))] rfl (by (try simp only [List.map_toArray, List.map_cons, List.map_nil]); first | rfl) ?_; (with_reducible refine (octet_Cut.calls a0 (wrap64 (a1 + 2)) (wrap64 (t173)) t175 true _ A5.out).mono ?_); rintro e w8 ⟨rfl, hb⟩; refine ⟨_, rfl, ?_⟩; replace HB := bs_ HB hb; (try clear hb)))
   go_ret3
   exact ⟨by rfl, by exact HB.out⟩
  replace c6 := Bool.eq_false_iff.mpr c6
  subst c6
  have H1 : (some ((⟨#[]⟩ : ByteArray), 0, false)) = some (r1, r2, r3) := by rw [if_neg (show ¬ (false = true) by decide)] at H; exact H
  clear H
  have H := H1
  clear H1
  simp only [Option.some.injEq, Prod.mk.injEq] at H
  obtain ⟨rfl, rfl, rfl⟩ := H
  go_enter Try.func36, Try.ntmps36
  go_wp2_with (first | ((with_reducible refine gate_callee (f := 35) rfl ?_); refine goesL_ (some 13) rfl rfl Try.func35 (by kernel_rfl) rfl #[.string a0, .int .i64 a1] rfl (by (try simp only [List.map_toArray, List.map_cons, List.map_nil]); first | rfl) ?_; (with_reducible refine (octet_Get16.calls k a0 a1 t173 true _ A3.out).mono ?_); rintro e w9 ⟨rfl, hb⟩; refine ⟨_, rfl, ?_⟩; replace HB := bs_ HB hb; (try clear hb)) | ((with_reducible refine gate_callee (f := 60) rfl ?_); refine goesL_ (some 24) rfl rfl Try.func60 (by kernel_rfl) rfl #[.string a0, .int .i64 (wrap64 (a1 + 2)), .int .i64 (wrap64 (t173))] rfl (by (try simp only [List.map_toArray, List.map_cons, List.map_nil]); first | rfl) ?_; (with_reducible refine (octet_Cut.calls a0 (wrap64 (a1 + 2)) (wrap64 (t173)) t175 false _ A5.out).mono ?_); rintro e w10 ⟨rfl, hb⟩; refine ⟨_, rfl, ?_⟩; replace HB := bs_ HB hb; (try clear hb)))
  go_ret3
  exact ⟨by rfl, by exact HB.out⟩
 replace c4 := Bool.eq_false_iff.mpr c4
 subst c4
 have H1 : (some ((⟨#[]⟩ : ByteArray), 0, false)) = some (r1, r2, r3) := by rw [if_neg (show ¬ (false = true) by decide)] at H; exact H
 clear H
 have H := H1
 clear H1
 simp only [Option.some.injEq, Prod.mk.injEq] at H
 obtain ⟨rfl, rfl, rfl⟩ := H
 go_enter Try.func36, Try.ntmps36
 go_wp2_with (first | ((with_reducible refine gate_callee (f := 35) rfl ?_); refine goesL_ (some 13) rfl rfl Try.func35 (by kernel_rfl) rfl #[.string a0, .int .i64 a1] rfl (by (try simp only [List.map_toArray, List.map_cons, List.map_nil]); first | rfl) ?_; (with_reducible refine (octet_Get16.calls k a0 a1 t173 false _ A3.out).mono ?_); rintro e w11 ⟨rfl, hb⟩; refine ⟨_, rfl, ?_⟩; replace HB := bs_ HB hb; (try clear hb)))
 go_ret3
 exact ⟨by rfl, by exact HB.out⟩

mutual
def opt6_Parse.l0 : Nat → ByteArray → List (S42) → Int → Option ((List (S42)) × Int)
  | 0, _, _, _ => none
  | k + 1, x0, x4, x5 => if x5 < (x0.size : Int) then ((octet_Get16.f k x0 x5).bind fun bt177 => ((octet_TakeRun.f k x0 (wrap64 (x5 + 2))).bind fun bt179 => (if bt177.2 = true then (opt6_Parse.j1 k x0 x4 bt177.1 bt179.1 bt179.2.1 (!bt179.2.2)) else (opt6_Parse.j1 k x0 x4 bt177.1 bt179.1 bt179.2.1 true)))) else (some (x4, 0))
def opt6_Parse.j1 : Nat → ByteArray → List (S42) → Int → ByteArray → Int → Bool → Option ((List (S42)) × Int)
  | 0, _, _, _, _, _, _ => none
  | k + 1, x0, x4, x6, x8, x9, x29 => if x29 = true then (some (([] : List (S42)), 3)) else (if (x4.length : Int) ≥ 128 then (some (([] : List (S42)), 6)) else (if x4.length < 5864062014805 then (opt6_Parse.l0 k x0 (x4 ++ [(⟨x6, x8⟩ : S42)]) x9) else (none)))
end
def opt6_Parse.f (k : Nat) (a0 : ByteArray) : Option ((List (S42)) × Int) := opt6_Parse.l0 k a0 ([] : List (S42)) 0
set_option maxHeartbeats 8000000 in
set_option maxRecDepth 100000 in
theorem opt6_Parse.calls (k : Nat) (a0 : ByteArray) (r1 : List (S42)) (r2 : Int) (w : World) (h : opt6_Parse.f k a0 = some (r1, r2)) :
 Calls Try.prog 19 #[.string a0] w fun e w' => ∃ v0_ : Value, e = .returned (.tuple #[v0_, .int .i64 r2]) ∧ Kd.R k42 42 w' w.heap.size (fun _ => True) v0_ r1 ∧ Below w.heap.size w w' := by
 have hu42 := Try.underlying42
 have HB := ak_ (Below.refl w.heap.size w)
 have H : (opt6_Parse.l0 k a0 ([] : List (S42)) 0) = some (r1, r2) := h
 clear h
 have H' := ak_ H
 clear H
 go_enter Try.func19, Try.ntmps19
 go_wp2
 go_loopg [4, 5] k (fun kq v4 v5 w' => ∃ (x4_1 : List (S42)) (x5_1 : Int), v5 = .int .i64 x5_1 ∧ Aside0 (opt6_Parse.l0 kq a0 x4_1 x5_1 = some (r1, r2)) ∧ Aside0 (kq ≤ k) ∧ Aside0 (Kd.R k42 42 w' w.heap.size (fun _ => True) v4 x4_1) ∧ Aside0 (Below w.heap.size w w'))
 case atStart => exact ⟨(([] : List (S42))), (0), (by rfl), H', ⟨Nat.le_refl _⟩, ⟨by first | exact Kd.R_nil _ _ _ _ _⟩, ⟨by exact HB.out⟩⟩
 case round =>
 clear H'
 try clear c1
 obtain ⟨x4_1, x5_1, rfl, HA, HK1, HO_4, HB⟩ := hrel
 cases gk with
 | zero => exact absurd HA.out (by simp [opt6_Parse.l0])
 | succ k1 =>
 have H := HA.out
 clear HA
 simp only [opt6_Parse.l0] at H
 by_cases c2 : x5_1 < (a0.size : Int)
 ·rw [if_pos c2] at H
  have c2b0 : decide (x5_1 < (a0.size : Int)) = true := decide_eq_true c2
  clear c2
  replace H := Option.bind_eq_some_iff.mp H
  obtain ⟨⟨t177, t178⟩, A30, H⟩ := H
  replace H : ((octet_TakeRun.f k1 a0 (wrap64 (x5_1 + 2))).bind fun bt179 => (if t178 = true then (opt6_Parse.j1 k1 a0 x4_1 t177 bt179.1 bt179.2.1 (!bt179.2.2)) else (opt6_Parse.j1 k1 a0 x4_1 t177 bt179.1 bt179.2.1 true))) = some (r1, r2) := H
  have A3 := ak_ A30
  clear A30
  replace H := Option.bind_eq_some_iff.mp H
  obtain ⟨⟨t179, t180, t181⟩, A40, H⟩ := H
  replace H : (if t178 = true then (opt6_Parse.j1 k1 a0 x4_1 t177 t179 t180 (!t181)) else (opt6_Parse.j1 k1 a0 x4_1 t177 t179 t180 true)) = some (r1, r2) := H
  have A4 := ak_ A40
  clear A40
  have HC5 := ak_ H
  clear H
  go_upto_region 6 with (first | ((with_reducible refine gate_callee (f := 35) rfl ?_); refine goesL_ (some 18) rfl rfl Try.func35 (by kernel_rfl) rfl #[.string a0, .int .i64 x5_1] rfl (by (try simp only [List.map_toArray, List.map_cons, List.map_nil]); first | rfl) ?_; (with_reducible refine (octet_Get16.calls k1 a0 x5_1 t177 t178 _ A3.out).mono ?_); rintro e w6 ⟨rfl, hb⟩; refine ⟨_, rfl, ?_⟩; replace HO_4 := ak_ (Kd.R_below HO_4.out hb); replace HB := bs_ HB hb; (try clear hb)) | ((with_reducible refine gate_callee (f := 36) rfl ?_); refine goesL_ (some 25) rfl rfl Try.func36 (by kernel_rfl) rfl #[.string a0, .int .i64 (wrap64 (x5_1 + 2))] rfl (by (try simp only [List.map_toArray, List.map_cons, List.map_nil]); first | rfl) ?_; (with_reducible refine (octet_TakeRun.calls k1 a0 (wrap64 (x5_1 + 2)) t179 t180 t181 _ A4.out).mono ?_); rintro e w7 ⟨rfl, hb⟩; refine ⟨_, rfl, ?_⟩; replace HO_4 := ak_ (Kd.R_below HO_4.out hb); replace HB := bs_ HB hb; (try clear hb)))
  (try simp only [Act.put, List.setIfInBounds_toArray, List.set_cons_zero, List.set_cons_succ])
  go_cut [29] (fun v29 wc => ∃ (kq : Nat) (x29_4 : Bool), v29 = .bool x29_4 ∧ Aside0 (opt6_Parse.j1 kq a0 x4_1 t177 t179 t180 x29_4 = some (r1, r2)) ∧ Aside0 (kq ≤ k1) ∧ Aside0 (Kd.R k42 42 wc w.heap.size (fun _ => True) u4 x4_1) ∧ Aside0 (Below w.heap.size w wc))
  case first =>
   have H := HC5.out
   clear HC5
   by_cases c8 : t178 = true
   ·subst c8
    have H1 : (opt6_Parse.j1 k1 a0 x4_1 t177 t179 t180 (!t181)) = some (r1, r2) := by rw [if_pos rfl] at H; exact H
    clear H
    have H := H1
    clear H1
    have H' := ak_ H
    clear H
    go_wp2
    go_meet
    case rel => exact ⟨_, (!t181), (by rfl), H', ⟨by have := HK1.out; first | omega⟩, ⟨by exact HO_4.out⟩, ⟨by exact HB.out⟩⟩
   replace c8 := Bool.eq_false_iff.mpr c8
   subst c8
   have H1 : (opt6_Parse.j1 k1 a0 x4_1 t177 t179 t180 true) = some (r1, r2) := by rw [if_neg (show ¬ (false = true) by decide)] at H; exact H
   clear H
   have H := H1
   clear H1
   have H' := ak_ H
   clear H
   go_wp2
   go_meet
   case rel => exact ⟨_, (true), (by rfl), H', ⟨by have := HK1.out; first | omega⟩, ⟨by exact HO_4.out⟩, ⟨by exact HB.out⟩⟩
  case rest =>
  clear HC5
  try clear c1
  try clear c2
  try clear c2b0
  try clear p2
  try clear c3
  try clear p6
  try clear c8
  obtain ⟨kq, x29_4, rfl, HA, HJ4, HO_4, HB⟩ := hcut
  cases kq with
  | zero => exact absurd HA.out (by simp [opt6_Parse.j1])
  | succ kj4 =>
  have H := HA.out
  clear HA
  simp only [opt6_Parse.j1] at H
  by_cases c9 : x29_4 = true
  ·subst c9
   have H1 : (some (([] : List (S42)), 3)) = some (r1, r2) := by rw [if_pos rfl] at H; exact H
   clear H
   have H := H1
   clear H1
   simp only [Option.some.injEq, Prod.mk.injEq] at H
   obtain ⟨rfl, rfl⟩ := H
   go_wp2
   go_ret2
   exact ⟨_, by rfl, by first | exact Kd.R_nil _ _ _ _ _, by exact HB.out⟩
  replace c9 := Bool.eq_false_iff.mpr c9
  subst c9
  have H1 : (if (x4_1.length : Int) ≥ 128 then (some (([] : List (S42)), 6)) else (if x4_1.length < 5864062014805 then (opt6_Parse.l0 kj4 a0 (x4_1 ++ [(⟨t177, t179⟩ : S42)]) t180) else (none))) = some (r1, r2) := by rw [if_neg (show ¬ (false = true) by decide)] at H; exact H
  clear H
  have H := H1
  clear H1
  by_cases c10 : (x4_1.length : Int) ≥ 128
  ·rw [if_pos c10] at H
   have c10b0 : decide (128 ≤ (x4_1.length : Int)) = true := decide_eq_true c10
   have c10b1 : decide (128 ≤ x4_1.length) = true := decide_eq_true (by omega)
   clear c10
   simp only [Option.some.injEq, Prod.mk.injEq] at H
   obtain ⟨rfl, rfl⟩ := H
   obtain ⟨Ao11, co11, eo11⟩ := Kd.R_slice HO_4.out
   subst eo11
   go_wp2
   go_ret2
   exact ⟨_, by rfl, by first | exact Kd.R_nil _ _ _ _ _, by exact HB.out⟩
  rw [if_neg c10] at H
  have c10b0 : decide (128 ≤ (x4_1.length : Int)) = false := decide_eq_false c10
  have c10b1 : decide (128 ≤ x4_1.length) = false := decide_eq_false (by omega)
  clear c10
  by_cases c12 : x4_1.length < 5864062014805
  ·rw [if_pos c12] at H
   have LMc12 := ak_ c12
   clear c12
   obtain ⟨y182, hy182⟩ : ∃ y_ : List (S42), y_ = (x4_1 ++ [(⟨t177, t179⟩ : S42)]) := ⟨_, rfl⟩
   replace H : (opt6_Parse.l0 kj4 a0 y182 t180) = some (r1, r2) := by first | (rw [hy182]; with_reducible exact H)
   have Ny182 := ak_ hy182
   clear hy182
   have H' := ak_ H
   clear H
   obtain ⟨Ao13, co13, eo13⟩ := Kd.R_slice HO_4.out
   subst eo13
   go_wp2_with (first | ((with_reducible refine gate_builtin (b := .append) (xs := #[.tmp 40, .tmp 44]) rfl ?_); at_builtin; refine Kd.R_append k42 (w0 := w) w.heap.size rfl (.tmp 40) (.tmp 44) 24 42 (.agg #[(.int .u16 0), (.string ⟨#[]⟩)]) 24 rfl Try.underlying24 info42 rfl (by decide) (by omega) (.slice Ao13 x4_1.length co13) x4_1 (⟨t177, t179⟩ : S42) [.int .u16 t177, .string t179] (fun _ => True) (fun _ => False) rfl rfl ?aP (fun _ hk => hk.elim) ?aF ?aO ?aB ?aS ?aL ?_; (case aP => exact k42_mkM _ _ _ (⟨t177, t179⟩ : S42)); (case aB => exact HB.out); (case aF => exact (fun _ _ => trivial)); (case aO => exact HO_4.out); (case aS => exact (below_size HB.out)); (case aL => have := LMc12.out; omega); intro v183 w14 ho hb hg hat; rw [← Ny182.out] at ho; replace HB := ak_ hb; have HO184 := ak_ ho; clear HO_4; clear ho hb hg hat))
   go_roundg kj4
   case measure => have := HK1.out; have := HJ4.out; omega
   case rel => exact ⟨(y182), (t180), (by rfl), H', ⟨by have := HK1.out; have := HJ4.out; omega⟩, ⟨by exact HO184.out⟩, ⟨by exact HB.out⟩⟩
  rw [if_neg c12] at H
  exact absurd H (by simp)
 rw [if_neg c2] at H
 have c2b0 : decide (x5_1 < (a0.size : Int)) = false := decide_eq_false c2
 clear c2
 simp only [Option.some.injEq, Prod.mk.injEq] at H
 obtain ⟨rfl, rfl⟩ := H
 go_wp2
 go_ret2
 exact ⟨_, by rfl, by exact HO_4.out, by exact HB.out⟩

def octet_get_uint32.l0 : Nat → Bool → Int → List Int → Int → Int → Option (Int × Bool)
  | 0, _, _, _, _, _ => none
  | k + 1, x9, x10, x21, x22, x23 => if x23 < x22 then (if 0 ≤ x23 then (if x23 < (x21.length : Int) then (octet_get_uint32.l0 k x9 (Go.bits .or .u32 ((x10 * 256) % 4294967296) ((rd x21 x23) % 4294967296)) x21 x22 (wrap64 (x23 + 1))) else (none)) else (none)) else (some (x10, x9))
def octet_get_uint32.f (k : Nat) (a0 : ByteArray) (a1 : Int) (a2 : Int) : Option (Int × Bool) := (octet_Cut.f a0 a1 a2).bind fun bt185 => ((conv9_47.f bt185.1).bind fun t187 => (octet_get_uint32.l0 k bt185.2 0 t187 (t187.length : Int) 0))
set_option maxHeartbeats 8000000 in
set_option maxRecDepth 100000 in
theorem octet_get_uint32.calls (k : Nat) (a0 : ByteArray) (a1 : Int) (a2 : Int) (r1 : Int) (r2 : Bool) (w : World) (h : octet_get_uint32.f k a0 a1 a2 = some (r1, r2)) :
 Calls Try.prog 50 #[.string a0, .int .i64 a1, .int .i64 a2] w fun e w' => e = .returned (.tuple #[.int .u32 r1, .bool r2]) ∧ Below w.heap.size w w' := by
 have HB := ak_ (Below.refl w.heap.size w)
 have H : ((octet_Cut.f a0 a1 a2).bind fun bt185 => ((conv9_47.f bt185.1).bind fun t187 => (octet_get_uint32.l0 k bt185.2 0 t187 (t187.length : Int) 0))) = some (r1, r2) := h
 clear h
 replace H := Option.bind_eq_some_iff.mp H
 obtain ⟨⟨t185, t186⟩, A40, H⟩ := H
 replace H : ((conv9_47.f t185).bind fun t187 => (octet_get_uint32.l0 k t186 0 t187 (t187.length : Int) 0)) = some (r1, r2) := H
 have A4 := ak_ A40
 clear A40
 replace H := Option.bind_eq_some_iff.mp H
 obtain ⟨t187, A50, H⟩ := H
 replace H : (octet_get_uint32.l0 k t186 0 t187 (t187.length : Int) 0) = some (r1, r2) := H
 have A5 := ak_ A50
 clear A50
 have H' := ak_ H
 clear H
 go_enter Try.func50, Try.ntmps50
 go_wp2_with (first | ((with_reducible refine gate_callee (f := 60) rfl ?_); refine goesL_ (some 17) rfl rfl Try.func60 (by kernel_rfl) rfl #[.string a0, .int .i64 a1, .int .i64 a2] rfl (by (try simp only [List.map_toArray, List.map_cons, List.map_nil]); first | rfl) ?_; (with_reducible refine (octet_Cut.calls a0 a1 a2 t185 t186 _ A4.out).mono ?_); rintro e w6 ⟨rfl, hb⟩; refine ⟨_, rfl, ?_⟩; replace HB := bs_ HB hb; (try clear hb)) | ((with_reducible refine gate_dst (N := 21) rfl ?_); refine XRun.convL_ 21 rfl rfl 9 47 5 Try.underlying9 Try.underlying47 Try.underlying5 t185 rfl (by rfl) ?_; (with_reducible refine (conv9_47.calls t185 t187 _ A5.out).mono ?_); rintro e w7 ⟨v188, rfl, ho0, hb⟩; refine ⟨_, rfl, ?_⟩; have HO189 := ak_ (Kd.V_lower (Kd.V_mono (ok' := fun k_ => True) ho0 (fun k_ hk_ => trivial)) (below_size HB.out)); replace HB := bs_ HB hb; (try clear hb); (try clear ho0); obtain ⟨Ao8, co8, eo8⟩ := Kd.V_slice HO189.out; subst eo8))
 go_loopg [10, 23] k (fun kq v10 v23 w' => ∃ (x10_1 : Int) (x23_1 : Int), v10 = .int .u32 x10_1 ∧ v23 = .int .i64 x23_1 ∧ Aside0 (octet_get_uint32.l0 kq t186 x10_1 t187 (t187.length : Int) x23_1 = some (r1, r2)) ∧ Aside0 (kq ≤ k) ∧ Aside0 (Kd.V (Kd.int .u8) 5 w' w.heap.size (fun _ => True) (.slice Ao8 t187.length co8) t187) ∧ Aside0 (Below w.heap.size w w'))
 case atStart => exact ⟨(0), (0), (by rfl), (by rfl), H', ⟨Nat.le_refl _⟩, ⟨by exact HO189.out⟩, ⟨by exact HB.out⟩⟩
 case round =>
 clear H'
 try clear p2
 try clear c5
 try clear c6
 obtain ⟨x10_1, x23_1, rfl, rfl, HA, HK1, HO_21, HB⟩ := hrel
 cases gk with
 | zero => exact absurd HA.out (by simp [octet_get_uint32.l0])
 | succ k1 =>
 have H := HA.out
 clear HA
 simp only [octet_get_uint32.l0] at H
 by_cases c9 : x23_1 < (t187.length : Int)
 ·rw [if_pos c9] at H
  have c9b0 : decide (x23_1 < (t187.length : Int)) = true := decide_eq_true c9
  clear c9
  by_cases c10 : 0 ≤ x23_1
  ·rw [if_pos c10] at H
   have c10b0 : decide (0 ≤ x23_1) = true := decide_eq_true c10
   clear c10
   by_cases c11 : x23_1 < (t187.length : Int)
   ·rw [if_pos c11] at H
    have c11b0 : decide (x23_1 < (t187.length : Int)) = true := decide_eq_true c11
    clear c11
    have H' := ak_ H
    clear H
    have p190 : 0 ≤ (x23_1 : Int) := of_decide_eq_true (by first | (with_reducible assumption))
    have q190 : x23_1 < (t187.length : Int) := of_decide_eq_true (by first | (with_reducible assumption))
    obtain ⟨ad190, e190, hx190_0⟩ := Kd.at_int (Kd.V_reads' HO_21.out).2.2 x23_1 p190 q190
    cases e190
    replace p190 := eq_true p190
    replace q190 := eq_true q190
    go_wp2
    go_roundg k1
    case measure => have := HK1.out; omega
    case rel => exact ⟨(Go.bits .or .u32 ((x10_1 * 256) % 4294967296) ((rd t187 x23_1) % 4294967296)), (wrap64 (x23_1 + 1)), (by rfl), (by rfl), H', ⟨by have := HK1.out; omega⟩, ⟨by exact HO_21.out⟩, ⟨by exact HB.out⟩⟩
   rw [if_neg c11] at H
   exact absurd H (by simp)
  rw [if_neg c10] at H
  exact absurd H (by simp)
 rw [if_neg c9] at H
 have c9b0 : decide (x23_1 < (t187.length : Int)) = false := decide_eq_false c9
 clear c9
 simp only [Option.some.injEq, Prod.mk.injEq] at H
 obtain ⟨rfl, rfl⟩ := H
 go_wp2
 go_ret2
 exact ⟨by rfl, by exact HB.out⟩

def octet_Get32.f (k : Nat) (a0 : ByteArray) (a1 : Int) : Option (Int × Bool) := (octet_get_uint32.f k a0 a1 4).bind fun bt191 => (some (bt191.1, bt191.2))
set_option maxHeartbeats 8000000 in
set_option maxRecDepth 100000 in
theorem octet_Get32.calls (k : Nat) (a0 : ByteArray) (a1 : Int) (r1 : Int) (r2 : Bool) (w : World) (h : octet_Get32.f k a0 a1 = some (r1, r2)) :
 Calls Try.prog 29 #[.string a0, .int .i64 a1] w fun e w' => e = .returned (.tuple #[.int .u32 r1, .bool r2]) ∧ Below w.heap.size w w' := by
 have HB := ak_ (Below.refl w.heap.size w)
 have H : ((octet_get_uint32.f k a0 a1 4).bind fun bt191 => (some (bt191.1, bt191.2))) = some (r1, r2) := h
 clear h
 replace H := Option.bind_eq_some_iff.mp H
 obtain ⟨⟨t191, t192⟩, A30, H⟩ := H
 replace H : (some (t191, t192)) = some (r1, r2) := H
 have A3 := ak_ A30
 clear A30
 simp only [Option.some.injEq, Prod.mk.injEq] at H
 obtain ⟨rfl, rfl⟩ := H
 go_enter Try.func29, Try.ntmps29
 go_wp2_with (first | ((with_reducible refine gate_callee (f := 50) rfl ?_); refine goesL_ (some 8) rfl rfl Try.func50 (by kernel_rfl) rfl #[.string a0, .int .i64 a1, .int .i64 4] rfl (by (try simp only [List.map_toArray, List.map_cons, List.map_nil]); first | rfl) ?_; (with_reducible refine (octet_get_uint32.calls k a0 a1 4 t191 t192 _ A3.out).mono ?_); rintro e w4 ⟨rfl, hb⟩; refine ⟨_, rfl, ?_⟩; replace HB := bs_ HB hb; (try clear hb)))
 go_ret2
 exact ⟨by rfl, by exact HB.out⟩

def wire6_only.f (a0 : Bool) (a1 : Bool) : Option (Int) := if a0 = true then (if a1 = true then (some 130) else (some 0)) else (some 130)
set_option maxHeartbeats 8000000 in
set_option maxRecDepth 100000 in
theorem wire6_only.calls (a0 : Bool) (a1 : Bool) (r : Int) (w : World) (h : wire6_only.f a0 a1 = some r) :
 Calls Try.prog 51 #[.bool a0, .bool a1] w fun e w' => e = .returned (.int .i64 r) ∧ Drawn0 w w' := by
 have H : (if a0 = true then (if a1 = true then (some 130) else (some 0)) else (some 130)) = some r := h
 clear h
 by_cases c3 : a0 = true
 ·subst c3
  have H1 : (if a1 = true then (some 130) else (some 0)) = some r := by rw [if_pos rfl] at H; exact H
  clear H
  have H := H1
  clear H1
  by_cases c4 : a1 = true
  ·subst c4
   have H1 : (some 130) = some r := by rw [if_pos rfl] at H; exact H
   clear H
   have H := H1
   clear H1
   obtain rfl := Option.some.inj H
   go_enter Try.func51, Try.ntmps51
   go_wp2
   go_ret
   exact ⟨by rfl, by repeat (first | exact Drawn0.refl _)⟩
  replace c4 := Bool.eq_false_iff.mpr c4
  subst c4
  have H1 : (some 0) = some r := by rw [if_neg (show ¬ (false = true) by decide)] at H; exact H
  clear H
  have H := H1
  clear H1
  obtain rfl := Option.some.inj H
  go_enter Try.func51, Try.ntmps51
  go_wp2
  go_ret
  exact ⟨by rfl, by repeat (first | exact Drawn0.refl _)⟩
 replace c3 := Bool.eq_false_iff.mpr c3
 subst c3
 have H1 : (some 130) = some r := by rw [if_neg (show ¬ (false = true) by decide)] at H; exact H
 clear H
 have H := H1
 clear H1
 obtain rfl := Option.some.inj H
 go_enter Try.func51, Try.ntmps51
 go_wp2
 go_ret
 exact ⟨by rfl, by repeat (first | exact Drawn0.refl _)⟩

def opt6_GetStatus.f (k : Nat) (a0 : ByteArray) : Option (Int × Bool) := (octet_Get16.f k a0 0).bind fun bt193 => (if bt193.2 = true then (some (wrap64 (bt193.1), true)) else (some ((-1), false)))
set_option maxHeartbeats 8000000 in
set_option maxRecDepth 100000 in
theorem opt6_GetStatus.calls (k : Nat) (a0 : ByteArray) (r1 : Int) (r2 : Bool) (w : World) (h : opt6_GetStatus.f k a0 = some (r1, r2)) :
 Calls Try.prog 52 #[.string a0] w fun e w' => e = .returned (.tuple #[.int .i64 r1, .bool r2]) ∧ Below w.heap.size w w' := by
 have HB := ak_ (Below.refl w.heap.size w)
 have H : ((octet_Get16.f k a0 0).bind fun bt193 => (if bt193.2 = true then (some (wrap64 (bt193.1), true)) else (some ((-1), false)))) = some (r1, r2) := h
 clear h
 replace H := Option.bind_eq_some_iff.mp H
 obtain ⟨⟨t193, t194⟩, A20, H⟩ := H
 replace H : (if t194 = true then (some (wrap64 (t193), true)) else (some ((-1), false))) = some (r1, r2) := H
 have A2 := ak_ A20
 clear A20
 by_cases c3 : t194 = true
 ·subst c3
  have H1 : (some (wrap64 (t193), true)) = some (r1, r2) := by rw [if_pos rfl] at H; exact H
  clear H
  have H := H1
  clear H1
  simp only [Option.some.injEq, Prod.mk.injEq] at H
  obtain ⟨rfl, rfl⟩ := H
  go_enter Try.func52, Try.ntmps52
  go_wp2_with (first | ((with_reducible refine gate_callee (f := 35) rfl ?_); refine goesL_ (some 8) rfl rfl Try.func35 (by kernel_rfl) rfl #[.string a0, .int .i64 0] rfl (by (try simp only [List.map_toArray, List.map_cons, List.map_nil]); first | rfl) ?_; (with_reducible refine (octet_Get16.calls k a0 0 t193 true _ A2.out).mono ?_); rintro e w4 ⟨rfl, hb⟩; refine ⟨_, rfl, ?_⟩; replace HB := bs_ HB hb; (try clear hb)))
  go_ret2
  exact ⟨by rfl, by exact HB.out⟩
 replace c3 := Bool.eq_false_iff.mpr c3
 subst c3
 have H1 : (some ((-1), false)) = some (r1, r2) := by rw [if_neg (show ¬ (false = true) by decide)] at H; exact H
 clear H
 have H := H1
 clear H1
 simp only [Option.some.injEq, Prod.mk.injEq] at H
 obtain ⟨rfl, rfl⟩ := H
 go_enter Try.func52, Try.ntmps52
 go_wp2_with (first | ((with_reducible refine gate_callee (f := 35) rfl ?_); refine goesL_ (some 8) rfl rfl Try.func35 (by kernel_rfl) rfl #[.string a0, .int .i64 0] rfl (by (try simp only [List.map_toArray, List.map_cons, List.map_nil]); first | rfl) ?_; (with_reducible refine (octet_Get16.calls k a0 0 t193 false _ A2.out).mono ?_); rintro e w5 ⟨rfl, hb⟩; refine ⟨_, rfl, ?_⟩; replace HB := bs_ HB hb; (try clear hb)))
 go_ret2
 exact ⟨by rfl, by exact HB.out⟩

-- (not needed: function 77 (slices_IndexFunc_int_int))

-- (not needed: function 81 (opt6_must))

-- (not needed: function 80 (opt6_ahead))

-- (not needed: function 82 (opt6_take))

def octet_get_uint64.l0 : Nat → Bool → Int → List Int → Int → Int → Option (Int × Bool)
  | 0, _, _, _, _, _ => none
  | k + 1, x9, x10, x21, x22, x23 => if x23 < x22 then (if 0 ≤ x23 then (if x23 < (x21.length : Int) then (octet_get_uint64.l0 k x9 (Go.bits .or .u64 (IntKind.u64.wrap (x10 * 256)) (IntKind.u64.wrap (rd x21 x23))) x21 x22 (wrap64 (x23 + 1))) else (none)) else (none)) else (some (x10, x9))
def octet_get_uint64.f (k : Nat) (a0 : ByteArray) (a1 : Int) (a2 : Int) : Option (Int × Bool) := (octet_Cut.f a0 a1 a2).bind fun bt195 => ((conv9_47.f bt195.1).bind fun t197 => (octet_get_uint64.l0 k bt195.2 0 t197 (t197.length : Int) 0))
set_option maxHeartbeats 8000000 in
set_option maxRecDepth 100000 in
theorem octet_get_uint64.calls (k : Nat) (a0 : ByteArray) (a1 : Int) (a2 : Int) (r1 : Int) (r2 : Bool) (w : World) (h : octet_get_uint64.f k a0 a1 a2 = some (r1, r2)) :
 Calls Try.prog 109 #[.string a0, .int .i64 a1, .int .i64 a2] w fun e w' => e = .returned (.tuple #[.int .u64 r1, .bool r2]) ∧ Below w.heap.size w w' := by
 have HB := ak_ (Below.refl w.heap.size w)
 have H : ((octet_Cut.f a0 a1 a2).bind fun bt195 => ((conv9_47.f bt195.1).bind fun t197 => (octet_get_uint64.l0 k bt195.2 0 t197 (t197.length : Int) 0))) = some (r1, r2) := h
 clear h
 replace H := Option.bind_eq_some_iff.mp H
 obtain ⟨⟨t195, t196⟩, A40, H⟩ := H
 replace H : ((conv9_47.f t195).bind fun t197 => (octet_get_uint64.l0 k t196 0 t197 (t197.length : Int) 0)) = some (r1, r2) := H
 have A4 := ak_ A40
 clear A40
 replace H := Option.bind_eq_some_iff.mp H
 obtain ⟨t197, A50, H⟩ := H
 replace H : (octet_get_uint64.l0 k t196 0 t197 (t197.length : Int) 0) = some (r1, r2) := H
 have A5 := ak_ A50
 clear A50
 have H' := ak_ H
 clear H
 go_enter Try.func109, Try.ntmps109
 go_wp2_with (first | ((with_reducible refine gate_callee (f := 60) rfl ?_); refine goesL_ (some 17) rfl rfl Try.func60 (by kernel_rfl) rfl #[.string a0, .int .i64 a1, .int .i64 a2] rfl (by (try simp only [List.map_toArray, List.map_cons, List.map_nil]); first | rfl) ?_; (with_reducible refine (octet_Cut.calls a0 a1 a2 t195 t196 _ A4.out).mono ?_); rintro e w6 ⟨rfl, hb⟩; refine ⟨_, rfl, ?_⟩; replace HB := bs_ HB hb; (try clear hb)) | ((with_reducible refine gate_dst (N := 21) rfl ?_); refine XRun.convL_ 21 rfl rfl 9 47 5 Try.underlying9 Try.underlying47 Try.underlying5 t195 rfl (by rfl) ?_; (with_reducible refine (conv9_47.calls t195 t197 _ A5.out).mono ?_); rintro e w7 ⟨v198, rfl, ho0, hb⟩; refine ⟨_, rfl, ?_⟩; have HO199 := ak_ (Kd.V_lower (Kd.V_mono (ok' := fun k_ => True) ho0 (fun k_ hk_ => trivial)) (below_size HB.out)); replace HB := bs_ HB hb; (try clear hb); (try clear ho0); obtain ⟨Ao8, co8, eo8⟩ := Kd.V_slice HO199.out; subst eo8))
 go_loopg [10, 23] k (fun kq v10 v23 w' => ∃ (x10_1 : Int) (x23_1 : Int), v10 = .int .u64 x10_1 ∧ v23 = .int .i64 x23_1 ∧ Aside0 (octet_get_uint64.l0 kq t196 x10_1 t197 (t197.length : Int) x23_1 = some (r1, r2)) ∧ Aside0 (kq ≤ k) ∧ Aside0 (Kd.V (Kd.int .u8) 5 w' w.heap.size (fun _ => True) (.slice Ao8 t197.length co8) t197) ∧ Aside0 (Below w.heap.size w w'))
 case atStart => exact ⟨(0), (0), (by rfl), (by rfl), H', ⟨Nat.le_refl _⟩, ⟨by exact HO199.out⟩, ⟨by exact HB.out⟩⟩
 case round =>
 clear H'
 try clear c1
 try clear p2
 try clear c6
 obtain ⟨x10_1, x23_1, rfl, rfl, HA, HK1, HO_21, HB⟩ := hrel
 cases gk with
 | zero => exact absurd HA.out (by simp [octet_get_uint64.l0])
 | succ k1 =>
 have H := HA.out
 clear HA
 simp only [octet_get_uint64.l0] at H
 by_cases c9 : x23_1 < (t197.length : Int)
 ·rw [if_pos c9] at H
  have c9b0 : decide (x23_1 < (t197.length : Int)) = true := decide_eq_true c9
  clear c9
  by_cases c10 : 0 ≤ x23_1
  ·rw [if_pos c10] at H
   have c10b0 : decide (0 ≤ x23_1) = true := decide_eq_true c10
   clear c10
   by_cases c11 : x23_1 < (t197.length : Int)
   ·rw [if_pos c11] at H
    have c11b0 : decide (x23_1 < (t197.length : Int)) = true := decide_eq_true c11
    clear c11
    have H' := ak_ H
    clear H
    have p200 : 0 ≤ (x23_1 : Int) := of_decide_eq_true (by first | (with_reducible assumption))
    have q200 : x23_1 < (t197.length : Int) := of_decide_eq_true (by first | (with_reducible assumption))
    obtain ⟨ad200, e200, hx200_0⟩ := Kd.at_int (Kd.V_reads' HO_21.out).2.2 x23_1 p200 q200
    cases e200
    replace p200 := eq_true p200
    replace q200 := eq_true q200
    go_wp2
    go_roundg k1
    case measure => have := HK1.out; omega
    case rel => exact ⟨(Go.bits .or .u64 (IntKind.u64.wrap (x10_1 * 256)) (IntKind.u64.wrap (rd t197 x23_1))), (wrap64 (x23_1 + 1)), (by rfl), (by rfl), H', ⟨by have := HK1.out; omega⟩, ⟨by exact HO_21.out⟩, ⟨by exact HB.out⟩⟩
   rw [if_neg c11] at H
   exact absurd H (by simp)
  rw [if_neg c10] at H
  exact absurd H (by simp)
 rw [if_neg c9] at H
 have c9b0 : decide (x23_1 < (t197.length : Int)) = false := decide_eq_false c9
 clear c9
 simp only [Option.some.injEq, Prod.mk.injEq] at H
 obtain ⟨rfl, rfl⟩ := H
 go_wp2
 go_ret2
 exact ⟨by rfl, by exact HB.out⟩

def octet_Get64.f (k : Nat) (a0 : ByteArray) (a1 : Int) : Option (Int × Bool) := (octet_get_uint64.f k a0 a1 8).bind fun bt201 => (some (bt201.1, bt201.2))
set_option maxHeartbeats 8000000 in
set_option maxRecDepth 100000 in
theorem octet_Get64.calls (k : Nat) (a0 : ByteArray) (a1 : Int) (r1 : Int) (r2 : Bool) (w : World) (h : octet_Get64.f k a0 a1 = some (r1, r2)) :
 Calls Try.prog 102 #[.string a0, .int .i64 a1] w fun e w' => e = .returned (.tuple #[.int .u64 r1, .bool r2]) ∧ Below w.heap.size w w' := by
 have HB := ak_ (Below.refl w.heap.size w)
 have H : ((octet_get_uint64.f k a0 a1 8).bind fun bt201 => (some (bt201.1, bt201.2))) = some (r1, r2) := h
 clear h
 replace H := Option.bind_eq_some_iff.mp H
 obtain ⟨⟨t201, t202⟩, A30, H⟩ := H
 replace H : (some (t201, t202)) = some (r1, r2) := H
 have A3 := ak_ A30
 clear A30
 simp only [Option.some.injEq, Prod.mk.injEq] at H
 obtain ⟨rfl, rfl⟩ := H
 go_enter Try.func102, Try.ntmps102
 go_wp2_with (first | ((with_reducible refine gate_callee (f := 109) rfl ?_); refine goesL_ (some 8) rfl rfl Try.func109 (by kernel_rfl) rfl #[.string a0, .int .i64 a1, .int .i64 8] rfl (by (try simp only [List.map_toArray, List.map_cons, List.map_nil]); first | rfl) ?_; (with_reducible refine (octet_get_uint64.calls k a0 a1 8 t201 t202 _ A3.out).mono ?_); rintro e w4 ⟨rfl, hb⟩; refine ⟨_, rfl, ?_⟩; replace HB := bs_ HB hb; (try clear hb)))
 go_ret2
 exact ⟨by rfl, by exact HB.out⟩

def octet_GetAddr.f (k : Nat) (a0 : ByteArray) (a1 : Int) : Option (Int × Int × Bool) := (octet_Cut.f a0 a1 16).bind fun bt204 => (if bt204.2 = true then ((octet_Get64.f k bt204.1 0).bind fun bt206 => ((octet_Get64.f k bt204.1 8).bind fun bt208 => (some (bt206.1, bt208.1, true)))) else (some (0, 0, false)))
set_option maxHeartbeats 8000000 in
set_option maxRecDepth 100000 in
theorem octet_GetAddr.calls (k : Nat) (a0 : ByteArray) (a1 : Int) (r1 : Int) (r2 : Int) (r3 : Bool) (w : World) (h : octet_GetAddr.f k a0 a1 = some (r1, r2, r3)) :
 Calls Try.prog 95 #[.string a0, .int .i64 a1] w fun e w' => e = .returned (.tuple #[.agg #[.int .u64 r1, .int .u64 r2], .bool r3]) ∧ Below w.heap.size w w' := by
 have hu54 := Try.underlying54
 have HB := ak_ (Below.refl w.heap.size w)
 have H : ((octet_Cut.f a0 a1 16).bind fun bt204 => (if bt204.2 = true then ((octet_Get64.f k bt204.1 0).bind fun bt206 => ((octet_Get64.f k bt204.1 8).bind fun bt208 => (some (bt206.1, bt208.1, true)))) else (some (0, 0, false)))) = some (r1, r2, r3) := h
 clear h
 replace H := Option.bind_eq_some_iff.mp H
 obtain ⟨⟨t204, t205⟩, A30, H⟩ := H
 replace H : (if t205 = true then ((octet_Get64.f k t204 0).bind fun bt206 => ((octet_Get64.f k t204 8).bind fun bt208 => (some (bt206.1, bt208.1, true)))) else (some (0, 0, false))) = some (r1, r2, r3) := H
 have A3 := ak_ A30
 clear A30
 by_cases c4 : t205 = true
 ·subst c4
  have H1 : ((octet_Get64.f k t204 0).bind fun bt206 => ((octet_Get64.f k t204 8).bind fun bt208 => (some (bt206.1, bt208.1, true)))) = some (r1, r2, r3) := by rw [if_pos rfl] at H; exact H
  clear H
  have H := H1
  clear H1
  replace H := Option.bind_eq_some_iff.mp H
  obtain ⟨⟨t206, t207⟩, A50, H⟩ := H
  replace H : ((octet_Get64.f k t204 8).bind fun bt208 => (some (t206, bt208.1, true))) = some (r1, r2, r3) := H
  have A5 := ak_ A50
  clear A50
  replace H := Option.bind_eq_some_iff.mp H
  obtain ⟨⟨t208, t209⟩, A60, H⟩ := H
  replace H : (some (t206, t208, true)) = some (r1, r2, r3) := H
  have A6 := ak_ A60
  clear A60
  simp only [Option.some.injEq, Prod.mk.injEq] at H
  obtain ⟨rfl, rfl, rfl⟩ := H
  go_enter Try.func95, Try.ntmps95
  go_wp2_with (first | ((with_reducible refine gate_dst (N := 4) rfl ?_); refine box_event ?hg (N := 4) ?hd (cs := #[.int .u64 0, .int .u64 0]) (t := 54) ?hr ?_; (case hd => rfl); (case hg => rfl); (case hr => go_simp; done); intro gb203 hg w7 hbox hb; have BK203 := ak_ hbox; have GW203 := gz_ HB hg; have GE203 := gz_ HB hg; replace HB := bs_ HB hb; clear hb hbox hg) | ((with_reducible refine gate_callee (f := 60) rfl ?_); refine goesL_ (some 15) rfl rfl Try.func60 (by kernel_rfl) rfl #[.string a0, .int .i64 a1, .int .i64 16] rfl (by (try simp only [List.map_toArray, List.map_cons, List.map_nil]); first | rfl) ?_; (with_reducible refine (octet_Cut.calls a0 a1 16 t204 true _ A3.out).mono ?_); rintro e w8 ⟨rfl, hb⟩; refine ⟨_, rfl, ?_⟩; replace BK203 := bb_ BK203 hb; replace HB := bs_ HB hb; (try clear hb)) | ((with_reducible refine gate_callee (f := 102) rfl ?_); refine goesL_ (some 23) rfl rfl Try.func102 (by kernel_rfl) rfl #[.string t204, .int .i64 0] rfl (by (try simp only [List.map_toArray, List.map_cons, List.map_nil]); first | rfl) ?_; (with_reducible refine (octet_Get64.calls k t204 0 t206 t207 _ A5.out).mono ?_); rintro e w9 ⟨rfl, hb⟩; refine ⟨_, rfl, ?_⟩; replace BK203 := bb_ BK203 hb; replace HB := bs_ HB hb; (try clear hb)) | ((with_reducible refine gate_callee (f := 102) rfl ?_); refine goesL_ (some 28) rfl rfl Try.func102 (by kernel_rfl) rfl #[.string t204, .int .i64 8] rfl (by (try simp only [List.map_toArray, List.map_cons, List.map_nil]); first | rfl) ?_; (with_reducible refine (octet_Get64.calls k t204 8 t208 t209 _ A6.out).mono ?_); rintro e w10 ⟨rfl, hb⟩; refine ⟨_, rfl, ?_⟩; replace BK203 := bb_ BK203 hb; replace HB := bs_ HB hb; (try clear hb); have hz11 := bz2_ BK203))
  refine bodyPost_ret (results_ct rfl _ _ gb203 54 #[.int .u64 t206, .int .u64 t208] (0, 0) _ rfl (by refine blk_put (cs := #[.int .u64 t206, .int .u64 0]) ?_ 1 _ rfl; refine blk_put (cs := #[.int .u64 0, .int .u64 0]) ?_ 0 _ rfl; exact BK203.out) Try.underlying54 rfl (by kernel_rfl)) rfl ?_
  exact ⟨by rfl, by repeat (first | (with_reducible first | exact HB.out | refine below_set ?_ GE203.out))⟩
 replace c4 := Bool.eq_false_iff.mpr c4
 subst c4
 have H1 : (some (0, 0, false)) = some (r1, r2, r3) := by rw [if_neg (show ¬ (false = true) by decide)] at H; exact H
 clear H
 have H := H1
 clear H1
 simp only [Option.some.injEq, Prod.mk.injEq] at H
 obtain ⟨rfl, rfl, rfl⟩ := H
 go_enter Try.func95, Try.ntmps95
 go_wp2_with (first | ((with_reducible refine gate_dst (N := 4) rfl ?_); refine box_event ?hg (N := 4) ?hd (cs := #[.int .u64 0, .int .u64 0]) (t := 54) ?hr ?_; (case hd => rfl); (case hg => rfl); (case hr => go_simp; done); intro gb203 hg w12 hbox hb; have BK203 := ak_ hbox; have GW203 := gz_ HB hg; have GE203 := gz_ HB hg; replace HB := bs_ HB hb; clear hb hbox hg) | ((with_reducible refine gate_callee (f := 60) rfl ?_); refine goesL_ (some 15) rfl rfl Try.func60 (by kernel_rfl) rfl #[.string a0, .int .i64 a1, .int .i64 16] rfl (by (try simp only [List.map_toArray, List.map_cons, List.map_nil]); first | rfl) ?_; (with_reducible refine (octet_Cut.calls a0 a1 16 t204 false _ A3.out).mono ?_); rintro e w13 ⟨rfl, hb⟩; refine ⟨_, rfl, ?_⟩; replace BK203 := bb_ BK203 hb; replace HB := bs_ HB hb; (try clear hb); have hz14 := bz2_ BK203))
 refine bodyPost_ret (results_ct rfl _ _ gb203 54 #[.int .u64 0, .int .u64 0] (0, 0) _ rfl (by refine blk_put (cs := #[.int .u64 0, .int .u64 0]) ?_ 1 _ rfl; refine blk_put (cs := #[.int .u64 0, .int .u64 0]) ?_ 0 _ rfl; exact BK203.out) Try.underlying54 rfl (by kernel_rfl)) rfl ?_
 exact ⟨by rfl, by repeat (first | (with_reducible first | exact HB.out | refine below_set ?_ GE203.out))⟩

-- (not needed: function 83 (opt6_readInner))

end Go.Proofs.Ythadapbekmmgpaa.X
