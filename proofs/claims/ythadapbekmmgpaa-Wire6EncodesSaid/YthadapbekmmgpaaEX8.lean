/- Functions of the program as Lean functions, and that the calls come to them: no condition.  By this session's own program (wip/xprint). -/
import Derived.Test.YthadapbekmmgpaaEX0
import Derived.Test.YthadapbekmmgpaaEX4
import Derived.Test.YthadapbekmmgpaaEX7
namespace Go.Proofs.Ythadapbekmmgpaa.X
open Go.RowKit Go.Proofs.YthadapbekmmgpaaW.PrintWords Go.Proofs.YthadapbekmmgpaaW.PrintLast Go.Proofs.YthadapbekmmgpaaW.PrintMore
attribute [local go_sem] max2_int min2_int max_two min_two max_three min_three max_four min_four
set_option linter.unusedVariables false
set_option linter.unusedSimpArgs false

def tenancyref16_Encode.l0 : Nat → List (S42) → Int → Int → Int → Int → ByteArray → ByteArray → List (S51) → Int → Bool → Bool → Int → List (S42) → Option (ByteArray × Int)
  | 0, _, _, _, _, _, _, _, _, _, _, _, _, _ => none
  | k + 1, x4, x6, x7, x404000, x404001, x404002, x404003, x404004, x404005, x404006, x404007, x404008, x404009 => if x7 < (x4.length : Int) then (if 0 ≤ x7 then (tenancyref16_Encode.l0 k x4 (wrap64 ((wrap64 (x6 + 4)) + (((rd_T42 x4 x7).f1).size : Int))) (wrap64 (x7 + 1)) x404000 x404001 x404002 x404003 x404004 x404005 x404006 x404007 x404008 x404009) else (none)) else (if x6 > 65507 then (some ((⟨#[]⟩ : ByteArray), 6)) else ((tenancyref15_Emit.f k x4).bind fun bt410 => ((some (([(x404000) % 256, (x404001 / 65536) % 256, (x404001 / 256) % 256, (x404001) % 256] : List Int) : List Int)).bind fun y412 => (if (strOfNums y412).size + bt410.1.size ≤ 9223372036854775807 then (some ((strOfNums y412) ++ bt410.1, 0)) else (none)))))
def tenancyref16_Encode.f (k : Nat) (a0_0 : Int) (a0_1 : Int) (a0_2 : ByteArray) (a0_3 : ByteArray) (l0_4 : List (S51)) (a0_5 : Int) (a0_6 : Bool) (a0_7 : Bool) (a0_8 : Int) (l0_9 : List (S42)) : Option (ByteArray × Int) := (tenancyref16_Sound.f k a0_0 a0_1 a0_2 a0_3 l0_4 a0_5 a0_6 a0_7 a0_8 l0_9).bind fun t404 => (if t404 = true then ((tenancyref16_options.f k a0_0 a0_1 a0_2 a0_3 l0_4 a0_5 a0_6 a0_7 a0_8 l0_9).bind fun bt405 => (tenancyref16_Encode.l0 k bt405.1 4 0 a0_0 a0_1 a0_2 a0_3 l0_4 a0_5 a0_6 a0_7 a0_8 l0_9)) else (some ((⟨#[]⟩ : ByteArray), 141)))
set_option maxHeartbeats 8000000 in
set_option maxRecDepth 100000 in
theorem tenancyref16_Encode.calls (k : Nat) (a0_0 : Int) (a0_1 : Int) (a0_2 : ByteArray) (a0_3 : ByteArray) (A0_4 : Option Addr) (c0_4 : Nat) (l0_4 : List (S51)) (a0_5 : Int) (a0_6 : Bool) (a0_7 : Bool) (a0_8 : Int) (A0_9 : Option Addr) (c0_9 : Nat) (l0_9 : List (S42)) (r1 : ByteArray) (r2 : Int) (w : World) (hr0_4 : Kd.C k51 w A0_4 l0_4.length l0_4) (hc0_4 : l0_4.length ≤ c0_4) (hr0_9 : Kd.C k42 w A0_9 l0_9.length l0_9) (hc0_9 : l0_9.length ≤ c0_9) (h : tenancyref16_Encode.f k a0_0 a0_1 a0_2 a0_3 l0_4 a0_5 a0_6 a0_7 a0_8 l0_9 = some (r1, r2)) :
 Calls Try.prog 14 #[.agg #[.int .i64 a0_0, .int .u32 a0_1, .string a0_2, .string a0_3, .slice A0_4 l0_4.length c0_4, .int .i64 a0_5, .bool a0_6, .bool a0_7, .int .i64 a0_8, .slice A0_9 l0_9.length c0_9]] w fun e w' => e = .returned (.tuple #[.string r1, .int .i64 r2]) ∧ Below w.heap.size w w' := by
 have hu26 := Try.underlying26
 have HR0_4 := ak_ hr0_4
 have HC0_4 := ak_ hc0_4
 clear hr0_4 hc0_4
 have HR0_9 := ak_ hr0_9
 have HC0_9 := ak_ hc0_9
 clear hr0_9 hc0_9
 have HB := ak_ (Below.refl w.heap.size w)
 have H : ((tenancyref16_Sound.f k a0_0 a0_1 a0_2 a0_3 l0_4 a0_5 a0_6 a0_7 a0_8 l0_9).bind fun t404 => (if t404 = true then ((tenancyref16_options.f k a0_0 a0_1 a0_2 a0_3 l0_4 a0_5 a0_6 a0_7 a0_8 l0_9).bind fun bt405 => (tenancyref16_Encode.l0 k bt405.1 4 0 a0_0 a0_1 a0_2 a0_3 l0_4 a0_5 a0_6 a0_7 a0_8 l0_9)) else (some ((⟨#[]⟩ : ByteArray), 141)))) = some (r1, r2) := h
 clear h
 replace H := Option.bind_eq_some_iff.mp H
 obtain ⟨t404, A20, H⟩ := H
 replace H : (if t404 = true then ((tenancyref16_options.f k a0_0 a0_1 a0_2 a0_3 l0_4 a0_5 a0_6 a0_7 a0_8 l0_9).bind fun bt405 => (tenancyref16_Encode.l0 k bt405.1 4 0 a0_0 a0_1 a0_2 a0_3 l0_4 a0_5 a0_6 a0_7 a0_8 l0_9)) else (some ((⟨#[]⟩ : ByteArray), 141))) = some (r1, r2) := H
 have A2 := ak_ A20
 clear A20
 by_cases c3 : t404 = true
 ·subst c3
  have H1 : ((tenancyref16_options.f k a0_0 a0_1 a0_2 a0_3 l0_4 a0_5 a0_6 a0_7 a0_8 l0_9).bind fun bt405 => (tenancyref16_Encode.l0 k bt405.1 4 0 a0_0 a0_1 a0_2 a0_3 l0_4 a0_5 a0_6 a0_7 a0_8 l0_9)) = some (r1, r2) := by rw [if_pos rfl] at H; exact H
  clear H
  have H := H1
  clear H1
  replace H := Option.bind_eq_some_iff.mp H
  obtain ⟨⟨t405, t408⟩, A40, H⟩ := H
  replace H : (tenancyref16_Encode.l0 k t405 4 0 a0_0 a0_1 a0_2 a0_3 l0_4 a0_5 a0_6 a0_7 a0_8 l0_9) = some (r1, r2) := H
  have A4 := ak_ A40
  clear A40
  have H' := ak_ H
  clear H
  go_enter Try.func14, Try.ntmps14
  go_wp2_with (first | ((with_reducible refine gate_dst (N := 1) rfl ?_); refine box_event ?hg (N := 1) ?hd (cs := #[.int .i64 a0_0, .int .u32 a0_1, .string a0_2, .string a0_3, .slice A0_4 l0_4.length c0_4, .int .i64 a0_5, .bool a0_6, .bool a0_7, .int .i64 a0_8, .slice A0_9 l0_9.length c0_9]) (t := 26) ?hr ?_; (case hd => rfl); (case hg => rfl); (case hr => go_simp; done); intro gb403 hg w5 hbox hb; have BK403 := ak_ hbox; have GW403 := gz_ HB hg; have GE403 := gz_ HB hg; replace HB := bs_ HB hb; clear hb hbox hg; have hz6 := bz10_ BK403) | ((with_reducible refine gate_callee (f := 16) rfl ?_); refine goesL_ (some 11) rfl rfl Try.func16 (by kernel_rfl) rfl #[.agg #[.int .i64 a0_0, .int .u32 a0_1, .string a0_2, .string a0_3, .slice A0_4 l0_4.length c0_4, .int .i64 a0_5, .bool a0_6, .bool a0_7, .int .i64 a0_8, .slice A0_9 l0_9.length c0_9]] rfl (by (try simp only [List.map_toArray, List.map_cons, List.map_nil]); first | rfl) ?_; (with_reducible refine (tenancyref16_Sound.calls k a0_0 a0_1 a0_2 a0_3 _ _ l0_4 a0_5 a0_6 a0_7 a0_8 _ _ l0_9 true _ ?side1 ?side2 ?side3 ?side4 A2.out).mono ?_); (case side1 => repeat (first | exact (Kd.C_below HR0_4.out HB.out))); (case side2 => exact HC0_4.out); (case side3 => repeat (first | exact (Kd.C_below HR0_9.out HB.out))); (case side4 => exact HC0_9.out); rintro e w7 ⟨rfl, hb⟩; refine ⟨_, rfl, ?_⟩; replace BK403 := bb_ BK403 hb; replace HB := bs_ HB hb; (try clear hb); have hz8 := bz10_ BK403) | ((with_reducible refine gate_callee (f := 24) rfl ?_); refine goesL_ (some 15) rfl rfl Try.func24 (by kernel_rfl) rfl #[.agg #[.int .i64 a0_0, .int .u32 a0_1, .string a0_2, .string a0_3, .slice A0_4 l0_4.length c0_4, .int .i64 a0_5, .bool a0_6, .bool a0_7, .int .i64 a0_8, .slice A0_9 l0_9.length c0_9]] rfl (by (try simp only [List.map_toArray, List.map_cons, List.map_nil]); first | rfl) ?_; (with_reducible refine (tenancyref16_options.calls k a0_0 a0_1 a0_2 a0_3 _ _ l0_4 a0_5 a0_6 a0_7 a0_8 _ _ l0_9 t405 t408 _ ?side1 ?side2 ?side3 ?side4 A4.out).mono ?_); (case side1 => repeat (first | exact (Kd.C_below HR0_4.out HB.out))); (case side2 => exact HC0_4.out); (case side3 => repeat (first | exact (Kd.C_below HR0_9.out HB.out))); (case side4 => exact HC0_9.out); rintro e w9 ⟨v406, rfl, ho0, hb⟩; refine ⟨_, rfl, ?_⟩; have HO407 := ak_ (Kd.R_lower ho0 (below_size HB.out)); replace BK403 := bb_ BK403 hb; replace HB := bs_ HB hb; (try clear hb); (try clear ho0)))
  go_loopg [6, 7] k (fun kq v6 v7 w' => ∃ (x6_1 : Int) (x7_1 : Int), v6 = .int .i64 x6_1 ∧ v7 = .int .i64 x7_1 ∧ Aside0 (tenancyref16_Encode.l0 kq t405 x6_1 x7_1 a0_0 a0_1 a0_2 a0_3 l0_4 a0_5 a0_6 a0_7 a0_8 l0_9 = some (r1, r2)) ∧ Aside0 (kq ≤ k) ∧ Aside0 (Kd.R k42 42 w' w.heap.size (fun _ => True) v406 t405) ∧ Aside0 (w'.heap[gb403]? = some (.cells #[.int .i64 a0_0, .int .u32 a0_1, .string a0_2, .string a0_3, (.slice A0_4 l0_4.length c0_4), .int .i64 a0_5, .bool a0_6, .bool a0_7, .int .i64 a0_8, (.slice A0_9 l0_9.length c0_9)] 26 (0, 0))) ∧ Aside0 (Below w.heap.size w w'))
  case atStart => exact ⟨(4), (0), (by rfl), (by rfl), H', ⟨Nat.le_refl _⟩, ⟨by exact HO407.out⟩, ⟨by exact BK403.out⟩, ⟨by exact HB.out⟩⟩
  case round =>
  clear H'
  try clear c1
  try clear c2
  try clear p2
  try clear c3
  try clear hz6
  try clear hz8
  obtain ⟨x6_1, x7_1, rfl, rfl, HA, HK1, HO_4, BK403, HB⟩ := hrel
  cases gk with
  | zero => exact absurd HA.out (by simp [tenancyref16_Encode.l0])
  | succ k1 =>
  have H := HA.out
  clear HA
  simp only [tenancyref16_Encode.l0] at H
  by_cases c10 : x7_1 < (t405.length : Int)
  ·rw [if_pos c10] at H
   have c10b0 : decide (x7_1 < (t405.length : Int)) = true := decide_eq_true c10
   clear c10
   by_cases c11 : 0 ≤ x7_1
   ·rw [if_pos c11] at H
    have c11b0 : decide (0 ≤ x7_1) = true := decide_eq_true c11
    clear c11
    have H' := ak_ H
    clear H
    obtain ⟨Ao12, co12, eo12⟩ := Kd.R_slice HO_4.out
    subst eo12
    have p409 : 0 ≤ (x7_1 : Int) := of_decide_eq_true (by first | (with_reducible assumption))
    have q409 : x7_1 < (t405.length : Int) := of_decide_eq_true (by first | (with_reducible assumption))
    obtain ⟨ad409, e409, hx409_0, hx409_1⟩ := at_T42 (Kd.R_reads' HO_4.out).2.2 x7_1 p409 q409
    cases e409
    replace p409 := eq_true p409
    replace q409 := eq_true q409
    go_wp2
    go_roundg k1
    case measure => have := HK1.out; omega
    case rel => exact ⟨(wrap64 ((wrap64 (x6_1 + 4)) + (((rd_T42 t405 x7_1).f1).size : Int))), (wrap64 (x7_1 + 1)), (by rfl), (by rfl), H', ⟨by have := HK1.out; omega⟩, ⟨by exact HO_4.out⟩, ⟨by exact BK403.out⟩, ⟨by exact HB.out⟩⟩
   rw [if_neg c11] at H
   exact absurd H (by simp)
  rw [if_neg c10] at H
  have c10b0 : decide (x7_1 < (t405.length : Int)) = false := decide_eq_false c10
  clear c10
  by_cases c13 : x6_1 > 65507
  ·rw [if_pos c13] at H
   have c13b0 : decide (65507 < x6_1) = true := decide_eq_true c13
   clear c13
   simp only [Option.some.injEq, Prod.mk.injEq] at H
   obtain ⟨rfl, rfl⟩ := H
   obtain ⟨Ao14, co14, eo14⟩ := Kd.R_slice HO_4.out
   subst eo14
   go_wp2
   go_ret2
   exact ⟨by rfl, by exact HB.out⟩
  rw [if_neg c13] at H
  have c13b0 : decide (65507 < x6_1) = false := decide_eq_false c13
  clear c13
  replace H := Option.bind_eq_some_iff.mp H
  obtain ⟨⟨t410, t411⟩, A150, H⟩ := H
  replace H : ((some (([(a0_0) % 256, (a0_1 / 65536) % 256, (a0_1 / 256) % 256, (a0_1) % 256] : List Int) : List Int)).bind fun y412 => (if (strOfNums y412).size + t410.size ≤ 9223372036854775807 then (some ((strOfNums y412) ++ t410, 0)) else (none))) = some (r1, r2) := H
  have A15 := ak_ A150
  clear A150
  obtain ⟨y412, hy412⟩ : ∃ y_ : List Int, y_ = (([(a0_0) % 256, (a0_1 / 65536) % 256, (a0_1 / 256) % 256, (a0_1) % 256] : List Int)) := ⟨_, rfl⟩
  replace H : (if (strOfNums y412).size + t410.size ≤ 9223372036854775807 then (some ((strOfNums y412) ++ t410, 0)) else (none)) = some (r1, r2) := by first | (have H2_ := (Option.bind_some _ _).symm.trans H; rw [hy412]; with_reducible exact H2_)
  have Ny412 := ak_ hy412
  clear hy412
  by_cases c16 : (strOfNums y412).size + t410.size ≤ 9223372036854775807
  ·rw [if_pos c16] at H
   have c16b0 := eq_true c16
   have c16b1 : decide ((strOfNums y412).size + t410.size ≤ 9223372036854775807) = true := decide_eq_true c16
   try have c16b2 : (9223372036854775807 < (strOfNums y412).size + t410.size) = False := eq_false (Nat.not_lt.2 c16)
   simp only [Option.some.injEq, Prod.mk.injEq] at H
   obtain ⟨rfl, rfl⟩ := H
   obtain ⟨Ao17, co17, eo17⟩ := Kd.R_slice HO_4.out
   subst eo17
   go_wp2_with (first | ((with_reducible refine gate_callee (f := 25) rfl ?_); refine goesL_ (some 37) rfl rfl Try.func25 (by kernel_rfl) rfl #[.slice Ao17 t405.length co17] rfl (by (try simp only [List.map_toArray, List.map_cons, List.map_nil]); first | rfl) ?_; (with_reducible refine (tenancyref15_Emit.calls k1 _ _ t405 t410 t411 _ ?side1 ?side2 A15.out).mono ?_); (case side1 => repeat (first | exact (Kd.R_reads' HO_4.out).2.2)); (case side2 => exact (Kd.R_reads' HO_4.out).2.1); rintro e w18 ⟨rfl, hb⟩; refine ⟨_, rfl, ?_⟩; replace HO_4 := ak_ (Kd.R_below HO_4.out hb); replace BK403 := bb_ BK403 hb; replace HB := bs_ HB hb; (try clear hb); have hz19 := bz10_ BK403) | ((with_reducible refine gate_dst (N := 54) rfl ?_); refine Kd.R_lit (Kd.int .u8) _ 5 ?hg (N := 54) ?hd (xs := ([(a0_0) % 256, (a0_1 / 65536) % 256, (a0_1 / 256) % 256, (a0_1) % 256] : List Int)) (inner := [.int .u8 ((a0_0) % 256), .int .u8 ((a0_1 / 65536) % 256), .int .u8 ((a0_1 / 256) % 256), .int .u8 ((a0_1) % 256)]) (ok := fun _ => True) (okp := fun _ => True) ?hr ?hp (fun _ hk => hk) trivial (Below.refl _ _) (Nat.le_refl _) (by simp) ?_; (case hd => rfl); (case hg => rfl); (case hr => go_simp; done); (case hp => exact (Reps.one (show Kd.M (Kd.int .u8) _ _ _ ((a0_0) % 256) [.int .u8 ((a0_0) % 256)] from rfl) (Reps.one (show Kd.M (Kd.int .u8) _ _ _ ((a0_1 / 65536) % 256) [.int .u8 ((a0_1 / 65536) % 256)] from rfl) (Reps.one (show Kd.M (Kd.int .u8) _ _ _ ((a0_1 / 256) % 256) [.int .u8 ((a0_1 / 256) % 256)] from rfl) (Reps.one (show Kd.M (Kd.int .u8) _ _ _ ((a0_1) % 256) [.int .u8 ((a0_1) % 256)] from rfl) (Reps.none _ _)))))); intro v413 w20 ho21 hb hg_ hnew_; clear hg_ hnew_; (first | rw [← Ny412.out] at ho21); replace HO_4 := ak_ (Kd.R_below HO_4.out hb); have HO414 := ak_ (Kd.R_lower ho21 (below_size HB.out)); replace BK403 := bb_ BK403 hb; replace HB := bs_ HB hb; clear hb ho21; have hcv22 := own_string (P := Try.prog) Try.underlying47 Try.underlying5 Try.underlying9 (Kd.own_of_R HO414.out)))
   go_ret2
   exact ⟨by rfl, by exact HB.out⟩
  rw [if_neg c16] at H
  exact absurd H (by simp)
 replace c3 := Bool.eq_false_iff.mpr c3
 subst c3
 have H1 : (some ((⟨#[]⟩ : ByteArray), 141)) = some (r1, r2) := by rw [if_neg (show ¬ (false = true) by decide)] at H; exact H
 clear H
 have H := H1
 clear H1
 simp only [Option.some.injEq, Prod.mk.injEq] at H
 obtain ⟨rfl, rfl⟩ := H
 go_enter Try.func14, Try.ntmps14
 go_wp2_with (first | ((with_reducible refine gate_dst (N := 1) rfl ?_); refine box_event ?hg (N := 1) ?hd (cs := #[.int .i64 a0_0, .int .u32 a0_1, .string a0_2, .string a0_3, .slice A0_4 l0_4.length c0_4, .int .i64 a0_5, .bool a0_6, .bool a0_7, .int .i64 a0_8, .slice A0_9 l0_9.length c0_9]) (t := 26) ?hr ?_; (case hd => rfl); (case hg => rfl); (case hr => go_simp; done); intro gb403 hg w23 hbox hb; have BK403 := ak_ hbox; have GW403 := gz_ HB hg; have GE403 := gz_ HB hg; replace HB := bs_ HB hb; clear hb hbox hg; have hz24 := bz10_ BK403) | ((with_reducible refine gate_callee (f := 16) rfl ?_); refine goesL_ (some 11) rfl rfl Try.func16 (by kernel_rfl) rfl #[.agg #[.int .i64 a0_0, .int .u32 a0_1, .string a0_2, .string a0_3, .slice A0_4 l0_4.length c0_4, .int .i64 a0_5, .bool a0_6, .bool a0_7, .int .i64 a0_8, .slice A0_9 l0_9.length c0_9]] rfl (by (try simp only [List.map_toArray, List.map_cons, List.map_nil]); first | rfl) ?_; (with_reducible refine (tenancyref16_Sound.calls k a0_0 a0_1 a0_2 a0_3 _ _ l0_4 a0_5 a0_6 a0_7 a0_8 _ _ l0_9 false _ ?side1 ?side2 ?side3 ?side4 A2.out).mono ?_); (case side1 => repeat (first | exact (Kd.C_below HR0_4.out HB.out))); (case side2 => exact HC0_4.out); (case side3 => repeat (first | exact (Kd.C_below HR0_9.out HB.out))); (case side4 => exact HC0_9.out); rintro e w25 ⟨rfl, hb⟩; refine ⟨_, rfl, ?_⟩; replace BK403 := bb_ BK403 hb; replace HB := bs_ HB hb; (try clear hb)))
 go_ret2
 exact ⟨by rfl, by exact HB.out⟩


end Go.Proofs.Ythadapbekmmgpaa.X
