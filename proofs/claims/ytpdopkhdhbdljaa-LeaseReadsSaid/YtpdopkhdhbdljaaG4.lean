/- Functions of the program as Lean functions, and that the calls come to them: no condition.  By this session's own program (wip/xprint). -/
import Derived.Test.YtpdopkhdhbdljaaG0
import Derived.Test.YtpdopkhdhbdljaaG3
namespace Go.Proofs.Ytpdopkhdhbdljaa.X
open Go.RowKit Go.Proofs.YtpdopkhdhbdljaaW.PrintWords Go.Proofs.YtpdopkhdhbdljaaW.PrintLast Go.Proofs.YtpdopkhdhbdljaaW.PrintMore
attribute [local go_sem] max2_int min2_int max_two min_two max_three min_three max_four min_four   -- for this text's walks alone
set_option linter.unusedVariables false
set_option linter.unusedSimpArgs false
/-! ### lease_bytes: function 38 -/
def lease_bytes.j0 : Nat → Int → Bool → Int → Int → Int → Int → Int → ByteArray → Int → Int → Int → Int → Int → Int → Int → ByteArray → Int → Int → Option (ByteArray)
  | 0, _, _, _, _, _, _, _, _, _, _, _, _, _, _, _, _, _, _ => none
  | k + 1, x4, x204000, x204001, x204002, x204003, x204004, x204005, x204006, x204007, x204008, x205000, x205001, x205002, x205003, x205004, x205005, x205006, x205007 => (some (([x4, (x205000) % 256, (x205003) % 256] : List Int) : List Int)).bind fun y205 => ((octet_PutAddr.f k x205001 x205002).bind fun t208 => (if (strOfNums y205).size + t208.size ≤ 9223372036854775807 then (if x204000 = true then (some ((strOfNums y205) ++ t208)) else ((octet_Run.f k x205005).bind fun bt209 => ((some (([(x205004) % 256] : List Int) : List Int)).bind fun y211 => (if ((strOfNums y205) ++ t208).size + (strOfNums y211).size ≤ 9223372036854775807 then ((octet_Put32.f k x205006).bind fun t214 => (if (((strOfNums y205) ++ t208) ++ (strOfNums y211)).size + t214.size ≤ 9223372036854775807 then ((octet_Put64.f k (IntKind.u64.wrap (x205007))).bind fun t215 => (if ((((strOfNums y205) ++ t208) ++ (strOfNums y211)) ++ t214).size + t215.size ≤ 9223372036854775807 then (if (((((strOfNums y205) ++ t208) ++ (strOfNums y211)) ++ t214) ++ t215).size + bt209.1.size ≤ 9223372036854775807 then (some ((((((strOfNums y205) ++ t208) ++ (strOfNums y211)) ++ t214) ++ t215) ++ bt209.1)) else (none)) else (none))) else (none))) else (none))))) else (none)))
def lease_bytes.f (k : Nat) (a0_0 : Bool) (a0_1 : Int) (a0_2 : Int) (a0_3 : Int) (a0_4 : Int) (a0_5 : Int) (a0_6 : ByteArray) (a0_7 : Int) (a0_8 : Int) : Option (ByteArray) := if a0_0 = true then (lease_bytes.j0 k 2 a0_0 a0_1 a0_2 a0_3 a0_4 a0_5 a0_6 a0_7 a0_8 a0_1 a0_2 a0_3 a0_4 a0_5 a0_6 a0_7 a0_8) else (lease_bytes.j0 k 1 a0_0 a0_1 a0_2 a0_3 a0_4 a0_5 a0_6 a0_7 a0_8 a0_1 a0_2 a0_3 a0_4 a0_5 a0_6 a0_7 a0_8)
theorem lease_bytes.mono_l : ∀ k, (∀ y0 y1 y2 y3 y4 y5 y6 y7 y8 y9 y10 y11 y12 y13 y14 y15 y16 y17, LeO (lease_bytes.j0 k y0 y1 y2 y3 y4 y5 y6 y7 y8 y9 y10 y11 y12 y13 y14 y15 y16 y17) (lease_bytes.j0 (k + 1) y0 y1 y2 y3 y4 y5 y6 y7 y8 y9 y10 y11 y12 y13 y14 y15 y16 y17))
  | 0 => fun _ _ _ _ _ _ _ _ _ _ _ _ _ _ _ _ _ _ r h => by simp [lease_bytes.j0] at h
  | k + 1 => by
    have ih0 := lease_bytes.mono_l k
    · intro y0 y1 y2 y3 y4 y5 y6 y7 y8 y9 y10 y11 y12 y13 y14 y15 y16 y17
      unfold lease_bytes.j0
      repeat' first
      | (with_reducible exact ih0 _ _ _ _ _ _ _ _ _ _ _ _ _ _ _ _ _ _)
      | (with_reducible exact octet_Put32.mono _ _)
      | (with_reducible exact octet_Put64.mono _ _)
      | (with_reducible exact octet_PutAddr.mono _ _ _)
      | (with_reducible exact octet_Run.mono _ _)
      | (with_reducible exact LeO.refl _)
      | (with_reducible exact LeO.none _)
      | (with_reducible refine LeO.ite ?_ ?_)
      | (with_reducible refine LeO.bind ?_ (fun _ => ?_))
      | exact ih0 _ _ _ _ _ _ _ _ _ _ _ _ _ _ _ _ _ _
      | exact octet_Put32.mono _ _
      | exact octet_Put64.mono _ _
      | exact octet_PutAddr.mono _ _ _
      | exact octet_Run.mono _ _
      | exact LeO.none _
      | refine LeO.ite ?_ ?_
      | refine LeO.bind ?_ (fun _ => ?_)
theorem lease_bytes.mono : ∀ a0 a1 a2 a3 a4 a5 a6 a7 a8 k, LeO (lease_bytes.f k a0 a1 a2 a3 a4 a5 a6 a7 a8) (lease_bytes.f (k + 1) a0 a1 a2 a3 a4 a5 a6 a7 a8) := by
  intro a0 a1 a2 a3 a4 a5 a6 a7 a8 k
  have ih0 := lease_bytes.mono_l k
  unfold lease_bytes.f
  repeat' first
      | (with_reducible exact ih0 _ _ _ _ _ _ _ _ _ _ _ _ _ _ _ _ _ _)
      | (with_reducible exact octet_Put32.mono _ _)
      | (with_reducible exact octet_Put64.mono _ _)
      | (with_reducible exact octet_PutAddr.mono _ _ _)
      | (with_reducible exact octet_Run.mono _ _)
      | (with_reducible exact LeO.refl _)
      | (with_reducible exact LeO.none _)
      | (with_reducible refine LeO.ite ?_ ?_)
      | (with_reducible refine LeO.bind ?_ (fun _ => ?_))
      | exact ih0 _ _ _ _ _ _ _ _ _ _ _ _ _ _ _ _ _ _
      | exact octet_Put32.mono _ _
      | exact octet_Put64.mono _ _
      | exact octet_PutAddr.mono _ _ _
      | exact octet_Run.mono _ _
      | exact LeO.none _
      | refine LeO.ite ?_ ?_
      | refine LeO.bind ?_ (fun _ => ?_)
def lease_bytes.T5 : Bool × List (List Nat × List Nat) := (true, [([], []), ([], []), ([1], [1]), ([2], [2]), ([], []), ([4], [4]), ([5], [5]), ([6], [6]), ([0, 3, 7], [0, 3, 7]), ([8], [8]), ([], []), ([10], [10]), ([11], [11]), ([12], [12]), ([9, 13], [9, 13]), ([14, 13, 0, 1, 2, 3, 4, 5, 6, 7, 8, 9, 10, 11, 12, 13, 14], [14])])
def lease_bytes.B5 : List Nat := [0, 0, 2, 6, 0, 16, 48, 112, 255, 511, 0, 1024, 3072, 7168, 16383, 32767]
theorem lease_bytes.tab5 : rtab .any (opsOf Try.f38 5) = lease_bytes.T5 := by kernel_rfl
theorem lease_bytes.bits5 : waitsOk lease_bytes.T5.2 lease_bytes.B5 = true := by kernel_rfl
def lease_bytes.T9 : Bool × List (List Nat × List Nat) := (true, [([], []), ([], []), ([1], [1]), ([2], [2]), ([3], [3]), ([4], [4]), ([0, 5], [0, 5]), ([], []), ([7], [7]), ([8], [8]), ([6, 9], [6, 9]), ([], []), ([11], [11]), ([12], [12]), ([13, 9], [13]), ([10, 14], [10, 14]), ([], []), ([15, 16], [15, 16]), ([17, 14, 0, 1, 2, 3, 4, 5, 6, 7, 8, 9, 10, 11, 12, 13, 14, 15, 16, 17], [17])])
def lease_bytes.B9 : List Nat := [0, 0, 2, 6, 14, 30, 63, 0, 128, 384, 1023, 0, 2048, 6144, 15232, 32767, 0, 131071, 262143]
theorem lease_bytes.tab9 : rtab .any (opsOf Try.f38 9) = lease_bytes.T9 := by kernel_rfl
theorem lease_bytes.bits9 : waitsOk lease_bytes.T9.2 lease_bytes.B9 = true := by kernel_rfl
set_option maxHeartbeats 8000000 in
set_option maxRecDepth 100000 in
theorem lease_bytes.calls (k : Nat) (a0_0 : Bool) (a0_1 : Int) (a0_2 : Int) (a0_3 : Int) (a0_4 : Int) (a0_5 : Int) (a0_6 : ByteArray) (a0_7 : Int) (a0_8 : Int) (r : ByteArray) (w : World) (h : lease_bytes.f k a0_0 a0_1 a0_2 a0_3 a0_4 a0_5 a0_6 a0_7 a0_8 = some r) :
    Calls Try.prog 38 #[.agg #[.bool a0_0, .int .i64 a0_1, .int .u64 a0_2, .int .u64 a0_3, .int .i64 a0_4, .int .i64 a0_5, .string a0_6, .int .u32 a0_7, .int .i64 a0_8]] w fun e w' => e = .returned (.string r) ∧ Below w.heap.size w w' := by
  have hu31 := Try.underlying31
  have hu29 := Try.underlying29
  have hu24 := Try.underlying24
  have HB := Aside0.mk (Below.refl w.heap.size w)
  have H : (if a0_0 = true then (lease_bytes.j0 k 2 a0_0 a0_1 a0_2 a0_3 a0_4 a0_5 a0_6 a0_7 a0_8 a0_1 a0_2 a0_3 a0_4 a0_5 a0_6 a0_7 a0_8) else (lease_bytes.j0 k 1 a0_0 a0_1 a0_2 a0_3 a0_4 a0_5 a0_6 a0_7 a0_8 a0_1 a0_2 a0_3 a0_4 a0_5 a0_6 a0_7 a0_8)) = some r := h
  clear h
  have HC2 := Aside0.mk H
  clear H
  go_enter Try.func38, Try.ntmps38
  go_upto_if 11 with (first | ((with_reducible refine gate_dst (N := 1) rfl ?_); refine box_event ?hg (N := 1) ?hd (cs := #[.bool a0_0, .int .i64 a0_1, .int .u64 a0_2, .int .u64 a0_3, .int .i64 a0_4, .int .i64 a0_5, .string a0_6, .int .u32 a0_7, .int .i64 a0_8]) (t := 31) ?hr ?_; (case hd => rfl); (case hg => rfl); (case hr => go_simp; done); intro gb203 hg w3 hbox hb; have n0_ := Aside0.mk (below_step HB.out hb); have n1_ := Aside0.mk (hbox); have n2_ := Aside0.mk ((by rw [hg]; exact (below_size HB.out) : w.heap.size ≤ gb203)); have n3_ := Aside0.mk ((by rw [hg]; exact (below_size HB.out) : w.heap.size ≤ gb203)); clear HB; have HB := n0_; have BK203 := n1_; have GW203 := n2_; have GE203 := n3_; clear n0_ n1_ n2_ n3_; clear hb hbox hg; obtain ⟨hcz4_0, hcz4_1, hcz4_2, hcz4_3, hcz4_4, hcz4_5, hcz4_6, hcz4_7, hcz4_8⟩ := XRun.bc9 BK203.out; obtain ⟨hfz4_0, hfz4_1, hfz4_2, hfz4_3, hfz4_4, hfz4_5, hfz4_6, hfz4_7, hfz4_8⟩ := XRun.bf9 BK203.out) | ((with_reducible refine gate_dst (N := 3) rfl ?_); refine box_event ?hg (N := 3) ?hd (cs := #[.int .i64 0, .int .u64 0, .int .u64 0, .int .i64 0, .int .i64 0, .string (⟨#[]⟩ : ByteArray), .int .u32 0, .int .i64 0]) (t := 29) ?hr ?_; (case hd => rfl); (case hg => rfl); (case hr => go_simp; done); intro gb204 hg w5 hbox hb; have n0_ := Aside0.mk (blk_below (g := gb203) (o := .cells #[.bool a0_0, .int .i64 a0_1, .int .u64 a0_2, .int .u64 a0_3, .int .i64 a0_4, .int .i64 a0_5, .string a0_6, .int .u32 a0_7, .int .i64 a0_8] 31 (0, 0)) BK203.out hb); have n1_ := Aside0.mk (below_step HB.out hb); have n2_ := Aside0.mk (hbox); have n3_ := Aside0.mk ((by rw [hg]; exact (below_size HB.out) : w.heap.size ≤ gb204)); have n4_ := Aside0.mk ((by rw [hg]; exact (below_size HB.out) : w.heap.size ≤ gb204)); have n5_ := Aside0.mk ((by rw [hg]; exact Nat.ne_of_lt (blk_lt (g := gb203) (o := .cells #[.bool a0_0, .int .i64 a0_1, .int .u64 a0_2, .int .u64 a0_3, .int .i64 a0_4, .int .i64 a0_5, .string a0_6, .int .u32 a0_7, .int .i64 a0_8] 31 (0, 0)) BK203.out) : gb203 ≠ gb204)); have n6_ := Aside0.mk ((by rw [hg]; exact Nat.ne_of_gt (blk_lt (g := gb203) (o := .cells #[.bool a0_0, .int .i64 a0_1, .int .u64 a0_2, .int .u64 a0_3, .int .i64 a0_4, .int .i64 a0_5, .string a0_6, .int .u32 a0_7, .int .i64 a0_8] 31 (0, 0)) BK203.out) : gb204 ≠ gb203)); clear BK203; clear HB; have BK203 := n0_; have HB := n1_; have BK204 := n2_; have GW204 := n3_; have GE204 := n4_; have NB203_204 := n5_; have NB204_203 := n6_; clear n0_ n1_ n2_ n3_ n4_ n5_ n6_; clear hb hbox hg; have hnb6 := NB204_203.out; have hnc6 := NB203_204.out; obtain ⟨hcz7_0, hcz7_1, hcz7_2, hcz7_3, hcz7_4, hcz7_5, hcz7_6, hcz7_7⟩ := XRun.bc8 BK204.out; obtain ⟨hfz7_0, hfz7_1, hfz7_2, hfz7_3, hfz7_4, hfz7_5, hfz7_6, hfz7_7⟩ := XRun.bf8 BK204.out; obtain ⟨hcz8_0, hcz8_1, hcz8_2, hcz8_3, hcz8_4, hcz8_5, hcz8_6, hcz8_7, hcz8_8⟩ := XRun.bc9 BK203.out; obtain ⟨hfz8_0, hfz8_1, hfz8_2, hfz8_3, hfz8_4, hfz8_5, hfz8_6, hfz8_7, hfz8_8⟩ := XRun.bf9 BK203.out))
  (try simp only [Act.put, List.setIfInBounds_toArray, List.set_cons_zero, List.set_cons_succ])
  go_cut [4] (fun v4 wc => ∃ (kq : Nat) (x4_1 : Int), v4 = .int .u8 x4_1 ∧ Aside0 (lease_bytes.j0 kq x4_1 a0_0 a0_1 a0_2 a0_3 a0_4 a0_5 a0_6 a0_7 a0_8 a0_1 a0_2 a0_3 a0_4 a0_5 a0_6 a0_7 a0_8 = some r) ∧ Aside0 (kq ≤ k) ∧ Aside0 (wc.heap[gb203]? = some (.cells #[.bool a0_0, .int .i64 a0_1, .int .u64 a0_2, .int .u64 a0_3, .int .i64 a0_4, .int .i64 a0_5, .string a0_6, .int .u32 a0_7, .int .i64 a0_8] 31 (0, 0))) ∧ Aside0 (wc.heap[gb204]? = some (.cells #[.int .i64 a0_1, .int .u64 a0_2, .int .u64 a0_3, .int .i64 a0_4, .int .i64 a0_5, .string a0_6, .int .u32 a0_7, .int .i64 a0_8] 29 (0, 0))) ∧ Aside0 (Below w.heap.size w wc))
  case first =>
    have H := HC2.out
    clear HC2
    by_cases c9 : a0_0 = true
    · subst c9
      have H1 : (lease_bytes.j0 k 2 true a0_1 a0_2 a0_3 a0_4 a0_5 a0_6 a0_7 a0_8 a0_1 a0_2 a0_3 a0_4 a0_5 a0_6 a0_7 a0_8) = some r := by rw [if_pos rfl] at H; exact H
      clear H
      have H := H1
      clear H1
      have H' := Aside0.mk H
      clear H
      go_wp2
      go_meet
      case rel => exact ⟨_, (2), (by rfl), H', ⟨by omega⟩, ⟨by refine blk_far ?_ NB203_204.out _; refine blk_far ?_ NB203_204.out _; refine blk_far ?_ NB203_204.out _; refine blk_far ?_ NB203_204.out _; refine blk_far ?_ NB203_204.out _; refine blk_far ?_ NB203_204.out _; refine blk_far ?_ NB203_204.out _; refine blk_far ?_ NB203_204.out _; exact BK203.out⟩, ⟨by refine blk_put (cs := #[.int .i64 a0_1, .int .u64 a0_2, .int .u64 a0_3, .int .i64 a0_4, .int .i64 a0_5, .string a0_6, .int .u32 a0_7, .int .i64 0]) ?_ 7 _ rfl; refine blk_put (cs := #[.int .i64 a0_1, .int .u64 a0_2, .int .u64 a0_3, .int .i64 a0_4, .int .i64 a0_5, .string a0_6, .int .u32 0, .int .i64 0]) ?_ 6 _ rfl; refine blk_put (cs := #[.int .i64 a0_1, .int .u64 a0_2, .int .u64 a0_3, .int .i64 a0_4, .int .i64 a0_5, .string (⟨#[]⟩ : ByteArray), .int .u32 0, .int .i64 0]) ?_ 5 _ rfl; refine blk_put (cs := #[.int .i64 a0_1, .int .u64 a0_2, .int .u64 a0_3, .int .i64 a0_4, .int .i64 0, .string (⟨#[]⟩ : ByteArray), .int .u32 0, .int .i64 0]) ?_ 4 _ rfl; refine blk_put (cs := #[.int .i64 a0_1, .int .u64 a0_2, .int .u64 a0_3, .int .i64 0, .int .i64 0, .string (⟨#[]⟩ : ByteArray), .int .u32 0, .int .i64 0]) ?_ 3 _ rfl; refine blk_put (cs := #[.int .i64 a0_1, .int .u64 a0_2, .int .u64 0, .int .i64 0, .int .i64 0, .string (⟨#[]⟩ : ByteArray), .int .u32 0, .int .i64 0]) ?_ 2 _ rfl; refine blk_put (cs := #[.int .i64 a0_1, .int .u64 0, .int .u64 0, .int .i64 0, .int .i64 0, .string (⟨#[]⟩ : ByteArray), .int .u32 0, .int .i64 0]) ?_ 1 _ rfl; refine blk_put (cs := #[.int .i64 0, .int .u64 0, .int .u64 0, .int .i64 0, .int .i64 0, .string (⟨#[]⟩ : ByteArray), .int .u32 0, .int .i64 0]) ?_ 0 _ rfl; exact BK204.out⟩, ⟨by repeat (first | (with_reducible first | exact HB.out | refine below_set ?_ GE204.out))⟩⟩
    · replace c9 := Bool.eq_false_iff.mpr c9
      subst c9
      have H1 : (lease_bytes.j0 k 1 false a0_1 a0_2 a0_3 a0_4 a0_5 a0_6 a0_7 a0_8 a0_1 a0_2 a0_3 a0_4 a0_5 a0_6 a0_7 a0_8) = some r := by rw [if_neg (show ¬ (false = true) by decide)] at H; exact H
      clear H
      have H := H1
      clear H1
      have H' := Aside0.mk H
      clear H
      go_wp2
      go_meet
      case rel => exact ⟨_, (1), (by rfl), H', ⟨by omega⟩, ⟨by refine blk_far ?_ NB203_204.out _; refine blk_far ?_ NB203_204.out _; refine blk_far ?_ NB203_204.out _; refine blk_far ?_ NB203_204.out _; refine blk_far ?_ NB203_204.out _; refine blk_far ?_ NB203_204.out _; refine blk_far ?_ NB203_204.out _; refine blk_far ?_ NB203_204.out _; exact BK203.out⟩, ⟨by refine blk_put (cs := #[.int .i64 a0_1, .int .u64 a0_2, .int .u64 a0_3, .int .i64 a0_4, .int .i64 a0_5, .string a0_6, .int .u32 a0_7, .int .i64 0]) ?_ 7 _ rfl; refine blk_put (cs := #[.int .i64 a0_1, .int .u64 a0_2, .int .u64 a0_3, .int .i64 a0_4, .int .i64 a0_5, .string a0_6, .int .u32 0, .int .i64 0]) ?_ 6 _ rfl; refine blk_put (cs := #[.int .i64 a0_1, .int .u64 a0_2, .int .u64 a0_3, .int .i64 a0_4, .int .i64 a0_5, .string (⟨#[]⟩ : ByteArray), .int .u32 0, .int .i64 0]) ?_ 5 _ rfl; refine blk_put (cs := #[.int .i64 a0_1, .int .u64 a0_2, .int .u64 a0_3, .int .i64 a0_4, .int .i64 0, .string (⟨#[]⟩ : ByteArray), .int .u32 0, .int .i64 0]) ?_ 4 _ rfl; refine blk_put (cs := #[.int .i64 a0_1, .int .u64 a0_2, .int .u64 a0_3, .int .i64 0, .int .i64 0, .string (⟨#[]⟩ : ByteArray), .int .u32 0, .int .i64 0]) ?_ 3 _ rfl; refine blk_put (cs := #[.int .i64 a0_1, .int .u64 a0_2, .int .u64 0, .int .i64 0, .int .i64 0, .string (⟨#[]⟩ : ByteArray), .int .u32 0, .int .i64 0]) ?_ 2 _ rfl; refine blk_put (cs := #[.int .i64 a0_1, .int .u64 0, .int .u64 0, .int .i64 0, .int .i64 0, .string (⟨#[]⟩ : ByteArray), .int .u32 0, .int .i64 0]) ?_ 1 _ rfl; refine blk_put (cs := #[.int .i64 0, .int .u64 0, .int .u64 0, .int .i64 0, .int .i64 0, .string (⟨#[]⟩ : ByteArray), .int .u32 0, .int .i64 0]) ?_ 0 _ rfl; exact BK204.out⟩, ⟨by repeat (first | (with_reducible first | exact HB.out | refine below_set ?_ GE204.out))⟩⟩
  case rest =>
    clear HC2
    try clear p2
    try clear c3
    try clear c6
    try clear c9
    try clear hcz4_0
    try clear hcz4_1
    try clear hcz4_2
    try clear hcz4_3
    try clear hcz4_4
    try clear hcz4_5
    try clear hcz4_6
    try clear hcz4_7
    try clear hcz4_8
    try clear hcz7_0
    try clear hcz7_1
    try clear hcz7_2
    try clear hcz7_3
    try clear hcz7_4
    try clear hcz7_5
    try clear hcz7_6
    try clear hcz7_7
    try clear hcz8_0
    try clear hcz8_1
    try clear hcz8_2
    try clear hcz8_3
    try clear hcz8_4
    try clear hcz8_5
    try clear hcz8_6
    try clear hcz8_7
    try clear hcz8_8
    try clear hfz4_0
    try clear hfz4_1
    try clear hfz4_2
    try clear hfz4_3
    try clear hfz4_4
    try clear hfz4_5
    try clear hfz4_6
    try clear hfz4_7
    try clear hfz4_8
    try clear hfz7_0
    try clear hfz7_1
    try clear hfz7_2
    try clear hfz7_3
    try clear hfz7_4
    try clear hfz7_5
    try clear hfz7_6
    try clear hfz7_7
    try clear hfz8_0
    try clear hfz8_1
    try clear hfz8_2
    try clear hfz8_3
    try clear hfz8_4
    try clear hfz8_5
    try clear hfz8_6
    try clear hfz8_7
    try clear hfz8_8
    obtain ⟨kq, x4_1, rfl, HA, HJ1, BK203, BK204, HB⟩ := hcut
    cases kq with
    | zero => exact absurd HA.out (by simp [lease_bytes.j0])
    | succ kj1 =>
      have H := HA.out
      clear HA
      simp only [lease_bytes.j0] at H
      obtain ⟨y205, hy205⟩ : ∃ y_ : List Int, y_ = (([x4_1, (a0_1) % 256, (a0_4) % 256] : List Int)) := ⟨_, rfl⟩
      replace H : ((octet_PutAddr.f kj1 a0_2 a0_3).bind fun t208 => (if (strOfNums y205).size + t208.size ≤ 9223372036854775807 then (if a0_0 = true then (some ((strOfNums y205) ++ t208)) else ((octet_Run.f kj1 a0_6).bind fun bt209 => ((some (([(a0_5) % 256] : List Int) : List Int)).bind fun y211 => (if ((strOfNums y205) ++ t208).size + (strOfNums y211).size ≤ 9223372036854775807 then ((octet_Put32.f kj1 a0_7).bind fun t214 => (if (((strOfNums y205) ++ t208) ++ (strOfNums y211)).size + t214.size ≤ 9223372036854775807 then ((octet_Put64.f kj1 (IntKind.u64.wrap (a0_8))).bind fun t215 => (if ((((strOfNums y205) ++ t208) ++ (strOfNums y211)) ++ t214).size + t215.size ≤ 9223372036854775807 then (if (((((strOfNums y205) ++ t208) ++ (strOfNums y211)) ++ t214) ++ t215).size + bt209.1.size ≤ 9223372036854775807 then (some ((((((strOfNums y205) ++ t208) ++ (strOfNums y211)) ++ t214) ++ t215) ++ bt209.1)) else (none)) else (none))) else (none))) else (none))))) else (none))) = some r := by first | (have H2_ := (Option.bind_some _ _).symm.trans H; rw [hy205]; with_reducible exact H2_)
      have Ny205 := Aside0.mk hy205
      clear hy205
      replace H := Option.bind_eq_some_iff.mp H
      obtain ⟨t208, A100, H⟩ := H
      replace H : (if (strOfNums y205).size + t208.size ≤ 9223372036854775807 then (if a0_0 = true then (some ((strOfNums y205) ++ t208)) else ((octet_Run.f kj1 a0_6).bind fun bt209 => ((some (([(a0_5) % 256] : List Int) : List Int)).bind fun y211 => (if ((strOfNums y205) ++ t208).size + (strOfNums y211).size ≤ 9223372036854775807 then ((octet_Put32.f kj1 a0_7).bind fun t214 => (if (((strOfNums y205) ++ t208) ++ (strOfNums y211)).size + t214.size ≤ 9223372036854775807 then ((octet_Put64.f kj1 (IntKind.u64.wrap (a0_8))).bind fun t215 => (if ((((strOfNums y205) ++ t208) ++ (strOfNums y211)) ++ t214).size + t215.size ≤ 9223372036854775807 then (if (((((strOfNums y205) ++ t208) ++ (strOfNums y211)) ++ t214) ++ t215).size + bt209.1.size ≤ 9223372036854775807 then (some ((((((strOfNums y205) ++ t208) ++ (strOfNums y211)) ++ t214) ++ t215) ++ bt209.1)) else (none)) else (none))) else (none))) else (none))))) else (none)) = some r := H
      have A10 := Aside0.mk A100
      clear A100
      by_cases c11 : (strOfNums y205).size + t208.size ≤ 9223372036854775807
      · rw [if_pos c11] at H
        have c11b0 := eq_true c11
        have c11b1 : decide ((strOfNums y205).size + t208.size ≤ 9223372036854775807) = true := decide_eq_true c11
        try have c11b2 : (9223372036854775807 < (strOfNums y205).size + t208.size) = False := eq_false (Nat.not_lt.2 c11)
        by_cases c12 : a0_0 = true
        · subst c12
          have H1 : (some ((strOfNums y205) ++ t208)) = some r := by rw [if_pos rfl] at H; exact H
          clear H
          have H := H1
          clear H1
          obtain rfl := Option.some.inj H
          try go_wp2
          have n0_ := Aside0.mk (blk_drew BK203.out)
          have n1_ := Aside0.mk (blk_drew BK204.out)
          have n2_ := Aside0.mk (below_drew1 HB.out)
          clear BK203
          clear BK204
          clear HB
          have BK203 := n0_
          have BK204 := n1_
          have HB := n2_
          clear n0_ n1_ n2_
          refine start_ (n := 16) (S := fun w' => w'.cell? ⟨gb204, 0, none⟩ = some (.int .i64 a0_1) ∧ w'.cell? ⟨gb204, 1, none⟩ = some (.int .u64 a0_2) ∧ w'.cell? ⟨gb204, 2, none⟩ = some (.int .u64 a0_3) ∧ w'.cell? ⟨gb204, 3, none⟩ = some (.int .i64 a0_4) ∧ w'.cell? ⟨gb204, 4, none⟩ = some (.int .i64 a0_5) ∧ w'.cell? ⟨gb204, 5, none⟩ = some (.string a0_6) ∧ w'.cell? ⟨gb204, 6, none⟩ = some (.int .u32 a0_7) ∧ w'.cell? ⟨gb204, 7, none⟩ = some (.int .i64 a0_8)) (ds := []) #[false, false, false, false, false, false, false, false, false, false, false, false, false, false, false, false] (by kernel_rfl) rfl rfl ⟨(blk_cell BK204.out 0).trans rfl, (blk_cell BK204.out 1).trans rfl, (blk_cell BK204.out 2).trans rfl, (blk_cell BK204.out 3).trans rfl, (blk_cell BK204.out 4).trans rfl, (blk_cell BK204.out 5).trans rfl, (blk_cell BK204.out 6).trans rfl, (blk_cell BK204.out 7).trans rfl⟩ (fun hHeld => ?_); refine with_tabW lease_bytes.tab5 lease_bytes.bits5 (fun HT_ HW_ => ?_)
          generalize wc.drew = w13 at BK203 BK204 HB hHeld ⊢
          refine pure_ (i := 0) (N := some 12) (v := ?_) (a' := ?_) #[true, false, false, false, false, false, false, false, false, false, false, false, false, false, false, false] rfl rfl (any_of HT_.out (by kernel_rfl)) (fun _ _ _ h => h) (Or.inl ⟨by rfl, ?_⟩) ?_ ?_
          rotate_left
          · intro w'
            go_simp
            with_reducible rfl
          rotate_left
          · simp only [Act.put, List.setIfInBounds_toArray, List.set_cons_zero, List.set_cons_succ, i64_w, i32_w]
            rfl
          refine pure_ (i := 1) (N := some 13) (v := ?_) (a' := ?_) #[true, true, false, false, false, false, false, false, false, false, false, false, false, false, false, false] rfl rfl (any_of HT_.out (by kernel_rfl)) (fun _ _ _ h => h) (Or.inl ⟨by rfl, ?_⟩) ?_ ?_
          rotate_left
          · intro w'
            go_simp
            with_reducible rfl
          rotate_left
          · simp only [Act.put, List.setIfInBounds_toArray, List.set_cons_zero, List.set_cons_succ, i64_w, i32_w]
            rfl
          refine pure_ (i := 4) (N := some 16) (v := ?_) (a' := ?_) #[true, true, false, false, true, false, false, false, false, false, false, false, false, false, false, false] rfl rfl (any_of HT_.out (by kernel_rfl)) (fun _ _ _ h => h) (Or.inl ⟨by rfl, ?_⟩) ?_ ?_
          rotate_left
          · intro w'
            go_simp
            with_reducible rfl
          rotate_left
          · simp only [Act.put, List.setIfInBounds_toArray, List.set_cons_zero, List.set_cons_succ, i64_w, i32_w]
            rfl
          refine pure_ (i := 5) (N := some 17) (v := ?_) (a' := ?_) #[true, true, false, false, true, true, false, false, false, false, false, false, false, false, false, false] rfl rfl (any_of HT_.out (by kernel_rfl)) (fun _ _ _ h => h) (Or.inl ⟨by rfl, ?_⟩) ?_ ?_
          rotate_left
          · intro w'
            go_simp
            with_reducible rfl
          rotate_left
          · simp only [Act.put, List.setIfInBounds_toArray, List.set_cons_zero, List.set_cons_succ, i64_w, i32_w]
            rfl
          refine pure_ (i := 10) (N := some 22) (v := ?_) (a' := ?_) #[true, true, false, false, true, true, false, false, false, false, true, false, false, false, false, false] rfl rfl (any_of HT_.out (by kernel_rfl)) (fun _ _ _ h => h) (Or.inl ⟨by rfl, ?_⟩) ?_ ?_
          rotate_left
          · intro w'
            go_simp
            with_reducible rfl
          rotate_left
          · simp only [Act.put, List.setIfInBounds_toArray, List.set_cons_zero, List.set_cons_succ, i64_w, i32_w]
            rfl
          refine pure_ (i := 11) (N := some 23) (v := ?_) (a' := ?_) #[true, true, false, false, true, true, false, false, false, false, true, true, false, false, false, false] rfl rfl (any_of HT_.out (by kernel_rfl)) (fun _ _ _ h => h) (Or.inl ⟨by rfl, ?_⟩) ?_ ?_
          rotate_left
          · intro w'
            go_simp
            with_reducible rfl
          rotate_left
          · simp only [Act.put, List.setIfInBounds_toArray, List.set_cons_zero, List.set_cons_succ, i64_w, i32_w]
            rfl
          refine take_ (i := 2) (N := some 14) (v := ?_) (a' := ?_) #[true, true, true, false, true, true, false, false, false, false, true, true, false, false, false, false] rfl rfl (take_ofW HT_.out HW_.out (by kernel_rfl)) (fun _ _ _ h => h) (Or.inl ⟨by rfl, ?_⟩) hHeld ?_ ?_
          rotate_left
          · rintro w' ⟨s0, s1, s2, s3, s4, s5, s6, s7⟩
            go_simp
            with_reducible rfl
          rotate_left
          · simp only [Act.put, List.setIfInBounds_toArray, List.set_cons_zero, List.set_cons_succ, i64_w, i32_w]
            rfl
          refine pure_ (i := 3) (N := some 15) (v := ?_) (a' := ?_) #[true, true, true, true, true, true, false, false, false, false, true, true, false, false, false, false] rfl rfl (any_of HT_.out (by kernel_rfl)) (fun _ _ _ h => h) (Or.inl ⟨by rfl, ?_⟩) ?_ ?_
          rotate_left
          · intro w'
            go_simp
            with_reducible rfl
          rotate_left
          · simp only [Act.put, List.setIfInBounds_toArray, List.set_cons_zero, List.set_cons_succ, i64_w, i32_w]
            rfl
          refine take_ (i := 6) (N := some 18) (v := ?_) (a' := ?_) #[true, true, true, true, true, true, true, false, false, false, true, true, false, false, false, false] rfl rfl (take_ofW HT_.out HW_.out (by kernel_rfl)) (fun _ _ _ h => h) (Or.inl ⟨by rfl, ?_⟩) hHeld ?_ ?_
          rotate_left
          · rintro w' ⟨s0, s1, s2, s3, s4, s5, s6, s7⟩
            go_simp
            with_reducible rfl
          rotate_left
          · simp only [Act.put, List.setIfInBounds_toArray, List.set_cons_zero, List.set_cons_succ, i64_w, i32_w]
            rfl
          refine pure_ (i := 7) (N := some 19) (v := ?_) (a' := ?_) #[true, true, true, true, true, true, true, true, false, false, true, true, false, false, false, false] rfl rfl (any_of HT_.out (by kernel_rfl)) (fun _ _ _ h => h) (Or.inl ⟨by rfl, ?_⟩) ?_ ?_
          rotate_left
          · intro w'
            go_simp
            with_reducible rfl
          rotate_left
          · simp only [Act.put, List.setIfInBounds_toArray, List.set_cons_zero, List.set_cons_succ, i64_w, i32_w]
            rfl
          refine take_ (i := 12) (N := some 24) (v := ?_) (a' := ?_) #[true, true, true, true, true, true, true, true, false, false, true, true, true, false, false, false] rfl rfl (take_ofW HT_.out HW_.out (by kernel_rfl)) (fun _ _ _ h => h) (Or.inl ⟨by rfl, ?_⟩) hHeld ?_ ?_
          rotate_left
          · rintro w' ⟨s0, s1, s2, s3, s4, s5, s6, s7⟩
            go_simp
            with_reducible rfl
          rotate_left
          · simp only [Act.put, List.setIfInBounds_toArray, List.set_cons_zero, List.set_cons_succ, i64_w, i32_w]
            rfl
          refine join_ (σ := Value) 2 #[true, true, true, true, true, true, true, true, true, true, true, true, true, true, false, false] (fun s_ => [(20, s_), (21, .string (strOfNums y205)), (25, .string t208)]) (fun s_ w' => (w'.cell? ⟨gb204, 0, none⟩ = some (.int .i64 a0_1) ∧ w'.cell? ⟨gb204, 1, none⟩ = some (.int .u64 a0_2) ∧ w'.cell? ⟨gb204, 2, none⟩ = some (.int .u64 a0_3) ∧ w'.cell? ⟨gb204, 3, none⟩ = some (.int .i64 a0_4) ∧ w'.cell? ⟨gb204, 4, none⟩ = some (.int .i64 a0_5) ∧ w'.cell? ⟨gb204, 5, none⟩ = some (.string a0_6) ∧ w'.cell? ⟨gb204, 6, none⟩ = some (.int .u32 a0_7) ∧ w'.cell? ⟨gb204, 7, none⟩ = some (.int .i64 a0_8)) ∧ (Kd.R (Kd.int .u8) 5 w' w.heap.size (fun _ => True) s_ y205) ∧ (w'.heap[gb203]? = some (.cells #[.bool true, .int .i64 a0_1, .int .u64 a0_2, .int .u64 a0_3, .int .i64 a0_4, .int .i64 a0_5, .string a0_6, .int .u32 a0_7, .int .i64 a0_8] 31 (0, 0))) ∧ (w'.heap[gb204]? = some (.cells #[.int .i64 a0_1, .int .u64 a0_2, .int .u64 a0_3, .int .i64 a0_4, .int .i64 a0_5, .string a0_6, .int .u32 a0_7, .int .i64 a0_8] 29 (0, 0))) ∧ (Below w.heap.size w w')) ?_ ?_
          rotate_left
          · intro hCont
            refine two_ (i := 8) (j := 13) (Ni := some 20) (Nj := some 25) #[true, true, true, true, true, true, true, true, true, false, true, true, true, false, false, false] #[true, true, true, true, true, true, true, true, false, false, true, true, true, true, false, false] rfl rfl rfl rfl (two_of HT_.out (by kernel_rfl)) (by decide) (by decide) (fun K hK => ?_) (fun K hK => ?_)
            · skip
              refine Kd.R_lit_step (Kd.int .u8) _ 5 ?hg (N := 20) ?hd (xs := ([x4_1, (a0_1) % 256, (a0_4) % 256] : List Int)) (inner := [.int .u8 x4_1, .int .u8 ((a0_1) % 256), .int .u8 ((a0_4) % 256)]) (ok := fun _ => True) (okp := fun _ => True) ?hr ?hp (fun _ hk => hk) trivial (Below.refl _ _) (Nat.le_refl _) (by simp) ?_; (case hd => rfl); (case hg => rfl); (case hr => first | (go_simp; rfl)); (case hp => exact (Reps.one (show Kd.M (Kd.int .u8) _ _ _ x4_1 [.int .u8 x4_1] from rfl) (Reps.one (show Kd.M (Kd.int .u8) _ _ _ ((a0_1) % 256) [.int .u8 ((a0_1) % 256)] from rfl) (Reps.one (show Kd.M (Kd.int .u8) _ _ _ ((a0_4) % 256) [.int .u8 ((a0_4) % 256)] from rfl) (Reps.none _ _)))))
              intro v206 w14 ho15 hb hg_ hnew_
              clear hg_ hnew_
              (first | rw [← Ny205.out] at ho15)
              have n0_ := Aside0.mk (Kd.R_lower ho15 (below_size HB.out))
              have n1_ := Aside0.mk (blk_below (g := gb203) (o := .cells #[.bool true, .int .i64 a0_1, .int .u64 a0_2, .int .u64 a0_3, .int .i64 a0_4, .int .i64 a0_5, .string a0_6, .int .u32 a0_7, .int .i64 a0_8] 31 (0, 0)) BK203.out hb)
              have n2_ := Aside0.mk (blk_below (g := gb204) (o := .cells #[.int .i64 a0_1, .int .u64 a0_2, .int .u64 a0_3, .int .i64 a0_4, .int .i64 a0_5, .string a0_6, .int .u32 a0_7, .int .i64 a0_8] 29 (0, 0)) BK204.out hb)
              have n3_ := Aside0.mk (below_step HB.out hb)
              clear BK203
              clear BK204
              clear HB
              have HO207 := n0_
              have BK203 := n1_
              have BK204 := n2_
              have HB := n3_
              clear n0_ n1_ n2_ n3_
              clear hb ho15
              refine hK.out _ _ ⟨(blk_cell BK204.out 0).trans rfl, (blk_cell BK204.out 1).trans rfl, (blk_cell BK204.out 2).trans rfl, (blk_cell BK204.out 3).trans rfl, (blk_cell BK204.out 4).trans rfl, (blk_cell BK204.out 5).trans rfl, (blk_cell BK204.out 6).trans rfl, (blk_cell BK204.out 7).trans rfl⟩ (fun hHeld => ?_)
              clear hK K
              refine norm_ (a' := ?_) ?_ ?_
              rotate_left
              · show Act.put _ (some 20) _ = _
                simp only [Act.put, List.setIfInBounds_toArray, List.set_cons_zero, List.set_cons_succ, i64_w, i32_w]
                rfl
              refine two_ (i := 9) (j := 13) (Ni := some 21) (Nj := some 25) #[true, true, true, true, true, true, true, true, true, true, true, true, true, false, false, false] #[true, true, true, true, true, true, true, true, true, false, true, true, true, true, false, false] rfl rfl rfl rfl (two_of HT_.out (by kernel_rfl)) (by decide) (by decide) (fun K hK => ?_) (fun K hK => ?_)
              · skip
                have hcv16 := own_string (P := Try.prog) Try.underlying60 Try.underlying5 Try.underlying9 (Kd.own_of_R HO207.out)
                refine value_ (w1 := ?_) (v := ?_) (by rfl) rfl ?_ ?_
                rotate_left 2
                · go_simp
                  constructor
                  · rfl
                  · rfl
                clear hcv16
                refine hK.out _ _ ⟨(blk_cell BK204.out 0).trans rfl, (blk_cell BK204.out 1).trans rfl, (blk_cell BK204.out 2).trans rfl, (blk_cell BK204.out 3).trans rfl, (blk_cell BK204.out 4).trans rfl, (blk_cell BK204.out 5).trans rfl, (blk_cell BK204.out 6).trans rfl, (blk_cell BK204.out 7).trans rfl⟩ (fun hHeld => ?_)
                clear hK K
                refine norm_ (a' := ?_) ?_ ?_
                rotate_left
                · show Act.put _ (some 21) _ = _
                  simp only [Act.put, List.setIfInBounds_toArray, List.set_cons_zero, List.set_cons_succ, i64_w, i32_w]
                  rfl
                refine one_ (i := 13) (N := some 25) #[true, true, true, true, true, true, true, true, true, true, true, true, true, true, false, false] rfl rfl (one_of HT_.out (by kernel_rfl)) (by decide) (fun K hK => ?_)
                refine goes_ Try.func61 (by kernel_rfl) rfl #[.agg #[.int .u64 a0_2, .int .u64 a0_3]] (by rfl) rfl rfl (by (try simp only [List.map_toArray, List.map_cons, List.map_nil]); first | rfl) ?_
                with_reducible refine (octet_PutAddr.calls kj1 a0_2 a0_3 t208 _ A10.out).mono ?_
                rintro e w17 ⟨rfl, hb⟩
                refine ⟨_, rfl, ?_⟩
                have n0_ := Aside0.mk (Kd.R_below HO207.out hb)
                have n1_ := Aside0.mk (blk_below (g := gb203) (o := .cells #[.bool true, .int .i64 a0_1, .int .u64 a0_2, .int .u64 a0_3, .int .i64 a0_4, .int .i64 a0_5, .string a0_6, .int .u32 a0_7, .int .i64 a0_8] 31 (0, 0)) BK203.out hb)
                have n2_ := Aside0.mk (blk_below (g := gb204) (o := .cells #[.int .i64 a0_1, .int .u64 a0_2, .int .u64 a0_3, .int .i64 a0_4, .int .i64 a0_5, .string a0_6, .int .u32 a0_7, .int .i64 a0_8] 29 (0, 0)) BK204.out hb)
                have n3_ := Aside0.mk (below_step HB.out hb)
                clear HO207
                clear BK203
                clear BK204
                clear HB
                have HO207 := n0_
                have BK203 := n1_
                have BK204 := n2_
                have HB := n3_
                clear n0_ n1_ n2_ n3_
                (try clear hb)
                (try clear hb2)
                (try clear hk)
                (try clear hi)
                refine hK.out _ _ ⟨(blk_cell BK204.out 0).trans rfl, (blk_cell BK204.out 1).trans rfl, (blk_cell BK204.out 2).trans rfl, (blk_cell BK204.out 3).trans rfl, (blk_cell BK204.out 4).trans rfl, (blk_cell BK204.out 5).trans rfl, (blk_cell BK204.out 6).trans rfl, (blk_cell BK204.out 7).trans rfl⟩ (fun hHeld => ?_)
                clear hK K
                refine norm_ (a' := ?_) ?_ ?_
                rotate_left
                · show Act.put _ (some 25) _ = _
                  simp only [Act.put, List.setIfInBounds_toArray, List.set_cons_zero, List.set_cons_succ, i64_w, i32_w]
                  rfl
                exact norm_ (by simp only [putAll, Act.put, List.setIfInBounds_toArray, List.set_cons_zero, List.set_cons_succ]) (hCont (v206) _ ⟨hHeld, HO207.out, BK203.out, BK204.out, HB.out⟩)
              · skip
                refine goes_ Try.func61 (by kernel_rfl) rfl #[.agg #[.int .u64 a0_2, .int .u64 a0_3]] (by rfl) rfl rfl (by (try simp only [List.map_toArray, List.map_cons, List.map_nil]); first | rfl) ?_
                with_reducible refine (octet_PutAddr.calls kj1 a0_2 a0_3 t208 _ A10.out).mono ?_
                rintro e w16 ⟨rfl, hb⟩
                refine ⟨_, rfl, ?_⟩
                have n0_ := Aside0.mk (Kd.R_below HO207.out hb)
                have n1_ := Aside0.mk (blk_below (g := gb203) (o := .cells #[.bool true, .int .i64 a0_1, .int .u64 a0_2, .int .u64 a0_3, .int .i64 a0_4, .int .i64 a0_5, .string a0_6, .int .u32 a0_7, .int .i64 a0_8] 31 (0, 0)) BK203.out hb)
                have n2_ := Aside0.mk (blk_below (g := gb204) (o := .cells #[.int .i64 a0_1, .int .u64 a0_2, .int .u64 a0_3, .int .i64 a0_4, .int .i64 a0_5, .string a0_6, .int .u32 a0_7, .int .i64 a0_8] 29 (0, 0)) BK204.out hb)
                have n3_ := Aside0.mk (below_step HB.out hb)
                clear HO207
                clear BK203
                clear BK204
                clear HB
                have HO207 := n0_
                have BK203 := n1_
                have BK204 := n2_
                have HB := n3_
                clear n0_ n1_ n2_ n3_
                (try clear hb)
                (try clear hb2)
                (try clear hk)
                (try clear hi)
                refine hK.out _ _ ⟨(blk_cell BK204.out 0).trans rfl, (blk_cell BK204.out 1).trans rfl, (blk_cell BK204.out 2).trans rfl, (blk_cell BK204.out 3).trans rfl, (blk_cell BK204.out 4).trans rfl, (blk_cell BK204.out 5).trans rfl, (blk_cell BK204.out 6).trans rfl, (blk_cell BK204.out 7).trans rfl⟩ (fun hHeld => ?_)
                clear hK K
                refine norm_ (a' := ?_) ?_ ?_
                rotate_left
                · show Act.put _ (some 25) _ = _
                  simp only [Act.put, List.setIfInBounds_toArray, List.set_cons_zero, List.set_cons_succ, i64_w, i32_w]
                  rfl
                refine one_ (i := 9) (N := some 21) #[true, true, true, true, true, true, true, true, true, true, true, true, true, true, false, false] rfl rfl (one_of HT_.out (by kernel_rfl)) (by decide) (fun K hK => ?_)
                have hcv17 := own_string (P := Try.prog) Try.underlying60 Try.underlying5 Try.underlying9 (Kd.own_of_R HO207.out)
                refine value_ (w1 := ?_) (v := ?_) (by rfl) rfl ?_ ?_
                rotate_left 2
                · go_simp
                  constructor
                  · rfl
                  · rfl
                clear hcv17
                refine hK.out _ _ ⟨(blk_cell BK204.out 0).trans rfl, (blk_cell BK204.out 1).trans rfl, (blk_cell BK204.out 2).trans rfl, (blk_cell BK204.out 3).trans rfl, (blk_cell BK204.out 4).trans rfl, (blk_cell BK204.out 5).trans rfl, (blk_cell BK204.out 6).trans rfl, (blk_cell BK204.out 7).trans rfl⟩ (fun hHeld => ?_)
                clear hK K
                refine norm_ (a' := ?_) ?_ ?_
                rotate_left
                · show Act.put _ (some 21) _ = _
                  simp only [Act.put, List.setIfInBounds_toArray, List.set_cons_zero, List.set_cons_succ, i64_w, i32_w]
                  rfl
                exact norm_ (by simp only [putAll, Act.put, List.setIfInBounds_toArray, List.set_cons_zero, List.set_cons_succ]) (hCont (v206) _ ⟨hHeld, HO207.out, BK203.out, BK204.out, HB.out⟩)
            · skip
              refine goes_ Try.func61 (by kernel_rfl) rfl #[.agg #[.int .u64 a0_2, .int .u64 a0_3]] (by rfl) rfl rfl (by (try simp only [List.map_toArray, List.map_cons, List.map_nil]); first | rfl) ?_
              with_reducible refine (octet_PutAddr.calls kj1 a0_2 a0_3 t208 _ A10.out).mono ?_
              rintro e w14 ⟨rfl, hb⟩
              refine ⟨_, rfl, ?_⟩
              have n0_ := Aside0.mk (blk_below (g := gb203) (o := .cells #[.bool true, .int .i64 a0_1, .int .u64 a0_2, .int .u64 a0_3, .int .i64 a0_4, .int .i64 a0_5, .string a0_6, .int .u32 a0_7, .int .i64 a0_8] 31 (0, 0)) BK203.out hb)
              have n1_ := Aside0.mk (blk_below (g := gb204) (o := .cells #[.int .i64 a0_1, .int .u64 a0_2, .int .u64 a0_3, .int .i64 a0_4, .int .i64 a0_5, .string a0_6, .int .u32 a0_7, .int .i64 a0_8] 29 (0, 0)) BK204.out hb)
              have n2_ := Aside0.mk (below_step HB.out hb)
              clear BK203
              clear BK204
              clear HB
              have BK203 := n0_
              have BK204 := n1_
              have HB := n2_
              clear n0_ n1_ n2_
              (try clear hb)
              (try clear hb2)
              (try clear hk)
              (try clear hi)
              refine hK.out _ _ ⟨(blk_cell BK204.out 0).trans rfl, (blk_cell BK204.out 1).trans rfl, (blk_cell BK204.out 2).trans rfl, (blk_cell BK204.out 3).trans rfl, (blk_cell BK204.out 4).trans rfl, (blk_cell BK204.out 5).trans rfl, (blk_cell BK204.out 6).trans rfl, (blk_cell BK204.out 7).trans rfl⟩ (fun hHeld => ?_)
              clear hK K
              refine norm_ (a' := ?_) ?_ ?_
              rotate_left
              · show Act.put _ (some 25) _ = _
                simp only [Act.put, List.setIfInBounds_toArray, List.set_cons_zero, List.set_cons_succ, i64_w, i32_w]
                rfl
              refine one_ (i := 8) (N := some 20) #[true, true, true, true, true, true, true, true, true, false, true, true, true, true, false, false] rfl rfl (one_of HT_.out (by kernel_rfl)) (by decide) (fun K hK => ?_)
              refine Kd.R_lit_step (Kd.int .u8) _ 5 ?hg (N := 20) ?hd (xs := ([x4_1, (a0_1) % 256, (a0_4) % 256] : List Int)) (inner := [.int .u8 x4_1, .int .u8 ((a0_1) % 256), .int .u8 ((a0_4) % 256)]) (ok := fun _ => True) (okp := fun _ => True) ?hr ?hp (fun _ hk => hk) trivial (Below.refl _ _) (Nat.le_refl _) (by simp) ?_; (case hd => rfl); (case hg => rfl); (case hr => first | (go_simp; rfl)); (case hp => exact (Reps.one (show Kd.M (Kd.int .u8) _ _ _ x4_1 [.int .u8 x4_1] from rfl) (Reps.one (show Kd.M (Kd.int .u8) _ _ _ ((a0_1) % 256) [.int .u8 ((a0_1) % 256)] from rfl) (Reps.one (show Kd.M (Kd.int .u8) _ _ _ ((a0_4) % 256) [.int .u8 ((a0_4) % 256)] from rfl) (Reps.none _ _)))))
              intro v206 w15 ho16 hb hg_ hnew_
              clear hg_ hnew_
              (first | rw [← Ny205.out] at ho16)
              have n0_ := Aside0.mk (Kd.R_lower ho16 (below_size HB.out))
              have n1_ := Aside0.mk (blk_below (g := gb203) (o := .cells #[.bool true, .int .i64 a0_1, .int .u64 a0_2, .int .u64 a0_3, .int .i64 a0_4, .int .i64 a0_5, .string a0_6, .int .u32 a0_7, .int .i64 a0_8] 31 (0, 0)) BK203.out hb)
              have n2_ := Aside0.mk (blk_below (g := gb204) (o := .cells #[.int .i64 a0_1, .int .u64 a0_2, .int .u64 a0_3, .int .i64 a0_4, .int .i64 a0_5, .string a0_6, .int .u32 a0_7, .int .i64 a0_8] 29 (0, 0)) BK204.out hb)
              have n3_ := Aside0.mk (below_step HB.out hb)
              clear BK203
              clear BK204
              clear HB
              have HO207 := n0_
              have BK203 := n1_
              have BK204 := n2_
              have HB := n3_
              clear n0_ n1_ n2_ n3_
              clear hb ho16
              refine hK.out _ _ ⟨(blk_cell BK204.out 0).trans rfl, (blk_cell BK204.out 1).trans rfl, (blk_cell BK204.out 2).trans rfl, (blk_cell BK204.out 3).trans rfl, (blk_cell BK204.out 4).trans rfl, (blk_cell BK204.out 5).trans rfl, (blk_cell BK204.out 6).trans rfl, (blk_cell BK204.out 7).trans rfl⟩ (fun hHeld => ?_)
              clear hK K
              refine norm_ (a' := ?_) ?_ ?_
              rotate_left
              · show Act.put _ (some 20) _ = _
                simp only [Act.put, List.setIfInBounds_toArray, List.set_cons_zero, List.set_cons_succ, i64_w, i32_w]
                rfl
              refine one_ (i := 9) (N := some 21) #[true, true, true, true, true, true, true, true, true, true, true, true, true, true, false, false] rfl rfl (one_of HT_.out (by kernel_rfl)) (by decide) (fun K hK => ?_)
              have hcv17 := own_string (P := Try.prog) Try.underlying60 Try.underlying5 Try.underlying9 (Kd.own_of_R HO207.out)
              refine value_ (w1 := ?_) (v := ?_) (by rfl) rfl ?_ ?_
              rotate_left 2
              · go_simp
                constructor
                · rfl
                · rfl
              clear hcv17
              refine hK.out _ _ ⟨(blk_cell BK204.out 0).trans rfl, (blk_cell BK204.out 1).trans rfl, (blk_cell BK204.out 2).trans rfl, (blk_cell BK204.out 3).trans rfl, (blk_cell BK204.out 4).trans rfl, (blk_cell BK204.out 5).trans rfl, (blk_cell BK204.out 6).trans rfl, (blk_cell BK204.out 7).trans rfl⟩ (fun hHeld => ?_)
              clear hK K
              refine norm_ (a' := ?_) ?_ ?_
              rotate_left
              · show Act.put _ (some 21) _ = _
                simp only [Act.put, List.setIfInBounds_toArray, List.set_cons_zero, List.set_cons_succ, i64_w, i32_w]
                rfl
              exact norm_ (by simp only [putAll, Act.put, List.setIfInBounds_toArray, List.set_cons_zero, List.set_cons_succ]) (hCont (v206) _ ⟨hHeld, HO207.out, BK203.out, BK204.out, HB.out⟩)
          rintro v206 w18 ⟨hS_, h0_, h1_, h2_, h3_⟩
          have n0_ : Aside0 (Kd.R (Kd.int .u8) 5 w18 w.heap.size (fun _ => True) v206 y205) := ⟨h0_⟩
          have n1_ : Aside0 (w18.heap[gb203]? = some (.cells #[.bool true, .int .i64 a0_1, .int .u64 a0_2, .int .u64 a0_3, .int .i64 a0_4, .int .i64 a0_5, .string a0_6, .int .u32 a0_7, .int .i64 a0_8] 31 (0, 0))) := ⟨h1_⟩
          have n2_ : Aside0 (w18.heap[gb204]? = some (.cells #[.int .i64 a0_1, .int .u64 a0_2, .int .u64 a0_3, .int .i64 a0_4, .int .i64 a0_5, .string a0_6, .int .u32 a0_7, .int .i64 a0_8] 29 (0, 0))) := ⟨h2_⟩
          have n3_ : Aside0 (Below w.heap.size w w18) := ⟨h3_⟩
          clear BK203
          clear BK204
          clear HB
          clear h0_ h1_ h2_ h3_
          have HO207 := n0_
          have BK203 := n1_
          have BK204 := n2_
          have HB := n3_
          clear n0_ n1_ n2_ n3_
          have hHeld : w18.cell? ⟨gb204, 0, none⟩ = some (.int .i64 a0_1) ∧ w18.cell? ⟨gb204, 1, none⟩ = some (.int .u64 a0_2) ∧ w18.cell? ⟨gb204, 2, none⟩ = some (.int .u64 a0_3) ∧ w18.cell? ⟨gb204, 3, none⟩ = some (.int .i64 a0_4) ∧ w18.cell? ⟨gb204, 4, none⟩ = some (.int .i64 a0_5) ∧ w18.cell? ⟨gb204, 5, none⟩ = some (.string a0_6) ∧ w18.cell? ⟨gb204, 6, none⟩ = some (.int .u32 a0_7) ∧ w18.cell? ⟨gb204, 7, none⟩ = some (.int .i64 a0_8) := hS_
          refine norm_ (a' := ?_) ?_ ?_
          rotate_left
          · simp only [putAll, Act.put, List.setIfInBounds_toArray, List.set_cons_zero, List.set_cons_succ]
            rfl
          refine pure_ (i := 14) (N := some 26) (v := ?_) (a' := ?_) #[true, true, true, true, true, true, true, true, true, true, true, true, true, true, true, false] rfl rfl (any_of HT_.out (by kernel_rfl)) (fun _ _ _ h => h) (Or.inl ⟨by rfl, ?_⟩) ?_ ?_
          rotate_left
          · intro w'
            go_simp
            with_reducible rfl
          rotate_left
          · simp only [Act.put, List.setIfInBounds_toArray, List.set_cons_zero, List.set_cons_succ, i64_w, i32_w]
            rfl
          refine pure_ (i := 15) (N := some 5) (v := ?_) (a' := ?_) #[true, true, true, true, true, true, true, true, true, true, true, true, true, true, true, true] rfl rfl (any_of HT_.out (by kernel_rfl)) (fun _ _ _ h => h) (Or.inl ⟨by rfl, ?_⟩) ?_ ?_
          rotate_left
          · intro w'
            go_simp
            with_reducible rfl
          rotate_left
          · simp only [Act.put, List.setIfInBounds_toArray, List.set_cons_zero, List.set_cons_succ, i64_w, i32_w]
            rfl
          refine done_ (done_of HT_.out (by kernel_rfl)) ?_
          have hnb19 := NB203_204.out
          have hnc19 := NB204_203.out
          obtain ⟨hcz20_0, hcz20_1, hcz20_2, hcz20_3, hcz20_4, hcz20_5, hcz20_6, hcz20_7, hcz20_8⟩ := XRun.bc9 BK203.out
          obtain ⟨hfz20_0, hfz20_1, hfz20_2, hfz20_3, hfz20_4, hfz20_5, hfz20_6, hfz20_7, hfz20_8⟩ := XRun.bf9 BK203.out
          try go_wp2
          go_ret
          exact ⟨by rfl, by exact HB.out⟩
        · replace c12 := Bool.eq_false_iff.mpr c12
          subst c12
          have H1 : ((octet_Run.f kj1 a0_6).bind fun bt209 => ((some (([(a0_5) % 256] : List Int) : List Int)).bind fun y211 => (if ((strOfNums y205) ++ t208).size + (strOfNums y211).size ≤ 9223372036854775807 then ((octet_Put32.f kj1 a0_7).bind fun t214 => (if (((strOfNums y205) ++ t208) ++ (strOfNums y211)).size + t214.size ≤ 9223372036854775807 then ((octet_Put64.f kj1 (IntKind.u64.wrap (a0_8))).bind fun t215 => (if ((((strOfNums y205) ++ t208) ++ (strOfNums y211)) ++ t214).size + t215.size ≤ 9223372036854775807 then (if (((((strOfNums y205) ++ t208) ++ (strOfNums y211)) ++ t214) ++ t215).size + bt209.1.size ≤ 9223372036854775807 then (some ((((((strOfNums y205) ++ t208) ++ (strOfNums y211)) ++ t214) ++ t215) ++ bt209.1)) else (none)) else (none))) else (none))) else (none)))) = some r := by rw [if_neg (show ¬ (false = true) by decide)] at H; exact H
          clear H
          have H := H1
          clear H1
          replace H := Option.bind_eq_some_iff.mp H
          obtain ⟨⟨t209, t210⟩, A210, H⟩ := H
          replace H : ((some (([(a0_5) % 256] : List Int) : List Int)).bind fun y211 => (if ((strOfNums y205) ++ t208).size + (strOfNums y211).size ≤ 9223372036854775807 then ((octet_Put32.f kj1 a0_7).bind fun t214 => (if (((strOfNums y205) ++ t208) ++ (strOfNums y211)).size + t214.size ≤ 9223372036854775807 then ((octet_Put64.f kj1 (IntKind.u64.wrap (a0_8))).bind fun t215 => (if ((((strOfNums y205) ++ t208) ++ (strOfNums y211)) ++ t214).size + t215.size ≤ 9223372036854775807 then (if (((((strOfNums y205) ++ t208) ++ (strOfNums y211)) ++ t214) ++ t215).size + t209.size ≤ 9223372036854775807 then (some ((((((strOfNums y205) ++ t208) ++ (strOfNums y211)) ++ t214) ++ t215) ++ t209)) else (none)) else (none))) else (none))) else (none))) = some r := H
          have A21 := Aside0.mk A210
          clear A210
          obtain ⟨y211, hy211⟩ : ∃ y_ : List Int, y_ = (([(a0_5) % 256] : List Int)) := ⟨_, rfl⟩
          replace H : (if ((strOfNums y205) ++ t208).size + (strOfNums y211).size ≤ 9223372036854775807 then ((octet_Put32.f kj1 a0_7).bind fun t214 => (if (((strOfNums y205) ++ t208) ++ (strOfNums y211)).size + t214.size ≤ 9223372036854775807 then ((octet_Put64.f kj1 (IntKind.u64.wrap (a0_8))).bind fun t215 => (if ((((strOfNums y205) ++ t208) ++ (strOfNums y211)) ++ t214).size + t215.size ≤ 9223372036854775807 then (if (((((strOfNums y205) ++ t208) ++ (strOfNums y211)) ++ t214) ++ t215).size + t209.size ≤ 9223372036854775807 then (some ((((((strOfNums y205) ++ t208) ++ (strOfNums y211)) ++ t214) ++ t215) ++ t209)) else (none)) else (none))) else (none))) else (none)) = some r := by first | (have H2_ := (Option.bind_some _ _).symm.trans H; rw [hy211]; with_reducible exact H2_)
          have Ny211 := Aside0.mk hy211
          clear hy211
          by_cases c22 : ((strOfNums y205) ++ t208).size + (strOfNums y211).size ≤ 9223372036854775807
          · rw [if_pos c22] at H
            have c22b0 := eq_true c22
            have c22b1 : decide (((strOfNums y205) ++ t208).size + (strOfNums y211).size ≤ 9223372036854775807) = true := decide_eq_true c22
            try have c22b2 : (9223372036854775807 < ((strOfNums y205) ++ t208).size + (strOfNums y211).size) = False := eq_false (Nat.not_lt.2 c22)
            (try (have c22b2a := c22b2; simp only [ByteArray.size_append] at c22b2a))
            replace H := Option.bind_eq_some_iff.mp H
            obtain ⟨t214, A230, H⟩ := H
            replace H : (if (((strOfNums y205) ++ t208) ++ (strOfNums y211)).size + t214.size ≤ 9223372036854775807 then ((octet_Put64.f kj1 (IntKind.u64.wrap (a0_8))).bind fun t215 => (if ((((strOfNums y205) ++ t208) ++ (strOfNums y211)) ++ t214).size + t215.size ≤ 9223372036854775807 then (if (((((strOfNums y205) ++ t208) ++ (strOfNums y211)) ++ t214) ++ t215).size + t209.size ≤ 9223372036854775807 then (some ((((((strOfNums y205) ++ t208) ++ (strOfNums y211)) ++ t214) ++ t215) ++ t209)) else (none)) else (none))) else (none)) = some r := H
            have A23 := Aside0.mk A230
            clear A230
            by_cases c24 : (((strOfNums y205) ++ t208) ++ (strOfNums y211)).size + t214.size ≤ 9223372036854775807
            · rw [if_pos c24] at H
              have c24b0 := eq_true c24
              have c24b1 : decide ((((strOfNums y205) ++ t208) ++ (strOfNums y211)).size + t214.size ≤ 9223372036854775807) = true := decide_eq_true c24
              try have c24b2 : (9223372036854775807 < (((strOfNums y205) ++ t208) ++ (strOfNums y211)).size + t214.size) = False := eq_false (Nat.not_lt.2 c24)
              (try (have c24b2a := c24b2; simp only [ByteArray.size_append] at c24b2a))
              replace H := Option.bind_eq_some_iff.mp H
              obtain ⟨t215, A250, H⟩ := H
              replace H : (if ((((strOfNums y205) ++ t208) ++ (strOfNums y211)) ++ t214).size + t215.size ≤ 9223372036854775807 then (if (((((strOfNums y205) ++ t208) ++ (strOfNums y211)) ++ t214) ++ t215).size + t209.size ≤ 9223372036854775807 then (some ((((((strOfNums y205) ++ t208) ++ (strOfNums y211)) ++ t214) ++ t215) ++ t209)) else (none)) else (none)) = some r := H
              have A25 := Aside0.mk A250
              clear A250
              by_cases c26 : ((((strOfNums y205) ++ t208) ++ (strOfNums y211)) ++ t214).size + t215.size ≤ 9223372036854775807
              · rw [if_pos c26] at H
                have c26b0 := eq_true c26
                have c26b1 : decide (((((strOfNums y205) ++ t208) ++ (strOfNums y211)) ++ t214).size + t215.size ≤ 9223372036854775807) = true := decide_eq_true c26
                try have c26b2 : (9223372036854775807 < ((((strOfNums y205) ++ t208) ++ (strOfNums y211)) ++ t214).size + t215.size) = False := eq_false (Nat.not_lt.2 c26)
                (try (have c26b2a := c26b2; simp only [ByteArray.size_append] at c26b2a))
                by_cases c27 : (((((strOfNums y205) ++ t208) ++ (strOfNums y211)) ++ t214) ++ t215).size + t209.size ≤ 9223372036854775807
                · rw [if_pos c27] at H
                  have c27b0 := eq_true c27
                  have c27b1 : decide ((((((strOfNums y205) ++ t208) ++ (strOfNums y211)) ++ t214) ++ t215).size + t209.size ≤ 9223372036854775807) = true := decide_eq_true c27
                  try have c27b2 : (9223372036854775807 < (((((strOfNums y205) ++ t208) ++ (strOfNums y211)) ++ t214) ++ t215).size + t209.size) = False := eq_false (Nat.not_lt.2 c27)
                  (try (have c27b2a := c27b2; simp only [ByteArray.size_append] at c27b2a))
                  obtain rfl := Option.some.inj H
                  try go_wp2
                  have n0_ := Aside0.mk (blk_drew BK203.out)
                  have n1_ := Aside0.mk (blk_drew BK204.out)
                  have n2_ := Aside0.mk (below_drew1 HB.out)
                  clear BK203
                  clear BK204
                  clear HB
                  have BK203 := n0_
                  have BK204 := n1_
                  have HB := n2_
                  clear n0_ n1_ n2_
                  refine start_ (n := 16) (S := fun w' => w'.cell? ⟨gb204, 0, none⟩ = some (.int .i64 a0_1) ∧ w'.cell? ⟨gb204, 1, none⟩ = some (.int .u64 a0_2) ∧ w'.cell? ⟨gb204, 2, none⟩ = some (.int .u64 a0_3) ∧ w'.cell? ⟨gb204, 3, none⟩ = some (.int .i64 a0_4) ∧ w'.cell? ⟨gb204, 4, none⟩ = some (.int .i64 a0_5) ∧ w'.cell? ⟨gb204, 5, none⟩ = some (.string a0_6) ∧ w'.cell? ⟨gb204, 6, none⟩ = some (.int .u32 a0_7) ∧ w'.cell? ⟨gb204, 7, none⟩ = some (.int .i64 a0_8)) (ds := []) #[false, false, false, false, false, false, false, false, false, false, false, false, false, false, false, false] (by kernel_rfl) rfl rfl ⟨(blk_cell BK204.out 0).trans rfl, (blk_cell BK204.out 1).trans rfl, (blk_cell BK204.out 2).trans rfl, (blk_cell BK204.out 3).trans rfl, (blk_cell BK204.out 4).trans rfl, (blk_cell BK204.out 5).trans rfl, (blk_cell BK204.out 6).trans rfl, (blk_cell BK204.out 7).trans rfl⟩ (fun hHeld => ?_); refine with_tabW lease_bytes.tab5 lease_bytes.bits5 (fun HT_ HW_ => ?_)
                  generalize wc.drew = w28 at BK203 BK204 HB hHeld ⊢
                  refine pure_ (i := 0) (N := some 12) (v := ?_) (a' := ?_) #[true, false, false, false, false, false, false, false, false, false, false, false, false, false, false, false] rfl rfl (any_of HT_.out (by kernel_rfl)) (fun _ _ _ h => h) (Or.inl ⟨by rfl, ?_⟩) ?_ ?_
                  rotate_left
                  · intro w'
                    go_simp
                    with_reducible rfl
                  rotate_left
                  · simp only [Act.put, List.setIfInBounds_toArray, List.set_cons_zero, List.set_cons_succ, i64_w, i32_w]
                    rfl
                  refine pure_ (i := 1) (N := some 13) (v := ?_) (a' := ?_) #[true, true, false, false, false, false, false, false, false, false, false, false, false, false, false, false] rfl rfl (any_of HT_.out (by kernel_rfl)) (fun _ _ _ h => h) (Or.inl ⟨by rfl, ?_⟩) ?_ ?_
                  rotate_left
                  · intro w'
                    go_simp
                    with_reducible rfl
                  rotate_left
                  · simp only [Act.put, List.setIfInBounds_toArray, List.set_cons_zero, List.set_cons_succ, i64_w, i32_w]
                    rfl
                  refine pure_ (i := 4) (N := some 16) (v := ?_) (a' := ?_) #[true, true, false, false, true, false, false, false, false, false, false, false, false, false, false, false] rfl rfl (any_of HT_.out (by kernel_rfl)) (fun _ _ _ h => h) (Or.inl ⟨by rfl, ?_⟩) ?_ ?_
                  rotate_left
                  · intro w'
                    go_simp
                    with_reducible rfl
                  rotate_left
                  · simp only [Act.put, List.setIfInBounds_toArray, List.set_cons_zero, List.set_cons_succ, i64_w, i32_w]
                    rfl
                  refine pure_ (i := 5) (N := some 17) (v := ?_) (a' := ?_) #[true, true, false, false, true, true, false, false, false, false, false, false, false, false, false, false] rfl rfl (any_of HT_.out (by kernel_rfl)) (fun _ _ _ h => h) (Or.inl ⟨by rfl, ?_⟩) ?_ ?_
                  rotate_left
                  · intro w'
                    go_simp
                    with_reducible rfl
                  rotate_left
                  · simp only [Act.put, List.setIfInBounds_toArray, List.set_cons_zero, List.set_cons_succ, i64_w, i32_w]
                    rfl
                  refine pure_ (i := 10) (N := some 22) (v := ?_) (a' := ?_) #[true, true, false, false, true, true, false, false, false, false, true, false, false, false, false, false] rfl rfl (any_of HT_.out (by kernel_rfl)) (fun _ _ _ h => h) (Or.inl ⟨by rfl, ?_⟩) ?_ ?_
                  rotate_left
                  · intro w'
                    go_simp
                    with_reducible rfl
                  rotate_left
                  · simp only [Act.put, List.setIfInBounds_toArray, List.set_cons_zero, List.set_cons_succ, i64_w, i32_w]
                    rfl
                  refine pure_ (i := 11) (N := some 23) (v := ?_) (a' := ?_) #[true, true, false, false, true, true, false, false, false, false, true, true, false, false, false, false] rfl rfl (any_of HT_.out (by kernel_rfl)) (fun _ _ _ h => h) (Or.inl ⟨by rfl, ?_⟩) ?_ ?_
                  rotate_left
                  · intro w'
                    go_simp
                    with_reducible rfl
                  rotate_left
                  · simp only [Act.put, List.setIfInBounds_toArray, List.set_cons_zero, List.set_cons_succ, i64_w, i32_w]
                    rfl
                  refine take_ (i := 2) (N := some 14) (v := ?_) (a' := ?_) #[true, true, true, false, true, true, false, false, false, false, true, true, false, false, false, false] rfl rfl (take_ofW HT_.out HW_.out (by kernel_rfl)) (fun _ _ _ h => h) (Or.inl ⟨by rfl, ?_⟩) hHeld ?_ ?_
                  rotate_left
                  · rintro w' ⟨s0, s1, s2, s3, s4, s5, s6, s7⟩
                    go_simp
                    with_reducible rfl
                  rotate_left
                  · simp only [Act.put, List.setIfInBounds_toArray, List.set_cons_zero, List.set_cons_succ, i64_w, i32_w]
                    rfl
                  refine pure_ (i := 3) (N := some 15) (v := ?_) (a' := ?_) #[true, true, true, true, true, true, false, false, false, false, true, true, false, false, false, false] rfl rfl (any_of HT_.out (by kernel_rfl)) (fun _ _ _ h => h) (Or.inl ⟨by rfl, ?_⟩) ?_ ?_
                  rotate_left
                  · intro w'
                    go_simp
                    with_reducible rfl
                  rotate_left
                  · simp only [Act.put, List.setIfInBounds_toArray, List.set_cons_zero, List.set_cons_succ, i64_w, i32_w]
                    rfl
                  refine take_ (i := 6) (N := some 18) (v := ?_) (a' := ?_) #[true, true, true, true, true, true, true, false, false, false, true, true, false, false, false, false] rfl rfl (take_ofW HT_.out HW_.out (by kernel_rfl)) (fun _ _ _ h => h) (Or.inl ⟨by rfl, ?_⟩) hHeld ?_ ?_
                  rotate_left
                  · rintro w' ⟨s0, s1, s2, s3, s4, s5, s6, s7⟩
                    go_simp
                    with_reducible rfl
                  rotate_left
                  · simp only [Act.put, List.setIfInBounds_toArray, List.set_cons_zero, List.set_cons_succ, i64_w, i32_w]
                    rfl
                  refine pure_ (i := 7) (N := some 19) (v := ?_) (a' := ?_) #[true, true, true, true, true, true, true, true, false, false, true, true, false, false, false, false] rfl rfl (any_of HT_.out (by kernel_rfl)) (fun _ _ _ h => h) (Or.inl ⟨by rfl, ?_⟩) ?_ ?_
                  rotate_left
                  · intro w'
                    go_simp
                    with_reducible rfl
                  rotate_left
                  · simp only [Act.put, List.setIfInBounds_toArray, List.set_cons_zero, List.set_cons_succ, i64_w, i32_w]
                    rfl
                  refine take_ (i := 12) (N := some 24) (v := ?_) (a' := ?_) #[true, true, true, true, true, true, true, true, false, false, true, true, true, false, false, false] rfl rfl (take_ofW HT_.out HW_.out (by kernel_rfl)) (fun _ _ _ h => h) (Or.inl ⟨by rfl, ?_⟩) hHeld ?_ ?_
                  rotate_left
                  · rintro w' ⟨s0, s1, s2, s3, s4, s5, s6, s7⟩
                    go_simp
                    with_reducible rfl
                  rotate_left
                  · simp only [Act.put, List.setIfInBounds_toArray, List.set_cons_zero, List.set_cons_succ, i64_w, i32_w]
                    rfl
                  refine join_ (σ := Value) 2 #[true, true, true, true, true, true, true, true, true, true, true, true, true, true, false, false] (fun s_ => [(20, s_), (21, .string (strOfNums y205)), (25, .string t208)]) (fun s_ w' => (w'.cell? ⟨gb204, 0, none⟩ = some (.int .i64 a0_1) ∧ w'.cell? ⟨gb204, 1, none⟩ = some (.int .u64 a0_2) ∧ w'.cell? ⟨gb204, 2, none⟩ = some (.int .u64 a0_3) ∧ w'.cell? ⟨gb204, 3, none⟩ = some (.int .i64 a0_4) ∧ w'.cell? ⟨gb204, 4, none⟩ = some (.int .i64 a0_5) ∧ w'.cell? ⟨gb204, 5, none⟩ = some (.string a0_6) ∧ w'.cell? ⟨gb204, 6, none⟩ = some (.int .u32 a0_7) ∧ w'.cell? ⟨gb204, 7, none⟩ = some (.int .i64 a0_8)) ∧ (Kd.R (Kd.int .u8) 5 w' w.heap.size (fun _ => True) s_ y205) ∧ (w'.heap[gb203]? = some (.cells #[.bool false, .int .i64 a0_1, .int .u64 a0_2, .int .u64 a0_3, .int .i64 a0_4, .int .i64 a0_5, .string a0_6, .int .u32 a0_7, .int .i64 a0_8] 31 (0, 0))) ∧ (w'.heap[gb204]? = some (.cells #[.int .i64 a0_1, .int .u64 a0_2, .int .u64 a0_3, .int .i64 a0_4, .int .i64 a0_5, .string a0_6, .int .u32 a0_7, .int .i64 a0_8] 29 (0, 0))) ∧ (Below w.heap.size w w')) ?_ ?_
                  rotate_left
                  · intro hCont
                    refine two_ (i := 8) (j := 13) (Ni := some 20) (Nj := some 25) #[true, true, true, true, true, true, true, true, true, false, true, true, true, false, false, false] #[true, true, true, true, true, true, true, true, false, false, true, true, true, true, false, false] rfl rfl rfl rfl (two_of HT_.out (by kernel_rfl)) (by decide) (by decide) (fun K hK => ?_) (fun K hK => ?_)
                    · skip
                      refine Kd.R_lit_step (Kd.int .u8) _ 5 ?hg (N := 20) ?hd (xs := ([x4_1, (a0_1) % 256, (a0_4) % 256] : List Int)) (inner := [.int .u8 x4_1, .int .u8 ((a0_1) % 256), .int .u8 ((a0_4) % 256)]) (ok := fun _ => True) (okp := fun _ => True) ?hr ?hp (fun _ hk => hk) trivial (Below.refl _ _) (Nat.le_refl _) (by simp) ?_; (case hd => rfl); (case hg => rfl); (case hr => first | (go_simp; rfl)); (case hp => exact (Reps.one (show Kd.M (Kd.int .u8) _ _ _ x4_1 [.int .u8 x4_1] from rfl) (Reps.one (show Kd.M (Kd.int .u8) _ _ _ ((a0_1) % 256) [.int .u8 ((a0_1) % 256)] from rfl) (Reps.one (show Kd.M (Kd.int .u8) _ _ _ ((a0_4) % 256) [.int .u8 ((a0_4) % 256)] from rfl) (Reps.none _ _)))))
                      intro v206 w29 ho30 hb hg_ hnew_
                      clear hg_ hnew_
                      (first | rw [← Ny205.out] at ho30)
                      have n0_ := Aside0.mk (Kd.R_lower ho30 (below_size HB.out))
                      have n1_ := Aside0.mk (blk_below (g := gb203) (o := .cells #[.bool false, .int .i64 a0_1, .int .u64 a0_2, .int .u64 a0_3, .int .i64 a0_4, .int .i64 a0_5, .string a0_6, .int .u32 a0_7, .int .i64 a0_8] 31 (0, 0)) BK203.out hb)
                      have n2_ := Aside0.mk (blk_below (g := gb204) (o := .cells #[.int .i64 a0_1, .int .u64 a0_2, .int .u64 a0_3, .int .i64 a0_4, .int .i64 a0_5, .string a0_6, .int .u32 a0_7, .int .i64 a0_8] 29 (0, 0)) BK204.out hb)
                      have n3_ := Aside0.mk (below_step HB.out hb)
                      clear BK203
                      clear BK204
                      clear HB
                      have HO207 := n0_
                      have BK203 := n1_
                      have BK204 := n2_
                      have HB := n3_
                      clear n0_ n1_ n2_ n3_
                      clear hb ho30
                      refine hK.out _ _ ⟨(blk_cell BK204.out 0).trans rfl, (blk_cell BK204.out 1).trans rfl, (blk_cell BK204.out 2).trans rfl, (blk_cell BK204.out 3).trans rfl, (blk_cell BK204.out 4).trans rfl, (blk_cell BK204.out 5).trans rfl, (blk_cell BK204.out 6).trans rfl, (blk_cell BK204.out 7).trans rfl⟩ (fun hHeld => ?_)
                      clear hK K
                      refine norm_ (a' := ?_) ?_ ?_
                      rotate_left
                      · show Act.put _ (some 20) _ = _
                        simp only [Act.put, List.setIfInBounds_toArray, List.set_cons_zero, List.set_cons_succ, i64_w, i32_w]
                        rfl
                      refine two_ (i := 9) (j := 13) (Ni := some 21) (Nj := some 25) #[true, true, true, true, true, true, true, true, true, true, true, true, true, false, false, false] #[true, true, true, true, true, true, true, true, true, false, true, true, true, true, false, false] rfl rfl rfl rfl (two_of HT_.out (by kernel_rfl)) (by decide) (by decide) (fun K hK => ?_) (fun K hK => ?_)
                      · skip
                        have hcv31 := own_string (P := Try.prog) Try.underlying60 Try.underlying5 Try.underlying9 (Kd.own_of_R HO207.out)
                        refine value_ (w1 := ?_) (v := ?_) (by rfl) rfl ?_ ?_
                        rotate_left 2
                        · go_simp
                          constructor
                          · rfl
                          · rfl
                        clear hcv31
                        refine hK.out _ _ ⟨(blk_cell BK204.out 0).trans rfl, (blk_cell BK204.out 1).trans rfl, (blk_cell BK204.out 2).trans rfl, (blk_cell BK204.out 3).trans rfl, (blk_cell BK204.out 4).trans rfl, (blk_cell BK204.out 5).trans rfl, (blk_cell BK204.out 6).trans rfl, (blk_cell BK204.out 7).trans rfl⟩ (fun hHeld => ?_)
                        clear hK K
                        refine norm_ (a' := ?_) ?_ ?_
                        rotate_left
                        · show Act.put _ (some 21) _ = _
                          simp only [Act.put, List.setIfInBounds_toArray, List.set_cons_zero, List.set_cons_succ, i64_w, i32_w]
                          rfl
                        refine one_ (i := 13) (N := some 25) #[true, true, true, true, true, true, true, true, true, true, true, true, true, true, false, false] rfl rfl (one_of HT_.out (by kernel_rfl)) (by decide) (fun K hK => ?_)
                        refine goes_ Try.func61 (by kernel_rfl) rfl #[.agg #[.int .u64 a0_2, .int .u64 a0_3]] (by rfl) rfl rfl (by (try simp only [List.map_toArray, List.map_cons, List.map_nil]); first | rfl) ?_
                        with_reducible refine (octet_PutAddr.calls kj1 a0_2 a0_3 t208 _ A10.out).mono ?_
                        rintro e w32 ⟨rfl, hb⟩
                        refine ⟨_, rfl, ?_⟩
                        have n0_ := Aside0.mk (Kd.R_below HO207.out hb)
                        have n1_ := Aside0.mk (blk_below (g := gb203) (o := .cells #[.bool false, .int .i64 a0_1, .int .u64 a0_2, .int .u64 a0_3, .int .i64 a0_4, .int .i64 a0_5, .string a0_6, .int .u32 a0_7, .int .i64 a0_8] 31 (0, 0)) BK203.out hb)
                        have n2_ := Aside0.mk (blk_below (g := gb204) (o := .cells #[.int .i64 a0_1, .int .u64 a0_2, .int .u64 a0_3, .int .i64 a0_4, .int .i64 a0_5, .string a0_6, .int .u32 a0_7, .int .i64 a0_8] 29 (0, 0)) BK204.out hb)
                        have n3_ := Aside0.mk (below_step HB.out hb)
                        clear HO207
                        clear BK203
                        clear BK204
                        clear HB
                        have HO207 := n0_
                        have BK203 := n1_
                        have BK204 := n2_
                        have HB := n3_
                        clear n0_ n1_ n2_ n3_
                        (try clear hb)
                        (try clear hb2)
                        (try clear hk)
                        (try clear hi)
                        refine hK.out _ _ ⟨(blk_cell BK204.out 0).trans rfl, (blk_cell BK204.out 1).trans rfl, (blk_cell BK204.out 2).trans rfl, (blk_cell BK204.out 3).trans rfl, (blk_cell BK204.out 4).trans rfl, (blk_cell BK204.out 5).trans rfl, (blk_cell BK204.out 6).trans rfl, (blk_cell BK204.out 7).trans rfl⟩ (fun hHeld => ?_)
                        clear hK K
                        refine norm_ (a' := ?_) ?_ ?_
                        rotate_left
                        · show Act.put _ (some 25) _ = _
                          simp only [Act.put, List.setIfInBounds_toArray, List.set_cons_zero, List.set_cons_succ, i64_w, i32_w]
                          rfl
                        exact norm_ (by simp only [putAll, Act.put, List.setIfInBounds_toArray, List.set_cons_zero, List.set_cons_succ]) (hCont (v206) _ ⟨hHeld, HO207.out, BK203.out, BK204.out, HB.out⟩)
                      · skip
                        refine goes_ Try.func61 (by kernel_rfl) rfl #[.agg #[.int .u64 a0_2, .int .u64 a0_3]] (by rfl) rfl rfl (by (try simp only [List.map_toArray, List.map_cons, List.map_nil]); first | rfl) ?_
                        with_reducible refine (octet_PutAddr.calls kj1 a0_2 a0_3 t208 _ A10.out).mono ?_
                        rintro e w31 ⟨rfl, hb⟩
                        refine ⟨_, rfl, ?_⟩
                        have n0_ := Aside0.mk (Kd.R_below HO207.out hb)
                        have n1_ := Aside0.mk (blk_below (g := gb203) (o := .cells #[.bool false, .int .i64 a0_1, .int .u64 a0_2, .int .u64 a0_3, .int .i64 a0_4, .int .i64 a0_5, .string a0_6, .int .u32 a0_7, .int .i64 a0_8] 31 (0, 0)) BK203.out hb)
                        have n2_ := Aside0.mk (blk_below (g := gb204) (o := .cells #[.int .i64 a0_1, .int .u64 a0_2, .int .u64 a0_3, .int .i64 a0_4, .int .i64 a0_5, .string a0_6, .int .u32 a0_7, .int .i64 a0_8] 29 (0, 0)) BK204.out hb)
                        have n3_ := Aside0.mk (below_step HB.out hb)
                        clear HO207
                        clear BK203
                        clear BK204
                        clear HB
                        have HO207 := n0_
                        have BK203 := n1_
                        have BK204 := n2_
                        have HB := n3_
                        clear n0_ n1_ n2_ n3_
                        (try clear hb)
                        (try clear hb2)
                        (try clear hk)
                        (try clear hi)
                        refine hK.out _ _ ⟨(blk_cell BK204.out 0).trans rfl, (blk_cell BK204.out 1).trans rfl, (blk_cell BK204.out 2).trans rfl, (blk_cell BK204.out 3).trans rfl, (blk_cell BK204.out 4).trans rfl, (blk_cell BK204.out 5).trans rfl, (blk_cell BK204.out 6).trans rfl, (blk_cell BK204.out 7).trans rfl⟩ (fun hHeld => ?_)
                        clear hK K
                        refine norm_ (a' := ?_) ?_ ?_
                        rotate_left
                        · show Act.put _ (some 25) _ = _
                          simp only [Act.put, List.setIfInBounds_toArray, List.set_cons_zero, List.set_cons_succ, i64_w, i32_w]
                          rfl
                        refine one_ (i := 9) (N := some 21) #[true, true, true, true, true, true, true, true, true, true, true, true, true, true, false, false] rfl rfl (one_of HT_.out (by kernel_rfl)) (by decide) (fun K hK => ?_)
                        have hcv32 := own_string (P := Try.prog) Try.underlying60 Try.underlying5 Try.underlying9 (Kd.own_of_R HO207.out)
                        refine value_ (w1 := ?_) (v := ?_) (by rfl) rfl ?_ ?_
                        rotate_left 2
                        · go_simp
                          constructor
                          · rfl
                          · rfl
                        clear hcv32
                        refine hK.out _ _ ⟨(blk_cell BK204.out 0).trans rfl, (blk_cell BK204.out 1).trans rfl, (blk_cell BK204.out 2).trans rfl, (blk_cell BK204.out 3).trans rfl, (blk_cell BK204.out 4).trans rfl, (blk_cell BK204.out 5).trans rfl, (blk_cell BK204.out 6).trans rfl, (blk_cell BK204.out 7).trans rfl⟩ (fun hHeld => ?_)
                        clear hK K
                        refine norm_ (a' := ?_) ?_ ?_
                        rotate_left
                        · show Act.put _ (some 21) _ = _
                          simp only [Act.put, List.setIfInBounds_toArray, List.set_cons_zero, List.set_cons_succ, i64_w, i32_w]
                          rfl
                        exact norm_ (by simp only [putAll, Act.put, List.setIfInBounds_toArray, List.set_cons_zero, List.set_cons_succ]) (hCont (v206) _ ⟨hHeld, HO207.out, BK203.out, BK204.out, HB.out⟩)
                    · skip
                      refine goes_ Try.func61 (by kernel_rfl) rfl #[.agg #[.int .u64 a0_2, .int .u64 a0_3]] (by rfl) rfl rfl (by (try simp only [List.map_toArray, List.map_cons, List.map_nil]); first | rfl) ?_
                      with_reducible refine (octet_PutAddr.calls kj1 a0_2 a0_3 t208 _ A10.out).mono ?_
                      rintro e w29 ⟨rfl, hb⟩
                      refine ⟨_, rfl, ?_⟩
                      have n0_ := Aside0.mk (blk_below (g := gb203) (o := .cells #[.bool false, .int .i64 a0_1, .int .u64 a0_2, .int .u64 a0_3, .int .i64 a0_4, .int .i64 a0_5, .string a0_6, .int .u32 a0_7, .int .i64 a0_8] 31 (0, 0)) BK203.out hb)
                      have n1_ := Aside0.mk (blk_below (g := gb204) (o := .cells #[.int .i64 a0_1, .int .u64 a0_2, .int .u64 a0_3, .int .i64 a0_4, .int .i64 a0_5, .string a0_6, .int .u32 a0_7, .int .i64 a0_8] 29 (0, 0)) BK204.out hb)
                      have n2_ := Aside0.mk (below_step HB.out hb)
                      clear BK203
                      clear BK204
                      clear HB
                      have BK203 := n0_
                      have BK204 := n1_
                      have HB := n2_
                      clear n0_ n1_ n2_
                      (try clear hb)
                      (try clear hb2)
                      (try clear hk)
                      (try clear hi)
                      refine hK.out _ _ ⟨(blk_cell BK204.out 0).trans rfl, (blk_cell BK204.out 1).trans rfl, (blk_cell BK204.out 2).trans rfl, (blk_cell BK204.out 3).trans rfl, (blk_cell BK204.out 4).trans rfl, (blk_cell BK204.out 5).trans rfl, (blk_cell BK204.out 6).trans rfl, (blk_cell BK204.out 7).trans rfl⟩ (fun hHeld => ?_)
                      clear hK K
                      refine norm_ (a' := ?_) ?_ ?_
                      rotate_left
                      · show Act.put _ (some 25) _ = _
                        simp only [Act.put, List.setIfInBounds_toArray, List.set_cons_zero, List.set_cons_succ, i64_w, i32_w]
                        rfl
                      refine one_ (i := 8) (N := some 20) #[true, true, true, true, true, true, true, true, true, false, true, true, true, true, false, false] rfl rfl (one_of HT_.out (by kernel_rfl)) (by decide) (fun K hK => ?_)
                      refine Kd.R_lit_step (Kd.int .u8) _ 5 ?hg (N := 20) ?hd (xs := ([x4_1, (a0_1) % 256, (a0_4) % 256] : List Int)) (inner := [.int .u8 x4_1, .int .u8 ((a0_1) % 256), .int .u8 ((a0_4) % 256)]) (ok := fun _ => True) (okp := fun _ => True) ?hr ?hp (fun _ hk => hk) trivial (Below.refl _ _) (Nat.le_refl _) (by simp) ?_; (case hd => rfl); (case hg => rfl); (case hr => first | (go_simp; rfl)); (case hp => exact (Reps.one (show Kd.M (Kd.int .u8) _ _ _ x4_1 [.int .u8 x4_1] from rfl) (Reps.one (show Kd.M (Kd.int .u8) _ _ _ ((a0_1) % 256) [.int .u8 ((a0_1) % 256)] from rfl) (Reps.one (show Kd.M (Kd.int .u8) _ _ _ ((a0_4) % 256) [.int .u8 ((a0_4) % 256)] from rfl) (Reps.none _ _)))))
                      intro v206 w30 ho31 hb hg_ hnew_
                      clear hg_ hnew_
                      (first | rw [← Ny205.out] at ho31)
                      have n0_ := Aside0.mk (Kd.R_lower ho31 (below_size HB.out))
                      have n1_ := Aside0.mk (blk_below (g := gb203) (o := .cells #[.bool false, .int .i64 a0_1, .int .u64 a0_2, .int .u64 a0_3, .int .i64 a0_4, .int .i64 a0_5, .string a0_6, .int .u32 a0_7, .int .i64 a0_8] 31 (0, 0)) BK203.out hb)
                      have n2_ := Aside0.mk (blk_below (g := gb204) (o := .cells #[.int .i64 a0_1, .int .u64 a0_2, .int .u64 a0_3, .int .i64 a0_4, .int .i64 a0_5, .string a0_6, .int .u32 a0_7, .int .i64 a0_8] 29 (0, 0)) BK204.out hb)
                      have n3_ := Aside0.mk (below_step HB.out hb)
                      clear BK203
                      clear BK204
                      clear HB
                      have HO207 := n0_
                      have BK203 := n1_
                      have BK204 := n2_
                      have HB := n3_
                      clear n0_ n1_ n2_ n3_
                      clear hb ho31
                      refine hK.out _ _ ⟨(blk_cell BK204.out 0).trans rfl, (blk_cell BK204.out 1).trans rfl, (blk_cell BK204.out 2).trans rfl, (blk_cell BK204.out 3).trans rfl, (blk_cell BK204.out 4).trans rfl, (blk_cell BK204.out 5).trans rfl, (blk_cell BK204.out 6).trans rfl, (blk_cell BK204.out 7).trans rfl⟩ (fun hHeld => ?_)
                      clear hK K
                      refine norm_ (a' := ?_) ?_ ?_
                      rotate_left
                      · show Act.put _ (some 20) _ = _
                        simp only [Act.put, List.setIfInBounds_toArray, List.set_cons_zero, List.set_cons_succ, i64_w, i32_w]
                        rfl
                      refine one_ (i := 9) (N := some 21) #[true, true, true, true, true, true, true, true, true, true, true, true, true, true, false, false] rfl rfl (one_of HT_.out (by kernel_rfl)) (by decide) (fun K hK => ?_)
                      have hcv32 := own_string (P := Try.prog) Try.underlying60 Try.underlying5 Try.underlying9 (Kd.own_of_R HO207.out)
                      refine value_ (w1 := ?_) (v := ?_) (by rfl) rfl ?_ ?_
                      rotate_left 2
                      · go_simp
                        constructor
                        · rfl
                        · rfl
                      clear hcv32
                      refine hK.out _ _ ⟨(blk_cell BK204.out 0).trans rfl, (blk_cell BK204.out 1).trans rfl, (blk_cell BK204.out 2).trans rfl, (blk_cell BK204.out 3).trans rfl, (blk_cell BK204.out 4).trans rfl, (blk_cell BK204.out 5).trans rfl, (blk_cell BK204.out 6).trans rfl, (blk_cell BK204.out 7).trans rfl⟩ (fun hHeld => ?_)
                      clear hK K
                      refine norm_ (a' := ?_) ?_ ?_
                      rotate_left
                      · show Act.put _ (some 21) _ = _
                        simp only [Act.put, List.setIfInBounds_toArray, List.set_cons_zero, List.set_cons_succ, i64_w, i32_w]
                        rfl
                      exact norm_ (by simp only [putAll, Act.put, List.setIfInBounds_toArray, List.set_cons_zero, List.set_cons_succ]) (hCont (v206) _ ⟨hHeld, HO207.out, BK203.out, BK204.out, HB.out⟩)
                  rintro v206 w33 ⟨hS_, h0_, h1_, h2_, h3_⟩
                  have n0_ : Aside0 (Kd.R (Kd.int .u8) 5 w33 w.heap.size (fun _ => True) v206 y205) := ⟨h0_⟩
                  have n1_ : Aside0 (w33.heap[gb203]? = some (.cells #[.bool false, .int .i64 a0_1, .int .u64 a0_2, .int .u64 a0_3, .int .i64 a0_4, .int .i64 a0_5, .string a0_6, .int .u32 a0_7, .int .i64 a0_8] 31 (0, 0))) := ⟨h1_⟩
                  have n2_ : Aside0 (w33.heap[gb204]? = some (.cells #[.int .i64 a0_1, .int .u64 a0_2, .int .u64 a0_3, .int .i64 a0_4, .int .i64 a0_5, .string a0_6, .int .u32 a0_7, .int .i64 a0_8] 29 (0, 0))) := ⟨h2_⟩
                  have n3_ : Aside0 (Below w.heap.size w w33) := ⟨h3_⟩
                  clear BK203
                  clear BK204
                  clear HB
                  clear h0_ h1_ h2_ h3_
                  have HO207 := n0_
                  have BK203 := n1_
                  have BK204 := n2_
                  have HB := n3_
                  clear n0_ n1_ n2_ n3_
                  have hHeld : w33.cell? ⟨gb204, 0, none⟩ = some (.int .i64 a0_1) ∧ w33.cell? ⟨gb204, 1, none⟩ = some (.int .u64 a0_2) ∧ w33.cell? ⟨gb204, 2, none⟩ = some (.int .u64 a0_3) ∧ w33.cell? ⟨gb204, 3, none⟩ = some (.int .i64 a0_4) ∧ w33.cell? ⟨gb204, 4, none⟩ = some (.int .i64 a0_5) ∧ w33.cell? ⟨gb204, 5, none⟩ = some (.string a0_6) ∧ w33.cell? ⟨gb204, 6, none⟩ = some (.int .u32 a0_7) ∧ w33.cell? ⟨gb204, 7, none⟩ = some (.int .i64 a0_8) := hS_
                  refine norm_ (a' := ?_) ?_ ?_
                  rotate_left
                  · simp only [putAll, Act.put, List.setIfInBounds_toArray, List.set_cons_zero, List.set_cons_succ]
                    rfl
                  refine pure_ (i := 14) (N := some 26) (v := ?_) (a' := ?_) #[true, true, true, true, true, true, true, true, true, true, true, true, true, true, true, false] rfl rfl (any_of HT_.out (by kernel_rfl)) (fun _ _ _ h => h) (Or.inl ⟨by rfl, ?_⟩) ?_ ?_
                  rotate_left
                  · intro w'
                    go_simp
                    with_reducible rfl
                  rotate_left
                  · simp only [Act.put, List.setIfInBounds_toArray, List.set_cons_zero, List.set_cons_succ, i64_w, i32_w]
                    rfl
                  refine pure_ (i := 15) (N := some 5) (v := ?_) (a' := ?_) #[true, true, true, true, true, true, true, true, true, true, true, true, true, true, true, true] rfl rfl (any_of HT_.out (by kernel_rfl)) (fun _ _ _ h => h) (Or.inl ⟨by rfl, ?_⟩) ?_ ?_
                  rotate_left
                  · intro w'
                    go_simp
                    with_reducible rfl
                  rotate_left
                  · simp only [Act.put, List.setIfInBounds_toArray, List.set_cons_zero, List.set_cons_succ, i64_w, i32_w]
                    rfl
                  refine done_ (done_of HT_.out (by kernel_rfl)) ?_
                  have hnb34 := NB203_204.out
                  have hnc34 := NB204_203.out
                  obtain ⟨hcz35_0, hcz35_1, hcz35_2, hcz35_3, hcz35_4, hcz35_5, hcz35_6, hcz35_7, hcz35_8⟩ := XRun.bc9 BK203.out
                  obtain ⟨hfz35_0, hfz35_1, hfz35_2, hfz35_3, hfz35_4, hfz35_5, hfz35_6, hfz35_7, hfz35_8⟩ := XRun.bf9 BK203.out
                  obtain ⟨hcz36_0, hcz36_1, hcz36_2, hcz36_3, hcz36_4, hcz36_5, hcz36_6, hcz36_7⟩ := XRun.bc8 BK204.out
                  obtain ⟨hfz36_0, hfz36_1, hfz36_2, hfz36_3, hfz36_4, hfz36_5, hfz36_6, hfz36_7⟩ := XRun.bf8 BK204.out
                  try go_wp2_with (first | ((with_reducible refine gate_callee (f := 62) rfl ?_); refine goesL_ (some 33) rfl rfl Try.func62 (by kernel_rfl) rfl #[.string a0_6] rfl (by (try simp only [List.map_toArray, List.map_cons, List.map_nil]); first | rfl) ?_; (with_reducible refine (octet_Run.calls kj1 a0_6 t209 t210 _ A21.out).mono ?_); rintro e w37 ⟨rfl, hb⟩; refine ⟨_, rfl, ?_⟩; have n0_ := Aside0.mk (Kd.R_below HO207.out hb); have n1_ := Aside0.mk (blk_below (g := gb203) (o := .cells #[.bool false, .int .i64 a0_1, .int .u64 a0_2, .int .u64 a0_3, .int .i64 a0_4, .int .i64 a0_5, .string a0_6, .int .u32 a0_7, .int .i64 a0_8] 31 (0, 0)) BK203.out hb); have n2_ := Aside0.mk (blk_below (g := gb204) (o := .cells #[.int .i64 a0_1, .int .u64 a0_2, .int .u64 a0_3, .int .i64 a0_4, .int .i64 a0_5, .string a0_6, .int .u32 a0_7, .int .i64 a0_8] 29 (0, 0)) BK204.out hb); have n3_ := Aside0.mk (below_step HB.out hb); clear HO207; clear BK203; clear BK204; clear HB; have HO207 := n0_; have BK203 := n1_; have BK204 := n2_; have HB := n3_; clear n0_ n1_ n2_ n3_; (try clear hb); (try clear hb2); (try clear hk); (try clear hi)))
                  have n0_ := Aside0.mk (Kd.R_drew HO207.out)
                  have n1_ := Aside0.mk (blk_drew BK203.out)
                  have n2_ := Aside0.mk (blk_drew BK204.out)
                  have n3_ := Aside0.mk (below_drew1 HB.out)
                  clear HO207
                  clear BK203
                  clear BK204
                  clear HB
                  have HO207 := n0_
                  have BK203 := n1_
                  have BK204 := n2_
                  have HB := n3_
                  clear n0_ n1_ n2_ n3_
                  refine start_ (n := 19) (S := fun w' => w'.cell? ⟨gb204, 0, none⟩ = some (.int .i64 a0_1) ∧ w'.cell? ⟨gb204, 1, none⟩ = some (.int .u64 a0_2) ∧ w'.cell? ⟨gb204, 2, none⟩ = some (.int .u64 a0_3) ∧ w'.cell? ⟨gb204, 3, none⟩ = some (.int .i64 a0_4) ∧ w'.cell? ⟨gb204, 4, none⟩ = some (.int .i64 a0_5) ∧ w'.cell? ⟨gb204, 5, none⟩ = some (.string a0_6) ∧ w'.cell? ⟨gb204, 6, none⟩ = some (.int .u32 a0_7) ∧ w'.cell? ⟨gb204, 7, none⟩ = some (.int .i64 a0_8)) (ds := []) #[false, false, false, false, false, false, false, false, false, false, false, false, false, false, false, false, false, false, false] (by kernel_rfl) rfl rfl ⟨(blk_cell BK204.out 0).trans rfl, (blk_cell BK204.out 1).trans rfl, (blk_cell BK204.out 2).trans rfl, (blk_cell BK204.out 3).trans rfl, (blk_cell BK204.out 4).trans rfl, (blk_cell BK204.out 5).trans rfl, (blk_cell BK204.out 6).trans rfl, (blk_cell BK204.out 7).trans rfl⟩ (fun hHeld => ?_); refine with_tabW lease_bytes.tab9 lease_bytes.bits9 (fun HT_ HW_ => ?_)
                  generalize w37.drew = w38 at HO207 BK203 BK204 HB hHeld ⊢
                  refine pure_ (i := 0) (N := some 36) (v := ?_) (a' := ?_) #[true, false, false, false, false, false, false, false, false, false, false, false, false, false, false, false, false, false, false] rfl rfl (any_of HT_.out (by kernel_rfl)) (fun _ _ _ h => h) (Or.inl ⟨by rfl, ?_⟩) ?_ ?_
                  rotate_left
                  · intro w'
                    go_simp
                    with_reducible rfl
                  rotate_left
                  · simp only [Act.put, List.setIfInBounds_toArray, List.set_cons_zero, List.set_cons_succ, i64_w, i32_w]
                    rfl
                  refine pure_ (i := 1) (N := some 37) (v := ?_) (a' := ?_) #[true, true, false, false, false, false, false, false, false, false, false, false, false, false, false, false, false, false, false] rfl rfl (any_of HT_.out (by kernel_rfl)) (fun _ _ _ h => h) (Or.inl ⟨by rfl, ?_⟩) ?_ ?_
                  rotate_left
                  · intro w'
                    go_simp
                    with_reducible rfl
                  rotate_left
                  · simp only [Act.put, List.setIfInBounds_toArray, List.set_cons_zero, List.set_cons_succ, i64_w, i32_w]
                    rfl
                  refine pure_ (i := 7) (N := some 43) (v := ?_) (a' := ?_) #[true, true, false, false, false, false, false, true, false, false, false, false, false, false, false, false, false, false, false] rfl rfl (any_of HT_.out (by kernel_rfl)) (fun _ _ _ h => h) (Or.inl ⟨by rfl, ?_⟩) ?_ ?_
                  rotate_left
                  · intro w'
                    go_simp
                    with_reducible rfl
                  rotate_left
                  · simp only [Act.put, List.setIfInBounds_toArray, List.set_cons_zero, List.set_cons_succ, i64_w, i32_w]
                    rfl
                  refine pure_ (i := 11) (N := some 47) (v := ?_) (a' := ?_) #[true, true, false, false, false, false, false, true, false, false, false, true, false, false, false, false, false, false, false] rfl rfl (any_of HT_.out (by kernel_rfl)) (fun _ _ _ h => h) (Or.inl ⟨by rfl, ?_⟩) ?_ ?_
                  rotate_left
                  · intro w'
                    go_simp
                    with_reducible rfl
                  rotate_left
                  · simp only [Act.put, List.setIfInBounds_toArray, List.set_cons_zero, List.set_cons_succ, i64_w, i32_w]
                    rfl
                  refine pure_ (i := 16) (N := some 52) (v := ?_) (a' := ?_) #[true, true, false, false, false, false, false, true, false, false, false, true, false, false, false, false, true, false, false] rfl rfl (any_of HT_.out (by kernel_rfl)) (fun _ _ _ h => h) (Or.inl ⟨by rfl, ?_⟩) ?_ ?_
                  rotate_left
                  · intro w'
                    go_simp
                    with_reducible rfl
                  rotate_left
                  · simp only [Act.put, List.setIfInBounds_toArray, List.set_cons_zero, List.set_cons_succ, i64_w, i32_w]
                    rfl
                  refine take_ (i := 2) (N := some 38) (v := ?_) (a' := ?_) #[true, true, true, false, false, false, false, true, false, false, false, true, false, false, false, false, true, false, false] rfl rfl (take_ofW HT_.out HW_.out (by kernel_rfl)) (fun _ _ _ h => h) (Or.inl ⟨by rfl, ?_⟩) hHeld ?_ ?_
                  rotate_left
                  · rintro w' ⟨s0, s1, s2, s3, s4, s5, s6, s7⟩
                    go_simp
                    with_reducible rfl
                  rotate_left
                  · simp only [Act.put, List.setIfInBounds_toArray, List.set_cons_zero, List.set_cons_succ, i64_w, i32_w]
                    rfl
                  refine pure_ (i := 3) (N := some 39) (v := ?_) (a' := ?_) #[true, true, true, true, false, false, false, true, false, false, false, true, false, false, false, false, true, false, false] rfl rfl (any_of HT_.out (by kernel_rfl)) (fun _ _ _ h => h) (Or.inl ⟨by rfl, ?_⟩) ?_ ?_
                  rotate_left
                  · intro w'
                    go_simp
                    with_reducible rfl
                  rotate_left
                  · simp only [Act.put, List.setIfInBounds_toArray, List.set_cons_zero, List.set_cons_succ, i64_w, i32_w]
                    rfl
                  refine take_ (i := 8) (N := some 44) (v := ?_) (a' := ?_) #[true, true, true, true, false, false, false, true, true, false, false, true, false, false, false, false, true, false, false] rfl rfl (take_ofW HT_.out HW_.out (by kernel_rfl)) (fun _ _ _ h => h) (Or.inl ⟨by rfl, ?_⟩) hHeld ?_ ?_
                  rotate_left
                  · rintro w' ⟨s0, s1, s2, s3, s4, s5, s6, s7⟩
                    go_simp
                    with_reducible rfl
                  rotate_left
                  · simp only [Act.put, List.setIfInBounds_toArray, List.set_cons_zero, List.set_cons_succ, i64_w, i32_w]
                    rfl
                  refine take_ (i := 12) (N := some 48) (v := ?_) (a' := ?_) #[true, true, true, true, false, false, false, true, true, false, false, true, true, false, false, false, true, false, false] rfl rfl (take_ofW HT_.out HW_.out (by kernel_rfl)) (fun _ _ _ h => h) (Or.inl ⟨by rfl, ?_⟩) hHeld ?_ ?_
                  rotate_left
                  · rintro w' ⟨s0, s1, s2, s3, s4, s5, s6, s7⟩
                    go_simp
                    with_reducible rfl
                  rotate_left
                  · simp only [Act.put, List.setIfInBounds_toArray, List.set_cons_zero, List.set_cons_succ, i64_w, i32_w]
                    rfl
                  refine pure_ (i := 13) (N := some 49) (v := ?_) (a' := ?_) #[true, true, true, true, false, false, false, true, true, false, false, true, true, true, false, false, true, false, false] rfl rfl (any_of HT_.out (by kernel_rfl)) (fun _ _ _ h => h) (Or.inl ⟨by rfl, ?_⟩) ?_ ?_
                  rotate_left
                  · intro w'
                    go_simp
                    with_reducible rfl
                  rotate_left
                  · simp only [Act.put, List.setIfInBounds_toArray, List.set_cons_zero, List.set_cons_succ, i64_w, i32_w]
                    rfl
                  refine join_ (σ := Value) 3 #[true, true, true, true, true, true, true, true, true, true, true, true, true, true, true, false, true, false, false] (fun s_ => [(40, s_), (41, .string (strOfNums y211)), (45, .string t214), (50, .string t215), (42, .string (((strOfNums y205) ++ t208) ++ (strOfNums y211))), (46, .string ((((strOfNums y205) ++ t208) ++ (strOfNums y211)) ++ t214))]) (fun s_ w' => (w'.cell? ⟨gb204, 0, none⟩ = some (.int .i64 a0_1) ∧ w'.cell? ⟨gb204, 1, none⟩ = some (.int .u64 a0_2) ∧ w'.cell? ⟨gb204, 2, none⟩ = some (.int .u64 a0_3) ∧ w'.cell? ⟨gb204, 3, none⟩ = some (.int .i64 a0_4) ∧ w'.cell? ⟨gb204, 4, none⟩ = some (.int .i64 a0_5) ∧ w'.cell? ⟨gb204, 5, none⟩ = some (.string a0_6) ∧ w'.cell? ⟨gb204, 6, none⟩ = some (.int .u32 a0_7) ∧ w'.cell? ⟨gb204, 7, none⟩ = some (.int .i64 a0_8)) ∧ (Kd.R (Kd.int .u8) 5 w' w.heap.size (fun k_ => some k_ ≠ (s_ : Value).ownBlock) v206 y205) ∧ (Kd.R (Kd.int .u8) 5 w' w.heap.size (fun k_ => some k_ ≠ (v206 : Value).ownBlock) s_ y211) ∧ (w'.heap[gb203]? = some (.cells #[.bool false, .int .i64 a0_1, .int .u64 a0_2, .int .u64 a0_3, .int .i64 a0_4, .int .i64 a0_5, .string a0_6, .int .u32 a0_7, .int .i64 a0_8] 31 (0, 0))) ∧ (w'.heap[gb204]? = some (.cells #[.int .i64 a0_1, .int .u64 a0_2, .int .u64 a0_3, .int .i64 a0_4, .int .i64 a0_5, .string a0_6, .int .u32 a0_7, .int .i64 a0_8] 29 (0, 0))) ∧ (Below w.heap.size w w')) ?_ ?_
                  rotate_left
                  · intro hJ4_5_9_14
                    refine join_ (σ := Value) 4 #[true, true, true, true, true, true, true, true, true, true, true, true, true, true, false, false, true, false, false] (fun s_ => [(40, s_), (41, .string (strOfNums y211)), (45, .string t214), (42, .string (((strOfNums y205) ++ t208) ++ (strOfNums y211))), (46, .string ((((strOfNums y205) ++ t208) ++ (strOfNums y211)) ++ t214))]) (fun s_ w' => (w'.cell? ⟨gb204, 0, none⟩ = some (.int .i64 a0_1) ∧ w'.cell? ⟨gb204, 1, none⟩ = some (.int .u64 a0_2) ∧ w'.cell? ⟨gb204, 2, none⟩ = some (.int .u64 a0_3) ∧ w'.cell? ⟨gb204, 3, none⟩ = some (.int .i64 a0_4) ∧ w'.cell? ⟨gb204, 4, none⟩ = some (.int .i64 a0_5) ∧ w'.cell? ⟨gb204, 5, none⟩ = some (.string a0_6) ∧ w'.cell? ⟨gb204, 6, none⟩ = some (.int .u32 a0_7) ∧ w'.cell? ⟨gb204, 7, none⟩ = some (.int .i64 a0_8)) ∧ (Kd.R (Kd.int .u8) 5 w' w.heap.size (fun k_ => some k_ ≠ (s_ : Value).ownBlock) v206 y205) ∧ (Kd.R (Kd.int .u8) 5 w' w.heap.size (fun k_ => some k_ ≠ (v206 : Value).ownBlock) s_ y211) ∧ (w'.heap[gb203]? = some (.cells #[.bool false, .int .i64 a0_1, .int .u64 a0_2, .int .u64 a0_3, .int .i64 a0_4, .int .i64 a0_5, .string a0_6, .int .u32 a0_7, .int .i64 a0_8] 31 (0, 0))) ∧ (w'.heap[gb204]? = some (.cells #[.int .i64 a0_1, .int .u64 a0_2, .int .u64 a0_3, .int .i64 a0_4, .int .i64 a0_5, .string a0_6, .int .u32 a0_7, .int .i64 a0_8] 29 (0, 0))) ∧ (Below w.heap.size w w')) ?_ ?_
                    rotate_left
                    · intro hJ4_5_9
                      refine join_ (σ := Value) 6 #[true, true, true, true, true, false, false, true, true, true, false, true, true, true, true, false, true, false, false] (fun s_ => [(40, s_), (45, .string t214), (50, .string t215)]) (fun s_ w' => (w'.cell? ⟨gb204, 0, none⟩ = some (.int .i64 a0_1) ∧ w'.cell? ⟨gb204, 1, none⟩ = some (.int .u64 a0_2) ∧ w'.cell? ⟨gb204, 2, none⟩ = some (.int .u64 a0_3) ∧ w'.cell? ⟨gb204, 3, none⟩ = some (.int .i64 a0_4) ∧ w'.cell? ⟨gb204, 4, none⟩ = some (.int .i64 a0_5) ∧ w'.cell? ⟨gb204, 5, none⟩ = some (.string a0_6) ∧ w'.cell? ⟨gb204, 6, none⟩ = some (.int .u32 a0_7) ∧ w'.cell? ⟨gb204, 7, none⟩ = some (.int .i64 a0_8)) ∧ (Kd.R (Kd.int .u8) 5 w' w.heap.size (fun k_ => some k_ ≠ (s_ : Value).ownBlock) v206 y205) ∧ (Kd.R (Kd.int .u8) 5 w' w.heap.size (fun k_ => some k_ ≠ (v206 : Value).ownBlock) s_ y211) ∧ (w'.heap[gb203]? = some (.cells #[.bool false, .int .i64 a0_1, .int .u64 a0_2, .int .u64 a0_3, .int .i64 a0_4, .int .i64 a0_5, .string a0_6, .int .u32 a0_7, .int .i64 a0_8] 31 (0, 0))) ∧ (w'.heap[gb204]? = some (.cells #[.int .i64 a0_1, .int .u64 a0_2, .int .u64 a0_3, .int .i64 a0_4, .int .i64 a0_5, .string a0_6, .int .u32 a0_7, .int .i64 a0_8] 29 (0, 0))) ∧ (Below w.heap.size w w')) ?_ ?_
                      rotate_left
                      · intro hJ4_9_14
                        refine join_ (σ := Value) 6 #[true, true, true, true, true, true, true, true, true, false, false, true, true, true, false, false, true, false, false] (fun s_ => [(40, s_), (41, .string (strOfNums y211)), (42, .string (((strOfNums y205) ++ t208) ++ (strOfNums y211)))]) (fun s_ w' => (w'.cell? ⟨gb204, 0, none⟩ = some (.int .i64 a0_1) ∧ w'.cell? ⟨gb204, 1, none⟩ = some (.int .u64 a0_2) ∧ w'.cell? ⟨gb204, 2, none⟩ = some (.int .u64 a0_3) ∧ w'.cell? ⟨gb204, 3, none⟩ = some (.int .i64 a0_4) ∧ w'.cell? ⟨gb204, 4, none⟩ = some (.int .i64 a0_5) ∧ w'.cell? ⟨gb204, 5, none⟩ = some (.string a0_6) ∧ w'.cell? ⟨gb204, 6, none⟩ = some (.int .u32 a0_7) ∧ w'.cell? ⟨gb204, 7, none⟩ = some (.int .i64 a0_8)) ∧ (Kd.R (Kd.int .u8) 5 w' w.heap.size (fun k_ => some k_ ≠ (s_ : Value).ownBlock) v206 y205) ∧ (Kd.R (Kd.int .u8) 5 w' w.heap.size (fun k_ => some k_ ≠ (v206 : Value).ownBlock) s_ y211) ∧ (w'.heap[gb203]? = some (.cells #[.bool false, .int .i64 a0_1, .int .u64 a0_2, .int .u64 a0_3, .int .i64 a0_4, .int .i64 a0_5, .string a0_6, .int .u32 a0_7, .int .i64 a0_8] 31 (0, 0))) ∧ (w'.heap[gb204]? = some (.cells #[.int .i64 a0_1, .int .u64 a0_2, .int .u64 a0_3, .int .i64 a0_4, .int .i64 a0_5, .string a0_6, .int .u32 a0_7, .int .i64 a0_8] 29 (0, 0))) ∧ (Below w.heap.size w w')) ?_ ?_
                        rotate_left
                        · intro hJ4_5
                          refine join_ (σ := Value) 7 #[true, true, true, true, true, false, false, true, true, true, false, true, true, true, false, false, true, false, false] (fun s_ => [(40, s_), (45, .string t214)]) (fun s_ w' => (w'.cell? ⟨gb204, 0, none⟩ = some (.int .i64 a0_1) ∧ w'.cell? ⟨gb204, 1, none⟩ = some (.int .u64 a0_2) ∧ w'.cell? ⟨gb204, 2, none⟩ = some (.int .u64 a0_3) ∧ w'.cell? ⟨gb204, 3, none⟩ = some (.int .i64 a0_4) ∧ w'.cell? ⟨gb204, 4, none⟩ = some (.int .i64 a0_5) ∧ w'.cell? ⟨gb204, 5, none⟩ = some (.string a0_6) ∧ w'.cell? ⟨gb204, 6, none⟩ = some (.int .u32 a0_7) ∧ w'.cell? ⟨gb204, 7, none⟩ = some (.int .i64 a0_8)) ∧ (Kd.R (Kd.int .u8) 5 w' w.heap.size (fun k_ => some k_ ≠ (s_ : Value).ownBlock) v206 y205) ∧ (Kd.R (Kd.int .u8) 5 w' w.heap.size (fun k_ => some k_ ≠ (v206 : Value).ownBlock) s_ y211) ∧ (w'.heap[gb203]? = some (.cells #[.bool false, .int .i64 a0_1, .int .u64 a0_2, .int .u64 a0_3, .int .i64 a0_4, .int .i64 a0_5, .string a0_6, .int .u32 a0_7, .int .i64 a0_8] 31 (0, 0))) ∧ (w'.heap[gb204]? = some (.cells #[.int .i64 a0_1, .int .u64 a0_2, .int .u64 a0_3, .int .i64 a0_4, .int .i64 a0_5, .string a0_6, .int .u32 a0_7, .int .i64 a0_8] 29 (0, 0))) ∧ (Below w.heap.size w w')) ?_ ?_
                          rotate_left
                          · intro hJ4_9
                            refine join_ (σ := Unit) 7 #[true, true, true, true, false, false, false, true, true, true, false, true, true, true, true, false, true, false, false] (fun s_ => [(45, .string t214), (50, .string t215)]) (fun s_ w' => (w'.cell? ⟨gb204, 0, none⟩ = some (.int .i64 a0_1) ∧ w'.cell? ⟨gb204, 1, none⟩ = some (.int .u64 a0_2) ∧ w'.cell? ⟨gb204, 2, none⟩ = some (.int .u64 a0_3) ∧ w'.cell? ⟨gb204, 3, none⟩ = some (.int .i64 a0_4) ∧ w'.cell? ⟨gb204, 4, none⟩ = some (.int .i64 a0_5) ∧ w'.cell? ⟨gb204, 5, none⟩ = some (.string a0_6) ∧ w'.cell? ⟨gb204, 6, none⟩ = some (.int .u32 a0_7) ∧ w'.cell? ⟨gb204, 7, none⟩ = some (.int .i64 a0_8)) ∧ (Kd.R (Kd.int .u8) 5 w' w.heap.size (fun _ => True) v206 y205) ∧ (w'.heap[gb203]? = some (.cells #[.bool false, .int .i64 a0_1, .int .u64 a0_2, .int .u64 a0_3, .int .i64 a0_4, .int .i64 a0_5, .string a0_6, .int .u32 a0_7, .int .i64 a0_8] 31 (0, 0))) ∧ (w'.heap[gb204]? = some (.cells #[.int .i64 a0_1, .int .u64 a0_2, .int .u64 a0_3, .int .i64 a0_4, .int .i64 a0_5, .string a0_6, .int .u32 a0_7, .int .i64 a0_8] 29 (0, 0))) ∧ (Below w.heap.size w w')) ?_ ?_
                            rotate_left
                            · intro hJ9_14
                              refine join_ (σ := Value) 8 #[true, true, true, true, true, false, false, true, true, false, false, true, true, true, false, false, true, false, false] (fun s_ => [(40, s_)]) (fun s_ w' => (w'.cell? ⟨gb204, 0, none⟩ = some (.int .i64 a0_1) ∧ w'.cell? ⟨gb204, 1, none⟩ = some (.int .u64 a0_2) ∧ w'.cell? ⟨gb204, 2, none⟩ = some (.int .u64 a0_3) ∧ w'.cell? ⟨gb204, 3, none⟩ = some (.int .i64 a0_4) ∧ w'.cell? ⟨gb204, 4, none⟩ = some (.int .i64 a0_5) ∧ w'.cell? ⟨gb204, 5, none⟩ = some (.string a0_6) ∧ w'.cell? ⟨gb204, 6, none⟩ = some (.int .u32 a0_7) ∧ w'.cell? ⟨gb204, 7, none⟩ = some (.int .i64 a0_8)) ∧ (Kd.R (Kd.int .u8) 5 w' w.heap.size (fun k_ => some k_ ≠ (s_ : Value).ownBlock) v206 y205) ∧ (Kd.R (Kd.int .u8) 5 w' w.heap.size (fun k_ => some k_ ≠ (v206 : Value).ownBlock) s_ y211) ∧ (w'.heap[gb203]? = some (.cells #[.bool false, .int .i64 a0_1, .int .u64 a0_2, .int .u64 a0_3, .int .i64 a0_4, .int .i64 a0_5, .string a0_6, .int .u32 a0_7, .int .i64 a0_8] 31 (0, 0))) ∧ (w'.heap[gb204]? = some (.cells #[.int .i64 a0_1, .int .u64 a0_2, .int .u64 a0_3, .int .i64 a0_4, .int .i64 a0_5, .string a0_6, .int .u32 a0_7, .int .i64 a0_8] 29 (0, 0))) ∧ (Below w.heap.size w w')) ?_ ?_
                              rotate_left
                              · intro hJ4
                                refine join_ (σ := Unit) 8 #[true, true, true, true, false, false, false, true, true, true, false, true, true, true, false, false, true, false, false] (fun s_ => [(45, .string t214)]) (fun s_ w' => (w'.cell? ⟨gb204, 0, none⟩ = some (.int .i64 a0_1) ∧ w'.cell? ⟨gb204, 1, none⟩ = some (.int .u64 a0_2) ∧ w'.cell? ⟨gb204, 2, none⟩ = some (.int .u64 a0_3) ∧ w'.cell? ⟨gb204, 3, none⟩ = some (.int .i64 a0_4) ∧ w'.cell? ⟨gb204, 4, none⟩ = some (.int .i64 a0_5) ∧ w'.cell? ⟨gb204, 5, none⟩ = some (.string a0_6) ∧ w'.cell? ⟨gb204, 6, none⟩ = some (.int .u32 a0_7) ∧ w'.cell? ⟨gb204, 7, none⟩ = some (.int .i64 a0_8)) ∧ (Kd.R (Kd.int .u8) 5 w' w.heap.size (fun _ => True) v206 y205) ∧ (w'.heap[gb203]? = some (.cells #[.bool false, .int .i64 a0_1, .int .u64 a0_2, .int .u64 a0_3, .int .i64 a0_4, .int .i64 a0_5, .string a0_6, .int .u32 a0_7, .int .i64 a0_8] 31 (0, 0))) ∧ (w'.heap[gb204]? = some (.cells #[.int .i64 a0_1, .int .u64 a0_2, .int .u64 a0_3, .int .i64 a0_4, .int .i64 a0_5, .string a0_6, .int .u32 a0_7, .int .i64 a0_8] 29 (0, 0))) ∧ (Below w.heap.size w w')) ?_ ?_
                                rotate_left
                                · intro hJ9
                                  refine two_ (i := 4) (j := 9) (Ni := some 40) (Nj := some 45) #[true, true, true, true, true, false, false, true, true, false, false, true, true, true, false, false, true, false, false] #[true, true, true, true, false, false, false, true, true, true, false, true, true, true, false, false, true, false, false] rfl rfl rfl rfl (two_of HT_.out (by kernel_rfl)) (by decide) (by decide) (fun K hK => ?_) (fun K hK => ?_)
                                  · skip
                                    refine Kd.R_lit_step (Kd.int .u8) _ 5 ?hg (N := 40) ?hd (xs := ([(a0_5) % 256] : List Int)) (inner := [.int .u8 ((a0_5) % 256)]) (ok := fun _ => True) (okp := fun _ => True) ?hr ?hp (fun _ hk => hk) trivial (Below.refl _ _) (Nat.le_refl _) (by simp) ?_; (case hd => rfl); (case hg => rfl); (case hr => first | (go_simp; rfl)); (case hp => exact (Reps.one (show Kd.M (Kd.int .u8) _ _ _ ((a0_5) % 256) [.int .u8 ((a0_5) % 256)] from rfl) (Reps.none _ _)))
                                    intro v212 w39 ho40 hb hg_ hnew_
                                    clear hg_ hnew_
                                    (first | rw [← Ny211.out] at ho40)
                                    have n0_ := Aside0.mk (Kd.R_elder' HO207.out (Kd.R_base ho40) hb)
                                    have n1_ := Aside0.mk (Kd.R_lower (Kd.R_new' ho40 (Kd.R_lt HO207.out)) (below_size HB.out))
                                    have n2_ := Aside0.mk (blk_below (g := gb203) (o := .cells #[.bool false, .int .i64 a0_1, .int .u64 a0_2, .int .u64 a0_3, .int .i64 a0_4, .int .i64 a0_5, .string a0_6, .int .u32 a0_7, .int .i64 a0_8] 31 (0, 0)) BK203.out hb)
                                    have n3_ := Aside0.mk (blk_below (g := gb204) (o := .cells #[.int .i64 a0_1, .int .u64 a0_2, .int .u64 a0_3, .int .i64 a0_4, .int .i64 a0_5, .string a0_6, .int .u32 a0_7, .int .i64 a0_8] 29 (0, 0)) BK204.out hb)
                                    have n4_ := Aside0.mk (below_step HB.out hb)
                                    clear HO207
                                    clear BK203
                                    clear BK204
                                    clear HB
                                    have HO207 := n0_
                                    have HO213 := n1_
                                    have BK203 := n2_
                                    have BK204 := n3_
                                    have HB := n4_
                                    clear n0_ n1_ n2_ n3_ n4_
                                    clear hb ho40
                                    refine hK.out _ _ ⟨(blk_cell BK204.out 0).trans rfl, (blk_cell BK204.out 1).trans rfl, (blk_cell BK204.out 2).trans rfl, (blk_cell BK204.out 3).trans rfl, (blk_cell BK204.out 4).trans rfl, (blk_cell BK204.out 5).trans rfl, (blk_cell BK204.out 6).trans rfl, (blk_cell BK204.out 7).trans rfl⟩ (fun hHeld => ?_)
                                    clear hK K
                                    refine norm_ (a' := ?_) ?_ ?_
                                    rotate_left
                                    · show Act.put _ (some 40) _ = _
                                      simp only [Act.put, List.setIfInBounds_toArray, List.set_cons_zero, List.set_cons_succ, i64_w, i32_w]
                                      rfl
                                    exact norm_ (by first | (simp only [putAll, Act.put, List.setIfInBounds_toArray, List.set_cons_zero, List.set_cons_succ]; done)) (hJ4 (v212) _ ⟨hHeld, (by exact Kd.R_mono HO207.out (fun _ hk => hk.2)), (by exact Kd.R_mono HO213.out (fun _ hk => hk.2)), BK203.out, BK204.out, HB.out⟩)
                                  · skip
                                    refine goes_ Try.func63 (by kernel_rfl) rfl #[.int .u32 a0_7] (by rfl) rfl rfl (by (try simp only [List.map_toArray, List.map_cons, List.map_nil]); first | rfl) ?_
                                    with_reducible refine (octet_Put32.calls kj1 a0_7 t214 _ A23.out).mono ?_
                                    rintro e w39 ⟨rfl, hb⟩
                                    refine ⟨_, rfl, ?_⟩
                                    have n0_ := Aside0.mk (Kd.R_below HO207.out hb)
                                    have n1_ := Aside0.mk (blk_below (g := gb203) (o := .cells #[.bool false, .int .i64 a0_1, .int .u64 a0_2, .int .u64 a0_3, .int .i64 a0_4, .int .i64 a0_5, .string a0_6, .int .u32 a0_7, .int .i64 a0_8] 31 (0, 0)) BK203.out hb)
                                    have n2_ := Aside0.mk (blk_below (g := gb204) (o := .cells #[.int .i64 a0_1, .int .u64 a0_2, .int .u64 a0_3, .int .i64 a0_4, .int .i64 a0_5, .string a0_6, .int .u32 a0_7, .int .i64 a0_8] 29 (0, 0)) BK204.out hb)
                                    have n3_ := Aside0.mk (below_step HB.out hb)
                                    clear HO207
                                    clear BK203
                                    clear BK204
                                    clear HB
                                    have HO207 := n0_
                                    have BK203 := n1_
                                    have BK204 := n2_
                                    have HB := n3_
                                    clear n0_ n1_ n2_ n3_
                                    (try clear hb)
                                    (try clear hb2)
                                    (try clear hk)
                                    (try clear hi)
                                    refine hK.out _ _ ⟨(blk_cell BK204.out 0).trans rfl, (blk_cell BK204.out 1).trans rfl, (blk_cell BK204.out 2).trans rfl, (blk_cell BK204.out 3).trans rfl, (blk_cell BK204.out 4).trans rfl, (blk_cell BK204.out 5).trans rfl, (blk_cell BK204.out 6).trans rfl, (blk_cell BK204.out 7).trans rfl⟩ (fun hHeld => ?_)
                                    clear hK K
                                    refine norm_ (a' := ?_) ?_ ?_
                                    rotate_left
                                    · show Act.put _ (some 45) _ = _
                                      simp only [Act.put, List.setIfInBounds_toArray, List.set_cons_zero, List.set_cons_succ, i64_w, i32_w]
                                      rfl
                                    exact norm_ (by first | (simp only [putAll, Act.put, List.setIfInBounds_toArray, List.set_cons_zero, List.set_cons_succ]; done)) (hJ9 () _ ⟨hHeld, HO207.out, BK203.out, BK204.out, HB.out⟩)
                                · skip
                                  rintro _ w40 ⟨hS_, h0_, h1_, h2_, h3_⟩
                                  have n0_ : Aside0 (Kd.R (Kd.int .u8) 5 w40 w.heap.size (fun _ => True) v206 y205) := ⟨h0_⟩
                                  have n1_ : Aside0 (w40.heap[gb203]? = some (.cells #[.bool false, .int .i64 a0_1, .int .u64 a0_2, .int .u64 a0_3, .int .i64 a0_4, .int .i64 a0_5, .string a0_6, .int .u32 a0_7, .int .i64 a0_8] 31 (0, 0))) := ⟨h1_⟩
                                  have n2_ : Aside0 (w40.heap[gb204]? = some (.cells #[.int .i64 a0_1, .int .u64 a0_2, .int .u64 a0_3, .int .i64 a0_4, .int .i64 a0_5, .string a0_6, .int .u32 a0_7, .int .i64 a0_8] 29 (0, 0))) := ⟨h2_⟩
                                  have n3_ : Aside0 (Below w.heap.size w w40) := ⟨h3_⟩
                                  clear HO207
                                  clear BK203
                                  clear BK204
                                  clear HB
                                  clear h0_ h1_ h2_ h3_
                                  have HO207 := n0_
                                  have BK203 := n1_
                                  have BK204 := n2_
                                  have HB := n3_
                                  clear n0_ n1_ n2_ n3_
                                  have hHeld : w40.cell? ⟨gb204, 0, none⟩ = some (.int .i64 a0_1) ∧ w40.cell? ⟨gb204, 1, none⟩ = some (.int .u64 a0_2) ∧ w40.cell? ⟨gb204, 2, none⟩ = some (.int .u64 a0_3) ∧ w40.cell? ⟨gb204, 3, none⟩ = some (.int .i64 a0_4) ∧ w40.cell? ⟨gb204, 4, none⟩ = some (.int .i64 a0_5) ∧ w40.cell? ⟨gb204, 5, none⟩ = some (.string a0_6) ∧ w40.cell? ⟨gb204, 6, none⟩ = some (.int .u32 a0_7) ∧ w40.cell? ⟨gb204, 7, none⟩ = some (.int .i64 a0_8) := hS_
                                  refine norm_ (a' := ?_) ?_ ?_
                                  rotate_left
                                  · simp only [putAll, Act.put, List.setIfInBounds_toArray, List.set_cons_zero, List.set_cons_succ]
                                    rfl
                                  refine two_ (i := 4) (j := 14) (Ni := some 40) (Nj := some 50) #[true, true, true, true, true, false, false, true, true, true, false, true, true, true, false, false, true, false, false] #[true, true, true, true, false, false, false, true, true, true, false, true, true, true, true, false, true, false, false] rfl rfl rfl rfl (two_of HT_.out (by kernel_rfl)) (by decide) (by decide) (fun K hK => ?_) (fun K hK => ?_)
                                  · skip
                                    refine Kd.R_lit_step (Kd.int .u8) _ 5 ?hg (N := 40) ?hd (xs := ([(a0_5) % 256] : List Int)) (inner := [.int .u8 ((a0_5) % 256)]) (ok := fun _ => True) (okp := fun _ => True) ?hr ?hp (fun _ hk => hk) trivial (Below.refl _ _) (Nat.le_refl _) (by simp) ?_; (case hd => rfl); (case hg => rfl); (case hr => first | (go_simp; rfl)); (case hp => exact (Reps.one (show Kd.M (Kd.int .u8) _ _ _ ((a0_5) % 256) [.int .u8 ((a0_5) % 256)] from rfl) (Reps.none _ _)))
                                    intro v212 w41 ho42 hb hg_ hnew_
                                    clear hg_ hnew_
                                    (first | rw [← Ny211.out] at ho42)
                                    have n0_ := Aside0.mk (Kd.R_elder' HO207.out (Kd.R_base ho42) hb)
                                    have n1_ := Aside0.mk (Kd.R_lower (Kd.R_new' ho42 (Kd.R_lt HO207.out)) (below_size HB.out))
                                    have n2_ := Aside0.mk (blk_below (g := gb203) (o := .cells #[.bool false, .int .i64 a0_1, .int .u64 a0_2, .int .u64 a0_3, .int .i64 a0_4, .int .i64 a0_5, .string a0_6, .int .u32 a0_7, .int .i64 a0_8] 31 (0, 0)) BK203.out hb)
                                    have n3_ := Aside0.mk (blk_below (g := gb204) (o := .cells #[.int .i64 a0_1, .int .u64 a0_2, .int .u64 a0_3, .int .i64 a0_4, .int .i64 a0_5, .string a0_6, .int .u32 a0_7, .int .i64 a0_8] 29 (0, 0)) BK204.out hb)
                                    have n4_ := Aside0.mk (below_step HB.out hb)
                                    clear HO207
                                    clear BK203
                                    clear BK204
                                    clear HB
                                    have HO207 := n0_
                                    have HO213 := n1_
                                    have BK203 := n2_
                                    have BK204 := n3_
                                    have HB := n4_
                                    clear n0_ n1_ n2_ n3_ n4_
                                    clear hb ho42
                                    refine hK.out _ _ ⟨(blk_cell BK204.out 0).trans rfl, (blk_cell BK204.out 1).trans rfl, (blk_cell BK204.out 2).trans rfl, (blk_cell BK204.out 3).trans rfl, (blk_cell BK204.out 4).trans rfl, (blk_cell BK204.out 5).trans rfl, (blk_cell BK204.out 6).trans rfl, (blk_cell BK204.out 7).trans rfl⟩ (fun hHeld => ?_)
                                    clear hK K
                                    refine norm_ (a' := ?_) ?_ ?_
                                    rotate_left
                                    · show Act.put _ (some 40) _ = _
                                      simp only [Act.put, List.setIfInBounds_toArray, List.set_cons_zero, List.set_cons_succ, i64_w, i32_w]
                                      rfl
                                    exact norm_ (by first | (simp only [putAll, Act.put, List.setIfInBounds_toArray, List.set_cons_zero, List.set_cons_succ]; done)) (hJ4_9 (v212) _ ⟨hHeld, (by exact Kd.R_mono HO207.out (fun _ hk => hk.2)), (by exact Kd.R_mono HO213.out (fun _ hk => hk.2)), BK203.out, BK204.out, HB.out⟩)
                                  · skip
                                    refine goes_ Try.func64 (by kernel_rfl) rfl #[.int .u64 (IntKind.u64.wrap (a0_8))] (by rfl) rfl rfl (by (try simp only [List.map_toArray, List.map_cons, List.map_nil]); first | rfl) ?_
                                    with_reducible refine (octet_Put64.calls kj1 (IntKind.u64.wrap (a0_8)) t215 _ A25.out).mono ?_
                                    rintro e w41 ⟨rfl, hb⟩
                                    refine ⟨_, rfl, ?_⟩
                                    have n0_ := Aside0.mk (Kd.R_below HO207.out hb)
                                    have n1_ := Aside0.mk (blk_below (g := gb203) (o := .cells #[.bool false, .int .i64 a0_1, .int .u64 a0_2, .int .u64 a0_3, .int .i64 a0_4, .int .i64 a0_5, .string a0_6, .int .u32 a0_7, .int .i64 a0_8] 31 (0, 0)) BK203.out hb)
                                    have n2_ := Aside0.mk (blk_below (g := gb204) (o := .cells #[.int .i64 a0_1, .int .u64 a0_2, .int .u64 a0_3, .int .i64 a0_4, .int .i64 a0_5, .string a0_6, .int .u32 a0_7, .int .i64 a0_8] 29 (0, 0)) BK204.out hb)
                                    have n3_ := Aside0.mk (below_step HB.out hb)
                                    clear HO207
                                    clear BK203
                                    clear BK204
                                    clear HB
                                    have HO207 := n0_
                                    have BK203 := n1_
                                    have BK204 := n2_
                                    have HB := n3_
                                    clear n0_ n1_ n2_ n3_
                                    (try clear hb)
                                    (try clear hb2)
                                    (try clear hk)
                                    (try clear hi)
                                    refine hK.out _ _ ⟨(blk_cell BK204.out 0).trans rfl, (blk_cell BK204.out 1).trans rfl, (blk_cell BK204.out 2).trans rfl, (blk_cell BK204.out 3).trans rfl, (blk_cell BK204.out 4).trans rfl, (blk_cell BK204.out 5).trans rfl, (blk_cell BK204.out 6).trans rfl, (blk_cell BK204.out 7).trans rfl⟩ (fun hHeld => ?_)
                                    clear hK K
                                    refine norm_ (a' := ?_) ?_ ?_
                                    rotate_left
                                    · show Act.put _ (some 50) _ = _
                                      simp only [Act.put, List.setIfInBounds_toArray, List.set_cons_zero, List.set_cons_succ, i64_w, i32_w]
                                      rfl
                                    exact norm_ (by first | (simp only [putAll, Act.put, List.setIfInBounds_toArray, List.set_cons_zero, List.set_cons_succ]; done)) (hJ9_14 () _ ⟨hHeld, HO207.out, BK203.out, BK204.out, HB.out⟩)
                              · skip
                                rintro v212 w41 ⟨hS_, h0_, h1_, h2_, h3_, h4_⟩
                                have n0_ : Aside0 (Kd.R (Kd.int .u8) 5 w41 w.heap.size (fun k_ => some k_ ≠ (v212 : Value).ownBlock) v206 y205) := ⟨h0_⟩
                                have n1_ : Aside0 (Kd.R (Kd.int .u8) 5 w41 w.heap.size (fun k_ => some k_ ≠ (v206 : Value).ownBlock) v212 y211) := ⟨h1_⟩
                                have n2_ : Aside0 (w41.heap[gb203]? = some (.cells #[.bool false, .int .i64 a0_1, .int .u64 a0_2, .int .u64 a0_3, .int .i64 a0_4, .int .i64 a0_5, .string a0_6, .int .u32 a0_7, .int .i64 a0_8] 31 (0, 0))) := ⟨h2_⟩
                                have n3_ : Aside0 (w41.heap[gb204]? = some (.cells #[.int .i64 a0_1, .int .u64 a0_2, .int .u64 a0_3, .int .i64 a0_4, .int .i64 a0_5, .string a0_6, .int .u32 a0_7, .int .i64 a0_8] 29 (0, 0))) := ⟨h3_⟩
                                have n4_ : Aside0 (Below w.heap.size w w41) := ⟨h4_⟩
                                clear HO207
                                clear BK203
                                clear BK204
                                clear HB
                                clear h0_ h1_ h2_ h3_ h4_
                                have HO207 := n0_
                                have HO213 := n1_
                                have BK203 := n2_
                                have BK204 := n3_
                                have HB := n4_
                                clear n0_ n1_ n2_ n3_ n4_
                                have hHeld : w41.cell? ⟨gb204, 0, none⟩ = some (.int .i64 a0_1) ∧ w41.cell? ⟨gb204, 1, none⟩ = some (.int .u64 a0_2) ∧ w41.cell? ⟨gb204, 2, none⟩ = some (.int .u64 a0_3) ∧ w41.cell? ⟨gb204, 3, none⟩ = some (.int .i64 a0_4) ∧ w41.cell? ⟨gb204, 4, none⟩ = some (.int .i64 a0_5) ∧ w41.cell? ⟨gb204, 5, none⟩ = some (.string a0_6) ∧ w41.cell? ⟨gb204, 6, none⟩ = some (.int .u32 a0_7) ∧ w41.cell? ⟨gb204, 7, none⟩ = some (.int .i64 a0_8) := hS_
                                refine norm_ (a' := ?_) ?_ ?_
                                rotate_left
                                · simp only [putAll, Act.put, List.setIfInBounds_toArray, List.set_cons_zero, List.set_cons_succ]
                                  rfl
                                refine two_ (i := 5) (j := 9) (Ni := some 41) (Nj := some 45) #[true, true, true, true, true, true, false, true, true, false, false, true, true, true, false, false, true, false, false] #[true, true, true, true, true, false, false, true, true, true, false, true, true, true, false, false, true, false, false] rfl rfl rfl rfl (two_of HT_.out (by kernel_rfl)) (by decide) (by decide) (fun K hK => ?_) (fun K hK => ?_)
                                · skip
                                  have hcv42 := own_string (P := Try.prog) Try.underlying60 Try.underlying5 Try.underlying9 (Kd.own_of_R HO213.out)
                                  refine value_ (w1 := ?_) (v := ?_) (by rfl) rfl ?_ ?_
                                  rotate_left 2
                                  · go_simp
                                    constructor
                                    · rfl
                                    · rfl
                                  clear hcv42
                                  refine hK.out _ _ ⟨(blk_cell BK204.out 0).trans rfl, (blk_cell BK204.out 1).trans rfl, (blk_cell BK204.out 2).trans rfl, (blk_cell BK204.out 3).trans rfl, (blk_cell BK204.out 4).trans rfl, (blk_cell BK204.out 5).trans rfl, (blk_cell BK204.out 6).trans rfl, (blk_cell BK204.out 7).trans rfl⟩ (fun hHeld => ?_)
                                  clear hK K
                                  refine norm_ (a' := ?_) ?_ ?_
                                  rotate_left
                                  · show Act.put _ (some 41) _ = _
                                    simp only [Act.put, List.setIfInBounds_toArray, List.set_cons_zero, List.set_cons_succ, i64_w, i32_w]
                                    rfl
                                  refine pure_ (i := 6) (N := some 42) (v := ?_) (a' := ?_) #[true, true, true, true, true, true, true, true, true, false, false, true, true, true, false, false, true, false, false] rfl rfl (any_of HT_.out (by kernel_rfl)) (fun _ _ _ h => h) (Or.inl ⟨by rfl, ?_⟩) ?_ ?_
                                  rotate_left
                                  · intro w'
                                    go_simp
                                    with_reducible rfl
                                  rotate_left
                                  · simp only [Act.put, List.setIfInBounds_toArray, List.set_cons_zero, List.set_cons_succ, i64_w, i32_w]
                                    rfl
                                  exact norm_ (by first | (simp only [putAll, Act.put, List.setIfInBounds_toArray, List.set_cons_zero, List.set_cons_succ]; done)) (hJ4_5 (v212) _ ⟨hHeld, HO207.out, HO213.out, BK203.out, BK204.out, HB.out⟩)
                                · skip
                                  refine goes_ Try.func63 (by kernel_rfl) rfl #[.int .u32 a0_7] (by rfl) rfl rfl (by (try simp only [List.map_toArray, List.map_cons, List.map_nil]); first | rfl) ?_
                                  with_reducible refine (octet_Put32.calls kj1 a0_7 t214 _ A23.out).mono ?_
                                  rintro e w42 ⟨rfl, hb⟩
                                  refine ⟨_, rfl, ?_⟩
                                  have n0_ := Aside0.mk (Kd.R_below HO207.out hb)
                                  have n1_ := Aside0.mk (Kd.R_below HO213.out hb)
                                  have n2_ := Aside0.mk (blk_below (g := gb203) (o := .cells #[.bool false, .int .i64 a0_1, .int .u64 a0_2, .int .u64 a0_3, .int .i64 a0_4, .int .i64 a0_5, .string a0_6, .int .u32 a0_7, .int .i64 a0_8] 31 (0, 0)) BK203.out hb)
                                  have n3_ := Aside0.mk (blk_below (g := gb204) (o := .cells #[.int .i64 a0_1, .int .u64 a0_2, .int .u64 a0_3, .int .i64 a0_4, .int .i64 a0_5, .string a0_6, .int .u32 a0_7, .int .i64 a0_8] 29 (0, 0)) BK204.out hb)
                                  have n4_ := Aside0.mk (below_step HB.out hb)
                                  clear HO207
                                  clear HO213
                                  clear BK203
                                  clear BK204
                                  clear HB
                                  have HO207 := n0_
                                  have HO213 := n1_
                                  have BK203 := n2_
                                  have BK204 := n3_
                                  have HB := n4_
                                  clear n0_ n1_ n2_ n3_ n4_
                                  (try clear hb)
                                  (try clear hb2)
                                  (try clear hk)
                                  (try clear hi)
                                  refine hK.out _ _ ⟨(blk_cell BK204.out 0).trans rfl, (blk_cell BK204.out 1).trans rfl, (blk_cell BK204.out 2).trans rfl, (blk_cell BK204.out 3).trans rfl, (blk_cell BK204.out 4).trans rfl, (blk_cell BK204.out 5).trans rfl, (blk_cell BK204.out 6).trans rfl, (blk_cell BK204.out 7).trans rfl⟩ (fun hHeld => ?_)
                                  clear hK K
                                  refine norm_ (a' := ?_) ?_ ?_
                                  rotate_left
                                  · show Act.put _ (some 45) _ = _
                                    simp only [Act.put, List.setIfInBounds_toArray, List.set_cons_zero, List.set_cons_succ, i64_w, i32_w]
                                    rfl
                                  exact norm_ (by first | (simp only [putAll, Act.put, List.setIfInBounds_toArray, List.set_cons_zero, List.set_cons_succ]; done)) (hJ4_9 (v212) _ ⟨hHeld, HO207.out, HO213.out, BK203.out, BK204.out, HB.out⟩)
                            · skip
                              rintro _ w41 ⟨hS_, h0_, h1_, h2_, h3_⟩
                              have n0_ : Aside0 (Kd.R (Kd.int .u8) 5 w41 w.heap.size (fun _ => True) v206 y205) := ⟨h0_⟩
                              have n1_ : Aside0 (w41.heap[gb203]? = some (.cells #[.bool false, .int .i64 a0_1, .int .u64 a0_2, .int .u64 a0_3, .int .i64 a0_4, .int .i64 a0_5, .string a0_6, .int .u32 a0_7, .int .i64 a0_8] 31 (0, 0))) := ⟨h1_⟩
                              have n2_ : Aside0 (w41.heap[gb204]? = some (.cells #[.int .i64 a0_1, .int .u64 a0_2, .int .u64 a0_3, .int .i64 a0_4, .int .i64 a0_5, .string a0_6, .int .u32 a0_7, .int .i64 a0_8] 29 (0, 0))) := ⟨h2_⟩
                              have n3_ : Aside0 (Below w.heap.size w w41) := ⟨h3_⟩
                              clear HO207
                              clear BK203
                              clear BK204
                              clear HB
                              clear h0_ h1_ h2_ h3_
                              have HO207 := n0_
                              have BK203 := n1_
                              have BK204 := n2_
                              have HB := n3_
                              clear n0_ n1_ n2_ n3_
                              have hHeld : w41.cell? ⟨gb204, 0, none⟩ = some (.int .i64 a0_1) ∧ w41.cell? ⟨gb204, 1, none⟩ = some (.int .u64 a0_2) ∧ w41.cell? ⟨gb204, 2, none⟩ = some (.int .u64 a0_3) ∧ w41.cell? ⟨gb204, 3, none⟩ = some (.int .i64 a0_4) ∧ w41.cell? ⟨gb204, 4, none⟩ = some (.int .i64 a0_5) ∧ w41.cell? ⟨gb204, 5, none⟩ = some (.string a0_6) ∧ w41.cell? ⟨gb204, 6, none⟩ = some (.int .u32 a0_7) ∧ w41.cell? ⟨gb204, 7, none⟩ = some (.int .i64 a0_8) := hS_
                              refine norm_ (a' := ?_) ?_ ?_
                              rotate_left
                              · simp only [putAll, Act.put, List.setIfInBounds_toArray, List.set_cons_zero, List.set_cons_succ]
                                rfl
                              refine one_ (i := 4) (N := some 40) #[true, true, true, true, true, false, false, true, true, true, false, true, true, true, true, false, true, false, false] rfl rfl (one_of HT_.out (by kernel_rfl)) (by decide) (fun K hK => ?_)
                              refine Kd.R_lit_step (Kd.int .u8) _ 5 ?hg (N := 40) ?hd (xs := ([(a0_5) % 256] : List Int)) (inner := [.int .u8 ((a0_5) % 256)]) (ok := fun _ => True) (okp := fun _ => True) ?hr ?hp (fun _ hk => hk) trivial (Below.refl _ _) (Nat.le_refl _) (by simp) ?_; (case hd => rfl); (case hg => rfl); (case hr => first | (go_simp; rfl)); (case hp => exact (Reps.one (show Kd.M (Kd.int .u8) _ _ _ ((a0_5) % 256) [.int .u8 ((a0_5) % 256)] from rfl) (Reps.none _ _)))
                              intro v212 w42 ho43 hb hg_ hnew_
                              clear hg_ hnew_
                              (first | rw [← Ny211.out] at ho43)
                              have n0_ := Aside0.mk (Kd.R_elder' HO207.out (Kd.R_base ho43) hb)
                              have n1_ := Aside0.mk (Kd.R_lower (Kd.R_new' ho43 (Kd.R_lt HO207.out)) (below_size HB.out))
                              have n2_ := Aside0.mk (blk_below (g := gb203) (o := .cells #[.bool false, .int .i64 a0_1, .int .u64 a0_2, .int .u64 a0_3, .int .i64 a0_4, .int .i64 a0_5, .string a0_6, .int .u32 a0_7, .int .i64 a0_8] 31 (0, 0)) BK203.out hb)
                              have n3_ := Aside0.mk (blk_below (g := gb204) (o := .cells #[.int .i64 a0_1, .int .u64 a0_2, .int .u64 a0_3, .int .i64 a0_4, .int .i64 a0_5, .string a0_6, .int .u32 a0_7, .int .i64 a0_8] 29 (0, 0)) BK204.out hb)
                              have n4_ := Aside0.mk (below_step HB.out hb)
                              clear HO207
                              clear BK203
                              clear BK204
                              clear HB
                              have HO207 := n0_
                              have HO213 := n1_
                              have BK203 := n2_
                              have BK204 := n3_
                              have HB := n4_
                              clear n0_ n1_ n2_ n3_ n4_
                              clear hb ho43
                              refine hK.out _ _ ⟨(blk_cell BK204.out 0).trans rfl, (blk_cell BK204.out 1).trans rfl, (blk_cell BK204.out 2).trans rfl, (blk_cell BK204.out 3).trans rfl, (blk_cell BK204.out 4).trans rfl, (blk_cell BK204.out 5).trans rfl, (blk_cell BK204.out 6).trans rfl, (blk_cell BK204.out 7).trans rfl⟩ (fun hHeld => ?_)
                              clear hK K
                              refine norm_ (a' := ?_) ?_ ?_
                              rotate_left
                              · show Act.put _ (some 40) _ = _
                                simp only [Act.put, List.setIfInBounds_toArray, List.set_cons_zero, List.set_cons_succ, i64_w, i32_w]
                                rfl
                              exact norm_ (by first | (simp only [putAll, Act.put, List.setIfInBounds_toArray, List.set_cons_zero, List.set_cons_succ]; done)) (hJ4_9_14 (v212) _ ⟨hHeld, (by exact Kd.R_mono HO207.out (fun _ hk => hk.2)), (by exact Kd.R_mono HO213.out (fun _ hk => hk.2)), BK203.out, BK204.out, HB.out⟩)
                          · skip
                            rintro v212 w42 ⟨hS_, h0_, h1_, h2_, h3_, h4_⟩
                            have n0_ : Aside0 (Kd.R (Kd.int .u8) 5 w42 w.heap.size (fun k_ => some k_ ≠ (v212 : Value).ownBlock) v206 y205) := ⟨h0_⟩
                            have n1_ : Aside0 (Kd.R (Kd.int .u8) 5 w42 w.heap.size (fun k_ => some k_ ≠ (v206 : Value).ownBlock) v212 y211) := ⟨h1_⟩
                            have n2_ : Aside0 (w42.heap[gb203]? = some (.cells #[.bool false, .int .i64 a0_1, .int .u64 a0_2, .int .u64 a0_3, .int .i64 a0_4, .int .i64 a0_5, .string a0_6, .int .u32 a0_7, .int .i64 a0_8] 31 (0, 0))) := ⟨h2_⟩
                            have n3_ : Aside0 (w42.heap[gb204]? = some (.cells #[.int .i64 a0_1, .int .u64 a0_2, .int .u64 a0_3, .int .i64 a0_4, .int .i64 a0_5, .string a0_6, .int .u32 a0_7, .int .i64 a0_8] 29 (0, 0))) := ⟨h3_⟩
                            have n4_ : Aside0 (Below w.heap.size w w42) := ⟨h4_⟩
                            clear HO207
                            clear BK203
                            clear BK204
                            clear HB
                            clear h0_ h1_ h2_ h3_ h4_
                            have HO207 := n0_
                            have HO213 := n1_
                            have BK203 := n2_
                            have BK204 := n3_
                            have HB := n4_
                            clear n0_ n1_ n2_ n3_ n4_
                            have hHeld : w42.cell? ⟨gb204, 0, none⟩ = some (.int .i64 a0_1) ∧ w42.cell? ⟨gb204, 1, none⟩ = some (.int .u64 a0_2) ∧ w42.cell? ⟨gb204, 2, none⟩ = some (.int .u64 a0_3) ∧ w42.cell? ⟨gb204, 3, none⟩ = some (.int .i64 a0_4) ∧ w42.cell? ⟨gb204, 4, none⟩ = some (.int .i64 a0_5) ∧ w42.cell? ⟨gb204, 5, none⟩ = some (.string a0_6) ∧ w42.cell? ⟨gb204, 6, none⟩ = some (.int .u32 a0_7) ∧ w42.cell? ⟨gb204, 7, none⟩ = some (.int .i64 a0_8) := hS_
                            refine norm_ (a' := ?_) ?_ ?_
                            rotate_left
                            · simp only [putAll, Act.put, List.setIfInBounds_toArray, List.set_cons_zero, List.set_cons_succ]
                              rfl
                            refine two_ (i := 5) (j := 14) (Ni := some 41) (Nj := some 50) #[true, true, true, true, true, true, false, true, true, true, false, true, true, true, false, false, true, false, false] #[true, true, true, true, true, false, false, true, true, true, false, true, true, true, true, false, true, false, false] rfl rfl rfl rfl (two_of HT_.out (by kernel_rfl)) (by decide) (by decide) (fun K hK => ?_) (fun K hK => ?_)
                            · skip
                              have hcv43 := own_string (P := Try.prog) Try.underlying60 Try.underlying5 Try.underlying9 (Kd.own_of_R HO213.out)
                              refine value_ (w1 := ?_) (v := ?_) (by rfl) rfl ?_ ?_
                              rotate_left 2
                              · go_simp
                                constructor
                                · rfl
                                · rfl
                              clear hcv43
                              refine hK.out _ _ ⟨(blk_cell BK204.out 0).trans rfl, (blk_cell BK204.out 1).trans rfl, (blk_cell BK204.out 2).trans rfl, (blk_cell BK204.out 3).trans rfl, (blk_cell BK204.out 4).trans rfl, (blk_cell BK204.out 5).trans rfl, (blk_cell BK204.out 6).trans rfl, (blk_cell BK204.out 7).trans rfl⟩ (fun hHeld => ?_)
                              clear hK K
                              refine norm_ (a' := ?_) ?_ ?_
                              rotate_left
                              · show Act.put _ (some 41) _ = _
                                simp only [Act.put, List.setIfInBounds_toArray, List.set_cons_zero, List.set_cons_succ, i64_w, i32_w]
                                rfl
                              refine pure_ (i := 6) (N := some 42) (v := ?_) (a' := ?_) #[true, true, true, true, true, true, true, true, true, true, false, true, true, true, false, false, true, false, false] rfl rfl (any_of HT_.out (by kernel_rfl)) (fun _ _ _ h => h) (Or.inl ⟨by rfl, ?_⟩) ?_ ?_
                              rotate_left
                              · intro w'
                                go_simp
                                with_reducible rfl
                              rotate_left
                              · simp only [Act.put, List.setIfInBounds_toArray, List.set_cons_zero, List.set_cons_succ, i64_w, i32_w]
                                rfl
                              refine pure_ (i := 10) (N := some 46) (v := ?_) (a' := ?_) #[true, true, true, true, true, true, true, true, true, true, true, true, true, true, false, false, true, false, false] rfl rfl (any_of HT_.out (by kernel_rfl)) (fun _ _ _ h => h) (Or.inl ⟨by rfl, ?_⟩) ?_ ?_
                              rotate_left
                              · intro w'
                                go_simp
                                with_reducible rfl
                              rotate_left
                              · simp only [Act.put, List.setIfInBounds_toArray, List.set_cons_zero, List.set_cons_succ, i64_w, i32_w]
                                rfl
                              exact norm_ (by first | (simp only [putAll, Act.put, List.setIfInBounds_toArray, List.set_cons_zero, List.set_cons_succ]; done)) (hJ4_5_9 (v212) _ ⟨hHeld, HO207.out, HO213.out, BK203.out, BK204.out, HB.out⟩)
                            · skip
                              refine goes_ Try.func64 (by kernel_rfl) rfl #[.int .u64 (IntKind.u64.wrap (a0_8))] (by rfl) rfl rfl (by (try simp only [List.map_toArray, List.map_cons, List.map_nil]); first | rfl) ?_
                              with_reducible refine (octet_Put64.calls kj1 (IntKind.u64.wrap (a0_8)) t215 _ A25.out).mono ?_
                              rintro e w43 ⟨rfl, hb⟩
                              refine ⟨_, rfl, ?_⟩
                              have n0_ := Aside0.mk (Kd.R_below HO207.out hb)
                              have n1_ := Aside0.mk (Kd.R_below HO213.out hb)
                              have n2_ := Aside0.mk (blk_below (g := gb203) (o := .cells #[.bool false, .int .i64 a0_1, .int .u64 a0_2, .int .u64 a0_3, .int .i64 a0_4, .int .i64 a0_5, .string a0_6, .int .u32 a0_7, .int .i64 a0_8] 31 (0, 0)) BK203.out hb)
                              have n3_ := Aside0.mk (blk_below (g := gb204) (o := .cells #[.int .i64 a0_1, .int .u64 a0_2, .int .u64 a0_3, .int .i64 a0_4, .int .i64 a0_5, .string a0_6, .int .u32 a0_7, .int .i64 a0_8] 29 (0, 0)) BK204.out hb)
                              have n4_ := Aside0.mk (below_step HB.out hb)
                              clear HO207
                              clear HO213
                              clear BK203
                              clear BK204
                              clear HB
                              have HO207 := n0_
                              have HO213 := n1_
                              have BK203 := n2_
                              have BK204 := n3_
                              have HB := n4_
                              clear n0_ n1_ n2_ n3_ n4_
                              (try clear hb)
                              (try clear hb2)
                              (try clear hk)
                              (try clear hi)
                              refine hK.out _ _ ⟨(blk_cell BK204.out 0).trans rfl, (blk_cell BK204.out 1).trans rfl, (blk_cell BK204.out 2).trans rfl, (blk_cell BK204.out 3).trans rfl, (blk_cell BK204.out 4).trans rfl, (blk_cell BK204.out 5).trans rfl, (blk_cell BK204.out 6).trans rfl, (blk_cell BK204.out 7).trans rfl⟩ (fun hHeld => ?_)
                              clear hK K
                              refine norm_ (a' := ?_) ?_ ?_
                              rotate_left
                              · show Act.put _ (some 50) _ = _
                                simp only [Act.put, List.setIfInBounds_toArray, List.set_cons_zero, List.set_cons_succ, i64_w, i32_w]
                                rfl
                              exact norm_ (by first | (simp only [putAll, Act.put, List.setIfInBounds_toArray, List.set_cons_zero, List.set_cons_succ]; done)) (hJ4_9_14 (v212) _ ⟨hHeld, HO207.out, HO213.out, BK203.out, BK204.out, HB.out⟩)
                        · skip
                          rintro v212 w42 ⟨hS_, h0_, h1_, h2_, h3_, h4_⟩
                          have n0_ : Aside0 (Kd.R (Kd.int .u8) 5 w42 w.heap.size (fun k_ => some k_ ≠ (v212 : Value).ownBlock) v206 y205) := ⟨h0_⟩
                          have n1_ : Aside0 (Kd.R (Kd.int .u8) 5 w42 w.heap.size (fun k_ => some k_ ≠ (v206 : Value).ownBlock) v212 y211) := ⟨h1_⟩
                          have n2_ : Aside0 (w42.heap[gb203]? = some (.cells #[.bool false, .int .i64 a0_1, .int .u64 a0_2, .int .u64 a0_3, .int .i64 a0_4, .int .i64 a0_5, .string a0_6, .int .u32 a0_7, .int .i64 a0_8] 31 (0, 0))) := ⟨h2_⟩
                          have n3_ : Aside0 (w42.heap[gb204]? = some (.cells #[.int .i64 a0_1, .int .u64 a0_2, .int .u64 a0_3, .int .i64 a0_4, .int .i64 a0_5, .string a0_6, .int .u32 a0_7, .int .i64 a0_8] 29 (0, 0))) := ⟨h3_⟩
                          have n4_ : Aside0 (Below w.heap.size w w42) := ⟨h4_⟩
                          clear HO207
                          clear BK203
                          clear BK204
                          clear HB
                          clear h0_ h1_ h2_ h3_ h4_
                          have HO207 := n0_
                          have HO213 := n1_
                          have BK203 := n2_
                          have BK204 := n3_
                          have HB := n4_
                          clear n0_ n1_ n2_ n3_ n4_
                          have hHeld : w42.cell? ⟨gb204, 0, none⟩ = some (.int .i64 a0_1) ∧ w42.cell? ⟨gb204, 1, none⟩ = some (.int .u64 a0_2) ∧ w42.cell? ⟨gb204, 2, none⟩ = some (.int .u64 a0_3) ∧ w42.cell? ⟨gb204, 3, none⟩ = some (.int .i64 a0_4) ∧ w42.cell? ⟨gb204, 4, none⟩ = some (.int .i64 a0_5) ∧ w42.cell? ⟨gb204, 5, none⟩ = some (.string a0_6) ∧ w42.cell? ⟨gb204, 6, none⟩ = some (.int .u32 a0_7) ∧ w42.cell? ⟨gb204, 7, none⟩ = some (.int .i64 a0_8) := hS_
                          refine norm_ (a' := ?_) ?_ ?_
                          rotate_left
                          · simp only [putAll, Act.put, List.setIfInBounds_toArray, List.set_cons_zero, List.set_cons_succ]
                            rfl
                          refine one_ (i := 9) (N := some 45) #[true, true, true, true, true, true, true, true, true, true, false, true, true, true, false, false, true, false, false] rfl rfl (one_of HT_.out (by kernel_rfl)) (by decide) (fun K hK => ?_)
                          refine goes_ Try.func63 (by kernel_rfl) rfl #[.int .u32 a0_7] (by rfl) rfl rfl (by (try simp only [List.map_toArray, List.map_cons, List.map_nil]); first | rfl) ?_
                          with_reducible refine (octet_Put32.calls kj1 a0_7 t214 _ A23.out).mono ?_
                          rintro e w43 ⟨rfl, hb⟩
                          refine ⟨_, rfl, ?_⟩
                          have n0_ := Aside0.mk (Kd.R_below HO207.out hb)
                          have n1_ := Aside0.mk (Kd.R_below HO213.out hb)
                          have n2_ := Aside0.mk (blk_below (g := gb203) (o := .cells #[.bool false, .int .i64 a0_1, .int .u64 a0_2, .int .u64 a0_3, .int .i64 a0_4, .int .i64 a0_5, .string a0_6, .int .u32 a0_7, .int .i64 a0_8] 31 (0, 0)) BK203.out hb)
                          have n3_ := Aside0.mk (blk_below (g := gb204) (o := .cells #[.int .i64 a0_1, .int .u64 a0_2, .int .u64 a0_3, .int .i64 a0_4, .int .i64 a0_5, .string a0_6, .int .u32 a0_7, .int .i64 a0_8] 29 (0, 0)) BK204.out hb)
                          have n4_ := Aside0.mk (below_step HB.out hb)
                          clear HO207
                          clear HO213
                          clear BK203
                          clear BK204
                          clear HB
                          have HO207 := n0_
                          have HO213 := n1_
                          have BK203 := n2_
                          have BK204 := n3_
                          have HB := n4_
                          clear n0_ n1_ n2_ n3_ n4_
                          (try clear hb)
                          (try clear hb2)
                          (try clear hk)
                          (try clear hi)
                          refine hK.out _ _ ⟨(blk_cell BK204.out 0).trans rfl, (blk_cell BK204.out 1).trans rfl, (blk_cell BK204.out 2).trans rfl, (blk_cell BK204.out 3).trans rfl, (blk_cell BK204.out 4).trans rfl, (blk_cell BK204.out 5).trans rfl, (blk_cell BK204.out 6).trans rfl, (blk_cell BK204.out 7).trans rfl⟩ (fun hHeld => ?_)
                          clear hK K
                          refine norm_ (a' := ?_) ?_ ?_
                          rotate_left
                          · show Act.put _ (some 45) _ = _
                            simp only [Act.put, List.setIfInBounds_toArray, List.set_cons_zero, List.set_cons_succ, i64_w, i32_w]
                            rfl
                          refine pure_ (i := 10) (N := some 46) (v := ?_) (a' := ?_) #[true, true, true, true, true, true, true, true, true, true, true, true, true, true, false, false, true, false, false] rfl rfl (any_of HT_.out (by kernel_rfl)) (fun _ _ _ h => h) (Or.inl ⟨by rfl, ?_⟩) ?_ ?_
                          rotate_left
                          · intro w'
                            go_simp
                            with_reducible rfl
                          rotate_left
                          · simp only [Act.put, List.setIfInBounds_toArray, List.set_cons_zero, List.set_cons_succ, i64_w, i32_w]
                            rfl
                          exact norm_ (by first | (simp only [putAll, Act.put, List.setIfInBounds_toArray, List.set_cons_zero, List.set_cons_succ]; done)) (hJ4_5_9 (v212) _ ⟨hHeld, HO207.out, HO213.out, BK203.out, BK204.out, HB.out⟩)
                      · skip
                        rintro v212 w43 ⟨hS_, h0_, h1_, h2_, h3_, h4_⟩
                        have n0_ : Aside0 (Kd.R (Kd.int .u8) 5 w43 w.heap.size (fun k_ => some k_ ≠ (v212 : Value).ownBlock) v206 y205) := ⟨h0_⟩
                        have n1_ : Aside0 (Kd.R (Kd.int .u8) 5 w43 w.heap.size (fun k_ => some k_ ≠ (v206 : Value).ownBlock) v212 y211) := ⟨h1_⟩
                        have n2_ : Aside0 (w43.heap[gb203]? = some (.cells #[.bool false, .int .i64 a0_1, .int .u64 a0_2, .int .u64 a0_3, .int .i64 a0_4, .int .i64 a0_5, .string a0_6, .int .u32 a0_7, .int .i64 a0_8] 31 (0, 0))) := ⟨h2_⟩
                        have n3_ : Aside0 (w43.heap[gb204]? = some (.cells #[.int .i64 a0_1, .int .u64 a0_2, .int .u64 a0_3, .int .i64 a0_4, .int .i64 a0_5, .string a0_6, .int .u32 a0_7, .int .i64 a0_8] 29 (0, 0))) := ⟨h3_⟩
                        have n4_ : Aside0 (Below w.heap.size w w43) := ⟨h4_⟩
                        clear HO207
                        clear BK203
                        clear BK204
                        clear HB
                        clear h0_ h1_ h2_ h3_ h4_
                        have HO207 := n0_
                        have HO213 := n1_
                        have BK203 := n2_
                        have BK204 := n3_
                        have HB := n4_
                        clear n0_ n1_ n2_ n3_ n4_
                        have hHeld : w43.cell? ⟨gb204, 0, none⟩ = some (.int .i64 a0_1) ∧ w43.cell? ⟨gb204, 1, none⟩ = some (.int .u64 a0_2) ∧ w43.cell? ⟨gb204, 2, none⟩ = some (.int .u64 a0_3) ∧ w43.cell? ⟨gb204, 3, none⟩ = some (.int .i64 a0_4) ∧ w43.cell? ⟨gb204, 4, none⟩ = some (.int .i64 a0_5) ∧ w43.cell? ⟨gb204, 5, none⟩ = some (.string a0_6) ∧ w43.cell? ⟨gb204, 6, none⟩ = some (.int .u32 a0_7) ∧ w43.cell? ⟨gb204, 7, none⟩ = some (.int .i64 a0_8) := hS_
                        refine norm_ (a' := ?_) ?_ ?_
                        rotate_left
                        · simp only [putAll, Act.put, List.setIfInBounds_toArray, List.set_cons_zero, List.set_cons_succ]
                          rfl
                        refine one_ (i := 5) (N := some 41) #[true, true, true, true, true, true, false, true, true, true, false, true, true, true, true, false, true, false, false] rfl rfl (one_of HT_.out (by kernel_rfl)) (by decide) (fun K hK => ?_)
                        have hcv44 := own_string (P := Try.prog) Try.underlying60 Try.underlying5 Try.underlying9 (Kd.own_of_R HO213.out)
                        refine value_ (w1 := ?_) (v := ?_) (by rfl) rfl ?_ ?_
                        rotate_left 2
                        · go_simp
                          constructor
                          · rfl
                          · rfl
                        clear hcv44
                        refine hK.out _ _ ⟨(blk_cell BK204.out 0).trans rfl, (blk_cell BK204.out 1).trans rfl, (blk_cell BK204.out 2).trans rfl, (blk_cell BK204.out 3).trans rfl, (blk_cell BK204.out 4).trans rfl, (blk_cell BK204.out 5).trans rfl, (blk_cell BK204.out 6).trans rfl, (blk_cell BK204.out 7).trans rfl⟩ (fun hHeld => ?_)
                        clear hK K
                        refine norm_ (a' := ?_) ?_ ?_
                        rotate_left
                        · show Act.put _ (some 41) _ = _
                          simp only [Act.put, List.setIfInBounds_toArray, List.set_cons_zero, List.set_cons_succ, i64_w, i32_w]
                          rfl
                        refine pure_ (i := 6) (N := some 42) (v := ?_) (a' := ?_) #[true, true, true, true, true, true, true, true, true, true, false, true, true, true, true, false, true, false, false] rfl rfl (any_of HT_.out (by kernel_rfl)) (fun _ _ _ h => h) (Or.inl ⟨by rfl, ?_⟩) ?_ ?_
                        rotate_left
                        · intro w'
                          go_simp
                          with_reducible rfl
                        rotate_left
                        · simp only [Act.put, List.setIfInBounds_toArray, List.set_cons_zero, List.set_cons_succ, i64_w, i32_w]
                          rfl
                        refine pure_ (i := 10) (N := some 46) (v := ?_) (a' := ?_) #[true, true, true, true, true, true, true, true, true, true, true, true, true, true, true, false, true, false, false] rfl rfl (any_of HT_.out (by kernel_rfl)) (fun _ _ _ h => h) (Or.inl ⟨by rfl, ?_⟩) ?_ ?_
                        rotate_left
                        · intro w'
                          go_simp
                          with_reducible rfl
                        rotate_left
                        · simp only [Act.put, List.setIfInBounds_toArray, List.set_cons_zero, List.set_cons_succ, i64_w, i32_w]
                          rfl
                        exact norm_ (by first | (simp only [putAll, Act.put, List.setIfInBounds_toArray, List.set_cons_zero, List.set_cons_succ]; done)) (hJ4_5_9_14 (v212) _ ⟨hHeld, HO207.out, HO213.out, BK203.out, BK204.out, HB.out⟩)
                    · skip
                      rintro v212 w43 ⟨hS_, h0_, h1_, h2_, h3_, h4_⟩
                      have n0_ : Aside0 (Kd.R (Kd.int .u8) 5 w43 w.heap.size (fun k_ => some k_ ≠ (v212 : Value).ownBlock) v206 y205) := ⟨h0_⟩
                      have n1_ : Aside0 (Kd.R (Kd.int .u8) 5 w43 w.heap.size (fun k_ => some k_ ≠ (v206 : Value).ownBlock) v212 y211) := ⟨h1_⟩
                      have n2_ : Aside0 (w43.heap[gb203]? = some (.cells #[.bool false, .int .i64 a0_1, .int .u64 a0_2, .int .u64 a0_3, .int .i64 a0_4, .int .i64 a0_5, .string a0_6, .int .u32 a0_7, .int .i64 a0_8] 31 (0, 0))) := ⟨h2_⟩
                      have n3_ : Aside0 (w43.heap[gb204]? = some (.cells #[.int .i64 a0_1, .int .u64 a0_2, .int .u64 a0_3, .int .i64 a0_4, .int .i64 a0_5, .string a0_6, .int .u32 a0_7, .int .i64 a0_8] 29 (0, 0))) := ⟨h3_⟩
                      have n4_ : Aside0 (Below w.heap.size w w43) := ⟨h4_⟩
                      clear HO207
                      clear BK203
                      clear BK204
                      clear HB
                      clear h0_ h1_ h2_ h3_ h4_
                      have HO207 := n0_
                      have HO213 := n1_
                      have BK203 := n2_
                      have BK204 := n3_
                      have HB := n4_
                      clear n0_ n1_ n2_ n3_ n4_
                      have hHeld : w43.cell? ⟨gb204, 0, none⟩ = some (.int .i64 a0_1) ∧ w43.cell? ⟨gb204, 1, none⟩ = some (.int .u64 a0_2) ∧ w43.cell? ⟨gb204, 2, none⟩ = some (.int .u64 a0_3) ∧ w43.cell? ⟨gb204, 3, none⟩ = some (.int .i64 a0_4) ∧ w43.cell? ⟨gb204, 4, none⟩ = some (.int .i64 a0_5) ∧ w43.cell? ⟨gb204, 5, none⟩ = some (.string a0_6) ∧ w43.cell? ⟨gb204, 6, none⟩ = some (.int .u32 a0_7) ∧ w43.cell? ⟨gb204, 7, none⟩ = some (.int .i64 a0_8) := hS_
                      refine norm_ (a' := ?_) ?_ ?_
                      rotate_left
                      · simp only [putAll, Act.put, List.setIfInBounds_toArray, List.set_cons_zero, List.set_cons_succ]
                        rfl
                      refine one_ (i := 14) (N := some 50) #[true, true, true, true, true, true, true, true, true, true, true, true, true, true, true, false, true, false, false] rfl rfl (one_of HT_.out (by kernel_rfl)) (by decide) (fun K hK => ?_)
                      refine goes_ Try.func64 (by kernel_rfl) rfl #[.int .u64 (IntKind.u64.wrap (a0_8))] (by rfl) rfl rfl (by (try simp only [List.map_toArray, List.map_cons, List.map_nil]); first | rfl) ?_
                      with_reducible refine (octet_Put64.calls kj1 (IntKind.u64.wrap (a0_8)) t215 _ A25.out).mono ?_
                      rintro e w44 ⟨rfl, hb⟩
                      refine ⟨_, rfl, ?_⟩
                      have n0_ := Aside0.mk (Kd.R_below HO207.out hb)
                      have n1_ := Aside0.mk (Kd.R_below HO213.out hb)
                      have n2_ := Aside0.mk (blk_below (g := gb203) (o := .cells #[.bool false, .int .i64 a0_1, .int .u64 a0_2, .int .u64 a0_3, .int .i64 a0_4, .int .i64 a0_5, .string a0_6, .int .u32 a0_7, .int .i64 a0_8] 31 (0, 0)) BK203.out hb)
                      have n3_ := Aside0.mk (blk_below (g := gb204) (o := .cells #[.int .i64 a0_1, .int .u64 a0_2, .int .u64 a0_3, .int .i64 a0_4, .int .i64 a0_5, .string a0_6, .int .u32 a0_7, .int .i64 a0_8] 29 (0, 0)) BK204.out hb)
                      have n4_ := Aside0.mk (below_step HB.out hb)
                      clear HO207
                      clear HO213
                      clear BK203
                      clear BK204
                      clear HB
                      have HO207 := n0_
                      have HO213 := n1_
                      have BK203 := n2_
                      have BK204 := n3_
                      have HB := n4_
                      clear n0_ n1_ n2_ n3_ n4_
                      (try clear hb)
                      (try clear hb2)
                      (try clear hk)
                      (try clear hi)
                      refine hK.out _ _ ⟨(blk_cell BK204.out 0).trans rfl, (blk_cell BK204.out 1).trans rfl, (blk_cell BK204.out 2).trans rfl, (blk_cell BK204.out 3).trans rfl, (blk_cell BK204.out 4).trans rfl, (blk_cell BK204.out 5).trans rfl, (blk_cell BK204.out 6).trans rfl, (blk_cell BK204.out 7).trans rfl⟩ (fun hHeld => ?_)
                      clear hK K
                      refine norm_ (a' := ?_) ?_ ?_
                      rotate_left
                      · show Act.put _ (some 50) _ = _
                        simp only [Act.put, List.setIfInBounds_toArray, List.set_cons_zero, List.set_cons_succ, i64_w, i32_w]
                        rfl
                      exact norm_ (by first | (simp only [putAll, Act.put, List.setIfInBounds_toArray, List.set_cons_zero, List.set_cons_succ]; done)) (hJ4_5_9_14 (v212) _ ⟨hHeld, HO207.out, HO213.out, BK203.out, BK204.out, HB.out⟩)
                  rintro v212 w44 ⟨hS_, h0_, h1_, h2_, h3_, h4_⟩
                  have n0_ : Aside0 (Kd.R (Kd.int .u8) 5 w44 w.heap.size (fun k_ => some k_ ≠ (v212 : Value).ownBlock) v206 y205) := ⟨h0_⟩
                  have n1_ : Aside0 (Kd.R (Kd.int .u8) 5 w44 w.heap.size (fun k_ => some k_ ≠ (v206 : Value).ownBlock) v212 y211) := ⟨h1_⟩
                  have n2_ : Aside0 (w44.heap[gb203]? = some (.cells #[.bool false, .int .i64 a0_1, .int .u64 a0_2, .int .u64 a0_3, .int .i64 a0_4, .int .i64 a0_5, .string a0_6, .int .u32 a0_7, .int .i64 a0_8] 31 (0, 0))) := ⟨h2_⟩
                  have n3_ : Aside0 (w44.heap[gb204]? = some (.cells #[.int .i64 a0_1, .int .u64 a0_2, .int .u64 a0_3, .int .i64 a0_4, .int .i64 a0_5, .string a0_6, .int .u32 a0_7, .int .i64 a0_8] 29 (0, 0))) := ⟨h3_⟩
                  have n4_ : Aside0 (Below w.heap.size w w44) := ⟨h4_⟩
                  clear HO207
                  clear BK203
                  clear BK204
                  clear HB
                  clear h0_ h1_ h2_ h3_ h4_
                  have HO207 := n0_
                  have HO213 := n1_
                  have BK203 := n2_
                  have BK204 := n3_
                  have HB := n4_
                  clear n0_ n1_ n2_ n3_ n4_
                  have hHeld : w44.cell? ⟨gb204, 0, none⟩ = some (.int .i64 a0_1) ∧ w44.cell? ⟨gb204, 1, none⟩ = some (.int .u64 a0_2) ∧ w44.cell? ⟨gb204, 2, none⟩ = some (.int .u64 a0_3) ∧ w44.cell? ⟨gb204, 3, none⟩ = some (.int .i64 a0_4) ∧ w44.cell? ⟨gb204, 4, none⟩ = some (.int .i64 a0_5) ∧ w44.cell? ⟨gb204, 5, none⟩ = some (.string a0_6) ∧ w44.cell? ⟨gb204, 6, none⟩ = some (.int .u32 a0_7) ∧ w44.cell? ⟨gb204, 7, none⟩ = some (.int .i64 a0_8) := hS_
                  refine norm_ (a' := ?_) ?_ ?_
                  rotate_left
                  · simp only [putAll, Act.put, List.setIfInBounds_toArray, List.set_cons_zero, List.set_cons_succ]
                    rfl
                  refine pure_ (i := 15) (N := some 51) (v := ?_) (a' := ?_) #[true, true, true, true, true, true, true, true, true, true, true, true, true, true, true, true, true, false, false] rfl rfl (any_of HT_.out (by kernel_rfl)) (fun _ _ _ h => h) (Or.inl ⟨by rfl, ?_⟩) ?_ ?_
                  rotate_left
                  · intro w'
                    go_simp
                    with_reducible rfl
                  rotate_left
                  · simp only [Act.put, List.setIfInBounds_toArray, List.set_cons_zero, List.set_cons_succ, i64_w, i32_w]
                    rfl
                  refine pure_ (i := 17) (N := some 53) (v := ?_) (a' := ?_) #[true, true, true, true, true, true, true, true, true, true, true, true, true, true, true, true, true, true, false] rfl rfl (any_of HT_.out (by kernel_rfl)) (fun _ _ _ h => h) (Or.inl ⟨by rfl, ?_⟩) ?_ ?_
                  rotate_left
                  · intro w'
                    go_simp
                    with_reducible rfl
                  rotate_left
                  · simp only [Act.put, List.setIfInBounds_toArray, List.set_cons_zero, List.set_cons_succ, i64_w, i32_w]
                    rfl
                  refine pure_ (i := 18) (N := some 2) (v := ?_) (a' := ?_) #[true, true, true, true, true, true, true, true, true, true, true, true, true, true, true, true, true, true, true] rfl rfl (any_of HT_.out (by kernel_rfl)) (fun _ _ _ h => h) (Or.inl ⟨by rfl, ?_⟩) ?_ ?_
                  rotate_left
                  · intro w'
                    go_simp
                    with_reducible rfl
                  rotate_left
                  · simp only [Act.put, List.setIfInBounds_toArray, List.set_cons_zero, List.set_cons_succ, i64_w, i32_w]
                    rfl
                  refine done_ (done_of HT_.out (by kernel_rfl)) ?_
                  try go_wp2
                  go_ret
                  exact ⟨by rfl, by exact HB.out⟩
                · rw [if_neg c27] at H
                  exact absurd H (by simp)
              · rw [if_neg c26] at H
                exact absurd H (by simp)
            · rw [if_neg c24] at H
              exact absurd H (by simp)
          · rw [if_neg c22] at H
            exact absurd H (by simp)
      · rw [if_neg c11] at H
        exact absurd H (by simp)

-- (not needed: function 39 (strings_Builder_String))

/-! ### lease_Encode: function 20: by hand -/
def lease_Encode.l : List S31 → ByteArray → Option (ByteArray × Int)
  | [], acc => some (acc, 0)
  | x :: l, acc => (lease_Change.f 300 ((x).f0) ((x).f1.f0) ((x).f1.f1.f0.f0) ((x).f1.f1.f0.f1) ((x).f1.f1.f1) ((x).f1.f2) ((x).f1.f3) ((x).f1.f4) ((x).f1.f5)).bind fun ok => if ok = true then ((lease_bytes.f 300 ((x).f0) ((x).f1.f0) ((x).f1.f1.f0.f0) ((x).f1.f1.f0.f1) ((x).f1.f1.f1) ((x).f1.f2) ((x).f1.f3) ((x).f1.f4) ((x).f1.f5)).bind fun b => if acc.size + b.size ≤ 140737488355328 then lease_Encode.l l (acc ++ b) else none) else some ((⟨#[]⟩ : ByteArray), 80)
def lease_Encode.f (l0 : List S31) : Option (ByteArray × Int) := if (l0.length : Int) > 2048 then some ((⟨#[]⟩ : ByteArray), 6) else (octet_Put16.f 300 (IntKind.u16.wrap (l0.length : Int))).bind fun p => if p.size ≤ 140737488355328 then lease_Encode.l l0 p else none
set_option maxHeartbeats 4000000 in
set_option maxRecDepth 100000 in
theorem lease_Encode.calls (A0 : Option Addr) (c0 : Nat) (l0 : List S31) (r1 : ByteArray) (r2 : Int) (w : World) (hr0 : Kd.C k31 w A0 l0.length l0) (hc0 : l0.length ≤ c0) (h : lease_Encode.f l0 = some (r1, r2)) :
    Calls Try.prog 20 #[.slice A0 l0.length c0] w fun e w' => e = .returned (.tuple #[.string r1, .int .i64 r2]) ∧ Below w.heap.size w w' := by
  unfold lease_Encode.f at h
  have hmax : l0.length ≤ 9223372036854775807 := Kd.C_max hr0
  by_cases c : (l0.length : Int) > 2048
  · rw [if_pos c] at h
    simp only [Option.some.injEq, Prod.mk.injEq] at h
    obtain ⟨rfl, rfl⟩ := h
    have cb : decide ((2048 : Int) < (l0.length : Int)) = true := decide_eq_true c
    clear hr0 hc0
    go_enter Try.func20, Try.ntmps20
    go_wp2
    go_ret2
    exact ⟨rfl, Below.refl _ _⟩
  rw [if_neg c] at h
  obtain ⟨p, hp, h⟩ := Option.bind_eq_some_iff.1 h
  by_cases c2 : p.size ≤ 140737488355328
  · rw [if_pos c2] at h
    have hlen : l0.length ≤ 2048 := by omega
    have hwr : IntKind.u16.wrap (l0.length : Int) = (l0.length : Int) := by simp [IntKind.wrap, IntKind.bits, IntKind.signed]; omega
    rw [hwr] at hp
    clear hwr
    have HP := Lib.hid hp
    have H := Lib.hid h
    have HR := Aside0.mk hr0
    have HLen := Aside0.mk hlen
    have C2 := Aside0.mk c2
    have hpc := fun W => octet_Put16.calls 300 _ p W hp
    have hu := Try.underlying31
    clear hp h hr0 hc0 c2 hlen
    go_enter Try.func20, Try.ntmps20
    go_wp2_with (first
      | (go_at_call 37; refine (hpc _).mono ?_; rintro e w1 ⟨rfl, hb1⟩; have IS1 := Aside0.mk ((Bld.Is.new 62 5 w).below hb1); have HB1 := Aside0.mk (((Below.refl w.heap.size w).alloc (Nat.le_refl _) _).trans (hb1.mono (by simp))); clear hb1)
      | (go_at_call 36; refine (bld_write w.heap.size w.heap.size ⟨#[]⟩ p _ IS1.out (by have := C2.out; rw [show (⟨#[]⟩ : ByteArray).size = 0 from rfl]; omega) HB1.out.size).mono ?_; rintro e w2 ⟨rfl, is2, hb2⟩; have IS2 := Aside0.mk is2; have HB2 := Aside0.mk (HB1.out.trans hb2); clear is2 hb2))
    clear hpc
    go_loopg [6, 17] l0.length (fun gg _ s17 wr => ∃ (kk : Nat) (acc : ByteArray), Aside0 (kk ≤ l0.length ∧ l0.length - kk ≤ gg) ∧ s17 = .int .i64 kk ∧ Aside0 (lease_Encode.l (l0.drop kk) acc = some (r1, r2)) ∧ Aside0 (Bld.Is 62 5 w.heap.size w.heap.size acc wr) ∧ Aside0 (Below w.heap.size w wr))
    case atStart => exact ⟨0, p, ⟨Nat.zero_le _, by omega⟩, rfl, ⟨H.out⟩, ⟨by have := IS2.out; rwa [show (⟨#[]⟩ : ByteArray) ++ p = p from ByteArray.empty_append] at this⟩, HB2⟩
    case round =>
      clear H HP IS1 IS2 HB1 HB2
      obtain ⟨kk, acc, HK, rfl, H, IS, HB⟩ := hrel
      by_cases hlt : kk < l0.length
      · have hltz : (kk : Int) < (l0.length : Int) := by omega
        obtain ⟨ad, rfl, hc0, hc1, hc2, hc3, hc4, hc5, hc6, hc7, hc8⟩ := at_T31 (Kd.C_below HR.out HB.out) (kk : Int) (by omega) hltz
        simp only [Int.toNat_natCast] at hc0 hc1 hc2 hc3 hc4 hc5 hc6 hc7 hc8
        have hd : l0.drop kk = (rd_T31 l0 (kk : Int)) :: l0.drop (kk + 1) := by
          rw [List.drop_eq_getElem_cons hlt]
          simp [rd_T31, List.getD_eq_getElem?_getD, List.getElem?_eq_getElem hlt]
        have h := H.out
        rw [hd, lease_Encode.l] at h
        obtain ⟨ok, hok, h⟩ := Option.bind_eq_some_iff.1 h
        clear hd H
        have hchg := fun W => lease_Change.calls 300 ((rd_T31 l0 (kk : Int)).f0) ((rd_T31 l0 (kk : Int)).f1.f0) ((rd_T31 l0 (kk : Int)).f1.f1.f0.f0) ((rd_T31 l0 (kk : Int)).f1.f1.f0.f1) ((rd_T31 l0 (kk : Int)).f1.f1.f1) ((rd_T31 l0 (kk : Int)).f1.f2) ((rd_T31 l0 (kk : Int)).f1.f3) ((rd_T31 l0 (kk : Int)).f1.f4) ((rd_T31 l0 (kk : Int)).f1.f5) ok W hok
        cases ok with
        | false =>
          rw [if_neg (by decide)] at h
          simp only [Option.some.injEq, Prod.mk.injEq] at h
          obtain ⟨rfl, rfl⟩ := h
          clear hok
          go_wp2_with (first
            | ((with_reducible refine gate_dst (N := 6) rfl ?_); refine box_event ?hg (N := 6) ?hd (cs := #[.bool false, .int .i64 0, .int .u64 0, .int .u64 0, .int .i64 0, .int .i64 0, .string (⟨#[]⟩ : ByteArray), .int .u32 0, .int .i64 0]) (t := 31) ?hr ?_; (case hd => rfl); (case hg => rfl); (case hr => go_simp; done); intro gb hgb w8 hbox hb8; have BKza := Aside0.mk hbox; have HB8a := Aside0.mk hb8; have GEa := Aside0.mk hgb; clear hgb hbox hb8; obtain ⟨hcza_0, hcza_1, hcza_2, hcza_3, hcza_4, hcza_5, hcza_6, hcza_7, hcza_8⟩ := XRun.bc9 BKza.out; obtain ⟨hfza_0, hfza_1, hfza_2, hfza_3, hfza_4, hfza_5, hfza_6, hfza_7, hfza_8⟩ := XRun.bf9 BKza.out; have HBWa := Aside0.mk (show Below wr.heap.size wr (((((((((w8.setCell ⟨gb, 0, none⟩ (.bool (rd_T31 l0 (kk : Int)).f0)).setCell ⟨gb, 1, none⟩ (.int .i64 (rd_T31 l0 (kk : Int)).f1.f0)).setCell ⟨gb, 2, none⟩ (.int .u64 (rd_T31 l0 (kk : Int)).f1.f1.f0.f0)).setCell ⟨gb, 3, none⟩ (.int .u64 (rd_T31 l0 (kk : Int)).f1.f1.f0.f1)).setCell ⟨gb, 4, none⟩ (.int .i64 (rd_T31 l0 (kk : Int)).f1.f1.f1)).setCell ⟨gb, 5, none⟩ (.int .i64 (rd_T31 l0 (kk : Int)).f1.f2)).setCell ⟨gb, 6, none⟩ (.string (rd_T31 l0 (kk : Int)).f1.f3)).setCell ⟨gb, 7, none⟩ (.int .u32 (rd_T31 l0 (kk : Int)).f1.f4)).setCell ⟨gb, 8, none⟩ (.int .i64 (rd_T31 l0 (kk : Int)).f1.f5)) from (below_set (below_set (below_set (below_set (below_set (below_set (below_set (below_set (below_set HB8a.out (Nat.le_of_eq GEa.out.symm)) (Nat.le_of_eq GEa.out.symm)) (Nat.le_of_eq GEa.out.symm)) (Nat.le_of_eq GEa.out.symm)) (Nat.le_of_eq GEa.out.symm)) (Nat.le_of_eq GEa.out.symm)) (Nat.le_of_eq GEa.out.symm)) (Nat.le_of_eq GEa.out.symm)) (Nat.le_of_eq GEa.out.symm))); have BKa := Aside0.mk (show (((((((((w8.setCell ⟨gb, 0, none⟩ (.bool (rd_T31 l0 (kk : Int)).f0)).setCell ⟨gb, 1, none⟩ (.int .i64 (rd_T31 l0 (kk : Int)).f1.f0)).setCell ⟨gb, 2, none⟩ (.int .u64 (rd_T31 l0 (kk : Int)).f1.f1.f0.f0)).setCell ⟨gb, 3, none⟩ (.int .u64 (rd_T31 l0 (kk : Int)).f1.f1.f0.f1)).setCell ⟨gb, 4, none⟩ (.int .i64 (rd_T31 l0 (kk : Int)).f1.f1.f1)).setCell ⟨gb, 5, none⟩ (.int .i64 (rd_T31 l0 (kk : Int)).f1.f2)).setCell ⟨gb, 6, none⟩ (.string (rd_T31 l0 (kk : Int)).f1.f3)).setCell ⟨gb, 7, none⟩ (.int .u32 (rd_T31 l0 (kk : Int)).f1.f4)).setCell ⟨gb, 8, none⟩ (.int .i64 (rd_T31 l0 (kk : Int)).f1.f5)).heap[gb]? = some (.cells #[.bool (rd_T31 l0 (kk : Int)).f0, .int .i64 (rd_T31 l0 (kk : Int)).f1.f0, .int .u64 (rd_T31 l0 (kk : Int)).f1.f1.f0.f0, .int .u64 (rd_T31 l0 (kk : Int)).f1.f1.f0.f1, .int .i64 (rd_T31 l0 (kk : Int)).f1.f1.f1, .int .i64 (rd_T31 l0 (kk : Int)).f1.f2, .string (rd_T31 l0 (kk : Int)).f1.f3, .int .u32 (rd_T31 l0 (kk : Int)).f1.f4, .int .i64 (rd_T31 l0 (kk : Int)).f1.f5] 31 (0, 0)) from (blk_put (cs := #[.bool (rd_T31 l0 (kk : Int)).f0, .int .i64 (rd_T31 l0 (kk : Int)).f1.f0, .int .u64 (rd_T31 l0 (kk : Int)).f1.f1.f0.f0, .int .u64 (rd_T31 l0 (kk : Int)).f1.f1.f0.f1, .int .i64 (rd_T31 l0 (kk : Int)).f1.f1.f1, .int .i64 (rd_T31 l0 (kk : Int)).f1.f2, .string (rd_T31 l0 (kk : Int)).f1.f3, .int .u32 (rd_T31 l0 (kk : Int)).f1.f4, .int .i64 0]) (blk_put (cs := #[.bool (rd_T31 l0 (kk : Int)).f0, .int .i64 (rd_T31 l0 (kk : Int)).f1.f0, .int .u64 (rd_T31 l0 (kk : Int)).f1.f1.f0.f0, .int .u64 (rd_T31 l0 (kk : Int)).f1.f1.f0.f1, .int .i64 (rd_T31 l0 (kk : Int)).f1.f1.f1, .int .i64 (rd_T31 l0 (kk : Int)).f1.f2, .string (rd_T31 l0 (kk : Int)).f1.f3, .int .u32 0, .int .i64 0]) (blk_put (cs := #[.bool (rd_T31 l0 (kk : Int)).f0, .int .i64 (rd_T31 l0 (kk : Int)).f1.f0, .int .u64 (rd_T31 l0 (kk : Int)).f1.f1.f0.f0, .int .u64 (rd_T31 l0 (kk : Int)).f1.f1.f0.f1, .int .i64 (rd_T31 l0 (kk : Int)).f1.f1.f1, .int .i64 (rd_T31 l0 (kk : Int)).f1.f2, .string (⟨#[]⟩ : ByteArray), .int .u32 0, .int .i64 0]) (blk_put (cs := #[.bool (rd_T31 l0 (kk : Int)).f0, .int .i64 (rd_T31 l0 (kk : Int)).f1.f0, .int .u64 (rd_T31 l0 (kk : Int)).f1.f1.f0.f0, .int .u64 (rd_T31 l0 (kk : Int)).f1.f1.f0.f1, .int .i64 (rd_T31 l0 (kk : Int)).f1.f1.f1, .int .i64 0, .string (⟨#[]⟩ : ByteArray), .int .u32 0, .int .i64 0]) (blk_put (cs := #[.bool (rd_T31 l0 (kk : Int)).f0, .int .i64 (rd_T31 l0 (kk : Int)).f1.f0, .int .u64 (rd_T31 l0 (kk : Int)).f1.f1.f0.f0, .int .u64 (rd_T31 l0 (kk : Int)).f1.f1.f0.f1, .int .i64 0, .int .i64 0, .string (⟨#[]⟩ : ByteArray), .int .u32 0, .int .i64 0]) (blk_put (cs := #[.bool (rd_T31 l0 (kk : Int)).f0, .int .i64 (rd_T31 l0 (kk : Int)).f1.f0, .int .u64 (rd_T31 l0 (kk : Int)).f1.f1.f0.f0, .int .u64 0, .int .i64 0, .int .i64 0, .string (⟨#[]⟩ : ByteArray), .int .u32 0, .int .i64 0]) (blk_put (cs := #[.bool (rd_T31 l0 (kk : Int)).f0, .int .i64 (rd_T31 l0 (kk : Int)).f1.f0, .int .u64 0, .int .u64 0, .int .i64 0, .int .i64 0, .string (⟨#[]⟩ : ByteArray), .int .u32 0, .int .i64 0]) (blk_put (cs := #[.bool (rd_T31 l0 (kk : Int)).f0, .int .i64 0, .int .u64 0, .int .u64 0, .int .i64 0, .int .i64 0, .string (⟨#[]⟩ : ByteArray), .int .u32 0, .int .i64 0]) (blk_put (cs := #[.bool false, .int .i64 0, .int .u64 0, .int .u64 0, .int .i64 0, .int .i64 0, .string (⟨#[]⟩ : ByteArray), .int .u32 0, .int .i64 0]) BKza.out 0 _ rfl) 1 _ rfl) 2 _ rfl) 3 _ rfl) 4 _ rfl) 5 _ rfl) 6 _ rfl) 7 _ rfl) 8 _ rfl)))
            | (go_at_call 14; refine (hchg _).mono ?_; rintro e w9 ⟨rfl, hb9⟩; have HB9 := Aside0.mk (HB.out.trans ((below_step HBWa.out hb9).mono HB.out.size)); clear hb9))
          go_ret2
          exact ⟨rfl, HB9.out⟩
        | true =>
          rw [if_pos rfl] at h
          obtain ⟨b, hb, h⟩ := Option.bind_eq_some_iff.1 h
          by_cases c3 : acc.size + b.size ≤ 140737488355328
          · rw [if_pos c3] at h
            have H := Aside0.mk h
            have C3 := Aside0.mk c3
            have hbyt := fun W => lease_bytes.calls 300 ((rd_T31 l0 (kk : Int)).f0) ((rd_T31 l0 (kk : Int)).f1.f0) ((rd_T31 l0 (kk : Int)).f1.f1.f0.f0) ((rd_T31 l0 (kk : Int)).f1.f1.f0.f1) ((rd_T31 l0 (kk : Int)).f1.f1.f1) ((rd_T31 l0 (kk : Int)).f1.f2) ((rd_T31 l0 (kk : Int)).f1.f3) ((rd_T31 l0 (kk : Int)).f1.f4) ((rd_T31 l0 (kk : Int)).f1.f5) b W hb
            have HLT := Aside0.mk hlt
            clear hok hb h c3 hlt
            go_wp2_with (first
              | ((with_reducible refine gate_dst (N := 6) rfl ?_); refine box_event ?hg (N := 6) ?hd (cs := #[.bool false, .int .i64 0, .int .u64 0, .int .u64 0, .int .i64 0, .int .i64 0, .string (⟨#[]⟩ : ByteArray), .int .u32 0, .int .i64 0]) (t := 31) ?hr ?_; (case hd => rfl); (case hg => rfl); (case hr => go_simp; done); intro gb hgb w8 hbox hb8; have BKza := Aside0.mk hbox; have HB8a := Aside0.mk hb8; have GEa := Aside0.mk hgb; clear hgb hbox hb8; obtain ⟨hcza_0, hcza_1, hcza_2, hcza_3, hcza_4, hcza_5, hcza_6, hcza_7, hcza_8⟩ := XRun.bc9 BKza.out; obtain ⟨hfza_0, hfza_1, hfza_2, hfza_3, hfza_4, hfza_5, hfza_6, hfza_7, hfza_8⟩ := XRun.bf9 BKza.out; have HBWa := Aside0.mk (show Below wr.heap.size wr (((((((((w8.setCell ⟨gb, 0, none⟩ (.bool (rd_T31 l0 (kk : Int)).f0)).setCell ⟨gb, 1, none⟩ (.int .i64 (rd_T31 l0 (kk : Int)).f1.f0)).setCell ⟨gb, 2, none⟩ (.int .u64 (rd_T31 l0 (kk : Int)).f1.f1.f0.f0)).setCell ⟨gb, 3, none⟩ (.int .u64 (rd_T31 l0 (kk : Int)).f1.f1.f0.f1)).setCell ⟨gb, 4, none⟩ (.int .i64 (rd_T31 l0 (kk : Int)).f1.f1.f1)).setCell ⟨gb, 5, none⟩ (.int .i64 (rd_T31 l0 (kk : Int)).f1.f2)).setCell ⟨gb, 6, none⟩ (.string (rd_T31 l0 (kk : Int)).f1.f3)).setCell ⟨gb, 7, none⟩ (.int .u32 (rd_T31 l0 (kk : Int)).f1.f4)).setCell ⟨gb, 8, none⟩ (.int .i64 (rd_T31 l0 (kk : Int)).f1.f5)) from (below_set (below_set (below_set (below_set (below_set (below_set (below_set (below_set (below_set HB8a.out (Nat.le_of_eq GEa.out.symm)) (Nat.le_of_eq GEa.out.symm)) (Nat.le_of_eq GEa.out.symm)) (Nat.le_of_eq GEa.out.symm)) (Nat.le_of_eq GEa.out.symm)) (Nat.le_of_eq GEa.out.symm)) (Nat.le_of_eq GEa.out.symm)) (Nat.le_of_eq GEa.out.symm)) (Nat.le_of_eq GEa.out.symm))); have BKa := Aside0.mk (show (((((((((w8.setCell ⟨gb, 0, none⟩ (.bool (rd_T31 l0 (kk : Int)).f0)).setCell ⟨gb, 1, none⟩ (.int .i64 (rd_T31 l0 (kk : Int)).f1.f0)).setCell ⟨gb, 2, none⟩ (.int .u64 (rd_T31 l0 (kk : Int)).f1.f1.f0.f0)).setCell ⟨gb, 3, none⟩ (.int .u64 (rd_T31 l0 (kk : Int)).f1.f1.f0.f1)).setCell ⟨gb, 4, none⟩ (.int .i64 (rd_T31 l0 (kk : Int)).f1.f1.f1)).setCell ⟨gb, 5, none⟩ (.int .i64 (rd_T31 l0 (kk : Int)).f1.f2)).setCell ⟨gb, 6, none⟩ (.string (rd_T31 l0 (kk : Int)).f1.f3)).setCell ⟨gb, 7, none⟩ (.int .u32 (rd_T31 l0 (kk : Int)).f1.f4)).setCell ⟨gb, 8, none⟩ (.int .i64 (rd_T31 l0 (kk : Int)).f1.f5)).heap[gb]? = some (.cells #[.bool (rd_T31 l0 (kk : Int)).f0, .int .i64 (rd_T31 l0 (kk : Int)).f1.f0, .int .u64 (rd_T31 l0 (kk : Int)).f1.f1.f0.f0, .int .u64 (rd_T31 l0 (kk : Int)).f1.f1.f0.f1, .int .i64 (rd_T31 l0 (kk : Int)).f1.f1.f1, .int .i64 (rd_T31 l0 (kk : Int)).f1.f2, .string (rd_T31 l0 (kk : Int)).f1.f3, .int .u32 (rd_T31 l0 (kk : Int)).f1.f4, .int .i64 (rd_T31 l0 (kk : Int)).f1.f5] 31 (0, 0)) from (blk_put (cs := #[.bool (rd_T31 l0 (kk : Int)).f0, .int .i64 (rd_T31 l0 (kk : Int)).f1.f0, .int .u64 (rd_T31 l0 (kk : Int)).f1.f1.f0.f0, .int .u64 (rd_T31 l0 (kk : Int)).f1.f1.f0.f1, .int .i64 (rd_T31 l0 (kk : Int)).f1.f1.f1, .int .i64 (rd_T31 l0 (kk : Int)).f1.f2, .string (rd_T31 l0 (kk : Int)).f1.f3, .int .u32 (rd_T31 l0 (kk : Int)).f1.f4, .int .i64 0]) (blk_put (cs := #[.bool (rd_T31 l0 (kk : Int)).f0, .int .i64 (rd_T31 l0 (kk : Int)).f1.f0, .int .u64 (rd_T31 l0 (kk : Int)).f1.f1.f0.f0, .int .u64 (rd_T31 l0 (kk : Int)).f1.f1.f0.f1, .int .i64 (rd_T31 l0 (kk : Int)).f1.f1.f1, .int .i64 (rd_T31 l0 (kk : Int)).f1.f2, .string (rd_T31 l0 (kk : Int)).f1.f3, .int .u32 0, .int .i64 0]) (blk_put (cs := #[.bool (rd_T31 l0 (kk : Int)).f0, .int .i64 (rd_T31 l0 (kk : Int)).f1.f0, .int .u64 (rd_T31 l0 (kk : Int)).f1.f1.f0.f0, .int .u64 (rd_T31 l0 (kk : Int)).f1.f1.f0.f1, .int .i64 (rd_T31 l0 (kk : Int)).f1.f1.f1, .int .i64 (rd_T31 l0 (kk : Int)).f1.f2, .string (⟨#[]⟩ : ByteArray), .int .u32 0, .int .i64 0]) (blk_put (cs := #[.bool (rd_T31 l0 (kk : Int)).f0, .int .i64 (rd_T31 l0 (kk : Int)).f1.f0, .int .u64 (rd_T31 l0 (kk : Int)).f1.f1.f0.f0, .int .u64 (rd_T31 l0 (kk : Int)).f1.f1.f0.f1, .int .i64 (rd_T31 l0 (kk : Int)).f1.f1.f1, .int .i64 0, .string (⟨#[]⟩ : ByteArray), .int .u32 0, .int .i64 0]) (blk_put (cs := #[.bool (rd_T31 l0 (kk : Int)).f0, .int .i64 (rd_T31 l0 (kk : Int)).f1.f0, .int .u64 (rd_T31 l0 (kk : Int)).f1.f1.f0.f0, .int .u64 (rd_T31 l0 (kk : Int)).f1.f1.f0.f1, .int .i64 0, .int .i64 0, .string (⟨#[]⟩ : ByteArray), .int .u32 0, .int .i64 0]) (blk_put (cs := #[.bool (rd_T31 l0 (kk : Int)).f0, .int .i64 (rd_T31 l0 (kk : Int)).f1.f0, .int .u64 (rd_T31 l0 (kk : Int)).f1.f1.f0.f0, .int .u64 0, .int .i64 0, .int .i64 0, .string (⟨#[]⟩ : ByteArray), .int .u32 0, .int .i64 0]) (blk_put (cs := #[.bool (rd_T31 l0 (kk : Int)).f0, .int .i64 (rd_T31 l0 (kk : Int)).f1.f0, .int .u64 0, .int .u64 0, .int .i64 0, .int .i64 0, .string (⟨#[]⟩ : ByteArray), .int .u32 0, .int .i64 0]) (blk_put (cs := #[.bool (rd_T31 l0 (kk : Int)).f0, .int .i64 0, .int .u64 0, .int .u64 0, .int .i64 0, .int .i64 0, .string (⟨#[]⟩ : ByteArray), .int .u32 0, .int .i64 0]) (blk_put (cs := #[.bool false, .int .i64 0, .int .u64 0, .int .u64 0, .int .i64 0, .int .i64 0, .string (⟨#[]⟩ : ByteArray), .int .u32 0, .int .i64 0]) BKza.out 0 _ rfl) 1 _ rfl) 2 _ rfl) 3 _ rfl) 4 _ rfl) 5 _ rfl) 6 _ rfl) 7 _ rfl) 8 _ rfl)))
              | (go_at_call 14; refine (hchg _).mono ?_; rintro e w9 ⟨rfl, hb9⟩; have BKb := Aside0.mk ((hb9.block gb (blk_lt BKa.out)).trans BKa.out); have hcyb_0 : w9.cell? ⟨gb, 0, none⟩ = some (.bool (rd_T31 l0 (kk : Int)).f0) := (blk_cell BKb.out 0).trans rfl; have hcyb_1 : w9.cell? ⟨gb, 1, none⟩ = some (.int .i64 (rd_T31 l0 (kk : Int)).f1.f0) := (blk_cell BKb.out 1).trans rfl; have hcyb_2 : w9.cell? ⟨gb, 2, none⟩ = some (.int .u64 (rd_T31 l0 (kk : Int)).f1.f1.f0.f0) := (blk_cell BKb.out 2).trans rfl; have hcyb_3 : w9.cell? ⟨gb, 3, none⟩ = some (.int .u64 (rd_T31 l0 (kk : Int)).f1.f1.f0.f1) := (blk_cell BKb.out 3).trans rfl; have hcyb_4 : w9.cell? ⟨gb, 4, none⟩ = some (.int .i64 (rd_T31 l0 (kk : Int)).f1.f1.f1) := (blk_cell BKb.out 4).trans rfl; have hcyb_5 : w9.cell? ⟨gb, 5, none⟩ = some (.int .i64 (rd_T31 l0 (kk : Int)).f1.f2) := (blk_cell BKb.out 5).trans rfl; have hcyb_6 : w9.cell? ⟨gb, 6, none⟩ = some (.string (rd_T31 l0 (kk : Int)).f1.f3) := (blk_cell BKb.out 6).trans rfl; have hcyb_7 : w9.cell? ⟨gb, 7, none⟩ = some (.int .u32 (rd_T31 l0 (kk : Int)).f1.f4) := (blk_cell BKb.out 7).trans rfl; have hcyb_8 : w9.cell? ⟨gb, 8, none⟩ = some (.int .i64 (rd_T31 l0 (kk : Int)).f1.f5) := (blk_cell BKb.out 8).trans rfl; have HB9 := Aside0.mk (below_step HBWa.out hb9); clear hb9)
              | (go_at_call 38; refine (hbyt _).mono ?_; rintro e w10 ⟨rfl, hb10⟩; have HB10 := Aside0.mk (below_step HB9.out hb10); have IS10 := Aside0.mk (IS.out.below HB10.out); have HBX := Aside0.mk (HB.out.trans (HB10.out.mono HB.out.size)); clear hb10)
              | (go_at_call 36; refine (bld_write w.heap.size w.heap.size acc b _ IS10.out C3.out HBX.out.size).mono ?_; rintro e w11 ⟨rfl, is11, hb11⟩; have IS11 := Aside0.mk is11; have HB11 := Aside0.mk (HBX.out.trans hb11); clear is11 hb11))
            go_roundg (l0.length - (kk + 1))
            case measure => have := HK.out; have := HLT.out; omega
            case rel => exact ⟨kk + 1, acc ++ b, ⟨by have := HLT.out; omega, Nat.le_refl _⟩, by rfl, H, IS11, HB11⟩
          · rw [if_neg c3] at h; cases h
      · have hltz : ¬ (kk : Int) < (l0.length : Int) := by omega
        obtain rfl : kk = l0.length := by have := HK.out; omega
        have h := H.out
        rw [List.drop_length, lease_Encode.l] at h
        simp only [Option.some.injEq, Prod.mk.injEq] at h
        obtain ⟨rfl, rfl⟩ := h
        have hstr := bld_string w.heap.size w.heap.size acc wr IS.out HB.out.size
        clear H
        go_wp2_with (go_at_call 39; refine hstr.mono ?_; rintro e w2 ⟨rfl, hb2⟩; have HB2 := Aside0.mk (HB.out.trans hb2); clear hb2)
        go_ret2
        exact ⟨rfl, HB2.out⟩
  · rw [if_neg c2] at h; cases h

/-! ### octet_Cut: function 88 -/
def octet_Cut.f (a0 : ByteArray) (a1 : Int) (a2 : Int) : Option (ByteArray × Bool) := if (mn a1 a2) < 0 then (some ((⟨#[]⟩ : ByteArray), false)) else (if a1 > (a0.size : Int) then (some ((⟨#[]⟩ : ByteArray), false)) else (if a2 > (wrap64 ((a0.size : Int) - a1)) then (some ((⟨#[]⟩ : ByteArray), false)) else (if 0 ≤ a1 then (if a1 ≤ (a0.size : Int) then (if 0 ≤ a2 then (if a2 ≤ ((a0.extract (a1 : Int).toNat a0.size).size : Int) then (some ((a0.extract (a1 : Int).toNat a0.size).extract 0 (a2 : Int).toNat, true)) else (none)) else (none)) else (none)) else (none))))
set_option maxHeartbeats 8000000 in
set_option maxRecDepth 100000 in
theorem octet_Cut.calls (a0 : ByteArray) (a1 : Int) (a2 : Int) (r1 : ByteArray) (r2 : Bool) (w : World) (h : octet_Cut.f a0 a1 a2 = some (r1, r2)) :
    Calls Try.prog 88 #[.string a0, .int .i64 a1, .int .i64 a2] w fun e w' => e = .returned (.tuple #[.string r1, .bool r2]) ∧ Below w.heap.size w w' := by
  have HB := Aside0.mk (Below.refl w.heap.size w)
  have H : (if (mn a1 a2) < 0 then (some ((⟨#[]⟩ : ByteArray), false)) else (if a1 > (a0.size : Int) then (some ((⟨#[]⟩ : ByteArray), false)) else (if a2 > (wrap64 ((a0.size : Int) - a1)) then (some ((⟨#[]⟩ : ByteArray), false)) else (if 0 ≤ a1 then (if a1 ≤ (a0.size : Int) then (if 0 ≤ a2 then (if a2 ≤ ((a0.extract (a1 : Int).toNat a0.size).size : Int) then (some ((a0.extract (a1 : Int).toNat a0.size).extract 0 (a2 : Int).toNat, true)) else (none)) else (none)) else (none)) else (none))))) = some (r1, r2) := h
  clear h
  obtain ⟨ji4, hji4⟩ : ∃ j_ : Int, (mn a1 a2) = j_ := ⟨_, rfl⟩
  replace H : (if (ji4) < 0 then (some ((⟨#[]⟩ : ByteArray), false)) else (if a1 > (a0.size : Int) then (some ((⟨#[]⟩ : ByteArray), false)) else (if a2 > (wrap64 ((a0.size : Int) - a1)) then (some ((⟨#[]⟩ : ByteArray), false)) else (if 0 ≤ a1 then (if a1 ≤ (a0.size : Int) then (if 0 ≤ a2 then (if a2 ≤ ((a0.extract (a1 : Int).toNat a0.size).size : Int) then (some ((a0.extract (a1 : Int).toNat a0.size).extract 0 (a2 : Int).toNat, true)) else (none)) else (none)) else (none)) else (none))))) = some (r1, r2) := by first | (rw [hji4] at H; exact H)
  have hji4_ : (if a2 < a1 then a2 else a1) = ji4 := hji4
  by_cases c5 : (ji4) < 0
  · rw [if_pos c5] at H
    have c5b0 : decide ((ji4) < 0) = true := decide_eq_true c5
    clear c5
    simp only [Option.some.injEq, Prod.mk.injEq] at H
    obtain ⟨rfl, rfl⟩ := H
    go_enter Try.func88, Try.ntmps88
    go_wp2
    go_ret2
    exact ⟨by rfl, by exact HB.out⟩
  · rw [if_neg c5] at H
    have c5b0 : decide ((ji4) < 0) = false := decide_eq_false c5
    clear c5
    by_cases c6 : a1 > (a0.size : Int)
    · rw [if_pos c6] at H
      have c6b0 : decide ((a0.size : Int) < a1) = true := decide_eq_true c6
      clear c6
      simp only [Option.some.injEq, Prod.mk.injEq] at H
      obtain ⟨rfl, rfl⟩ := H
      go_enter Try.func88, Try.ntmps88
      go_wp2
      go_ret2
      exact ⟨by rfl, by exact HB.out⟩
    · rw [if_neg c6] at H
      have c6b0 : decide ((a0.size : Int) < a1) = false := decide_eq_false c6
      clear c6
      by_cases c7 : a2 > (wrap64 ((a0.size : Int) - a1))
      · rw [if_pos c7] at H
        have c7b0 : decide ((wrap64 ((a0.size : Int) - a1)) < a2) = true := decide_eq_true c7
        clear c7
        simp only [Option.some.injEq, Prod.mk.injEq] at H
        obtain ⟨rfl, rfl⟩ := H
        go_enter Try.func88, Try.ntmps88
        go_wp2
        go_ret2
        exact ⟨by rfl, by exact HB.out⟩
      · rw [if_neg c7] at H
        have c7b0 : decide ((wrap64 ((a0.size : Int) - a1)) < a2) = false := decide_eq_false c7
        clear c7
        by_cases c8 : 0 ≤ a1
        · rw [if_pos c8] at H
          have c8b0 := eq_true c8
          have c8b1 : decide (0 ≤ a1) = true := decide_eq_true c8
          clear c8
          by_cases c9 : a1 ≤ (a0.size : Int)
          · rw [if_pos c9] at H
            have c9b0 := eq_true c9
            have c9b1 : decide (a1 ≤ (a0.size : Int)) = true := decide_eq_true c9
            clear c9
            by_cases c10 : 0 ≤ a2
            · rw [if_pos c10] at H
              have c10b0 := eq_true c10
              have c10b1 : decide (0 ≤ a2) = true := decide_eq_true c10
              clear c10
              by_cases c11 : a2 ≤ ((a0.extract (a1 : Int).toNat a0.size).size : Int)
              · rw [if_pos c11] at H
                have c11b0 := eq_true c11
                have c11b1 : decide (a2 ≤ ((a0.extract (a1 : Int).toNat a0.size).size : Int)) = true := decide_eq_true c11
                (try (have c11bs := c11; simp at c11bs))
                (try (have c11bm := c11; simp only [ByteArray.size_extract] at c11bm; rw [Nat.min_eq_left (by omega)] at c11bm))
                clear c11
                simp only [Option.some.injEq, Prod.mk.injEq] at H
                obtain ⟨rfl, rfl⟩ := H
                go_enter Try.func88, Try.ntmps88
                go_wp2
                go_ret2
                exact ⟨by rfl, by exact HB.out⟩
              · rw [if_neg c11] at H
                exact absurd H (by simp)
            · rw [if_neg c10] at H
              exact absurd H (by simp)
          · rw [if_neg c9] at H
            exact absurd H (by simp)
        · rw [if_neg c8] at H
          exact absurd H (by simp)

/-! ### octet_get_uint16: function 66 -/
def octet_get_uint16.l0 : Nat → Bool → Int → List Int → Int → Int → Option (Int × Bool)
  | 0, _, _, _, _, _ => none
  | k + 1, x9, x10, x21, x22, x23 => if x23 < x22 then (if 0 ≤ x23 then (if x23 < (x21.length : Int) then (octet_get_uint16.l0 k x9 (Go.bits .or .u16 (IntKind.u16.wrap (x10 * 256)) (IntKind.u16.wrap (rd x21 x23))) x21 x22 (wrap64 (x23 + 1))) else (none)) else (none)) else (some (x10, x9))
def octet_get_uint16.f (k : Nat) (a0 : ByteArray) (a1 : Int) (a2 : Int) : Option (Int × Bool) := (octet_Cut.f a0 a1 a2).bind fun bt216 => ((conv9_60.f bt216.1).bind fun t218 => (octet_get_uint16.l0 k bt216.2 0 t218 (t218.length : Int) 0))
theorem octet_get_uint16.mono_l : ∀ k, (∀ y0 y1 y2 y3 y4, LeO (octet_get_uint16.l0 k y0 y1 y2 y3 y4) (octet_get_uint16.l0 (k + 1) y0 y1 y2 y3 y4))
  | 0 => fun _ _ _ _ _ r h => by simp [octet_get_uint16.l0] at h
  | k + 1 => by
    have ih0 := octet_get_uint16.mono_l k
    · intro y0 y1 y2 y3 y4
      unfold octet_get_uint16.l0
      repeat' first
      | (with_reducible exact ih0 _ _ _ _ _)
      | (with_reducible exact LeO.refl _)
      | (with_reducible exact LeO.none _)
      | (with_reducible refine LeO.ite ?_ ?_)
      | (with_reducible refine LeO.bind ?_ (fun _ => ?_))
      | exact ih0 _ _ _ _ _
      | exact LeO.none _
      | refine LeO.ite ?_ ?_
      | refine LeO.bind ?_ (fun _ => ?_)
theorem octet_get_uint16.mono : ∀ a0 a1 a2 k, LeO (octet_get_uint16.f k a0 a1 a2) (octet_get_uint16.f (k + 1) a0 a1 a2) := by
  intro a0 a1 a2 k
  have ih0 := octet_get_uint16.mono_l k
  unfold octet_get_uint16.f
  repeat' first
      | (with_reducible exact ih0 _ _ _ _ _)
      | (with_reducible exact LeO.refl _)
      | (with_reducible exact LeO.none _)
      | (with_reducible refine LeO.ite ?_ ?_)
      | (with_reducible refine LeO.bind ?_ (fun _ => ?_))
      | exact ih0 _ _ _ _ _
      | exact LeO.none _
      | refine LeO.ite ?_ ?_
      | refine LeO.bind ?_ (fun _ => ?_)
set_option maxHeartbeats 8000000 in
set_option maxRecDepth 100000 in
theorem octet_get_uint16.calls (k : Nat) (a0 : ByteArray) (a1 : Int) (a2 : Int) (r1 : Int) (r2 : Bool) (w : World) (h : octet_get_uint16.f k a0 a1 a2 = some (r1, r2)) :
    Calls Try.prog 66 #[.string a0, .int .i64 a1, .int .i64 a2] w fun e w' => e = .returned (.tuple #[.int .u16 r1, .bool r2]) ∧ Below w.heap.size w w' := by
  have HB := Aside0.mk (Below.refl w.heap.size w)
  have H : ((octet_Cut.f a0 a1 a2).bind fun bt216 => ((conv9_60.f bt216.1).bind fun t218 => (octet_get_uint16.l0 k bt216.2 0 t218 (t218.length : Int) 0))) = some (r1, r2) := h
  clear h
  replace H := Option.bind_eq_some_iff.mp H
  obtain ⟨⟨t216, t217⟩, A40, H⟩ := H
  replace H : ((conv9_60.f t216).bind fun t218 => (octet_get_uint16.l0 k t217 0 t218 (t218.length : Int) 0)) = some (r1, r2) := H
  have A4 := Aside0.mk A40
  clear A40
  replace H := Option.bind_eq_some_iff.mp H
  obtain ⟨t218, A50, H⟩ := H
  replace H : (octet_get_uint16.l0 k t217 0 t218 (t218.length : Int) 0) = some (r1, r2) := H
  have A5 := Aside0.mk A50
  clear A50
  have H' := Aside0.mk H
  clear H
  go_enter Try.func66, Try.ntmps66
  go_wp2_with (first | ((with_reducible refine gate_callee (f := 88) rfl ?_); refine goesL_ (some 17) rfl rfl Try.func88 (by kernel_rfl) rfl #[.string a0, .int .i64 a1, .int .i64 a2] rfl (by (try simp only [List.map_toArray, List.map_cons, List.map_nil]); first | rfl) ?_; (with_reducible refine (octet_Cut.calls a0 a1 a2 t216 t217 _ A4.out).mono ?_); rintro e w6 ⟨rfl, hb⟩; refine ⟨_, rfl, ?_⟩; have n0_ := Aside0.mk (below_step HB.out hb); clear HB; have HB := n0_; clear n0_; (try clear hb); (try clear hb2); (try clear hk); (try clear hi)) | ((with_reducible refine gate_dst (N := 21) rfl ?_); refine XRun.convL_ 21 rfl rfl 9 60 5 Try.underlying9 Try.underlying60 Try.underlying5 t216 rfl (by rfl) ?_; (with_reducible refine (conv9_60.calls t216 t218 _ A5.out).mono ?_); rintro e w7 ⟨v219, rfl, ho0, hb⟩; refine ⟨_, rfl, ?_⟩; have n0_ := Aside0.mk (Kd.V_lower (Kd.V_mono (ok' := fun k_ => True) ho0 (fun k_ hk_ => trivial)) (below_size HB.out)); have n1_ := Aside0.mk (below_step HB.out hb); clear HB; have HO220 := n0_; have HB := n1_; clear n0_ n1_; (try clear hb); (try clear hb2); (try clear hk); (try clear hi); (try clear ho0); obtain ⟨Ao8, co8, eo8⟩ := Kd.V_slice HO220.out; subst eo8))
  go_loopg [10, 23] k (fun kq v10 v23 w' => ∃ (x10_1 : Int) (x23_1 : Int), v10 = .int .u16 x10_1 ∧ v23 = .int .i64 x23_1 ∧ Aside0 (octet_get_uint16.l0 kq t217 x10_1 t218 (t218.length : Int) x23_1 = some (r1, r2)) ∧ Aside0 (kq ≤ k) ∧ Aside0 (Kd.V (Kd.int .u8) 5 w' w.heap.size (fun _ => True) (.slice Ao8 t218.length co8) t218) ∧ Aside0 (Below w.heap.size w w'))
  case atStart => exact ⟨(0), (0), (by rfl), (by rfl), H', ⟨Nat.le_refl _⟩, ⟨by exact HO220.out⟩, ⟨by exact HB.out⟩⟩
  case round =>
    clear H'
    try clear p2
    try clear c6
    try clear c8
    obtain ⟨x10_1, x23_1, rfl, rfl, HA, HK1, HO_21, HB⟩ := hrel
    cases gk with
    | zero => exact absurd HA.out (by simp [octet_get_uint16.l0])
    | succ k1 =>
      have H := HA.out
      clear HA
      simp only [octet_get_uint16.l0] at H
      by_cases c9 : x23_1 < (t218.length : Int)
      · rw [if_pos c9] at H
        have c9b0 : decide (x23_1 < (t218.length : Int)) = true := decide_eq_true c9
        clear c9
        by_cases c10 : 0 ≤ x23_1
        · rw [if_pos c10] at H
          have c10b0 : decide (0 ≤ x23_1) = true := decide_eq_true c10
          clear c10
          by_cases c11 : x23_1 < (t218.length : Int)
          · rw [if_pos c11] at H
            have c11b0 : decide (x23_1 < (t218.length : Int)) = true := decide_eq_true c11
            clear c11
            have H' := Aside0.mk H
            clear H
            have p221 : 0 ≤ (x23_1 : Int) := of_decide_eq_true (by first | (with_reducible assumption))
            have q221 : x23_1 < (t218.length : Int) := of_decide_eq_true (by first | (with_reducible assumption))
            obtain ⟨ad221, e221, hx221_0⟩ := Kd.at_int (Kd.V_reads' HO_21.out).2.2 x23_1 p221 q221
            cases e221
            replace p221 := eq_true p221
            replace q221 := eq_true q221
            go_wp2
            go_roundg k1
            case measure => have := HK1.out; omega
            case rel => exact ⟨(Go.bits .or .u16 (IntKind.u16.wrap (x10_1 * 256)) (IntKind.u16.wrap (rd t218 x23_1))), (wrap64 (x23_1 + 1)), (by rfl), (by rfl), H', ⟨by have := HK1.out; omega⟩, ⟨by exact HO_21.out⟩, ⟨by exact HB.out⟩⟩
          · rw [if_neg c11] at H
            exact absurd H (by simp)
        · rw [if_neg c10] at H
          exact absurd H (by simp)
      · rw [if_neg c9] at H
        have c9b0 : decide (x23_1 < (t218.length : Int)) = false := decide_eq_false c9
        clear c9
        simp only [Option.some.injEq, Prod.mk.injEq] at H
        obtain ⟨rfl, rfl⟩ := H
        go_wp2
        go_ret2
        exact ⟨by rfl, by exact HB.out⟩

/-! ### octet_Get16: function 45 -/
def octet_Get16.f (k : Nat) (a0 : ByteArray) (a1 : Int) : Option (Int × Bool) := (octet_get_uint16.f k a0 a1 2).bind fun bt222 => (some (bt222.1, bt222.2))
theorem octet_Get16.mono : ∀ a0 a1 k, LeO (octet_Get16.f k a0 a1) (octet_Get16.f (k + 1) a0 a1) := by
  intro a0 a1 k
  unfold octet_Get16.f
  repeat' first
      | (with_reducible exact octet_get_uint16.mono _ _ _ _)
      | (with_reducible exact LeO.refl _)
      | (with_reducible exact LeO.none _)
      | (with_reducible refine LeO.ite ?_ ?_)
      | (with_reducible refine LeO.bind ?_ (fun _ => ?_))
      | exact octet_get_uint16.mono _ _ _ _
      | exact LeO.none _
      | refine LeO.ite ?_ ?_
      | refine LeO.bind ?_ (fun _ => ?_)
set_option maxHeartbeats 8000000 in
set_option maxRecDepth 100000 in
theorem octet_Get16.calls (k : Nat) (a0 : ByteArray) (a1 : Int) (r1 : Int) (r2 : Bool) (w : World) (h : octet_Get16.f k a0 a1 = some (r1, r2)) :
    Calls Try.prog 45 #[.string a0, .int .i64 a1] w fun e w' => e = .returned (.tuple #[.int .u16 r1, .bool r2]) ∧ Below w.heap.size w w' := by
  have HB := Aside0.mk (Below.refl w.heap.size w)
  have H : ((octet_get_uint16.f k a0 a1 2).bind fun bt222 => (some (bt222.1, bt222.2))) = some (r1, r2) := h
  clear h
  replace H := Option.bind_eq_some_iff.mp H
  obtain ⟨⟨t222, t223⟩, A30, H⟩ := H
  replace H : (some (t222, t223)) = some (r1, r2) := H
  have A3 := Aside0.mk A30
  clear A30
  simp only [Option.some.injEq, Prod.mk.injEq] at H
  obtain ⟨rfl, rfl⟩ := H
  go_enter Try.func45, Try.ntmps45
  go_wp2_with (first | ((with_reducible refine gate_callee (f := 66) rfl ?_); refine goesL_ (some 8) rfl rfl Try.func66 (by kernel_rfl) rfl #[.string a0, .int .i64 a1, .int .i64 2] rfl (by (try simp only [List.map_toArray, List.map_cons, List.map_nil]); first | rfl) ?_; (with_reducible refine (octet_get_uint16.calls k a0 a1 2 t222 t223 _ A3.out).mono ?_); rintro e w4 ⟨rfl, hb⟩; refine ⟨_, rfl, ?_⟩; have n0_ := Aside0.mk (below_step HB.out hb); clear HB; have HB := n0_; clear n0_; (try clear hb); (try clear hb2); (try clear hk); (try clear hi)))
  go_ret2
  exact ⟨by rfl, by exact HB.out⟩

/-- A state of type 80 at block g of W; what its slices lead to came in by w0. -/
def IsS80 (w0 W : World) (g : Nat) (f0 : ByteArray) (f1 : Int) (f2 : Int) : Prop := W.heap[g]? = some (.cells #[.string f0, .int .i64 f1, .int .i64 f2] 80 (0, 0)) ∧ w0.heap.size ≤ g
theorem IsS80.grown {w0 W : World} {g : Nat} {f0 : ByteArray} {f1 : Int} {f2 : Int} {W1 : World} {row : Option Nat} (h : IsS80 w0 W g f0 f1 f2) (hw : W.grownBy W1 row) (hne : some g ≠ row) : IsS80 w0 W1 g f0 f1 f2 := by
  obtain ⟨hb, hg⟩ := h
  exact ⟨blk_grown hb hw hne, hg⟩
theorem IsS80.own_neN {w0 W : World} {g : Nat} {f0 : ByteArray} {f1 : Int} {f2 : Int} {α : Type} {d : Kd α} {e : Nat} {base : Nat} {ok : Nat → Prop} {v : Value} {xs : List α} (h : IsS80 w0 W g f0 f1 f2) (ho : Kd.N d e W base ok v xs) (ht : e ≠ 80) : some g ≠ v.ownBlock := by
  obtain ⟨hb, hg⟩ := h
  exact Kd.N_ne ho hb ht
theorem IsS80.fresh {w0 W : World} {g : Nat} {f0 : ByteArray} {f1 : Int} {f2 : Int} (h : IsS80 w0 W g f0 f1 f2) : ∀ k, W.heap.size ≤ k → k ≠ g := by
  obtain ⟨hb, hg⟩ := h
  exact Kd.freshB hb
theorem IsS80.kept {w0 W : World} {g : Nat} {f0 : ByteArray} {f1 : Int} {f2 : Int} {W1 : World} {S : Nat → Prop} (h : IsS80 w0 W g f0 f1 f2) (hk : Kept W W1 S) (hne : ¬ S g) : IsS80 w0 W1 g f0 f1 f2 := by
  obtain ⟨hb, hg⟩ := h
  exact ⟨blk_kept hb hk hne, hg⟩
theorem IsS80.below {w0 W : World} {g : Nat} {f0 : ByteArray} {f1 : Int} {f2 : Int} {W1 : World} (h : IsS80 w0 W g f0 f1 f2) (hw : Below W.heap.size W W1) : IsS80 w0 W1 g f0 f1 f2 := h.grown (grown_of_below hw none) (by simp)
theorem IsS80.alloc {w0 W : World} {g : Nat} {f0 : ByteArray} {f1 : Int} {f2 : Int} (h : IsS80 w0 W g f0 f1 f2) (o : Obj) : IsS80 w0 (W.alloc o) g f0 f1 f2 := h.below (below_alloc (Below.refl _ _) o)
theorem IsS80.drewN {w0 W : World} {g : Nat} {f0 : ByteArray} {f1 : Int} {f2 : Int} (h : IsS80 w0 W g f0 f1 f2) (m : Nat) : IsS80 w0 (W.drewN m) g f0 f1 f2 := h
theorem IsS80.drew {w0 W : World} {g : Nat} {f0 : ByteArray} {f1 : Int} {f2 : Int} (h : IsS80 w0 W g f0 f1 f2) : IsS80 w0 W.drew g f0 f1 f2 := h
theorem IsS80.at_ {w0 W : World} {g : Nat} {f0 : ByteArray} {f1 : Int} {f2 : Int} {w' : World} {m : Nat} (hq : W.drewN m = w') (h : IsS80 w0 W g f0 f1 f2) : IsS80 w0 w' g f0 f1 f2 := by subst hq; exact IsS80.drewN h m
theorem IsS80.apart {w0 W : World} {g : Nat} {f0 : ByteArray} {f1 : Int} {f2 : Int} {α : Type} {d : Kd α} {e : Nat} {base : Nat} {ok : Nat → Prop} {v : Value} {xs : List α} (h : IsS80 w0 W g f0 f1 f2) (ho : d.R e W base ok v xs) (ht : ∀ q, q ∈ e :: d.E → q ≠ 80) : d.R e W base (fun k => ok k ∧ k ≠ g) v xs := by
  obtain ⟨hb, hg⟩ := h
  exact Kd.R_types ho hb ht
theorem IsS80.own_ne {w0 W : World} {g : Nat} {f0 : ByteArray} {f1 : Int} {f2 : Int} {α : Type} {d : Kd α} {e : Nat} {base : Nat} {ok : Nat → Prop} {v : Value} {xs : List α} (h : IsS80 w0 W g f0 f1 f2) (ho : d.R e W base ok v xs) (ht : e ≠ 80) : some g ≠ v.ownBlock := by
  obtain ⟨hb, hg⟩ := h
  exact Kd.R_ne ho hb ht
theorem IsS80.apartQ {w0 W : World} {g : Nat} {f0 : ByteArray} {f1 : Int} {f2 : Int} {α : Type} {d : Kd α} {e : Nat} {base : Nat} {ok : Nat → Prop} {v : Value} {xs : List α} (h : IsS80 w0 W g f0 f1 f2) (ho : d.Q e W base ok v xs) (ht : ∀ q, q ∈ e :: d.E → q ≠ 80) : d.Q e W base (fun k => ok k ∧ k ≠ g) v xs := by
  obtain ⟨hb, hg⟩ := h
  exact Kd.Q_types ho hb ht
theorem IsS80.own_neQ {w0 W : World} {g : Nat} {f0 : ByteArray} {f1 : Int} {f2 : Int} {α : Type} {d : Kd α} {e : Nat} {base : Nat} {ok : Nat → Prop} {v : Value} {xs : List α} (h : IsS80 w0 W g f0 f1 f2) (ho : d.Q e W base ok v xs) (ht : e ≠ 80) : some g ≠ v.ownBlock := by
  obtain ⟨hb, hg⟩ := h
  exact Kd.Q_ne ho hb ht
theorem IsS80.apartS {w0 W : World} {g : Nat} {f0 : ByteArray} {f1 : Int} {f2 : Int} {α : Type} {d : Kd α} {e : Nat} {base : Nat} {ok : Nat → Prop} {v : Value} {xs : List α} (h : IsS80 w0 W g f0 f1 f2) (ho : d.S e W base ok v xs) (ht : ∀ q, q ∈ e :: d.E → q ≠ 80) : d.S e W base (fun k => ok k ∧ k ≠ g) v xs := by
  obtain ⟨hb, hg⟩ := h
  exact Kd.S_types ho hb ht
theorem IsS80.own_neS {w0 W : World} {g : Nat} {f0 : ByteArray} {f1 : Int} {f2 : Int} {α : Type} {d : Kd α} {e : Nat} {base : Nat} {ok : Nat → Prop} {v : Value} {xs : List α} (h : IsS80 w0 W g f0 f1 f2) (ho : d.S e W base ok v xs) (ht : e ≠ 80) : some g ≠ v.ownBlock := by
  obtain ⟨hb, hg⟩ := h
  exact Kd.S_ne ho hb ht
theorem IsS80.lt {w0 W : World} {g : Nat} {f0 : ByteArray} {f1 : Int} {f2 : Int} (h : IsS80 w0 W g f0 f1 f2) : g < W.heap.size := by
  obtain ⟨hb, hg⟩ := h
  exact blk_lt hb
theorem IsS80.ge {w0 W : World} {g : Nat} {f0 : ByteArray} {f1 : Int} {f2 : Int} (h : IsS80 w0 W g f0 f1 f2) : w0.heap.size ≤ g := by
  obtain ⟨hb, hg⟩ := h
  exact hg
theorem IsS80.ne_blk {w0 W : World} {g : Nat} {f0 : ByteArray} {f1 : Int} {f2 : Int} {a : Nat} {cs : Array Value} {t : TypeId} {fr : Nat × Nat} (h : IsS80 w0 W g f0 f1 f2) (hb2 : W.heap[a]? = some (.cells cs t fr)) (ht : t ≠ 80) : g ≠ a := by
  obtain ⟨hb, hg⟩ := h
  rintro rfl
  rw [hb] at hb2
  injection hb2 with hb2
  injection hb2 with _ ht2
  exact ht ht2.symm
theorem IsS80.far {w0 W : World} {g : Nat} {f0 : ByteArray} {f1 : Int} {f2 : Int} {p : Addr} (h : IsS80 w0 W g f0 f1 f2) (hne : g ≠ p.block) (u : Value) : IsS80 w0 (W.setCell p u) g f0 f1 f2 := by
  obtain ⟨hb, hg⟩ := h
  exact ⟨blk_far hb hne u, hg⟩
theorem cellS80_0 {W : World} {g : Nat} {f0 : ByteArray} {f1 : Int} {f2 : Int} (h : W.heap[g]? = some (.cells #[.string f0, .int .i64 f1, .int .i64 f2] 80 (0, 0))) : W.cell? ⟨g, 0, none⟩ = some (.string f0) := (blk_cell h 0).trans rfl
theorem IsS80.set_0 {w0 W : World} {g : Nat} {f0 : ByteArray} {f1 : Int} {f2 : Int} (h : IsS80 w0 W g f0 f1 f2) (x : ByteArray) : IsS80 w0 (W.setCell ⟨g, 0, none⟩ (.string x)) g x f1 f2 := by
  obtain ⟨hb, hg⟩ := h
  exact ⟨by simpa using blk_set hb 0 (.string x), hg⟩
theorem cellS80_1 {W : World} {g : Nat} {f0 : ByteArray} {f1 : Int} {f2 : Int} (h : W.heap[g]? = some (.cells #[.string f0, .int .i64 f1, .int .i64 f2] 80 (0, 0))) : W.cell? ⟨g, 1, none⟩ = some (.int .i64 f1) := (blk_cell h 1).trans rfl
theorem IsS80.set_1 {w0 W : World} {g : Nat} {f0 : ByteArray} {f1 : Int} {f2 : Int} (h : IsS80 w0 W g f0 f1 f2) (x : Int) : IsS80 w0 (W.setCell ⟨g, 1, none⟩ (.int .i64 x)) g f0 x f2 := by
  obtain ⟨hb, hg⟩ := h
  exact ⟨by simpa using blk_set hb 1 (.int .i64 x), hg⟩
theorem cellS80_2 {W : World} {g : Nat} {f0 : ByteArray} {f1 : Int} {f2 : Int} (h : W.heap[g]? = some (.cells #[.string f0, .int .i64 f1, .int .i64 f2] 80 (0, 0))) : W.cell? ⟨g, 2, none⟩ = some (.int .i64 f2) := (blk_cell h 2).trans rfl
theorem IsS80.set_2 {w0 W : World} {g : Nat} {f0 : ByteArray} {f1 : Int} {f2 : Int} (h : IsS80 w0 W g f0 f1 f2) (x : Int) : IsS80 w0 (W.setCell ⟨g, 2, none⟩ (.int .i64 x)) g f0 f1 x := by
  obtain ⟨hb, hg⟩ := h
  exact ⟨by simpa using blk_set hb 2 (.int .i64 x), hg⟩
theorem IsS80.new (w0 W : World) (f0 : ByteArray) (f1 : Int) (f2 : Int) (hB : Below w0.heap.size w0 W) : IsS80 w0 (W.alloc (.cells #[.string f0, .int .i64 f1, .int .i64 f2] 80)) W.heap.size f0 f1 f2 := ⟨by simpa using heap_alloc_new W _, hB.size⟩

/-! ### lease_reader_keep: function 69 -/
def lease_reader_keep.f (s0_0 : ByteArray) (s0_1 : Int) (s0_2 : Int) (a1 : Int) (a2 : Bool) : Option (ByteArray × Int × Int) := if a2 = true then (some (s0_0, wrap64 (s0_1 + a1), s0_2)) else (if s0_2 = 0 then (some (s0_0, wrap64 (s0_1 + a1), 3)) else (some (s0_0, wrap64 (s0_1 + a1), s0_2)))
set_option maxHeartbeats 8000000 in
set_option maxRecDepth 100000 in
theorem lease_reader_keep.calls (g : Nat) (s0_0 : ByteArray) (s0_1 : Int) (s0_2 : Int) (a1 : Int) (a2 : Bool) (r1 : ByteArray) (r2 : Int) (r3 : Int) (w0 w : World) (hI : IsS80 w0 w g s0_0 s0_1 s0_2) (hB : Below w0.heap.size w0 w) (h : lease_reader_keep.f s0_0 s0_1 s0_2 a1 a2 = some (r1, r2, r3)) :
    Calls Try.prog 69 #[.pointer (some ⟨g, 0, none⟩), .int .i64 a1, .bool a2] w fun e w' => e = .returned (.tuple #[]) ∧ IsS80 w0 w' g r1 r2 r3 ∧ Below w0.heap.size w0 w' ∧ KeepBut w w' g none := by
  have HI0 := Aside0.mk hI
  have HK := Aside0.mk (KeepBut.refl w g none)
  have HL := Aside0.mk hB.size
  clear hI
  have HW0 := Aside0.mk hB.size
  have HB := Aside0.mk hB
  clear hB
  have H : (if a2 = true then (some (s0_0, wrap64 (s0_1 + a1), s0_2)) else (if s0_2 = 0 then (some (s0_0, wrap64 (s0_1 + a1), 3)) else (some (s0_0, wrap64 (s0_1 + a1), s0_2)))) = some (r1, r2, r3) := h
  clear h
  by_cases c4 : a2 = true
  · subst c4
    have H1 : (some (s0_0, wrap64 (s0_1 + a1), s0_2)) = some (r1, r2, r3) := by rw [if_pos rfl] at H; exact H
    clear H
    have H := H1
    clear H1
    simp only [Option.some.injEq, Prod.mk.injEq] at H
    obtain ⟨rfl, rfl, rfl⟩ := H
    obtain ⟨HGz5, hgz5⟩ := HI0.out
    have hcz5_0 := cellS80_0 HGz5
    have hcz5_1 := cellS80_1 HGz5
    have hcz5_2 := cellS80_2 HGz5
    have hfz5_0 := blk_frozen HGz5 0
    have hfz5_1 := blk_frozen HGz5 1
    have hfz5_2 := blk_frozen HGz5 2
    clear HGz5 hgz5
    go_enter Try.func69, Try.ntmps69
    go_wp2
    first | go_end0
    exact ⟨by rfl, by repeat (first | (with_reducible first | exact HI0.out | apply IsS80.set_1)), by repeat (first | (with_reducible first | exact HB.out | refine below_set ?_ (IsS80.ge HI0.out))), by repeat (first | (with_reducible first | exact HK.out | apply KeepBut.set_))⟩
  · replace c4 := Bool.eq_false_iff.mpr c4
    subst c4
    have H1 : (if s0_2 = 0 then (some (s0_0, wrap64 (s0_1 + a1), 3)) else (some (s0_0, wrap64 (s0_1 + a1), s0_2))) = some (r1, r2, r3) := by rw [if_neg (show ¬ (false = true) by decide)] at H; exact H
    clear H
    have H := H1
    clear H1
    by_cases c6 : s0_2 = 0
    · rw [if_pos c6] at H
      have c6b0 : (s0_2 == 0) = true := beq_iff_eq.mpr c6
      have c6b1 : (s0_2 != 0) = false := bne_eq_false_iff_eq.mpr c6
      clear c6
      simp only [Option.some.injEq, Prod.mk.injEq] at H
      obtain ⟨rfl, rfl, rfl⟩ := H
      obtain ⟨HGz7, hgz7⟩ := HI0.out
      have hcz7_0 := cellS80_0 HGz7
      have hcz7_1 := cellS80_1 HGz7
      have hcz7_2 := cellS80_2 HGz7
      have hfz7_0 := blk_frozen HGz7 0
      have hfz7_1 := blk_frozen HGz7 1
      have hfz7_2 := blk_frozen HGz7 2
      clear HGz7 hgz7
      go_enter Try.func69, Try.ntmps69
      go_wp2
      first | go_end0
      exact ⟨by rfl, by repeat (first | (with_reducible first | exact HI0.out | apply IsS80.set_1 | apply IsS80.set_2)), by repeat (first | (with_reducible first | exact HB.out | refine below_set ?_ (IsS80.ge HI0.out))), by repeat (first | (with_reducible first | exact HK.out | apply KeepBut.set_))⟩
    · rw [if_neg c6] at H
      have c6b0 : (s0_2 == 0) = false := beq_eq_false_iff_ne.mpr c6
      have c6b1 : (s0_2 != 0) = true := bne_iff_ne.mpr c6
      simp only [Option.some.injEq, Prod.mk.injEq] at H
      obtain ⟨rfl, rfl, rfl⟩ := H
      obtain ⟨HGz8, hgz8⟩ := HI0.out
      have hcz8_0 := cellS80_0 HGz8
      have hcz8_1 := cellS80_1 HGz8
      have hcz8_2 := cellS80_2 HGz8
      have hfz8_0 := blk_frozen HGz8 0
      have hfz8_1 := blk_frozen HGz8 1
      have hfz8_2 := blk_frozen HGz8 2
      clear HGz8 hgz8
      go_enter Try.func69, Try.ntmps69
      go_wp2
      first | go_end0
      exact ⟨by rfl, by repeat (first | (with_reducible first | exact HI0.out | apply IsS80.set_1)), by repeat (first | (with_reducible first | exact HB.out | refine below_set ?_ (IsS80.ge HI0.out))), by repeat (first | (with_reducible first | exact HK.out | apply KeepBut.set_))⟩

/-! ### lease_reader_octet: function 67 -/
def lease_reader_octet.f (s0_0 : ByteArray) (s0_1 : Int) (s0_2 : Int) : Option (Int × ByteArray × Int × Int) := (octet_Cut.f s0_0 s0_1 1).bind fun bt224 => ((lease_reader_keep.f s0_0 s0_1 s0_2 1 bt224.2).bind fun bt226 => (if bt224.2 = true then (if 0 < (bt224.1.size : Int) then (some (wrap64 (bt bt224.1 0), bt226.1, bt226.2.1, bt226.2.2)) else (none)) else (some (0, bt226.1, bt226.2.1, bt226.2.2))))
def lease_reader_octet.T1 : Bool × List (List Nat × List Nat) := (true, [([], []), ([0], [0]), ([1], [1]), ([2], [2]), ([], []), ([4], [4]), ([5], [5]), ([6], [6]), ([3, 7], [3, 7]), ([8], [8]), ([9], [9]), ([9], [9]), ([10, 8, 0, 1, 2, 3, 4, 5, 6, 7, 8, 9, 10], [10]), ([11, 12, 0, 1, 2, 3, 4, 5, 6, 7, 8, 9, 10, 11, 12], [11])])
def lease_reader_octet.B1 : List Nat := [0, 1, 3, 7, 0, 16, 48, 112, 255, 511, 1023, 1023, 2047, 8191]
theorem lease_reader_octet.tab1 : rtab .any (opsOf Try.f67 1) = lease_reader_octet.T1 := by kernel_rfl
theorem lease_reader_octet.bits1 : waitsOk lease_reader_octet.T1.2 lease_reader_octet.B1 = true := by kernel_rfl
set_option maxHeartbeats 8000000 in
set_option maxRecDepth 100000 in
theorem lease_reader_octet.calls (g : Nat) (s0_0 : ByteArray) (s0_1 : Int) (s0_2 : Int) (r1 : Int) (r2 : ByteArray) (r3 : Int) (r4 : Int) (w0 w : World) (hI : IsS80 w0 w g s0_0 s0_1 s0_2) (hB : Below w0.heap.size w0 w) (h : lease_reader_octet.f s0_0 s0_1 s0_2 = some (r1, r2, r3, r4)) :
    Calls Try.prog 67 #[.pointer (some ⟨g, 0, none⟩)] w fun e w' => e = .returned (.int .i64 r1) ∧ IsS80 w0 w' g r2 r3 r4 ∧ Below w0.heap.size w0 w' ∧ KeepBut w w' g none := by
  have HI0 := Aside0.mk hI
  have HK := Aside0.mk (KeepBut.refl w g none)
  have HL := Aside0.mk hB.size
  clear hI
  have HW0 := Aside0.mk hB.size
  have HB := Aside0.mk hB
  clear hB
  have H : ((octet_Cut.f s0_0 s0_1 1).bind fun bt224 => ((lease_reader_keep.f s0_0 s0_1 s0_2 1 bt224.2).bind fun bt226 => (if bt224.2 = true then (if 0 < (bt224.1.size : Int) then (some (wrap64 (bt bt224.1 0), bt226.1, bt226.2.1, bt226.2.2)) else (none)) else (some (0, bt226.1, bt226.2.1, bt226.2.2))))) = some (r1, r2, r3, r4) := h
  clear h
  replace H := Option.bind_eq_some_iff.mp H
  obtain ⟨⟨t224, t225⟩, A20, H⟩ := H
  replace H : ((lease_reader_keep.f s0_0 s0_1 s0_2 1 t225).bind fun bt226 => (if t225 = true then (if 0 < (t224.size : Int) then (some (wrap64 (bt t224 0), bt226.1, bt226.2.1, bt226.2.2)) else (none)) else (some (0, bt226.1, bt226.2.1, bt226.2.2)))) = some (r1, r2, r3, r4) := H
  have A2 := Aside0.mk A20
  clear A20
  replace H := Option.bind_eq_some_iff.mp H
  obtain ⟨⟨t226, t227, t228⟩, A30, H⟩ := H
  replace H : (if t225 = true then (if 0 < (t224.size : Int) then (some (wrap64 (bt t224 0), t226, t227, t228)) else (none)) else (some (0, t226, t227, t228))) = some (r1, r2, r3, r4) := H
  have A3 := Aside0.mk A30
  clear A30
  by_cases c4 : t225 = true
  · subst c4
    have H1 : (if 0 < (t224.size : Int) then (some (wrap64 (bt t224 0), t226, t227, t228)) else (none)) = some (r1, r2, r3, r4) := by rw [if_pos rfl] at H; exact H
    clear H
    have H := H1
    clear H1
    by_cases c5 : 0 < (t224.size : Int)
    · rw [if_pos c5] at H
      have c5b0 : decide (0 < (t224.size : Int)) = true := decide_eq_true c5
      have c5b1 : decide (0 < t224.size) = true := decide_eq_true (by omega)
      clear c5
      simp only [Option.some.injEq, Prod.mk.injEq] at H
      obtain ⟨rfl, rfl, rfl, rfl⟩ := H
      go_enter Try.func67, Try.ntmps67
      try go_wp2
      have n0_ := Aside0.mk (IsS80.drew HI0.out)
      have n1_ := Aside0.mk (keep_drew HK.out)
      have n2_ := Aside0.mk (below_drew1 HB.out)
      clear HI0
      clear HK
      clear HB
      have HI0 := n0_
      have HK := n1_
      have HB := n2_
      clear n0_ n1_ n2_
      refine start_ (n := 14) (S := fun w' => w'.cell? ⟨g, 0, none⟩ = some (.string s0_0) ∧ w'.cell? ⟨g, 1, none⟩ = some (.int .i64 s0_1) ∧ w'.cell? ⟨g, 2, none⟩ = some (.int .i64 s0_2)) (ds := []) #[false, false, false, false, false, false, false, false, false, false, false, false, false, false] (by kernel_rfl) rfl rfl ⟨(blk_cell HI0.out.1 0).trans rfl, (blk_cell HI0.out.1 1).trans rfl, (blk_cell HI0.out.1 2).trans rfl⟩ (fun hHeld => ?_); refine with_tabW lease_reader_octet.tab1 lease_reader_octet.bits1 (fun HT_ HW_ => ?_)
      generalize w.drew = w7 at HI0 HK HB hHeld ⊢
      refine pure_ (i := 0) (N := some 6) (v := ?_) (a' := ?_) #[true, false, false, false, false, false, false, false, false, false, false, false, false, false] rfl rfl (any_of HT_.out (by kernel_rfl)) (fun _ _ _ h => h) (Or.inl ⟨by rfl, ?_⟩) ?_ ?_
      rotate_left
      · intro w'
        go_simp
        with_reducible rfl
      rotate_left
      · simp only [Act.put, List.setIfInBounds_toArray, List.set_cons_zero, List.set_cons_succ, i64_w, i32_w]
        rfl
      refine pure_ (i := 1) (N := some 7) (v := ?_) (a' := ?_) #[true, true, false, false, false, false, false, false, false, false, false, false, false, false] rfl rfl (any_of HT_.out (by kernel_rfl)) (fun _ _ _ h => h) (Or.inl ⟨by rfl, ?_⟩) ?_ ?_
      rotate_left
      · intro w'
        go_simp
        with_reducible rfl
      rotate_left
      · simp only [Act.put, List.setIfInBounds_toArray, List.set_cons_zero, List.set_cons_succ, i64_w, i32_w]
        rfl
      refine pure_ (i := 2) (N := some 8) (v := ?_) (a' := ?_) #[true, true, true, false, false, false, false, false, false, false, false, false, false, false] rfl rfl (any_of HT_.out (by kernel_rfl)) (fun _ _ _ h => h) (Or.inl ⟨by rfl, ?_⟩) ?_ ?_
      rotate_left
      · intro w'
        go_simp
        with_reducible rfl
      rotate_left
      · simp only [Act.put, List.setIfInBounds_toArray, List.set_cons_zero, List.set_cons_succ, i64_w, i32_w]
        rfl
      refine pure_ (i := 4) (N := some 10) (v := ?_) (a' := ?_) #[true, true, true, false, true, false, false, false, false, false, false, false, false, false] rfl rfl (any_of HT_.out (by kernel_rfl)) (fun _ _ _ h => h) (Or.inl ⟨by rfl, ?_⟩) ?_ ?_
      rotate_left
      · intro w'
        go_simp
        with_reducible rfl
      rotate_left
      · simp only [Act.put, List.setIfInBounds_toArray, List.set_cons_zero, List.set_cons_succ, i64_w, i32_w]
        rfl
      refine pure_ (i := 5) (N := some 11) (v := ?_) (a' := ?_) #[true, true, true, false, true, true, false, false, false, false, false, false, false, false] rfl rfl (any_of HT_.out (by kernel_rfl)) (fun _ _ _ h => h) (Or.inl ⟨by rfl, ?_⟩) ?_ ?_
      rotate_left
      · intro w'
        go_simp
        with_reducible rfl
      rotate_left
      · simp only [Act.put, List.setIfInBounds_toArray, List.set_cons_zero, List.set_cons_succ, i64_w, i32_w]
        rfl
      refine pure_ (i := 6) (N := some 12) (v := ?_) (a' := ?_) #[true, true, true, false, true, true, true, false, false, false, false, false, false, false] rfl rfl (any_of HT_.out (by kernel_rfl)) (fun _ _ _ h => h) (Or.inl ⟨by rfl, ?_⟩) ?_ ?_
      rotate_left
      · intro w'
        go_simp
        with_reducible rfl
      rotate_left
      · simp only [Act.put, List.setIfInBounds_toArray, List.set_cons_zero, List.set_cons_succ, i64_w, i32_w]
        rfl
      refine take_ (i := 3) (N := some 9) (v := ?_) (a' := ?_) #[true, true, true, true, true, true, true, false, false, false, false, false, false, false] rfl rfl (take_ofW HT_.out HW_.out (by kernel_rfl)) (fun _ _ _ h => h) (Or.inl ⟨by rfl, ?_⟩) hHeld ?_ ?_
      rotate_left
      · rintro w' ⟨s0, s1, s2⟩
        go_simp
        with_reducible rfl
      rotate_left
      · simp only [Act.put, List.setIfInBounds_toArray, List.set_cons_zero, List.set_cons_succ, i64_w, i32_w]
        rfl
      refine take_ (i := 7) (N := some 13) (v := ?_) (a' := ?_) #[true, true, true, true, true, true, true, true, false, false, false, false, false, false] rfl rfl (take_ofW HT_.out HW_.out (by kernel_rfl)) (fun _ _ _ h => h) (Or.inl ⟨by rfl, ?_⟩) hHeld ?_ ?_
      rotate_left
      · rintro w' ⟨s0, s1, s2⟩
        go_simp
        with_reducible rfl
      rotate_left
      · simp only [Act.put, List.setIfInBounds_toArray, List.set_cons_zero, List.set_cons_succ, i64_w, i32_w]
        rfl
      refine one_ (i := 8) (N := some 14) #[true, true, true, true, true, true, true, true, true, false, false, false, false, false] rfl rfl (one_of HT_.out (by kernel_rfl)) (by decide) (fun K hK => ?_)
      refine goes_ Try.func88 (by kernel_rfl) rfl #[.string s0_0, .int .i64 s0_1, .int .i64 1] (by rfl) rfl rfl (by (try simp only [List.map_toArray, List.map_cons, List.map_nil]); first | rfl) ?_
      with_reducible refine (octet_Cut.calls s0_0 s0_1 1 t224 true _ A2.out).mono ?_
      rintro e w8 ⟨rfl, hb⟩
      refine ⟨_, rfl, ?_⟩
      have n0_ := Aside0.mk (IsS80.below (by repeat (first | (with_reducible first | exact HI0.out))) hb)
      have n1_ := Aside0.mk (KeepBut.trans (by repeat (first | (with_reducible first | exact HK.out))) (KeepBut.of_below hb g none) (.inl rfl))
      have n2_ := Aside0.mk (below_step HB.out hb)
      clear HI0
      clear HK
      clear HB
      have HI0 := n0_
      have HK := n1_
      have HB := n2_
      clear n0_ n1_ n2_
      (try clear hb)
      (try clear hb2)
      (try clear hk)
      (try clear hi)
      refine hK.out _ _ ⟨(blk_cell HI0.out.1 0).trans rfl, (blk_cell HI0.out.1 1).trans rfl, (blk_cell HI0.out.1 2).trans rfl⟩ (fun hHeld => ?_)
      clear hK K
      refine norm_ (a' := ?_) ?_ ?_
      rotate_left
      · show Act.put _ (some 14) _ = _
        simp only [Act.put, List.setIfInBounds_toArray, List.set_cons_zero, List.set_cons_succ, i64_w, i32_w]
        rfl
      refine pure_ (i := 9) (N := some 5) (v := ?_) (a' := ?_) #[true, true, true, true, true, true, true, true, true, true, false, false, false, false] rfl rfl (any_of HT_.out (by kernel_rfl)) (fun _ _ _ h => h) (Or.inl ⟨by rfl, ?_⟩) ?_ ?_
      rotate_left
      · intro w'
        go_simp
        with_reducible rfl
      rotate_left
      · simp only [Act.put, List.setIfInBounds_toArray, List.set_cons_zero, List.set_cons_succ, i64_w, i32_w]
        rfl
      refine pure_ (i := 10) (N := some 15) (v := ?_) (a' := ?_) #[true, true, true, true, true, true, true, true, true, true, true, false, false, false] rfl rfl (any_of HT_.out (by kernel_rfl)) (fun _ _ _ h => h) (Or.inl ⟨by rfl, ?_⟩) ?_ ?_
      rotate_left
      · intro w'
        go_simp
        with_reducible rfl
      rotate_left
      · simp only [Act.put, List.setIfInBounds_toArray, List.set_cons_zero, List.set_cons_succ, i64_w, i32_w]
        rfl
      refine pure_ (i := 11) (N := some 16) (v := ?_) (a' := ?_) #[true, true, true, true, true, true, true, true, true, true, true, true, false, false] rfl rfl (any_of HT_.out (by kernel_rfl)) (fun _ _ _ h => h) (Or.inl ⟨by rfl, ?_⟩) ?_ ?_
      rotate_left
      · intro w'
        go_simp
        with_reducible rfl
      rotate_left
      · simp only [Act.put, List.setIfInBounds_toArray, List.set_cons_zero, List.set_cons_succ, i64_w, i32_w]
        rfl
      refine pure_ (i := 12) (N := some 3) (v := ?_) (a' := ?_) #[true, true, true, true, true, true, true, true, true, true, true, true, true, false] rfl rfl (any_of HT_.out (by kernel_rfl)) (fun _ _ _ h => h) (Or.inl ⟨by rfl, ?_⟩) ?_ ?_
      rotate_left
      · intro w'
        go_simp
        with_reducible rfl
      rotate_left
      · simp only [Act.put, List.setIfInBounds_toArray, List.set_cons_zero, List.set_cons_succ, i64_w, i32_w]
        rfl
      refine pure_ (i := 13) (N := some 4) (v := ?_) (a' := ?_) #[true, true, true, true, true, true, true, true, true, true, true, true, true, true] rfl rfl (any_of HT_.out (by kernel_rfl)) (fun _ _ _ h => h) (Or.inl ⟨by rfl, ?_⟩) ?_ ?_
      rotate_left
      · intro w'
        go_simp
        with_reducible rfl
      rotate_left
      · simp only [Act.put, List.setIfInBounds_toArray, List.set_cons_zero, List.set_cons_succ, i64_w, i32_w]
        rfl
      refine done_ (done_of HT_.out (by kernel_rfl)) ?_
      try go_wp2_with (first | ((with_reducible refine gate_callee (f := 69) rfl ?_); refine goesL_ (some 19) rfl rfl Try.func69 (by kernel_rfl) rfl #[.pointer (some ⟨g, 0, none⟩), .int .i64 1, .bool true] rfl (by (try simp only [List.map_toArray, List.map_cons, List.map_nil]); first | rfl) ?_; (with_reducible refine (lease_reader_keep.calls g s0_0 s0_1 s0_2 1 true t226 t227 t228 w0 _ ?side1 ?side2 A3.out).mono ?_); (case side1 => repeat (first | (with_reducible first | exact HI0.out))); (case side2 => exact HB.out); rintro e w9 ⟨rfl, hi, hb, hk⟩; refine ⟨_, rfl, ?_⟩; have n0_ := Aside0.mk (KeepBut.trans (by repeat (first | (with_reducible first | exact HK.out))) hk (.inl rfl)); have n1_ := Aside0.mk (hb); have n2_ := Aside0.mk (hi); clear HK; clear HB; clear HI0; have HK := n0_; have HB := n1_; have HI0 := n2_; clear n0_ n1_ n2_; (try clear hb); (try clear hb2); (try clear hk); (try clear hi); have p6 : 0 ≤ (0 : Int) := (by omega); have q6 : 0 < t224.size := (by have : (0 : Int) < (t224.size : Int) := of_decide_eq_true (by first | (with_reducible assumption)); omega); have hx6 : ∀ h : 0 < t224.size, ((t224[0]'h).toNat : Int) = bt t224 0 := bt_at t224 0; clear p6; have qi6 : (0 < (t224.size : Int)) = True := eq_true (of_decide_eq_true (by first | (with_reducible assumption))); replace q6 := eq_true q6))
      go_ret
      exact ⟨by rfl, by repeat (first | (with_reducible first | exact HI0.out)), by exact HB.out, by repeat (first | (with_reducible first | exact HK.out))⟩
    · rw [if_neg c5] at H
      exact absurd H (by simp)
  · replace c4 := Bool.eq_false_iff.mpr c4
    subst c4
    have H1 : (some (0, t226, t227, t228)) = some (r1, r2, r3, r4) := by rw [if_neg (show ¬ (false = true) by decide)] at H; exact H
    clear H
    have H := H1
    clear H1
    simp only [Option.some.injEq, Prod.mk.injEq] at H
    obtain ⟨rfl, rfl, rfl, rfl⟩ := H
    go_enter Try.func67, Try.ntmps67
    try go_wp2
    have n0_ := Aside0.mk (IsS80.drew HI0.out)
    have n1_ := Aside0.mk (keep_drew HK.out)
    have n2_ := Aside0.mk (below_drew1 HB.out)
    clear HI0
    clear HK
    clear HB
    have HI0 := n0_
    have HK := n1_
    have HB := n2_
    clear n0_ n1_ n2_
    refine start_ (n := 14) (S := fun w' => w'.cell? ⟨g, 0, none⟩ = some (.string s0_0) ∧ w'.cell? ⟨g, 1, none⟩ = some (.int .i64 s0_1) ∧ w'.cell? ⟨g, 2, none⟩ = some (.int .i64 s0_2)) (ds := []) #[false, false, false, false, false, false, false, false, false, false, false, false, false, false] (by kernel_rfl) rfl rfl ⟨(blk_cell HI0.out.1 0).trans rfl, (blk_cell HI0.out.1 1).trans rfl, (blk_cell HI0.out.1 2).trans rfl⟩ (fun hHeld => ?_); refine with_tabW lease_reader_octet.tab1 lease_reader_octet.bits1 (fun HT_ HW_ => ?_)
    generalize w.drew = w10 at HI0 HK HB hHeld ⊢
    refine pure_ (i := 0) (N := some 6) (v := ?_) (a' := ?_) #[true, false, false, false, false, false, false, false, false, false, false, false, false, false] rfl rfl (any_of HT_.out (by kernel_rfl)) (fun _ _ _ h => h) (Or.inl ⟨by rfl, ?_⟩) ?_ ?_
    rotate_left
    · intro w'
      go_simp
      with_reducible rfl
    rotate_left
    · simp only [Act.put, List.setIfInBounds_toArray, List.set_cons_zero, List.set_cons_succ, i64_w, i32_w]
      rfl
    refine pure_ (i := 1) (N := some 7) (v := ?_) (a' := ?_) #[true, true, false, false, false, false, false, false, false, false, false, false, false, false] rfl rfl (any_of HT_.out (by kernel_rfl)) (fun _ _ _ h => h) (Or.inl ⟨by rfl, ?_⟩) ?_ ?_
    rotate_left
    · intro w'
      go_simp
      with_reducible rfl
    rotate_left
    · simp only [Act.put, List.setIfInBounds_toArray, List.set_cons_zero, List.set_cons_succ, i64_w, i32_w]
      rfl
    refine pure_ (i := 2) (N := some 8) (v := ?_) (a' := ?_) #[true, true, true, false, false, false, false, false, false, false, false, false, false, false] rfl rfl (any_of HT_.out (by kernel_rfl)) (fun _ _ _ h => h) (Or.inl ⟨by rfl, ?_⟩) ?_ ?_
    rotate_left
    · intro w'
      go_simp
      with_reducible rfl
    rotate_left
    · simp only [Act.put, List.setIfInBounds_toArray, List.set_cons_zero, List.set_cons_succ, i64_w, i32_w]
      rfl
    refine pure_ (i := 4) (N := some 10) (v := ?_) (a' := ?_) #[true, true, true, false, true, false, false, false, false, false, false, false, false, false] rfl rfl (any_of HT_.out (by kernel_rfl)) (fun _ _ _ h => h) (Or.inl ⟨by rfl, ?_⟩) ?_ ?_
    rotate_left
    · intro w'
      go_simp
      with_reducible rfl
    rotate_left
    · simp only [Act.put, List.setIfInBounds_toArray, List.set_cons_zero, List.set_cons_succ, i64_w, i32_w]
      rfl
    refine pure_ (i := 5) (N := some 11) (v := ?_) (a' := ?_) #[true, true, true, false, true, true, false, false, false, false, false, false, false, false] rfl rfl (any_of HT_.out (by kernel_rfl)) (fun _ _ _ h => h) (Or.inl ⟨by rfl, ?_⟩) ?_ ?_
    rotate_left
    · intro w'
      go_simp
      with_reducible rfl
    rotate_left
    · simp only [Act.put, List.setIfInBounds_toArray, List.set_cons_zero, List.set_cons_succ, i64_w, i32_w]
      rfl
    refine pure_ (i := 6) (N := some 12) (v := ?_) (a' := ?_) #[true, true, true, false, true, true, true, false, false, false, false, false, false, false] rfl rfl (any_of HT_.out (by kernel_rfl)) (fun _ _ _ h => h) (Or.inl ⟨by rfl, ?_⟩) ?_ ?_
    rotate_left
    · intro w'
      go_simp
      with_reducible rfl
    rotate_left
    · simp only [Act.put, List.setIfInBounds_toArray, List.set_cons_zero, List.set_cons_succ, i64_w, i32_w]
      rfl
    refine take_ (i := 3) (N := some 9) (v := ?_) (a' := ?_) #[true, true, true, true, true, true, true, false, false, false, false, false, false, false] rfl rfl (take_ofW HT_.out HW_.out (by kernel_rfl)) (fun _ _ _ h => h) (Or.inl ⟨by rfl, ?_⟩) hHeld ?_ ?_
    rotate_left
    · rintro w' ⟨s0, s1, s2⟩
      go_simp
      with_reducible rfl
    rotate_left
    · simp only [Act.put, List.setIfInBounds_toArray, List.set_cons_zero, List.set_cons_succ, i64_w, i32_w]
      rfl
    refine take_ (i := 7) (N := some 13) (v := ?_) (a' := ?_) #[true, true, true, true, true, true, true, true, false, false, false, false, false, false] rfl rfl (take_ofW HT_.out HW_.out (by kernel_rfl)) (fun _ _ _ h => h) (Or.inl ⟨by rfl, ?_⟩) hHeld ?_ ?_
    rotate_left
    · rintro w' ⟨s0, s1, s2⟩
      go_simp
      with_reducible rfl
    rotate_left
    · simp only [Act.put, List.setIfInBounds_toArray, List.set_cons_zero, List.set_cons_succ, i64_w, i32_w]
      rfl
    refine one_ (i := 8) (N := some 14) #[true, true, true, true, true, true, true, true, true, false, false, false, false, false] rfl rfl (one_of HT_.out (by kernel_rfl)) (by decide) (fun K hK => ?_)
    refine goes_ Try.func88 (by kernel_rfl) rfl #[.string s0_0, .int .i64 s0_1, .int .i64 1] (by rfl) rfl rfl (by (try simp only [List.map_toArray, List.map_cons, List.map_nil]); first | rfl) ?_
    with_reducible refine (octet_Cut.calls s0_0 s0_1 1 t224 false _ A2.out).mono ?_
    rintro e w11 ⟨rfl, hb⟩
    refine ⟨_, rfl, ?_⟩
    have n0_ := Aside0.mk (IsS80.below (by repeat (first | (with_reducible first | exact HI0.out))) hb)
    have n1_ := Aside0.mk (KeepBut.trans (by repeat (first | (with_reducible first | exact HK.out))) (KeepBut.of_below hb g none) (.inl rfl))
    have n2_ := Aside0.mk (below_step HB.out hb)
    clear HI0
    clear HK
    clear HB
    have HI0 := n0_
    have HK := n1_
    have HB := n2_
    clear n0_ n1_ n2_
    (try clear hb)
    (try clear hb2)
    (try clear hk)
    (try clear hi)
    refine hK.out _ _ ⟨(blk_cell HI0.out.1 0).trans rfl, (blk_cell HI0.out.1 1).trans rfl, (blk_cell HI0.out.1 2).trans rfl⟩ (fun hHeld => ?_)
    clear hK K
    refine norm_ (a' := ?_) ?_ ?_
    rotate_left
    · show Act.put _ (some 14) _ = _
      simp only [Act.put, List.setIfInBounds_toArray, List.set_cons_zero, List.set_cons_succ, i64_w, i32_w]
      rfl
    refine pure_ (i := 9) (N := some 5) (v := ?_) (a' := ?_) #[true, true, true, true, true, true, true, true, true, true, false, false, false, false] rfl rfl (any_of HT_.out (by kernel_rfl)) (fun _ _ _ h => h) (Or.inl ⟨by rfl, ?_⟩) ?_ ?_
    rotate_left
    · intro w'
      go_simp
      with_reducible rfl
    rotate_left
    · simp only [Act.put, List.setIfInBounds_toArray, List.set_cons_zero, List.set_cons_succ, i64_w, i32_w]
      rfl
    refine pure_ (i := 10) (N := some 15) (v := ?_) (a' := ?_) #[true, true, true, true, true, true, true, true, true, true, true, false, false, false] rfl rfl (any_of HT_.out (by kernel_rfl)) (fun _ _ _ h => h) (Or.inl ⟨by rfl, ?_⟩) ?_ ?_
    rotate_left
    · intro w'
      go_simp
      with_reducible rfl
    rotate_left
    · simp only [Act.put, List.setIfInBounds_toArray, List.set_cons_zero, List.set_cons_succ, i64_w, i32_w]
      rfl
    refine pure_ (i := 11) (N := some 16) (v := ?_) (a' := ?_) #[true, true, true, true, true, true, true, true, true, true, true, true, false, false] rfl rfl (any_of HT_.out (by kernel_rfl)) (fun _ _ _ h => h) (Or.inl ⟨by rfl, ?_⟩) ?_ ?_
    rotate_left
    · intro w'
      go_simp
      with_reducible rfl
    rotate_left
    · simp only [Act.put, List.setIfInBounds_toArray, List.set_cons_zero, List.set_cons_succ, i64_w, i32_w]
      rfl
    refine pure_ (i := 12) (N := some 3) (v := ?_) (a' := ?_) #[true, true, true, true, true, true, true, true, true, true, true, true, true, false] rfl rfl (any_of HT_.out (by kernel_rfl)) (fun _ _ _ h => h) (Or.inl ⟨by rfl, ?_⟩) ?_ ?_
    rotate_left
    · intro w'
      go_simp
      with_reducible rfl
    rotate_left
    · simp only [Act.put, List.setIfInBounds_toArray, List.set_cons_zero, List.set_cons_succ, i64_w, i32_w]
      rfl
    refine pure_ (i := 13) (N := some 4) (v := ?_) (a' := ?_) #[true, true, true, true, true, true, true, true, true, true, true, true, true, true] rfl rfl (any_of HT_.out (by kernel_rfl)) (fun _ _ _ h => h) (Or.inl ⟨by rfl, ?_⟩) ?_ ?_
    rotate_left
    · intro w'
      go_simp
      with_reducible rfl
    rotate_left
    · simp only [Act.put, List.setIfInBounds_toArray, List.set_cons_zero, List.set_cons_succ, i64_w, i32_w]
      rfl
    refine done_ (done_of HT_.out (by kernel_rfl)) ?_
    try go_wp2_with (first | ((with_reducible refine gate_callee (f := 69) rfl ?_); refine goesL_ (some 19) rfl rfl Try.func69 (by kernel_rfl) rfl #[.pointer (some ⟨g, 0, none⟩), .int .i64 1, .bool false] rfl (by (try simp only [List.map_toArray, List.map_cons, List.map_nil]); first | rfl) ?_; (with_reducible refine (lease_reader_keep.calls g s0_0 s0_1 s0_2 1 false t226 t227 t228 w0 _ ?side1 ?side2 A3.out).mono ?_); (case side1 => repeat (first | (with_reducible first | exact HI0.out))); (case side2 => exact HB.out); rintro e w12 ⟨rfl, hi, hb, hk⟩; refine ⟨_, rfl, ?_⟩; have n0_ := Aside0.mk (KeepBut.trans (by repeat (first | (with_reducible first | exact HK.out))) hk (.inl rfl)); have n1_ := Aside0.mk (hb); have n2_ := Aside0.mk (hi); clear HK; clear HB; clear HI0; have HK := n0_; have HB := n1_; have HI0 := n2_; clear n0_ n1_ n2_; (try clear hb); (try clear hb2); (try clear hk); (try clear hi)))
    go_ret
    exact ⟨by rfl, by repeat (first | (with_reducible first | exact HI0.out)), by exact HB.out, by repeat (first | (with_reducible first | exact HK.out))⟩

/-! ### octet_get_uint64: function 90 -/
def octet_get_uint64.l0 : Nat → Bool → Int → List Int → Int → Int → Option (Int × Bool)
  | 0, _, _, _, _, _ => none
  | k + 1, x9, x10, x21, x22, x23 => if x23 < x22 then (if 0 ≤ x23 then (if x23 < (x21.length : Int) then (octet_get_uint64.l0 k x9 (Go.bits .or .u64 (IntKind.u64.wrap (x10 * 256)) (IntKind.u64.wrap (rd x21 x23))) x21 x22 (wrap64 (x23 + 1))) else (none)) else (none)) else (some (x10, x9))
def octet_get_uint64.f (k : Nat) (a0 : ByteArray) (a1 : Int) (a2 : Int) : Option (Int × Bool) := (octet_Cut.f a0 a1 a2).bind fun bt229 => ((conv9_60.f bt229.1).bind fun t231 => (octet_get_uint64.l0 k bt229.2 0 t231 (t231.length : Int) 0))
theorem octet_get_uint64.mono_l : ∀ k, (∀ y0 y1 y2 y3 y4, LeO (octet_get_uint64.l0 k y0 y1 y2 y3 y4) (octet_get_uint64.l0 (k + 1) y0 y1 y2 y3 y4))
  | 0 => fun _ _ _ _ _ r h => by simp [octet_get_uint64.l0] at h
  | k + 1 => by
    have ih0 := octet_get_uint64.mono_l k
    · intro y0 y1 y2 y3 y4
      unfold octet_get_uint64.l0
      repeat' first
      | (with_reducible exact ih0 _ _ _ _ _)
      | (with_reducible exact LeO.refl _)
      | (with_reducible exact LeO.none _)
      | (with_reducible refine LeO.ite ?_ ?_)
      | (with_reducible refine LeO.bind ?_ (fun _ => ?_))
      | exact ih0 _ _ _ _ _
      | exact LeO.none _
      | refine LeO.ite ?_ ?_
      | refine LeO.bind ?_ (fun _ => ?_)
theorem octet_get_uint64.mono : ∀ a0 a1 a2 k, LeO (octet_get_uint64.f k a0 a1 a2) (octet_get_uint64.f (k + 1) a0 a1 a2) := by
  intro a0 a1 a2 k
  have ih0 := octet_get_uint64.mono_l k
  unfold octet_get_uint64.f
  repeat' first
      | (with_reducible exact ih0 _ _ _ _ _)
      | (with_reducible exact LeO.refl _)
      | (with_reducible exact LeO.none _)
      | (with_reducible refine LeO.ite ?_ ?_)
      | (with_reducible refine LeO.bind ?_ (fun _ => ?_))
      | exact ih0 _ _ _ _ _
      | exact LeO.none _
      | refine LeO.ite ?_ ?_
      | refine LeO.bind ?_ (fun _ => ?_)
set_option maxHeartbeats 8000000 in
set_option maxRecDepth 100000 in
theorem octet_get_uint64.calls (k : Nat) (a0 : ByteArray) (a1 : Int) (a2 : Int) (r1 : Int) (r2 : Bool) (w : World) (h : octet_get_uint64.f k a0 a1 a2 = some (r1, r2)) :
    Calls Try.prog 90 #[.string a0, .int .i64 a1, .int .i64 a2] w fun e w' => e = .returned (.tuple #[.int .u64 r1, .bool r2]) ∧ Below w.heap.size w w' := by
  have HB := Aside0.mk (Below.refl w.heap.size w)
  have H : ((octet_Cut.f a0 a1 a2).bind fun bt229 => ((conv9_60.f bt229.1).bind fun t231 => (octet_get_uint64.l0 k bt229.2 0 t231 (t231.length : Int) 0))) = some (r1, r2) := h
  clear h
  replace H := Option.bind_eq_some_iff.mp H
  obtain ⟨⟨t229, t230⟩, A40, H⟩ := H
  replace H : ((conv9_60.f t229).bind fun t231 => (octet_get_uint64.l0 k t230 0 t231 (t231.length : Int) 0)) = some (r1, r2) := H
  have A4 := Aside0.mk A40
  clear A40
  replace H := Option.bind_eq_some_iff.mp H
  obtain ⟨t231, A50, H⟩ := H
  replace H : (octet_get_uint64.l0 k t230 0 t231 (t231.length : Int) 0) = some (r1, r2) := H
  have A5 := Aside0.mk A50
  clear A50
  have H' := Aside0.mk H
  clear H
  go_enter Try.func90, Try.ntmps90
  go_wp2_with (first | ((with_reducible refine gate_callee (f := 88) rfl ?_); refine goesL_ (some 17) rfl rfl Try.func88 (by kernel_rfl) rfl #[.string a0, .int .i64 a1, .int .i64 a2] rfl (by (try simp only [List.map_toArray, List.map_cons, List.map_nil]); first | rfl) ?_; (with_reducible refine (octet_Cut.calls a0 a1 a2 t229 t230 _ A4.out).mono ?_); rintro e w6 ⟨rfl, hb⟩; refine ⟨_, rfl, ?_⟩; have n0_ := Aside0.mk (below_step HB.out hb); clear HB; have HB := n0_; clear n0_; (try clear hb); (try clear hb2); (try clear hk); (try clear hi)) | ((with_reducible refine gate_dst (N := 21) rfl ?_); refine XRun.convL_ 21 rfl rfl 9 60 5 Try.underlying9 Try.underlying60 Try.underlying5 t229 rfl (by rfl) ?_; (with_reducible refine (conv9_60.calls t229 t231 _ A5.out).mono ?_); rintro e w7 ⟨v232, rfl, ho0, hb⟩; refine ⟨_, rfl, ?_⟩; have n0_ := Aside0.mk (Kd.V_lower (Kd.V_mono (ok' := fun k_ => True) ho0 (fun k_ hk_ => trivial)) (below_size HB.out)); have n1_ := Aside0.mk (below_step HB.out hb); clear HB; have HO233 := n0_; have HB := n1_; clear n0_ n1_; (try clear hb); (try clear hb2); (try clear hk); (try clear hi); (try clear ho0); obtain ⟨Ao8, co8, eo8⟩ := Kd.V_slice HO233.out; subst eo8))
  go_loopg [10, 23] k (fun kq v10 v23 w' => ∃ (x10_1 : Int) (x23_1 : Int), v10 = .int .u64 x10_1 ∧ v23 = .int .i64 x23_1 ∧ Aside0 (octet_get_uint64.l0 kq t230 x10_1 t231 (t231.length : Int) x23_1 = some (r1, r2)) ∧ Aside0 (kq ≤ k) ∧ Aside0 (Kd.V (Kd.int .u8) 5 w' w.heap.size (fun _ => True) (.slice Ao8 t231.length co8) t231) ∧ Aside0 (Below w.heap.size w w'))
  case atStart => exact ⟨(0), (0), (by rfl), (by rfl), H', ⟨Nat.le_refl _⟩, ⟨by exact HO233.out⟩, ⟨by exact HB.out⟩⟩
  case round =>
    clear H'
    try clear p2
    try clear c8
    obtain ⟨x10_1, x23_1, rfl, rfl, HA, HK1, HO_21, HB⟩ := hrel
    cases gk with
    | zero => exact absurd HA.out (by simp [octet_get_uint64.l0])
    | succ k1 =>
      have H := HA.out
      clear HA
      simp only [octet_get_uint64.l0] at H
      by_cases c9 : x23_1 < (t231.length : Int)
      · rw [if_pos c9] at H
        have c9b0 : decide (x23_1 < (t231.length : Int)) = true := decide_eq_true c9
        clear c9
        by_cases c10 : 0 ≤ x23_1
        · rw [if_pos c10] at H
          have c10b0 : decide (0 ≤ x23_1) = true := decide_eq_true c10
          clear c10
          by_cases c11 : x23_1 < (t231.length : Int)
          · rw [if_pos c11] at H
            have c11b0 : decide (x23_1 < (t231.length : Int)) = true := decide_eq_true c11
            clear c11
            have H' := Aside0.mk H
            clear H
            have p234 : 0 ≤ (x23_1 : Int) := of_decide_eq_true (by first | (with_reducible assumption))
            have q234 : x23_1 < (t231.length : Int) := of_decide_eq_true (by first | (with_reducible assumption))
            obtain ⟨ad234, e234, hx234_0⟩ := Kd.at_int (Kd.V_reads' HO_21.out).2.2 x23_1 p234 q234
            cases e234
            replace p234 := eq_true p234
            replace q234 := eq_true q234
            go_wp2
            go_roundg k1
            case measure => have := HK1.out; omega
            case rel => exact ⟨(Go.bits .or .u64 (IntKind.u64.wrap (x10_1 * 256)) (IntKind.u64.wrap (rd t231 x23_1))), (wrap64 (x23_1 + 1)), (by rfl), (by rfl), H', ⟨by have := HK1.out; omega⟩, ⟨by exact HO_21.out⟩, ⟨by exact HB.out⟩⟩
          · rw [if_neg c11] at H
            exact absurd H (by simp)
        · rw [if_neg c10] at H
          exact absurd H (by simp)
      · rw [if_neg c9] at H
        have c9b0 : decide (x23_1 < (t231.length : Int)) = false := decide_eq_false c9
        clear c9
        simp only [Option.some.injEq, Prod.mk.injEq] at H
        obtain ⟨rfl, rfl⟩ := H
        go_wp2
        go_ret2
        exact ⟨by rfl, by exact HB.out⟩

/-! ### octet_Get64: function 71 -/
def octet_Get64.f (k : Nat) (a0 : ByteArray) (a1 : Int) : Option (Int × Bool) := (octet_get_uint64.f k a0 a1 8).bind fun bt235 => (some (bt235.1, bt235.2))
theorem octet_Get64.mono : ∀ a0 a1 k, LeO (octet_Get64.f k a0 a1) (octet_Get64.f (k + 1) a0 a1) := by
  intro a0 a1 k
  unfold octet_Get64.f
  repeat' first
      | (with_reducible exact octet_get_uint64.mono _ _ _ _)
      | (with_reducible exact LeO.refl _)
      | (with_reducible exact LeO.none _)
      | (with_reducible refine LeO.ite ?_ ?_)
      | (with_reducible refine LeO.bind ?_ (fun _ => ?_))
      | exact octet_get_uint64.mono _ _ _ _
      | exact LeO.none _
      | refine LeO.ite ?_ ?_
      | refine LeO.bind ?_ (fun _ => ?_)
set_option maxHeartbeats 8000000 in
set_option maxRecDepth 100000 in
theorem octet_Get64.calls (k : Nat) (a0 : ByteArray) (a1 : Int) (r1 : Int) (r2 : Bool) (w : World) (h : octet_Get64.f k a0 a1 = some (r1, r2)) :
    Calls Try.prog 71 #[.string a0, .int .i64 a1] w fun e w' => e = .returned (.tuple #[.int .u64 r1, .bool r2]) ∧ Below w.heap.size w w' := by
  have HB := Aside0.mk (Below.refl w.heap.size w)
  have H : ((octet_get_uint64.f k a0 a1 8).bind fun bt235 => (some (bt235.1, bt235.2))) = some (r1, r2) := h
  clear h
  replace H := Option.bind_eq_some_iff.mp H
  obtain ⟨⟨t235, t236⟩, A30, H⟩ := H
  replace H : (some (t235, t236)) = some (r1, r2) := H
  have A3 := Aside0.mk A30
  clear A30
  simp only [Option.some.injEq, Prod.mk.injEq] at H
  obtain ⟨rfl, rfl⟩ := H
  go_enter Try.func71, Try.ntmps71
  go_wp2_with (first | ((with_reducible refine gate_callee (f := 90) rfl ?_); refine goesL_ (some 8) rfl rfl Try.func90 (by kernel_rfl) rfl #[.string a0, .int .i64 a1, .int .i64 8] rfl (by (try simp only [List.map_toArray, List.map_cons, List.map_nil]); first | rfl) ?_; (with_reducible refine (octet_get_uint64.calls k a0 a1 8 t235 t236 _ A3.out).mono ?_); rintro e w4 ⟨rfl, hb⟩; refine ⟨_, rfl, ?_⟩; have n0_ := Aside0.mk (below_step HB.out hb); clear HB; have HB := n0_; clear n0_; (try clear hb); (try clear hb2); (try clear hk); (try clear hi)))
  go_ret2
  exact ⟨by rfl, by exact HB.out⟩

end Go.Proofs.Ytpdopkhdhbdljaa.X
