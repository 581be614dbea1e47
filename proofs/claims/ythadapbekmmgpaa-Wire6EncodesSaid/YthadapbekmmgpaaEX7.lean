/- Functions of the program as Lean functions, and that the calls come to them: no condition.  By this session's own program (wip/xprint). -/
import Derived.Test.YthadapbekmmgpaaEX0
import Derived.Test.YthadapbekmmgpaaEX4
import Derived.Test.YthadapbekmmgpaaEX5
import Derived.Test.YthadapbekmmgpaaEX6
namespace Go.Proofs.Ythadapbekmmgpaa.X
open Go.RowKit Go.Proofs.YthadapbekmmgpaaW.PrintWords Go.Proofs.YthadapbekmmgpaaW.PrintLast Go.Proofs.YthadapbekmmgpaaW.PrintMore
attribute [local go_sem] max2_int min2_int max_two min_two max_three min_three max_four min_four
set_option linter.unusedVariables false
set_option linter.unusedSimpArgs false

mutual
def tenancyref16_options.j0 : Nat → List (S42) → Int → Int → ByteArray → ByteArray → List (S51) → Int → Bool → Bool → Int → List (S42) → Option ((List (S42)) × Bool)
  | 0, _, _, _, _, _, _, _, _, _, _, _ => none
  | k + 1, x4, x345000, x345001, x345002, x345003, x345004, x345005, x345006, x345007, x345008, x345009 => if x345003.toList = ([] : List UInt8) then (tenancyref16_options.j1 k x4 x345000 x345001 x345002 x345003 x345004 x345005 x345006 x345007 x345008 x345009) else (if x4.length < 5864062014805 then (tenancyref16_options.j1 k (x4 ++ [(⟨2, x345003⟩ : S42)]) x345000 x345001 x345002 x345003 x345004 x345005 x345006 x345007 x345008 x345009) else (none))
def tenancyref16_options.j1 : Nat → List (S42) → Int → Int → ByteArray → ByteArray → List (S51) → Int → Bool → Bool → Int → List (S42) → Option ((List (S42)) × Bool)
  | 0, _, _, _, _, _, _, _, _, _, _, _ => none
  | k + 1, x4, x345000, x345001, x345002, x345003, x345004, x345005, x345006, x345007, x345008, x345009 => if x345005 ≥ 0 then ((tenancyref15_PutStatus.f k x345005).bind fun t354 => (if x4.length < 5864062014805 then (tenancyref16_options.j2 k (x4 ++ [(⟨13, t354⟩ : S42)]) x345000 x345001 x345002 x345003 x345004 x345005 x345006 x345007 x345008 x345009) else (none))) else (tenancyref16_options.j2 k x4 x345000 x345001 x345002 x345003 x345004 x345005 x345006 x345007 x345008 x345009)
def tenancyref16_options.j2 : Nat → List (S42) → Int → Int → ByteArray → ByteArray → List (S51) → Int → Bool → Bool → Int → List (S42) → Option ((List (S42)) × Bool)
  | 0, _, _, _, _, _, _, _, _, _, _, _ => none
  | k + 1, x4, x345000, x345001, x345002, x345003, x345004, x345005, x345006, x345007, x345008, x345009 => if x345006 = true then (if x4.length < 5864062014805 then (tenancyref16_options.j3 k (x4 ++ [(⟨14, (⟨#[]⟩ : ByteArray)⟩ : S42)]) x345000 x345001 x345002 x345003 x345004 x345005 x345006 x345007 x345008 x345009) else (none)) else (tenancyref16_options.j3 k x4 x345000 x345001 x345002 x345003 x345004 x345005 x345006 x345007 x345008 x345009)
def tenancyref16_options.j3 : Nat → List (S42) → Int → Int → ByteArray → ByteArray → List (S51) → Int → Bool → Bool → Int → List (S42) → Option ((List (S42)) × Bool)
  | 0, _, _, _, _, _, _, _, _, _, _, _ => none
  | k + 1, x4, x345000, x345001, x345002, x345003, x345004, x345005, x345006, x345007, x345008, x345009 => if x345007 = true then (if x4.length < 5864062014805 then (tenancyref16_options.j4 k (x4 ++ [(⟨20, (⟨#[]⟩ : ByteArray)⟩ : S42)]) x345000 x345001 x345002 x345003 x345004 x345005 x345006 x345007 x345008 x345009) else (none)) else (tenancyref16_options.j4 k x4 x345000 x345001 x345002 x345003 x345004 x345005 x345006 x345007 x345008 x345009)
def tenancyref16_options.j4 : Nat → List (S42) → Int → Int → ByteArray → ByteArray → List (S51) → Int → Bool → Bool → Int → List (S42) → Option ((List (S42)) × Bool)
  | 0, _, _, _, _, _, _, _, _, _, _, _ => none
  | k + 1, x4, x345000, x345001, x345002, x345003, x345004, x345005, x345006, x345007, x345008, x345009 => if x345008 = 0 then (tenancyref16_options.j5 k x4 x345000 x345001 x345002 x345003 x345004 x345005 x345006 x345007 x345008 x345009) else (if x4.length < 5864062014805 then (tenancyref16_options.j5 k (x4 ++ [(⟨19, strOfNums (([(x345008) % 256] : List Int))⟩ : S42)]) x345000 x345001 x345002 x345003 x345004 x345005 x345006 x345007 x345008 x345009) else (none))
def tenancyref16_options.j5 : Nat → List (S42) → Int → Int → ByteArray → ByteArray → List (S51) → Int → Bool → Bool → Int → List (S42) → Option ((List (S42)) × Bool)
  | 0, _, _, _, _, _, _, _, _, _, _, _ => none
  | k + 1, x4, x345000, x345001, x345002, x345003, x345004, x345005, x345006, x345007, x345008, x345009 => tenancyref16_options.l0 k x4 0 x345000 x345001 x345002 x345003 x345004 x345005 x345006 x345007 x345008 x345009
def tenancyref16_options.l0 : Nat → List (S42) → Int → Int → Int → ByteArray → ByteArray → List (S51) → Int → Bool → Bool → Int → List (S42) → Option ((List (S42)) × Bool)
  | 0, _, _, _, _, _, _, _, _, _, _, _, _ => none
  | k + 1, x4, x5, x345000, x345001, x345002, x345003, x345004, x345005, x345006, x345007, x345008, x345009 => if x5 < (x345004.length : Int) then (if 0 ≤ x5 then ((tenancyref15_PutIA.f k ((rd_T51 x345004 x5).f0) ((rd_T51 x345004 x5).f1) ((rd_T51 x345004 x5).f2) ((rd_T51 x345004 x5).f3) ((rd_T51 x345004 x5).f4) ((rd_T51 x345004 x5).f5)).bind fun bt371 => (if bt371.2.2 = 0 then (if x4.length < 5864062014805 then (tenancyref16_options.l0 k (x4 ++ [(⟨bt371.1, bt371.2.1⟩ : S42)]) (wrap64 (x5 + 1)) x345000 x345001 x345002 x345003 x345004 x345005 x345006 x345007 x345008 x345009) else (none)) else (some (([] : List (S42)), false)))) else (none)) else (if x4.length + x345009.length < 5864062014805 then (some ((x4 ++ x345009), true)) else (none))
end
def tenancyref16_options.f (k : Nat) (a0_0 : Int) (a0_1 : Int) (a0_2 : ByteArray) (a0_3 : ByteArray) (l0_4 : List (S51)) (a0_5 : Int) (a0_6 : Bool) (a0_7 : Bool) (a0_8 : Int) (l0_9 : List (S42)) : Option ((List (S42)) × Bool) := (some (([] : List (S42)) : List (S42))).bind fun y345 => (if a0_2.toList = ([] : List UInt8) then (tenancyref16_options.j0 k y345 a0_0 a0_1 a0_2 a0_3 l0_4 a0_5 a0_6 a0_7 a0_8 l0_9) else (if y345.length < 5864062014805 then (tenancyref16_options.j0 k (y345 ++ [(⟨1, a0_2⟩ : S42)]) a0_0 a0_1 a0_2 a0_3 l0_4 a0_5 a0_6 a0_7 a0_8 l0_9) else (none)))
set_option maxHeartbeats 8000000 in
set_option maxRecDepth 100000 in
theorem tenancyref16_options.calls (k : Nat) (a0_0 : Int) (a0_1 : Int) (a0_2 : ByteArray) (a0_3 : ByteArray) (A0_4 : Option Addr) (c0_4 : Nat) (l0_4 : List (S51)) (a0_5 : Int) (a0_6 : Bool) (a0_7 : Bool) (a0_8 : Int) (A0_9 : Option Addr) (c0_9 : Nat) (l0_9 : List (S42)) (r1 : List (S42)) (r2 : Bool) (w : World) (hr0_4 : Kd.C k51 w A0_4 l0_4.length l0_4) (hc0_4 : l0_4.length ≤ c0_4) (hr0_9 : Kd.C k42 w A0_9 l0_9.length l0_9) (hc0_9 : l0_9.length ≤ c0_9) (h : tenancyref16_options.f k a0_0 a0_1 a0_2 a0_3 l0_4 a0_5 a0_6 a0_7 a0_8 l0_9 = some (r1, r2)) :
 Calls Try.prog 24 #[.agg #[.int .i64 a0_0, .int .u32 a0_1, .string a0_2, .string a0_3, .slice A0_4 l0_4.length c0_4, .int .i64 a0_5, .bool a0_6, .bool a0_7, .int .i64 a0_8, .slice A0_9 l0_9.length c0_9]] w fun e w' => ∃ v0_ : Value, e = .returned (.tuple #[v0_, .bool r2]) ∧ Kd.R k42 42 w' w.heap.size (fun _ => True) v0_ r1 ∧ Below w.heap.size w w' := by
 have hu26 := Try.underlying26
 have hu42 := Try.underlying42
 have hu51 := Try.underlying51
 have HR0_4 := ak_ hr0_4
 have HC0_4 := ak_ hc0_4
 clear hr0_4 hc0_4
 have HR0_9 := ak_ hr0_9
 have HC0_9 := ak_ hc0_9
 clear hr0_9 hc0_9
 have HB := ak_ (Below.refl w.heap.size w)
 have H : ((some (([] : List (S42)) : List (S42))).bind fun y345 => (if a0_2.toList = ([] : List UInt8) then (tenancyref16_options.j0 k y345 a0_0 a0_1 a0_2 a0_3 l0_4 a0_5 a0_6 a0_7 a0_8 l0_9) else (if y345.length < 5864062014805 then (tenancyref16_options.j0 k (y345 ++ [(⟨1, a0_2⟩ : S42)]) a0_0 a0_1 a0_2 a0_3 l0_4 a0_5 a0_6 a0_7 a0_8 l0_9) else (none)))) = some (r1, r2) := h
 clear h
 obtain ⟨y345, hy345⟩ : ∃ y_ : List (S42), y_ = (([] : List (S42))) := ⟨_, rfl⟩
 replace H : (if a0_2.toList = ([] : List UInt8) then (tenancyref16_options.j0 k y345 a0_0 a0_1 a0_2 a0_3 l0_4 a0_5 a0_6 a0_7 a0_8 l0_9) else (if y345.length < 5864062014805 then (tenancyref16_options.j0 k (y345 ++ [(⟨1, a0_2⟩ : S42)]) a0_0 a0_1 a0_2 a0_3 l0_4 a0_5 a0_6 a0_7 a0_8 l0_9) else (none))) = some (r1, r2) := by first | (have H2_ := (Option.bind_some _ _).symm.trans H; rw [hy345]; with_reducible exact H2_)
 have Ny345 := ak_ hy345
 clear hy345
 have HC2 := ak_ H
 clear H
 go_enter Try.func24, Try.ntmps24
 go_upto_if 11 with (first | ((with_reducible refine gate_dst (N := 1) rfl ?_); refine box_event ?hg (N := 1) ?hd (cs := #[.int .i64 a0_0, .int .u32 a0_1, .string a0_2, .string a0_3, .slice A0_4 l0_4.length c0_4, .int .i64 a0_5, .bool a0_6, .bool a0_7, .int .i64 a0_8, .slice A0_9 l0_9.length c0_9]) (t := 26) ?hr ?_; (case hd => rfl); (case hg => rfl); (case hr => go_simp; done); intro gb344 hg w3 hbox hb; have BK344 := ak_ hbox; have GW344 := gz_ HB hg; have GE344 := gz_ HB hg; replace HB := bs_ HB hb; clear hb hbox hg) | ((with_reducible refine gate_dst (N := 8) rfl ?_); refine Kd.R_lit k42 _ 42 ?hg (N := 8) ?hd (xs := ([] : List (S42))) (inner := []) (ok := fun _ => True) (okp := fun _ => True) ?hr ?hp (fun _ hk => hk) trivial (Below.refl _ _) (Nat.le_refl _) (by simp) ?_; (case hd => rfl); (case hg => rfl); (case hr => go_simp; done); (case hp => exact (Reps.none _ _)); intro v346 w4 ho5 hb hg_ hnew_; clear hg_ hnew_; (first | rw [← Ny345.out] at ho5); have HO347 := ak_ (Kd.R_lower ho5 (below_size HB.out)); replace BK344 := bb_ BK344 hb; replace HB := bs_ HB hb; clear hb ho5; have hz6 := bz10_ BK344))
 (try simp only [Act.put, List.setIfInBounds_toArray, List.set_cons_zero, List.set_cons_succ])
 go_cut [4] (fun v4 wc => ∃ (kq : Nat) (x4_1 : List (S42)), Aside0 (tenancyref16_options.j0 kq x4_1 a0_0 a0_1 a0_2 a0_3 l0_4 a0_5 a0_6 a0_7 a0_8 l0_9 = some (r1, r2)) ∧ Aside0 (kq ≤ k) ∧ Aside0 (Kd.R k42 42 wc w.heap.size (fun _ => True) v4 x4_1) ∧ Aside0 (wc.heap[gb344]? = some (.cells #[.int .i64 a0_0, .int .u32 a0_1, .string a0_2, .string a0_3, (.slice A0_4 l0_4.length c0_4), .int .i64 a0_5, .bool a0_6, .bool a0_7, .int .i64 a0_8, (.slice A0_9 l0_9.length c0_9)] 26 (0, 0))) ∧ Aside0 (Below w.heap.size w wc))
 case first =>
  have H := HC2.out
  clear HC2
  by_cases c7 : a0_2.toList = ([] : List UInt8)
  ·rw [if_pos c7] at H
   have c7b0 : (a0_2.toList == ([] : List UInt8)) = true := beq_iff_eq.mpr c7
   have c7b1 : (a0_2.toList != ([] : List UInt8)) = false := bne_eq_false_iff_eq.mpr c7
   have c7be : a0_2.toList.isEmpty = true := by first | (rw [c7]; rfl)
   (try rw [c7be])
   clear c7
   (first | skip)
   have H' := ak_ H
   clear H
   go_wp2
   go_meet
   case rel => exact ⟨_, (y345), H', ⟨by omega⟩, ⟨by exact HO347.out⟩, ⟨by exact BK344.out⟩, ⟨by exact HB.out⟩⟩
  rw [if_neg c7] at H
  have c7b0 : (a0_2.toList == ([] : List UInt8)) = false := beq_eq_false_iff_ne.mpr c7
  have c7b1 : (a0_2.toList != ([] : List UInt8)) = true := bne_iff_ne.mpr c7
  have c7be : a0_2.toList.isEmpty = false := by first | (cases hq_ : a0_2.toList with | nil => exact absurd hq_ c7 | cons _ _ => rfl)
  (try rw [c7be])
  (first | skip)
  by_cases c8 : y345.length < 5864062014805
  ·rw [if_pos c8] at H
   have LMc8 := ak_ c8
   clear c8
   obtain ⟨y348, hy348⟩ : ∃ y_ : List (S42), y_ = (y345 ++ [(⟨1, a0_2⟩ : S42)]) := ⟨_, rfl⟩
   replace H : (tenancyref16_options.j0 k y348 a0_0 a0_1 a0_2 a0_3 l0_4 a0_5 a0_6 a0_7 a0_8 l0_9) = some (r1, r2) := by first | (rw [hy348]; with_reducible exact H)
   have Ny348 := ak_ hy348
   clear hy348
   have H' := ak_ H
   clear H
   have hz9 := bz10_ BK344
   go_wp2_with (first | ((with_reducible refine gate_builtin (b := .append) (xs := #[.tmp 12, .tmp 16]) rfl ?_); at_builtin; refine Kd.R_append k42 (w0 := w) w.heap.size rfl (.tmp 12) (.tmp 16) 24 42 (.agg #[(.int .u16 0), (.string ⟨#[]⟩)]) 24 rfl Try.underlying24 info42 rfl (by decide) (by omega) v346 y345 (⟨1, a0_2⟩ : S42) [.int .u16 1, .string a0_2] (fun _ => True) (fun _ => False) rfl rfl ?aP (fun _ hk => hk.elim) ?aF ?aO ?aB ?aS ?aL ?_; (case aP => exact k42_mkM _ _ _ (⟨1, a0_2⟩ : S42)); (case aB => exact HB.out); (case aF => exact (fun _ _ => trivial)); (case aO => exact HO347.out); (case aS => exact (below_size HB.out)); (case aL => have := LMc8.out; omega); intro v349 w10 ho hb hg hat; rw [← Ny348.out] at ho; replace BK344 := ak_ (blk_grown (g := gb344) (o := .cells #[.int .i64 a0_0, .int .u32 a0_1, .string a0_2, .string a0_3, .slice A0_4 l0_4.length c0_4, .int .i64 a0_5, .bool a0_6, .bool a0_7, .int .i64 a0_8, .slice A0_9 l0_9.length c0_9] 26 (0, 0)) BK344.out hg (Kd.R_ne HO347.out BK344.out (by decide))); replace HB := ak_ hb; have HO350 := ak_ ho; clear HO347; clear ho hb hg hat))
   go_meet
   case rel => exact ⟨_, (y348), H', ⟨by omega⟩, ⟨by exact HO350.out⟩, ⟨by exact BK344.out⟩, ⟨by exact HB.out⟩⟩
  rw [if_neg c8] at H
  exact absurd H (by simp)
 case rest =>
 clear HC2
 try clear c2
 try clear p2
 try clear c7
 try clear c7b0
 try clear c7b1
 try clear c8
 try clear hz6
 try clear hz9
 obtain ⟨kq, x4_1, HA, HJ1, HO_4, BK344, HB⟩ := hcut
 cases kq with
 | zero => exact absurd HA.out (by simp [tenancyref16_options.j0])
 | succ kj1 =>
 have H := HA.out
 clear HA
 simp only [tenancyref16_options.j0] at H
 have HC11 := ak_ H
 clear H
 have hz12 := bz10_ BK344
 go_upto_if 20 with (fail)
 go_cut [4] (fun v4 wc => ∃ (kq : Nat) (x4_10 : List (S42)), Aside0 (tenancyref16_options.j1 kq x4_10 a0_0 a0_1 a0_2 a0_3 l0_4 a0_5 a0_6 a0_7 a0_8 l0_9 = some (r1, r2)) ∧ Aside0 (kq ≤ kj1) ∧ Aside0 (Kd.R k42 42 wc w.heap.size (fun _ => True) v4 x4_10) ∧ Aside0 (wc.heap[gb344]? = some (.cells #[.int .i64 a0_0, .int .u32 a0_1, .string a0_2, .string a0_3, (.slice A0_4 l0_4.length c0_4), .int .i64 a0_5, .bool a0_6, .bool a0_7, .int .i64 a0_8, (.slice A0_9 l0_9.length c0_9)] 26 (0, 0))) ∧ Aside0 (Below w.heap.size w wc))
 case first =>
  have H := HC11.out
  clear HC11
  by_cases c13 : a0_3.toList = ([] : List UInt8)
  ·rw [if_pos c13] at H
   have c13b0 : (a0_3.toList == ([] : List UInt8)) = true := beq_iff_eq.mpr c13
   have c13b1 : (a0_3.toList != ([] : List UInt8)) = false := bne_eq_false_iff_eq.mpr c13
   have c13be : a0_3.toList.isEmpty = true := by first | (rw [c13]; rfl)
   (try rw [c13be])
   clear c13
   (first | skip)
   have H' := ak_ H
   clear H
   go_wp2
   go_meet
   case rel => exact ⟨_, (x4_1), H', ⟨by have := HJ1.out; first | omega⟩, ⟨by exact HO_4.out⟩, ⟨by exact BK344.out⟩, ⟨by exact HB.out⟩⟩
  rw [if_neg c13] at H
  have c13b0 : (a0_3.toList == ([] : List UInt8)) = false := beq_eq_false_iff_ne.mpr c13
  have c13b1 : (a0_3.toList != ([] : List UInt8)) = true := bne_iff_ne.mpr c13
  have c13be : a0_3.toList.isEmpty = false := by first | (cases hq_ : a0_3.toList with | nil => exact absurd hq_ c13 | cons _ _ => rfl)
  (try rw [c13be])
  (first | skip)
  by_cases c14 : x4_1.length < 5864062014805
  ·rw [if_pos c14] at H
   have LMc14 := ak_ c14
   clear c14
   obtain ⟨y351, hy351⟩ : ∃ y_ : List (S42), y_ = (x4_1 ++ [(⟨2, a0_3⟩ : S42)]) := ⟨_, rfl⟩
   replace H : (tenancyref16_options.j1 kj1 y351 a0_0 a0_1 a0_2 a0_3 l0_4 a0_5 a0_6 a0_7 a0_8 l0_9) = some (r1, r2) := by first | (rw [hy351]; with_reducible exact H)
   have Ny351 := ak_ hy351
   clear hy351
   have H' := ak_ H
   clear H
   have hz15 := bz10_ BK344
   go_wp2_with (first | ((with_reducible refine gate_builtin (b := .append) (xs := #[.tmp 21, .tmp 25]) rfl ?_); at_builtin; refine Kd.R_append k42 (w0 := w) w.heap.size rfl (.tmp 21) (.tmp 25) 24 42 (.agg #[(.int .u16 0), (.string ⟨#[]⟩)]) 24 rfl Try.underlying24 info42 rfl (by decide) (by omega) u4 x4_1 (⟨2, a0_3⟩ : S42) [.int .u16 2, .string a0_3] (fun _ => True) (fun _ => False) rfl rfl ?aP (fun _ hk => hk.elim) ?aF ?aO ?aB ?aS ?aL ?_; (case aP => exact k42_mkM _ _ _ (⟨2, a0_3⟩ : S42)); (case aB => exact HB.out); (case aF => exact (fun _ _ => trivial)); (case aO => exact HO_4.out); (case aS => exact (below_size HB.out)); (case aL => have := LMc14.out; omega); intro v352 w16 ho hb hg hat; rw [← Ny351.out] at ho; replace BK344 := ak_ (blk_grown (g := gb344) (o := .cells #[.int .i64 a0_0, .int .u32 a0_1, .string a0_2, .string a0_3, .slice A0_4 l0_4.length c0_4, .int .i64 a0_5, .bool a0_6, .bool a0_7, .int .i64 a0_8, .slice A0_9 l0_9.length c0_9] 26 (0, 0)) BK344.out hg (Kd.R_ne HO_4.out BK344.out (by decide))); replace HB := ak_ hb; have HO353 := ak_ ho; clear HO_4; clear ho hb hg hat))
   go_meet
   case rel => exact ⟨_, (y351), H', ⟨by have := HJ1.out; first | omega⟩, ⟨by exact HO353.out⟩, ⟨by exact BK344.out⟩, ⟨by exact HB.out⟩⟩
  rw [if_neg c14] at H
  exact absurd H (by simp)
 case rest =>
 clear HC11
 try clear c1
 try clear c2
 try clear p2
 try clear c7
 try clear c7b0
 try clear c7b1
 try clear c8
 try clear c13
 try clear c13b0
 try clear c13b1
 try clear c14
 try clear hz12
 try clear hz15
 try clear hz6
 try clear hz9
 try clear p2
 obtain ⟨kq, x4_10, HA, HJ10, HO_4, BK344, HB⟩ := hcut
 cases kq with
 | zero => exact absurd HA.out (by simp [tenancyref16_options.j1])
 | succ kj10 =>
 have H := HA.out
 clear HA
 simp only [tenancyref16_options.j1] at H
 have HC17 := ak_ H
 clear H
 have hz18 := bz10_ BK344
 go_upto_if 29 with (fail)
 go_cut [4] (fun v4 wc => ∃ (kq : Nat) (x4_16 : List (S42)), Aside0 (tenancyref16_options.j2 kq x4_16 a0_0 a0_1 a0_2 a0_3 l0_4 a0_5 a0_6 a0_7 a0_8 l0_9 = some (r1, r2)) ∧ Aside0 (kq ≤ kj10) ∧ Aside0 (Kd.R k42 42 wc w.heap.size (fun _ => True) v4 x4_16) ∧ Aside0 (wc.heap[gb344]? = some (.cells #[.int .i64 a0_0, .int .u32 a0_1, .string a0_2, .string a0_3, (.slice A0_4 l0_4.length c0_4), .int .i64 a0_5, .bool a0_6, .bool a0_7, .int .i64 a0_8, (.slice A0_9 l0_9.length c0_9)] 26 (0, 0))) ∧ Aside0 (Below w.heap.size w wc))
 case first =>
  have H := HC17.out
  clear HC17
  by_cases c19 : a0_5 ≥ 0
  ·rw [if_pos c19] at H
   have c19b0 : decide (0 ≤ a0_5) = true := decide_eq_true c19
   clear c19
   rw [c19b0]
   replace H := Option.bind_eq_some_iff.mp H
   obtain ⟨t354, A200, H⟩ := H
   replace H : (if x4_10.length < 5864062014805 then (tenancyref16_options.j2 kj10 (x4_10 ++ [(⟨13, t354⟩ : S42)]) a0_0 a0_1 a0_2 a0_3 l0_4 a0_5 a0_6 a0_7 a0_8 l0_9) else (none)) = some (r1, r2) := H
   have A20 := ak_ A200
   clear A200
   by_cases c21 : x4_10.length < 5864062014805
   ·rw [if_pos c21] at H
    have LMc21 := ak_ c21
    clear c21
    obtain ⟨y355, hy355⟩ : ∃ y_ : List (S42), y_ = (x4_10 ++ [(⟨13, t354⟩ : S42)]) := ⟨_, rfl⟩
    replace H : (tenancyref16_options.j2 kj10 y355 a0_0 a0_1 a0_2 a0_3 l0_4 a0_5 a0_6 a0_7 a0_8 l0_9) = some (r1, r2) := by first | (rw [hy355]; with_reducible exact H)
    have Ny355 := ak_ hy355
    clear hy355
    have H' := ak_ H
    clear H
    have hz22 := bz10_ BK344
    go_wp2_with (first | ((with_reducible refine gate_callee (f := 45) rfl ?_); refine goesL_ (some 33) rfl rfl Try.func45 (by kernel_rfl) rfl #[.int .i64 a0_5] rfl (by (try simp only [List.map_toArray, List.map_cons, List.map_nil]); first | rfl) ?_; (with_reducible refine (tenancyref15_PutStatus.calls kj10 a0_5 t354 _ A20.out).mono ?_); rintro e w23 ⟨rfl, hb⟩; refine ⟨_, rfl, ?_⟩; replace HO_4 := ak_ (Kd.R_below HO_4.out hb); replace BK344 := bb_ BK344 hb; replace HB := bs_ HB hb; (try clear hb)) | ((with_reducible refine gate_builtin (b := .append) (xs := #[.tmp 30, .tmp 35]) rfl ?_); at_builtin; refine Kd.R_append k42 (w0 := w) w.heap.size rfl (.tmp 30) (.tmp 35) 24 42 (.agg #[(.int .u16 0), (.string ⟨#[]⟩)]) 24 rfl Try.underlying24 info42 rfl (by decide) (by omega) u4 x4_10 (⟨13, t354⟩ : S42) [.int .u16 13, .string t354] (fun _ => True) (fun _ => False) rfl rfl ?aP (fun _ hk => hk.elim) ?aF ?aO ?aB ?aS ?aL ?_; (case aP => exact k42_mkM _ _ _ (⟨13, t354⟩ : S42)); (case aB => exact HB.out); (case aF => exact (fun _ _ => trivial)); (case aO => exact HO_4.out); (case aS => exact (below_size HB.out)); (case aL => have := LMc21.out; omega); intro v356 w24 ho hb hg hat; rw [← Ny355.out] at ho; replace BK344 := ak_ (blk_grown (g := gb344) (o := .cells #[.int .i64 a0_0, .int .u32 a0_1, .string a0_2, .string a0_3, .slice A0_4 l0_4.length c0_4, .int .i64 a0_5, .bool a0_6, .bool a0_7, .int .i64 a0_8, .slice A0_9 l0_9.length c0_9] 26 (0, 0)) BK344.out hg (Kd.R_ne HO_4.out BK344.out (by decide))); replace HB := ak_ hb; have HO357 := ak_ ho; clear HO_4; clear ho hb hg hat))
    go_meet
    case rel => exact ⟨_, (y355), H', ⟨by have := HJ1.out; have := HJ10.out; first | omega⟩, ⟨by exact HO357.out⟩, ⟨by exact BK344.out⟩, ⟨by exact HB.out⟩⟩
   rw [if_neg c21] at H
   exact absurd H (by simp)
  rw [if_neg c19] at H
  have c19b0 : decide (0 ≤ a0_5) = false := decide_eq_false c19
  clear c19
  rw [c19b0]
  have H' := ak_ H
  clear H
  go_wp2
  go_meet
  case rel => exact ⟨_, (x4_10), H', ⟨by have := HJ1.out; have := HJ10.out; first | omega⟩, ⟨by exact HO_4.out⟩, ⟨by exact BK344.out⟩, ⟨by exact HB.out⟩⟩
 case rest =>
 clear HC17
 try clear c1
 try clear c2
 try clear p2
 try clear c4
 try clear c7
 try clear c7b0
 try clear c7b1
 try clear c8
 try clear c13
 try clear c13b0
 try clear c13b1
 try clear c14
 try clear c19
 try clear c19b0
 try clear c21
 try clear c24
 try clear hz12
 try clear hz15
 try clear hz18
 try clear hz22
 try clear hz6
 try clear hz9
 try clear p2
 obtain ⟨kq, x4_16, HA, HJ16, HO_4, BK344, HB⟩ := hcut
 cases kq with
 | zero => exact absurd HA.out (by simp [tenancyref16_options.j2])
 | succ kj16 =>
 have H := HA.out
 clear HA
 simp only [tenancyref16_options.j2] at H
 have HC25 := ak_ H
 clear H
 have hz26 := bz10_ BK344
 go_upto_if 38 with (fail)
 go_cut [4] (fun v4 wc => ∃ (kq : Nat) (x4_24 : List (S42)), Aside0 (tenancyref16_options.j3 kq x4_24 a0_0 a0_1 a0_2 a0_3 l0_4 a0_5 a0_6 a0_7 a0_8 l0_9 = some (r1, r2)) ∧ Aside0 (kq ≤ kj16) ∧ Aside0 (Kd.R k42 42 wc w.heap.size (fun _ => True) v4 x4_24) ∧ Aside0 (wc.heap[gb344]? = some (.cells #[.int .i64 a0_0, .int .u32 a0_1, .string a0_2, .string a0_3, (.slice A0_4 l0_4.length c0_4), .int .i64 a0_5, .bool a0_6, .bool a0_7, .int .i64 a0_8, (.slice A0_9 l0_9.length c0_9)] 26 (0, 0))) ∧ Aside0 (Below w.heap.size w wc))
 case first =>
  have H := HC25.out
  clear HC25
  by_cases c27 : a0_6 = true
  ·subst c27
   have H1 : (if x4_16.length < 5864062014805 then (tenancyref16_options.j3 kj16 (x4_16 ++ [(⟨14, (⟨#[]⟩ : ByteArray)⟩ : S42)]) a0_0 a0_1 a0_2 a0_3 l0_4 a0_5 true a0_7 a0_8 l0_9) else (none)) = some (r1, r2) := by rw [if_pos rfl] at H; exact H
   clear H
   have H := H1
   clear H1
   by_cases c28 : x4_16.length < 5864062014805
   ·rw [if_pos c28] at H
    have LMc28 := ak_ c28
    clear c28
    obtain ⟨y358, hy358⟩ : ∃ y_ : List (S42), y_ = (x4_16 ++ [(⟨14, (⟨#[]⟩ : ByteArray)⟩ : S42)]) := ⟨_, rfl⟩
    replace H : (tenancyref16_options.j3 kj16 y358 a0_0 a0_1 a0_2 a0_3 l0_4 a0_5 true a0_7 a0_8 l0_9) = some (r1, r2) := by first | (rw [hy358]; with_reducible exact H)
    have Ny358 := ak_ hy358
    clear hy358
    have H' := ak_ H
    clear H
    go_wp2_with (first | ((with_reducible refine gate_builtin (b := .append) (xs := #[.tmp 39, .tmp 41]) rfl ?_); at_builtin; refine Kd.R_append k42 (w0 := w) w.heap.size rfl (.tmp 39) (.tmp 41) 24 42 (.agg #[(.int .u16 0), (.string ⟨#[]⟩)]) 24 rfl Try.underlying24 info42 rfl (by decide) (by omega) u4 x4_16 (⟨14, (⟨#[]⟩ : ByteArray)⟩ : S42) [.int .u16 14, .string (⟨#[]⟩ : ByteArray)] (fun _ => True) (fun _ => False) rfl rfl ?aP (fun _ hk => hk.elim) ?aF ?aO ?aB ?aS ?aL ?_; (case aP => exact k42_mkM _ _ _ (⟨14, (⟨#[]⟩ : ByteArray)⟩ : S42)); (case aB => exact HB.out); (case aF => exact (fun _ _ => trivial)); (case aO => exact HO_4.out); (case aS => exact (below_size HB.out)); (case aL => have := LMc28.out; omega); intro v359 w29 ho hb hg hat; rw [← Ny358.out] at ho; replace BK344 := ak_ (blk_grown (g := gb344) (o := .cells #[.int .i64 a0_0, .int .u32 a0_1, .string a0_2, .string a0_3, .slice A0_4 l0_4.length c0_4, .int .i64 a0_5, .bool true, .bool a0_7, .int .i64 a0_8, .slice A0_9 l0_9.length c0_9] 26 (0, 0)) BK344.out hg (Kd.R_ne HO_4.out BK344.out (by decide))); replace HB := ak_ hb; have HO360 := ak_ ho; clear HO_4; clear ho hb hg hat))
    go_meet
    case rel => exact ⟨_, (y358), H', ⟨by have := HJ1.out; have := HJ10.out; have := HJ16.out; first | omega⟩, ⟨by exact HO360.out⟩, ⟨by exact BK344.out⟩, ⟨by exact HB.out⟩⟩
   rw [if_neg c28] at H
   exact absurd H (by simp)
  replace c27 := Bool.eq_false_iff.mpr c27
  subst c27
  have H1 : (tenancyref16_options.j3 kj16 x4_16 a0_0 a0_1 a0_2 a0_3 l0_4 a0_5 false a0_7 a0_8 l0_9) = some (r1, r2) := by rw [if_neg (show ¬ (false = true) by decide)] at H; exact H
  clear H
  have H := H1
  clear H1
  have H' := ak_ H
  clear H
  go_wp2
  go_meet
  case rel => exact ⟨_, (x4_16), H', ⟨by have := HJ1.out; have := HJ10.out; have := HJ16.out; first | omega⟩, ⟨by exact HO_4.out⟩, ⟨by exact BK344.out⟩, ⟨by exact HB.out⟩⟩
 case rest =>
 clear HC25
 try clear c1
 try clear c2
 try clear p2
 try clear c4
 try clear c7
 try clear c7b0
 try clear c7b1
 try clear c8
 try clear c13
 try clear c13b0
 try clear c13b1
 try clear c14
 try clear c19
 try clear c19b0
 try clear c21
 try clear c24
 try clear c27
 try clear c28
 try clear hz12
 try clear hz15
 try clear hz18
 try clear hz22
 try clear hz26
 try clear hz6
 try clear hz9
 try clear p2
 obtain ⟨kq, x4_24, HA, HJ24, HO_4, BK344, HB⟩ := hcut
 cases kq with
 | zero => exact absurd HA.out (by simp [tenancyref16_options.j3])
 | succ kj24 =>
 have H := HA.out
 clear HA
 simp only [tenancyref16_options.j3] at H
 have HC30 := ak_ H
 clear H
 have hz31 := bz10_ BK344
 go_upto_if 44 with (fail)
 go_cut [4] (fun v4 wc => ∃ (kq : Nat) (x4_29 : List (S42)), Aside0 (tenancyref16_options.j4 kq x4_29 a0_0 a0_1 a0_2 a0_3 l0_4 a0_5 a0_6 a0_7 a0_8 l0_9 = some (r1, r2)) ∧ Aside0 (kq ≤ kj24) ∧ Aside0 (Kd.R k42 42 wc w.heap.size (fun _ => True) v4 x4_29) ∧ Aside0 (wc.heap[gb344]? = some (.cells #[.int .i64 a0_0, .int .u32 a0_1, .string a0_2, .string a0_3, (.slice A0_4 l0_4.length c0_4), .int .i64 a0_5, .bool a0_6, .bool a0_7, .int .i64 a0_8, (.slice A0_9 l0_9.length c0_9)] 26 (0, 0))) ∧ Aside0 (Below w.heap.size w wc))
 case first =>
  have H := HC30.out
  clear HC30
  by_cases c32 : a0_7 = true
  ·subst c32
   have H1 : (if x4_24.length < 5864062014805 then (tenancyref16_options.j4 kj24 (x4_24 ++ [(⟨20, (⟨#[]⟩ : ByteArray)⟩ : S42)]) a0_0 a0_1 a0_2 a0_3 l0_4 a0_5 a0_6 true a0_8 l0_9) else (none)) = some (r1, r2) := by rw [if_pos rfl] at H; exact H
   clear H
   have H := H1
   clear H1
   by_cases c33 : x4_24.length < 5864062014805
   ·rw [if_pos c33] at H
    have LMc33 := ak_ c33
    clear c33
    obtain ⟨y361, hy361⟩ : ∃ y_ : List (S42), y_ = (x4_24 ++ [(⟨20, (⟨#[]⟩ : ByteArray)⟩ : S42)]) := ⟨_, rfl⟩
    replace H : (tenancyref16_options.j4 kj24 y361 a0_0 a0_1 a0_2 a0_3 l0_4 a0_5 a0_6 true a0_8 l0_9) = some (r1, r2) := by first | (rw [hy361]; with_reducible exact H)
    have Ny361 := ak_ hy361
    clear hy361
    have H' := ak_ H
    clear H
    go_wp2_with (first | ((with_reducible refine gate_builtin (b := .append) (xs := #[.tmp 45, .tmp 47]) rfl ?_); at_builtin; refine Kd.R_append k42 (w0 := w) w.heap.size rfl (.tmp 45) (.tmp 47) 24 42 (.agg #[(.int .u16 0), (.string ⟨#[]⟩)]) 24 rfl Try.underlying24 info42 rfl (by decide) (by omega) u4 x4_24 (⟨20, (⟨#[]⟩ : ByteArray)⟩ : S42) [.int .u16 20, .string (⟨#[]⟩ : ByteArray)] (fun _ => True) (fun _ => False) rfl rfl ?aP (fun _ hk => hk.elim) ?aF ?aO ?aB ?aS ?aL ?_; (case aP => exact k42_mkM _ _ _ (⟨20, (⟨#[]⟩ : ByteArray)⟩ : S42)); (case aB => exact HB.out); (case aF => exact (fun _ _ => trivial)); (case aO => exact HO_4.out); (case aS => exact (below_size HB.out)); (case aL => have := LMc33.out; omega); intro v362 w34 ho hb hg hat; rw [← Ny361.out] at ho; replace BK344 := ak_ (blk_grown (g := gb344) (o := .cells #[.int .i64 a0_0, .int .u32 a0_1, .string a0_2, .string a0_3, .slice A0_4 l0_4.length c0_4, .int .i64 a0_5, .bool a0_6, .bool true, .int .i64 a0_8, .slice A0_9 l0_9.length c0_9] 26 (0, 0)) BK344.out hg (Kd.R_ne HO_4.out BK344.out (by decide))); replace HB := ak_ hb; have HO363 := ak_ ho; clear HO_4; clear ho hb hg hat))
    go_meet
    case rel => exact ⟨_, (y361), H', ⟨by have := HJ1.out; have := HJ10.out; have := HJ16.out; have := HJ24.out; first | omega⟩, ⟨by exact HO363.out⟩, ⟨by exact BK344.out⟩, ⟨by exact HB.out⟩⟩
   rw [if_neg c33] at H
   exact absurd H (by simp)
  replace c32 := Bool.eq_false_iff.mpr c32
  subst c32
  have H1 : (tenancyref16_options.j4 kj24 x4_24 a0_0 a0_1 a0_2 a0_3 l0_4 a0_5 a0_6 false a0_8 l0_9) = some (r1, r2) := by rw [if_neg (show ¬ (false = true) by decide)] at H; exact H
  clear H
  have H := H1
  clear H1
  have H' := ak_ H
  clear H
  go_wp2
  go_meet
  case rel => exact ⟨_, (x4_24), H', ⟨by have := HJ1.out; have := HJ10.out; have := HJ16.out; have := HJ24.out; first | omega⟩, ⟨by exact HO_4.out⟩, ⟨by exact BK344.out⟩, ⟨by exact HB.out⟩⟩
 case rest =>
 clear HC30
 try clear c1
 try clear c2
 try clear p2
 try clear c3
 try clear c4
 try clear c7
 try clear c7b0
 try clear c7b1
 try clear c8
 try clear c13
 try clear c13b0
 try clear c13b1
 try clear c14
 try clear c19
 try clear c19b0
 try clear c21
 try clear c24
 try clear c27
 try clear c28
 try clear c32
 try clear c33
 try clear hz12
 try clear hz15
 try clear hz18
 try clear hz22
 try clear hz26
 try clear hz31
 try clear hz6
 try clear hz9
 try clear p2
 obtain ⟨kq, x4_29, HA, HJ29, HO_4, BK344, HB⟩ := hcut
 cases kq with
 | zero => exact absurd HA.out (by simp [tenancyref16_options.j4])
 | succ kj29 =>
 have H := HA.out
 clear HA
 simp only [tenancyref16_options.j4] at H
 have HC35 := ak_ H
 clear H
 have hz36 := bz10_ BK344
 go_upto_if 51 with (fail)
 go_cut [4] (fun v4 wc => ∃ (kq : Nat) (x4_34 : List (S42)), Aside0 (tenancyref16_options.j5 kq x4_34 a0_0 a0_1 a0_2 a0_3 l0_4 a0_5 a0_6 a0_7 a0_8 l0_9 = some (r1, r2)) ∧ Aside0 (kq ≤ kj29) ∧ Aside0 (Kd.R k42 42 wc w.heap.size (fun _ => True) v4 x4_34) ∧ Aside0 (wc.heap[gb344]? = some (.cells #[.int .i64 a0_0, .int .u32 a0_1, .string a0_2, .string a0_3, (.slice A0_4 l0_4.length c0_4), .int .i64 a0_5, .bool a0_6, .bool a0_7, .int .i64 a0_8, (.slice A0_9 l0_9.length c0_9)] 26 (0, 0))) ∧ Aside0 (Below w.heap.size w wc))
 case first =>
  have H := HC35.out
  clear HC35
  by_cases c37 : a0_8 = 0
  ·rw [if_pos c37] at H
   have c37b0 : (a0_8 == 0) = true := beq_iff_eq.mpr c37
   have c37b1 : (a0_8 != 0) = false := bne_eq_false_iff_eq.mpr c37
   clear c37
   (first | skip)
   have H' := ak_ H
   clear H
   go_wp2
   go_meet
   case rel => exact ⟨_, (x4_29), H', ⟨by have := HJ1.out; have := HJ10.out; have := HJ16.out; have := HJ24.out; have := HJ29.out; first | omega⟩, ⟨by exact HO_4.out⟩, ⟨by exact BK344.out⟩, ⟨by exact HB.out⟩⟩
  rw [if_neg c37] at H
  have c37b0 : (a0_8 == 0) = false := beq_eq_false_iff_ne.mpr c37
  have c37b1 : (a0_8 != 0) = true := bne_iff_ne.mpr c37
  (first | skip)
  obtain ⟨y364, hy364⟩ : ∃ y_ : List Int, y_ = (([(a0_8) % 256] : List Int)) := ⟨_, rfl⟩
  replace H : (if x4_29.length < 5864062014805 then (tenancyref16_options.j5 kj29 (x4_29 ++ [(⟨19, strOfNums y364⟩ : S42)]) a0_0 a0_1 a0_2 a0_3 l0_4 a0_5 a0_6 a0_7 a0_8 l0_9) else (none)) = some (r1, r2) := by first | (rw [hy364]; with_reducible exact H)
  have Ny364 := ak_ hy364
  clear hy364
  by_cases c38 : x4_29.length < 5864062014805
  ·rw [if_pos c38] at H
   have LMc38 := ak_ c38
   clear c38
   obtain ⟨y367, hy367⟩ : ∃ y_ : List (S42), y_ = (x4_29 ++ [(⟨19, strOfNums y364⟩ : S42)]) := ⟨_, rfl⟩
   replace H : (tenancyref16_options.j5 kj29 y367 a0_0 a0_1 a0_2 a0_3 l0_4 a0_5 a0_6 a0_7 a0_8 l0_9) = some (r1, r2) := by first | (rw [hy367]; with_reducible exact H)
   have Ny367 := ak_ hy367
   clear hy367
   have H' := ak_ H
   clear H
   have hz39 := bz10_ BK344
   go_wp2_with (first | ((with_reducible refine gate_dst (N := 56) rfl ?_); refine Kd.R_lit (Kd.int .u8) _ 5 ?hg (N := 56) ?hd (xs := ([(a0_8) % 256] : List Int)) (inner := [.int .u8 ((a0_8) % 256)]) (ok := fun _ => True) (okp := fun _ => True) ?hr ?hp (fun _ hk => hk) trivial (Below.refl _ _) (Nat.le_refl _) (by simp) ?_; (case hd => rfl); (case hg => rfl); (case hr => go_simp; done); (case hp => exact (Reps.one (show Kd.M (Kd.int .u8) _ _ _ ((a0_8) % 256) [.int .u8 ((a0_8) % 256)] from rfl) (Reps.none _ _))); intro v365 w40 ho41 hb hg_ hnew_; clear hg_ hnew_; (first | rw [← Ny364.out] at ho41); replace HO_4 := ak_ (Kd.R_below HO_4.out hb); have HO366 := ak_ (Kd.R_lower ho41 (below_size HB.out)); replace BK344 := bb_ BK344 hb; replace HB := bs_ HB hb; clear hb ho41; have hcv42 := own_string (P := Try.prog) Try.underlying47 Try.underlying5 Try.underlying9 (Kd.own_of_R HO366.out)) | ((with_reducible refine gate_builtin (b := .append) (xs := #[.tmp 52, .tmp 59]) rfl ?_); at_builtin; refine Kd.R_append k42 (w0 := w) w.heap.size rfl (.tmp 52) (.tmp 59) 24 42 (.agg #[(.int .u16 0), (.string ⟨#[]⟩)]) 24 rfl Try.underlying24 info42 rfl (by decide) (by omega) u4 x4_29 (⟨19, strOfNums y364⟩ : S42) [.int .u16 19, .string (strOfNums y364)] (fun _ => True) (fun _ => False) rfl rfl ?aP (fun _ hk => hk.elim) ?aF ?aO ?aB ?aS ?aL ?_; (case aP => exact k42_mkM _ _ _ (⟨19, strOfNums y364⟩ : S42)); (case aB => exact HB.out); (case aF => exact (fun _ _ => trivial)); (case aO => exact HO_4.out); (case aS => exact (below_size HB.out)); (case aL => have := LMc38.out; omega); intro v368 w43 ho hb hg hat; rw [← Ny367.out] at ho; replace BK344 := ak_ (blk_grown (g := gb344) (o := .cells #[.int .i64 a0_0, .int .u32 a0_1, .string a0_2, .string a0_3, .slice A0_4 l0_4.length c0_4, .int .i64 a0_5, .bool a0_6, .bool a0_7, .int .i64 a0_8, .slice A0_9 l0_9.length c0_9] 26 (0, 0)) BK344.out hg (Kd.R_ne HO_4.out BK344.out (by decide))); replace HO366 := ak_ (Kd.R_over' HO366.out (Kd.R_typed HO_4.out) (by decide) hg); replace HB := ak_ hb; have HO369 := ak_ ho; clear HO_4; clear ho hb hg hat))
   go_meet
   case rel => exact ⟨_, (y367), H', ⟨by have := HJ1.out; have := HJ10.out; have := HJ16.out; have := HJ24.out; have := HJ29.out; first | omega⟩, ⟨by exact HO369.out⟩, ⟨by exact BK344.out⟩, ⟨by exact HB.out⟩⟩
  rw [if_neg c38] at H
  exact absurd H (by simp)
 case rest =>
 clear HC35
 try clear c1
 try clear c2
 try clear p2
 try clear c3
 try clear c4
 try clear hcv4
 try clear c7
 try clear c7b0
 try clear c7b1
 try clear c8
 try clear c13
 try clear c13b0
 try clear c13b1
 try clear c14
 try clear c19
 try clear c19b0
 try clear c21
 try clear c24
 try clear c27
 try clear c28
 try clear c32
 try clear c33
 try clear c37
 try clear c37b0
 try clear c37b1
 try clear c38
 try clear hcv42
 try clear hz12
 try clear hz15
 try clear hz18
 try clear hz22
 try clear hz26
 try clear hz31
 try clear hz36
 try clear hz39
 try clear hz6
 try clear hz9
 try clear p2
 obtain ⟨kq, x4_34, HA, HJ34, HO_4, BK344, HB⟩ := hcut
 cases kq with
 | zero => exact absurd HA.out (by simp [tenancyref16_options.j5])
 | succ kj34 =>
 have H := HA.out
 clear HA
 simp only [tenancyref16_options.j5] at H
 have H' := ak_ H
 clear H
 go_wp2
 go_loopg [4, 5] kj34 (fun kq v4 v5 w' => ∃ (x4_7 : List (S42)) (x5_7 : Int), v5 = .int .i64 x5_7 ∧ Aside0 (tenancyref16_options.l0 kq x4_7 x5_7 a0_0 a0_1 a0_2 a0_3 l0_4 a0_5 a0_6 a0_7 a0_8 l0_9 = some (r1, r2)) ∧ Aside0 (kq ≤ kj34) ∧ Aside0 (Kd.R k42 42 w' w.heap.size (fun _ => True) v4 x4_7) ∧ Aside0 (w'.heap[gb344]? = some (.cells #[.int .i64 a0_0, .int .u32 a0_1, .string a0_2, .string a0_3, (.slice A0_4 l0_4.length c0_4), .int .i64 a0_5, .bool a0_6, .bool a0_7, .int .i64 a0_8, (.slice A0_9 l0_9.length c0_9)] 26 (0, 0))) ∧ Aside0 (Below w.heap.size w w'))
 case atStart => exact ⟨(x4_34), (0), (by rfl), H', ⟨Nat.le_refl _⟩, ⟨by exact HO_4.out⟩, ⟨by exact BK344.out⟩, ⟨by exact HB.out⟩⟩
 case round =>
 clear H'
 try clear c1
 try clear c2
 try clear p2
 try clear c3
 try clear c4
 try clear hcv4
 try clear c7
 try clear c7b0
 try clear c7b1
 try clear c8
 try clear c13
 try clear c13b0
 try clear c13b1
 try clear c14
 try clear c19
 try clear c19b0
 try clear c21
 try clear c24
 try clear c27
 try clear c28
 try clear c32
 try clear c33
 try clear c37
 try clear c37b0
 try clear c37b1
 try clear c38
 try clear hcv42
 try clear hz12
 try clear hz15
 try clear hz18
 try clear hz22
 try clear hz26
 try clear hz31
 try clear hz36
 try clear hz39
 try clear hz6
 try clear hz9
 try clear p2
 obtain ⟨x4_7, x5_7, rfl, HA, HK7, HO_4, BK344, HB⟩ := hrel
 cases gk with
 | zero => exact absurd HA.out (by simp [tenancyref16_options.l0])
 | succ k7 =>
 have H := HA.out
 clear HA
 simp only [tenancyref16_options.l0] at H
 by_cases c44 : x5_7 < (l0_4.length : Int)
 ·rw [if_pos c44] at H
  have c44b0 : decide (x5_7 < (l0_4.length : Int)) = true := decide_eq_true c44
  clear c44
  by_cases c45 : 0 ≤ x5_7
  ·rw [if_pos c45] at H
   have c45b0 : decide (0 ≤ x5_7) = true := decide_eq_true c45
   clear c45
   replace H := Option.bind_eq_some_iff.mp H
   obtain ⟨⟨t371, t372, t373⟩, A460, H⟩ := H
   replace H : (if t373 = 0 then (if x4_7.length < 5864062014805 then (tenancyref16_options.l0 k7 (x4_7 ++ [(⟨t371, t372⟩ : S42)]) (wrap64 (x5_7 + 1)) a0_0 a0_1 a0_2 a0_3 l0_4 a0_5 a0_6 a0_7 a0_8 l0_9) else (none)) else (some (([] : List (S42)), false))) = some (r1, r2) := H
   have A46 := ak_ A460
   clear A460
   by_cases c47 : t373 = 0
   ·rw [if_pos c47] at H
    have c47b0 : (t373 == 0) = true := beq_iff_eq.mpr c47
    have c47b1 : (t373 != 0) = false := bne_eq_false_iff_eq.mpr c47
    clear c47
    by_cases c48 : x4_7.length < 5864062014805
    ·rw [if_pos c48] at H
     have LMc48 := ak_ c48
     clear c48
     obtain ⟨y375, hy375⟩ : ∃ y_ : List (S42), y_ = (x4_7 ++ [(⟨t371, t372⟩ : S42)]) := ⟨_, rfl⟩
     replace H : (tenancyref16_options.l0 k7 y375 (wrap64 (x5_7 + 1)) a0_0 a0_1 a0_2 a0_3 l0_4 a0_5 a0_6 a0_7 a0_8 l0_9) = some (r1, r2) := by first | (rw [hy375]; with_reducible exact H)
     have Ny375 := ak_ hy375
     clear hy375
     have H' := ak_ H
     clear H
     have hz49 := bz10_ BK344
     have p370 : 0 ≤ (x5_7 : Int) := of_decide_eq_true (by first | (with_reducible assumption))
     have q370 : x5_7 < (l0_4.length : Int) := of_decide_eq_true (by first | (with_reducible assumption))
     obtain ⟨ad370, A370_4, c370_4, e370, hx370_0, hx370_1, hx370_2, hx370_3, hx370_4, hx370_5, hl370_4, hi370_4⟩ := at_T51 HR0_4.out x5_7 p370 q370
     cases e370
     replace hx370_0 := (HB.out.cell (World.block_lt_of_cell? w _ hx370_0)).trans hx370_0
     replace hx370_1 := (HB.out.cell (World.block_lt_of_cell? w _ hx370_1)).trans hx370_1
     replace hx370_2 := (HB.out.cell (World.block_lt_of_cell? w _ hx370_2)).trans hx370_2
     replace hx370_3 := (HB.out.cell (World.block_lt_of_cell? w _ hx370_3)).trans hx370_3
     replace hx370_4 := (HB.out.cell (World.block_lt_of_cell? w _ hx370_4)).trans hx370_4
     replace hx370_5 := (HB.out.cell (World.block_lt_of_cell? w _ hx370_5)).trans hx370_5
     have HR370_4 := ak_ hi370_4
     have HC370_4 := ak_ hl370_4
     clear hi370_4 hl370_4
     replace p370 := eq_true p370
     replace q370 := eq_true q370
     go_wp2_with (first | ((with_reducible refine gate_callee (f := 46) rfl ?_); refine goesL_ (some 74) rfl rfl Try.func46 (by kernel_rfl) rfl #[.agg #[.int .i64 ((rd_T51 l0_4 x5_7).f0), .int .u32 ((rd_T51 l0_4 x5_7).f1), .int .u32 ((rd_T51 l0_4 x5_7).f2), .int .u32 ((rd_T51 l0_4 x5_7).f3), .slice A370_4 ((rd_T51 l0_4 x5_7).f4).length c370_4, .int .i64 ((rd_T51 l0_4 x5_7).f5)]] rfl (by (try simp only [List.map_toArray, List.map_cons, List.map_nil]); first | rfl) ?_; (with_reducible refine (tenancyref15_PutIA.calls k7 ((rd_T51 l0_4 x5_7).f0) ((rd_T51 l0_4 x5_7).f1) ((rd_T51 l0_4 x5_7).f2) ((rd_T51 l0_4 x5_7).f3) _ _ ((rd_T51 l0_4 x5_7).f4) ((rd_T51 l0_4 x5_7).f5) t371 t372 t373 _ ?side1 ?side2 A46.out).mono ?_); (case side1 => repeat (first | exact (Kd.C_below HR370_4.out HB.out))); (case side2 => exact HC370_4.out); rintro e w50 ⟨rfl, hb⟩; refine ⟨_, rfl, ?_⟩; replace HO_4 := ak_ (Kd.R_below HO_4.out hb); replace BK344 := bb_ BK344 hb; replace HB := bs_ HB hb; (try clear hb)) | ((with_reducible refine gate_dst (N := 6) rfl ?_); refine box_event ?hg (N := 6) ?hd (cs := #[.int .u16 0, .string (⟨#[]⟩ : ByteArray)]) (t := 42) ?hr ?_; (case hd => rfl); (case hg => rfl); (case hr => go_simp; done); intro gb374 hg w51 hbox hb; replace HO_4 := ak_ (Kd.R_below (Kd.R_elderB HO_4.out gb374 (Nat.le_of_eq hg.symm)) hb); have BK374 := ak_ hbox; have GW374 := gz_ HB hg; have GE374 := gz_ HB hg; replace HB := bs_ HB hb; have NB344_374 := gl_ BK344 hg; have NB374_344 := gr_ BK344 hg; replace BK344 := bb_ BK344 hb; clear hb hbox hg; have hnb52 := NB374_344.out; have hnc52 := NB344_374.out; have hz53 := bz2_ BK374) | ((with_reducible refine gate_builtin (b := .append) (xs := #[.tmp 79, .tmp 81]) rfl ?_); at_builtin; refine Kd.R_append k42 (w0 := w) w.heap.size rfl (.tmp 79) (.tmp 81) 24 42 (.agg #[(.int .u16 0), (.string ⟨#[]⟩)]) 24 rfl Try.underlying24 info42 rfl (by decide) (by omega) u4 x4_7 (⟨t371, t372⟩ : S42) [.int .u16 t371, .string t372] (fun k_ => k_ ≠ gb374) (fun _ => False) rfl (by first | (go_simp; done)) ?aP (fun _ hk => hk.elim) ?aF ?aO ?aB ?aS ?aL ?_; (case aP => exact k42_mkM _ _ _ (⟨t371, t372⟩ : S42)); (case aB => exact (by repeat (first | (with_reducible first | exact HB.out | refine below_set ?_ GE374.out)))); (case aF => exact (fun k_ hk => Kd.freshB (g := gb374) (o := .cells #[.int .u16 t371, .string t372] 42 (0, 0)) (by refine blk_put (cs := #[.int .u16 t371, .string (⟨#[]⟩ : ByteArray)]) ?_ 1 _ rfl; refine blk_put (cs := #[.int .u16 0, .string (⟨#[]⟩ : ByteArray)]) ?_ 0 _ rfl; exact BK374.out) k_ hk)); (case aO => exact (by exact Kd.R_mono (Kd.R_far (p := ⟨gb374, 1, none⟩) (Kd.R_far (p := ⟨gb374, 0, none⟩) (Kd.R_mono HO_4.out (fun k_ hk => (⟨hk, hk.2⟩ : _ ∧ k_ ≠ gb374))) (fun _ hk => hk.2) (.int .u16 t371)) (fun _ hk => hk.2) (.string t372)) (fun _ hk => hk.1.2))); (case aS => exact (below_size (by repeat (first | (with_reducible first | exact HB.out | refine below_set ?_ GE374.out))))); (case aL => have := LMc48.out; omega); intro v376 w54 ho hb hg hat; rw [← Ny375.out] at ho; replace BK344 := ak_ (blk_grown (g := gb344) (o := .cells #[.int .i64 a0_0, .int .u32 a0_1, .string a0_2, .string a0_3, .slice (some ad370) l0_4.length c0_4, .int .i64 a0_5, .bool a0_6, .bool a0_7, .int .i64 a0_8, .slice A0_9 l0_9.length c0_9] 26 (0, 0)) (by refine blk_far ?_ NB344_374.out _; refine blk_far ?_ NB344_374.out _; exact BK344.out) hg (Kd.R_ne HO_4.out BK344.out (by decide))); replace BK374 := ak_ (blk_grown (g := gb374) (o := .cells #[.int .u16 t371, .string t372] 42 (0, 0)) (by refine blk_put (cs := #[.int .u16 t371, .string (⟨#[]⟩ : ByteArray)]) ?_ 1 _ rfl; refine blk_put (cs := #[.int .u16 0, .string (⟨#[]⟩ : ByteArray)]) ?_ 0 _ rfl; exact BK374.out) hg (Kd.R_away HO_4.out (fun _ hk => hk.2))); replace HB := ak_ hb; have HO377 := ak_ ho; clear HO_4; clear ho hb hg hat))
     go_roundg k7
     case measure => have := HJ1.out; have := HJ10.out; have := HJ16.out; have := HJ24.out; have := HJ29.out; have := HJ34.out; have := HK7.out; omega
     case rel => exact ⟨(y375), (wrap64 (x5_7 + 1)), (by rfl), H', ⟨by have := HJ1.out; have := HJ10.out; have := HJ16.out; have := HJ24.out; have := HJ29.out; have := HJ34.out; have := HK7.out; omega⟩, ⟨by exact Kd.R_mono HO377.out (fun _ hk => trivial)⟩, ⟨by exact BK344.out⟩, ⟨by exact HB.out⟩⟩
    rw [if_neg c48] at H
    exact absurd H (by simp)
   rw [if_neg c47] at H
   have c47b0 : (t373 == 0) = false := beq_eq_false_iff_ne.mpr c47
   have c47b1 : (t373 != 0) = true := bne_iff_ne.mpr c47
   simp only [Option.some.injEq, Prod.mk.injEq] at H
   obtain ⟨rfl, rfl⟩ := H
   have hz55 := bz10_ BK344
   have p370 : 0 ≤ (x5_7 : Int) := of_decide_eq_true (by first | (with_reducible assumption))
   have q370 : x5_7 < (l0_4.length : Int) := of_decide_eq_true (by first | (with_reducible assumption))
   obtain ⟨ad370, A370_4, c370_4, e370, hx370_0, hx370_1, hx370_2, hx370_3, hx370_4, hx370_5, hl370_4, hi370_4⟩ := at_T51 HR0_4.out x5_7 p370 q370
   cases e370
   replace hx370_0 := (HB.out.cell (World.block_lt_of_cell? w _ hx370_0)).trans hx370_0
   replace hx370_1 := (HB.out.cell (World.block_lt_of_cell? w _ hx370_1)).trans hx370_1
   replace hx370_2 := (HB.out.cell (World.block_lt_of_cell? w _ hx370_2)).trans hx370_2
   replace hx370_3 := (HB.out.cell (World.block_lt_of_cell? w _ hx370_3)).trans hx370_3
   replace hx370_4 := (HB.out.cell (World.block_lt_of_cell? w _ hx370_4)).trans hx370_4
   replace hx370_5 := (HB.out.cell (World.block_lt_of_cell? w _ hx370_5)).trans hx370_5
   have HR370_4 := ak_ hi370_4
   have HC370_4 := ak_ hl370_4
   clear hi370_4 hl370_4
   replace p370 := eq_true p370
   replace q370 := eq_true q370
   go_wp2_with (first | ((with_reducible refine gate_callee (f := 46) rfl ?_); refine goesL_ (some 74) rfl rfl Try.func46 (by kernel_rfl) rfl #[.agg #[.int .i64 ((rd_T51 l0_4 x5_7).f0), .int .u32 ((rd_T51 l0_4 x5_7).f1), .int .u32 ((rd_T51 l0_4 x5_7).f2), .int .u32 ((rd_T51 l0_4 x5_7).f3), .slice A370_4 ((rd_T51 l0_4 x5_7).f4).length c370_4, .int .i64 ((rd_T51 l0_4 x5_7).f5)]] rfl (by (try simp only [List.map_toArray, List.map_cons, List.map_nil]); first | rfl) ?_; (with_reducible refine (tenancyref15_PutIA.calls k7 ((rd_T51 l0_4 x5_7).f0) ((rd_T51 l0_4 x5_7).f1) ((rd_T51 l0_4 x5_7).f2) ((rd_T51 l0_4 x5_7).f3) _ _ ((rd_T51 l0_4 x5_7).f4) ((rd_T51 l0_4 x5_7).f5) t371 t372 t373 _ ?side1 ?side2 A46.out).mono ?_); (case side1 => repeat (first | exact (Kd.C_below HR370_4.out HB.out))); (case side2 => exact HC370_4.out); rintro e w56 ⟨rfl, hb⟩; refine ⟨_, rfl, ?_⟩; replace HO_4 := ak_ (Kd.R_below HO_4.out hb); replace BK344 := bb_ BK344 hb; replace HB := bs_ HB hb; (try clear hb)) | ((with_reducible refine gate_dst (N := 6) rfl ?_); refine box_event ?hg (N := 6) ?hd (cs := #[.int .u16 0, .string (⟨#[]⟩ : ByteArray)]) (t := 42) ?hr ?_; (case hd => rfl); (case hg => rfl); (case hr => go_simp; done); intro gb374 hg w57 hbox hb; replace HO_4 := ak_ (Kd.R_below (Kd.R_elderB HO_4.out gb374 (Nat.le_of_eq hg.symm)) hb); have BK374 := ak_ hbox; have GW374 := gz_ HB hg; have GE374 := gz_ HB hg; replace HB := bs_ HB hb; have NB344_374 := gl_ BK344 hg; have NB374_344 := gr_ BK344 hg; replace BK344 := bb_ BK344 hb; clear hb hbox hg; have hnb58 := NB374_344.out; have hnc58 := NB344_374.out; have hz59 := bz2_ BK374))
   go_ret2
   exact ⟨_, by rfl, by first | exact Kd.R_nil _ _ _ _ _, by repeat (first | (with_reducible first | exact HB.out | refine below_set ?_ GE374.out))⟩
  rw [if_neg c45] at H
  exact absurd H (by simp)
 rw [if_neg c44] at H
 have c44b0 : decide (x5_7 < (l0_4.length : Int)) = false := decide_eq_false c44
 clear c44
 by_cases c60 : x4_7.length + l0_9.length < 5864062014805
 ·rw [if_pos c60] at H
  have LMc60 := ak_ c60
  clear c60
  obtain ⟨y378, hy378⟩ : ∃ y_ : List (S42), y_ = (x4_7 ++ l0_9) := ⟨_, rfl⟩
  replace H : (some (y378, true)) = some (r1, r2) := by first | (rw [hy378]; with_reducible exact H)
  have Ny378 := ak_ hy378
  clear hy378
  simp only [Option.some.injEq, Prod.mk.injEq] at H
  obtain ⟨rfl, rfl⟩ := H
  have hz61 := bz10_ BK344
  go_wp2_with (first | ((with_reducible refine gate_builtin (b := .append) (xs := #[.tmp 83, .tmp 85]) rfl ?_); at_builtin; refine Kd.R_append_rows k42 (w0 := w) w.heap.size rfl (.tmp 83) (.tmp 85) 24 42 (.agg #[(.int .u16 0), (.string ⟨#[]⟩)]) 24 rfl Try.underlying24 info42 rfl (by decide) (by omega) u4 x4_7 l0_9 _ _ _ (fun _ => True) (fun _ => False) rfl rfl ?aO ?aR (fun _ _ h => h) (fun _ h => h.elim) ?aF ?aB ?aS ?aL ?_; (case aR => repeat (first | exact (Kd.C_below HR0_9.out HB.out))); (case aB => exact HB.out); (case aF => exact (fun _ _ => trivial)); (case aO => exact HO_4.out); (case aS => exact (below_size HB.out)); (case aL => have := LMc60.out; omega); intro v379 w62 ho hb hg hat; rw [← Ny378.out] at ho; replace BK344 := ak_ (blk_grown (g := gb344) (o := .cells #[.int .i64 a0_0, .int .u32 a0_1, .string a0_2, .string a0_3, .slice A0_4 l0_4.length c0_4, .int .i64 a0_5, .bool a0_6, .bool a0_7, .int .i64 a0_8, .slice A0_9 l0_9.length c0_9] 26 (0, 0)) BK344.out hg (Kd.R_ne HO_4.out BK344.out (by decide))); replace HB := ak_ hb; have HO380 := ak_ ho; clear HO_4; clear ho hb hg hat))
  go_ret2
  exact ⟨_, by rfl, by exact HO380.out, by exact HB.out⟩
 rw [if_neg c60] at H
 exact absurd H (by simp)

def tenancyref16_own.f (a0 : Int) : Option (Bool) := if a0 = 1 then (some true) else (if a0 = 2 then (some true) else (if a0 = 3 then (some true) else (if a0 = 4 then (some true) else (if a0 = 13 then (some true) else (if a0 = 14 then (some true) else (if a0 = 19 then (some true) else (if a0 = 20 then (some true) else (if a0 = 25 then (some true) else (some false)))))))))
set_option maxHeartbeats 8000000 in
set_option maxRecDepth 100000 in
theorem tenancyref16_own.calls (a0 : Int) (r : Bool) (w : World) (h : tenancyref16_own.f a0 = some r) :
 Calls Try.prog 28 #[.int .u16 a0] w fun e w' => e = .returned (.bool r) ∧ Drawn0 w w' := by
 have H : (if a0 = 1 then (some true) else (if a0 = 2 then (some true) else (if a0 = 3 then (some true) else (if a0 = 4 then (some true) else (if a0 = 13 then (some true) else (if a0 = 14 then (some true) else (if a0 = 19 then (some true) else (if a0 = 20 then (some true) else (if a0 = 25 then (some true) else (some false)))))))))) = some r := h
 clear h
 by_cases c2 : a0 = 1
 ·rw [if_pos c2] at H
  have c2b0 : (a0 == 1) = true := beq_iff_eq.mpr c2
  have c2b1 : (a0 != 1) = false := bne_eq_false_iff_eq.mpr c2
  clear c2
  obtain rfl := Option.some.inj H
  go_enter Try.func28, Try.ntmps28
  go_wp2
  go_ret
  exact ⟨by rfl, by repeat (first | exact Drawn0.refl _)⟩
 rw [if_neg c2] at H
 have c2b0 : (a0 == 1) = false := beq_eq_false_iff_ne.mpr c2
 have c2b1 : (a0 != 1) = true := bne_iff_ne.mpr c2
 by_cases c3 : a0 = 2
 ·rw [if_pos c3] at H
  have c3b0 : (a0 == 2) = true := beq_iff_eq.mpr c3
  have c3b1 : (a0 != 2) = false := bne_eq_false_iff_eq.mpr c3
  clear c3
  obtain rfl := Option.some.inj H
  go_enter Try.func28, Try.ntmps28
  go_wp2
  go_ret
  exact ⟨by rfl, by repeat (first | exact Drawn0.refl _)⟩
 rw [if_neg c3] at H
 have c3b0 : (a0 == 2) = false := beq_eq_false_iff_ne.mpr c3
 have c3b1 : (a0 != 2) = true := bne_iff_ne.mpr c3
 by_cases c4 : a0 = 3
 ·rw [if_pos c4] at H
  have c4b0 : (a0 == 3) = true := beq_iff_eq.mpr c4
  have c4b1 : (a0 != 3) = false := bne_eq_false_iff_eq.mpr c4
  clear c4
  obtain rfl := Option.some.inj H
  go_enter Try.func28, Try.ntmps28
  go_wp2
  go_ret
  exact ⟨by rfl, by repeat (first | exact Drawn0.refl _)⟩
 rw [if_neg c4] at H
 have c4b0 : (a0 == 3) = false := beq_eq_false_iff_ne.mpr c4
 have c4b1 : (a0 != 3) = true := bne_iff_ne.mpr c4
 by_cases c5 : a0 = 4
 ·rw [if_pos c5] at H
  have c5b0 : (a0 == 4) = true := beq_iff_eq.mpr c5
  have c5b1 : (a0 != 4) = false := bne_eq_false_iff_eq.mpr c5
  clear c5
  obtain rfl := Option.some.inj H
  go_enter Try.func28, Try.ntmps28
  go_wp2
  go_ret
  exact ⟨by rfl, by repeat (first | exact Drawn0.refl _)⟩
 rw [if_neg c5] at H
 have c5b0 : (a0 == 4) = false := beq_eq_false_iff_ne.mpr c5
 have c5b1 : (a0 != 4) = true := bne_iff_ne.mpr c5
 by_cases c6 : a0 = 13
 ·rw [if_pos c6] at H
  have c6b0 : (a0 == 13) = true := beq_iff_eq.mpr c6
  have c6b1 : (a0 != 13) = false := bne_eq_false_iff_eq.mpr c6
  clear c6
  obtain rfl := Option.some.inj H
  go_enter Try.func28, Try.ntmps28
  go_wp2
  go_ret
  exact ⟨by rfl, by repeat (first | exact Drawn0.refl _)⟩
 rw [if_neg c6] at H
 have c6b0 : (a0 == 13) = false := beq_eq_false_iff_ne.mpr c6
 have c6b1 : (a0 != 13) = true := bne_iff_ne.mpr c6
 by_cases c7 : a0 = 14
 ·rw [if_pos c7] at H
  have c7b0 : (a0 == 14) = true := beq_iff_eq.mpr c7
  have c7b1 : (a0 != 14) = false := bne_eq_false_iff_eq.mpr c7
  clear c7
  obtain rfl := Option.some.inj H
  go_enter Try.func28, Try.ntmps28
  go_wp2
  go_ret
  exact ⟨by rfl, by repeat (first | exact Drawn0.refl _)⟩
 rw [if_neg c7] at H
 have c7b0 : (a0 == 14) = false := beq_eq_false_iff_ne.mpr c7
 have c7b1 : (a0 != 14) = true := bne_iff_ne.mpr c7
 by_cases c8 : a0 = 19
 ·rw [if_pos c8] at H
  have c8b0 : (a0 == 19) = true := beq_iff_eq.mpr c8
  have c8b1 : (a0 != 19) = false := bne_eq_false_iff_eq.mpr c8
  clear c8
  obtain rfl := Option.some.inj H
  go_enter Try.func28, Try.ntmps28
  go_wp2
  go_ret
  exact ⟨by rfl, by repeat (first | exact Drawn0.refl _)⟩
 rw [if_neg c8] at H
 have c8b0 : (a0 == 19) = false := beq_eq_false_iff_ne.mpr c8
 have c8b1 : (a0 != 19) = true := bne_iff_ne.mpr c8
 by_cases c9 : a0 = 20
 ·rw [if_pos c9] at H
  have c9b0 : (a0 == 20) = true := beq_iff_eq.mpr c9
  have c9b1 : (a0 != 20) = false := bne_eq_false_iff_eq.mpr c9
  clear c9
  obtain rfl := Option.some.inj H
  go_enter Try.func28, Try.ntmps28
  go_wp2
  go_ret
  exact ⟨by rfl, by repeat (first | exact Drawn0.refl _)⟩
 rw [if_neg c9] at H
 have c9b0 : (a0 == 20) = false := beq_eq_false_iff_ne.mpr c9
 have c9b1 : (a0 != 20) = true := bne_iff_ne.mpr c9
 by_cases c10 : a0 = 25
 ·rw [if_pos c10] at H
  have c10b0 : (a0 == 25) = true := beq_iff_eq.mpr c10
  have c10b1 : (a0 != 25) = false := bne_eq_false_iff_eq.mpr c10
  clear c10
  obtain rfl := Option.some.inj H
  go_enter Try.func28, Try.ntmps28
  go_wp2
  go_ret
  exact ⟨by rfl, by repeat (first | exact Drawn0.refl _)⟩
 rw [if_neg c10] at H
 have c10b0 : (a0 == 25) = false := beq_eq_false_iff_ne.mpr c10
 have c10b1 : (a0 != 25) = true := bne_iff_ne.mpr c10
 obtain rfl := Option.some.inj H
 go_enter Try.func28, Try.ntmps28
 go_wp2
 go_ret
 exact ⟨by rfl, by repeat (first | exact Drawn0.refl _)⟩

mutual
def tenancyref16_Sound.j0 : Nat → Bool → Int → Int → ByteArray → ByteArray → List (S51) → Int → Bool → Bool → Int → List (S42) → Option (Bool)
  | 0, _, _, _, _, _, _, _, _, _, _, _ => none
  | k + 1, x46, x382000, x382001, x382002, x382003, x382004, x382005, x382006, x382007, x382008, x382009 => if x46 = true then (some false) else (if x382008 = 0 then (tenancyref16_Sound.j1 k (decide ((x382009.length : Int) > 128)) x382000 x382001 x382002 x382003 x382004 x382005 x382006 x382007 x382008 x382009) else (if x382008 = 5 then (tenancyref16_Sound.j1 k (decide ((x382009.length : Int) > 128)) x382000 x382001 x382002 x382003 x382004 x382005 x382006 x382007 x382008 x382009) else (if x382008 = 6 then (tenancyref16_Sound.j1 k (decide ((x382009.length : Int) > 128)) x382000 x382001 x382002 x382003 x382004 x382005 x382006 x382007 x382008 x382009) else (if x382008 = 11 then (tenancyref16_Sound.j1 k (decide ((x382009.length : Int) > 128)) x382000 x382001 x382002 x382003 x382004 x382005 x382006 x382007 x382008 x382009) else (tenancyref16_Sound.j1 k true x382000 x382001 x382002 x382003 x382004 x382005 x382006 x382007 x382008 x382009)))))
def tenancyref16_Sound.j1 : Nat → Bool → Int → Int → ByteArray → ByteArray → List (S51) → Int → Bool → Bool → Int → List (S42) → Option (Bool)
  | 0, _, _, _, _, _, _, _, _, _, _, _ => none
  | k + 1, x70, x382000, x382001, x382002, x382003, x382004, x382005, x382006, x382007, x382008, x382009 => if x70 = true then (some false) else (tenancyref16_Sound.l0 k 0 x382000 x382001 x382002 x382003 x382004 x382005 x382006 x382007 x382008 x382009)
def tenancyref16_Sound.l0 : Nat → Int → Int → Int → ByteArray → ByteArray → List (S51) → Int → Bool → Bool → Int → List (S42) → Option (Bool)
  | 0, _, _, _, _, _, _, _, _, _, _, _ => none
  | k + 1, x3, x382000, x382001, x382002, x382003, x382004, x382005, x382006, x382007, x382008, x382009 => if x3 < (x382009.length : Int) then (if 0 ≤ x3 then ((tenancyref16_own.f ((rd_T42 x382009 x3).f0)).bind fun t383 => (if t383 = true then (some false) else (if (((rd_T42 x382009 x3).f1).size : Int) > 65535 then (some false) else (tenancyref16_Sound.l0 k (wrap64 (x3 + 1)) x382000 x382001 x382002 x382003 x382004 x382005 x382006 x382007 x382008 x382009)))) else (none)) else ((tenancyref16_options.f k x382000 x382001 x382002 x382003 x382004 x382005 x382006 x382007 x382008 x382009).bind fun bt385 => (if bt385.2 = true then (some (decide ((bt385.1.length : Int) ≤ 128))) else (some false)))
end
def tenancyref16_Sound.f (k : Nat) (a0_0 : Int) (a0_1 : Int) (a0_2 : ByteArray) (a0_3 : ByteArray) (l0_4 : List (S51)) (a0_5 : Int) (a0_6 : Bool) (a0_7 : Bool) (a0_8 : Int) (l0_9 : List (S42)) : Option (Bool) := if a0_0 < 1 then (tenancyref16_Sound.j0 k true a0_0 a0_1 a0_2 a0_3 l0_4 a0_5 a0_6 a0_7 a0_8 l0_9) else (if a0_0 > 11 then (tenancyref16_Sound.j0 k true a0_0 a0_1 a0_2 a0_3 l0_4 a0_5 a0_6 a0_7 a0_8 l0_9) else (if a0_1 ≥ 16777216 then (tenancyref16_Sound.j0 k true a0_0 a0_1 a0_2 a0_3 l0_4 a0_5 a0_6 a0_7 a0_8 l0_9) else (if (a0_2.size : Int) > 130 then (tenancyref16_Sound.j0 k true a0_0 a0_1 a0_2 a0_3 l0_4 a0_5 a0_6 a0_7 a0_8 l0_9) else (if (a0_3.size : Int) > 130 then (tenancyref16_Sound.j0 k true a0_0 a0_1 a0_2 a0_3 l0_4 a0_5 a0_6 a0_7 a0_8 l0_9) else (if (l0_4.length : Int) > 8 then (tenancyref16_Sound.j0 k true a0_0 a0_1 a0_2 a0_3 l0_4 a0_5 a0_6 a0_7 a0_8 l0_9) else (if a0_5 < (-1) then (tenancyref16_Sound.j0 k true a0_0 a0_1 a0_2 a0_3 l0_4 a0_5 a0_6 a0_7 a0_8 l0_9) else (tenancyref16_Sound.j0 k (decide (a0_5 > 65535)) a0_0 a0_1 a0_2 a0_3 l0_4 a0_5 a0_6 a0_7 a0_8 l0_9)))))))
set_option maxHeartbeats 8000000 in
set_option maxRecDepth 100000 in
theorem tenancyref16_Sound.calls (k : Nat) (a0_0 : Int) (a0_1 : Int) (a0_2 : ByteArray) (a0_3 : ByteArray) (A0_4 : Option Addr) (c0_4 : Nat) (l0_4 : List (S51)) (a0_5 : Int) (a0_6 : Bool) (a0_7 : Bool) (a0_8 : Int) (A0_9 : Option Addr) (c0_9 : Nat) (l0_9 : List (S42)) (r : Bool) (w : World) (hr0_4 : Kd.C k51 w A0_4 l0_4.length l0_4) (hc0_4 : l0_4.length ≤ c0_4) (hr0_9 : Kd.C k42 w A0_9 l0_9.length l0_9) (hc0_9 : l0_9.length ≤ c0_9) (h : tenancyref16_Sound.f k a0_0 a0_1 a0_2 a0_3 l0_4 a0_5 a0_6 a0_7 a0_8 l0_9 = some r) :
 Calls Try.prog 16 #[.agg #[.int .i64 a0_0, .int .u32 a0_1, .string a0_2, .string a0_3, .slice A0_4 l0_4.length c0_4, .int .i64 a0_5, .bool a0_6, .bool a0_7, .int .i64 a0_8, .slice A0_9 l0_9.length c0_9]] w fun e w' => e = .returned (.bool r) ∧ Below w.heap.size w w' := by
 have hu26 := Try.underlying26
 have HR0_4 := ak_ hr0_4
 have HC0_4 := ak_ hc0_4
 clear hr0_4 hc0_4
 have HR0_9 := ak_ hr0_9
 have HC0_9 := ak_ hc0_9
 clear hr0_9 hc0_9
 have HB := ak_ (Below.refl w.heap.size w)
 have H : (if a0_0 < 1 then (tenancyref16_Sound.j0 k true a0_0 a0_1 a0_2 a0_3 l0_4 a0_5 a0_6 a0_7 a0_8 l0_9) else (if a0_0 > 11 then (tenancyref16_Sound.j0 k true a0_0 a0_1 a0_2 a0_3 l0_4 a0_5 a0_6 a0_7 a0_8 l0_9) else (if a0_1 ≥ 16777216 then (tenancyref16_Sound.j0 k true a0_0 a0_1 a0_2 a0_3 l0_4 a0_5 a0_6 a0_7 a0_8 l0_9) else (if (a0_2.size : Int) > 130 then (tenancyref16_Sound.j0 k true a0_0 a0_1 a0_2 a0_3 l0_4 a0_5 a0_6 a0_7 a0_8 l0_9) else (if (a0_3.size : Int) > 130 then (tenancyref16_Sound.j0 k true a0_0 a0_1 a0_2 a0_3 l0_4 a0_5 a0_6 a0_7 a0_8 l0_9) else (if (l0_4.length : Int) > 8 then (tenancyref16_Sound.j0 k true a0_0 a0_1 a0_2 a0_3 l0_4 a0_5 a0_6 a0_7 a0_8 l0_9) else (if a0_5 < (-1) then (tenancyref16_Sound.j0 k true a0_0 a0_1 a0_2 a0_3 l0_4 a0_5 a0_6 a0_7 a0_8 l0_9) else (tenancyref16_Sound.j0 k (decide (a0_5 > 65535)) a0_0 a0_1 a0_2 a0_3 l0_4 a0_5 a0_6 a0_7 a0_8 l0_9)))))))) = some r := h
 clear h
 have HC2 := ak_ H
 clear H
 go_enter Try.func16, Try.ntmps16
 go_upto_region 1 with (first | ((with_reducible refine gate_dst (N := 1) rfl ?_); (try (refine gate_guard (by rfl) ?_; dsimp only)); refine box_event ?hg (N := 1) ?hd (cs := #[.int .i64 a0_0, .int .u32 a0_1, .string a0_2, .string a0_3, .slice A0_4 l0_4.length c0_4, .int .i64 a0_5, .bool a0_6, .bool a0_7, .int .i64 a0_8, .slice A0_9 l0_9.length c0_9]) (t := 26) ?hr ?_; (case hd => rfl); (case hg => rfl); (case hr => go_simp; done); intro gb381 hg w3 hbox hb; have BK381 := ak_ hbox; have GW381 := gz_ HB hg; have GE381 := gz_ HB hg; replace HB := bs_ HB hb; clear hb hbox hg))
 (try simp only [Act.put, List.setIfInBounds_toArray, List.set_cons_zero, List.set_cons_succ])
 go_cut [46] (fun v46 wc => ∃ (kq : Nat) (x46_1 : Bool), v46 = .bool x46_1 ∧ Aside0 (tenancyref16_Sound.j0 kq x46_1 a0_0 a0_1 a0_2 a0_3 l0_4 a0_5 a0_6 a0_7 a0_8 l0_9 = some r) ∧ Aside0 (kq ≤ k) ∧ Aside0 (wc.heap[gb381]? = some (.cells #[.int .i64 a0_0, .int .u32 a0_1, .string a0_2, .string a0_3, (.slice A0_4 l0_4.length c0_4), .int .i64 a0_5, .bool a0_6, .bool a0_7, .int .i64 a0_8, (.slice A0_9 l0_9.length c0_9)] 26 (0, 0))) ∧ Aside0 (Below w.heap.size w wc))
 case first =>
  have H := HC2.out
  clear HC2
  by_cases c4 : a0_0 < 1
  ·rw [if_pos c4] at H
   have c4b0 : decide (a0_0 < 1) = true := decide_eq_true c4
   clear c4
   (first | skip)
   have H' := ak_ H
   clear H
   have hz5 := bz10_ BK381
   go_wp2
   go_meet
   case rel => exact ⟨_, (true), (by rfl), H', ⟨by omega⟩, ⟨by exact BK381.out⟩, ⟨by exact HB.out⟩⟩
  rw [if_neg c4] at H
  have c4b0 : decide (a0_0 < 1) = false := decide_eq_false c4
  clear c4
  (first | skip)
  by_cases c6 : a0_0 > 11
  ·rw [if_pos c6] at H
   have c6b0 : decide (11 < a0_0) = true := decide_eq_true c6
   clear c6
   have H' := ak_ H
   clear H
   have hz7 := bz10_ BK381
   go_wp2
   go_meet
   case rel => exact ⟨_, (true), (by rfl), H', ⟨by omega⟩, ⟨by exact BK381.out⟩, ⟨by exact HB.out⟩⟩
  rw [if_neg c6] at H
  have c6b0 : decide (11 < a0_0) = false := decide_eq_false c6
  clear c6
  by_cases c8 : a0_1 ≥ 16777216
  ·rw [if_pos c8] at H
   have c8b0 : decide (16777216 ≤ a0_1) = true := decide_eq_true c8
   clear c8
   have H' := ak_ H
   clear H
   have hz9 := bz10_ BK381
   go_wp2
   go_meet
   case rel => exact ⟨_, (true), (by rfl), H', ⟨by omega⟩, ⟨by exact BK381.out⟩, ⟨by exact HB.out⟩⟩
  rw [if_neg c8] at H
  have c8b0 : decide (16777216 ≤ a0_1) = false := decide_eq_false c8
  clear c8
  by_cases c10 : (a0_2.size : Int) > 130
  ·rw [if_pos c10] at H
   have c10b0 : decide (130 < (a0_2.size : Int)) = true := decide_eq_true c10
   have c10b1 : decide (130 < a0_2.size) = true := decide_eq_true (by omega)
   clear c10
   have H' := ak_ H
   clear H
   have hz11 := bz10_ BK381
   go_wp2
   go_meet
   case rel => exact ⟨_, (true), (by rfl), H', ⟨by omega⟩, ⟨by exact BK381.out⟩, ⟨by exact HB.out⟩⟩
  rw [if_neg c10] at H
  have c10b0 : decide (130 < (a0_2.size : Int)) = false := decide_eq_false c10
  have c10b1 : decide (130 < a0_2.size) = false := decide_eq_false (by omega)
  clear c10
  by_cases c12 : (a0_3.size : Int) > 130
  ·rw [if_pos c12] at H
   have c12b0 : decide (130 < (a0_3.size : Int)) = true := decide_eq_true c12
   have c12b1 : decide (130 < a0_3.size) = true := decide_eq_true (by omega)
   clear c12
   have H' := ak_ H
   clear H
   have hz13 := bz10_ BK381
   go_wp2
   go_meet
   case rel => exact ⟨_, (true), (by rfl), H', ⟨by omega⟩, ⟨by exact BK381.out⟩, ⟨by exact HB.out⟩⟩
  rw [if_neg c12] at H
  have c12b0 : decide (130 < (a0_3.size : Int)) = false := decide_eq_false c12
  have c12b1 : decide (130 < a0_3.size) = false := decide_eq_false (by omega)
  clear c12
  by_cases c14 : (l0_4.length : Int) > 8
  ·rw [if_pos c14] at H
   have c14b0 : decide (8 < (l0_4.length : Int)) = true := decide_eq_true c14
   have c14b1 : decide (8 < l0_4.length) = true := decide_eq_true (by omega)
   clear c14
   have H' := ak_ H
   clear H
   have hz15 := bz10_ BK381
   go_wp2
   go_meet
   case rel => exact ⟨_, (true), (by rfl), H', ⟨by omega⟩, ⟨by exact BK381.out⟩, ⟨by exact HB.out⟩⟩
  rw [if_neg c14] at H
  have c14b0 : decide (8 < (l0_4.length : Int)) = false := decide_eq_false c14
  have c14b1 : decide (8 < l0_4.length) = false := decide_eq_false (by omega)
  clear c14
  by_cases c16 : a0_5 < (-1)
  ·rw [if_pos c16] at H
   have c16b0 : decide (a0_5 < (-1)) = true := decide_eq_true c16
   clear c16
   have H' := ak_ H
   clear H
   have hz17 := bz10_ BK381
   go_wp2
   go_meet
   case rel => exact ⟨_, (true), (by rfl), H', ⟨by omega⟩, ⟨by exact BK381.out⟩, ⟨by exact HB.out⟩⟩
  rw [if_neg c16] at H
  have c16b0 : decide (a0_5 < (-1)) = false := decide_eq_false c16
  clear c16
  have H' := ak_ H
  clear H
  have hz18 := bz10_ BK381
  go_wp2
  go_meet
  case rel => exact ⟨_, (decide (a0_5 > 65535)), (by rfl), H', ⟨by omega⟩, ⟨by exact BK381.out⟩, ⟨by exact HB.out⟩⟩
 case rest =>
 clear HC2
 try clear c1
 try clear p2
 try clear c4
 try clear c4b0
 try clear c6
 try clear c6b0
 try clear c8
 try clear c8b0
 try clear c10
 try clear c10b0
 try clear c10b1
 try clear c12
 try clear c12b0
 try clear c12b1
 try clear c14
 try clear c14b0
 try clear c14b1
 try clear c16
 try clear c16b0
 try clear hz11
 try clear hz13
 try clear hz15
 try clear hz17
 try clear hz18
 try clear hz5
 try clear hz7
 try clear hz9
 obtain ⟨kq, x46_1, rfl, HA, HJ1, BK381, HB⟩ := hcut
 cases kq with
 | zero => exact absurd HA.out (by simp [tenancyref16_Sound.j0])
 | succ kj1 =>
 have H := HA.out
 clear HA
 simp only [tenancyref16_Sound.j0] at H
 by_cases c19 : x46_1 = true
 ·subst c19
  have H1 : (some false) = some r := by rw [if_pos rfl] at H; exact H
  clear H
  have H := H1
  clear H1
  obtain rfl := Option.some.inj H
  go_wp2
  go_ret
  exact ⟨by rfl, by exact HB.out⟩
 replace c19 := Bool.eq_false_iff.mpr c19
 subst c19
 have H1 : (if a0_8 = 0 then (tenancyref16_Sound.j1 kj1 (decide ((l0_9.length : Int) > 128)) a0_0 a0_1 a0_2 a0_3 l0_4 a0_5 a0_6 a0_7 a0_8 l0_9) else (if a0_8 = 5 then (tenancyref16_Sound.j1 kj1 (decide ((l0_9.length : Int) > 128)) a0_0 a0_1 a0_2 a0_3 l0_4 a0_5 a0_6 a0_7 a0_8 l0_9) else (if a0_8 = 6 then (tenancyref16_Sound.j1 kj1 (decide ((l0_9.length : Int) > 128)) a0_0 a0_1 a0_2 a0_3 l0_4 a0_5 a0_6 a0_7 a0_8 l0_9) else (if a0_8 = 11 then (tenancyref16_Sound.j1 kj1 (decide ((l0_9.length : Int) > 128)) a0_0 a0_1 a0_2 a0_3 l0_4 a0_5 a0_6 a0_7 a0_8 l0_9) else (tenancyref16_Sound.j1 kj1 true a0_0 a0_1 a0_2 a0_3 l0_4 a0_5 a0_6 a0_7 a0_8 l0_9))))) = some r := by rw [if_neg (show ¬ (false = true) by decide)] at H; exact H
 clear H
 have H := H1
 clear H1
 have HC20 := ak_ H
 clear H
 go_upto_region 3 with (fail)
 go_cut [70] (fun v70 wc => ∃ (kq : Nat) (x70_19 : Bool), v70 = .bool x70_19 ∧ Aside0 (tenancyref16_Sound.j1 kq x70_19 a0_0 a0_1 a0_2 a0_3 l0_4 a0_5 a0_6 a0_7 a0_8 l0_9 = some r) ∧ Aside0 (kq ≤ kj1) ∧ Aside0 (wc.heap[gb381]? = some (.cells #[.int .i64 a0_0, .int .u32 a0_1, .string a0_2, .string a0_3, (.slice A0_4 l0_4.length c0_4), .int .i64 a0_5, .bool a0_6, .bool a0_7, .int .i64 a0_8, (.slice A0_9 l0_9.length c0_9)] 26 (0, 0))) ∧ Aside0 (Below w.heap.size w wc))
 case first =>
  have H := HC20.out
  clear HC20
  by_cases c21 : a0_8 = 0
  ·rw [if_pos c21] at H
   have c21b0 : (a0_8 == 0) = true := beq_iff_eq.mpr c21
   have c21b1 : (a0_8 != 0) = false := bne_eq_false_iff_eq.mpr c21
   clear c21
   (first | skip)
   have H' := ak_ H
   clear H
   have hz22 := bz10_ BK381
   go_wp2
   go_meet
   case rel => exact ⟨_, (decide ((l0_9.length : Int) > 128)), (by rfl), H', ⟨by have := HJ1.out; first | omega⟩, ⟨by exact BK381.out⟩, ⟨by exact HB.out⟩⟩
  rw [if_neg c21] at H
  have c21b0 : (a0_8 == 0) = false := beq_eq_false_iff_ne.mpr c21
  have c21b1 : (a0_8 != 0) = true := bne_iff_ne.mpr c21
  (first | skip)
  by_cases c23 : a0_8 = 5
  ·rw [if_pos c23] at H
   have c23b0 : (a0_8 == 5) = true := beq_iff_eq.mpr c23
   have c23b1 : (a0_8 != 5) = false := bne_eq_false_iff_eq.mpr c23
   clear c23
   have H' := ak_ H
   clear H
   have hz24 := bz10_ BK381
   go_wp2
   go_meet
   case rel => exact ⟨_, (decide ((l0_9.length : Int) > 128)), (by rfl), H', ⟨by have := HJ1.out; first | omega⟩, ⟨by exact BK381.out⟩, ⟨by exact HB.out⟩⟩
  rw [if_neg c23] at H
  have c23b0 : (a0_8 == 5) = false := beq_eq_false_iff_ne.mpr c23
  have c23b1 : (a0_8 != 5) = true := bne_iff_ne.mpr c23
  by_cases c25 : a0_8 = 6
  ·rw [if_pos c25] at H
   have c25b0 : (a0_8 == 6) = true := beq_iff_eq.mpr c25
   have c25b1 : (a0_8 != 6) = false := bne_eq_false_iff_eq.mpr c25
   clear c25
   have H' := ak_ H
   clear H
   have hz26 := bz10_ BK381
   go_wp2
   go_meet
   case rel => exact ⟨_, (decide ((l0_9.length : Int) > 128)), (by rfl), H', ⟨by have := HJ1.out; first | omega⟩, ⟨by exact BK381.out⟩, ⟨by exact HB.out⟩⟩
  rw [if_neg c25] at H
  have c25b0 : (a0_8 == 6) = false := beq_eq_false_iff_ne.mpr c25
  have c25b1 : (a0_8 != 6) = true := bne_iff_ne.mpr c25
  by_cases c27 : a0_8 = 11
  ·rw [if_pos c27] at H
   have c27b0 : (a0_8 == 11) = true := beq_iff_eq.mpr c27
   have c27b1 : (a0_8 != 11) = false := bne_eq_false_iff_eq.mpr c27
   clear c27
   have H' := ak_ H
   clear H
   have hz28 := bz10_ BK381
   go_wp2
   go_meet
   case rel => exact ⟨_, (decide ((l0_9.length : Int) > 128)), (by rfl), H', ⟨by have := HJ1.out; first | omega⟩, ⟨by exact BK381.out⟩, ⟨by exact HB.out⟩⟩
  rw [if_neg c27] at H
  have c27b0 : (a0_8 == 11) = false := beq_eq_false_iff_ne.mpr c27
  have c27b1 : (a0_8 != 11) = true := bne_iff_ne.mpr c27
  have H' := ak_ H
  clear H
  have hz29 := bz10_ BK381
  go_wp2
  go_meet
  case rel => exact ⟨_, (true), (by rfl), H', ⟨by have := HJ1.out; first | omega⟩, ⟨by exact BK381.out⟩, ⟨by exact HB.out⟩⟩
 case rest =>
 clear HC20
 try clear c1
 try clear c2
 try clear p2
 try clear c4
 try clear c4b0
 try clear c6
 try clear c6b0
 try clear c8
 try clear c8b0
 try clear c10
 try clear c10b0
 try clear c10b1
 try clear c12
 try clear c12b0
 try clear c12b1
 try clear c14
 try clear c14b0
 try clear c14b1
 try clear c16
 try clear c16b0
 try clear c19
 try clear c21
 try clear c21b0
 try clear c21b1
 try clear c23
 try clear c23b0
 try clear c23b1
 try clear c25
 try clear c25b0
 try clear c25b1
 try clear c27
 try clear c27b0
 try clear c27b1
 try clear hz11
 try clear hz13
 try clear hz15
 try clear hz17
 try clear hz18
 try clear hz22
 try clear hz24
 try clear hz26
 try clear hz28
 try clear hz29
 try clear hz5
 try clear hz7
 try clear hz9
 try clear p2
 obtain ⟨kq, x70_19, rfl, HA, HJ19, BK381, HB⟩ := hcut
 cases kq with
 | zero => exact absurd HA.out (by simp [tenancyref16_Sound.j1])
 | succ kj19 =>
 have H := HA.out
 clear HA
 simp only [tenancyref16_Sound.j1] at H
 by_cases c30 : x70_19 = true
 ·subst c30
  have H1 : (some false) = some r := by rw [if_pos rfl] at H; exact H
  clear H
  have H := H1
  clear H1
  obtain rfl := Option.some.inj H
  go_wp2
  go_ret
  exact ⟨by rfl, by exact HB.out⟩
 replace c30 := Bool.eq_false_iff.mpr c30
 subst c30
 have H1 : (tenancyref16_Sound.l0 kj19 0 a0_0 a0_1 a0_2 a0_3 l0_4 a0_5 a0_6 a0_7 a0_8 l0_9) = some r := by rw [if_neg (show ¬ (false = true) by decide)] at H; exact H
 clear H
 have H := H1
 clear H1
 have H' := ak_ H
 clear H
 go_wp2
 go_loopg [3] kj19 (fun kq v3 w' => ∃ (x3_3 : Int), v3 = .int .i64 x3_3 ∧ Aside0 (tenancyref16_Sound.l0 kq x3_3 a0_0 a0_1 a0_2 a0_3 l0_4 a0_5 a0_6 a0_7 a0_8 l0_9 = some r) ∧ Aside0 (kq ≤ kj19) ∧ Aside0 (w'.heap[gb381]? = some (.cells #[.int .i64 a0_0, .int .u32 a0_1, .string a0_2, .string a0_3, (.slice A0_4 l0_4.length c0_4), .int .i64 a0_5, .bool a0_6, .bool a0_7, .int .i64 a0_8, (.slice A0_9 l0_9.length c0_9)] 26 (0, 0))) ∧ Aside0 (Below w.heap.size w w'))
 case atStart => exact ⟨(0), (by rfl), H', ⟨Nat.le_refl _⟩, ⟨by exact BK381.out⟩, ⟨by exact HB.out⟩⟩
 case round =>
 clear H'
 try clear c1
 try clear c2
 try clear p2
 try clear c3
 try clear c4
 try clear c4b0
 try clear c6
 try clear c6b0
 try clear c8
 try clear c8b0
 try clear c10
 try clear c10b0
 try clear c10b1
 try clear c12
 try clear c12b0
 try clear c12b1
 try clear c14
 try clear c14b0
 try clear c14b1
 try clear c16
 try clear c16b0
 try clear c19
 try clear c21
 try clear c21b0
 try clear c21b1
 try clear c23
 try clear c23b0
 try clear c23b1
 try clear c25
 try clear c25b0
 try clear c25b1
 try clear c27
 try clear c27b0
 try clear c27b1
 try clear c30
 try clear hz11
 try clear hz13
 try clear hz15
 try clear hz17
 try clear hz18
 try clear hz22
 try clear hz24
 try clear hz26
 try clear hz28
 try clear hz29
 try clear hz5
 try clear hz7
 try clear hz9
 try clear p2
 obtain ⟨x3_3, rfl, HA, HK3, BK381, HB⟩ := hrel
 cases gk with
 | zero => exact absurd HA.out (by simp [tenancyref16_Sound.l0])
 | succ k3 =>
 have H := HA.out
 clear HA
 simp only [tenancyref16_Sound.l0] at H
 by_cases c31 : x3_3 < (l0_9.length : Int)
 ·rw [if_pos c31] at H
  have c31b0 : decide (x3_3 < (l0_9.length : Int)) = true := decide_eq_true c31
  clear c31
  by_cases c32 : 0 ≤ x3_3
  ·rw [if_pos c32] at H
   have c32b0 : decide (0 ≤ x3_3) = true := decide_eq_true c32
   clear c32
   replace H := Option.bind_eq_some_iff.mp H
   obtain ⟨t383, A330, H⟩ := H
   replace H : (if t383 = true then (some false) else (if (((rd_T42 l0_9 x3_3).f1).size : Int) > 65535 then (some false) else (tenancyref16_Sound.l0 k3 (wrap64 (x3_3 + 1)) a0_0 a0_1 a0_2 a0_3 l0_4 a0_5 a0_6 a0_7 a0_8 l0_9))) = some r := H
   have A33 := ak_ A330
   clear A330
   by_cases c34 : t383 = true
   ·subst c34
    have H1 : (some false) = some r := by rw [if_pos rfl] at H; exact H
    clear H
    have H := H1
    clear H1
    obtain rfl := Option.some.inj H
    have hz35 := bz10_ BK381
    have p382 : 0 ≤ (x3_3 : Int) := of_decide_eq_true (by first | (with_reducible assumption))
    have q382 : x3_3 < (l0_9.length : Int) := of_decide_eq_true (by first | (with_reducible assumption))
    obtain ⟨ad382, e382, hx382_0, hx382_1⟩ := at_T42 HR0_9.out x3_3 p382 q382
    cases e382
    replace hx382_0 := (HB.out.cell (World.block_lt_of_cell? w _ hx382_0)).trans hx382_0
    replace hx382_1 := (HB.out.cell (World.block_lt_of_cell? w _ hx382_1)).trans hx382_1
    replace p382 := eq_true p382
    replace q382 := eq_true q382
    go_wp2_with (first | ((with_reducible refine gate_callee (f := 28) rfl ?_); refine goesL_ (some 84) rfl rfl Try.func28 (by kernel_rfl) rfl #[.int .u16 ((rd_T42 l0_9 x3_3).f0)] rfl (by (try simp only [List.map_toArray, List.map_cons, List.map_nil]); first | rfl) ?_; (with_reducible refine (tenancyref16_own.calls ((rd_T42 l0_9 x3_3).f0) true _ A33.out).mono ?_); rintro e w' ⟨rfl, ⟨nd, rfl⟩⟩; refine ⟨_, rfl, ?_⟩))
    go_ret
    exact ⟨by rfl, by repeat (first | (with_reducible first | exact HB.out | apply pw_below_drewN))⟩
   replace c34 := Bool.eq_false_iff.mpr c34
   subst c34
   have H1 : (if (((rd_T42 l0_9 x3_3).f1).size : Int) > 65535 then (some false) else (tenancyref16_Sound.l0 k3 (wrap64 (x3_3 + 1)) a0_0 a0_1 a0_2 a0_3 l0_4 a0_5 a0_6 a0_7 a0_8 l0_9)) = some r := by rw [if_neg (show ¬ (false = true) by decide)] at H; exact H
   clear H
   have H := H1
   clear H1
   by_cases c36 : (((rd_T42 l0_9 x3_3).f1).size : Int) > 65535
   ·rw [if_pos c36] at H
    have c36b0 : decide (65535 < (((rd_T42 l0_9 x3_3).f1).size : Int)) = true := decide_eq_true c36
    have c36b1 : decide (65535 < ((rd_T42 l0_9 x3_3).f1).size) = true := decide_eq_true (by omega)
    clear c36
    obtain rfl := Option.some.inj H
    have hz37 := bz10_ BK381
    have p382 : 0 ≤ (x3_3 : Int) := of_decide_eq_true (by first | (with_reducible assumption))
    have q382 : x3_3 < (l0_9.length : Int) := of_decide_eq_true (by first | (with_reducible assumption))
    obtain ⟨ad382, e382, hx382_0, hx382_1⟩ := at_T42 HR0_9.out x3_3 p382 q382
    cases e382
    replace hx382_0 := (HB.out.cell (World.block_lt_of_cell? w _ hx382_0)).trans hx382_0
    replace hx382_1 := (HB.out.cell (World.block_lt_of_cell? w _ hx382_1)).trans hx382_1
    replace p382 := eq_true p382
    replace q382 := eq_true q382
    go_wp2_with (first | ((with_reducible refine gate_callee (f := 28) rfl ?_); refine goesL_ (some 84) rfl rfl Try.func28 (by kernel_rfl) rfl #[.int .u16 ((rd_T42 l0_9 x3_3).f0)] rfl (by (try simp only [List.map_toArray, List.map_cons, List.map_nil]); first | rfl) ?_; (with_reducible refine (tenancyref16_own.calls ((rd_T42 l0_9 x3_3).f0) false _ A33.out).mono ?_); rintro e w' ⟨rfl, ⟨nd, rfl⟩⟩; refine ⟨_, rfl, ?_⟩; have p384 : 0 ≤ (x3_3 : Int) := of_decide_eq_true (by first | (with_reducible assumption)); have q384 : x3_3 < (l0_9.length : Int) := of_decide_eq_true (by first | (with_reducible assumption)); obtain ⟨ad384, e384, hx384_0, hx384_1⟩ := at_T42 HR0_9.out x3_3 p384 q384; obtain rfl : ad382 = ad384 := (by injection e384); replace hx384_0 := (HB.out.cell (World.block_lt_of_cell? w _ hx384_0)).trans hx384_0; replace hx384_1 := (HB.out.cell (World.block_lt_of_cell? w _ hx384_1)).trans hx384_1; replace p384 := eq_true p384; replace q384 := eq_true q384))
    go_ret
    exact ⟨by rfl, by repeat (first | (with_reducible first | exact HB.out | apply pw_below_drewN))⟩
   rw [if_neg c36] at H
   have c36b0 : decide (65535 < (((rd_T42 l0_9 x3_3).f1).size : Int)) = false := decide_eq_false c36
   have c36b1 : decide (65535 < ((rd_T42 l0_9 x3_3).f1).size) = false := decide_eq_false (by omega)
   clear c36
   have H' := ak_ H
   clear H
   have hz38 := bz10_ BK381
   have p382 : 0 ≤ (x3_3 : Int) := of_decide_eq_true (by first | (with_reducible assumption))
   have q382 : x3_3 < (l0_9.length : Int) := of_decide_eq_true (by first | (with_reducible assumption))
   obtain ⟨ad382, e382, hx382_0, hx382_1⟩ := at_T42 HR0_9.out x3_3 p382 q382
   cases e382
   replace hx382_0 := (HB.out.cell (World.block_lt_of_cell? w _ hx382_0)).trans hx382_0
   replace hx382_1 := (HB.out.cell (World.block_lt_of_cell? w _ hx382_1)).trans hx382_1
   replace p382 := eq_true p382
   replace q382 := eq_true q382
   go_wp2_with (first | ((with_reducible refine gate_callee (f := 28) rfl ?_); refine goesL_ (some 84) rfl rfl Try.func28 (by kernel_rfl) rfl #[.int .u16 ((rd_T42 l0_9 x3_3).f0)] rfl (by (try simp only [List.map_toArray, List.map_cons, List.map_nil]); first | rfl) ?_; (with_reducible refine (tenancyref16_own.calls ((rd_T42 l0_9 x3_3).f0) false _ A33.out).mono ?_); rintro e w' ⟨rfl, ⟨nd, rfl⟩⟩; refine ⟨_, rfl, ?_⟩; have p384 : 0 ≤ (x3_3 : Int) := of_decide_eq_true (by first | (with_reducible assumption)); have q384 : x3_3 < (l0_9.length : Int) := of_decide_eq_true (by first | (with_reducible assumption)); obtain ⟨ad384, e384, hx384_0, hx384_1⟩ := at_T42 HR0_9.out x3_3 p384 q384; obtain rfl : ad382 = ad384 := (by injection e384); replace hx384_0 := (HB.out.cell (World.block_lt_of_cell? w _ hx384_0)).trans hx384_0; replace hx384_1 := (HB.out.cell (World.block_lt_of_cell? w _ hx384_1)).trans hx384_1; replace p384 := eq_true p384; replace q384 := eq_true q384))
   go_roundg k3
   case measure => have := HJ1.out; have := HJ19.out; have := HK3.out; omega
   case rel => exact ⟨(wrap64 (x3_3 + 1)), (by rfl), H', ⟨by have := HJ1.out; have := HJ19.out; have := HK3.out; omega⟩, ⟨by (with_reducible repeat (first | refine blk_drewN ?_ _)); exact BK381.out⟩, ⟨by repeat (first | (with_reducible first | exact HB.out | apply pw_below_drewN))⟩⟩
  rw [if_neg c32] at H
  exact absurd H (by simp)
 rw [if_neg c31] at H
 have c31b0 : decide (x3_3 < (l0_9.length : Int)) = false := decide_eq_false c31
 clear c31
 replace H := Option.bind_eq_some_iff.mp H
 obtain ⟨⟨t385, t388⟩, A390, H⟩ := H
 replace H : (if t388 = true then (some (decide ((t385.length : Int) ≤ 128))) else (some false)) = some r := H
 have A39 := ak_ A390
 clear A390
 by_cases c40 : t388 = true
 ·subst c40
  have H1 : (some (decide ((t385.length : Int) ≤ 128))) = some r := by rw [if_pos rfl] at H; exact H
  clear H
  have H := H1
  clear H1
  obtain rfl := Option.some.inj H
  have hz41 := bz10_ BK381
  go_wp2_with (first | ((with_reducible refine gate_callee (f := 24) rfl ?_); refine goesL_ (some 97) rfl rfl Try.func24 (by kernel_rfl) rfl #[.agg #[.int .i64 a0_0, .int .u32 a0_1, .string a0_2, .string a0_3, .slice A0_4 l0_4.length c0_4, .int .i64 a0_5, .bool a0_6, .bool a0_7, .int .i64 a0_8, .slice A0_9 l0_9.length c0_9]] rfl (by (try simp only [List.map_toArray, List.map_cons, List.map_nil]); first | rfl) ?_; (with_reducible refine (tenancyref16_options.calls k3 a0_0 a0_1 a0_2 a0_3 _ _ l0_4 a0_5 a0_6 a0_7 a0_8 _ _ l0_9 t385 true _ ?side1 ?side2 ?side3 ?side4 A39.out).mono ?_); (case side1 => repeat (first | exact (Kd.C_below HR0_4.out HB.out))); (case side2 => exact HC0_4.out); (case side3 => repeat (first | exact (Kd.C_below HR0_9.out HB.out))); (case side4 => exact HC0_9.out); rintro e w42 ⟨v386, rfl, ho0, hb⟩; refine ⟨_, rfl, ?_⟩; have HO387 := ak_ (Kd.R_lower ho0 (below_size HB.out)); replace BK381 := bb_ BK381 hb; replace HB := bs_ HB hb; (try clear hb); (try clear ho0); obtain ⟨Ao43, co43, eo43⟩ := Kd.R_slice HO387.out; subst eo43))
  go_ret
  exact ⟨by rfl, by exact HB.out⟩
 replace c40 := Bool.eq_false_iff.mpr c40
 subst c40
 have H1 : (some false) = some r := by rw [if_neg (show ¬ (false = true) by decide)] at H; exact H
 clear H
 have H := H1
 clear H1
 obtain rfl := Option.some.inj H
 have hz44 := bz10_ BK381
 go_wp2_with (first | ((with_reducible refine gate_callee (f := 24) rfl ?_); refine goesL_ (some 97) rfl rfl Try.func24 (by kernel_rfl) rfl #[.agg #[.int .i64 a0_0, .int .u32 a0_1, .string a0_2, .string a0_3, .slice A0_4 l0_4.length c0_4, .int .i64 a0_5, .bool a0_6, .bool a0_7, .int .i64 a0_8, .slice A0_9 l0_9.length c0_9]] rfl (by (try simp only [List.map_toArray, List.map_cons, List.map_nil]); first | rfl) ?_; (with_reducible refine (tenancyref16_options.calls k3 a0_0 a0_1 a0_2 a0_3 _ _ l0_4 a0_5 a0_6 a0_7 a0_8 _ _ l0_9 t385 false _ ?side1 ?side2 ?side3 ?side4 A39.out).mono ?_); (case side1 => repeat (first | exact (Kd.C_below HR0_4.out HB.out))); (case side2 => exact HC0_4.out); (case side3 => repeat (first | exact (Kd.C_below HR0_9.out HB.out))); (case side4 => exact HC0_9.out); rintro e w45 ⟨v386, rfl, ho0, hb⟩; refine ⟨_, rfl, ?_⟩; have HO387 := ak_ (Kd.R_lower ho0 (below_size HB.out)); replace BK381 := bb_ BK381 hb; replace HB := bs_ HB hb; (try clear hb); (try clear ho0)))
 go_ret
 exact ⟨by rfl, by exact HB.out⟩

def tenancyref15_Emit.l0 : Nat → List (S42) → List Int → Int → Option (ByteArray × Int)
  | 0, _, _, _ => none
  | k + 1, x0, x4, x5 => if x5 < (x0.length : Int) then (if 0 ≤ x5 then ((tenancyref04_Run.f k ((rd_T42 x0 x5).f1)).bind fun bt393 => (if bt393.2 = true then ((tenancyref04_Put16.f k ((rd_T42 x0 x5).f0)).bind fun t396 => (if x4.length + t396.size < 140737488355328 then ((some (x4 ++ bytesOf t396 : List Int)).bind fun y397 => (if y397.length + bt393.1.size < 140737488355328 then (tenancyref15_Emit.l0 k x0 (y397 ++ bytesOf bt393.1) (wrap64 (x5 + 1))) else (none))) else (none))) else (some ((⟨#[]⟩ : ByteArray), 130)))) else (none)) else (some (strOfNums x4, 0))
def tenancyref15_Emit.f (k : Nat) (l0 : List (S42)) : Option (ByteArray × Int) := if (l0.length : Int) > 128 then (some ((⟨#[]⟩ : ByteArray), 6)) else (tenancyref15_Emit.l0 k l0 (([] : List Int)) 0)
set_option maxHeartbeats 8000000 in
set_option maxRecDepth 100000 in
theorem tenancyref15_Emit.calls (k : Nat) (A0 : Option Addr) (c0 : Nat) (l0 : List (S42)) (r1 : ByteArray) (r2 : Int) (w : World) (hr0 : Kd.C k42 w A0 l0.length l0) (hc0 : l0.length ≤ c0) (h : tenancyref15_Emit.f k l0 = some (r1, r2)) :
 Calls Try.prog 25 #[.slice A0 l0.length c0] w fun e w' => e = .returned (.tuple #[.string r1, .int .i64 r2]) ∧ Below w.heap.size w w' := by
 have HR0 := ak_ hr0
 have HC0 := ak_ hc0
 clear hr0 hc0
 have HB := ak_ (Below.refl w.heap.size w)
 have H : (if (l0.length : Int) > 128 then (some ((⟨#[]⟩ : ByteArray), 6)) else (tenancyref15_Emit.l0 k l0 (([] : List Int)) 0)) = some (r1, r2) := h
 clear h
 by_cases c2 : (l0.length : Int) > 128
 ·rw [if_pos c2] at H
  have c2b0 : decide (128 < (l0.length : Int)) = true := decide_eq_true c2
  have c2b1 : decide (128 < l0.length) = true := decide_eq_true (by omega)
  clear c2
  simp only [Option.some.injEq, Prod.mk.injEq] at H
  obtain ⟨rfl, rfl⟩ := H
  go_enter Try.func25, Try.ntmps25
  go_wp2
  go_ret2
  exact ⟨by rfl, by exact HB.out⟩
 rw [if_neg c2] at H
 have c2b0 : decide (128 < (l0.length : Int)) = false := decide_eq_false c2
 have c2b1 : decide (128 < l0.length) = false := decide_eq_false (by omega)
 clear c2
 obtain ⟨y389, hy389⟩ : ∃ y_ : List Int, y_ = (([] : List Int)) := ⟨_, rfl⟩
 replace H : (tenancyref15_Emit.l0 k l0 y389 0) = some (r1, r2) := by first | (rw [hy389]; with_reducible exact H)
 have Ny389 := ak_ hy389
 clear hy389
 have H' := ak_ H
 clear H
 go_enter Try.func25, Try.ntmps25
 go_wp2_with (first | ((with_reducible refine gate_dst (N := 11) rfl ?_); refine Kd.R_lit (Kd.int .u8) _ 5 ?hg (N := 11) ?hd (xs := ([] : List Int)) (inner := []) (ok := fun _ => True) (okp := fun _ => True) ?hr ?hp (fun _ hk => hk) trivial (Below.refl _ _) (Nat.le_refl _) (by simp) ?_; (case hd => rfl); (case hg => rfl); (case hr => go_simp; done); (case hp => exact (Reps.none _ _)); intro v390 w3 ho4 hb hg_ hnew_; clear hg_ hnew_; (first | rw [← Ny389.out] at ho4); have HO391 := ak_ (Kd.R_lower ho4 (below_size HB.out)); replace HB := bs_ HB hb; clear hb ho4))
 go_loopg [4, 5] k (fun kq v4 v5 w' => ∃ (x4_1 : List Int) (x5_1 : Int), v5 = .int .i64 x5_1 ∧ Aside0 (tenancyref15_Emit.l0 kq l0 x4_1 x5_1 = some (r1, r2)) ∧ Aside0 (kq ≤ k) ∧ Aside0 (Kd.R (Kd.int .u8) 5 w' w.heap.size (fun _ => True) v4 x4_1) ∧ Aside0 (Below w.heap.size w w'))
 case atStart => exact ⟨(y389), (0), (by rfl), H', ⟨Nat.le_refl _⟩, ⟨by exact HO391.out⟩, ⟨by exact HB.out⟩⟩
 case round =>
 clear H'
 try clear c2
 try clear c2b0
 try clear c2b1
 try clear p2
 obtain ⟨x4_1, x5_1, rfl, HA, HK1, HO_4, HB⟩ := hrel
 cases gk with
 | zero => exact absurd HA.out (by simp [tenancyref15_Emit.l0])
 | succ k1 =>
 have H := HA.out
 clear HA
 simp only [tenancyref15_Emit.l0] at H
 by_cases c5 : x5_1 < (l0.length : Int)
 ·rw [if_pos c5] at H
  have c5b0 : decide (x5_1 < (l0.length : Int)) = true := decide_eq_true c5
  clear c5
  by_cases c6 : 0 ≤ x5_1
  ·rw [if_pos c6] at H
   have c6b0 : decide (0 ≤ x5_1) = true := decide_eq_true c6
   clear c6
   replace H := Option.bind_eq_some_iff.mp H
   obtain ⟨⟨t393, t394⟩, A70, H⟩ := H
   replace H : (if t394 = true then ((tenancyref04_Put16.f k1 ((rd_T42 l0 x5_1).f0)).bind fun t396 => (if x4_1.length + t396.size < 140737488355328 then ((some (x4_1 ++ bytesOf t396 : List Int)).bind fun y397 => (if y397.length + t393.size < 140737488355328 then (tenancyref15_Emit.l0 k1 l0 (y397 ++ bytesOf t393) (wrap64 (x5_1 + 1))) else (none))) else (none))) else (some ((⟨#[]⟩ : ByteArray), 130))) = some (r1, r2) := H
   have A7 := ak_ A70
   clear A70
   by_cases c8 : t394 = true
   ·subst c8
    have H1 : ((tenancyref04_Put16.f k1 ((rd_T42 l0 x5_1).f0)).bind fun t396 => (if x4_1.length + t396.size < 140737488355328 then ((some (x4_1 ++ bytesOf t396 : List Int)).bind fun y397 => (if y397.length + t393.size < 140737488355328 then (tenancyref15_Emit.l0 k1 l0 (y397 ++ bytesOf t393) (wrap64 (x5_1 + 1))) else (none))) else (none))) = some (r1, r2) := by rw [if_pos rfl] at H; exact H
    clear H
    have H := H1
    clear H1
    replace H := Option.bind_eq_some_iff.mp H
    obtain ⟨t396, A90, H⟩ := H
    replace H : (if x4_1.length + t396.size < 140737488355328 then ((some (x4_1 ++ bytesOf t396 : List Int)).bind fun y397 => (if y397.length + t393.size < 140737488355328 then (tenancyref15_Emit.l0 k1 l0 (y397 ++ bytesOf t393) (wrap64 (x5_1 + 1))) else (none))) else (none)) = some (r1, r2) := H
    have A9 := ak_ A90
    clear A90
    by_cases c10 : x4_1.length + t396.size < 140737488355328
    ·rw [if_pos c10] at H
     have LMc10 := ak_ c10
     clear c10
     obtain ⟨y397, hy397⟩ : ∃ y_ : List Int, y_ = (x4_1 ++ bytesOf t396) := ⟨_, rfl⟩
     replace H : (if y397.length + t393.size < 140737488355328 then (tenancyref15_Emit.l0 k1 l0 (y397 ++ bytesOf t393) (wrap64 (x5_1 + 1))) else (none)) = some (r1, r2) := by first | (have H2_ := (Option.bind_some _ _).symm.trans H; rw [hy397]; with_reducible exact H2_)
     have Ny397 := ak_ hy397
     clear hy397
     by_cases c11 : y397.length + t393.size < 140737488355328
     ·rw [if_pos c11] at H
      have LMc11 := ak_ c11
      clear c11
      obtain ⟨y400, hy400⟩ : ∃ y_ : List Int, y_ = (y397 ++ bytesOf t393) := ⟨_, rfl⟩
      replace H : (tenancyref15_Emit.l0 k1 l0 y400 (wrap64 (x5_1 + 1))) = some (r1, r2) := by first | (rw [hy400]; with_reducible exact H)
      have Ny400 := ak_ hy400
      clear hy400
      have H' := ak_ H
      clear H
      have p392 : 0 ≤ (x5_1 : Int) := of_decide_eq_true (by first | (with_reducible assumption))
      have q392 : x5_1 < (l0.length : Int) := of_decide_eq_true (by first | (with_reducible assumption))
      obtain ⟨ad392, e392, hx392_0, hx392_1⟩ := at_T42 HR0.out x5_1 p392 q392
      cases e392
      replace hx392_0 := (HB.out.cell (World.block_lt_of_cell? w _ hx392_0)).trans hx392_0
      replace hx392_1 := (HB.out.cell (World.block_lt_of_cell? w _ hx392_1)).trans hx392_1
      replace p392 := eq_true p392
      replace q392 := eq_true q392
      go_wp2_with (first | ((with_reducible refine gate_callee (f := 47) rfl ?_); refine goesL_ (some 24) rfl rfl Try.func47 (by kernel_rfl) rfl #[.string ((rd_T42 l0 x5_1).f1)] rfl (by (try simp only [List.map_toArray, List.map_cons, List.map_nil]); first | rfl) ?_; (with_reducible refine (tenancyref04_Run.calls k1 ((rd_T42 l0 x5_1).f1) t393 true _ A7.out).mono ?_); rintro e w12 ⟨rfl, hb⟩; refine ⟨_, rfl, ?_⟩; replace HO_4 := ak_ (Kd.R_below HO_4.out hb); replace HB := bs_ HB hb; (try clear hb); have p395 : 0 ≤ (x5_1 : Int) := of_decide_eq_true (by first | (with_reducible assumption)); have q395 : x5_1 < (l0.length : Int) := of_decide_eq_true (by first | (with_reducible assumption)); obtain ⟨ad395, e395, hx395_0, hx395_1⟩ := at_T42 HR0.out x5_1 p395 q395; obtain rfl : ad392 = ad395 := (by injection e395); replace hx395_0 := (HB.out.cell (World.block_lt_of_cell? w _ hx395_0)).trans hx395_0; replace hx395_1 := (HB.out.cell (World.block_lt_of_cell? w _ hx395_1)).trans hx395_1; replace p395 := eq_true p395; replace q395 := eq_true q395) | ((with_reducible refine gate_callee (f := 48) rfl ?_); refine goesL_ (some 35) rfl rfl Try.func48 (by kernel_rfl) rfl #[.int .u16 ((rd_T42 l0 x5_1).f0)] rfl (by (try simp only [List.map_toArray, List.map_cons, List.map_nil]); first | rfl) ?_; (with_reducible refine (tenancyref04_Put16.calls k1 ((rd_T42 l0 x5_1).f0) t396 _ A9.out).mono ?_); rintro e w13 ⟨rfl, hb⟩; refine ⟨_, rfl, ?_⟩; replace HO_4 := ak_ (Kd.R_below HO_4.out hb); replace HB := bs_ HB hb; (try clear hb)) | (at_builtin; refine print_append_str (w0 := w) w.heap.size rfl (.tmp 29) _ 47 9 5 rfl Try.underlying47 Try.underlying9 info5 u4 x4_1 t396 rfl rfl ?aO ?aB ?aS ?aL ?_; (case aB => exact HB.out); (case aO => exact (Kd.own_of_R HO_4.out)); (case aS => exact (below_size HB.out)); (case aL => have := LMc10.out; omega); intro v398 w14 ho0 hb hg; have ho := Kd.R_of_own (h1 := fun _ => rfl) (ok := fun _ => True) ho0 (fun _ _ => trivial); clear ho0; have hat := True.intro; rw [← Ny397.out] at ho; change Kd.R (Kd.int .u8) 5 w14 w.heap.size (fun _ => True) v398 y397 at ho; replace HB := ak_ hb; have HO399 := ak_ ho; clear HO_4; clear ho hb hg hat) | (at_builtin; refine print_append_str (w0 := w) w.heap.size rfl (.tmp 37) _ 47 9 5 rfl Try.underlying47 Try.underlying9 info5 v398 y397 t393 rfl rfl ?aO ?aB ?aS ?aL ?_; (case aB => exact HB.out); (case aO => exact (Kd.own_of_R HO399.out)); (case aS => exact (below_size HB.out)); (case aL => have := LMc11.out; omega); intro v401 w15 ho0 hb hg; have ho := Kd.R_of_own (h1 := fun _ => rfl) (ok := fun _ => True) ho0 (fun _ _ => trivial); clear ho0; have hat := True.intro; rw [← Ny400.out] at ho; change Kd.R (Kd.int .u8) 5 w15 w.heap.size (fun _ => True) v401 y400 at ho; replace HB := ak_ hb; have HO402 := ak_ ho; clear HO399; clear ho hb hg hat))
      go_roundg k1
      case measure => have := HK1.out; omega
      case rel => exact ⟨(y400), (wrap64 (x5_1 + 1)), (by rfl), H', ⟨by have := HK1.out; omega⟩, ⟨by exact HO402.out⟩, ⟨by exact HB.out⟩⟩
     rw [if_neg c11] at H
     exact absurd H (by simp)
    rw [if_neg c10] at H
    exact absurd H (by simp)
   replace c8 := Bool.eq_false_iff.mpr c8
   subst c8
   have H1 : (some ((⟨#[]⟩ : ByteArray), 130)) = some (r1, r2) := by rw [if_neg (show ¬ (false = true) by decide)] at H; exact H
   clear H
   have H := H1
   clear H1
   simp only [Option.some.injEq, Prod.mk.injEq] at H
   obtain ⟨rfl, rfl⟩ := H
   have p392 : 0 ≤ (x5_1 : Int) := of_decide_eq_true (by first | (with_reducible assumption))
   have q392 : x5_1 < (l0.length : Int) := of_decide_eq_true (by first | (with_reducible assumption))
   obtain ⟨ad392, e392, hx392_0, hx392_1⟩ := at_T42 HR0.out x5_1 p392 q392
   cases e392
   replace hx392_0 := (HB.out.cell (World.block_lt_of_cell? w _ hx392_0)).trans hx392_0
   replace hx392_1 := (HB.out.cell (World.block_lt_of_cell? w _ hx392_1)).trans hx392_1
   replace p392 := eq_true p392
   replace q392 := eq_true q392
   go_wp2_with (first | ((with_reducible refine gate_callee (f := 47) rfl ?_); refine goesL_ (some 24) rfl rfl Try.func47 (by kernel_rfl) rfl #[.string ((rd_T42 l0 x5_1).f1)] rfl (by (try simp only [List.map_toArray, List.map_cons, List.map_nil]); first | rfl) ?_; (with_reducible refine (tenancyref04_Run.calls k1 ((rd_T42 l0 x5_1).f1) t393 false _ A7.out).mono ?_); rintro e w16 ⟨rfl, hb⟩; refine ⟨_, rfl, ?_⟩; replace HO_4 := ak_ (Kd.R_below HO_4.out hb); replace HB := bs_ HB hb; (try clear hb)))
   go_ret2
   exact ⟨by rfl, by exact HB.out⟩
  rw [if_neg c6] at H
  exact absurd H (by simp)
 rw [if_neg c5] at H
 have c5b0 : decide (x5_1 < (l0.length : Int)) = false := decide_eq_false c5
 clear c5
 simp only [Option.some.injEq, Prod.mk.injEq] at H
 obtain ⟨rfl, rfl⟩ := H
 have hcv17 := own_string (P := Try.prog) Try.underlying47 Try.underlying5 Try.underlying9 (Kd.own_of_R HO_4.out)
 go_wp2
 go_ret2
 exact ⟨by rfl, by exact HB.out⟩

end Go.Proofs.Ythadapbekmmgpaa.X
