/- Functions of the program as Lean functions, and that the calls come to them: no condition.  By this session's own program (wip/xprint). -/
import Derived.Test.YtpdopkhdhbdljaaG0
import Derived.Test.YtpdopkhdhbdljaaG1
import Derived.Test.YtpdopkhdhbdljaaG2
import Derived.Test.YtpdopkhdhbdljaaG3
import Derived.Test.YtpdopkhdhbdljaaG4
namespace Go.Proofs.Ytpdopkhdhbdljaa.X
open Go.RowKit Go.Proofs.YtpdopkhdhbdljaaW.PrintWords Go.Proofs.YtpdopkhdhbdljaaW.PrintLast Go.Proofs.YtpdopkhdhbdljaaW.PrintMore
attribute [local go_sem] max2_int min2_int max_two min_two max_three min_three max_four min_four   -- for this text's walks alone
set_option linter.unusedVariables false
set_option linter.unusedSimpArgs false
attribute [local go_sem high] eqA26
/-! ### octet_GetAddr: function 68 -/
def octet_GetAddr.f (k : Nat) (a0 : ByteArray) (a1 : Int) : Option (Int × Int × Bool) := (octet_Cut.f a0 a1 16).bind fun bt238 => (if bt238.2 = true then ((octet_Get64.f k bt238.1 0).bind fun bt240 => ((octet_Get64.f k bt238.1 8).bind fun bt242 => (some (bt240.1, bt242.1, true)))) else (some (0, 0, false)))
theorem octet_GetAddr.mono : ∀ a0 a1 k, LeO (octet_GetAddr.f k a0 a1) (octet_GetAddr.f (k + 1) a0 a1) := by
  intro a0 a1 k
  unfold octet_GetAddr.f
  repeat' first
      | (with_reducible exact octet_Get64.mono _ _ _)
      | (with_reducible exact LeO.refl _)
      | (with_reducible exact LeO.none _)
      | (with_reducible refine LeO.ite ?_ ?_)
      | (with_reducible refine LeO.bind ?_ (fun _ => ?_))
      | exact octet_Get64.mono _ _ _
      | exact LeO.none _
      | refine LeO.ite ?_ ?_
      | refine LeO.bind ?_ (fun _ => ?_)
set_option maxHeartbeats 8000000 in
set_option maxRecDepth 100000 in
theorem octet_GetAddr.calls (k : Nat) (a0 : ByteArray) (a1 : Int) (r1 : Int) (r2 : Int) (r3 : Bool) (w : World) (h : octet_GetAddr.f k a0 a1 = some (r1, r2, r3)) :
    Calls Try.prog 68 #[.string a0, .int .i64 a1] w fun e w' => e = .returned (.tuple #[.agg #[.int .u64 r1, .int .u64 r2], .bool r3]) ∧ Below w.heap.size w w' := by
  have hu24 := Try.underlying24
  have HB := Aside0.mk (Below.refl w.heap.size w)
  have H : ((octet_Cut.f a0 a1 16).bind fun bt238 => (if bt238.2 = true then ((octet_Get64.f k bt238.1 0).bind fun bt240 => ((octet_Get64.f k bt238.1 8).bind fun bt242 => (some (bt240.1, bt242.1, true)))) else (some (0, 0, false)))) = some (r1, r2, r3) := h
  clear h
  replace H := Option.bind_eq_some_iff.mp H
  obtain ⟨⟨t238, t239⟩, A30, H⟩ := H
  replace H : (if t239 = true then ((octet_Get64.f k t238 0).bind fun bt240 => ((octet_Get64.f k t238 8).bind fun bt242 => (some (bt240.1, bt242.1, true)))) else (some (0, 0, false))) = some (r1, r2, r3) := H
  have A3 := Aside0.mk A30
  clear A30
  by_cases c4 : t239 = true
  · subst c4
    have H1 : ((octet_Get64.f k t238 0).bind fun bt240 => ((octet_Get64.f k t238 8).bind fun bt242 => (some (bt240.1, bt242.1, true)))) = some (r1, r2, r3) := by rw [if_pos rfl] at H; exact H
    clear H
    have H := H1
    clear H1
    replace H := Option.bind_eq_some_iff.mp H
    obtain ⟨⟨t240, t241⟩, A50, H⟩ := H
    replace H : ((octet_Get64.f k t238 8).bind fun bt242 => (some (t240, bt242.1, true))) = some (r1, r2, r3) := H
    have A5 := Aside0.mk A50
    clear A50
    replace H := Option.bind_eq_some_iff.mp H
    obtain ⟨⟨t242, t243⟩, A60, H⟩ := H
    replace H : (some (t240, t242, true)) = some (r1, r2, r3) := H
    have A6 := Aside0.mk A60
    clear A60
    simp only [Option.some.injEq, Prod.mk.injEq] at H
    obtain ⟨rfl, rfl, rfl⟩ := H
    go_enter Try.func68, Try.ntmps68
    go_wp2_with (first | ((with_reducible refine gate_dst (N := 4) rfl ?_); refine box_event ?hg (N := 4) ?hd (cs := #[.int .u64 0, .int .u64 0]) (t := 24) ?hr ?_; (case hd => rfl); (case hg => rfl); (case hr => go_simp; done); intro gb237 hg w7 hbox hb; have n0_ := Aside0.mk (below_step HB.out hb); have n1_ := Aside0.mk (hbox); have n2_ := Aside0.mk ((by rw [hg]; exact (below_size HB.out) : w.heap.size ≤ gb237)); have n3_ := Aside0.mk ((by rw [hg]; exact (below_size HB.out) : w.heap.size ≤ gb237)); clear HB; have HB := n0_; have BK237 := n1_; have GW237 := n2_; have GE237 := n3_; clear n0_ n1_ n2_ n3_; clear hb hbox hg) | ((with_reducible refine gate_callee (f := 88) rfl ?_); refine goesL_ (some 15) rfl rfl Try.func88 (by kernel_rfl) rfl #[.string a0, .int .i64 a1, .int .i64 16] rfl (by (try simp only [List.map_toArray, List.map_cons, List.map_nil]); first | rfl) ?_; (with_reducible refine (octet_Cut.calls a0 a1 16 t238 true _ A3.out).mono ?_); rintro e w8 ⟨rfl, hb⟩; refine ⟨_, rfl, ?_⟩; have n0_ := Aside0.mk (blk_below (g := gb237) (o := .cells #[.int .u64 0, .int .u64 0] 24 (0, 0)) BK237.out hb); have n1_ := Aside0.mk (below_step HB.out hb); clear BK237; clear HB; have BK237 := n0_; have HB := n1_; clear n0_ n1_; (try clear hb); (try clear hb2); (try clear hk); (try clear hi)) | ((with_reducible refine gate_callee (f := 71) rfl ?_); refine goesL_ (some 23) rfl rfl Try.func71 (by kernel_rfl) rfl #[.string t238, .int .i64 0] rfl (by (try simp only [List.map_toArray, List.map_cons, List.map_nil]); first | rfl) ?_; (with_reducible refine (octet_Get64.calls k t238 0 t240 t241 _ A5.out).mono ?_); rintro e w9 ⟨rfl, hb⟩; refine ⟨_, rfl, ?_⟩; have n0_ := Aside0.mk (blk_below (g := gb237) (o := .cells #[.int .u64 0, .int .u64 0] 24 (0, 0)) BK237.out hb); have n1_ := Aside0.mk (below_step HB.out hb); clear BK237; clear HB; have BK237 := n0_; have HB := n1_; clear n0_ n1_; (try clear hb); (try clear hb2); (try clear hk); (try clear hi)) | ((with_reducible refine gate_callee (f := 71) rfl ?_); refine goesL_ (some 28) rfl rfl Try.func71 (by kernel_rfl) rfl #[.string t238, .int .i64 8] rfl (by (try simp only [List.map_toArray, List.map_cons, List.map_nil]); first | rfl) ?_; (with_reducible refine (octet_Get64.calls k t238 8 t242 t243 _ A6.out).mono ?_); rintro e w10 ⟨rfl, hb⟩; refine ⟨_, rfl, ?_⟩; have n0_ := Aside0.mk (blk_below (g := gb237) (o := .cells #[.int .u64 0, .int .u64 0] 24 (0, 0)) BK237.out hb); have n1_ := Aside0.mk (below_step HB.out hb); clear BK237; clear HB; have BK237 := n0_; have HB := n1_; clear n0_ n1_; (try clear hb); (try clear hb2); (try clear hk); (try clear hi); obtain ⟨hcz11_0, hcz11_1⟩ := XRun.bc2 BK237.out; obtain ⟨hfz11_0, hfz11_1⟩ := XRun.bf2 BK237.out))
    refine bodyPost_ret (results_ct rfl _ _ gb237 24 #[.int .u64 t240, .int .u64 t242] (0, 0) _ rfl (by refine blk_put (cs := #[.int .u64 t240, .int .u64 0]) ?_ 1 _ rfl; refine blk_put (cs := #[.int .u64 0, .int .u64 0]) ?_ 0 _ rfl; exact BK237.out) Try.underlying24 rfl (by kernel_rfl)) rfl ?_
    exact ⟨by rfl, by repeat (first | (with_reducible first | exact HB.out | refine below_set ?_ GE237.out))⟩
  · replace c4 := Bool.eq_false_iff.mpr c4
    subst c4
    have H1 : (some (0, 0, false)) = some (r1, r2, r3) := by rw [if_neg (show ¬ (false = true) by decide)] at H; exact H
    clear H
    have H := H1
    clear H1
    simp only [Option.some.injEq, Prod.mk.injEq] at H
    obtain ⟨rfl, rfl, rfl⟩ := H
    go_enter Try.func68, Try.ntmps68
    go_wp2_with (first | ((with_reducible refine gate_dst (N := 4) rfl ?_); refine box_event ?hg (N := 4) ?hd (cs := #[.int .u64 0, .int .u64 0]) (t := 24) ?hr ?_; (case hd => rfl); (case hg => rfl); (case hr => go_simp; done); intro gb237 hg w12 hbox hb; have n0_ := Aside0.mk (below_step HB.out hb); have n1_ := Aside0.mk (hbox); have n2_ := Aside0.mk ((by rw [hg]; exact (below_size HB.out) : w.heap.size ≤ gb237)); have n3_ := Aside0.mk ((by rw [hg]; exact (below_size HB.out) : w.heap.size ≤ gb237)); clear HB; have HB := n0_; have BK237 := n1_; have GW237 := n2_; have GE237 := n3_; clear n0_ n1_ n2_ n3_; clear hb hbox hg) | ((with_reducible refine gate_callee (f := 88) rfl ?_); refine goesL_ (some 15) rfl rfl Try.func88 (by kernel_rfl) rfl #[.string a0, .int .i64 a1, .int .i64 16] rfl (by (try simp only [List.map_toArray, List.map_cons, List.map_nil]); first | rfl) ?_; (with_reducible refine (octet_Cut.calls a0 a1 16 t238 false _ A3.out).mono ?_); rintro e w13 ⟨rfl, hb⟩; refine ⟨_, rfl, ?_⟩; have n0_ := Aside0.mk (blk_below (g := gb237) (o := .cells #[.int .u64 0, .int .u64 0] 24 (0, 0)) BK237.out hb); have n1_ := Aside0.mk (below_step HB.out hb); clear BK237; clear HB; have BK237 := n0_; have HB := n1_; clear n0_ n1_; (try clear hb); (try clear hb2); (try clear hk); (try clear hi); obtain ⟨hcz14_0, hcz14_1⟩ := XRun.bc2 BK237.out; obtain ⟨hfz14_0, hfz14_1⟩ := XRun.bf2 BK237.out))
    refine bodyPost_ret (results_ct rfl _ _ gb237 24 #[.int .u64 0, .int .u64 0] (0, 0) _ rfl (by refine blk_put (cs := #[.int .u64 0, .int .u64 0]) ?_ 1 _ rfl; refine blk_put (cs := #[.int .u64 0, .int .u64 0]) ?_ 0 _ rfl; exact BK237.out) Try.underlying24 rfl (by kernel_rfl)) rfl ?_
    exact ⟨by rfl, by repeat (first | (with_reducible first | exact HB.out | refine below_set ?_ GE237.out))⟩

/-! ### octet_get_uint32: function 89 -/
def octet_get_uint32.l0 : Nat → Bool → Int → List Int → Int → Int → Option (Int × Bool)
  | 0, _, _, _, _, _ => none
  | k + 1, x9, x10, x21, x22, x23 => if x23 < x22 then (if 0 ≤ x23 then (if x23 < (x21.length : Int) then (octet_get_uint32.l0 k x9 (Go.bits .or .u32 ((x10 * 256) % 4294967296) ((rd x21 x23) % 4294967296)) x21 x22 (wrap64 (x23 + 1))) else (none)) else (none)) else (some (x10, x9))
def octet_get_uint32.f (k : Nat) (a0 : ByteArray) (a1 : Int) (a2 : Int) : Option (Int × Bool) := (octet_Cut.f a0 a1 a2).bind fun bt244 => ((conv9_60.f bt244.1).bind fun t246 => (octet_get_uint32.l0 k bt244.2 0 t246 (t246.length : Int) 0))
theorem octet_get_uint32.mono_l : ∀ k, (∀ y0 y1 y2 y3 y4, LeO (octet_get_uint32.l0 k y0 y1 y2 y3 y4) (octet_get_uint32.l0 (k + 1) y0 y1 y2 y3 y4))
  | 0 => fun _ _ _ _ _ r h => by simp [octet_get_uint32.l0] at h
  | k + 1 => by
    have ih0 := octet_get_uint32.mono_l k
    · intro y0 y1 y2 y3 y4
      unfold octet_get_uint32.l0
      repeat' first
      | (with_reducible exact ih0 _ _ _ _ _)
      | (with_reducible exact LeO.refl _)
      | (with_reducible exact LeO.none _)
      | (with_reducible refine LeO.ite ?_ ?_)
      | (with_reducible refine LeO.bind ?_ (fun _ => ?_))
      | exact ih0 _ _ _ _ _
      | exact LeO.none _
      | refine LeO.ite ?_ ?_
      | refine LeO.bind ?_ (fun _ => ?_)
theorem octet_get_uint32.mono : ∀ a0 a1 a2 k, LeO (octet_get_uint32.f k a0 a1 a2) (octet_get_uint32.f (k + 1) a0 a1 a2) := by
  intro a0 a1 a2 k
  have ih0 := octet_get_uint32.mono_l k
  unfold octet_get_uint32.f
  repeat' first
      | (with_reducible exact ih0 _ _ _ _ _)
      | (with_reducible exact LeO.refl _)
      | (with_reducible exact LeO.none _)
      | (with_reducible refine LeO.ite ?_ ?_)
      | (with_reducible refine LeO.bind ?_ (fun _ => ?_))
      | exact ih0 _ _ _ _ _
      | exact LeO.none _
      | refine LeO.ite ?_ ?_
      | refine LeO.bind ?_ (fun _ => ?_)
set_option maxHeartbeats 8000000 in
set_option maxRecDepth 100000 in
theorem octet_get_uint32.calls (k : Nat) (a0 : ByteArray) (a1 : Int) (a2 : Int) (r1 : Int) (r2 : Bool) (w : World) (h : octet_get_uint32.f k a0 a1 a2 = some (r1, r2)) :
    Calls Try.prog 89 #[.string a0, .int .i64 a1, .int .i64 a2] w fun e w' => e = .returned (.tuple #[.int .u32 r1, .bool r2]) ∧ Below w.heap.size w w' := by
  have HB := Aside0.mk (Below.refl w.heap.size w)
  have H : ((octet_Cut.f a0 a1 a2).bind fun bt244 => ((conv9_60.f bt244.1).bind fun t246 => (octet_get_uint32.l0 k bt244.2 0 t246 (t246.length : Int) 0))) = some (r1, r2) := h
  clear h
  replace H := Option.bind_eq_some_iff.mp H
  obtain ⟨⟨t244, t245⟩, A40, H⟩ := H
  replace H : ((conv9_60.f t244).bind fun t246 => (octet_get_uint32.l0 k t245 0 t246 (t246.length : Int) 0)) = some (r1, r2) := H
  have A4 := Aside0.mk A40
  clear A40
  replace H := Option.bind_eq_some_iff.mp H
  obtain ⟨t246, A50, H⟩ := H
  replace H : (octet_get_uint32.l0 k t245 0 t246 (t246.length : Int) 0) = some (r1, r2) := H
  have A5 := Aside0.mk A50
  clear A50
  have H' := Aside0.mk H
  clear H
  go_enter Try.func89, Try.ntmps89
  go_wp2_with (first | ((with_reducible refine gate_callee (f := 88) rfl ?_); refine goesL_ (some 17) rfl rfl Try.func88 (by kernel_rfl) rfl #[.string a0, .int .i64 a1, .int .i64 a2] rfl (by (try simp only [List.map_toArray, List.map_cons, List.map_nil]); first | rfl) ?_; (with_reducible refine (octet_Cut.calls a0 a1 a2 t244 t245 _ A4.out).mono ?_); rintro e w6 ⟨rfl, hb⟩; refine ⟨_, rfl, ?_⟩; have n0_ := Aside0.mk (below_step HB.out hb); clear HB; have HB := n0_; clear n0_; (try clear hb); (try clear hb2); (try clear hk); (try clear hi)) | ((with_reducible refine gate_dst (N := 21) rfl ?_); refine XRun.convL_ 21 rfl rfl 9 60 5 Try.underlying9 Try.underlying60 Try.underlying5 t244 rfl (by rfl) ?_; (with_reducible refine (conv9_60.calls t244 t246 _ A5.out).mono ?_); rintro e w7 ⟨v247, rfl, ho0, hb⟩; refine ⟨_, rfl, ?_⟩; have n0_ := Aside0.mk (Kd.V_lower (Kd.V_mono (ok' := fun k_ => True) ho0 (fun k_ hk_ => trivial)) (below_size HB.out)); have n1_ := Aside0.mk (below_step HB.out hb); clear HB; have HO248 := n0_; have HB := n1_; clear n0_ n1_; (try clear hb); (try clear hb2); (try clear hk); (try clear hi); (try clear ho0); obtain ⟨Ao8, co8, eo8⟩ := Kd.V_slice HO248.out; subst eo8))
  go_loopg [10, 23] k (fun kq v10 v23 w' => ∃ (x10_1 : Int) (x23_1 : Int), v10 = .int .u32 x10_1 ∧ v23 = .int .i64 x23_1 ∧ Aside0 (octet_get_uint32.l0 kq t245 x10_1 t246 (t246.length : Int) x23_1 = some (r1, r2)) ∧ Aside0 (kq ≤ k) ∧ Aside0 (Kd.V (Kd.int .u8) 5 w' w.heap.size (fun _ => True) (.slice Ao8 t246.length co8) t246) ∧ Aside0 (Below w.heap.size w w'))
  case atStart => exact ⟨(0), (0), (by rfl), (by rfl), H', ⟨Nat.le_refl _⟩, ⟨by exact HO248.out⟩, ⟨by exact HB.out⟩⟩
  case round =>
    clear H'
    try clear p2
    try clear c8
    obtain ⟨x10_1, x23_1, rfl, rfl, HA, HK1, HO_21, HB⟩ := hrel
    cases gk with
    | zero => exact absurd HA.out (by simp [octet_get_uint32.l0])
    | succ k1 =>
      have H := HA.out
      clear HA
      simp only [octet_get_uint32.l0] at H
      by_cases c9 : x23_1 < (t246.length : Int)
      · rw [if_pos c9] at H
        have c9b0 : decide (x23_1 < (t246.length : Int)) = true := decide_eq_true c9
        clear c9
        by_cases c10 : 0 ≤ x23_1
        · rw [if_pos c10] at H
          have c10b0 : decide (0 ≤ x23_1) = true := decide_eq_true c10
          clear c10
          by_cases c11 : x23_1 < (t246.length : Int)
          · rw [if_pos c11] at H
            have c11b0 : decide (x23_1 < (t246.length : Int)) = true := decide_eq_true c11
            clear c11
            have H' := Aside0.mk H
            clear H
            have p249 : 0 ≤ (x23_1 : Int) := of_decide_eq_true (by first | (with_reducible assumption))
            have q249 : x23_1 < (t246.length : Int) := of_decide_eq_true (by first | (with_reducible assumption))
            obtain ⟨ad249, e249, hx249_0⟩ := Kd.at_int (Kd.V_reads' HO_21.out).2.2 x23_1 p249 q249
            cases e249
            replace p249 := eq_true p249
            replace q249 := eq_true q249
            go_wp2
            go_roundg k1
            case measure => have := HK1.out; omega
            case rel => exact ⟨(Go.bits .or .u32 ((x10_1 * 256) % 4294967296) ((rd t246 x23_1) % 4294967296)), (wrap64 (x23_1 + 1)), (by rfl), (by rfl), H', ⟨by have := HK1.out; omega⟩, ⟨by exact HO_21.out⟩, ⟨by exact HB.out⟩⟩
          · rw [if_neg c11] at H
            exact absurd H (by simp)
        · rw [if_neg c10] at H
          exact absurd H (by simp)
      · rw [if_neg c9] at H
        have c9b0 : decide (x23_1 < (t246.length : Int)) = false := decide_eq_false c9
        clear c9
        simp only [Option.some.injEq, Prod.mk.injEq] at H
        obtain ⟨rfl, rfl⟩ := H
        go_wp2
        go_ret2
        exact ⟨by rfl, by exact HB.out⟩

/-! ### octet_Get32: function 70 -/
def octet_Get32.f (k : Nat) (a0 : ByteArray) (a1 : Int) : Option (Int × Bool) := (octet_get_uint32.f k a0 a1 4).bind fun bt250 => (some (bt250.1, bt250.2))
theorem octet_Get32.mono : ∀ a0 a1 k, LeO (octet_Get32.f k a0 a1) (octet_Get32.f (k + 1) a0 a1) := by
  intro a0 a1 k
  unfold octet_Get32.f
  repeat' first
      | (with_reducible exact octet_get_uint32.mono _ _ _ _)
      | (with_reducible exact LeO.refl _)
      | (with_reducible exact LeO.none _)
      | (with_reducible refine LeO.ite ?_ ?_)
      | (with_reducible refine LeO.bind ?_ (fun _ => ?_))
      | exact octet_get_uint32.mono _ _ _ _
      | exact LeO.none _
      | refine LeO.ite ?_ ?_
      | refine LeO.bind ?_ (fun _ => ?_)
set_option maxHeartbeats 8000000 in
set_option maxRecDepth 100000 in
theorem octet_Get32.calls (k : Nat) (a0 : ByteArray) (a1 : Int) (r1 : Int) (r2 : Bool) (w : World) (h : octet_Get32.f k a0 a1 = some (r1, r2)) :
    Calls Try.prog 70 #[.string a0, .int .i64 a1] w fun e w' => e = .returned (.tuple #[.int .u32 r1, .bool r2]) ∧ Below w.heap.size w w' := by
  have HB := Aside0.mk (Below.refl w.heap.size w)
  have H : ((octet_get_uint32.f k a0 a1 4).bind fun bt250 => (some (bt250.1, bt250.2))) = some (r1, r2) := h
  clear h
  replace H := Option.bind_eq_some_iff.mp H
  obtain ⟨⟨t250, t251⟩, A30, H⟩ := H
  replace H : (some (t250, t251)) = some (r1, r2) := H
  have A3 := Aside0.mk A30
  clear A30
  simp only [Option.some.injEq, Prod.mk.injEq] at H
  obtain ⟨rfl, rfl⟩ := H
  go_enter Try.func70, Try.ntmps70
  go_wp2_with (first | ((with_reducible refine gate_callee (f := 89) rfl ?_); refine goesL_ (some 8) rfl rfl Try.func89 (by kernel_rfl) rfl #[.string a0, .int .i64 a1, .int .i64 4] rfl (by (try simp only [List.map_toArray, List.map_cons, List.map_nil]); first | rfl) ?_; (with_reducible refine (octet_get_uint32.calls k a0 a1 4 t250 t251 _ A3.out).mono ?_); rintro e w4 ⟨rfl, hb⟩; refine ⟨_, rfl, ?_⟩; have n0_ := Aside0.mk (below_step HB.out hb); clear HB; have HB := n0_; clear n0_; (try clear hb); (try clear hb2); (try clear hk); (try clear hi)))
  go_ret2
  exact ⟨by rfl, by exact HB.out⟩

/-! ### octet_TakeRun: function 72 -/
def octet_TakeRun.f (k : Nat) (a0 : ByteArray) (a1 : Int) : Option (ByteArray × Int × Bool) := (octet_Get16.f k a0 a1).bind fun bt252 => (if bt252.2 = true then ((octet_Cut.f a0 (wrap64 (a1 + 2)) (wrap64 (bt252.1))).bind fun bt254 => (if bt254.2 = true then (some (bt254.1, wrap64 ((wrap64 (a1 + 2)) + (bt254.1.size : Int)), true)) else (some ((⟨#[]⟩ : ByteArray), 0, false)))) else (some ((⟨#[]⟩ : ByteArray), 0, false)))
theorem octet_TakeRun.mono : ∀ a0 a1 k, LeO (octet_TakeRun.f k a0 a1) (octet_TakeRun.f (k + 1) a0 a1) := by
  intro a0 a1 k
  unfold octet_TakeRun.f
  repeat' first
      | (with_reducible exact octet_Get16.mono _ _ _)
      | (with_reducible exact LeO.refl _)
      | (with_reducible exact LeO.none _)
      | (with_reducible refine LeO.ite ?_ ?_)
      | (with_reducible refine LeO.bind ?_ (fun _ => ?_))
      | exact octet_Get16.mono _ _ _
      | exact LeO.none _
      | refine LeO.ite ?_ ?_
      | refine LeO.bind ?_ (fun _ => ?_)
set_option maxHeartbeats 8000000 in
set_option maxRecDepth 100000 in
theorem octet_TakeRun.calls (k : Nat) (a0 : ByteArray) (a1 : Int) (r1 : ByteArray) (r2 : Int) (r3 : Bool) (w : World) (h : octet_TakeRun.f k a0 a1 = some (r1, r2, r3)) :
    Calls Try.prog 72 #[.string a0, .int .i64 a1] w fun e w' => e = .returned (.tuple #[.string r1, .int .i64 r2, .bool r3]) ∧ Below w.heap.size w w' := by
  have HB := Aside0.mk (Below.refl w.heap.size w)
  have H : ((octet_Get16.f k a0 a1).bind fun bt252 => (if bt252.2 = true then ((octet_Cut.f a0 (wrap64 (a1 + 2)) (wrap64 (bt252.1))).bind fun bt254 => (if bt254.2 = true then (some (bt254.1, wrap64 ((wrap64 (a1 + 2)) + (bt254.1.size : Int)), true)) else (some ((⟨#[]⟩ : ByteArray), 0, false)))) else (some ((⟨#[]⟩ : ByteArray), 0, false)))) = some (r1, r2, r3) := h
  clear h
  replace H := Option.bind_eq_some_iff.mp H
  obtain ⟨⟨t252, t253⟩, A30, H⟩ := H
  replace H : (if t253 = true then ((octet_Cut.f a0 (wrap64 (a1 + 2)) (wrap64 (t252))).bind fun bt254 => (if bt254.2 = true then (some (bt254.1, wrap64 ((wrap64 (a1 + 2)) + (bt254.1.size : Int)), true)) else (some ((⟨#[]⟩ : ByteArray), 0, false)))) else (some ((⟨#[]⟩ : ByteArray), 0, false))) = some (r1, r2, r3) := H
  have A3 := Aside0.mk A30
  clear A30
  by_cases c4 : t253 = true
  · subst c4
    have H1 : ((octet_Cut.f a0 (wrap64 (a1 + 2)) (wrap64 (t252))).bind fun bt254 => (if bt254.2 = true then (some (bt254.1, wrap64 ((wrap64 (a1 + 2)) + (bt254.1.size : Int)), true)) else (some ((⟨#[]⟩ : ByteArray), 0, false)))) = some (r1, r2, r3) := by rw [if_pos rfl] at H; exact H
    clear H
    have H := H1
    clear H1
    replace H := Option.bind_eq_some_iff.mp H
    obtain ⟨⟨t254, t255⟩, A50, H⟩ := H
    replace H : (if t255 = true then (some (t254, wrap64 ((wrap64 (a1 + 2)) + (t254.size : Int)), true)) else (some ((⟨#[]⟩ : ByteArray), 0, false))) = some (r1, r2, r3) := H
    have A5 := Aside0.mk A50
    clear A50
    by_cases c6 : t255 = true
    · subst c6
      have H1 : (some (t254, wrap64 ((wrap64 (a1 + 2)) + (t254.size : Int)), true)) = some (r1, r2, r3) := by rw [if_pos rfl] at H; exact H
      clear H
      have H := H1
      clear H1
      simp only [Option.some.injEq, Prod.mk.injEq] at H
      obtain ⟨rfl, rfl, rfl⟩ := H
      go_enter Try.func72, Try.ntmps72
      go_wp2_with (first | ((with_reducible refine gate_callee (f := 45) rfl ?_); refine goesL_ (some 13) rfl rfl Try.func45 (by kernel_rfl) rfl #[.string a0, .int .i64 a1] rfl (by (try simp only [List.map_toArray, List.map_cons, List.map_nil]); first | rfl) ?_; (with_reducible refine (octet_Get16.calls k a0 a1 t252 true _ A3.out).mono ?_); rintro e w7 ⟨rfl, hb⟩; refine ⟨_, rfl, ?_⟩; have n0_ := Aside0.mk (below_step HB.out hb); clear HB; have HB := n0_; clear n0_; (try clear hb); (try clear hb2); (try clear hk); (try clear hi)) | ((with_reducible refine gate_callee (f := 88) rfl ?_); refine goesL_ (some 24) rfl rfl Try.func88 (by kernel_rfl) rfl #[.string a0, .int .i64 (wrap64 (a1 + 2)), .int .i64 (wrap64 (t252))] rfl (by (try simp only [List.map_toArray, List.map_cons, List.map_nil]); first | rfl) ?_; (with_reducible refine (octet_Cut.calls a0 (wrap64 (a1 + 2)) (wrap64 (t252)) t254 true _ A5.out).mono ?_); rintro e w8 ⟨rfl, hb⟩; refine ⟨_, rfl, ?_⟩; have n0_ := Aside0.mk (below_step HB.out hb); clear HB; have HB := n0_; clear n0_; (try clear hb); (try clear hb2); (try clear hk); (try clear hi)))
      go_ret3
      exact ⟨by rfl, by exact HB.out⟩
    · replace c6 := Bool.eq_false_iff.mpr c6
      subst c6
      have H1 : (some ((⟨#[]⟩ : ByteArray), 0, false)) = some (r1, r2, r3) := by rw [if_neg (show ¬ (false = true) by decide)] at H; exact H
      clear H
      have H := H1
      clear H1
      simp only [Option.some.injEq, Prod.mk.injEq] at H
      obtain ⟨rfl, rfl, rfl⟩ := H
      go_enter Try.func72, Try.ntmps72
      go_wp2_with (first | ((with_reducible refine gate_callee (f := 45) rfl ?_); refine goesL_ (some 13) rfl rfl Try.func45 (by kernel_rfl) rfl #[.string a0, .int .i64 a1] rfl (by (try simp only [List.map_toArray, List.map_cons, List.map_nil]); first | rfl) ?_; (with_reducible refine (octet_Get16.calls k a0 a1 t252 true _ A3.out).mono ?_); rintro e w9 ⟨rfl, hb⟩; refine ⟨_, rfl, ?_⟩; have n0_ := Aside0.mk (below_step HB.out hb); clear HB; have HB := n0_; clear n0_; (try clear hb); (try clear hb2); (try clear hk); (try clear hi)) | ((with_reducible refine gate_callee (f := 88) rfl ?_); refine goesL_ (some 24) rfl rfl Try.func88 (by kernel_rfl) rfl #[.string a0, .int .i64 (wrap64 (a1 + 2)), .int .i64 (wrap64 (t252))] rfl (by (try simp only [List.map_toArray, List.map_cons, List.map_nil]); first | rfl) ?_; (with_reducible refine (octet_Cut.calls a0 (wrap64 (a1 + 2)) (wrap64 (t252)) t254 false _ A5.out).mono ?_); rintro e w10 ⟨rfl, hb⟩; refine ⟨_, rfl, ?_⟩; have n0_ := Aside0.mk (below_step HB.out hb); clear HB; have HB := n0_; clear n0_; (try clear hb); (try clear hb2); (try clear hk); (try clear hi)))
      go_ret3
      exact ⟨by rfl, by exact HB.out⟩
  · replace c4 := Bool.eq_false_iff.mpr c4
    subst c4
    have H1 : (some ((⟨#[]⟩ : ByteArray), 0, false)) = some (r1, r2, r3) := by rw [if_neg (show ¬ (false = true) by decide)] at H; exact H
    clear H
    have H := H1
    clear H1
    simp only [Option.some.injEq, Prod.mk.injEq] at H
    obtain ⟨rfl, rfl, rfl⟩ := H
    go_enter Try.func72, Try.ntmps72
    go_wp2_with (first | ((with_reducible refine gate_callee (f := 45) rfl ?_); refine goesL_ (some 13) rfl rfl Try.func45 (by kernel_rfl) rfl #[.string a0, .int .i64 a1] rfl (by (try simp only [List.map_toArray, List.map_cons, List.map_nil]); first | rfl) ?_; (with_reducible refine (octet_Get16.calls k a0 a1 t252 false _ A3.out).mono ?_); rintro e w11 ⟨rfl, hb⟩; refine ⟨_, rfl, ?_⟩; have n0_ := Aside0.mk (below_step HB.out hb); clear HB; have HB := n0_; clear n0_; (try clear hb); (try clear hb2); (try clear hk); (try clear hi)))
    go_ret3
    exact ⟨by rfl, by exact HB.out⟩

/-! ### lease_reader_change: function 46: by hand -/

/-- What a walk with the reader knows of the world W. -/
structure RdS (w0 w W : World) (g : Nat) (s : ByteArray) (a e : Int) : Prop where
  hi : IsS80 w0 W g s a e
  hb : Below w0.heap.size w0 W
  hk : KeepBut w W g none
  le0 : w0.heap.size ≤ w.heap.size
  lt : g < w.heap.size
section
variable {w0 w W W' : World} {g : Nat} {s s' : ByteArray} {a e a' e' : Int}
theorem RdS.size (h : RdS w0 w W g s a e) : w.heap.size ≤ W.heap.size := h.hk.1
theorem RdS.below (h : RdS w0 w W g s a e) (hb : Below W.heap.size W W') : RdS w0 w W' g s a e :=
  ⟨h.hi.below hb, h.hb.trans (hb.mono h.hb.size), ⟨Nat.le_trans h.hk.1 hb.size, fun i h1 h2 h3 => (hb.block i (Nat.lt_of_lt_of_le h1 h.hk.1)).trans (h.hk.2 i h1 h2 h3)⟩, h.le0, h.lt⟩
theorem RdS.alloc (h : RdS w0 w W g s a e) (o : Obj) : RdS w0 w (W.alloc o) g s a e := h.below ((Below.refl _ _).alloc (Nat.le_refl _) _)
theorem RdS.drewN (h : RdS w0 w W g s a e) (n : Nat) : RdS w0 w (W.drewN n) g s a e := ⟨h.hi, pw_below_drewN h.hb n, h.hk, h.le0, h.lt⟩
theorem RdS.drew (h : RdS w0 w W g s a e) : RdS w0 w W.drew g s a e := ⟨h.hi, below_drew1 h.hb, h.hk, h.le0, h.lt⟩
theorem RdS.set (h : RdS w0 w W g s a e) (b j : Nat) (u : Value) (hb : w.heap.size ≤ b) : RdS w0 w (W.setCell ⟨b, j, none⟩ u) g s a e :=
  ⟨h.hi.far (p := ⟨b, j, none⟩) (show g ≠ b from Nat.ne_of_lt (Nat.lt_of_lt_of_le h.lt hb)) u, below_set h.hb (Nat.le_trans h.le0 hb), ⟨by rw [World.size_setCell]; exact h.hk.1, fun i h1 h2 h3 => (Below.heap_setCell _ _ _ _ (fun e => by simp at e; omega)).trans (h.hk.2 i h1 h2 h3)⟩, h.le0, h.lt⟩
theorem RdS.call (h : RdS w0 w W g s a e) (hI : IsS80 w0 W' g s' a' e') (hB : Below w0.heap.size w0 W') (hK : KeepBut W W' g none) : RdS w0 w W' g s' a' e' :=
  ⟨hI, hB, ⟨Nat.le_trans h.hk.1 hK.1, fun i h1 h2 h3 => (hK.2 i (Nat.lt_of_lt_of_le h1 h.hk.1) h2 h3).trans (h.hk.2 i h1 h2 h3)⟩, h.le0, h.lt⟩
theorem RdS.keep (h : RdS w0 w W g s a e) (hK : KeepBut W W' g none) {b : Nat} {o : Obj} (hb : w.heap.size ≤ b) (hx : W.heap[b]? = some o) : W'.heap[b]? = some o := by
  have hl : b < W.heap.size := by
    rcases Nat.lt_or_ge b W.heap.size with h' | h'
    · exact h'
    · simp [Array.getElem?_eq_none h'] at hx
  exact (hK.2 b hl (fun e => by have := h.lt; omega) (by simp)).trans hx
theorem RdS.cells (h : RdS w0 w W g s a e) : W.cell? ⟨g, 0, none⟩ = some (.string s) ∧ W.cell? ⟨g, 1, none⟩ = some (.int .i64 a) ∧ W.cell? ⟨g, 2, none⟩ = some (.int .i64 e) := ⟨cellS80_0 h.hi.1, cellS80_1 h.hi.1, cellS80_2 h.hi.1⟩
end
def lease_reader_change.f (s : ByteArray) (at0 e0 : Int) : Option (Bool × Int × Int × Int × Int × Int × ByteArray × Int × Int × ByteArray × Int × Int) :=
  (lease_reader_octet.f s at0 e0).bind fun o1 =>
  let e1 := if o1.2.2.2 = 0 ∧ o1.1 ≠ 1 ∧ o1.1 ≠ 2 then 4 else o1.2.2.2
  (lease_reader_octet.f o1.2.1 o1.2.2.1 e1).bind fun o2 =>
  (lease_reader_octet.f o2.2.1 o2.2.2.1 o2.2.2.2).bind fun o3 =>
  (octet_GetAddr.f 300 o3.2.1 o3.2.2.1).bind fun ad =>
  (lease_reader_keep.f o3.2.1 o3.2.2.1 o3.2.2.2 16 ad.2.2).bind fun k4 =>
  if o1.1 = 2 then some (true, o2.1, ad.1, ad.2.1, o3.1, 0, ⟨#[]⟩, 0, 0, k4.1, k4.2.1, k4.2.2) else
  (lease_reader_octet.f k4.1 k4.2.1 k4.2.2).bind fun o5 =>
  (octet_Get32.f 300 o5.2.1 o5.2.2.1).bind fun g6 =>
  (lease_reader_keep.f o5.2.1 o5.2.2.1 o5.2.2.2 4 g6.2).bind fun k6 =>
  (octet_Get64.f 300 k6.1 k6.2.1).bind fun g7 =>
  (lease_reader_keep.f k6.1 k6.2.1 k6.2.2 8 g7.2).bind fun k7 =>
  (octet_TakeRun.f 300 k7.1 k7.2.1).bind fun t8 =>
  (lease_reader_keep.f k7.1 k7.2.1 k7.2.2 (wrap64 (t8.2.1 - k7.2.1)) t8.2.2).bind fun k8 =>
  some (false, o2.1, ad.1, ad.2.1, o3.1, o5.1, t8.1, g6.1, wrap64 g7.1, k8.1, k8.2.1, k8.2.2)
set_option maxHeartbeats 4000000 in
set_option maxRecDepth 100000 in
theorem lease_reader_change.calls (g : Nat) (s0_0 : ByteArray) (s0_1 : Int) (s0_2 : Int) (r1 : Bool) (r2 : Int) (r3 : Int) (r4 : Int) (r5 : Int) (r6 : Int) (r7 : ByteArray) (r8 : Int) (r9 : Int) (r10 : ByteArray) (r11 : Int) (r12 : Int) (w0 w : World) (hI : IsS80 w0 w g s0_0 s0_1 s0_2) (hB : Below w0.heap.size w0 w) (h : lease_reader_change.f s0_0 s0_1 s0_2 = some (r1, r2, r3, r4, r5, r6, r7, r8, r9, r10, r11, r12)) :
    Calls Try.prog 46 #[.pointer (some ⟨g, 0, none⟩)] w fun e w' => e = .returned (.agg #[.bool r1, .int .i64 r2, .int .u64 r3, .int .u64 r4, .int .i64 r5, .int .i64 r6, .string r7, .int .u32 r8, .int .i64 r9]) ∧ IsS80 w0 w' g r10 r11 r12 ∧ Below w0.heap.size w0 w' ∧ KeepBut w w' g none := by
  unfold lease_reader_change.f at h
  obtain ⟨⟨tag, s1, at1, e1⟩, h1, h⟩ := Option.bind_eq_some_iff.1 h
  generalize hE : (if (tag, s1, at1, e1).2.2.2 = 0 ∧ (tag, s1, at1, e1).1 ≠ 1 ∧ (tag, s1, at1, e1).1 ≠ 2 then (4 : Int) else (tag, s1, at1, e1).2.2.2) = E1 at h
  dsimp only at hE h
  obtain ⟨⟨kind, s2, at2, e2⟩, h2, h⟩ := Option.bind_eq_some_iff.1 h
  obtain ⟨⟨bits, s3, at3, e3⟩, h3, h⟩ := Option.bind_eq_some_iff.1 h
  obtain ⟨⟨hi, lo, ok4⟩, h4, h⟩ := Option.bind_eq_some_iff.1 h
  obtain ⟨⟨s4, at4, e4⟩, h5, h⟩ := Option.bind_eq_some_iff.1 h
  dsimp only at h2 h3 h4 h5 h
  have hu := Try.underlying31
  have hu29 := Try.underlying29
  have hu26 := Try.underlying26
  have hu24 := Try.underlying24
  have hu80 := Try.underlying80
  have HE := Lib.hid hE
  have H := Lib.hid h
  have H2 := Lib.hid h2
  have H3 := Lib.hid h3
  have H4 := Lib.hid h4
  have H5 := Lib.hid h5
  clear hE h h2 h3 h4 h5
  have HI := Aside0.mk hI
  have HB := Aside0.mk hB
  clear hI hB
  go_enter Try.func46, Try.ntmps46
  have R0 := Aside0.mk (⟨HI.out, HB.out, KeepBut.refl _ _ _, HB.out.size, IsS80.lt HI.out⟩ : RdS w0 w w g s0_0 s0_1 s0_2)
  clear HI HB
  go_wp2_with fail
  refine (lease_reader_octet.calls g s0_0 s0_1 s0_2 tag s1 at1 e1 w0 _ (R0.out.alloc _).hi (R0.out.alloc _).hb h1).mono ?_
  rintro e wa ⟨rfl, hI, hB, hK⟩
  have R1 := Aside0.mk ((R0.out.alloc _).call hI hB hK)
  have B1 := Aside0.mk ((R0.out.alloc _).keep hK (Nat.le_refl _) (heap_alloc_new w _))
  clear hI hB hK h1 R0
  obtain ⟨hc0, hc1, hc2⟩ := R1.out.cells
  have hf := fun j => blk_frozen R1.out.hi.1 j
  go_upto_region 2 with fail
  go_cut [25] (fun v25 wc => ∃ bb : Bool, v25 = .bool bb ∧ Aside0 ((bb = true ∧ E1 = 4) ∨ (bb = false ∧ E1 = e1)) ∧ Aside0 (RdS w0 w wc g s1 at1 e1) ∧ Aside0 (wc.heap[w.heap.size]? = some (.cells #[.bool false, .int .i64 0, .int .u64 0, .int .u64 0, .int .i64 0, .int .i64 0, .string (⟨#[]⟩ : ByteArray), .int .u32 0, .int .i64 0] 31 (0, 0))))
  case first =>
    by_cases c1 : e1 = 0
    · have hb1 : (e1 == 0) = true := by simpa using c1
      by_cases c2 : tag = 1
      · have hb2 : (tag != 1) = false := by simpa using c2
        go_wp2
        go_meet
        case rel => exact ⟨false, rfl, ⟨.inr ⟨rfl, by rw [← HE.out, if_neg (fun h => h.2.1 c2)]⟩⟩, R1, B1⟩
      · have hb2 : (tag != 1) = true := by simpa using c2
        by_cases c3 : tag = 2
        · have hb3 : (tag != 2) = false := by simpa using c3
          go_wp2
          go_meet
          case rel => exact ⟨false, rfl, ⟨.inr ⟨rfl, by rw [← HE.out, if_neg (fun h => h.2.2 c3)]⟩⟩, R1, B1⟩
        · have hb3 : (tag != 2) = true := by simpa using c3
          go_wp2
          go_meet
          case rel => exact ⟨true, rfl, ⟨.inl ⟨rfl, by rw [← HE.out, if_pos ⟨c1, c2, c3⟩]⟩⟩, R1, B1⟩
    · have hb1 : (e1 == 0) = false := by simpa using c1
      go_wp2
      go_meet
      case rel => exact ⟨false, rfl, ⟨.inr ⟨rfl, by rw [← HE.out, if_neg (fun h => c1 h.1)]⟩⟩, R1, B1⟩
  case rest =>
  clear R1 B1 hc0 hc1 hc2 hf
  obtain ⟨bb, rfl, HE1, R1, B1⟩ := hcut
  obtain ⟨hc0, hc1, hc2⟩ := R1.out.cells
  have hf2 := blk_frozen R1.out.hi.1 2
  go_upto_if 25 with fail
  go_cut [3] (fun v3 wc => v3 = .int .i64 tag ∧ Aside0 (RdS w0 w wc g s1 at1 E1) ∧ Aside0 (wc.heap[w.heap.size]? = some (.cells #[.bool false, .int .i64 0, .int .u64 0, .int .u64 0, .int .i64 0, .int .i64 0, .string (⟨#[]⟩ : ByteArray), .int .u32 0, .int .i64 0] 31 (0, 0))))
  case first =>
    cases bb
    · go_wp2
      go_meet
      case rel => exact ⟨rfl, ⟨by have := R1.out; rcases HE1.out with h | h; cases h.1; rw [h.2]; exact this⟩, B1⟩
    · go_wp2
      go_meet
      case rel =>
        refine ⟨rfl, ⟨?_⟩, ⟨?_⟩⟩
        · rcases HE1.out with h | h
          · rw [h.2]
            exact R1.out.call (IsS80.set_2 R1.out.hi 4) (below_set R1.out.hb R1.out.hi.2) ⟨by rw [World.size_setCell]; exact Nat.le_refl _, fun i h1 h2 h3 => Below.heap_setCell _ _ _ _ (fun e => h2 (by simpa using e))⟩
          · cases h.1
        · exact (Below.heap_setCell _ _ _ _ (fun e => by have := R1.out.lt; simp at e; omega)).trans B1.out
  case rest =>
  clear R1 B1 hc0 hc1 hc2 hf2 HE1
  obtain ⟨rfl, R1, B1⟩ := hcut
  go_wp2_with fail
  refine (lease_reader_octet.calls g s1 at1 E1 kind s2 at2 e2 w0 _ (R1.out.alloc _).hi (R1.out.alloc _).hb H2.out).mono ?_
  rintro e wb ⟨rfl, hI, hB, hK⟩
  obtain ⟨bc, hbc⟩ : ∃ bc, bc = wc.heap.size := ⟨_, rfl⟩
  rw [← hbc]
  have BL := Aside0.mk (show w.heap.size ≤ bc by rw [hbc]; exact R1.out.size)
  have C2 := Aside0.mk ((R1.out.alloc _).keep hK BL.out (by rw [hbc]; exact heap_alloc_new wc (.cells #[.bool (tag == 2), .int .i64 0, .int .u64 0, .int .u64 0, .int .i64 0, .int .i64 0, .string (⟨#[]⟩ : ByteArray), .int .u32 0, .int .i64 0] 31)))
  have B2 := Aside0.mk ((R1.out.alloc _).keep hK (Nat.le_refl _) ((Below.heap_alloc wc _ _ (blk_lt B1.out)).trans B1.out))
  have R2 := Aside0.mk ((R1.out.alloc _).call hI hB hK)
  have NB := Aside0.mk (show bc ≠ w.heap.size by rw [hbc]; exact Nat.ne_of_gt (blk_lt B1.out))
  clear hI hB hK R1 B1 hbc H2
  obtain ⟨hc0, hc1, hc2, hc3, hc4, hc5, hc6, hc7, hc8⟩ := XRun.bc9 C2.out
  obtain ⟨hf0, hf1, hf2, hf3, hf4, hf5, hf6, hf7, hf8⟩ := XRun.bf9 C2.out
  go_wp2_with fail
  refine (lease_reader_octet.calls g s2 at2 e2 bits s3 at3 e3 w0 _ (R2.out.set bc 1 _ BL.out).hi (R2.out.set bc 1 _ BL.out).hb H3.out).mono ?_
  rintro e wd ⟨rfl, hI, hB, hK⟩
  clear hc0 hc1 hc2 hc3 hc4 hc5 hc6 hc7 hc8 hf0 hf1 hf2 hf3 hf4 hf5 hf6 hf7 hf8
  have C3 := Aside0.mk ((R2.out.set bc 1 _ BL.out).keep hK BL.out (show _ = some (.cells #[.bool (tag == 2), .int .i64 kind, .int .u64 0, .int .u64 0, .int .i64 0, .int .i64 0, .string (⟨#[]⟩ : ByteArray), .int .u32 0, .int .i64 0] 31 (0, 0)) from blk_put C2.out 1 (.int .i64 kind) rfl))
  have B3 := Aside0.mk ((R2.out.set bc 1 _ BL.out).keep hK (Nat.le_refl _) ((Below.heap_setCell _ ⟨bc, 1, none⟩ _ _ (Ne.symm NB.out)).trans B2.out))
  have R3 := Aside0.mk ((R2.out.set bc 1 _ BL.out).call hI hB hK)
  clear hI hB hK R2 B2 C2 H3
  obtain ⟨hc0, hc1, hc2, hc3, hc4, hc5, hc6, hc7, hc8⟩ := XRun.bc9 C3.out
  obtain ⟨hf0, hf1, hf2, hf3, hf4, hf5, hf6, hf7, hf8⟩ := XRun.bf9 C3.out
  go_wp2_with fail
  obtain ⟨we, hwe⟩ : ∃ we, we = wd.setCell ⟨bc, 4, none⟩ (.int .i64 bits) := ⟨_, rfl⟩
  rw [← hwe]
  have C4 := Aside0.mk (show we.heap[bc]? = some (.cells #[.bool (tag == 2), .int .i64 kind, .int .u64 0, .int .u64 0, .int .i64 bits, .int .i64 0, .string (⟨#[]⟩ : ByteArray), .int .u32 0, .int .i64 0] 31 (0, 0)) by rw [hwe]; exact blk_put C3.out 4 (.int .i64 bits) rfl)
  have B4 := Aside0.mk (show we.heap[w.heap.size]? = some (.cells #[.bool false, .int .i64 0, .int .u64 0, .int .u64 0, .int .i64 0, .int .i64 0, .string (⟨#[]⟩ : ByteArray), .int .u32 0, .int .i64 0] 31 (0, 0)) by rw [hwe]; exact (Below.heap_setCell _ ⟨bc, 4, none⟩ _ _ (Ne.symm NB.out)).trans B3.out)
  have R4 := Aside0.mk (show RdS w0 w we g s3 at3 e3 by rw [hwe]; exact R3.out.set bc 4 _ BL.out)
  clear hwe R3 B3 C3 hc0 hc1 hc2 hc3 hc4 hc5 hc6 hc7 hc8 hf0 hf1 hf2 hf3 hf4 hf5 hf6 hf7 hf8
  go_cut [5, 6] (fun v5 v6 wc2 => ∃ ba, v5 = .pointer (some ⟨ba, 0, none⟩) ∧ v6 = .bool ok4 ∧ Aside0 (RdS w0 w wc2 g s3 at3 e3) ∧ Aside0 (wc2.heap[ba]? = some (.cells #[.int .u64 hi, .int .u64 lo] 24 (0, 0))) ∧ Aside0 (wc2.heap[bc]? = some (.cells #[.bool (tag == 2), .int .i64 kind, .int .u64 0, .int .u64 0, .int .i64 bits, .int .i64 0, .string (⟨#[]⟩ : ByteArray), .int .u32 0, .int .i64 0] 31 (0, 0))) ∧ Aside0 (wc2.heap[w.heap.size]? = some (.cells #[.bool false, .int .i64 0, .int .u64 0, .int .u64 0, .int .i64 0, .int .i64 0, .string (⟨#[]⟩ : ByteArray), .int .u32 0, .int .i64 0] 31 (0, 0))) ∧ Aside0 (bc ≠ ba))
  case first =>
    obtain ⟨hs0, hs1, hs2⟩ := R4.out.cells
    have h4' := fun W => octet_GetAddr.calls 300 s3 at3 hi lo ok4 W H4.out
    have hlt := R4.out.hi.lt
    go_region_held3 (fun w' => w'.cell? ⟨g, 0, none⟩ = some (.string s3) ∧ w'.cell? ⟨g, 1, none⟩ = some (.int .i64 at3)) (first | go_keep | exact ⟨(World.cell?_of_block (hb4.block g hlt)).trans hs0, (World.cell?_of_block (hb4.block g hlt)).trans hs1⟩ | exact ⟨(World.cell?_of_block (Below.heap_alloc _ _ g (Nat.lt_of_lt_of_le hlt hb4.size))).trans ((World.cell?_of_block (hb4.block g hlt)).trans hs0), (World.cell?_of_block (Below.heap_alloc _ _ g (Nat.lt_of_lt_of_le hlt hb4.size))).trans ((World.cell?_of_block (hb4.block g hlt)).trans hs1)⟩ | exact ⟨(World.cell?_of_block (hb4.block g (Nat.lt_of_lt_of_le hlt (Below.alloc (Below.refl _ _) (Nat.le_refl _) _).size))).trans ((World.cell?_of_block (Below.heap_alloc _ _ g hlt)).trans hs0), (World.cell?_of_block (hb4.block g (Nat.lt_of_lt_of_le hlt (Below.alloc (Below.refl _ _) (Nat.le_refl _) _).size))).trans ((World.cell?_of_block (Below.heap_alloc _ _ g hlt)).trans hs1)⟩ | exact ⟨(World.cell?_of_block (((Below.heap_setCell _ ⟨we.heap.size, 1, none⟩ _ g (Nat.ne_of_lt hlt)).trans (Below.heap_setCell _ ⟨we.heap.size, 0, none⟩ _ g (Nat.ne_of_lt hlt))).trans (hb4.block g (Nat.lt_of_lt_of_le hlt (Below.alloc (Below.refl _ _) (Nat.le_refl _) _).size)))).trans ((World.cell?_of_block (Below.heap_alloc _ _ g hlt)).trans hs0), (World.cell?_of_block (((Below.heap_setCell _ ⟨we.heap.size, 1, none⟩ _ g (Nat.ne_of_lt hlt)).trans (Below.heap_setCell _ ⟨we.heap.size, 0, none⟩ _ g (Nat.ne_of_lt hlt))).trans (hb4.block g (Nat.lt_of_lt_of_le hlt (Below.alloc (Below.refl _ _) (Nat.le_refl _) _).size)))).trans ((World.cell?_of_block (Below.heap_alloc _ _ g hlt)).trans hs1)⟩) (first | (go_at_call 68; refine (h4' _).mono ?_; rintro e w' ⟨rfl, hb4⟩; (try (have hba : w'.heap[we.heap.size]? = some (.cells #[.int .u64 0, .int .u64 0] 24 (0, 0)) := (hb4.block we.heap.size (by simp)).trans (heap_alloc_new we.drew _); obtain ⟨hba0, hba1⟩ := XRun.bc2 hba; obtain ⟨hbf0, hbf1⟩ := XRun.bf2 hba))))
    · go_wp2
      go_meet
      case rel =>
        have hl := Nat.lt_of_lt_of_le (blk_lt C4.out) hb4.size
        exact ⟨w'.heap.size, rfl, rfl, ⟨(R4.out.drew.below hb4).alloc _⟩, ⟨heap_alloc_new w' _⟩, ⟨(Below.heap_alloc w' _ bc hl).trans ((hb4.block bc (blk_lt C4.out)).trans C4.out)⟩, ⟨(Below.heap_alloc w' _ _ (Nat.lt_of_lt_of_le (blk_lt B4.out) hb4.size)).trans ((hb4.block _ (blk_lt B4.out)).trans B4.out)⟩, ⟨Nat.ne_of_lt hl⟩⟩
    · go_wp2
      go_meet
      case rel =>
        have hsz := (Below.alloc (Below.refl we.drew.heap.size we.drew) (Nat.le_refl _) (.cells #[.int .u64 0, .int .u64 0] 24)).size
        have far : ∀ b, b < we.heap.size → ((w'.setCell ⟨we.heap.size, 0, none⟩ (.int .u64 hi)).setCell ⟨we.heap.size, 1, none⟩ (.int .u64 lo)).heap[b]? = we.heap[b]? := fun b hb => (Below.heap_setCell _ ⟨we.heap.size, 1, none⟩ _ b (Nat.ne_of_lt hb)).trans ((Below.heap_setCell _ ⟨we.heap.size, 0, none⟩ _ b (Nat.ne_of_lt hb)).trans ((hb4.block b (Nat.lt_of_lt_of_le hb hsz)).trans (Below.heap_alloc we.drew _ b hb)))
        exact ⟨we.heap.size, rfl, rfl, ⟨(((R4.out.drew.alloc _).below hb4).set _ 0 _ R4.out.size).set _ 1 _ R4.out.size⟩, ⟨blk_put (cs := #[.int .u64 hi, .int .u64 0]) (blk_put (cs := #[.int .u64 0, .int .u64 0]) hba 0 _ rfl) 1 _ rfl⟩, ⟨(far bc (blk_lt C4.out)).trans C4.out⟩, ⟨(far _ (blk_lt B4.out)).trans B4.out⟩, ⟨Nat.ne_of_lt (blk_lt C4.out)⟩⟩
  case rest =>
  clear R4 C4 B4 H4
  obtain ⟨ba, rfl, rfl, R5, A5, C5, B5, NA⟩ := hcut
  obtain ⟨hc0, hc1, hc2, hc3, hc4, hc5, hc6, hc7, hc8⟩ := XRun.bc9 C5.out
  obtain ⟨hf0, hf1, hf2, hf3, hf4, hf5, hf6, hf7, hf8⟩ := XRun.bf9 C5.out
  obtain ⟨ha0, ha1⟩ := XRun.bc2 A5.out
  go_wp2_with fail
  have R5' := (R5.out.set bc 2 (.int .u64 hi) BL.out).set bc 3 (.int .u64 lo) BL.out
  refine (lease_reader_keep.calls g s3 at3 e3 16 ok4 s4 at4 e4 w0 _ R5'.hi R5'.hb H5.out).mono ?_
  rintro e wf ⟨rfl, hI, hB, hK⟩
  have C6 := R5'.keep hK BL.out (blk_put (cs := #[.bool (tag == 2), .int .i64 kind, .int .u64 hi, .int .u64 0, .int .i64 bits, .int .i64 0, .string (⟨#[]⟩ : ByteArray), .int .u32 0, .int .i64 0]) (blk_put (cs := #[.bool (tag == 2), .int .i64 kind, .int .u64 0, .int .u64 0, .int .i64 bits, .int .i64 0, .string (⟨#[]⟩ : ByteArray), .int .u32 0, .int .i64 0]) C5.out 2 _ rfl) 3 _ rfl)
  have B6 := Aside0.mk (R5'.keep hK (Nat.le_refl _) ((Below.heap_setCell _ ⟨bc, 3, none⟩ _ _ (Ne.symm NB.out)).trans ((Below.heap_setCell _ ⟨bc, 2, none⟩ _ _ (Ne.symm NB.out)).trans B5.out)))
  have R6 := Aside0.mk (R5'.call hI hB hK)
  clear hI hB hK R5 B5 C5 A5 NA R5' H5 hc0 hc1 hc2 hc3 hc4 hc5 hc6 hc7 hc8 hf0 hf1 hf2 hf3 hf4 hf5 hf6 hf7 hf8 ha0 ha1
  have h := H.out
  clear H
  by_cases ht : tag = 2
  · rw [if_pos ht] at h
    simp only [Option.some.injEq, Prod.mk.injEq] at h
    obtain ⟨rfl, rfl, rfl, rfl, rfl, rfl, rfl, rfl, rfl, rfl, rfl, rfl⟩ := h
    subst ht
    have C6 : wf.heap[bc]? = some (.cells #[.bool true, .int .i64 kind, .int .u64 hi, .int .u64 lo, .int .i64 bits, .int .i64 0, .string (⟨#[]⟩ : ByteArray), .int .u32 0, .int .i64 0] 31 (0, 0)) := C6
    obtain ⟨hc0, hc1, hc2, hc3, hc4, hc5, hc6, hc7, hc8⟩ := XRun.bc9 C6
    obtain ⟨hd0, hd1, hd2, hd3, hd4, hd5, hd6, hd7, hd8⟩ := XRun.bc9 B6.out
    obtain ⟨hf0, hf1, hf2, hf3, hf4, hf5, hf6, hf7, hf8⟩ := XRun.bf9 B6.out
    go_wp2
    refine bodyPost_ret (results_cell_row rfl _ _ w.heap.size 31 #[.bool true, .int .i64 kind, .int .u64 hi, .int .u64 lo, .int .i64 bits, .int .i64 0, .string (⟨#[]⟩ : ByteArray), .int .u32 0, .int .i64 0] (0, 0) _ rfl (blk_put (cs := #[.bool true, .int .i64 kind, .int .u64 hi, .int .u64 lo, .int .i64 bits, .int .i64 0, .string (⟨#[]⟩ : ByteArray), .int .u32 0, .int .i64 0]) (blk_put (cs := #[.bool true, .int .i64 kind, .int .u64 hi, .int .u64 lo, .int .i64 bits, .int .i64 0, .string (⟨#[]⟩ : ByteArray), .int .u32 0, .int .i64 0]) (blk_put (cs := #[.bool true, .int .i64 kind, .int .u64 hi, .int .u64 lo, .int .i64 bits, .int .i64 0, .string (⟨#[]⟩ : ByteArray), .int .u32 0, .int .i64 0]) (blk_put (cs := #[.bool true, .int .i64 kind, .int .u64 hi, .int .u64 lo, .int .i64 bits, .int .i64 0, .string (⟨#[]⟩ : ByteArray), .int .u32 0, .int .i64 0]) (blk_put (cs := #[.bool true, .int .i64 kind, .int .u64 hi, .int .u64 lo, .int .i64 0, .int .i64 0, .string (⟨#[]⟩ : ByteArray), .int .u32 0, .int .i64 0]) (blk_put (cs := #[.bool true, .int .i64 kind, .int .u64 hi, .int .u64 0, .int .i64 0, .int .i64 0, .string (⟨#[]⟩ : ByteArray), .int .u32 0, .int .i64 0]) (blk_put (cs := #[.bool true, .int .i64 kind, .int .u64 0, .int .u64 0, .int .i64 0, .int .i64 0, .string (⟨#[]⟩ : ByteArray), .int .u32 0, .int .i64 0]) (blk_put (cs := #[.bool true, .int .i64 0, .int .u64 0, .int .u64 0, .int .i64 0, .int .i64 0, .string (⟨#[]⟩ : ByteArray), .int .u32 0, .int .i64 0]) (blk_put (cs := #[.bool false, .int .i64 0, .int .u64 0, .int .u64 0, .int .i64 0, .int .i64 0, .string (⟨#[]⟩ : ByteArray), .int .u32 0, .int .i64 0]) B6.out 0 _ rfl) 1 _ rfl) 2 _ rfl) 3 _ rfl) 4 _ rfl) 5 _ rfl) 6 _ rfl) 7 _ rfl) 8 _ rfl) Try.underlying31 rfl (by kernel_rfl)) rfl ?_
    refine ⟨rfl, RdS.hi ?h, RdS.hb ?h, RdS.hk ?h⟩
    case h => exact (((((((((R6.out.set w.heap.size 0 _ (Nat.le_refl _)).set w.heap.size 1 _ (Nat.le_refl _)).set w.heap.size 2 _ (Nat.le_refl _)).set w.heap.size 3 _ (Nat.le_refl _)).set w.heap.size 4 _ (Nat.le_refl _)).set w.heap.size 5 _ (Nat.le_refl _)).set w.heap.size 6 _ (Nat.le_refl _)).set w.heap.size 7 _ (Nat.le_refl _)).set w.heap.size 8 _ (Nat.le_refl _))
  · rw [if_neg ht] at h
    have ht2 : (tag == 2) = false := by simpa using ht
    simp only [ht2] at C6 ⊢
    obtain ⟨⟨st, s5, at5, e5⟩, h5, h⟩ := Option.bind_eq_some_iff.1 h
    obtain ⟨⟨iaid, ok6⟩, h6, h⟩ := Option.bind_eq_some_iff.1 h
    obtain ⟨⟨s6, at6, e6⟩, h7, h⟩ := Option.bind_eq_some_iff.1 h
    obtain ⟨⟨until_, ok7⟩, h8, h⟩ := Option.bind_eq_some_iff.1 h
    obtain ⟨⟨s7, at7, e7⟩, h9, h⟩ := Option.bind_eq_some_iff.1 h
    obtain ⟨⟨cl, en, ok8⟩, h10, h⟩ := Option.bind_eq_some_iff.1 h
    obtain ⟨⟨s8, at8, e8⟩, h11, h⟩ := Option.bind_eq_some_iff.1 h
    dsimp only at h6 h7 h8 h9 h10 h11 h
    simp only [Option.some.injEq, Prod.mk.injEq] at h
    obtain ⟨rfl, rfl, rfl, rfl, rfl, rfl, rfl, rfl, rfl, rfl, rfl, rfl⟩ := h
    have C6 := Aside0.mk C6
    have K5 := Lib.hid h5
    have K6 := Lib.hid h6
    have K7 := Lib.hid h7
    have K8 := Lib.hid h8
    have K9 := Lib.hid h9
    have K10 := Lib.hid h10
    have K11 := Lib.hid h11
    clear h5 h6 h7 h8 h9 h10 h11
    obtain ⟨hc0, hc1, hc2, hc3, hc4, hc5, hc6, hc7, hc8⟩ := XRun.bc9 C6.out
    obtain ⟨hf0, hf1, hf2, hf3, hf4, hf5, hf6, hf7, hf8⟩ := XRun.bf9 C6.out
    go_wp2_with fail
    refine (lease_reader_octet.calls g s4 at4 e4 st s5 at5 e5 w0 _ R6.out.hi R6.out.hb K5.out).mono ?_
    rintro e wg ⟨rfl, hI, hB, hK⟩
    have C7 := Aside0.mk (R6.out.keep hK BL.out C6.out)
    have B7 := Aside0.mk (R6.out.keep hK (Nat.le_refl _) B6.out)
    have R7 := Aside0.mk (R6.out.call hI hB hK)
    clear hI hB hK R6 C6 B6 K5 hc0 hc1 hc2 hc3 hc4 hc5 hc6 hc7 hc8 hf0 hf1 hf2 hf3 hf4 hf5 hf6 hf7 hf8
    obtain ⟨hc0, hc1, hc2, hc3, hc4, hc5, hc6, hc7, hc8⟩ := XRun.bc9 C7.out
    obtain ⟨hf0, hf1, hf2, hf3, hf4, hf5, hf6, hf7, hf8⟩ := XRun.bf9 C7.out
    go_wp2_with fail
    obtain ⟨wh, hwh⟩ : ∃ wh, wh = wg.setCell ⟨bc, 5, none⟩ (.int .i64 st) := ⟨_, rfl⟩
    rw [← hwh]
    have C8 := Aside0.mk (show wh.heap[bc]? = some (.cells #[.bool false, .int .i64 kind, .int .u64 hi, .int .u64 lo, .int .i64 bits, .int .i64 st, .string (⟨#[]⟩ : ByteArray), .int .u32 0, .int .i64 0] 31 (0, 0)) by rw [hwh]; exact blk_put (cs := #[.bool false, .int .i64 kind, .int .u64 hi, .int .u64 lo, .int .i64 bits, .int .i64 0, .string (⟨#[]⟩ : ByteArray), .int .u32 0, .int .i64 0]) C7.out 5 _ rfl)
    have B8 := Aside0.mk (show wh.heap[w.heap.size]? = some (.cells #[.bool false, .int .i64 0, .int .u64 0, .int .u64 0, .int .i64 0, .int .i64 0, .string (⟨#[]⟩ : ByteArray), .int .u32 0, .int .i64 0] 31 (0, 0)) by rw [hwh]; exact (Below.heap_setCell _ ⟨bc, 5, none⟩ _ _ (Ne.symm NB.out)).trans B7.out)
    have R8 := Aside0.mk (show RdS w0 w wh g s5 at5 e5 by rw [hwh]; exact R7.out.set bc 5 _ BL.out)
    clear hwh R7 B7 C7 hc0 hc1 hc2 hc3 hc4 hc5 hc6 hc7 hc8 hf0 hf1 hf2 hf3 hf4 hf5 hf6 hf7 hf8
    obtain ⟨hs0, hs1, hs2⟩ := R8.out.cells
    have hlt := R8.out.hi.lt
    have hcall := fun W => octet_Get32.calls 300 s5 at5 iaid ok6 W K6.out
    go_region_held3 (fun w' => w'.cell? ⟨g, 0, none⟩ = some (.string s5) ∧ w'.cell? ⟨g, 1, none⟩ = some (.int .i64 at5)) (first | go_keep | exact ⟨(World.cell?_of_block (hbX.block g hlt)).trans hs0, (World.cell?_of_block (hbX.block g hlt)).trans hs1⟩) (first | (go_at_call 70; refine (hcall _).mono ?_; rintro e wx8 ⟨rfl, hbX⟩))
    have RX := R8.out.drew.below hbX
    have BX := Aside0.mk ((hbX.block _ (blk_lt B8.out)).trans B8.out)
    have CX := Aside0.mk ((hbX.block _ (blk_lt C8.out)).trans C8.out)
    clear hs0 hs1 hs2 hlt hcall hbX R8 B8 C8
    have RX := Aside0.mk RX
    obtain ⟨hs0, hs1, hs2⟩ := RX.out.cells
    go_wp2_with fail
    refine (lease_reader_keep.calls g s5 at5 e5 4 ok6 s6 at6 e6 w0 _ RX.out.hi RX.out.hb K7.out).mono ?_
    rintro e wy8 ⟨rfl, hI, hB, hK⟩
    have C9 := Aside0.mk (RX.out.keep hK BL.out CX.out)
    have B9 := Aside0.mk (RX.out.keep hK (Nat.le_refl _) BX.out)
    have R9 := Aside0.mk (RX.out.call hI hB hK)
    clear hI hB hK RX CX BX hs0 hs1 hs2
    go_wp2_with fail
    obtain ⟨hs0, hs1, hs2⟩ := R9.out.cells
    have hlt := R9.out.hi.lt
    have hcall := fun W => octet_Get64.calls 300 s6 at6 until_ ok7 W K8.out
    go_region_held3 (fun w' => w'.cell? ⟨g, 0, none⟩ = some (.string s6) ∧ w'.cell? ⟨g, 1, none⟩ = some (.int .i64 at6)) (first | go_keep | exact ⟨(World.cell?_of_block (hbX.block g hlt)).trans hs0, (World.cell?_of_block (hbX.block g hlt)).trans hs1⟩) (first | (go_at_call 71; refine (hcall _).mono ?_; rintro e wx9 ⟨rfl, hbX⟩))
    have RX := R9.out.drew.below hbX
    have BX := Aside0.mk ((hbX.block _ (blk_lt B9.out)).trans B9.out)
    have CX := Aside0.mk ((hbX.block _ (blk_lt C9.out)).trans C9.out)
    clear hs0 hs1 hs2 hlt hcall hbX R9 B9 C9
    have RX := Aside0.mk RX
    obtain ⟨hs0, hs1, hs2⟩ := RX.out.cells
    go_wp2_with fail
    refine (lease_reader_keep.calls g s6 at6 e6 8 ok7 s7 at7 e7 w0 _ RX.out.hi RX.out.hb K9.out).mono ?_
    rintro e wy9 ⟨rfl, hI, hB, hK⟩
    have C10 := Aside0.mk (RX.out.keep hK BL.out CX.out)
    have B10 := Aside0.mk (RX.out.keep hK (Nat.le_refl _) BX.out)
    have R10 := Aside0.mk (RX.out.call hI hB hK)
    clear hI hB hK RX CX BX hs0 hs1 hs2
    go_wp2_with fail
    obtain ⟨hs0, hs1, hs2⟩ := R10.out.cells
    have hlt := R10.out.hi.lt
    have hcall := fun W => octet_TakeRun.calls 300 s7 at7 cl en ok8 W K10.out
    go_region_held3 (fun w' => w'.cell? ⟨g, 0, none⟩ = some (.string s7) ∧ w'.cell? ⟨g, 1, none⟩ = some (.int .i64 at7)) (first | go_keep | exact ⟨(World.cell?_of_block (hbX.block g hlt)).trans hs0, (World.cell?_of_block (hbX.block g hlt)).trans hs1⟩) (first | (go_at_call 72; refine (hcall _).mono ?_; rintro e wx10 ⟨rfl, hbX⟩))
    have RX := R10.out.drew.below hbX
    have BX := Aside0.mk ((hbX.block _ (blk_lt B10.out)).trans B10.out)
    have CX := Aside0.mk ((hbX.block _ (blk_lt C10.out)).trans C10.out)
    clear hs0 hs1 hs2 hlt hcall hbX R10 B10 C10
    have RX := Aside0.mk RX
    obtain ⟨hs0, hs1, hs2⟩ := RX.out.cells
    go_wp2_with fail
    refine (lease_reader_keep.calls g s7 at7 e7 (wrap64 (en - at7)) ok8 s8 at8 e8 w0 _ RX.out.hi RX.out.hb K11.out).mono ?_
    rintro e wy10 ⟨rfl, hI, hB, hK⟩
    have C11 := Aside0.mk (RX.out.keep hK BL.out CX.out)
    have B11 := Aside0.mk (RX.out.keep hK (Nat.le_refl _) BX.out)
    have R11 := Aside0.mk (RX.out.call hI hB hK)
    clear hI hB hK RX CX BX hs0 hs1 hs2
    obtain ⟨hc0, hc1, hc2, hc3, hc4, hc5, hc6, hc7, hc8⟩ := XRun.bc9 C11.out
    obtain ⟨hf0, hf1, hf2, hf3, hf4, hf5, hf6, hf7, hf8⟩ := XRun.bf9 C11.out
    obtain ⟨hd0, hd1, hd2, hd3, hd4, hd5, hd6, hd7, hd8⟩ := XRun.bc9 B11.out
    obtain ⟨hg0, hg1, hg2, hg3, hg4, hg5, hg6, hg7, hg8⟩ := XRun.bf9 B11.out
    have hnb := NB.out
    have hnb2 : ¬ w.heap.size = bc := fun e => hnb e.symm
    go_wp2
    refine bodyPost_ret (results_cell_row rfl _ _ w.heap.size 31 #[.bool false, .int .i64 kind, .int .u64 hi, .int .u64 lo, .int .i64 bits, .int .i64 st, .string cl, .int .u32 iaid, .int .i64 (wrap64 until_)] (0, 0) _ rfl (blk_put (cs := #[.bool false, .int .i64 kind, .int .u64 hi, .int .u64 lo, .int .i64 bits, .int .i64 st, .string cl, .int .u32 iaid, .int .i64 0]) (blk_put (cs := #[.bool false, .int .i64 kind, .int .u64 hi, .int .u64 lo, .int .i64 bits, .int .i64 st, .string cl, .int .u32 0, .int .i64 0]) (blk_put (cs := #[.bool false, .int .i64 kind, .int .u64 hi, .int .u64 lo, .int .i64 bits, .int .i64 st, .string (⟨#[]⟩ : ByteArray), .int .u32 0, .int .i64 0]) (blk_put (cs := #[.bool false, .int .i64 kind, .int .u64 hi, .int .u64 lo, .int .i64 bits, .int .i64 0, .string (⟨#[]⟩ : ByteArray), .int .u32 0, .int .i64 0]) (blk_put (cs := #[.bool false, .int .i64 kind, .int .u64 hi, .int .u64 lo, .int .i64 0, .int .i64 0, .string (⟨#[]⟩ : ByteArray), .int .u32 0, .int .i64 0]) (blk_put (cs := #[.bool false, .int .i64 kind, .int .u64 hi, .int .u64 0, .int .i64 0, .int .i64 0, .string (⟨#[]⟩ : ByteArray), .int .u32 0, .int .i64 0]) (blk_put (cs := #[.bool false, .int .i64 kind, .int .u64 0, .int .u64 0, .int .i64 0, .int .i64 0, .string (⟨#[]⟩ : ByteArray), .int .u32 0, .int .i64 0]) (blk_put (cs := #[.bool false, .int .i64 0, .int .u64 0, .int .u64 0, .int .i64 0, .int .i64 0, .string (⟨#[]⟩ : ByteArray), .int .u32 0, .int .i64 0]) (blk_put (cs := #[.bool false, .int .i64 0, .int .u64 0, .int .u64 0, .int .i64 0, .int .i64 0, .string (⟨#[]⟩ : ByteArray), .int .u32 0, .int .i64 0]) ((Below.heap_setCell _ ⟨bc, 6, none⟩ _ _ (Ne.symm NB.out)).trans ((Below.heap_setCell _ ⟨bc, 8, none⟩ _ _ (Ne.symm NB.out)).trans ((Below.heap_setCell _ ⟨bc, 7, none⟩ _ _ (Ne.symm NB.out)).trans B11.out))) 0 _ rfl) 1 _ rfl) 2 _ rfl) 3 _ rfl) 4 _ rfl) 5 _ rfl) 6 _ rfl) 7 _ rfl) 8 _ rfl) Try.underlying31 rfl (by kernel_rfl)) rfl ?_
    refine ⟨rfl, RdS.hi ?h, RdS.hb ?h, RdS.hk ?h⟩
    case h => exact ((((((((((((R11.out.set bc 7 _ BL.out).set bc 8 _ BL.out).set bc 6 _ BL.out).set w.heap.size 0 _ (Nat.le_refl _)).set w.heap.size 1 _ (Nat.le_refl _)).set w.heap.size 2 _ (Nat.le_refl _)).set w.heap.size 3 _ (Nat.le_refl _)).set w.heap.size 4 _ (Nat.le_refl _)).set w.heap.size 5 _ (Nat.le_refl _)).set w.heap.size 6 _ (Nat.le_refl _)).set w.heap.size 7 _ (Nat.le_refl _)).set w.heap.size 8 _ (Nat.le_refl _))


-- (not needed: function 73 (api_Change_73))

/-! ### slices.ContainsFunc, IndexFunc with lease.Decode's literal: by hand -/
def leasebad.i : List S31 → Nat → Option Int
  | [], _ => some (-1)
  | x :: l, i => (lease_Change.f 300 ((x).f0) ((x).f1.f0) ((x).f1.f1.f0.f0) ((x).f1.f1.f0.f1) ((x).f1.f1.f1) ((x).f1.f2) ((x).f1.f3) ((x).f1.f4) ((x).f1.f5)).bind fun ok => if ok = true then leasebad.i l (i + 1) else some (i : Int)
def leasebad.f (l0 : List S31) : Option Bool := (leasebad.i l0 0).bind fun r => some (decide (0 ≤ r))
theorem leasebad_lit (x : S31) (ok : Bool) (w : World) (h : lease_Change.f 300 ((x).f0) ((x).f1.f0) ((x).f1.f1.f0.f0) ((x).f1.f1.f0.f1) ((x).f1.f1.f1) ((x).f1.f2) ((x).f1.f3) ((x).f1.f4) ((x).f1.f5) = some ok) :
    Calls Try.prog 48 #[.agg #[.bool (x).f0, .int .i64 (x).f1.f0, .int .u64 (x).f1.f1.f0.f0, .int .u64 (x).f1.f1.f0.f1, .int .i64 (x).f1.f1.f1, .int .i64 (x).f1.f2, .string (x).f1.f3, .int .u32 (x).f1.f4, .int .i64 (x).f1.f5]] w fun e w' => e = .returned (.bool (!ok)) ∧ Below w.heap.size w w' := by
  have hchg := fun W => lease_Change.calls 300 ((x).f0) ((x).f1.f0) ((x).f1.f1.f0.f0) ((x).f1.f1.f0.f1) ((x).f1.f1.f1) ((x).f1.f2) ((x).f1.f3) ((x).f1.f4) ((x).f1.f5) ok W h
  have hu := Try.underlying31
  clear h
  go_enter Try.func48, Try.ntmps48
  go_wp2_with (go_at_call 14; refine (hchg _).mono ?_; rintro e w1 ⟨rfl, hb1⟩; have HB1 := Aside0.mk (((Below.refl w.heap.size w).alloc (Nat.le_refl _) _).trans (hb1.mono (by simp))); clear hb1)
  go_ret
  exact ⟨rfl, HB1.out⟩
theorem enters_leasebad : ∀ args w, (callFunc 48 args).run Try.prog w = .ok (.enter 48 args) w := fun args w => enters_ Try.func48 (by kernel_rfl) rfl args w
set_option maxHeartbeats 1000000 in
theorem leasebad_index (A0 : Option Addr) (c0 : Nat) (l0 : List S31) (r : Int) (w : World) (hr0 : Kd.C k31 w A0 l0.length l0) (h : leasebad.i l0 0 = some r) :
    Calls Try.prog 73 #[.slice A0 l0.length c0, .func (.func 48) #[] #[]] w fun e w' => e = .returned (.int .i64 r) ∧ Below w.heap.size w w' := by
  have hn : l0.length ≤ 9223372036854775807 := Kd.C_max hr0
  have HN := Aside0.mk hn
  have HR := Aside0.mk hr0
  have H := Aside0.mk h
  clear hr0 h hn
  have hu := Try.underlying31
  have eg := enters_leasebad
  go_enter Try.func73, Try.ntmps73
  go_wp2
  go_loopg [5, 8] l0.length (fun gg _ s8 wr => ∃ kk : Nat, Aside0 (kk ≤ l0.length ∧ l0.length - kk ≤ gg) ∧ s8 = .int .i64 kk ∧ Aside0 (Below w.heap.size w wr) ∧ Aside0 (leasebad.i (l0.drop kk) kk = some r))
  case atStart => exact ⟨0, ⟨Nat.zero_le _, by omega⟩, rfl, ⟨Below.refl _ w⟩, H⟩
  case round =>
    clear H
    obtain ⟨kk, HK, rfl, BW, H⟩ := hrel
    by_cases hlt : kk < l0.length
    · have hltz : (kk : Int) < (l0.length : Int) := by omega
      obtain ⟨ad, rfl, hc0, hc1, hc2, hc3, hc4, hc5, hc6, hc7, hc8⟩ := at_T31 (Kd.C_below HR.out BW.out) (kk : Int) (by omega) hltz
      simp only [Int.toNat_natCast] at hc0 hc1 hc2 hc3 hc4 hc5 hc6 hc7 hc8
      have hd : l0.drop kk = (rd_T31 l0 (kk : Int)) :: l0.drop (kk + 1) := by
        rw [List.drop_eq_getElem_cons hlt]
        simp [rd_T31, List.getD_eq_getElem?_getD, List.getElem?_eq_getElem hlt]
      have h := H.out
      rw [hd, leasebad.i] at h
      obtain ⟨ok, hok, h⟩ := Option.bind_eq_some_iff.1 h
      clear hd H
      have hlit := fun W => leasebad_lit (rd_T31 l0 (kk : Int)) ok W hok
      have HLT := Aside0.mk hlt
      clear hlt hok
      cases ok with
      | false =>
        rw [if_neg (by decide)] at h
        obtain rfl := Option.some.inj h
        go_wp2_with (go_at_call 48; refine (hlit _).mono ?_; rintro e w' ⟨rfl, hb'⟩; have HB9 := Aside0.mk (below_step BW.out hb'); clear hb')
        go_ret
        exact ⟨rfl, HB9.out⟩
      | true =>
        rw [if_pos rfl] at h
        have H := Aside0.mk h
        clear h
        go_wp2_with (go_at_call 48; refine (hlit _).mono ?_; rintro e w' ⟨rfl, hb'⟩; have HB9 := Aside0.mk (below_step BW.out hb'); clear hb')
        go_roundg (l0.length - (kk + 1))
        case measure => have := HK.out; have := HLT.out; omega
        case rel => exact ⟨kk + 1, ⟨by have := HLT.out; omega, Nat.le_refl _⟩, by have := HN.out; have := HLT.out; rw [Go.IntWalk.wrap64_in _ (by omega)]; rfl, HB9, H⟩
    · have hltz : ¬ (kk : Int) < (l0.length : Int) := by omega
      obtain rfl : kk = l0.length := by have := HK.out; omega
      have h := H.out
      rw [List.drop_length, leasebad.i] at h
      obtain rfl := Option.some.inj h
      clear H
      go_wp2
      go_ret
      exact ⟨rfl, BW.out⟩
theorem leasebad.calls (A0 : Option Addr) (c0 : Nat) (l0 : List S31) (r : Bool) (w : World) (hr0 : Kd.C k31 w A0 l0.length l0) (hc0 : l0.length ≤ c0) (h : leasebad.f l0 = some r) :
    Calls Try.prog 47 #[.slice A0 l0.length c0, .func (.func 48) #[] #[]] w fun e w' => e = .returned (.bool r) ∧ Below w.heap.size w w' := by
  unfold leasebad.f at h
  obtain ⟨i, hi, h⟩ := Option.bind_eq_some_iff.1 h
  obtain rfl := Option.some.inj h
  have hx := leasebad_index A0 c0 l0 i w hr0 hi
  clear hr0 h hi
  go_enter Try.func47, Try.ntmps47
  go_wp2_with (go_at_call 73; refine hx.mono ?_; rintro e w' ⟨rfl, hb'⟩)
  go_ret
  exact ⟨rfl, by assumption⟩

/-! ### lease_Decode: function 22 -/
def lease_Decode.l0 : Nat → ByteArray → List (S31) → Int → Int → ByteArray → Int → Int → Option ((List (S31)) × Int)
  | 0, _, _, _, _, _, _, _ => none
  | k + 1, x0, x7, x22, x23, x259000, x259001, x259002 => if x23 < x22 then ((lease_reader_change.f x259000 x259001 x259002).bind fun bt259 => (if x7.length < 1759218604441 then (if bt259.2.2.2.2.2.2.2.2.2.2.2 = 0 then (lease_Decode.l0 k x0 (x7 ++ [(⟨bt259.1, (⟨bt259.2.1, (⟨(⟨bt259.2.2.1, bt259.2.2.2.1⟩ : S24), bt259.2.2.2.2.1⟩ : S26), bt259.2.2.2.2.2.1, bt259.2.2.2.2.2.2.1, bt259.2.2.2.2.2.2.2.1, bt259.2.2.2.2.2.2.2.2.1⟩ : S29)⟩ : S31)]) x22 (IntKind.u16.wrap (x23 + 1)) bt259.2.2.2.2.2.2.2.2.2.1 bt259.2.2.2.2.2.2.2.2.2.2.1 bt259.2.2.2.2.2.2.2.2.2.2.2) else (some (([] : List (S31)), bt259.2.2.2.2.2.2.2.2.2.2.2))) else (none))) else (if x259001 < (x0.size : Int) then (some (([] : List (S31)), 5)) else ((leasebad.f x7).bind fun t274 => (if t274 = true then (some (([] : List (S31)), 80)) else (some (x7, 0)))))
def lease_Decode.f (k : Nat) (a0 : ByteArray) : Option ((List (S31)) × Int) := (octet_Get16.f k a0 0).bind fun bt256 => (if bt256.2 = true then (if bt256.1 > 2048 then (some (([] : List (S31)), 6)) else (lease_Decode.l0 k a0 ([] : List (S31)) bt256.1 0 a0 2 0)) else (some (([] : List (S31)), 3)))
theorem lease_Decode.mono_l : ∀ k, (∀ y0 y1 y2 y3 y4 y5 y6, LeO (lease_Decode.l0 k y0 y1 y2 y3 y4 y5 y6) (lease_Decode.l0 (k + 1) y0 y1 y2 y3 y4 y5 y6))
  | 0 => fun _ _ _ _ _ _ _ r h => by simp [lease_Decode.l0] at h
  | k + 1 => by
    have ih0 := lease_Decode.mono_l k
    · intro y0 y1 y2 y3 y4 y5 y6
      unfold lease_Decode.l0
      repeat' first
      | (with_reducible exact ih0 _ _ _ _ _ _ _)
      | (with_reducible exact octet_Get16.mono _ _ _)
      | (with_reducible exact LeO.refl _)
      | (with_reducible exact LeO.none _)
      | (with_reducible refine LeO.ite ?_ ?_)
      | (with_reducible refine LeO.bind ?_ (fun _ => ?_))
      | exact ih0 _ _ _ _ _ _ _
      | exact octet_Get16.mono _ _ _
      | exact LeO.none _
      | refine LeO.ite ?_ ?_
      | refine LeO.bind ?_ (fun _ => ?_)
theorem lease_Decode.mono : ∀ a0 k, LeO (lease_Decode.f k a0) (lease_Decode.f (k + 1) a0) := by
  intro a0 k
  have ih0 := lease_Decode.mono_l k
  unfold lease_Decode.f
  repeat' first
      | (with_reducible exact ih0 _ _ _ _ _ _ _)
      | (with_reducible exact octet_Get16.mono _ _ _)
      | (with_reducible exact LeO.refl _)
      | (with_reducible exact LeO.none _)
      | (with_reducible refine LeO.ite ?_ ?_)
      | (with_reducible refine LeO.bind ?_ (fun _ => ?_))
      | exact ih0 _ _ _ _ _ _ _
      | exact octet_Get16.mono _ _ _
      | exact LeO.none _
      | refine LeO.ite ?_ ?_
      | refine LeO.bind ?_ (fun _ => ?_)
set_option maxHeartbeats 8000000 in
set_option maxRecDepth 100000 in
theorem lease_Decode.calls (k : Nat) (a0 : ByteArray) (r1 : List (S31)) (r2 : Int) (w : World) (h : lease_Decode.f k a0 = some (r1, r2)) :
    Calls Try.prog 22 #[.string a0] w fun e w' => ∃ v0_ : Value, e = .returned (.tuple #[v0_, .int .i64 r2]) ∧ Kd.R k31 31 w' w.heap.size (fun _ => True) v0_ r1 ∧ Below w.heap.size w w' := by
  have hu80 := Try.underlying80
  have HB := Aside0.mk (Below.refl w.heap.size w)
  have H : ((octet_Get16.f k a0 0).bind fun bt256 => (if bt256.2 = true then (if bt256.1 > 2048 then (some (([] : List (S31)), 6)) else (lease_Decode.l0 k a0 ([] : List (S31)) bt256.1 0 a0 2 0)) else (some (([] : List (S31)), 3)))) = some (r1, r2) := h
  clear h
  replace H := Option.bind_eq_some_iff.mp H
  obtain ⟨⟨t256, t257⟩, A20, H⟩ := H
  replace H : (if t257 = true then (if t256 > 2048 then (some (([] : List (S31)), 6)) else (lease_Decode.l0 k a0 ([] : List (S31)) t256 0 a0 2 0)) else (some (([] : List (S31)), 3))) = some (r1, r2) := H
  have A2 := Aside0.mk A20
  clear A20
  by_cases c3 : t257 = true
  · subst c3
    have H1 : (if t256 > 2048 then (some (([] : List (S31)), 6)) else (lease_Decode.l0 k a0 ([] : List (S31)) t256 0 a0 2 0)) = some (r1, r2) := by rw [if_pos rfl] at H; exact H
    clear H
    have H := H1
    clear H1
    by_cases c4 : t256 > 2048
    · rw [if_pos c4] at H
      have c4b0 : decide (2048 < t256) = true := decide_eq_true c4
      clear c4
      simp only [Option.some.injEq, Prod.mk.injEq] at H
      obtain ⟨rfl, rfl⟩ := H
      go_enter Try.func22, Try.ntmps22
      go_wp2_with (first | (go_at_call 45; (with_reducible refine (octet_Get16.calls k a0 0 t256 true _ A2.out).mono ?_); rintro e w5 ⟨rfl, hb⟩; have n0_ := Aside0.mk (below_step HB.out hb); clear HB; have HB := n0_; clear n0_; (try clear hb); (try clear hb2); (try clear hk); (try clear hi)))
      repeat (go_quiet (first | (go_at_call 45; (with_reducible refine (octet_Get16.calls k a0 0 t256 true _ A2.out).mono ?_); rintro e w5 ⟨rfl, hb⟩; have n0_ := Aside0.mk (below_step (by repeat (fail)) hb); clear HB; have HB := n0_; clear n0_; (try clear hb); (try clear hb2); (try clear hk); (try clear hi))); try go_wp2_with (first | (go_at_call 45; (with_reducible refine (octet_Get16.calls k a0 0 t256 true _ A2.out).mono ?_); rintro e w5 ⟨rfl, hb⟩; have n0_ := Aside0.mk (below_step (by repeat (fail)) hb); clear HB; have HB := n0_; clear n0_; (try clear hb); (try clear hb2); (try clear hk); (try clear hi))))
      go_ret2
      exact ⟨_, by rfl, by first | exact Kd.R_nil _ _ _ _ _, by exact HB.out⟩
    · rw [if_neg c4] at H
      have c4b0 : decide (2048 < t256) = false := decide_eq_false c4
      clear c4
      have H' := Aside0.mk H
      clear H
      go_enter Try.func22, Try.ntmps22
      go_wp2_with (first | (go_at_call 45; (with_reducible refine (octet_Get16.calls k a0 0 t256 true _ A2.out).mono ?_); rintro e w6 ⟨rfl, hb⟩; have n0_ := Aside0.mk (below_step HB.out hb); clear HB; have HB := n0_; clear n0_; (try clear hb); (try clear hb2); (try clear hk); (try clear hi)) | ((with_reducible refine gate_dst (N := 21) rfl ?_); refine box_event ?hg (N := 21) ?hd (cs := #[.string a0, .int .i64 2, .int .i64 0]) (t := 80) ?hr ?_; (case hd => rfl); (case hg => rfl); (case hr => go_simp; done); intro gb258 hg w7 hbox hb; have n0_ := Aside0.mk (below_step HB.out hb); have n1_ := Aside0.mk ((⟨hbox, (by rw [hg]; exact (below_size HB.out) : w.heap.size ≤ gb258)⟩ : IsS80 w w7 gb258 a0 2 0)); clear HB; have HB := n0_; have HI258 := n1_; clear n0_ n1_; clear hb hbox hg))
      repeat (go_quiet (first | (go_at_call 45; (with_reducible refine (octet_Get16.calls k a0 0 t256 true _ A2.out).mono ?_); rintro e w6 ⟨rfl, hb⟩; have n0_ := Aside0.mk (below_step (by repeat (fail)) hb); clear HB; have HB := n0_; clear n0_; (try clear hb); (try clear hb2); (try clear hk); (try clear hi))); try go_wp2_with (first | (go_at_call 45; (with_reducible refine (octet_Get16.calls k a0 0 t256 true _ A2.out).mono ?_); rintro e w6 ⟨rfl, hb⟩; have n0_ := Aside0.mk (below_step (by repeat (fail)) hb); clear HB; have HB := n0_; clear n0_; (try clear hb); (try clear hb2); (try clear hk); (try clear hi))))
      go_loopg [7, 23] k (fun kq v7 v23 w' => ∃ (x7_1 : List (S31)) (x23_1 : Int) (x259000_1 : ByteArray) (x259001_1 : Int) (x259002_1 : Int), v23 = .int .u16 x23_1 ∧ Aside0 (lease_Decode.l0 kq a0 x7_1 t256 x23_1 x259000_1 x259001_1 x259002_1 = some (r1, r2)) ∧ Aside0 (kq ≤ k) ∧ Aside0 (Kd.R k31 31 w' w.heap.size (fun _ => True) v7 x7_1) ∧ Aside0 (IsS80 w w' gb258 x259000_1 x259001_1 x259002_1) ∧ Aside0 (Below w.heap.size w w'))
      case atStart => exact ⟨(([] : List (S31))), (0), (a0), (2), (0), (by rfl), H', ⟨Nat.le_refl _⟩, ⟨by first | exact Kd.R_nil _ _ _ _ _⟩, ⟨by repeat (first | exact HI258.out)⟩, ⟨by exact HB.out⟩⟩
      case round =>
        clear H'
        try clear c2
        try clear p2
        try clear c3
        try clear c4
        try clear c4b0
        obtain ⟨x7_1, x23_1, x259000_1, x259001_1, x259002_1, rfl, HA, HK1, HO_7, HI258, HB⟩ := hrel
        cases gk with
        | zero => exact absurd HA.out (by simp [lease_Decode.l0])
        | succ k1 =>
          have H := HA.out
          clear HA
          simp only [lease_Decode.l0] at H
          by_cases c8 : x23_1 < t256
          · rw [if_pos c8] at H
            have c8b0 : decide (x23_1 < t256) = true := decide_eq_true c8
            clear c8
            replace H := Option.bind_eq_some_iff.mp H
            obtain ⟨⟨t259, t260, t261, t262, t263, t264, t265, t266, t267, t268, t269, t270⟩, A90, H⟩ := H
            replace H : (if x7_1.length < 1759218604441 then (if t270 = 0 then (lease_Decode.l0 k1 a0 (x7_1 ++ [(⟨t259, (⟨t260, (⟨(⟨t261, t262⟩ : S24), t263⟩ : S26), t264, t265, t266, t267⟩ : S29)⟩ : S31)]) t256 (IntKind.u16.wrap (x23_1 + 1)) t268 t269 t270) else (some (([] : List (S31)), t270))) else (none)) = some (r1, r2) := H
            have A9 := Aside0.mk A90
            clear A90
            by_cases c10 : x7_1.length < 1759218604441
            · rw [if_pos c10] at H
              have LMc10 := Aside0.mk c10
              clear c10
              obtain ⟨y271, hy271⟩ : ∃ y_ : List (S31), y_ = (x7_1 ++ [(⟨t259, (⟨t260, (⟨(⟨t261, t262⟩ : S24), t263⟩ : S26), t264, t265, t266, t267⟩ : S29)⟩ : S31)]) := ⟨_, rfl⟩
              replace H : (if t270 = 0 then (lease_Decode.l0 k1 a0 y271 t256 (IntKind.u16.wrap (x23_1 + 1)) t268 t269 t270) else (some (([] : List (S31)), t270))) = some (r1, r2) := by first | (rw [hy271]; with_reducible exact H)
              have Ny271 := Aside0.mk hy271
              clear hy271
              by_cases c11 : t270 = 0
              · rw [if_pos c11] at H
                have c11b0 : (t270 == 0) = true := beq_iff_eq.mpr c11
                have c11b1 : (t270 != 0) = false := bne_eq_false_iff_eq.mpr c11
                clear c11
                have H' := Aside0.mk H
                clear H
                go_wp2_with (first | (go_at_call 46; (with_reducible refine (lease_reader_change.calls gb258 x259000_1 x259001_1 x259002_1 t259 t260 t261 t262 t263 t264 t265 t266 t267 t268 t269 t270 w _ ?side1 ?side2 A9.out).mono ?_); (case side1 => repeat (first | (with_reducible first | exact HI258.out))); (case side2 => exact HB.out); rintro e w12 ⟨rfl, hi, hb, hk⟩; have n0_ := Aside0.mk (Kd.R_mono (Kd.R_keep (IsS80.apart (show IsS80 w _ gb258 x259000_1 x259001_1 x259002_1 from by repeat (first | (with_reducible first | exact HI258.out))) HO_7.out (by decide)) hk (fun _ h => h.2)) (fun _ h => h.1)); have n1_ := Aside0.mk (hb); have n2_ := Aside0.mk (hi); clear HO_7; clear HB; clear HI258; have HO_7 := n0_; have HB := n1_; have HI258 := n2_; clear n0_ n1_ n2_; (try clear hb); (try clear hb2); (try clear hk); (try clear hi)) | ((with_reducible refine gate_builtin (b := .append) (xs := #[.tmp 25, .tmp 28]) rfl ?_); at_builtin; refine Kd.R_append k31 (w0 := w) w.heap.size rfl (.tmp 25) (.tmp 28) 39 31 (.agg #[(.bool false), (.int .i64 0), (.int .u64 0), (.int .u64 0), (.int .i64 0), (.int .i64 0), (.string ⟨#[]⟩), (.int .u32 0), (.int .i64 0)]) 80 rfl Try.underlying39 info31 rfl (by decide) (by omega) u7 x7_1 (⟨t259, (⟨t260, (⟨(⟨t261, t262⟩ : S24), t263⟩ : S26), t264, t265, t266, t267⟩ : S29)⟩ : S31) [.bool t259, .int .i64 t260, .int .u64 t261, .int .u64 t262, .int .i64 t263, .int .i64 t264, .string t265, .int .u32 t266, .int .i64 t267] (fun _ => True) (fun _ => False) rfl rfl ?aP (fun _ hk => hk.elim) ?aF ?aO ?aB ?aS ?aL ?_; (case aP => exact k31_mkM _ _ _ (⟨t259, (⟨t260, (⟨(⟨t261, t262⟩ : S24), t263⟩ : S26), t264, t265, t266, t267⟩ : S29)⟩ : S31)); (case aB => exact HB.out); (case aF => exact (fun _ _ => trivial)); (case aO => exact HO_7.out); (case aS => exact (below_size HB.out)); (case aL => have := LMc10.out; omega); intro v272 w13 ho hb hg hat; rw [← Ny271.out] at ho; have n0_ := Aside0.mk (IsS80.grown (by repeat (first | (with_reducible first | exact HI258.out))) hg (IsS80.own_ne HI258.out HO_7.out (by decide))); have n1_ := Aside0.mk (hb); have n2_ := Aside0.mk (ho); clear HI258; clear HB; clear HO_7; have HI258 := n0_; have HB := n1_; have HO273 := n2_; clear n0_ n1_ n2_; clear ho hb hg hat; obtain ⟨HGz14, hgz14⟩ := HI258.out; have hcz14_0 := cellS80_0 HGz14; have hcz14_1 := cellS80_1 HGz14; have hcz14_2 := cellS80_2 HGz14; have hfz14_0 := blk_frozen HGz14 0; have hfz14_1 := blk_frozen HGz14 1; have hfz14_2 := blk_frozen HGz14 2; clear HGz14 hgz14))
                repeat (go_quiet (first | (go_at_call 46; (with_reducible refine (lease_reader_change.calls gb258 x259000_1 x259001_1 x259002_1 t259 t260 t261 t262 t263 t264 t265 t266 t267 t268 t269 t270 w _ ?side1 ?side2 A9.out).mono ?_); (case side1 => repeat (fail)); (case side2 => repeat (fail)); rintro e w12 ⟨rfl, hi, hb, hk⟩; have n0_ := Aside0.mk (Kd.R_mono (Kd.R_keep (IsS80.apart (show IsS80 w _ gb258 x259000_1 x259001_1 x259002_1 from by repeat (fail)) HO_7.out (by decide)) hk (fun _ h => h.2)) (fun _ h => h.1)); have n1_ := Aside0.mk (hb); have n2_ := Aside0.mk (hi); clear HO_7; clear HB; clear HI258; have HO_7 := n0_; have HB := n1_; have HI258 := n2_; clear n0_ n1_ n2_; (try clear hb); (try clear hb2); (try clear hk); (try clear hi))); try go_wp2_with (first | (go_at_call 46; (with_reducible refine (lease_reader_change.calls gb258 x259000_1 x259001_1 x259002_1 t259 t260 t261 t262 t263 t264 t265 t266 t267 t268 t269 t270 w _ ?side1 ?side2 A9.out).mono ?_); (case side1 => repeat (fail)); (case side2 => repeat (fail)); rintro e w12 ⟨rfl, hi, hb, hk⟩; have n0_ := Aside0.mk (Kd.R_mono (Kd.R_keep (IsS80.apart (show IsS80 w _ gb258 x259000_1 x259001_1 x259002_1 from by repeat (fail)) HO_7.out (by decide)) hk (fun _ h => h.2)) (fun _ h => h.1)); have n1_ := Aside0.mk (hb); have n2_ := Aside0.mk (hi); clear HO_7; clear HB; clear HI258; have HO_7 := n0_; have HB := n1_; have HI258 := n2_; clear n0_ n1_ n2_; (try clear hb); (try clear hb2); (try clear hk); (try clear hi))))
                go_roundg k1
                case measure => have := HK1.out; omega
                case rel => exact ⟨(y271), (IntKind.u16.wrap (x23_1 + 1)), (t268), (t269), (t270), (by rfl), H', ⟨by have := HK1.out; omega⟩, ⟨by exact HO273.out⟩, ⟨by repeat (first | (with_reducible first | exact HI258.out))⟩, ⟨by exact HB.out⟩⟩
              · rw [if_neg c11] at H
                have c11b0 : (t270 == 0) = false := beq_eq_false_iff_ne.mpr c11
                have c11b1 : (t270 != 0) = true := bne_iff_ne.mpr c11
                simp only [Option.some.injEq, Prod.mk.injEq] at H
                obtain ⟨rfl, rfl⟩ := H
                go_wp2_with (first | (go_at_call 46; (with_reducible refine (lease_reader_change.calls gb258 x259000_1 x259001_1 x259002_1 t259 t260 t261 t262 t263 t264 t265 t266 t267 t268 t269 t270 w _ ?side1 ?side2 A9.out).mono ?_); (case side1 => repeat (first | (with_reducible first | exact HI258.out))); (case side2 => exact HB.out); rintro e w15 ⟨rfl, hi, hb, hk⟩; have n0_ := Aside0.mk (Kd.R_mono (Kd.R_keep (IsS80.apart (show IsS80 w _ gb258 x259000_1 x259001_1 x259002_1 from by repeat (first | (with_reducible first | exact HI258.out))) HO_7.out (by decide)) hk (fun _ h => h.2)) (fun _ h => h.1)); have n1_ := Aside0.mk (hb); have n2_ := Aside0.mk (hi); clear HO_7; clear HB; clear HI258; have HO_7 := n0_; have HB := n1_; have HI258 := n2_; clear n0_ n1_ n2_; (try clear hb); (try clear hb2); (try clear hk); (try clear hi)) | ((with_reducible refine gate_builtin (b := .append) (xs := #[.tmp 25, .tmp 28]) rfl ?_); at_builtin; refine Kd.R_append k31 (w0 := w) w.heap.size rfl (.tmp 25) (.tmp 28) 39 31 (.agg #[(.bool false), (.int .i64 0), (.int .u64 0), (.int .u64 0), (.int .i64 0), (.int .i64 0), (.string ⟨#[]⟩), (.int .u32 0), (.int .i64 0)]) 80 rfl Try.underlying39 info31 rfl (by decide) (by omega) u7 x7_1 (⟨t259, (⟨t260, (⟨(⟨t261, t262⟩ : S24), t263⟩ : S26), t264, t265, t266, t267⟩ : S29)⟩ : S31) [.bool t259, .int .i64 t260, .int .u64 t261, .int .u64 t262, .int .i64 t263, .int .i64 t264, .string t265, .int .u32 t266, .int .i64 t267] (fun _ => True) (fun _ => False) rfl rfl ?aP (fun _ hk => hk.elim) ?aF ?aO ?aB ?aS ?aL ?_; (case aP => exact k31_mkM _ _ _ (⟨t259, (⟨t260, (⟨(⟨t261, t262⟩ : S24), t263⟩ : S26), t264, t265, t266, t267⟩ : S29)⟩ : S31)); (case aB => exact HB.out); (case aF => exact (fun _ _ => trivial)); (case aO => exact HO_7.out); (case aS => exact (below_size HB.out)); (case aL => have := LMc10.out; omega); intro v272 w16 ho hb hg hat; rw [← Ny271.out] at ho; have n0_ := Aside0.mk (IsS80.grown (by repeat (first | (with_reducible first | exact HI258.out))) hg (IsS80.own_ne HI258.out HO_7.out (by decide))); have n1_ := Aside0.mk (hb); have n2_ := Aside0.mk (ho); clear HI258; clear HB; clear HO_7; have HI258 := n0_; have HB := n1_; have HO273 := n2_; clear n0_ n1_ n2_; clear ho hb hg hat; obtain ⟨HGz17, hgz17⟩ := HI258.out; have hcz17_0 := cellS80_0 HGz17; have hcz17_1 := cellS80_1 HGz17; have hcz17_2 := cellS80_2 HGz17; have hfz17_0 := blk_frozen HGz17 0; have hfz17_1 := blk_frozen HGz17 1; have hfz17_2 := blk_frozen HGz17 2; clear HGz17 hgz17))
                repeat (go_quiet (first | (go_at_call 46; (with_reducible refine (lease_reader_change.calls gb258 x259000_1 x259001_1 x259002_1 t259 t260 t261 t262 t263 t264 t265 t266 t267 t268 t269 t270 w _ ?side1 ?side2 A9.out).mono ?_); (case side1 => repeat (fail)); (case side2 => repeat (fail)); rintro e w15 ⟨rfl, hi, hb, hk⟩; have n0_ := Aside0.mk (Kd.R_mono (Kd.R_keep (IsS80.apart (show IsS80 w _ gb258 x259000_1 x259001_1 x259002_1 from by repeat (fail)) HO_7.out (by decide)) hk (fun _ h => h.2)) (fun _ h => h.1)); have n1_ := Aside0.mk (hb); have n2_ := Aside0.mk (hi); clear HO_7; clear HB; clear HI258; have HO_7 := n0_; have HB := n1_; have HI258 := n2_; clear n0_ n1_ n2_; (try clear hb); (try clear hb2); (try clear hk); (try clear hi))); try go_wp2_with (first | (go_at_call 46; (with_reducible refine (lease_reader_change.calls gb258 x259000_1 x259001_1 x259002_1 t259 t260 t261 t262 t263 t264 t265 t266 t267 t268 t269 t270 w _ ?side1 ?side2 A9.out).mono ?_); (case side1 => repeat (fail)); (case side2 => repeat (fail)); rintro e w15 ⟨rfl, hi, hb, hk⟩; have n0_ := Aside0.mk (Kd.R_mono (Kd.R_keep (IsS80.apart (show IsS80 w _ gb258 x259000_1 x259001_1 x259002_1 from by repeat (fail)) HO_7.out (by decide)) hk (fun _ h => h.2)) (fun _ h => h.1)); have n1_ := Aside0.mk (hb); have n2_ := Aside0.mk (hi); clear HO_7; clear HB; clear HI258; have HO_7 := n0_; have HB := n1_; have HI258 := n2_; clear n0_ n1_ n2_; (try clear hb); (try clear hb2); (try clear hk); (try clear hi))))
                go_ret2
                exact ⟨_, by rfl, by first | exact Kd.R_nil _ _ _ _ _, by repeat (first | (with_reducible first | exact HB.out | apply pw_below_drewN))⟩
            · rw [if_neg c10] at H
              exact absurd H (by simp)
          · rw [if_neg c8] at H
            have c8b0 : decide (x23_1 < t256) = false := decide_eq_false c8
            clear c8
            by_cases c18 : x259001_1 < (a0.size : Int)
            · rw [if_pos c18] at H
              have c18b0 : decide (x259001_1 < (a0.size : Int)) = true := decide_eq_true c18
              clear c18
              simp only [Option.some.injEq, Prod.mk.injEq] at H
              obtain ⟨rfl, rfl⟩ := H
              obtain ⟨HGz19, hgz19⟩ := HI258.out
              have hcz19_0 := cellS80_0 HGz19
              have hcz19_1 := cellS80_1 HGz19
              have hcz19_2 := cellS80_2 HGz19
              have hfz19_0 := blk_frozen HGz19 0
              have hfz19_1 := blk_frozen HGz19 1
              have hfz19_2 := blk_frozen HGz19 2
              clear HGz19 hgz19
              go_wp2
              repeat (go_quiet (fail); try go_wp2)
              go_ret2
              exact ⟨_, by rfl, by first | exact Kd.R_nil _ _ _ _ _, by exact HB.out⟩
            · rw [if_neg c18] at H
              have c18b0 : decide (x259001_1 < (a0.size : Int)) = false := decide_eq_false c18
              clear c18
              replace H := Option.bind_eq_some_iff.mp H
              obtain ⟨t274, A200, H⟩ := H
              replace H : (if t274 = true then (some (([] : List (S31)), 80)) else (some (x7_1, 0))) = some (r1, r2) := H
              have A20 := Aside0.mk A200
              clear A200
              by_cases c21 : t274 = true
              · subst c21
                have H1 : (some (([] : List (S31)), 80)) = some (r1, r2) := by rw [if_pos rfl] at H; exact H
                clear H
                have H := H1
                clear H1
                simp only [Option.some.injEq, Prod.mk.injEq] at H
                obtain ⟨rfl, rfl⟩ := H
                obtain ⟨HGz22, hgz22⟩ := HI258.out
                have hcz22_0 := cellS80_0 HGz22
                have hcz22_1 := cellS80_1 HGz22
                have hcz22_2 := cellS80_2 HGz22
                have hfz22_0 := blk_frozen HGz22 0
                have hfz22_1 := blk_frozen HGz22 1
                have hfz22_2 := blk_frozen HGz22 2
                clear HGz22 hgz22
                obtain ⟨Ao23, co23, eo23⟩ := Kd.R_slice HO_7.out
                subst eo23
                go_wp2_with (first | (go_at_call 47; (with_reducible refine (leasebad.calls _ _ x7_1 true _ ?side1 ?side2 A20.out).mono ?_); (case side1 => repeat (first | exact (Kd.R_reads' HO_7.out).2.2)); (case side2 => exact (Kd.R_reads' HO_7.out).2.1); rintro e w24 ⟨rfl, hb⟩; have n0_ := Aside0.mk (Kd.R_below HO_7.out hb); have n1_ := Aside0.mk (IsS80.below (by repeat (first | (with_reducible first | exact HI258.out))) hb); have n2_ := Aside0.mk (below_step HB.out hb); clear HO_7; clear HI258; clear HB; have HO_7 := n0_; have HI258 := n1_; have HB := n2_; clear n0_ n1_ n2_; (try clear hb); (try clear hb2); (try clear hk); (try clear hi)))
                repeat (go_quiet (first | (go_at_call 47; (with_reducible refine (leasebad.calls _ _ x7_1 true _ ?side1 ?side2 A20.out).mono ?_); (case side1 => repeat (fail)); (case side2 => exact (Kd.R_reads' HO_7.out).2.1); rintro e w24 ⟨rfl, hb⟩; have n0_ := Aside0.mk (Kd.R_below HO_7.out hb); have n1_ := Aside0.mk (IsS80.below (by repeat (fail)) hb); have n2_ := Aside0.mk (below_step (by repeat (fail)) hb); clear HO_7; clear HI258; clear HB; have HO_7 := n0_; have HI258 := n1_; have HB := n2_; clear n0_ n1_ n2_; (try clear hb); (try clear hb2); (try clear hk); (try clear hi))); try go_wp2_with (first | (go_at_call 47; (with_reducible refine (leasebad.calls _ _ x7_1 true _ ?side1 ?side2 A20.out).mono ?_); (case side1 => repeat (fail)); (case side2 => exact (Kd.R_reads' HO_7.out).2.1); rintro e w24 ⟨rfl, hb⟩; have n0_ := Aside0.mk (Kd.R_below HO_7.out hb); have n1_ := Aside0.mk (IsS80.below (by repeat (fail)) hb); have n2_ := Aside0.mk (below_step (by repeat (fail)) hb); clear HO_7; clear HI258; clear HB; have HO_7 := n0_; have HI258 := n1_; have HB := n2_; clear n0_ n1_ n2_; (try clear hb); (try clear hb2); (try clear hk); (try clear hi))))
                go_ret2
                exact ⟨_, by rfl, by first | exact Kd.R_nil _ _ _ _ _, by exact HB.out⟩
              · replace c21 := Bool.eq_false_iff.mpr c21
                subst c21
                have H1 : (some (x7_1, 0)) = some (r1, r2) := by rw [if_neg (show ¬ (false = true) by decide)] at H; exact H
                clear H
                have H := H1
                clear H1
                simp only [Option.some.injEq, Prod.mk.injEq] at H
                obtain ⟨rfl, rfl⟩ := H
                obtain ⟨HGz25, hgz25⟩ := HI258.out
                have hcz25_0 := cellS80_0 HGz25
                have hcz25_1 := cellS80_1 HGz25
                have hcz25_2 := cellS80_2 HGz25
                have hfz25_0 := blk_frozen HGz25 0
                have hfz25_1 := blk_frozen HGz25 1
                have hfz25_2 := blk_frozen HGz25 2
                clear HGz25 hgz25
                obtain ⟨Ao26, co26, eo26⟩ := Kd.R_slice HO_7.out
                subst eo26
                go_wp2_with (first | (go_at_call 47; (with_reducible refine (leasebad.calls _ _ x7_1 false _ ?side1 ?side2 A20.out).mono ?_); (case side1 => repeat (first | exact (Kd.R_reads' HO_7.out).2.2)); (case side2 => exact (Kd.R_reads' HO_7.out).2.1); rintro e w27 ⟨rfl, hb⟩; have n0_ := Aside0.mk (Kd.R_below HO_7.out hb); have n1_ := Aside0.mk (IsS80.below (by repeat (first | (with_reducible first | exact HI258.out))) hb); have n2_ := Aside0.mk (below_step HB.out hb); clear HO_7; clear HI258; clear HB; have HO_7 := n0_; have HI258 := n1_; have HB := n2_; clear n0_ n1_ n2_; (try clear hb); (try clear hb2); (try clear hk); (try clear hi)))
                repeat (go_quiet (first | (go_at_call 47; (with_reducible refine (leasebad.calls _ _ x7_1 false _ ?side1 ?side2 A20.out).mono ?_); (case side1 => repeat (fail)); (case side2 => exact (Kd.R_reads' HO_7.out).2.1); rintro e w27 ⟨rfl, hb⟩; have n0_ := Aside0.mk (Kd.R_below HO_7.out hb); have n1_ := Aside0.mk (IsS80.below (by repeat (fail)) hb); have n2_ := Aside0.mk (below_step (by repeat (fail)) hb); clear HO_7; clear HI258; clear HB; have HO_7 := n0_; have HI258 := n1_; have HB := n2_; clear n0_ n1_ n2_; (try clear hb); (try clear hb2); (try clear hk); (try clear hi))); try go_wp2_with (first | (go_at_call 47; (with_reducible refine (leasebad.calls _ _ x7_1 false _ ?side1 ?side2 A20.out).mono ?_); (case side1 => repeat (fail)); (case side2 => exact (Kd.R_reads' HO_7.out).2.1); rintro e w27 ⟨rfl, hb⟩; have n0_ := Aside0.mk (Kd.R_below HO_7.out hb); have n1_ := Aside0.mk (IsS80.below (by repeat (fail)) hb); have n2_ := Aside0.mk (below_step (by repeat (fail)) hb); clear HO_7; clear HI258; clear HB; have HO_7 := n0_; have HI258 := n1_; have HB := n2_; clear n0_ n1_ n2_; (try clear hb); (try clear hb2); (try clear hk); (try clear hi))))
                go_ret2
                exact ⟨_, by rfl, by exact HO_7.out, by exact HB.out⟩
  · replace c3 := Bool.eq_false_iff.mpr c3
    subst c3
    have H1 : (some (([] : List (S31)), 3)) = some (r1, r2) := by rw [if_neg (show ¬ (false = true) by decide)] at H; exact H
    clear H
    have H := H1
    clear H1
    simp only [Option.some.injEq, Prod.mk.injEq] at H
    obtain ⟨rfl, rfl⟩ := H
    go_enter Try.func22, Try.ntmps22
    go_wp2_with (first | (go_at_call 45; (with_reducible refine (octet_Get16.calls k a0 0 t256 false _ A2.out).mono ?_); rintro e w28 ⟨rfl, hb⟩; have n0_ := Aside0.mk (below_step HB.out hb); clear HB; have HB := n0_; clear n0_; (try clear hb); (try clear hb2); (try clear hk); (try clear hi)))
    repeat (go_quiet (first | (go_at_call 45; (with_reducible refine (octet_Get16.calls k a0 0 t256 false _ A2.out).mono ?_); rintro e w28 ⟨rfl, hb⟩; have n0_ := Aside0.mk (below_step (by repeat (fail)) hb); clear HB; have HB := n0_; clear n0_; (try clear hb); (try clear hb2); (try clear hk); (try clear hi))); try go_wp2_with (first | (go_at_call 45; (with_reducible refine (octet_Get16.calls k a0 0 t256 false _ A2.out).mono ?_); rintro e w28 ⟨rfl, hb⟩; have n0_ := Aside0.mk (below_step (by repeat (fail)) hb); clear HB; have HB := n0_; clear n0_; (try clear hb); (try clear hb2); (try clear hk); (try clear hi))))
    go_ret2
    exact ⟨_, by rfl, by first | exact Kd.R_nil _ _ _ _ _, by exact HB.out⟩

/-! ### tenancylaw08_one: function 26 -/
def tenancylaw08_one.f (a0 : Int) : Option (Int × Int × Int) := some (0, a0, 128)
set_option maxHeartbeats 8000000 in
set_option maxRecDepth 100000 in
theorem tenancylaw08_one.calls (a0 : Int) (r1 : Int) (r2 : Int) (r3 : Int) (w : World) (h : tenancylaw08_one.f a0 = some (r1, r2, r3)) :
    Calls Try.prog 26 #[.int .u64 a0] w fun e w' => e = .returned (.agg #[.int .u64 r1, .int .u64 r2, .int .i64 r3]) ∧ Below w.heap.size w w' := by
  have hu26 := Try.underlying26
  have hu24 := Try.underlying24
  have HB := Aside0.mk (Below.refl w.heap.size w)
  have H : (some (0, a0, 128)) = some (r1, r2, r3) := h
  clear h
  simp only [Option.some.injEq, Prod.mk.injEq] at H
  obtain ⟨rfl, rfl, rfl⟩ := H
  go_enter Try.func26, Try.ntmps26
  go_wp2_with (first | ((with_reducible refine gate_dst (N := 2) rfl ?_); refine box_event ?hg (N := 2) ?hd (cs := #[.int .u64 0, .int .u64 0, .int .i64 0]) (t := 26) ?hr ?_; (case hd => rfl); (case hg => rfl); (case hr => go_simp; done); intro gb275 hg w2 hbox hb; have n0_ := Aside0.mk (below_step HB.out hb); have n1_ := Aside0.mk (hbox); have n2_ := Aside0.mk ((by rw [hg]; exact (below_size HB.out) : w.heap.size ≤ gb275)); have n3_ := Aside0.mk ((by rw [hg]; exact (below_size HB.out) : w.heap.size ≤ gb275)); clear HB; have HB := n0_; have BK275 := n1_; have GW275 := n2_; have GE275 := n3_; clear n0_ n1_ n2_ n3_; clear hb hbox hg; obtain ⟨hcz3_0, hcz3_1, hcz3_2⟩ := XRun.bc3 BK275.out; obtain ⟨hfz3_0, hfz3_1, hfz3_2⟩ := XRun.bf3 BK275.out))
  refine bodyPost_ret (results_cell_row rfl _ _ gb275 26 #[.int .u64 0, .int .u64 a0, .int .i64 128] (0, 0) _ rfl (by refine blk_put (cs := #[.int .u64 0, .int .u64 a0, .int .i64 0]) ?_ 2 _ rfl; refine blk_put (cs := #[.int .u64 0, .int .u64 0, .int .i64 0]) ?_ 1 _ rfl; refine blk_put (cs := #[.int .u64 0, .int .u64 0, .int .i64 0]) ?_ 0 _ rfl; exact BK275.out) Try.underlying26 rfl (by kernel_rfl)) rfl ?_
  exact ⟨by rfl, by repeat (first | (with_reducible first | exact HB.out | refine below_set ?_ GE275.out))⟩

/-! ### tenancylaw08_awake: function 9 -/
def tenancylaw08_awake.f (k : Nat)  : Option (Bool) := (tenancylaw08_one.f 1).bind fun bt276 => ((lease_Encode.f (([(⟨true, (⟨1, (⟨(⟨bt276.1, bt276.2.1⟩ : S24), bt276.2.2⟩ : S26), 0, (⟨#[]⟩ : ByteArray), 0, 0⟩ : S29)⟩ : S31)] : List (S31)))).bind fun bt282 => ((lease_Decode.f k (⟨#[0, 1, 2, 1, 128, 0, 0, 0, 0, 0, 0, 0, 0, 0, 0, 0, 0, 0, 0, 0, 1]⟩ : ByteArray)).bind fun bt284 => (if bt282.1.toList = ([0, 1, 2, 1, 128, 0, 0, 0, 0, 0, 0, 0, 0, 0, 0, 0, 0, 0, 0, 0, 1] : List UInt8) then (if bt282.2 = 0 then (if bt284.2 = 0 then (if (bt284.1.length : Int) = 1 then (if 0 < (bt284.1.length : Int) then (if (rd_T31 bt284.1 0).f0 = true then ((tenancylaw08_one.f 5).bind fun bt289 => ((lease_Right.f k 1 bt289.1 bt289.2.1 bt289.2.2).bind fun t292 => (if t292 = true then ((tenancylaw08_one.f 5).bind fun bt293 => ((lease_Right.f k 4 bt293.1 bt293.2.1 bt293.2.2).bind fun t296 => (if t296 = true then (none) else ((tenancylaw08_one.f 5).bind fun bt297 => ((lease_Sound.f k 2 bt297.1 bt297.2.1 bt297.2.2 1 (⟨#[99]⟩ : ByteArray) 0 3).bind fun t300 => (if t300 = true then ((tenancylaw08_one.f 5).bind fun bt301 => ((tenancylaw08_one.f 5).bind fun bt304 => ((lease_Meets.f k 2 bt301.1 bt301.2.1 bt301.2.2 3 bt304.1 bt304.2.1 bt304.2.2).bind fun t307 => (if t307 = true then ((tenancylaw08_one.f 5).bind fun bt308 => ((tenancylaw08_one.f 5).bind fun bt311 => ((lease_Meets.f k 1 bt308.1 bt308.2.1 bt308.2.2 2 bt311.1 bt311.2.1 bt311.2.2).bind fun t314 => (if t314 = true then (none) else ((tenancylaw08_one.f 5).bind fun bt315 => ((tenancylaw08_one.f 4).bind fun bt318 => ((lease_Compare.f k 1 bt315.1 bt315.2.1 bt315.2.2 2 bt318.1 bt318.2.1 bt318.2.2).bind fun t321 => (some (t321 == (-1)))))))))) else (none))))) else (none))))))) else (none)))) else (none)) else (none)) else (none)) else (none)) else (none)) else (none))))
theorem tenancylaw08_awake.mono : ∀ k, LeO (tenancylaw08_awake.f k ) (tenancylaw08_awake.f (k + 1) ) := by
  intro  k
  unfold tenancylaw08_awake.f
  repeat' first
      | (with_reducible exact lease_Compare.mono _ _ _ _ _ _ _ _ _)
      | (with_reducible exact lease_Decode.mono _ _)
      | (with_reducible exact lease_Meets.mono _ _ _ _ _ _ _ _ _)
      | (with_reducible exact lease_Right.mono _ _ _ _ _)
      | (with_reducible exact lease_Sound.mono _ _ _ _ _ _ _ _ _)
      | (with_reducible exact LeO.refl _)
      | (with_reducible exact LeO.none _)
      | (with_reducible refine LeO.ite ?_ ?_)
      | (with_reducible refine LeO.bind ?_ (fun _ => ?_))
      | exact lease_Compare.mono _ _ _ _ _ _ _ _ _
      | exact lease_Decode.mono _ _
      | exact lease_Meets.mono _ _ _ _ _ _ _ _ _
      | exact lease_Right.mono _ _ _ _ _
      | exact lease_Sound.mono _ _ _ _ _ _ _ _ _
      | exact LeO.none _
      | refine LeO.ite ?_ ?_
      | refine LeO.bind ?_ (fun _ => ?_)
set_option maxHeartbeats 8000000 in
set_option maxRecDepth 100000 in
theorem tenancylaw08_awake.calls (k : Nat)  (r : Bool) (w : World) (h : tenancylaw08_awake.f k  = some r) :
    Calls Try.prog 9 #[] w fun e w' => e = .returned (.bool r) ∧ Below w.heap.size w w' := by
  have hu29 := Try.underlying29
  have hu31 := Try.underlying31
  have HB := Aside0.mk (Below.refl w.heap.size w)
  have H : ((tenancylaw08_one.f 1).bind fun bt276 => ((lease_Encode.f (([(⟨true, (⟨1, (⟨(⟨bt276.1, bt276.2.1⟩ : S24), bt276.2.2⟩ : S26), 0, (⟨#[]⟩ : ByteArray), 0, 0⟩ : S29)⟩ : S31)] : List (S31)))).bind fun bt282 => ((lease_Decode.f k (⟨#[0, 1, 2, 1, 128, 0, 0, 0, 0, 0, 0, 0, 0, 0, 0, 0, 0, 0, 0, 0, 1]⟩ : ByteArray)).bind fun bt284 => (if bt282.1.toList = ([0, 1, 2, 1, 128, 0, 0, 0, 0, 0, 0, 0, 0, 0, 0, 0, 0, 0, 0, 0, 1] : List UInt8) then (if bt282.2 = 0 then (if bt284.2 = 0 then (if (bt284.1.length : Int) = 1 then (if 0 < (bt284.1.length : Int) then (if (rd_T31 bt284.1 0).f0 = true then ((tenancylaw08_one.f 5).bind fun bt289 => ((lease_Right.f k 1 bt289.1 bt289.2.1 bt289.2.2).bind fun t292 => (if t292 = true then ((tenancylaw08_one.f 5).bind fun bt293 => ((lease_Right.f k 4 bt293.1 bt293.2.1 bt293.2.2).bind fun t296 => (if t296 = true then (none) else ((tenancylaw08_one.f 5).bind fun bt297 => ((lease_Sound.f k 2 bt297.1 bt297.2.1 bt297.2.2 1 (⟨#[99]⟩ : ByteArray) 0 3).bind fun t300 => (if t300 = true then ((tenancylaw08_one.f 5).bind fun bt301 => ((tenancylaw08_one.f 5).bind fun bt304 => ((lease_Meets.f k 2 bt301.1 bt301.2.1 bt301.2.2 3 bt304.1 bt304.2.1 bt304.2.2).bind fun t307 => (if t307 = true then ((tenancylaw08_one.f 5).bind fun bt308 => ((tenancylaw08_one.f 5).bind fun bt311 => ((lease_Meets.f k 1 bt308.1 bt308.2.1 bt308.2.2 2 bt311.1 bt311.2.1 bt311.2.2).bind fun t314 => (if t314 = true then (none) else ((tenancylaw08_one.f 5).bind fun bt315 => ((tenancylaw08_one.f 4).bind fun bt318 => ((lease_Compare.f k 1 bt315.1 bt315.2.1 bt315.2.2 2 bt318.1 bt318.2.1 bt318.2.2).bind fun t321 => (some (t321 == (-1)))))))))) else (none))))) else (none))))))) else (none)))) else (none)) else (none)) else (none)) else (none)) else (none)) else (none))))) = some r := h
  clear h
  replace H := Option.bind_eq_some_iff.mp H
  obtain ⟨⟨t276, t277, t278⟩, A10, H⟩ := H
  replace H : ((lease_Encode.f (([(⟨true, (⟨1, (⟨(⟨t276, t277⟩ : S24), t278⟩ : S26), 0, (⟨#[]⟩ : ByteArray), 0, 0⟩ : S29)⟩ : S31)] : List (S31)))).bind fun bt282 => ((lease_Decode.f k (⟨#[0, 1, 2, 1, 128, 0, 0, 0, 0, 0, 0, 0, 0, 0, 0, 0, 0, 0, 0, 0, 1]⟩ : ByteArray)).bind fun bt284 => (if bt282.1.toList = ([0, 1, 2, 1, 128, 0, 0, 0, 0, 0, 0, 0, 0, 0, 0, 0, 0, 0, 0, 0, 1] : List UInt8) then (if bt282.2 = 0 then (if bt284.2 = 0 then (if (bt284.1.length : Int) = 1 then (if 0 < (bt284.1.length : Int) then (if (rd_T31 bt284.1 0).f0 = true then ((tenancylaw08_one.f 5).bind fun bt289 => ((lease_Right.f k 1 bt289.1 bt289.2.1 bt289.2.2).bind fun t292 => (if t292 = true then ((tenancylaw08_one.f 5).bind fun bt293 => ((lease_Right.f k 4 bt293.1 bt293.2.1 bt293.2.2).bind fun t296 => (if t296 = true then (none) else ((tenancylaw08_one.f 5).bind fun bt297 => ((lease_Sound.f k 2 bt297.1 bt297.2.1 bt297.2.2 1 (⟨#[99]⟩ : ByteArray) 0 3).bind fun t300 => (if t300 = true then ((tenancylaw08_one.f 5).bind fun bt301 => ((tenancylaw08_one.f 5).bind fun bt304 => ((lease_Meets.f k 2 bt301.1 bt301.2.1 bt301.2.2 3 bt304.1 bt304.2.1 bt304.2.2).bind fun t307 => (if t307 = true then ((tenancylaw08_one.f 5).bind fun bt308 => ((tenancylaw08_one.f 5).bind fun bt311 => ((lease_Meets.f k 1 bt308.1 bt308.2.1 bt308.2.2 2 bt311.1 bt311.2.1 bt311.2.2).bind fun t314 => (if t314 = true then (none) else ((tenancylaw08_one.f 5).bind fun bt315 => ((tenancylaw08_one.f 4).bind fun bt318 => ((lease_Compare.f k 1 bt315.1 bt315.2.1 bt315.2.2 2 bt318.1 bt318.2.1 bt318.2.2).bind fun t321 => (some (t321 == (-1)))))))))) else (none))))) else (none))))))) else (none)))) else (none)) else (none)) else (none)) else (none)) else (none)) else (none)))) = some r := H
  have A1 := Aside0.mk A10
  clear A10
  obtain ⟨y279, hy279⟩ : ∃ y_ : List (S31), y_ = (([(⟨true, (⟨1, (⟨(⟨t276, t277⟩ : S24), t278⟩ : S26), 0, (⟨#[]⟩ : ByteArray), 0, 0⟩ : S29)⟩ : S31)] : List (S31))) := ⟨_, rfl⟩
  replace H : ((lease_Encode.f y279).bind fun bt282 => ((lease_Decode.f k (⟨#[0, 1, 2, 1, 128, 0, 0, 0, 0, 0, 0, 0, 0, 0, 0, 0, 0, 0, 0, 0, 1]⟩ : ByteArray)).bind fun bt284 => (if bt282.1.toList = ([0, 1, 2, 1, 128, 0, 0, 0, 0, 0, 0, 0, 0, 0, 0, 0, 0, 0, 0, 0, 1] : List UInt8) then (if bt282.2 = 0 then (if bt284.2 = 0 then (if (bt284.1.length : Int) = 1 then (if 0 < (bt284.1.length : Int) then (if (rd_T31 bt284.1 0).f0 = true then ((tenancylaw08_one.f 5).bind fun bt289 => ((lease_Right.f k 1 bt289.1 bt289.2.1 bt289.2.2).bind fun t292 => (if t292 = true then ((tenancylaw08_one.f 5).bind fun bt293 => ((lease_Right.f k 4 bt293.1 bt293.2.1 bt293.2.2).bind fun t296 => (if t296 = true then (none) else ((tenancylaw08_one.f 5).bind fun bt297 => ((lease_Sound.f k 2 bt297.1 bt297.2.1 bt297.2.2 1 (⟨#[99]⟩ : ByteArray) 0 3).bind fun t300 => (if t300 = true then ((tenancylaw08_one.f 5).bind fun bt301 => ((tenancylaw08_one.f 5).bind fun bt304 => ((lease_Meets.f k 2 bt301.1 bt301.2.1 bt301.2.2 3 bt304.1 bt304.2.1 bt304.2.2).bind fun t307 => (if t307 = true then ((tenancylaw08_one.f 5).bind fun bt308 => ((tenancylaw08_one.f 5).bind fun bt311 => ((lease_Meets.f k 1 bt308.1 bt308.2.1 bt308.2.2 2 bt311.1 bt311.2.1 bt311.2.2).bind fun t314 => (if t314 = true then (none) else ((tenancylaw08_one.f 5).bind fun bt315 => ((tenancylaw08_one.f 4).bind fun bt318 => ((lease_Compare.f k 1 bt315.1 bt315.2.1 bt315.2.2 2 bt318.1 bt318.2.1 bt318.2.2).bind fun t321 => (some (t321 == (-1)))))))))) else (none))))) else (none))))))) else (none)))) else (none)) else (none)) else (none)) else (none)) else (none)) else (none)))) = some r := by first | (rw [hy279]; with_reducible exact H)
  have Ny279 := Aside0.mk hy279
  clear hy279
  replace H := Option.bind_eq_some_iff.mp H
  obtain ⟨⟨t282, t283⟩, A20, H⟩ := H
  replace H : ((lease_Decode.f k (⟨#[0, 1, 2, 1, 128, 0, 0, 0, 0, 0, 0, 0, 0, 0, 0, 0, 0, 0, 0, 0, 1]⟩ : ByteArray)).bind fun bt284 => (if t282.toList = ([0, 1, 2, 1, 128, 0, 0, 0, 0, 0, 0, 0, 0, 0, 0, 0, 0, 0, 0, 0, 1] : List UInt8) then (if t283 = 0 then (if bt284.2 = 0 then (if (bt284.1.length : Int) = 1 then (if 0 < (bt284.1.length : Int) then (if (rd_T31 bt284.1 0).f0 = true then ((tenancylaw08_one.f 5).bind fun bt289 => ((lease_Right.f k 1 bt289.1 bt289.2.1 bt289.2.2).bind fun t292 => (if t292 = true then ((tenancylaw08_one.f 5).bind fun bt293 => ((lease_Right.f k 4 bt293.1 bt293.2.1 bt293.2.2).bind fun t296 => (if t296 = true then (none) else ((tenancylaw08_one.f 5).bind fun bt297 => ((lease_Sound.f k 2 bt297.1 bt297.2.1 bt297.2.2 1 (⟨#[99]⟩ : ByteArray) 0 3).bind fun t300 => (if t300 = true then ((tenancylaw08_one.f 5).bind fun bt301 => ((tenancylaw08_one.f 5).bind fun bt304 => ((lease_Meets.f k 2 bt301.1 bt301.2.1 bt301.2.2 3 bt304.1 bt304.2.1 bt304.2.2).bind fun t307 => (if t307 = true then ((tenancylaw08_one.f 5).bind fun bt308 => ((tenancylaw08_one.f 5).bind fun bt311 => ((lease_Meets.f k 1 bt308.1 bt308.2.1 bt308.2.2 2 bt311.1 bt311.2.1 bt311.2.2).bind fun t314 => (if t314 = true then (none) else ((tenancylaw08_one.f 5).bind fun bt315 => ((tenancylaw08_one.f 4).bind fun bt318 => ((lease_Compare.f k 1 bt315.1 bt315.2.1 bt315.2.2 2 bt318.1 bt318.2.1 bt318.2.2).bind fun t321 => (some (t321 == (-1)))))))))) else (none))))) else (none))))))) else (none)))) else (none)) else (none)) else (none)) else (none)) else (none)) else (none))) = some r := H
  have A2 := Aside0.mk A20
  clear A20
  replace H := Option.bind_eq_some_iff.mp H
  obtain ⟨⟨t284, t285⟩, A30, H⟩ := H
  replace H : (if t282.toList = ([0, 1, 2, 1, 128, 0, 0, 0, 0, 0, 0, 0, 0, 0, 0, 0, 0, 0, 0, 0, 1] : List UInt8) then (if t283 = 0 then (if t285 = 0 then (if (t284.length : Int) = 1 then (if 0 < (t284.length : Int) then (if (rd_T31 t284 0).f0 = true then ((tenancylaw08_one.f 5).bind fun bt289 => ((lease_Right.f k 1 bt289.1 bt289.2.1 bt289.2.2).bind fun t292 => (if t292 = true then ((tenancylaw08_one.f 5).bind fun bt293 => ((lease_Right.f k 4 bt293.1 bt293.2.1 bt293.2.2).bind fun t296 => (if t296 = true then (none) else ((tenancylaw08_one.f 5).bind fun bt297 => ((lease_Sound.f k 2 bt297.1 bt297.2.1 bt297.2.2 1 (⟨#[99]⟩ : ByteArray) 0 3).bind fun t300 => (if t300 = true then ((tenancylaw08_one.f 5).bind fun bt301 => ((tenancylaw08_one.f 5).bind fun bt304 => ((lease_Meets.f k 2 bt301.1 bt301.2.1 bt301.2.2 3 bt304.1 bt304.2.1 bt304.2.2).bind fun t307 => (if t307 = true then ((tenancylaw08_one.f 5).bind fun bt308 => ((tenancylaw08_one.f 5).bind fun bt311 => ((lease_Meets.f k 1 bt308.1 bt308.2.1 bt308.2.2 2 bt311.1 bt311.2.1 bt311.2.2).bind fun t314 => (if t314 = true then (none) else ((tenancylaw08_one.f 5).bind fun bt315 => ((tenancylaw08_one.f 4).bind fun bt318 => ((lease_Compare.f k 1 bt315.1 bt315.2.1 bt315.2.2 2 bt318.1 bt318.2.1 bt318.2.2).bind fun t321 => (some (t321 == (-1)))))))))) else (none))))) else (none))))))) else (none)))) else (none)) else (none)) else (none)) else (none)) else (none)) else (none)) = some r := H
  have A3 := Aside0.mk A30
  clear A30
  by_cases c4 : t282.toList = ([0, 1, 2, 1, 128, 0, 0, 0, 0, 0, 0, 0, 0, 0, 0, 0, 0, 0, 0, 0, 1] : List UInt8)
  · rw [if_pos c4] at H
    have c4b0 : (t282.toList == ([0, 1, 2, 1, 128, 0, 0, 0, 0, 0, 0, 0, 0, 0, 0, 0, 0, 0, 0, 0, 1] : List UInt8)) = true := beq_iff_eq.mpr c4
    have c4b1 : (t282.toList != ([0, 1, 2, 1, 128, 0, 0, 0, 0, 0, 0, 0, 0, 0, 0, 0, 0, 0, 0, 0, 1] : List UInt8)) = false := bne_eq_false_iff_eq.mpr c4
    clear c4
    by_cases c5 : t283 = 0
    · rw [if_pos c5] at H
      have c5b0 : (t283 == 0) = true := beq_iff_eq.mpr c5
      have c5b1 : (t283 != 0) = false := bne_eq_false_iff_eq.mpr c5
      clear c5
      by_cases c6 : t285 = 0
      · rw [if_pos c6] at H
        have c6b0 : (t285 == 0) = true := beq_iff_eq.mpr c6
        have c6b1 : (t285 != 0) = false := bne_eq_false_iff_eq.mpr c6
        clear c6
        by_cases c7 : (t284.length : Int) = 1
        · rw [if_pos c7] at H
          have c7b0 : ((t284.length : Int) == 1) = true := beq_iff_eq.mpr c7
          have c7b1 : ((t284.length : Int) != 1) = false := bne_eq_false_iff_eq.mpr c7
          clear c7
          by_cases c8 : 0 < (t284.length : Int)
          · rw [if_pos c8] at H
            have c8b0 : decide (0 < (t284.length : Int)) = true := decide_eq_true c8
            have c8b1 : decide (0 < t284.length) = true := decide_eq_true (by omega)
            clear c8
            obtain ⟨bq9, hbq9⟩ : ∃ b_ : Bool, b_ = ((rd_T31 t284 0).f0) := ⟨_, rfl⟩
            replace H : (if bq9 = true then ((tenancylaw08_one.f 5).bind fun bt289 => ((lease_Right.f k 1 bt289.1 bt289.2.1 bt289.2.2).bind fun t292 => (if t292 = true then ((tenancylaw08_one.f 5).bind fun bt293 => ((lease_Right.f k 4 bt293.1 bt293.2.1 bt293.2.2).bind fun t296 => (if t296 = true then (none) else ((tenancylaw08_one.f 5).bind fun bt297 => ((lease_Sound.f k 2 bt297.1 bt297.2.1 bt297.2.2 1 (⟨#[99]⟩ : ByteArray) 0 3).bind fun t300 => (if t300 = true then ((tenancylaw08_one.f 5).bind fun bt301 => ((tenancylaw08_one.f 5).bind fun bt304 => ((lease_Meets.f k 2 bt301.1 bt301.2.1 bt301.2.2 3 bt304.1 bt304.2.1 bt304.2.2).bind fun t307 => (if t307 = true then ((tenancylaw08_one.f 5).bind fun bt308 => ((tenancylaw08_one.f 5).bind fun bt311 => ((lease_Meets.f k 1 bt308.1 bt308.2.1 bt308.2.2 2 bt311.1 bt311.2.1 bt311.2.2).bind fun t314 => (if t314 = true then (none) else ((tenancylaw08_one.f 5).bind fun bt315 => ((tenancylaw08_one.f 4).bind fun bt318 => ((lease_Compare.f k 1 bt315.1 bt315.2.1 bt315.2.2 2 bt318.1 bt318.2.1 bt318.2.2).bind fun t321 => (some (t321 == (-1)))))))))) else (none))))) else (none))))))) else (none)))) else (none)) = some r := by rw [← hbq9] at H; exact H
            have Nbq9 := Aside0.mk hbq9
            clear hbq9
            by_cases c10 : bq9 = true
            · subst c10
              have H1 : ((tenancylaw08_one.f 5).bind fun bt289 => ((lease_Right.f k 1 bt289.1 bt289.2.1 bt289.2.2).bind fun t292 => (if t292 = true then ((tenancylaw08_one.f 5).bind fun bt293 => ((lease_Right.f k 4 bt293.1 bt293.2.1 bt293.2.2).bind fun t296 => (if t296 = true then (none) else ((tenancylaw08_one.f 5).bind fun bt297 => ((lease_Sound.f k 2 bt297.1 bt297.2.1 bt297.2.2 1 (⟨#[99]⟩ : ByteArray) 0 3).bind fun t300 => (if t300 = true then ((tenancylaw08_one.f 5).bind fun bt301 => ((tenancylaw08_one.f 5).bind fun bt304 => ((lease_Meets.f k 2 bt301.1 bt301.2.1 bt301.2.2 3 bt304.1 bt304.2.1 bt304.2.2).bind fun t307 => (if t307 = true then ((tenancylaw08_one.f 5).bind fun bt308 => ((tenancylaw08_one.f 5).bind fun bt311 => ((lease_Meets.f k 1 bt308.1 bt308.2.1 bt308.2.2 2 bt311.1 bt311.2.1 bt311.2.2).bind fun t314 => (if t314 = true then (none) else ((tenancylaw08_one.f 5).bind fun bt315 => ((tenancylaw08_one.f 4).bind fun bt318 => ((lease_Compare.f k 1 bt315.1 bt315.2.1 bt315.2.2 2 bt318.1 bt318.2.1 bt318.2.2).bind fun t321 => (some (t321 == (-1)))))))))) else (none))))) else (none))))))) else (none)))) = some r := by rw [if_pos rfl] at H; exact H
              clear H
              have H := H1
              clear H1
              replace H := Option.bind_eq_some_iff.mp H
              obtain ⟨⟨t289, t290, t291⟩, A110, H⟩ := H
              replace H : ((lease_Right.f k 1 t289 t290 t291).bind fun t292 => (if t292 = true then ((tenancylaw08_one.f 5).bind fun bt293 => ((lease_Right.f k 4 bt293.1 bt293.2.1 bt293.2.2).bind fun t296 => (if t296 = true then (none) else ((tenancylaw08_one.f 5).bind fun bt297 => ((lease_Sound.f k 2 bt297.1 bt297.2.1 bt297.2.2 1 (⟨#[99]⟩ : ByteArray) 0 3).bind fun t300 => (if t300 = true then ((tenancylaw08_one.f 5).bind fun bt301 => ((tenancylaw08_one.f 5).bind fun bt304 => ((lease_Meets.f k 2 bt301.1 bt301.2.1 bt301.2.2 3 bt304.1 bt304.2.1 bt304.2.2).bind fun t307 => (if t307 = true then ((tenancylaw08_one.f 5).bind fun bt308 => ((tenancylaw08_one.f 5).bind fun bt311 => ((lease_Meets.f k 1 bt308.1 bt308.2.1 bt308.2.2 2 bt311.1 bt311.2.1 bt311.2.2).bind fun t314 => (if t314 = true then (none) else ((tenancylaw08_one.f 5).bind fun bt315 => ((tenancylaw08_one.f 4).bind fun bt318 => ((lease_Compare.f k 1 bt315.1 bt315.2.1 bt315.2.2 2 bt318.1 bt318.2.1 bt318.2.2).bind fun t321 => (some (t321 == (-1)))))))))) else (none))))) else (none))))))) else (none))) = some r := H
              have A11 := Aside0.mk A110
              clear A110
              replace H := Option.bind_eq_some_iff.mp H
              obtain ⟨t292, A120, H⟩ := H
              replace H : (if t292 = true then ((tenancylaw08_one.f 5).bind fun bt293 => ((lease_Right.f k 4 bt293.1 bt293.2.1 bt293.2.2).bind fun t296 => (if t296 = true then (none) else ((tenancylaw08_one.f 5).bind fun bt297 => ((lease_Sound.f k 2 bt297.1 bt297.2.1 bt297.2.2 1 (⟨#[99]⟩ : ByteArray) 0 3).bind fun t300 => (if t300 = true then ((tenancylaw08_one.f 5).bind fun bt301 => ((tenancylaw08_one.f 5).bind fun bt304 => ((lease_Meets.f k 2 bt301.1 bt301.2.1 bt301.2.2 3 bt304.1 bt304.2.1 bt304.2.2).bind fun t307 => (if t307 = true then ((tenancylaw08_one.f 5).bind fun bt308 => ((tenancylaw08_one.f 5).bind fun bt311 => ((lease_Meets.f k 1 bt308.1 bt308.2.1 bt308.2.2 2 bt311.1 bt311.2.1 bt311.2.2).bind fun t314 => (if t314 = true then (none) else ((tenancylaw08_one.f 5).bind fun bt315 => ((tenancylaw08_one.f 4).bind fun bt318 => ((lease_Compare.f k 1 bt315.1 bt315.2.1 bt315.2.2 2 bt318.1 bt318.2.1 bt318.2.2).bind fun t321 => (some (t321 == (-1)))))))))) else (none))))) else (none))))))) else (none)) = some r := H
              have A12 := Aside0.mk A120
              clear A120
              by_cases c13 : t292 = true
              · subst c13
                have H1 : ((tenancylaw08_one.f 5).bind fun bt293 => ((lease_Right.f k 4 bt293.1 bt293.2.1 bt293.2.2).bind fun t296 => (if t296 = true then (none) else ((tenancylaw08_one.f 5).bind fun bt297 => ((lease_Sound.f k 2 bt297.1 bt297.2.1 bt297.2.2 1 (⟨#[99]⟩ : ByteArray) 0 3).bind fun t300 => (if t300 = true then ((tenancylaw08_one.f 5).bind fun bt301 => ((tenancylaw08_one.f 5).bind fun bt304 => ((lease_Meets.f k 2 bt301.1 bt301.2.1 bt301.2.2 3 bt304.1 bt304.2.1 bt304.2.2).bind fun t307 => (if t307 = true then ((tenancylaw08_one.f 5).bind fun bt308 => ((tenancylaw08_one.f 5).bind fun bt311 => ((lease_Meets.f k 1 bt308.1 bt308.2.1 bt308.2.2 2 bt311.1 bt311.2.1 bt311.2.2).bind fun t314 => (if t314 = true then (none) else ((tenancylaw08_one.f 5).bind fun bt315 => ((tenancylaw08_one.f 4).bind fun bt318 => ((lease_Compare.f k 1 bt315.1 bt315.2.1 bt315.2.2 2 bt318.1 bt318.2.1 bt318.2.2).bind fun t321 => (some (t321 == (-1)))))))))) else (none))))) else (none))))))) = some r := by rw [if_pos rfl] at H; exact H
                clear H
                have H := H1
                clear H1
                replace H := Option.bind_eq_some_iff.mp H
                obtain ⟨⟨t293, t294, t295⟩, A140, H⟩ := H
                replace H : ((lease_Right.f k 4 t293 t294 t295).bind fun t296 => (if t296 = true then (none) else ((tenancylaw08_one.f 5).bind fun bt297 => ((lease_Sound.f k 2 bt297.1 bt297.2.1 bt297.2.2 1 (⟨#[99]⟩ : ByteArray) 0 3).bind fun t300 => (if t300 = true then ((tenancylaw08_one.f 5).bind fun bt301 => ((tenancylaw08_one.f 5).bind fun bt304 => ((lease_Meets.f k 2 bt301.1 bt301.2.1 bt301.2.2 3 bt304.1 bt304.2.1 bt304.2.2).bind fun t307 => (if t307 = true then ((tenancylaw08_one.f 5).bind fun bt308 => ((tenancylaw08_one.f 5).bind fun bt311 => ((lease_Meets.f k 1 bt308.1 bt308.2.1 bt308.2.2 2 bt311.1 bt311.2.1 bt311.2.2).bind fun t314 => (if t314 = true then (none) else ((tenancylaw08_one.f 5).bind fun bt315 => ((tenancylaw08_one.f 4).bind fun bt318 => ((lease_Compare.f k 1 bt315.1 bt315.2.1 bt315.2.2 2 bt318.1 bt318.2.1 bt318.2.2).bind fun t321 => (some (t321 == (-1)))))))))) else (none))))) else (none)))))) = some r := H
                have A14 := Aside0.mk A140
                have ed_ := A11.out.symm.trans A14.out
                simp only [Option.some.injEq, Prod.mk.injEq] at ed_
                obtain ⟨rfl, rfl, rfl⟩ := ed_
                clear A140
                replace H := Option.bind_eq_some_iff.mp H
                obtain ⟨t296, A150, H⟩ := H
                replace H : (if t296 = true then (none) else ((tenancylaw08_one.f 5).bind fun bt297 => ((lease_Sound.f k 2 bt297.1 bt297.2.1 bt297.2.2 1 (⟨#[99]⟩ : ByteArray) 0 3).bind fun t300 => (if t300 = true then ((tenancylaw08_one.f 5).bind fun bt301 => ((tenancylaw08_one.f 5).bind fun bt304 => ((lease_Meets.f k 2 bt301.1 bt301.2.1 bt301.2.2 3 bt304.1 bt304.2.1 bt304.2.2).bind fun t307 => (if t307 = true then ((tenancylaw08_one.f 5).bind fun bt308 => ((tenancylaw08_one.f 5).bind fun bt311 => ((lease_Meets.f k 1 bt308.1 bt308.2.1 bt308.2.2 2 bt311.1 bt311.2.1 bt311.2.2).bind fun t314 => (if t314 = true then (none) else ((tenancylaw08_one.f 5).bind fun bt315 => ((tenancylaw08_one.f 4).bind fun bt318 => ((lease_Compare.f k 1 bt315.1 bt315.2.1 bt315.2.2 2 bt318.1 bt318.2.1 bt318.2.2).bind fun t321 => (some (t321 == (-1)))))))))) else (none))))) else (none))))) = some r := H
                have A15 := Aside0.mk A150
                clear A150
                by_cases c16 : t296 = true
                · subst c16
                  have H1 : (none) = some r := by rw [if_pos rfl] at H; exact H
                  clear H
                  have H := H1
                  clear H1
                  exact absurd H (by simp)
                · replace c16 := Bool.eq_false_iff.mpr c16
                  subst c16
                  have H1 : ((tenancylaw08_one.f 5).bind fun bt297 => ((lease_Sound.f k 2 bt297.1 bt297.2.1 bt297.2.2 1 (⟨#[99]⟩ : ByteArray) 0 3).bind fun t300 => (if t300 = true then ((tenancylaw08_one.f 5).bind fun bt301 => ((tenancylaw08_one.f 5).bind fun bt304 => ((lease_Meets.f k 2 bt301.1 bt301.2.1 bt301.2.2 3 bt304.1 bt304.2.1 bt304.2.2).bind fun t307 => (if t307 = true then ((tenancylaw08_one.f 5).bind fun bt308 => ((tenancylaw08_one.f 5).bind fun bt311 => ((lease_Meets.f k 1 bt308.1 bt308.2.1 bt308.2.2 2 bt311.1 bt311.2.1 bt311.2.2).bind fun t314 => (if t314 = true then (none) else ((tenancylaw08_one.f 5).bind fun bt315 => ((tenancylaw08_one.f 4).bind fun bt318 => ((lease_Compare.f k 1 bt315.1 bt315.2.1 bt315.2.2 2 bt318.1 bt318.2.1 bt318.2.2).bind fun t321 => (some (t321 == (-1)))))))))) else (none))))) else (none)))) = some r := by rw [if_neg (show ¬ (false = true) by decide)] at H; exact H
                  clear H
                  have H := H1
                  clear H1
                  replace H := Option.bind_eq_some_iff.mp H
                  obtain ⟨⟨t297, t298, t299⟩, A170, H⟩ := H
                  replace H : ((lease_Sound.f k 2 t297 t298 t299 1 (⟨#[99]⟩ : ByteArray) 0 3).bind fun t300 => (if t300 = true then ((tenancylaw08_one.f 5).bind fun bt301 => ((tenancylaw08_one.f 5).bind fun bt304 => ((lease_Meets.f k 2 bt301.1 bt301.2.1 bt301.2.2 3 bt304.1 bt304.2.1 bt304.2.2).bind fun t307 => (if t307 = true then ((tenancylaw08_one.f 5).bind fun bt308 => ((tenancylaw08_one.f 5).bind fun bt311 => ((lease_Meets.f k 1 bt308.1 bt308.2.1 bt308.2.2 2 bt311.1 bt311.2.1 bt311.2.2).bind fun t314 => (if t314 = true then (none) else ((tenancylaw08_one.f 5).bind fun bt315 => ((tenancylaw08_one.f 4).bind fun bt318 => ((lease_Compare.f k 1 bt315.1 bt315.2.1 bt315.2.2 2 bt318.1 bt318.2.1 bt318.2.2).bind fun t321 => (some (t321 == (-1)))))))))) else (none))))) else (none))) = some r := H
                  have A17 := Aside0.mk A170
                  have ed_ := A11.out.symm.trans A17.out
                  simp only [Option.some.injEq, Prod.mk.injEq] at ed_
                  obtain ⟨rfl, rfl, rfl⟩ := ed_
                  clear A170
                  replace H := Option.bind_eq_some_iff.mp H
                  obtain ⟨t300, A180, H⟩ := H
                  replace H : (if t300 = true then ((tenancylaw08_one.f 5).bind fun bt301 => ((tenancylaw08_one.f 5).bind fun bt304 => ((lease_Meets.f k 2 bt301.1 bt301.2.1 bt301.2.2 3 bt304.1 bt304.2.1 bt304.2.2).bind fun t307 => (if t307 = true then ((tenancylaw08_one.f 5).bind fun bt308 => ((tenancylaw08_one.f 5).bind fun bt311 => ((lease_Meets.f k 1 bt308.1 bt308.2.1 bt308.2.2 2 bt311.1 bt311.2.1 bt311.2.2).bind fun t314 => (if t314 = true then (none) else ((tenancylaw08_one.f 5).bind fun bt315 => ((tenancylaw08_one.f 4).bind fun bt318 => ((lease_Compare.f k 1 bt315.1 bt315.2.1 bt315.2.2 2 bt318.1 bt318.2.1 bt318.2.2).bind fun t321 => (some (t321 == (-1)))))))))) else (none))))) else (none)) = some r := H
                  have A18 := Aside0.mk A180
                  clear A180
                  by_cases c19 : t300 = true
                  · subst c19
                    have H1 : ((tenancylaw08_one.f 5).bind fun bt301 => ((tenancylaw08_one.f 5).bind fun bt304 => ((lease_Meets.f k 2 bt301.1 bt301.2.1 bt301.2.2 3 bt304.1 bt304.2.1 bt304.2.2).bind fun t307 => (if t307 = true then ((tenancylaw08_one.f 5).bind fun bt308 => ((tenancylaw08_one.f 5).bind fun bt311 => ((lease_Meets.f k 1 bt308.1 bt308.2.1 bt308.2.2 2 bt311.1 bt311.2.1 bt311.2.2).bind fun t314 => (if t314 = true then (none) else ((tenancylaw08_one.f 5).bind fun bt315 => ((tenancylaw08_one.f 4).bind fun bt318 => ((lease_Compare.f k 1 bt315.1 bt315.2.1 bt315.2.2 2 bt318.1 bt318.2.1 bt318.2.2).bind fun t321 => (some (t321 == (-1)))))))))) else (none))))) = some r := by rw [if_pos rfl] at H; exact H
                    clear H
                    have H := H1
                    clear H1
                    replace H := Option.bind_eq_some_iff.mp H
                    obtain ⟨⟨t301, t302, t303⟩, A200, H⟩ := H
                    replace H : ((tenancylaw08_one.f 5).bind fun bt304 => ((lease_Meets.f k 2 t301 t302 t303 3 bt304.1 bt304.2.1 bt304.2.2).bind fun t307 => (if t307 = true then ((tenancylaw08_one.f 5).bind fun bt308 => ((tenancylaw08_one.f 5).bind fun bt311 => ((lease_Meets.f k 1 bt308.1 bt308.2.1 bt308.2.2 2 bt311.1 bt311.2.1 bt311.2.2).bind fun t314 => (if t314 = true then (none) else ((tenancylaw08_one.f 5).bind fun bt315 => ((tenancylaw08_one.f 4).bind fun bt318 => ((lease_Compare.f k 1 bt315.1 bt315.2.1 bt315.2.2 2 bt318.1 bt318.2.1 bt318.2.2).bind fun t321 => (some (t321 == (-1)))))))))) else (none)))) = some r := H
                    have A20 := Aside0.mk A200
                    have ed_ := A11.out.symm.trans A20.out
                    simp only [Option.some.injEq, Prod.mk.injEq] at ed_
                    obtain ⟨rfl, rfl, rfl⟩ := ed_
                    clear A200
                    replace H := Option.bind_eq_some_iff.mp H
                    obtain ⟨⟨t304, t305, t306⟩, A210, H⟩ := H
                    replace H : ((lease_Meets.f k 2 t289 t290 t291 3 t304 t305 t306).bind fun t307 => (if t307 = true then ((tenancylaw08_one.f 5).bind fun bt308 => ((tenancylaw08_one.f 5).bind fun bt311 => ((lease_Meets.f k 1 bt308.1 bt308.2.1 bt308.2.2 2 bt311.1 bt311.2.1 bt311.2.2).bind fun t314 => (if t314 = true then (none) else ((tenancylaw08_one.f 5).bind fun bt315 => ((tenancylaw08_one.f 4).bind fun bt318 => ((lease_Compare.f k 1 bt315.1 bt315.2.1 bt315.2.2 2 bt318.1 bt318.2.1 bt318.2.2).bind fun t321 => (some (t321 == (-1)))))))))) else (none))) = some r := H
                    have A21 := Aside0.mk A210
                    have ed_ := A11.out.symm.trans A21.out
                    simp only [Option.some.injEq, Prod.mk.injEq] at ed_
                    obtain ⟨rfl, rfl, rfl⟩ := ed_
                    clear A210
                    replace H := Option.bind_eq_some_iff.mp H
                    obtain ⟨t307, A220, H⟩ := H
                    replace H : (if t307 = true then ((tenancylaw08_one.f 5).bind fun bt308 => ((tenancylaw08_one.f 5).bind fun bt311 => ((lease_Meets.f k 1 bt308.1 bt308.2.1 bt308.2.2 2 bt311.1 bt311.2.1 bt311.2.2).bind fun t314 => (if t314 = true then (none) else ((tenancylaw08_one.f 5).bind fun bt315 => ((tenancylaw08_one.f 4).bind fun bt318 => ((lease_Compare.f k 1 bt315.1 bt315.2.1 bt315.2.2 2 bt318.1 bt318.2.1 bt318.2.2).bind fun t321 => (some (t321 == (-1)))))))))) else (none)) = some r := H
                    have A22 := Aside0.mk A220
                    clear A220
                    by_cases c23 : t307 = true
                    · subst c23
                      have H1 : ((tenancylaw08_one.f 5).bind fun bt308 => ((tenancylaw08_one.f 5).bind fun bt311 => ((lease_Meets.f k 1 bt308.1 bt308.2.1 bt308.2.2 2 bt311.1 bt311.2.1 bt311.2.2).bind fun t314 => (if t314 = true then (none) else ((tenancylaw08_one.f 5).bind fun bt315 => ((tenancylaw08_one.f 4).bind fun bt318 => ((lease_Compare.f k 1 bt315.1 bt315.2.1 bt315.2.2 2 bt318.1 bt318.2.1 bt318.2.2).bind fun t321 => (some (t321 == (-1)))))))))) = some r := by rw [if_pos rfl] at H; exact H
                      clear H
                      have H := H1
                      clear H1
                      replace H := Option.bind_eq_some_iff.mp H
                      obtain ⟨⟨t308, t309, t310⟩, A240, H⟩ := H
                      replace H : ((tenancylaw08_one.f 5).bind fun bt311 => ((lease_Meets.f k 1 t308 t309 t310 2 bt311.1 bt311.2.1 bt311.2.2).bind fun t314 => (if t314 = true then (none) else ((tenancylaw08_one.f 5).bind fun bt315 => ((tenancylaw08_one.f 4).bind fun bt318 => ((lease_Compare.f k 1 bt315.1 bt315.2.1 bt315.2.2 2 bt318.1 bt318.2.1 bt318.2.2).bind fun t321 => (some (t321 == (-1))))))))) = some r := H
                      have A24 := Aside0.mk A240
                      have ed_ := A11.out.symm.trans A24.out
                      simp only [Option.some.injEq, Prod.mk.injEq] at ed_
                      obtain ⟨rfl, rfl, rfl⟩ := ed_
                      clear A240
                      replace H := Option.bind_eq_some_iff.mp H
                      obtain ⟨⟨t311, t312, t313⟩, A250, H⟩ := H
                      replace H : ((lease_Meets.f k 1 t289 t290 t291 2 t311 t312 t313).bind fun t314 => (if t314 = true then (none) else ((tenancylaw08_one.f 5).bind fun bt315 => ((tenancylaw08_one.f 4).bind fun bt318 => ((lease_Compare.f k 1 bt315.1 bt315.2.1 bt315.2.2 2 bt318.1 bt318.2.1 bt318.2.2).bind fun t321 => (some (t321 == (-1)))))))) = some r := H
                      have A25 := Aside0.mk A250
                      have ed_ := A11.out.symm.trans A25.out
                      simp only [Option.some.injEq, Prod.mk.injEq] at ed_
                      obtain ⟨rfl, rfl, rfl⟩ := ed_
                      clear A250
                      replace H := Option.bind_eq_some_iff.mp H
                      obtain ⟨t314, A260, H⟩ := H
                      replace H : (if t314 = true then (none) else ((tenancylaw08_one.f 5).bind fun bt315 => ((tenancylaw08_one.f 4).bind fun bt318 => ((lease_Compare.f k 1 bt315.1 bt315.2.1 bt315.2.2 2 bt318.1 bt318.2.1 bt318.2.2).bind fun t321 => (some (t321 == (-1))))))) = some r := H
                      have A26 := Aside0.mk A260
                      clear A260
                      by_cases c27 : t314 = true
                      · subst c27
                        have H1 : (none) = some r := by rw [if_pos rfl] at H; exact H
                        clear H
                        have H := H1
                        clear H1
                        exact absurd H (by simp)
                      · replace c27 := Bool.eq_false_iff.mpr c27
                        subst c27
                        have H1 : ((tenancylaw08_one.f 5).bind fun bt315 => ((tenancylaw08_one.f 4).bind fun bt318 => ((lease_Compare.f k 1 bt315.1 bt315.2.1 bt315.2.2 2 bt318.1 bt318.2.1 bt318.2.2).bind fun t321 => (some (t321 == (-1)))))) = some r := by rw [if_neg (show ¬ (false = true) by decide)] at H; exact H
                        clear H
                        have H := H1
                        clear H1
                        replace H := Option.bind_eq_some_iff.mp H
                        obtain ⟨⟨t315, t316, t317⟩, A280, H⟩ := H
                        replace H : ((tenancylaw08_one.f 4).bind fun bt318 => ((lease_Compare.f k 1 t315 t316 t317 2 bt318.1 bt318.2.1 bt318.2.2).bind fun t321 => (some (t321 == (-1))))) = some r := H
                        have A28 := Aside0.mk A280
                        have ed_ := A11.out.symm.trans A28.out
                        simp only [Option.some.injEq, Prod.mk.injEq] at ed_
                        obtain ⟨rfl, rfl, rfl⟩ := ed_
                        clear A280
                        replace H := Option.bind_eq_some_iff.mp H
                        obtain ⟨⟨t318, t319, t320⟩, A290, H⟩ := H
                        replace H : ((lease_Compare.f k 1 t289 t290 t291 2 t318 t319 t320).bind fun t321 => (some (t321 == (-1)))) = some r := H
                        have A29 := Aside0.mk A290
                        clear A290
                        replace H := Option.bind_eq_some_iff.mp H
                        obtain ⟨t321, A300, H⟩ := H
                        replace H : (some (t321 == (-1))) = some r := H
                        have A30 := Aside0.mk A300
                        clear A300
                        obtain rfl := Option.some.inj H
                        go_enter Try.func9, Try.ntmps9
                        go_wp2_with (first | ((with_reducible refine gate_callee (f := 26) rfl ?_); refine goesL_ (some 6) rfl rfl Try.func26 (by kernel_rfl) rfl #[.int .u64 1] rfl (by (try simp only [List.map_toArray, List.map_cons, List.map_nil]); first | rfl) ?_; (with_reducible refine (tenancylaw08_one.calls 1 t276 t277 t278 _ A1.out).mono ?_); rintro e w31 ⟨rfl, hb⟩; refine ⟨_, rfl, ?_⟩; have n0_ := Aside0.mk (below_step HB.out hb); clear HB; have HB := n0_; clear n0_; (try clear hb); (try clear hb2); (try clear hk); (try clear hi)) | ((with_reducible refine gate_dst (N := 9) rfl ?_); (try (refine gate_guard (by rfl) ?_; dsimp only)); refine Kd.R_lit k31 _ 31 ?hg (N := 9) ?hd (xs := ([(⟨true, (⟨1, (⟨(⟨t276, t277⟩ : S24), t278⟩ : S26), 0, (⟨#[]⟩ : ByteArray), 0, 0⟩ : S29)⟩ : S31)] : List (S31))) (inner := [.bool true, .int .i64 1, .int .u64 t276, .int .u64 t277, .int .i64 t278, .int .i64 0, .string (⟨#[]⟩ : ByteArray), .int .u32 0, .int .i64 0]) (ok := fun _ => True) (okp := fun _ => True) ?hr ?hp (fun _ hk => hk) trivial (Below.refl _ _) (Nat.le_refl _) (by simp) ?_; (case hd => rfl); (case hg => rfl); (case hr => go_simp; done); (case hp => exact (Reps.c9 (show Kd.M k31 _ _ _ (⟨true, (⟨1, (⟨(⟨t276, t277⟩ : S24), t278⟩ : S26), 0, (⟨#[]⟩ : ByteArray), 0, 0⟩ : S29)⟩ : S31) [.bool true, .int .i64 1, .int .u64 t276, .int .u64 t277, .int .i64 t278, .int .i64 0, .string (⟨#[]⟩ : ByteArray), .int .u32 0, .int .i64 0] from (k31_mkM _ _ _ (⟨true, (⟨1, (⟨(⟨t276, t277⟩ : S24), t278⟩ : S26), 0, (⟨#[]⟩ : ByteArray), 0, 0⟩ : S29)⟩ : S31) )) (Reps.none _ _))); intro v280 w32 ho33 hb hg_ hnew_; clear hg_ hnew_; (first | rw [← Ny279.out] at ho33); have n0_ := Aside0.mk (Kd.R_lower ho33 (below_size HB.out)); have n1_ := Aside0.mk (below_step HB.out hb); clear HB; have HO281 := n0_; have HB := n1_; clear n0_ n1_; clear hb ho33; obtain ⟨Ao34, co34, eo34⟩ := Kd.R_slice HO281.out; subst eo34) | ((with_reducible refine gate_callee (f := 20) rfl ?_); refine goesL_ (some 10) rfl rfl Try.func20 (by kernel_rfl) rfl #[.slice Ao34 y279.length co34] rfl (by (try simp only [List.map_toArray, List.map_cons, List.map_nil]); first | rfl) ?_; (with_reducible refine (lease_Encode.calls _ _ y279 t282 t283 _ ?side1 ?side2 A2.out).mono ?_); (case side1 => repeat (first | exact (Kd.R_reads' HO281.out).2.2)); (case side2 => exact (Kd.R_reads' HO281.out).2.1); rintro e w35 ⟨rfl, hb⟩; refine ⟨_, rfl, ?_⟩; have n0_ := Aside0.mk (Kd.R_below HO281.out hb); have n1_ := Aside0.mk (below_step HB.out hb); clear HO281; clear HB; have HO281 := n0_; have HB := n1_; clear n0_ n1_; (try clear hb); (try clear hb2); (try clear hk); (try clear hi)) | ((with_reducible refine gate_callee (f := 22) rfl ?_); refine goesL_ (some 14) rfl rfl Try.func22 (by kernel_rfl) rfl #[.string (⟨#[0, 1, 2, 1, 128, 0, 0, 0, 0, 0, 0, 0, 0, 0, 0, 0, 0, 0, 0, 0, 1]⟩ : ByteArray)] rfl (by (try simp only [List.map_toArray, List.map_cons, List.map_nil]); first | rfl) ?_; (with_reducible refine (lease_Decode.calls k (⟨#[0, 1, 2, 1, 128, 0, 0, 0, 0, 0, 0, 0, 0, 0, 0, 0, 0, 0, 0, 0, 1]⟩ : ByteArray) t284 t285 _ A3.out).mono ?_); rintro e w36 ⟨v286, rfl, ho0, hb⟩; refine ⟨_, rfl, ?_⟩; have n0_ := Aside0.mk (Kd.R_elder' HO281.out (Kd.R_base ho0) hb); have n1_ := Aside0.mk (Kd.R_lower (Kd.R_new' ho0 (Kd.R_lt HO281.out)) (below_size HB.out)); have n2_ := Aside0.mk (below_step HB.out hb); clear HO281; clear HB; have HO281 := n0_; have HO287 := n1_; have HB := n2_; clear n0_ n1_ n2_; (try clear hb); (try clear hb2); (try clear hk); (try clear hi); (try clear ho0); obtain ⟨Ao37, co37, eo37⟩ := Kd.R_slice HO287.out; subst eo37; have p288 : 0 ≤ (0 : Int) := (by omega); have q288 : 0 < (t284.length : Int) := of_decide_eq_true (by first | (with_reducible assumption)); obtain ⟨ad288, e288, hx288_0, hx288_1, hx288_2, hx288_3, hx288_4, hx288_5, hx288_6, hx288_7, hx288_8⟩ := at_T31 (Kd.R_reads' HO287.out).2.2 0 p288 q288; (try rw [← Nbq9.out] at hx288_0); cases e288; have qi288 : (0 < t284.length) = True := eq_true (by omega); (try rw [show ((0 : Int)).toNat = 0 from rfl] at hx288_0); (try rw [show 0 * 9 = 0 from rfl] at hx288_0); (try rw [Addr.add_zero'] at hx288_0); (try rw [show ((0 : Int)).toNat = 0 from rfl] at hx288_1); (try rw [show 0 * 9 = 0 from rfl] at hx288_1); (try rw [Addr.add_zero'] at hx288_1); (try rw [show ((0 : Int)).toNat = 0 from rfl] at hx288_2); (try rw [show 0 * 9 = 0 from rfl] at hx288_2); (try rw [Addr.add_zero'] at hx288_2); (try rw [show ((0 : Int)).toNat = 0 from rfl] at hx288_3); (try rw [show 0 * 9 = 0 from rfl] at hx288_3); (try rw [Addr.add_zero'] at hx288_3); (try rw [show ((0 : Int)).toNat = 0 from rfl] at hx288_4); (try rw [show 0 * 9 = 0 from rfl] at hx288_4); (try rw [Addr.add_zero'] at hx288_4); (try rw [show ((0 : Int)).toNat = 0 from rfl] at hx288_5); (try rw [show 0 * 9 = 0 from rfl] at hx288_5); (try rw [Addr.add_zero'] at hx288_5); (try rw [show ((0 : Int)).toNat = 0 from rfl] at hx288_6); (try rw [show 0 * 9 = 0 from rfl] at hx288_6); (try rw [Addr.add_zero'] at hx288_6); (try rw [show ((0 : Int)).toNat = 0 from rfl] at hx288_7); (try rw [show 0 * 9 = 0 from rfl] at hx288_7); (try rw [Addr.add_zero'] at hx288_7); (try rw [show ((0 : Int)).toNat = 0 from rfl] at hx288_8); (try rw [show 0 * 9 = 0 from rfl] at hx288_8); (try rw [Addr.add_zero'] at hx288_8); replace p288 := eq_true p288; replace q288 := eq_true q288) | (go_at_call 26; (with_reducible refine (tenancylaw08_one.calls 5 t289 t290 t291 _ A11.out).mono ?_); rintro e w38 ⟨rfl, hb⟩; have n0_ := Aside0.mk (Kd.R_below HO281.out hb); have n1_ := Aside0.mk (Kd.R_below HO287.out hb); have n2_ := Aside0.mk (below_step HB.out hb); clear HO281; clear HO287; clear HB; have HO281 := n0_; have HO287 := n1_; have HB := n2_; clear n0_ n1_ n2_; (try clear hb); (try clear hb2); (try clear hk); (try clear hi)) | (go_at_call 10; (with_reducible refine (lease_Right.calls k 1 t289 t290 t291 true _ A12.out).mono ?_); rintro e w39 ⟨rfl, hb⟩; have n0_ := Aside0.mk (Kd.R_below HO281.out hb); have n1_ := Aside0.mk (Kd.R_below HO287.out hb); have n2_ := Aside0.mk (below_step HB.out hb); clear HO281; clear HO287; clear HB; have HO281 := n0_; have HO287 := n1_; have HB := n2_; clear n0_ n1_ n2_; (try clear hb); (try clear hb2); (try clear hk); (try clear hi)) | (go_at_call 10; (with_reducible refine (lease_Right.calls k 4 t289 t290 t291 false _ A15.out).mono ?_); rintro e w41 ⟨rfl, hb⟩; have n0_ := Aside0.mk (Kd.R_below HO281.out hb); have n1_ := Aside0.mk (Kd.R_below HO287.out hb); have n2_ := Aside0.mk (below_step HB.out hb); clear HO281; clear HO287; clear HB; have HO281 := n0_; have HO287 := n1_; have HB := n2_; clear n0_ n1_ n2_; (try clear hb); (try clear hb2); (try clear hk); (try clear hi)) | (go_at_call 12; (with_reducible refine (lease_Sound.calls k 2 t289 t290 t291 1 (⟨#[99]⟩ : ByteArray) 0 3 true _ A18.out).mono ?_); rintro e w43 ⟨rfl, hb⟩; have n0_ := Aside0.mk (Kd.R_below HO281.out hb); have n1_ := Aside0.mk (Kd.R_below HO287.out hb); have n2_ := Aside0.mk (below_step HB.out hb); clear HO281; clear HO287; clear HB; have HO281 := n0_; have HO287 := n1_; have HB := n2_; clear n0_ n1_ n2_; (try clear hb); (try clear hb2); (try clear hk); (try clear hi)) | (go_at_call 18; (with_reducible refine (lease_Meets.calls k 2 t289 t290 t291 3 t289 t290 t291 true _ A22.out).mono ?_); rintro e w46 ⟨rfl, hb⟩; have n0_ := Aside0.mk (Kd.R_below HO281.out hb); have n1_ := Aside0.mk (Kd.R_below HO287.out hb); have n2_ := Aside0.mk (below_step HB.out hb); clear HO281; clear HO287; clear HB; have HO281 := n0_; have HO287 := n1_; have HB := n2_; clear n0_ n1_ n2_; (try clear hb); (try clear hb2); (try clear hk); (try clear hi)) | (go_at_call 18; (with_reducible refine (lease_Meets.calls k 1 t289 t290 t291 2 t289 t290 t291 false _ A26.out).mono ?_); rintro e w49 ⟨rfl, hb⟩; have n0_ := Aside0.mk (Kd.R_below HO281.out hb); have n1_ := Aside0.mk (Kd.R_below HO287.out hb); have n2_ := Aside0.mk (below_step HB.out hb); clear HO281; clear HO287; clear HB; have HO281 := n0_; have HO287 := n1_; have HB := n2_; clear n0_ n1_ n2_; (try clear hb); (try clear hb2); (try clear hk); (try clear hi)) | (go_at_call 26; (with_reducible refine (tenancylaw08_one.calls 4 t318 t319 t320 _ A29.out).mono ?_); rintro e w51 ⟨rfl, hb⟩; have n0_ := Aside0.mk (Kd.R_below HO281.out hb); have n1_ := Aside0.mk (Kd.R_below HO287.out hb); have n2_ := Aside0.mk (below_step HB.out hb); clear HO281; clear HO287; clear HB; have HO281 := n0_; have HO287 := n1_; have HB := n2_; clear n0_ n1_ n2_; (try clear hb); (try clear hb2); (try clear hk); (try clear hi)) | (go_at_call 16; (with_reducible refine (lease_Compare.calls k 1 t289 t290 t291 2 t318 t319 t320 t321 _ A30.out).mono ?_); rintro e w52 ⟨rfl, hb⟩; have n0_ := Aside0.mk (Kd.R_below HO281.out hb); have n1_ := Aside0.mk (Kd.R_below HO287.out hb); have n2_ := Aside0.mk (below_step HB.out hb); clear HO281; clear HO287; clear HB; have HO281 := n0_; have HO287 := n1_; have HB := n2_; clear n0_ n1_ n2_; (try clear hb); (try clear hb2); (try clear hk); (try clear hi)))
                        go_ret
                        exact ⟨by rfl, by exact HB.out⟩
                    · replace c23 := Bool.eq_false_iff.mpr c23
                      subst c23
                      have H1 : (none) = some r := by rw [if_neg (show ¬ (false = true) by decide)] at H; exact H
                      clear H
                      have H := H1
                      clear H1
                      exact absurd H (by simp)
                  · replace c19 := Bool.eq_false_iff.mpr c19
                    subst c19
                    have H1 : (none) = some r := by rw [if_neg (show ¬ (false = true) by decide)] at H; exact H
                    clear H
                    have H := H1
                    clear H1
                    exact absurd H (by simp)
              · replace c13 := Bool.eq_false_iff.mpr c13
                subst c13
                have H1 : (none) = some r := by rw [if_neg (show ¬ (false = true) by decide)] at H; exact H
                clear H
                have H := H1
                clear H1
                exact absurd H (by simp)
            · replace c10 := Bool.eq_false_iff.mpr c10
              subst c10
              have H1 : (none) = some r := by rw [if_neg (show ¬ (false = true) by decide)] at H; exact H
              clear H
              have H := H1
              clear H1
              exact absurd H (by simp)
          · rw [if_neg c8] at H
            exact absurd H (by simp)
        · rw [if_neg c7] at H
          exact absurd H (by simp)
      · rw [if_neg c6] at H
        exact absurd H (by simp)
    · rw [if_neg c5] at H
      exact absurd H (by simp)
  · rw [if_neg c4] at H
    exact absurd H (by simp)

end Go.Proofs.Ytpdopkhdhbdljaa.X
