/- The law Wire4Overload where nothing is asked: an error, or a row too long: the call returns true. By hand. -/
import Derived.Test.YtdhmlenmnobmfaaG3
import Derived.Test.YtdhmlenmnobmfaaGS
namespace Go.Proofs.Ytdhmlenmnobmfaa.X
open Go.RowKit Go.Proofs.YtdhmlenmnobmfaaW.PrintWords Go.Proofs.YtdhmlenmnobmfaaW.PrintLast Go.Proofs.YtdhmlenmnobmfaaW.PrintMore
set_option linter.unusedVariables false
set_option linter.unusedSimpArgs false
set_option maxHeartbeats 16000000 in
set_option maxRecDepth 100000 in
theorem over_err (k : Nat) (a0_0 : Int) (a0_1 : Int) (a0_2 : Int) (a0_3 : Int) (a0_4 : Int) (a0_5 : Int) (a0_6 : Int) (a0_7 : Int) (a0_8 : Int) (a0_9 : Int) (a0_10 : Int) (a0_11 : ByteArray) (a0_12 : ByteArray) (a0_13 : ByteArray) (A0_14 : Option Addr) (c0_14 : Nat) (l0_14 : List S47) (A1 : Option Addr) (c1 : Nat) (l1 : List S47) (A2 : Option Addr) (c2 : Nat) (l2 : List S47) (a b es : ByteArray) (ea eb ee : Int) (w : World)
    (hr0 : Kd.C k47 w A0_14 l0_14.length l0_14) (hc0 : l0_14.length ≤ c0_14) (hr1 : Kd.C k47 w A1 l1.length l1) (hc1 : l1.length ≤ c1) (hr2 : Kd.C k47 w A2 l2.length l2) (hc2 : l2.length ≤ c2)
    (haw : tenancylaw14_awake.f k = some true) (ha : opt4_Emit.f k l1 = some (a, ea)) (hb : opt4_Emit.f k l2 = some (b, eb)) (hen : wire4_Encode.f k a0_0 a0_1 a0_2 a0_3 a0_4 a0_5 a0_6 a0_7 a0_8 a0_9 a0_10 a0_11 a0_12 a0_13 l0_14 = some (es, ee))
    (hbad : ¬ (ea = 0 ∧ eb = 0 ∧ ee = 0 ∧ a.size ≤ 128 ∧ b.size ≤ 64 ∧ es.size ≤ 60000)) :
    Calls Try.prog 6 #[.agg #[.int .u8 a0_0, .int .u8 a0_1, .int .u8 a0_2, .int .u8 a0_3, .int .u32 a0_4, .int .u16 a0_5, .int .u16 a0_6, .int .u32 a0_7, .int .u32 a0_8, .int .u32 a0_9, .int .u32 a0_10, .string a0_11, .string a0_12, .string a0_13, .slice A0_14 l0_14.length c0_14], .slice A1 l1.length c1, .slice A2 l2.length c2] w fun e w' => e = .returned (.bool true) ∧ Below w.heap.size w w' := by
  have hu26 := Try.underlying26
  have hi26 : (Try.prog.info? 26).map (·.size) = some 15 := by kernel_rfl
  have HR0 := Aside0.mk hr0
  have HC0 := Aside0.mk hc0
  have HR1 := Aside0.mk hr1
  have HC1 := Aside0.mk hc1
  have HR2 := Aside0.mk hr2
  have HC2 := Aside0.mk hc2
  have HAW := Aside0.mk haw
  have HA := Aside0.mk ha
  have HB := Aside0.mk hb
  have HEN := Aside0.mk hen
  clear hr0 hc0 hr1 hc1 hr2 hc2 haw ha hb hen
  by_cases g0 : ea = 0
  case neg =>
    have g : (ea != 0) = true := by simp [g0]
    clear hbad g0
    go_enter Try.func6, Try.ntmps6
    go_upto_region 4 with (first | ((with_reducible refine gate_dst (N := 3) rfl ?_); (try (refine gate_guard (by rfl) ?_; dsimp only)); refine box_event ?hg (N := 3) ?hd (cs := #[.int .u8 a0_0, .int .u8 a0_1, .int .u8 a0_2, .int .u8 a0_3, .int .u32 a0_4, .int .u16 a0_5, .int .u16 a0_6, .int .u32 a0_7, .int .u32 a0_8, .int .u32 a0_9, .int .u32 a0_10, .string a0_11, .string a0_12, .string a0_13, .slice A0_14 l0_14.length c0_14]) (t := 26) ?hr ?_;(case hd => rfl); (case hg => rfl); (case hr => first | (go_simp; done) | (go_simp; rfl)); intro gb_ hgb wa hbox hb8; have BK0 := Aside0.mk hbox; have HB0 := Aside0.mk hb8; have GB := Aside0.mk (show w.heap.size ≤ gb_ by rw [hgb]; exact Nat.le_refl _); clear hgb hbox hb8) | (go_at_call 8; refine (tenancylaw14_awake.calls k true _ HAW.out).mono ?_; rintro e w1 ⟨rfl, hb⟩; have BK1 := Aside0.mk (blk_below BK0.out hb); have HB1 := Aside0.mk (below_step HB0.out hb); clear hb) | (go_at_call 18; refine (opt4_Emit.calls k A1 c1 l1 a ea _ (Kd.C_below HR1.out HB1.out) HC1.out HA.out).mono ?_; rintro e w2 ⟨rfl, hb⟩; have HB2 := Aside0.mk (below_step HB1.out hb); have BK2 := Aside0.mk (blk_below BK1.out hb); clear hb))
    go_upto_region 5 with (go_at_call 18; refine (opt4_Emit.calls k A2 c2 l2 b eb _ (Kd.C_below HR2.out HB2.out) HC2.out HB.out).mono ?_; rintro e w3 ⟨rfl, hb⟩; have HB3 := Aside0.mk (below_step HB2.out hb); have BK3 := Aside0.mk (blk_below BK2.out hb); clear hb)
    go_upto_region 6 with (first | ((with_reducible refine gate_dst (N := 39) rfl ?_); refine XBox.loadL_ 39 rfl rfl 26 rfl gb_ rfl _ BK3.out hu26 rfl hi26 ?_; simp only [Act.put, List.setIfInBounds_toArray, List.set_cons_zero, List.set_cons_succ]) | (go_at_call 12; refine (wire4_Encode.calls k a0_0 a0_1 a0_2 a0_3 a0_4 a0_5 a0_6 a0_7 a0_8 a0_9 a0_10 a0_11 a0_12 a0_13 A0_14 c0_14 l0_14 es ee _ (Kd.C_below HR0.out HB3.out) HC0.out HEN.out).mono ?_; rintro e w4 ⟨rfl, hb⟩; have BK4 := Aside0.mk (blk_below BK3.out hb); have HB4 := Aside0.mk (below_step HB3.out hb); clear hb))
    go_wp2
    go_ret
    exact ⟨rfl, HB4.out⟩
  subst g0
  by_cases g1 : eb = 0
  case neg =>
    have g : (eb != 0) = true := by simp [g1]
    clear hbad g1
    go_enter Try.func6, Try.ntmps6
    go_upto_region 4 with (first | ((with_reducible refine gate_dst (N := 3) rfl ?_); (try (refine gate_guard (by rfl) ?_; dsimp only)); refine box_event ?hg (N := 3) ?hd (cs := #[.int .u8 a0_0, .int .u8 a0_1, .int .u8 a0_2, .int .u8 a0_3, .int .u32 a0_4, .int .u16 a0_5, .int .u16 a0_6, .int .u32 a0_7, .int .u32 a0_8, .int .u32 a0_9, .int .u32 a0_10, .string a0_11, .string a0_12, .string a0_13, .slice A0_14 l0_14.length c0_14]) (t := 26) ?hr ?_;(case hd => rfl); (case hg => rfl); (case hr => first | (go_simp; done) | (go_simp; rfl)); intro gb_ hgb wa hbox hb8; have BK0 := Aside0.mk hbox; have HB0 := Aside0.mk hb8; have GB := Aside0.mk (show w.heap.size ≤ gb_ by rw [hgb]; exact Nat.le_refl _); clear hgb hbox hb8) | (go_at_call 8; refine (tenancylaw14_awake.calls k true _ HAW.out).mono ?_; rintro e w1 ⟨rfl, hb⟩; have BK1 := Aside0.mk (blk_below BK0.out hb); have HB1 := Aside0.mk (below_step HB0.out hb); clear hb) | (go_at_call 18; refine (opt4_Emit.calls k A1 c1 l1 a 0 _ (Kd.C_below HR1.out HB1.out) HC1.out HA.out).mono ?_; rintro e w2 ⟨rfl, hb⟩; have HB2 := Aside0.mk (below_step HB1.out hb); have BK2 := Aside0.mk (blk_below BK1.out hb); clear hb))
    go_upto_region 5 with (go_at_call 18; refine (opt4_Emit.calls k A2 c2 l2 b eb _ (Kd.C_below HR2.out HB2.out) HC2.out HB.out).mono ?_; rintro e w3 ⟨rfl, hb⟩; have HB3 := Aside0.mk (below_step HB2.out hb); have BK3 := Aside0.mk (blk_below BK2.out hb); clear hb)
    go_upto_region 6 with (first | ((with_reducible refine gate_dst (N := 39) rfl ?_); refine XBox.loadL_ 39 rfl rfl 26 rfl gb_ rfl _ BK3.out hu26 rfl hi26 ?_; simp only [Act.put, List.setIfInBounds_toArray, List.set_cons_zero, List.set_cons_succ]) | (go_at_call 12; refine (wire4_Encode.calls k a0_0 a0_1 a0_2 a0_3 a0_4 a0_5 a0_6 a0_7 a0_8 a0_9 a0_10 a0_11 a0_12 a0_13 A0_14 c0_14 l0_14 es ee _ (Kd.C_below HR0.out HB3.out) HC0.out HEN.out).mono ?_; rintro e w4 ⟨rfl, hb⟩; have BK4 := Aside0.mk (blk_below BK3.out hb); have HB4 := Aside0.mk (below_step HB3.out hb); clear hb))
    go_wp2
    go_ret
    exact ⟨rfl, HB4.out⟩
  subst g1
  by_cases g2 : ee = 0
  case neg =>
    have g : (ee != 0) = true := by simp [g2]
    clear hbad g2
    go_enter Try.func6, Try.ntmps6
    go_upto_region 4 with (first | ((with_reducible refine gate_dst (N := 3) rfl ?_); (try (refine gate_guard (by rfl) ?_; dsimp only)); refine box_event ?hg (N := 3) ?hd (cs := #[.int .u8 a0_0, .int .u8 a0_1, .int .u8 a0_2, .int .u8 a0_3, .int .u32 a0_4, .int .u16 a0_5, .int .u16 a0_6, .int .u32 a0_7, .int .u32 a0_8, .int .u32 a0_9, .int .u32 a0_10, .string a0_11, .string a0_12, .string a0_13, .slice A0_14 l0_14.length c0_14]) (t := 26) ?hr ?_;(case hd => rfl); (case hg => rfl); (case hr => first | (go_simp; done) | (go_simp; rfl)); intro gb_ hgb wa hbox hb8; have BK0 := Aside0.mk hbox; have HB0 := Aside0.mk hb8; have GB := Aside0.mk (show w.heap.size ≤ gb_ by rw [hgb]; exact Nat.le_refl _); clear hgb hbox hb8) | (go_at_call 8; refine (tenancylaw14_awake.calls k true _ HAW.out).mono ?_; rintro e w1 ⟨rfl, hb⟩; have BK1 := Aside0.mk (blk_below BK0.out hb); have HB1 := Aside0.mk (below_step HB0.out hb); clear hb) | (go_at_call 18; refine (opt4_Emit.calls k A1 c1 l1 a 0 _ (Kd.C_below HR1.out HB1.out) HC1.out HA.out).mono ?_; rintro e w2 ⟨rfl, hb⟩; have HB2 := Aside0.mk (below_step HB1.out hb); have BK2 := Aside0.mk (blk_below BK1.out hb); clear hb))
    go_upto_region 5 with (go_at_call 18; refine (opt4_Emit.calls k A2 c2 l2 b 0 _ (Kd.C_below HR2.out HB2.out) HC2.out HB.out).mono ?_; rintro e w3 ⟨rfl, hb⟩; have HB3 := Aside0.mk (below_step HB2.out hb); have BK3 := Aside0.mk (blk_below BK2.out hb); clear hb)
    go_upto_region 6 with (first | ((with_reducible refine gate_dst (N := 39) rfl ?_); refine XBox.loadL_ 39 rfl rfl 26 rfl gb_ rfl _ BK3.out hu26 rfl hi26 ?_; simp only [Act.put, List.setIfInBounds_toArray, List.set_cons_zero, List.set_cons_succ]) | (go_at_call 12; refine (wire4_Encode.calls k a0_0 a0_1 a0_2 a0_3 a0_4 a0_5 a0_6 a0_7 a0_8 a0_9 a0_10 a0_11 a0_12 a0_13 A0_14 c0_14 l0_14 es ee _ (Kd.C_below HR0.out HB3.out) HC0.out HEN.out).mono ?_; rintro e w4 ⟨rfl, hb⟩; have BK4 := Aside0.mk (blk_below BK3.out hb); have HB4 := Aside0.mk (below_step HB3.out hb); clear hb))
    go_wp2
    go_ret
    exact ⟨rfl, HB4.out⟩
  subst g2
  by_cases k0 : a.size ≤ 128
  case neg =>
    have p1 : decide ((128 : Int) < (a.size : Int)) = true := decide_eq_true (by omega)
    have p2 : decide (128 < a.size) = true := decide_eq_true (by omega)
    clear hbad k0
    go_enter Try.func6, Try.ntmps6
    go_upto_region 4 with (first | ((with_reducible refine gate_dst (N := 3) rfl ?_); (try (refine gate_guard (by rfl) ?_; dsimp only)); refine box_event ?hg (N := 3) ?hd (cs := #[.int .u8 a0_0, .int .u8 a0_1, .int .u8 a0_2, .int .u8 a0_3, .int .u32 a0_4, .int .u16 a0_5, .int .u16 a0_6, .int .u32 a0_7, .int .u32 a0_8, .int .u32 a0_9, .int .u32 a0_10, .string a0_11, .string a0_12, .string a0_13, .slice A0_14 l0_14.length c0_14]) (t := 26) ?hr ?_;(case hd => rfl); (case hg => rfl); (case hr => first | (go_simp; done) | (go_simp; rfl)); intro gb_ hgb wa hbox hb8; have BK0 := Aside0.mk hbox; have HB0 := Aside0.mk hb8; have GB := Aside0.mk (show w.heap.size ≤ gb_ by rw [hgb]; exact Nat.le_refl _); clear hgb hbox hb8) | (go_at_call 8; refine (tenancylaw14_awake.calls k true _ HAW.out).mono ?_; rintro e w1 ⟨rfl, hb⟩; have BK1 := Aside0.mk (blk_below BK0.out hb); have HB1 := Aside0.mk (below_step HB0.out hb); clear hb) | (go_at_call 18; refine (opt4_Emit.calls k A1 c1 l1 a 0 _ (Kd.C_below HR1.out HB1.out) HC1.out HA.out).mono ?_; rintro e w2 ⟨rfl, hb⟩; have HB2 := Aside0.mk (below_step HB1.out hb); have BK2 := Aside0.mk (blk_below BK1.out hb); clear hb))
    go_upto_region 5 with (go_at_call 18; refine (opt4_Emit.calls k A2 c2 l2 b 0 _ (Kd.C_below HR2.out HB2.out) HC2.out HB.out).mono ?_; rintro e w3 ⟨rfl, hb⟩; have HB3 := Aside0.mk (below_step HB2.out hb); have BK3 := Aside0.mk (blk_below BK2.out hb); clear hb)
    go_upto_region 6 with (first | ((with_reducible refine gate_dst (N := 39) rfl ?_); refine XBox.loadL_ 39 rfl rfl 26 rfl gb_ rfl _ BK3.out hu26 rfl hi26 ?_; simp only [Act.put, List.setIfInBounds_toArray, List.set_cons_zero, List.set_cons_succ]) | (go_at_call 12; refine (wire4_Encode.calls k a0_0 a0_1 a0_2 a0_3 a0_4 a0_5 a0_6 a0_7 a0_8 a0_9 a0_10 a0_11 a0_12 a0_13 A0_14 c0_14 l0_14 es 0 _ (Kd.C_below HR0.out HB3.out) HC0.out HEN.out).mono ?_; rintro e w4 ⟨rfl, hb⟩; have BK4 := Aside0.mk (blk_below BK3.out hb); have HB4 := Aside0.mk (below_step HB3.out hb); clear hb))
    go_wp2
    go_ret
    exact ⟨rfl, HB4.out⟩
  have q0 : decide ((128 : Int) < (a.size : Int)) = false := decide_eq_false (by omega)
  have r0 : decide (128 < a.size) = false := decide_eq_false (by omega)
  by_cases k1 : b.size ≤ 64
  case neg =>
    have p1 : decide ((64 : Int) < (b.size : Int)) = true := decide_eq_true (by omega)
    have p2 : decide (64 < b.size) = true := decide_eq_true (by omega)
    clear hbad k1 k0
    go_enter Try.func6, Try.ntmps6
    go_upto_region 4 with (first | ((with_reducible refine gate_dst (N := 3) rfl ?_); (try (refine gate_guard (by rfl) ?_; dsimp only)); refine box_event ?hg (N := 3) ?hd (cs := #[.int .u8 a0_0, .int .u8 a0_1, .int .u8 a0_2, .int .u8 a0_3, .int .u32 a0_4, .int .u16 a0_5, .int .u16 a0_6, .int .u32 a0_7, .int .u32 a0_8, .int .u32 a0_9, .int .u32 a0_10, .string a0_11, .string a0_12, .string a0_13, .slice A0_14 l0_14.length c0_14]) (t := 26) ?hr ?_;(case hd => rfl); (case hg => rfl); (case hr => first | (go_simp; done) | (go_simp; rfl)); intro gb_ hgb wa hbox hb8; have BK0 := Aside0.mk hbox; have HB0 := Aside0.mk hb8; have GB := Aside0.mk (show w.heap.size ≤ gb_ by rw [hgb]; exact Nat.le_refl _); clear hgb hbox hb8) | (go_at_call 8; refine (tenancylaw14_awake.calls k true _ HAW.out).mono ?_; rintro e w1 ⟨rfl, hb⟩; have BK1 := Aside0.mk (blk_below BK0.out hb); have HB1 := Aside0.mk (below_step HB0.out hb); clear hb) | (go_at_call 18; refine (opt4_Emit.calls k A1 c1 l1 a 0 _ (Kd.C_below HR1.out HB1.out) HC1.out HA.out).mono ?_; rintro e w2 ⟨rfl, hb⟩; have HB2 := Aside0.mk (below_step HB1.out hb); have BK2 := Aside0.mk (blk_below BK1.out hb); clear hb))
    go_upto_region 5 with (go_at_call 18; refine (opt4_Emit.calls k A2 c2 l2 b 0 _ (Kd.C_below HR2.out HB2.out) HC2.out HB.out).mono ?_; rintro e w3 ⟨rfl, hb⟩; have HB3 := Aside0.mk (below_step HB2.out hb); have BK3 := Aside0.mk (blk_below BK2.out hb); clear hb)
    go_upto_region 6 with (first | ((with_reducible refine gate_dst (N := 39) rfl ?_); refine XBox.loadL_ 39 rfl rfl 26 rfl gb_ rfl _ BK3.out hu26 rfl hi26 ?_; simp only [Act.put, List.setIfInBounds_toArray, List.set_cons_zero, List.set_cons_succ]) | (go_at_call 12; refine (wire4_Encode.calls k a0_0 a0_1 a0_2 a0_3 a0_4 a0_5 a0_6 a0_7 a0_8 a0_9 a0_10 a0_11 a0_12 a0_13 A0_14 c0_14 l0_14 es 0 _ (Kd.C_below HR0.out HB3.out) HC0.out HEN.out).mono ?_; rintro e w4 ⟨rfl, hb⟩; have BK4 := Aside0.mk (blk_below BK3.out hb); have HB4 := Aside0.mk (below_step HB3.out hb); clear hb))
    go_wp2
    go_ret
    exact ⟨rfl, HB4.out⟩
  have q1 : decide ((64 : Int) < (b.size : Int)) = false := decide_eq_false (by omega)
  have r1 : decide (64 < b.size) = false := decide_eq_false (by omega)
  by_cases k2 : es.size ≤ 60000
  case neg =>
    have p1 : decide ((60000 : Int) < (es.size : Int)) = true := decide_eq_true (by omega)
    have p2 : decide (60000 < es.size) = true := decide_eq_true (by omega)
    clear hbad k2 k1 k0
    go_enter Try.func6, Try.ntmps6
    go_upto_region 4 with (first | ((with_reducible refine gate_dst (N := 3) rfl ?_); (try (refine gate_guard (by rfl) ?_; dsimp only)); refine box_event ?hg (N := 3) ?hd (cs := #[.int .u8 a0_0, .int .u8 a0_1, .int .u8 a0_2, .int .u8 a0_3, .int .u32 a0_4, .int .u16 a0_5, .int .u16 a0_6, .int .u32 a0_7, .int .u32 a0_8, .int .u32 a0_9, .int .u32 a0_10, .string a0_11, .string a0_12, .string a0_13, .slice A0_14 l0_14.length c0_14]) (t := 26) ?hr ?_;(case hd => rfl); (case hg => rfl); (case hr => first | (go_simp; done) | (go_simp; rfl)); intro gb_ hgb wa hbox hb8; have BK0 := Aside0.mk hbox; have HB0 := Aside0.mk hb8; have GB := Aside0.mk (show w.heap.size ≤ gb_ by rw [hgb]; exact Nat.le_refl _); clear hgb hbox hb8) | (go_at_call 8; refine (tenancylaw14_awake.calls k true _ HAW.out).mono ?_; rintro e w1 ⟨rfl, hb⟩; have BK1 := Aside0.mk (blk_below BK0.out hb); have HB1 := Aside0.mk (below_step HB0.out hb); clear hb) | (go_at_call 18; refine (opt4_Emit.calls k A1 c1 l1 a 0 _ (Kd.C_below HR1.out HB1.out) HC1.out HA.out).mono ?_; rintro e w2 ⟨rfl, hb⟩; have HB2 := Aside0.mk (below_step HB1.out hb); have BK2 := Aside0.mk (blk_below BK1.out hb); clear hb))
    go_upto_region 5 with (go_at_call 18; refine (opt4_Emit.calls k A2 c2 l2 b 0 _ (Kd.C_below HR2.out HB2.out) HC2.out HB.out).mono ?_; rintro e w3 ⟨rfl, hb⟩; have HB3 := Aside0.mk (below_step HB2.out hb); have BK3 := Aside0.mk (blk_below BK2.out hb); clear hb)
    go_upto_region 6 with (first | ((with_reducible refine gate_dst (N := 39) rfl ?_); refine XBox.loadL_ 39 rfl rfl 26 rfl gb_ rfl _ BK3.out hu26 rfl hi26 ?_; simp only [Act.put, List.setIfInBounds_toArray, List.set_cons_zero, List.set_cons_succ]) | (go_at_call 12; refine (wire4_Encode.calls k a0_0 a0_1 a0_2 a0_3 a0_4 a0_5 a0_6 a0_7 a0_8 a0_9 a0_10 a0_11 a0_12 a0_13 A0_14 c0_14 l0_14 es 0 _ (Kd.C_below HR0.out HB3.out) HC0.out HEN.out).mono ?_; rintro e w4 ⟨rfl, hb⟩; have BK4 := Aside0.mk (blk_below BK3.out hb); have HB4 := Aside0.mk (below_step HB3.out hb); clear hb))
    go_wp2
    go_ret
    exact ⟨rfl, HB4.out⟩
  have q2 : decide ((60000 : Int) < (es.size : Int)) = false := decide_eq_false (by omega)
  have r2 : decide (60000 < es.size) = false := decide_eq_false (by omega)
  exact absurd ⟨rfl, rfl, rfl, k0, k1, k2⟩ hbad
end Go.Proofs.Ytdhmlenmnobmfaa.X
