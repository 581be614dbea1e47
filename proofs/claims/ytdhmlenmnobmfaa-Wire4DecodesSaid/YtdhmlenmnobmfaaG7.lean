/- Functions of the program as Lean functions, and that the calls come to them: no condition.  By this session's own program (wip/xprint). -/
import Derived.Test.YtdhmlenmnobmfaaG0
import Derived.Test.YtdhmlenmnobmfaaG1
import Derived.Test.YtdhmlenmnobmfaaG2
import Derived.Test.YtdhmlenmnobmfaaG3
namespace Go.Proofs.Ytdhmlenmnobmfaa.X
open Go.RowKit Go.Proofs.YtdhmlenmnobmfaaW.PrintWords Go.Proofs.YtdhmlenmnobmfaaW.PrintLast Go.Proofs.YtdhmlenmnobmfaaW.PrintMore
attribute [local go_sem] max2_int min2_int max_two min_two max_three min_three max_four min_four   -- for this text's walks alone
set_option linter.unusedVariables false
set_option linter.unusedSimpArgs false
/-! ### tenancyref04_Pad: function 45: by hand -/
def zerosI (n : Nat) : List Int := List.replicate n 0
theorem zerosI_snoc (n : Nat) : zerosI n ++ [0] = zerosI (n + 1) := by simp [zerosI, List.replicate_succ']
def tenancyref04_Pad.f (a0 : ByteArray) (a1 : Int) : Option (ByteArray × Bool) := if (a0.size : Int) > a1 then some ((⟨#[]⟩ : ByteArray), false) else if a1 ≤ 140737488355328 then some (strOfNums (bytesOf a0 ++ zerosI (a1.toNat - a0.size)), true) else none
theorem pinfo5 : (Try.prog.info? 5).map (fun i => (i.zero, i.size, i.bytes)) = some (some (.int .u8 0), 1, 1) := by kernel_rfl
set_option maxRecDepth 100000 in
set_option maxHeartbeats 1000000 in
theorem tenancyref04_Pad.calls (a0 : ByteArray) (a1 : Int) (r1 : ByteArray) (r2 : Bool) (w : World) (h : tenancyref04_Pad.f a0 a1 = some (r1, r2)) :
    Calls Try.prog 45 #[.string a0, .int .i64 a1] w fun e w' => e = .returned (.tuple #[.string r1, .bool r2]) ∧ Below w.heap.size w w' := by
  unfold tenancyref04_Pad.f at h
  by_cases c : (a0.size : Int) > a1
  · rw [if_pos c] at h
    simp only [Option.some.injEq, Prod.mk.injEq] at h
    obtain ⟨rfl, rfl⟩ := h
    have cb : decide (a1 < (a0.size : Int)) = true := decide_eq_true c
    go_enter Try.func45, Try.ntmps45
    go_wp2
    go_ret2
    exact ⟨rfl, Below.refl _ _⟩
  rw [if_neg c] at h
  by_cases c2 : a1 ≤ 140737488355328
  · rw [if_pos c2] at h
    simp only [Option.some.injEq, Prod.mk.injEq] at h
    obtain ⟨rfl, rfl⟩ := h
    obtain ⟨n, rfl⟩ : ∃ n : Nat, a1 = ((a0.size + n : Nat) : Int) := ⟨a1.toNat - a0.size, by omega⟩
    have hn : ((a0.size + n : Nat) : Int).toNat - a0.size = n := by omega
    rw [hn]
    have hs : a0.size + n ≤ 140737488355328 := by omega
    obtain ⟨i0, hi, hz0, hz1, hz2⟩ := info_parts pinfo5
    have kb := fun W => print_bytes (P := Try.prog) 9 39 5 Try.underlying9 Try.underlying39 Try.underlying5 a0 W
    have HC := Aside0.mk (XOrow.ORow.conv w 5 a0 (by omega))
    have HB := Aside0.mk (bytes_below (Below.refl w.heap.size w) (Nat.le_refl _) 5 a0)
    clear c c2 hn
    obtain ⟨W1, hW1⟩ : ∃ W1, W1 = Lib.bytesWorld w 5 a0 := ⟨_, rfl⟩
    rw [← hW1] at HC HB
    have kb1 := kb w
    rw [← hW1] at kb1
    clear kb
    have HW := Lib.hid hW1
    clear hW1
    have hsz : W1.heap.size = w.heap.size + 1 := by rw [HW.out, Lib.bytesWorld_size]
    have HZ := Lib.hid hsz
    clear hsz
    go_enter Try.func45, Try.ntmps45
    go_wp2_with fail
    have hsize : a0.size ≤ 140737488355328 := by omega
    have hne : ∀ m, (nums .u8 (bytesOf a0 ++ zerosI m)).length = a0.size + m := fun m => by rw [nums_length, List.length_append, bytesOf_length]; simp [zerosI]
    have HN := Lib.hid hne
    clear hne
    have HW1 := Aside0.mk (show w.heap.size ≤ W1.heap.size by have := HZ.out; omega)
    go_loopg [6] n (fun gg v wr => ∃ m : Nat, Aside0 (m + gg = n) ∧ Aside0 (XOrow.ORow wr w.heap.size 5 v (nums .u8 (bytesOf a0 ++ zerosI m))) ∧ Aside0 (Below w.heap.size w wr) ∧ Aside0 (w.heap.size ≤ wr.heap.size))
    case atStart => exact ⟨0, ⟨by omega⟩, ⟨by rw [show zerosI 0 = [] from rfl, List.append_nil]; exact HC.out⟩, HB, HW1⟩
    case round =>
      clear HB HC kb1 HW1
      obtain ⟨m, HM, HO, HB, HS⟩ := hrel
      obtain ⟨A, c, hv⟩ := HO.out.shape
      rw [HN.out] at hv
      subst hv
      by_cases hlt : m < n
      · go_wp2_with (at_builtin; refine XOrow.append_orow w _ rfl (.tmp 17) (.tmp 18) 39 5 rfl i0 (.int .u8 0) 1 Try.underlying39 hi hz0 hz1 hz2 rfl rfl (HO.out.alloc _) ?hb ?hbase ⟨wr.heap.size, 0, none⟩ 1 1 [.int .u8 0] rfl rfl ?c1 ?c2 ?c3 ?c4 ?nx)
        case hb => exact below_alloc HB.out _
        case hbase => simp; exact Nat.le_succ_of_le HS.out
        case c1 =>
          intro j u hj
          match j, hj with
          | 0, hj => simp at hj; subst hj; simp [Addr.add]
        case c2 => intro u hu; simp at hu; subst hu; rfl
        case c3 => rw [HN.out]; unfold maxLen; omega
        case c4 => rw [HN.out]; omega
        case nx =>
          intro v' w1 hor hb1 hs1
          have HO1 := Aside0.mk (show XOrow.ORow w1 w.heap.size 5 v' (nums .u8 (bytesOf a0 ++ zerosI (m + 1))) by
            rw [← zerosI_snoc, ← List.append_assoc, nums_append]; exact hor)
          have HB1 := Aside0.mk hb1
          have HS1 := Aside0.mk hs1
          clear hor hb1 hs1 HO HB HS
          go_wp2
          go_roundg (n - (m + 1))
          case measure => have := HM.out; omega
          case rel => exact ⟨m + 1, ⟨by omega⟩, HO1, HB1, HS1⟩
      · have hmn : m = n := by have := HM.out; omega
        subst hmn
        have hcv := XOrow.ORow.str (P := Try.prog) (src := 39) (dst := 9) Try.underlying39 Try.underlying5 Try.underlying9 HO.out
        go_wp2
        go_ret2
        exact ⟨rfl, HB.out⟩
  · rw [if_neg c2] at h; cases h

/-! ### tenancyref14_zeros: function 22 -/
def tenancyref14_zeros.f (a0 : Int) : Option (ByteArray) := (tenancyref04_Pad.f (⟨#[]⟩ : ByteArray) a0).bind fun bt201 => (some bt201.1)
set_option maxHeartbeats 8000000 in
set_option maxRecDepth 100000 in
theorem tenancyref14_zeros.calls (a0 : Int) (r : ByteArray) (w : World) (h : tenancyref14_zeros.f a0 = some r) :
    Calls Try.prog 22 #[.int .i64 a0] w fun e w' => e = .returned (.string r) ∧ Below w.heap.size w w' := by
  have HB := Aside0.mk (Below.refl w.heap.size w)
  have H : ((tenancyref04_Pad.f (⟨#[]⟩ : ByteArray) a0).bind fun bt201 => (some bt201.1)) = some r := h
  clear h
  replace H := Option.bind_eq_some_iff.mp H
  obtain ⟨⟨t201, t202⟩, A20, H⟩ := H
  replace H : (some t201) = some r := H
  have A2 := Aside0.mk A20
  clear A20
  obtain rfl := Option.some.inj H
  go_enter Try.func22, Try.ntmps22
  go_wp2_with (first | ((with_reducible refine gate_callee (f := 45) rfl ?_); refine goesL_ (some 7) rfl rfl Try.func45 (by kernel_rfl) rfl #[.string (⟨#[]⟩ : ByteArray), .int .i64 a0] rfl (by (try simp only [List.map_toArray, List.map_cons, List.map_nil]); first | done | rfl | (simp only [List.length_drop, List.length_take]; rfl)) ?_; (with_reducible refine (tenancyref04_Pad.calls (⟨#[]⟩ : ByteArray) a0 t201 t202 _ A2.out).mono ?_); rintro e w3 ⟨rfl, hb⟩; refine ⟨_, rfl, ?_⟩; have n0_ := Aside0.mk (below_step (by repeat (first | (with_reducible first | exact HB.out | apply below_alloc | apply pw_below_drewN | apply below_drew1) | exact HB.out)) hb); clear HB; have HB := n0_; clear n0_; (try clear hb); (try clear hb2); (try clear hk); (try clear hi)))
  go_ret
  exact ⟨by first | rfl | (simp [errW_none, errW_some] <;> rfl) | (simp [*, errW_none, errW_some] <;> rfl), by repeat (first | (with_reducible first | exact HB.out | apply below_alloc | apply pw_below_drewN | apply below_drew1) | exact HB.out)⟩

/-! ### tenancyref13_place: function 49 -/
def tenancyref13_place.l0 : Nat → List (S47) → Int → Int → Option (Int)
  | 0, _, _, _ => none
  | k + 1, x0, x1, x5 => if x5 < (x0.length : Int) then (if 0 ≤ x5 then (if ((rd_T47 x0 x5).f0) = x1 then (some x5) else (tenancyref13_place.l0 k x0 x1 (wrap64 (x5 + 1)))) else (none)) else (some (-1))
def tenancyref13_place.f (k : Nat) (l0 : List (S47)) (a1 : Int) : Option (Int) := tenancyref13_place.l0 k l0 a1 0
theorem tenancyref13_place.mono_l : ∀ k, (∀ y0 y1 y2, LeO (tenancyref13_place.l0 k y0 y1 y2) (tenancyref13_place.l0 (k + 1) y0 y1 y2))
  | 0 => fun _ _ _ r h => by simp [tenancyref13_place.l0] at h
  | k + 1 => by
    have ih0 := tenancyref13_place.mono_l k
    · intro y0 y1 y2
      unfold tenancyref13_place.l0
      repeat' first
      | (with_reducible exact ih0 _ _ _)
      | (with_reducible exact LeO.refl _)
      | (with_reducible exact LeO.none _)
      | (with_reducible refine LeO.ite ?_ ?_)
      | (with_reducible refine LeO.bind ?_ (fun _ => ?_))
      | exact ih0 _ _ _
      | exact LeO.none _
      | refine LeO.ite ?_ ?_
      | refine LeO.bind ?_ (fun _ => ?_)
theorem tenancyref13_place.mono : ∀ a0 a1 k, LeO (tenancyref13_place.f k a0 a1) (tenancyref13_place.f (k + 1) a0 a1) := by
  intro a0 a1 k
  have ih0 := tenancyref13_place.mono_l k
  unfold tenancyref13_place.f
  repeat' first
      | (with_reducible exact ih0 _ _ _)
      | (with_reducible exact LeO.refl _)
      | (with_reducible exact LeO.none _)
      | (with_reducible refine LeO.ite ?_ ?_)
      | (with_reducible refine LeO.bind ?_ (fun _ => ?_))
      | exact ih0 _ _ _
      | exact LeO.none _
      | refine LeO.ite ?_ ?_
      | refine LeO.bind ?_ (fun _ => ?_)
set_option maxHeartbeats 8000000 in
set_option maxRecDepth 100000 in
theorem tenancyref13_place.calls (k : Nat) (A0 : Option Addr) (c0 : Nat) (l0 : List (S47)) (a1 : Int) (r : Int) (w : World) (hr0 : Kd.C k47 w A0 l0.length l0) (hc0 : l0.length ≤ c0) (h : tenancyref13_place.f k l0 a1 = some r) :
    Calls Try.prog 49 #[.slice A0 l0.length c0, .int .u8 a1] w fun e w' => e = .returned (.int .i64 r) ∧ Drawn0 w w' := by
  have HR0 := Aside0.mk hr0
  have HC0 := Aside0.mk hc0
  clear hr0 hc0
  have H : (tenancyref13_place.l0 k l0 a1 0) = some r := h
  clear h
  have H' := Aside0.mk H
  clear H
  go_enter Try.func49, Try.ntmps49
  go_wp2
  go_loopg [5] k (fun kq v5 w' => ∃ (x5_1 : Int), v5 = .int .i64 x5_1 ∧ Aside0 (tenancyref13_place.l0 kq l0 a1 x5_1 = some r) ∧ Aside0 (kq ≤ k) ∧ Drawn0 w w')
  case atStart => exact ⟨(0), (by first | rfl | (simp; done) | (simp only [ByteArray.size_extract]; rw [Nat.min_eq_left (by omega)]; done) | (simp [*]; done)), H', ⟨Nat.le_refl _⟩, by repeat (first | exact Drawn0.refl _ | apply Drawn0.step)⟩
  case round =>
    clear H'
    try clear p2
    obtain ⟨x5_1, rfl, HA, HK1, ⟨m1, rfl⟩⟩ := hrel
    cases gk with
    | zero => exact absurd HA.out (by simp [tenancyref13_place.l0])
    | succ k1 =>
      have H := HA.out
      clear HA
      simp only [tenancyref13_place.l0] at H
      by_cases c3 : x5_1 < (l0.length : Int)
      · rw [if_pos c3] at H
        have c3b0 : decide (x5_1 < (l0.length : Int)) = true := decide_eq_true c3
        clear c3
        by_cases c4 : 0 ≤ x5_1
        · rw [if_pos c4] at H
          have c4b0 : decide (0 ≤ x5_1) = true := decide_eq_true c4
          clear c4
          by_cases c5 : ((rd_T47 l0 x5_1).f0) = a1
          · rw [if_pos c5] at H
            have c5b0 : (((rd_T47 l0 x5_1).f0) == a1) = true := beq_iff_eq.mpr c5
            have c5b1 : (((rd_T47 l0 x5_1).f0) != a1) = false := bne_eq_false_iff_eq.mpr c5
            clear c5
            obtain rfl := Option.some.inj H
            have p207 : 0 ≤ (x5_1 : Int) := of_decide_eq_true (by first | (with_reducible assumption) | assumption)
            have q207 : x5_1 < (l0.length : Int) := of_decide_eq_true (by first | (with_reducible assumption) | assumption)
            obtain ⟨ad207, e207, hx207_0, hx207_1⟩ := at_T47 HR0.out x5_1 p207 q207
            cases e207
            replace p207 := eq_true p207
            replace q207 := eq_true q207
            go_wp2
            go_ret
            exact ⟨by first | rfl | (simp; done) | (simp [*]; done), by repeat (first | exact Drawn0.refl _ | apply Drawn0.step)⟩
          · rw [if_neg c5] at H
            have c5b0 : (((rd_T47 l0 x5_1).f0) == a1) = false := beq_eq_false_iff_ne.mpr c5
            have c5b1 : (((rd_T47 l0 x5_1).f0) != a1) = true := bne_iff_ne.mpr c5
            have H' := Aside0.mk H
            clear H
            have p207 : 0 ≤ (x5_1 : Int) := of_decide_eq_true (by first | (with_reducible assumption) | assumption)
            have q207 : x5_1 < (l0.length : Int) := of_decide_eq_true (by first | (with_reducible assumption) | assumption)
            obtain ⟨ad207, e207, hx207_0, hx207_1⟩ := at_T47 HR0.out x5_1 p207 q207
            cases e207
            replace p207 := eq_true p207
            replace q207 := eq_true q207
            go_wp2
            go_roundg k1
            case measure => have := HK1.out; omega
            case rel => exact ⟨(wrap64 (x5_1 + 1)), (by first | rfl | (simp; done) | (simp only [ByteArray.size_extract]; rw [Nat.min_eq_left (by omega)]; done) | (simp [*]; done)), H', ⟨by have := HK1.out; omega⟩, by repeat (first | exact Drawn0.refl _ | apply Drawn0.step)⟩
        · rw [if_neg c4] at H
          exact absurd H (by simp)
      · rw [if_neg c3] at H
        have c3b0 : decide (x5_1 < (l0.length : Int)) = false := decide_eq_false c3
        clear c3
        obtain rfl := Option.some.inj H
        go_wp2
        go_ret
        exact ⟨by first | rfl | (simp; done) | (simp [*]; done), by repeat (first | exact Drawn0.refl _ | apply Drawn0.step)⟩

/-! ### tenancyref13_Find: function 33 -/
def tenancyref13_Find.f (k : Nat) (l0 : List (S47)) (a1 : Int) : Option (ByteArray × Bool) := (tenancyref13_place.f k l0 a1).bind fun t235 => (if t235 < 0 then (some ((⟨#[]⟩ : ByteArray), false)) else (if 0 ≤ t235 then (if t235 < (l0.length : Int) then (some ((rd_T47 l0 t235).f1, true)) else (none)) else (none)))
theorem tenancyref13_Find.mono : ∀ a0 a1 k, LeO (tenancyref13_Find.f k a0 a1) (tenancyref13_Find.f (k + 1) a0 a1) := by
  intro a0 a1 k
  unfold tenancyref13_Find.f
  repeat' first
      | (with_reducible exact tenancyref13_place.mono _ _ _)
      | (with_reducible exact LeO.refl _)
      | (with_reducible exact LeO.none _)
      | (with_reducible refine LeO.ite ?_ ?_)
      | (with_reducible refine LeO.bind ?_ (fun _ => ?_))
      | exact tenancyref13_place.mono _ _ _
      | exact LeO.none _
      | refine LeO.ite ?_ ?_
      | refine LeO.bind ?_ (fun _ => ?_)
set_option maxHeartbeats 8000000 in
set_option maxRecDepth 100000 in
theorem tenancyref13_Find.calls (k : Nat) (A0 : Option Addr) (c0 : Nat) (l0 : List (S47)) (a1 : Int) (r1 : ByteArray) (r2 : Bool) (w : World) (hr0 : Kd.C k47 w A0 l0.length l0) (hc0 : l0.length ≤ c0) (h : tenancyref13_Find.f k l0 a1 = some (r1, r2)) :
    Calls Try.prog 33 #[.slice A0 l0.length c0, .int .u8 a1] w fun e w' => e = .returned (.tuple #[.string r1, .bool r2]) ∧ Drawn0 w w' := by
  have HR0 := Aside0.mk hr0
  have HC0 := Aside0.mk hc0
  clear hr0 hc0
  have H : ((tenancyref13_place.f k l0 a1).bind fun t235 => (if t235 < 0 then (some ((⟨#[]⟩ : ByteArray), false)) else (if 0 ≤ t235 then (if t235 < (l0.length : Int) then (some ((rd_T47 l0 t235).f1, true)) else (none)) else (none)))) = some (r1, r2) := h
  clear h
  replace H := Option.bind_eq_some_iff.mp H
  obtain ⟨t235, A30, H⟩ := H
  replace H : (if t235 < 0 then (some ((⟨#[]⟩ : ByteArray), false)) else (if 0 ≤ t235 then (if t235 < (l0.length : Int) then (some ((rd_T47 l0 t235).f1, true)) else (none)) else (none))) = some (r1, r2) := H
  have A3 := Aside0.mk A30
  clear A30
  by_cases c4 : t235 < 0
  · rw [if_pos c4] at H
    have c4b0 : decide (t235 < 0) = true := decide_eq_true c4
    clear c4
    simp only [Option.some.injEq, Prod.mk.injEq] at H
    obtain ⟨rfl, rfl⟩ := H
    go_enter Try.func33, Try.ntmps33
    go_wp2_with (first | ((with_reducible refine gate_callee (f := 49) rfl ?_); refine goesL_ (some 9) rfl rfl Try.func49 (by kernel_rfl) rfl #[.slice A0 l0.length c0, .int .u8 a1] rfl (by (try simp only [List.map_toArray, List.map_cons, List.map_nil]); first | done | rfl | (simp only [List.length_drop, List.length_take]; rfl)) ?_; (with_reducible refine (tenancyref13_place.calls k _ _ l0 a1 t235 _ ?side1 ?side2 A3.out).mono ?_); (case side1 => repeat (first | exact HR0.out | (with_reducible refine Kd.C_alloc ?_ _) | (with_reducible refine Kd.C_drewN ?_ _) | (with_reducible refine Kd.C_drew ?_))); (case side2 => exact HC0.out); rintro e w' ⟨rfl, ⟨nd, rfl⟩⟩; refine ⟨_, rfl, ?_⟩))
    go_ret2
    exact ⟨by first | rfl | (simp; done) | (simp [*]; done), by repeat (first | exact Drawn0.refl _ | apply Drawn0.step)⟩
  · rw [if_neg c4] at H
    have c4b0 : decide (t235 < 0) = false := decide_eq_false c4
    clear c4
    by_cases c5 : 0 ≤ t235
    · rw [if_pos c5] at H
      have c5b0 : decide (0 ≤ t235) = true := decide_eq_true c5
      clear c5
      by_cases c6 : t235 < (l0.length : Int)
      · rw [if_pos c6] at H
        have c6b0 : decide (t235 < (l0.length : Int)) = true := decide_eq_true c6
        clear c6
        simp only [Option.some.injEq, Prod.mk.injEq] at H
        obtain ⟨rfl, rfl⟩ := H
        go_enter Try.func33, Try.ntmps33
        go_wp2_with (first | ((with_reducible refine gate_callee (f := 49) rfl ?_); refine goesL_ (some 9) rfl rfl Try.func49 (by kernel_rfl) rfl #[.slice A0 l0.length c0, .int .u8 a1] rfl (by (try simp only [List.map_toArray, List.map_cons, List.map_nil]); first | done | rfl | (simp only [List.length_drop, List.length_take]; rfl)) ?_; (with_reducible refine (tenancyref13_place.calls k _ _ l0 a1 t235 _ ?side1 ?side2 A3.out).mono ?_); (case side1 => repeat (first | exact HR0.out | (with_reducible refine Kd.C_alloc ?_ _) | (with_reducible refine Kd.C_drewN ?_ _) | (with_reducible refine Kd.C_drew ?_))); (case side2 => exact HC0.out); rintro e w' ⟨rfl, ⟨nd, rfl⟩⟩; refine ⟨_, rfl, ?_⟩; have p236 : 0 ≤ (t235 : Int) := of_decide_eq_true (by first | (with_reducible assumption) | assumption); have q236 : t235 < (l0.length : Int) := of_decide_eq_true (by first | (with_reducible assumption) | assumption); obtain ⟨ad236, e236, hx236_0, hx236_1⟩ := at_T47 HR0.out t235 p236 q236; cases e236; replace p236 := eq_true p236; replace q236 := eq_true q236))
        go_ret2
        exact ⟨by first | rfl | (simp; done) | (simp [*]; done), by repeat (first | exact Drawn0.refl _ | apply Drawn0.step)⟩
      · rw [if_neg c6] at H
        exact absurd H (by simp)
    · rw [if_neg c5] at H
      exact absurd H (by simp)

/-! ### tenancyref04_Cut: function 69 -/
def tenancyref04_Cut.f (a0 : ByteArray) (a1 : Int) (a2 : Int) : Option (ByteArray × Bool) := if a1 < 0 then (some ((⟨#[]⟩ : ByteArray), false)) else (if a2 < 0 then (some ((⟨#[]⟩ : ByteArray), false)) else (if a1 > (a0.size : Int) then (some ((⟨#[]⟩ : ByteArray), false)) else (if a2 > (wrap64 ((a0.size : Int) - a1)) then (some ((⟨#[]⟩ : ByteArray), false)) else (if 0 ≤ a1 then (if a1 ≤ (wrap64 (a1 + a2)) then (if (wrap64 (a1 + a2)) ≤ (a0.size : Int) then (some (a0.extract (a1 : Int).toNat ((wrap64 (a1 + a2)) : Int).toNat, true)) else (none)) else (none)) else (none)))))
set_option maxHeartbeats 8000000 in
set_option maxRecDepth 100000 in
theorem tenancyref04_Cut.calls (a0 : ByteArray) (a1 : Int) (a2 : Int) (r1 : ByteArray) (r2 : Bool) (w : World) (h : tenancyref04_Cut.f a0 a1 a2 = some (r1, r2)) :
    Calls Try.prog 69 #[.string a0, .int .i64 a1, .int .i64 a2] w fun e w' => e = .returned (.tuple #[.string r1, .bool r2]) ∧ Drawn0 w w' := by
  have H : (if a1 < 0 then (some ((⟨#[]⟩ : ByteArray), false)) else (if a2 < 0 then (some ((⟨#[]⟩ : ByteArray), false)) else (if a1 > (a0.size : Int) then (some ((⟨#[]⟩ : ByteArray), false)) else (if a2 > (wrap64 ((a0.size : Int) - a1)) then (some ((⟨#[]⟩ : ByteArray), false)) else (if 0 ≤ a1 then (if a1 ≤ (wrap64 (a1 + a2)) then (if (wrap64 (a1 + a2)) ≤ (a0.size : Int) then (some (a0.extract (a1 : Int).toNat ((wrap64 (a1 + a2)) : Int).toNat, true)) else (none)) else (none)) else (none)))))) = some (r1, r2) := h
  clear h
  by_cases c4 : a1 < 0
  · rw [if_pos c4] at H
    have c4b0 : decide (a1 < 0) = true := decide_eq_true c4
    clear c4
    simp only [Option.some.injEq, Prod.mk.injEq] at H
    obtain ⟨rfl, rfl⟩ := H
    go_enter Try.func69, Try.ntmps69
    go_wp2
    go_ret2
    exact ⟨by first | rfl | (simp; done) | (simp [*]; done), by repeat (first | exact Drawn0.refl _ | apply Drawn0.step)⟩
  · rw [if_neg c4] at H
    have c4b0 : decide (a1 < 0) = false := decide_eq_false c4
    clear c4
    by_cases c5 : a2 < 0
    · rw [if_pos c5] at H
      have c5b0 : decide (a2 < 0) = true := decide_eq_true c5
      clear c5
      simp only [Option.some.injEq, Prod.mk.injEq] at H
      obtain ⟨rfl, rfl⟩ := H
      go_enter Try.func69, Try.ntmps69
      go_wp2
      go_ret2
      exact ⟨by first | rfl | (simp; done) | (simp [*]; done), by repeat (first | exact Drawn0.refl _ | apply Drawn0.step)⟩
    · rw [if_neg c5] at H
      have c5b0 : decide (a2 < 0) = false := decide_eq_false c5
      clear c5
      by_cases c6 : a1 > (a0.size : Int)
      · rw [if_pos c6] at H
        have c6b0 : decide ((a0.size : Int) < a1) = true := decide_eq_true c6
        clear c6
        simp only [Option.some.injEq, Prod.mk.injEq] at H
        obtain ⟨rfl, rfl⟩ := H
        go_enter Try.func69, Try.ntmps69
        go_wp2
        go_ret2
        exact ⟨by first | rfl | (simp; done) | (simp [*]; done), by repeat (first | exact Drawn0.refl _ | apply Drawn0.step)⟩
      · rw [if_neg c6] at H
        have c6b0 : decide ((a0.size : Int) < a1) = false := decide_eq_false c6
        clear c6
        by_cases c7 : a2 > (wrap64 ((a0.size : Int) - a1))
        · rw [if_pos c7] at H
          have c7b0 : decide ((wrap64 ((a0.size : Int) - a1)) < a2) = true := decide_eq_true c7
          clear c7
          simp only [Option.some.injEq, Prod.mk.injEq] at H
          obtain ⟨rfl, rfl⟩ := H
          go_enter Try.func69, Try.ntmps69
          go_wp2
          go_ret2
          exact ⟨by first | rfl | (simp; done) | (simp [*]; done), by repeat (first | exact Drawn0.refl _ | apply Drawn0.step)⟩
        · rw [if_neg c7] at H
          have c7b0 : decide ((wrap64 ((a0.size : Int) - a1)) < a2) = false := decide_eq_false c7
          clear c7
          by_cases c8 : 0 ≤ a1
          · rw [if_pos c8] at H
            have c8b0 := eq_true c8
            have c8b1 : decide (0 ≤ a1) = true := decide_eq_true c8
            clear c8
            by_cases c9 : a1 ≤ (wrap64 (a1 + a2))
            · rw [if_pos c9] at H
              have c9b0 := eq_true c9
              have c9b1 : decide (a1 ≤ (wrap64 (a1 + a2))) = true := decide_eq_true c9
              by_cases c10 : (wrap64 (a1 + a2)) ≤ (a0.size : Int)
              · rw [if_pos c10] at H
                have c10b0 := eq_true c10
                have c10b1 : decide ((wrap64 (a1 + a2)) ≤ (a0.size : Int)) = true := decide_eq_true c10
                simp only [Option.some.injEq, Prod.mk.injEq] at H
                obtain ⟨rfl, rfl⟩ := H
                go_enter Try.func69, Try.ntmps69
                go_wp2
                go_ret2
                exact ⟨by first | rfl | (simp; done) | (simp [*]; done), by repeat (first | exact Drawn0.refl _ | apply Drawn0.step)⟩
              · rw [if_neg c10] at H
                exact absurd H (by simp)
            · rw [if_neg c9] at H
              exact absurd H (by simp)
          · rw [if_neg c8] at H
            exact absurd H (by simp)

/-! ### tenancyref04_get: function 64 -/
def tenancyref04_get.l0 : Nat → ByteArray → Bool → Int → Int → Option (Int × Bool)
  | 0, _, _, _, _ => none
  | k + 1, x8, x9, x10, x11 => if x11 < (x8.size : Int) then (if 0 ≤ x11 then (tenancyref04_get.l0 k x8 x9 (IntKind.u64.wrap ((IntKind.u64.wrap (x10 * 256)) + (IntKind.u64.wrap (bt x8 x11)))) (wrap64 (x11 + 1))) else (none)) else (some (x10, x9))
def tenancyref04_get.f (k : Nat) (a0 : ByteArray) (a1 : Int) (a2 : Int) : Option (Int × Bool) := (tenancyref04_Cut.f a0 a1 a2).bind fun bt307 => (tenancyref04_get.l0 k bt307.1 bt307.2 0 0)
theorem tenancyref04_get.mono_l : ∀ k, (∀ y0 y1 y2 y3, LeO (tenancyref04_get.l0 k y0 y1 y2 y3) (tenancyref04_get.l0 (k + 1) y0 y1 y2 y3))
  | 0 => fun _ _ _ _ r h => by simp [tenancyref04_get.l0] at h
  | k + 1 => by
    have ih0 := tenancyref04_get.mono_l k
    · intro y0 y1 y2 y3
      unfold tenancyref04_get.l0
      repeat' first
      | (with_reducible exact ih0 _ _ _ _)
      | (with_reducible exact LeO.refl _)
      | (with_reducible exact LeO.none _)
      | (with_reducible refine LeO.ite ?_ ?_)
      | (with_reducible refine LeO.bind ?_ (fun _ => ?_))
      | exact ih0 _ _ _ _
      | exact LeO.none _
      | refine LeO.ite ?_ ?_
      | refine LeO.bind ?_ (fun _ => ?_)
theorem tenancyref04_get.mono : ∀ a0 a1 a2 k, LeO (tenancyref04_get.f k a0 a1 a2) (tenancyref04_get.f (k + 1) a0 a1 a2) := by
  intro a0 a1 a2 k
  have ih0 := tenancyref04_get.mono_l k
  unfold tenancyref04_get.f
  repeat' first
      | (with_reducible exact ih0 _ _ _ _)
      | (with_reducible exact LeO.refl _)
      | (with_reducible exact LeO.none _)
      | (with_reducible refine LeO.ite ?_ ?_)
      | (with_reducible refine LeO.bind ?_ (fun _ => ?_))
      | exact ih0 _ _ _ _
      | exact LeO.none _
      | refine LeO.ite ?_ ?_
      | refine LeO.bind ?_ (fun _ => ?_)
set_option maxHeartbeats 8000000 in
set_option maxRecDepth 100000 in
theorem tenancyref04_get.calls (k : Nat) (a0 : ByteArray) (a1 : Int) (a2 : Int) (r1 : Int) (r2 : Bool) (w : World) (h : tenancyref04_get.f k a0 a1 a2 = some (r1, r2)) :
    Calls Try.prog 64 #[.string a0, .int .i64 a1, .int .i64 a2] w fun e w' => e = .returned (.tuple #[.int .u64 r1, .bool r2]) ∧ Drawn0 w w' := by
  have H : ((tenancyref04_Cut.f a0 a1 a2).bind fun bt307 => (tenancyref04_get.l0 k bt307.1 bt307.2 0 0)) = some (r1, r2) := h
  clear h
  replace H := Option.bind_eq_some_iff.mp H
  obtain ⟨⟨t307, t308⟩, A40, H⟩ := H
  replace H : (tenancyref04_get.l0 k t307 t308 0 0) = some (r1, r2) := H
  have A4 := Aside0.mk A40
  clear A40
  have H' := Aside0.mk H
  clear H
  go_enter Try.func64, Try.ntmps64
  go_wp2_with (first | ((with_reducible refine gate_callee (f := 69) rfl ?_); refine goesL_ (some 16) rfl rfl Try.func69 (by kernel_rfl) rfl #[.string a0, .int .i64 a1, .int .i64 a2] rfl (by (try simp only [List.map_toArray, List.map_cons, List.map_nil]); first | done | rfl | (simp only [List.length_drop, List.length_take]; rfl)) ?_; (with_reducible refine (tenancyref04_Cut.calls a0 a1 a2 t307 t308 _ A4.out).mono ?_); rintro e w' ⟨rfl, ⟨nd, rfl⟩⟩; refine ⟨_, rfl, ?_⟩))
  go_loopg [10, 11] k (fun kq v10 v11 w' => ∃ (x10_1 : Int) (x11_1 : Int), v10 = .int .u64 x10_1 ∧ v11 = .int .i64 x11_1 ∧ Aside0 (tenancyref04_get.l0 kq t307 t308 x10_1 x11_1 = some (r1, r2)) ∧ Aside0 (kq ≤ k) ∧ Drawn0 w w')
  case atStart => exact ⟨(0), (0), (by first | rfl | (simp; done) | (simp only [ByteArray.size_extract]; rw [Nat.min_eq_left (by omega)]; done) | (simp [*]; done)), (by first | rfl | (simp; done) | (simp only [ByteArray.size_extract]; rw [Nat.min_eq_left (by omega)]; done) | (simp [*]; done)), H', ⟨Nat.le_refl _⟩, by repeat (first | exact Drawn0.refl _ | apply Drawn0.step)⟩
  case round =>
    clear H'
    try clear p2
    obtain ⟨x10_1, x11_1, rfl, rfl, HA, HK1, ⟨m1, rfl⟩⟩ := hrel
    cases gk with
    | zero => exact absurd HA.out (by simp [tenancyref04_get.l0])
    | succ k1 =>
      have H := HA.out
      clear HA
      simp only [tenancyref04_get.l0] at H
      by_cases c5 : x11_1 < (t307.size : Int)
      · rw [if_pos c5] at H
        have c5b0 : decide (x11_1 < (t307.size : Int)) = true := decide_eq_true c5
        clear c5
        by_cases c6 : 0 ≤ x11_1
        · rw [if_pos c6] at H
          have c6b0 : decide (0 ≤ x11_1) = true := decide_eq_true c6
          clear c6
          have H' := Aside0.mk H
          clear H
          have p7 : 0 ≤ (x11_1 : Int) := of_decide_eq_true (by first | (with_reducible assumption) | assumption)
          have q7 : x11_1 < (t307.size : Int) := of_decide_eq_true (by first | (with_reducible assumption) | assumption)
          have hx7 := bt_at t307 x11_1
          replace p7 := eq_true p7
          replace q7 := eq_true q7
          go_wp2
          go_roundg k1
          case measure => have := HK1.out; omega
          case rel => exact ⟨(IntKind.u64.wrap ((IntKind.u64.wrap (x10_1 * 256)) + (IntKind.u64.wrap (bt t307 x11_1)))), (wrap64 (x11_1 + 1)), (by first | rfl | (simp; done) | (simp only [ByteArray.size_extract]; rw [Nat.min_eq_left (by omega)]; done) | (simp [*]; done)), (by first | rfl | (simp; done) | (simp only [ByteArray.size_extract]; rw [Nat.min_eq_left (by omega)]; done) | (simp [*]; done)), H', ⟨by have := HK1.out; omega⟩, by repeat (first | exact Drawn0.refl _ | apply Drawn0.step)⟩
        · rw [if_neg c6] at H
          exact absurd H (by simp)
      · rw [if_neg c5] at H
        have c5b0 : decide (x11_1 < (t307.size : Int)) = false := decide_eq_false c5
        clear c5
        simp only [Option.some.injEq, Prod.mk.injEq] at H
        obtain ⟨rfl, rfl⟩ := H
        go_wp2
        go_ret2
        exact ⟨by first | rfl | (simp; done) | (simp [*]; done), by repeat (first | exact Drawn0.refl _ | apply Drawn0.step)⟩

/-! ### tenancyref04_Get32: function 54 -/
def tenancyref04_Get32.f (k : Nat) (a0 : ByteArray) (a1 : Int) : Option (Int × Bool) := (tenancyref04_get.f k a0 a1 4).bind fun bt309 => (some ((bt309.1) % 4294967296, bt309.2))
theorem tenancyref04_Get32.mono : ∀ a0 a1 k, LeO (tenancyref04_Get32.f k a0 a1) (tenancyref04_Get32.f (k + 1) a0 a1) := by
  intro a0 a1 k
  unfold tenancyref04_Get32.f
  repeat' first
      | (with_reducible exact tenancyref04_get.mono _ _ _ _)
      | (with_reducible exact LeO.refl _)
      | (with_reducible exact LeO.none _)
      | (with_reducible refine LeO.ite ?_ ?_)
      | (with_reducible refine LeO.bind ?_ (fun _ => ?_))
      | exact tenancyref04_get.mono _ _ _ _
      | exact LeO.none _
      | refine LeO.ite ?_ ?_
      | refine LeO.bind ?_ (fun _ => ?_)
set_option maxHeartbeats 8000000 in
set_option maxRecDepth 100000 in
theorem tenancyref04_Get32.calls (k : Nat) (a0 : ByteArray) (a1 : Int) (r1 : Int) (r2 : Bool) (w : World) (h : tenancyref04_Get32.f k a0 a1 = some (r1, r2)) :
    Calls Try.prog 54 #[.string a0, .int .i64 a1] w fun e w' => e = .returned (.tuple #[.int .u32 r1, .bool r2]) ∧ Drawn0 w w' := by
  have H : ((tenancyref04_get.f k a0 a1 4).bind fun bt309 => (some ((bt309.1) % 4294967296, bt309.2))) = some (r1, r2) := h
  clear h
  replace H := Option.bind_eq_some_iff.mp H
  obtain ⟨⟨t309, t310⟩, A30, H⟩ := H
  replace H : (some ((t309) % 4294967296, t310)) = some (r1, r2) := H
  have A3 := Aside0.mk A30
  clear A30
  simp only [Option.some.injEq, Prod.mk.injEq] at H
  obtain ⟨rfl, rfl⟩ := H
  go_enter Try.func54, Try.ntmps54
  go_wp2_with (first | ((with_reducible refine gate_callee (f := 64) rfl ?_); refine goesL_ (some 11) rfl rfl Try.func64 (by kernel_rfl) rfl #[.string a0, .int .i64 a1, .int .i64 4] rfl (by (try simp only [List.map_toArray, List.map_cons, List.map_nil]); first | done | rfl | (simp only [List.length_drop, List.length_take]; rfl)) ?_; (with_reducible refine (tenancyref04_get.calls k a0 a1 4 t309 t310 _ A3.out).mono ?_); rintro e w' ⟨rfl, ⟨nd, rfl⟩⟩; refine ⟨_, rfl, ?_⟩))
  go_ret2
  exact ⟨by first | rfl | (simp; done) | (simp [*]; done), by repeat (first | exact Drawn0.refl _ | apply Drawn0.step)⟩

/-! ### tenancyref14_word: function 36 -/
def tenancyref14_word.f (k : Nat) (a0 : ByteArray) (a1 : Int) : Option (Int) := (tenancyref04_Get32.f k a0 a1).bind fun bt311 => (some bt311.1)
theorem tenancyref14_word.mono : ∀ a0 a1 k, LeO (tenancyref14_word.f k a0 a1) (tenancyref14_word.f (k + 1) a0 a1) := by
  intro a0 a1 k
  unfold tenancyref14_word.f
  repeat' first
      | (with_reducible exact tenancyref04_Get32.mono _ _ _)
      | (with_reducible exact LeO.refl _)
      | (with_reducible exact LeO.none _)
      | (with_reducible refine LeO.ite ?_ ?_)
      | (with_reducible refine LeO.bind ?_ (fun _ => ?_))
      | exact tenancyref04_Get32.mono _ _ _
      | exact LeO.none _
      | refine LeO.ite ?_ ?_
      | refine LeO.bind ?_ (fun _ => ?_)
set_option maxHeartbeats 8000000 in
set_option maxRecDepth 100000 in
theorem tenancyref14_word.calls (k : Nat) (a0 : ByteArray) (a1 : Int) (r : Int) (w : World) (h : tenancyref14_word.f k a0 a1 = some r) :
    Calls Try.prog 36 #[.string a0, .int .i64 a1] w fun e w' => e = .returned (.int .u32 r) ∧ Drawn0 w w' := by
  have H : ((tenancyref04_Get32.f k a0 a1).bind fun bt311 => (some bt311.1)) = some r := h
  clear h
  replace H := Option.bind_eq_some_iff.mp H
  obtain ⟨⟨t311, t312⟩, A30, H⟩ := H
  replace H : (some t311) = some r := H
  have A3 := Aside0.mk A30
  clear A30
  obtain rfl := Option.some.inj H
  go_enter Try.func36, Try.ntmps36
  go_wp2_with (first | ((with_reducible refine gate_callee (f := 54) rfl ?_); refine goesL_ (some 10) rfl rfl Try.func54 (by kernel_rfl) rfl #[.string a0, .int .i64 a1] rfl (by (try simp only [List.map_toArray, List.map_cons, List.map_nil]); first | done | rfl | (simp only [List.length_drop, List.length_take]; rfl)) ?_; (with_reducible refine (tenancyref04_Get32.calls k a0 a1 t311 t312 _ A3.out).mono ?_); rintro e w' ⟨rfl, ⟨nd, rfl⟩⟩; refine ⟨_, rfl, ?_⟩))
  go_ret
  exact ⟨by first | rfl | (simp; done) | (simp [*]; done), by repeat (first | exact Drawn0.refl _ | apply Drawn0.step)⟩

/-! ### tenancyref13_area: function 55 -/
mutual
def tenancyref13_area.l0 : Nat → List (S47) → ByteArray → Int → Option ((List (S47)) × Int)
  | 0, _, _, _ => none
  | k + 1, x0, x1, x6 => if x6 < (x1.size : Int) then (if 0 ≤ x6 then (tenancyref13_area.j1 k x0 x1 x6 ((bt x1 x6) != 255)) else (none)) else (tenancyref13_area.j1 k x0 x1 x6 false)
def tenancyref13_area.j1 : Nat → List (S47) → ByteArray → Int → Bool → Option ((List (S47)) × Int)
  | 0, _, _, _, _ => none
  | k + 1, x0, x1, x6, x19 => if x19 = true then (if 0 ≤ x6 then (if x6 < (x1.size : Int) then (if (bt x1 x6) = 0 then (tenancyref13_area.l0 k x0 x1 (wrap64 (x6 + 1))) else (if (wrap64 (x6 + 1)) ≥ (x1.size : Int) then (tenancyref13_area.j2 k x0 x1 x6 (bt x1 x6) true) else (if 0 ≤ (wrap64 (x6 + 1)) then (if (wrap64 (x6 + 1)) < (x1.size : Int) then (tenancyref13_area.j2 k x0 x1 x6 (bt x1 x6) (decide ((wrap64 (bt x1 (wrap64 (x6 + 1)))) > (wrap64 ((wrap64 ((x1.size : Int) - x6)) - 2))))) else (none)) else (none)))) else (none)) else (none)) else (some (x0, 0))
def tenancyref13_area.j2 : Nat → List (S47) → ByteArray → Int → Int → Bool → Option ((List (S47)) × Int)
  | 0, _, _, _, _, _ => none
  | k + 1, x0, x1, x6, x7, x44 => if x44 = true then (some (([] : List (S47)), 3)) else (if 0 ≤ (wrap64 (x6 + 1)) then (if (wrap64 (x6 + 1)) < (x1.size : Int) then (if 0 ≤ (wrap64 (x6 + 2)) then (if (wrap64 (x6 + 2)) ≤ (wrap64 ((wrap64 (x6 + 2)) + (wrap64 (bt x1 (wrap64 (x6 + 1)))))) then (if (wrap64 ((wrap64 (x6 + 2)) + (wrap64 (bt x1 (wrap64 (x6 + 1)))))) ≤ (x1.size : Int) then ((tenancyref13_place.f k x0 x7).bind fun t313 => (if t313 < 0 then (if (x0.length : Int) ≥ 128 then (some (([] : List (S47)), 6)) else (if x0.length < 5864062014805 then (tenancyref13_area.l0 k (x0 ++ [(⟨x7, x1.extract ((wrap64 (x6 + 2)) : Int).toNat ((wrap64 ((wrap64 (x6 + 2)) + (wrap64 (bt x1 (wrap64 (x6 + 1)))))) : Int).toNat⟩ : S47)]) x1 (wrap64 ((wrap64 (x6 + 2)) + ((x1.extract ((wrap64 (x6 + 2)) : Int).toNat ((wrap64 ((wrap64 (x6 + 2)) + (wrap64 (bt x1 (wrap64 (x6 + 1)))))) : Int).toNat).size : Int)))) else (none))) else (if 0 ≤ t313 then (if t313 < (x0.length : Int) then (if (wrap64 ((((rd_T47 x0 t313).f1).size : Int) + ((x1.extract ((wrap64 (x6 + 2)) : Int).toNat ((wrap64 ((wrap64 (x6 + 2)) + (wrap64 (bt x1 (wrap64 (x6 + 1)))))) : Int).toNat).size : Int))) > 4096 then (some (([] : List (S47)), 6)) else (if ((rd_T47 x0 t313).f1).size + (x1.extract ((wrap64 (x6 + 2)) : Int).toNat ((wrap64 ((wrap64 (x6 + 2)) + (wrap64 (bt x1 (wrap64 (x6 + 1)))))) : Int).toNat).size ≤ 9223372036854775807 then (tenancyref13_area.l0 k (x0.set (t313 : Int).toNat (⟨(rd_T47 x0 t313).f0, ((rd_T47 x0 t313).f1) ++ (x1.extract ((wrap64 (x6 + 2)) : Int).toNat ((wrap64 ((wrap64 (x6 + 2)) + (wrap64 (bt x1 (wrap64 (x6 + 1)))))) : Int).toNat)⟩ : S47)) x1 (wrap64 ((wrap64 (x6 + 2)) + ((x1.extract ((wrap64 (x6 + 2)) : Int).toNat ((wrap64 ((wrap64 (x6 + 2)) + (wrap64 (bt x1 (wrap64 (x6 + 1)))))) : Int).toNat).size : Int)))) else (none))) else (none)) else (none)))) else (none)) else (none)) else (none)) else (none)) else (none))
end
def tenancyref13_area.f (k : Nat) (l0 : List (S47)) (a1 : ByteArray) : Option ((List (S47)) × Int) := tenancyref13_area.l0 k l0 a1 0
theorem tenancyref13_area.mono_l : ∀ k, (∀ y0 y1 y2, LeO (tenancyref13_area.l0 k y0 y1 y2) (tenancyref13_area.l0 (k + 1) y0 y1 y2)) ∧ (∀ y0 y1 y2 y3, LeO (tenancyref13_area.j1 k y0 y1 y2 y3) (tenancyref13_area.j1 (k + 1) y0 y1 y2 y3)) ∧ (∀ y0 y1 y2 y3 y4, LeO (tenancyref13_area.j2 k y0 y1 y2 y3 y4) (tenancyref13_area.j2 (k + 1) y0 y1 y2 y3 y4))
  | 0 => ⟨fun _ _ _ r h => by simp [tenancyref13_area.l0] at h, fun _ _ _ _ r h => by simp [tenancyref13_area.j1] at h, fun _ _ _ _ _ r h => by simp [tenancyref13_area.j2] at h⟩
  | k + 1 => by
    obtain ⟨ih0, ih1, ih2⟩ := tenancyref13_area.mono_l k
    refine ⟨?_, ?_, ?_⟩
    · intro y0 y1 y2
      unfold tenancyref13_area.l0
      repeat' first
      | (with_reducible exact ih0 _ _ _)
      | (with_reducible exact ih1 _ _ _ _)
      | (with_reducible exact ih2 _ _ _ _ _)
      | (with_reducible exact tenancyref13_place.mono _ _ _)
      | (with_reducible exact LeO.refl _)
      | (with_reducible exact LeO.none _)
      | (with_reducible refine LeO.ite ?_ ?_)
      | (with_reducible refine LeO.bind ?_ (fun _ => ?_))
      | exact ih0 _ _ _
      | exact ih1 _ _ _ _
      | exact ih2 _ _ _ _ _
      | exact tenancyref13_place.mono _ _ _
      | exact LeO.none _
      | refine LeO.ite ?_ ?_
      | refine LeO.bind ?_ (fun _ => ?_)
    · intro y0 y1 y2 y3
      unfold tenancyref13_area.j1
      repeat' first
      | (with_reducible exact ih0 _ _ _)
      | (with_reducible exact ih1 _ _ _ _)
      | (with_reducible exact ih2 _ _ _ _ _)
      | (with_reducible exact tenancyref13_place.mono _ _ _)
      | (with_reducible exact LeO.refl _)
      | (with_reducible exact LeO.none _)
      | (with_reducible refine LeO.ite ?_ ?_)
      | (with_reducible refine LeO.bind ?_ (fun _ => ?_))
      | exact ih0 _ _ _
      | exact ih1 _ _ _ _
      | exact ih2 _ _ _ _ _
      | exact tenancyref13_place.mono _ _ _
      | exact LeO.none _
      | refine LeO.ite ?_ ?_
      | refine LeO.bind ?_ (fun _ => ?_)
    · intro y0 y1 y2 y3 y4
      unfold tenancyref13_area.j2
      repeat' first
      | (with_reducible exact ih0 _ _ _)
      | (with_reducible exact ih1 _ _ _ _)
      | (with_reducible exact ih2 _ _ _ _ _)
      | (with_reducible exact tenancyref13_place.mono _ _ _)
      | (with_reducible exact LeO.refl _)
      | (with_reducible exact LeO.none _)
      | (with_reducible refine LeO.ite ?_ ?_)
      | (with_reducible refine LeO.bind ?_ (fun _ => ?_))
      | exact ih0 _ _ _
      | exact ih1 _ _ _ _
      | exact ih2 _ _ _ _ _
      | exact tenancyref13_place.mono _ _ _
      | exact LeO.none _
      | refine LeO.ite ?_ ?_
      | refine LeO.bind ?_ (fun _ => ?_)
theorem tenancyref13_area.mono : ∀ a0 a1 k, LeO (tenancyref13_area.f k a0 a1) (tenancyref13_area.f (k + 1) a0 a1) := by
  intro a0 a1 k
  obtain ⟨ih0, ih1, ih2⟩ := tenancyref13_area.mono_l k
  unfold tenancyref13_area.f
  repeat' first
      | (with_reducible exact ih0 _ _ _)
      | (with_reducible exact ih1 _ _ _ _)
      | (with_reducible exact ih2 _ _ _ _ _)
      | (with_reducible exact tenancyref13_place.mono _ _ _)
      | (with_reducible exact LeO.refl _)
      | (with_reducible exact LeO.none _)
      | (with_reducible refine LeO.ite ?_ ?_)
      | (with_reducible refine LeO.bind ?_ (fun _ => ?_))
      | exact ih0 _ _ _
      | exact ih1 _ _ _ _
      | exact ih2 _ _ _ _ _
      | exact tenancyref13_place.mono _ _ _
      | exact LeO.none _
      | refine LeO.ite ?_ ?_
      | refine LeO.bind ?_ (fun _ => ?_)
set_option maxHeartbeats 8000000 in
set_option maxRecDepth 100000 in
theorem tenancyref13_area.calls (k : Nat) (P0_ : Nat → Prop) (u9000_ : Value) (l0 : List (S47)) (a1 : ByteArray) (r1 : List (S47)) (r2 : Int) (w0 w : World) (hB : Below w0.heap.size w0 w) (ho0 : Kd.R k47 47 w w0.heap.size P0_ u9000_ l0) (h : tenancyref13_area.f k l0 a1 = some (r1, r2)) :
    Calls Try.prog 55 #[u9000_, .string a1] w fun e w' => ∃ v0_ : Value, e = .returned (.tuple #[v0_, .int .i64 r2]) ∧ Kd.R k47 47 w' w0.heap.size (fun k_ => (P0_ k_ ∨ w.heap.size ≤ k_)) v0_ r1 ∧ Below w0.heap.size w0 w' ∧ Kept w w' (fun k_ => P0_ k_) := by
  have hu47 := Try.underlying47
  have HO0 := Aside0.mk (show Kd.R k47 47 w w0.heap.size (fun k_ => (P0_ k_ ∨ w.heap.size ≤ k_)) u9000_ l0 from Kd.R_mono ho0 (fun k_ hk => (.inl hk)))
  have HK := Aside0.mk (Kept.refl w (fun k_ => P0_ k_))
  have HW0 := Aside0.mk hB.size
  have HB := Aside0.mk hB
  clear hB
  have H : (tenancyref13_area.l0 k l0 a1 0) = some (r1, r2) := h
  clear h
  have H' := Aside0.mk H
  clear H
  go_enter Try.func55, Try.ntmps55
  go_wp2
  go_loopg [0, 6] k (fun kq v0 v6 w' => ∃ (x0_1 : List (S47)) (x6_1 : Int), v6 = .int .i64 x6_1 ∧ Aside0 (tenancyref13_area.l0 kq x0_1 a1 x6_1 = some (r1, r2)) ∧ Aside0 (kq ≤ k) ∧ Aside0 (Kd.R k47 47 w' w0.heap.size (fun k_ => (P0_ k_ ∨ w.heap.size ≤ k_)) v0 x0_1) ∧ Aside0 (Kept w w' (fun k_ => P0_ k_)) ∧ Aside0 (Below w0.heap.size w0 w'))
  case atStart => exact ⟨(l0), (0), (by first | rfl | (simp; done) | (simp only [ByteArray.size_extract]; rw [Nat.min_eq_left (by omega)]; done) | (simp [*]; done)), H', ⟨Nat.le_refl _⟩, ⟨by (with_reducible repeat (first | apply Kd.R_alloc | apply Kd.R_drewN | apply Kd.R_drew)); exact HO0.out⟩, ⟨by repeat (first | (with_reducible first | exact HK.out | apply Kept.alloc | apply Kept.drewN | apply Kept.drew) | exact HK.out)⟩, ⟨by repeat (first | (with_reducible first | exact HB.out | apply below_alloc | apply pw_below_drewN | apply below_drew1) | exact HB.out)⟩⟩
  case round =>
    clear H'
    try clear p2
    obtain ⟨x0_1, x6_1, rfl, HA, HK1, HO_0, HK, HB⟩ := hrel
    cases gk with
    | zero => exact absurd HA.out (by simp [tenancyref13_area.l0])
    | succ k1 =>
      have H := HA.out
      clear HA
      simp only [tenancyref13_area.l0] at H
      have HC3 := Aside0.mk H
      clear H
      go_upto_region 2 with (fail)
      go_cut [19] (fun v19 wc => ∃ (kq : Nat) (x19_2 : Bool), v19 = .bool x19_2 ∧ Aside0 (tenancyref13_area.j1 kq x0_1 a1 x6_1 x19_2 = some (r1, r2)) ∧ Aside0 (kq ≤ k1) ∧ Aside0 (Kd.R k47 47 wc w0.heap.size (fun k_ => (P0_ k_ ∨ w.heap.size ≤ k_)) u0 x0_1) ∧ Aside0 (Kept w wc (fun k_ => P0_ k_)) ∧ Aside0 (Below w0.heap.size w0 wc))
      case first =>
        have H := HC3.out
        clear HC3
        by_cases c4 : x6_1 < (a1.size : Int)
        · rw [if_pos c4] at H
          have c4b0 : decide (x6_1 < (a1.size : Int)) = true := decide_eq_true c4
          clear c4
          (first | rw [c4b0] | (simp only [i64_w, i32_w]; rw [c4b0]) | skip)
          by_cases c5 : 0 ≤ x6_1
          · rw [if_pos c5] at H
            have c5b0 : decide (0 ≤ x6_1) = true := decide_eq_true c5
            clear c5
            have H' := Aside0.mk H
            clear H
            have p6 : 0 ≤ (x6_1 : Int) := of_decide_eq_true (by first | (with_reducible assumption) | assumption)
            have q6 : x6_1 < (a1.size : Int) := of_decide_eq_true (by first | (with_reducible assumption) | assumption)
            have hx6 := bt_at a1 x6_1
            replace p6 := eq_true p6
            replace q6 := eq_true q6
            go_wp2
            go_meet
            case rel => exact ⟨_, (((bt a1 x6_1) != 255)), (by first | rfl | (simp; done) | (simp only [ByteArray.size_extract]; rw [Nat.min_eq_left (by omega)]; done) | (simp [*]; done)), H', ⟨by have := HK1.out; first | omega | exact Nat.le_refl _⟩, ⟨by (with_reducible repeat (first | apply Kd.R_alloc | apply Kd.R_drewN | apply Kd.R_drew)); exact HO_0.out⟩, ⟨by repeat (first | (with_reducible first | exact HK.out | apply Kept.alloc | apply Kept.drewN | apply Kept.drew) | exact HK.out)⟩, ⟨by repeat (first | (with_reducible first | exact HB.out | apply below_alloc | apply pw_below_drewN | apply below_drew1) | exact HB.out)⟩⟩
          · rw [if_neg c5] at H
            exact absurd H (by simp)
        · rw [if_neg c4] at H
          have c4b0 : decide (x6_1 < (a1.size : Int)) = false := decide_eq_false c4
          clear c4
          (first | rw [c4b0] | (simp only [i64_w, i32_w]; rw [c4b0]) | skip)
          have H' := Aside0.mk H
          clear H
          go_wp2
          go_meet
          case rel => exact ⟨_, (false), (by first | rfl | (simp; done) | (simp only [ByteArray.size_extract]; rw [Nat.min_eq_left (by omega)]; done) | (simp [*]; done)), H', ⟨by have := HK1.out; first | omega | exact Nat.le_refl _⟩, ⟨by (with_reducible repeat (first | apply Kd.R_alloc | apply Kd.R_drewN | apply Kd.R_drew)); exact HO_0.out⟩, ⟨by repeat (first | (with_reducible first | exact HK.out | apply Kept.alloc | apply Kept.drewN | apply Kept.drew) | exact HK.out)⟩, ⟨by repeat (first | (with_reducible first | exact HB.out | apply below_alloc | apply pw_below_drewN | apply below_drew1) | exact HB.out)⟩⟩
      case rest =>
        clear HC3
        try clear p2
        try clear c4
        try clear c4b0
        try clear c5
        try clear c5b0
        try clear p6
        try clear q6
        try clear hx6
        try clear p2
        try clear p6
        try clear q6
        obtain ⟨kq, x19_2, rfl, HA, HJ2, HO_0, HK, HB⟩ := hcut
        cases kq with
        | zero => exact absurd HA.out (by simp [tenancyref13_area.j1])
        | succ kj2 =>
          have H := HA.out
          clear HA
          simp only [tenancyref13_area.j1] at H
          by_cases c7 : x19_2 = true
          · subst c7
            have H1 : (if 0 ≤ x6_1 then (if x6_1 < (a1.size : Int) then (if (bt a1 x6_1) = 0 then (tenancyref13_area.l0 kj2 x0_1 a1 (wrap64 (x6_1 + 1))) else (if (wrap64 (x6_1 + 1)) ≥ (a1.size : Int) then (tenancyref13_area.j2 kj2 x0_1 a1 x6_1 (bt a1 x6_1) true) else (if 0 ≤ (wrap64 (x6_1 + 1)) then (if (wrap64 (x6_1 + 1)) < (a1.size : Int) then (tenancyref13_area.j2 kj2 x0_1 a1 x6_1 (bt a1 x6_1) (decide ((wrap64 (bt a1 (wrap64 (x6_1 + 1)))) > (wrap64 ((wrap64 ((a1.size : Int) - x6_1)) - 2))))) else (none)) else (none)))) else (none)) else (none)) = some (r1, r2) := by rw [if_pos rfl] at H; exact H
            clear H
            have H := H1
            clear H1
            by_cases c8 : 0 ≤ x6_1
            · rw [if_pos c8] at H
              have c8b0 : decide (0 ≤ x6_1) = true := decide_eq_true c8
              clear c8
              by_cases c9 : x6_1 < (a1.size : Int)
              · rw [if_pos c9] at H
                have c9b0 : decide (x6_1 < (a1.size : Int)) = true := decide_eq_true c9
                clear c9
                by_cases c11 : (bt a1 x6_1) = 0
                · rw [if_pos c11] at H
                  have c11b0 : ((bt a1 x6_1) == 0) = true := beq_iff_eq.mpr c11
                  have c11b1 : ((bt a1 x6_1) != 0) = false := bne_eq_false_iff_eq.mpr c11
                  clear c11
                  have H' := Aside0.mk H
                  clear H
                  have p10 : 0 ≤ (x6_1 : Int) := of_decide_eq_true (by first | (with_reducible assumption) | assumption)
                  have q10 : x6_1 < (a1.size : Int) := of_decide_eq_true (by first | (with_reducible assumption) | assumption)
                  have hx10 := bt_at a1 x6_1
                  replace p10 := eq_true p10
                  replace q10 := eq_true q10
                  go_wp2
                  go_roundg kj2
                  case measure => have := HK1.out; have := HJ2.out; omega
                  case rel => exact ⟨(x0_1), (wrap64 (x6_1 + 1)), (by first | rfl | (simp; done) | (simp only [ByteArray.size_extract]; rw [Nat.min_eq_left (by omega)]; done) | (simp [*]; done)), H', ⟨by have := HK1.out; have := HJ2.out; omega⟩, ⟨by (with_reducible repeat (first | apply Kd.R_alloc | apply Kd.R_drewN | apply Kd.R_drew)); exact HO_0.out⟩, ⟨by repeat (first | (with_reducible first | exact HK.out | apply Kept.alloc | apply Kept.drewN | apply Kept.drew) | exact HK.out)⟩, ⟨by repeat (first | (with_reducible first | exact HB.out | apply below_alloc | apply pw_below_drewN | apply below_drew1) | exact HB.out)⟩⟩
                · rw [if_neg c11] at H
                  have c11b0 : ((bt a1 x6_1) == 0) = false := beq_eq_false_iff_ne.mpr c11
                  have c11b1 : ((bt a1 x6_1) != 0) = true := bne_iff_ne.mpr c11
                  have HC12 := Aside0.mk H
                  clear H
                  have p10 : 0 ≤ (x6_1 : Int) := of_decide_eq_true (by first | (with_reducible assumption) | assumption)
                  have q10 : x6_1 < (a1.size : Int) := of_decide_eq_true (by first | (with_reducible assumption) | assumption)
                  have hx10 := bt_at a1 x6_1
                  replace p10 := eq_true p10
                  replace q10 := eq_true q10
                  go_upto_region 6 with (fail)
                  go_cut [44] (fun v44 wc => ∃ (kq : Nat) (x44_11 : Bool), v44 = .bool x44_11 ∧ Aside0 (tenancyref13_area.j2 kq x0_1 a1 x6_1 (bt a1 x6_1) x44_11 = some (r1, r2)) ∧ Aside0 (kq ≤ kj2) ∧ Aside0 (Kd.R k47 47 wc w0.heap.size (fun k_ => (P0_ k_ ∨ w.heap.size ≤ k_)) u0 x0_1) ∧ Aside0 (Kept w wc (fun k_ => P0_ k_)) ∧ Aside0 (Below w0.heap.size w0 wc))
                  case first =>
                    have H := HC12.out
                    clear HC12
                    by_cases c13 : (wrap64 (x6_1 + 1)) ≥ (a1.size : Int)
                    · rw [if_pos c13] at H
                      have c13b0 : decide ((a1.size : Int) ≤ (wrap64 (x6_1 + 1))) = true := decide_eq_true c13
                      clear c13
                      (first | rw [c13b0] | (simp only [i64_w, i32_w]; rw [c13b0]) | skip)
                      have H' := Aside0.mk H
                      clear H
                      go_wp2
                      go_meet
                      case rel => exact ⟨_, (true), (by first | rfl | (simp; done) | (simp only [ByteArray.size_extract]; rw [Nat.min_eq_left (by omega)]; done) | (simp [*]; done)), H', ⟨by have := HK1.out; have := HJ2.out; first | omega | exact Nat.le_refl _⟩, ⟨by (with_reducible repeat (first | apply Kd.R_alloc | apply Kd.R_drewN | apply Kd.R_drew)); exact HO_0.out⟩, ⟨by repeat (first | (with_reducible first | exact HK.out | apply Kept.alloc | apply Kept.drewN | apply Kept.drew) | exact HK.out)⟩, ⟨by repeat (first | (with_reducible first | exact HB.out | apply below_alloc | apply pw_below_drewN | apply below_drew1) | exact HB.out)⟩⟩
                    · rw [if_neg c13] at H
                      have c13b0 : decide ((a1.size : Int) ≤ (wrap64 (x6_1 + 1))) = false := decide_eq_false c13
                      clear c13
                      (first | rw [c13b0] | (simp only [i64_w, i32_w]; rw [c13b0]) | skip)
                      obtain ⟨ji14, hji14⟩ : ∃ j_ : Int, (wrap64 (x6_1 + 1)) = j_ := ⟨_, rfl⟩
                      replace H : (if 0 ≤ (ji14) then (if (ji14) < (a1.size : Int) then (tenancyref13_area.j2 kj2 x0_1 a1 x6_1 (bt a1 x6_1) (decide ((wrap64 (bt a1 (ji14))) > (wrap64 ((wrap64 ((a1.size : Int) - x6_1)) - 2))))) else (none)) else (none)) = some (r1, r2) := by first | (rw [hji14] at H; exact H) | (simp only [hji14] at H ⊢; exact H)
                      (try rw [hji14] at c13b0)
                      have hji14w : (IntKind.i64.wrap (x6_1 + 1)) = ji14 := (i64_w _).trans hji14
                      by_cases c15 : 0 ≤ (ji14)
                      · rw [if_pos c15] at H
                        have c15b0 : decide (0 ≤ (ji14)) = true := decide_eq_true c15
                        clear c15
                        by_cases c16 : (ji14) < (a1.size : Int)
                        · rw [if_pos c16] at H
                          have c16b0 : decide ((ji14) < (a1.size : Int)) = true := decide_eq_true c16
                          clear c16
                          have H' := Aside0.mk H
                          clear H
                          have p17 : 0 ≤ ((ji14) : Int) := of_decide_eq_true (by first | (with_reducible assumption) | assumption)
                          have q17 : (ji14) < (a1.size : Int) := of_decide_eq_true (by first | (with_reducible assumption) | assumption)
                          have hx17 := bt_at a1 (ji14)
                          replace p17 := eq_true p17
                          replace q17 := eq_true q17
                          go_wp2
                          go_meet
                          case rel => exact ⟨_, (decide ((wrap64 (bt a1 (ji14))) > (wrap64 ((wrap64 ((a1.size : Int) - x6_1)) - 2)))), (by first | rfl | (simp; done) | (simp only [ByteArray.size_extract]; rw [Nat.min_eq_left (by omega)]; done) | (simp only [← hji14] <;> (first | rfl | simp)) | (simp [*]; done)), H', ⟨by have := HK1.out; have := HJ2.out; first | omega | exact Nat.le_refl _⟩, ⟨by (with_reducible repeat (first | apply Kd.R_alloc | apply Kd.R_drewN | apply Kd.R_drew)); exact HO_0.out⟩, ⟨by repeat (first | (with_reducible first | exact HK.out | apply Kept.alloc | apply Kept.drewN | apply Kept.drew) | exact HK.out)⟩, ⟨by repeat (first | (with_reducible first | exact HB.out | apply below_alloc | apply pw_below_drewN | apply below_drew1) | exact HB.out)⟩⟩
                        · rw [if_neg c16] at H
                          exact absurd H (by simp)
                      · rw [if_neg c15] at H
                        exact absurd H (by simp)
                  case rest =>
                    clear HC12
                    try clear c1
                    try clear p1
                    try clear q1
                    try clear hx1
                    try clear p2
                    try clear c4
                    try clear c4b0
                    try clear c5
                    try clear c5b0
                    try clear p6
                    try clear q6
                    try clear hx6
                    try clear c7
                    try clear c8
                    try clear c8b0
                    try clear c9
                    try clear c9b0
                    try clear p10
                    try clear q10
                    try clear hx10
                    try clear c11
                    try clear c11b0
                    try clear c11b1
                    try clear c13
                    try clear c13b0
                    try clear c15
                    try clear c15b0
                    try clear c16
                    try clear c16b0
                    try clear p17
                    try clear q17
                    try clear hx17
                    try clear p10
                    try clear p17
                    try clear p2
                    try clear p6
                    try clear q10
                    try clear q17
                    try clear q6
                    obtain ⟨kq, x44_11, rfl, HA, HJ11, HO_0, HK, HB⟩ := hcut
                    cases kq with
                    | zero => exact absurd HA.out (by simp [tenancyref13_area.j2])
                    | succ kj11 =>
                      have H := HA.out
                      clear HA
                      simp only [tenancyref13_area.j2] at H
                      by_cases c18 : x44_11 = true
                      · subst c18
                        have H1 : (some (([] : List (S47)), 3)) = some (r1, r2) := by rw [if_pos rfl] at H; exact H
                        clear H
                        have H := H1
                        clear H1
                        simp only [Option.some.injEq, Prod.mk.injEq] at H
                        obtain ⟨rfl, rfl⟩ := H
                        go_wp2
                        go_ret2
                        exact ⟨_, by first | rfl | (simp [errW_none, errW_some] <;> rfl) | (simp [*, errW_none, errW_some] <;> rfl), by first | exact Kd.R_nil _ _ _ _ _ | exact Kd.N_nil _ _ _ _ _ | exact Kd.V_nil _ _ _ _ _ | exact Kd.Q_nil _ _ _ _ _ | exact Kd.S_nil _ _ _ _ _, by repeat (first | (with_reducible first | exact HB.out | apply below_alloc | apply pw_below_drewN | apply below_drew1) | exact HB.out), by repeat (first | (with_reducible first | exact HK.out | apply Kept.alloc | apply Kept.drewN | apply Kept.drew) | exact HK.out)⟩
                      · replace c18 := Bool.eq_false_iff.mpr c18
                        subst c18
                        have H1 : (if 0 ≤ (wrap64 (x6_1 + 1)) then (if (wrap64 (x6_1 + 1)) < (a1.size : Int) then (if 0 ≤ (wrap64 (x6_1 + 2)) then (if (wrap64 (x6_1 + 2)) ≤ (wrap64 ((wrap64 (x6_1 + 2)) + (wrap64 (bt a1 (wrap64 (x6_1 + 1)))))) then (if (wrap64 ((wrap64 (x6_1 + 2)) + (wrap64 (bt a1 (wrap64 (x6_1 + 1)))))) ≤ (a1.size : Int) then ((tenancyref13_place.f kj11 x0_1 (bt a1 x6_1)).bind fun t313 => (if t313 < 0 then (if (x0_1.length : Int) ≥ 128 then (some (([] : List (S47)), 6)) else (if x0_1.length < 5864062014805 then (tenancyref13_area.l0 kj11 (x0_1 ++ [(⟨(bt a1 x6_1), a1.extract ((wrap64 (x6_1 + 2)) : Int).toNat ((wrap64 ((wrap64 (x6_1 + 2)) + (wrap64 (bt a1 (wrap64 (x6_1 + 1)))))) : Int).toNat⟩ : S47)]) a1 (wrap64 ((wrap64 (x6_1 + 2)) + ((a1.extract ((wrap64 (x6_1 + 2)) : Int).toNat ((wrap64 ((wrap64 (x6_1 + 2)) + (wrap64 (bt a1 (wrap64 (x6_1 + 1)))))) : Int).toNat).size : Int)))) else (none))) else (if 0 ≤ t313 then (if t313 < (x0_1.length : Int) then (if (wrap64 ((((rd_T47 x0_1 t313).f1).size : Int) + ((a1.extract ((wrap64 (x6_1 + 2)) : Int).toNat ((wrap64 ((wrap64 (x6_1 + 2)) + (wrap64 (bt a1 (wrap64 (x6_1 + 1)))))) : Int).toNat).size : Int))) > 4096 then (some (([] : List (S47)), 6)) else (if ((rd_T47 x0_1 t313).f1).size + (a1.extract ((wrap64 (x6_1 + 2)) : Int).toNat ((wrap64 ((wrap64 (x6_1 + 2)) + (wrap64 (bt a1 (wrap64 (x6_1 + 1)))))) : Int).toNat).size ≤ 9223372036854775807 then (tenancyref13_area.l0 kj11 (x0_1.set (t313 : Int).toNat (⟨(rd_T47 x0_1 t313).f0, ((rd_T47 x0_1 t313).f1) ++ (a1.extract ((wrap64 (x6_1 + 2)) : Int).toNat ((wrap64 ((wrap64 (x6_1 + 2)) + (wrap64 (bt a1 (wrap64 (x6_1 + 1)))))) : Int).toNat)⟩ : S47)) a1 (wrap64 ((wrap64 (x6_1 + 2)) + ((a1.extract ((wrap64 (x6_1 + 2)) : Int).toNat ((wrap64 ((wrap64 (x6_1 + 2)) + (wrap64 (bt a1 (wrap64 (x6_1 + 1)))))) : Int).toNat).size : Int)))) else (none))) else (none)) else (none)))) else (none)) else (none)) else (none)) else (none)) else (none)) = some (r1, r2) := by rw [if_neg (show ¬ (false = true) by decide)] at H; exact H
                        clear H
                        have H := H1
                        clear H1
                        obtain ⟨ji19, hji19⟩ : ∃ j_ : Int, (wrap64 (x6_1 + 1)) = j_ := ⟨_, rfl⟩
                        replace H : (if 0 ≤ (ji19) then (if (ji19) < (a1.size : Int) then (if 0 ≤ (wrap64 (x6_1 + 2)) then (if (wrap64 (x6_1 + 2)) ≤ (wrap64 ((wrap64 (x6_1 + 2)) + (wrap64 (bt a1 (ji19))))) then (if (wrap64 ((wrap64 (x6_1 + 2)) + (wrap64 (bt a1 (ji19))))) ≤ (a1.size : Int) then ((tenancyref13_place.f kj11 x0_1 (bt a1 x6_1)).bind fun t313 => (if t313 < 0 then (if (x0_1.length : Int) ≥ 128 then (some (([] : List (S47)), 6)) else (if x0_1.length < 5864062014805 then (tenancyref13_area.l0 kj11 (x0_1 ++ [(⟨(bt a1 x6_1), a1.extract ((wrap64 (x6_1 + 2)) : Int).toNat ((wrap64 ((wrap64 (x6_1 + 2)) + (wrap64 (bt a1 (ji19))))) : Int).toNat⟩ : S47)]) a1 (wrap64 ((wrap64 (x6_1 + 2)) + ((a1.extract ((wrap64 (x6_1 + 2)) : Int).toNat ((wrap64 ((wrap64 (x6_1 + 2)) + (wrap64 (bt a1 (ji19))))) : Int).toNat).size : Int)))) else (none))) else (if 0 ≤ t313 then (if t313 < (x0_1.length : Int) then (if (wrap64 ((((rd_T47 x0_1 t313).f1).size : Int) + ((a1.extract ((wrap64 (x6_1 + 2)) : Int).toNat ((wrap64 ((wrap64 (x6_1 + 2)) + (wrap64 (bt a1 (ji19))))) : Int).toNat).size : Int))) > 4096 then (some (([] : List (S47)), 6)) else (if ((rd_T47 x0_1 t313).f1).size + (a1.extract ((wrap64 (x6_1 + 2)) : Int).toNat ((wrap64 ((wrap64 (x6_1 + 2)) + (wrap64 (bt a1 (ji19))))) : Int).toNat).size ≤ 9223372036854775807 then (tenancyref13_area.l0 kj11 (x0_1.set (t313 : Int).toNat (⟨(rd_T47 x0_1 t313).f0, ((rd_T47 x0_1 t313).f1) ++ (a1.extract ((wrap64 (x6_1 + 2)) : Int).toNat ((wrap64 ((wrap64 (x6_1 + 2)) + (wrap64 (bt a1 (ji19))))) : Int).toNat)⟩ : S47)) a1 (wrap64 ((wrap64 (x6_1 + 2)) + ((a1.extract ((wrap64 (x6_1 + 2)) : Int).toNat ((wrap64 ((wrap64 (x6_1 + 2)) + (wrap64 (bt a1 (ji19))))) : Int).toNat).size : Int)))) else (none))) else (none)) else (none)))) else (none)) else (none)) else (none)) else (none)) else (none)) = some (r1, r2) := by first | (rw [hji19] at H; exact H) | (simp only [hji19] at H ⊢; exact H)
                        have hji19w : (IntKind.i64.wrap (x6_1 + 1)) = ji19 := (i64_w _).trans hji19
                        by_cases c20 : 0 ≤ (ji19)
                        · rw [if_pos c20] at H
                          have c20b0 : decide (0 ≤ (ji19)) = true := decide_eq_true c20
                          clear c20
                          by_cases c21 : (ji19) < (a1.size : Int)
                          · rw [if_pos c21] at H
                            have c21b0 : decide ((ji19) < (a1.size : Int)) = true := decide_eq_true c21
                            clear c21
                            obtain ⟨ji23, hji23⟩ : ∃ j_ : Int, (wrap64 (x6_1 + 2)) = j_ := ⟨_, rfl⟩
                            replace H : (if 0 ≤ (ji23) then (if (ji23) ≤ (wrap64 ((ji23) + (wrap64 (bt a1 (ji19))))) then (if (wrap64 ((ji23) + (wrap64 (bt a1 (ji19))))) ≤ (a1.size : Int) then ((tenancyref13_place.f kj11 x0_1 (bt a1 x6_1)).bind fun t313 => (if t313 < 0 then (if (x0_1.length : Int) ≥ 128 then (some (([] : List (S47)), 6)) else (if x0_1.length < 5864062014805 then (tenancyref13_area.l0 kj11 (x0_1 ++ [(⟨(bt a1 x6_1), a1.extract ((ji23) : Int).toNat ((wrap64 ((ji23) + (wrap64 (bt a1 (ji19))))) : Int).toNat⟩ : S47)]) a1 (wrap64 ((ji23) + ((a1.extract ((ji23) : Int).toNat ((wrap64 ((ji23) + (wrap64 (bt a1 (ji19))))) : Int).toNat).size : Int)))) else (none))) else (if 0 ≤ t313 then (if t313 < (x0_1.length : Int) then (if (wrap64 ((((rd_T47 x0_1 t313).f1).size : Int) + ((a1.extract ((ji23) : Int).toNat ((wrap64 ((ji23) + (wrap64 (bt a1 (ji19))))) : Int).toNat).size : Int))) > 4096 then (some (([] : List (S47)), 6)) else (if ((rd_T47 x0_1 t313).f1).size + (a1.extract ((ji23) : Int).toNat ((wrap64 ((ji23) + (wrap64 (bt a1 (ji19))))) : Int).toNat).size ≤ 9223372036854775807 then (tenancyref13_area.l0 kj11 (x0_1.set (t313 : Int).toNat (⟨(rd_T47 x0_1 t313).f0, ((rd_T47 x0_1 t313).f1) ++ (a1.extract ((ji23) : Int).toNat ((wrap64 ((ji23) + (wrap64 (bt a1 (ji19))))) : Int).toNat)⟩ : S47)) a1 (wrap64 ((ji23) + ((a1.extract ((ji23) : Int).toNat ((wrap64 ((ji23) + (wrap64 (bt a1 (ji19))))) : Int).toNat).size : Int)))) else (none))) else (none)) else (none)))) else (none)) else (none)) else (none)) = some (r1, r2) := by first | (rw [hji23] at H; exact H) | (simp only [hji23] at H ⊢; exact H)
                            have hji23w : (IntKind.i64.wrap (x6_1 + 2)) = ji23 := (i64_w _).trans hji23
                            by_cases c24 : 0 ≤ (ji23)
                            · rw [if_pos c24] at H
                              have c24b0 := eq_true c24
                              have c24b1 : decide (0 ≤ (ji23)) = true := decide_eq_true c24
                              clear c24
                              by_cases c25 : (ji23) ≤ (wrap64 ((ji23) + (wrap64 (bt a1 (ji19)))))
                              · rw [if_pos c25] at H
                                have c25b0 := eq_true c25
                                have c25b1 : decide ((ji23) ≤ (wrap64 ((ji23) + (wrap64 (bt a1 (ji19)))))) = true := decide_eq_true c25
                                by_cases c26 : (wrap64 ((ji23) + (wrap64 (bt a1 (ji19))))) ≤ (a1.size : Int)
                                · rw [if_pos c26] at H
                                  have c26b0 := eq_true c26
                                  have c26b1 : decide ((wrap64 ((ji23) + (wrap64 (bt a1 (ji19))))) ≤ (a1.size : Int)) = true := decide_eq_true c26
                                  replace H := Option.bind_eq_some_iff.mp H
                                  obtain ⟨t313, A270, H⟩ := H
                                  replace H : (if t313 < 0 then (if (x0_1.length : Int) ≥ 128 then (some (([] : List (S47)), 6)) else (if x0_1.length < 5864062014805 then (tenancyref13_area.l0 kj11 (x0_1 ++ [(⟨(bt a1 x6_1), a1.extract ((ji23) : Int).toNat ((wrap64 ((ji23) + (wrap64 (bt a1 (ji19))))) : Int).toNat⟩ : S47)]) a1 (wrap64 ((ji23) + ((a1.extract ((ji23) : Int).toNat ((wrap64 ((ji23) + (wrap64 (bt a1 (ji19))))) : Int).toNat).size : Int)))) else (none))) else (if 0 ≤ t313 then (if t313 < (x0_1.length : Int) then (if (wrap64 ((((rd_T47 x0_1 t313).f1).size : Int) + ((a1.extract ((ji23) : Int).toNat ((wrap64 ((ji23) + (wrap64 (bt a1 (ji19))))) : Int).toNat).size : Int))) > 4096 then (some (([] : List (S47)), 6)) else (if ((rd_T47 x0_1 t313).f1).size + (a1.extract ((ji23) : Int).toNat ((wrap64 ((ji23) + (wrap64 (bt a1 (ji19))))) : Int).toNat).size ≤ 9223372036854775807 then (tenancyref13_area.l0 kj11 (x0_1.set (t313 : Int).toNat (⟨(rd_T47 x0_1 t313).f0, ((rd_T47 x0_1 t313).f1) ++ (a1.extract ((ji23) : Int).toNat ((wrap64 ((ji23) + (wrap64 (bt a1 (ji19))))) : Int).toNat)⟩ : S47)) a1 (wrap64 ((ji23) + ((a1.extract ((ji23) : Int).toNat ((wrap64 ((ji23) + (wrap64 (bt a1 (ji19))))) : Int).toNat).size : Int)))) else (none))) else (none)) else (none))) = some (r1, r2) := H
                                  have A27 := Aside0.mk A270
                                  clear A270
                                  by_cases c28 : t313 < 0
                                  · rw [if_pos c28] at H
                                    have c28b0 : decide (t313 < 0) = true := decide_eq_true c28
                                    clear c28
                                    by_cases c29 : (x0_1.length : Int) ≥ 128
                                    · rw [if_pos c29] at H
                                      have c29b0 : decide (128 ≤ (x0_1.length : Int)) = true := decide_eq_true c29
                                      have c29b1 : decide (128 ≤ x0_1.length) = true := decide_eq_true (by omega)
                                      clear c29
                                      simp only [Option.some.injEq, Prod.mk.injEq] at H
                                      obtain ⟨rfl, rfl⟩ := H
                                      have p22 : 0 ≤ ((ji19) : Int) := of_decide_eq_true (by first | (with_reducible assumption) | assumption)
                                      have q22 : (ji19) < (a1.size : Int) := of_decide_eq_true (by first | (with_reducible assumption) | assumption)
                                      have hx22 := bt_at a1 (ji19)
                                      replace p22 := eq_true p22
                                      replace q22 := eq_true q22
                                      obtain ⟨Ao30, co30, eo30⟩ := Kd.R_slice HO_0.out
                                      subst eo30
                                      go_wp2_with (first | ((with_reducible refine gate_callee (f := 49) rfl ?_); refine goesL_ (some 64) rfl rfl Try.func49 (by kernel_rfl) rfl #[.slice Ao30 x0_1.length co30, .int .u8 (bt a1 x6_1)] rfl (by (try simp only [List.map_toArray, List.map_cons, List.map_nil]); first | done | rfl | (simp only [List.length_drop, List.length_take]; rfl)) ?_; (with_reducible refine (tenancyref13_place.calls kj11 _ _ x0_1 (bt a1 x6_1) t313 _ ?side1 ?side2 A27.out).mono ?_); (case side1 => repeat (first | exact (Kd.R_reads' HO_0.out).2.2 | (with_reducible refine Kd.C_alloc ?_ _) | (with_reducible refine Kd.C_drewN ?_ _) | (with_reducible refine Kd.C_drew ?_))); (case side2 => exact (Kd.R_reads' HO_0.out).2.1); rintro e w' ⟨rfl, ⟨nd, rfl⟩⟩; refine ⟨_, rfl, ?_⟩))
                                      go_ret2
                                      exact ⟨_, by first | rfl | (simp [errW_none, errW_some] <;> rfl) | (simp only [← hji19, ← hji23]; first | rfl | (simp [errW_none, errW_some] <;> rfl)) | (simp [*, errW_none, errW_some] <;> rfl), by first | exact Kd.R_nil _ _ _ _ _ | exact Kd.N_nil _ _ _ _ _ | exact Kd.V_nil _ _ _ _ _ | exact Kd.Q_nil _ _ _ _ _ | exact Kd.S_nil _ _ _ _ _, by repeat (first | (with_reducible first | exact HB.out | apply below_alloc | apply pw_below_drewN | apply below_drew1) | exact HB.out), by repeat (first | (with_reducible first | exact HK.out | apply Kept.alloc | apply Kept.drewN | apply Kept.drew) | exact HK.out)⟩
                                    · rw [if_neg c29] at H
                                      have c29b0 : decide (128 ≤ (x0_1.length : Int)) = false := decide_eq_false c29
                                      have c29b1 : decide (128 ≤ x0_1.length) = false := decide_eq_false (by omega)
                                      clear c29
                                      by_cases c31 : x0_1.length < 5864062014805
                                      · rw [if_pos c31] at H
                                        have LMc31 := Aside0.mk c31
                                        clear c31
                                        obtain ⟨y314, hy314⟩ : ∃ y_ : List (S47), y_ = (x0_1 ++ [(⟨(bt a1 x6_1), a1.extract ((ji23) : Int).toNat ((wrap64 ((ji23) + (wrap64 (bt a1 (ji19))))) : Int).toNat⟩ : S47)]) := ⟨_, rfl⟩
                                        replace H : (tenancyref13_area.l0 kj11 y314 a1 (wrap64 ((ji23) + ((a1.extract ((ji23) : Int).toNat ((wrap64 ((ji23) + (wrap64 (bt a1 (ji19))))) : Int).toNat).size : Int)))) = some (r1, r2) := by first | (rw [hy314]; with_reducible exact H) | (have H2_ := (Option.bind_some _ _).symm.trans H; rw [hy314]; with_reducible exact H2_) | (have H2_ := (Option.bind_some _ _).symm.trans H; with_reducible exact H2_) | with_reducible exact H | (rw [hy314]; exact H) | exact H
                                        have Ny314 := Aside0.mk hy314
                                        clear hy314
                                        have H' := Aside0.mk H
                                        clear H
                                        have p22 : 0 ≤ ((ji19) : Int) := of_decide_eq_true (by first | (with_reducible assumption) | assumption)
                                        have q22 : (ji19) < (a1.size : Int) := of_decide_eq_true (by first | (with_reducible assumption) | assumption)
                                        have hx22 := bt_at a1 (ji19)
                                        replace p22 := eq_true p22
                                        replace q22 := eq_true q22
                                        obtain ⟨Ao32, co32, eo32⟩ := Kd.R_slice HO_0.out
                                        subst eo32
                                        go_wp2_with (first | ((with_reducible refine gate_callee (f := 49) rfl ?_); refine goesL_ (some 64) rfl rfl Try.func49 (by kernel_rfl) rfl #[.slice Ao32 x0_1.length co32, .int .u8 (bt a1 x6_1)] rfl (by (try simp only [List.map_toArray, List.map_cons, List.map_nil]); first | done | rfl | (simp only [List.length_drop, List.length_take]; rfl)) ?_; (with_reducible refine (tenancyref13_place.calls kj11 _ _ x0_1 (bt a1 x6_1) t313 _ ?side1 ?side2 A27.out).mono ?_); (case side1 => repeat (first | exact (Kd.R_reads' HO_0.out).2.2 | (with_reducible refine Kd.C_alloc ?_ _) | (with_reducible refine Kd.C_drewN ?_ _) | (with_reducible refine Kd.C_drew ?_))); (case side2 => exact (Kd.R_reads' HO_0.out).2.1); rintro e w' ⟨rfl, ⟨nd, rfl⟩⟩; refine ⟨_, rfl, ?_⟩) | ((with_reducible refine gate_builtin (b := .append) (xs := #[.tmp 70, .tmp 74]) rfl ?_); (try (refine gate_guard (by rfl) ?_; dsimp only)); at_builtin; refine Kd.R_append k47 (w0 := w0) w0.heap.size rfl (.tmp 70) (.tmp 74) 24 47 (.agg #[(.int .u8 0), (.string ⟨#[]⟩)]) 24 rfl Try.underlying24 info47 rfl (by decide) (by omega) (.slice Ao32 x0_1.length co32) x0_1 (⟨(bt a1 x6_1), a1.extract ((ji23) : Int).toNat ((wrap64 ((ji23) + (wrap64 (bt a1 (ji19))))) : Int).toNat⟩ : S47) [.int .u8 (bt a1 x6_1), .string (a1.extract ((ji23) : Int).toNat ((wrap64 ((ji23) + (wrap64 (bt a1 (ji19))))) : Int).toNat)] (fun k_ => (P0_ k_ ∨ w.heap.size ≤ k_)) (fun _ => False) rfl rfl ?aP (fun _ hk => hk.elim) ?aF ?aO ?aB ?aS ?aL ?_; (case aP => exact k47_mkM _ _ _ (⟨(bt a1 x6_1), a1.extract ((ji23) : Int).toNat ((wrap64 ((ji23) + (wrap64 (bt a1 (ji19))))) : Int).toNat⟩ : S47)); (case aB => exact (by repeat (first | (with_reducible first | exact HB.out | apply below_alloc | apply pw_below_drewN | apply below_drew1) | exact HB.out))); (case aF => exact (fun k_ hk => (.inr (Nat.le_trans (by first | exact HK.out.1 | exact (show Kept w _ (fun k_ => P0_ k_) from by repeat (first | (with_reducible first | exact HK.out | apply Kept.alloc | apply Kept.drewN | apply Kept.drew) | exact HK.out)).1) hk)))); (case aO => exact (by (with_reducible repeat (first | apply Kd.R_alloc | apply Kd.R_drewN | apply Kd.R_drew)); exact HO_0.out)); (case aS => exact (below_size (by repeat (first | (with_reducible first | exact HB.out | apply below_alloc | apply pw_below_drewN | apply below_drew1) | exact HB.out)))); (case aL => have := LMc31.out; omega); intro v315 w33 ho hb hg hat; rw [← Ny314.out] at ho; have n0_ := Aside0.mk (hb); have n1_ := Aside0.mk (Kept.of_grown (S := (fun k_ => P0_ k_)) hg (by repeat (first | (with_reducible first | exact HK.out | apply Kept.alloc | apply Kept.drewN | apply Kept.drew) | exact HK.out)) (fun k_ e_ => (HO_0.out.1 k_ e_))); have n2_ := Aside0.mk (ho); clear HB; clear HK; clear HO_0; have HB := n0_; have HK := n1_; have HO316 := n2_; clear n0_ n1_ n2_; clear ho hb hg hat))
                                        go_roundg kj11
                                        case measure => have := HK1.out; have := HJ2.out; have := HJ11.out; omega
                                        case rel => exact ⟨(y314), (wrap64 ((ji23) + ((a1.extract ((ji23) : Int).toNat ((wrap64 ((ji23) + (wrap64 (bt a1 (ji19))))) : Int).toNat).size : Int))), (by first | rfl | (simp; done) | (simp only [ByteArray.size_extract]; rw [Nat.min_eq_left (by omega)]; done) | (simp only [← hji19, ← hji23] <;> (first | rfl | simp)) | (simp [*]; done)), H', ⟨by have := HK1.out; have := HJ2.out; have := HJ11.out; omega⟩, ⟨by (with_reducible repeat (first | apply Kd.R_alloc | apply Kd.R_drewN | apply Kd.R_drew)); exact HO316.out⟩, ⟨by repeat (first | (with_reducible first | exact HK.out | apply Kept.alloc | apply Kept.drewN | apply Kept.drew) | exact HK.out)⟩, ⟨by repeat (first | (with_reducible first | exact HB.out | apply below_alloc | apply pw_below_drewN | apply below_drew1) | exact HB.out)⟩⟩
                                      · rw [if_neg c31] at H
                                        exact absurd H (by simp)
                                  · rw [if_neg c28] at H
                                    have c28b0 : decide (t313 < 0) = false := decide_eq_false c28
                                    clear c28
                                    by_cases c34 : 0 ≤ t313
                                    · rw [if_pos c34] at H
                                      have c34b0 : decide (0 ≤ t313) = true := decide_eq_true c34
                                      clear c34
                                      by_cases c35 : t313 < (x0_1.length : Int)
                                      · rw [if_pos c35] at H
                                        have c35b0 : decide (t313 < (x0_1.length : Int)) = true := decide_eq_true c35
                                        clear c35
                                        by_cases c36 : (wrap64 ((((rd_T47 x0_1 t313).f1).size : Int) + ((a1.extract ((ji23) : Int).toNat ((wrap64 ((ji23) + (wrap64 (bt a1 (ji19))))) : Int).toNat).size : Int))) > 4096
                                        · rw [if_pos c36] at H
                                          have c36b0 : decide (4096 < (wrap64 ((((rd_T47 x0_1 t313).f1).size : Int) + ((a1.extract ((ji23) : Int).toNat ((wrap64 ((ji23) + (wrap64 (bt a1 (ji19))))) : Int).toNat).size : Int)))) = true := decide_eq_true c36
                                          (try (have c36b0s := c36b0; simp at c36b0s))
                                          (try (have c36b0m := c36b0; simp only [ByteArray.size_extract] at c36b0m; rw [Nat.min_eq_left (by omega)] at c36b0m))
                                          clear c36
                                          simp only [Option.some.injEq, Prod.mk.injEq] at H
                                          obtain ⟨rfl, rfl⟩ := H
                                          have p22 : 0 ≤ ((ji19) : Int) := of_decide_eq_true (by first | (with_reducible assumption) | assumption)
                                          have q22 : (ji19) < (a1.size : Int) := of_decide_eq_true (by first | (with_reducible assumption) | assumption)
                                          have hx22 := bt_at a1 (ji19)
                                          replace p22 := eq_true p22
                                          replace q22 := eq_true q22
                                          obtain ⟨Ao37, co37, eo37⟩ := Kd.R_slice HO_0.out
                                          subst eo37
                                          go_wp2_with (first | ((with_reducible refine gate_callee (f := 49) rfl ?_); refine goesL_ (some 64) rfl rfl Try.func49 (by kernel_rfl) rfl #[.slice Ao37 x0_1.length co37, .int .u8 (bt a1 x6_1)] rfl (by (try simp only [List.map_toArray, List.map_cons, List.map_nil]); first | done | rfl | (simp only [List.length_drop, List.length_take]; rfl)) ?_; (with_reducible refine (tenancyref13_place.calls kj11 _ _ x0_1 (bt a1 x6_1) t313 _ ?side1 ?side2 A27.out).mono ?_); (case side1 => repeat (first | exact (Kd.R_reads' HO_0.out).2.2 | (with_reducible refine Kd.C_alloc ?_ _) | (with_reducible refine Kd.C_drewN ?_ _) | (with_reducible refine Kd.C_drew ?_))); (case side2 => exact (Kd.R_reads' HO_0.out).2.1); rintro e w' ⟨rfl, ⟨nd, rfl⟩⟩; refine ⟨_, rfl, ?_⟩; have p317 : 0 ≤ (t313 : Int) := of_decide_eq_true (by first | (with_reducible assumption) | assumption); have q317 : t313 < (x0_1.length : Int) := of_decide_eq_true (by first | (with_reducible assumption) | assumption); obtain ⟨ad317, e317, hx317_0, hx317_1⟩ := at_T47 (Kd.R_reads' HO_0.out).2.2 t313 p317 q317; cases e317; replace p317 := eq_true p317; replace q317 := eq_true q317))
                                          go_ret2
                                          exact ⟨_, by first | rfl | (simp [errW_none, errW_some] <;> rfl) | (simp only [← hji19, ← hji23]; first | rfl | (simp [errW_none, errW_some] <;> rfl)) | (simp [*, errW_none, errW_some] <;> rfl), by first | exact Kd.R_nil _ _ _ _ _ | exact Kd.N_nil _ _ _ _ _ | exact Kd.V_nil _ _ _ _ _ | exact Kd.Q_nil _ _ _ _ _ | exact Kd.S_nil _ _ _ _ _, by repeat (first | (with_reducible first | exact HB.out | apply below_alloc | apply pw_below_drewN | apply below_drew1) | exact HB.out), by repeat (first | (with_reducible first | exact HK.out | apply Kept.alloc | apply Kept.drewN | apply Kept.drew) | exact HK.out)⟩
                                        · rw [if_neg c36] at H
                                          have c36b0 : decide (4096 < (wrap64 ((((rd_T47 x0_1 t313).f1).size : Int) + ((a1.extract ((ji23) : Int).toNat ((wrap64 ((ji23) + (wrap64 (bt a1 (ji19))))) : Int).toNat).size : Int)))) = false := decide_eq_false c36
                                          (try (have c36b0s := c36b0; simp at c36b0s))
                                          (try (have c36b0m := c36b0; simp only [ByteArray.size_extract] at c36b0m; rw [Nat.min_eq_left (by omega)] at c36b0m))
                                          clear c36
                                          by_cases c38 : ((rd_T47 x0_1 t313).f1).size + (a1.extract ((ji23) : Int).toNat ((wrap64 ((ji23) + (wrap64 (bt a1 (ji19))))) : Int).toNat).size ≤ 9223372036854775807
                                          · rw [if_pos c38] at H
                                            have c38b0 := eq_true c38
                                            have c38b1 : decide (((rd_T47 x0_1 t313).f1).size + (a1.extract ((ji23) : Int).toNat ((wrap64 ((ji23) + (wrap64 (bt a1 (ji19))))) : Int).toNat).size ≤ 9223372036854775807) = true := decide_eq_true c38
                                            (try (have c38bs := c38; simp at c38bs))
                                            (try (have c38bm := c38; simp only [ByteArray.size_extract] at c38bm; rw [Nat.min_eq_left (by omega)] at c38bm))
                                            (try (have c36b0mn := c36b0m; rw [Go.IntWalk.wrap64_in _ (by omega)] at c36b0mn))
                                            try have c38b2 : (9223372036854775807 < ((rd_T47 x0_1 t313).f1).size + (a1.extract ((ji23) : Int).toNat ((wrap64 ((ji23) + (wrap64 (bt a1 (ji19))))) : Int).toNat).size) = False := eq_false (Nat.not_lt.2 c38)
                                            obtain ⟨y319, hy319⟩ : ∃ y_ : List (S47), y_ = (x0_1.set (t313 : Int).toNat (⟨(rd_T47 x0_1 t313).f0, ((rd_T47 x0_1 t313).f1) ++ (a1.extract ((ji23) : Int).toNat ((wrap64 ((ji23) + (wrap64 (bt a1 (ji19))))) : Int).toNat)⟩ : S47)) := ⟨_, rfl⟩
                                            replace H : (tenancyref13_area.l0 kj11 y319 a1 (wrap64 ((ji23) + ((a1.extract ((ji23) : Int).toNat ((wrap64 ((ji23) + (wrap64 (bt a1 (ji19))))) : Int).toNat).size : Int)))) = some (r1, r2) := by first | (rw [hy319]; with_reducible exact H) | (have H2_ := (Option.bind_some _ _).symm.trans H; rw [hy319]; with_reducible exact H2_) | (have H2_ := (Option.bind_some _ _).symm.trans H; with_reducible exact H2_) | with_reducible exact H | (rw [hy319]; exact H) | exact H
                                            have Ny319 := Aside0.mk hy319
                                            clear hy319
                                            have H' := Aside0.mk H
                                            clear H
                                            have p22 : 0 ≤ ((ji19) : Int) := of_decide_eq_true (by first | (with_reducible assumption) | assumption)
                                            have q22 : (ji19) < (a1.size : Int) := of_decide_eq_true (by first | (with_reducible assumption) | assumption)
                                            have hx22 := bt_at a1 (ji19)
                                            replace p22 := eq_true p22
                                            replace q22 := eq_true q22
                                            obtain ⟨Ao40, co40, eo40⟩ := Kd.R_slice HO_0.out
                                            subst eo40
                                            go_wp2_with (first | ((with_reducible refine gate_callee (f := 49) rfl ?_); refine goesL_ (some 64) rfl rfl Try.func49 (by kernel_rfl) rfl #[.slice Ao40 x0_1.length co40, .int .u8 (bt a1 x6_1)] rfl (by (try simp only [List.map_toArray, List.map_cons, List.map_nil]); first | done | rfl | (simp only [List.length_drop, List.length_take]; rfl)) ?_; (with_reducible refine (tenancyref13_place.calls kj11 _ _ x0_1 (bt a1 x6_1) t313 _ ?side1 ?side2 A27.out).mono ?_); (case side1 => repeat (first | exact (Kd.R_reads' HO_0.out).2.2 | (with_reducible refine Kd.C_alloc ?_ _) | (with_reducible refine Kd.C_drewN ?_ _) | (with_reducible refine Kd.C_drew ?_))); (case side2 => exact (Kd.R_reads' HO_0.out).2.1); rintro e w' ⟨rfl, ⟨nd, rfl⟩⟩; refine ⟨_, rfl, ?_⟩; (try (rw [drewN_self wc]; generalize hq_ : World.drewN wc _ = wc; have n0_ : Aside0 (Kd.R k47 47 wc w0.heap.size (fun k_ => (P0_ k_ ∨ w.heap.size ≤ k_)) (.slice Ao40 x0_1.length co40) x0_1) := ⟨by rw [← hq_]; exact (by (with_reducible repeat (first | apply Kd.R_alloc | apply Kd.R_drewN | apply Kd.R_drew)); exact HO_0.out)⟩; have n1_ : Aside0 (Kept w wc (fun k_ => P0_ k_)) := ⟨by rw [← hq_]; exact (by repeat (first | (with_reducible first | exact HK.out | apply Kept.alloc | apply Kept.drewN | apply Kept.drew) | exact HK.out))⟩; have n2_ : Aside0 (Below w0.heap.size w0 wc) := ⟨by rw [← hq_]; exact (by repeat (first | (with_reducible first | exact HB.out | apply below_alloc | apply pw_below_drewN | apply below_drew1) | exact HB.out))⟩; clear HO_0 HK HB hq_; have HO_0 := n0_; have HK := n1_; have HB := n2_; clear n0_ n1_ n2_)); have p317 : 0 ≤ (t313 : Int) := of_decide_eq_true (by first | (with_reducible assumption) | assumption); have q317 : t313 < (x0_1.length : Int) := of_decide_eq_true (by first | (with_reducible assumption) | assumption); obtain ⟨ad317, e317, hx317_0, hx317_1⟩ := at_T47 (Kd.R_reads' HO_0.out).2.2 t313 p317 q317; cases e317; replace p317 := eq_true p317; replace q317 := eq_true q317; have p318 : 0 ≤ (t313 : Int) := of_decide_eq_true (by first | (with_reducible assumption) | assumption); have q318 : t313 < (x0_1.length : Int) := of_decide_eq_true (by first | (with_reducible assumption) | assumption); obtain ⟨ad318, e318, hx318_0, hx318_1⟩ := at_T47 (Kd.R_reads' HO_0.out).2.2 t313 p318 q318; obtain rfl : ad317 = ad318 := (by injection e318); replace p318 := eq_true p318; replace q318 := eq_true q318; have p39 : 0 ≤ (t313 : Int) := of_decide_eq_true (by first | (with_reducible assumption) | assumption); have q39 : (t313 : Int) < ((x0_1.length : Int) : Int) := of_decide_eq_true (by first | (with_reducible assumption) | assumption); obtain ⟨go39, co39, eo39, gb39, gl39, cl39, HG39⟩ := Kd.R_form HO_0.out (by omega); (first | cases eo39 | (injection eo39 with ea_ en_ ec_; (first | subst ea_ | (injection ea_ with ea_; subst ea_)); subst ec_; clear en_)); have GB39 := Aside0.mk gb39; have GG39 := Aside0.mk HG39; clear gb39 gl39 HG39; have HMgo39 := Aside0.mk (show (P0_ go39 ∨ w.heap.size ≤ go39) from (HO_0.out.1 _ rfl)); (first | simp only [add_plain] at hx317_0 | skip); (first | simp only [add_plain] at hx317_1 | skip); (first | simp only [add_plain] at hx318_0 | skip); (first | simp only [add_plain] at hx318_1 | skip); obtain ⟨ce39, hcl39, hM39, hcc39, hfr39⟩ := Kd.R_elem HO_0.out z47 (t313 : Int) p39 q39; obtain rfl := k47_openM hM39; have hx39_0 : wc.cell? ⟨go39, (t313 : Int).toNat * 2, none⟩ = some (.int .u8 ((rd_T47 x0_1 t313).f0)) := hcc39 0 _ rfl; have hx39_1 : wc.cell? ⟨go39, (t313 : Int).toNat * 2 + 1, none⟩ = some (.string ((rd_T47 x0_1 t313).f1)) := hcc39 1 _ rfl; have hf39_0 : wc.frozen? ⟨go39, (t313 : Int).toNat * 2, none⟩ = false := hfr39 0; have hf39_1 : wc.frozen? ⟨go39, (t313 : Int).toNat * 2 + 1, none⟩ = false := hfr39 1; clear hcl39 hcc39 hfr39 hM39; replace p39 := eq_true p39; replace q39 := eq_true q39; have HX41 := Aside0.mk (show Kd.R k47 47 wc w0.heap.size (fun k_ => (P0_ k_ ∨ w.heap.size ≤ k_)) (.slice (some ⟨go39, 0, none⟩) x0_1.length co40) x0_1 from (by (with_reducible repeat (first | apply Kd.R_alloc | apply Kd.R_drewN | apply Kd.R_drew)); exact HO_0.out)); obtain ⟨ce41, hcl41, hM41, hcc41, hfr41⟩ := Kd.R_elem HX41.out z47 (t313 : Int) (of_decide_eq_true (by first | (with_reducible assumption) | assumption)) (by have h_ : (t313 : Int) < ((x0_1.length : Int) : Int) := of_decide_eq_true (by first | (with_reducible assumption) | assumption); first | exact h_ | (have e_ := (Kd.R_reads' HO_0.out).1; omega) | simpa using h_); obtain rfl := k47_openM hM41; have HP41 := Kd.R_seg HX41.out (t313 : Int) (of_decide_eq_true (by first | (with_reducible assumption) | assumption)) (by have h_ : (t313 : Int) < ((x0_1.length : Int) : Int) := of_decide_eq_true (by first | (with_reducible assumption) | assumption); first | exact h_ | (have e_ := (Kd.R_reads' HO_0.out).1; omega) | simpa using h_) (seg := [.string (((rd_T47 x0_1 t313).f1) ++ (a1.extract ((ji23) : Int).toNat ((wrap64 ((ji23) + (wrap64 (bt a1 (ji19))))) : Int).toNat))]) (j := 1) hcl41 hcc41 (show 2 ≤ 2 from by decide) (x' := (⟨(rd_T47 x0_1 t313).f0, ((rd_T47 x0_1 t313).f1) ++ (a1.extract ((ji23) : Int).toNat ((wrap64 ((ji23) + (wrap64 (bt a1 (ji19))))) : Int).toNat)⟩ : S47)) (k47_mkM _ _ _ (⟨(rd_T47 x0_1 t313).f0, ((rd_T47 x0_1 t313).f1) ++ (a1.extract ((ji23) : Int).toNat ((wrap64 ((ji23) + (wrap64 (bt a1 (ji19))))) : Int).toNat)⟩ : S47) ) (fun _ hk => hk); have hx41_1 := hcc41 1 _ rfl; (try simp only [show (k47).sz = 2 from rfl, Nat.mul_one, Nat.add_zero, Int.toNat_natCast] at hx41_1); have hf41_1 := hfr41 1; (try simp only [show (k47).sz = 2 from rfl, Nat.mul_one, Nat.add_zero, Int.toNat_natCast] at hf41_1); clear hcl41 hcc41 hfr41 hM41) | ((with_reducible refine gate_store (t := 9) (p := 96) rfl ?_); refine store_event (t := 9) (p := 96) (v := ?vo_w42) (w1 := (wc.setCell ⟨go39, (t313 : Int).toNat * 2 + 1, none⟩ (.string (((rd_T47 x0_1 t313).f1) ++ (a1.extract ((ji23) : Int).toNat ((wrap64 ((ji23) + (wrap64 (bt a1 (ji19))))) : Int).toNat))))) ?hg ?ho ?hn ?hr ?_; (case ho => rfl); (case hg => rfl); (case hn => rfl); (case hr => first | (go_simp; done) | (go_simp; rfl)); intro w42 hw; have hg : wc.grownBy w42 (some go39) := (by rw [hw]; exact HP41.2); have hp_ : Kd.R k47 47 w42 w0.heap.size (fun k_ => (P0_ k_ ∨ w.heap.size ≤ k_)) (.slice (some ⟨go39, 0, none⟩) x0_1.length co40) y319 := (by rw [hw, Ny319.out]; exact HP41.1); clear HP41; have n0_ := Aside0.mk (hp_); have n1_ := Aside0.mk ((by rw [hw]; exact below_set (HB.out) GB39.out : Below w0.heap.size w0 w42)); have n2_ := Aside0.mk (Kept.of_grown (S := (fun k_ => P0_ k_)) hg (by repeat (first | (with_reducible first | exact HK.out | apply Kept.alloc | apply Kept.drewN | apply Kept.drew) | exact HK.out)) (fun k_ e_ => (HO_0.out.1 k_ e_))); clear HO_0; clear HB; clear HK; have HO_0 := n0_; have HB := n1_; have HK := n2_; clear n0_ n1_ n2_; clear hg hw hp_))
                                            go_roundg kj11
                                            case measure => have := HK1.out; have := HJ2.out; have := HJ11.out; omega
                                            case rel => exact ⟨(y319), (wrap64 ((ji23) + ((a1.extract ((ji23) : Int).toNat ((wrap64 ((ji23) + (wrap64 (bt a1 (ji19))))) : Int).toNat).size : Int))), (by first | rfl | (simp; done) | (simp only [ByteArray.size_extract]; rw [Nat.min_eq_left (by omega)]; done) | (simp only [← hji19, ← hji23] <;> (first | rfl | simp)) | (simp [*]; done)), H', ⟨by have := HK1.out; have := HJ2.out; have := HJ11.out; omega⟩, ⟨by (with_reducible repeat (first | apply Kd.R_alloc | apply Kd.R_drewN | apply Kd.R_drew)); exact HO_0.out⟩, ⟨by repeat (first | (with_reducible first | exact HK.out | apply Kept.alloc | apply Kept.drewN | apply Kept.drew) | exact HK.out)⟩, ⟨by repeat (first | (with_reducible first | exact HB.out | apply below_alloc | apply pw_below_drewN | apply below_drew1) | exact HB.out)⟩⟩
                                          · rw [if_neg c38] at H
                                            exact absurd H (by simp)
                                      · rw [if_neg c35] at H
                                        exact absurd H (by simp)
                                    · rw [if_neg c34] at H
                                      exact absurd H (by simp)
                                · rw [if_neg c26] at H
                                  exact absurd H (by simp)
                              · rw [if_neg c25] at H
                                exact absurd H (by simp)
                            · rw [if_neg c24] at H
                              exact absurd H (by simp)
                          · rw [if_neg c21] at H
                            exact absurd H (by simp)
                        · rw [if_neg c20] at H
                          exact absurd H (by simp)
              · rw [if_neg c9] at H
                exact absurd H (by simp)
            · rw [if_neg c8] at H
              exact absurd H (by simp)
          · replace c7 := Bool.eq_false_iff.mpr c7
            subst c7
            have H1 : (some (x0_1, 0)) = some (r1, r2) := by rw [if_neg (show ¬ (false = true) by decide)] at H; exact H
            clear H
            have H := H1
            clear H1
            simp only [Option.some.injEq, Prod.mk.injEq] at H
            obtain ⟨rfl, rfl⟩ := H
            go_wp2
            go_ret2
            exact ⟨_, by first | rfl | (simp [errW_none, errW_some] <;> rfl) | (simp [*, errW_none, errW_some] <;> rfl), by (with_reducible repeat (first | apply Kd.R_alloc | apply Kd.R_drewN | apply Kd.R_drew)); exact HO_0.out, by repeat (first | (with_reducible first | exact HB.out | apply below_alloc | apply pw_below_drewN | apply below_drew1) | exact HB.out), by repeat (first | (with_reducible first | exact HK.out | apply Kept.alloc | apply Kept.drewN | apply Kept.drew) | exact HK.out)⟩

/-! ### tenancyref13_Parse: function 37 -/
def tenancyref13_Parse.l0 : Nat → List ByteArray → List (S47) → Int → Option ((List (S47)) × Int)
  | 0, _, _, _ => none
  | k + 1, x0, x4, x5 => if x5 < (x0.length : Int) then (if 0 ≤ x5 then ((tenancyref13_area.f k x4 (rdOf ByteArray.empty x0 x5)).bind fun bt324 => (if bt324.2 = 0 then (tenancyref13_Parse.l0 k x0 bt324.1 (wrap64 (x5 + 1))) else (some (([] : List (S47)), bt324.2)))) else (none)) else (some (x4, 0))
def tenancyref13_Parse.f (k : Nat) (l0 : List ByteArray) : Option ((List (S47)) × Int) := tenancyref13_Parse.l0 k l0 (([] : List (S47))) 0
theorem tenancyref13_Parse.mono_l : ∀ k, (∀ y0 y1 y2, LeO (tenancyref13_Parse.l0 k y0 y1 y2) (tenancyref13_Parse.l0 (k + 1) y0 y1 y2))
  | 0 => fun _ _ _ r h => by simp [tenancyref13_Parse.l0] at h
  | k + 1 => by
    have ih0 := tenancyref13_Parse.mono_l k
    · intro y0 y1 y2
      unfold tenancyref13_Parse.l0
      repeat' first
      | (with_reducible exact ih0 _ _ _)
      | (with_reducible exact tenancyref13_area.mono _ _ _)
      | (with_reducible exact LeO.refl _)
      | (with_reducible exact LeO.none _)
      | (with_reducible refine LeO.ite ?_ ?_)
      | (with_reducible refine LeO.bind ?_ (fun _ => ?_))
      | exact ih0 _ _ _
      | exact tenancyref13_area.mono _ _ _
      | exact LeO.none _
      | refine LeO.ite ?_ ?_
      | refine LeO.bind ?_ (fun _ => ?_)
theorem tenancyref13_Parse.mono : ∀ a0 k, LeO (tenancyref13_Parse.f k a0) (tenancyref13_Parse.f (k + 1) a0) := by
  intro a0 k
  have ih0 := tenancyref13_Parse.mono_l k
  unfold tenancyref13_Parse.f
  repeat' first
      | (with_reducible exact ih0 _ _ _)
      | (with_reducible exact tenancyref13_area.mono _ _ _)
      | (with_reducible exact LeO.refl _)
      | (with_reducible exact LeO.none _)
      | (with_reducible refine LeO.ite ?_ ?_)
      | (with_reducible refine LeO.bind ?_ (fun _ => ?_))
      | exact ih0 _ _ _
      | exact tenancyref13_area.mono _ _ _
      | exact LeO.none _
      | refine LeO.ite ?_ ?_
      | refine LeO.bind ?_ (fun _ => ?_)
set_option maxHeartbeats 8000000 in
set_option maxRecDepth 100000 in
theorem tenancyref13_Parse.calls (k : Nat) (A0 : Option Addr) (c0 : Nat) (l0 : List ByteArray) (r1 : List (S47)) (r2 : Int) (w : World) (hr0 : Kd.C Kd.string w A0 l0.length l0) (hc0 : l0.length ≤ c0) (h : tenancyref13_Parse.f k l0 = some (r1, r2)) :
    Calls Try.prog 37 #[.slice A0 l0.length c0] w fun e w' => ∃ v0_ : Value, e = .returned (.tuple #[v0_, .int .i64 r2]) ∧ Kd.R k47 47 w' w.heap.size (fun _ => True) v0_ r1 ∧ Below w.heap.size w w' := by
  have HR0 := Aside0.mk hr0
  have HC0 := Aside0.mk hc0
  clear hr0 hc0
  have HB := Aside0.mk (Below.refl w.heap.size w)
  have H : (tenancyref13_Parse.l0 k l0 (([] : List (S47))) 0) = some (r1, r2) := h
  clear h
  obtain ⟨y320, hy320⟩ : ∃ y_ : List (S47), y_ = (([] : List (S47))) := ⟨_, rfl⟩
  replace H : (tenancyref13_Parse.l0 k l0 y320 0) = some (r1, r2) := by first | (rw [hy320]; with_reducible exact H) | (have H2_ := (Option.bind_some _ _).symm.trans H; rw [hy320]; with_reducible exact H2_) | (have H2_ := (Option.bind_some _ _).symm.trans H; with_reducible exact H2_) | with_reducible exact H | (rw [hy320]; exact H) | exact H
  have Ny320 := Aside0.mk hy320
  clear hy320
  have H' := Aside0.mk H
  clear H
  go_enter Try.func37, Try.ntmps37
  go_wp2_with (first | ((with_reducible refine gate_dst (N := 8) rfl ?_); refine Kd.R_lit k47 _ 47 ?hg (N := 8) ?hd (xs := ([] : List (S47))) (inner := []) (ok := fun _ => True) (okp := fun _ => True) ?hr ?hp (fun _ hk => hk) trivial (Below.refl _ _) (Nat.le_refl _) (by simp) ?_; (case hd => rfl); (case hg => rfl); (case hr => first | (go_simp; done) | (go_simp; rfl)); (case hp => exact (Reps.none _ _)); intro v321 w2 ho3 hb hg_ hnew_; clear hg_ hnew_; (first | rw [← Ny320.out] at ho3 | (simp only [Int.reduceToNat] at ho3; rw [← Ny320.out] at ho3)); have n0_ := Aside0.mk (Kd.R_lower ho3 (below_size (by repeat (first | (with_reducible first | exact HB.out | apply below_alloc | apply pw_below_drewN | apply below_drew1) | exact HB.out)))); have n1_ := Aside0.mk (below_step (by repeat (first | (with_reducible first | exact HB.out | apply below_alloc | apply pw_below_drewN | apply below_drew1) | exact HB.out)) hb); clear HB; have HO322 := n0_; have HB := n1_; clear n0_ n1_; clear hb ho3))
  go_loopg [4, 5] k (fun kq v4 v5 w' => ∃ (x4_1 : List (S47)) (x5_1 : Int), v5 = .int .i64 x5_1 ∧ Aside0 (tenancyref13_Parse.l0 kq l0 x4_1 x5_1 = some (r1, r2)) ∧ Aside0 (kq ≤ k) ∧ Aside0 (Kd.R k47 47 w' w.heap.size (fun _ => True) v4 x4_1) ∧ Aside0 (Below w.heap.size w w'))
  case atStart => exact ⟨(y320), (0), (by first | rfl | (simp; done) | (simp only [ByteArray.size_extract]; rw [Nat.min_eq_left (by omega)]; done) | (simp [*]; done)), H', ⟨Nat.le_refl _⟩, ⟨by (with_reducible repeat (first | apply Kd.R_alloc | apply Kd.R_drewN | apply Kd.R_drew)); exact HO322.out⟩, ⟨by repeat (first | (with_reducible first | exact HB.out | apply below_alloc | apply pw_below_drewN | apply below_drew1) | exact HB.out)⟩⟩
  case round =>
    clear H'
    try clear p2
    try clear c3
    obtain ⟨x4_1, x5_1, rfl, HA, HK1, HO_4, HB⟩ := hrel
    cases gk with
    | zero => exact absurd HA.out (by simp [tenancyref13_Parse.l0])
    | succ k1 =>
      have H := HA.out
      clear HA
      simp only [tenancyref13_Parse.l0] at H
      by_cases c4 : x5_1 < (l0.length : Int)
      · rw [if_pos c4] at H
        have c4b0 : decide (x5_1 < (l0.length : Int)) = true := decide_eq_true c4
        clear c4
        by_cases c5 : 0 ≤ x5_1
        · rw [if_pos c5] at H
          have c5b0 : decide (0 ≤ x5_1) = true := decide_eq_true c5
          clear c5
          replace H := Option.bind_eq_some_iff.mp H
          obtain ⟨⟨t324, t327⟩, A60, H⟩ := H
          replace H : (if t327 = 0 then (tenancyref13_Parse.l0 k1 l0 t324 (wrap64 (x5_1 + 1))) else (some (([] : List (S47)), t327))) = some (r1, r2) := H
          have A6 := Aside0.mk A60
          clear A60
          by_cases c7 : t327 = 0
          · rw [if_pos c7] at H
            have c7b0 : (t327 == 0) = true := beq_iff_eq.mpr c7
            have c7b1 : (t327 != 0) = false := bne_eq_false_iff_eq.mpr c7
            clear c7
            have H' := Aside0.mk H
            clear H
            have p323 : 0 ≤ (x5_1 : Int) := of_decide_eq_true (by first | (with_reducible assumption) | assumption)
            have q323 : x5_1 < (l0.length : Int) := of_decide_eq_true (by first | (with_reducible assumption) | assumption)
            obtain ⟨ad323, e323, hx323_0⟩ := Kd.at_string HR0.out x5_1 p323 q323
            cases e323
            replace hx323_0 := (HB.out.cell (World.block_lt_of_cell? w _ hx323_0)).trans hx323_0
            replace p323 := eq_true p323
            replace q323 := eq_true q323
            obtain ⟨Ao8, co8, eo8⟩ := Kd.R_slice HO_4.out
            subst eo8
            go_wp2_with (first | ((with_reducible refine gate_callee (f := 55) rfl ?_); refine goesL_ (some 21) rfl rfl Try.func55 (by kernel_rfl) rfl #[.slice Ao8 x4_1.length co8, .string (rdOf ByteArray.empty l0 x5_1)] rfl (by (try simp only [List.map_toArray, List.map_cons, List.map_nil]); first | done | rfl | (simp only [List.length_drop, List.length_take]; rfl)) ?_; (with_reducible refine (tenancyref13_area.calls k1 (fun k_ => some k_ = (.slice Ao8 x4_1.length co8 : Value).ownBlock) (.slice Ao8 x4_1.length co8) x4_1 (rdOf ByteArray.empty l0 x5_1) t324 t327 w _ ?side1 ?side2 A6.out).mono ?_); (case side1 => repeat (first | (with_reducible first | exact HB.out | apply below_alloc | apply pw_below_drewN | apply below_drew1) | exact HB.out)); (case side2 => exact Kd.R_tight rfl HO_4.out); rintro e w9 ⟨v325, rfl, ho0, hb, hkp⟩; refine ⟨_, rfl, ?_⟩; have n0_ := Aside0.mk (Kd.R_mono (ok' := fun k_ => True) ho0 (fun k_ hk_ => trivial)); have n1_ := Aside0.mk (hb); clear HB; clear HO_4; have HO326 := n0_; have HB := n1_; clear n0_ n1_; (try clear hb); (try clear hkp); (try clear ho0)))
            go_roundg k1
            case measure => have := HK1.out; omega
            case rel => exact ⟨(t324), (wrap64 (x5_1 + 1)), (by first | rfl | (simp; done) | (simp only [ByteArray.size_extract]; rw [Nat.min_eq_left (by omega)]; done) | (simp [*]; done)), H', ⟨by have := HK1.out; omega⟩, ⟨by (with_reducible repeat (first | apply Kd.R_alloc | apply Kd.R_drewN | apply Kd.R_drew)); exact HO326.out⟩, ⟨by repeat (first | (with_reducible first | exact HB.out | apply below_alloc | apply pw_below_drewN | apply below_drew1) | exact HB.out)⟩⟩
          · rw [if_neg c7] at H
            have c7b0 : (t327 == 0) = false := beq_eq_false_iff_ne.mpr c7
            have c7b1 : (t327 != 0) = true := bne_iff_ne.mpr c7
            simp only [Option.some.injEq, Prod.mk.injEq] at H
            obtain ⟨rfl, rfl⟩ := H
            have p323 : 0 ≤ (x5_1 : Int) := of_decide_eq_true (by first | (with_reducible assumption) | assumption)
            have q323 : x5_1 < (l0.length : Int) := of_decide_eq_true (by first | (with_reducible assumption) | assumption)
            obtain ⟨ad323, e323, hx323_0⟩ := Kd.at_string HR0.out x5_1 p323 q323
            cases e323
            replace hx323_0 := (HB.out.cell (World.block_lt_of_cell? w _ hx323_0)).trans hx323_0
            replace p323 := eq_true p323
            replace q323 := eq_true q323
            obtain ⟨Ao10, co10, eo10⟩ := Kd.R_slice HO_4.out
            subst eo10
            go_wp2_with (first | ((with_reducible refine gate_callee (f := 55) rfl ?_); refine goesL_ (some 21) rfl rfl Try.func55 (by kernel_rfl) rfl #[.slice Ao10 x4_1.length co10, .string (rdOf ByteArray.empty l0 x5_1)] rfl (by (try simp only [List.map_toArray, List.map_cons, List.map_nil]); first | done | rfl | (simp only [List.length_drop, List.length_take]; rfl)) ?_; (with_reducible refine (tenancyref13_area.calls k1 (fun k_ => some k_ = (.slice Ao10 x4_1.length co10 : Value).ownBlock) (.slice Ao10 x4_1.length co10) x4_1 (rdOf ByteArray.empty l0 x5_1) t324 t327 w _ ?side1 ?side2 A6.out).mono ?_); (case side1 => repeat (first | (with_reducible first | exact HB.out | apply below_alloc | apply pw_below_drewN | apply below_drew1) | exact HB.out)); (case side2 => exact Kd.R_tight rfl HO_4.out); rintro e w11 ⟨v325, rfl, ho0, hb, hkp⟩; refine ⟨_, rfl, ?_⟩; have n0_ := Aside0.mk (Kd.R_mono (ok' := fun k_ => True) ho0 (fun k_ hk_ => trivial)); have n1_ := Aside0.mk (hb); clear HB; clear HO_4; have HO326 := n0_; have HB := n1_; clear n0_ n1_; (try clear hb); (try clear hkp); (try clear ho0)))
            go_ret2
            exact ⟨_, by first | rfl | (simp [errW_none, errW_some] <;> rfl) | (simp [*, errW_none, errW_some] <;> rfl), by first | exact Kd.R_nil _ _ _ _ _ | exact Kd.N_nil _ _ _ _ _ | exact Kd.V_nil _ _ _ _ _ | exact Kd.Q_nil _ _ _ _ _ | exact Kd.S_nil _ _ _ _ _, by repeat (first | (with_reducible first | exact HB.out | apply below_alloc | apply pw_below_drewN | apply below_drew1) | exact HB.out)⟩
        · rw [if_neg c5] at H
          exact absurd H (by simp)
      · rw [if_neg c4] at H
        have c4b0 : decide (x5_1 < (l0.length : Int)) = false := decide_eq_false c4
        clear c4
        simp only [Option.some.injEq, Prod.mk.injEq] at H
        obtain ⟨rfl, rfl⟩ := H
        go_wp2
        go_ret2
        exact ⟨_, by first | rfl | (simp [errW_none, errW_some] <;> rfl) | (simp [*, errW_none, errW_some] <;> rfl), by (with_reducible repeat (first | apply Kd.R_alloc | apply Kd.R_drewN | apply Kd.R_drew)); exact HO_4.out, by repeat (first | (with_reducible first | exact HB.out | apply below_alloc | apply pw_below_drewN | apply below_drew1) | exact HB.out)⟩

/-! ### tenancyref13_Without: function 38 -/
def tenancyref13_Without.l0 : Nat → List (S47) → Int → List (S47) → Int → Option ((List (S47)))
  | 0, _, _, _, _ => none
  | k + 1, x0, x1, x5, x6 => if x6 < (x0.length : Int) then (if 0 ≤ x6 then (if ((rd_T47 x0 x6).f0) = x1 then (tenancyref13_Without.l0 k x0 x1 x5 (wrap64 (x6 + 1))) else (if x5.length < 5864062014805 then (tenancyref13_Without.l0 k x0 x1 (x5 ++ [(⟨(rd_T47 x0 x6).f0, (rd_T47 x0 x6).f1⟩ : S47)]) (wrap64 (x6 + 1))) else (none))) else (none)) else (some x5)
def tenancyref13_Without.f (k : Nat) (l0 : List (S47)) (a1 : Int) : Option ((List (S47))) := tenancyref13_Without.l0 k l0 a1 (([] : List (S47))) 0
theorem tenancyref13_Without.mono_l : ∀ k, (∀ y0 y1 y2 y3, LeO (tenancyref13_Without.l0 k y0 y1 y2 y3) (tenancyref13_Without.l0 (k + 1) y0 y1 y2 y3))
  | 0 => fun _ _ _ _ r h => by simp [tenancyref13_Without.l0] at h
  | k + 1 => by
    have ih0 := tenancyref13_Without.mono_l k
    · intro y0 y1 y2 y3
      unfold tenancyref13_Without.l0
      repeat' first
      | (with_reducible exact ih0 _ _ _ _)
      | (with_reducible exact LeO.refl _)
      | (with_reducible exact LeO.none _)
      | (with_reducible refine LeO.ite ?_ ?_)
      | (with_reducible refine LeO.bind ?_ (fun _ => ?_))
      | exact ih0 _ _ _ _
      | exact LeO.none _
      | refine LeO.ite ?_ ?_
      | refine LeO.bind ?_ (fun _ => ?_)
theorem tenancyref13_Without.mono : ∀ a0 a1 k, LeO (tenancyref13_Without.f k a0 a1) (tenancyref13_Without.f (k + 1) a0 a1) := by
  intro a0 a1 k
  have ih0 := tenancyref13_Without.mono_l k
  unfold tenancyref13_Without.f
  repeat' first
      | (with_reducible exact ih0 _ _ _ _)
      | (with_reducible exact LeO.refl _)
      | (with_reducible exact LeO.none _)
      | (with_reducible refine LeO.ite ?_ ?_)
      | (with_reducible refine LeO.bind ?_ (fun _ => ?_))
      | exact ih0 _ _ _ _
      | exact LeO.none _
      | refine LeO.ite ?_ ?_
      | refine LeO.bind ?_ (fun _ => ?_)
set_option maxHeartbeats 8000000 in
set_option maxRecDepth 100000 in
theorem tenancyref13_Without.calls (k : Nat) (A0 : Option Addr) (c0 : Nat) (l0 : List (S47)) (a1 : Int) (r : List (S47)) (w : World) (hr0 : Kd.C k47 w A0 l0.length l0) (hc0 : l0.length ≤ c0) (h : tenancyref13_Without.f k l0 a1 = some r) :
    Calls Try.prog 38 #[.slice A0 l0.length c0, .int .u8 a1] w fun e w' => ∃ v0_ : Value, e = .returned (v0_) ∧ Kd.R k47 47 w' w.heap.size (fun _ => True) v0_ r ∧ Below w.heap.size w w' := by
  have hu47 := Try.underlying47
  have HR0 := Aside0.mk hr0
  have HC0 := Aside0.mk hc0
  clear hr0 hc0
  have HB := Aside0.mk (Below.refl w.heap.size w)
  have H : (tenancyref13_Without.l0 k l0 a1 (([] : List (S47))) 0) = some r := h
  clear h
  obtain ⟨y328, hy328⟩ : ∃ y_ : List (S47), y_ = (([] : List (S47))) := ⟨_, rfl⟩
  replace H : (tenancyref13_Without.l0 k l0 a1 y328 0) = some r := by first | (rw [hy328]; with_reducible exact H) | (have H2_ := (Option.bind_some _ _).symm.trans H; rw [hy328]; with_reducible exact H2_) | (have H2_ := (Option.bind_some _ _).symm.trans H; with_reducible exact H2_) | with_reducible exact H | (rw [hy328]; exact H) | exact H
  have Ny328 := Aside0.mk hy328
  clear hy328
  have H' := Aside0.mk H
  clear H
  go_enter Try.func38, Try.ntmps38
  go_wp2_with (first | ((with_reducible refine gate_dst (N := 7) rfl ?_); refine Kd.R_lit k47 _ 47 ?hg (N := 7) ?hd (xs := ([] : List (S47))) (inner := []) (ok := fun _ => True) (okp := fun _ => True) ?hr ?hp (fun _ hk => hk) trivial (Below.refl _ _) (Nat.le_refl _) (by simp) ?_; (case hd => rfl); (case hg => rfl); (case hr => first | (go_simp; done) | (go_simp; rfl)); (case hp => exact (Reps.none _ _)); intro v329 w3 ho4 hb hg_ hnew_; clear hg_ hnew_; (first | rw [← Ny328.out] at ho4 | (simp only [Int.reduceToNat] at ho4; rw [← Ny328.out] at ho4)); have n0_ := Aside0.mk (Kd.R_lower ho4 (below_size (by repeat (first | (with_reducible first | exact HB.out | apply below_alloc | apply pw_below_drewN | apply below_drew1) | exact HB.out)))); have n1_ := Aside0.mk (below_step (by repeat (first | (with_reducible first | exact HB.out | apply below_alloc | apply pw_below_drewN | apply below_drew1) | exact HB.out)) hb); clear HB; have HO330 := n0_; have HB := n1_; clear n0_ n1_; clear hb ho4))
  go_loopg [5, 6] k (fun kq v5 v6 w' => ∃ (x5_1 : List (S47)) (x6_1 : Int), v6 = .int .i64 x6_1 ∧ Aside0 (tenancyref13_Without.l0 kq l0 a1 x5_1 x6_1 = some r) ∧ Aside0 (kq ≤ k) ∧ Aside0 (Kd.R k47 47 w' w.heap.size (fun _ => True) v5 x5_1) ∧ Aside0 (Below w.heap.size w w'))
  case atStart => exact ⟨(y328), (0), (by first | rfl | (simp; done) | (simp only [ByteArray.size_extract]; rw [Nat.min_eq_left (by omega)]; done) | (simp [*]; done)), H', ⟨Nat.le_refl _⟩, ⟨by (with_reducible repeat (first | apply Kd.R_alloc | apply Kd.R_drewN | apply Kd.R_drew)); exact HO330.out⟩, ⟨by repeat (first | (with_reducible first | exact HB.out | apply below_alloc | apply pw_below_drewN | apply below_drew1) | exact HB.out)⟩⟩
  case round =>
    clear H'
    try clear p2
    try clear c3
    obtain ⟨x5_1, x6_1, rfl, HA, HK1, HO_5, HB⟩ := hrel
    cases gk with
    | zero => exact absurd HA.out (by simp [tenancyref13_Without.l0])
    | succ k1 =>
      have H := HA.out
      clear HA
      simp only [tenancyref13_Without.l0] at H
      by_cases c5 : x6_1 < (l0.length : Int)
      · rw [if_pos c5] at H
        have c5b0 : decide (x6_1 < (l0.length : Int)) = true := decide_eq_true c5
        clear c5
        by_cases c6 : 0 ≤ x6_1
        · rw [if_pos c6] at H
          have c6b0 : decide (0 ≤ x6_1) = true := decide_eq_true c6
          clear c6
          by_cases c7 : ((rd_T47 l0 x6_1).f0) = a1
          · rw [if_pos c7] at H
            have c7b0 : (((rd_T47 l0 x6_1).f0) == a1) = true := beq_iff_eq.mpr c7
            have c7b1 : (((rd_T47 l0 x6_1).f0) != a1) = false := bne_eq_false_iff_eq.mpr c7
            clear c7
            have H' := Aside0.mk H
            clear H
            have p331 : 0 ≤ (x6_1 : Int) := of_decide_eq_true (by first | (with_reducible assumption) | assumption)
            have q331 : x6_1 < (l0.length : Int) := of_decide_eq_true (by first | (with_reducible assumption) | assumption)
            obtain ⟨ad331, e331, hx331_0, hx331_1⟩ := at_T47 HR0.out x6_1 p331 q331
            cases e331
            replace hx331_0 := (HB.out.cell (World.block_lt_of_cell? w _ hx331_0)).trans hx331_0
            replace hx331_1 := (HB.out.cell (World.block_lt_of_cell? w _ hx331_1)).trans hx331_1
            replace p331 := eq_true p331
            replace q331 := eq_true q331
            go_wp2
            go_roundg k1
            case measure => have := HK1.out; omega
            case rel => exact ⟨(x5_1), (wrap64 (x6_1 + 1)), (by first | rfl | (simp; done) | (simp only [ByteArray.size_extract]; rw [Nat.min_eq_left (by omega)]; done) | (simp [*]; done)), H', ⟨by have := HK1.out; omega⟩, ⟨by (with_reducible repeat (first | apply Kd.R_alloc | apply Kd.R_drewN | apply Kd.R_drew)); exact HO_5.out⟩, ⟨by repeat (first | (with_reducible first | exact HB.out | apply below_alloc | apply pw_below_drewN | apply below_drew1) | exact HB.out)⟩⟩
          · rw [if_neg c7] at H
            have c7b0 : (((rd_T47 l0 x6_1).f0) == a1) = false := beq_eq_false_iff_ne.mpr c7
            have c7b1 : (((rd_T47 l0 x6_1).f0) != a1) = true := bne_iff_ne.mpr c7
            by_cases c8 : x5_1.length < 5864062014805
            · rw [if_pos c8] at H
              have LMc8 := Aside0.mk c8
              clear c8
              obtain ⟨y333, hy333⟩ : ∃ y_ : List (S47), y_ = (x5_1 ++ [(⟨(rd_T47 l0 x6_1).f0, (rd_T47 l0 x6_1).f1⟩ : S47)]) := ⟨_, rfl⟩
              replace H : (tenancyref13_Without.l0 k1 l0 a1 y333 (wrap64 (x6_1 + 1))) = some r := by first | (rw [hy333]; with_reducible exact H) | (have H2_ := (Option.bind_some _ _).symm.trans H; rw [hy333]; with_reducible exact H2_) | (have H2_ := (Option.bind_some _ _).symm.trans H; with_reducible exact H2_) | with_reducible exact H | (rw [hy333]; exact H) | exact H
              have Ny333 := Aside0.mk hy333
              clear hy333
              have H' := Aside0.mk H
              clear H
              have p331 : 0 ≤ (x6_1 : Int) := of_decide_eq_true (by first | (with_reducible assumption) | assumption)
              have q331 : x6_1 < (l0.length : Int) := of_decide_eq_true (by first | (with_reducible assumption) | assumption)
              obtain ⟨ad331, e331, hx331_0, hx331_1⟩ := at_T47 HR0.out x6_1 p331 q331
              cases e331
              replace hx331_0 := (HB.out.cell (World.block_lt_of_cell? w _ hx331_0)).trans hx331_0
              replace hx331_1 := (HB.out.cell (World.block_lt_of_cell? w _ hx331_1)).trans hx331_1
              replace p331 := eq_true p331
              replace q331 := eq_true q331
              have p332 : 0 ≤ (x6_1 : Int) := of_decide_eq_true (by first | (with_reducible assumption) | assumption)
              have q332 : x6_1 < (l0.length : Int) := of_decide_eq_true (by first | (with_reducible assumption) | assumption)
              obtain ⟨ad332, e332, hx332_0, hx332_1⟩ := at_T47 HR0.out x6_1 p332 q332
              obtain rfl : ad331 = ad332 := (by injection e332)
              replace hx332_0 := (HB.out.cell (World.block_lt_of_cell? w _ hx332_0)).trans hx332_0
              replace hx332_1 := (HB.out.cell (World.block_lt_of_cell? w _ hx332_1)).trans hx332_1
              replace p332 := eq_true p332
              replace q332 := eq_true q332
              go_wp2_with (first | ((with_reducible refine gate_builtin (b := .append) (xs := #[.tmp 21, .tmp 26]) rfl ?_); at_builtin; refine Kd.R_append k47 (w0 := w) w.heap.size rfl (.tmp 21) (.tmp 26) 24 47 (.agg #[(.int .u8 0), (.string ⟨#[]⟩)]) 24 rfl Try.underlying24 info47 rfl (by decide) (by omega) u5 x5_1 (⟨(rd_T47 l0 x6_1).f0, (rd_T47 l0 x6_1).f1⟩ : S47) [.int .u8 ((rd_T47 l0 x6_1).f0), .string ((rd_T47 l0 x6_1).f1)] (fun _ => True) (fun _ => False) rfl rfl ?aP (fun _ hk => hk.elim) ?aF ?aO ?aB ?aS ?aL ?_; (case aP => exact k47_mkM _ _ _ (⟨(rd_T47 l0 x6_1).f0, (rd_T47 l0 x6_1).f1⟩ : S47)); (case aB => exact (by repeat (first | (with_reducible first | exact HB.out | apply below_alloc | apply pw_below_drewN | apply below_drew1) | exact HB.out))); (case aF => exact (fun _ _ => trivial)); (case aO => exact (by (with_reducible repeat (first | apply Kd.R_alloc | apply Kd.R_drewN | apply Kd.R_drew)); exact HO_5.out)); (case aS => exact (below_size (by repeat (first | (with_reducible first | exact HB.out | apply below_alloc | apply pw_below_drewN | apply below_drew1) | exact HB.out)))); (case aL => have := LMc8.out; omega); intro v334 w9 ho hb hg hat; rw [← Ny333.out] at ho; have n0_ := Aside0.mk (hb); have n1_ := Aside0.mk (ho); clear HB; clear HO_5; have HB := n0_; have HO335 := n1_; clear n0_ n1_; clear ho hb hg hat))
              go_roundg k1
              case measure => have := HK1.out; omega
              case rel => exact ⟨(y333), (wrap64 (x6_1 + 1)), (by first | rfl | (simp; done) | (simp only [ByteArray.size_extract]; rw [Nat.min_eq_left (by omega)]; done) | (simp [*]; done)), H', ⟨by have := HK1.out; omega⟩, ⟨by (with_reducible repeat (first | apply Kd.R_alloc | apply Kd.R_drewN | apply Kd.R_drew)); exact HO335.out⟩, ⟨by repeat (first | (with_reducible first | exact HB.out | apply below_alloc | apply pw_below_drewN | apply below_drew1) | exact HB.out)⟩⟩
            · rw [if_neg c8] at H
              exact absurd H (by simp)
        · rw [if_neg c6] at H
          exact absurd H (by simp)
      · rw [if_neg c5] at H
        have c5b0 : decide (x6_1 < (l0.length : Int)) = false := decide_eq_false c5
        clear c5
        obtain rfl := Option.some.inj H
        go_wp2
        go_ret
        exact ⟨_, by first | rfl | (simp [errW_none, errW_some] <;> rfl) | (simp [*, errW_none, errW_some] <;> rfl), by (with_reducible repeat (first | apply Kd.R_alloc | apply Kd.R_drewN | apply Kd.R_drew)); exact HO_5.out, by repeat (first | (with_reducible first | exact HB.out | apply below_alloc | apply pw_below_drewN | apply below_drew1) | exact HB.out)⟩

-- NOT PRINTED: function 17 (tenancyref14_Decode)

-- NOT PRINTED: function 4 (tenancylaw14_Wire4Decodes)


end Go.Proofs.Ytdhmlenmnobmfaa.X
